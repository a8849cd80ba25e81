import GoSem.Step
import Derived.Laws.World
import Derived.Laws.Sem
import Derived.Laws.Cells
import Derived.Laws.NewBlocks
import Derived.Laws.IdiomCopy
import Derived.Below
noncomputable section
namespace Go.Proofs.YtndednnianphoaaGreatDoor.Am
inductive T (α:Type) where
 |E:T α
 |N:Option α->T α->T α->T α
def T.get {α:Type}(t:T α):Nat->Option α:=
 T.rec (motive:=λ_=>Nat->Option α) (λ_=>none) (λv _ _ gl gr k=>Nat.rec (motive:=λ_=>Option α) v (λk' _=>
  Bool.rec (motive:=λ_=>Nat->Option α) gr gl (Nat.beq (Nat.mod k' (nat_lit 2)) (nat_lit 0)) (Nat.div k' (nat_lit 2))) k) t
def T.one {α:Type}(x:Option α)(fuel:Nat):Nat->T α:=
 Nat.rec (motive:=λ_=>Nat->T α) (λ_=> .E) (λ_ ih k=>Nat.rec (motive:=λ_=>T α) (T.N x .E .E) (λk' _=>
  T.rec (motive:=λ_=>T α) .E (λa b c _ _=>Bool.rec (motive:=λ_=>T α) (.N none .E (.N a b c)) (.N none (.N a b c) .E) (Nat.beq (Nat.mod k' (nat_lit 2)) (nat_lit 0))) (ih (Nat.div k' (nat_lit 2)))) k) fuel
def T.setO {α:Type}(x:Option α)(t:T α):Nat->T α:=
 T.rec (motive:=λ_=>Nat->T α) (λk=>T.one x (Nat.succ k) k) (λv l r sl sr k=>Nat.rec (motive:=λ_=>T α) (T.N x l r) (λk' _=>
  Bool.rec (motive:=λ_=>Nat->T α) (λk=>T.rec (motive:=λ_=>T α) .E (λa b c _ _=> .N v l (.N a b c)) (sr k)) (λk=>T.rec (motive:=λ_=>T α) .E (λa b c _ _=> .N v (.N a b c) r) (sl k)) (Nat.beq (Nat.mod k' (nat_lit 2)) (nat_lit 0)) (Nat.div k' (nat_lit 2))) k) t
def T.set {α:Type}(t:T α)(k:Nat)(x:α):T α:=T.setO (some x) t k
def T.del {α:Type}(t:T α)(k:Nat):T α:=T.setO none t k
def fN {β:Type}(n:Nat)(K:Nat->β):β:=Nat.rec (motive:=λ_=>β) (K (nat_lit 0)) (λm _=>K (Nat.succ m)) n
def fI {β:Type}(n:Int)(K:Int->β):β:=Int.rec (motive:=λ_=>β) (λm=>fN m λm=>K (.ofNat m)) (λm=>fN m λm=>K (.negSucc m)) n
def fS {β:Type}(s:Option Nat)(K:Option Nat->β):β:=Option.rec (motive:=λ_=>β) (K none) (λs=>K (some s)) s
def fA {β:Type}(a:Addr)(K:Addr->β):β:=Addr.rec (motive:=λ_=>β) (λb o s=>fN b λb=>fN o λo=>fS s λs=>K ⟨b,o,s⟩) a
def BR {β:Type}(v:Value)(f:IntKind->Int->β)(d:β):β:=
 Value.rec (motive_1:=λ_=>β) (motive_2:=λ_=>PUnit) (motive_3:=λ_=>PUnit) (λ_=>d) f (λ_ _=>d) (λ_ _ _=>d) (λ_=>d) (λ_=>d) (λ_ _ _=>d) (λ_=>d) (λ_=>d) (λ_ _ _ _ _=>d) d (λ_ _ _=>d) d (λ_ _=>d) (λ_ _=>d) (λ_ _=>⟨⟩) ⟨⟩ (λ_ _ _ _=>⟨⟩) v
inductive AObj where
 |loop (state:LoopState) (pending:Option Code) (fn:Nat) (n:Nat) (glob:Nat) (tmps:T Value) (params:List Nat) (assign body:Code) (defers:Nat)
 |deferred (calls:Option (List Deferred))
 |map (es:List MapEntry) (clock:Nat)
 |sit (s:ByteArray) (pos:Nat)
 |tok (used:Bool) (size:Nat)
 |old (blk:Nat) (v:Value)
inductive Cell where
 |C (blk:Nat) (v:Value)
 |O (o:AObj)
inductive Ctx where
 |no
 |cx (up:Option FrameMode) (dfs:Option (List Deferred))
structure St where
 mem:T Cell
 next:Nat
 lim:Nat
 rd:List Nat
 wr:List Nat
 cx:Ctx
inductive R (α:Type) where
 |none:R α
 |some:α->St->R α
 |pan:List PanicEntry->St->R α
def M (α:Type):Type:=St->R α
def M.pure {α:Type}(a:α):M α:=λs=> .some a s
def M.bind {α β:Type}(m:M α)(f:α->M β):M β:=λs=>R.rec (motive:=λ_=>R β) .none (λa s=>f a s) (λc s=> .pan c s) (m s)
def aA {α:Type}:M α:=λ_=> .none
def M.ofOpt {α:Type}(x:Option α):M α:=Option.rec (motive:=λ_=>M α) aA (λa=>M.pure a) x
def M.on {α β:Type}(x:Option α)(f:α->M β):M β:=Option.rec (motive:=λ_=>M β) aA f x
def aN {α:Type}(b:Bool)(x y:M α):M α:=Bool.rec (motive:=λ_=>M α) y x b
def M.chk {α:Type}(b:Bool)(x:M α):M α:=Bool.rec (motive:=λ_=>M α) aA x b
def notes (loc lim:Nat)(l:List Nat):List Nat:=Bool.rec (motive:=λ_=>List Nat) l (loc::l) (Nat.blt loc lim)
def rdC (loc:Nat):M Cell:=λs=>
 St.rec (motive:=λ_=>R Cell) (λmem next lim rd wr cx=>
  Bool.rec (motive:=λ_=>R Cell) .none (Option.rec (motive:=λ_=>R Cell) .none (λc=>R.some c (St.mk mem next lim (notes loc lim rd) wr cx)) (T.get mem loc)) (Nat.blt loc next)) s
def wrC (loc:Nat)(c:Cell):M Unit:=λs=>
 St.rec (motive:=λ_=>R Unit) (λmem next lim rd wr cx=>
  Bool.rec (motive:=λ_=>R Unit) .none (T.rec (motive:=λ_=>R Unit) .none (λa b d _ _=>R.some () (St.mk (.N a b d) next lim rd (notes loc lim wr) cx)) (T.set mem loc c)) (Nat.blt loc next)) s
def delC (loc:Nat):M Unit:=λs=>
 St.rec (motive:=λ_=>R Unit) (λmem next lim rd wr cx=>
  Bool.rec (motive:=λ_=>R Unit) .none (R.some () (St.mk (T.del mem loc) next lim rd (notes loc lim wr) cx)) (Nat.blt loc next)) s
def oldV (b:Nat)(o:AObj):Option Value:=
 match o with
 | .old blk v=>Bool.rec (motive:=λ_=>Option Value) none (some v) (Nat.beq blk b)
 |_=>none
def Pm (b:Nat)(c:Cell):Option Value:=Cell.rec (motive:=λ_=>Option Value) (λblk v=>Bool.rec (motive:=λ_=>Option Value) none (some v) (Nat.beq blk b)) (λo=>oldV b o) c
def rdV (a:Addr):M Value:=Addr.rec (motive:=λ_=>M Value) (λb o s=>Option.rec (motive:=λ_=>M Value) (M.bind (rdC (Nat.add b o)) λc=>M.ofOpt (Pm b c)) (λ_=>aA) s) a
def oneCell:Value->Bool
 | .agg _| .tuple _=>false
 |_=>true
def UO_ (b:Nat)(c:Cell):Bool:=Cell.rec (motive:=λ_=>Bool) (λblk _=>Nat.beq blk b) (λ_=>false) c
def wrV (a:Addr)(v:Value):M Unit:=
 Addr.rec (motive:=λ_=>M Unit) (λb o s=>Option.rec (motive:=λ_=>M Unit)
  (M.bind (rdC (Nat.add b o)) λc=>M.chk (UO_ b c&&oneCell v) (wrC (Nat.add b o) (.C b v))) (λ_=>aA) s) a
def layL (b:Nat)(vs:List Value):Nat->T Cell->T Cell:=
 List.rec (motive:=λ_=>Nat->T Cell->T Cell) (λ_ t=>t) (λv _ ih loc t=>fN loc λloc=>ih (Nat.succ loc) (T.set t loc (.C b v))) vs
def newL (vs:List Value):M Nat:=λs=>
 St.rec (motive:=λ_=>R Nat) (λmem next lim rd wr cx=>fN next λb=>fN (Nat.succ (Nat.add b vs.length)) λn=>R.some b (St.mk (layL b vs b mem) n lim rd wr cx)) s
def newO (o:AObj):M Nat:=λs=>
 St.rec (motive:=λ_=>R Nat) (λmem next lim rd wr cx=>fN next λb=>fN (Nat.succ b) λn=>R.some b (St.mk (T.set mem b (.O o)) n lim rd wr cx)) s
def rdL (n:Nat):Addr->M (List Value):=
 Nat.rec (motive:=λ_=>Addr->M (List Value)) (λ_=>M.pure []) (λ_ ih a=>fA a λa=>M.bind (rdV a) λv=>M.bind (ih ⟨a.block,Nat.succ a.off,a.spot⟩) λl=>M.pure (v::l)) n
def wrL (vs:List Value):Addr->M Unit:=
 List.rec (motive:=λ_=>Addr->M Unit) (λ_=>M.pure ()) (λv _ ih a=>fA a λa=>M.bind (wrV a v) λ_=>ih ⟨a.block,Nat.succ a.off,a.spot⟩) vs
def getCx:M Ctx:=λs=>St.rec (motive:=λ_=>R Ctx) (λmem next lim rd wr cx=> .some cx (St.mk mem next lim rd wr cx)) s
def putCx (c:Ctx):M Unit:=λs=>St.rec (motive:=λ_=>R Unit) (λmem next lim rd wr _=> .some () (St.mk mem next lim rd wr c)) s
structure TI where
 u:TypeDesc
 size:Nat
 agg:Bool
 zero:List Value
 bytes:Nat
structure Env where
 P:Program
 ty:T TI
 fn:T Func
 orc:T (List Value->M Value)
 ext:T (List Value->M Value)
def ti (E:Env)(t:Nat):M TI:=M.ofOpt (T.get E.ty t)
def AZ:Nat->Value->Bool
 |_, .bool _|_, .int _ _|_, .float _ _|_, .string _|_, .pointer none|_, .slice none 0 0|_, .map none|_, .chan none|_, .nilFunc|_, .nilIface=>true
 |_, .func (.func _) f c=>f.isEmpty&&c.isEmpty
 |n+1, .iface _ v=>AZ n v
 |n+1, .agg cs=>cs.toList.all (AZ n)
 |n+1, .tuple cs=>cs.toList.all (AZ n)
 |_,_=>false
def plain (v:Value):Bool:=AZ 4 v
def semP {α:Type}(P:Program)(s:Sem α):Option α:=
 Sem.rec (motive:=λ_=>Option α) (λa=>some a) (λ_ _ _ _=>none) (λ_ _ _ _ _=>none) (λ_ _ _=>none) (λ_ _ _=>none) (λ_ _ _ _=>none) (λ_ _ _=>none) (λ_ _ _=>none) (λ_ _ _ _=>none) (λ_ _ _=>none) (λ_ _ _=>none) (λ_ ih=>ih P) (λ_ _ _=>none) (λ_=>none) s
inductive Cl (α:Type) where
 |mk (f:α)
def Cl.run {α β:Type}(c:Cl (α->β))(x:α):β:=Cl.rec (motive:=λ_=>β) (λf=>f x) c
abbrev Rho:Type:=List Value
abbrev G (α:Type):Type:=Rho->T Value->Option α
def onO {α β:Type}(x:Option α)(K:α->Option β):Option β:=Option.rec (motive:=λ_=>Option β) none K x
def nth0:Rho->Option Value:=λl=>List.rec (motive:=λ_=>Option Value) none (λv _ _=>some v) l
def nthC (d:Nat):Cl (Rho->Option Value):=Nat.rec (motive:=λ_=>Cl (Rho->Option Value)) (.mk nth0)
 (λ_ ih=>Cl.rec (motive:=λ_=>Cl (Rho->Option Value)) (λg=> .mk λl=>List.rec (motive:=λ_=>Option Value) none (λ_ r _=>g r) l) ih) d
def FE (t:Nat)(ds:List Nat):Option Nat:=List.rec (motive:=λ_=>Option Nat) none (λd _ ih=>Bool.rec (motive:=λ_=>Option Nat) (Option.rec (motive:=λ_=>Option Nat) none (λn=>some (Nat.succ n)) ih) (some 0) (Nat.beq d t)) ds
def Nf (ds:List Nat)(t:Nat):Cl (G Value):=
 Option.rec (motive:=λ_=>Cl (G Value)) (.mk λ_ tm=>T.get tm t) (λd=>Cl.rec (motive:=λ_=>Cl (G Value)) (λg=> .mk λr _=>g r) (nthC d)) (FE t ds)
def Bw (ds:List Nat)(x:Operand):Cl (G Value):=
 Operand.rec (motive:=λ_=>Cl (G Value)) (λt=>Nf ds t) (λv=>Bool.rec (motive:=λ_=>Cl (G Value)) (.mk λ_ _=>none) (.mk λ_ _=>some v) (plain v)) (λ_=> .mk λ_ _=>none) (λf=> .mk λ_ _=>some (.func (.func f) #[] #[])) x
def DY (ds:List Nat)(l:List Operand):Cl (G (List Value)):=
 List.rec (motive:=λ_=>Cl (G (List Value))) (.mk λ_ _=>some []) (λx _ ih=>Cl.rec (motive:=λ_=>Cl (G (List Value))) (λg=>Cl.rec (motive:=λ_=>Cl (G (List Value))) (λh=> .mk λr tm=>onO (g r tm) λv=>onO (h r tm) λl=>some (v::l)) ih) (Bw ds x)) l
def Jl (ds:List Nat)(l:List (Nat×Operand)):Cl (G (List (Nat×Value))):=
 List.rec (motive:=λ_=>Cl (G (List (Nat×Value)))) (.mk λ_ _=>some []) (λx _ ih=>Cl.rec (motive:=λ_=>Cl (G (List (Nat×Value)))) (λg=>Cl.rec (motive:=λ_=>Cl (G (List (Nat×Value)))) (λh=> .mk λr tm=>onO (g r tm) λv=>onO (h r tm) λl=>some ((x.1,v)::l)) ih) (Bw ds x.2)) l
def Ks (ds:List Nat)(x:Option Operand):Cl (G (Option Value)):=
 Option.rec (motive:=λ_=>Cl (G (Option Value))) (.mk λ_ _=>some none) (λo=>Cl.rec (motive:=λ_=>Cl (G (Option Value))) (λg=> .mk λr tm=>onO (g r tm) λv=>some (some v)) (Bw ds o)) x
def FY (k:IntKind)(n:Int)(m:Nat)(r:Int):Int:=Bool.rec (motive:=λ_=>Int) (k.wrap n) r (Nat.ble m 9223372036854775807)
def wrap64 (n:Int):Int:=Int.rec (motive:=λ_=>Int) (λm=>FY .i64 n m (.ofNat m)) (λm=>FY .i64 n m (.negSucc m)) n
def Jk (k:IntKind)(q:Nat)(n:Int):Int:=Int.rec (motive:=λ_=>Int) (λm=> .ofNat (m%q)) (λ_=>k.wrap n) n
def JW (k:IntKind)(n:Int):Int:=
 match k with
 | .i64=>wrap64 n
 | .u32=>Jk .u32 4294967296 n
 | .u8=>Jk .u8 256 n
 | .u64=>Jk .u64 18446744073709551616 n
 |k=>k.wrap n
def refB (u:TypeDesc)(x y:Value):Option Bool:=
 match u,x,y with
 | .pointer _, .pointer none, .pointer b=>some b.isNone
 | .pointer _, .pointer (some _), .pointer none=>some false
 | .slice _, .slice none _ _, .slice b _ _=>some b.isNone
 | .slice _, .slice (some _) _ _, .slice none _ _=>some false
 | .map _ _, .map none, .map b=>some b.isNone
 | .map _ _, .map (some _), .map none=>some false
 | .func _ _ _, .nilFunc, .func _ _ _=>some false
 | .func _ _ _, .func _ _ _, .nilFunc=>some false
 | .interface _, .nilIface, .iface _ _=>some false
 | .interface _, .iface _ _, .nilIface=>some false
 | .interface _, .iface a _, .iface b _=>Bool.rec (motive:=λ_=>Option Bool) (some false) none (Nat.beq a b)
 |_,_,_=>none
def CP (E:Env)(op:BinOp)(t:Nat)(x y:Value):M Value:=
 M.bind (ti E t) λi=>M.on (refB i.u x y) λb=>match op with
 | .eql=>M.pure (.bool b)
 | .neq=>M.pure (.bool !b)
 |_=>aA
def pV (v:Value):M Value:=BR v (λk n=>fI n λn=>M.pure (.int k n)) (M.chk (plain v) (M.pure v))
def kNum (k:IntKind):Nat:=IntKind.rec (motive:=λ_=>Nat) (nat_lit 0) (nat_lit 1) (nat_lit 2) (nat_lit 3) (nat_lit 4) (nat_lit 5) (nat_lit 6) (nat_lit 7) k
def topB:Value:= .complex .f32 2 0
def isU (x:Value):Bool:=
 match x with
 | .complex _ 1 _=>true
 |_=>false
def kOf (x:Value):Option Nat:=
 match x with
 | .int k _=>some (kNum k)
 | .complex _ 1 b=>some b
 |_=>none
def Ga (op:BinOp)(a:Nat):M Value:=
 match op with
 | .add| .sub| .mul| .and| .or| .xor=>M.pure (.complex .f32 1 a)
 | .eql| .neq| .lss| .leq| .gtr| .geq=>M.pure topB
 |_=>aA
def GS (op:BinOp)(x y:Value):M Value:=M.on (kOf x) λa=>M.on (kOf y) λb=>M.chk (Nat.beq a b) (Ga op a)
def AS (E:Env)(op:BinOp)(t:Nat)(xo yo:Operand)(x y:Value):M Value:=
 aN (plain x&&plain y) (M.on (semP E.P (do eqGuard op t xo yo x y;binOp op t x y)) pV) (aN (isU x||isU y) (GS op x y) (CP E op t x y))
def ltI (a b:Int):Bool:=Int.rec (motive:=λ_=>Bool) (λm=>Int.rec (motive:=λ_=>Bool) (λn=>Nat.blt m n) (λ_=>false) b) (λm=>Int.rec (motive:=λ_=>Bool) (λ_=>true) (λn=>Nat.blt n m) b) a
def eqI (a b:Int):Bool:=Int.rec (motive:=λ_=>Bool) (λm=>Int.rec (motive:=λ_=>Bool) (λn=>Nat.beq m n) (λ_=>false) b) (λm=>Int.rec (motive:=λ_=>Bool) (λ_=>false) (λn=>Nat.beq m n) b) a
def addI (a b:Int):Int:=Int.rec (motive:=λ_=>Int) (λm=>Int.rec (motive:=λ_=>Int) (λn=> .ofNat (m+n)) (λn=> .ofNat m+ .negSucc n) b) (λm=> .negSucc m+b) a
def subI (a b:Int):Int:=Int.rec (motive:=λ_=>Int) (λm=>Int.rec (motive:=λ_=>Int) (λn=>Bool.rec (motive:=λ_=>Int) (.ofNat m- .ofNat n) (.ofNat (m-n)) (Nat.ble n m)) (λn=> .ofNat m- .negSucc n) b) (λm=> .negSucc m-b) a
def Dk (k:IntKind):Bool:=IntKind.rec (motive:=λ_=>Bool) false false false true false false false false k
def rI (n:Int)(s:St):R Value:=fI (wrap64 n) λn=> .some (.int .i64 n) s
def rB (b:Bool)(s:St):R Value:=Bool.rec (motive:=λ_=>R Value) (.some (.bool false) s) (.some (.bool true) s) b
def pB (b:Bool):M Value:=λs=>rB b s
def int2 (f:Int->Int->St->R Value)(slow:Value->Value->M Value):Value->Value->M Value:=λx y s=>
 BR x (λk a=>BR y (λk' b=>Bool.rec (motive:=λ_=>R Value) (slow x y s) (Bool.rec (motive:=λ_=>R Value) (slow x y s) (f a b s) (Dk k')) (Dk k)) (slow x y s)) (slow x y s)
def mxOf (k:IntKind):Nat:=IntKind.rec (motive:=λ_=>Nat) (nat_lit 127) (nat_lit 32767) (nat_lit 2147483647) (nat_lit 9223372036854775807) (nat_lit 255) (nat_lit 65535) (nat_lit 4294967295) (nat_lit 18446744073709551615) k
def qOf (k:IntKind):Nat:=IntKind.rec (motive:=λ_=>Nat) (nat_lit 0) (nat_lit 0) (nat_lit 0) (nat_lit 0) (nat_lit 256) (nat_lit 65536) (nat_lit 4294967296) (nat_lit 18446744073709551616) k
def btOf (k:IntKind):Nat:=IntKind.rec (motive:=λ_=>Nat) (nat_lit 8) (nat_lit 16) (nat_lit 32) (nat_lit 64) (nat_lit 8) (nat_lit 16) (nat_lit 32) (nat_lit 64) k
def mkI (k:IntKind)(r:Nat):Option Value:=fN r λr=>some (.int k (.ofNat r))
def fitI (k:IntKind)(r:Nat):Option Value:=Bool.rec (motive:=λ_=>Option Value) (Bool.rec (motive:=λ_=>Option Value) (mkI k (Nat.mod r (qOf k))) none (Nat.beq (qOf k) (nat_lit 0))) (mkI k r) (Nat.ble r (mxOf k))
def Cg (k k':IntKind)(x:Option Value):Option Value:=Bool.rec (motive:=λ_=>Option Value) none x (Nat.beq (kNum k) (kNum k'))
def sOpt (b:Bool)(x:Option Value):Option Value:=Bool.rec (motive:=λ_=>Option Value) none x b
def mkB (b:Bool):Option Value:=Bool.rec (motive:=λ_=>Option Value) (some (.bool false)) (some (.bool true)) b
abbrev BV:Type:=IntKind->IntKind->Nat->Nat->Option Value
def addK:BV:=λk k' m n=>Cg k k' (fitI k (Nat.add m n))
def mulK:BV:=λk k' m n=>Cg k k' (fitI k (Nat.mul m n))
def andK:BV:=λk k' m n=>Cg k k' (fitI k (Nat.land m n))
def orK:BV:=λk k' m n=>Cg k k' (fitI k (Nat.lor m n))
def xorK:BV:=λk k' m n=>Cg k k' (fitI k (Nat.xor m n))
def subK:BV:=λk k' m n=>Cg k k' (Bool.rec (motive:=λ_=>Option Value) (sOpt (Nat.ble (nat_lit 1) (qOf k)) (fitI k (Nat.sub (qOf k) (Nat.mod (Nat.sub n m) (qOf k))))) (fitI k (Nat.sub m n)) (Nat.ble n m))
def quoK:BV:=λk k' m n=>Cg k k' (sOpt (Nat.ble (nat_lit 1) n) (fitI k (Nat.div m n)))
def remK:BV:=λk k' m n=>Cg k k' (sOpt (Nat.ble (nat_lit 1) n) (mkI k (Nat.mod m n)))
def shlK:BV:=λk _ m n=>sOpt (Nat.ble n (btOf k)) (fitI k (Nat.shiftLeft m n))
def shrK:BV:=λk _ m n=>sOpt (Nat.ble n (btOf k)) (mkI k (Nat.shiftRight m n))
def cmpK (c:Nat->Nat->Bool):BV:=λk k' m n=>Cg k k' (mkB (c m n))
def int3 (f:BV)(slow:Value->Value->M Value):Value->Value->M Value:=λx y s=>
 BR x (λk a=>BR y (λk' b=>Int.rec (motive:=λ_=>R Value) (λm=>Int.rec (motive:=λ_=>R Value) (λn=>Option.rec (motive:=λ_=>R Value) (slow x y s) (λv=> .some v s) (f k k' m n)) (λ_=>slow x y s) b) (λ_=>slow x y s) a) (slow x y s)) (slow x y s)
def aBin (E:Env)(op:BinOp)(t:Nat)(xo yo:Operand):Cl (Value->Value->M Value):=
 match op with
 | .add=> .mk (int2 (λa b s=>rI (addI a b) s) (int3 addK (AS E .add t xo yo)))
 | .sub=> .mk (int2 (λa b s=>rI (subI a b) s) (int3 subK (AS E .sub t xo yo)))
 | .lss=> .mk (int2 (λa b s=>rB (ltI a b) s) (int3 (cmpK λm n=>Nat.blt m n) (AS E .lss t xo yo)))
 | .gtr=> .mk (int2 (λa b s=>rB (ltI b a) s) (int3 (cmpK λm n=>Nat.blt n m) (AS E .gtr t xo yo)))
 | .leq=> .mk (int2 (λa b s=>rB (!ltI b a) s) (int3 (cmpK λm n=>Nat.ble m n) (AS E .leq t xo yo)))
 | .geq=> .mk (int2 (λa b s=>rB (!ltI a b) s) (int3 (cmpK λm n=>Nat.ble n m) (AS E .geq t xo yo)))
 | .eql=> .mk (int2 (λa b s=>rB (eqI a b) s) (int3 (cmpK λm n=>Nat.beq m n) (AS E .eql t xo yo)))
 | .neq=> .mk (int2 (λa b s=>rB (!eqI a b) s) (int3 (cmpK λm n=> !Nat.beq m n) (AS E .neq t xo yo)))
 | .mul=> .mk (int3 mulK (AS E .mul t xo yo))
 | .quo=> .mk (int3 quoK (AS E .quo t xo yo))
 | .rem=> .mk (int3 remK (AS E .rem t xo yo))
 | .and=> .mk (int3 andK (AS E .and t xo yo))
 | .or=> .mk (int3 orK (AS E .or t xo yo))
 | .xor=> .mk (int3 xorK (AS E .xor t xo yo))
 | .shl=> .mk (int3 shlK (AS E .shl t xo yo))
 | .shr=> .mk (int3 shrK (AS E .shr t xo yo))
 |op=> .mk (AS E op t xo yo)
def lenOf (v:Value):M Nat:=
 match v with
 | .slice _ n _=>M.pure n
 | .string s=>M.pure s.size
 |_=>aA
def cellsOf (v:Value):List Value:=
 match v with
 | .agg cs=>cs.toList
 |v=>[v]
def Fq (E:Env)(t:Nat)(a:Addr):M Value:=
 M.bind (ti E t) λi=>aN i.agg (M.bind (rdL i.size a) λl=>M.pure (.agg l.toArray)) (rdV a)
def GR (E:Env)(t:Nat)(a:Addr)(v:Value):M Unit:=
 M.bind (ti E t) λi=>M.chk (Nat.beq (cellsOf v).length i.size) (wrL (cellsOf v) a)
def asA (v:Value):M Addr:=
 match v with
 | .pointer (some a)=>M.pure a
 |_=>aA
def capU:Nat:=18446744073709551616
def bnd (o:Option Value)(top dflt:Nat):M Nat:=
 match o with
 |none=>M.pure dflt
 |some (.int _ (.ofNat n))=>M.chk (Nat.ble n top) (M.pure n)
 |some _=>aA
def addA (a:Addr)(n:Nat):Addr:=⟨a.block,Nat.add a.off n,a.spot⟩
def ptrA (a:Addr):M Value:=fA a λa=>M.pure (.pointer (some a))
def pSl (a:Addr)(l c:Nat):M Value:=fA a λa=>fN l λl=>fN c λc=>M.pure (.slice (some a) l c)
def pN (n:Nat):M Value:=fN n λn=>M.pure (.int .i64 (.ofNat n))
def FM (a:Addr)(n size:Nat)(lo hi:Option Value):M Value:=
 M.chk (Nat.blt n capU) <| M.bind (bnd hi n n) λh=>M.bind (bnd lo h 0) λl=>pSl (Bool.rec (motive:=λ_=>Addr) (addA a (Nat.mul l size)) a (Nat.beq n l)) (Nat.sub h l) (Nat.sub n l)
def BH (c size:Nat):Bool:=Bool.rec (motive:=λ_=>Bool) (Nat.beq (Nat.mod (Nat.div c capU) 1024) size) true (Nat.beq (Nat.div c capU) 0)
def slSl (a:Addr)(len c size:Nat)(lo hi:Option Value):M Value:=
 M.bind (bnd hi (Nat.mod c capU) len) λh=>M.bind (bnd lo h 0) λl=>M.chk (BH c size) <| pSl (Bool.rec (motive:=λ_=>Addr) a (addA a (Nat.mul l size)) (Nat.blt l (Nat.mod c capU))) (Nat.sub h l) (Nat.sub c l)
def FV (s:ByteArray)(lo hi:Option Value):M Value:=
 M.bind (bnd hi s.size s.size) λh=>M.bind (bnd lo h 0) λl=>M.pure (.string (s.extract l h))
def Bz (E:Env)(t:Nat)(x:Value)(lo hi:Option Value):M Value:=
 M.bind (ti E t) λi=>match i.u,x with
 | .array n e, .pointer (some a)=>M.bind (ti E e) λie=>FM a n ie.size lo hi
 | .slice e, .slice (some a) len c=>M.bind (ti E e) λie=>slSl a len c ie.size lo hi
 | .slice e, .slice none 0 0=>M.bind (ti E e) λ_=>M.bind (bnd hi 0 0) λh=>M.bind (bnd lo h 0) λ_=>M.pure (.slice none 0 0)
 | .string, .string s=>FV s lo hi
 |_,_=>aA
def rep {α:Type}(n:Nat)(l:List α):List α:=Nat.rec (motive:=λ_=>List α) [] (λ_ r=>l++r) n
def Co (s:List UInt8):List Value:=s.map λb=> .int .u8 b.toNat
def srcL (size:Nat)(x:Value)(k:Nat):M (List Value):=
 match x with
 | .slice (some a) _ _=>rdL (k*size) a
 | .slice none 0 0=>M.pure []
 | .string s=>M.pure (Co (s.data.toList.take k))
 |_=>aA
def Dc (u:TypeDesc):Bool:=match u with| .int _=>true|_=>false
def appN (zeros:Bool)(bytes:Nat)(x:Value):M Nat:=
 match zeros,x with
 |false, .slice _ n _=>M.pure n
 |false, .string s=>M.pure s.size
 |true, .int .i64 (.ofNat n)=>M.chk (Nat.ble (n*(bytes+1)) 16777216) (M.pure n)
 |_,_=>aA
def appL (zeros:Bool)(ie:TI)(x:Value)(n:Nat):M (List Value):=aN zeros (M.pure (rep n ie.zero)) (srcL ie.size x n)
def oldL (size:Nat)(base:Option Addr)(len:Nat):M (List Value):=
 match base with
 |some a=>rdL (len*size) a
 |none=>M.pure []
def Cm (n:Nat):Nat->M Unit:=
 Nat.rec (motive:=λ_=>Nat->M Unit) (λ_=>M.pure ()) (λ_ ih l=>M.bind (delC l) λ_=>ih (l+1)) n
def E3 (size:Nat)(base:Option Addr)(lb:Nat):M Unit:=
 match base with
 |some a=>Cm (Nat.mul lb size) (Nat.add a.block a.off)
 |none=>M.pure ()
def C5 (z:List Value):Bool:=match z with|[.int .u8 _]=>true|_=>false
def flg (size f:Nat)(g:Bool):Nat:=Bool.rec (motive:=λ_=>Nat) size (Nat.add size 1024) (Nat.beq f 1&&g)
def CW (size:Nat)(base:Option Addr)(lb tok:Nat):M Nat:=
 aN (Nat.beq tok 0) (M.pure 1) (M.bind (rdC (Nat.div tok 1024)) λc=>match c with
  | .O (.tok false sz)=>M.chk (Nat.beq (Nat.mod sz 1024) size&&Nat.beq (Nat.mod tok 1024) size) (M.bind (wrC (Nat.div tok 1024) (.O (.tok true size))) λ_=>M.bind (E3 size base lb) λ_=>fN (Nat.div sz 1024) λf=>M.pure f)
  |_=>aA)
def grow (size bytes:Nat)(g:Bool)(base:Option Addr)(len c n:Nat)(news:List Value):M Value:=
 M.chk (Nat.ble ((len+n)*(bytes+1)) 16777216&&Nat.blt 0 size&&Nat.blt size 1024&&(Nat.blt 0 (c%capU)||Nat.beq c 0)&&Nat.beq news.length (n*size)&&news.all oneCell)
  (M.bind (oldL size base (Bool.rec (motive:=λ_=>Nat) (Nat.mod c capU) len (Nat.beq (Nat.div c capU) 0))) λold=>M.bind (CW size base (Nat.mod c capU) (Nat.div c capU)) λf=>
   M.bind (newL (old.take (Nat.mul len size)++news)) λb=>
   fN (Nat.add b (Nat.mul (Nat.add len n) size)) λm=>fN (flg size f g) λq=>M.bind (wrC m (.O (.tok false q))) λ_=>pSl ⟨b,0,none⟩ (Nat.add len n) (Nat.add (Nat.mul capU (Nat.add (Nat.mul m 1024) size)) (Nat.add len n)))
def EG (size:Nat)(base:Option Addr)(len c n:Nat)(news:List Value):M Value:=
 match base with
 |some a=>M.bind (wrL news (addA a (Nat.mul len size))) λ_=>pSl a (Nat.add len n) c
 |none=>M.pure (.slice base len c)
def BS (E:Env)(t t2:Nat)(s x:Value):M Value:=
 M.bind (ti E t) λi=>M.bind (ti E t2) λi2=>match i.u,s with
 | .slice e, .slice base len c=>M.bind (ti E e) λie=>M.bind (appN (Dc i2.u) ie.bytes x) λn=>M.bind (appL (Dc i2.u) ie x n) λnews=>
  aN (Nat.ble (Nat.add len n) (Nat.mod c capU)) (EG ie.size base len c n news) (grow ie.size ie.bytes (C5 ie.zero) base len c n news)
 |_,_=>aA
def fBs {β:Type}(l:List UInt8)(K:List Value->β):β:=List.rec (motive:=λ_=>(List Value->β)->β) (λK=>K []) (λb _ ih K=>fN b.toNat λn=>ih λvs=>K (.int .u8 (.ofNat n)::vs)) l K
def rowN (vs:List Value)(n:Nat):M Value:=
 M.chk (Nat.blt n capU) (M.bind (newL vs) λb=>M.bind (wrC (Nat.add b (Nat.mul n 1)) (.O (.tok false 1))) λ_=>pSl ⟨b,0,none⟩ n (Nat.add (Nat.mul capU (Nat.add (Nat.mul (Nat.add b (Nat.mul n 1)) 1024) 1)) n))
def FN (off:Nat)(vs cells:List Value):List Value:=cells.take off++(vs++cells.drop (off+vs.length))
def CK (place:Nat->Option (Nat×Nat))(ps:List (Nat×Value)):List Value->Option (List Value):=
 List.rec (motive:=λ_=>List Value->Option (List Value)) (λc=>some c)
  (λp _ ih c=>match place p.1 with
   |none=>none
   |some (off,size)=>Bool.rec (motive:=λ_=>Option (List Value)) none (ih (FN off (cellsOf p.2) c)) (Nat.beq (cellsOf p.2).length size&&Nat.ble (off+(cellsOf p.2).length) c.length)) ps
def Ht (E:Env)(fs:Array Field)(k:Nat):Option (Nat×Nat):=
 match fs.toList[k]? with
 |some f=>(match T.get E.ty f.type with|some fi=>some (f.offset,fi.size)|none=>none)
 |none=>none
def BP (E:Env)(t:Nat)(ps:List (Nat×Value)):M Value:=
 M.bind (ti E t) λi=>match i.u with
 | .struct fs=>M.bind (M.ofOpt (CK (Ht E fs) ps i.zero)) λr=>M.pure (.agg r.toArray)
 | .array _ e=>M.bind (ti E e) λie=>M.bind (M.ofOpt (CK (λk=>some (k*ie.size,ie.size)) ps i.zero)) λr=>M.pure (.agg r.toArray)
 |_=>aA
def BY (E:Env)(t len:Nat)(ps:List (Nat×Value)):M Value:=
 M.bind (ti E t) λi=>match i.u with
 | .slice e=>M.bind (ti E e) λie=>M.chk (Nat.ble (len*ie.size) 16777216&&Nat.blt len capU)
  (M.bind (M.ofOpt (CK (λk=>some (k*ie.size,ie.size)) ps (rep len ie.zero))) λr=>M.bind (newL r) λb=>M.bind (wrC (Nat.add b r.length) (.O (.tok true (Nat.add 1024 r.length)))) λ_=>M.pure (.slice (some ⟨b,0,none⟩) len len))
 |_=>aA
def EE (E:Env)(t:Nat)(cs:List Value)(off:Nat):M Value:=
 M.bind (ti E t) λi=>aN i.agg (M.pure (.agg ((cs.drop off).take i.size).toArray)) (M.ofOpt (cs[off]?))
def ER (E:Env)(t:Nat)(d:Option Addr)(n:Nat)(x:Value):M Value:=
 M.bind (ti E t) λi=>match i.u with
 | .slice e=>M.bind (ti E e) λie=>M.bind (lenOf x) λm=>match d with
  |none=>pN 0
  |some d=>fN (Nat.min n m) λk=>M.bind (srcL ie.size x k) λl=>M.bind (wrL l d) λ_=>pN k
 |_=>aA
def mapAt (l:Nat):M (List MapEntry×Nat):=M.bind (rdC l) λc=>match c with
 | .O (.map es n)=>M.pure (es,n)
 |_=>aA
def D5 (m:Value):M Value:=
 match m with
 | .map none=>pN 0
 | .map (some l)=>M.bind (mapAt l) λp=>pN p.1.length
 |_=>aA
def aLen (E:Env)(t:Nat)(x:Value):M Value:=
 M.bind (ti E t) λi=>match i.u,x with
 | .slice _, .slice _ n _=>pN n
 | .string, .string s=>pN s.size
 | .map _ _,x=>D5 x
 | .slice _, .complex _ 3 _=>M.pure (.complex .f32 1 3)
 | .slice _, .complex _ 5 _=>M.pure (.complex .f32 1 3)
 | .string, .complex _ 4 _=>M.pure (.complex .f32 1 3)
 |_,_=>aA
def aCap (E:Env)(t:Nat)(x:Value):M Value:=
 M.bind (ti E t) λi=>match i.u,x with
 | .slice _, .slice _ _ c=>M.chk (Nat.blt c capU) (pN c)
 |_,_=>aA
def Gb (E:Env)(t:Nat)(x:Value):M Value:=
 M.bind (ti E t) λi=>match i.u,x with
 | .slice e, .slice (some a) n _=>M.bind (ti E e) λie=>M.chk (Nat.blt 0 ie.size&&Nat.ble (n*ie.size) 16777216) (M.bind (wrL (rep n ie.zero) a) λ_=>M.pure undef)
 | .slice _, .slice none 0 0=>M.pure undef
 |_,_=>aA
def zeroV (i:TI):M Value:=aN i.agg (M.pure (.agg i.zero.toArray)) (M.ofOpt i.zero.head?)
def CT (es:List MapEntry):List MapEntry:=es.map λe=>{e with val:=undef}
def Ca (E:Env)(empty:Bool)(kt:Nat)(k:Value)(es:List MapEntry):M (Option Nat):=
 M.chk (plain k) (M.on (semP E.P (do Instr.checkKey empty 10000 kt k;Instr.findKey kt k (CT es))) λr=>M.pure (r.map (·.1)))
def Dv (commaOk:Bool)(v:Value)(ok:Bool):M Value:=Bool.rec (motive:=λ_=>M Value) (M.pure v) (M.pure (.tuple #[v, .bool ok])) commaOk
def zeroOf (E:Env)(t:Nat):M Value:=M.bind (ti E t) zeroV
def LO (E:Env)(kt et:Nat)(k:Value)(c:Bool):M Value:=M.bind (Ca E true kt k []) λr=>match r with
 |none=>M.bind (zeroOf E et) λz=>Dv c z false
 |some _=>aA
def Du (E:Env)(kt et:Nat)(k:Value)(c:Bool)(es:List MapEntry):M Value:=M.bind (Ca E es.isEmpty kt k es) λr=>match r with
 |some j=>M.on es[j]? λe=>Dv c e.val true
 |none=>M.bind (zeroOf E et) λz=>Dv c z false
def mapT (E:Env)(t:Nat):M (Nat×Nat):=M.bind (ti E t) λi=>match i.u with
 | .map kt et=>M.pure (kt,et)
 |_=>aA
def Cs (E:Env)(t:Nat)(c:Bool)(x k:Value):M Value:=M.bind (mapT E t) λke=>match x with
 | .map none=>LO E ke.1 ke.2 k c
 | .map (some l)=>M.bind (mapAt l) λp=>Du E ke.1 ke.2 k c p.1
 |_=>aA
def putE (E:Env)(kt:Nat)(k x:Value)(l:Nat)(p:List MapEntry×Nat):M Unit:=M.bind (Ca E false kt k p.1) λr=>match r with
 |some j=>M.on p.1[j]? λe=>M.chk (Instr.sameBits 10000 e.key k) (wrC l (.O (.map (p.1.set j ⟨k,x,e.born⟩) p.2)))
 |none=>wrC l (.O (.map (p.1++[⟨k,x,p.2⟩]) (p.2+1)))
def DC (E:Env)(t:Nat)(m k x:Value):M Value:=M.bind (mapT E t) λke=>match m with
 | .map (some l)=>M.bind (mapAt l) λp=>M.bind (putE E ke.1 k x l p) λ_=>M.pure undef
 |_=>aA
def entE (E:Env)(kt et:Nat)(k:Value)(l:Nat)(p:List MapEntry×Nat):M Value:=M.bind (Ca E false kt k p.1) λr=>match r with
 |some j=>M.on p.1[j]? λe=>M.chk (Instr.sameBits 10000 e.key k) (M.bind (wrC l (.O (.map (p.1.set j ⟨k,e.val,e.born⟩) p.2))) λ_=>M.pure (.tuple #[e.val, .int .i64 (.ofNat e.born)]))
 |none=>M.bind (zeroOf E et) λz=>M.bind (wrC l (.O (.map (p.1++[⟨k,z,p.2⟩]) (p.2+1)))) λ_=>M.pure (.tuple #[z, .int .i64 (.ofNat p.2)])
def Hn (E:Env)(t:Nat)(m k:Value):M Value:=M.bind (mapT E t) λke=>match m with
 | .map (some l)=>M.bind (mapAt l) λp=>entE E ke.1 ke.2 k l p
 |_=>aA
def NQ_ (b:Int)(es:List MapEntry):Option Nat:=es.findIdx? λe=>(e.born:Int)==b
def D4 (m st x:Value):M Value:=
 match m,st with
 | .map (some l), .int _ b=>M.bind (mapAt l) λp=>M.on (NQ_ b p.1) λj=>M.on p.1[j]? λe=>M.bind (wrC l (.O (.map (p.1.set j ⟨e.key,x,e.born⟩) p.2))) λ_=>M.pure undef
 |_,_=>aA
def De:M Value:=M.bind (newO (.map [] 0)) λb=>M.pure (.map (some b))
def Fh (E:Env)(t:Nat)(x:Value):M Value:=M.bind (mapT E t) λ_=>BR x (λ_ _=>De) aA
def kDel (E:Env)(t:Nat)(m k:Value):M Value:=M.bind (mapT E t) λke=>match m with
 | .map none=>M.bind (Ca E true ke.1 k []) λ_=>M.pure undef
 | .map (some l)=>M.bind (mapAt l) λp=>M.bind (Ca E p.1.isEmpty ke.1 k p.1) λr=>(match r with
  |some j=>M.bind (wrC l (.O (.map (p.1.eraseIdx j) p.2))) λ_=>M.pure undef
  |none=>M.bind (wrC l (.O (.map p.1 p.2))) λ_=>M.pure undef)
 |_=>aA
def A8 (E:Env)(b:Builtin)(ts:List Nat)(args:List Value):M Value:=
 match b,ts,args with
 | .len,t::_,[x]=>aLen E t x
 | .cap,t::_,[x]=>aCap E t x
 | .append,t::t2::_,[s,x]=>BS E t t2 s x
 | .copy,t::_,[.slice d n _,x]=>ER E t d n x
 | .delete,t::_,[m,k]=>kDel E t m k
 | .clear,t::_,[x]=>Gb E t x
 | .min,_,l=>M.chk (l.all plain) (M.on (semP E.P (Builtin.min_ #[] 3 l.toArray)) pV)
 | .max,_,l=>M.chk (l.all plain) (M.on (semP E.P (Builtin.max_ #[] 3 l.toArray)) pV)
 |_,_,_=>aA
def idxN (u:TypeDesc)(x:Value)(E:Env)(k:Nat):M Value:=
 match u,x with
 | .array n e, .pointer (some a)=>M.bind (ti E e) λie=>M.chk (Nat.blt k n) (ptrA (addA a (Nat.mul k ie.size)))
 | .slice e, .slice (some a) len _=>M.bind (ti E e) λie=>M.chk (Nat.blt k len) (ptrA (addA a (Nat.mul k ie.size)))
 |_,_=>aA
def asN (v:Value):M Nat:=
 match v with
 | .int _ (.ofNat k)=>M.pure k
 |_=>aA
abbrev Ah:Type:=Nat->List Value->M Value
def Be (call round:Ah)(f:Value)(args:List Value):M Value:=
 match f with
 | .func (.func f) first cap=>call f (first.toList++(args++cap.toList))
 | .func (.yield l) first _=>M.chk first.isEmpty (round l args)
 |_=>aA
def Aw (c a b:Value):M Value:=
 match c with
 | .bool c=>Bool.rec (motive:=λ_=>M Value) (M.pure b) (M.pure a) c
 |_=>aA
def ptrN (b:Nat):M Value:=M.pure (.pointer (some ⟨b,0,none⟩))
def Ce (E:Env)(e:Nat):M Value:=M.bind (ti E e) λi=>M.bind (newL i.zero) ptrN
def kBox (v:Value):M Value:=M.bind (newL (cellsOf v)) ptrN
def AQ (E:Env)(t:Nat)(a:Value):M Value:=M.bind (asA a) λa=>Fq E t a
def AB (E:Env)(t:Nat)(a v:Value):M Value:=M.bind (asA a) λa=>M.bind (GR E t a v) λ_=>M.pure undef
def kNil (v:Value):M Value:=
 match v with
 | .pointer (some a)=>M.pure (.pointer (some a))
 | .iface t v=>M.pure (.iface t v)
 | .func (.func f) a b=>M.pure (.func (.func f) a b)
 |_=>aA
def CJ (P:Program)(op:UnOp)(v:Value):M Value:=M.chk (plain v) (M.on (semP P (Op.unary op v)) pV)
def notK (k:IntKind)(m:Nat):Option Value:=sOpt (Nat.ble (nat_lit 1) (qOf k)) (fitI k (Nat.xor (mxOf k) m))
def xorU (P:Program)(v:Value):M Value:=
 BR v (λk n=>Int.rec (motive:=λ_=>M Value) (λm=>Option.rec (motive:=λ_=>M Value) (CJ P .xor v) (λx=>M.pure x) (notK k m)) (λ_=>CJ P .xor v) n) (CJ P .xor v)
def kUn (P:Program)(op:UnOp)(v:Value):M Value:=
 match op,v with
 | .not, .bool b=>pB (!b)
 | .not, .complex _ 2 _=>M.pure topB
 | .xor,v=>xorU P v
 |op,v=>CJ P op v
def JZ (v:Value):Option UInt8:=match v with| .int .u8 (.ofNat n)=>some (UInt8.ofNat n)|_=>none
def N4 (l:List Value):Option (List UInt8):=
 List.rec (motive:=λ_=>Option (List UInt8)) (some []) (λv _ ih=>onO (JZ v) λb=>onO ih λl=>some (b::l)) l
def strOf (a:Addr)(n:Nat):M Value:=M.bind (rdL n a) λl=>M.on (N4 l) λbs=>M.pure (.string ⟨bs.toArray⟩)
def G5 (E:Env)(s d:Nat)(a:Addr)(n:Nat):M Value:=
 M.bind (ti E s) λis=>M.bind (ti E d) λid=>match is.u,id.u with
 | .slice e, .string=>M.bind (ti E e) λie=>(match ie.u with| .int .u8=>strOf a n|_=>aA)
 |_,_=>aA
def ET (E:Env)(s d:Nat)(k:IntKind)(n:Int):M Value:=
 M.bind (ti E s) λ_=>M.bind (ti E d) λid=>match id.u with
 | .int k'=>fI (JW k' n) λn=>M.pure (.int k' n)
 |_=>M.on (semP E.P (convert s d (.int k n))) pV
def DL (E:Env)(s d:Nat)(v:Value):M Value:=
 match v with
 | .slice (some a) n _=>G5 E s d a n
 | .int k n=>ET E s d k n
 |v=>M.chk (plain v) (M.on (semP E.P (convert s d v)) pV)
def E1 (l:List UInt8):M Value:=fBs l λvs=>fN vs.length λn=>rowN vs n
def FH (E:Env)(s d:Nat)(b:ByteArray):M Value:=
 M.bind (ti E s) λ_=>M.bind (ti E d) λid=>match id.u with
 | .slice e=>M.bind (ti E e) λie=>(match ie.u with| .int .u8=>E1 b.data.toList|_=>aA)
 |_=>DL E s d (.string b)
def Fe (E:Env)(s d:Nat)(a:Addr)(n c:Nat):M Value:=
 M.bind (ti E s) λis=>M.bind (ti E d) λid=>match is.u,id.u with
 | .slice _, .slice e=>M.bind (ti E e) λie=>(match ie.u with
  | .int .u8=>M.chk (Nat.beq s d&&(Nat.beq a.off 0&&Nat.blt 0 n)) (M.bind (rdC (Nat.add a.block n)) λq=>(match q with
   | .O (.tok true m)=>M.chk (Nat.beq m (Nat.add 1024 n)) (M.bind (rdL n a) λ_=>M.pure (.slice (some a) n c))
   |_=>aA))
  |_=>aA)
 |_,_=>DL E s d (.slice (some a) n c)
def Cf (E:Env)(s d:Nat)(v:Value):M Value:=
 match v with
 | .string b=>FH E s d b
 | .slice (some a) n c=>Fe E s d a n c
 |v=>DL E s d v
def Gh (u:TypeDesc)(v:Value):M Value:=
 match u,v with
 | .array n _, .slice (some a) len _=>M.chk (Nat.ble n len&&Nat.blt 0 len) (M.pure (.pointer (some a)))
 |_,_=>aA
def Fc (E:Env)(t:Nat)(v:Value):M Value:=M.bind (ti E t) λi=>Gh i.u v
def FB (E:Env)(t:Nat)(v:Value):M Value:=
 M.bind (ti E t) λi=>match i.u with
 | .interface _=>aA
 |_=>M.pure (.iface t v)
def mkSl (E:Env)(u:TypeDesc)(l c:Nat):M Value:=
 match u with
 | .slice e=>M.bind (ti E e) λie=>M.chk (Nat.ble l c&&Nat.ble (c*(ie.bytes+1)) 16777216) (M.bind (newL (rep c ie.zero)) λb=>M.pure (.slice (some ⟨b,0,none⟩) l c))
 |_=>aA
def EM (E:Env)(t:Nat)(l c:Value):M Value:=
 M.bind (ti E t) λi=>M.bind (asN l) λl=>M.bind (asN c) λc=>mkSl E i.u l c
def CI (E:Env)(u:TypeDesc)(f:Nat):M (Nat×TI×Nat):=
 match u with
 | .struct fs=>(match fs.toList[f]? with|some f=>M.bind (ti E f.type) λfi=>M.pure (f.offset,fi,f.type)|none=>aA)
 |_=>aA
def kFld (E:Env)(t:Nat)(a:Value)(f:Nat):M Value:=
 M.bind (ti E t) λi=>M.bind (asA a) λa=>M.bind (CI E i.u f) λp=>M.chk (Nat.blt 0 p.2.1.size) (ptrA (addA a p.1))
def asCs (v:Value):M (List Value):=
 match v with
 | .agg cs=>M.pure cs.toList
 |_=>aA
def EP (E:Env)(t:Nat)(v:Value)(f:Nat):M Value:=
 M.bind (ti E t) λi=>M.bind (asCs v) λcs=>M.bind (CI E i.u f) λp=>EE E p.2.2 cs p.1
def BT (E:Env)(t:Nat)(x ix:Value):M Value:=M.bind (ti E t) λi=>M.bind (asN ix) λk=>idxN i.u x E k
def idxV (u:TypeDesc)(x:Value)(E:Env)(k:Nat):M Value:=
 match u,x with
 | .array n e, .agg cs=>M.bind (ti E e) λie=>M.chk (Nat.blt k n) (EE E e cs.toList (k*ie.size))
 | .string, .string s=>M.on (s.data.toList[k]?) λb=>M.pure (.int .u8 b.toNat)
 |_,_=>aA
def kIdx (E:Env)(t:Nat)(x ix:Value):M Value:=M.bind (ti E t) λi=>M.bind (asN ix) λk=>idxV i.u x E k
def kExt (k:Nat)(v:Value):M Value:=
 match v with
 | .tuple vs=>M.ofOpt (vs.toList[k]?)
 |_=>aA
def Jz (v:Value):M Value:=
 match v with
 | .iface t x=>λs=> .pan [{v:= .iface t x,recovered:=false}] s
 |_=>aA
def recM (m:FrameMode):Option (Value×FrameMode):=
 match m with
 | .panicking ({v,recovered:=false,goexit:=false}::older)=>some (v, .panicking ({v,recovered:=true}::older))
 |_=>none
def GE:M Value:=
 M.bind getCx λcx=>match cx with
 | .cx (some m) (some d)=>Option.rec (motive:=λ_=>M Value) (M.pure .nilIface) (λp=>M.bind (putCx (.cx (some p.2) (some d))) λ_=>M.pure p.1) (recM m)
 | .cx none (some _)=>M.pure .nilIface
 |_=>aA
def Gj (f:Value)(args:List Value):M Value:=
 M.bind getCx λcx=>match cx,f with
 | .cx up (some d), .func fn first cap=>M.bind (putCx (.cx up (some ({target:= .fn fn cap,args:=first++args.toArray}::d)))) λ_=>M.pure undef
 |_,_=>aA
def okV (commaOk:Bool)(v:Value)(ok:Bool):M Value:=Bool.rec (motive:=λ_=>M Value) (Bool.rec (motive:=λ_=>M Value) aA (M.pure v) ok) (M.pure (.tuple #[v, .bool ok])) commaOk
def Ff (E:Env)(asserted:Nat)(commaOk:Bool)(x:Value):M Value:=
 M.bind (ti E asserted) λi=>match i.u,x with
 | .interface want, .iface t v=>M.on (E.P.info? t) λit=>(match Instr.missingMethod want it.methods with
  |none=>okV commaOk (.iface t v) true
  |some _=>M.bind (zeroV i) λz=>okV commaOk z false)
 |_, .nilIface=>M.bind (zeroV i) λz=>okV commaOk z false
 |_, .iface t v=>aN (Nat.beq t asserted) (okV commaOk v true) (M.bind (zeroV i) λz=>okV commaOk z false)
 |_,_=>aA
def ES (E:Env)(t:Nat)(x:Value):M Value:=M.bind (ti E t) λi=>match i.u,x with
 | .string, .string s=>M.bind (newO (.sit s 0)) λb=>M.pure (.chan (some b))
 |_,_=>aA
def sitN (l:Nat)(s:ByteArray)(pos:Nat):M Value:=
 aN (Nat.blt pos s.size) (M.bind (wrC l (.O (.sit s (pos+(Utf8.decode s pos).2)))) λ_=>fN pos λpos=>fN (Utf8.decode s pos).1 λc=>M.pure (.tuple #[.bool true, .int .i64 (.ofNat pos), .int .i32 (.ofNat c)])) (M.pure (.tuple #[.bool false]))
def EN (x:Value):M Value:=
 match x with
 | .chan (some l)=>M.bind (rdC l) λc=>(match c with
  | .O (.sit s pos)=>fN pos λpos=>sitN l s pos
  |_=>aA)
 |_=>aA
abbrev OpT:Type:=Ah->Ah->Rho->T Value->M Value
def AU (ds:List Nat)(x:Operand)(f:Value->M Value):Cl OpT:=Cl.rec (motive:=λ_=>Cl OpT) (λg=> .mk λ_ _ r tm s=>Option.rec (motive:=λ_=>R Value) .none (λa=>f a s) (g r tm)) (Bw ds x)
def Ei (ds:List Nat)(x:Operand):Cl OpT:=Cl.rec (motive:=λ_=>Cl OpT) (λg=> .mk λ_ _ r tm s=>Option.rec (motive:=λ_=>R Value) .none (λa=> .some a s) (g r tm)) (Bw ds x)
def BG (ds:List Nat)(x y:Operand)(f:Value->Value->M Value):Cl OpT:=
 Cl.rec (motive:=λ_=>Cl OpT) (λg=>Cl.rec (motive:=λ_=>Cl OpT) (λh=> .mk λ_ _ r tm s=>Option.rec (motive:=λ_=>R Value) .none (λa=>Option.rec (motive:=λ_=>R Value) .none (λb=>f a b s) (h r tm)) (g r tm)) (Bw ds y)) (Bw ds x)
def Cn (ds:List Nat)(x y z:Operand)(f:Value->Value->Value->M Value):Cl OpT:=
 Cl.rec (motive:=λ_=>Cl OpT) (λg=>Cl.rec (motive:=λ_=>Cl OpT) (λh=>Cl.rec (motive:=λ_=>Cl OpT) (λi=> .mk λ_ _ r tm=>M.on (g r tm) λa=>M.on (h r tm) λb=>M.on (i r tm) λc=>f a b c) (Bw ds z)) (Bw ds y)) (Bw ds x)
def Gu (ds:List Nat)(l:List Operand)(f:List Value->M Value):Cl OpT:=Cl.rec (motive:=λ_=>Cl OpT) (λg=> .mk λ_ _ r tm s=>Option.rec (motive:=λ_=>R Value) .none (λa=>f a s) (g r tm)) (DY ds l)
def Ih (ds:List Nat)(l l':List Operand)(f:List Value->List Value->M Value):Cl OpT:=
 Cl.rec (motive:=λ_=>Cl OpT) (λg=>Cl.rec (motive:=λ_=>Cl OpT) (λh=> .mk λ_ _ r tm s=>Option.rec (motive:=λ_=>R Value) .none (λa=>Option.rec (motive:=λ_=>R Value) .none (λb=>f a b s) (h r tm)) (g r tm)) (DY ds l')) (DY ds l)
def Ez (ds:List Nat)(l:List (Nat×Operand))(f:List (Nat×Value)->M Value):Cl OpT:=Cl.rec (motive:=λ_=>Cl OpT) (λg=> .mk λ_ _ r tm s=>Option.rec (motive:=λ_=>R Value) .none (λa=>f a s) (g r tm)) (Jl ds l)
def KX (ds:List Nat)(x:Operand)(lo hi:Option Operand)(f:Value->Option Value->Option Value->M Value):Cl OpT:=
 Cl.rec (motive:=λ_=>Cl OpT) (λg=>Cl.rec (motive:=λ_=>Cl OpT) (λh=>Cl.rec (motive:=λ_=>Cl OpT) (λi=> .mk λ_ _ r tm=>M.on (g r tm) λa=>M.on (h r tm) λb=>M.on (i r tm) λc=>f a b c) (Ks ds hi)) (Ks ds lo)) (Bw ds x)
def Ni (ds:List Nat)(x:Operand)(l:List Operand):Cl OpT:=
 Cl.rec (motive:=λ_=>Cl OpT) (λg=>Cl.rec (motive:=λ_=>Cl OpT) (λh=> .mk λcall round r tm=>M.on (g r tm) λf=>M.on (h r tm) λl=>Be call round f l) (DY ds l)) (Bw ds x)
def PU_ (P:Program)(t:Nat)(name:String):Option Method:=onO (P.info? t) λi=>i.methods.toList.find? λm=>m.name==name
def Kp (E:Env)(s:FieldStep)(cs:List Value):M (Nat×Value):=M.bind (ti E s.struct) λi=>M.bind (CI E i.u s.index) λp=>M.bind (EE E p.2.2 cs p.1) λv=>M.pure (p.2.2,v)
def I8 (E:Env)(s:FieldStep)(a:Addr):M (Nat×Value):=M.bind (ti E s.struct) λi=>M.bind (CI E i.u s.index) λp=>M.chk (Nat.blt 0 p.2.1.size) (M.bind (ptrA (addA a p.1)) λv=>M.pure (p.2.2,v))
def DZ (E:Env)(s:FieldStep)(v:Value)(b:Bool):M (Nat×Value×Bool):=
 match s.deref,b with
 |true,false|false,true=>M.bind (asA v) λa=>M.bind (I8 E s a) λp=>M.pure (p.1,p.2,true)
 |false,false=>M.bind (asCs v) λcs=>M.bind (Kp E s cs) λp=>M.pure (p.1,p.2,false)
 |true,true=>aA
def H3 (E:Env)(l:List FieldStep):Nat->Value->Bool->M (Nat×Value×Bool):=
 List.rec (motive:=λ_=>Nat->Value->Bool->M (Nat×Value×Bool)) (λt v b=>M.pure (t,v,b)) (λs _ ih _ v b=>M.bind (DZ E s v b) λp=>ih p.1 p.2.1 p.2.2) l
def Vt (u:TypeDesc)(p b:Bool):Bool:=
 match u with
 | .pointer _=>p&& !b
 |_=>p==b
def EF (E:Env)(t:Nat)(v:Value)(name:String):M (Nat×Value):=
 M.on (PU_ E.P t name) λm=>M.on m.func λfp=>M.bind (H3 E m.path.toList t v false) λq=>M.bind (ti E q.1) λi=>M.chk (Vt i.u fp.2 q.2.2) (M.pure (fp.1,q.2.1))
def KL (E:Env)(call:Ah)(name:String)(f:Value)(l:List Value):M Value:=
 match f with
 | .iface t v=>M.bind (EF E t v name) λp=>call p.1 (p.2::l)
 |_=>aA
def Pk (E:Env)(ds:List Nat)(x:Operand)(name:String)(l:List Operand):Cl OpT:=
 Cl.rec (motive:=λ_=>Cl OpT) (λg=>Cl.rec (motive:=λ_=>Cl OpT) (λh=> .mk λcall _ r tm=>M.on (g r tm) λf=>M.on (h r tm) λl=>KL E call name f l) (DY ds l)) (Bw ds x)
def Js:Cl OpT:= .mk λ_ _ _ _=>aA
def GI (E:Env)(ds:List Nat)(c:Call):Cl OpT:=
 match c.callee with
 | .builtin .recover=> .mk λ_ _ _ _=>GE
 | .builtin b=>Gu ds c.args.toList (A8 E b c.argTypes.toList)
 | .value f=>Ni ds f c.args.toList
 | .invoke x name=>Pk E ds x name c.args.toList
def I5 (ds:List Nat)(c:Call):Cl OpT:=
 match c.callee with
 | .value f=>Cl.rec (motive:=λ_=>Cl OpT) (λg=>Cl.rec (motive:=λ_=>Cl OpT) (λh=> .mk λ_ _ r tm=>M.on (g r tm) λf=>M.on (h r tm) λl=>Gj f l) (DY ds c.args.toList)) (Bw ds f)
 |_=>Js
def HY (E:Env)(ds:List Nat)(t:Nat)(x:Operand)(lo hi mx:Option Operand):Cl OpT:=
 Option.rec (motive:=λ_=>Cl OpT) (KX ds x lo hi (Bz E t)) (λ_=>Js) mx
def CG (E:Env)(ds:List Nat)(o:Op):Cl OpT:=
 match o with
 | .move x=>Ei ds x
 | .assign x=>Ei ds x
 | .pick c a b=>Cn ds c a b Aw
 | .alloc e=> .mk λ_ _ _ _=>Ce E e
 | .box _ x=>AU ds x kBox
 | .build t ps=>Ez ds ps.toList (BP E t)
 | .buildSlice t n ps=>Ez ds ps.toList (BY E t n)
 | .load t a=>AU ds a (AQ E t)
 | .store t a x=>BG ds a x (AB E t)
 | .nilCheck x=>AU ds x kNil
 | .binOp op t x y _=>Cl.rec (motive:=λ_=>Cl OpT) (λf=>BG ds x y f) (aBin E op t x y)
 | .unOp op _ x=>AU ds x (kUn E.P op)
 | .convert s d x=>AU ds x (Cf E s d)
 | .sliceToArrayPointer t x=>AU ds x (Fc E t)
 | .makeInterface t x=>AU ds x (FB E t)
 | .makeFunc (.func fn) first cap=>Ih ds first.toList cap.toList λf c=>M.pure (.func (.func fn) f.toArray c.toArray)
 | .makeSlice t l c=>BG ds l c (EM E t)
 | .slice t x lo hi mx=>HY E ds t x lo hi mx
 | .fieldAddr t x f=>AU ds x λa=>kFld E t a f
 | .field t x f=>AU ds x λa=>EP E t a f
 | .indexAddr t x ix=>BG ds x ix (BT E t)
 | .index t x ix=>BG ds x ix (kIdx E t)
 | .extract x k=>AU ds x (kExt k)
 | .call c=>GI E ds c
 | .panic x=>AU ds x Jz
 | .defer c=>I5 ds c
 | .typeAssert x _ a ok=>AU ds x (Ff E a ok)
 | .range t x=>AU ds x (ES E t)
 | .next x true=>AU ds x EN
 | .makeMap _ none=> .mk λ_ _ _ _=>De
 | .makeMap t (some x)=>AU ds x (Fh E t)
 | .lookup t x k ok=>BG ds x k (Cs E t ok)
 | .mapUpdate t m k x=>Cn ds m k x (DC E t)
 | .insert t m k x=>Cn ds m k x (DC E t)
 | .mapEntry t m k=>BG ds m k (Hn E t)
 | .entryStore _ m st x=>Cn ds m st x D4
 |_=>Js
structure COp where
 guard:Option (Nat×Bool)
 slot:Option Nat
 keep:Bool
 run:OpT
def C8 (ops:List Oper)(ds:List Nat)(g:Option (Nat×Bool)):Option (Option (Nat×Bool)):=
 match g with
 |none=>some none
 |some (j,want)=>match ops[j]? with
  |some o=>(match o.dst with|some d=>(match FE d ds with|some n=>some (some (n,want))|none=>none)|none=>none)
  |none=>none
def BE (d:Option Nat)(ds:List Nat):List Nat:=Option.rec (motive:=λ_=>List Nat) ds (λd=>d::ds) d
def newD (d:Option Nat)(n:Nat)(ds:List Nat):Bool:=Option.rec (motive:=λ_=>Bool) true (λd=>Nat.blt d n&& !ds.any λe=>Nat.beq d e) d
def Bl (d:Option Nat)(glob:Nat):Bool:=Option.rec (motive:=λ_=>Bool) false (λd=>Nat.testBit glob d) d
def BD (E:Env)(glob n:Nat)(ops:List Oper)(l:List Oper):List Nat->Option (List COp):=
 List.rec (motive:=λ_=>List Nat->Option (List COp)) (λ_=>some [])
  (λo _ ih ds=>onO (C8 ops ds o.guard) λg=>Bool.rec (motive:=λ_=>Option (List COp)) none (onO (ih (BE o.dst ds)) λr=>
   Cl.rec (motive:=λ_=>Option (List COp)) (λf=>Bool.rec (motive:=λ_=>Option (List COp)) (some (⟨g,o.dst,false,f⟩::r)) (some (⟨g,o.dst,true,f⟩::r)) (Bl o.dst glob)) (CG E ds o.op)) (newD o.dst n ds)) l
def isB (v:Value)(want:Bool):Bool:=
 match v with
 | .bool b=>Bool.rec (motive:=λ_=>Bool) (!want) want b
 |_=>false
def isK (v:Value):Bool:=
 match v with
 | .complex _ _ _=>false
 |_=>true
def nthV (n:Nat):Rho->Option Value:=Nat.rec (motive:=λ_=>Rho->Option Value) nth0 (λ_ ih l=>List.rec (motive:=λ_=>Option Value) none (λ_ r _=>ih r) l) n
def Bb (g:Option (Nat×Bool))(r:Rho)(x:M Value):M Value:=
 Option.rec (motive:=λ_=>M Value) x (λp=>M.on (nthV p.1 r) λv=>M.chk (isK v) (aN (isB v p.2) x (M.pure undef))) g
def Cj (d:Option Nat)(v:Value)(r:Rho):Rho:=Option.rec (motive:=λ_=>Rho) r (λ_=>v::r) d
def GT {β:Type}(d:Option Nat)(keep:Bool)(v:Value)(tm:T Value)(K:T Value->M β):M β:=
 Bool.rec (motive:=λ_=>M β) (K tm) (Option.rec (motive:=λ_=>M β) (K tm) (λd=>T.rec (motive:=λ_=>M β) aA (λa b c _ _=>K (.N a b c)) (T.set tm d v)) d) keep
def runC (call round:Ah)(c:COp)(r:Rho)(tm:T Value)(K:Rho->T Value->M (T Value)):M (T Value):=
 COp.rec (motive:=λ_=>M (T Value)) (λg d k f=>M.bind (Bb g r (f call round r tm)) λv=>GT d k v tm (K (Cj d v r))) c
def AH (call round:Ah)(l:List COp):Rho->T Value->M (T Value):=
 List.rec (motive:=λ_=>Rho->T Value->M (T Value)) (λ_ tm=>M.pure tm) (λc _ ih r tm=>runC call round c r tm ih) l
abbrev RT:Type:=Ah->Ah->Rho->T Value->M (T Value)
def PY (d:Option Nat)(keep:Bool)(f:OpT)(k:RT):Cl RT:=
 Option.rec (motive:=λ_=>Cl RT) (.mk λcall round r tm s=>R.rec (motive:=λ_=>R (T Value)) .none (λ_ s=>k call round r tm s) (λc s=> .pan c s) (f call round r tm s))
  (λd=>Bool.rec (motive:=λ_=>Cl RT) (.mk λcall round r tm s=>R.rec (motive:=λ_=>R (T Value)) .none (λv s=>k call round (v::r) tm s) (λc s=> .pan c s) (f call round r tm s))
   (.mk λcall round r tm s=>R.rec (motive:=λ_=>R (T Value)) .none (λv s=>T.rec (motive:=λ_=>R (T Value)) .none (λa b c _ _=>k call round (v::r) (.N a b c) s) (T.set tm d v)) (λc s=> .pan c s) (f call round r tm s)) keep) d
def NB (c:COp)(k:RT):Cl RT:=
 COp.rec (motive:=λ_=>Cl RT) (λg d keep f=>Option.rec (motive:=λ_=>Cl RT) (PY d keep f k) (λp=>PY d keep (λcall round r tm=>Bb (some p) r (f call round r tm)) k) g) c
def fuse (l:List COp):Cl RT:=List.rec (motive:=λ_=>Cl RT) (.mk λ_ _ _ tm s=> .some tm s) (λc _ ih=>Cl.rec (motive:=λ_=>Cl RT) (λk=>NB c k) ih) l
structure OpLog where
 lo:Nat
 hi:Nat
 rd:List Nat
 wr:List Nat
def apartO {α:Type}(m:M α):M (α×OpLog):=λs=>St.rec (motive:=λ_=>R (α×OpLog)) (λmem next lim rd wr cx=>
 R.rec (motive:=λ_=>R (α×OpLog)) .none (λa s=>St.rec (motive:=λ_=>R (α×OpLog)) (λmem' next' _ rd' wr' cx'=>Ctx.rec (motive:=λ_=>R (α×OpLog)) (.some (a,OpLog.mk next next' rd' wr') (St.mk mem' next' lim rd wr .no)) (λ_ _=> .none) cx') s)
  (λ_ _=> .none) (m (St.mk mem next next [] [] cx))) s
def BL (l:List Nat):Nat->Nat:=List.rec (motive:=λ_=>Nat->Nat) (λm=>m) (λa _ ih m=>fN (Nat.lor m (Nat.shiftLeft (nat_lit 1) a)) ih) l
def Bo (m:OpLog):Nat×Nat:=OpLog.rec (motive:=λ_=>Nat×Nat) (λ_ _ rd wr=>fN (BL rd (nat_lit 0)) λr=>fN (BL wr (nat_lit 0)) λw=>(r,w)) m
def JT (l:List OpLog):List (Nat×Nat):=List.rec (motive:=λ_=>List (Nat×Nat)) [] (λm _ ih=>Prod.rec (motive:=λ_=>List (Nat×Nat)) (λr w=>(r,w)::ih) (Bo m)) l
def DQ (a b:Nat×Nat):Bool:=Nat.beq (Nat.land a.2 (Nat.lor b.1 b.2)) (nat_lit 0)&&Nat.beq (Nat.land b.2 a.1) (nat_lit 0)
def Fg (bj:Nat)(m:Nat×Nat)(acc:List (Nat×Nat)):Nat->Bool:=
 List.rec (motive:=λ_=>Nat->Bool) (λ_=>true) (λa _ ih i=>(bj.testBit i||DQ a m)&&ih (Nat.succ i)) acc
def Hi (all:List (Nat×Nat))(l:List (Nat×Nat)):List Nat->Nat->Bool:=
 List.rec (motive:=λ_=>List Nat->Nat->Bool) (λ_ _=>true) (λm _ ih bef j=>match bef with
  |b::bef=>Fg b m (all.take j) 0&&ih bef (Nat.succ j)
  |[]=>false) l
def Bd (n0:Nat)(l acc:List Nat):List Nat:=List.rec (motive:=λ_=>List Nat) acc (λa _ ih=>Bool.rec (motive:=λ_=>List Nat) ih (a::ih) (Nat.ble n0 a)) l
def CV (lo hi:Nat)(l:List Nat):Bool:=List.rec (motive:=λ_=>Bool) false (λa _ ih=>Bool.rec (motive:=λ_=>Bool) ih (Bool.rec (motive:=λ_=>Bool) ih true (Nat.blt a hi)) (Nat.ble lo a)) l
def DJ (bj:Nat)(news:List Nat)(acc:List OpLog):Nat->Bool:=
 List.rec (motive:=λ_=>Nat->Bool) (λ_=>true) (λa _ ih i=>(bj.testBit i|| !CV a.lo a.hi news)&&ih (Nat.succ i)) acc
def F1 (bj:Nat)(news:List Nat)(acc:List OpLog):Bool:=List.rec (motive:=λ_=>Bool) true (λ_ _ _=>DJ bj news acc 0) news
def FA (n0:Nat)(all:List OpLog)(l:List OpLog):List Nat->Nat->Bool:=
 List.rec (motive:=λ_=>List Nat->Nat->Bool) (λ_ _=>true) (λm _ ih bef j=>match bef with
  |b::bef=>F1 b (Bd n0 m.rd (Bd n0 m.wr [])) (all.take j)&&ih bef (Nat.succ j)
  |[]=>false) l
def Cg_ (l:List OpLog):Bool:=l.all λm=>m.wr.isEmpty
def Bt (n0:Nat)(l:List OpLog)(bef:List Nat):Bool:=FA n0 l l bef 0&&(Cg_ l||Hi (JT l) (JT l) bef 0)
def addL (lim:Nat)(l base:List Nat):List Nat:=List.rec (motive:=λ_=>List Nat) base (λa _ ih=>notes a lim ih) l
def rdsL (lim:Nat)(l:List OpLog)(base:List Nat):List Nat:=List.rec (motive:=λ_=>List Nat) base (λm _ ih=>addL lim m.rd ih) l
def wrsL (lim:Nat)(l:List OpLog)(base:List Nat):List Nat:=List.rec (motive:=λ_=>List Nat) base (λm _ ih=>addL lim m.wr ih) l
def CC (call round:Ah)(l:List COp):List OpLog->Rho->T Value->M ((Rho×T Value)×List OpLog):=
 List.rec (motive:=λ_=>List OpLog->Rho->T Value->M ((Rho×T Value)×List OpLog)) (λacc r tm=>M.pure ((r,tm),acc))
  (λc _ ih acc r tm=>COp.rec (motive:=λ_=>M ((Rho×T Value)×List OpLog)) (λg d k f=>M.bind (apartO (Bb g r (f call round r tm))) λp=>GT d k p.1 tm λtm=>ih (p.2::acc) (Cj d p.1 r) tm) c) l
def Lk (ops:List Oper):Nat->Bool:=
 List.rec (motive:=λ_=>Nat->Bool) (λ_=>true) (λo _ ih j=>(o.after.toList.all λe=> !Region.binds .any e||Nat.blt e.on j)&&ih (Nat.succ j)) ops
def C3 (ops:List Oper)(o:Oper):List Nat:=
 (match o.guard with|some (g,_)=>(match ops[g]? with|some q=>(match q.dst with|some d=>[d]|none=>[])|none=>[])|none=>[])++
 o.op.operands.toList.filterMap λx=>match x with| .tmp t=>some t|_=>none
def Hw (bef:List Nat)(j:Nat)(looks:List Nat)(l:List Oper):Nat->Bool:=
 List.rec (motive:=λ_=>Nat->Bool) (λ_=>true) (λo _ ih i=>
  (match o.dst with
   |some d=>Nat.beq i j|| !(looks.any λt=>Nat.beq t d)||(match bef[Nat.max i j]? with|some b=>b.testBit (Nat.min i j)|none=>false)
   |none=>true)&&ih (Nat.succ i)) l
def MR (all:List Oper)(bef:List Nat)(l:List Oper):Nat->Bool:=
 List.rec (motive:=λ_=>Nat->Bool) (λ_=>true) (λo _ ih j=>Hw bef j (C3 all o) all 0&&ih (Nat.succ j)) l
def D6 (ops:List Oper)(bef:List Nat):Bool:=Nat.beq bef.length ops.length&&Lk ops 0&&MR ops bef ops 0
structure AF where
 fn:Nat
 n:Nat
 glob:Nat
 tmps:T Value
 todo:List Item
 mode:FrameMode
 kind:CallKind
 roundOf:Option Nat
def orM (m:Nat)(t:Nat):Nat:=fN (Nat.lor m (Nat.shiftLeft (nat_lit 1) t)) λm=>m
def orO (x:Operand)(m:Nat):Nat:=Operand.rec (motive:=λ_=>Nat) (λt=>orM m t) (λ_=>m) (λ_=>m) (λ_=>m) x
def outR (l:List Oper):List Nat->Nat->Nat:=
 List.rec (motive:=λ_=>List Nat->Nat->Nat) (λ_ m=>m) (λo _ ih ds m=>
  fN (o.op.operands.toList.foldl (λm x=>match x with| .tmp t=>(Option.rec (motive:=λ_=>Nat) (orM m t) (λ_=>m) (FE t ds))|_=>m) m) λm=>ih (BE o.dst ds) m) l
def outC (c:Code):Nat->Nat:=
 Code.rec (motive:=λ_=>Nat->Nat) (λm=>m) (λ_ ops _ m=>outR ops.toList [] m) (λ_ _ f g m=>fN (f m) g) (λc _ _ f g m=>fN (orO c m) λm=>fN (f m) g) (λ_ _ f=>f) (λ_ f=>f) (λx _ _ _ f g m=>fN (orO x m) λm=>fN (f m) g) (λ_ m=>m) (λ_ f=>f) (λ_ m=>m) (λ_ m=>m) (λm=>m) (λ_ m=>m) c
def Ar (fn:Func):Nat:=
 fn.results.toList.foldl (λm x=>match x with| .tmp t=>orM m t| .cell t _=>orM m t) (match fn.body with|some c=>outC c 0|none=>0)
def putG (g i:Nat)(v:Value)(t:T Value):T Value:=Bool.rec (motive:=λ_=>T Value) t (t.set i v) (Nat.testBit g i)
def Cd (g:Nat)(l:List Value):Nat->T Value->T Value:=
 List.rec (motive:=λ_=>Nat->T Value->T Value) (λ_ t=>t) (λv _ ih i t=>ih (Nat.succ i) (putG g i v t)) l
def BA (E:Env)(f:Nat)(args:List Value)(kind:CallKind):M AF:=
 M.on (E.fn.get f) λfn=>M.on fn.body λc=>M.chk (Nat.ble args.length fn.ntmps)
  (fN fn.ntmps λn=>fN (Ar fn) λg=>M.pure {fn:=f,n,glob:=g,tmps:=Cd g args 0 .E,todo:=[.code c],mode:= .run,kind,roundOf:=none})
def resV (E:Env)(tm:T Value)(x:ResultVar):M Value:=
 match x with
 | .tmp t=>M.ofOpt (tm.get t)
 | .cell a t=>M.on (tm.get a) λa=>M.bind (asA a) λa=>Fq E t a
def resL (E:Env)(tm:T Value)(l:List ResultVar):M (List Value):=
 List.rec (motive:=λ_=>M (List Value)) (M.pure []) (λx _ ih=>M.bind (resV E tm x) λv=>M.bind ih λl=>M.pure (v::l)) l
def tupV (l:List Value):Value:=
 match l with
 |[v]=>v
 |l=> .tuple l.toArray
def Gr_ (E:Env)(fn:Func)(tm:T Value):M Value:=M.bind (resL E tm fn.results.toList) λl=>M.pure (tupV l)
inductive Step where
 |go (fr:AF)
 |fin (v:Value) (up:FrameMode)
def goTo (fr:AF)(k:List Item):M Step:=AF.rec (motive:=λ_=>M Step) (λfn n g tm _ mo ki ro=>M.pure (.go (AF.mk fn n g tm k mo ki ro))) fr
def goTm (fr:AF)(k:List Item)(tm:T Value):M Step:=AF.rec (motive:=λ_=>M Step) (λfn n g _ _ mo ki ro=>M.pure (.go (AF.mk fn n g tm k mo ki ro))) fr
def goMo (fr:AF)(mo:FrameMode)(tm:T Value):M Step:=AF.rec (motive:=λ_=>M Step) (λfn n g _ k _ ki ro=>M.pure (.go (AF.mk fn n g tm k mo ki ro))) fr
def Vf (j:Option Code):Bool:=match j with|none=>true|some .ret=>true|_=>false
def endR (l:Nat)(jump:Option Code):M Step:=
 M.bind (rdC l) λc=>match c with
 | .O (.loop _ _ f n g tm ps as bd df)=>M.bind (wrC l (.O (.loop (if jump.isNone then .ready else .done) jump f n g tm ps as bd df))) λ_=>M.pure (.fin (.bool jump.isNone) .run)
 |_=>aA
def En (fr:AF)(jump:Option Code):M Step:=
 Option.rec (motive:=λ_=>M Step) (M.chk (Vf jump) (goMo fr .returning fr.tmps)) (λl=>endR l jump) fr.roundOf
def GK (fr:AF)(a b:Code)(k:List Item)(v:Value):M Step:=
 match v with
 | .bool t=>Bool.rec (motive:=λ_=>M Step) (goTo fr (.code b::k)) (goTo fr (.code a::k)) t
 |_=>aA
def EL (fr:AF)(jump:Code)(k:Option (List Item)):M Step:=
 Option.rec (motive:=λ_=>M Step) (En fr (some jump)) (λk=>goTo fr k) k
def EZ (fr:AF)(ds:List Nat)(c:List PanicEntry):M Step:=goMo fr (.panicking c) (List.rec (motive:=λ_=>T Value) fr.tmps (λd _ t=>T.del t d) ds)
def regF (call round:Ah)(fr:AF)(ds:List Nat)(f:RT)(k:List Item):M Step:=λs=>
 R.rec (motive:=λ_=>R Step) .none (λtm s=>goTm fr k tm s) (λc s=>Option.rec (motive:=λ_=>R Step) (EZ fr ds c s) (λ_=> .none) fr.roundOf) (f call round [] fr.tmps s)
def noP {α:Type}(m:M α):M α:=λs=>R.rec (motive:=λ_=>R α) .none (λa s=> .some a s) (λ_ _=> .none) (m s)
def GF (call round:Ah)(tm:T Value)(ops:List COp)(bef:List Nat):M (Rho×T Value):=λs=>St.rec (motive:=λ_=>R (Rho×T Value)) (λmem next lim rd wr cx=>
 R.rec (motive:=λ_=>R (Rho×T Value)) .none (λp s=>Prod.rec (motive:=λ_=>R (Rho×T Value)) (λq l=>St.rec (motive:=λ_=>R (Rho×T Value)) (λmem' next' _ _ _ _=>
  Bool.rec (motive:=λ_=>R (Rho×T Value)) .none (.some q (St.mk mem' next' lim (rdsL lim l rd) (wrsL lim l wr) cx)) (Bt next l.reverse bef)) s) p) (λ_ _=> .none)
  (CC call round ops [] [] tm (St.mk mem next (nat_lit 0) [] [] .no))) s
def endE (call round:Ah)(fr:AF)(last:List COp)(ds:List Nat)(k:List Item)(q:Rho×T Value):M Step:=λs=>
 R.rec (motive:=λ_=>R Step) .none (λtm s=>goTm fr k tm s) (λc s=>Option.rec (motive:=λ_=>M Step) (EZ fr ds c) (λ_=>aA) fr.roundOf s) (AH call round last q.1 q.2 s)
def F4 (call round:Ah)(fr:AF)(ops last:List COp)(bef ds:List Nat)(k:List Item):M Step:=
 M.bind (GF call round fr.tmps ops bef) (endE call round fr last ds k)
def Ck (n:Nat)(bef:List Nat):Nat:=Bool.rec (motive:=λ_=>Nat) n (Nat.pred n) (match bef[Nat.pred n]? with|some b=>Nat.beq b (Nat.sub (Nat.pow 2 (Nat.pred n)) 1)|none=>false)
def Hk (pe:Option Code):List Item:=match pe with|some c=>[Item.code c]|none=>[]
def J3 (fr:AF)(k:List Item)(l:Nat):M Step:=
 M.bind (rdC l) λc=>match c with
 | .O (.loop st pe f n g tm ps as bd df)=>M.chk (match st with| .busy=>false|_=>true) (M.bind (wrC l (.O (.loop .exhausted pe f n g tm ps as bd df))) λ_=>goTo fr (Hk pe++k))
 |_=>aA
def JB (E:Env)(call:Ah)(f:Value)(l:Nat):M Value:=
 match f with
 | .func (.func f) first cap=>M.chk (E.ext.get f).isNone (call f (first.toList++(.func (.yield l) #[] #[]::cap.toList)))
 |_=>aA
def dfsR (ro:Option Nat):M Nat:=
 match ro with
 |none=>M.bind (newO (.deferred (some []))) λd=>M.bind getCx λcx=>(match cx with
  | .cx up (some dfs)=>M.bind (putCx (.cx up (some ({target:= .collected d,args:= #[]}::dfs)))) λ_=>M.pure d
  |_=>aA)
 |some l=>M.bind (rdC l) λc=>(match c with
  | .O (.loop _ _ _ _ _ _ _ _ _ df)=>M.pure df
  |_=>aA)
def EV (E:Env)(call:Ah)(fr:AF)(f:Value)(params:Array Nat)(assign body:Code)(k:List Item):M Step:=
 M.bind (dfsR fr.roundOf) λd=>M.bind (newO (.loop .ready none fr.fn fr.n fr.glob fr.tmps params.toList assign body d)) λl=>M.bind (noP (JB E call f l)) λ_=>J3 fr k l
def begR (fr:AF)(k:List Item):M Step:=
 match fr.roundOf with
 |some l=>M.bind (rdC l) λc=>(match c with
  | .O (.loop .ready pe f n g tm ps as bd df)=>M.bind (wrC l (.O (.loop .busy pe f n g tm ps as bd df))) λ_=>goTo fr k
  |_=>aA)
 |none=>aA
abbrev F8:Type:=Nat->List Value->FrameMode->M (Option (List PanicEntry)×FrameMode)
def Fv (m:FrameMode):FrameMode:=
 match m with
 | .panicking ({recovered:=true, .. }::older)=>(match older.dropWhile (!·.goexit)with|[]=> .returning|rest=> .panicking rest)
 |m=>m
def Ho (m:FrameMode)(c:List PanicEntry):FrameMode:=
 match m with
 | .panicking d=> .panicking (c++d)
 |_=> .panicking c
def Iz (fr:AF)(p:Option (List PanicEntry)×FrameMode):M Step:=
 match p.1 with
 |none=>(match Fv p.2 with| .run=>aA|m=>goMo fr m fr.tmps)
 |some c=>goMo fr (Ho p.2 c) fr.tmps
def runD (dcall:F8)(fr:AF)(d:Deferred):M Step:=
 match d.target with
 | .collected b=>M.bind (rdC b) λc=>(match c with
  | .O (.deferred (some []))=>M.bind (wrC b (.O (.deferred none))) λ_=>M.pure (.go fr)
  |_=>aA)
 | .fn (.func f) cap=>M.bind (dcall f (d.args.toList++cap.toList) fr.mode) (Iz fr)
 |_=>aA
def outF (E:Env)(fr:AF)(up:Option FrameMode):M Step:=
 match fr.mode with
 | .returning=>M.on (E.fn.get fr.fn) λfn=>M.bind (Gr_ E fn fr.tmps) λv=>M.pure (.fin v (up.getD .run))
 | .panicking c=>λs=> .pan c s
 | .run=>aA
def CO (E:Env)(dcall:F8)(fr:AF):M Step:=
 M.bind getCx λcx=>match cx with
 | .cx up (some [])=>outF E fr up
 | .cx up (some (d::ds))=>noP (M.bind (putCx (.cx up (some ds))) λ_=>runD dcall fr d)
 |_=>aA
abbrev CM:Type:=Ah->Ah->AF->List Item->M Step
def dstL (l:List Oper):List Nat:=List.rec (motive:=λ_=>List Nat) [] (λo _ ih=>BE o.dst ih) l
def Fr (l:List COp):Nat->List COp:=List.rec (motive:=λ_=>Nat->List COp) (λ_=>[]) (λc _ ih m=>Nat.rec (motive:=λ_=>List COp) [] (λm' _=>c::ih m') m) l
def Fz (l:List COp):Nat->List COp:=List.rec (motive:=λ_=>Nat->List COp) (λ_=>[]) (λc l ih m=>Nat.rec (motive:=λ_=>List COp) (c::l) (λm' _=>ih m') m) l
def PU (l:List COp)(ds bef:List Nat)(m:Nat):Cl CM:= .mk λcall round fr k=>F4 call round fr (Fr l m) (Fz l m) bef ds k
def HO (b:Nat)(l:List OpLog):Nat->Bool:=List.rec (motive:=λ_=>Nat->Bool) (λ_=>true) (λm _ ih i=>(b.testBit i||(m.wr.isEmpty&&Nat.beq m.lo m.hi))&&ih (Nat.succ i)) l
def FU (call round:Ah)(tm:T Value)(ops:List COp)(bef:List Nat)(b:Nat):M (Rho×T Value):=λs=>St.rec (motive:=λ_=>R (Rho×T Value)) (λmem next lim rd wr cx=>
 R.rec (motive:=λ_=>R (Rho×T Value)) .none (λp s=>Prod.rec (motive:=λ_=>R (Rho×T Value)) (λq l=>St.rec (motive:=λ_=>R (Rho×T Value)) (λmem' next' _ _ _ _=>
  Bool.rec (motive:=λ_=>R (Rho×T Value)) .none (.some q (St.mk mem' next' lim (rdsL lim l rd) (wrsL lim l wr) cx)) (Bt next l.reverse bef&&HO b l.reverse 0)) s) p) (λ_ _=> .none)
  (CC call round ops [] [] tm (St.mk mem next (nat_lit 0) [] [] .no))) s
def tryX (call round:Ah)(tm:T Value)(l:List COp)(bef:List Nat)(j b:Nat):M (T Value):=M.bind (FU call round tm (Fr l j) bef b) λq=>AH call round (Fr (Fz l j) 1) q.1 q.2
def EK (s s2:St):St:=St.rec (motive:=λ_=>St) (λmem _ lim _ _ cx=>St.rec (motive:=λ_=>St) (λ_ next _ rd wr _=>St.mk mem next lim rd wr cx) s2) s
def GV (call round:Ah)(fr:AF)(l:List COp)(ds bef:List Nat)(m j b:Nat)(k:List Item):M Step:=λs=>
 R.rec (motive:=λ_=>R Step) .none (λ_ s2=>F4 call round fr (Fr l m) (Fz l m) bef ds k (EK s s2)) (λc s2=>Option.rec (motive:=λ_=>M Step) (EZ fr ds c) (λ_=>aA) fr.roundOf s2) (tryX call round fr.tmps l bef j b s)
def Gw_ (o:Oper):Bool:=match o.op with
 | .call c=>(match c.callee with| .builtin .copy=>true|_=>false)
 |_=>false
def panJ (ops:List Oper)(bef:List Nat):Option (Nat×Nat):=match ops[Nat.pred ops.length]?,bef[Nat.pred ops.length]?,bef[Nat.pred (Nat.pred ops.length)]? with
 |some o,some b1,some b=>Bool.rec (motive:=λ_=>Option (Nat×Nat)) none (some (Nat.pred (Nat.pred ops.length),b)) (Gw_ o&&(Nat.ble (nat_lit 2) ops.length&&b1.testBit (Nat.pred (Nat.pred ops.length))))
 |_,_,_=>none
def OF (l:List COp)(ds bef:List Nat)(m j b:Nat):Cl CM:= .mk λcall round fr k=>GV call round fr l ds bef m j b k
def Gs (E:Env)(glob n:Nat)(ops:Array Oper)(d:Bool):Cl CM:=
 Option.rec (motive:=λ_=>Cl CM) (.mk λ_ _ _ _=>aA) (λl=>Bool.rec (motive:=λ_=>Cl CM) (Cl.rec (motive:=λ_=>Cl CM) (λf=> .mk λcall round fr k=>regF call round fr (dstL ops.toList) f k) (fuse l)) (Bool.rec (motive:=λ_=>Cl CM) (.mk λ_ _ _ _=>aA) (Option.rec (motive:=λ_=>Cl CM) (PU l (dstL ops.toList) (Region.before ops).toList (Ck l.length (Region.before ops).toList)) (λp=>OF l (dstL ops.toList) (Region.before ops).toList (Ck l.length (Region.before ops).toList) p.1 p.2) (panJ ops.toList (Region.before ops).toList)) (D6 ops.toList (Region.before ops).toList)) d) (BD E glob n ops.toList ops.toList [])
def Em (E:Env)(glob n:Nat)(c:Code):Cl CM:=
 match c with
 | .skip=> .mk λ_ _ fr k=>goTo fr k
 | .region _ ops d=>Gs E glob n ops d
 | .seq a b=> .mk λ_ _ fr k=>goTo fr (.code a:: .code b::k)
 | .cond c a b=>Cl.rec (motive:=λ_=>Cl CM) (λg=> .mk λ_ _ fr k=>M.on (g [] fr.tmps) (GK fr a b k)) (Bw [] c)
 | .block id body=> .mk λ_ _ fr k=>goTo fr (.code body:: .inBlock id::k)
 | .loop body=> .mk λ_ _ fr k=>goTo fr (.code body:: .inLoop body::k)
 | .rangeFunc f ps as bd=>Cl.rec (motive:=λ_=>Cl CM) (λg=> .mk λcall _ fr k=>M.on (g [] fr.tmps) λf=>EV E call fr f ps as bd k) (Bw [] f)
 | .exit id=> .mk λ_ _ fr k=>EL fr (.exit id) (exitTo id k)
 | .scope body=> .mk λ_ _ fr k=>goTo fr (.code body:: .inScope body::k)
 | .label _=> .mk λ_ _ fr k=>goTo fr k
 | .goto l=> .mk λ_ _ fr k=>EL fr (.goto l) (gotoIn l k)
 | .ret=> .mk λ_ _ fr _=>En fr (some .ret)
 | .refuse _=> .mk λ_ _ _ _=>aA
def codeF (E:Env)(call round:Ah)(fr:AF)(k:List Item)(c:Code):M Step:=AF.rec (motive:=λ_=>M Step) (λfn n g tm todo mo ki ro=>Cl.rec (motive:=λ_=>M Step) (λf=>f call round (AF.mk fn n g tm todo mo ki ro) k) (Em E g n c)) fr
def MS (E:Env)(call round:Ah)(fr:AF)(k:List Item)(x:Item):M Step:=
 Item.rec (motive:=λ_=>M Step) (λc=>codeF E call round fr k c) (λ_=>goTo fr k) (λbody=>goTo fr (.code body:: .inLoop body::k)) (λ_=>goTo fr k) (λ_ _=>aA) (λ_=>aA) (λ_=>aA) (begR fr k) (λ_ _ _ _=>aA) (λ_ _=>aA) x
def skim:Nat->List Item->List Item
 |0,l=>l
 |n+1,l=>
  match l with
  | .code .skip::k=>skim n k
  | .code (.label _)::k=>skim n k
  | .inBlock _::k=>skim n k
  | .inScope _::k=>skim n k
  | .code (.seq a b)::k=>skim n (.code a:: .code b::k)
  | .code (.block id c)::k=>skim n (.code c:: .inBlock id::k)
  | .code (.loop c)::k=>skim n (.code c:: .inLoop c::k)
  | .inLoop c::k=>skim n (.code c:: .inLoop c::k)
  | .code (.scope c)::k=>skim n (.code c:: .inScope c::k)
  | .code (.exit id)::k=>(match exitTo id k with
   |some k'=>skim n k'
   |none=> .code (.exit id)::k)
  |l=>l
def Fs (E:Env)(call round:Ah)(fr:AF)(l:List Item):M Step:=
 List.rec (motive:=λ_=>M Step) (En fr none) (λx k _=>MS E call round fr k x) l
def DS (E:Env)(call round:Ah)(dcall:F8)(fr:AF):M Step:=
 AF.rec (motive:=λ_=>M Step) (λfn n g tm todo mo ki ro=>
  FrameMode.rec (motive:=λ_=>M Step) (noP (Fs E call round (AF.mk fn n g tm (skim 64 todo) mo ki ro) (skim 64 todo)))
   (CO E dcall (AF.mk fn n g tm todo mo ki ro)) (λ_=>CO E dcall (AF.mk fn n g tm todo mo ki ro)) mo) fr
def F9 (g:Nat)(ps:List Nat):List Value->T Value->T Value:=
 List.rec (motive:=λ_=>List Value->T Value->T Value) (λ_ t=>t) (λp _ ih l t=>match l with|v::l=>ih l (putG g p v t)|[]=>t) ps
def Gk (l:Nat)(args:List Value):M AF:=
 M.bind (rdC l) λc=>match c with
 | .O (.loop _ _ f n g tm ps as bd _)=>M.chk (Nat.beq args.length ps.length&&ps.all λp=>Nat.blt p n)
  (M.pure {fn:=f,n,glob:=g,tmps:=F9 g ps args tm,todo:=[.code as, .beginRound, .code bd],mode:= .run,kind:= .normal,roundOf:=some l})
 |_=>aA
def within {α:Type}(c:Ctx)(m:M α):M α:=λs=>St.rec (motive:=λ_=>R α) (λmem next lim rd wr cx=>
 R.rec (motive:=λ_=>R α) .none (λa s=>St.rec (motive:=λ_=>R α) (λmem next lim rd wr _=> .some a (St.mk mem next lim rd wr cx)) s)
  (λp s=>St.rec (motive:=λ_=>R α) (λmem next lim rd wr _=> .pan p (St.mk mem next lim rd wr cx)) s) (m (St.mk mem next lim rd wr c))) s
def cxN:Ctx:= .cx none (some [])
def cxR:Ctx:= .cx none none
def fstV (p:Value×FrameMode):M Value:=M.pure p.1
def Ab (E:Env)(ih:AF->M (Value×FrameMode))(f:Nat)(args:List Value):M Value:=
 Option.rec (motive:=λ_=>M Value) (Option.rec (motive:=λ_=>M Value) (within cxN (M.bind (M.bind (BA E f args .normal) ih) fstV)) (λm=>m args) (E.ext.get f)) (λm=>m args) (E.orc.get f)
def A9 (ih:AF->M (Value×FrameMode))(l:Nat)(args:List Value):M Value:=noP (within cxR (M.bind (M.bind (Gk l args) ih) fstV))
def upOf (c:Ctx):FrameMode:=match c with| .cx (some m) _=>m|_=> .run
def CZ (E:Env)(ih:AF->M (Value×FrameMode))(f:Nat)(args:List Value)(m:FrameMode):M (Option (List PanicEntry)×FrameMode):=
 within (.cx (some m) (some [])) (λs=>R.rec (motive:=λ_=>R (Option (List PanicEntry)×FrameMode)) .none (λp s=> .some (none,p.2) s) (λc s=> .some (some c,upOf s.cx) s) (M.bind (BA E f args .deferred) ih s))
def DO (ih:AF->M (Value×FrameMode))(r:Step):M (Value×FrameMode):=Step.rec (motive:=λ_=>M (Value×FrameMode)) (λfr=>ih fr) (λv u=>M.pure (v,u)) r
def runF (E:Env)(fuel:Nat):AF->M (Value×FrameMode):=
 Nat.rec (motive:=λ_=>AF->M (Value×FrameMode)) (λ_=>aA) (λ_ ih fr=>M.bind (DS E (Ab E ih) (A9 ih) (CZ E ih) fr) (DO ih)) fuel
def callF (E:Env)(fuel:Nat)(f:Nat)(args:List Value):M Value:=Ab E (runF E fuel) f args
theorem T.get_E {α:Type}(k:Nat):T.get (T.E:T α) k=none:=rfl
theorem aO {α:Type}(v:Option α)(l r:T α):T.get (T.N v l r) 0=v:=rfl
theorem PN (k:Nat):Nat.beq (Nat.mod k (nat_lit 2)) (nat_lit 0)=decide (k%2=0):=by
 show Nat.beq (k%2) 0=_
 by_cases h:k%2=0
 ·rw[h];rfl
 ·have h1:k%2=1:=by omega
  rw[h1];rfl
theorem aJ {α:Type}(v:Option α)(l r:T α)(k:Nat):T.get (T.N v l r) (k+1)=if k%2=0 then T.get l (k/2)else T.get r (k/2):=by
 show Bool.rec (motive:=λ_=>Nat->Option α) (T.get r) (T.get l) (Nat.beq (Nat.mod k (nat_lit 2)) (nat_lit 0)) (Nat.div k (nat_lit 2))=_
 rw[PN]
 by_cases h:k%2=0<;>simp only[h,decide_true,decide_false,if_true,if_false]<;>rfl
theorem T.one_N {α:Type}(x:Option α): ∀(fuel k:Nat),k<fuel-> ∃v l r,T.one x fuel k=T.N v l r/\ ∀j,T.get (T.N v l r) j=if j=k then x else none
 |0,k,h=>absurd h (Nat.not_lt_zero _)
 |n+1,0,_=>⟨x, .E, .E,rfl,λj=>by
   cases j with
   |zero=>rfl
   |succ j=>rw[aJ];simp[T.get_E]⟩
 |n+1,k+1,h=>by
  obtain⟨v,l,r,e,hg⟩:=T.one_N x n (k/2) (by omega)
  have e1:T.one x (n+1) (k+1)=if k%2=0 then T.N none (T.N v l r) .E else T.N none .E (T.N v l r):=by
   show T.rec (motive:=λ_=>T α) .E (λa b c _ _=>Bool.rec (motive:=λ_=>T α) (.N none .E (.N a b c)) (.N none (.N a b c) .E) (Nat.beq (Nat.mod k (nat_lit 2)) (nat_lit 0))) (T.one x n (Nat.div k (nat_lit 2)))=_
   rw[show T.one x n (Nat.div k (nat_lit 2))=T.N v l r from e,PN]
   by_cases h2:k%2=0<;>simp only[h2,decide_true,decide_false,if_true,if_false]
  by_cases h2:k%2=0
  ·rw[e1,if_pos h2]
   refine⟨_,_,_,rfl,λj=> ?_⟩
   cases j with
   |zero=>rw[aO,if_neg (by omega)]
   |succ j=>
    rw[aJ]
    by_cases h3:j%2=0
    ·rw[if_pos h3,hg];simp only[show(j/2=k/2)↔(j+1=k+1) by omega]
    ·rw[if_neg h3,T.get_E,if_neg (by omega)]
  ·rw[e1,if_neg h2]
   refine⟨_,_,_,rfl,λj=> ?_⟩
   cases j with
   |zero=>rw[aO,if_neg (by omega)]
   |succ j=>
    rw[aJ]
    by_cases h3:j%2=0
    ·rw[if_pos h3,T.get_E,if_neg (by omega)]
    ·rw[if_neg h3,hg];simp only[show(j/2=k/2)↔(j+1=k+1) by omega]
theorem T.setO_N {α:Type}(x:Option α): ∀(t:T α) (k:Nat),∃v l r,T.setO x t k=T.N v l r/\ ∀j,T.get (T.N v l r) j=if j=k then x else T.get t j
 | .E,k=>by
  obtain⟨v,l,r,e,hg⟩:=T.one_N x (k+1) k (by omega)
  exact⟨v,l,r,e,λj=>by rw[hg,T.get_E]⟩
 | .N v l r,0=>⟨x,l,r,rfl,λj=>by
   cases j with
   |zero=>rfl
   |succ j=>rw[aJ,aJ,if_neg (show ¬j+1=0 by omega)]⟩
 | .N v l r,k+1=>by
  obtain⟨a,b,c,e,hg⟩:=T.setO_N x l (k/2)
  obtain⟨a',b',c',e',hg'⟩:=T.setO_N x r (k/2)
  have e1:T.setO x (T.N v l r) (k+1)=if k%2=0 then T.N v (T.N a b c) r else T.N v l (T.N a' b' c'):=by
   show Bool.rec (motive:=λ_=>Nat->T α) (λk=>T.rec (motive:=λ_=>T α) .E (λa b c _ _=> .N v l (.N a b c)) (T.setO x r k)) (λk=>T.rec (motive:=λ_=>T α) .E (λa b c _ _=> .N v (.N a b c) r) (T.setO x l k)) (Nat.beq (Nat.mod k (nat_lit 2)) (nat_lit 0)) (Nat.div k (nat_lit 2))=_
   rw[PN]
   by_cases h2:k%2=0
   ·simp only[h2,decide_true,if_true]
    rw[show T.setO x l (Nat.div k (nat_lit 2))=T.N a b c from e]
   ·simp only[h2,decide_false,if_false]
    rw[show T.setO x r (Nat.div k (nat_lit 2))=T.N a' b' c' from e']
  by_cases h2:k%2=0
  ·rw[e1,if_pos h2]
   refine⟨_,_,_,rfl,λj=> ?_⟩
   cases j with
   |zero=>rw[aO,aO,if_neg (by omega)]
   |succ j=>
    rw[aJ,aJ]
    by_cases h3:j%2=0
    ·rw[if_pos h3,if_pos h3,hg];simp only[show(j/2=k/2)↔(j+1=k+1) by omega]
    ·rw[if_neg h3,if_neg h3,if_neg (by omega)]
  ·rw[e1,if_neg h2]
   refine⟨_,_,_,rfl,λj=> ?_⟩
   cases j with
   |zero=>rw[aO,aO,if_neg (by omega)]
   |succ j=>
    rw[aJ,aJ]
    by_cases h3:j%2=0
    ·rw[if_pos h3,if_pos h3,if_neg (by omega)]
    ·rw[if_neg h3,if_neg h3,hg'];simp only[show(j/2=k/2)↔(j+1=k+1) by omega]
theorem T.get_set {α:Type}(t:T α)(k:Nat)(x:α)(j:Nat):T.get (T.set t k x) j=if j=k then some x else T.get t j:=by
 obtain⟨v,l,r,e,hg⟩:=T.setO_N (some x) t k
 show T.get (T.setO (some x) t k) j=_
 rw[e,hg]
theorem aP {α:Type}(t:T α)(k:Nat)(j:Nat):T.get (T.del t k) j=if j=k then none else T.get t j:=by
 obtain⟨v,l,r,e,hg⟩:=T.setO_N none t k
 show T.get (T.setO none t k) j=_
 rw[e,hg]
theorem aU {α:Type}(t:T α)(k:Nat)(x:α): ∃v l r,T.set t k x=T.N v l r:=let ⟨v,l,r,e,_⟩:=T.setO_N (some x) t k;⟨v,l,r,e⟩
theorem Ao {β:Type}(n:Nat)(K:Nat->β):fN n K=K n:=by cases n<;>rfl
theorem BO {β:Type}(n:Int)(K:Int->β):fI n K=K n:=by
 cases n with
 |ofNat m=>show fN m (λm=>K (.ofNat m))=_;rw[Ao]
 |negSucc m=>show fN m (λm=>K (.negSucc m))=_;rw[Ao]
theorem QL_ {β:Type}(s:Option Nat)(K:Option Nat->β):fS s K=K s:=by cases s<;>rfl
theorem Cq {β:Type}(a:Addr)(K:Addr->β):fA a K=K a:=by
 obtain⟨b,o,s⟩:=a
 show fN b (λb=>fN o λo=>fS s λs=>K ⟨b,o,s⟩)=_
 rw[Ao,Ao,QL_]
theorem bind_some {α β:Type}{m:M α}{f:α->M β}{s:St}{b:β}{s':St}(h:M.bind m f s= .some b s'): ∃a s1,m s= .some a s1/\f a s1= .some b s':=by
 unfold M.bind at h
 cases e:m s with
 |none=>rw[e]at h;cases h
 |some a s1=>rw[e]at h;exact⟨a,s1,rfl,h⟩
 |pan c s1=>rw[e]at h;cases h
theorem Nl {α β:Type}{m:M α}{f:α->M β}{s:St}{c:List PanicEntry}{s':St}(h:M.bind m f s= .pan c s'):m s= .pan c s'\/ ∃a s1,m s= .some a s1/\f a s1= .pan c s':=by
 unfold M.bind at h
 cases e:m s with
 |none=>rw[e]at h;cases h
 |some a s1=>rw[e]at h;exact .inr ⟨a,s1,rfl,h⟩
 |pan c1 s1=>rw[e]at h;left;simpa using h
theorem Ac {α:Type}{a b:α}{s s':St}(h:M.pure a s= .some b s'):a=b/\s=s':=by cases h;exact⟨rfl,rfl⟩
theorem Dx {α:Type}{x:Option α}{b:α}{s s':St}(h:M.ofOpt x s= .some b s'):x=some b/\s=s':=by
 cases x with
 |none=>cases h
 |some a=>cases h;exact⟨rfl,rfl⟩
theorem A4 {α β:Type}{x:Option α}{f:α->M β}{b:β}{s s':St}(h:M.on x f s= .some b s'): ∃a,x=some a/\f a s= .some b s':=by
 cases x with
 |none=>cases h
 |some a=>exact⟨a,rfl,h⟩
theorem AN {α:Type}{b:Bool}{m:M α}{x:α}{s s':St}(h:M.chk b m s= .some x s'):b=true/\m s= .some x s':=by
 cases b with
 |false=>cases h
 |true=>exact⟨rfl,h⟩
theorem Dd {α:Type}(b:Bool)(m n:M α):aN b m n=if b then m else n:=by cases b<;>rfl
structure Tok where
 e:Nat
 b:Nat
 p:Nat
 sz:Nat
def Ic_:Nat->Nat->List Nat
 |0,_=>[]
 |k+1,n=>if n=0 then []else n%16::Ic_ k (n/16)
def Uc_ (d:Nat)(v:Value):Prop:=
 match d with
 |9=> ∃b,v= .bool b
 |10=> ∃p n c,v= .slice p n c
 |11=> ∃s,v= .string s
 |12=>oneCell v=true
 |d=> ∃k n,v= .int k n/\kNum k+1=d
def SlG (v:Value)(sh:List Nat)(w:World):Prop:=
 ∀p n c,v= .slice p n c->n=0\/ ∃b o,p=some ⟨b,o,none⟩/\b<w.heap.size/\n<4611686018427387904/\ ∀i j d,i<n->sh[j]?=some d-> ∃x,w.cell? ⟨b,o+i*sh.length+j,none⟩=some x/\Uc_ d x
structure Know where
 tv:Nat->Value
def Know.no:Know:=⟨λ_=> .nilFunc⟩
def Know.sure (K:Know)(w:World):Prop:= ∀b,SlG (K.tv b) (Ic_ 40 (b/1024)) w
theorem aY (w:World):Know.no.sure w:=λb p n c e=>by cases e
structure Inj where
 blk:Nat->Option (Nat×Nat)
 ext:Nat->Option Tok
 known:Know
def Inj.nil (K:Know):Inj:=⟨λ_=>none,λ_=>none,K⟩
structure Inj.le (r r':Inj):Prop where
 one: ∀b x,r.blk b=some x->r'.blk b=some x
 two: ∀t x,r.ext t=some x->r'.ext t=some x
 three:r'.known=r.known
theorem Inj.le_refl (r:Inj):r.le r:=⟨λ_ _ h=>h,λ_ _ h=>h,rfl⟩
theorem Inj.le_trans {a b c:Inj}(h:a.le b)(k:b.le c):a.le c:=⟨λx y e=>k.1 x y (h.1 x y e),λx y e=>k.2 x y (h.2 x y e),k.3.trans h.3⟩
def CapR (r:Inj)(b' o c c':Nat):Prop:=
 (c/capU=0/\c'=c)\/(c/capU≠0/\ ∃k,r.ext (c/capU/1024)=some k/\k.sz=c/capU%1024/\c'=c%capU+k.e/\k.b=b'/\o+(c%capU)*k.sz=k.p)
def FnR (r:Inj):Fn->Fn->Prop
 | .yield l, .yield l'=> ∃d,r.blk l=some (l',d)
 | .func f, .func f'=>f=f'
 |_,_=>False
def TopR (K:Know):Nat->Nat->Value->Prop
 |0,_,v=>oneCell v=true
 |1,b,v=> ∃k n,v= .int k n/\kNum k=b
 |2,_,v=> ∃b,v= .bool b
 |3,_,v=> ∃p n c,v= .slice p n c
 |4,_,v=> ∃s,v= .string s
 |5,b,v=>v=K.tv b/\ ∃p n c,v= .slice p n c
 |_,_,_=>False
theorem TopR.one {K:Know}{t b:Nat}{v:Value}(h:TopR K t b v):oneCell v=true:=by
 match t,h with
 |0,h=>exact h
 |1,⟨k,n,e,_⟩=>subst e;rfl
 |2,⟨b,e⟩=>subst e;rfl
 |3,⟨p,n,c,e⟩=>subst e;rfl
 |4,⟨s,e⟩=>subst e;rfl
 |5,⟨_,p,n,c,e⟩=>subst e;rfl
 |_+6,h=>exact h.elim
inductive VR (r:Inj):Value->Value->Prop
 |bool (b:Bool):VR r (.bool b) (.bool b)
 |int (k:IntKind) (n:Int):VR r (.int k n) (.int k n)
 |float (k:FloatKind) (n:Nat):VR r (.float k n) (.float k n)
 |complex {k:FloatKind} {a b:Nat} {v':Value}:TopR r.known a b v'->VR r (.complex k a b) v'
 |string (s:ByteArray):VR r (.string s) (.string s)
 |ptrNil:VR r (.pointer none) (.pointer none)
 |ptr {b o b' d:Nat}:r.blk b=some (b',d)->VR r (.pointer (some ⟨b,o,none⟩)) (.pointer (some ⟨b',o+d,none⟩))
 |slNil:VR r (.slice none 0 0) (.slice none 0 0)
 |sl {b o b' d l c c':Nat}:r.blk b=some (b',d)->CapR r b' (o+d) c c'->l<=c%capU->VR r (.slice (some ⟨b,o,none⟩) l c) (.slice (some ⟨b',o+d,none⟩) l c')
 |slEnd {a a':Addr} {c c':Nat}:c/capU≠0->c%capU=0->VR r (.slice (some a) 0 c) (.slice (some a') 0 c')
 |mapNil:VR r (.map none) (.map none)
 |map {m m' d:Nat}:r.blk m=some (m',d)->VR r (.map (some m)) (.map (some m'))
 |chanNil:VR r (.chan none) (.chan none)
 |iter {b b':Nat}:r.blk b=some (b',0)->VR r (.chan (some b)) (.pointer (some ⟨b',0,none⟩))
 |func {f f':Fn} {a a' c c':Array Value}:FnR r f f'->a.size=a'.size->(∀(i:Nat) v v',a[i]?=some v->a'[i]?=some v'->VR r v v')->
  c.size=c'.size->(∀(i:Nat) v v',c[i]?=some v->c'[i]?=some v'->VR r v v')->VR r (.func f a c) (.func f' a' c')
 |nilFunc:VR r .nilFunc .nilFunc
 |iface {t:TypeId} {v v':Value}:VR r v v'->VR r (.iface t v) (.iface t v')
 |nilIface:VR r .nilIface .nilIface
 |agg {c c':Array Value}:c.size=c'.size->(∀(i:Nat) v v',c[i]?=some v->c'[i]?=some v'->VR r v v')->VR r (.agg c) (.agg c')
 |tuple {c c':Array Value}:c.size=c'.size->(∀(i:Nat) v v',c[i]?=some v->c'[i]?=some v'->VR r v v')->VR r (.tuple c) (.tuple c')
theorem CapR.mono {r r':Inj}(h:r.le r'){b o c c':Nat}(k:CapR r b o c c'):CapR r' b o c c':=by
 rcases k with k|⟨h1,k,h2,h3⟩
 ·exact .inl k
 ·exact .inr ⟨h1,k,h.2 _ _ h2,h3⟩
theorem FnR.mono {r r':Inj}(h:r.le r'){f f':Fn}(k:FnR r f f'):FnR r' f f':=by
 cases f<;>cases f'<;>simp only[FnR]at k ⊢
 ·exact k
 ·obtain⟨d,k⟩:=k
  exact⟨d,h.1 _ _ k⟩
theorem VR.mono {r r':Inj}(h:r.le r'){v v':Value}(k:VR r v v'):VR r' v v':=by
 induction k with
 |bool b=>exact .bool b
 |int k n=>exact .int k n
 |float k n=>exact .float k n
 |complex e=>exact .complex (by rw[h.3];exact e)
 |string s=>exact .string s
 |ptrNil=>exact .ptrNil
 |ptr e=>exact .ptr (h.1 _ _ e)
 |slNil=>exact .slNil
 |sl e c l=>exact .sl (h.1 _ _ e) (c.mono h) l
 |slEnd a b=>exact .slEnd a b
 |mapNil=>exact .mapNil
 |map e=>exact .map (h.1 _ _ e)
 |chanNil=>exact .chanNil
 |iter e=>exact .iter (h.1 _ _ e)
 |func f a _ c _ i1 i2=>exact .func (f.mono h) a i1 c i2
 |nilFunc=>exact .nilFunc
 |iface _ i=>exact .iface i
 |nilIface=>exact .nilIface
 |agg a _ i=>exact .agg a i
 |tuple a _ i=>exact .tuple a i
def VRs (r:Inj)(l l':List Value):Prop:=l.length=l'.length/\ ∀(i:Nat) v v',l[i]?=some v->l'[i]?=some v'->VR r v v'
theorem VRs.nil {r:Inj}:VRs r [] []:=⟨rfl,λi v v' h=>by simp at h⟩
theorem VRs.cons {r:Inj}{v v':Value}{l l':List Value}(h:VR r v v')(k:VRs r l l'):VRs r (v::l) (v'::l'):=
 ⟨by simp[k.1],λi a a' e e'=>by
  cases i with
  |zero=>simp at e e';subst e;subst e';exact h
  |succ i=>simp at e e';exact k.2 i a a' e e'⟩
theorem VRs.inv {r:Inj}{v:Value}{l m:List Value}(h:VRs r (v::l) m): ∃v' l',m=v'::l'/\VR r v v'/\VRs r l l':=by
 cases m with
 |nil=>have:=h.1;simp at this
 |cons v' l'=>exact⟨v',l',rfl,h.2 0 v v' rfl rfl,by simpa using h.1,λi a a' e e'=>h.2 (i+1) a a' (by simpa using e) (by simpa using e')⟩
theorem VRs.inv_nil {r:Inj}{m:List Value}(h:VRs r [] m):m=[]:=List.eq_nil_of_length_eq_zero h.1.symm
theorem VRs.mono {r r':Inj}(h:r.le r'){l l':List Value}(k:VRs r l l'):VRs r' l l':=⟨k.1,λi v v' e e'=>(k.2 i v v' e e').mono h⟩
theorem VRs.append {r:Inj}{a a' b b':List Value}(h:VRs r a a')(k:VRs r b b'):VRs r (a++b) (a'++b'):=
 ⟨by simp[h.1,k.1],λi v v' e e'=>by
  by_cases hi:i<a.length
  ·rw[List.getElem?_append_left hi]at e
   rw[List.getElem?_append_left (by rw[<-h.1];exact hi)]at e'
   exact h.2 i v v' e e'
  ·rw[List.getElem?_append_right (by omega)]at e
   rw[List.getElem?_append_right (by rw[<-h.1];omega),<-h.1]at e'
   exact k.2 _ v v' e e'⟩
theorem VRs.take {r:Inj}{a a':List Value}(h:VRs r a a')(n:Nat):VRs r (a.take n) (a'.take n):=
 ⟨by simp[h.1],λi v v' e e'=>by
  rw[List.getElem?_take]at e e'
  by_cases hi:i<n
  ·rw[if_pos hi]at e e'
   exact h.2 i v v' e e'
  ·rw[if_neg hi]at e
   cases e⟩
theorem VRs.drop {r:Inj}{a a':List Value}(h:VRs r a a')(n:Nat):VRs r (a.drop n) (a'.drop n):=
 ⟨by simp[h.1],λi v v' e e'=>by
  rw[List.getElem?_drop]at e e'
  exact h.2 _ v v' e e'⟩
theorem VRs.get {r:Inj}{a a':List Value}(h:VRs r a a'){i:Nat}{v:Value}(e:a[i]?=some v): ∃v',a'[i]?=some v'/\VR r v v':=by
 have hi:i<a.length:=(List.getElem?_eq_some_iff.1 e).1
 have hi':i<a'.length:=by rw[<-h.1];exact hi
 exact⟨a'[i],List.getElem?_eq_getElem hi',h.2 i v _ e (List.getElem?_eq_getElem hi')⟩
theorem aX {r:Inj}{c c':Array Value}(h:c.size=c'.size)(k: ∀(i:Nat) v v',c[i]?=some v->c'[i]?=some v'->VR r v v'):VRs r c.toList c'.toList:=
 ⟨by simpa using h,λi v v' e e'=>k i v v' (by simpa using e) (by simpa using e')⟩
theorem VRs.agg {r:Inj}{l l':List Value}(h:VRs r l l'):VR r (.agg l.toArray) (.agg l'.toArray):= .agg (by simpa using h.1) λi v v' e e'=>h.2 i v v' (by simpa using e) (by simpa using e')
theorem VRs.tuple {r:Inj}{l l':List Value}(h:VRs r l l'):VR r (.tuple l.toArray) (.tuple l'.toArray):= .tuple (by simpa using h.1) λi v v' e e'=>h.2 i v v' (by simpa using e) (by simpa using e')
theorem VR.undef {r:Inj}:VR r undef undef:= .tuple rfl (λi v v' e=>by simp at e)
theorem Ke {n:Nat}{c:Array Value}(h:c.toList.all (AZ n)=true): ∀x∈c,AZ n x=true:=λx hx=>List.all_eq_true.1 h x (by simpa using hx)
theorem aZ {r:Inj}: ∀(n:Nat) (v:Value),AZ n v=true->VR r v v
 |_, .bool b,_=> .bool b
 |_, .int k n,_=> .int k n
 |_, .float k n,_=> .float k n
 |n, .complex k a b,h=>by cases n<;>simp[AZ]at h
 |_, .string s,_=> .string s
 |_, .pointer none,_=> .ptrNil
 |n, .pointer (some a),h=>by cases n<;>simp[AZ]at h
 |n, .slice a l c,h=>by
  cases a with
  |some a=>cases n<;>simp[AZ]at h
  |none=>
   have:l=0/\c=0:=by
    cases l<;>cases c<;>cases n<;>simp[AZ]at h ⊢
   obtain⟨rfl,rfl⟩:=this
   exact .slNil
 |_, .map none,_=> .mapNil
 |n, .map (some a),h=>by cases n<;>simp[AZ]at h
 |_, .chan none,_=> .chanNil
 |n, .chan (some a),h=>by cases n<;>simp[AZ]at h
 |n, .func f a c,h=>by
  have:(∃g,f= .func g)/\a= #[]/\c= #[]:=by
   cases f<;>cases n<;>simp[AZ]at h ⊢ <;>exact h
  obtain⟨⟨g,rfl⟩,rfl,rfl⟩:=this
  exact .func rfl rfl (λi v v' e=>by simp at e) rfl (λi v v' e=>by simp at e)
 |_, .nilFunc,_=> .nilFunc
 |n+1, .iface t v,h=> .iface (aZ n v (by simpa [AZ]using h))
 |0, .iface t v,h=>by simp[AZ]at h
 |_, .nilIface,_=> .nilIface
 |n+1, .agg c,h=> .agg rfl λi v v' e e'=>by
  have h1: ∀x∈c,AZ n x=true:=Ke h
  rw[e]at e'
  cases e'
  exact aZ n v (h1 v (Array.mem_of_getElem? e))
 |0, .agg c,h=>by simp[AZ]at h
 |n+1, .tuple c,h=> .tuple rfl λi v v' e e'=>by
  have h1: ∀x∈c,AZ n x=true:=Ke h
  rw[e]at e'
  cases e'
  exact aZ n v (h1 v (Array.mem_of_getElem? e))
 |0, .tuple c,h=>by simp[AZ]at h
theorem Il_ {_r:Inj}{c c':Array Value}(h:c.size=c'.size)(k: ∀(i:Nat) v v',c[i]?=some v->c'[i]?=some v'->v'=v):c'=c:=by
 apply Array.ext h.symm
 intro i h1 h2
 exact k i _ _ (Array.getElem?_eq_getElem h2) (Array.getElem?_eq_getElem h1)
theorem VR.plain_eq {r:Inj}{v v':Value}(h:VR r v v'): ∀n,AZ n v=true->v'=v:=by
 induction h with
 |complex e=>intro n h;cases n<;>simp[AZ]at h
 |bool|int|float|string|ptrNil|slNil|mapNil|chanNil|nilFunc|nilIface=>exact λ_ _=>rfl
 |ptr e=>intro n h;cases n<;>simp[AZ]at h
 |sl e c l=>intro n h;cases n<;>simp[AZ]at h
 |slEnd=>intro n h;cases n<;>simp[AZ]at h
 |iter e=>intro n h;cases n<;>simp[AZ]at h
 |map e=>intro n h;cases n<;>simp[AZ]at h
 | @func f f' a a' c c' hf h1 _ h2 _ _ _=>
  intro n h
  have:(∃g,f= .func g)/\a= #[]/\c= #[]:=by
   cases f<;>cases n<;>simp[AZ]at h ⊢ <;>exact h
  obtain⟨⟨g,rfl⟩,rfl,rfl⟩:=this
  cases f'<;>simp[FnR]at hf
  subst hf
  have e1:a'= #[]:=by simpa using h1.symm
  have e2:c'= #[]:=by simpa using h2.symm
  rw[e1,e2]
 |iface _ ih=>
  intro n h
  cases n with
  |zero=>simp[AZ]at h
  |succ n=>rw[ih n (by simpa [AZ]using h)]
 | @agg c c' hs _ ih=>
  intro n h
  cases n with
  |zero=>simp[AZ]at h
  |succ n=>
   have h1: ∀x∈c,AZ n x=true:=Ke h
   rw[Il_ (_r:=r) hs λi v v' e e'=>ih i v v' e e' n (h1 v (Array.mem_of_getElem? e))]
 | @tuple c c' hs _ ih=>
  intro n h
  cases n with
  |zero=>simp[AZ]at h
  |succ n=>
   have h1: ∀x∈c,AZ n x=true:=Ke h
   rw[Il_ (_r:=r) hs λi v v' e e'=>ih i v v' e e' n (h1 v (Array.mem_of_getElem? e))]
theorem VR.of_plain {r:Inj}{v:Value}(h:plain v=true):VR r v v:=aZ 4 v h
theorem VR.eq_of_plain {r:Inj}{v v':Value}(k:VR r v v')(h:plain v=true):v'=v:=k.plain_eq 4 h
