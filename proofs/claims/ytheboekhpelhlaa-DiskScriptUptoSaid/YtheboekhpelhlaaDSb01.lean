import GoSem.Step
import Derived.Laws.World
import Derived.Laws.Sem
import Derived.Laws.Cells
import Derived.Laws.NewBlocks
import Derived.Laws.IdiomCopy
import Derived.Below
noncomputable section
namespace Go.Proofs.Ytheboekhpelhlaa
theorem J{p:Prop}(h:p:=by omega):p:=h
theorem al{p:Prop}(h:p:=by decide):p:=h
theorem am{p:Prop}(h:p:=by simp):p:=h
end Go.Proofs.Ytheboekhpelhlaa
namespace Go.Proofs.Ytheboekhpelhlaa.Am
inductive T (α:Type) where
 |E:T α
 |N:Option α->T α->T α->T α
def T.get {α:Type}(t:T α):Nat->Option α:=
 T.rec (motive:=λ_=>Nat->Option α) (λ_=>none) (λv _ _ gl gr k=>Nat.rec (motive:=λ_=>Option α) v (λk' _=>
  Bool.rec (motive:=λ_=>Nat->Option α) gr gl (Nat.beq (Nat.mod k' (nat_lit 2)) (nat_lit 0)) (Nat.div k' (nat_lit 2))) k) t
def T.one {α:Type}(x:Option α)(fuel:Nat):Nat->T α:=
 Nat.rec (motive:=λ_=>Nat->T α) (λ_=> .E) (λ_ ih k=>Nat.rec (motive:=λ_=>T α) (T.N x .E .E) (λk' _=>
  T.rec (motive:=λ_=>T α) .E (λa b c _ _=>Bool.rec (motive:=λ_=>T α) (.N none .E (.N a b c)) (.N none (.N a b c) .E) (Nat.beq (Nat.mod k' (nat_lit 2)) (nat_lit 0))) (ih (Nat.div k' (nat_lit 2)))) k) fuel
def T.setO {α:Type}(x:Option α)(t:T α):Nat->T α:=
 T.rec (motive:=λ_=>Nat->T α) (λk=>T.one x (Nat.succ k) k) (λv l r sl sr k=>Nat.rec (motive:=λ_=>T α) (T.N x l r) (λk' _=>
  Bool.rec (motive:=λ_=>Nat->T α) (λk=>T.rec (motive:=λ_=>T α) .E (λa b c _ _=> .N v l (.N a b c)) (sr k)) (λk=>T.rec (motive:=λ_=>T α) .E (λa b c _ _=> .N v (.N a b c) r) (sl k)) (Nat.beq (Nat.mod k' (nat_lit 2)) (nat_lit 0)) (Nat.div k' (nat_lit 2))) k) t
def T.set {α:Type}(t:T α)(k:Nat)(x:α):T α:=T.setO (some x) t k
def aY {α:Type}(t:T α)(k:Nat):T α:=T.setO none t k
def fN {β:Type}(n:Nat)(K:Nat->β):β:=Nat.rec (motive:=λ_=>β) (K (nat_lit 0)) (λm _=>K (Nat.succ m)) n
def fI {β:Type}(n:Int)(K:Int->β):β:=Int.rec (motive:=λ_=>β) (λm=>fN m λm=>K (.ofNat m)) (λm=>fN m λm=>K (.negSucc m)) n
def fS {β:Type}(s:Option Nat)(K:Option Nat->β):β:=Option.rec (motive:=λ_=>β) (K none) (λs=>K (some s)) s
def fA {β:Type}(a:Addr)(K:Addr->β):β:=Addr.rec (motive:=λ_=>β) (λb o s=>fN b λb=>fN o λo=>fS s λs=>K ⟨b,o,s⟩) a
def fP {β:Type}(a:Option Addr)(K:Option Addr->β):β:=Option.rec (motive:=λ_=>β) (K none) (λa=>fA a λa=>K (some a)) a
def Ch {β:Type}(v:Value)(f:IntKind->Int->β)(d:β):β:=
 Value.rec (motive_1:=λ_=>β) (motive_2:=λ_=>PUnit) (motive_3:=λ_=>PUnit) (λ_=>d) f (λ_ _=>d) (λ_ _ _=>d) (λ_=>d) (λ_=>d) (λ_ _ _=>d) (λ_=>d) (λ_=>d) (λ_ _ _ _ _=>d) d (λ_ _ _=>d) d (λ_ _=>d) (λ_ _=>d) (λ_ _=>⟨⟩) ⟨⟩ (λ_ _ _ _=>⟨⟩) v
inductive AObj where
 |loop (state:LoopState) (pending:Option Code) (fn:Nat) (n:Nat) (glob:Nat) (tmps:T Value) (params:List Nat) (assign body:Code) (defers:Nat)
 |deferred (calls:Option (List Deferred))
 |map (es:List MapEntry) (clock:Nat)
 |sit (s:ByteArray) (pos:Nat)
 |tok (used:Bool) (size:Nat)
 |old (blk:Nat) (v:Value)
inductive Cell where
 |C (blk:Nat) (v:Value)
 |O (o:AObj)
inductive Ctx where
 |no
 |cx (up:Option FrameMode) (dfs:Option (List Deferred))
structure St where
 mem:T Cell
 next:Nat
 lim:Nat
 rd:List Nat
 wr:List Nat
 cx:Ctx
inductive R (α:Type) where
 |none:R α
 |some:α->St->R α
 |pan:List PanicEntry->St->R α
def M (α:Type):Type:=St->R α
def M.pure {α:Type}(a:α):M α:=λs=> .some a s
def M.bind {α β:Type}(m:M α)(f:α->M β):M β:=λs=>R.rec (motive:=λ_=>R β) .none (λa s=>f a s) (λc s=> .pan c s) (m s)
def aC {α:Type}:M α:=λ_=> .none
def M.ofOpt {α:Type}(x:Option α):M α:=Option.rec (motive:=λ_=>M α) aC (λa=>M.pure a) x
def M.on {α β:Type}(x:Option α)(f:α->M β):M β:=Option.rec (motive:=λ_=>M β) aC f x
def aT {α:Type}(b:Bool)(x y:M α):M α:=Bool.rec (motive:=λ_=>M α) y x b
def M.chk {α:Type}(b:Bool)(x:M α):M α:=Bool.rec (motive:=λ_=>M α) aC x b
def notes (loc lim:Nat)(l:List Nat):List Nat:=Bool.rec (motive:=λ_=>List Nat) l (loc::l) (Nat.blt loc lim)
def rdC (loc:Nat):M Cell:=λs=>
 St.rec (motive:=λ_=>R Cell) (λmem next lim rd wr cx=>
  Bool.rec (motive:=λ_=>R Cell) .none (Option.rec (motive:=λ_=>R Cell) .none (λc=>R.some c (St.mk mem next lim (notes loc lim rd) wr cx)) (T.get mem loc)) (Nat.blt loc next)) s
def wrC (loc:Nat)(c:Cell):M Unit:=λs=>
 St.rec (motive:=λ_=>R Unit) (λmem next lim rd wr cx=>
  Bool.rec (motive:=λ_=>R Unit) .none (T.rec (motive:=λ_=>R Unit) .none (λa b d _ _=>R.some () (St.mk (.N a b d) next lim rd (notes loc lim wr) cx)) (T.set mem loc c)) (Nat.blt loc next)) s
def delC (loc:Nat):M Unit:=λs=>
 St.rec (motive:=λ_=>R Unit) (λmem next lim rd wr cx=>
  Bool.rec (motive:=λ_=>R Unit) .none (R.some () (St.mk (aY mem loc) next lim rd (notes loc lim wr) cx)) (Nat.blt loc next)) s
def oldV (b:Nat)(o:AObj):Option Value:=
 match o with
 | .old blk v=>Bool.rec (motive:=λ_=>Option Value) none (some v) (Nat.beq blk b)
 |_=>none
def RI (b:Nat)(c:Cell):Option Value:=Cell.rec (motive:=λ_=>Option Value) (λblk v=>Bool.rec (motive:=λ_=>Option Value) none (some v) (Nat.beq blk b)) (λo=>oldV b o) c
def rdV (a:Addr):M Value:=Addr.rec (motive:=λ_=>M Value) (λb o s=>Option.rec (motive:=λ_=>M Value) (M.bind (rdC (Nat.add b o)) λc=>M.ofOpt (RI b c)) (λ_=>aC) s) a
def oneCell:Value->Bool
 | .agg _| .tuple _=>false
 |_=>true
def AgK_ (b:Nat)(c:Cell):Bool:=Cell.rec (motive:=λ_=>Bool) (λblk _=>Nat.beq blk b) (λ_=>false) c
def wrV (a:Addr)(v:Value):M Unit:=
 Addr.rec (motive:=λ_=>M Unit) (λb o s=>Option.rec (motive:=λ_=>M Unit)
  (M.bind (rdC (Nat.add b o)) λc=>M.chk (AgK_ b c&&oneCell v) (wrC (Nat.add b o) (.C b v))) (λ_=>aC) s) a
def layL (b:Nat)(vs:List Value):Nat->T Cell->T Cell:=
 List.rec (motive:=λ_=>Nat->T Cell->T Cell) (λ_ t=>t) (λv _ ih loc t=>fN loc λloc=>ih (Nat.succ loc) (T.set t loc (.C b v))) vs
def newL (vs:List Value):M Nat:=λs=>
 St.rec (motive:=λ_=>R Nat) (λmem next lim rd wr cx=>fN next λb=>fN (Nat.succ (Nat.add b vs.length)) λn=>R.some b (St.mk (layL b vs b mem) n lim rd wr cx)) s
def newO (o:AObj):M Nat:=λs=>
 St.rec (motive:=λ_=>R Nat) (λmem next lim rd wr cx=>fN next λb=>fN (Nat.succ b) λn=>R.some b (St.mk (T.set mem b (.O o)) n lim rd wr cx)) s
def rdL (n:Nat):Addr->M (List Value):=
 Nat.rec (motive:=λ_=>Addr->M (List Value)) (λ_=>M.pure []) (λ_ ih a=>fA a λa=>M.bind (rdV a) λv=>M.bind (ih ⟨a.block,Nat.succ a.off,a.spot⟩) λl=>M.pure (v::l)) n
def wrL (vs:List Value):Addr->M Unit:=
 List.rec (motive:=λ_=>Addr->M Unit) (λ_=>M.pure ()) (λv _ ih a=>fA a λa=>M.bind (wrV a v) λ_=>ih ⟨a.block,Nat.succ a.off,a.spot⟩) vs
def Lf:M Ctx:=λs=>St.rec (motive:=λ_=>R Ctx) (λmem next lim rd wr cx=> .some cx (St.mk mem next lim rd wr cx)) s
def JT (c:Ctx):M Unit:=λs=>St.rec (motive:=λ_=>R Unit) (λmem next lim rd wr _=> .some () (St.mk mem next lim rd wr c)) s
structure TI where
 u:TypeDesc
 size:Nat
 agg:Bool
 zero:List Value
 bytes:Nat
structure Env where
 P:Program
 ty:T TI
 fn:T Func
 orc:T (List Value->M Value)
 ext:T (List Value->M Value)
def ti (E:Env)(t:Nat):M TI:=M.ofOpt (T.get E.ty t)
def A1:Nat->Value->Bool
 |_, .bool _|_, .int _ _|_, .float _ _|_, .string _|_, .pointer none|_, .slice none 0 0|_, .map none|_, .chan none|_, .nilFunc|_, .nilIface=>true
 |_, .func (.func _) f c=>f.isEmpty&&c.isEmpty
 |n+1, .iface _ v=>A1 n v
 |n+1, .agg cs=>cs.toList.all (A1 n)
 |n+1, .tuple cs=>cs.toList.all (A1 n)
 |_,_=>false
def plain (v:Value):Bool:=A1 4 v
def semP {α:Type}(P:Program)(s:Sem α):Option α:=
 Sem.rec (motive:=λ_=>Option α) (λa=>some a) (λ_ _ _ _=>none) (λ_ _ _ _ _=>none) (λ_ _ _=>none) (λ_ _ _=>none) (λ_ _ _ _=>none) (λ_ _ _=>none) (λ_ _ _=>none) (λ_ _ _ _=>none) (λ_ _ _=>none) (λ_ _ _=>none) (λ_ ih=>ih P) (λ_ _ _=>none) (λ_=>none) s
inductive Cl (α:Type) where
 |mk (f:α)
abbrev Rho:Type:=List Value
abbrev G (α:Type):Type:=Rho->T Value->Option α
def onO {α β:Type}(x:Option α)(K:α->Option β):Option β:=Option.rec (motive:=λ_=>Option β) none K x
def nth0:Rho->Option Value:=λl=>List.rec (motive:=λ_=>Option Value) none (λv _ _=>some v) l
def nthC (d:Nat):Cl (Rho->Option Value):=Nat.rec (motive:=λ_=>Cl (Rho->Option Value)) (.mk nth0)
 (λ_ ih=>Cl.rec (motive:=λ_=>Cl (Rho->Option Value)) (λg=> .mk λl=>List.rec (motive:=λ_=>Option Value) none (λ_ r _=>g r) l) ih) d
def Gq (t:Nat)(ds:List Nat):Option Nat:=List.rec (motive:=λ_=>Option Nat) none (λd _ ih=>Bool.rec (motive:=λ_=>Option Nat) (Option.rec (motive:=λ_=>Option Nat) none (λn=>some (Nat.succ n)) ih) (some 0) (Nat.beq d t)) ds
def Pg (ds:List Nat)(t:Nat):Cl (G Value):=
 Option.rec (motive:=λ_=>Cl (G Value)) (.mk λ_ tm=>T.get tm t) (λd=>Cl.rec (motive:=λ_=>Cl (G Value)) (λg=> .mk λr _=>g r) (nthC d)) (Gq t ds)
def BW (ds:List Nat)(x:Operand):Cl (G Value):=
 Operand.rec (motive:=λ_=>Cl (G Value)) (λt=>Pg ds t) (λv=>Bool.rec (motive:=λ_=>Cl (G Value)) (.mk λ_ _=>none) (.mk λ_ _=>some v) (plain v)) (λ_=> .mk λ_ _=>none) (λf=> .mk λ_ _=>some (.func (.func f) #[] #[])) x
def Gr (ds:List Nat)(l:List Operand):Cl (G (List Value)):=
 List.rec (motive:=λ_=>Cl (G (List Value))) (.mk λ_ _=>some []) (λx _ ih=>Cl.rec (motive:=λ_=>Cl (G (List Value))) (λg=>Cl.rec (motive:=λ_=>Cl (G (List Value))) (λh=> .mk λr tm=>onO (g r tm) λv=>onO (h r tm) λl=>some (v::l)) ih) (BW ds x)) l
def JM (ds:List Nat)(l:List (Nat×Operand)):Cl (G (List (Nat×Value))):=
 List.rec (motive:=λ_=>Cl (G (List (Nat×Value)))) (.mk λ_ _=>some []) (λx _ ih=>Cl.rec (motive:=λ_=>Cl (G (List (Nat×Value)))) (λg=>Cl.rec (motive:=λ_=>Cl (G (List (Nat×Value)))) (λh=> .mk λr tm=>onO (g r tm) λv=>onO (h r tm) λl=>some ((x.1,v)::l)) ih) (BW ds x.2)) l
def Lj (ds:List Nat)(x:Option Operand):Cl (G (Option Value)):=
 Option.rec (motive:=λ_=>Cl (G (Option Value))) (.mk λ_ _=>some none) (λo=>Cl.rec (motive:=λ_=>Cl (G (Option Value))) (λg=> .mk λr tm=>onO (g r tm) λv=>some (some v)) (BW ds o)) x
def GG (k:IntKind)(n:Int)(m:Nat)(r:Int):Int:=Bool.rec (motive:=λ_=>Int) (k.wrap n) r (Nat.ble m 9223372036854775807)
def wrap64 (n:Int):Int:=Int.rec (motive:=λ_=>Int) (λm=>GG .i64 n m (.ofNat m)) (λm=>GG .i64 n m (.negSucc m)) n
def JL (k:IntKind)(q:Nat)(n:Int):Int:=Int.rec (motive:=λ_=>Int) (λm=> .ofNat (m%q)) (λ_=>k.wrap n) n
def KC (k:IntKind)(n:Int):Int:=
 match k with
 | .i64=>wrap64 n
 | .u32=>JL .u32 4294967296 n
 | .u8=>JL .u8 256 n
 | .u64=>JL .u64 18446744073709551616 n
 |k=>k.wrap n
def refB (u:TypeDesc)(x y:Value):Option Bool:=
 match u,x,y with
 | .pointer _, .pointer none, .pointer b=>some b.isNone
 | .pointer _, .pointer (some _), .pointer none=>some false
 | .slice _, .slice none _ _, .slice b _ _=>some b.isNone
 | .slice _, .slice (some _) _ _, .slice none _ _=>some false
 | .map _ _, .map none, .map b=>some b.isNone
 | .map _ _, .map (some _), .map none=>some false
 | .func _ _ _, .nilFunc, .func _ _ _=>some false
 | .func _ _ _, .func _ _ _, .nilFunc=>some false
 | .interface _, .nilIface, .iface _ _=>some false
 | .interface _, .iface _ _, .nilIface=>some false
 | .interface _, .iface a _, .iface b _=>Bool.rec (motive:=λ_=>Option Bool) (some false) none (Nat.beq a b)
 |_,_,_=>none
def Fz (E:Env)(op:BinOp)(t:Nat)(x y:Value):M Value:=
 M.bind (ti E t) λi=>M.on (refB i.u x y) λb=>match op with
 | .eql=>M.pure (.bool b)
 | .neq=>M.pure (.bool !b)
 |_=>aC
def pV (v:Value):M Value:=Ch v (λk n=>fI n λn=>M.pure (.int k n)) (M.chk (plain v) (M.pure v))
def kNum (k:IntKind):Nat:=IntKind.rec (motive:=λ_=>Nat) (nat_lit 0) (nat_lit 1) (nat_lit 2) (nat_lit 3) (nat_lit 4) (nat_lit 5) (nat_lit 6) (nat_lit 7) k
def topB:Value:= .complex .f32 2 0
def isU (x:Value):Bool:=
 match x with
 | .complex _ 1 _=>true
 |_=>false
def kOf (x:Value):Option Nat:=
 match x with
 | .int k _=>some (kNum k)
 | .complex _ 1 b=>some b
 |_=>none
def GO (op:BinOp)(a:Nat):M Value:=
 match op with
 | .add| .sub| .mul| .and| .or| .xor=>M.pure (.complex .f32 1 a)
 | .eql| .neq| .lss| .leq| .gtr| .geq=>M.pure topB
 |_=>aC
def Hw (op:BinOp)(x y:Value):M Value:=M.on (kOf x) λa=>M.on (kOf y) λb=>M.chk (Nat.beq a b) (GO op a)
def AJ (E:Env)(op:BinOp)(t:Nat)(xo yo:Operand)(x y:Value):M Value:=
 aT (plain x&&plain y) (M.on (semP E.P (do eqGuard op t xo yo x y;binOp op t x y)) pV) (aT (isU x||isU y) (Hw op x y) (Fz E op t x y))
def ltI (a b:Int):Bool:=Int.rec (motive:=λ_=>Bool) (λm=>Int.rec (motive:=λ_=>Bool) (λn=>Nat.blt m n) (λ_=>false) b) (λm=>Int.rec (motive:=λ_=>Bool) (λ_=>true) (λn=>Nat.blt n m) b) a
def eqI (a b:Int):Bool:=Int.rec (motive:=λ_=>Bool) (λm=>Int.rec (motive:=λ_=>Bool) (λn=>Nat.beq m n) (λ_=>false) b) (λm=>Int.rec (motive:=λ_=>Bool) (λ_=>false) (λn=>Nat.beq m n) b) a
def addI (a b:Int):Int:=Int.rec (motive:=λ_=>Int) (λm=>Int.rec (motive:=λ_=>Int) (λn=> .ofNat (m+n)) (λn=> .ofNat m+ .negSucc n) b) (λm=> .negSucc m+b) a
def subI (a b:Int):Int:=Int.rec (motive:=λ_=>Int) (λm=>Int.rec (motive:=λ_=>Int) (λn=>Bool.rec (motive:=λ_=>Int) (.ofNat m- .ofNat n) (.ofNat (m-n)) (Nat.ble n m)) (λn=> .ofNat m- .negSucc n) b) (λm=> .negSucc m-b) a
def DA (k:IntKind):Bool:=IntKind.rec (motive:=λ_=>Bool) false false false true false false false false k
def rI (n:Int)(s:St):R Value:=fI (wrap64 n) λn=> .some (.int .i64 n) s
def rB (b:Bool)(s:St):R Value:=Bool.rec (motive:=λ_=>R Value) (.some (.bool false) s) (.some (.bool true) s) b
def pB (b:Bool):M Value:=λs=>rB b s
def int2 (f:Int->Int->St->R Value)(slow:Value->Value->M Value):Value->Value->M Value:=λx y s=>
 Ch x (λk a=>Ch y (λk' b=>Bool.rec (motive:=λ_=>R Value) (slow x y s) (Bool.rec (motive:=λ_=>R Value) (slow x y s) (f a b s) (DA k')) (DA k)) (slow x y s)) (slow x y s)
def mxOf (k:IntKind):Nat:=IntKind.rec (motive:=λ_=>Nat) (nat_lit 127) (nat_lit 32767) (nat_lit 2147483647) (nat_lit 9223372036854775807) (nat_lit 255) (nat_lit 65535) (nat_lit 4294967295) (nat_lit 18446744073709551615) k
def qOf (k:IntKind):Nat:=IntKind.rec (motive:=λ_=>Nat) (nat_lit 0) (nat_lit 0) (nat_lit 0) (nat_lit 0) (nat_lit 256) (nat_lit 65536) (nat_lit 4294967296) (nat_lit 18446744073709551616) k
def btOf (k:IntKind):Nat:=IntKind.rec (motive:=λ_=>Nat) (nat_lit 8) (nat_lit 16) (nat_lit 32) (nat_lit 64) (nat_lit 8) (nat_lit 16) (nat_lit 32) (nat_lit 64) k
def mkI (k:IntKind)(r:Nat):Option Value:=fN r λr=>some (.int k (.ofNat r))
def fitI (k:IntKind)(r:Nat):Option Value:=Bool.rec (motive:=λ_=>Option Value) (Bool.rec (motive:=λ_=>Option Value) (mkI k (Nat.mod r (qOf k))) none (Nat.beq (qOf k) (nat_lit 0))) (mkI k r) (Nat.ble r (mxOf k))
def B0 (k k':IntKind)(x:Option Value):Option Value:=Bool.rec (motive:=λ_=>Option Value) none x (Nat.beq (kNum k) (kNum k'))
def sOpt (b:Bool)(x:Option Value):Option Value:=Bool.rec (motive:=λ_=>Option Value) none x b
def mkB (b:Bool):Option Value:=Bool.rec (motive:=λ_=>Option Value) (some (.bool false)) (some (.bool true)) b
abbrev Cc:Type:=IntKind->IntKind->Nat->Nat->Option Value
def addK:Cc:=λk k' m n=>B0 k k' (fitI k (Nat.add m n))
def mulK:Cc:=λk k' m n=>B0 k k' (fitI k (Nat.mul m n))
def andK:Cc:=λk k' m n=>B0 k k' (fitI k (Nat.land m n))
def orK:Cc:=λk k' m n=>B0 k k' (fitI k (Nat.lor m n))
def xorK:Cc:=λk k' m n=>B0 k k' (fitI k (Nat.xor m n))
def subK:Cc:=λk k' m n=>B0 k k' (Bool.rec (motive:=λ_=>Option Value) (sOpt (Nat.ble (nat_lit 1) (qOf k)) (fitI k (Nat.sub (qOf k) (Nat.mod (Nat.sub n m) (qOf k))))) (fitI k (Nat.sub m n)) (Nat.ble n m))
def quoK:Cc:=λk k' m n=>B0 k k' (sOpt (Nat.ble (nat_lit 1) n) (fitI k (Nat.div m n)))
def remK:Cc:=λk k' m n=>B0 k k' (sOpt (Nat.ble (nat_lit 1) n) (mkI k (Nat.mod m n)))
def shlK:Cc:=λk _ m n=>sOpt (Nat.ble n (btOf k)) (fitI k (Nat.shiftLeft m n))
def shrK:Cc:=λk _ m n=>sOpt (Nat.ble n (btOf k)) (mkI k (Nat.shiftRight m n))
def cmpK (c:Nat->Nat->Bool):Cc:=λk k' m n=>B0 k k' (mkB (c m n))
def int3 (f:Cc)(slow:Value->Value->M Value):Value->Value->M Value:=λx y s=>
 Ch x (λk a=>Ch y (λk' b=>Int.rec (motive:=λ_=>R Value) (λm=>Int.rec (motive:=λ_=>R Value) (λn=>Option.rec (motive:=λ_=>R Value) (slow x y s) (λv=> .some v s) (f k k' m n)) (λ_=>slow x y s) b) (λ_=>slow x y s) a) (slow x y s)) (slow x y s)
def aBin (E:Env)(op:BinOp)(t:Nat)(xo yo:Operand):Cl (Value->Value->M Value):=
 match op with
 | .add=> .mk (int2 (λa b s=>rI (addI a b) s) (int3 addK (AJ E .add t xo yo)))
 | .sub=> .mk (int2 (λa b s=>rI (subI a b) s) (int3 subK (AJ E .sub t xo yo)))
 | .lss=> .mk (int2 (λa b s=>rB (ltI a b) s) (int3 (cmpK λm n=>Nat.blt m n) (AJ E .lss t xo yo)))
 | .gtr=> .mk (int2 (λa b s=>rB (ltI b a) s) (int3 (cmpK λm n=>Nat.blt n m) (AJ E .gtr t xo yo)))
 | .leq=> .mk (int2 (λa b s=>rB (!ltI b a) s) (int3 (cmpK λm n=>Nat.ble m n) (AJ E .leq t xo yo)))
 | .geq=> .mk (int2 (λa b s=>rB (!ltI a b) s) (int3 (cmpK λm n=>Nat.ble n m) (AJ E .geq t xo yo)))
 | .eql=> .mk (int2 (λa b s=>rB (eqI a b) s) (int3 (cmpK λm n=>Nat.beq m n) (AJ E .eql t xo yo)))
 | .neq=> .mk (int2 (λa b s=>rB (!eqI a b) s) (int3 (cmpK λm n=> !Nat.beq m n) (AJ E .neq t xo yo)))
 | .mul=> .mk (int3 mulK (AJ E .mul t xo yo))
 | .quo=> .mk (int3 quoK (AJ E .quo t xo yo))
 | .rem=> .mk (int3 remK (AJ E .rem t xo yo))
 | .and=> .mk (int3 andK (AJ E .and t xo yo))
 | .or=> .mk (int3 orK (AJ E .or t xo yo))
 | .xor=> .mk (int3 xorK (AJ E .xor t xo yo))
 | .shl=> .mk (int3 shlK (AJ E .shl t xo yo))
 | .shr=> .mk (int3 shrK (AJ E .shr t xo yo))
 |op=> .mk (AJ E op t xo yo)
def lenOf (v:Value):M Nat:=
 match v with
 | .slice _ n _=>M.pure n
 | .string s=>M.pure s.size
 |_=>aC
def cellsOf (v:Value):List Value:=
 match v with
 | .agg cs=>cs.toList
 |v=>[v]
def F7 (E:Env)(t:Nat)(a:Addr):M Value:=
 M.bind (ti E t) λi=>aT i.agg (M.bind (rdL i.size a) λl=>M.pure (.agg l.toArray)) (rdV a)
def Hv (E:Env)(t:Nat)(a:Addr)(v:Value):M Unit:=
 M.bind (ti E t) λi=>M.chk (Nat.beq (cellsOf v).length i.size) (wrL (cellsOf v) a)
def asA (v:Value):M Addr:=
 match v with
 | .pointer (some a)=>M.pure a
 |_=>aC
def capU:Nat:=18446744073709551616
def bnd (o:Option Value)(top dflt:Nat):M Nat:=
 match o with
 |none=>M.pure dflt
 |some (.int _ (.ofNat n))=>M.chk (Nat.ble n top) (M.pure n)
 |some _=>aC
def addA (a:Addr)(n:Nat):Addr:=⟨a.block,Nat.add a.off n,a.spot⟩
def ptrA (a:Addr):M Value:=fA a λa=>M.pure (.pointer (some a))
def pSl (a:Addr)(l c:Nat):M Value:=fA a λa=>fN l λl=>fN c λc=>M.pure (.slice (some a) l c)
def pN (n:Nat):M Value:=fN n λn=>M.pure (.int .i64 (.ofNat n))
def Gz (a:Addr)(n size:Nat)(lo hi:Option Value):M Value:=
 M.chk (Nat.blt n capU) <| M.bind (bnd hi n n) λh=>M.bind (bnd lo h 0) λl=>pSl (Bool.rec (motive:=λ_=>Addr) (addA a (Nat.mul l size)) a (Nat.beq n l)) (Nat.sub h l) (Nat.sub n l)
def Bu (c size:Nat):Bool:=Bool.rec (motive:=λ_=>Bool) (Nat.beq (Nat.mod (Nat.div c capU) 1024) size) true (Nat.beq (Nat.div c capU) 0)
def slSl (a:Addr)(len c size:Nat)(lo hi:Option Value):M Value:=
 M.bind (bnd hi (Nat.mod c capU) len) λh=>M.bind (bnd lo h 0) λl=>M.chk (Bu c size) <| pSl (Bool.rec (motive:=λ_=>Addr) a (addA a (Nat.mul l size)) (Nat.blt l (Nat.mod c capU))) (Nat.sub h l) (Nat.sub c l)
def EM (s:ByteArray)(lo hi:Option Value):M Value:=
 M.bind (bnd hi s.size s.size) λh=>M.bind (bnd lo h 0) λl=>M.pure (.string (s.extract l h))
def AZ (E:Env)(t:Nat)(x:Value)(lo hi:Option Value):M Value:=
 M.bind (ti E t) λi=>match i.u,x with
 | .array n e, .pointer (some a)=>M.bind (ti E e) λie=>Gz a n ie.size lo hi
 | .slice e, .slice (some a) len c=>M.bind (ti E e) λie=>slSl a len c ie.size lo hi
 | .slice e, .slice none 0 0=>M.bind (ti E e) λ_=>M.bind (bnd hi 0 0) λh=>M.bind (bnd lo h 0) λ_=>M.pure (.slice none 0 0)
 | .string, .string s=>EM s lo hi
 |_,_=>aC
def rep {α:Type}(n:Nat)(l:List α):List α:=Nat.rec (motive:=λ_=>List α) [] (λ_ r=>l++r) n
def CG (s:List UInt8):List Value:=s.map λb=> .int .u8 b.toNat
def srcL (size:Nat)(x:Value)(k:Nat):M (List Value):=
 match x with
 | .slice (some a) _ _=>rdL (k*size) a
 | .slice none 0 0=>M.pure []
 | .string s=>M.pure (CG (s.data.toList.take k))
 |_=>aC
def Ds (u:TypeDesc):Bool:=match u with| .int _=>true|_=>false
def appN (zeros:Bool)(bytes:Nat)(x:Value):M Nat:=
 match zeros,x with
 |false, .slice _ n _=>M.pure n
 |false, .string s=>M.pure s.size
 |true, .int .i64 (.ofNat n)=>M.chk (Nat.ble (n*(bytes+1)) 16777216) (M.pure n)
 |_,_=>aC
def appL (zeros:Bool)(ie:TI)(x:Value)(n:Nat):M (List Value):=aT zeros (M.pure (rep n ie.zero)) (srcL ie.size x n)
def oldL (size:Nat)(base:Option Addr)(len:Nat):M (List Value):=
 match base with
 |some a=>rdL (len*size) a
 |none=>M.pure []
def Cg (n:Nat):Nat->M Unit:=
 Nat.rec (motive:=λ_=>Nat->M Unit) (λ_=>M.pure ()) (λ_ ih l=>M.bind (delC l) λ_=>ih (l+1)) n
def FM (size:Nat)(base:Option Addr)(lb:Nat):M Unit:=
 match base with
 |some a=>Cg (Nat.mul lb size) (Nat.add a.block a.off)
 |none=>M.pure ()
def Di (z:List Value):Bool:=match z with|[.int .u8 _]=>true|_=>false
def flg (size f:Nat)(g:Bool):Nat:=Bool.rec (motive:=λ_=>Nat) size (Nat.add size 1024) (Nat.beq f 1&&g)
def Dc (size:Nat)(base:Option Addr)(lb tok:Nat):M Nat:=
 aT (Nat.beq tok 0) (M.pure 1) (M.bind (rdC (Nat.div tok 1024)) λc=>match c with
  | .O (.tok false sz)=>M.chk (Nat.beq (Nat.mod sz 1024) size&&Nat.beq (Nat.mod tok 1024) size) (M.bind (wrC (Nat.div tok 1024) (.O (.tok true size))) λ_=>M.bind (FM size base lb) λ_=>fN (Nat.div sz 1024) λf=>M.pure f)
  |_=>aC)
def grow (size bytes:Nat)(g:Bool)(base:Option Addr)(len c n:Nat)(news:List Value):M Value:=
 M.chk (Nat.ble ((len+n)*(bytes+1)) 16777216&&Nat.blt 0 size&&Nat.blt size 1024&&(Nat.blt 0 (c%capU)||Nat.beq c 0)&&Nat.beq news.length (n*size)&&news.all oneCell)
  (M.bind (oldL size base (Bool.rec (motive:=λ_=>Nat) (Nat.mod c capU) len (Nat.beq (Nat.div c capU) 0))) λold=>M.bind (Dc size base (Nat.mod c capU) (Nat.div c capU)) λf=>
   M.bind (newL (old.take (Nat.mul len size)++news)) λb=>
   fN (Nat.add b (Nat.mul (Nat.add len n) size)) λm=>fN (flg size f g) λq=>M.bind (wrC m (.O (.tok false q))) λ_=>pSl ⟨b,0,none⟩ (Nat.add len n) (Nat.add (Nat.mul capU (Nat.add (Nat.mul m 1024) size)) (Nat.add len n)))
def Fj (size:Nat)(base:Option Addr)(len c n:Nat)(news:List Value):M Value:=
 match base with
 |some a=>M.bind (wrL news (addA a (Nat.mul len size))) λ_=>pSl a (Nat.add len n) c
 |none=>M.pure (.slice base len c)
def BV (E:Env)(t t2:Nat)(s x:Value):M Value:=
 M.bind (ti E t) λi=>M.bind (ti E t2) λi2=>match i.u,s with
 | .slice e, .slice base len c=>M.bind (ti E e) λie=>M.bind (appN (Ds i2.u) ie.bytes x) λn=>M.bind (appL (Ds i2.u) ie x n) λnews=>
  aT (Nat.ble (Nat.add len n) (Nat.mod c capU)) (Fj ie.size base len c n news) (grow ie.size ie.bytes (Di ie.zero) base len c n news)
 |_,_=>aC
def fBs {β:Type}(l:List UInt8)(K:List Value->β):β:=List.rec (motive:=λ_=>(List Value->β)->β) (λK=>K []) (λb _ ih K=>fN b.toNat λn=>ih λvs=>K (.int .u8 (.ofNat n)::vs)) l K
def rowN (vs:List Value)(n:Nat):M Value:=
 M.chk (Nat.blt n capU) (M.bind (newL vs) λb=>M.bind (wrC (Nat.add b (Nat.mul n 1)) (.O (.tok false 1))) λ_=>pSl ⟨b,0,none⟩ n (Nat.add (Nat.mul capU (Nat.add (Nat.mul (Nat.add b (Nat.mul n 1)) 1024) 1)) n))
def GA (off:Nat)(vs cells:List Value):List Value:=cells.take off++(vs++cells.drop (off+vs.length))
def CY (place:Nat->Option (Nat×Nat))(ps:List (Nat×Value)):List Value->Option (List Value):=
 List.rec (motive:=λ_=>List Value->Option (List Value)) (λc=>some c)
  (λp _ ih c=>match place p.1 with
   |none=>none
   |some (off,size)=>Bool.rec (motive:=λ_=>Option (List Value)) none (ih (GA off (cellsOf p.2) c)) (Nat.beq (cellsOf p.2).length size&&Nat.ble (off+(cellsOf p.2).length) c.length)) ps
def H8 (E:Env)(fs:Array Field)(k:Nat):Option (Nat×Nat):=
 match fs.toList[k]? with
 |some f=>(match T.get E.ty f.type with|some fi=>some (f.offset,fi.size)|none=>none)
 |none=>none
def Cz (E:Env)(t:Nat)(ps:List (Nat×Value)):M Value:=
 M.bind (ti E t) λi=>match i.u with
 | .struct fs=>M.bind (M.ofOpt (CY (H8 E fs) ps i.zero)) λr=>M.pure (.agg r.toArray)
 | .array _ e=>M.bind (ti E e) λie=>M.bind (M.ofOpt (CY (λk=>some (k*ie.size,ie.size)) ps i.zero)) λr=>M.pure (.agg r.toArray)
 |_=>aC
def BU (E:Env)(t len:Nat)(ps:List (Nat×Value)):M Value:=
 M.bind (ti E t) λi=>match i.u with
 | .slice e=>M.bind (ti E e) λie=>M.chk (Nat.ble (len*ie.size) 16777216&&Nat.blt len capU)
  (M.bind (M.ofOpt (CY (λk=>some (k*ie.size,ie.size)) ps (rep len ie.zero))) λr=>M.bind (newL r) λb=>M.bind (wrC (Nat.add b r.length) (.O (.tok true (Nat.add 1024 r.length)))) λ_=>M.pure (.slice (some ⟨b,0,none⟩) len len))
 |_=>aC
def Gh (E:Env)(t:Nat)(cs:List Value)(off:Nat):M Value:=
 M.bind (ti E t) λi=>aT i.agg (M.pure (.agg ((cs.drop off).take i.size).toArray)) (M.ofOpt (cs[off]?))
def Fu (E:Env)(t:Nat)(d:Option Addr)(n:Nat)(x:Value):M Value:=
 M.bind (ti E t) λi=>match i.u with
 | .slice e=>M.bind (ti E e) λie=>M.bind (lenOf x) λm=>match d with
  |none=>pN 0
  |some d=>fN (Nat.min n m) λk=>M.bind (srcL ie.size x k) λl=>M.bind (wrL l d) λ_=>pN k
 |_=>aC
def mapAt (l:Nat):M (List MapEntry×Nat):=M.bind (rdC l) λc=>match c with
 | .O (.map es n)=>M.pure (es,n)
 |_=>aC
def EF (m:Value):M Value:=
 match m with
 | .map none=>pN 0
 | .map (some l)=>M.bind (mapAt l) λp=>pN p.1.length
 |_=>aC
def aLen (E:Env)(t:Nat)(x:Value):M Value:=
 M.bind (ti E t) λi=>match i.u,x with
 | .slice _, .slice _ n _=>pN n
 | .string, .string s=>pN s.size
 | .map _ _,x=>EF x
 | .slice _, .complex _ 3 _=>M.pure (.complex .f32 1 3)
 | .slice _, .complex _ 5 _=>M.pure (.complex .f32 1 3)
 | .string, .complex _ 4 _=>M.pure (.complex .f32 1 3)
 |_,_=>aC
def aCap (E:Env)(t:Nat)(x:Value):M Value:=
 M.bind (ti E t) λi=>match i.u,x with
 | .slice _, .slice _ _ c=>M.chk (Nat.blt c capU) (pN c)
 |_,_=>aC
def EV (E:Env)(t:Nat)(x:Value):M Value:=
 M.bind (ti E t) λi=>match i.u,x with
 | .slice e, .slice (some a) n _=>M.bind (ti E e) λie=>M.chk (Nat.blt 0 ie.size&&Nat.ble (n*ie.size) 16777216) (M.bind (wrL (rep n ie.zero) a) λ_=>M.pure undef)
 | .slice _, .slice none 0 0=>M.pure undef
 |_,_=>aC
def zeroV (i:TI):M Value:=aT i.agg (M.pure (.agg i.zero.toArray)) (M.ofOpt i.zero.head?)
def C9 (es:List MapEntry):List MapEntry:=es.map λe=>{e with val:=undef}
def Cx (E:Env)(empty:Bool)(kt:Nat)(k:Value)(es:List MapEntry):M (Option Nat):=
 M.chk (plain k) (M.on (semP E.P (do Instr.checkKey empty 10000 kt k;Instr.findKey kt k (C9 es))) λr=>M.pure (r.map (·.1)))
def DM (commaOk:Bool)(v:Value)(ok:Bool):M Value:=Bool.rec (motive:=λ_=>M Value) (M.pure v) (M.pure (.tuple #[v, .bool ok])) commaOk
def zeroOf (E:Env)(t:Nat):M Value:=M.bind (ti E t) zeroV
def Nk (E:Env)(kt et:Nat)(k:Value)(c:Bool):M Value:=M.bind (Cx E true kt k []) λr=>match r with
 |none=>M.bind (zeroOf E et) λz=>DM c z false
 |some _=>aC
def DK (E:Env)(kt et:Nat)(k:Value)(c:Bool)(es:List MapEntry):M Value:=M.bind (Cx E es.isEmpty kt k es) λr=>match r with
 |some j=>M.on es[j]? λe=>DM c e.val true
 |none=>M.bind (zeroOf E et) λz=>DM c z false
def mapT (E:Env)(t:Nat):M (Nat×Nat):=M.bind (ti E t) λi=>match i.u with
 | .map kt et=>M.pure (kt,et)
 |_=>aC
def B6 (E:Env)(t:Nat)(c:Bool)(x k:Value):M Value:=M.bind (mapT E t) λke=>match x with
 | .map none=>Nk E ke.1 ke.2 k c
 | .map (some l)=>M.bind (mapAt l) λp=>DK E ke.1 ke.2 k c p.1
 |_=>aC
def putE (E:Env)(kt:Nat)(k x:Value)(l:Nat)(p:List MapEntry×Nat):M Unit:=M.bind (Cx E false kt k p.1) λr=>match r with
 |some j=>M.on p.1[j]? λe=>M.chk (Instr.sameBits 10000 e.key k) (wrC l (.O (.map (p.1.set j ⟨k,x,e.born⟩) p.2)))
 |none=>wrC l (.O (.map (p.1++[⟨k,x,p.2⟩]) (p.2+1)))
def Eb (E:Env)(t:Nat)(m k x:Value):M Value:=M.bind (mapT E t) λke=>match m with
 | .map (some l)=>M.bind (mapAt l) λp=>M.bind (putE E ke.1 k x l p) λ_=>M.pure undef
 |_=>aC
def DQ:M Value:=M.bind (newO (.map [] 0)) λb=>M.pure (.map (some b))
def kDel (E:Env)(t:Nat)(m k:Value):M Value:=M.bind (mapT E t) λke=>match m with
 | .map none=>M.bind (Cx E true ke.1 k []) λ_=>M.pure undef
 | .map (some l)=>M.bind (mapAt l) λp=>M.bind (Cx E p.1.isEmpty ke.1 k p.1) λr=>(match r with
  |some j=>M.bind (wrC l (.O (.map (p.1.eraseIdx j) p.2))) λ_=>M.pure undef
  |none=>M.bind (wrC l (.O (.map p.1 p.2))) λ_=>M.pure undef)
 |_=>aC
def AH (E:Env)(b:Builtin)(ts:List Nat)(args:List Value):M Value:=
 match b,ts,args with
 | .len,t::_,[x]=>aLen E t x
 | .cap,t::_,[x]=>aCap E t x
 | .append,t::t2::_,[s,x]=>BV E t t2 s x
 | .copy,t::_,[.slice d n _,x]=>Fu E t d n x
 | .delete,t::_,[m,k]=>kDel E t m k
 | .clear,t::_,[x]=>EV E t x
 | .min,_,l=>M.chk (l.all plain) (M.on (semP E.P (Builtin.min_ #[] 3 l.toArray)) pV)
 | .max,_,l=>M.chk (l.all plain) (M.on (semP E.P (Builtin.max_ #[] 3 l.toArray)) pV)
 |_,_,_=>aC
def idxN (u:TypeDesc)(x:Value)(E:Env)(k:Nat):M Value:=
 match u,x with
 | .array n e, .pointer (some a)=>M.bind (ti E e) λie=>M.chk (Nat.blt k n) (ptrA (addA a (Nat.mul k ie.size)))
 | .slice e, .slice (some a) len _=>M.bind (ti E e) λie=>M.chk (Nat.blt k len) (ptrA (addA a (Nat.mul k ie.size)))
 |_,_=>aC
def asN (v:Value):M Nat:=
 match v with
 | .int _ (.ofNat k)=>M.pure k
 |_=>aC
abbrev Ag:Type:=Nat->List Value->M Value
def AU (call round:Ag)(f:Value)(args:List Value):M Value:=
 match f with
 | .func (.func f) first cap=>call f (first.toList++(args++cap.toList))
 | .func (.yield l) first _=>M.chk first.isEmpty (round l args)
 |_=>aC
def Au (c a b:Value):M Value:=
 match c with
 | .bool c=>Bool.rec (motive:=λ_=>M Value) (M.pure b) (M.pure a) c
 |_=>aC
def ptrN (b:Nat):M Value:=M.pure (.pointer (some ⟨b,0,none⟩))
def CM (E:Env)(e:Nat):M Value:=M.bind (ti E e) λi=>M.bind (newL i.zero) ptrN
def kBox (v:Value):M Value:=M.bind (newL (cellsOf v)) ptrN
def Bd (E:Env)(t:Nat)(a:Value):M Value:=M.bind (asA a) λa=>F7 E t a
def Az (E:Env)(t:Nat)(a v:Value):M Value:=M.bind (asA a) λa=>M.bind (Hv E t a v) λ_=>M.pure undef
def kNil (v:Value):M Value:=
 match v with
 | .pointer (some a)=>M.pure (.pointer (some a))
 | .iface t v=>M.pure (.iface t v)
 | .func (.func f) a b=>M.pure (.func (.func f) a b)
 |_=>aC
def CX (P:Program)(op:UnOp)(v:Value):M Value:=M.chk (plain v) (M.on (semP P (Op.unary op v)) pV)
def notK (k:IntKind)(m:Nat):Option Value:=sOpt (Nat.ble (nat_lit 1) (qOf k)) (fitI k (Nat.xor (mxOf k) m))
def xorU (P:Program)(v:Value):M Value:=
 Ch v (λk n=>Int.rec (motive:=λ_=>M Value) (λm=>Option.rec (motive:=λ_=>M Value) (CX P .xor v) (λx=>M.pure x) (notK k m)) (λ_=>CX P .xor v) n) (CX P .xor v)
def kUn (P:Program)(op:UnOp)(v:Value):M Value:=
 match op,v with
 | .not, .bool b=>pB (!b)
 | .not, .complex _ 2 _=>M.pure topB
 | .xor,v=>xorU P v
 |op,v=>CX P op v
def KF (v:Value):Option UInt8:=match v with| .int .u8 (.ofNat n)=>some (UInt8.ofNat n)|_=>none
def G7 (l:List Value):Option (List UInt8):=
 List.rec (motive:=λ_=>Option (List UInt8)) (some []) (λv _ ih=>onO (KF v) λb=>onO ih λl=>some (b::l)) l
def strOf (a:Addr)(n:Nat):M Value:=M.bind (rdL n a) λl=>M.on (G7 l) λbs=>M.pure (.string ⟨bs.toArray⟩)
def Fp (E:Env)(s d:Nat)(a:Addr)(n:Nat):M Value:=
 M.bind (ti E s) λis=>M.bind (ti E d) λid=>match is.u,id.u with
 | .slice e, .string=>M.bind (ti E e) λie=>(match ie.u with| .int .u8=>strOf a n|_=>aC)
 |_,_=>aC
def Fx (E:Env)(s d:Nat)(k:IntKind)(n:Int):M Value:=
 M.bind (ti E s) λ_=>M.bind (ti E d) λid=>match id.u with
 | .int k'=>fI (KC k' n) λn=>M.pure (.int k' n)
 |_=>M.on (semP E.P (convert s d (.int k n))) pV
def DH (E:Env)(s d:Nat)(v:Value):M Value:=
 match v with
 | .slice (some a) n _=>Fp E s d a n
 | .int k n=>Fx E s d k n
 |v=>M.chk (plain v) (M.on (semP E.P (convert s d v)) pV)
def FJ (l:List UInt8):M Value:=fBs l λvs=>fN vs.length λn=>rowN vs n
def Gu (E:Env)(s d:Nat)(b:ByteArray):M Value:=
 M.bind (ti E s) λ_=>M.bind (ti E d) λid=>match id.u with
 | .slice e=>M.bind (ti E e) λie=>(match ie.u with| .int .u8=>FJ b.data.toList|_=>aC)
 |_=>DH E s d (.string b)
def Ed (E:Env)(s d:Nat)(a:Addr)(n c:Nat):M Value:=
 M.bind (ti E s) λis=>M.bind (ti E d) λid=>match is.u,id.u with
 | .slice _, .slice _=>aC
 |_,_=>DH E s d (.slice (some a) n c)
def Ce (E:Env)(s d:Nat)(v:Value):M Value:=
 match v with
 | .string b=>Gu E s d b
 | .slice (some a) n c=>Ed E s d a n c
 |v=>DH E s d v
def GX (u:TypeDesc)(v:Value):M Value:=
 match u,v with
 | .array n _, .slice (some a) len _=>M.chk (Nat.ble n len&&Nat.blt 0 len) (M.pure (.pointer (some a)))
 |_,_=>aC
def FT (E:Env)(t:Nat)(v:Value):M Value:=M.bind (ti E t) λi=>GX i.u v
def Gl (E:Env)(t:Nat)(v:Value):M Value:=
 M.bind (ti E t) λi=>match i.u with
 | .interface _=>aC
 |_=>M.pure (.iface t v)
def mkSl (E:Env)(u:TypeDesc)(l c:Nat):M Value:=
 match u with
 | .slice e=>M.bind (ti E e) λie=>M.chk (Nat.ble l c&&Nat.ble (c*(ie.bytes+1)) 16777216) (M.bind (newL (rep c ie.zero)) λb=>M.pure (.slice (some ⟨b,0,none⟩) l c))
 |_=>aC
def Ez (E:Env)(t:Nat)(l c:Value):M Value:=
 M.bind (ti E t) λi=>M.bind (asN l) λl=>M.bind (asN c) λc=>mkSl E i.u l c
def DJ (E:Env)(u:TypeDesc)(f:Nat):M (Nat×TI×Nat):=
 match u with
 | .struct fs=>(match fs.toList[f]? with|some f=>M.bind (ti E f.type) λfi=>M.pure (f.offset,fi,f.type)|none=>aC)
 |_=>aC
def kFld (E:Env)(t:Nat)(a:Value)(f:Nat):M Value:=
 M.bind (ti E t) λi=>M.bind (asA a) λa=>M.bind (DJ E i.u f) λp=>M.chk (Nat.blt 0 p.2.1.size) (ptrA (addA a p.1))
def asCs (v:Value):M (List Value):=
 match v with
 | .agg cs=>M.pure cs.toList
 |_=>aC
def Fq (E:Env)(t:Nat)(v:Value)(f:Nat):M Value:=
 M.bind (ti E t) λi=>M.bind (asCs v) λcs=>M.bind (DJ E i.u f) λp=>Gh E p.2.2 cs p.1
def B8 (E:Env)(t:Nat)(x ix:Value):M Value:=M.bind (ti E t) λi=>M.bind (asN ix) λk=>idxN i.u x E k
def idxV (u:TypeDesc)(x:Value)(E:Env)(k:Nat):M Value:=
 match u,x with
 | .array n e, .agg cs=>M.bind (ti E e) λie=>M.chk (Nat.blt k n) (Gh E e cs.toList (k*ie.size))
 | .string, .string s=>M.on (s.data.toList[k]?) λb=>M.pure (.int .u8 b.toNat)
 |_,_=>aC
def kIdx (E:Env)(t:Nat)(x ix:Value):M Value:=M.bind (ti E t) λi=>M.bind (asN ix) λk=>idxV i.u x E k
def kExt (k:Nat)(v:Value):M Value:=
 match v with
 | .tuple vs=>M.ofOpt (vs.toList[k]?)
 |_=>aC
def DB_ (v:Value):M Value:=
 match v with
 | .iface t x=>λs=> .pan [{v:= .iface t x,recovered:=false}] s
 |_=>aC
def Dz (E:Env)(t:Nat)(x:Value):M Value:=M.bind (ti E t) λi=>match i.u,x with
 | .string, .string s=>M.bind (newO (.sit s 0)) λb=>M.pure (.chan (some b))
 |_,_=>aC
def sitN (l:Nat)(s:ByteArray)(pos:Nat):M Value:=
 aT (Nat.blt pos s.size) (M.bind (wrC l (.O (.sit s (pos+(Utf8.decode s pos).2)))) λ_=>fN pos λpos=>fN (Utf8.decode s pos).1 λc=>M.pure (.tuple #[.bool true, .int .i64 (.ofNat pos), .int .i32 (.ofNat c)])) (M.pure (.tuple #[.bool false]))
def EC (x:Value):M Value:=
 match x with
 | .chan (some l)=>M.bind (rdC l) λc=>(match c with
  | .O (.sit s pos)=>fN pos λpos=>sitN l s pos
  |_=>aC)
 |_=>aC
abbrev OpT:Type:=Ag->Ag->Rho->T Value->M Value
def A7 (ds:List Nat)(x:Operand)(f:Value->M Value):Cl OpT:=Cl.rec (motive:=λ_=>Cl OpT) (λg=> .mk λ_ _ r tm s=>Option.rec (motive:=λ_=>R Value) .none (λa=>f a s) (g r tm)) (BW ds x)
def ES (ds:List Nat)(x:Operand):Cl OpT:=Cl.rec (motive:=λ_=>Cl OpT) (λg=> .mk λ_ _ r tm s=>Option.rec (motive:=λ_=>R Value) .none (λa=> .some a s) (g r tm)) (BW ds x)
def B5 (ds:List Nat)(x y:Operand)(f:Value->Value->M Value):Cl OpT:=
 Cl.rec (motive:=λ_=>Cl OpT) (λg=>Cl.rec (motive:=λ_=>Cl OpT) (λh=> .mk λ_ _ r tm s=>Option.rec (motive:=λ_=>R Value) .none (λa=>Option.rec (motive:=λ_=>R Value) .none (λb=>f a b s) (h r tm)) (g r tm)) (BW ds y)) (BW ds x)
def D8 (ds:List Nat)(x y z:Operand)(f:Value->Value->Value->M Value):Cl OpT:=
 Cl.rec (motive:=λ_=>Cl OpT) (λg=>Cl.rec (motive:=λ_=>Cl OpT) (λh=>Cl.rec (motive:=λ_=>Cl OpT) (λi=> .mk λ_ _ r tm=>M.on (g r tm) λa=>M.on (h r tm) λb=>M.on (i r tm) λc=>f a b c) (BW ds z)) (BW ds y)) (BW ds x)
def He (ds:List Nat)(l:List Operand)(f:List Value->M Value):Cl OpT:=Cl.rec (motive:=λ_=>Cl OpT) (λg=> .mk λ_ _ r tm s=>Option.rec (motive:=λ_=>R Value) .none (λa=>f a s) (g r tm)) (Gr ds l)
def IL (ds:List Nat)(l l':List Operand)(f:List Value->List Value->M Value):Cl OpT:=
 Cl.rec (motive:=λ_=>Cl OpT) (λg=>Cl.rec (motive:=λ_=>Cl OpT) (λh=> .mk λ_ _ r tm s=>Option.rec (motive:=λ_=>R Value) .none (λa=>Option.rec (motive:=λ_=>R Value) .none (λb=>f a b s) (h r tm)) (g r tm)) (Gr ds l')) (Gr ds l)
def Fa (ds:List Nat)(l:List (Nat×Operand))(f:List (Nat×Value)->M Value):Cl OpT:=Cl.rec (motive:=λ_=>Cl OpT) (λg=> .mk λ_ _ r tm s=>Option.rec (motive:=λ_=>R Value) .none (λa=>f a s) (g r tm)) (JM ds l)
def Mh (ds:List Nat)(x:Operand)(lo hi:Option Operand)(f:Value->Option Value->Option Value->M Value):Cl OpT:=
 Cl.rec (motive:=λ_=>Cl OpT) (λg=>Cl.rec (motive:=λ_=>Cl OpT) (λh=>Cl.rec (motive:=λ_=>Cl OpT) (λi=> .mk λ_ _ r tm=>M.on (g r tm) λa=>M.on (h r tm) λb=>M.on (i r tm) λc=>f a b c) (Lj ds hi)) (Lj ds lo)) (BW ds x)
def Pm (ds:List Nat)(x:Operand)(l:List Operand):Cl OpT:=
 Cl.rec (motive:=λ_=>Cl OpT) (λg=>Cl.rec (motive:=λ_=>Cl OpT) (λh=> .mk λcall round r tm=>M.on (g r tm) λf=>M.on (h r tm) λl=>AU call round f l) (Gr ds l)) (BW ds x)
def H9:Cl OpT:= .mk λ_ _ _ _=>aC
def Hq (E:Env)(ds:List Nat)(c:Call):Cl OpT:=
 match c.callee with
 | .builtin .recover=>H9
 | .builtin b=>He ds c.args.toList (AH E b c.argTypes.toList)
 | .value f=>Pm ds f c.args.toList
 | .invoke _ _=>H9
def Iv (E:Env)(ds:List Nat)(t:Nat)(x:Operand)(lo hi mx:Option Operand):Cl OpT:=
 Option.rec (motive:=λ_=>Cl OpT) (Mh ds x lo hi (AZ E t)) (λ_=>H9) mx
def DG (E:Env)(ds:List Nat)(o:Op):Cl OpT:=
 match o with
 | .move x=>ES ds x
 | .assign x=>ES ds x
 | .pick c a b=>D8 ds c a b Au
 | .alloc e=> .mk λ_ _ _ _=>CM E e
 | .box _ x=>A7 ds x kBox
 | .build t ps=>Fa ds ps.toList (Cz E t)
 | .buildSlice t n ps=>Fa ds ps.toList (BU E t n)
 | .load t a=>A7 ds a (Bd E t)
 | .store t a x=>B5 ds a x (Az E t)
 | .nilCheck x=>A7 ds x kNil
 | .binOp op t x y _=>Cl.rec (motive:=λ_=>Cl OpT) (λf=>B5 ds x y f) (aBin E op t x y)
 | .unOp op _ x=>A7 ds x (kUn E.P op)
 | .convert s d x=>A7 ds x (Ce E s d)
 | .sliceToArrayPointer t x=>A7 ds x (FT E t)
 | .makeInterface t x=>A7 ds x (Gl E t)
 | .makeFunc (.func fn) first cap=>IL ds first.toList cap.toList λf c=>M.pure (.func (.func fn) f.toArray c.toArray)
 | .makeSlice t l c=>B5 ds l c (Ez E t)
 | .slice t x lo hi mx=>Iv E ds t x lo hi mx
 | .fieldAddr t x f=>A7 ds x λa=>kFld E t a f
 | .field t x f=>A7 ds x λa=>Fq E t a f
 | .indexAddr t x ix=>B5 ds x ix (B8 E t)
 | .index t x ix=>B5 ds x ix (kIdx E t)
 | .extract x k=>A7 ds x (kExt k)
 | .call c=>Hq E ds c
 | .panic x=>A7 ds x DB_
 | .range t x=>A7 ds x (Dz E t)
 | .next x true=>A7 ds x EC
 | .makeMap _ none=> .mk λ_ _ _ _=>DQ
 | .lookup t x k ok=>B5 ds x k (B6 E t ok)
 | .mapUpdate t m k x=>D8 ds m k x (Eb E t)
 |_=>H9
structure COp where
 guard:Option (Nat×Bool)
 slot:Option Nat
 keep:Bool
 run:OpT
def Ep (ops:List Oper)(ds:List Nat)(g:Option (Nat×Bool)):Option (Option (Nat×Bool)):=
 match g with
 |none=>some none
 |some (j,want)=>match ops[j]? with
  |some o=>(match o.dst with|some d=>(match Gq d ds with|some n=>some (some (n,want))|none=>none)|none=>none)
  |none=>none
def BM (d:Option Nat)(ds:List Nat):List Nat:=Option.rec (motive:=λ_=>List Nat) ds (λd=>d::ds) d
def newD (d:Option Nat)(n:Nat)(ds:List Nat):Bool:=Option.rec (motive:=λ_=>Bool) true (λd=>Nat.blt d n&& !ds.any λe=>Nat.beq d e) d
def B1 (d:Option Nat)(glob:Nat):Bool:=Option.rec (motive:=λ_=>Bool) false (λd=>Nat.testBit glob d) d
def BX (E:Env)(glob n:Nat)(ops:List Oper)(l:List Oper):List Nat->Option (List COp):=
 List.rec (motive:=λ_=>List Nat->Option (List COp)) (λ_=>some [])
  (λo _ ih ds=>onO (Ep ops ds o.guard) λg=>Bool.rec (motive:=λ_=>Option (List COp)) none (onO (ih (BM o.dst ds)) λr=>
   Cl.rec (motive:=λ_=>Option (List COp)) (λf=>Bool.rec (motive:=λ_=>Option (List COp)) (some (⟨g,o.dst,false,f⟩::r)) (some (⟨g,o.dst,true,f⟩::r)) (B1 o.dst glob)) (DG E ds o.op)) (newD o.dst n ds)) l
def isB (v:Value)(want:Bool):Bool:=
 match v with
 | .bool b=>Bool.rec (motive:=λ_=>Bool) (!want) want b
 |_=>false
def isK (v:Value):Bool:=
 match v with
 | .complex _ _ _=>false
 |_=>true
def nthV (n:Nat):Rho->Option Value:=Nat.rec (motive:=λ_=>Rho->Option Value) nth0 (λ_ ih l=>List.rec (motive:=λ_=>Option Value) none (λ_ r _=>ih r) l) n
def BG (g:Option (Nat×Bool))(r:Rho)(x:M Value):M Value:=
 Option.rec (motive:=λ_=>M Value) x (λp=>M.on (nthV p.1 r) λv=>M.chk (isK v) (aT (isB v p.2) x (M.pure undef))) g
def CC (d:Option Nat)(v:Value)(r:Rho):Rho:=Option.rec (motive:=λ_=>Rho) r (λ_=>v::r) d
def Hx {β:Type}(d:Option Nat)(keep:Bool)(v:Value)(tm:T Value)(K:T Value->M β):M β:=
 Bool.rec (motive:=λ_=>M β) (K tm) (Option.rec (motive:=λ_=>M β) (K tm) (λd=>T.rec (motive:=λ_=>M β) aC (λa b c _ _=>K (.N a b c)) (T.set tm d v)) d) keep
def runC (call round:Ag)(c:COp)(r:Rho)(tm:T Value)(K:Rho->T Value->M (T Value)):M (T Value):=
 COp.rec (motive:=λ_=>M (T Value)) (λg d k f=>M.bind (BG g r (f call round r tm)) λv=>Hx d k v tm (K (CC d v r))) c
def AB (call round:Ag)(l:List COp):Rho->T Value->M (T Value):=
 List.rec (motive:=λ_=>Rho->T Value->M (T Value)) (λ_ tm=>M.pure tm) (λc _ ih r tm=>runC call round c r tm ih) l
abbrev RT:Type:=Ag->Ag->Rho->T Value->M (T Value)
def Sr (d:Option Nat)(keep:Bool)(f:OpT)(k:RT):Cl RT:=
 Option.rec (motive:=λ_=>Cl RT) (.mk λcall round r tm s=>R.rec (motive:=λ_=>R (T Value)) .none (λ_ s=>k call round r tm s) (λc s=> .pan c s) (f call round r tm s))
  (λd=>Bool.rec (motive:=λ_=>Cl RT) (.mk λcall round r tm s=>R.rec (motive:=λ_=>R (T Value)) .none (λv s=>k call round (v::r) tm s) (λc s=> .pan c s) (f call round r tm s))
   (.mk λcall round r tm s=>R.rec (motive:=λ_=>R (T Value)) .none (λv s=>T.rec (motive:=λ_=>R (T Value)) .none (λa b c _ _=>k call round (v::r) (.N a b c) s) (T.set tm d v)) (λc s=> .pan c s) (f call round r tm s)) keep) d
def PO (c:COp)(k:RT):Cl RT:=
 COp.rec (motive:=λ_=>Cl RT) (λg d keep f=>Option.rec (motive:=λ_=>Cl RT) (Sr d keep f k) (λp=>Sr d keep (λcall round r tm=>BG (some p) r (f call round r tm)) k) g) c
def fuse (l:List COp):Cl RT:=List.rec (motive:=λ_=>Cl RT) (.mk λ_ _ _ tm s=> .some tm s) (λc _ ih=>Cl.rec (motive:=λ_=>Cl RT) (λk=>PO c k) ih) l
structure OpLog where
 lo:Nat
 hi:Nat
 rd:List Nat
 wr:List Nat
def apartO {α:Type}(m:M α):M (α×OpLog):=λs=>St.rec (motive:=λ_=>R (α×OpLog)) (λmem next lim rd wr cx=>
 R.rec (motive:=λ_=>R (α×OpLog)) .none (λa s=>St.rec (motive:=λ_=>R (α×OpLog)) (λmem' next' _ rd' wr' cx'=>Ctx.rec (motive:=λ_=>R (α×OpLog)) (.some (a,OpLog.mk next next' rd' wr') (St.mk mem' next' lim rd wr .no)) (λ_ _=> .none) cx') s)
  (λ_ _=> .none) (m (St.mk mem next next [] [] cx))) s
def BQ (l:List Nat):Nat->Nat:=List.rec (motive:=λ_=>Nat->Nat) (λm=>m) (λa _ ih m=>fN (Nat.lor m (Nat.shiftLeft (nat_lit 1) a)) ih) l
def Bx (m:OpLog):Nat×Nat:=OpLog.rec (motive:=λ_=>Nat×Nat) (λ_ _ rd wr=>fN (BQ rd (nat_lit 0)) λr=>fN (BQ wr (nat_lit 0)) λw=>(r,w)) m
def KA (l:List OpLog):List (Nat×Nat):=List.rec (motive:=λ_=>List (Nat×Nat)) [] (λm _ ih=>Prod.rec (motive:=λ_=>List (Nat×Nat)) (λr w=>(r,w)::ih) (Bx m)) l
def Eo (a b:Nat×Nat):Bool:=Nat.beq (Nat.land a.2 (Nat.lor b.1 b.2)) (nat_lit 0)&&Nat.beq (Nat.land b.2 a.1) (nat_lit 0)
def FW (bj:Nat)(m:Nat×Nat)(acc:List (Nat×Nat)):Nat->Bool:=
 List.rec (motive:=λ_=>Nat->Bool) (λ_=>true) (λa _ ih i=>(bj.testBit i||Eo a m)&&ih (Nat.succ i)) acc
def HP (all:List (Nat×Nat))(l:List (Nat×Nat)):List Nat->Nat->Bool:=
 List.rec (motive:=λ_=>List Nat->Nat->Bool) (λ_ _=>true) (λm _ ih bef j=>match bef with
  |b::bef=>FW b m (all.take j) 0&&ih bef (Nat.succ j)
  |[]=>false) l
def Bi (n0:Nat)(l acc:List Nat):List Nat:=List.rec (motive:=λ_=>List Nat) acc (λa _ ih=>Bool.rec (motive:=λ_=>List Nat) ih (a::ih) (Nat.ble n0 a)) l
def Db (lo hi:Nat)(l:List Nat):Bool:=List.rec (motive:=λ_=>Bool) false (λa _ ih=>Bool.rec (motive:=λ_=>Bool) ih (Bool.rec (motive:=λ_=>Bool) ih true (Nat.blt a hi)) (Nat.ble lo a)) l
def Ef (bj:Nat)(news:List Nat)(acc:List OpLog):Nat->Bool:=
 List.rec (motive:=λ_=>Nat->Bool) (λ_=>true) (λa _ ih i=>(bj.testBit i|| !Db a.lo a.hi news)&&ih (Nat.succ i)) acc
def GJ (bj:Nat)(news:List Nat)(acc:List OpLog):Bool:=List.rec (motive:=λ_=>Bool) true (λ_ _ _=>Ef bj news acc 0) news
def Gk (n0:Nat)(all:List OpLog)(l:List OpLog):List Nat->Nat->Bool:=
 List.rec (motive:=λ_=>List Nat->Nat->Bool) (λ_ _=>true) (λm _ ih bef j=>match bef with
  |b::bef=>GJ b (Bi n0 m.rd (Bi n0 m.wr [])) (all.take j)&&ih bef (Nat.succ j)
  |[]=>false) l
def KA_ (l:List OpLog):Bool:=l.all λm=>m.wr.isEmpty
def BN (n0:Nat)(l:List OpLog)(bef:List Nat):Bool:=Gk n0 l l bef 0&&(KA_ l||HP (KA l) (KA l) bef 0)
def addL (lim:Nat)(l base:List Nat):List Nat:=List.rec (motive:=λ_=>List Nat) base (λa _ ih=>notes a lim ih) l
def rdsL (lim:Nat)(l:List OpLog)(base:List Nat):List Nat:=List.rec (motive:=λ_=>List Nat) base (λm _ ih=>addL lim m.rd ih) l
def wrsL (lim:Nat)(l:List OpLog)(base:List Nat):List Nat:=List.rec (motive:=λ_=>List Nat) base (λm _ ih=>addL lim m.wr ih) l
def D5 (call round:Ag)(l:List COp):List OpLog->Rho->T Value->M ((Rho×T Value)×List OpLog):=
 List.rec (motive:=λ_=>List OpLog->Rho->T Value->M ((Rho×T Value)×List OpLog)) (λacc r tm=>M.pure ((r,tm),acc))
  (λc _ ih acc r tm=>COp.rec (motive:=λ_=>M ((Rho×T Value)×List OpLog)) (λg d k f=>M.bind (apartO (BG g r (f call round r tm))) λp=>Hx d k p.1 tm λtm=>ih (p.2::acc) (CC d p.1 r) tm) c) l
def MM (ops:List Oper):Nat->Bool:=
 List.rec (motive:=λ_=>Nat->Bool) (λ_=>true) (λo _ ih j=>(o.after.toList.all λe=> !Region.binds .any e||Nat.blt e.on j)&&ih (Nat.succ j)) ops
def DI (ops:List Oper)(o:Oper):List Nat:=
 (match o.guard with|some (g,_)=>(match ops[g]? with|some q=>(match q.dst with|some d=>[d]|none=>[])|none=>[])|none=>[])++
 o.op.operands.toList.filterMap λx=>match x with| .tmp t=>some t|_=>none
def Ib (bef:List Nat)(j:Nat)(looks:List Nat)(l:List Oper):Nat->Bool:=
 List.rec (motive:=λ_=>Nat->Bool) (λ_=>true) (λo _ ih i=>
  (match o.dst with
   |some d=>Nat.beq i j|| !(looks.any λt=>Nat.beq t d)||(match bef[Nat.max i j]? with|some b=>b.testBit (Nat.min i j)|none=>false)
   |none=>true)&&ih (Nat.succ i)) l
def OI (all:List Oper)(bef:List Nat)(l:List Oper):Nat->Bool:=
 List.rec (motive:=λ_=>Nat->Bool) (λ_=>true) (λo _ ih j=>Ib bef j (DI all o) all 0&&ih (Nat.succ j)) l
def FB (ops:List Oper)(bef:List Nat):Bool:=Nat.beq bef.length ops.length&&MM ops 0&&OI ops bef ops 0
structure AF where
 fn:Nat
 n:Nat
 glob:Nat
 tmps:T Value
 todo:List Item
 mode:FrameMode
 kind:CallKind
 roundOf:Option Nat
def orM (m:Nat)(t:Nat):Nat:=fN (Nat.lor m (Nat.shiftLeft (nat_lit 1) t)) λm=>m
def orO (x:Operand)(m:Nat):Nat:=Operand.rec (motive:=λ_=>Nat) (λt=>orM m t) (λ_=>m) (λ_=>m) (λ_=>m) x
def outR (l:List Oper):List Nat->Nat->Nat:=
 List.rec (motive:=λ_=>List Nat->Nat->Nat) (λ_ m=>m) (λo _ ih ds m=>
  fN (o.op.operands.toList.foldl (λm x=>match x with| .tmp t=>(Option.rec (motive:=λ_=>Nat) (orM m t) (λ_=>m) (Gq t ds))|_=>m) m) λm=>ih (BM o.dst ds) m) l
def outC (c:Code):Nat->Nat:=
 Code.rec (motive:=λ_=>Nat->Nat) (λm=>m) (λ_ ops _ m=>outR ops.toList [] m) (λ_ _ f g m=>fN (f m) g) (λc _ _ f g m=>fN (orO c m) λm=>fN (f m) g) (λ_ _ f=>f) (λ_ f=>f) (λx _ _ _ f g m=>fN (orO x m) λm=>fN (f m) g) (λ_ m=>m) (λ_ f=>f) (λ_ m=>m) (λ_ m=>m) (λm=>m) (λ_ m=>m) c
def Ao (fn:Func):Nat:=
 fn.results.toList.foldl (λm x=>match x with| .tmp t=>orM m t| .cell t _=>orM m t) (match fn.body with|some c=>outC c 0|none=>0)
def putG (g i:Nat)(v:Value)(t:T Value):T Value:=Bool.rec (motive:=λ_=>T Value) t (t.set i v) (Nat.testBit g i)
def Ee (g:Nat)(l:List Value):Nat->T Value->T Value:=
 List.rec (motive:=λ_=>Nat->T Value->T Value) (λ_ t=>t) (λv _ ih i t=>ih (Nat.succ i) (putG g i v t)) l
def B2 (E:Env)(f:Nat)(args:List Value)(kind:CallKind):M AF:=
 M.on (E.fn.get f) λfn=>M.on fn.body λc=>M.chk (Nat.ble args.length fn.ntmps)
  (fN fn.ntmps λn=>fN (Ao fn) λg=>M.pure {fn:=f,n,glob:=g,tmps:=Ee g args 0 .E,todo:=[.code c],mode:= .run,kind,roundOf:=none})
def resV (E:Env)(tm:T Value)(x:ResultVar):M Value:=
 match x with
 | .tmp t=>M.ofOpt (tm.get t)
 | .cell a t=>M.on (tm.get a) λa=>M.bind (asA a) λa=>F7 E t a
def resL (E:Env)(tm:T Value)(l:List ResultVar):M (List Value):=
 List.rec (motive:=λ_=>M (List Value)) (M.pure []) (λx _ ih=>M.bind (resV E tm x) λv=>M.bind ih λl=>M.pure (v::l)) l
def tupV (l:List Value):Value:=
 match l with
 |[v]=>v
 |l=> .tuple l.toArray
def PU_ (E:Env)(fn:Func)(tm:T Value):M Value:=M.bind (resL E tm fn.results.toList) λl=>M.pure (tupV l)
inductive Step where
 |go (fr:AF)
 |fin (v:Value) (up:FrameMode)
def goTo (fr:AF)(k:List Item):M Step:=AF.rec (motive:=λ_=>M Step) (λfn n g tm _ mo ki ro=>M.pure (.go (AF.mk fn n g tm k mo ki ro))) fr
def goTm (fr:AF)(k:List Item)(tm:T Value):M Step:=AF.rec (motive:=λ_=>M Step) (λfn n g _ _ mo ki ro=>M.pure (.go (AF.mk fn n g tm k mo ki ro))) fr
def goMo (fr:AF)(mo:FrameMode)(tm:T Value):M Step:=AF.rec (motive:=λ_=>M Step) (λfn n g _ k _ ki ro=>M.pure (.go (AF.mk fn n g tm k mo ki ro))) fr
def Zq (j:Option Code):Bool:=match j with|none=>true|some .ret=>true|_=>false
def endR (l:Nat)(jump:Option Code):M Step:=
 M.bind (rdC l) λc=>match c with
 | .O (.loop _ _ f n g tm ps as bd df)=>M.bind (wrC l (.O (.loop (if jump.isNone then .ready else .done) jump f n g tm ps as bd df))) λ_=>M.pure (.fin (.bool jump.isNone) .run)
 |_=>aC
def EW (fr:AF)(jump:Option Code):M Step:=
 Option.rec (motive:=λ_=>M Step) (M.chk (Zq jump) (goMo fr .returning fr.tmps)) (λl=>endR l jump) fr.roundOf
def IR (fr:AF)(a b:Code)(k:List Item)(v:Value):M Step:=
 match v with
 | .bool t=>Bool.rec (motive:=λ_=>M Step) (goTo fr (.code b::k)) (goTo fr (.code a::k)) t
 |_=>aC
def Fm (fr:AF)(jump:Code)(k:Option (List Item)):M Step:=
 Option.rec (motive:=λ_=>M Step) (EW fr (some jump)) (λk=>goTo fr k) k
def HN (fr:AF)(ds:List Nat)(c:List PanicEntry):M Step:=goMo fr (.panicking c) (List.rec (motive:=λ_=>T Value) fr.tmps (λd _ t=>aY t d) ds)
def regF (call round:Ag)(fr:AF)(ds:List Nat)(f:RT)(k:List Item):M Step:=λs=>
 R.rec (motive:=λ_=>R Step) .none (λtm s=>goTm fr k tm s) (λc s=>Option.rec (motive:=λ_=>R Step) (HN fr ds c s) (λ_=> .none) fr.roundOf) (f call round [] fr.tmps s)
def noP {α:Type}(m:M α):M α:=λs=>R.rec (motive:=λ_=>R α) .none (λa s=> .some a s) (λ_ _=> .none) (m s)
def Hm (call round:Ag)(tm:T Value)(ops:List COp)(bef:List Nat):M (Rho×T Value):=λs=>St.rec (motive:=λ_=>R (Rho×T Value)) (λmem next lim rd wr cx=>
 R.rec (motive:=λ_=>R (Rho×T Value)) .none (λp s=>Prod.rec (motive:=λ_=>R (Rho×T Value)) (λq l=>St.rec (motive:=λ_=>R (Rho×T Value)) (λmem' next' _ _ _ _=>
  Bool.rec (motive:=λ_=>R (Rho×T Value)) .none (.some q (St.mk mem' next' lim (rdsL lim l rd) (wrsL lim l wr) cx)) (BN next l.reverse bef)) s) p) (λ_ _=> .none)
  (D5 call round ops [] [] tm (St.mk mem next (nat_lit 0) [] [] .no))) s
def endE (call round:Ag)(fr:AF)(last:List COp)(ds:List Nat)(k:List Item)(q:Rho×T Value):M Step:=λs=>
 R.rec (motive:=λ_=>R Step) .none (λtm s=>goTm fr k tm s) (λc s=>Option.rec (motive:=λ_=>M Step) (HN fr ds c) (λ_=>aC) fr.roundOf s) (AB call round last q.1 q.2 s)
def JZ (call round:Ag)(fr:AF)(ops last:List COp)(bef ds:List Nat)(k:List Item):M Step:=
 M.bind (Hm call round fr.tmps ops bef) (endE call round fr last ds k)
def DC (n:Nat)(bef:List Nat):Nat:=Bool.rec (motive:=λ_=>Nat) n (Nat.pred n) (match bef[Nat.pred n]? with|some b=>Nat.beq b (Nat.sub (Nat.pow 2 (Nat.pred n)) 1)|none=>false)
abbrev GN:Type:=Nat->List Value->FrameMode->M (Option (List PanicEntry)×FrameMode)
def runD (dcall:GN)(fr:AF)(d:Deferred):M Step:=
 match d.target with
 | .collected b=>M.bind (rdC b) λc=>(match c with
  | .O (.deferred (some []))=>M.bind (wrC b (.O (.deferred none))) λ_=>M.pure (.go fr)
  |_=>aC)
 |_=>aC
def outF (E:Env)(fr:AF)(up:Option FrameMode):M Step:=
 match fr.mode with
 | .returning=>M.on (E.fn.get fr.fn) λfn=>M.bind (PU_ E fn fr.tmps) λv=>M.pure (.fin v (up.getD .run))
 | .panicking c=>λs=> .pan c s
 | .run=>aC
def EE (E:Env)(dcall:GN)(fr:AF):M Step:=
 M.bind Lf λcx=>match cx with
 | .cx up (some [])=>outF E fr up
 | .cx up (some (d::ds))=>noP (M.bind (JT (.cx up (some ds))) λ_=>runD dcall fr d)
 |_=>aC
abbrev Et:Type:=Ag->Ag->AF->List Item->M Step
def dstL (l:List Oper):List Nat:=List.rec (motive:=λ_=>List Nat) [] (λo _ ih=>BM o.dst ih) l
def KO (l:List COp):Nat->List COp:=List.rec (motive:=λ_=>Nat->List COp) (λ_=>[]) (λc _ ih m=>Nat.rec (motive:=λ_=>List COp) [] (λm' _=>c::ih m') m) l
def IT (l:List COp):Nat->List COp:=List.rec (motive:=λ_=>Nat->List COp) (λ_=>[]) (λc l ih m=>Nat.rec (motive:=λ_=>List COp) (c::l) (λm' _=>ih m') m) l
def So (l:List COp)(ds bef:List Nat)(m:Nat):Cl Et:= .mk λcall round fr k=>JZ call round fr (KO l m) (IT l m) bef ds k
def It (E:Env)(glob n:Nat)(ops:Array Oper)(d:Bool):Cl Et:=
 Option.rec (motive:=λ_=>Cl Et) (.mk λ_ _ _ _=>aC) (λl=>Bool.rec (motive:=λ_=>Cl Et) (Cl.rec (motive:=λ_=>Cl Et) (λf=> .mk λcall round fr k=>regF call round fr (dstL ops.toList) f k) (fuse l)) (Bool.rec (motive:=λ_=>Cl Et) (.mk λ_ _ _ _=>aC) (So l (dstL ops.toList) (Region.before ops).toList (DC l.length (Region.before ops).toList)) (FB ops.toList (Region.before ops).toList)) d) (BX E glob n ops.toList ops.toList [])
def GT (E:Env)(glob n:Nat)(c:Code):Cl Et:=
 match c with
 | .skip=> .mk λ_ _ fr k=>goTo fr k
 | .region _ ops d=>It E glob n ops d
 | .seq a b=> .mk λ_ _ fr k=>goTo fr (.code a:: .code b::k)
 | .cond c a b=>Cl.rec (motive:=λ_=>Cl Et) (λg=> .mk λ_ _ fr k=>M.on (g [] fr.tmps) (IR fr a b k)) (BW [] c)
 | .block id body=> .mk λ_ _ fr k=>goTo fr (.code body:: .inBlock id::k)
 | .loop body=> .mk λ_ _ fr k=>goTo fr (.code body:: .inLoop body::k)
 | .rangeFunc _ _ _ _=> .mk λ_ _ _ _=>aC
 | .exit id=> .mk λ_ _ fr k=>Fm fr (.exit id) (exitTo id k)
 | .scope body=> .mk λ_ _ fr k=>goTo fr (.code body:: .inScope body::k)
 | .label _=> .mk λ_ _ fr k=>goTo fr k
 | .goto l=> .mk λ_ _ fr k=>Fm fr (.goto l) (gotoIn l k)
 | .ret=> .mk λ_ _ fr _=>EW fr (some .ret)
 | .refuse _=> .mk λ_ _ _ _=>aC
def codeF (E:Env)(call round:Ag)(fr:AF)(k:List Item)(c:Code):M Step:=AF.rec (motive:=λ_=>M Step) (λfn n g tm todo mo ki ro=>Cl.rec (motive:=λ_=>M Step) (λf=>f call round (AF.mk fn n g tm todo mo ki ro) k) (GT E g n c)) fr
def OJ (E:Env)(call round:Ag)(fr:AF)(k:List Item)(x:Item):M Step:=
 Item.rec (motive:=λ_=>M Step) (λc=>codeF E call round fr k c) (λ_=>goTo fr k) (λbody=>goTo fr (.code body:: .inLoop body::k)) (λ_=>goTo fr k) (λ_ _=>aC) (λ_=>aC) (λ_=>aC) aC (λ_ _ _ _=>aC) (λ_ _=>aC) x
def skim:Nat->List Item->List Item
 |0,l=>l
 |n+1,l=>
  match l with
  | .code .skip::k=>skim n k
  | .code (.label _)::k=>skim n k
  | .inBlock _::k=>skim n k
  | .inScope _::k=>skim n k
  | .code (.seq a b)::k=>skim n (.code a:: .code b::k)
  | .code (.block id c)::k=>skim n (.code c:: .inBlock id::k)
  | .code (.loop c)::k=>skim n (.code c:: .inLoop c::k)
  | .inLoop c::k=>skim n (.code c:: .inLoop c::k)
  | .code (.scope c)::k=>skim n (.code c:: .inScope c::k)
  | .code (.exit id)::k=>(match exitTo id k with
   |some k'=>skim n k'
   |none=> .code (.exit id)::k)
  |l=>l
def KP (E:Env)(call round:Ag)(fr:AF)(l:List Item):M Step:=
 List.rec (motive:=λ_=>M Step) (EW fr none) (λx k _=>OJ E call round fr k x) l
def Fg (E:Env)(call round:Ag)(dcall:GN)(fr:AF):M Step:=
 AF.rec (motive:=λ_=>M Step) (λfn n g tm todo mo ki ro=>
  FrameMode.rec (motive:=λ_=>M Step) (noP (KP E call round (AF.mk fn n g tm (skim 64 todo) mo ki ro) (skim 64 todo)))
   (EE E dcall (AF.mk fn n g tm todo mo ki ro)) (λ_=>EE E dcall (AF.mk fn n g tm todo mo ki ro)) mo) fr
def within {α:Type}(c:Ctx)(m:M α):M α:=λs=>St.rec (motive:=λ_=>R α) (λmem next lim rd wr cx=>
 R.rec (motive:=λ_=>R α) .none (λa s=>St.rec (motive:=λ_=>R α) (λmem next lim rd wr _=> .some a (St.mk mem next lim rd wr cx)) s)
  (λp s=>St.rec (motive:=λ_=>R α) (λmem next lim rd wr _=> .pan p (St.mk mem next lim rd wr cx)) s) (m (St.mk mem next lim rd wr c))) s
def cxN:Ctx:= .cx none (some [])
def fstV (p:Value×FrameMode):M Value:=M.pure p.1
def Ac (E:Env)(ih:AF->M (Value×FrameMode))(f:Nat)(args:List Value):M Value:=
 Option.rec (motive:=λ_=>M Value) (Option.rec (motive:=λ_=>M Value) (within cxN (M.bind (M.bind (B2 E f args .normal) ih) fstV)) (λm=>m args) (E.ext.get f)) (λm=>m args) (E.orc.get f)
def B3 (_:AF->M (Value×FrameMode))(_:Nat)(_:List Value):M Value:=aC
def upOf (c:Ctx):FrameMode:=match c with| .cx (some m) _=>m|_=> .run
def GP (E:Env)(ih:AF->M (Value×FrameMode))(f:Nat)(args:List Value)(m:FrameMode):M (Option (List PanicEntry)×FrameMode):=
 within (.cx (some m) (some [])) (λs=>R.rec (motive:=λ_=>R (Option (List PanicEntry)×FrameMode)) .none (λp s=> .some (none,p.2) s) (λc s=> .some (some c,upOf s.cx) s) (M.bind (B2 E f args .deferred) ih s))
def Hi (ih:AF->M (Value×FrameMode))(r:Step):M (Value×FrameMode):=Step.rec (motive:=λ_=>M (Value×FrameMode)) (λfr=>ih fr) (λv u=>M.pure (v,u)) r
def runF (E:Env)(fuel:Nat):AF->M (Value×FrameMode):=
 Nat.rec (motive:=λ_=>AF->M (Value×FrameMode)) (λ_=>aC) (λ_ ih fr=>M.bind (Fg E (Ac E ih) (B3 ih) (GP E ih) fr) (Hi ih)) fuel
def JU (E:Env)(fuel:Nat)(f:Nat)(args:List Value):M Value:=Ac E (runF E fuel) f args
theorem T.get_E {α:Type}(k:Nat):T.get (T.E:T α) k=none:=rfl
theorem aR {α:Type}(v:Option α)(l r:T α):T.get (T.N v l r) 0=v:=rfl
theorem Sf (k:Nat):Nat.beq (Nat.mod k (nat_lit 2)) (nat_lit 0)=decide (k%2=0):=by
 show Nat.beq (k%2) 0=_
 by_cases h:k%2=0
 ·rw[h];rfl
 ·have h1:k%2=1:=J
  rw[h1];rfl
theorem aN {α:Type}(v:Option α)(l r:T α)(k:Nat):T.get (T.N v l r) (k+1)=if k%2=0 then T.get l (k/2)else T.get r (k/2):=by
 show Bool.rec (motive:=λ_=>Nat->Option α) (T.get r) (T.get l) (Nat.beq (Nat.mod k (nat_lit 2)) (nat_lit 0)) (Nat.div k (nat_lit 2))=_
 rw[Sf]
 by_cases h:k%2=0<;>simp only[h,decide_true,decide_false,if_true,if_false]<;>rfl
theorem T.one_N {α:Type}(x:Option α): ∀(fuel k:Nat),k<fuel-> ∃v l r,T.one x fuel k=T.N v l r/\ ∀j,T.get (T.N v l r) j=if j=k then x else none
 |0,k,h=>absurd h (Nat.not_lt_zero _)
 |n+1,0,_=>⟨x, .E, .E,rfl,λj=>by
   cases j with
   |zero=>rfl
   |succ j=>rw[aN];simp[T.get_E]⟩
 |n+1,k+1,h=>by
  obtain⟨v,l,r,e,hg⟩:=T.one_N x n (k/2) J
  have e1:T.one x (n+1) (k+1)=if k%2=0 then T.N none (T.N v l r) .E else T.N none .E (T.N v l r):=by
   show T.rec (motive:=λ_=>T α) .E (λa b c _ _=>Bool.rec (motive:=λ_=>T α) (.N none .E (.N a b c)) (.N none (.N a b c) .E) (Nat.beq (Nat.mod k (nat_lit 2)) (nat_lit 0))) (T.one x n (Nat.div k (nat_lit 2)))=_
   rw[show T.one x n (Nat.div k (nat_lit 2))=T.N v l r from e,Sf]
   by_cases h2:k%2=0<;>simp only[h2,decide_true,decide_false,if_true,if_false]
  by_cases h2:k%2=0
  ·rw[e1,if_pos h2]
   refine⟨_,_,_,rfl,λj=> ?_⟩
   cases j with
   |zero=>rw[aR,if_neg J]
   |succ j=>
    rw[aN]
    by_cases h3:j%2=0
    ·rw[if_pos h3,hg];simp only[show(j/2=k/2)↔(j+1=k+1) by omega]
    ·rw[if_neg h3,T.get_E,if_neg J]
  ·rw[e1,if_neg h2]
   refine⟨_,_,_,rfl,λj=> ?_⟩
   cases j with
   |zero=>rw[aR,if_neg J]
   |succ j=>
    rw[aN]
    by_cases h3:j%2=0
    ·rw[if_pos h3,T.get_E,if_neg J]
    ·rw[if_neg h3,hg];simp only[show(j/2=k/2)↔(j+1=k+1) by omega]
theorem T.setO_N {α:Type}(x:Option α): ∀(t:T α) (k:Nat),∃v l r,T.setO x t k=T.N v l r/\ ∀j,T.get (T.N v l r) j=if j=k then x else T.get t j
 | .E,k=>by
  obtain⟨v,l,r,e,hg⟩:=T.one_N x (k+1) k J
  exact⟨v,l,r,e,λj=>by rw[hg,T.get_E]⟩
 | .N v l r,0=>⟨x,l,r,rfl,λj=>by
   cases j with
   |zero=>rfl
   |succ j=>rw[aN,aN,if_neg (show ¬j+1=0 by omega)]⟩
 | .N v l r,k+1=>by
  obtain⟨a,b,c,e,hg⟩:=T.setO_N x l (k/2)
  obtain⟨a',b',c',e',hg'⟩:=T.setO_N x r (k/2)
  have e1:T.setO x (T.N v l r) (k+1)=if k%2=0 then T.N v (T.N a b c) r else T.N v l (T.N a' b' c'):=by
   show Bool.rec (motive:=λ_=>Nat->T α) (λk=>T.rec (motive:=λ_=>T α) .E (λa b c _ _=> .N v l (.N a b c)) (T.setO x r k)) (λk=>T.rec (motive:=λ_=>T α) .E (λa b c _ _=> .N v (.N a b c) r) (T.setO x l k)) (Nat.beq (Nat.mod k (nat_lit 2)) (nat_lit 0)) (Nat.div k (nat_lit 2))=_
   rw[Sf]
   by_cases h2:k%2=0
   ·simp only[h2,decide_true,if_true]
    rw[show T.setO x l (Nat.div k (nat_lit 2))=T.N a b c from e]
   ·simp only[h2,decide_false,if_false]
    rw[show T.setO x r (Nat.div k (nat_lit 2))=T.N a' b' c' from e']
  by_cases h2:k%2=0
  ·rw[e1,if_pos h2]
   refine⟨_,_,_,rfl,λj=> ?_⟩
   cases j with
   |zero=>rw[aR,aR,if_neg J]
   |succ j=>
    rw[aN,aN]
    by_cases h3:j%2=0
    ·rw[if_pos h3,if_pos h3,hg];simp only[show(j/2=k/2)↔(j+1=k+1) by omega]
    ·rw[if_neg h3,if_neg h3,if_neg J]
  ·rw[e1,if_neg h2]
   refine⟨_,_,_,rfl,λj=> ?_⟩
   cases j with
   |zero=>rw[aR,aR,if_neg J]
   |succ j=>
    rw[aN,aN]
    by_cases h3:j%2=0
    ·rw[if_pos h3,if_pos h3,if_neg J]
    ·rw[if_neg h3,if_neg h3,hg'];simp only[show(j/2=k/2)↔(j+1=k+1) by omega]
theorem T.get_set {α:Type}(t:T α)(k:Nat)(x:α)(j:Nat):T.get (T.set t k x) j=if j=k then some x else T.get t j:=by
 obtain⟨v,l,r,e,hg⟩:=T.setO_N (some x) t k
 show T.get (T.setO (some x) t k) j=_
 rw[e,hg]
theorem aW {α:Type}(t:T α)(k:Nat)(j:Nat):T.get (aY t k) j=if j=k then none else T.get t j:=by
 obtain⟨v,l,r,e,hg⟩:=T.setO_N none t k
 show T.get (T.setO none t k) j=_
 rw[e,hg]
theorem aZ {α:Type}(t:T α)(k:Nat)(x:α): ∃v l r,T.set t k x=T.N v l r:=let ⟨v,l,r,e,_⟩:=T.setO_N (some x) t k;⟨v,l,r,e⟩
theorem Ar {β:Type}(n:Nat)(K:Nat->β):fN n K=K n:=by cases n<;>rfl
theorem Cd {β:Type}(n:Int)(K:Int->β):fI n K=K n:=by
 cases n with
 |ofNat m=>show fN m (λm=>K (.ofNat m))=_;rw[Ar]
 |negSucc m=>show fN m (λm=>K (.negSucc m))=_;rw[Ar]
theorem Acm_ {β:Type}(s:Option Nat)(K:Option Nat->β):fS s K=K s:=by cases s<;>rfl
theorem CH {β:Type}(a:Addr)(K:Addr->β):fA a K=K a:=by
 obtain⟨b,o,s⟩:=a
 show fN b (λb=>fN o λo=>fS s λs=>K ⟨b,o,s⟩)=_
 rw[Ar,Ar,Acm_]
theorem bind_some {α β:Type}{m:M α}{f:α->M β}{s:St}{b:β}{s':St}(h:M.bind m f s= .some b s'): ∃a s1,m s= .some a s1/\f a s1= .some b s':=by
 unfold M.bind at h
 cases e:m s with
 |none=>rw[e]at h;cases h
 |some a s1=>rw[e]at h;exact⟨a,s1,rfl,h⟩
 |pan c s1=>rw[e]at h;cases h
theorem Pp {α β:Type}{m:M α}{f:α->M β}{s:St}{c:List PanicEntry}{s':St}(h:M.bind m f s= .pan c s'):m s= .pan c s'\/ ∃a s1,m s= .some a s1/\f a s1= .pan c s':=by
 unfold M.bind at h
 cases e:m s with
 |none=>rw[e]at h;cases h
 |some a s1=>rw[e]at h;exact .inr ⟨a,s1,rfl,h⟩
 |pan c1 s1=>rw[e]at h;left;simpa using h
theorem Af {α:Type}{a b:α}{s s':St}(h:M.pure a s= .some b s'):a=b/\s=s':=by cases h;exact⟨rfl,rfl⟩
theorem DR {α:Type}{x:Option α}{b:α}{s s':St}(h:M.ofOpt x s= .some b s'):x=some b/\s=s':=by
 cases x with
 |none=>cases h
 |some a=>cases h;exact⟨rfl,rfl⟩
theorem Bw {α β:Type}{x:Option α}{f:α->M β}{b:β}{s s':St}(h:M.on x f s= .some b s'): ∃a,x=some a/\f a s= .some b s':=by
 cases x with
 |none=>cases h
 |some a=>exact⟨a,rfl,h⟩
theorem AV {α:Type}{b:Bool}{m:M α}{x:α}{s s':St}(h:M.chk b m s= .some x s'):b=true/\m s= .some x s':=by
 cases b with
 |false=>cases h
 |true=>exact⟨rfl,h⟩
theorem DO {α:Type}(b:Bool)(m n:M α):aT b m n=if b then m else n:=by cases b<;>rfl
structure Tok where
 e:Nat
 b:Nat
 p:Nat
 sz:Nat
def Sg_:Nat->Nat->List Nat
 |0,_=>[]
 |k+1,n=>if n=0 then []else n%16::Sg_ k (n/16)
def AfN_ (d:Nat)(v:Value):Prop:=
 match d with
 |9=> ∃b,v= .bool b
 |10=> ∃p n c,v= .slice p n c
 |11=> ∃s,v= .string s
 |12=>oneCell v=true
 |d=> ∃k n,v= .int k n/\kNum k+1=d
def SlG (v:Value)(sh:List Nat)(w:World):Prop:=
 ∀p n c,v= .slice p n c->n=0\/ ∃b o,p=some ⟨b,o,none⟩/\b<w.heap.size/\n<4611686018427387904/\ ∀i j d,i<n->sh[j]?=some d-> ∃x,w.cell? ⟨b,o+i*sh.length+j,none⟩=some x/\AfN_ d x
structure Know where
 tv:Nat->Value
def Know.no:Know:=⟨λ_=> .nilFunc⟩
def Know.sure (K:Know)(w:World):Prop:= ∀b,SlG (K.tv b) (Sg_ 40 (b/1024)) w
theorem Know.no_sure (w:World):Know.no.sure w:=λb p n c e=>by cases e
structure Inj where
 blk:Nat->Option (Nat×Nat)
 ext:Nat->Option Tok
 known:Know
def Inj.nil (K:Know):Inj:=⟨λ_=>none,λ_=>none,K⟩
structure Inj.le (r r':Inj):Prop where
 one: ∀b x,r.blk b=some x->r'.blk b=some x
 two: ∀t x,r.ext t=some x->r'.ext t=some x
 three:r'.known=r.known
theorem Inj.le_refl (r:Inj):r.le r:=⟨λ_ _ h=>h,λ_ _ h=>h,rfl⟩
theorem Inj.le_trans {a b c:Inj}(h:a.le b)(k:b.le c):a.le c:=⟨λx y e=>k.1 x y (h.1 x y e),λx y e=>k.2 x y (h.2 x y e),k.3.trans h.3⟩
def CapR (r:Inj)(b' o c c':Nat):Prop:=
 (c/capU=0/\c'=c)\/(c/capU≠0/\ ∃k,r.ext (c/capU/1024)=some k/\k.sz=c/capU%1024/\c'=c%capU+k.e/\k.b=b'/\o+(c%capU)*k.sz=k.p)
def FnR (r:Inj):Fn->Fn->Prop
 | .yield l, .yield l'=> ∃d,r.blk l=some (l',d)
 | .func f, .func f'=>f=f'
 |_,_=>False
def TopR (K:Know):Nat->Nat->Value->Prop
 |0,_,v=>oneCell v=true
 |1,b,v=> ∃k n,v= .int k n/\kNum k=b
 |2,_,v=> ∃b,v= .bool b
 |3,_,v=> ∃p n c,v= .slice p n c
 |4,_,v=> ∃s,v= .string s
 |5,b,v=>v=K.tv b/\ ∃p n c,v= .slice p n c
 |_,_,_=>False
theorem TopR.one {K:Know}{t b:Nat}{v:Value}(h:TopR K t b v):oneCell v=true:=by
 match t,h with
 |0,h=>exact h
 |1,⟨k,n,e,_⟩=>subst e;rfl
 |2,⟨b,e⟩=>subst e;rfl
 |3,⟨p,n,c,e⟩=>subst e;rfl
 |4,⟨s,e⟩=>subst e;rfl
 |5,⟨_,p,n,c,e⟩=>subst e;rfl
 |_+6,h=>exact h.elim
inductive VR (r:Inj):Value->Value->Prop
 |bool (b:Bool):VR r (.bool b) (.bool b)
 |int (k:IntKind) (n:Int):VR r (.int k n) (.int k n)
 |float (k:FloatKind) (n:Nat):VR r (.float k n) (.float k n)
 |complex {k:FloatKind} {a b:Nat} {v':Value}:TopR r.known a b v'->VR r (.complex k a b) v'
 |string (s:ByteArray):VR r (.string s) (.string s)
 |ptrNil:VR r (.pointer none) (.pointer none)
 |ptr {b o b' d:Nat}:r.blk b=some (b',d)->VR r (.pointer (some ⟨b,o,none⟩)) (.pointer (some ⟨b',o+d,none⟩))
 |slNil:VR r (.slice none 0 0) (.slice none 0 0)
 |sl {b o b' d l c c':Nat}:r.blk b=some (b',d)->CapR r b' (o+d) c c'->l<=c%capU->VR r (.slice (some ⟨b,o,none⟩) l c) (.slice (some ⟨b',o+d,none⟩) l c')
 |slEnd {a a':Addr} {c c':Nat}:c/capU≠0->c%capU=0->VR r (.slice (some a) 0 c) (.slice (some a') 0 c')
 |mapNil:VR r (.map none) (.map none)
 |map {m m' d:Nat}:r.blk m=some (m',d)->VR r (.map (some m)) (.map (some m'))
 |chanNil:VR r (.chan none) (.chan none)
 |iter {b b':Nat}:r.blk b=some (b',0)->VR r (.chan (some b)) (.pointer (some ⟨b',0,none⟩))
 |func {f f':Fn} {a a' c c':Array Value}:FnR r f f'->a.size=a'.size->(∀(i:Nat) v v',a[i]?=some v->a'[i]?=some v'->VR r v v')->
  c.size=c'.size->(∀(i:Nat) v v',c[i]?=some v->c'[i]?=some v'->VR r v v')->VR r (.func f a c) (.func f' a' c')
 |nilFunc:VR r .nilFunc .nilFunc
 |iface {t:TypeId} {v v':Value}:VR r v v'->VR r (.iface t v) (.iface t v')
 |nilIface:VR r .nilIface .nilIface
 |agg {c c':Array Value}:c.size=c'.size->(∀(i:Nat) v v',c[i]?=some v->c'[i]?=some v'->VR r v v')->VR r (.agg c) (.agg c')
 |tuple {c c':Array Value}:c.size=c'.size->(∀(i:Nat) v v',c[i]?=some v->c'[i]?=some v'->VR r v v')->VR r (.tuple c) (.tuple c')
theorem CapR.mono {r r':Inj}(h:r.le r'){b o c c':Nat}(k:CapR r b o c c'):CapR r' b o c c':=by
 rcases k with k|⟨h1,k,h2,h3⟩
 ·exact .inl k
 ·exact .inr ⟨h1,k,h.2 _ _ h2,h3⟩
theorem FnR.mono {r r':Inj}(h:r.le r'){f f':Fn}(k:FnR r f f'):FnR r' f f':=by
 cases f<;>cases f'<;>simp only[FnR]at k ⊢
 ·exact k
 ·obtain⟨d,k⟩:=k
  exact⟨d,h.1 _ _ k⟩
theorem VR.mono {r r':Inj}(h:r.le r'){v v':Value}(k:VR r v v'):VR r' v v':=by
 induction k with
 |bool b=>exact .bool b
 |int k n=>exact .int k n
 |float k n=>exact .float k n
 |complex e=>exact .complex (by rw[h.3];exact e)
 |string s=>exact .string s
 |ptrNil=>exact .ptrNil
 |ptr e=>exact .ptr (h.1 _ _ e)
 |slNil=>exact .slNil
 |sl e c l=>exact .sl (h.1 _ _ e) (c.mono h) l
 |slEnd a b=>exact .slEnd a b
 |mapNil=>exact .mapNil
 |map e=>exact .map (h.1 _ _ e)
 |chanNil=>exact .chanNil
 |iter e=>exact .iter (h.1 _ _ e)
 |func f a _ c _ i1 i2=>exact .func (f.mono h) a i1 c i2
 |nilFunc=>exact .nilFunc
 |iface _ i=>exact .iface i
 |nilIface=>exact .nilIface
 |agg a _ i=>exact .agg a i
 |tuple a _ i=>exact .tuple a i
def VRs (r:Inj)(l l':List Value):Prop:=l.length=l'.length/\ ∀(i:Nat) v v',l[i]?=some v->l'[i]?=some v'->VR r v v'
theorem VRs.nil {r:Inj}:VRs r [] []:=⟨rfl,λi v v' h=>by simp at h⟩
theorem VRs.cons {r:Inj}{v v':Value}{l l':List Value}(h:VR r v v')(k:VRs r l l'):VRs r (v::l) (v'::l'):=
 ⟨by simp[k.1],λi a a' e e'=>by
  cases i with
  |zero=>simp at e e';subst e;subst e';exact h
  |succ i=>simp at e e';exact k.2 i a a' e e'⟩
theorem VRs.inv {r:Inj}{v:Value}{l m:List Value}(h:VRs r (v::l) m): ∃v' l',m=v'::l'/\VR r v v'/\VRs r l l':=by
 cases m with
 |nil=>have:=h.1;simp at this
 |cons v' l'=>exact⟨v',l',rfl,h.2 0 v v' rfl rfl,by simpa using h.1,λi a a' e e'=>h.2 (i+1) a a' (by simpa using e) (by simpa using e')⟩
theorem VRs.inv_nil {r:Inj}{m:List Value}(h:VRs r [] m):m=[]:=List.eq_nil_of_length_eq_zero h.1.symm
theorem VRs.mono {r r':Inj}(h:r.le r'){l l':List Value}(k:VRs r l l'):VRs r' l l':=⟨k.1,λi v v' e e'=>(k.2 i v v' e e').mono h⟩
theorem VRs.append {r:Inj}{a a' b b':List Value}(h:VRs r a a')(k:VRs r b b'):VRs r (a++b) (a'++b'):=
 ⟨by simp[h.1,k.1],λi v v' e e'=>by
  by_cases hi:i<a.length
  ·rw[List.getElem?_append_left hi]at e
   rw[List.getElem?_append_left (by rw[<-h.1];exact hi)]at e'
   exact h.2 i v v' e e'
  ·rw[List.getElem?_append_right J]at e
   rw[List.getElem?_append_right (by rw[<-h.1];omega),<-h.1]at e'
   exact k.2 _ v v' e e'⟩
theorem VRs.take {r:Inj}{a a':List Value}(h:VRs r a a')(n:Nat):VRs r (a.take n) (a'.take n):=
 ⟨by simp[h.1],λi v v' e e'=>by
  rw[List.getElem?_take]at e e'
  by_cases hi:i<n
  ·rw[if_pos hi]at e e'
   exact h.2 i v v' e e'
  ·rw[if_neg hi]at e
   cases e⟩
theorem VRs.drop {r:Inj}{a a':List Value}(h:VRs r a a')(n:Nat):VRs r (a.drop n) (a'.drop n):=
 ⟨by simp[h.1],λi v v' e e'=>by
  rw[List.getElem?_drop]at e e'
  exact h.2 _ v v' e e'⟩
theorem VRs.get {r:Inj}{a a':List Value}(h:VRs r a a'){i:Nat}{v:Value}(e:a[i]?=some v): ∃v',a'[i]?=some v'/\VR r v v':=by
 have hi:i<a.length:=(List.getElem?_eq_some_iff.1 e).1
 have hi':i<a'.length:=by rw[<-h.1];exact hi
 exact⟨a'[i],List.getElem?_eq_getElem hi',h.2 i v _ e (List.getElem?_eq_getElem hi')⟩
theorem a8 {r:Inj}{c c':Array Value}(h:c.size=c'.size)(k: ∀(i:Nat) v v',c[i]?=some v->c'[i]?=some v'->VR r v v'):VRs r c.toList c'.toList:=
 ⟨by simpa using h,λi v v' e e'=>k i v v' (by simpa using e) (by simpa using e')⟩
theorem VRs.agg {r:Inj}{l l':List Value}(h:VRs r l l'):VR r (.agg l.toArray) (.agg l'.toArray):= .agg (by simpa using h.1) λi v v' e e'=>h.2 i v v' (by simpa using e) (by simpa using e')
theorem VRs.tuple {r:Inj}{l l':List Value}(h:VRs r l l'):VR r (.tuple l.toArray) (.tuple l'.toArray):= .tuple (by simpa using h.1) λi v v' e e'=>h.2 i v v' (by simpa using e) (by simpa using e')
theorem VR.undef {r:Inj}:VR r undef undef:= .tuple rfl (λi v v' e=>by simp at e)
theorem KY {n:Nat}{c:Array Value}(h:c.toList.all (A1 n)=true): ∀x∈c,A1 n x=true:=λx hx=>List.all_eq_true.1 h x (by simpa using hx)
theorem bA {r:Inj}: ∀(n:Nat) (v:Value),A1 n v=true->VR r v v
 |_, .bool b,_=> .bool b
 |_, .int k n,_=> .int k n
 |_, .float k n,_=> .float k n
 |n, .complex k a b,h=>by cases n<;>simp[A1]at h
 |_, .string s,_=> .string s
 |_, .pointer none,_=> .ptrNil
 |n, .pointer (some a),h=>by cases n<;>simp[A1]at h
 |n, .slice a l c,h=>by
  cases a with
  |some a=>cases n<;>simp[A1]at h
  |none=>
   have:l=0/\c=0:=by
    cases l<;>cases c<;>cases n<;>simp[A1]at h ⊢
   obtain⟨rfl,rfl⟩:=this
   exact .slNil
 |_, .map none,_=> .mapNil
 |n, .map (some a),h=>by cases n<;>simp[A1]at h
 |_, .chan none,_=> .chanNil
 |n, .chan (some a),h=>by cases n<;>simp[A1]at h
 |n, .func f a c,h=>by
  have:(∃g,f= .func g)/\a= #[]/\c= #[]:=by
   cases f<;>cases n<;>simp[A1]at h ⊢ <;>exact h
  obtain⟨⟨g,rfl⟩,rfl,rfl⟩:=this
  exact .func rfl rfl (λi v v' e=>by simp at e) rfl (λi v v' e=>by simp at e)
 |_, .nilFunc,_=> .nilFunc
 |n+1, .iface t v,h=> .iface (bA n v (by simpa [A1]using h))
 |0, .iface t v,h=>by simp[A1]at h
 |_, .nilIface,_=> .nilIface
 |n+1, .agg c,h=> .agg rfl λi v v' e e'=>by
  have h1: ∀x∈c,A1 n x=true:=KY h
  rw[e]at e'
  cases e'
  exact bA n v (h1 v (Array.mem_of_getElem? e))
 |0, .agg c,h=>by simp[A1]at h
 |n+1, .tuple c,h=> .tuple rfl λi v v' e e'=>by
  have h1: ∀x∈c,A1 n x=true:=KY h
  rw[e]at e'
  cases e'
  exact bA n v (h1 v (Array.mem_of_getElem? e))
 |0, .tuple c,h=>by simp[A1]at h
theorem Sx_ {_r:Inj}{c c':Array Value}(h:c.size=c'.size)(k: ∀(i:Nat) v v',c[i]?=some v->c'[i]?=some v'->v'=v):c'=c:=by
 apply Array.ext h.symm
 intro i h1 h2
 exact k i _ _ (Array.getElem?_eq_getElem h2) (Array.getElem?_eq_getElem h1)
theorem VR.plain_eq {r:Inj}{v v':Value}(h:VR r v v'): ∀n,A1 n v=true->v'=v:=by
 induction h with
 |complex e=>intro n h;cases n<;>simp[A1]at h
 |bool|int|float|string|ptrNil|slNil|mapNil|chanNil|nilFunc|nilIface=>exact λ_ _=>rfl
 |ptr e=>intro n h;cases n<;>simp[A1]at h
 |sl e c l=>intro n h;cases n<;>simp[A1]at h
 |slEnd=>intro n h;cases n<;>simp[A1]at h
 |iter e=>intro n h;cases n<;>simp[A1]at h
 |map e=>intro n h;cases n<;>simp[A1]at h
 | @func f f' a a' c c' hf h1 _ h2 _ _ _=>
  intro n h
  have:(∃g,f= .func g)/\a= #[]/\c= #[]:=by
   cases f<;>cases n<;>simp[A1]at h ⊢ <;>exact h
  obtain⟨⟨g,rfl⟩,rfl,rfl⟩:=this
  cases f'<;>simp[FnR]at hf
  subst hf
  have e1:a'= #[]:=by simpa using h1.symm
  have e2:c'= #[]:=by simpa using h2.symm
  rw[e1,e2]
 |iface _ ih=>
  intro n h
  cases n with
  |zero=>simp[A1]at h
  |succ n=>rw[ih n (by simpa [A1]using h)]
 | @agg c c' hs _ ih=>
  intro n h
  cases n with
  |zero=>simp[A1]at h
  |succ n=>
   have h1: ∀x∈c,A1 n x=true:=KY h
   rw[Sx_ (_r:=r) hs λi v v' e e'=>ih i v v' e e' n (h1 v (Array.mem_of_getElem? e))]
 | @tuple c c' hs _ ih=>
  intro n h
  cases n with
  |zero=>simp[A1]at h
  |succ n=>
   have h1: ∀x∈c,A1 n x=true:=KY h
   rw[Sx_ (_r:=r) hs λi v v' e e'=>ih i v v' e e' n (h1 v (Array.mem_of_getElem? e))]
theorem VR.of_plain {r:Inj}{v:Value}(h:plain v=true):VR r v v:=bA 4 v h
theorem VR.eq_of_plain {r:Inj}{v v':Value}(k:VR r v v')(h:plain v=true):v'=v:=k.plain_eq 4 h
open Go.RowKit
def EsR (r:Inj)(es es':List MapEntry):Prop:=es.length=es'.length/\ ∀(i:Nat) (e e':MapEntry),es[i]?=some e->es'[i]?=some e'->plain e.key=true/\e'.key=e.key/\e'.born=e.born/\VR r e.val e'.val
theorem EsR.mono {r r':Inj}(h:r.le r'){es es':List MapEntry}(k:EsR r es es'):EsR r' es es':=⟨k.1,λi e e' a b=>let ⟨p,q,s,t⟩:=k.2 i e e' a b;⟨p,q,s,t.mono h⟩⟩
def OR (r:Inj):AObj->Obj->Prop
 | .loop st pe f n g tm ps as bd df, .loop l=>l.state=st/\l.pending=pe/\l.fn=f/\l.tmps.size=n/\(∀t v,T.get tm t=some v->Nat.testBit g t=true/\ ∃v',l.tmps[t]?=some v'/\VR r v v')/\
  l.params.toList=ps/\l.assign=as/\l.body=bd/\ ∃d,r.blk df=some (l.defers,d)
 | .deferred (some []), .deferred (some [])=>True
 | .deferred none, .deferred none=>True
 | .map es c, .map es' c'=>c'=c/\EsR r es es'.toList
 | .sit s p, .stringIter s' p'=>s'=s/\p'=p
 |_,_=>False
theorem OR.mono {r r':Inj}(h:r.le r'){o:AObj}{o':Obj}(k:OR r o o'):OR r' o o':=by
 unfold OR at *
 split at k
 ·obtain⟨h1,h2,h3,h4,h5,h6,h7,h8,d,h9⟩:=k
  exact⟨h1,h2,h3,h4,λt v e=>let ⟨q,v',a,b⟩:=h5 t v e;⟨q,v',a,b.mono h⟩,h6,h7,h8,d,h.1 _ _ h9⟩
 ·trivial
 ·trivial
 ·exact⟨k.1,k.2.mono h⟩
 ·exact k
 ·exact k.elim
def AObj.isTok:AObj->Bool
 | .tok .. =>true
 | .old .. =>true
 |_=>false
theorem OR.cells {r:Inj}{o:AObj}{c:Array Value}{t:TypeId}{f:Nat×Nat}(k:OR r o (.cells c t f)):False:=by
 unfold OR at k
 split at k<;>first|exact k|(rename_i h;cases h)
def SzW (w:World)(k n:Nat):Prop:= ∃c e lo hi,w.heap[k]?=some (.cells c e (lo,hi))/\c.size=n/\lo<=hi
theorem SzW.heap {w w':World}{k n:Nat}(q:SzW w k n)(h:w'.heap[k]?=w.heap[k]?):SzW w' k n:=by
 obtain⟨c,e,lo,hi,h1,h2⟩:=q
 exact⟨c,e,lo,hi,by rw[h,h1],h2⟩
theorem SzW.setCell {w:World}{k n:Nat}(q:SzW w k n)(a:Addr)(v:Value):SzW (w.setCell a v) k n:=by
 by_cases hk:k=a.block
 ·obtain⟨c,e,lo,hi,h1,h2,h3⟩:=q
  refine⟨if a.spot.isSome then c else c.setIfInBounds a.off v,e,lo,hi, ?_, ?_,h3⟩
  ·subst hk
   unfold World.setCell
   simp only[Array.getElem?_modify,if_true,h1]
   rfl
  ·split
   ·exact h2
   ·rw[Array.size_setIfInBounds];exact h2
 ·exact q.heap (Below.heap_setCell w a v k hk)
def SzB (r:Inj)(w:World)(b n:Nat):Prop:= ∃b',r.blk b=some (b',0)/\SzW w b' n
theorem SzB.to {r r':Inj}{w w':World}{b n:Nat}(h:SzB r w b n)(hle:r.le r')(hs: ∀b',r.blk b=some (b',0)->SzW w b' n->SzW w' b' n):SzB r' w' b n:=by
 obtain⟨b',h1,h2⟩:=h
 exact⟨b',hle.1 _ _ h1,hs _ h1 h2⟩
structure OldR (w0:World)(r:Inj)(mem:T Cell):Prop where
 old: ∀loc b v,T.get mem loc=some (.O (.old b v))-> ∃b' d v',b<=loc/\r.blk b=some (b',d)/\w0.cell? ⟨b',loc-b+d,none⟩=some v'/\VR r v v'
 newC: ∀loc b v b' d,T.get mem loc=some (.C b v)->r.blk b=some (b',d)->w0.heap.size<=b'
 newO: ∀loc o b' d,T.get mem loc=some (.O o)->o.isTok=false->r.blk loc=some (b',d)->w0.heap.size<=b'
 newS: ∀l n b' d,T.get mem l=some (.O (.tok true (1024+n)))->r.blk (l-n)=some (b',d)->w0.heap.size<=b'
theorem OldR.less {w0:World}{r:Inj}{mem mem':T Cell}(h:OldR w0 r mem)(hm: ∀loc c,T.get mem' loc=some c->T.get mem loc=some c):OldR w0 r mem':=
 ⟨λl b v e=>h.old l b v (hm _ _ e),λl b v b' d e=>h.newC l b v b' d (hm _ _ e),λl o b' d e=>h.newO l o b' d (hm _ _ e),λl n b' d e=>h.newS l n b' d (hm _ _ e)⟩
structure Rel (w0:World)(r:Inj)(mem:T Cell)(w:World):Prop where
 below:Below w0.heap.size w0 w
 dom: ∀b b' d,r.blk b=some (b',d)->w0.heap.size<=w.heap.size/\b'<w.heap.size
 cell: ∀loc b v,T.get mem loc=some (.C b v)-> ∃b' d v',b<=loc/\r.blk b=some (b',d)/\w.cell? ⟨b',loc-b+d,none⟩=some v'/\VR r v v'/\w.frozen? ⟨b',loc-b+d,none⟩=false
 sep: ∀l1 l2 b1 v1 b2 v2 b' d1 d2,T.get mem l1=some (.C b1 v1)->T.get mem l2=some (.C b2 v2)->r.blk b1=some (b',d1)->r.blk b2=some (b',d2)->l1-b1+d1=l2-b2+d2->l1=l2
 obj: ∀loc o,T.get mem loc=some (.O o)->o.isTok=false-> ∃b' d o',r.blk loc=some (b',d)/\w.heap[b']?=some o'/\OR r o o'
 sepO: ∀l1 l2 o1 o2 b' d1 d2,T.get mem l1=some (.O o1)->T.get mem l2=some (.O o2)->o1.isTok=false->o2.isTok=false->r.blk l1=some (b',d1)->r.blk l2=some (b',d2)->l1=l2
 tok: ∀t sz,T.get mem t=some (.O (.tok false sz))-> ∃k,r.ext t=some k/\k.sz=sz%1024/\w0.heap.size<=k.b/\k.b<w.heap.size/\
  (∀j,j<k.e*k.sz-> ∃v',w.cell? ⟨k.b,k.p+j,none⟩=some v'/\w.frozen? ⟨k.b,k.p+j,none⟩=false/\(1024<=sz->(∃m,v'= .int .u8 m)/\k.p+k.e*k.sz<=9223372036854775807))/\
  (∀loc b v d,T.get mem loc=some (.C b v)->r.blk b=some (k.b,d)->loc-b+d<k.p)
 sepT: ∀t1 t2 s1 s2 k1 k2,T.get mem t1=some (.O (.tok false s1))->T.get mem t2=some (.O (.tok false s2))->r.ext t1=some k1->r.ext t2=some k2->k1.b=k2.b->t1=t2
 known:r.known.sure w0
 szs: ∀l n,T.get mem l=some (.O (.tok true (1024+n)))->n<=l/\SzB r w (l-n) n
 olds:OldR w0 r mem
section
variable {w0 w:World}{r:Inj}{mem:T Cell}
theorem Rel.oldsTo (h:Rel w0 r mem w){r':Inj}(hle:r.le r'){mem':T Cell}(hm: ∀loc c,T.get mem' loc=some c->T.get mem loc=some c\/(∃b v b' d,c= .C b v/\r'.blk b=some (b',d)/\w0.heap.size<=b')\/
  (∃u z,c= .O (.tok u z)/\ ∀n,u=true->z=1024+n-> ∀b' d,r'.blk (loc-n)=some (b',d)->w0.heap.size<=b')\/(∃o b' d,c= .O o/\o.isTok=false/\r'.blk loc=some (b',d)/\w0.heap.size<=b')):OldR w0 r' mem' where
 old:=λloc b v e=>by
  rcases hm _ _ e with e|⟨_,_,_,_,e,_⟩|⟨_,_,e,_⟩|⟨o,_,_,e,ht,_⟩
  ·obtain⟨b',d,v',h1,h2,h3,h4⟩:=h.olds.old _ _ _ e
   exact⟨b',d,v',h1,hle.1 _ _ h2,h3,h4.mono hle⟩
  ·cases e
  ·cases e
  ·cases e;cases ht
 newC:=λloc b v b' d e q=>by
  rcases hm _ _ e with e|⟨_,_,_,_,e,h1,h2⟩|⟨_,_,e,_⟩|⟨o,_,_,e,ht,_⟩
  ·obtain⟨b2,d2,_,_,g,_⟩:=h.cell _ _ _ e
   rw[hle.1 _ _ g]at q
   cases q
   exact h.olds.newC _ _ _ _ _ e g
  ·cases e
   rw[h1]at q
   cases q
   exact h2
  ·cases e
  ·cases e
 newO:=λloc o b' d e ht q=>by
  rcases hm _ _ e with e|⟨_,_,_,_,e,_⟩|⟨_,_,e,_⟩|⟨o,_,_,e,_,h1,h2⟩
  ·obtain⟨b2,d2,_,g,_⟩:=h.obj _ _ e ht
   rw[hle.1 _ _ g]at q
   cases q
   exact h.olds.newO _ _ _ _ e ht g
  ·cases e
  ·cases e;cases ht
  ·rw[h1]at q
   cases q
   exact h2
 newS:=λl n b' d e q=>by
  rcases hm _ _ e with e|⟨_,_,_,_,e,_⟩|⟨_,_,e,h1⟩|⟨o,_,_,e,ht,_⟩
  ·obtain⟨_,b2,g,_⟩:=h.szs _ _ e
   rw[hle.1 _ _ g]at q
   cases q
   exact h.olds.newS _ _ _ _ e g
  ·cases e
  ·cases e
   exact h1 n rfl rfl _ _ q
  ·cases e;cases ht
theorem Rel.oldLt (h:Rel w0 r mem w){loc b b' d:Nat}{v:Value}(hc:T.get mem loc=some (.O (.old b v)))(hb:r.blk b=some (b',d)):b'<w0.heap.size:=by
 obtain⟨b1,d1,v',_,h2,h3,_⟩:=h.olds.old _ _ _ hc
 rw[hb]at h2
 cases h2
 exact World.block_lt_of_cell? w0 _ h3
theorem Rel.loadOld (h:Rel w0 r mem w){b o b' d:Nat}{v:Value}(hc:T.get mem (b+o)=some (.O (.old b v)))(hb:r.blk b=some (b',d)): ∃v',w.cell? ⟨b',o+d,none⟩=some v'/\VR r v v':=by
 obtain⟨b1,d1,v',_,h2,h3,h4⟩:=h.olds.old _ _ _ hc
 rw[hb]at h2
 cases h2
 rw[Nat.add_sub_cancel_left]at h3
 exact⟨v',(h.below.cell (p:=⟨b',o+d,none⟩) (World.block_lt_of_cell? w0 _ h3)).trans h3,h4⟩
theorem Rel.load (h:Rel w0 r mem w){b o b' d:Nat}{v:Value}(hc:T.get mem (b+o)=some (.C b v))(hb:r.blk b=some (b',d)):
  ∃v',w.cell? ⟨b',o+d,none⟩=some v'/\VR r v v'/\w.frozen? ⟨b',o+d,none⟩=false:=by
 obtain⟨b1,d1,v',_,h2,h3,h4,h5⟩:=h.cell _ _ _ hc
 rw[hb]at h2
 cases h2
 rw[Nat.add_sub_cancel_left]at h3 h5
 exact⟨v',h3,h4,h5⟩
theorem My {w:World}{a:Addr}{v:Value}{k:Nat}(h:k≠a.block):(w.setCell a v).heap[k]?=w.heap[k]?:=Below.heap_setCell w a v k h
theorem Rel.store (h:Rel w0 r mem w){b o b' d:Nat}{v u u':Value}(hc:T.get mem (b+o)=some (.C b v))(hb:r.blk b=some (b',d))(hu:VR r u u'):
  Rel w0 r (T.set mem (b+o) (.C b u)) (w.setCell ⟨b',o+d,none⟩ u'):=by
 obtain⟨v',h3,h4,h5⟩:=h.load hc hb
 have old: ∀loc c,T.get (T.set mem (b+o) (.C b u)) loc=some c->(loc=b+o/\c= .C b u)\/(loc≠b+o/\T.get mem loc=some c):=by
  intro loc c e
  rw[T.get_set]at e
  split at e
  ·cases e;exact .inl ⟨by assumption,rfl⟩
  ·exact .inr ⟨by assumption,e⟩
 have kind: ∀loc c,T.get (T.set mem (b+o) (.C b u)) loc=some (.O c)->T.get mem loc=some (.O c):=by
  intro loc c e
  rcases old _ _ e with⟨_,e⟩|⟨_,e⟩
  ·cases e
  ·exact e
 have cellOf: ∀loc b1 v1,T.get (T.set mem (b+o) (.C b u)) loc=some (.C b1 v1)-> ∃v2,T.get mem loc=some (.C b1 v2):=by
  intro loc b1 v1 e
  rcases old _ _ e with⟨e1,e2⟩|⟨_,e⟩
  ·cases e2;exact⟨v,by rw[e1];exact hc⟩
  ·exact⟨_,e⟩
 have hnew:=h.olds.newC _ _ _ _ _ hc hb
 refine⟨h.below.setCell hnew _,λx y z e=>by rw[World.size_setCell];exact h.dom x y z e, ?_, ?_, ?_, ?_, ?_, ?_,h.known,λl n e=>let ⟨p,q⟩:=h.szs l n (kind _ _ e);⟨p,q.to (Inj.le_refl r) λb' _ q2=>q2.setCell _ _⟩,
  h.oldsTo (Inj.le_refl r) λloc c e=>by
   rcases old _ _ e with⟨_,e⟩|⟨_,e⟩
   ·exact .inr (.inl ⟨_,_,_,_,e,hb,hnew⟩)
   ·exact .inl e⟩
 ·intro loc b1 v1 e
  rcases old _ _ e with⟨e1,e2⟩|⟨hne,e⟩
  ·cases e2
   subst e1
   refine⟨b',d,u',Nat.le_add_right _ _,hb, ?_,hu, ?_⟩
   ·rw[Nat.add_sub_cancel_left];exact World.cell?_setCell_same _ _ _ h3
   ·rw[World.frozen?_setCell,Nat.add_sub_cancel_left];exact h5
  ·obtain⟨b2,d2,v2,g1,g2,g3,g4,g5⟩:=h.cell _ _ _ e
   refine⟨b2,d2,v2,g1,g2, ?_,g4,by rw[World.frozen?_setCell];exact g5⟩
   rw[World.cell?_setCell_other w]
   ·exact g3
   ·intro heq
    simp only[Addr.mk.injEq,and_true]at heq
    obtain⟨q1,q2⟩:=heq
    subst q1
    exact hne (h.sep _ _ _ _ _ _ _ _ _ e hc g2 hb (by rw[Nat.add_sub_cancel_left];exact q2.symm))
 ·intro l1 l2 b1 v1 b2 v2 bb d1 d2 e1 e2 r1 r2 hh
  obtain⟨x1,e1⟩:=cellOf _ _ _ e1
  obtain⟨x2,e2⟩:=cellOf _ _ _ e2
  exact h.sep _ _ _ _ _ _ _ _ _ e1 e2 r1 r2 hh
 ·intro loc ob e ht
  obtain⟨b2,d2,o',g1,g2,g3⟩:=h.obj _ _ (kind _ _ e) ht
  refine⟨b2,d2,o',g1, ?_,g3⟩
  rw[My]
  ·exact g2
  ·intro heq
   have heq':b2=b':=heq
   subst heq'
   cases o' with
   |cells c t f=>exact g3.cells
   |_=>simp[World.cell?,g2]at h3
 ·intro l1 l2 o1 o2 bb d1 d2 e1 e2 t1 t2 r1 r2
  exact h.sepO _ _ _ _ _ _ _ (kind _ _ e1) (kind _ _ e2) t1 t2 r1 r2
 ·intro t sz e
  obtain⟨k,g1,g2,g3,g4,g5,g6⟩:=h.tok _ _ (kind _ _ e)
  refine⟨k,g1,g2,g3,by rw[World.size_setCell];exact g4, ?_, ?_⟩
  ·intro j hj
   obtain⟨x,q1,q2⟩:=g5 j hj
   refine⟨x, ?_,by rw[World.frozen?_setCell];exact q2⟩
   rw[World.cell?_setCell_other w]
   ·exact q1
   ·intro heq
    simp only[Addr.mk.injEq,and_true]at heq
    obtain⟨p1,p2⟩:=heq
    subst p1
    have:=g6 _ _ _ _ hc hb
    rw[Nat.add_sub_cancel_left]at this
    omega
  ·intro loc b1 v1 d1 e1 r1
   obtain⟨x,e1⟩:=cellOf _ _ _ e1
   exact g6 _ _ _ _ e1 r1
 ·intro t1 t2 s1 s2 k1 k2 e1 e2 r1 r2 hh
  exact h.sepT _ _ _ _ _ _ (kind _ _ e1) (kind _ _ e2) r1 r2 hh
theorem Rel.less (h:Rel w0 r mem w){mem':T Cell}(hm: ∀loc c,T.get mem' loc=some c->T.get mem loc=some c):Rel w0 r mem' w:=
 ⟨h.below,h.dom,λl b v e=>h.cell l b v (hm _ _ e),λl1 l2 b1 v1 b2 v2 b' d1 d2 e1 e2=>h.sep l1 l2 b1 v1 b2 v2 b' d1 d2 (hm _ _ e1) (hm _ _ e2),λl o e=>h.obj l o (hm _ _ e),
  λl1 l2 o1 o2 b' d1 d2 e1 e2=>h.sepO l1 l2 o1 o2 b' d1 d2 (hm _ _ e1) (hm _ _ e2),
  λt sz e=>let ⟨k,g1,g2,g3,g4,g5,g6⟩:=h.tok t sz (hm _ _ e);⟨k,g1,g2,g3,g4,g5,λl b v d e1=>g6 l b v d (hm _ _ e1)⟩,
  λt1 t2 s1 s2 k1 k2 e1 e2=>h.sepT t1 t2 s1 s2 k1 k2 (hm _ _ e1) (hm _ _ e2),h.known,λl n e=>h.szs l n (hm _ _ e),h.olds.less hm⟩
theorem Rel.drew (h:Rel w0 r mem w):Rel w0 r mem w.drew:=
 ⟨h.below.drew,h.dom,h.cell,h.sep,h.obj,h.sepO,h.tok,h.sepT,h.known,λl n e=>let ⟨p,q⟩:=h.szs l n e;⟨p,q.to (Inj.le_refl r) λ_b' _ q2=>q2⟩,h.olds⟩
theorem Rel.beyond (h:Rel w0 r mem w){w':World}(hb:Below w.heap.size w w'):Rel w0 r mem w':=by
 have hsz:=hb.size
 have cellK: ∀b o,b<w.heap.size->w'.cell? ⟨b,o,none⟩=w.cell? ⟨b,o,none⟩:=λb o k=>hb.cell (p:=⟨b,o,none⟩) k
 have frK: ∀b o,b<w.heap.size->w'.frozen? ⟨b,o,none⟩=w.frozen? ⟨b,o,none⟩:=λb o k=>hb.frozen (p:=⟨b,o,none⟩) k
 refine⟨h.below.trans (hb.mono h.below.size),λx y z e=>⟨Nat.le_trans (h.dom x y z e).1 hsz,Nat.lt_of_lt_of_le (h.dom x y z e).2 hsz⟩, ?_,h.sep, ?_,h.sepO, ?_,h.sepT,h.known,λl n e=>let ⟨p,q⟩:=h.szs l n e;⟨p,q.to (Inj.le_refl r) λb' q1 q2=>q2.heap (hb.block b' (h.dom _ _ _ q1).2)⟩,h.olds⟩
 ·intro loc b v e
  obtain⟨b2,d2,v2,g1,g2,g3,g4,g5⟩:=h.cell _ _ _ e
  have:=(h.dom _ _ _ g2).2
  exact⟨b2,d2,v2,g1,g2,by rw[cellK _ _ this];exact g3,g4,by rw[frK _ _ this];exact g5⟩
 ·intro loc o e ht
  obtain⟨b2,d2,o',g1,g2,g3⟩:=h.obj _ _ e ht
  exact⟨b2,d2,o',g1,by rw[hb.block b2 (h.dom _ _ _ g1).2];exact g2,g3⟩
 ·intro t sz e
  obtain⟨k,g1,g2,g3,g4,g5,g6⟩:=h.tok _ _ e
  exact⟨k,g1,g2,g3,Nat.lt_of_lt_of_le g4 hsz,λj hj=>by rw[cellK _ _ g4,frK _ _ g4];exact g5 j hj,g6⟩
theorem ZA (w:World)(c:Array Value)(e:TypeId)(i:Nat):(w.alloc (.cells c e)).cell? ⟨w.heap.size,i,none⟩=c[i]?:=World.cell?_alloc_at c e w.heap.size i rfl
theorem Nu_ (w:World)(c:Array Value)(e:TypeId)(i:Nat):(w.alloc (.cells c e)).frozen? ⟨w.heap.size,i,none⟩=false:=World.frozen?_alloc_at c e w.heap.size i rfl
def Inj.add (r:Inj)(b:Nat)(x:Nat×Nat):Inj:=⟨λy=>if y=b then some x else r.blk y,r.ext,r.known⟩
theorem bB {r:Inj}{b:Nat}(x:Nat×Nat)(h:r.blk b=none):r.le (r.add b x):=
 ⟨λy z e=>by
  show(if y=b then some x else r.blk y)=some z
  by_cases hy:y=b
  ·rw[hy,h]at e;cases e
  ·rw[if_neg hy];exact e,λ_ _ e=>e,rfl⟩
theorem aE (r:Inj)(b:Nat)(x:Nat×Nat):(r.add b x).blk b=some x:=if_pos rfl
theorem aF {r:Inj}{b y:Nat}(x:Nat×Nat)(h:y≠b):(r.add b x).blk y=r.blk y:=if_neg h
def Inj.mark (r:Inj)(t:Nat)(k:Tok):Inj:=⟨r.blk,λy=>if y=t then some k else r.ext y,r.known⟩
theorem Inj.mark_le {r:Inj}{t:Nat}(k:Tok)(h:r.ext t=none):r.le (r.mark t k):=
 ⟨λ_ _ e=>e,λy z e=>by
  show(if y=t then some k else r.ext y)=some z
  by_cases hy:y=t
  ·rw[hy,h]at e;cases e
  ·rw[if_neg hy];exact e,rfl⟩
theorem aP (r:Inj)(t:Nat)(k:Tok):(r.mark t k).ext t=some k:=if_pos rfl
theorem Rel.newCells (h:Rel w0 r mem w){b:Nat}(hb:r.blk b=none){vs vs':List Value}(hv:VRs r vs vs'){c:Array Value}(e:TypeId)(hc: ∀(i:Nat) (v:Value),vs'[i]?=some v->c[i]?=some v){mem':T Cell}
  (hm: ∀loc x,T.get mem' loc=some x->(∃i v,loc=b+i/\vs[i]?=some v/\x= .C b v)\/T.get mem loc=some x):
  Rel w0 (r.add b (w.heap.size,0)) mem' (w.alloc (.cells c e)):=by
 have hle:=bB (w.heap.size,0) hb
 have notb: ∀loc b1 v1,T.get mem loc=some (.C b1 v1)->b1≠b:=by
  intro loc b1 v1 e1 heq
  obtain⟨b2,d2,_,_,g2,_⟩:=h.cell _ _ _ e1
  rw[heq,hb]at g2;cases g2
 have notbO: ∀loc o,T.get mem loc=some (.O o)->o.isTok=false->loc≠b:=by
  intro loc o e1 ht heq
  obtain⟨b2,d2,_,g2,_⟩:=h.obj _ _ e1 ht
  rw[heq,hb]at g2;cases g2
 have oldO: ∀loc o,T.get mem' loc=some (.O o)->T.get mem loc=some (.O o):=by
  intro loc o e1
  rcases hm _ _ e1 with⟨i,v,_,_,h3⟩|h3
  ·cases h3
  ·exact h3
 have keepC: ∀b1 o1,b1<w.heap.size->(w.alloc (.cells c e)).cell? ⟨b1,o1,none⟩=w.cell? ⟨b1,o1,none⟩:=λb1 o1 k=>World.cell?_alloc_past _ b1 o1 k
 have keepF: ∀b1 o1,b1<w.heap.size->(w.alloc (.cells c e)).frozen? ⟨b1,o1,none⟩=w.frozen? ⟨b1,o1,none⟩:=λb1 o1 k=>World.frozen?_alloc_past _ b1 o1 k
 refine⟨h.below.alloc h.below.size _, ?_, ?_, ?_, ?_, ?_, ?_, ?_,h.known,λl n e1=>let ⟨p,q⟩:=h.szs l n (oldO _ _ e1);⟨p,q.to hle λb' q1 q2=>q2.heap (Below.heap_alloc w _ _ (h.dom _ _ _ q1).2)⟩,
  h.oldsTo hle λloc c e=>by
   rcases hm _ _ e with⟨i,v,_,_,h3⟩|h3
   ·exact .inr (.inl ⟨_,_,_,_,h3,aE _ _ _,h.below.size⟩)
   ·exact .inl h3⟩
 ·intro x b' d e1
  rw[World.size_alloc]
  by_cases hx:x=b
  ·rw[hx,aE]at e1
   cases e1
   exact⟨Nat.le_succ_of_le h.below.size,Nat.lt_succ_self _⟩
  ·rw[aF _ hx]at e1
   exact⟨Nat.le_succ_of_le (h.dom _ _ _ e1).1,Nat.lt_succ_of_lt (h.dom _ _ _ e1).2⟩
 ·intro loc b1 v1 e1
  rcases hm _ _ e1 with⟨i,v,h1,h2,h3⟩|h3
  ·cases h3
   obtain⟨v',h4,h5⟩:=hv.get h2
   refine⟨w.heap.size,0,v',J,aE _ _ _, ?_,h5.mono hle,Nu_ _ _ _ _⟩
   rw[ZA,h1,Nat.add_sub_cancel_left,Nat.add_zero]
   exact hc _ _ h4
  ·obtain⟨b2,d2,v2,g1,g2,g3,g4,g5⟩:=h.cell _ _ _ h3
   have hlt:=(h.dom _ _ _ g2).2
   exact⟨b2,d2,v2,g1,hle.1 _ _ g2,by rw[keepC _ _ hlt];exact g3,g4.mono hle,by rw[keepF _ _ hlt];exact g5⟩
 ·intro l1 l2 b1 v1 b2 v2 b' d1 d2 e1 e2 r1 r2 hh
  rcases hm _ _ e1 with⟨i,v,h1,h2,h3⟩|h3
  ·cases h3
   rw[aE]at r1
   cases r1
   rcases hm _ _ e2 with⟨i',v',h1',h2',h3'⟩|h3'
   ·cases h3'
    rw[aE]at r2
    cases r2
    omega
   ·rw[aF _ (notb _ _ _ h3')]at r2
    exact absurd (h.dom _ _ _ r2).2 (Nat.lt_irrefl _)
  ·rw[aF _ (notb _ _ _ h3)]at r1
   rcases hm _ _ e2 with⟨i',v',h1',h2',h3'⟩|h3'
   ·cases h3'
    rw[aE]at r2
    cases r2
    exact absurd (h.dom _ _ _ r1).2 (Nat.lt_irrefl _)
   ·rw[aF _ (notb _ _ _ h3')]at r2
    exact h.sep _ _ _ _ _ _ _ _ _ h3 h3' r1 r2 hh
 ·intro loc o e1 ht
  obtain⟨b2,d2,o',g1,g2,g3⟩:=h.obj _ _ (oldO _ _ e1) ht
  exact⟨b2,d2,o',hle.1 _ _ g1,by rw[Below.heap_alloc w _ _ (h.dom _ _ _ g1).2];exact g2,g3.mono hle⟩
 ·intro l1 l2 o1 o2 b' d1 d2 e1 e2 t1 t2 r1 r2
  rw[aF _ (notbO _ _ (oldO _ _ e1) t1)]at r1
  rw[aF _ (notbO _ _ (oldO _ _ e2) t2)]at r2
  exact h.sepO _ _ _ _ _ _ _ (oldO _ _ e1) (oldO _ _ e2) t1 t2 r1 r2
 ·intro t sz e1
  obtain⟨k,g1,g2,g3,g4,g5,g6⟩:=h.tok _ _ (oldO _ _ e1)
  refine⟨k,g1,g2,g3,by rw[World.size_alloc];exact Nat.lt_succ_of_lt g4,λj hj=>by rw[keepC _ _ g4,keepF _ _ g4];exact g5 j hj, ?_⟩
  intro loc b1 v1 d e2 r1
  rcases hm _ _ e2 with⟨i,v,h1,h2,h3⟩|h3
  ·cases h3
   rw[aE]at r1
   simp only[Option.some.injEq,Prod.mk.injEq]at r1
   omega
  ·rw[aF _ (notb _ _ _ h3)]at r1
   exact g6 _ _ _ _ h3 r1
 ·intro t1 t2 s1 s2 k1 k2 e1 e2
  exact h.sepT _ _ _ _ _ _ (oldO _ _ e1) (oldO _ _ e2)
theorem Rel.markSz (h:Rel w0 r mem w){b n:Nat}(hs:SzB r w b n)(hnew: ∀b' d,r.blk b=some (b',d)->w0.heap.size<=b'):Rel w0 r (T.set mem (b+n) (.O (.tok true (1024+n)))) w:=by
 have old: ∀loc x,T.get (T.set mem (b+n) (.O (.tok true (1024+n)))) loc=some x->(loc=b+n/\x= .O (.tok true (1024+n)))\/T.get mem loc=some x:=by
  intro loc c e
  rw[T.get_set]at e
  split at e
  ·cases e;exact .inl ⟨by assumption,rfl⟩
  ·exact .inr e
 have oldC: ∀loc b1 v,T.get (T.set mem (b+n) (.O (.tok true (1024+n)))) loc=some (.C b1 v)->T.get mem loc=some (.C b1 v):=by
  intro loc b1 v e
  rcases old _ _ e with⟨_,e⟩|e
  ·cases e
  ·exact e
 have oldO: ∀loc o,o.isTok=false->T.get (T.set mem (b+n) (.O (.tok true (1024+n)))) loc=some (.O o)->T.get mem loc=some (.O o):=by
  intro loc b1 ht e
  rcases old _ _ e with⟨_,e⟩|e
  ·cases e;cases ht
  ·exact e
 have oldT: ∀loc sz,T.get (T.set mem (b+n) (.O (.tok true (1024+n)))) loc=some (.O (.tok false sz))->T.get mem loc=some (.O (.tok false sz)):=by
  intro loc sz e
  rcases old _ _ e with⟨_,e⟩|e
  ·cases e
  ·exact e
 exact⟨h.below,h.dom,λl b1 v e=>h.cell l b1 v (oldC _ _ _ e),λl1 l2 b1 v1 b2 v2 b' d1 d2 e1 e2=>h.sep l1 l2 b1 v1 b2 v2 b' d1 d2 (oldC _ _ _ e1) (oldC _ _ _ e2),λl o e ht=>h.obj l o (oldO _ _ ht e) ht,
  λl1 l2 o1 o2 b' d1 d2 e1 e2 t1 t2=>h.sepO l1 l2 o1 o2 b' d1 d2 (oldO _ _ t1 e1) (oldO _ _ t2 e2) t1 t2,
  λt sz e=>let ⟨k,g1,g2,g3,g4,g5,g6⟩:=h.tok t sz (oldT _ _ e);⟨k,g1,g2,g3,g4,g5,λl b1 v d e1=>g6 l b1 v d (oldC _ _ _ e1)⟩,
  λt1 t2 s1 s2 k1 k2 e1 e2=>h.sepT t1 t2 s1 s2 k1 k2 (oldT _ _ e1) (oldT _ _ e2),h.known,λl m e=>by
   rcases old _ _ e with⟨e1,e2⟩|e
   ·have hm:m=n:=by
     simp only[Cell.O.injEq,AObj.tok.injEq,true_and]at e2
     omega
    subst hm
    subst e1
    exact⟨Nat.le_add_left _ _,by rw[Nat.add_sub_cancel];exact hs⟩
   ·exact h.szs l m e,
  h.oldsTo (Inj.le_refl r) λloc c e=>by
   rcases old _ _ e with⟨e1,e2⟩|e
   ·refine .inr (.inr (.inl ⟨_,_,e2,λm _ hm b' d q=>hnew b' d ?_⟩))
    have hm':m=n:=J
    rw[e1,hm',Nat.add_sub_cancel]at q
    exact q
   ·exact .inl e⟩
theorem Rel.newTok (h:Rel w0 r mem w){t sz:Nat}(ht:r.ext t=none){k:Tok}(hk:k.sz=sz%1024)(h1:w0.heap.size<=k.b)(h2:k.b<w.heap.size)
  (h3: ∀j,j<k.e*k.sz-> ∃v',w.cell? ⟨k.b,k.p+j,none⟩=some v'/\w.frozen? ⟨k.b,k.p+j,none⟩=false/\(1024<=sz->(∃m,v'= .int .u8 m)/\k.p+k.e*k.sz<=9223372036854775807))
  (h4: ∀loc b v d,T.get mem loc=some (.C b v)->r.blk b=some (k.b,d)->loc-b+d<k.p)
  (h5: ∀t2 s2 k2,T.get mem t2=some (.O (.tok false s2))->r.ext t2=some k2->k2.b≠k.b):Rel w0 (r.mark t k) (T.set mem t (.O (.tok false sz))) w:=by
 have hle:=Inj.mark_le k ht
 have old: ∀loc x,T.get (T.set mem t (.O (.tok false sz))) loc=some x->(loc=t/\x= .O (.tok false sz))\/(loc≠t/\T.get mem loc=some x):=by
  intro loc c e
  rw[T.get_set]at e
  split at e
  ·cases e;exact .inl ⟨by assumption,rfl⟩
  ·exact .inr ⟨by assumption,e⟩
 have oldC: ∀loc b v,T.get (T.set mem t (.O (.tok false sz))) loc=some (.C b v)->T.get mem loc=some (.C b v):=by
  intro loc b v e
  rcases old _ _ e with⟨_,e⟩|⟨_,e⟩
  ·cases e
  ·exact e
 have oldO: ∀loc o,o.isTok=false->T.get (T.set mem t (.O (.tok false sz))) loc=some (.O o)->T.get mem loc=some (.O o):=by
  intro loc b ht e
  rcases old _ _ e with⟨_,e⟩|⟨_,e⟩
  ·cases e;cases ht
  ·exact e
 refine⟨h.below,h.dom, ?_, ?_, ?_, ?_, ?_, ?_,h.known,λl n e=>by
  rcases old _ _ e with⟨_,e⟩|⟨_,e⟩
  ·cases e
  ·obtain⟨p,q⟩:=h.szs l n e
   exact⟨p,q.to hle λb' q1 q2=>q2⟩,
  h.oldsTo hle λloc c e=>by
   rcases old _ _ e with⟨_,e⟩|⟨_,e⟩
   ·exact .inr (.inr (.inl ⟨_,_,e,λn hu=>by cases hu⟩))
   ·exact .inl e⟩
 ·intro loc b v e
  obtain⟨b2,d2,v2,g1,g2,g3,g4,g5⟩:=h.cell _ _ _ (oldC _ _ _ e)
  exact⟨b2,d2,v2,g1,g2,g3,g4.mono hle,g5⟩
 ·intro l1 l2 b1 v1 b2 v2 b' d1 d2 e1 e2
  exact h.sep _ _ _ _ _ _ _ _ _ (oldC _ _ _ e1) (oldC _ _ _ e2)
 ·intro loc o e hto
  obtain⟨b2,d2,o',g1,g2,g3⟩:=h.obj _ _ (oldO _ _ hto e) hto
  exact⟨b2,d2,o',g1,g2,g3.mono hle⟩
 ·intro l1 l2 o1 o2 b' d1 d2 e1 e2 t1 t2
  exact h.sepO _ _ _ _ _ _ _ (oldO _ _ t1 e1) (oldO _ _ t2 e2) t1 t2
 ·intro t2 s2 e
  rcases old _ _ e with⟨e1,e2⟩|⟨hne,e⟩
  ·cases e2
   subst e1
   exact⟨k,aP _ _ _,hk,h1,h2,h3,λloc b v d e3=>h4 _ _ _ _ (oldC _ _ _ e3)⟩
  ·obtain⟨k2,g1,g2,g3,g4,g5,g6⟩:=h.tok _ _ e
   exact⟨k2,hle.2 _ _ g1,g2,g3,g4,g5,λloc b v d e3=>g6 _ _ _ _ (oldC _ _ _ e3)⟩
 ·intro t1 t2 s1 s2 k1 k2 e1 e2 r1 r2 hh
  rcases old _ _ e1 with⟨q1,q2⟩|⟨n1,q2⟩
  ·rcases old _ _ e2 with⟨q3,q4⟩|⟨n3,q4⟩
   ·rw[q1,q3]
   ·exfalso
    rw[q1,aP]at r1
    cases r1
    obtain⟨k3,g1,_⟩:=h.tok _ _ q4
    rw[hle.2 _ _ g1]at r2
    cases r2
    exact h5 _ _ _ q4 g1 hh.symm
  ·rcases old _ _ e2 with⟨q3,q4⟩|⟨n3,q4⟩
   ·exfalso
    rw[q3,aP]at r2
    cases r2
    obtain⟨k3,g1,_⟩:=h.tok _ _ q2
    rw[hle.2 _ _ g1]at r1
    cases r1
    exact h5 _ _ _ q2 g1 hh
   ·obtain⟨k3,g1,_⟩:=h.tok _ _ q2
    obtain⟨k4,g2,_⟩:=h.tok _ _ q4
    rw[hle.2 _ _ g1]at r1
    rw[hle.2 _ _ g2]at r2
    cases r1;cases r2
    exact h.sepT _ _ _ _ _ _ q2 q4 g1 g2 hh
