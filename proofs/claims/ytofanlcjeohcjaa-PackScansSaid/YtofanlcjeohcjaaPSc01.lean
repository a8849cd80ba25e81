import GoSem.Step
import Derived.Laws.World
import Derived.Laws.Sem
import Derived.Laws.Cells
import Derived.Laws.NewBlocks
import Derived.Laws.IdiomCopy
import Derived.Below
noncomputable section
namespace Go.Proofs.Ytofanlcjeohcjaa.Am
inductive T (α:Type) where
 |E:T α
 |N:Option α→T α→T α→T α
def T.get {α:Type}(t:T α):Nat→Option α:=
 T.rec (motive:=fun _=>Nat→Option α) (fun _=>none) (fun v _ _ gl gr k=>Nat.rec (motive:=fun _=>Option α) v (fun k' _=>
  Bool.rec (motive:=fun _=>Nat→Option α) gr gl (Nat.beq (Nat.mod k' (nat_lit 2)) (nat_lit 0)) (Nat.div k' (nat_lit 2))) k) t
def T.one {α:Type}(x:Option α)(fuel:Nat):Nat→T α:=
 Nat.rec (motive:=fun _=>Nat→T α) (fun _=> .E) (fun _ ih k=>Nat.rec (motive:=fun _=>T α) (T.N x .E .E) (fun k' _=>
  T.rec (motive:=fun _=>T α) .E (fun a b c _ _=>Bool.rec (motive:=fun _=>T α) (.N none .E (.N a b c)) (.N none (.N a b c) .E) (Nat.beq (Nat.mod k' (nat_lit 2)) (nat_lit 0))) (ih (Nat.div k' (nat_lit 2)))) k) fuel
def T.setO {α:Type}(x:Option α)(t:T α):Nat→T α:=
 T.rec (motive:=fun _=>Nat→T α) (fun k=>T.one x (Nat.succ k) k) (fun v l r sl sr k=>Nat.rec (motive:=fun _=>T α) (T.N x l r) (fun k' _=>
  Bool.rec (motive:=fun _=>Nat→T α) (fun k=>T.rec (motive:=fun _=>T α) .E (fun a b c _ _=> .N v l (.N a b c)) (sr k)) (fun k=>T.rec (motive:=fun _=>T α) .E (fun a b c _ _=> .N v (.N a b c) r) (sl k)) (Nat.beq (Nat.mod k' (nat_lit 2)) (nat_lit 0)) (Nat.div k' (nat_lit 2))) k) t
def T.set {α:Type}(t:T α)(k:Nat)(x:α):T α:=T.setO (some x) t k
def T.del {α:Type}(t:T α)(k:Nat):T α:=T.setO none t k
def fN {β:Type}(n:Nat)(K:Nat→β):β:=Nat.rec (motive:=fun _=>β) (K (nat_lit 0)) (fun m _=>K (Nat.succ m)) n
def fI {β:Type}(n:Int)(K:Int→β):β:=Int.rec (motive:=fun _=>β) (fun m=>fN m fun m=>K (.ofNat m)) (fun m=>fN m fun m=>K (.negSucc m)) n
def fS {β:Type}(s:Option Nat)(K:Option Nat→β):β:=Option.rec (motive:=fun _=>β) (K none) (fun s=>K (some s)) s
def fA {β:Type}(a:Addr)(K:Addr→β):β:=Addr.rec (motive:=fun _=>β) (fun b o s=>fN b fun b=>fN o fun o=>fS s fun s=>K ⟨b,o,s⟩) a
def C1 {β:Type}(v:Value)(f:IntKind→Int→β)(d:β):β:=
 Value.rec (motive_1:=fun _=>β) (motive_2:=fun _=>PUnit) (motive_3:=fun _=>PUnit) (fun _=>d) f (fun _ _=>d) (fun _ _ _=>d) (fun _=>d) (fun _=>d) (fun _ _ _=>d) (fun _=>d) (fun _=>d) (fun _ _ _ _ _=>d) d (fun _ _ _=>d) d (fun _ _=>d) (fun _ _=>d) (fun _ _=>⟨⟩) ⟨⟩ (fun _ _ _ _=>⟨⟩) v
inductive AObj where
 |loop (state:LoopState) (pending:Option Code) (fn:Nat) (n:Nat) (glob:Nat) (tmps:T Value) (params:List Nat) (assign body:Code) (defers:Nat)
 |deferred (calls:Option (List Deferred))
 |map (es:List MapEntry) (clock:Nat)
 |sit (s:ByteArray) (pos:Nat)
 |tok (used:Bool) (size:Nat)
 |old (blk:Nat) (v:Value)
inductive Cell where
 |C (blk:Nat) (v:Value)
 |O (o:AObj)
inductive Ctx where
 |no
 |cx (up:Option FrameMode) (dfs:Option (List Deferred))
structure St where
 mem:T Cell
 next:Nat
 lim:Nat
 rd:List Nat
 wr:List Nat
 cx:Ctx
inductive R (α:Type) where
 |none:R α
 |some:α→St→R α
 |pan:List PanicEntry→St→R α
def M (α:Type):Type:=St→R α
def M.pure {α:Type}(a:α):M α:=fun s=> .some a s
def M.bind {α β:Type}(m:M α)(f:α→M β):M β:=fun s=>R.rec (motive:=fun _=>R β) .none (fun a s=>f a s) (fun c s=> .pan c s) (m s)
def M.fail {α:Type}:M α:=fun _=> .none
def M.ofOpt {α:Type}(x:Option α):M α:=Option.rec (motive:=fun _=>M α) M.fail (fun a=>M.pure a) x
def M.on {α β:Type}(x:Option α)(f:α→M β):M β:=Option.rec (motive:=fun _=>M β) M.fail f x
def M.if {α:Type}(b:Bool)(x y:M α):M α:=Bool.rec (motive:=fun _=>M α) y x b
def M.chk {α:Type}(b:Bool)(x:M α):M α:=Bool.rec (motive:=fun _=>M α) M.fail x b
def notes (loc lim:Nat)(l:List Nat):List Nat:=Bool.rec (motive:=fun _=>List Nat) l (loc::l) (Nat.blt loc lim)
def rdC (loc:Nat):M Cell:=fun s=>
 St.rec (motive:=fun _=>R Cell) (fun mem next lim rd wr cx=>
  Bool.rec (motive:=fun _=>R Cell) .none (Option.rec (motive:=fun _=>R Cell) .none (fun c=>R.some c (St.mk mem next lim (notes loc lim rd) wr cx)) (T.get mem loc)) (Nat.blt loc next)) s
def wrC (loc:Nat)(c:Cell):M Unit:=fun s=>
 St.rec (motive:=fun _=>R Unit) (fun mem next lim rd wr cx=>
  Bool.rec (motive:=fun _=>R Unit) .none (T.rec (motive:=fun _=>R Unit) .none (fun a b d _ _=>R.some () (St.mk (.N a b d) next lim rd (notes loc lim wr) cx)) (T.set mem loc c)) (Nat.blt loc next)) s
def delC (loc:Nat):M Unit:=fun s=>
 St.rec (motive:=fun _=>R Unit) (fun mem next lim rd wr cx=>
  Bool.rec (motive:=fun _=>R Unit) .none (R.some () (St.mk (T.del mem loc) next lim rd (notes loc lim wr) cx)) (Nat.blt loc next)) s
def oldV (b:Nat)(o:AObj):Option Value:=
 match o with
 | .old blk v=>Bool.rec (motive:=fun _=>Option Value) none (some v) (Nat.beq blk b)
 |_=>none
def Nn (b:Nat)(c:Cell):Option Value:=Cell.rec (motive:=fun _=>Option Value) (fun blk v=>Bool.rec (motive:=fun _=>Option Value) none (some v) (Nat.beq blk b)) (fun o=>oldV b o) c
def rdV (a:Addr):M Value:=Addr.rec (motive:=fun _=>M Value) (fun b o s=>Option.rec (motive:=fun _=>M Value) (M.bind (rdC (Nat.add b o)) fun c=>M.ofOpt (Nn b c)) (fun _=>M.fail) s) a
def oneCell:Value→Bool
 | .agg _| .tuple _=>false
 |_=>true
def Pu_ (b:Nat)(c:Cell):Bool:=Cell.rec (motive:=fun _=>Bool) (fun blk _=>Nat.beq blk b) (fun _=>false) c
def wrV (a:Addr)(v:Value):M Unit:=
 Addr.rec (motive:=fun _=>M Unit) (fun b o s=>Option.rec (motive:=fun _=>M Unit)
  (M.bind (rdC (Nat.add b o)) fun c=>M.chk (Pu_ b c&&oneCell v) (wrC (Nat.add b o) (.C b v))) (fun _=>M.fail) s) a
def layL (b:Nat)(vs:List Value):Nat→T Cell→T Cell:=
 List.rec (motive:=fun _=>Nat→T Cell→T Cell) (fun _ t=>t) (fun v _ ih loc t=>fN loc fun loc=>ih (Nat.succ loc) (T.set t loc (.C b v))) vs
def newL (vs:List Value):M Nat:=fun s=>
 St.rec (motive:=fun _=>R Nat) (fun mem next lim rd wr cx=>fN next fun b=>fN (Nat.succ (Nat.add b vs.length)) fun n=>R.some b (St.mk (layL b vs b mem) n lim rd wr cx)) s
def newO (o:AObj):M Nat:=fun s=>
 St.rec (motive:=fun _=>R Nat) (fun mem next lim rd wr cx=>fN next fun b=>fN (Nat.succ b) fun n=>R.some b (St.mk (T.set mem b (.O o)) n lim rd wr cx)) s
def rdL (n:Nat):Addr→M (List Value):=
 Nat.rec (motive:=fun _=>Addr→M (List Value)) (fun _=>M.pure []) (fun _ ih a=>fA a fun a=>M.bind (rdV a) fun v=>M.bind (ih ⟨a.block,Nat.succ a.off,a.spot⟩) fun l=>M.pure (v::l)) n
def wrL (vs:List Value):Addr→M Unit:=
 List.rec (motive:=fun _=>Addr→M Unit) (fun _=>M.pure ()) (fun v _ ih a=>fA a fun a=>M.bind (wrV a v) fun _=>ih ⟨a.block,Nat.succ a.off,a.spot⟩) vs
def getCx:M Ctx:=fun s=>St.rec (motive:=fun _=>R Ctx) (fun mem next lim rd wr cx=> .some cx (St.mk mem next lim rd wr cx)) s
def putCx (c:Ctx):M Unit:=fun s=>St.rec (motive:=fun _=>R Unit) (fun mem next lim rd wr _=> .some () (St.mk mem next lim rd wr c)) s
structure TI where
 u:TypeDesc
 size:Nat
 agg:Bool
 zero:List Value
 bytes:Nat
structure Env where
 P:Program
 ty:T TI
 fn:T Func
 orc:T (List Value→M Value)
 ext:T (List Value→M Value)
def ti (E:Env)(t:Nat):M TI:=M.ofOpt (T.get E.ty t)
def BF:Nat→Value→Bool
 |_, .bool _|_, .int _ _|_, .float _ _|_, .string _|_, .pointer none|_, .slice none 0 0|_, .map none|_, .chan none|_, .nilFunc|_, .nilIface=>true
 |_, .func (.func _) f c=>f.isEmpty&&c.isEmpty
 |n+1, .iface _ v=>BF n v
 |n+1, .agg cs=>cs.toList.all (BF n)
 |n+1, .tuple cs=>cs.toList.all (BF n)
 |_,_=>false
def plain (v:Value):Bool:=BF 4 v
def semP {α:Type}(P:Program)(s:Sem α):Option α:=
 Sem.rec (motive:=fun _=>Option α) (fun a=>some a) (fun _ _ _ _=>none) (fun _ _ _ _ _=>none) (fun _ _ _=>none) (fun _ _ _=>none) (fun _ _ _ _=>none) (fun _ _ _=>none) (fun _ _ _=>none) (fun _ _ _ _=>none) (fun _ _ _=>none) (fun _ _ _=>none) (fun _ ih=>ih P) (fun _ _ _=>none) (fun _=>none) s
inductive Cl (α:Type) where
 |mk (f:α)
def Cl.run {α β:Type}(c:Cl (α→β))(x:α):β:=Cl.rec (motive:=fun _=>β) (fun f=>f x) c
abbrev Rho:Type:=List Value
abbrev G (α:Type):Type:=Rho→T Value→Option α
def onO {α β:Type}(x:Option α)(K:α→Option β):Option β:=Option.rec (motive:=fun _=>Option β) none K x
def nth0:Rho→Option Value:=fun l=>List.rec (motive:=fun _=>Option Value) none (fun v _ _=>some v) l
def nthC (d:Nat):Cl (Rho→Option Value):=Nat.rec (motive:=fun _=>Cl (Rho→Option Value)) (.mk nth0)
 (fun _ ih=>Cl.rec (motive:=fun _=>Cl (Rho→Option Value)) (fun g=> .mk fun l=>List.rec (motive:=fun _=>Option Value) none (fun _ r _=>g r) l) ih) d
def FV (t:Nat)(ds:List Nat):Option Nat:=List.rec (motive:=fun _=>Option Nat) none (fun d _ ih=>Bool.rec (motive:=fun _=>Option Nat) (Option.rec (motive:=fun _=>Option Nat) none (fun n=>some (Nat.succ n)) ih) (some 0) (Nat.beq d t)) ds
def L7 (ds:List Nat)(t:Nat):Cl (G Value):=
 Option.rec (motive:=fun _=>Cl (G Value)) (.mk fun _ tm=>T.get tm t) (fun d=>Cl.rec (motive:=fun _=>Cl (G Value)) (fun g=> .mk fun r _=>g r) (nthC d)) (FV t ds)
def CB (ds:List Nat)(x:Operand):Cl (G Value):=
 Operand.rec (motive:=fun _=>Cl (G Value)) (fun t=>L7 ds t) (fun v=>Bool.rec (motive:=fun _=>Cl (G Value)) (.mk fun _ _=>none) (.mk fun _ _=>some v) (plain v)) (fun _=> .mk fun _ _=>none) (fun f=> .mk fun _ _=>some (.func (.func f) #[] #[])) x
def Ft (ds:List Nat)(l:List Operand):Cl (G (List Value)):=
 List.rec (motive:=fun _=>Cl (G (List Value))) (.mk fun _ _=>some []) (fun x _ ih=>Cl.rec (motive:=fun _=>Cl (G (List Value))) (fun g=>Cl.rec (motive:=fun _=>Cl (G (List Value))) (fun h=> .mk fun r tm=>onO (g r tm) fun v=>onO (h r tm) fun l=>some (v::l)) ih) (CB ds x)) l
def KV (ds:List Nat)(l:List (Nat×Operand)):Cl (G (List (Nat×Value))):=
 List.rec (motive:=fun _=>Cl (G (List (Nat×Value)))) (.mk fun _ _=>some []) (fun x _ ih=>Cl.rec (motive:=fun _=>Cl (G (List (Nat×Value)))) (fun g=>Cl.rec (motive:=fun _=>Cl (G (List (Nat×Value)))) (fun h=> .mk fun r tm=>onO (g r tm) fun v=>onO (h r tm) fun l=>some ((x.1,v)::l)) ih) (CB ds x.2)) l
def I7 (ds:List Nat)(x:Option Operand):Cl (G (Option Value)):=
 Option.rec (motive:=fun _=>Cl (G (Option Value))) (.mk fun _ _=>some none) (fun o=>Cl.rec (motive:=fun _=>Cl (G (Option Value))) (fun g=> .mk fun r tm=>onO (g r tm) fun v=>some (some v)) (CB ds o)) x
def Gs (k:IntKind)(n:Int)(m:Nat)(r:Int):Int:=Bool.rec (motive:=fun _=>Int) (k.wrap n) r (Nat.ble m 9223372036854775807)
def wrap64 (n:Int):Int:=Int.rec (motive:=fun _=>Int) (fun m=>Gs .i64 n m (.ofNat m)) (fun m=>Gs .i64 n m (.negSucc m)) n
def Kh (k:IntKind)(q:Nat)(n:Int):Int:=Int.rec (motive:=fun _=>Int) (fun m=> .ofNat (m%q)) (fun _=>k.wrap n) n
def Jf (k:IntKind)(n:Int):Int:=
 match k with
 | .i64=>wrap64 n
 | .u32=>Kh .u32 4294967296 n
 | .u8=>Kh .u8 256 n
 | .u64=>Kh .u64 18446744073709551616 n
 |k=>k.wrap n
def refB (u:TypeDesc)(x y:Value):Option Bool:=
 match u,x,y with
 | .pointer _, .pointer none, .pointer b=>some b.isNone
 | .pointer _, .pointer (some _), .pointer none=>some false
 | .slice _, .slice none _ _, .slice b _ _=>some b.isNone
 | .slice _, .slice (some _) _ _, .slice none _ _=>some false
 | .map _ _, .map none, .map b=>some b.isNone
 | .map _ _, .map (some _), .map none=>some false
 | .func _ _ _, .nilFunc, .func _ _ _=>some false
 | .func _ _ _, .func _ _ _, .nilFunc=>some false
 | .interface _, .nilIface, .iface _ _=>some false
 | .interface _, .iface _ _, .nilIface=>some false
 | .interface _, .iface a _, .iface b _=>Bool.rec (motive:=fun _=>Option Bool) (some false) none (Nat.beq a b)
 |_,_,_=>none
def ET (E:Env)(op:BinOp)(t:Nat)(x y:Value):M Value:=
 M.bind (ti E t) fun i=>M.on (refB i.u x y) fun b=>match op with
 | .eql=>M.pure (.bool b)
 | .neq=>M.pure (.bool !b)
 |_=>M.fail
def pV (v:Value):M Value:=C1 v (fun k n=>fI n fun n=>M.pure (.int k n)) (M.chk (plain v) (M.pure v))
def kNum (k:IntKind):Nat:=IntKind.rec (motive:=fun _=>Nat) (nat_lit 0) (nat_lit 1) (nat_lit 2) (nat_lit 3) (nat_lit 4) (nat_lit 5) (nat_lit 6) (nat_lit 7) k
def topB:Value:= .complex .f32 2 0
def isU (x:Value):Bool:=
 match x with
 | .complex _ 1 _=>true
 |_=>false
def kOf (x:Value):Option Nat:=
 match x with
 | .int k _=>some (kNum k)
 | .complex _ 1 b=>some b
 |_=>none
def Gh (op:BinOp)(a:Nat):M Value:=
 match op with
 | .add| .sub| .mul| .and| .or| .xor=>M.pure (.complex .f32 1 a)
 | .eql| .neq| .lss| .leq| .gtr| .geq=>M.pure topB
 |_=>M.fail
def GT (op:BinOp)(x y:Value):M Value:=M.on (kOf x) fun a=>M.on (kOf y) fun b=>M.chk (Nat.beq a b) (Gh op a)
def Bi (E:Env)(op:BinOp)(t:Nat)(xo yo:Operand)(x y:Value):M Value:=
 M.if (plain x&&plain y) (M.on (semP E.P (do eqGuard op t xo yo x y;binOp op t x y)) pV) (M.if (isU x||isU y) (GT op x y) (ET E op t x y))
def ltI (a b:Int):Bool:=Int.rec (motive:=fun _=>Bool) (fun m=>Int.rec (motive:=fun _=>Bool) (fun n=>Nat.blt m n) (fun _=>false) b) (fun m=>Int.rec (motive:=fun _=>Bool) (fun _=>true) (fun n=>Nat.blt n m) b) a
def eqI (a b:Int):Bool:=Int.rec (motive:=fun _=>Bool) (fun m=>Int.rec (motive:=fun _=>Bool) (fun n=>Nat.beq m n) (fun _=>false) b) (fun m=>Int.rec (motive:=fun _=>Bool) (fun _=>false) (fun n=>Nat.beq m n) b) a
def addI (a b:Int):Int:=Int.rec (motive:=fun _=>Int) (fun m=>Int.rec (motive:=fun _=>Int) (fun n=> .ofNat (m+n)) (fun n=> .ofNat m+ .negSucc n) b) (fun m=> .negSucc m+b) a
def subI (a b:Int):Int:=Int.rec (motive:=fun _=>Int) (fun m=>Int.rec (motive:=fun _=>Int) (fun n=>Bool.rec (motive:=fun _=>Int) (.ofNat m- .ofNat n) (.ofNat (m-n)) (Nat.ble n m)) (fun n=> .ofNat m- .negSucc n) b) (fun m=> .negSucc m-b) a
def Eg (k:IntKind):Bool:=IntKind.rec (motive:=fun _=>Bool) false false false true false false false false k
def rI (n:Int)(s:St):R Value:=fI (wrap64 n) fun n=> .some (.int .i64 n) s
def rB (b:Bool)(s:St):R Value:=Bool.rec (motive:=fun _=>R Value) (.some (.bool false) s) (.some (.bool true) s) b
def pB (b:Bool):M Value:=fun s=>rB b s
def int2 (f:Int→Int→St→R Value)(slow:Value→Value→M Value):Value→Value→M Value:=fun x y s=>
 C1 x (fun k a=>C1 y (fun k' b=>Bool.rec (motive:=fun _=>R Value) (slow x y s) (Bool.rec (motive:=fun _=>R Value) (slow x y s) (f a b s) (Eg k')) (Eg k)) (slow x y s)) (slow x y s)
def mxOf (k:IntKind):Nat:=IntKind.rec (motive:=fun _=>Nat) (nat_lit 127) (nat_lit 32767) (nat_lit 2147483647) (nat_lit 9223372036854775807) (nat_lit 255) (nat_lit 65535) (nat_lit 4294967295) (nat_lit 18446744073709551615) k
def qOf (k:IntKind):Nat:=IntKind.rec (motive:=fun _=>Nat) (nat_lit 0) (nat_lit 0) (nat_lit 0) (nat_lit 0) (nat_lit 256) (nat_lit 65536) (nat_lit 4294967296) (nat_lit 18446744073709551616) k
def btOf (k:IntKind):Nat:=IntKind.rec (motive:=fun _=>Nat) (nat_lit 8) (nat_lit 16) (nat_lit 32) (nat_lit 64) (nat_lit 8) (nat_lit 16) (nat_lit 32) (nat_lit 64) k
def mkI (k:IntKind)(r:Nat):Option Value:=fN r fun r=>some (.int k (.ofNat r))
def fitI (k:IntKind)(r:Nat):Option Value:=Bool.rec (motive:=fun _=>Option Value) (Bool.rec (motive:=fun _=>Option Value) (mkI k (Nat.mod r (qOf k))) none (Nat.beq (qOf k) (nat_lit 0))) (mkI k r) (Nat.ble r (mxOf k))
def Ch (k k':IntKind)(x:Option Value):Option Value:=Bool.rec (motive:=fun _=>Option Value) none x (Nat.beq (kNum k) (kNum k'))
def sOpt (b:Bool)(x:Option Value):Option Value:=Bool.rec (motive:=fun _=>Option Value) none x b
def mkB (b:Bool):Option Value:=Bool.rec (motive:=fun _=>Option Value) (some (.bool false)) (some (.bool true)) b
abbrev CP:Type:=IntKind→IntKind→Nat→Nat→Option Value
def addK:CP:=fun k k' m n=>Ch k k' (fitI k (Nat.add m n))
def mulK:CP:=fun k k' m n=>Ch k k' (fitI k (Nat.mul m n))
def andK:CP:=fun k k' m n=>Ch k k' (fitI k (Nat.land m n))
def orK:CP:=fun k k' m n=>Ch k k' (fitI k (Nat.lor m n))
def xorK:CP:=fun k k' m n=>Ch k k' (fitI k (Nat.xor m n))
def subK:CP:=fun k k' m n=>Ch k k' (Bool.rec (motive:=fun _=>Option Value) (sOpt (Nat.ble (nat_lit 1) (qOf k)) (fitI k (Nat.sub (qOf k) (Nat.mod (Nat.sub n m) (qOf k))))) (fitI k (Nat.sub m n)) (Nat.ble n m))
def quoK:CP:=fun k k' m n=>Ch k k' (sOpt (Nat.ble (nat_lit 1) n) (fitI k (Nat.div m n)))
def remK:CP:=fun k k' m n=>Ch k k' (sOpt (Nat.ble (nat_lit 1) n) (mkI k (Nat.mod m n)))
def shlK:CP:=fun k _ m n=>sOpt (Nat.ble n (btOf k)) (fitI k (Nat.shiftLeft m n))
def shrK:CP:=fun k _ m n=>sOpt (Nat.ble n (btOf k)) (mkI k (Nat.shiftRight m n))
def cmpK (c:Nat→Nat→Bool):CP:=fun k k' m n=>Ch k k' (mkB (c m n))
def int3 (f:CP)(slow:Value→Value→M Value):Value→Value→M Value:=fun x y s=>
 C1 x (fun k a=>C1 y (fun k' b=>Int.rec (motive:=fun _=>R Value) (fun m=>Int.rec (motive:=fun _=>R Value) (fun n=>Option.rec (motive:=fun _=>R Value) (slow x y s) (fun v=> .some v s) (f k k' m n)) (fun _=>slow x y s) b) (fun _=>slow x y s) a) (slow x y s)) (slow x y s)
def aBin (E:Env)(op:BinOp)(t:Nat)(xo yo:Operand):Cl (Value→Value→M Value):=
 match op with
 | .add=> .mk (int2 (fun a b s=>rI (addI a b) s) (int3 addK (Bi E .add t xo yo)))
 | .sub=> .mk (int2 (fun a b s=>rI (subI a b) s) (int3 subK (Bi E .sub t xo yo)))
 | .lss=> .mk (int2 (fun a b s=>rB (ltI a b) s) (int3 (cmpK fun m n=>Nat.blt m n) (Bi E .lss t xo yo)))
 | .gtr=> .mk (int2 (fun a b s=>rB (ltI b a) s) (int3 (cmpK fun m n=>Nat.blt n m) (Bi E .gtr t xo yo)))
 | .leq=> .mk (int2 (fun a b s=>rB (!ltI b a) s) (int3 (cmpK fun m n=>Nat.ble m n) (Bi E .leq t xo yo)))
 | .geq=> .mk (int2 (fun a b s=>rB (!ltI a b) s) (int3 (cmpK fun m n=>Nat.ble n m) (Bi E .geq t xo yo)))
 | .eql=> .mk (int2 (fun a b s=>rB (eqI a b) s) (int3 (cmpK fun m n=>Nat.beq m n) (Bi E .eql t xo yo)))
 | .neq=> .mk (int2 (fun a b s=>rB (!eqI a b) s) (int3 (cmpK fun m n=> !Nat.beq m n) (Bi E .neq t xo yo)))
 | .mul=> .mk (int3 mulK (Bi E .mul t xo yo))
 | .quo=> .mk (int3 quoK (Bi E .quo t xo yo))
 | .rem=> .mk (int3 remK (Bi E .rem t xo yo))
 | .and=> .mk (int3 andK (Bi E .and t xo yo))
 | .or=> .mk (int3 orK (Bi E .or t xo yo))
 | .xor=> .mk (int3 xorK (Bi E .xor t xo yo))
 | .shl=> .mk (int3 shlK (Bi E .shl t xo yo))
 | .shr=> .mk (int3 shrK (Bi E .shr t xo yo))
 |op=> .mk (Bi E op t xo yo)
def lenOf (v:Value):M Nat:=
 match v with
 | .slice _ n _=>M.pure n
 | .string s=>M.pure s.size
 |_=>M.fail
def cellsOf (v:Value):List Value:=
 match v with
 | .agg cs=>cs.toList
 |v=>[v]
def EF (E:Env)(t:Nat)(a:Addr):M Value:=
 M.bind (ti E t) fun i=>M.if i.agg (M.bind (rdL i.size a) fun l=>M.pure (.agg l.toArray)) (rdV a)
def GV (E:Env)(t:Nat)(a:Addr)(v:Value):M Unit:=
 M.bind (ti E t) fun i=>M.chk (Nat.beq (cellsOf v).length i.size) (wrL (cellsOf v) a)
def asA (v:Value):M Addr:=
 match v with
 | .pointer (some a)=>M.pure a
 |_=>M.fail
def capU:Nat:=18446744073709551616
def bnd (o:Option Value)(top dflt:Nat):M Nat:=
 match o with
 |none=>M.pure dflt
 |some (.int _ (.ofNat n))=>M.chk (Nat.ble n top) (M.pure n)
 |some _=>M.fail
def addA (a:Addr)(n:Nat):Addr:=⟨a.block,Nat.add a.off n,a.spot⟩
def ptrA (a:Addr):M Value:=fA a fun a=>M.pure (.pointer (some a))
def pSl (a:Addr)(l c:Nat):M Value:=fA a fun a=>fN l fun l=>fN c fun c=>M.pure (.slice (some a) l c)
def pN (n:Nat):M Value:=fN n fun n=>M.pure (.int .i64 (.ofNat n))
def FI (a:Addr)(n size:Nat)(lo hi:Option Value):M Value:=
 M.chk (Nat.blt n capU) <| M.bind (bnd hi n n) fun h=>M.bind (bnd lo h 0) fun l=>pSl (Bool.rec (motive:=fun _=>Addr) (addA a (Nat.mul l size)) a (Nat.beq n l)) (Nat.sub h l) (Nat.sub n l)
def CA (c size:Nat):Bool:=Bool.rec (motive:=fun _=>Bool) (Nat.beq (Nat.mod (Nat.div c capU) 1024) size) true (Nat.beq (Nat.div c capU) 0)
def slSl (a:Addr)(len c size:Nat)(lo hi:Option Value):M Value:=
 M.bind (bnd hi (Nat.mod c capU) len) fun h=>M.bind (bnd lo h 0) fun l=>M.chk (CA c size) <| pSl (Bool.rec (motive:=fun _=>Addr) a (addA a (Nat.mul l size)) (Nat.blt l (Nat.mod c capU))) (Nat.sub h l) (Nat.sub c l)
def GB (s:ByteArray)(lo hi:Option Value):M Value:=
 M.bind (bnd hi s.size s.size) fun h=>M.bind (bnd lo h 0) fun l=>M.pure (.string (s.extract l h))
def BB (E:Env)(t:Nat)(x:Value)(lo hi:Option Value):M Value:=
 M.bind (ti E t) fun i=>match i.u,x with
 | .array n e, .pointer (some a)=>M.bind (ti E e) fun ie=>FI a n ie.size lo hi
 | .slice e, .slice (some a) len c=>M.bind (ti E e) fun ie=>slSl a len c ie.size lo hi
 | .slice e, .slice none 0 0=>M.bind (ti E e) fun _=>M.bind (bnd hi 0 0) fun h=>M.bind (bnd lo h 0) fun _=>M.pure (.slice none 0 0)
 | .string, .string s=>GB s lo hi
 |_,_=>M.fail
def rep {α:Type}(n:Nat)(l:List α):List α:=Nat.rec (motive:=fun _=>List α) [] (fun _ r=>l++r) n
def Dg (s:List UInt8):List Value:=s.map fun b=> .int .u8 b.toNat
def srcL (size:Nat)(x:Value)(k:Nat):M (List Value):=
 match x with
 | .slice (some a) _ _=>rdL (k*size) a
 | .slice none 0 0=>M.pure []
 | .string s=>M.pure (Dg (s.data.toList.take k))
 |_=>M.fail
def DN (u:TypeDesc):Bool:=match u with| .int _=>true|_=>false
def appN (zeros:Bool)(bytes:Nat)(x:Value):M Nat:=
 match zeros,x with
 |false, .slice _ n _=>M.pure n
 |false, .string s=>M.pure s.size
 |true, .int .i64 (.ofNat n)=>M.chk (Nat.ble (n*(bytes+1)) 16777216) (M.pure n)
 |_,_=>M.fail
def appL (zeros:Bool)(ie:TI)(x:Value)(n:Nat):M (List Value):=M.if zeros (M.pure (rep n ie.zero)) (srcL ie.size x n)
def oldL (size:Nat)(base:Option Addr)(len:Nat):M (List Value):=
 match base with
 |some a=>rdL (len*size) a
 |none=>M.pure []
def C4 (n:Nat):Nat→M Unit:=
 Nat.rec (motive:=fun _=>Nat→M Unit) (fun _=>M.pure ()) (fun _ ih l=>M.bind (delC l) fun _=>ih (l+1)) n
def Fy (size:Nat)(base:Option Addr)(lb:Nat):M Unit:=
 match base with
 |some a=>C4 (Nat.mul lb size) (Nat.add a.block a.off)
 |none=>M.pure ()
def Dk (z:List Value):Bool:=match z with|[.int .u8 _]=>true|_=>false
def flg (size f:Nat)(g:Bool):Nat:=Bool.rec (motive:=fun _=>Nat) size (Nat.add size 1024) (Nat.beq f 1&&g)
def Dv (size:Nat)(base:Option Addr)(lb tok:Nat):M Nat:=
 M.if (Nat.beq tok 0) (M.pure 1) (M.bind (rdC (Nat.div tok 1024)) fun c=>match c with
  | .O (.tok false sz)=>M.chk (Nat.beq (Nat.mod sz 1024) size&&Nat.beq (Nat.mod tok 1024) size) (M.bind (wrC (Nat.div tok 1024) (.O (.tok true size))) fun _=>M.bind (Fy size base lb) fun _=>fN (Nat.div sz 1024) fun f=>M.pure f)
  |_=>M.fail)
def grow (size bytes:Nat)(g:Bool)(base:Option Addr)(len c n:Nat)(news:List Value):M Value:=
 M.chk (Nat.ble ((len+n)*(bytes+1)) 16777216&&Nat.blt 0 size&&Nat.blt size 1024&&(Nat.blt 0 (c%capU)||Nat.beq c 0)&&Nat.beq news.length (n*size)&&news.all oneCell)
  (M.bind (oldL size base (Bool.rec (motive:=fun _=>Nat) (Nat.mod c capU) len (Nat.beq (Nat.div c capU) 0))) fun old=>M.bind (Dv size base (Nat.mod c capU) (Nat.div c capU)) fun f=>
   M.bind (newL (old.take (Nat.mul len size)++news)) fun b=>
   fN (Nat.add b (Nat.mul (Nat.add len n) size)) fun m=>fN (flg size f g) fun q=>M.bind (wrC m (.O (.tok false q))) fun _=>pSl ⟨b,0,none⟩ (Nat.add len n) (Nat.add (Nat.mul capU (Nat.add (Nat.mul m 1024) size)) (Nat.add len n)))
def FE (size:Nat)(base:Option Addr)(len c n:Nat)(news:List Value):M Value:=
 match base with
 |some a=>M.bind (wrL news (addA a (Nat.mul len size))) fun _=>pSl a (Nat.add len n) c
 |none=>M.pure (.slice base len c)
def CZ (E:Env)(t t2:Nat)(s x:Value):M Value:=
 M.bind (ti E t) fun i=>M.bind (ti E t2) fun i2=>match i.u,s with
 | .slice e, .slice base len c=>M.bind (ti E e) fun ie=>M.bind (appN (DN i2.u) ie.bytes x) fun n=>M.bind (appL (DN i2.u) ie x n) fun news=>
  M.if (Nat.ble (Nat.add len n) (Nat.mod c capU)) (FE ie.size base len c n news) (grow ie.size ie.bytes (Dk ie.zero) base len c n news)
 |_,_=>M.fail
def fBs {β:Type}(l:List UInt8)(K:List Value→β):β:=List.rec (motive:=fun _=>(List Value→β)→β) (fun K=>K []) (fun b _ ih K=>fN b.toNat fun n=>ih fun vs=>K (.int .u8 (.ofNat n)::vs)) l K
def rowN (vs:List Value)(n:Nat):M Value:=
 M.chk (Nat.blt n capU) (M.bind (newL vs) fun b=>M.bind (wrC (Nat.add b (Nat.mul n 1)) (.O (.tok false 1))) fun _=>pSl ⟨b,0,none⟩ n (Nat.add (Nat.mul capU (Nat.add (Nat.mul (Nat.add b (Nat.mul n 1)) 1024) 1)) n))
def Gx (off:Nat)(vs cells:List Value):List Value:=cells.take off++(vs++cells.drop (off+vs.length))
def DQ (place:Nat→Option (Nat×Nat))(ps:List (Nat×Value)):List Value→Option (List Value):=
 List.rec (motive:=fun _=>List Value→Option (List Value)) (fun c=>some c)
  (fun p _ ih c=>match place p.1 with
   |none=>none
   |some (off,size)=>Bool.rec (motive:=fun _=>Option (List Value)) none (ih (Gx off (cellsOf p.2) c)) (Nat.beq (cellsOf p.2).length size&&Nat.ble (off+(cellsOf p.2).length) c.length)) ps
def Hv (E:Env)(fs:Array Field)(k:Nat):Option (Nat×Nat):=
 match fs.toList[k]? with
 |some f=>(match T.get E.ty f.type with|some fi=>some (f.offset,fi.size)|none=>none)
 |none=>none
def Cj (E:Env)(t:Nat)(ps:List (Nat×Value)):M Value:=
 M.bind (ti E t) fun i=>match i.u with
 | .struct fs=>M.bind (M.ofOpt (DQ (Hv E fs) ps i.zero)) fun r=>M.pure (.agg r.toArray)
 | .array _ e=>M.bind (ti E e) fun ie=>M.bind (M.ofOpt (DQ (fun k=>some (k*ie.size,ie.size)) ps i.zero)) fun r=>M.pure (.agg r.toArray)
 |_=>M.fail
def BZ (E:Env)(t len:Nat)(ps:List (Nat×Value)):M Value:=
 M.bind (ti E t) fun i=>match i.u with
 | .slice e=>M.bind (ti E e) fun ie=>M.chk (Nat.ble (len*ie.size) 16777216&&Nat.blt len capU)
  (M.bind (M.ofOpt (DQ (fun k=>some (k*ie.size,ie.size)) ps (rep len ie.zero))) fun r=>M.bind (newL r) fun b=>M.bind (wrC (Nat.add b r.length) (.O (.tok true (Nat.add 1024 r.length)))) fun _=>M.pure (.slice (some ⟨b,0,none⟩) len len))
 |_=>M.fail
def El (E:Env)(t:Nat)(cs:List Value)(off:Nat):M Value:=
 M.bind (ti E t) fun i=>M.if i.agg (M.pure (.agg ((cs.drop off).take i.size).toArray)) (M.ofOpt (cs[off]?))
def F5 (E:Env)(t:Nat)(d:Option Addr)(n:Nat)(x:Value):M Value:=
 M.bind (ti E t) fun i=>match i.u with
 | .slice e=>M.bind (ti E e) fun ie=>M.bind (lenOf x) fun m=>match d with
  |none=>pN 0
  |some d=>fN (Nat.min n m) fun k=>M.bind (srcL ie.size x k) fun l=>M.bind (wrL l d) fun _=>pN k
 |_=>M.fail
def Fj (l:Nat):M (List MapEntry×Nat):=M.bind (rdC l) fun c=>match c with
 | .O (.map es n)=>M.pure (es,n)
 |_=>M.fail
def GO (m:Value):M Value:=
 match m with
 | .map none=>pN 0
 | .map (some l)=>M.bind (Fj l) fun p=>pN p.1.length
 |_=>M.fail
def aLen (E:Env)(t:Nat)(x:Value):M Value:=
 M.bind (ti E t) fun i=>match i.u,x with
 | .slice _, .slice _ n _=>pN n
 | .string, .string s=>pN s.size
 | .map _ _,x=>GO x
 | .slice _, .complex _ 3 _=>M.pure (.complex .f32 1 3)
 | .slice _, .complex _ 5 _=>M.pure (.complex .f32 1 3)
 | .string, .complex _ 4 _=>M.pure (.complex .f32 1 3)
 |_,_=>M.fail
def aCap (E:Env)(t:Nat)(x:Value):M Value:=
 M.bind (ti E t) fun i=>match i.u,x with
 | .slice _, .slice _ _ c=>M.chk (Nat.blt c capU) (pN c)
 |_,_=>M.fail
def JJ (E:Env)(t:Nat)(x:Value):M Value:=
 M.bind (ti E t) fun i=>match i.u,x with
 | .slice e, .slice (some a) n _=>M.bind (ti E e) fun ie=>M.chk (Nat.blt 0 ie.size&&Nat.ble (n*ie.size) 16777216) (M.bind (wrL (rep n ie.zero) a) fun _=>M.pure undef)
 | .slice _, .slice none 0 0=>M.pure undef
 |_,_=>M.fail
def QG_ (es:List MapEntry):List MapEntry:=es.map fun e=>{e with val:=undef}
def J7 (E:Env)(empty:Bool)(kt:Nat)(k:Value)(es:List MapEntry):M (Option Nat):=
 M.chk (plain k) (M.on (semP E.P (do Instr.checkKey empty 10000 kt k;Instr.findKey kt k (QG_ es))) fun r=>M.pure (r.map (·.1)))
def mapT (E:Env)(t:Nat):M (Nat×Nat):=M.bind (ti E t) fun i=>match i.u with
 | .map kt et=>M.pure (kt,et)
 |_=>M.fail
def kDel (E:Env)(t:Nat)(m k:Value):M Value:=M.bind (mapT E t) fun ke=>match m with
 | .map none=>M.bind (J7 E true ke.1 k []) fun _=>M.pure undef
 | .map (some l)=>M.bind (Fj l) fun p=>M.bind (J7 E p.1.isEmpty ke.1 k p.1) fun r=>(match r with
  |some j=>M.bind (wrC l (.O (.map (p.1.eraseIdx j) p.2))) fun _=>M.pure undef
  |none=>M.bind (wrC l (.O (.map p.1 p.2))) fun _=>M.pure undef)
 |_=>M.fail
def Az (E:Env)(b:Builtin)(ts:List Nat)(args:List Value):M Value:=
 match b,ts,args with
 | .len,t::_,[x]=>aLen E t x
 | .cap,t::_,[x]=>aCap E t x
 | .append,t::t2::_,[s,x]=>CZ E t t2 s x
 | .copy,t::_,[.slice d n _,x]=>F5 E t d n x
 | .min,_,l=>M.chk (l.all plain) (M.on (semP E.P (Builtin.min_ #[] 3 l.toArray)) pV)
 | .max,_,l=>M.chk (l.all plain) (M.on (semP E.P (Builtin.max_ #[] 3 l.toArray)) pV)
 |_,_,_=>M.fail
def idxN (u:TypeDesc)(x:Value)(E:Env)(k:Nat):M Value:=
 match u,x with
 | .array n e, .pointer (some a)=>M.bind (ti E e) fun ie=>M.chk (Nat.blt k n) (ptrA (addA a (Nat.mul k ie.size)))
 | .slice e, .slice (some a) len _=>M.bind (ti E e) fun ie=>M.chk (Nat.blt k len) (ptrA (addA a (Nat.mul k ie.size)))
 |_,_=>M.fail
def asN (v:Value):M Nat:=
 match v with
 | .int _ (.ofNat k)=>M.pure k
 |_=>M.fail
abbrev Ab:Type:=Nat→List Value→M Value
def AC (call round:Ab)(f:Value)(args:List Value):M Value:=
 match f with
 | .func (.func f) first cap=>call f (first.toList++(args++cap.toList))
 | .func (.yield l) first _=>M.chk first.isEmpty (round l args)
 |_=>M.fail
def BM (c a b:Value):M Value:=
 match c with
 | .bool c=>Bool.rec (motive:=fun _=>M Value) (M.pure b) (M.pure a) c
 |_=>M.fail
def ptrN (b:Nat):M Value:=M.pure (.pointer (some ⟨b,0,none⟩))
def Bt (E:Env)(e:Nat):M Value:=M.bind (ti E e) fun i=>M.bind (newL i.zero) ptrN
def kBox (v:Value):M Value:=M.bind (newL (cellsOf v)) ptrN
def Ak (E:Env)(t:Nat)(a:Value):M Value:=M.bind (asA a) fun a=>EF E t a
def A7 (E:Env)(t:Nat)(a v:Value):M Value:=M.bind (asA a) fun a=>M.bind (GV E t a v) fun _=>M.pure undef
def kNil (v:Value):M Value:=
 match v with
 | .pointer (some a)=>M.pure (.pointer (some a))
 | .iface t v=>M.pure (.iface t v)
 | .func (.func f) a b=>M.pure (.func (.func f) a b)
 |_=>M.fail
def C3 (P:Program)(op:UnOp)(v:Value):M Value:=M.chk (plain v) (M.on (semP P (Op.unary op v)) pV)
def notK (k:IntKind)(m:Nat):Option Value:=sOpt (Nat.ble (nat_lit 1) (qOf k)) (fitI k (Nat.xor (mxOf k) m))
def xorU (P:Program)(v:Value):M Value:=
 C1 v (fun k n=>Int.rec (motive:=fun _=>M Value) (fun m=>Option.rec (motive:=fun _=>M Value) (C3 P .xor v) (fun x=>M.pure x) (notK k m)) (fun _=>C3 P .xor v) n) (C3 P .xor v)
def kUn (P:Program)(op:UnOp)(v:Value):M Value:=
 match op,v with
 | .not, .bool b=>pB (!b)
 | .not, .complex _ 2 _=>M.pure topB
 | .xor,v=>xorU P v
 |op,v=>C3 P op v
def JQ (v:Value):Option UInt8:=match v with| .int .u8 (.ofNat n)=>some (UInt8.ofNat n)|_=>none
def GE (l:List Value):Option (List UInt8):=
 List.rec (motive:=fun _=>Option (List UInt8)) (some []) (fun v _ ih=>onO (JQ v) fun b=>onO ih fun l=>some (b::l)) l
def strOf (a:Addr)(n:Nat):M Value:=M.bind (rdL n a) fun l=>M.on (GE l) fun bs=>M.pure (.string ⟨bs.toArray⟩)
def F3 (E:Env)(s d:Nat)(a:Addr)(n:Nat):M Value:=
 M.bind (ti E s) fun is=>M.bind (ti E d) fun id=>match is.u,id.u with
 | .slice e, .string=>M.bind (ti E e) fun ie=>(match ie.u with| .int .u8=>strOf a n|_=>M.fail)
 |_,_=>M.fail
def Fv (E:Env)(s d:Nat)(k:IntKind)(n:Int):M Value:=
 M.bind (ti E s) fun _=>M.bind (ti E d) fun id=>match id.u with
 | .int k'=>fI (Jf k' n) fun n=>M.pure (.int k' n)
 |_=>M.on (semP E.P (convert s d (.int k n))) pV
def Ed (E:Env)(s d:Nat)(v:Value):M Value:=
 match v with
 | .slice (some a) n _=>F3 E s d a n
 | .int k n=>Fv E s d k n
 |v=>M.chk (plain v) (M.on (semP E.P (convert s d v)) pV)
def FU (l:List UInt8):M Value:=fBs l fun vs=>fN vs.length fun n=>rowN vs n
def Gk (E:Env)(s d:Nat)(b:ByteArray):M Value:=
 M.bind (ti E s) fun _=>M.bind (ti E d) fun id=>match id.u with
 | .slice e=>M.bind (ti E e) fun ie=>(match ie.u with| .int .u8=>FU b.data.toList|_=>M.fail)
 |_=>Ed E s d (.string b)
def EV (E:Env)(s d:Nat)(a:Addr)(n c:Nat):M Value:=
 M.bind (ti E s) fun is=>M.bind (ti E d) fun id=>match is.u,id.u with
 | .slice _, .slice _=>M.fail
 |_,_=>Ed E s d (.slice (some a) n c)
def Bc (E:Env)(s d:Nat)(v:Value):M Value:=
 match v with
 | .string b=>Gk E s d b
 | .slice (some a) n c=>EV E s d a n c
 |v=>Ed E s d v
def GH (u:TypeDesc)(v:Value):M Value:=
 match u,v with
 | .array n _, .slice (some a) len _=>M.chk (Nat.ble n len&&Nat.blt 0 len) (M.pure (.pointer (some a)))
 |_,_=>M.fail
def Dw (E:Env)(t:Nat)(v:Value):M Value:=M.bind (ti E t) fun i=>GH i.u v
def FW (E:Env)(t:Nat)(v:Value):M Value:=
 M.bind (ti E t) fun i=>match i.u with
 | .interface _=>M.fail
 |_=>M.pure (.iface t v)
def mkSl (E:Env)(u:TypeDesc)(l c:Nat):M Value:=
 match u with
 | .slice e=>M.bind (ti E e) fun ie=>M.chk (Nat.ble l c&&Nat.ble (c*(ie.bytes+1)) 16777216) (M.bind (newL (rep c ie.zero)) fun b=>M.pure (.slice (some ⟨b,0,none⟩) l c))
 |_=>M.fail
def Ea (E:Env)(t:Nat)(l c:Value):M Value:=
 M.bind (ti E t) fun i=>M.bind (asN l) fun l=>M.bind (asN c) fun c=>mkSl E i.u l c
def Ei (E:Env)(u:TypeDesc)(f:Nat):M (Nat×TI×Nat):=
 match u with
 | .struct fs=>(match fs.toList[f]? with|some f=>M.bind (ti E f.type) fun fi=>M.pure (f.offset,fi,f.type)|none=>M.fail)
 |_=>M.fail
def kFld (E:Env)(t:Nat)(a:Value)(f:Nat):M Value:=
 M.bind (ti E t) fun i=>M.bind (asA a) fun a=>M.bind (Ei E i.u f) fun p=>M.chk (Nat.blt 0 p.2.1.size) (ptrA (addA a p.1))
def asCs (v:Value):M (List Value):=
 match v with
 | .agg cs=>M.pure cs.toList
 |_=>M.fail
def FX (E:Env)(t:Nat)(v:Value)(f:Nat):M Value:=
 M.bind (ti E t) fun i=>M.bind (asCs v) fun cs=>M.bind (Ei E i.u f) fun p=>El E p.2.2 cs p.1
def AH (E:Env)(t:Nat)(x ix:Value):M Value:=M.bind (ti E t) fun i=>M.bind (asN ix) fun k=>idxN i.u x E k
def idxV (u:TypeDesc)(x:Value)(E:Env)(k:Nat):M Value:=
 match u,x with
 | .array n e, .agg cs=>M.bind (ti E e) fun ie=>M.chk (Nat.blt k n) (El E e cs.toList (k*ie.size))
 | .string, .string s=>M.on (s.data.toList[k]?) fun b=>M.pure (.int .u8 b.toNat)
 |_,_=>M.fail
def kIdx (E:Env)(t:Nat)(x ix:Value):M Value:=M.bind (ti E t) fun i=>M.bind (asN ix) fun k=>idxV i.u x E k
def kExt (k:Nat)(v:Value):M Value:=
 match v with
 | .tuple vs=>M.ofOpt (vs.toList[k]?)
 |_=>M.fail
def Sy (v:Value):M Value:=
 match v with
 | .iface t x=>fun s=> .pan [{v:= .iface t x,recovered:=false}] s
 |_=>M.fail
abbrev OpT:Type:=Ab→Ab→Rho→T Value→M Value
def BU (ds:List Nat)(x:Operand)(f:Value→M Value):Cl OpT:=Cl.rec (motive:=fun _=>Cl OpT) (fun g=> .mk fun _ _ r tm s=>Option.rec (motive:=fun _=>R Value) .none (fun a=>f a s) (g r tm)) (CB ds x)
def E7 (ds:List Nat)(x:Operand):Cl OpT:=Cl.rec (motive:=fun _=>Cl OpT) (fun g=> .mk fun _ _ r tm s=>Option.rec (motive:=fun _=>R Value) .none (fun a=> .some a s) (g r tm)) (CB ds x)
def C5 (ds:List Nat)(x y:Operand)(f:Value→Value→M Value):Cl OpT:=
 Cl.rec (motive:=fun _=>Cl OpT) (fun g=>Cl.rec (motive:=fun _=>Cl OpT) (fun h=> .mk fun _ _ r tm s=>Option.rec (motive:=fun _=>R Value) .none (fun a=>Option.rec (motive:=fun _=>R Value) .none (fun b=>f a b s) (h r tm)) (g r tm)) (CB ds y)) (CB ds x)
def Hj (ds:List Nat)(x y z:Operand)(f:Value→Value→Value→M Value):Cl OpT:=
 Cl.rec (motive:=fun _=>Cl OpT) (fun g=>Cl.rec (motive:=fun _=>Cl OpT) (fun h=>Cl.rec (motive:=fun _=>Cl OpT) (fun i=> .mk fun _ _ r tm=>M.on (g r tm) fun a=>M.on (h r tm) fun b=>M.on (i r tm) fun c=>f a b c) (CB ds z)) (CB ds y)) (CB ds x)
def Gb (ds:List Nat)(l:List Operand)(f:List Value→M Value):Cl OpT:=Cl.rec (motive:=fun _=>Cl OpT) (fun g=> .mk fun _ _ r tm s=>Option.rec (motive:=fun _=>R Value) .none (fun a=>f a s) (g r tm)) (Ft ds l)
def HO (ds:List Nat)(l l':List Operand)(f:List Value→List Value→M Value):Cl OpT:=
 Cl.rec (motive:=fun _=>Cl OpT) (fun g=>Cl.rec (motive:=fun _=>Cl OpT) (fun h=> .mk fun _ _ r tm s=>Option.rec (motive:=fun _=>R Value) .none (fun a=>Option.rec (motive:=fun _=>R Value) .none (fun b=>f a b s) (h r tm)) (g r tm)) (Ft ds l')) (Ft ds l)
def EZ (ds:List Nat)(l:List (Nat×Operand))(f:List (Nat×Value)→M Value):Cl OpT:=Cl.rec (motive:=fun _=>Cl OpT) (fun g=> .mk fun _ _ r tm s=>Option.rec (motive:=fun _=>R Value) .none (fun a=>f a s) (g r tm)) (KV ds l)
def MV (ds:List Nat)(x:Operand)(lo hi:Option Operand)(f:Value→Option Value→Option Value→M Value):Cl OpT:=
 Cl.rec (motive:=fun _=>Cl OpT) (fun g=>Cl.rec (motive:=fun _=>Cl OpT) (fun h=>Cl.rec (motive:=fun _=>Cl OpT) (fun i=> .mk fun _ _ r tm=>M.on (g r tm) fun a=>M.on (h r tm) fun b=>M.on (i r tm) fun c=>f a b c) (I7 ds hi)) (I7 ds lo)) (CB ds x)
def MG (ds:List Nat)(x:Operand)(l:List Operand):Cl OpT:=
 Cl.rec (motive:=fun _=>Cl OpT) (fun g=>Cl.rec (motive:=fun _=>Cl OpT) (fun h=> .mk fun call round r tm=>M.on (g r tm) fun f=>M.on (h r tm) fun l=>AC call round f l) (Ft ds l)) (CB ds x)
def H1:Cl OpT:= .mk fun _ _ _ _=>M.fail
def Gz (E:Env)(ds:List Nat)(c:Call):Cl OpT:=
 match c.callee with
 | .builtin .recover=>H1
 | .builtin b=>Gb ds c.args.toList (Az E b c.argTypes.toList)
 | .value f=>MG ds f c.args.toList
 | .invoke _ _=>H1
def Hz (E:Env)(ds:List Nat)(t:Nat)(x:Operand)(lo hi mx:Option Operand):Cl OpT:=
 Option.rec (motive:=fun _=>Cl OpT) (MV ds x lo hi (BB E t)) (fun _=>H1) mx
def En (E:Env)(ds:List Nat)(o:Op):Cl OpT:=
 match o with
 | .move x=>E7 ds x
 | .assign x=>E7 ds x
 | .pick c a b=>Hj ds c a b BM
 | .alloc e=> .mk fun _ _ _ _=>Bt E e
 | .box _ x=>BU ds x kBox
 | .build t ps=>EZ ds ps.toList (Cj E t)
 | .buildSlice t n ps=>EZ ds ps.toList (BZ E t n)
 | .load t a=>BU ds a (Ak E t)
 | .store t a x=>C5 ds a x (A7 E t)
 | .nilCheck x=>BU ds x kNil
 | .binOp op t x y _=>Cl.rec (motive:=fun _=>Cl OpT) (fun f=>C5 ds x y f) (aBin E op t x y)
 | .unOp op _ x=>BU ds x (kUn E.P op)
 | .convert s d x=>BU ds x (Bc E s d)
 | .sliceToArrayPointer t x=>BU ds x (Dw E t)
 | .makeInterface t x=>BU ds x (FW E t)
 | .makeFunc (.func fn) first cap=>HO ds first.toList cap.toList fun f c=>M.pure (.func (.func fn) f.toArray c.toArray)
 | .makeSlice t l c=>C5 ds l c (Ea E t)
 | .slice t x lo hi mx=>Hz E ds t x lo hi mx
 | .fieldAddr t x f=>BU ds x fun a=>kFld E t a f
 | .field t x f=>BU ds x fun a=>FX E t a f
 | .indexAddr t x ix=>C5 ds x ix (AH E t)
 | .index t x ix=>C5 ds x ix (kIdx E t)
 | .extract x k=>BU ds x (kExt k)
 | .call c=>Gz E ds c
 | .panic x=>BU ds x Sy
 |_=>H1
structure COp where
 guard:Option (Nat×Bool)
 slot:Option Nat
 keep:Bool
 run:OpT
def EO (ops:List Oper)(ds:List Nat)(g:Option (Nat×Bool)):Option (Option (Nat×Bool)):=
 match g with
 |none=>some none
 |some (j,want)=>match ops[j]? with
  |some o=>(match o.dst with|some d=>(match FV d ds with|some n=>some (some (n,want))|none=>none)|none=>none)
  |none=>none
def Cq (d:Option Nat)(ds:List Nat):List Nat:=Option.rec (motive:=fun _=>List Nat) ds (fun d=>d::ds) d
def newD (d:Option Nat)(n:Nat)(ds:List Nat):Bool:=Option.rec (motive:=fun _=>Bool) true (fun d=>Nat.blt d n&& !ds.any fun e=>Nat.beq d e) d
def CQ (d:Option Nat)(glob:Nat):Bool:=Option.rec (motive:=fun _=>Bool) false (fun d=>Nat.testBit glob d) d
def CF (E:Env)(glob n:Nat)(ops:List Oper)(l:List Oper):List Nat→Option (List COp):=
 List.rec (motive:=fun _=>List Nat→Option (List COp)) (fun _=>some [])
  (fun o _ ih ds=>onO (EO ops ds o.guard) fun g=>Bool.rec (motive:=fun _=>Option (List COp)) none (onO (ih (Cq o.dst ds)) fun r=>
   Cl.rec (motive:=fun _=>Option (List COp)) (fun f=>Bool.rec (motive:=fun _=>Option (List COp)) (some (⟨g,o.dst,false,f⟩::r)) (some (⟨g,o.dst,true,f⟩::r)) (CQ o.dst glob)) (En E ds o.op)) (newD o.dst n ds)) l
def isB (v:Value)(want:Bool):Bool:=
 match v with
 | .bool b=>Bool.rec (motive:=fun _=>Bool) (!want) want b
 |_=>false
def isK (v:Value):Bool:=
 match v with
 | .complex _ _ _=>false
 |_=>true
def nthV (n:Nat):Rho→Option Value:=Nat.rec (motive:=fun _=>Rho→Option Value) nth0 (fun _ ih l=>List.rec (motive:=fun _=>Option Value) none (fun _ r _=>ih r) l) n
def Cn (g:Option (Nat×Bool))(r:Rho)(x:M Value):M Value:=
 Option.rec (motive:=fun _=>M Value) x (fun p=>M.on (nthV p.1 r) fun v=>M.chk (isK v) (M.if (isB v p.2) x (M.pure undef))) g
def De (d:Option Nat)(v:Value)(r:Rho):Rho:=Option.rec (motive:=fun _=>Rho) r (fun _=>v::r) d
def GJ {β:Type}(d:Option Nat)(keep:Bool)(v:Value)(tm:T Value)(K:T Value→M β):M β:=
 Bool.rec (motive:=fun _=>M β) (K tm) (Option.rec (motive:=fun _=>M β) (K tm) (fun d=>T.rec (motive:=fun _=>M β) M.fail (fun a b c _ _=>K (.N a b c)) (T.set tm d v)) d) keep
def runC (call round:Ab)(c:COp)(r:Rho)(tm:T Value)(K:Rho→T Value→M (T Value)):M (T Value):=
 COp.rec (motive:=fun _=>M (T Value)) (fun g d k f=>M.bind (Cn g r (f call round r tm)) fun v=>GJ d k v tm (K (De d v r))) c
def Bw (call round:Ab)(l:List COp):Rho→T Value→M (T Value):=
 List.rec (motive:=fun _=>Rho→T Value→M (T Value)) (fun _ tm=>M.pure tm) (fun c _ ih r tm=>runC call round c r tm ih) l
abbrev RT:Type:=Ab→Ab→Rho→T Value→M (T Value)
def Ln (d:Option Nat)(keep:Bool)(f:OpT)(k:RT):Cl RT:=
 Option.rec (motive:=fun _=>Cl RT) (.mk fun call round r tm s=>R.rec (motive:=fun _=>R (T Value)) .none (fun _ s=>k call round r tm s) (fun c s=> .pan c s) (f call round r tm s))
  (fun d=>Bool.rec (motive:=fun _=>Cl RT) (.mk fun call round r tm s=>R.rec (motive:=fun _=>R (T Value)) .none (fun v s=>k call round (v::r) tm s) (fun c s=> .pan c s) (f call round r tm s))
   (.mk fun call round r tm s=>R.rec (motive:=fun _=>R (T Value)) .none (fun v s=>T.rec (motive:=fun _=>R (T Value)) .none (fun a b c _ _=>k call round (v::r) (.N a b c) s) (T.set tm d v)) (fun c s=> .pan c s) (f call round r tm s)) keep) d
def Ou (c:COp)(k:RT):Cl RT:=
 COp.rec (motive:=fun _=>Cl RT) (fun g d keep f=>Option.rec (motive:=fun _=>Cl RT) (Ln d keep f k) (fun p=>Ln d keep (fun call round r tm=>Cn (some p) r (f call round r tm)) k) g) c
def fuse (l:List COp):Cl RT:=List.rec (motive:=fun _=>Cl RT) (.mk fun _ _ _ tm s=> .some tm s) (fun c _ ih=>Cl.rec (motive:=fun _=>Cl RT) (fun k=>Ou c k) ih) l
structure OpLog where
 lo:Nat
 hi:Nat
 rd:List Nat
 wr:List Nat
def apartO {α:Type}(m:M α):M (α×OpLog):=fun s=>St.rec (motive:=fun _=>R (α×OpLog)) (fun mem next lim rd wr cx=>
 R.rec (motive:=fun _=>R (α×OpLog)) .none (fun a s=>St.rec (motive:=fun _=>R (α×OpLog)) (fun mem' next' _ rd' wr' cx'=>Ctx.rec (motive:=fun _=>R (α×OpLog)) (.some (a,OpLog.mk next next' rd' wr') (St.mk mem' next' lim rd wr .no)) (fun _ _=> .none) cx') s)
  (fun _ _=> .none) (m (St.mk mem next next [] [] cx))) s
def CI (l:List Nat):Nat→Nat:=List.rec (motive:=fun _=>Nat→Nat) (fun m=>m) (fun a _ ih m=>fN (Nat.lor m (Nat.shiftLeft (nat_lit 1) a)) ih) l
def Cd (m:OpLog):Nat×Nat:=OpLog.rec (motive:=fun _=>Nat×Nat) (fun _ _ rd wr=>fN (CI rd (nat_lit 0)) fun r=>fN (CI wr (nat_lit 0)) fun w=>(r,w)) m
def I5 (l:List OpLog):List (Nat×Nat):=List.rec (motive:=fun _=>List (Nat×Nat)) [] (fun m _ ih=>Prod.rec (motive:=fun _=>List (Nat×Nat)) (fun r w=>(r,w)::ih) (Cd m)) l
def EN (a b:Nat×Nat):Bool:=Nat.beq (Nat.land a.2 (Nat.lor b.1 b.2)) (nat_lit 0)&&Nat.beq (Nat.land b.2 a.1) (nat_lit 0)
def Fr (bj:Nat)(m:Nat×Nat)(acc:List (Nat×Nat)):Nat→Bool:=
 List.rec (motive:=fun _=>Nat→Bool) (fun _=>true) (fun a _ ih i=>(bj.testBit i||EN a m)&&ih (Nat.succ i)) acc
def HH (all:List (Nat×Nat))(l:List (Nat×Nat)):List Nat→Nat→Bool:=
 List.rec (motive:=fun _=>List Nat→Nat→Bool) (fun _ _=>true) (fun m _ ih bef j=>match bef with
  |b::bef=>Fr b m (all.take j) 0&&ih bef (Nat.succ j)
  |[]=>false) l
def BX (n0:Nat)(l acc:List Nat):List Nat:=List.rec (motive:=fun _=>List Nat) acc (fun a _ ih=>Bool.rec (motive:=fun _=>List Nat) ih (a::ih) (Nat.ble n0 a)) l
def DO (lo hi:Nat)(l:List Nat):Bool:=List.rec (motive:=fun _=>Bool) false (fun a _ ih=>Bool.rec (motive:=fun _=>Bool) ih (Bool.rec (motive:=fun _=>Bool) ih true (Nat.blt a hi)) (Nat.ble lo a)) l
def Eu (bj:Nat)(news:List Nat)(acc:List OpLog):Nat→Bool:=
 List.rec (motive:=fun _=>Nat→Bool) (fun _=>true) (fun a _ ih i=>(bj.testBit i|| !DO a.lo a.hi news)&&ih (Nat.succ i)) acc
def Gw (bj:Nat)(news:List Nat)(acc:List OpLog):Bool:=List.rec (motive:=fun _=>Bool) true (fun _ _ _=>Eu bj news acc 0) news
def Fs (n0:Nat)(all:List OpLog)(l:List OpLog):List Nat→Nat→Bool:=
 List.rec (motive:=fun _=>List Nat→Nat→Bool) (fun _ _=>true) (fun m _ ih bef j=>match bef with
  |b::bef=>Gw b (BX n0 m.rd (BX n0 m.wr [])) (all.take j)&&ih bef (Nat.succ j)
  |[]=>false) l
def Wg (l:List OpLog):Bool:=l.all fun m=>m.wr.isEmpty
def CL (n0:Nat)(l:List OpLog)(bef:List Nat):Bool:=Fs n0 l l bef 0&&(Wg l||HH (I5 l) (I5 l) bef 0)
def addL (lim:Nat)(l base:List Nat):List Nat:=List.rec (motive:=fun _=>List Nat) base (fun a _ ih=>notes a lim ih) l
def rdsL (lim:Nat)(l:List OpLog)(base:List Nat):List Nat:=List.rec (motive:=fun _=>List Nat) base (fun m _ ih=>addL lim m.rd ih) l
def wrsL (lim:Nat)(l:List OpLog)(base:List Nat):List Nat:=List.rec (motive:=fun _=>List Nat) base (fun m _ ih=>addL lim m.wr ih) l
def EM (call round:Ab)(l:List COp):List OpLog→Rho→T Value→M ((Rho×T Value)×List OpLog):=
 List.rec (motive:=fun _=>List OpLog→Rho→T Value→M ((Rho×T Value)×List OpLog)) (fun acc r tm=>M.pure ((r,tm),acc))
  (fun c _ ih acc r tm=>COp.rec (motive:=fun _=>M ((Rho×T Value)×List OpLog)) (fun g d k f=>M.bind (apartO (Cn g r (f call round r tm))) fun p=>GJ d k p.1 tm fun tm=>ih (p.2::acc) (De d p.1 r) tm) c) l
def N8 (ops:List Oper):Nat→Bool:=
 List.rec (motive:=fun _=>Nat→Bool) (fun _=>true) (fun o _ ih j=>(o.after.toList.all fun e=> !Region.binds .any e||Nat.blt e.on j)&&ih (Nat.succ j)) ops
def Em (ops:List Oper)(o:Oper):List Nat:=
 (match o.guard with|some (g,_)=>(match ops[g]? with|some q=>(match q.dst with|some d=>[d]|none=>[])|none=>[])|none=>[])++
 o.op.operands.toList.filterMap fun x=>match x with| .tmp t=>some t|_=>none
def HJ (bef:List Nat)(j:Nat)(looks:List Nat)(l:List Oper):Nat→Bool:=
 List.rec (motive:=fun _=>Nat→Bool) (fun _=>true) (fun o _ ih i=>
  (match o.dst with
   |some d=>Nat.beq i j|| !(looks.any fun t=>Nat.beq t d)||(match bef[Nat.max i j]? with|some b=>b.testBit (Nat.min i j)|none=>false)
   |none=>true)&&ih (Nat.succ i)) l
def OL (all:List Oper)(bef:List Nat)(l:List Oper):Nat→Bool:=
 List.rec (motive:=fun _=>Nat→Bool) (fun _=>true) (fun o _ ih j=>HJ bef j (Em all o) all 0&&ih (Nat.succ j)) l
def FY (ops:List Oper)(bef:List Nat):Bool:=Nat.beq bef.length ops.length&&N8 ops 0&&OL ops bef ops 0
structure AF where
 fn:Nat
 n:Nat
 glob:Nat
 tmps:T Value
 todo:List Item
 mode:FrameMode
 kind:CallKind
 roundOf:Option Nat
def orM (m:Nat)(t:Nat):Nat:=fN (Nat.lor m (Nat.shiftLeft (nat_lit 1) t)) fun m=>m
def orO (x:Operand)(m:Nat):Nat:=Operand.rec (motive:=fun _=>Nat) (fun t=>orM m t) (fun _=>m) (fun _=>m) (fun _=>m) x
def outR (l:List Oper):List Nat→Nat→Nat:=
 List.rec (motive:=fun _=>List Nat→Nat→Nat) (fun _ m=>m) (fun o _ ih ds m=>
  fN (o.op.operands.toList.foldl (fun m x=>match x with| .tmp t=>(Option.rec (motive:=fun _=>Nat) (orM m t) (fun _=>m) (FV t ds))|_=>m) m) fun m=>ih (Cq o.dst ds) m) l
def outC (c:Code):Nat→Nat:=
 Code.rec (motive:=fun _=>Nat→Nat) (fun m=>m) (fun _ ops _ m=>outR ops.toList [] m) (fun _ _ f g m=>fN (f m) g) (fun c _ _ f g m=>fN (orO c m) fun m=>fN (f m) g) (fun _ _ f=>f) (fun _ f=>f) (fun x _ _ _ f g m=>fN (orO x m) fun m=>fN (f m) g) (fun _ m=>m) (fun _ f=>f) (fun _ m=>m) (fun _ m=>m) (fun m=>m) (fun _ m=>m) c
def Bm (fn:Func):Nat:=
 fn.results.toList.foldl (fun m x=>match x with| .tmp t=>orM m t| .cell t _=>orM m t) (match fn.body with|some c=>outC c 0|none=>0)
def putG (g i:Nat)(v:Value)(t:T Value):T Value:=Bool.rec (motive:=fun _=>T Value) t (t.set i v) (Nat.testBit g i)
def Fb (g:Nat)(l:List Value):Nat→T Value→T Value:=
 List.rec (motive:=fun _=>Nat→T Value→T Value) (fun _ t=>t) (fun v _ ih i t=>ih (Nat.succ i) (putG g i v t)) l
def CT (E:Env)(f:Nat)(args:List Value)(kind:CallKind):M AF:=
 M.on (E.fn.get f) fun fn=>M.on fn.body fun c=>M.chk (Nat.ble args.length fn.ntmps)
  (fN fn.ntmps fun n=>fN (Bm fn) fun g=>M.pure {fn:=f,n,glob:=g,tmps:=Fb g args 0 .E,todo:=[.code c],mode:= .run,kind,roundOf:=none})
def resV (E:Env)(tm:T Value)(x:ResultVar):M Value:=
 match x with
 | .tmp t=>M.ofOpt (tm.get t)
 | .cell a t=>M.on (tm.get a) fun a=>M.bind (asA a) fun a=>EF E t a
def resL (E:Env)(tm:T Value)(l:List ResultVar):M (List Value):=
 List.rec (motive:=fun _=>M (List Value)) (M.pure []) (fun x _ ih=>M.bind (resV E tm x) fun v=>M.bind ih fun l=>M.pure (v::l)) l
def tupV (l:List Value):Value:=
 match l with
 |[v]=>v
 |l=> .tuple l.toArray
def Uo (E:Env)(fn:Func)(tm:T Value):M Value:=M.bind (resL E tm fn.results.toList) fun l=>M.pure (tupV l)
inductive Step where
 |go (fr:AF)
 |fin (v:Value) (up:FrameMode)
def goTo (fr:AF)(k:List Item):M Step:=AF.rec (motive:=fun _=>M Step) (fun fn n g tm _ mo ki ro=>M.pure (.go (AF.mk fn n g tm k mo ki ro))) fr
def goTm (fr:AF)(k:List Item)(tm:T Value):M Step:=AF.rec (motive:=fun _=>M Step) (fun fn n g _ _ mo ki ro=>M.pure (.go (AF.mk fn n g tm k mo ki ro))) fr
def goMo (fr:AF)(mo:FrameMode)(tm:T Value):M Step:=AF.rec (motive:=fun _=>M Step) (fun fn n g _ k _ ki ro=>M.pure (.go (AF.mk fn n g tm k mo ki ro))) fr
def FG_ (j:Option Code):Bool:=match j with|none=>true|some .ret=>true|_=>false
def endR (l:Nat)(jump:Option Code):M Step:=
 M.bind (rdC l) fun c=>match c with
 | .O (.loop _ _ f n g tm ps as bd df)=>M.bind (wrC l (.O (.loop (if jump.isNone then .ready else .done) jump f n g tm ps as bd df))) fun _=>M.pure (.fin (.bool jump.isNone) .run)
 |_=>M.fail
def E3 (fr:AF)(jump:Option Code):M Step:=
 Option.rec (motive:=fun _=>M Step) (M.chk (FG_ jump) (goMo fr .returning fr.tmps)) (fun l=>endR l jump) fr.roundOf
def If (fr:AF)(a b:Code)(k:List Item)(v:Value):M Step:=
 match v with
 | .bool t=>Bool.rec (motive:=fun _=>M Step) (goTo fr (.code b::k)) (goTo fr (.code a::k)) t
 |_=>M.fail
def Fg (fr:AF)(jump:Code)(k:Option (List Item)):M Step:=
 Option.rec (motive:=fun _=>M Step) (E3 fr (some jump)) (fun k=>goTo fr k) k
def G1 (fr:AF)(ds:List Nat)(c:List PanicEntry):M Step:=goMo fr (.panicking c) (List.rec (motive:=fun _=>T Value) fr.tmps (fun d _ t=>T.del t d) ds)
def regF (call round:Ab)(fr:AF)(ds:List Nat)(f:RT)(k:List Item):M Step:=fun s=>
 R.rec (motive:=fun _=>R Step) .none (fun tm s=>goTm fr k tm s) (fun c s=>Option.rec (motive:=fun _=>R Step) (G1 fr ds c s) (fun _=> .none) fr.roundOf) (f call round [] fr.tmps s)
def noP {α:Type}(m:M α):M α:=fun s=>R.rec (motive:=fun _=>R α) .none (fun a s=> .some a s) (fun _ _=> .none) (m s)
def Gf (call round:Ab)(tm:T Value)(ops:List COp)(bef:List Nat):M (Rho×T Value):=fun s=>St.rec (motive:=fun _=>R (Rho×T Value)) (fun mem next lim rd wr cx=>
 R.rec (motive:=fun _=>R (Rho×T Value)) .none (fun p s=>Prod.rec (motive:=fun _=>R (Rho×T Value)) (fun q l=>St.rec (motive:=fun _=>R (Rho×T Value)) (fun mem' next' _ _ _ _=>
  Bool.rec (motive:=fun _=>R (Rho×T Value)) .none (.some q (St.mk mem' next' lim (rdsL lim l rd) (wrsL lim l wr) cx)) (CL next l.reverse bef)) s) p) (fun _ _=> .none)
  (EM call round ops [] [] tm (St.mk mem next (nat_lit 0) [] [] .no))) s
def endE (call round:Ab)(fr:AF)(last:List COp)(ds:List Nat)(k:List Item)(q:Rho×T Value):M Step:=fun s=>
 R.rec (motive:=fun _=>R Step) .none (fun tm s=>goTm fr k tm s) (fun c s=>Option.rec (motive:=fun _=>M Step) (G1 fr ds c) (fun _=>M.fail) fr.roundOf s) (Bw call round last q.1 q.2 s)
def Ja (call round:Ab)(fr:AF)(ops last:List COp)(bef ds:List Nat)(k:List Item):M Step:=
 M.bind (Gf call round fr.tmps ops bef) (endE call round fr last ds k)
def D3 (n:Nat)(bef:List Nat):Nat:=Bool.rec (motive:=fun _=>Nat) n (Nat.pred n) (match bef[Nat.pred n]? with|some b=>Nat.beq b (Nat.sub (Nat.pow 2 (Nat.pred n)) 1)|none=>false)
def Hk (pe:Option Code):List Item:=match pe with|some c=>[Item.code c]|none=>[]
def J4 (fr:AF)(k:List Item)(l:Nat):M Step:=
 M.bind (rdC l) fun c=>match c with
 | .O (.loop st pe f n g tm ps as bd df)=>M.chk (match st with| .busy=>false|_=>true) (M.bind (wrC l (.O (.loop .exhausted pe f n g tm ps as bd df))) fun _=>goTo fr (Hk pe++k))
 |_=>M.fail
def IT (E:Env)(call:Ab)(f:Value)(l:Nat):M Value:=
 match f with
 | .func (.func f) first cap=>M.chk (E.ext.get f).isNone (call f (first.toList++(.func (.yield l) #[] #[]::cap.toList)))
 |_=>M.fail
def dfsR (ro:Option Nat):M Nat:=
 match ro with
 |none=>M.bind (newO (.deferred (some []))) fun d=>M.bind getCx fun cx=>(match cx with
  | .cx up (some dfs)=>M.bind (putCx (.cx up (some ({target:= .collected d,args:= #[]}::dfs)))) fun _=>M.pure d
  |_=>M.fail)
 |some l=>M.bind (rdC l) fun c=>(match c with
  | .O (.loop _ _ _ _ _ _ _ _ _ df)=>M.pure df
  |_=>M.fail)
def FN (E:Env)(call:Ab)(fr:AF)(f:Value)(params:Array Nat)(assign body:Code)(k:List Item):M Step:=
 M.bind (dfsR fr.roundOf) fun d=>M.bind (newO (.loop .ready none fr.fn fr.n fr.glob fr.tmps params.toList assign body d)) fun l=>M.bind (noP (IT E call f l)) fun _=>J4 fr k l
def begR (fr:AF)(k:List Item):M Step:=
 match fr.roundOf with
 |some l=>M.bind (rdC l) fun c=>(match c with
  | .O (.loop .ready pe f n g tm ps as bd df)=>M.bind (wrC l (.O (.loop .busy pe f n g tm ps as bd df))) fun _=>goTo fr k
  |_=>M.fail)
 |none=>M.fail
abbrev Gy:Type:=Nat→List Value→FrameMode→M (Option (List PanicEntry)×FrameMode)
def runD (dcall:Gy)(fr:AF)(d:Deferred):M Step:=
 match d.target with
 | .collected b=>M.bind (rdC b) fun c=>(match c with
  | .O (.deferred (some []))=>M.bind (wrC b (.O (.deferred none))) fun _=>M.pure (.go fr)
  |_=>M.fail)
 |_=>M.fail
def outF (E:Env)(fr:AF)(up:Option FrameMode):M Step:=
 match fr.mode with
 | .returning=>M.on (E.fn.get fr.fn) fun fn=>M.bind (Uo E fn fr.tmps) fun v=>M.pure (.fin v (up.getD .run))
 | .panicking c=>fun s=> .pan c s
 | .run=>M.fail
def Dr (E:Env)(dcall:Gy)(fr:AF):M Step:=
 M.bind getCx fun cx=>match cx with
 | .cx up (some [])=>outF E fr up
 | .cx up (some (d::ds))=>noP (M.bind (putCx (.cx up (some ds))) fun _=>runD dcall fr d)
 |_=>M.fail
abbrev D7:Type:=Ab→Ab→AF→List Item→M Step
def dstL (l:List Oper):List Nat:=List.rec (motive:=fun _=>List Nat) [] (fun o _ ih=>Cq o.dst ih) l
def K0 (l:List COp):Nat→List COp:=List.rec (motive:=fun _=>Nat→List COp) (fun _=>[]) (fun c _ ih m=>Nat.rec (motive:=fun _=>List COp) [] (fun m' _=>c::ih m') m) l
def GZ (l:List COp):Nat→List COp:=List.rec (motive:=fun _=>Nat→List COp) (fun _=>[]) (fun c l ih m=>Nat.rec (motive:=fun _=>List COp) (c::l) (fun m' _=>ih m') m) l
def NM (l:List COp)(ds bef:List Nat)(m:Nat):Cl D7:= .mk fun call round fr k=>Ja call round fr (K0 l m) (GZ l m) bef ds k
def Hf (E:Env)(glob n:Nat)(ops:Array Oper)(d:Bool):Cl D7:=
 Option.rec (motive:=fun _=>Cl D7) (.mk fun _ _ _ _=>M.fail) (fun l=>Bool.rec (motive:=fun _=>Cl D7) (Cl.rec (motive:=fun _=>Cl D7) (fun f=> .mk fun call round fr k=>regF call round fr (dstL ops.toList) f k) (fuse l)) (Bool.rec (motive:=fun _=>Cl D7) (.mk fun _ _ _ _=>M.fail) (NM l (dstL ops.toList) (Region.before ops).toList (D3 l.length (Region.before ops).toList)) (FY ops.toList (Region.before ops).toList)) d) (CF E glob n ops.toList ops.toList [])
def E4 (E:Env)(glob n:Nat)(c:Code):Cl D7:=
 match c with
 | .skip=> .mk fun _ _ fr k=>goTo fr k
 | .region _ ops d=>Hf E glob n ops d
 | .seq a b=> .mk fun _ _ fr k=>goTo fr (.code a:: .code b::k)
 | .cond c a b=>Cl.rec (motive:=fun _=>Cl D7) (fun g=> .mk fun _ _ fr k=>M.on (g [] fr.tmps) (If fr a b k)) (CB [] c)
 | .block id body=> .mk fun _ _ fr k=>goTo fr (.code body:: .inBlock id::k)
 | .loop body=> .mk fun _ _ fr k=>goTo fr (.code body:: .inLoop body::k)
 | .rangeFunc f ps as bd=>Cl.rec (motive:=fun _=>Cl D7) (fun g=> .mk fun call _ fr k=>M.on (g [] fr.tmps) fun f=>FN E call fr f ps as bd k) (CB [] f)
 | .exit id=> .mk fun _ _ fr k=>Fg fr (.exit id) (exitTo id k)
 | .scope body=> .mk fun _ _ fr k=>goTo fr (.code body:: .inScope body::k)
 | .label _=> .mk fun _ _ fr k=>goTo fr k
 | .goto l=> .mk fun _ _ fr k=>Fg fr (.goto l) (gotoIn l k)
 | .ret=> .mk fun _ _ fr _=>E3 fr (some .ret)
 | .refuse _=> .mk fun _ _ _ _=>M.fail
def codeF (E:Env)(call round:Ab)(fr:AF)(k:List Item)(c:Code):M Step:=AF.rec (motive:=fun _=>M Step) (fun fn n g tm todo mo ki ro=>Cl.rec (motive:=fun _=>M Step) (fun f=>f call round (AF.mk fn n g tm todo mo ki ro) k) (E4 E g n c)) fr
def Oq (E:Env)(call round:Ab)(fr:AF)(k:List Item)(x:Item):M Step:=
 Item.rec (motive:=fun _=>M Step) (fun c=>codeF E call round fr k c) (fun _=>goTo fr k) (fun body=>goTo fr (.code body:: .inLoop body::k)) (fun _=>goTo fr k) (fun _ _=>M.fail) (fun _=>M.fail) (fun _=>M.fail) (begR fr k) (fun _ _ _ _=>M.fail) (fun _ _=>M.fail) x
def skim:Nat→List Item→List Item
 |0,l=>l
 |n+1,l=>
  match l with
  | .code .skip::k=>skim n k
  | .code (.label _)::k=>skim n k
  | .inBlock _::k=>skim n k
  | .inScope _::k=>skim n k
  | .code (.seq a b)::k=>skim n (.code a:: .code b::k)
  | .code (.block id c)::k=>skim n (.code c:: .inBlock id::k)
  | .code (.loop c)::k=>skim n (.code c:: .inLoop c::k)
  | .inLoop c::k=>skim n (.code c:: .inLoop c::k)
  | .code (.scope c)::k=>skim n (.code c:: .inScope c::k)
  | .code (.exit id)::k=>(match exitTo id k with
   |some k'=>skim n k'
   |none=> .code (.exit id)::k)
  |l=>l
def Ex (E:Env)(call round:Ab)(fr:AF)(l:List Item):M Step:=
 List.rec (motive:=fun _=>M Step) (E3 fr none) (fun x k _=>Oq E call round fr k x) l
def E9 (E:Env)(call round:Ab)(dcall:Gy)(fr:AF):M Step:=
 AF.rec (motive:=fun _=>M Step) (fun fn n g tm todo mo ki ro=>
  FrameMode.rec (motive:=fun _=>M Step) (noP (Ex E call round (AF.mk fn n g tm (skim 64 todo) mo ki ro) (skim 64 todo)))
   (Dr E dcall (AF.mk fn n g tm todo mo ki ro)) (fun _=>Dr E dcall (AF.mk fn n g tm todo mo ki ro)) mo) fr
def GP (g:Nat)(ps:List Nat):List Value→T Value→T Value:=
 List.rec (motive:=fun _=>List Value→T Value→T Value) (fun _ t=>t) (fun p _ ih l t=>match l with|v::l=>ih l (putG g p v t)|[]=>t) ps
def GC (l:Nat)(args:List Value):M AF:=
 M.bind (rdC l) fun c=>match c with
 | .O (.loop _ _ f n g tm ps as bd _)=>M.chk (Nat.beq args.length ps.length&&ps.all fun p=>Nat.blt p n)
  (M.pure {fn:=f,n,glob:=g,tmps:=GP g ps args tm,todo:=[.code as, .beginRound, .code bd],mode:= .run,kind:= .normal,roundOf:=some l})
 |_=>M.fail
def within {α:Type}(c:Ctx)(m:M α):M α:=fun s=>St.rec (motive:=fun _=>R α) (fun mem next lim rd wr cx=>
 R.rec (motive:=fun _=>R α) .none (fun a s=>St.rec (motive:=fun _=>R α) (fun mem next lim rd wr _=> .some a (St.mk mem next lim rd wr cx)) s)
  (fun p s=>St.rec (motive:=fun _=>R α) (fun mem next lim rd wr _=> .pan p (St.mk mem next lim rd wr cx)) s) (m (St.mk mem next lim rd wr c))) s
def cxN:Ctx:= .cx none (some [])
def cxR:Ctx:= .cx none none
def fstV (p:Value×FrameMode):M Value:=M.pure p.1
def Ai (E:Env)(ih:AF→M (Value×FrameMode))(f:Nat)(args:List Value):M Value:=
 Option.rec (motive:=fun _=>M Value) (Option.rec (motive:=fun _=>M Value) (within cxN (M.bind (M.bind (CT E f args .normal) ih) fstV)) (fun m=>m args) (E.ext.get f)) (fun m=>m args) (E.orc.get f)
def B9 (ih:AF→M (Value×FrameMode))(l:Nat)(args:List Value):M Value:=noP (within cxR (M.bind (M.bind (GC l args) ih) fstV))
def upOf (c:Ctx):FrameMode:=match c with| .cx (some m) _=>m|_=> .run
def DR (E:Env)(ih:AF→M (Value×FrameMode))(f:Nat)(args:List Value)(m:FrameMode):M (Option (List PanicEntry)×FrameMode):=
 within (.cx (some m) (some [])) (fun s=>R.rec (motive:=fun _=>R (Option (List PanicEntry)×FrameMode)) .none (fun p s=> .some (none,p.2) s) (fun c s=> .some (some c,upOf s.cx) s) (M.bind (CT E f args .deferred) ih s))
def Fu (ih:AF→M (Value×FrameMode))(r:Step):M (Value×FrameMode):=Step.rec (motive:=fun _=>M (Value×FrameMode)) (fun fr=>ih fr) (fun v u=>M.pure (v,u)) r
def runF (E:Env)(fuel:Nat):AF→M (Value×FrameMode):=
 Nat.rec (motive:=fun _=>AF→M (Value×FrameMode)) (fun _=>M.fail) (fun _ ih fr=>M.bind (E9 E (Ai E ih) (B9 ih) (DR E ih) fr) (Fu ih)) fuel
def callF (E:Env)(fuel:Nat)(f:Nat)(args:List Value):M Value:=Ai E (runF E fuel) f args
theorem T.get_E {α:Type}(k:Nat):T.get (T.E:T α) k=none:=rfl
theorem T.get_zero {α:Type}(v:Option α)(l r:T α):T.get (T.N v l r) 0=v:=rfl
theorem ME (k:Nat):Nat.beq (Nat.mod k (nat_lit 2)) (nat_lit 0)=decide (k%2=0):=by
 show Nat.beq (k%2) 0=_
 by_cases h:k%2=0
 ·rw[h];rfl
 ·have h1:k%2=1:=by omega
  rw[h1];rfl
theorem T.get_succ {α:Type}(v:Option α)(l r:T α)(k:Nat):T.get (T.N v l r) (k+1)=if k%2=0 then T.get l (k/2)else T.get r (k/2):=by
 show Bool.rec (motive:=fun _=>Nat→Option α) (T.get r) (T.get l) (Nat.beq (Nat.mod k (nat_lit 2)) (nat_lit 0)) (Nat.div k (nat_lit 2))=_
 rw[ME]
 by_cases h:k%2=0<;>simp only[h,decide_true,decide_false,if_true,if_false]<;>rfl
theorem T.one_N {α:Type}(x:Option α): ∀(fuel k:Nat),k<fuel→ ∃v l r,T.one x fuel k=T.N v l r∧ ∀j,T.get (T.N v l r) j=if j=k then x else none
 |0,k,h=>absurd h (Nat.not_lt_zero _)
 |n+1,0,_=>⟨x, .E, .E,rfl,fun j=>by
   cases j with
   |zero=>rfl
   |succ j=>rw[T.get_succ];simp[T.get_E]⟩
 |n+1,k+1,h=>by
  obtain⟨v,l,r,e,hg⟩:=T.one_N x n (k/2) (by omega)
  have e1:T.one x (n+1) (k+1)=if k%2=0 then T.N none (T.N v l r) .E else T.N none .E (T.N v l r):=by
   show T.rec (motive:=fun _=>T α) .E (fun a b c _ _=>Bool.rec (motive:=fun _=>T α) (.N none .E (.N a b c)) (.N none (.N a b c) .E) (Nat.beq (Nat.mod k (nat_lit 2)) (nat_lit 0))) (T.one x n (Nat.div k (nat_lit 2)))=_
   rw[show T.one x n (Nat.div k (nat_lit 2))=T.N v l r from e,ME]
   by_cases h2:k%2=0<;>simp only[h2,decide_true,decide_false,if_true,if_false]
  by_cases h2:k%2=0
  ·rw[e1,if_pos h2]
   refine⟨_,_,_,rfl,fun j=> ?_⟩
   cases j with
   |zero=>rw[T.get_zero,if_neg (by omega)]
   |succ j=>
    rw[T.get_succ]
    by_cases h3:j%2=0
    ·rw[if_pos h3,hg];simp only[show(j/2=k/2)↔(j+1=k+1) by omega]
    ·rw[if_neg h3,T.get_E,if_neg (by omega)]
  ·rw[e1,if_neg h2]
   refine⟨_,_,_,rfl,fun j=> ?_⟩
   cases j with
   |zero=>rw[T.get_zero,if_neg (by omega)]
   |succ j=>
    rw[T.get_succ]
    by_cases h3:j%2=0
    ·rw[if_pos h3,T.get_E,if_neg (by omega)]
    ·rw[if_neg h3,hg];simp only[show(j/2=k/2)↔(j+1=k+1) by omega]
theorem T.setO_N {α:Type}(x:Option α): ∀(t:T α) (k:Nat),∃v l r,T.setO x t k=T.N v l r∧ ∀j,T.get (T.N v l r) j=if j=k then x else T.get t j
 | .E,k=>by
  obtain⟨v,l,r,e,hg⟩:=T.one_N x (k+1) k (by omega)
  exact⟨v,l,r,e,fun j=>by rw[hg,T.get_E]⟩
 | .N v l r,0=>⟨x,l,r,rfl,fun j=>by
   cases j with
   |zero=>rfl
   |succ j=>rw[T.get_succ,T.get_succ,if_neg (show ¬j+1=0 by omega)]⟩
 | .N v l r,k+1=>by
  obtain⟨a,b,c,e,hg⟩:=T.setO_N x l (k/2)
  obtain⟨a',b',c',e',hg'⟩:=T.setO_N x r (k/2)
  have e1:T.setO x (T.N v l r) (k+1)=if k%2=0 then T.N v (T.N a b c) r else T.N v l (T.N a' b' c'):=by
   show Bool.rec (motive:=fun _=>Nat→T α) (fun k=>T.rec (motive:=fun _=>T α) .E (fun a b c _ _=> .N v l (.N a b c)) (T.setO x r k)) (fun k=>T.rec (motive:=fun _=>T α) .E (fun a b c _ _=> .N v (.N a b c) r) (T.setO x l k)) (Nat.beq (Nat.mod k (nat_lit 2)) (nat_lit 0)) (Nat.div k (nat_lit 2))=_
   rw[ME]
   by_cases h2:k%2=0
   ·simp only[h2,decide_true,if_true]
    rw[show T.setO x l (Nat.div k (nat_lit 2))=T.N a b c from e]
   ·simp only[h2,decide_false,if_false]
    rw[show T.setO x r (Nat.div k (nat_lit 2))=T.N a' b' c' from e']
  by_cases h2:k%2=0
  ·rw[e1,if_pos h2]
   refine⟨_,_,_,rfl,fun j=> ?_⟩
   cases j with
   |zero=>rw[T.get_zero,T.get_zero,if_neg (by omega)]
   |succ j=>
    rw[T.get_succ,T.get_succ]
    by_cases h3:j%2=0
    ·rw[if_pos h3,if_pos h3,hg];simp only[show(j/2=k/2)↔(j+1=k+1) by omega]
    ·rw[if_neg h3,if_neg h3,if_neg (by omega)]
  ·rw[e1,if_neg h2]
   refine⟨_,_,_,rfl,fun j=> ?_⟩
   cases j with
   |zero=>rw[T.get_zero,T.get_zero,if_neg (by omega)]
   |succ j=>
    rw[T.get_succ,T.get_succ]
    by_cases h3:j%2=0
    ·rw[if_pos h3,if_pos h3,if_neg (by omega)]
    ·rw[if_neg h3,if_neg h3,hg'];simp only[show(j/2=k/2)↔(j+1=k+1) by omega]
theorem T.get_set {α:Type}(t:T α)(k:Nat)(x:α)(j:Nat):T.get (T.set t k x) j=if j=k then some x else T.get t j:=by
 obtain⟨v,l,r,e,hg⟩:=T.setO_N (some x) t k
 show T.get (T.setO (some x) t k) j=_
 rw[e,hg]
theorem T.get_del {α:Type}(t:T α)(k:Nat)(j:Nat):T.get (T.del t k) j=if j=k then none else T.get t j:=by
 obtain⟨v,l,r,e,hg⟩:=T.setO_N none t k
 show T.get (T.setO none t k) j=_
 rw[e,hg]
theorem T.set_N {α:Type}(t:T α)(k:Nat)(x:α): ∃v l r,T.set t k x=T.N v l r:=let ⟨v,l,r,e,_⟩:=T.setO_N (some x) t k;⟨v,l,r,e⟩
theorem AB {β:Type}(n:Nat)(K:Nat→β):fN n K=K n:=by cases n<;>rfl
theorem ES {β:Type}(n:Int)(K:Int→β):fI n K=K n:=by
 cases n with
 |ofNat m=>show fN m (fun m=>K (.ofNat m))=_;rw[AB]
 |negSucc m=>show fN m (fun m=>K (.negSucc m))=_;rw[AB]
theorem ON_ {β:Type}(s:Option Nat)(K:Option Nat→β):fS s K=K s:=by cases s<;>rfl
theorem Db {β:Type}(a:Addr)(K:Addr→β):fA a K=K a:=by
 obtain⟨b,o,s⟩:=a
 show fN b (fun b=>fN o fun o=>fS s fun s=>K ⟨b,o,s⟩)=_
 rw[AB,AB,ON_]
theorem bind_some {α β:Type}{m:M α}{f:α→M β}{s:St}{b:β}{s':St}(h:M.bind m f s= .some b s'): ∃a s1,m s= .some a s1∧f a s1= .some b s':=by
 unfold M.bind at h
 cases e:m s with
 |none=>rw[e]at h;cases h
 |some a s1=>rw[e]at h;exact⟨a,s1,rfl,h⟩
 |pan c s1=>rw[e]at h;cases h
theorem PD {α β:Type}{m:M α}{f:α→M β}{s:St}{c:List PanicEntry}{s':St}(h:M.bind m f s= .pan c s'):m s= .pan c s'∨ ∃a s1,m s= .some a s1∧f a s1= .pan c s':=by
 unfold M.bind at h
 cases e:m s with
 |none=>rw[e]at h;cases h
 |some a s1=>rw[e]at h;exact .inr ⟨a,s1,rfl,h⟩
 |pan c1 s1=>rw[e]at h;left;simpa using h
theorem Av {α:Type}{a b:α}{s s':St}(h:M.pure a s= .some b s'):a=b∧s=s':=by cases h;exact⟨rfl,rfl⟩
theorem Es {α:Type}{x:Option α}{b:α}{s s':St}(h:M.ofOpt x s= .some b s'):x=some b∧s=s':=by
 cases x with
 |none=>cases h
 |some a=>cases h;exact⟨rfl,rfl⟩
theorem Cx {α β:Type}{x:Option α}{f:α→M β}{b:β}{s s':St}(h:M.on x f s= .some b s'): ∃a,x=some a∧f a s= .some b s':=by
 cases x with
 |none=>cases h
 |some a=>exact⟨a,rfl,h⟩
theorem BP {α:Type}{b:Bool}{m:M α}{x:α}{s s':St}(h:M.chk b m s= .some x s'):b=true∧m s= .some x s':=by
 cases b with
 |false=>cases h
 |true=>exact⟨rfl,h⟩
theorem EY {α:Type}(b:Bool)(m n:M α):M.if b m n=if b then m else n:=by cases b<;>rfl
structure Tok where
 e:Nat
 b:Nat
 p:Nat
 sz:Nat
def Uf:Nat→Nat→List Nat
 |0,_=>[]
 |k+1,n=>if n=0 then []else n%16::Uf k (n/16)
def SS_ (d:Nat)(v:Value):Prop:=
 match d with
 |9=> ∃b,v= .bool b
 |10=> ∃p n c,v= .slice p n c
 |11=> ∃s,v= .string s
 |12=>oneCell v=true
 |d=> ∃k n,v= .int k n∧kNum k+1=d
def SlG (v:Value)(sh:List Nat)(w:World):Prop:=
 ∀p n c,v= .slice p n c→n=0∨ ∃b o,p=some ⟨b,o,none⟩∧b<w.heap.size∧n<4611686018427387904∧ ∀i j d,i<n→sh[j]?=some d→ ∃x,w.cell? ⟨b,o+i*sh.length+j,none⟩=some x∧SS_ d x
structure Know where
 tv:Nat→Value
def Know.no:Know:=⟨fun _=> .nilFunc⟩
def Know.sure (K:Know)(w:World):Prop:= ∀b,SlG (K.tv b) (Uf 40 (b/1024)) w
theorem Know.no_sure (w:World):Know.no.sure w:=fun b p n c e=>by cases e
structure Inj where
 blk:Nat→Option (Nat×Nat)
 ext:Nat→Option Tok
 known:Know
def Inj.nil (K:Know):Inj:=⟨fun _=>none,fun _=>none,K⟩
structure Inj.le (r r':Inj):Prop where
 one: ∀b x,r.blk b=some x→r'.blk b=some x
 two: ∀t x,r.ext t=some x→r'.ext t=some x
 three:r'.known=r.known
theorem Inj.le_refl (r:Inj):r.le r:=⟨fun _ _ h=>h,fun _ _ h=>h,rfl⟩
theorem Inj.le_trans {a b c:Inj}(h:a.le b)(k:b.le c):a.le c:=⟨fun x y e=>k.1 x y (h.1 x y e),fun x y e=>k.2 x y (h.2 x y e),k.3.trans h.3⟩
def CapR (r:Inj)(b' o c c':Nat):Prop:=
 (c/capU=0∧c'=c)∨(c/capU≠0∧ ∃k,r.ext (c/capU/1024)=some k∧k.sz=c/capU%1024∧c'=c%capU+k.e∧k.b=b'∧o+(c%capU)*k.sz=k.p)
def FnR (r:Inj):Fn→Fn→Prop
 | .yield l, .yield l'=> ∃d,r.blk l=some (l',d)
 | .func f, .func f'=>f=f'
 |_,_=>False
def TopR (K:Know):Nat→Nat→Value→Prop
 |0,_,v=>oneCell v=true
 |1,b,v=> ∃k n,v= .int k n∧kNum k=b
 |2,_,v=> ∃b,v= .bool b
 |3,_,v=> ∃p n c,v= .slice p n c
 |4,_,v=> ∃s,v= .string s
 |5,b,v=>v=K.tv b∧ ∃p n c,v= .slice p n c
 |_,_,_=>False
theorem TopR.one {K:Know}{t b:Nat}{v:Value}(h:TopR K t b v):oneCell v=true:=by
 match t,h with
 |0,h=>exact h
 |1,⟨k,n,e,_⟩=>subst e;rfl
 |2,⟨b,e⟩=>subst e;rfl
 |3,⟨p,n,c,e⟩=>subst e;rfl
 |4,⟨s,e⟩=>subst e;rfl
 |5,⟨_,p,n,c,e⟩=>subst e;rfl
 |_+6,h=>exact h.elim
inductive VR (r:Inj):Value→Value→Prop
 |bool (b:Bool):VR r (.bool b) (.bool b)
 |int (k:IntKind) (n:Int):VR r (.int k n) (.int k n)
 |float (k:FloatKind) (n:Nat):VR r (.float k n) (.float k n)
 |complex {k:FloatKind} {a b:Nat} {v':Value}:TopR r.known a b v'→VR r (.complex k a b) v'
 |string (s:ByteArray):VR r (.string s) (.string s)
 |ptrNil:VR r (.pointer none) (.pointer none)
 |ptr {b o b' d:Nat}:r.blk b=some (b',d)→VR r (.pointer (some ⟨b,o,none⟩)) (.pointer (some ⟨b',o+d,none⟩))
 |slNil:VR r (.slice none 0 0) (.slice none 0 0)
 |sl {b o b' d l c c':Nat}:r.blk b=some (b',d)→CapR r b' (o+d) c c'→l≤c%capU→VR r (.slice (some ⟨b,o,none⟩) l c) (.slice (some ⟨b',o+d,none⟩) l c')
 |slEnd {a a':Addr} {c c':Nat}:c/capU≠0→c%capU=0→VR r (.slice (some a) 0 c) (.slice (some a') 0 c')
 |mapNil:VR r (.map none) (.map none)
 |map {m m' d:Nat}:r.blk m=some (m',d)→VR r (.map (some m)) (.map (some m'))
 |chanNil:VR r (.chan none) (.chan none)
 |iter {b b':Nat}:r.blk b=some (b',0)→VR r (.chan (some b)) (.pointer (some ⟨b',0,none⟩))
 |func {f f':Fn} {a a' c c':Array Value}:FnR r f f'→a.size=a'.size→(∀(i:Nat) v v',a[i]?=some v→a'[i]?=some v'→VR r v v')→
  c.size=c'.size→(∀(i:Nat) v v',c[i]?=some v→c'[i]?=some v'→VR r v v')→VR r (.func f a c) (.func f' a' c')
 |nilFunc:VR r .nilFunc .nilFunc
 |iface {t:TypeId} {v v':Value}:VR r v v'→VR r (.iface t v) (.iface t v')
 |nilIface:VR r .nilIface .nilIface
 |agg {c c':Array Value}:c.size=c'.size→(∀(i:Nat) v v',c[i]?=some v→c'[i]?=some v'→VR r v v')→VR r (.agg c) (.agg c')
 |tuple {c c':Array Value}:c.size=c'.size→(∀(i:Nat) v v',c[i]?=some v→c'[i]?=some v'→VR r v v')→VR r (.tuple c) (.tuple c')
theorem CapR.mono {r r':Inj}(h:r.le r'){b o c c':Nat}(k:CapR r b o c c'):CapR r' b o c c':=by
 rcases k with k|⟨h1,k,h2,h3⟩
 ·exact .inl k
 ·exact .inr ⟨h1,k,h.2 _ _ h2,h3⟩
theorem FnR.mono {r r':Inj}(h:r.le r'){f f':Fn}(k:FnR r f f'):FnR r' f f':=by
 cases f<;>cases f'<;>simp only[FnR]at k ⊢
 ·exact k
 ·obtain⟨d,k⟩:=k
  exact⟨d,h.1 _ _ k⟩
theorem VR.mono {r r':Inj}(h:r.le r'){v v':Value}(k:VR r v v'):VR r' v v':=by
 induction k with
 |bool b=>exact .bool b
 |int k n=>exact .int k n
 |float k n=>exact .float k n
 |complex e=>exact .complex (by rw[h.3];exact e)
 |string s=>exact .string s
 |ptrNil=>exact .ptrNil
 |ptr e=>exact .ptr (h.1 _ _ e)
 |slNil=>exact .slNil
 |sl e c l=>exact .sl (h.1 _ _ e) (c.mono h) l
 |slEnd a b=>exact .slEnd a b
 |mapNil=>exact .mapNil
 |map e=>exact .map (h.1 _ _ e)
 |chanNil=>exact .chanNil
 |iter e=>exact .iter (h.1 _ _ e)
 |func f a _ c _ i1 i2=>exact .func (f.mono h) a i1 c i2
 |nilFunc=>exact .nilFunc
 |iface _ i=>exact .iface i
 |nilIface=>exact .nilIface
 |agg a _ i=>exact .agg a i
 |tuple a _ i=>exact .tuple a i
def VRs (r:Inj)(l l':List Value):Prop:=l.length=l'.length∧ ∀(i:Nat) v v',l[i]?=some v→l'[i]?=some v'→VR r v v'
theorem VRs.nil {r:Inj}:VRs r [] []:=⟨rfl,fun i v v' h=>by simp at h⟩
theorem VRs.cons {r:Inj}{v v':Value}{l l':List Value}(h:VR r v v')(k:VRs r l l'):VRs r (v::l) (v'::l'):=
 ⟨by simp[k.1],fun i a a' e e'=>by
  cases i with
  |zero=>simp at e e';subst e;subst e';exact h
  |succ i=>simp at e e';exact k.2 i a a' e e'⟩
theorem VRs.inv {r:Inj}{v:Value}{l m:List Value}(h:VRs r (v::l) m): ∃v' l',m=v'::l'∧VR r v v'∧VRs r l l':=by
 cases m with
 |nil=>have:=h.1;simp at this
 |cons v' l'=>exact⟨v',l',rfl,h.2 0 v v' rfl rfl,by simpa using h.1,fun i a a' e e'=>h.2 (i+1) a a' (by simpa using e) (by simpa using e')⟩
theorem VRs.inv_nil {r:Inj}{m:List Value}(h:VRs r [] m):m=[]:=List.eq_nil_of_length_eq_zero h.1.symm
theorem VRs.mono {r r':Inj}(h:r.le r'){l l':List Value}(k:VRs r l l'):VRs r' l l':=⟨k.1,fun i v v' e e'=>(k.2 i v v' e e').mono h⟩
theorem VRs.append {r:Inj}{a a' b b':List Value}(h:VRs r a a')(k:VRs r b b'):VRs r (a++b) (a'++b'):=
 ⟨by simp[h.1,k.1],fun i v v' e e'=>by
  by_cases hi:i<a.length
  ·rw[List.getElem?_append_left hi]at e
   rw[List.getElem?_append_left (by rw[←h.1];exact hi)]at e'
   exact h.2 i v v' e e'
  ·rw[List.getElem?_append_right (by omega)]at e
   rw[List.getElem?_append_right (by rw[←h.1];omega),←h.1]at e'
   exact k.2 _ v v' e e'⟩
theorem VRs.take {r:Inj}{a a':List Value}(h:VRs r a a')(n:Nat):VRs r (a.take n) (a'.take n):=
 ⟨by simp[h.1],fun i v v' e e'=>by
  rw[List.getElem?_take]at e e'
  by_cases hi:i<n
  ·rw[if_pos hi]at e e'
   exact h.2 i v v' e e'
  ·rw[if_neg hi]at e
   cases e⟩
theorem VRs.drop {r:Inj}{a a':List Value}(h:VRs r a a')(n:Nat):VRs r (a.drop n) (a'.drop n):=
 ⟨by simp[h.1],fun i v v' e e'=>by
  rw[List.getElem?_drop]at e e'
  exact h.2 _ v v' e e'⟩
theorem VRs.get {r:Inj}{a a':List Value}(h:VRs r a a'){i:Nat}{v:Value}(e:a[i]?=some v): ∃v',a'[i]?=some v'∧VR r v v':=by
 have hi:i<a.length:=(List.getElem?_eq_some_iff.1 e).1
 have hi':i<a'.length:=by rw[←h.1];exact hi
 exact⟨a'[i],List.getElem?_eq_getElem hi',h.2 i v _ e (List.getElem?_eq_getElem hi')⟩
theorem VRs.ofArr {r:Inj}{c c':Array Value}(h:c.size=c'.size)(k: ∀(i:Nat) v v',c[i]?=some v→c'[i]?=some v'→VR r v v'):VRs r c.toList c'.toList:=
 ⟨by simpa using h,fun i v v' e e'=>k i v v' (by simpa using e) (by simpa using e')⟩
theorem VRs.agg {r:Inj}{l l':List Value}(h:VRs r l l'):VR r (.agg l.toArray) (.agg l'.toArray):= .agg (by simpa using h.1) fun i v v' e e'=>h.2 i v v' (by simpa using e) (by simpa using e')
theorem VRs.tuple {r:Inj}{l l':List Value}(h:VRs r l l'):VR r (.tuple l.toArray) (.tuple l'.toArray):= .tuple (by simpa using h.1) fun i v v' e e'=>h.2 i v v' (by simpa using e) (by simpa using e')
theorem VR.undef {r:Inj}:VR r undef undef:= .tuple rfl (fun i v v' e=>by simp at e)
theorem Jq {n:Nat}{c:Array Value}(h:c.toList.all (BF n)=true): ∀x∈c,BF n x=true:=fun x hx=>List.all_eq_true.1 h x (by simpa using hx)
theorem VR.ofPlain {r:Inj}: ∀(n:Nat) (v:Value),BF n v=true→VR r v v
 |_, .bool b,_=> .bool b
 |_, .int k n,_=> .int k n
 |_, .float k n,_=> .float k n
 |n, .complex k a b,h=>by cases n<;>simp[BF]at h
 |_, .string s,_=> .string s
 |_, .pointer none,_=> .ptrNil
 |n, .pointer (some a),h=>by cases n<;>simp[BF]at h
 |n, .slice a l c,h=>by
  cases a with
  |some a=>cases n<;>simp[BF]at h
  |none=>
   have:l=0∧c=0:=by
    cases l<;>cases c<;>cases n<;>simp[BF]at h ⊢
   obtain⟨rfl,rfl⟩:=this
   exact .slNil
 |_, .map none,_=> .mapNil
 |n, .map (some a),h=>by cases n<;>simp[BF]at h
 |_, .chan none,_=> .chanNil
 |n, .chan (some a),h=>by cases n<;>simp[BF]at h
 |n, .func f a c,h=>by
  have:(∃g,f= .func g)∧a= #[]∧c= #[]:=by
   cases f<;>cases n<;>simp[BF]at h ⊢ <;>exact h
  obtain⟨⟨g,rfl⟩,rfl,rfl⟩:=this
  exact .func rfl rfl (fun i v v' e=>by simp at e) rfl (fun i v v' e=>by simp at e)
 |_, .nilFunc,_=> .nilFunc
 |n+1, .iface t v,h=> .iface (VR.ofPlain n v (by simpa [BF]using h))
 |0, .iface t v,h=>by simp[BF]at h
 |_, .nilIface,_=> .nilIface
 |n+1, .agg c,h=> .agg rfl fun i v v' e e'=>by
  have h1: ∀x∈c,BF n x=true:=Jq h
  rw[e]at e'
  cases e'
  exact VR.ofPlain n v (h1 v (Array.mem_of_getElem? e))
 |0, .agg c,h=>by simp[BF]at h
 |n+1, .tuple c,h=> .tuple rfl fun i v v' e e'=>by
  have h1: ∀x∈c,BF n x=true:=Jq h
  rw[e]at e'
  cases e'
  exact VR.ofPlain n v (h1 v (Array.mem_of_getElem? e))
 |0, .tuple c,h=>by simp[BF]at h
theorem DO_ {_r:Inj}{c c':Array Value}(h:c.size=c'.size)(k: ∀(i:Nat) v v',c[i]?=some v→c'[i]?=some v'→v'=v):c'=c:=by
 apply Array.ext h.symm
 intro i h1 h2
 exact k i _ _ (Array.getElem?_eq_getElem h2) (Array.getElem?_eq_getElem h1)
theorem VR.plain_eq {r:Inj}{v v':Value}(h:VR r v v'): ∀n,BF n v=true→v'=v:=by
 induction h with
 |complex e=>intro n h;cases n<;>simp[BF]at h
 |bool|int|float|string|ptrNil|slNil|mapNil|chanNil|nilFunc|nilIface=>exact fun _ _=>rfl
 |ptr e=>intro n h;cases n<;>simp[BF]at h
 |sl e c l=>intro n h;cases n<;>simp[BF]at h
 |slEnd=>intro n h;cases n<;>simp[BF]at h
 |iter e=>intro n h;cases n<;>simp[BF]at h
 |map e=>intro n h;cases n<;>simp[BF]at h
 | @func f f' a a' c c' hf h1 _ h2 _ _ _=>
  intro n h
  have:(∃g,f= .func g)∧a= #[]∧c= #[]:=by
   cases f<;>cases n<;>simp[BF]at h ⊢ <;>exact h
  obtain⟨⟨g,rfl⟩,rfl,rfl⟩:=this
  cases f'<;>simp[FnR]at hf
  subst hf
  have e1:a'= #[]:=by simpa using h1.symm
  have e2:c'= #[]:=by simpa using h2.symm
  rw[e1,e2]
 |iface _ ih=>
  intro n h
  cases n with
  |zero=>simp[BF]at h
  |succ n=>rw[ih n (by simpa [BF]using h)]
 | @agg c c' hs _ ih=>
  intro n h
  cases n with
  |zero=>simp[BF]at h
  |succ n=>
   have h1: ∀x∈c,BF n x=true:=Jq h
   rw[DO_ (_r:=r) hs fun i v v' e e'=>ih i v v' e e' n (h1 v (Array.mem_of_getElem? e))]
 | @tuple c c' hs _ ih=>
  intro n h
  cases n with
  |zero=>simp[BF]at h
  |succ n=>
   have h1: ∀x∈c,BF n x=true:=Jq h
   rw[DO_ (_r:=r) hs fun i v v' e e'=>ih i v v' e e' n (h1 v (Array.mem_of_getElem? e))]
theorem VR.of_plain {r:Inj}{v:Value}(h:plain v=true):VR r v v:=VR.ofPlain 4 v h
theorem VR.eq_of_plain {r:Inj}{v v':Value}(k:VR r v v')(h:plain v=true):v'=v:=k.plain_eq 4 h
open Go.RowKit
def EsR (r:Inj)(es es':List MapEntry):Prop:=es.length=es'.length∧ ∀(i:Nat) (e e':MapEntry),es[i]?=some e→es'[i]?=some e'→plain e.key=true∧e'.key=e.key∧e'.born=e.born∧VR r e.val e'.val
theorem EsR.mono {r r':Inj}(h:r.le r'){es es':List MapEntry}(k:EsR r es es'):EsR r' es es':=⟨k.1,fun i e e' a b=>let ⟨p,q,s,t⟩:=k.2 i e e' a b;⟨p,q,s,t.mono h⟩⟩
def OR (r:Inj):AObj→Obj→Prop
 | .loop st pe f n g tm ps as bd df, .loop l=>l.state=st∧l.pending=pe∧l.fn=f∧l.tmps.size=n∧(∀t v,T.get tm t=some v→Nat.testBit g t=true∧ ∃v',l.tmps[t]?=some v'∧VR r v v')∧
  l.params.toList=ps∧l.assign=as∧l.body=bd∧ ∃d,r.blk df=some (l.defers,d)
 | .deferred (some []), .deferred (some [])=>True
 | .deferred none, .deferred none=>True
 | .map es c, .map es' c'=>c'=c∧EsR r es es'.toList
 | .sit s p, .stringIter s' p'=>s'=s∧p'=p
 |_,_=>False
theorem OR.mono {r r':Inj}(h:r.le r'){o:AObj}{o':Obj}(k:OR r o o'):OR r' o o':=by
 unfold OR at *
 split at k
 ·obtain⟨h1,h2,h3,h4,h5,h6,h7,h8,d,h9⟩:=k
  exact⟨h1,h2,h3,h4,fun t v e=>let ⟨q,v',a,b⟩:=h5 t v e;⟨q,v',a,b.mono h⟩,h6,h7,h8,d,h.1 _ _ h9⟩
 ·trivial
 ·trivial
 ·exact⟨k.1,k.2.mono h⟩
 ·exact k
 ·exact k.elim
def AObj.isTok:AObj→Bool
 | .tok .. =>true
 | .old .. =>true
 |_=>false
theorem OR.cells {r:Inj}{o:AObj}{c:Array Value}{t:TypeId}{f:Nat×Nat}(k:OR r o (.cells c t f)):False:=by
 unfold OR at k
 split at k<;>first|exact k|(rename_i h;cases h)
def SzW (w:World)(k n:Nat):Prop:= ∃c e lo hi,w.heap[k]?=some (.cells c e (lo,hi))∧c.size=n∧lo≤hi
theorem SzW.heap {w w':World}{k n:Nat}(q:SzW w k n)(h:w'.heap[k]?=w.heap[k]?):SzW w' k n:=by
 obtain⟨c,e,lo,hi,h1,h2⟩:=q
 exact⟨c,e,lo,hi,by rw[h,h1],h2⟩
theorem SzW.setCell {w:World}{k n:Nat}(q:SzW w k n)(a:Addr)(v:Value):SzW (w.setCell a v) k n:=by
 by_cases hk:k=a.block
 ·obtain⟨c,e,lo,hi,h1,h2,h3⟩:=q
  refine⟨if a.spot.isSome then c else c.setIfInBounds a.off v,e,lo,hi, ?_, ?_,h3⟩
  ·subst hk
   unfold World.setCell
   simp only[Array.getElem?_modify,if_true,h1]
   rfl
  ·split
   ·exact h2
   ·rw[Array.size_setIfInBounds];exact h2
 ·exact q.heap (Below.heap_setCell w a v k hk)
def SzB (r:Inj)(w:World)(b n:Nat):Prop:= ∃b',r.blk b=some (b',0)∧SzW w b' n
theorem SzB.to {r r':Inj}{w w':World}{b n:Nat}(h:SzB r w b n)(hle:r.le r')(hs: ∀b',r.blk b=some (b',0)→SzW w b' n→SzW w' b' n):SzB r' w' b n:=by
 obtain⟨b',h1,h2⟩:=h
 exact⟨b',hle.1 _ _ h1,hs _ h1 h2⟩
structure OldR (w0:World)(r:Inj)(mem:T Cell):Prop where
 old: ∀loc b v,T.get mem loc=some (.O (.old b v))→ ∃b' d v',b≤loc∧r.blk b=some (b',d)∧w0.cell? ⟨b',loc-b+d,none⟩=some v'∧VR r v v'
 newC: ∀loc b v b' d,T.get mem loc=some (.C b v)→r.blk b=some (b',d)→w0.heap.size≤b'
 newO: ∀loc o b' d,T.get mem loc=some (.O o)→o.isTok=false→r.blk loc=some (b',d)→w0.heap.size≤b'
 newS: ∀l n b' d,T.get mem l=some (.O (.tok true (1024+n)))→r.blk (l-n)=some (b',d)→w0.heap.size≤b'
theorem OldR.less {w0:World}{r:Inj}{mem mem':T Cell}(h:OldR w0 r mem)(hm: ∀loc c,T.get mem' loc=some c→T.get mem loc=some c):OldR w0 r mem':=
 ⟨fun l b v e=>h.old l b v (hm _ _ e),fun l b v b' d e=>h.newC l b v b' d (hm _ _ e),fun l o b' d e=>h.newO l o b' d (hm _ _ e),fun l n b' d e=>h.newS l n b' d (hm _ _ e)⟩
structure Rel (w0:World)(r:Inj)(mem:T Cell)(w:World):Prop where
 below:Below w0.heap.size w0 w
 dom: ∀b b' d,r.blk b=some (b',d)→w0.heap.size≤w.heap.size∧b'<w.heap.size
 cell: ∀loc b v,T.get mem loc=some (.C b v)→ ∃b' d v',b≤loc∧r.blk b=some (b',d)∧w.cell? ⟨b',loc-b+d,none⟩=some v'∧VR r v v'∧w.frozen? ⟨b',loc-b+d,none⟩=false
 sep: ∀l1 l2 b1 v1 b2 v2 b' d1 d2,T.get mem l1=some (.C b1 v1)→T.get mem l2=some (.C b2 v2)→r.blk b1=some (b',d1)→r.blk b2=some (b',d2)→l1-b1+d1=l2-b2+d2→l1=l2
 obj: ∀loc o,T.get mem loc=some (.O o)→o.isTok=false→ ∃b' d o',r.blk loc=some (b',d)∧w.heap[b']?=some o'∧OR r o o'
 sepO: ∀l1 l2 o1 o2 b' d1 d2,T.get mem l1=some (.O o1)→T.get mem l2=some (.O o2)→o1.isTok=false→o2.isTok=false→r.blk l1=some (b',d1)→r.blk l2=some (b',d2)→l1=l2
 tok: ∀t sz,T.get mem t=some (.O (.tok false sz))→ ∃k,r.ext t=some k∧k.sz=sz%1024∧w0.heap.size≤k.b∧k.b<w.heap.size∧
  (∀j,j<k.e*k.sz→ ∃v',w.cell? ⟨k.b,k.p+j,none⟩=some v'∧w.frozen? ⟨k.b,k.p+j,none⟩=false∧(1024≤sz→(∃m,v'= .int .u8 m)∧k.p+k.e*k.sz≤9223372036854775807))∧
  (∀loc b v d,T.get mem loc=some (.C b v)→r.blk b=some (k.b,d)→loc-b+d<k.p)
 sepT: ∀t1 t2 s1 s2 k1 k2,T.get mem t1=some (.O (.tok false s1))→T.get mem t2=some (.O (.tok false s2))→r.ext t1=some k1→r.ext t2=some k2→k1.b=k2.b→t1=t2
 known:r.known.sure w0
 szs: ∀l n,T.get mem l=some (.O (.tok true (1024+n)))→n≤l∧SzB r w (l-n) n
 olds:OldR w0 r mem
section
variable {w0 w:World}{r:Inj}{mem:T Cell}
theorem Rel.oldsTo (h:Rel w0 r mem w){r':Inj}(hle:r.le r'){mem':T Cell}(hm: ∀loc c,T.get mem' loc=some c→T.get mem loc=some c∨(∃b v b' d,c= .C b v∧r'.blk b=some (b',d)∧w0.heap.size≤b')∨
  (∃u z,c= .O (.tok u z)∧ ∀n,u=true→z=1024+n→ ∀b' d,r'.blk (loc-n)=some (b',d)→w0.heap.size≤b')∨(∃o b' d,c= .O o∧o.isTok=false∧r'.blk loc=some (b',d)∧w0.heap.size≤b')):OldR w0 r' mem' where
 old:=fun loc b v e=>by
  rcases hm _ _ e with e|⟨_,_,_,_,e,_⟩|⟨_,_,e,_⟩|⟨o,_,_,e,ht,_⟩
  ·obtain⟨b',d,v',h1,h2,h3,h4⟩:=h.olds.old _ _ _ e
   exact⟨b',d,v',h1,hle.1 _ _ h2,h3,h4.mono hle⟩
  ·cases e
  ·cases e
  ·cases e;cases ht
 newC:=fun loc b v b' d e q=>by
  rcases hm _ _ e with e|⟨_,_,_,_,e,h1,h2⟩|⟨_,_,e,_⟩|⟨o,_,_,e,ht,_⟩
  ·obtain⟨b2,d2,_,_,g,_⟩:=h.cell _ _ _ e
   rw[hle.1 _ _ g]at q
   cases q
   exact h.olds.newC _ _ _ _ _ e g
  ·cases e
   rw[h1]at q
   cases q
   exact h2
  ·cases e
  ·cases e
 newO:=fun loc o b' d e ht q=>by
  rcases hm _ _ e with e|⟨_,_,_,_,e,_⟩|⟨_,_,e,_⟩|⟨o,_,_,e,_,h1,h2⟩
  ·obtain⟨b2,d2,_,g,_⟩:=h.obj _ _ e ht
   rw[hle.1 _ _ g]at q
   cases q
   exact h.olds.newO _ _ _ _ e ht g
  ·cases e
  ·cases e;cases ht
  ·rw[h1]at q
   cases q
   exact h2
 newS:=fun l n b' d e q=>by
  rcases hm _ _ e with e|⟨_,_,_,_,e,_⟩|⟨_,_,e,h1⟩|⟨o,_,_,e,ht,_⟩
  ·obtain⟨_,b2,g,_⟩:=h.szs _ _ e
   rw[hle.1 _ _ g]at q
   cases q
   exact h.olds.newS _ _ _ _ e g
  ·cases e
  ·cases e
   exact h1 n rfl rfl _ _ q
  ·cases e;cases ht
theorem Rel.oldLt (h:Rel w0 r mem w){loc b b' d:Nat}{v:Value}(hc:T.get mem loc=some (.O (.old b v)))(hb:r.blk b=some (b',d)):b'<w0.heap.size:=by
 obtain⟨b1,d1,v',_,h2,h3,_⟩:=h.olds.old _ _ _ hc
 rw[hb]at h2
 cases h2
 exact World.block_lt_of_cell? w0 _ h3
theorem Rel.loadOld (h:Rel w0 r mem w){b o b' d:Nat}{v:Value}(hc:T.get mem (b+o)=some (.O (.old b v)))(hb:r.blk b=some (b',d)): ∃v',w.cell? ⟨b',o+d,none⟩=some v'∧VR r v v':=by
 obtain⟨b1,d1,v',_,h2,h3,h4⟩:=h.olds.old _ _ _ hc
 rw[hb]at h2
 cases h2
 rw[Nat.add_sub_cancel_left]at h3
 exact⟨v',(h.below.cell (p:=⟨b',o+d,none⟩) (World.block_lt_of_cell? w0 _ h3)).trans h3,h4⟩
theorem Rel.load (h:Rel w0 r mem w){b o b' d:Nat}{v:Value}(hc:T.get mem (b+o)=some (.C b v))(hb:r.blk b=some (b',d)):
  ∃v',w.cell? ⟨b',o+d,none⟩=some v'∧VR r v v'∧w.frozen? ⟨b',o+d,none⟩=false:=by
 obtain⟨b1,d1,v',_,h2,h3,h4,h5⟩:=h.cell _ _ _ hc
 rw[hb]at h2
 cases h2
 rw[Nat.add_sub_cancel_left]at h3 h5
 exact⟨v',h3,h4,h5⟩
theorem V8 {w:World}{a:Addr}{v:Value}{k:Nat}(h:k≠a.block):(w.setCell a v).heap[k]?=w.heap[k]?:=Below.heap_setCell w a v k h
theorem Rel.store (h:Rel w0 r mem w){b o b' d:Nat}{v u u':Value}(hc:T.get mem (b+o)=some (.C b v))(hb:r.blk b=some (b',d))(hu:VR r u u'):
  Rel w0 r (T.set mem (b+o) (.C b u)) (w.setCell ⟨b',o+d,none⟩ u'):=by
 obtain⟨v',h3,h4,h5⟩:=h.load hc hb
 have old: ∀loc c,T.get (T.set mem (b+o) (.C b u)) loc=some c→(loc=b+o∧c= .C b u)∨(loc≠b+o∧T.get mem loc=some c):=by
  intro loc c e
  rw[T.get_set]at e
  split at e
  ·cases e;exact .inl ⟨by assumption,rfl⟩
  ·exact .inr ⟨by assumption,e⟩
 have kind: ∀loc c,T.get (T.set mem (b+o) (.C b u)) loc=some (.O c)→T.get mem loc=some (.O c):=by
  intro loc c e
  rcases old _ _ e with⟨_,e⟩|⟨_,e⟩
  ·cases e
  ·exact e
 have cellOf: ∀loc b1 v1,T.get (T.set mem (b+o) (.C b u)) loc=some (.C b1 v1)→ ∃v2,T.get mem loc=some (.C b1 v2):=by
  intro loc b1 v1 e
  rcases old _ _ e with⟨e1,e2⟩|⟨_,e⟩
  ·cases e2;exact⟨v,by rw[e1];exact hc⟩
  ·exact⟨_,e⟩
 have hnew:=h.olds.newC _ _ _ _ _ hc hb
 refine⟨h.below.setCell hnew _,fun x y z e=>by rw[World.size_setCell];exact h.dom x y z e, ?_, ?_, ?_, ?_, ?_, ?_,h.known,fun l n e=>let ⟨p,q⟩:=h.szs l n (kind _ _ e);⟨p,q.to (Inj.le_refl r) fun b' _ q2=>q2.setCell _ _⟩,
  h.oldsTo (Inj.le_refl r) fun loc c e=>by
   rcases old _ _ e with⟨_,e⟩|⟨_,e⟩
   ·exact .inr (.inl ⟨_,_,_,_,e,hb,hnew⟩)
   ·exact .inl e⟩
 ·intro loc b1 v1 e
  rcases old _ _ e with⟨e1,e2⟩|⟨hne,e⟩
  ·cases e2
   subst e1
   refine⟨b',d,u',Nat.le_add_right _ _,hb, ?_,hu, ?_⟩
   ·rw[Nat.add_sub_cancel_left];exact World.cell?_setCell_same _ _ _ h3
   ·rw[World.frozen?_setCell,Nat.add_sub_cancel_left];exact h5
  ·obtain⟨b2,d2,v2,g1,g2,g3,g4,g5⟩:=h.cell _ _ _ e
   refine⟨b2,d2,v2,g1,g2, ?_,g4,by rw[World.frozen?_setCell];exact g5⟩
   rw[World.cell?_setCell_other w]
   ·exact g3
   ·intro heq
    simp only[Addr.mk.injEq,and_true]at heq
    obtain⟨q1,q2⟩:=heq
    subst q1
    exact hne (h.sep _ _ _ _ _ _ _ _ _ e hc g2 hb (by rw[Nat.add_sub_cancel_left];exact q2.symm))
 ·intro l1 l2 b1 v1 b2 v2 bb d1 d2 e1 e2 r1 r2 hh
  obtain⟨x1,e1⟩:=cellOf _ _ _ e1
  obtain⟨x2,e2⟩:=cellOf _ _ _ e2
  exact h.sep _ _ _ _ _ _ _ _ _ e1 e2 r1 r2 hh
 ·intro loc ob e ht
  obtain⟨b2,d2,o',g1,g2,g3⟩:=h.obj _ _ (kind _ _ e) ht
  refine⟨b2,d2,o',g1, ?_,g3⟩
  rw[V8]
  ·exact g2
  ·intro heq
   have heq':b2=b':=heq
   subst heq'
   cases o' with
   |cells c t f=>exact g3.cells
   |_=>simp[World.cell?,g2]at h3
 ·intro l1 l2 o1 o2 bb d1 d2 e1 e2 t1 t2 r1 r2
  exact h.sepO _ _ _ _ _ _ _ (kind _ _ e1) (kind _ _ e2) t1 t2 r1 r2
 ·intro t sz e
  obtain⟨k,g1,g2,g3,g4,g5,g6⟩:=h.tok _ _ (kind _ _ e)
  refine⟨k,g1,g2,g3,by rw[World.size_setCell];exact g4, ?_, ?_⟩
  ·intro j hj
   obtain⟨x,q1,q2⟩:=g5 j hj
   refine⟨x, ?_,by rw[World.frozen?_setCell];exact q2⟩
   rw[World.cell?_setCell_other w]
   ·exact q1
   ·intro heq
    simp only[Addr.mk.injEq,and_true]at heq
    obtain⟨p1,p2⟩:=heq
    subst p1
    have:=g6 _ _ _ _ hc hb
    rw[Nat.add_sub_cancel_left]at this
    omega
  ·intro loc b1 v1 d1 e1 r1
   obtain⟨x,e1⟩:=cellOf _ _ _ e1
   exact g6 _ _ _ _ e1 r1
 ·intro t1 t2 s1 s2 k1 k2 e1 e2 r1 r2 hh
  exact h.sepT _ _ _ _ _ _ (kind _ _ e1) (kind _ _ e2) r1 r2 hh
theorem Rel.less (h:Rel w0 r mem w){mem':T Cell}(hm: ∀loc c,T.get mem' loc=some c→T.get mem loc=some c):Rel w0 r mem' w:=
 ⟨h.below,h.dom,fun l b v e=>h.cell l b v (hm _ _ e),fun l1 l2 b1 v1 b2 v2 b' d1 d2 e1 e2=>h.sep l1 l2 b1 v1 b2 v2 b' d1 d2 (hm _ _ e1) (hm _ _ e2),fun l o e=>h.obj l o (hm _ _ e),
  fun l1 l2 o1 o2 b' d1 d2 e1 e2=>h.sepO l1 l2 o1 o2 b' d1 d2 (hm _ _ e1) (hm _ _ e2),
  fun t sz e=>let ⟨k,g1,g2,g3,g4,g5,g6⟩:=h.tok t sz (hm _ _ e);⟨k,g1,g2,g3,g4,g5,fun l b v d e1=>g6 l b v d (hm _ _ e1)⟩,
  fun t1 t2 s1 s2 k1 k2 e1 e2=>h.sepT t1 t2 s1 s2 k1 k2 (hm _ _ e1) (hm _ _ e2),h.known,fun l n e=>h.szs l n (hm _ _ e),h.olds.less hm⟩
theorem Rel.del (h:Rel w0 r mem w)(k:Nat):Rel w0 r (T.del mem k) w:=h.less fun loc c e=>by
 rw[T.get_del]at e
 split at e
 ·cases e
 ·exact e
theorem Rel.drew (h:Rel w0 r mem w):Rel w0 r mem w.drew:=
 ⟨h.below.drew,h.dom,h.cell,h.sep,h.obj,h.sepO,h.tok,h.sepT,h.known,fun l n e=>let ⟨p,q⟩:=h.szs l n e;⟨p,q.to (Inj.le_refl r) fun _b' _ q2=>q2⟩,h.olds⟩
theorem Rel.beyond (h:Rel w0 r mem w){w':World}(hb:Below w.heap.size w w'):Rel w0 r mem w':=by
 have hsz:=hb.size
 have cellK: ∀b o,b<w.heap.size→w'.cell? ⟨b,o,none⟩=w.cell? ⟨b,o,none⟩:=fun b o k=>hb.cell (p:=⟨b,o,none⟩) k
 have frK: ∀b o,b<w.heap.size→w'.frozen? ⟨b,o,none⟩=w.frozen? ⟨b,o,none⟩:=fun b o k=>hb.frozen (p:=⟨b,o,none⟩) k
 refine⟨h.below.trans (hb.mono h.below.size),fun x y z e=>⟨Nat.le_trans (h.dom x y z e).1 hsz,Nat.lt_of_lt_of_le (h.dom x y z e).2 hsz⟩, ?_,h.sep, ?_,h.sepO, ?_,h.sepT,h.known,fun l n e=>let ⟨p,q⟩:=h.szs l n e;⟨p,q.to (Inj.le_refl r) fun b' q1 q2=>q2.heap (hb.block b' (h.dom _ _ _ q1).2)⟩,h.olds⟩
 ·intro loc b v e
  obtain⟨b2,d2,v2,g1,g2,g3,g4,g5⟩:=h.cell _ _ _ e
  have:=(h.dom _ _ _ g2).2
  exact⟨b2,d2,v2,g1,g2,by rw[cellK _ _ this];exact g3,g4,by rw[frK _ _ this];exact g5⟩
 ·intro loc o e ht
  obtain⟨b2,d2,o',g1,g2,g3⟩:=h.obj _ _ e ht
  exact⟨b2,d2,o',g1,by rw[hb.block b2 (h.dom _ _ _ g1).2];exact g2,g3⟩
 ·intro t sz e
  obtain⟨k,g1,g2,g3,g4,g5,g6⟩:=h.tok _ _ e
  exact⟨k,g1,g2,g3,Nat.lt_of_lt_of_le g4 hsz,fun j hj=>by rw[cellK _ _ g4,frK _ _ g4];exact g5 j hj,g6⟩
theorem GJ_ (w:World)(c:Array Value)(e:TypeId)(i:Nat):(w.alloc (.cells c e)).cell? ⟨w.heap.size,i,none⟩=c[i]?:=World.cell?_alloc_at c e w.heap.size i rfl
theorem Sj (w:World)(c:Array Value)(e:TypeId)(i:Nat):(w.alloc (.cells c e)).frozen? ⟨w.heap.size,i,none⟩=false:=World.frozen?_alloc_at c e w.heap.size i rfl
def Inj.add (r:Inj)(b:Nat)(x:Nat×Nat):Inj:=⟨fun y=>if y=b then some x else r.blk y,r.ext,r.known⟩
theorem Inj.add_le {r:Inj}{b:Nat}(x:Nat×Nat)(h:r.blk b=none):r.le (r.add b x):=
 ⟨fun y z e=>by
  show(if y=b then some x else r.blk y)=some z
  by_cases hy:y=b
  ·rw[hy,h]at e;cases e
  ·rw[if_neg hy];exact e,fun _ _ e=>e,rfl⟩
theorem Inj.add_self (r:Inj)(b:Nat)(x:Nat×Nat):(r.add b x).blk b=some x:=if_pos rfl
theorem Inj.add_other {r:Inj}{b y:Nat}(x:Nat×Nat)(h:y≠b):(r.add b x).blk y=r.blk y:=if_neg h
def Inj.mark (r:Inj)(t:Nat)(k:Tok):Inj:=⟨r.blk,fun y=>if y=t then some k else r.ext y,r.known⟩
theorem Inj.mark_le {r:Inj}{t:Nat}(k:Tok)(h:r.ext t=none):r.le (r.mark t k):=
 ⟨fun _ _ e=>e,fun y z e=>by
  show(if y=t then some k else r.ext y)=some z
  by_cases hy:y=t
  ·rw[hy,h]at e;cases e
  ·rw[if_neg hy];exact e,rfl⟩
theorem Inj.mark_self (r:Inj)(t:Nat)(k:Tok):(r.mark t k).ext t=some k:=if_pos rfl
theorem Rel.newCells (h:Rel w0 r mem w){b:Nat}(hb:r.blk b=none){vs vs':List Value}(hv:VRs r vs vs'){c:Array Value}(e:TypeId)(hc: ∀(i:Nat) (v:Value),vs'[i]?=some v→c[i]?=some v){mem':T Cell}
  (hm: ∀loc x,T.get mem' loc=some x→(∃i v,loc=b+i∧vs[i]?=some v∧x= .C b v)∨T.get mem loc=some x):
  Rel w0 (r.add b (w.heap.size,0)) mem' (w.alloc (.cells c e)):=by
 have hle:=Inj.add_le (w.heap.size,0) hb
 have notb: ∀loc b1 v1,T.get mem loc=some (.C b1 v1)→b1≠b:=by
  intro loc b1 v1 e1 heq
  obtain⟨b2,d2,_,_,g2,_⟩:=h.cell _ _ _ e1
  rw[heq,hb]at g2;cases g2
 have notbO: ∀loc o,T.get mem loc=some (.O o)→o.isTok=false→loc≠b:=by
  intro loc o e1 ht heq
  obtain⟨b2,d2,_,g2,_⟩:=h.obj _ _ e1 ht
  rw[heq,hb]at g2;cases g2
 have oldO: ∀loc o,T.get mem' loc=some (.O o)→T.get mem loc=some (.O o):=by
  intro loc o e1
  rcases hm _ _ e1 with⟨i,v,_,_,h3⟩|h3
  ·cases h3
  ·exact h3
 have keepC: ∀b1 o1,b1<w.heap.size→(w.alloc (.cells c e)).cell? ⟨b1,o1,none⟩=w.cell? ⟨b1,o1,none⟩:=fun b1 o1 k=>World.cell?_alloc_past _ b1 o1 k
 have keepF: ∀b1 o1,b1<w.heap.size→(w.alloc (.cells c e)).frozen? ⟨b1,o1,none⟩=w.frozen? ⟨b1,o1,none⟩:=fun b1 o1 k=>World.frozen?_alloc_past _ b1 o1 k
 refine⟨h.below.alloc h.below.size _, ?_, ?_, ?_, ?_, ?_, ?_, ?_,h.known,fun l n e1=>let ⟨p,q⟩:=h.szs l n (oldO _ _ e1);⟨p,q.to hle fun b' q1 q2=>q2.heap (Below.heap_alloc w _ _ (h.dom _ _ _ q1).2)⟩,
  h.oldsTo hle fun loc c e=>by
   rcases hm _ _ e with⟨i,v,_,_,h3⟩|h3
   ·exact .inr (.inl ⟨_,_,_,_,h3,Inj.add_self _ _ _,h.below.size⟩)
   ·exact .inl h3⟩
 ·intro x b' d e1
  rw[World.size_alloc]
  by_cases hx:x=b
  ·rw[hx,Inj.add_self]at e1
   cases e1
   exact⟨Nat.le_succ_of_le h.below.size,Nat.lt_succ_self _⟩
  ·rw[Inj.add_other _ hx]at e1
   exact⟨Nat.le_succ_of_le (h.dom _ _ _ e1).1,Nat.lt_succ_of_lt (h.dom _ _ _ e1).2⟩
 ·intro loc b1 v1 e1
  rcases hm _ _ e1 with⟨i,v,h1,h2,h3⟩|h3
  ·cases h3
   obtain⟨v',h4,h5⟩:=hv.get h2
   refine⟨w.heap.size,0,v',by omega,Inj.add_self _ _ _, ?_,h5.mono hle,Sj _ _ _ _⟩
   rw[GJ_,h1,Nat.add_sub_cancel_left,Nat.add_zero]
   exact hc _ _ h4
  ·obtain⟨b2,d2,v2,g1,g2,g3,g4,g5⟩:=h.cell _ _ _ h3
   have hlt:=(h.dom _ _ _ g2).2
   exact⟨b2,d2,v2,g1,hle.1 _ _ g2,by rw[keepC _ _ hlt];exact g3,g4.mono hle,by rw[keepF _ _ hlt];exact g5⟩
 ·intro l1 l2 b1 v1 b2 v2 b' d1 d2 e1 e2 r1 r2 hh
  rcases hm _ _ e1 with⟨i,v,h1,h2,h3⟩|h3
  ·cases h3
   rw[Inj.add_self]at r1
   cases r1
   rcases hm _ _ e2 with⟨i',v',h1',h2',h3'⟩|h3'
   ·cases h3'
    rw[Inj.add_self]at r2
    cases r2
    omega
   ·rw[Inj.add_other _ (notb _ _ _ h3')]at r2
    exact absurd (h.dom _ _ _ r2).2 (Nat.lt_irrefl _)
  ·rw[Inj.add_other _ (notb _ _ _ h3)]at r1
   rcases hm _ _ e2 with⟨i',v',h1',h2',h3'⟩|h3'
   ·cases h3'
    rw[Inj.add_self]at r2
    cases r2
    exact absurd (h.dom _ _ _ r1).2 (Nat.lt_irrefl _)
   ·rw[Inj.add_other _ (notb _ _ _ h3')]at r2
    exact h.sep _ _ _ _ _ _ _ _ _ h3 h3' r1 r2 hh
 ·intro loc o e1 ht
  obtain⟨b2,d2,o',g1,g2,g3⟩:=h.obj _ _ (oldO _ _ e1) ht
  exact⟨b2,d2,o',hle.1 _ _ g1,by rw[Below.heap_alloc w _ _ (h.dom _ _ _ g1).2];exact g2,g3.mono hle⟩
 ·intro l1 l2 o1 o2 b' d1 d2 e1 e2 t1 t2 r1 r2
  rw[Inj.add_other _ (notbO _ _ (oldO _ _ e1) t1)]at r1
  rw[Inj.add_other _ (notbO _ _ (oldO _ _ e2) t2)]at r2
  exact h.sepO _ _ _ _ _ _ _ (oldO _ _ e1) (oldO _ _ e2) t1 t2 r1 r2
 ·intro t sz e1
  obtain⟨k,g1,g2,g3,g4,g5,g6⟩:=h.tok _ _ (oldO _ _ e1)
  refine⟨k,g1,g2,g3,by rw[World.size_alloc];exact Nat.lt_succ_of_lt g4,fun j hj=>by rw[keepC _ _ g4,keepF _ _ g4];exact g5 j hj, ?_⟩
  intro loc b1 v1 d e2 r1
  rcases hm _ _ e2 with⟨i,v,h1,h2,h3⟩|h3
  ·cases h3
   rw[Inj.add_self]at r1
   simp only[Option.some.injEq,Prod.mk.injEq]at r1
   omega
  ·rw[Inj.add_other _ (notb _ _ _ h3)]at r1
   exact g6 _ _ _ _ h3 r1
 ·intro t1 t2 s1 s2 k1 k2 e1 e2
  exact h.sepT _ _ _ _ _ _ (oldO _ _ e1) (oldO _ _ e2)
theorem Rel.markSz (h:Rel w0 r mem w){b n:Nat}(hs:SzB r w b n)(hnew: ∀b' d,r.blk b=some (b',d)→w0.heap.size≤b'):Rel w0 r (T.set mem (b+n) (.O (.tok true (1024+n)))) w:=by
 have old: ∀loc x,T.get (T.set mem (b+n) (.O (.tok true (1024+n)))) loc=some x→(loc=b+n∧x= .O (.tok true (1024+n)))∨T.get mem loc=some x:=by
  intro loc c e
  rw[T.get_set]at e
  split at e
  ·cases e;exact .inl ⟨by assumption,rfl⟩
  ·exact .inr e
 have oldC: ∀loc b1 v,T.get (T.set mem (b+n) (.O (.tok true (1024+n)))) loc=some (.C b1 v)→T.get mem loc=some (.C b1 v):=by
  intro loc b1 v e
  rcases old _ _ e with⟨_,e⟩|e
  ·cases e
  ·exact e
 have oldO: ∀loc o,o.isTok=false→T.get (T.set mem (b+n) (.O (.tok true (1024+n)))) loc=some (.O o)→T.get mem loc=some (.O o):=by
  intro loc b1 ht e
  rcases old _ _ e with⟨_,e⟩|e
  ·cases e;cases ht
  ·exact e
 have oldT: ∀loc sz,T.get (T.set mem (b+n) (.O (.tok true (1024+n)))) loc=some (.O (.tok false sz))→T.get mem loc=some (.O (.tok false sz)):=by
  intro loc sz e
  rcases old _ _ e with⟨_,e⟩|e
  ·cases e
  ·exact e
 exact⟨h.below,h.dom,fun l b1 v e=>h.cell l b1 v (oldC _ _ _ e),fun l1 l2 b1 v1 b2 v2 b' d1 d2 e1 e2=>h.sep l1 l2 b1 v1 b2 v2 b' d1 d2 (oldC _ _ _ e1) (oldC _ _ _ e2),fun l o e ht=>h.obj l o (oldO _ _ ht e) ht,
  fun l1 l2 o1 o2 b' d1 d2 e1 e2 t1 t2=>h.sepO l1 l2 o1 o2 b' d1 d2 (oldO _ _ t1 e1) (oldO _ _ t2 e2) t1 t2,
  fun t sz e=>let ⟨k,g1,g2,g3,g4,g5,g6⟩:=h.tok t sz (oldT _ _ e);⟨k,g1,g2,g3,g4,g5,fun l b1 v d e1=>g6 l b1 v d (oldC _ _ _ e1)⟩,
  fun t1 t2 s1 s2 k1 k2 e1 e2=>h.sepT t1 t2 s1 s2 k1 k2 (oldT _ _ e1) (oldT _ _ e2),h.known,fun l m e=>by
   rcases old _ _ e with⟨e1,e2⟩|e
   ·have hm:m=n:=by
     simp only[Cell.O.injEq,AObj.tok.injEq,true_and]at e2
     omega
    subst hm
    subst e1
    exact⟨Nat.le_add_left _ _,by rw[Nat.add_sub_cancel];exact hs⟩
   ·exact h.szs l m e,
  h.oldsTo (Inj.le_refl r) fun loc c e=>by
   rcases old _ _ e with⟨e1,e2⟩|e
   ·refine .inr (.inr (.inl ⟨_,_,e2,fun m _ hm b' d q=>hnew b' d ?_⟩))
    have hm':m=n:=by omega
    rw[e1,hm',Nat.add_sub_cancel]at q
    exact q
   ·exact .inl e⟩
theorem Rel.newTok (h:Rel w0 r mem w){t sz:Nat}(ht:r.ext t=none){k:Tok}(hk:k.sz=sz%1024)(h1:w0.heap.size≤k.b)(h2:k.b<w.heap.size)
  (h3: ∀j,j<k.e*k.sz→ ∃v',w.cell? ⟨k.b,k.p+j,none⟩=some v'∧w.frozen? ⟨k.b,k.p+j,none⟩=false∧(1024≤sz→(∃m,v'= .int .u8 m)∧k.p+k.e*k.sz≤9223372036854775807))
  (h4: ∀loc b v d,T.get mem loc=some (.C b v)→r.blk b=some (k.b,d)→loc-b+d<k.p)
  (h5: ∀t2 s2 k2,T.get mem t2=some (.O (.tok false s2))→r.ext t2=some k2→k2.b≠k.b):Rel w0 (r.mark t k) (T.set mem t (.O (.tok false sz))) w:=by
 have hle:=Inj.mark_le k ht
 have old: ∀loc x,T.get (T.set mem t (.O (.tok false sz))) loc=some x→(loc=t∧x= .O (.tok false sz))∨(loc≠t∧T.get mem loc=some x):=by
  intro loc c e
  rw[T.get_set]at e
  split at e
  ·cases e;exact .inl ⟨by assumption,rfl⟩
  ·exact .inr ⟨by assumption,e⟩
 have oldC: ∀loc b v,T.get (T.set mem t (.O (.tok false sz))) loc=some (.C b v)→T.get mem loc=some (.C b v):=by
  intro loc b v e
  rcases old _ _ e with⟨_,e⟩|⟨_,e⟩
  ·cases e
  ·exact e
 have oldO: ∀loc o,o.isTok=false→T.get (T.set mem t (.O (.tok false sz))) loc=some (.O o)→T.get mem loc=some (.O o):=by
  intro loc b ht e
  rcases old _ _ e with⟨_,e⟩|⟨_,e⟩
  ·cases e;cases ht
  ·exact e
 refine⟨h.below,h.dom, ?_, ?_, ?_, ?_, ?_, ?_,h.known,fun l n e=>by
  rcases old _ _ e with⟨_,e⟩|⟨_,e⟩
  ·cases e
  ·obtain⟨p,q⟩:=h.szs l n e
   exact⟨p,q.to hle fun b' q1 q2=>q2⟩,
  h.oldsTo hle fun loc c e=>by
   rcases old _ _ e with⟨_,e⟩|⟨_,e⟩
   ·exact .inr (.inr (.inl ⟨_,_,e,fun n hu=>by cases hu⟩))
   ·exact .inl e⟩
 ·intro loc b v e
  obtain⟨b2,d2,v2,g1,g2,g3,g4,g5⟩:=h.cell _ _ _ (oldC _ _ _ e)
  exact⟨b2,d2,v2,g1,g2,g3,g4.mono hle,g5⟩
 ·intro l1 l2 b1 v1 b2 v2 b' d1 d2 e1 e2
  exact h.sep _ _ _ _ _ _ _ _ _ (oldC _ _ _ e1) (oldC _ _ _ e2)
 ·intro loc o e hto
  obtain⟨b2,d2,o',g1,g2,g3⟩:=h.obj _ _ (oldO _ _ hto e) hto
  exact⟨b2,d2,o',g1,g2,g3.mono hle⟩
 ·intro l1 l2 o1 o2 b' d1 d2 e1 e2 t1 t2
  exact h.sepO _ _ _ _ _ _ _ (oldO _ _ t1 e1) (oldO _ _ t2 e2) t1 t2
 ·intro t2 s2 e
  rcases old _ _ e with⟨e1,e2⟩|⟨hne,e⟩
  ·cases e2
   subst e1
   exact⟨k,Inj.mark_self _ _ _,hk,h1,h2,h3,fun loc b v d e3=>h4 _ _ _ _ (oldC _ _ _ e3)⟩
  ·obtain⟨k2,g1,g2,g3,g4,g5,g6⟩:=h.tok _ _ e
   exact⟨k2,hle.2 _ _ g1,g2,g3,g4,g5,fun loc b v d e3=>g6 _ _ _ _ (oldC _ _ _ e3)⟩
 ·intro t1 t2 s1 s2 k1 k2 e1 e2 r1 r2 hh
  rcases old _ _ e1 with⟨q1,q2⟩|⟨n1,q2⟩
  ·rcases old _ _ e2 with⟨q3,q4⟩|⟨n3,q4⟩
   ·rw[q1,q3]
   ·exfalso
    rw[q1,Inj.mark_self]at r1
    cases r1
    obtain⟨k3,g1,_⟩:=h.tok _ _ q4
    rw[hle.2 _ _ g1]at r2
    cases r2
    exact h5 _ _ _ q4 g1 hh.symm
  ·rcases old _ _ e2 with⟨q3,q4⟩|⟨n3,q4⟩
   ·exfalso
    rw[q3,Inj.mark_self]at r2
    cases r2
    obtain⟨k3,g1,_⟩:=h.tok _ _ q2
    rw[hle.2 _ _ g1]at r1
    cases r1
    exact h5 _ _ _ q2 g1 hh
   ·obtain⟨k3,g1,_⟩:=h.tok _ _ q2
    obtain⟨k4,g2,_⟩:=h.tok _ _ q4
    rw[hle.2 _ _ g1]at r1
    rw[hle.2 _ _ g2]at r2
    cases r1;cases r2
    exact h.sepT _ _ _ _ _ _ q2 q4 g1 g2 hh
end
end Go.Proofs.Ytofanlcjeohcjaa.Am
end
