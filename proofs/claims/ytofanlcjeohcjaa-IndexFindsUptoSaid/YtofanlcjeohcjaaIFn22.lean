import Derived.Test.YtofanlcjeohcjaaIFn17
import Derived.Test.YtofanlcjeohcjaaIFn21
import Derived.Test.YtofanlcjeohcjaaIFn18
import Derived.Test.YtofanlcjeohcjaaIFn07
namespace Go.Proofs.Ytofanlcjeohcjaa.Am
open Go.RowKit
structure Good (l:List Nat)(h:Hd):Prop where
 ok:NF l h.2.1=true
 sz:C1 l h.2.1=h.2.2
 good:Jz l h.2.1 h.2.2=true
 id:MA l h.2.1 h.2.2=h.1
theorem HiR.slice {s:St}{v:Value}{hs:List HdI}(h:HiR s v hs): ∃a n c,v= .slice a n c:=by
 rcases h with⟨rfl,_⟩|⟨b,o,c,rfl,_⟩
 ·exact⟨_,_,_,rfl⟩
 ·exact⟨_,_,_,rfl⟩
theorem IK.hi {s s':St}{v:Value}{hs:List Hd}(h:IK s s' v hs):HiR s' v (hs.map toI)∧ ∀x,HiF v x→s.next≤x:=by
 rcases h with⟨rfl,rfl⟩|⟨b,hb,hm,_⟩
 ·exact⟨.inl ⟨rfl,rfl⟩,fun x hx=>hx.elim⟩
 ·have hr:HsR s' v hs:= .inr ⟨b,0,_,hm.val,hm.own.row⟩
  refine⟨hr.toI,fun x hx=> ?_⟩
  rw[hm.val]at hx
  have h1:b+0≤x:=hx.1
  omega
section
variable {vp vf:Value}{ps:List PkI}{fs:List FdI}{Q:Value×FrameMode→St→Prop}{s0:St}
end
def recB (b:List Nat):List Nat:=Ro b.length++gput (idB b++b)
theorem HsR.ext0 {F:Nat→Prop}{s s':St}{v:Value}{hs:List Hd}(h:HsR s v hs)(e:Ext F Non s s'):HsR s' v hs:=by
 rcases h with h|⟨b,o,c,h0,h3⟩
 ·exact .inl h
 ·exact .inr ⟨b,o,c,h0,h3.ext e fun _ _=>id⟩
theorem IK.new {s s':St}{v:Value}{hs:List Hd}(h:IK s s' v hs): ∀x,HsF v x→s.next≤x:=by
 intro x hx
 rcases h with⟨rfl,_⟩|⟨b,h1,h,_⟩
 ·exact hx.elim
 ·rw[h.val]at hx
  have:=hx.1
  show s.next≤x
  have h2:b+0≤x:=hx.1
  omega
section
variable {parts:List (Value×List Nat)}{b o c:Nat}
end
section
variable {parts:List (Value×List Nat)}{b o c:Nat}
end
def DV:List (List Nat)→List Nat
 |[]=>[]
 |b::l=>recB b++DV l
def Lf:Nat→List (List Nat)→List Nat
 |_,[]=>[]
 |k,b::l=>(k+(recB b).length)::Lf (k+(recB b).length) l
def LW:Nat→List (List Nat)→List Hd
 |_,[]=>[]
 |k,b::l=>(idB b,k,b.length)::LW (k+(recB b).length) l
def Qk (l:List Nat):List Value:=l.map fun n=> .int .i64 (n:Nat)
section
variable {parts:List (Value×List Nat)}{b o c:Nat}
def chs (parts:List (Value×List Nat))(i:Nat):List (List Nat):=(parts.take i).map (·.2)
structure AlI (s0:St)(parts:List (Value×List Nat))(b o c i:Nat)(tm:T Value)(s:St)(vb ve vh:Value)(b1 b2 b3:Nat):Prop where
 t0:T.get tm 0=some (.slice (some ⟨b,o,none⟩) parts.length c)
 t6:T.get tm 6=some vb
 t7:T.get tm 7=some ve
 t8:T.get tm 8=some vh
 t11:T.get tm 11=some (.int .i64 (i:Nat))
 mb:MkS s 1 (DV (chs parts i)).length (u8l (DV (chs parts i))) vb b1
 me:MkS s 1 i (Qk (Lf 0 (chs parts i))) ve b2
 mh:MkS s 18 i (BX (LW 0 (chs parts i))) vh b3
 n1:s0.next≤b1
 n2:s0.next≤b2
 n3:s0.next≤b3
 d12: ∀x,MkF 1 (DV (chs parts i)).length b1 x→ ¬MkF 1 i b2 x
 d13: ∀x,MkF 1 (DV (chs parts i)).length b1 x→ ¬MkF 18 i b3 x
 d23: ∀x,MkF 1 i b2 x→ ¬MkF 18 i b3 x
 sm: ∀p∈parts.take i,1≤p.2.length∧p.2.length≤1024
end
structure RecAt (t:List Nat)(k:Nat)(b:List Nat):Prop where
 n:C1 t k=b.length
 ok:LF t k=true
 len:k+26+b.length≤t.length
 rok:NF t k=true
 good:Jz t k b.length=true
 id:MA t k b.length=idB b
 body:TL t k b.length=b
section
variable {parts:List (Value×List Nat)}{b o c:Nat}
end
section
variable {parts:List (Value×List Nat)}{b o c:Nat}
structure AlR (s0:St)(parts:List (Value×List Nat))(s:St)(vb ve vh:Value)(b1 b2 b3:Nat):Prop where
 mb:MkS s 1 (DV (parts.map (·.2))).length (u8l (DV (parts.map (·.2)))) vb b1
 me:MkS s 1 parts.length (Qk (Lf 0 (parts.map (·.2)))) ve b2
 mh:MkS s 18 parts.length (BX (LW 0 (parts.map (·.2)))) vh b3
 n1:s0.next≤b1
 n2:s0.next≤b2
 n3:s0.next≤b3
 d12: ∀x,MkF 1 (DV (parts.map (·.2))).length b1 x→ ¬MkF 1 parts.length b2 x
 d13: ∀x,MkF 1 (DV (parts.map (·.2))).length b1 x→ ¬MkF 18 parts.length b3 x
 d23: ∀x,MkF 1 parts.length b2 x→ ¬MkF 18 parts.length b3 x
 sm: ∀p∈parts,1≤p.2.length∧p.2.length≤1024
 le:parts.length≤20
 tt:tot parts≤4000
end
section
variable {E:Env}{s:St}{t:Nat}{xo yo:Operand}
end
end Go.Proofs.Ytofanlcjeohcjaa.Am
