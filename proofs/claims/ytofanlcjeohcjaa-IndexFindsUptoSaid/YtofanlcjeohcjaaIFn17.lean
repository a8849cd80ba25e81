import Derived.Test.YtofanlcjeohcjaaIFn16
import Derived.Test.YtofanlcjeohcjaaIFn07
namespace Go.Proofs.Ytofanlcjeohcjaa.Am
open Go.RowKit
def QK (n:Nat):List Nat:=[n>>>8%256,n%256,255-n>>>8%256,255-n%256]
def Ro (n:Nat):List Nat:=[n>>>8%256,n%256,255-n>>>8%256,255-n%256,DO 0 (QK n)%256,DO 0 (QK n)>>>8%256]
theorem wrap_i64 (n:Nat)(h:n<9223372036854775808):IntKind.i64.wrap ((n:Nat):Int)=((n:Nat):Int):=by
 rw[←Jn]
 exact B5 (by omega) (by omega)
def len2 (a b:Nat):Nat:=a<<<8|||b
section
variable {α:Type}
theorem RN (m:M α):M.chk true m=m:=rfl
theorem if_t (x y:M α):M.if true x y=x:=rfl
theorem CH_ (call round:Aw)(f:Nat)(l:List Value):BP call round (.func (.func f) #[] #[]) l=call f l:=by
 show call f ([]++(l++[]))=_
 rw[List.append_nil,List.nil_append]
end
def C1 (l:List Nat)(k:Nat):Nat:=len2 (l.getD k 0) (l.getD (k+1) 0)
def LF (l:List Nat)(k:Nat):Bool:=decide (1≤C1 l k∧C1 l k≤1024)&&decide ((l.take (k+6)).drop k=Ro (C1 l k))
theorem Bn.lt {s:St}{v:Value}{l:List Nat}(h:Bn s v l): ∀x,BsF v x→x<s.next:=fun x hx=>by
 obtain⟨b,o,c,rfl,_,_,h3⟩:=h
 obtain⟨h1,h2⟩:=hx
 have hi:x-(b+o)<(u8l l).length:=by rw[Bp];omega
 have h5:=(h3 (x-(b+o)) _ (List.getElem?_eq_getElem hi)).1
 have h6:b+(o+(x-(b+o)))<s.next:=h5
 omega
theorem FJ:arrB envS.P 26=some 16:=by kernel_rfl
def Nv (l:List Nat)(k n:Nat):List Nat:=(l.take (k+26+n)).drop (k+6)
def UG (l:List Nat)(k n:Nat):List Nat:=(Nv l k n).take (n+16)
def RG (l:List Nat)(k n:Nat):List Nat:=(UG l k n).take 16
def TL (l:List Nat)(k n:Nat):List Nat:=(UG l k n).drop 16
theorem B1:tyS envS 35=some (18,true):=by kernel_rfl
theorem DI:tyS envS 3=some (1,false):=by kernel_rfl
theorem LV:tyS envS 4=some (1,false):=by kernel_rfl
theorem Cm:tyS envS 36=some (1,false):=by kernel_rfl
theorem AV_:elT envS 36=some (18,32,List.replicate 16 (.int .u8 0)++[.int .i64 0, .int .i64 0]):=by kernel_rfl
theorem YK:appT envS 36 36=some (18,32,false,List.replicate 16 (.int .u8 0)++[.int .i64 0, .int .i64 0]):=by kernel_rfl
theorem VP:ER envS 3=some [.int .i64 0]:=by kernel_rfl
abbrev Hd:Type:=List Nat×Nat×Nat
def Da (h:Hd):List Value:=u8l h.1++[.int .i64 (h.2.1:Nat), .int .i64 (h.2.2:Nat)]
theorem KP {h:Hd}(h16:h.1.length=16):(Da h).length=18:=by
 unfold Da
 rw[List.length_append,Bp,h16]
 rfl
def BX:List Hd→List Value
 |[]=>[]
 |h::l=>Da h++BX l
theorem Q8: ∀{l:List Hd},(∀h∈l,h.1.length=16)→(BX l).length=l.length*18
 |[],_=>rfl
 |h::l,hl=>by
  unfold BX
  rw[List.length_append,KP (hl h (by simp)),Q8 fun x hx=>hl x (by simp[hx]),List.length_cons]
  omega
def E2 (s:St)(D:Nat)(v:Value)(hs:List Hd):Prop:=(v= .slice none 0 0∧hs=[])∨ ∃b,D+2≤b∧Marked s 18 hs.length (BX hs) v b∧hs≠[]
noncomputable abbrev scanL (tm:T Value)(st:LoopState)(D:Nat):AObj:= .loop st none 24 Ih_ DU_ tm [10,11] Ym DA_ D
structure ScI (A D:Nat)(tm:T Value)(st:LoopState)(s:St)(hs:List Hd)(bad size rest:Nat):Prop where
 lo:Obj s (D+1) (scanL tm st D)
 de:Obj s D (.deferred (some []))
 c2: ∃v,Own s A 0 v∧E2 s D v hs
 c3:Own s (A+2) 0 (.int .i64 (size:Nat))
 c4:Own s (A+4) 0 (.int .i64 (bad:Nat))
 c5:Own s (A+6) 0 (.int .i64 (rest:Nat))
 all16: ∀h∈hs,h.1.length=16
 sep:A+8≤D
theorem E2.ext {F G:Nat→Prop}{s s':St}{D:Nat}{v:Value}{hs:List Hd}(h:E2 s D v hs)(e:Ext F G s s')(hG: ∀x,D+2≤x→x<s.next→ ¬G x):E2 s' D v hs:=by
 rcases h with h|⟨b,h1,h2,h3⟩
 ·exact .inl h
 ·refine .inr ⟨b,h1,h2.ext e fun x hx=>hG x (by have:=hx.1;omega) ?_,h3⟩
  have h4:=h2.lt
  have h5:x<b+0+(hs.length*18+1):=hx.2
  omega
theorem ScI.ext0 {F:Nat→Prop}{A D:Nat}{tm:T Value}{st:LoopState}{s s':St}{hs:List Hd}{bad size rest:Nat}(h:ScI A D tm st s hs bad size rest)(e:Ext F Non s s'):ScI A D tm st s' hs bad size rest:=
 ⟨h.lo.ext e id,h.de.ext e id,let ⟨v,h1,h2⟩:=h.c2;⟨v,h1.ext0 e,h2.ext e fun _ _ _=>id⟩,h.c3.ext0 e,h.c4.ext0 e,h.c5.ext0 e,h.all16,h.sep⟩
theorem E2.same {s s':St}{D:Nat}{v:Value}{hs:List Hd}(h:E2 s D v hs)(hm:s'.mem=s.mem)(hn:s'.next=s.next):E2 s' D v hs:=by
 rcases h with h|⟨b,h1,h2,h3⟩
 ·exact .inl h
 ·exact .inr ⟨b,h1,h2.same hm hn,h3⟩
theorem ScI.same {A D:Nat}{tm:T Value}{st:LoopState}{s s':St}{hs:List Hd}{bad size rest:Nat}(h:ScI A D tm st s hs bad size rest)(hm:s'.mem=s.mem)(hn:s'.next=s.next):ScI A D tm st s' hs bad size rest:=
 ⟨h.lo.same hm hn,h.de.same hm hn,let ⟨v,h1,h2⟩:=h.c2;⟨v,h1.same hm hn,h2.same hm hn⟩,h.c3.same hm hn,h.c4.same hm hn,h.c5.same hm hn,h.all16,h.sep⟩
structure ScF (A R:Nat)(at':Nat)(tm:T Value):Prop where
 t2:T.get tm 2=some (.pointer (some ⟨A,0,none⟩))
 t3:T.get tm 3=some (.pointer (some ⟨A+2,0,none⟩))
 t4:T.get tm 4=some (.pointer (some ⟨A+4,0,none⟩))
 t5:T.get tm 5=some (.pointer (some ⟨A+6,0,none⟩))
 t6:T.get tm 6=some (.int .i64 (at':Nat))
 t7:T.get tm 7=some (.pointer (some ⟨R,0,none⟩))
theorem In1 {b x:Nat}:In b 0 1 x↔x=b:=⟨fun h=>by have:=h.1;have:=h.2;omega,fun h=>⟨by omega,by omega⟩⟩
abbrev V6:List Nat:=List.replicate 16 0
structure ScT (A:Nat)(tm:T Value):Prop where
 t2:T.get tm 2=some (.pointer (some ⟨A,0,none⟩))
 t3:T.get tm 3=some (.pointer (some ⟨A+2,0,none⟩))
 t4:T.get tm 4=some (.pointer (some ⟨A+4,0,none⟩))
 t5:T.get tm 5=some (.pointer (some ⟨A+6,0,none⟩))
def MA (l:List Nat)(k n:Nat):List Nat:=if GOk (Nv l k n)then RG l k n else V6
def Jz (l:List Nat)(k n:Nat):Bool:=decide (GOk (Nv l k n))&&decide (idB (TL l k n)=RG l k n)
def NF (l:List Nat)(k:Nat):Bool:=decide (k+6≤l.length)&&LF l k&&decide (k+26+C1 l k≤l.length)
def UO (l:List Nat)(k:Nat):Nat:=if k=l.length then 0 else if l.length<k+6 then 1 else if LF l k then 1 else 2
def Pv (l:List Nat):Nat→Nat→List Hd→Nat→List Hd×Nat×Nat×Nat
 |0,k,hs,bad=>(hs,bad,k,UO l k)
 |f+1,k,hs,bad=>if NF l k then Pv l f (k+26+C1 l k) (if Jz l k (C1 l k)then hs++[(MA l k (C1 l k),k,C1 l k)]else hs) (if Jz l k (C1 l k)then bad else bad+1)else(hs,bad,k,UO l k)
def IK (s s':St)(v:Value)(hs:List Hd):Prop:=(v= .slice none 0 0∧hs=[])∨ ∃b,s.next≤b∧Marked s' 18 hs.length (BX hs) v b∧hs≠[]
theorem Bs.one {s:St}{v:Value}{l:List Nat}(h:Bs s v l):oneCell v=true:=by
 obtain⟨p,c,rfl⟩:=h.sl
 cases p<;>rfl
def JE_ (l:List Nat):List Hd×Nat×Nat×Nat:=Pv l l.length 0 [] 0
end Go.Proofs.Ytofanlcjeohcjaa.Am
