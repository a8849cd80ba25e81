import Derived.Test.YtofanlcjeohcjaaIBk17
import Derived.Test.YtofanlcjeohcjaaIBk07
import Derived.Test.YtofanlcjeohcjaaIBk08
namespace Go.Proofs.Ytofanlcjeohcjaa.Am
open Go.RowKit
def BY (a:Int):Int:=if a<1\/1024<a then 0 else a+26
theorem Sf {n:Nat}{s:St}{Q:Value->St->Prop}(a:Int)(hn:20<=n)(q:Q (.int .i64 (BY a)) s):W (Ay envS (runF envS n) 20 [.int .i64 a]) s Q:=by
 refine Aav_ λtm h0=> ?_
 refine VM_.w rfl (by omega) ?_
 simp -implicitDefEqProofs only[HB_,Aa,W_mv,Ab]
 refine AcD_.w ZD_ (by omega) ?_
 simp -implicitDefEqProofs only[EA_,Ac,W_oS,W_on,Aa,W_mv,Ab,aA,Ai,Ak,Aj,reduceCtorEq, ↓reduceIte,Bg,h0]
 by_cases h1:a<1
 ·rw[decide_eq_true h1]
  simp -implicitDefEqProofs only[Aa,As,Aq, ↓reduceIte]
  refine W.cond (v:=true) RC Su (by simp[aA]) (by omega) (λ_=> ?_) λh=>by cases h
  refine V2.w Bv_ (by omega) ?_
  simp -implicitDefEqProofs only[Th,Aa,W_mv,Ab]
  refine aG (rs:=[2]) (vs:=[.int .i64 0]) Kd_ (.inl GK_) (by omega) Li Qf rfl (by simp[aA]) ?_
  have e:BY a=0:=if_pos (.inl h1)
  rw[e]at q
  exact q
 ·rw[decide_eq_false h1]
  simp -implicitDefEqProofs only[W_oS,Aa,An,Al,reduceCtorEq, ↓reduceIte,CT]
  by_cases h2:1024<a
  ·refine W.cond (v:=true) RC Su (by simp[aA,h2]) (by omega) (λ_=> ?_) λh=>by cases h
   refine V2.w Bv_ (by omega) ?_
   simp -implicitDefEqProofs only[Th,Aa,W_mv,Ab]
   refine aG (rs:=[2]) (vs:=[.int .i64 0]) Kd_ (.inl GK_) (by omega) Li Qf rfl (by simp[aA]) ?_
   have e:BY a=0:=if_pos (.inr h2)
   rw[e]at q
   exact q
  ·refine W.cond (v:=false) RC Su (by simp[aA,h2]) (by omega) (λh=>by cases h) λ_=> ?_
   refine AkA_.w AgS_ (by omega) ?_
   have ea:wrap64 (a+26)=a+26:=Bq (by omega) (by omega)
   simp -implicitDefEqProofs only[Cn_,Ac,W_oS,Aa,W_mv,Ab,aA,reduceCtorEq, ↓reduceIte,BG,h0,ea]
   refine aG (rs:=[2]) (vs:=[.int .i64 (a+26)]) Acd_ (.inl Ajb_) (by omega) Li Qf rfl (by simp[aA]) ?_
   have e:BY a=a+26:=if_neg λh=>h.elim h1 h2
   rw[e]at q
   exact q
def CO_ (n:Nat):List Nat:=[n>>>8%256,n%256,255-n>>>8%256,255-n%256]
def Y8 (n:Nat):List Nat:=[n>>>8%256,n%256,255-n>>>8%256,255-n%256,CV 0 (CO_ n)%256,CV 0 (CO_ n)>>>8%256]
theorem AbG_:hasT envS 5=true:=by kernel_rfl
theorem wrap_i64 (n:Nat)(h:n<9223372036854775808):IntKind.i64.wrap ((n:Nat):Int)=((n:Nat):Int):=by
 rw[<-Nd]
 exact Bq (by omega) (by omega)
def len2 (a b:Nat):Nat:=a<<<8|||b
section
variable {α:Type}
theorem EG (m:M α):M.chk true m=m:=rfl
theorem if_t (x y:M α):aC true x y=x:=rfl
theorem if_f (x y:M α):aC false x y=y:=rfl
theorem Mf (call round:Ad)(f:Nat)(l:List Value):AW call round (.func (.func f) #[] #[]) l=call f l:=by
 show call f ([]++(l++[]))=_
 rw[List.append_nil,List.nil_append]
end
theorem WX {n0:Nat}{l:List OpLog}{bef:List Nat}(hl:l.length<=bef.length)(h: ∀m∈l,m.wr=[]/\ ∀x∈m.rd,x<n0):BR n0 l bef=true:=
 Gd_ hl (λk m b e1 _=>⟨(h m (List.mem_of_getElem? e1)).1,λi a _ _=> .inr λx hx hn=>absurd ((h m (List.mem_of_getElem? e1)).2 x hx) (Nat.not_lt_of_le hn)⟩) λm hm=>(h m hm).1
def DU (l:List Nat)(k:Nat):Nat:=len2 (l.getD k 0) (l.getD (k+1) 0)
def Vp (l:List Nat)(k:Nat):Bool:=decide (1<=DU l k/\DU l k<=1024)&&decide ((l.take (k+6)).drop k=Y8 (DU l k))
theorem Bn.lt {s:St}{v:Value}{l:List Nat}(h:Bn s v l): ∀x,BsF v x->x<s.next:=λx hx=>by
 obtain⟨b,o,c,rfl,_,_,h3⟩:=h
 obtain⟨h1,h2⟩:=hx
 have hi:x-(b+o)<(u8l l).length:=by rw[Bu];omega
 have h5:=(h3 (x-(b+o)) _ (List.getElem?_eq_getElem hi)).1
 have h6:b+(o+(x-(b+o)))<s.next:=h5
 omega
def SA (l:List Nat)(k n:Nat):List Nat:=(l.take (k+26+n)).drop (k+6)
def VI (l:List Nat)(k n:Nat):List Nat:=(SA l k n).take (n+16)
def FP_ (l:List Nat)(k n:Nat):List Nat:=(VI l k n).take 16
def Eo_ (l:List Nat)(k n:Nat):List Nat:=(VI l k n).drop 16
theorem Fu:tyS envS 35=some (18,true):=by kernel_rfl
theorem Be:tyS envS 3=some (1,false):=by kernel_rfl
theorem Fi:tyS envS 4=some (1,false):=by kernel_rfl
theorem Eo:tyS envS 36=some (1,false):=by kernel_rfl
theorem AbU_:elT envS 36=some (18,32,List.replicate 16 (.int .u8 0)++[.int .i64 0, .int .i64 0]):=by kernel_rfl
theorem AgN_:appT envS 36 36=some (18,32,false,List.replicate 16 (.int .u8 0)++[.int .i64 0, .int .i64 0]):=by kernel_rfl
theorem Rz:D8 envS 3=some [.int .i64 0]:=by kernel_rfl
abbrev Hd:Type:=List Nat×Nat×Nat
def Dj (h:Hd):List Value:=u8l h.1++[.int .i64 (h.2.1:Nat), .int .i64 (h.2.2:Nat)]
theorem O3 {h:Hd}(h16:h.1.length=16):(Dj h).length=18:=by
 unfold Dj
 rw[List.length_append,Bu,h16]
 rfl
def Cj:List Hd->List Value
 |[]=>[]
 |h::l=>Dj h++Cj l
theorem FK_: ∀{l:List Hd},(∀h∈l,h.1.length=16)->(Cj l).length=l.length*18
 |[],_=>rfl
 |h::l,hl=>by
  unfold Cj
  rw[List.length_append,O3 (hl h (by simp)),FK_ λx hx=>hl x (by simp[hx]),List.length_cons]
  omega
def Fy (s:St)(D:Nat)(v:Value)(hs:List Hd):Prop:=(v= .slice none 0 0/\hs=[])\/ ∃b,D+2<=b/\Marked s 18 hs.length (Cj hs) v b/\hs≠[]
noncomputable abbrev scanL (tm:T Value)(st:LoopState)(D:Nat):AObj:= .loop st none 24 Akh_ Aje_ tm [10,11] Rd_ TC_ D
structure ScI (A D:Nat)(tm:T Value)(st:LoopState)(s:St)(hs:List Hd)(bad size rest:Nat):Prop where
 lo:Obj s (D+1) (scanL tm st D)
 de:Obj s D (.deferred (some []))
 c2: ∃v,Own s A 0 v/\Fy s D v hs
 c3:Own s (A+2) 0 (.int .i64 (size:Nat))
 c4:Own s (A+4) 0 (.int .i64 (bad:Nat))
 c5:Own s (A+6) 0 (.int .i64 (rest:Nat))
 all16: ∀h∈hs,h.1.length=16
 sep:A+8<=D
theorem Fy.ext {F G:Nat->Prop}{s s':St}{D:Nat}{v:Value}{hs:List Hd}(h:Fy s D v hs)(e:Ext F G s s')(hG: ∀x,D+2<=x->x<s.next-> ¬G x):Fy s' D v hs:=by
 rcases h with h|⟨b,h1,h2,h3⟩
 ·exact .inl h
 ·refine .inr ⟨b,h1,h2.ext e λx hx=>hG x (by have:=hx.1;omega) ?_,h3⟩
  have h4:=h2.lt
  have h5:x<b+0+(hs.length*18+1):=hx.2
  omega
theorem ScI.ext0 {F:Nat->Prop}{A D:Nat}{tm:T Value}{st:LoopState}{s s':St}{hs:List Hd}{bad size rest:Nat}(h:ScI A D tm st s hs bad size rest)(e:Ext F Non s s'):ScI A D tm st s' hs bad size rest:=
 ⟨h.lo.ext e id,h.de.ext e id,let ⟨v,h1,h2⟩:=h.c2;⟨v,h1.ext0 e,h2.ext e λ_ _ _=>id⟩,h.c3.ext0 e,h.c4.ext0 e,h.c5.ext0 e,h.all16,h.sep⟩
theorem Fy.same {s s':St}{D:Nat}{v:Value}{hs:List Hd}(h:Fy s D v hs)(hm:s'.mem=s.mem)(hn:s'.next=s.next):Fy s' D v hs:=by
 rcases h with h|⟨b,h1,h2,h3⟩
 ·exact .inl h
 ·exact .inr ⟨b,h1,h2.same hm hn,h3⟩
theorem ScI.same {A D:Nat}{tm:T Value}{st:LoopState}{s s':St}{hs:List Hd}{bad size rest:Nat}(h:ScI A D tm st s hs bad size rest)(hm:s'.mem=s.mem)(hn:s'.next=s.next):ScI A D tm st s' hs bad size rest:=
 ⟨h.lo.same hm hn,h.de.same hm hn,let ⟨v,h1,h2⟩:=h.c2;⟨v,h1.same hm hn,h2.same hm hn⟩,h.c3.same hm hn,h.c4.same hm hn,h.c5.same hm hn,h.all16,h.sep⟩
theorem ScI.turn {A D:Nat}{tm:T Value}{st st':LoopState}{s:St}{hs:List Hd}{bad size rest:Nat}(h:ScI A D tm st s hs bad size rest):ScI A D tm st' ((s.rdN (D+1)).wrN (D+1) (.O (scanL tm st' D))) hs bad size rest:=by
 have e:Ext (λx=>x=D+1) (λx=>x=D+1) s ((s.rdN (D+1)).wrN (D+1) (.O (scanL tm st' D))):=by
  obtain⟨d1,p1,p2⟩:=(Ext.rdN (F:=λx=>x=D+1) (G:=λx=>x=D+1) s (D+1) λ_=>rfl).rd
  obtain⟨d2,p3,p4⟩:=(Ext.wrN (F:=λx=>x=D+1) (G:=λx=>x=D+1) (s.rdN (D+1)) (D+1) (.O (scanL tm st' D)) rfl).wr
  refine⟨Nat.le_refl _,rfl,rfl,λx _ hx=> ?_,⟨d1,p1,p2⟩,⟨d2,p3,p4⟩⟩
  show T.get (T.set s.mem (D+1) _) x=_
  rw[aA,if_neg]
  exact hx
 have hD:=h.de.1
 have sep:=h.sep
 refine⟨⟨h.lo.1, ?_⟩,h.de.ext e (by omega), ?_,h.c3.ext e (by omega),h.c4.ext e (by omega),h.c5.ext e (by omega),h.all16,h.sep⟩
 ·show T.get (T.set s.mem (D+1) _) (D+1)=_
  rw[aA,if_pos rfl]
 ·obtain⟨v,h1,h2⟩:=h.c2
  exact⟨v,h1.ext e (by omega),h2.ext e λx hx _ hq=>by omega⟩
structure ScF (A R:Nat)(at':Nat)(tm:T Value):Prop where
 t2:T.get tm 2=some (.pointer (some ⟨A,0,none⟩))
 t3:T.get tm 3=some (.pointer (some ⟨A+2,0,none⟩))
 t4:T.get tm 4=some (.pointer (some ⟨A+4,0,none⟩))
 t5:T.get tm 5=some (.pointer (some ⟨A+6,0,none⟩))
 t6:T.get tm 6=some (.int .i64 (at':Nat))
 t7:T.get tm 7=some (.pointer (some ⟨R,0,none⟩))
theorem In1 {b x:Nat}:In b 0 1 x↔x=b:=⟨λh=>by have:=h.1;have:=h.2;omega,λh=>⟨by omega,by omega⟩⟩
theorem VX_ {id:List Nat}(h:id.length=16)(a b:Nat):DY (λk=>some (k*18,18)) [(0, .agg (Dj (id,a,b)).toArray)] (rep 1 (List.replicate 16 (.int .u8 0)++[.int .i64 0, .int .i64 0]))=some (Dj (id,a,b)):=by
 match id,h with
 |[x0,x1,x2,x3,x4,x5,x6,x7,x8,x9,x10,x11,x12,x13,x14,x15],_=>rfl
abbrev Aad_:List Nat:=List.replicate 16 0
structure ScT (A:Nat)(tm:T Value):Prop where
 t2:T.get tm 2=some (.pointer (some ⟨A,0,none⟩))
 t3:T.get tm 3=some (.pointer (some ⟨A+2,0,none⟩))
 t4:T.get tm 4=some (.pointer (some ⟨A+4,0,none⟩))
 t5:T.get tm 5=some (.pointer (some ⟨A+6,0,none⟩))
def Vr (l:List Nat)(k n:Nat):List Nat:=if GOk (SA l k n)then FP_ l k n else Aad_
def Ph (l:List Nat)(k n:Nat):Bool:=decide (GOk (SA l k n))&&decide (idB (Eo_ l k n)=FP_ l k n)
def UF (l:List Nat)(k:Nat):Bool:=decide (k+6<=l.length)&&Vp l k&&decide (k+26+DU l k<=l.length)
def VJ (l:List Nat)(k:Nat):Nat:=if k=l.length then 0 else if l.length<k+6 then 1 else if Vp l k then 1 else 2
def HH_ (l:List Nat):Nat->Nat->List Hd->Nat->List Hd×Nat×Nat×Nat
 |0,k,hs,bad=>(hs,bad,k,VJ l k)
 |f+1,k,hs,bad=>if UF l k then HH_ l f (k+26+DU l k) (if Ph l k (DU l k)then hs++[(Vr l k (DU l k),k,DU l k)]else hs) (if Ph l k (DU l k)then bad else bad+1)else(hs,bad,k,VJ l k)
def Nb (s s':St)(v:Value)(hs:List Hd):Prop:=(v= .slice none 0 0/\hs=[])\/ ∃b,s.next<=b/\Marked s' 18 hs.length (Cj hs) v b/\hs≠[]
theorem Bs.one {s:St}{v:Value}{l:List Nat}(h:Bs s v l):oneCell v=true:=by
 obtain⟨p,c,rfl⟩:=h.sl
 cases p<;>rfl
def KC_ (l:List Nat):List Hd×Nat×Nat×Nat:=HH_ l l.length 0 [] 0
theorem M5:fldN envS 35 1=some (16,1,false):=by kernel_rfl
theorem Rj:fldN envS 35 2=some (17,1,false):=by kernel_rfl
end Go.Proofs.Ytofanlcjeohcjaa.Am
