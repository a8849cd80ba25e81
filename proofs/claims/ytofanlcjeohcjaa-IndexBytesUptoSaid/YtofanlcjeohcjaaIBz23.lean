import Derived.Test.YtofanlcjeohcjaaIBz22
namespace Go.Proofs.Ytofanlcjeohcjaa.Am
open Go.RowKit
theorem Ext.thenRd' {G:Nat->Prop}{s s1:St}(h:Ext Any G s s1)(hb:s.lim<=s.next)(l:Nat):Ext Any G s (s1.rdN l):=h.trans (Ext.rdN (F:=Any) (G:=Non) s1 l λ_=>trivial) hb (λ_ _ _=>trivial) λ_ _ h=>h.elim
theorem BW_:intK envS 3=some .i64:=X
theorem FF_:fldN envS 152 0=some (0,1,false):=X
theorem Et:fldN envS 152 1=some (1,1,false):=X
theorem Da:fldN envS 152 2=some (2,1,false):=X
theorem OG:fldN envS 152 3=some (3,2,true):=X
theorem Cm:fldN envS 116 0=some (0,1,false):=X
theorem CF:tyS envS 27=some (1,false):=X
theorem BQ:tyS envS 116=some (2,true):=X
theorem Dq:tyS envS 113=some (1,false):=X
theorem Ta_:ptrT envS 113=true:=X
def D7 (e pos:Int):List PanicEntry:=[{v:= .iface 170 (.agg #[.int .i64 e, .int .i64 pos]),recovered:=false}]
theorem EW (e pos:Int):C5 envS 116 [(0, .int .i64 e),(1, .int .i64 pos)]=some [.int .i64 e, .int .i64 pos]:=X
theorem Afh_ (e pos:Int):C5 envS 170 [(0, .agg #[.int .i64 e, .int .i64 pos])]=some [.int .i64 e, .int .i64 pos]:=X
theorem AkZ_ (e pos:Int)(s:St):EP envS 170 (.agg #[.int .i64 e, .int .i64 pos]) s= .some (.iface 170 (.agg #[.int .i64 e, .int .i64 pos])) s:=X
section
variable {R n:Nat}{s:St}{Q:Value->St->Prop}{Jr:List PanicEntry->St->Prop}
theorem GG_ {e:Int}(hb:s.lim<=s.next)(h0:Own s R 0 (.bool true))(h3:Own s R 3 (.int .i64 e))(hn:20<=n)(q: ∀s1,s1.mem=s.mem->s1.next=s.next->Ext Any Non s s1->Q (.bool (!decide (e=0))) s1):W (Ac envS (runF envS n) 135 [.pointer (some ⟨R,0,none⟩)]) s Q:=by
 have hb0:(s.cxN cxN).lim<=(s.cxN cxN).next:=hb
 refine AeE_ λtm h=> ?_
 refine Zg_.u ?_
 simp only[HS_,RR,SS]
 refine AvW_.u ?_
 simp only[Ko_,RR,SS,reduceCtorEq, ↓reduceIte,h,Ki Ta_,Af FF_ al]
 refine aA Fh (h0.same (s':=s.cxN cxN) rfl rfl).at' ?_
 have y1:=(Ext.refl (F:=Any) (G:=Non) (s.cxN cxN)).thenRd hb0 (R+(0+0))
 simp only[SS, ↓reduceIte,CI,Bool.not_true,Bool.false_eq_true,Af OG al,Af Cm al]
 refine aA CF ((h3.same (s':=s.cxN cxN) rfl rfl).same rfl rfl).at' ?_
 simp only[Ag]
 have y2:=y1.thenRd hb0 (R+(0+3+0))
 refine aB (rs:=[2]) (vs:=[.bool (!decide (e=0))]) rfl (.inl Amm_) J TR Awo_ rfl Y ?_
 exact q _ rfl rfl y2.cx'
theorem GU {e pos:Int}(hn:20<=n)(p:Jr (D7 e pos) s):Wx (Ac envS (runF envS n) 138 [.int .i64 e, .int .i64 pos]) s Q Jr:=by
 refine Agi_ λtm h0 h1=> ?_
 refine Ass_.wx (up:=none) rfl J ?_
 simp only[Dz_,RR,CO,FN,CS,D9,RU,Lw,AX,h0,h1,H7 (Ci (EW e pos)),H7 (Ci (Afh_ e pos)),H7 λQ=>AD (AkZ_ e pos _) (Q:=Q)]
 rw[AqG_]
 exact⟨rfl,p⟩
end
theorem Bs.at' {s:St}{v:Value}{l:List Nat}(h:Bs s v l){k:Nat}(hk:k<l.length): ∃b o c,v= .slice (some ⟨b,o,none⟩) l.length c/\At s b (o+k) (u8 l[k])/\BsF v (b+(o+k)):=by
 rcases h with⟨rfl,rfl⟩|⟨b,o,c,rfl,_,_,h3⟩
 ·simp at hk
 ·exact⟨b,o,c,rfl,h3.at (List.getElem?_eq_getElem hk),by show b+o<=_;omega,by show b+(o+k)<b+o+l.length;omega⟩
section
variable {R:Nat}{v:Value}{l:List Nat}{s0:St}{Q:Value×FrameMode->St->Prop}{Jr:List PanicEntry->St->Prop}
theorem AwE_ {at0:Nat}{res:Option (Nat×List Nat)}(hb0:s0.lim<=s0.next)(hcx:s0.cx=cxN)(h1:Own s0 R 1 v)(hB:Bs s0 v l)(hz:l.length<=1000000000)(hby:Byt l)(hdj: ∀x,BsF v x->x≠R+2)
  (q: ∀m r s1,res=some (m,r)->Ext Any (λx=>x=R+2) s0 s1->s1.cx=cxN->r=l.drop (l.length-r.length)->r.length<=l.length->Own s1 R 2 (.int .i64 (l.length-r.length:Nat))->Q (.int .i64 (m:Nat), .run) s1)
  (p: ∀e pos s1,res=none->e≠0->s1.cx=cxN->Ext Any (λx=>x=R+2) s0 s1->(∃u,Own s1 R 2 u)->Jr (D7 e pos) s1):
  ∀(k i a pos n:Nat) (tm:T Value) (s:St) (td:List Item),i+k=5->20*k+60<=n->skim 64 td=KK->Ext Any (λx=>x=R+2) s0 s->Own s R 2 (.int .i64 (pos:Nat))->pos<=l.length->a<128^i->FW k a (l.drop pos)=res->
  T.get tm 0=some (.pointer (some ⟨R,0,none⟩))->T.get tm 3=some (.int .i64 (at0:Nat))->T.get tm 4=some (.int .i64 (a:Nat))->T.get tm 29=some (.int .i64 (i:Nat))->
  Wx (runF envS n ⟨137,Ns,BY,tm,td, .run, .normal,none⟩) s Q Jr:=by
 have over: ∀(n:Nat) (tm:T Value) (s:St) (td:List Item),50<=n->skim 64 td=NM->Ext Any (λx=>x=R+2) s0 s->(∃u,Own s R 2 u)->res=none->T.get tm 3=some (.int .i64 (at0:Nat))->Wx (runF envS n ⟨137,Ns,BY,tm,td, .run, .normal,none⟩) s Q Jr:=by
  intro n tm s td hn hT hx ho hr g3
  refine AtT_.wx (up:=none) hT J ?_
  simp only[KQ_,RR,CO,Dt,CS,D9,DM,Bb,A7,AX,g3]
  exact GU J ⟨hx.cx.trans hcx,p _ _ s hr al (hx.cx.trans hcx) hx ho⟩
 intro k
 induction k with
 |zero=>
  intro i a pos n tm s td hi hn hT hx ho hp ha hr h0 h3 h4 h29
  have hi5:i=5:=J
  subst hi5
  refine Wh.wi hT J ?_
  simp only[Nd,RR,SS,Ab,h29]
  refine Wx.cond (v:=false) rfl KH_ Y J (λh=>by cases h) λ_=> ?_
  exact over _ _ s _ J rfl hx ⟨_,ho⟩ (by rw[<-hr];rfl) (an h3)
 |succ k ih=>
  intro i a pos n tm s td hi hn hT hx ho hp ha hr h0 h3 h4 h29
  have hb:=hx.bnd hb0
  have hB':Bs s v l:=hB.ext hx λx h=>hdj x h
  have h1':Own s R 1 v:=h1.ext hx λh=>J
  have hv1:oneCell v=true:=hB.one
  refine Wh.wi hT J ?_
  simp only[Nd,RR,SS,Ab,h29]
  refine Wx.cond (v:=true) rfl KH_ (by simp[T.get_set];omega) J (λ_=> ?_) λh=>by cases h
  refine WB_.wir rfl J ?_
  simp only[UG,RR,T.get_set,Nat.reduceEqDiff, ↓reduceIte,h0,AA,Aw,Bo,Bi Da al]
  refine aD Ap (ho.same (s':=dSt s.mem s.next) rfl rfl).at' λrd1 _=> ?_
  simp only[Aw,Bo,Bi Et al]
  refine aD BE (h1'.same (s':=dSt s.mem s.next) rfl rfl).at' λrd2 _=> ?_
  simp only[Bb,A7,AX,AA]
  rw[W_dq λs Q=>hB.len' (s':=s) AH Q,AJ]
  refine⟨rfl,am,am,λs1 m1 n1 x1=> ?_⟩
  refine W.cast (AcT_ _ _ _ _ _ _ _ _ _ _ _ _ _ _) ?_
  simp only[SS,Al]
  have hx1:Ext Any (λx=>x=R+2) s0 s1:=hx.trans x1 hb0 (λ_ _ _=>trivial) λ_ _ h=>h.elim
  have ho1:=ho.same m1 n1
  have h11:=h1'.same m1 n1
  have hB1:=hB'.same m1 n1
  by_cases he:pos=l.length
  ·refine Wx.cond (v:=true) rfl CG_ (an he) J (λ_=> ?_) λh=>by cases h
   refine YP_.wx (up:=none) rfl J ?_
   simp only[W3,RR,CO,FN,Dt,CS,D9,DM,MS,T.get_set,Bb,A7,AX,reduceCtorEq, ↓reduceIte,h0,MM_ Et al]
   refine Wx.of (aA BE h11.at' ?_)
   refine Wx.of ?_
   rw[hB.len' AH]
   have hx2:=hx1.thenRd' hb0 (R+(0+1))
   refine GU J ⟨hx2.cx.trans hcx,p _ _ _ ?_ al (hx2.cx.trans hcx) hx2 ⟨_,ho1.same rfl rfl⟩⟩
   rw[<-hr,List.drop_of_length_le J]
   rfl
  ·have hlt:pos<l.length:=J
   obtain⟨vb,vo,vc,ev,hat,hatF⟩:=hB1.at' hlt
   have hd:l.drop pos=l[pos]::l.drop (pos+1):=(List.getElem_cons_drop ..).symm
   have hc256:l[pos]<256:=hby _ (List.getElem_mem hlt)
   obtain⟨c,hc⟩: ∃c,l[pos]=c:=⟨_,rfl⟩
   rw[hd,hc]at hr
   rw[hc]at hat hc256
   have hr':(if 128<=c then FW k (a*128+c%128) (l.drop (pos+1))else if 2147483647<a*128+c%128 then none else some (a*128+c%128,l.drop (pos+1)))=res:=hr
   have ha':a*128+c%128<128^(i+1):=by
    rw[Nat.pow_succ]
    have:c%128<128:=Nat.mod_lt _ al
    omega
   have hi4:i<=4:=J
   have hpw:128^(i+1)<=128^5:=Nat.pow_le_pow_right al J
   have hpw':128^(i+1)<=34359738368:=hpw
   refine Wx.cond (v:=false) rfl CG_ (by simp[T.get_set];omega) J (λh=>by cases h) λ_=> ?_
   refine ArE_.wir rfl J ?_
   simp only[VW,RR,T.get_set,Nat.reduceEqDiff, ↓reduceIte,h0,AA,Aw,Bo,Bi Et al]
   refine aD BE (h11.same (s':=dSt s1.mem s1.next) rfl rfl).at' λrd3 _=> ?_
   simp only[Aw,Bo,Bi Da al]
   refine aD Ap (ho1.same (s':=dSt s1.mem s1.next) rfl rfl).at' λrd4 _=> ?_
   simp only[ev]
   rw[W_dq λs Q=>AO (s:=s) AH hlt Q]
   simp only[AA]
   refine aD (o:=vo+pos*1) Dd (v:=u8 c) (by rw[Nat.mul_one];exact hat.same (s':=dSt s1.mem s1.next) rfl rfl) λrd5 _=> ?_
   rw[AJ]
   refine⟨rfl,am,am,λs2 m2 n2 x2=> ?_⟩
   refine W.cast (AhA_ _ _ _ _ _ _ _ _ _ _ _ _ _ _ _) ?_
   try simp only[SS]
   have hx2:Ext Any (λx=>x=R+2) s0 s2:=hx1.trans x2 hb0 (λ_ _ _=>trivial) λ_ _ h=>h.elim
   have hb2:=hx2.bnd hb0
   have ho2:=ho1.same m2 n2
   refine Ym_.wi rfl J ?_
   simp only[Bp_,RR,SS,reduceCtorEq, ↓reduceIte,h0,Af Da al]
   refine aA Ap ho2.at' ?_
   have ep:wrap64 ((pos:Nat)+1:Int)=((pos+1:Nat):Int):=by
    rw[AN J J];simp
   simp only[Ad,ep]
   refine aI Ap rfl (ho2.same rfl rfl) λs3 n3 x3 o3=> ?_
   have hx3:Ext Any (λx=>x=R+2) s0 s3:=(hx2.thenRd' hb0 (R+(0+2))).trans x3 hb0 (λ_ _ _=>trivial) λy _ hy=>by
    have h1:=hy.1
    have h2:=hy.2
    omega
   have o3':Own s3 R 2 (.int .i64 (pos+1:Nat)):=o3
   refine Aaz_.wi rfl J ?_
   simp only[In_,RR,SS,Nat.reduceEqDiff, ↓reduceIte,h4]
   rw[AjP_ J]
   rw[Uh]
   rw[DA AmT_ BW_]
   have ew:IntKind.i64.wrap ((c%128:Nat):Int)=((c%128:Nat):Int):=wrap_i64 _ J
   rw[ew,AcD_ (Nat.mod_lt _ al) J]
   refine AqO_.wi rfl J ?_
   simp only[MD_,RR,SS,Nat.reduceEqDiff, ↓reduceIte]
   rw[ApA_]
   by_cases h128:128<=c
   ·rw[if_pos h128]at hr'
    refine Wx.cond (v:=true) rfl Fz_ (an h128) J (λ_=> ?_) λh=>by cases h
    refine AuG_.wi rfl J ?_
    have ei:=eiW (i:=i) J
    simp only[Fa_,RR,SS,Nat.reduceEqDiff, ↓reduceIte,Ad,h29,ei]
    exact ih (i+1) (a*128+c%128) (pos+1) _ _ s3 _ J J AjM_ hx3 o3' J ha' hr' (an h0) (an h3) Y Y
   ·rw[if_neg h128]at hr'
    refine Wx.cond (v:=false) rfl Fz_ (an h128) J (λh=>by cases h) λ_=> ?_
    refine AqV_.wi rfl J ?_
    simp only[Jr_,RR,SS,Nat.reduceEqDiff, ↓reduceIte,Ae]
    by_cases hmx:2147483647<a*128+c%128
    ·rw[if_pos hmx]at hr'
     refine Wx.cond (v:=true) rfl BI_ (by simp[T.get_set];omega) J (λ_=> ?_) λh=>by cases h
     exact over _ _ s3 _ J AlH_ hx3 ⟨_,o3'⟩ hr'.symm (an h3)
    ·rw[if_neg hmx]at hr'
     refine Wx.cond (v:=false) rfl BI_ (by simp[T.get_set];omega) J (λh=>by cases h) λ_=> ?_
     refine AtC_.wi rfl J ?_
     simp only[U0,RR,SS,Nat.reduceEqDiff, ↓reduceIte]
     have hdl:(l.drop (pos+1)).length=l.length-(pos+1):=List.length_drop
     have e1:l.length-(l.drop (pos+1)).length=pos+1:=J
     refine Wx.of (aB (rs:=[2]) (vs:=[.int .i64 (a*128+c%128:Nat)]) rfl (.inl Wm_) J Ds_ Aip_ (hx3.cx.trans hcx) Y ?_)
     exact q _ _ s3 hr'.symm hx3 (hx3.cx.trans hcx) (by rw[e1]) J (by rw[e1];exact o3')
end
section
variable {R n:Nat}{v:Value}{l:List Nat}{s:St}{Q:Value->St->Prop}{Jr:List PanicEntry->St->Prop}
theorem AuX_ {at0:Nat}(hb:s.lim<=s.next)(h1:Own s R 1 v)(hB:Bs s v l)(h2:Own s R 2 (.int .i64 (at0:Nat)))(hat:at0<=l.length)(hz:l.length<=1000000000)(hby:Byt l)(hdj: ∀x,BsF v x->x≠R+2)(hn:200<=n)
  (q: ∀m r s1,numR (l.drop at0)=some (m,r)->Ext Any (λx=>x=R+2) s s1->r=l.drop (l.length-r.length)->r.length<=l.length->Own s1 R 2 (.int .i64 (l.length-r.length:Nat))->Q (.int .i64 (m:Nat)) s1)
  (p: ∀e pos s1,numR (l.drop at0)=none->e≠0->Ext Any (λx=>x=R+2) s s1->(∃u,Own s1 R 2 u)->Jr (D7 e pos) s1):Wx (Ac envS (runF envS n) 137 [.pointer (some ⟨R,0,none⟩)]) s Q Jr:=by
 have hb0:(s.cxN cxN).lim<=(s.cxN cxN).next:=hb
 refine ApP_ λtm h0=> ?_
 refine AhP_.wi rfl J ?_
 simp only[RW_,RR,SS]
 refine Amj_.wi rfl J ?_
 simp only[TA_,RR,SS,reduceCtorEq, ↓reduceIte,h0,Af Da al]
 have h2':Own (s.cxN cxN) R 2 (.int .i64 (at0:Nat)):=h2.same rfl rfl
 have h1':Own (s.cxN cxN) R 1 v:=h1.same rfl rfl
 have hB':Bs (s.cxN cxN) v l:=hB.same rfl rfl
 refine aA Ap h2'.at' ?_
 have x0:Ext Any (λx=>x=R+2) (s.cxN cxN) (s.cxN cxN):=Ext.refl _
 have x1:=x0.thenRd' hb0 (R+(0+2))
 have endG: ∀(c:Bool),(c=false->(l.drop at0).head?≠some 128)->(c=true->(l.drop at0).head?=some 128)-> ∀(n':Nat) (tm':T Value) (s':St) (td':List Item),n<=n'+20->skim 64 td'=IQ->Ext Any (λx=>x=R+2) (s.cxN cxN) s'->Own s' R 2 (.int .i64 (at0:Nat))->T.get tm' 26=some (.bool c)->T.get tm' 0=some (.pointer (some ⟨R,0,none⟩))->T.get tm' 3=some (.int .i64 (at0:Nat))->T.get tm' 4=some (.int .i64 0)->
   Wx (runF envS n' ⟨137,Ns,BY,tm',td', .run, .normal,none⟩) s' (λp s1=>Q p.1 (s1.cxN s.cx)) λc s1=>Jr c (s1.cxN s.cx):=by
  intro c c0 c1 n' tm' s' td' hn' hT' x' o' g26 g0 g3 g4
  cases c with
  |true=>
   refine Wx.cond (v:=true) hT' DI_ g26 J (λ_=> ?_) λh=>by cases h
   refine AaF_.wx (up:=none) rfl J ?_
   simp only[NW_,RR,CO,Dt,CS,D9,DM,Bb,A7,AX,g3]
   exact GU J ⟨x'.cx,p _ _ _ (by unfold numR;rw[if_pos (c1 rfl)]) al x'.cx' ⟨_,o'.same rfl rfl⟩⟩
  |false=>
   refine Wx.cond (v:=false) hT' DI_ g26 J (λh=>by cases h) λ_=> ?_
   refine AvZ_.wi rfl J ?_
   simp only[DA_,RR,SS]
   refine AwE_ (s0:=s.cxN cxN) (at0:=at0) (res:=numR (l.drop at0)) hb0 rfl h1' hB' hz hby hdj (λm r s1 e x c hr hl o=> ?_) (λe pos s1 er he c x o=> ?_) 5 0 0 at0 _ _ s' _ J J rfl x' o' hat al ?_ (an g0) (an g3) (an g4) Y
   ·exact q m r _ e x.cx' hr hl (o.same rfl rfl)
   ·exact p e pos _ er he x.cx' (o.imp λu h=>h.same rfl rfl)
   ·unfold numR
    rw[if_neg (c0 rfl)]
 refine Alt_.wi rfl J ?_
 simp only[VA_,RR,SS,Nat.reduceEqDiff,reduceCtorEq, ↓reduceIte,h0,Af Et al]
 refine aA BE (h1'.same rfl rfl).at' ?_
 have x2:=x1.thenRd' hb0 (R+(0+1))
 rw[hB.len' AH]
 simp only[A4,Dl,B9,Ab]
 by_cases hlt:at0<l.length
 ·have ec:decide (((at0:Nat):Int)<((l.length:Nat):Int))=true:=decide_eq_true J
  simp only[SS,ec, ↓reduceIte,Af Et al]
  refine aA BE (h1'.same rfl rfl).at' ?_
  have x3:=x2.thenRd' hb0 (R+(0+1))
  obtain⟨vb,vo,vc,ev,hat',_⟩:=hB'.at' hlt
  simp only[ev,AO AH hlt]
  refine aA (o:=vo+at0*1) Dd (v:=u8 l[at0]) (by rw[Nat.mul_one];exact hat'.same rfl rfl) ?_
  have x4:=x3.thenRd' hb0 (vb+(vo+at0*1))
  rw[UF]
  have hd:l.drop at0=l[at0]::l.drop (at0+1):=(List.getElem_cons_drop ..).symm
  refine endG (decide (l[at0]=128)) (λh e=> ?_) (λh=> ?_) _ _ _ _ J rfl x4 (h2'.same rfl rfl) Y (an h0) Y Y
  ·rw[hd]at e
   injection e with e
   rw[e]at h
   cases h
  ·rw[hd,of_decide_eq_true h]
   rfl
 ·have ec:decide (((at0:Nat):Int)<((l.length:Nat):Int))=false:=decide_eq_false J
  simp only[ec,AJ,Dc,Cx,reduceCtorEq, ↓reduceIte]
  refine endG false (λ_ e=> ?_) (λh=>by cases h) _ _ _ _ J rfl x2 (h2'.same rfl rfl) Y (an h0) Y Y
  rw[List.drop_of_length_le J]at e
  cases e
def bndR (lo hi:Nat)(l:List Nat):Option (Nat×List Nat):=match numR l with|none=>none|some (m,r)=>if hi<m\/m<lo then none else some (m,r)
theorem SU_ {at0 lo hi:Nat}{above:Int}(ha:above≠0)(hb:s.lim<=s.next)(h1:Own s R 1 v)(hB:Bs s v l)(h2:Own s R 2 (.int .i64 (at0:Nat)))(hat:at0<=l.length)(hz:l.length<=1000000000)(hby:Byt l)(hdj: ∀x,BsF v x->x≠R+2)(hn:300<=n)
  (q: ∀m r s1,bndR lo hi (l.drop at0)=some (m,r)->Ext Any (λx=>x=R+2) s s1->r=l.drop (l.length-r.length)->r.length<=l.length->Own s1 R 2 (.int .i64 (l.length-r.length:Nat))->Q (.int .i64 (m:Nat)) s1)
  (p: ∀e pos s1,bndR lo hi (l.drop at0)=none->e≠0->Ext Any (λx=>x=R+2) s s1->(∃u,Own s1 R 2 u)->Jr (D7 e pos) s1):Wx (Ac envS (runF envS n) 120 [.pointer (some ⟨R,0,none⟩), .int .i64 (lo:Nat), .int .i64 (hi:Nat), .int .i64 above]) s Q Jr:=by
 have hb0:(s.cxN cxN).lim<=(s.cxN cxN).next:=hb
 refine XA_ λtm h0 k1 k2 k3=> ?_
 refine Aht_.wi rfl J ?_
 simp only[Dv_,RR,SS]
 refine Aec_.wi rfl J ?_
 simp only[Zr,RR,SS,reduceCtorEq, ↓reduceIte,h0,Af Da al]
 have h2':Own (s.cxN cxN) R 2 (.int .i64 (at0:Nat)):=h2.same rfl rfl
 have h1':Own (s.cxN cxN) R 1 v:=h1.same rfl rfl
 have hB':Bs (s.cxN cxN) v l:=hB.same rfl rfl
 refine aA Ap h2'.at' ?_
 have x0:Ext Any (λx=>x=R+2) (s.cxN cxN) (s.cxN cxN):=Ext.refl _
 have x1:=x0.thenRd' hb0 (R+(0+2))
 refine Aia_.wx (up:=none) rfl J ?_
 simp only[Pb_,RR,CO,Dt,CS,D9,Wf,DM,T.get_set,Bb,A7,AX,reduceCtorEq, ↓reduceIte,h0]
 refine AuX_ (s:=(s.cxN cxN).rdN (R+(0+2))) hb0 (h1'.same rfl rfl) (hB'.same rfl rfl) (h2'.same rfl rfl) hat hz hby hdj J (λm r s1 e x hr hl o=> ?_) (λe pos s1 er he x o=> ?_)
 ·have x2:Ext Any (λx=>x=R+2) (s.cxN cxN) s1:=x1.trans x hb0 (λ_ _ _=>trivial) λ_ _ h=>h
  refine AmH_.wi rfl J ?_
  simp only[Zo,RR,SS,Nat.reduceEqDiff, ↓reduceIte,Ae,k2]
  by_cases c1:hi<m
  ·refine Wx.cond (v:=true) rfl EL_ (by simp[T.get_set];omega) J (λ_=> ?_) λh=>by cases h
   refine Anq_.wx (up:=none) rfl J ?_
   simp only[EK_,RR,CO,Dt,CS,D9,DM,T.get_set,Bb,A7,AX,Nat.reduceEqDiff, ↓reduceIte,k3]
   exact GU J ⟨x2.cx,p _ _ _ (by unfold bndR;rw[e];simp only;rw[if_pos (.inl c1)]) ha x2.cx' ⟨_,o.same rfl rfl⟩⟩
  ·refine Wx.cond (v:=false) rfl EL_ (by simp[T.get_set];omega) J (λh=>by cases h) λ_=> ?_
   refine Aur_.wi rfl J ?_
   simp only[Ys,RR,SS,Nat.reduceEqDiff, ↓reduceIte,Ab,k1]
   by_cases c2:m<lo
   ·refine Wx.cond (v:=true) rfl Ah_ (by simp[T.get_set];omega) J (λ_=> ?_) λh=>by cases h
    refine AnO_.wx (up:=none) rfl J ?_
    simp only[Tk,RR,CO,Dt,CS,D9,DM,T.get_set,Bb,A7,AX,Nat.reduceEqDiff, ↓reduceIte]
    exact GU J ⟨x2.cx,p _ _ _ (by unfold bndR;rw[e];simp only;rw[if_pos (.inr c2)]) al x2.cx' ⟨_,o.same rfl rfl⟩⟩
   ·refine Wx.cond (v:=false) rfl Ah_ (by simp[T.get_set];omega) J (λh=>by cases h) λ_=> ?_
    refine AbK_.wi rfl J ?_
    simp only[Eo_,RR,SS,Nat.reduceEqDiff, ↓reduceIte]
    refine Wx.of (aB (rs:=[8]) (vs:=[.int .i64 (m:Nat)]) rfl (.inl AtA_) J Nr_ Aly_ x2.cx Y ?_)
    exact q m r _ (by unfold bndR;rw[e];simp only;rw[if_neg J]) x2.cx' hr hl (o.same rfl rfl)
 ·have x2:Ext Any (λx=>x=R+2) (s.cxN cxN) s1:=x1.trans x hb0 (λ_ _ _=>trivial) λ_ _ h=>h
  exact⟨x2.cx,p e pos _ (by unfold bndR;rw[er]) he x2.cx' (o.imp λu h=>h.same rfl rfl)⟩
end
theorem Wx.w {α:Type}{m:M α}{s:St}{Q:α->St->Prop}(h:Wx m s Q λ_ _=>False):W m s Q:=h.elim id λ⟨_,_,_,f⟩=>f.elim
section
variable {R n:Nat}{v:Value}{l:List Nat}{s:St}{Q:Value->St->Prop}{Jr:List PanicEntry->St->Prop}
theorem KZ_ {at0:Nat}(hb:s.lim<=s.next)(h1:Own s R 1 v)(hB:Bs s v l)(h2:Own s R 2 (.int .i64 (at0:Nat)))(hat:at0<=l.length)(hz:l.length<=1000000000)(hdj: ∀x,BsF v x->x≠R+2)(hn:100<=n)
  (q:at0+16<=l.length-> ∀s1 b c,Ext Any (λx=>x=R+2) s s1->Own s1 R 2 (.int .i64 (at0+16:Nat))->s.next<=b->Aa s1 b 0 (u8l ((l.take (at0+16)).drop at0))->Q (.slice (some ⟨b,0,none⟩) 16 c) s1)
  (p:l.length<at0+16-> ∀e pos s1,e≠0->Ext Any (λx=>x=R+2) s s1->(∃u,Own s1 R 2 u)->Jr (D7 e pos) s1):Wx (Ac envS (runF envS n) 141 [.pointer (some ⟨R,0,none⟩), .int .i64 16]) s Q Jr:=by
 have hb0:(s.cxN cxN).lim<=(s.cxN cxN).next:=hb
 refine AeR_ λtm h0 k1=> ?_
 refine Apn_.wi rfl J ?_
 simp only[QK_,RR,SS]
 have h2':Own (s.cxN cxN) R 2 (.int .i64 (at0:Nat)):=h2.same rfl rfl
 have h1':Own (s.cxN cxN) R 1 v:=h1.same rfl rfl
 have hB':Bs (s.cxN cxN) v l:=hB.same rfl rfl
 have es:wrap64 ((l.length:Nat)-(at0:Nat):Int)=((l.length-at0:Nat):Int):=by
  rw[AN J J];omega
 refine Atl_.wir rfl J ?_
 simp only[X4,RR,T.get_set,Nat.reduceEqDiff, ↓reduceIte,h0,k1,AA,Aw,Bo,Bi Et al]
 refine aD BE (h1'.same (s':=dSt (s.cxN cxN).mem (s.cxN cxN).next) rfl rfl).at' λrd1 _=> ?_
 simp only[Bb,A7,AX,AA]
 rw[W_dq λs Q=>hB.len' (s':=s) AH Q]
 simp only[Aw,Bo,Bi Da al]
 refine aD Ap (h2'.same (s':=dSt (s.cxN cxN).mem (s.cxN cxN).next) rfl rfl).at' λrd2 _=> ?_
 simp only[AA]
 rw[W_dq λs Q=>Ah (s:=s) ((l.length:Nat):Int) ((at0:Nat):Int),es,AJ]
 refine⟨rfl,am,am,λs1 m1 n1 x1=> ?_⟩
 refine W.cast (XW_ _ _ _ _ _ _ _ _ _ _ _ _ _ _ _ _) ?_
 simp only[SS,Ae]
 have hx1:Ext Any (λx=>x=R+2) (s.cxN cxN) s1:=x1.weak hb0 (λ_ _ h=>h) λ_ _ h=>h.elim
 have h21:=h2'.same m1 n1
 have h11:=h1'.same m1 n1
 have hB1:=hB'.same m1 n1
 by_cases hc:at0+16<=l.length
 ·refine Wx.cond (v:=false) rfl Ve (by simp[T.get_set];omega) J (λh=>by cases h) λ_=> ?_
  refine Avk_.wi rfl J ?_
  simp only[BG_,RR,SS,Nat.reduceEqDiff,reduceCtorEq, ↓reduceIte,h0,k1,Af Da al]
  refine aA Ap h21.at' ?_
  have ep:wrap64 ((at0:Nat)+16:Int)=((at0+16:Nat):Int):=by
   rw[AN J J];simp
  simp only[Ad,ep]
  refine aI Ap rfl (h21.same rfl rfl) λs2 n2 x2 o2=> ?_
  have hx2:Ext Any (λx=>x=R+2) (s.cxN cxN) s2:=(hx1.thenRd' hb0 (R+(0+2))).trans x2 hb0 (λ_ _ _=>trivial) λy _ hy=>by
   have h1:=hy.1
   have h2:=hy.2
   omega
  have o2':Own s2 R 2 (.int .i64 (at0+16:Nat)):=o2
  have h12:Own s2 R 1 v:=h1'.ext hx2 λh=>J
  have hB2:Bs s2 v l:=hB'.ext hx2 λx h=>hdj x h
  have hb2:=hx2.bnd hb0
  have hn02:(s.cxN cxN).next<=s2.next:=hx2.nxt
  have hm16:((l.take (at0+16)).drop at0).length=16:=by rw[List.length_drop,List.length_take];omega
  obtain⟨vb,vo,vc,ev,g1,g2,g3⟩: ∃b o c,v= .slice (some ⟨b,o,none⟩) l.length c/\l.length<=c%capU/\Cc c 1=true/\Row s2 b o (u8l l):=by
   rcases hB2 with⟨_,rfl⟩|h
   ·simp at hc
   ·exact h
  obtain⟨vo',e1,e2,e3,e4,e5⟩:=Bs.sub' (i:=at0) (j:=at0+16) J hc g1 g2 g3
  rw[hm16]at e1
  refine Awu_.wx (up:=none) rfl J ?_
  simp only[Th_,RR,T.get_set,Nat.reduceEqDiff, ↓reduceIte,h0,k1,AA,BH,Aw,Bo,Bi Et al]
  refine aD BE (h12.same (s':=dSt s2.mem s2.next) rfl rfl).at' λrd3 hr3=> ?_
  simp only[Aw,Bo,Bi Da al]
  refine aD Ap (o2'.same (s':=dSt s2.mem s2.next) rfl rfl).at' λrd4 hr4=> ?_
  have eb:wrap64 (((at0+16:Nat):Int)-16)=((at0:Nat):Int):=by
   rw[AN J J];omega
  simp only[Aw]
  rw[W_dq λs Q=>Ah (s:=s) ((at0+16:Nat):Int) 16,eb]
  simp only[Aw,Bo,Bi Da al]
  refine aD Ap (o2'.same (s':=dSt s2.mem s2.next) rfl rfl).at' λrd5 hr5=> ?_
  simp only[BH,AX,ev]
  rw[W_dq λs Q=>FL (s:=s) AH (l:=at0) (h:=at0+16) rfl rfl J J g2 Q,show at0+16-at0=16 by omega]
  rw[show at0+16-at0=16 by omega]at e1
  simp only[Bb,A7,AX,AA]
  rw[e1]
  refine W.dopG ?_
  rw[CD]
  have hrow:Row (oSt s2.mem s2.next) vb vo' (u8l ((l.take (at0+16)).drop at0)):=λi u h=>(e4 i u h).same rfl rfl
  refine W.appNil (s:=oSt s2.mem s2.next) (Nat.le_refl _) Dr (n:=16) (D0 (n:=16) (c:=vc-at0) hrow (by rw[AQ,hm16])).g al al al al (by rw[AQ,hm16]) (CG _) λs3 w wb hf x3=>⟨_,_,x3,λrd6 wr6 hr6 hw6=> ?_⟩
  have hn3:s2.next<=s3.next:=x3.nxt
  have hwr:wr6=[]:=by
   cases wr6 with
   |nil=>rfl
   |cons y _=>exact(hw6 y am).2.elim
  subst hwr
  rw[AJ]
  refine⟨E8 ?_, ?_⟩
  ·simp only[List.reverse_cons,List.reverse_nil,List.nil_append,List.cons_append,allP,Ds,List.take,Eo]
   have lts: ∀x,s2.next<=x-> ¬x<s2.next:=λx h=>J
   simp+contextual [lts]
   repeat' first
    |exact .inl rfl
    |apply And.intro
  ·refine Wx.cast (Aos_ _ _ _ _ _ _ _ _ _ _ _ _ _ _ _ _ _ _ _ _ _) ?_
   simp only[CO,FN,CS,SV]
   generalize hs':(⟨(dSt s3.mem s3.next).mem,(dSt s3.mem s3.next).next,s2.lim,_,_,s2.cx⟩:St)=s4
   have m4:s4.mem=s3.mem:=by rw[<-hs'];rfl
   have n4:s4.next=s3.next:=by rw[<-hs'];rfl
   have x4:Ext (λ_=>True) Non s2 s4:=by
    rw[<-hs']
    refine aR (by show s2.next<=s3.next;omega) (λx hx _=>x3.mem x hx id) ?_ λ_ _ _ _ _=>trivial
    simp only[List.mem_cons,List.not_mem_nil,or_false]
    rintro m (rfl|rfl|rfl|rfl|rfl|rfl|rfl|rfl|rfl|rfl|rfl|rfl|rfl|rfl|rfl|rfl) x hx hl<;>cases hx
   have hx4:Ext Any (λx=>x=R+2) (s.cxN cxN) s4:=hx2.trans x4 hb0 (λ_ _ _=>trivial) λ_ _ h=>h.elim
   refine Wx.of (aB (rs:=[4]) (vs:=[w]) rfl (.inl Agk_) J Cc_ AkP_ hx4.cx Y ?_)
   have hv:=hf.val
   rw[hv]
   have hnew:s2.next<=wb:=hf.new
   exact q hc _ wb _ hx4.cx' ((o2'.ext0 x4).same rfl rfl) (Nat.le_trans hn02 hnew) λi u e=>((hf.own i u e).same m4 n4).same rfl rfl
 ·refine Wx.cond (v:=true) rfl Ve (by simp[T.get_set];omega) J (λ_=> ?_) λh=>by cases h
  refine AjC_.wx (up:=none) rfl J ?_
  simp only[XP,RR,CO,FN,Dt,CS,D9,DM,MS,T.get_set,Bb,A7,AX,reduceCtorEq, ↓reduceIte,h0,MM_ Et al]
  refine Wx.of (aA BE h11.at' ?_)
  refine Wx.of ?_
  rw[hB.len' AH]
  have hx2:=hx1.thenRd' hb0 (R+(0+1))
  exact GU J ⟨hx2.cx,p J _ _ _ al hx2.cx' ⟨_,h21.same rfl rfl⟩⟩
end
theorem Xv_:DZ envS 170=some [.int .i64 0, .int .i64 0]:=X
theorem Atz_:fldN envS 170 0=some (0,2,true):=X
theorem AmS_:tyS envS 170=some (2,true):=X
theorem AcQ_ (xo yo:Operand)(t:Nat)(s:St):Cl.get (aBin envS .eql 20 (.tmp 5) (.const .nilIface)) .nilIface .nilIface s= .some (.bool true) s:=X
theorem Atv_ (e pos:Int)(s:St):Cl.get (aBin envS .eql 20 (.tmp 5) (.const .nilIface)) (.iface 170 (.agg #[.int .i64 e, .int .i64 pos])) .nilIface s= .some (.bool false) s:=X
theorem AqP_ (e pos:Int)(s:St):ET envS 170 true (.iface 170 (.agg #[.int .i64 e, .int .i64 pos])) s= .some (.tuple #[.agg #[.int .i64 e, .int .i64 pos], .bool true]) s:=X
section
variable {R n A B:Nat}{s:St}{Q:Value×FrameMode->St->Prop}
theorem AbC_ (a b:Value):T.get (BM Dk [a,b] 0 .E) 0=some a:=X
theorem Awg_ (a b:Value):T.get (BM Dk [a,b] 0 .E) 1=some b:=X
theorem AqW_ {mo:FrameMode}(hb:s.lim<=s.next)(hm:recM mo=none)(hcx:s.cx= .cx (some mo) (some []))(hn:20<=n)(q:Q (tupV [],mo) s):
  W (runF envS n ⟨136,Fp_,Dk,BM Dk [.pointer (some ⟨A,0,none⟩), .pointer (some ⟨B,0,none⟩)] 0 .E,[.code I8], .run, .deferred,none⟩) s Q:=by
 refine Ub_.u ?_
 simp only[Mf,RR,SS]
 refine W.recover0 hcx hm ?_
 refine Fq_.u ?_
 simp only[Oz,RR,SS, ↓reduceIte]
 rw[AD (AcQ_ (.tmp 0) (.tmp 0) 0 s)]
 refine aH La_ ?_
 refine Afy_.u ?_
 simp only[LH_,RR,SS,Nat.reduceEqDiff, ↓reduceIte]
 exact aT rfl (.inr X) J J4 Yu hcx (aN q)
theorem AhB_ {e pos:Int}{at0:Int}(hb:s.lim<=s.next)(hcx:s.cx= .cx (some (.panicking (D7 e pos))) (some []))(hA:Own s A 0 (.int .i64 at0))(hB:Own s B 0 (.pointer (some ⟨R,0,none⟩)))(hAB:A≠R+2/\A≠R+3/\A≠R+4)(hBB:B≠R+2/\B≠R+3/\B≠R+4)
  (h2: ∃u,Own s R 2 u) (h3: ∃u,Own s R 3 u) (h4: ∃u,Own s R 4 u) (hn:40<=n)
  (q: ∀s1,Ext Any (λx=>x=R+2\/x=R+3\/x=R+4) (s.cxN cxN) (s1.cxN cxN)->Own s1 R 2 (.int .i64 at0)->Own s1 R 3 (.int .i64 e)->Own s1 R 4 (.int .i64 pos)->Q (tupV [], .panicking [{v:= .iface 170 (.agg #[.int .i64 e, .int .i64 pos]),recovered:=true}]) s1):
  W (runF envS n ⟨136,Fp_,Dk,BM Dk [.pointer (some ⟨A,0,none⟩), .pointer (some ⟨B,0,none⟩)] 0 .E,[.code I8], .run, .deferred,none⟩) s Q:=by
 have t0:=AbC_ (.pointer (some ⟨A,0,none⟩)) (.pointer (some ⟨B,0,none⟩))
 have t1:=Awg_ (.pointer (some ⟨A,0,none⟩)) (.pointer (some ⟨B,0,none⟩))
 generalize BM Dk [.pointer (some ⟨A,0,none⟩), .pointer (some ⟨B,0,none⟩)] 0 .E=tm at *
 refine Ub_.u ?_
 simp only[Mf,RR,SS]
 refine W.recover (v:= .iface 170 (.agg #[.int .i64 e, .int .i64 pos])) (older:=[]) (d:=[]) hcx ?_
 obtain⟨s0,hs0⟩: ∃s0,s0=s.cxN (.cx (some (.panicking [{v:= .iface 170 (.agg #[.int .i64 e, .int .i64 pos]),recovered:=true}])) (some [])):=⟨_,rfl⟩
 rw[<-hs0]
 have c0:s0.cx= .cx (some (.panicking [{v:= .iface 170 (.agg #[.int .i64 e, .int .i64 pos]),recovered:=true}])) (some []):=by rw[hs0];rfl
 have m0:s0.mem=s.mem:=by rw[hs0];rfl
 have n0:s0.next=s.next:=by rw[hs0];rfl
 have b0:s0.lim<=s0.next:=by rw[hs0];exact hb
 have e0:s0.cxN cxN=s.cxN cxN:=by rw[hs0];rfl
 have hA0:=hA.same m0 n0
 have hB0:=hB.same m0 n0
 obtain⟨u2,h2⟩:=h2
 obtain⟨u3,h3⟩:=h3
 obtain⟨u4,h4⟩:=h4
 have h20:=h2.same m0 n0
 have h30:=h3.same m0 n0
 have h40:=h4.same m0 n0
 refine Fq_.u ?_
 simp only[Oz,RR,SS, ↓reduceIte]
 rw[AD (Atv_ e pos s0)]
 refine aE La_ ?_
 refine Awd_.u ?_
 simp only[RC_,RR,SS,Nat.reduceEqDiff, ↓reduceIte]
 rw[AD (AqP_ e pos s0)]
 rw[A3 (k:=1) rfl]
 rw[A3 (k:=0) rfl]
 refine aH AeB_ ?_
 refine Ars_.u ?_
 simp only[Gs_,RR,SS,Nat.reduceEqDiff, ↓reduceIte]
 refine W.alloc Xv_ λs1 n1 x1 o1=> ?_
 refine W.store AmS_ (v:= .agg #[.int .i64 e, .int .i64 pos]) rfl rfl (λj hj=>Aa.owned o1 j (by simpa using hj)) λs2 n2 x2 o2=> ?_
 have n1':s1.next=s0.next+3:=n1
 have x02:Ext Any Non s0 s2:=(x1.any b0).trans x2 b0 (λ_ _ _=>trivial) λy hy h=>by
  have h1:=h.1
  omega
 refine ArT_.u ?_
 simp only[VD_,RR,SS,Nat.reduceEqDiff,reduceCtorEq, ↓reduceIte,t0,t1]
 refine aA Dq (hB0.ext0 x02).at' ?_
 have x03:=x02.thenRd b0 (B+(0+0))
 try simp only[Ga]
 refine aA Dq ((hB0.ext0 x02).same rfl rfl).at' ?_
 have x04:=x03.thenRd b0 (B+(0+0))
 simp only[Ga,Af Atz_ al]
 have o2':Aa s2 s0.next 0 [.int .i64 e, .int .i64 pos]:=o2
 refine aJ BQ (l:=[.int .i64 e, .int .i64 pos]) (o:=0+0) (λi u h=>((o2' i u h).same rfl rfl).at') rfl λs5 m5 n5 x5=> ?_
 have x05:Ext Any Non s0 s5:=x04.then0 x5 b0
 refine aA Ap (hA0.ext0 x05).at' ?_
 have x06:=x05.thenRd b0 (A+(0+0))
 simp only[Af OG al]
 refine W.store BQ (o:=0+3) (v:= .agg #[.int .i64 e, .int .i64 pos]) rfl rfl (λj hj=> ?_) λs7 n7 x7 o7=> ?_
 ·match j,hj with
  |0,_=>exact⟨u3,(h30.ext0 x06)⟩
  |1,_=>exact⟨u4,(h40.ext0 x06)⟩
 have x07:Ext Any (λx=>x=R+2\/x=R+3\/x=R+4) s0 s7:=(x06.weak b0 (λ_ _ h=>h) λ_ _ h=>h.elim).trans x7 b0 (λ_ _ _=>trivial) λy _ hy=>by
  have h1:=hy.1
  have h2:y<R+(0+3)+2:=hy.2
  omega
 have hs6:(s5.rdN (A+(0+0))).next=s5.next:=rfl
 have h26:Own s7 R 2 u2:=(h20.ext0 x06).ext x7 λh=>by
  have h1:=h.1
  omega
 simp only[Af Da al]
 refine aI Ap rfl h26 λs8 n8 x8 o8=> ?_
 have x08:Ext Any (λx=>x=R+2\/x=R+3\/x=R+4) s0 s8:=x07.trans x8 b0 (λ_ _ _=>trivial) λy _ hy=>by
  have h1:=hy.1
  have h2:=hy.2
  omega
 have o7a:Own s7 R 3 (.int .i64 e):=o7 0 _ rfl
 have o7b:Own s7 R 4 (.int .i64 pos):=o7 1 _ rfl
 refine aT ArG_ (.inr X) J J4 Yu (x08.cx.trans c0) (aN ?_)
 refine q s8 ?_ o8 (o7a.ext x8 λh=>by have h2:=h.2;omega) (o7b.ext x8 λh=>by have h2:=h.2;omega)
 rw[<-e0]
 exact⟨x08.nxt,x08.lim,rfl,x08.mem,x08.rd,x08.wr⟩
end
theorem Wx.p {α:Type}{m:M α}{s:St}{R:List PanicEntry->St->Prop}(h:Wx m s (λ_ _=>False) R):Wp m s R:=h.elim (λ⟨_,_,_,f⟩=>f.elim) id
theorem W.leaveD' {E:Env}{n f nt g:Nat}{tm:T Value}{ki:CallKind}{s:St}{Q:Value×FrameMode->St->Prop}{mo md:FrameMode}{todo:List Item}{d:Deferred}{ds:List Deferred}{up:Option FrameMode}{df:Nat}{cap:Array Value}{fn:Func}{body:Code}{dn dg:Nat}(h0:0<n)(hmo:mo≠ .run)(hcx:s.cx= .cx up (some (d::ds)))(hd:d.target= .fn (.func df) cap)
  (hf:E.fn.get df=some fn) (hb:fn.body=some body) (hn:fn.ntmps=dn) (hg:Ao fn=dg) (ha:(d.args.toList++cap.toList).length<=dn)
  (h:W (runF E (n-1) ⟨df,dn,dg,BM dg (d.args.toList++cap.toList) 0 .E,[.code body], .run, .deferred,none⟩) (s.cxN (.cx (some mo) (some []))) λp s1=>EI p.2=md/\md≠ .run/\W (runF E (n-1) ⟨f,nt,g,tm,todo,md,ki,none⟩) (s1.cxN (.cx up (some ds))) Q):
  W (runF E n ⟨f,nt,g,tm,todo,mo,ki,none⟩) s Q:=by
 obtain⟨m,rfl⟩: ∃m,n=m+1:=⟨n-1,J⟩
 rw[Nat.add_sub_cancel]at h
 exact W.leaveD hmo hcx hd hf hb hn hg ha h
theorem W.defer' {s:St}{f:Nat}{first cap:Array Value}{args:List Value}{up:Option FrameMode}{d:List Deferred}{Q:Value->St->Prop}(hcx:s.cx= .cx up (some d))(q: ∀s1,s1=s.cxN (.cx up (some ({target:= .fn (.func f) cap,args:=first++args.toArray}::d)))->Q undef s1):W (Fx (.func (.func f) first cap) args) s Q:=W.defer hcx (q _ rfl)
theorem Apo_ {s:St}{call round:Ai}{f:Nat}{cap:Array Value}{l:List Value}(Q:Value->St->Prop):W (Ba call round (.func (.func f) #[] cap) l) s Q=W (call f (l++cap.toList)) s Q:=by
 show W (call f ([]++(l++cap.toList))) s Q=_
 rw[List.nil_append]
abbrev RdG (R:Nat):Nat->Prop:=λx=>x=R+2\/x=R+3\/x=R+4
theorem Ext.cxs {F G:Nat->Prop}{s s':St}(h:Ext F G s s')(c c':Ctx):Ext F G (s.cxN c) (s'.cxN c):=⟨h.nxt,h.lim,rfl,h.mem,h.rd,h.wr⟩
section
variable {R n f2:Nat}{cap:Array Value}{s:St}{Q:Value->St->Prop}{e at0:Int}
theorem RX (hb:s.lim<=s.next)(h0:Own s R 0 (.bool true))(h3:Own s R 3 (.int .i64 e))(he:e≠0)(hn:100<=n)(q: ∀u s1,Ext Any Non s s1->Q u s1):W (Ac envS (runF envS n) 118 [.pointer (some ⟨R,0,none⟩), .func (.func f2) #[] cap]) s Q:=by
 have hb0:(s.cxN cxN).lim<=(s.cxN cxN).next:=hb
 refine HL_ λtm k0 k1=> ?_
 refine Or_.u ?_
 simp only[MD,RR,SS,k0]
 refine W.box λs1 n1 x1 o1=> ?_
 have y1:Ext Any Non (s.cxN cxN) s1:=x1.any hb0
 have o1':Own s1 s.next 0 (.pointer (some ⟨R,0,none⟩)):=o1 0 _ rfl
 refine Nz_.u ?_
 simp only[PI,RR,SS, ↓reduceIte]
 refine aA Dq o1'.at' ?_
 have y2:=y1.thenRd hb0 ((s.cxN cxN).next+(0+0))
 have h0':Own s1 R 0 (.bool true):=(h0.same (s':=s.cxN cxN) rfl rfl).ext0 y1
 have h3':Own s1 R 3 (.int .i64 e):=(h3.same (s':=s.cxN cxN) rfl rfl).ext0 y1
 refine GG_ (y2.bnd hb0) (h0'.same rfl rfl) (h3'.same rfl rfl) J λs3 m3 n3 x3=> ?_
 have y3:=y2.then0 x3 hb0
 refine aH Ag_ ?_ rfl (an he)
 exact aT rfl (.inl Asx_) J LE NN y3.cx (aN (q _ _ y3.cx'))
theorem Qb {G:Nat->Prop}{Φ Ψ:St->Prop}(hb:s.lim<=s.next)(h0:Own s R 0 (.bool true))(h2:Own s R 2 (.int .i64 at0))(h3:Own s R 3 (.int .i64 0))(h4: ∃u,Own s R 4 u)(hG: ∀x,G x->x<s.next/\x≠R+3/\x≠R+4)(hn:100<=n)
  (run: ∀n' s2,n<=n'+20->s2.lim<=s2.next->Ext Any Non (s.cxN cxN) (s2.cxN cxN)->Wx (Ac envS (runF envS n') f2 cap.toList) s2 (λ_ s3=>Ext Any G s2 s3/\Φ s3) λc s3=> ∃e pos,c=D7 e pos/\e≠0/\Ext Any G s2 s3/\(∃u,Own s3 R 2 u)/\Ψ s3)
  (q1: ∀u s3 s4,Φ s3->s4.mem=s3.mem->s4.next=s3.next->Ext Any G s s4->Q u s4)
  (q2: ∀u s3 s4 e pos,e≠0->Ψ s3->Ext Any (RdG R) (s3.cxN cxN) (s4.cxN cxN)->Ext Any (λx=>G x\/RdG R x) s s4->Own s4 R 2 (.int .i64 at0)->Own s4 R 3 (.int .i64 e)->Own s4 R 4 (.int .i64 pos)->Q u s4):
  W (Ac envS (runF envS n) 118 [.pointer (some ⟨R,0,none⟩), .func (.func f2) #[] cap]) s Q:=by
 have hb0:(s.cxN cxN).lim<=(s.cxN cxN).next:=hb
 refine HL_ λtm k0 k1=> ?_
 refine Or_.u ?_
 simp only[MD,RR,SS,k0]
 refine W.box λs1 n1 x1 o1=> ?_
 have y1:Ext Any Non (s.cxN cxN) s1:=x1.any hb0
 have n1':s1.next=s.next+2:=n1
 have o1':Own s1 s.next 0 (.pointer (some ⟨R,0,none⟩)):=o1 0 _ rfl
 refine Nz_.u ?_
 simp only[PI,RR,SS, ↓reduceIte]
 refine aA Dq o1'.at' ?_
 have y2:=y1.thenRd hb0 ((s.cxN cxN).next+(0+0))
 have h0':Own s1 R 0 (.bool true):=(h0.same (s':=s.cxN cxN) rfl rfl).ext0 y1
 have h3':Own s1 R 3 (.int .i64 0):=(h3.same (s':=s.cxN cxN) rfl rfl).ext0 y1
 have h2':Own s1 R 2 (.int .i64 at0):=(h2.same (s':=s.cxN cxN) rfl rfl).ext0 y1
 refine GG_ (y2.bnd hb0) (h0'.same rfl rfl) (h3'.same rfl rfl) J λs3 m3 n3 x3=> ?_
 have y3:=y2.then0 x3 hb0
 have n3':s3.next=s.next+2:=by rw[n3];exact n1'
 have o3:Own s3 s.next 0 (.pointer (some ⟨R,0,none⟩)):=(o1'.same (s':=s1.rdN ((s.cxN cxN).next+(0+0))) rfl rfl).same m3 n3
 have h23:Own s3 R 2 (.int .i64 at0):=(h2'.same (s':=s1.rdN ((s.cxN cxN).next+(0+0))) rfl rfl).same m3 n3
 try simp only[SS]
 refine aE Ag_ ?_
 refine AxN_.u ?_
 simp only[Qn_,RR,SS,Nat.reduceEqDiff, ↓reduceIte]
 refine aA Dq o3.at' ?_
 have y4:=y3.thenRd hb0 ((s.cxN cxN).next+(0+0))
 simp only[Ga,Af Da al]
 refine aA Ap (h23.same rfl rfl).at' ?_
 have y5:=y4.thenRd hb0 (R+(0+2))
 refine W.alloc Sd λs6 n6 x6 o6=> ?_
 have y6:=y5.then0 x6 hb0
 have n6':s6.next=s3.next+2:=n6
 have o6':Own s6 s3.next 0 (.int .i64 0):=o6 0 _ rfl
 refine aI (b:=s3.next) (o:=0) Ap rfl o6' λs7 n7 x7 o7=> ?_
 have y7:Ext Any Non (s.cxN cxN) s7:=y6.trans x7 hb0 (λ_ _ _=>trivial) λy hy h=>by
  have h1:=h.1
  have h2:=y3.nxt
  omega
 have hb7:=y7.bnd hb0
 have n7':s7.next=s.next+4:=J
 have oA:Own s7 s3.next 0 (.int .i64 at0):=o7
 have oB:Own s7 s.next 0 (.pointer (some ⟨R,0,none⟩)):=by
  refine((((o3.same (s':=s3.rdN ((s.cxN cxN).next+(0+0))) rfl rfl).same (s':=(s3.rdN ((s.cxN cxN).next+(0+0))).rdN (R+(0+2))) rfl rfl).ext0 x6).ext x7 λh=> ?_)
  have h1:=h.1
  omega
 refine Afn_.u ?_
 simp only[X7,RR,SS,Nat.reduceEqDiff, ↓reduceIte]
 refine W.defer' y7.cx λs8 hs8=> ?_
 have c8:s8.cx= .cx none (some [{target:= .fn (.func 136) [.pointer (some ⟨s3.next,0,none⟩), .pointer (some ⟨s.next,0,none⟩)].toArray,args:=[].toArray++[].toArray}]):=by rw[hs8];rfl
 have m8:s8.mem=s7.mem:=by rw[hs8];rfl
 have n8:s8.next=s7.next:=by rw[hs8];rfl
 have b8:s8.lim<=s8.next:=by rw[hs8];exact hb7
 have y8:Ext Any Non (s.cxN cxN) (s8.cxN cxN):=by
  have:s8.cxN cxN=s7.cxN cxN:=by rw[hs8];rfl
  rw[this]
  exact y7.cxs cxN cxN
 have oA8:=oA.same m8 n8
 have oB8:=oB.same m8 n8
 have hRb: ∀k u,Own s R k u->R+k<s.next:=λk u h=>h.1
 have r2:=hRb 2 _ h2
 have r3:=hRb 3 _ h3
 obtain⟨u4,h4⟩:=h4
 have r4:=hRb 4 _ h4
 have s3n:s3.next=s.next+2:=n3'
 have hbody:Try.f136.body=some I8:=X
 rcases run (n-1-1-1-1-1-1) s8 J b8 y8 with hw|hp
 ·refine Et_.u ?_
  simp only[Sb,RR,SS,Nat.reduceEqDiff, ↓reduceIte,k1]
  rw[Apo_]
  refine hw.mono λu s9 h=> ?_
  obtain⟨x9,hΦ⟩:=h
  have c9:s9.cx=s8.cx:=x9.cx
  have y9:Ext Any G (s.cxN cxN) (s9.cxN cxN):=(y8.weak hb0 (λ_ _ h=>h) λ_ _ h=>h.elim).trans (x9.cxs cxN cxN) hb0 (λ_ _ _=>trivial) λ_ _ h=>h
  refine W.toR rfl (.inr X) J ?_
  refine W.leaveD' (md:= .returning) J am (c9.trans c8) rfl J4 hbody rfl rfl am ?_
  refine AqW_ (y9.bnd hb0) rfl rfl J ⟨rfl,am, ?_⟩
  refine W.outR J LE NN rfl (aN ?_)
  exact q1 _ s9 _ hΦ rfl rfl (y9.cxs s.cx s.cx)
 ·refine Et_.p rfl J (Wx.p ?_)
  simp only[Sb,RR,CO,Dt,CS,D9,T.get_set,A7,Nat.reduceEqDiff, ↓reduceIte,k1]
  rw[AgX_]
  refine .inr (hp.mono λc s9 h=> ?_)
  obtain⟨e,pos,rfl,he,x9,h29,hΨ⟩:=h
  have c9:s9.cx=s8.cx:=x9.cx
  have y9:Ext Any G (s.cxN cxN) (s9.cxN cxN):=(y8.weak hb0 (λ_ _ h=>h) λ_ _ h=>h.elim).trans (x9.cxs cxN cxN) hb0 (λ_ _ _=>trivial) λ_ _ h=>h
  have oA9:Own s9 s3.next 0 (.int .i64 at0):=oA8.ext x9 λh=>by have:=(hG _ h).1;omega
  have oB9:Own s9 s.next 0 (.pointer (some ⟨R,0,none⟩)):=oB8.ext x9 λh=>by have:=(hG _ h).1;omega
  have h39:Own s9 R 3 (.int .i64 0):=((h3.same (s':=s.cxN cxN) rfl rfl).ext y9 λh=>(hG _ h).2.1 rfl).same rfl rfl
  have h49:Own s9 R 4 u4:=((h4.same (s':=s.cxN cxN) rfl rfl).ext y9 λh=>(hG _ h).2.2 rfl).same rfl rfl
  obtain⟨u2,h29⟩:=h29
  refine W.leaveD' (md:= .returning) J am (c9.trans c8) rfl J4 hbody rfl rfl am ?_
  refine AhB_ (s:=s9.cxN _) (e:=e) (pos:=pos) (at0:=at0) (y9.bnd hb0) rfl (oA9.same rfl rfl) (oB9.same rfl rfl) J J ⟨u2,h29.same rfl rfl⟩ ⟨_,h39.same rfl rfl⟩ ⟨_,h49.same rfl rfl⟩ J λs10 x10 g2 g3 g4=>⟨rfl,am, ?_⟩
  refine W.outR J LE NN rfl (aN ?_)
  have y10:Ext Any (λx=>G x\/RdG R x) (s.cxN cxN) (s10.cxN cxN):=(y9.weak hb0 (λ_ _ h=>h) λ_ _ h=> .inl h).trans x10 hb0 (λ_ _ _=>trivial) λ_ _ h=> .inr h
  exact q2 _ s9 _ e pos he hΨ x10 (y10.cxs s.cx s.cx) (g2.same rfl rfl) (g3.same rfl rfl) (g4.same rfl rfl)
end
section
variable {parts:List (Value×List Nat)}{b o c:Nat}
end
section
variable {parts:List (Value×List Nat)}{b o c:Nat}
end
section
variable {E:Env}{s:St}{t:Nat}{xo yo:Operand}
end
section
variable {E:Env}{s s':St}{t:Nat}{xo yo:Operand}
theorem MkS.bs {l:List Nat}{v:Value}{b:Nat}(h:MkS s 1 l.length (u8l l) v b)(hn:l.length<capU):Bs s v l:=by
 rcases h with⟨rfl,h0,_⟩|⟨h,_⟩
 ·exact .inl ⟨rfl,List.eq_nil_of_length_eq_zero h0⟩
 ·refine .inr ⟨b,0,_,h.val, ?_,Gs hn al,λi u e=>(h.own i u e).at'⟩
  rw[Nat.mul_add_mod,Nat.mod_eq_of_lt hn]
  exact Nat.le_refl _
theorem MkS.bsF {n:Nat}{l:List Value}{v:Value}{b:Nat}(h:MkS s 1 n l v b): ∀x,BsF v x->MkF 1 n b x:=by
 intro x hx
 rcases h with⟨rfl,_,_⟩|⟨h,h0⟩
 ·exact hx.elim
 ·rw[h.val]at hx
  have h1:b+0<=x:=hx.1
  have h2:x<b+0+n:=hx.2
  exact⟨h0,J,J⟩
end
theorem Ky (lo hi:Nat)(r:List Nat):rInt lo hi (some r)=match bndR lo hi r with|none=>(0,none)|some (m,r')=>(m,some r'):=by
 unfold rInt bndR
 simp only
 cases numR r with
 |none=>rfl
 |some p=>
  obtain⟨m,r'⟩:=p
  simp only
  split<;>rfl
def RdSt (s:St)(R:Nat)(l:List Nat):Rd->Prop
 |some r=>Own s R 2 (.int .i64 (l.length-r.length:Nat))/\Own s R 3 (.int .i64 0)/\(∃p:Int,Own s R 4 (.int .i64 p))/\r=l.drop (l.length-r.length)/\r.length<=l.length
 |none=> ∃at0 e p:Int,Own s R 2 (.int .i64 at0)/\Own s R 3 (.int .i64 e)/\Own s R 4 (.int .i64 p)/\e≠0
structure RdI (s:St)(R:Nat)(v:Value)(l:List Nat)(st:Rd):Prop where
 o0:Own s R 0 (.bool true)
 o1:Own s R 1 v
 st:RdSt s R l st
 bs:Bs s v l
 dj: ∀x,BsF v x-> ¬(R<=x/\x<R+5)
 lt: ∀x,BsF v x->x<s.next
 rt:R+4<s.next
theorem RdSt.ext {F G:Nat->Prop}{s s':St}{R:Nat}{l:List Nat}{st:Rd}(h:RdSt s R l st)(x:Ext F G s s')(hG: ∀y,R<=y/\y<R+5-> ¬G y):RdSt s' R l st:=by
 cases st with
 |some r=>
  obtain⟨h2,h3,⟨p,h4⟩,h5⟩:=h
  exact⟨h2.ext x (hG _ J),h3.ext x (hG _ J),⟨p,h4.ext x (hG _ J)⟩,h5⟩
 |none=>
  obtain⟨a,e,p,h2,h3,h4,he⟩:=h
  exact⟨a,e,p,h2.ext x (hG _ J),h3.ext x (hG _ J),h4.ext x (hG _ J),he⟩
theorem RdSt.same {s s':St}{R:Nat}{l:List Nat}{st:Rd}(h:RdSt s R l st)(hm:s'.mem=s.mem)(hn:s'.next=s.next):RdSt s' R l st:=by
 cases st with
 |some r=>
  obtain⟨h2,h3,⟨p,h4⟩,h5⟩:=h
  exact⟨h2.same hm hn,h3.same hm hn,⟨p,h4.same hm hn⟩,h5⟩
 |none=>
  obtain⟨a,e,p,h2,h3,h4,he⟩:=h
  exact⟨a,e,p,h2.same hm hn,h3.same hm hn,h4.same hm hn,he⟩
theorem RdI.ext {F G:Nat->Prop}{s s':St}{R:Nat}{v:Value}{l:List Nat}{st:Rd}(h:RdI s R v l st)(x:Ext F G s s')(hG: ∀y,(R<=y/\y<R+5)\/BsF v y-> ¬G y):RdI s' R v l st:=
 ⟨h.o0.ext x (hG _ (.inl J)),h.o1.ext x (hG _ (.inl J)),h.st.ext x λy hy=>hG y (.inl hy),h.bs.ext x λy hy=>hG y (.inr hy),h.dj,λy hy=>Nat.lt_of_lt_of_le (h.lt y hy) x.nxt,Nat.lt_of_lt_of_le h.rt x.nxt⟩
theorem RdI.ext0 {F:Nat->Prop}{s s':St}{R:Nat}{v:Value}{l:List Nat}{st:Rd}(h:RdI s R v l st)(x:Ext F Non s s'):RdI s' R v l st:=h.ext x λ_ _=>id
theorem RdI.same {s s':St}{R:Nat}{v:Value}{l:List Nat}{st:Rd}(h:RdI s R v l st)(hm:s'.mem=s.mem)(hn:s'.next=s.next):RdI s' R v l st:=
 ⟨h.o0.same hm hn,h.o1.same hm hn,h.st.same hm hn,h.bs.same hm hn,h.dj,λy hy=>by rw[hn];exact h.lt y hy,by rw[hn];exact h.rt⟩
section
variable {R n:Nat}{v:Value}{l:List Nat}{s:St}{Q:Value->St->Prop}{Jr:List PanicEntry->St->Prop}
theorem AhS_ {B L H N at0 lo hi:Nat}(hb:s.lim<=s.next)(hB:Own s B 0 (.pointer (some ⟨R,0,none⟩)))(hL:Own s L 0 (.int .i64 (lo:Nat)))(hH:Own s H 0 (.int .i64 (hi:Nat)))(hN:Own s N 0 (.int .i64 0))(hNR:N≠R+2)
  (h1:Own s R 1 v) (hBs:Bs s v l) (h2:Own s R 2 (.int .i64 (at0:Nat))) (hat:at0<=l.length) (hz:l.length<=1000000000) (hby:Byt l) (hdj: ∀x,BsF v x->x≠R+2) (hn:400<=n)
  (q: ∀u m r s1,bndR lo hi (l.drop at0)=some (m,r)->Ext Any (λx=>x=R+2\/x=N) s s1->r=l.drop (l.length-r.length)->r.length<=l.length->Own s1 R 2 (.int .i64 (l.length-r.length:Nat))->Own s1 N 0 (.int .i64 (m:Nat))->Q u s1)
  (p: ∀e pos s1,bndR lo hi (l.drop at0)=none->e≠0->Ext Any (λx=>x=R+2\/x=N) s s1->(∃u,Own s1 R 2 u)->Own s1 N 0 (.int .i64 0)->Jr (D7 e pos) s1):
  Wx (Ac envS (runF envS n) 139 [.pointer (some ⟨B,0,none⟩), .pointer (some ⟨L,0,none⟩), .pointer (some ⟨H,0,none⟩), .pointer (some ⟨N,0,none⟩)]) s Q Jr:=by
 have hb0:(s.cxN cxN).lim<=(s.cxN cxN).next:=hb
 refine Abe_ λtm k0 k1 k2 k3=> ?_
 refine Ahk_.wx (up:=none) rfl J ?_
 simp only[Sy_,RR,CO,FN,Dt,CS,DM,Bb,A7,AX,k0,k1,k2,k3]
 have x0:Ext Any (λx=>x=R+2\/x=N) (s.cxN cxN) (s.cxN cxN):=Ext.refl _
 refine Wx.of (aA Dq (hB.same (s':=s.cxN cxN) rfl rfl).at' ?_)
 have x1:=x0.thenRd' hb0 (B+(0+0))
 refine Wx.of (aA Ap (hL.same rfl rfl).at' ?_)
 have x2:=x1.thenRd' hb0 (L+(0+0))
 refine Wx.of (aA Ap (hH.same rfl rfl).at' ?_)
 have x3:=x2.thenRd' hb0 (H+(0+0))
 refine SU_ (at0:=at0) al (x3.bnd hb0) (h1.same rfl rfl) (hBs.same rfl rfl) (h2.same rfl rfl) hat hz hby hdj J (λm r s1 e x hr hl o=> ?_) (λe pos s1 er he x o=> ?_)
 ·have x4:Ext Any (λx=>x=R+2\/x=N) (s.cxN cxN) s1:=x3.trans x hb0 (λ_ _ _=>trivial) λ_ _ h=> .inl h
  have hN1:Own s1 N 0 (.int .i64 0):=(hN.same (s':=(((s.cxN cxN).rdN (B+(0+0))).rdN (L+(0+0))).rdN (H+(0+0))) rfl rfl).ext x λh=>hNR h
  refine Wx.of (aI Ap rfl hN1 λs2 n2 x5 o5=> ?_)
  have x6:Ext Any (λx=>x=R+2\/x=N) (s.cxN cxN) s2:=x4.trans x5 hb0 (λ_ _ _=>trivial) λy _ hy=> .inr (by have h1:=hy.1;have h2:=hy.2;omega)
  refine Wx.of (aT rfl (.inr X) J NQ_ AoX_ x6.cx (aN ?_))
  exact q _ m r _ e x6.cx' hr hl ((o.ext x5 λh=>by have h1:=h.1;have h2:=h.2;omega).same rfl rfl) (o5.same rfl rfl)
 ·have x4:Ext Any (λx=>x=R+2\/x=N) (s.cxN cxN) s1:=x3.trans x hb0 (λ_ _ _=>trivial) λ_ _ h=> .inl h
  have hN1:Own s1 N 0 (.int .i64 0):=(hN.same (s':=(((s.cxN cxN).rdN (B+(0+0))).rdN (L+(0+0))).rdN (H+(0+0))) rfl rfl).ext x λh=>hNR h
  exact⟨x4.cx,p e pos _ er he x4.cx' (o.imp λu h=>h.same rfl rfl) (hN1.same rfl rfl)⟩
theorem AtQ_ {B H N at0 hi:Nat}(hb:s.lim<=s.next)(hB:Own s B 0 (.pointer (some ⟨R,0,none⟩)))(hH:Own s H 0 (.int .i64 (hi:Nat)))(hN:Own s N 0 (.int .i64 0))(hNR:N≠R+2)
  (h1:Own s R 1 v) (hBs:Bs s v l) (h2:Own s R 2 (.int .i64 (at0:Nat))) (hat:at0<=l.length) (hz:l.length<=1000000000) (hby:Byt l) (hdj: ∀x,BsF v x->x≠R+2) (hn:400<=n)
  (q: ∀u m r s1,bndR 0 hi (l.drop at0)=some (m,r)->Ext Any (λx=>x=R+2\/x=N) s s1->r=l.drop (l.length-r.length)->r.length<=l.length->Own s1 R 2 (.int .i64 (l.length-r.length:Nat))->Own s1 N 0 (.int .i64 (m:Nat))->Q u s1)
  (p: ∀e pos s1,bndR 0 hi (l.drop at0)=none->e≠0->Ext Any (λx=>x=R+2\/x=N) s s1->(∃u,Own s1 R 2 u)->Own s1 N 0 (.int .i64 0)->Jr (D7 e pos) s1):
  Wx (Ac envS (runF envS n) 119 [.pointer (some ⟨B,0,none⟩), .pointer (some ⟨H,0,none⟩), .pointer (some ⟨N,0,none⟩)]) s Q Jr:=by
 have hb0:(s.cxN cxN).lim<=(s.cxN cxN).next:=hb
 refine And_ λtm k0 k1 k2=> ?_
 refine WD_.wx (up:=none) rfl J ?_
 simp only[KC_,RR,CO,FN,Dt,CS,DM,Bb,A7,AX,k0,k1,k2]
 have x0:Ext Any (λx=>x=R+2\/x=N) (s.cxN cxN) (s.cxN cxN):=Ext.refl _
 refine Wx.of (aA Dq (hB.same (s':=s.cxN cxN) rfl rfl).at' ?_)
 have x1:=x0.thenRd' hb0 (B+(0+0))
 refine Wx.of (aA Ap (hH.same rfl rfl).at' ?_)
 have x3:=x1.thenRd' hb0 (H+(0+0))
 refine SU_ (at0:=at0) (lo:=0) al (x3.bnd hb0) (h1.same rfl rfl) (hBs.same rfl rfl) (h2.same rfl rfl) hat hz hby hdj J (λm r s1 e x hr hl o=> ?_) (λe pos s1 er he x o=> ?_)
 ·have x4:Ext Any (λx=>x=R+2\/x=N) (s.cxN cxN) s1:=x3.trans x hb0 (λ_ _ _=>trivial) λ_ _ h=> .inl h
  have hN1:Own s1 N 0 (.int .i64 0):=(hN.same (s':=((s.cxN cxN).rdN (B+(0+0))).rdN (H+(0+0))) rfl rfl).ext x λh=>hNR h
  refine Wx.of (aI Ap rfl hN1 λs2 n2 x5 o5=> ?_)
  have x6:Ext Any (λx=>x=R+2\/x=N) (s.cxN cxN) s2:=x4.trans x5 hb0 (λ_ _ _=>trivial) λy _ hy=> .inr (by have h1:=hy.1;have h2:=hy.2;omega)
  refine Wx.of (aT rfl (.inr X) J V4 AbE_ x6.cx (aN ?_))
  exact q _ m r _ e x6.cx' hr hl ((o.ext x5 λh=>by have h1:=h.1;have h2:=h.2;omega).same rfl rfl) (o5.same rfl rfl)
 ·have x4:Ext Any (λx=>x=R+2\/x=N) (s.cxN cxN) s1:=x3.trans x hb0 (λ_ _ _=>trivial) λ_ _ h=> .inl h
  have hN1:Own s1 N 0 (.int .i64 0):=(hN.same (s':=((s.cxN cxN).rdN (B+(0+0))).rdN (H+(0+0))) rfl rfl).ext x λh=>hNR h
  exact⟨x4.cx,p e pos _ er he x4.cx' (o.imp λu h=>h.same rfl rfl) (hN1.same rfl rfl)⟩
end
theorem RdI.adv {G:Nat->Prop}{s s':St}{R:Nat}{v:Value}{l r r':List Nat}(h:RdI s R v l (some r))(x:Ext Any G s s')(hG: ∀y,G y->y=R+2\/(¬(R<=y/\y<R+5)/\ ¬BsF v y))(o:Own s' R 2 (.int .i64 (l.length-r'.length:Nat)))(e1:r'=l.drop (l.length-r'.length))(e2:r'.length<=l.length):RdI s' R v l (some r'):=by
 obtain⟨g2,g3,⟨p,g4⟩,_,_⟩:=h.st
 have k: ∀j,j<5->j≠2-> ¬G (R+j):=λj hj hj2 g=>by
  rcases hG _ g with g|g
  ·omega
  ·exact g.1 J
 exact⟨h.o0.ext x (k 0 J J),h.o1.ext x (k 1 J J),⟨o,g3.ext x (k 3 J J),⟨p,g4.ext x (k 4 J J)⟩,e1,e2⟩,h.bs.ext x λy hy g=>by
  rcases hG y g with g|g
  ·exact h.dj y hy J
  ·exact g.2 hy,h.dj,λy hy=>Nat.lt_of_lt_of_le (h.lt y hy) x.nxt,Nat.lt_of_lt_of_le h.rt x.nxt⟩
theorem RdI.flt {G:Nat->Prop}{s s':St}{R:Nat}{v:Value}{l r:List Nat}{a e p:Int}(h:RdI s R v l (some r))(x:Ext Any G s s')(hG: ∀y,G y->RdG R y\/(¬(R<=y/\y<R+5)/\ ¬BsF v y))(o2:Own s' R 2 (.int .i64 a))(o3:Own s' R 3 (.int .i64 e))(o4:Own s' R 4 (.int .i64 p))(he:e≠0):RdI s' R v l none:=by
 have k: ∀j,j<2-> ¬G (R+j):=λj hj g=>by
  rcases hG _ g with g|g
  ·omega
  ·exact g.1 J
 exact⟨h.o0.ext x (k 0 J),h.o1.ext x (k 1 J),⟨a,e,p,o2,o3,o4,he⟩,h.bs.ext x λy hy g=>by
  rcases hG y g with g|g
  ·exact h.dj y hy J
  ·exact g.2 hy,h.dj,λy hy=>Nat.lt_of_lt_of_le (h.lt y hy) x.nxt,Nat.lt_of_lt_of_le h.rt x.nxt⟩
section
variable {R n:Nat}{v:Value}{l:List Nat}{s:St}{Q:Value->St->Prop}{st:Rd}
theorem Lp {lo hi:Nat}(hb:s.lim<=s.next)(h:RdI s R v l st)(hz:l.length<=1000000000)(hby:Byt l)(hn:600<=n)
  (q: ∀s1,Ext Any (RdG R) s s1->RdI s1 R v l (rInt lo hi st).2->Q (.int .i64 ((rInt lo hi st).1:Nat)) s1):W (Ac envS (runF envS n) 121 [.pointer (some ⟨R,0,none⟩), .int .i64 (lo:Nat), .int .i64 (hi:Nat)]) s Q:=by
 have hb0:(s.cxN cxN).lim<=(s.cxN cxN).next:=hb
 refine AsG_ λtm k0 k1 k2=> ?_
 refine AeA_.u ?_
 simp only[Z7,RR,SS,Nat.reduceEqDiff, ↓reduceIte,k0]
 refine W.box λs1 n1 x1 o1=> ?_
 have o1':Own s1 s.next 0 (.pointer (some ⟨R,0,none⟩)):=o1 0 _ rfl
 have n1':s1.next=s.next+2:=n1
 have y1:Ext Any Non (s.cxN cxN) s1:=x1.any hb0
 try simp only[SS,k1]
 refine W.box λs2 n2 x2 o2=> ?_
 have o2':Own s2 s1.next 0 (.int .i64 (lo:Nat)):=o2 0 _ rfl
 have n2':s2.next=s1.next+2:=n2
 have y2:=y1.then0 x2 hb0
 try simp only[SS,k2]
 refine W.box λs3 n3 x3 o3=> ?_
 have o3':Own s3 s2.next 0 (.int .i64 (hi:Nat)):=o3 0 _ rfl
 have n3':s3.next=s2.next+2:=n3
 have y3:=y2.then0 x3 hb0
 refine W.alloc Sd λs4 n4 x4 o4=> ?_
 have oN:Own s4 s3.next 0 (.int .i64 0):=o4 0 _ rfl
 have n4':s4.next=s3.next+2:=n4
 have y4:=y3.then0 x4 hb0
 have oB:Own s4 s.next 0 (.pointer (some ⟨R,0,none⟩)):=((o1'.ext0 x2).ext0 x3).ext0 x4
 have oL:Own s4 s1.next 0 (.int .i64 (lo:Nat)):=(o2'.ext0 x3).ext0 x4
 have oH:Own s4 s2.next 0 (.int .i64 (hi:Nat)):=o3'.ext0 x4
 have h4:RdI s4 R v l st:=(h.same (s':=s.cxN cxN) rfl rfl).ext0 y4
 have hb4:=y4.bnd hb0
 have hRt:R+4<s.next:=h.rt
 have fin: ∀(n':Nat) (tm':T Value) (s5:St) (td':List Item),10<=n'->skim 64 td'=Nv->Ext Any (RdG R) (s.cxN cxN) s5->RdI s5 R v l (rInt lo hi st).2->Own s5 s3.next 0 (.int .i64 ((rInt lo hi st).1:Nat))->T.get tm' 6=some (.pointer (some ⟨s3.next,0,none⟩))->
   W (runF envS n' ⟨121,Adq_,Ia,tm',td', .run, .normal,none⟩) s5 λp s1=>Q p.1 (s1.cxN s.cx):=by
  intro n' tm' s5 td' hn' hT' y5 h5 o5 g6
  refine Apq_.u ?_ hT'
  simp only[Cx_,RR,SS,g6]
  refine aA Ap o5.at' ?_
  have y6:=y5.thenRd' hb0 (s3.next+(0+0))
  refine aI (b:=s3.next) (o:=0) Ap rfl (o5.same rfl rfl) λs7 n7 x7 o7=> ?_
  have hnx:=y4.nxt
  have hs3:s.next<=s3.next:=y3.nxt
  have y7:Ext Any (RdG R) (s.cxN cxN) s7:=y6.trans x7 hb0 (λ_ _ _=>trivial) λy hy hh=>by
   have h1:=hh.1
   have h2:y<s.next:=hy
   omega
  have h7:RdI s7 R v l (rInt lo hi st).2:=(h5.same (s':=s5.rdN (s3.next+(0+0))) rfl rfl).ext x7 λy hy hh=>by
   have h1:=hh.1
   rcases hy with hy|hy
   ·omega
   ·have:=h.lt y hy
    omega
  refine W.endC rfl (.inl AnU_) J UB_ AbG_ y7.cx (by simpa [T.get_set]using g6) ?_
  refine aA (o:=0) Ap o7.at' ?_
  exact q _ (y7.thenRd' hb0 (s3.next+0)).cx' (h7.same rfl rfl)
 refine AqN_.u ?_
 simp only[Lk_,RR,SS,Nat.reduceEqDiff, ↓reduceIte]
 refine aA Dq oB.at' ?_
 have y5:=y4.thenRd hb0 (s.next+(0+0))
 have y5':Ext Any Non s4 (s4.rdN (s.next+(0+0))):=(Ext.refl (F:=Any) (G:=Non) s4).thenRd hb4 _
 obtain⟨s5,hs5⟩: ∃s5,s5=s4.rdN (s.next+(0+0)):=⟨_,rfl⟩
 have b5:s5.lim<=s5.next:=by rw[hs5];exact y5.bnd hb0
 have n5:s5.next=s4.next:=by rw[hs5];rfl
 have z5:Ext Any Non s4 s5:=by rw[hs5];exact y5'
 have y55:Ext Any Non (s.cxN cxN) s5:=by rw[hs5];exact y5
 have h5:=h4.ext0 z5
 have oB5:=oB.ext0 z5
 have oL5:=oL.ext0 z5
 have oH5:=oH.ext0 z5
 have oN5:=oN.ext0 z5
 rw[show((s4.rdN ((s.cxN cxN).next+(0+0))):St)=s5 from hs5.symm]
 cases st with
 |none=>
  obtain⟨a,e,p,g2,g3,g4,he⟩:=h5.st
  refine RX b5 h5.o0 g3 he J λu s6 x6=> ?_
  exact fin _ _ s6 _ J rfl ((y55.then0 x6 hb0).weak hb0 (λ_ _ h=>h) λ_ _ h=>h.elim) (h5.ext0 x6) (oN5.ext0 x6) Y
 |some r=>
  obtain⟨g2,g3,⟨p4,g4⟩,hr,hrl⟩:=h5.st
  refine Qb (G:=λx=>x=R+2\/x=s3.next) (Φ:=λs7=> ∃m r',bndR lo hi r=some (m,r')/\r'=l.drop (l.length-r'.length)/\r'.length<=l.length/\Own s7 R 2 (.int .i64 (l.length-r'.length:Nat))/\Own s7 s3.next 0 (.int .i64 (m:Nat))) (Ψ:=λs7=>bndR lo hi r=none/\Own s7 s3.next 0 (.int .i64 0)) b5 h5.o0 g2 g3 ⟨_,g4⟩ (λx hx=>J) J (λn' s6 hn' b6 x6=> ?_) (λu s7 s8 hΦ m8 n8 x8=> ?_) λu s7 s8 e pos he hΨ x78 x8 o82 o83 o84=> ?_
  ·have z6:Ext Any Non s5 (s6.cxN s5.cx):=x6.cxs s5.cx s5.cx
   refine AhS_ (s:=s6) (B:=s.next) (L:=s1.next) (H:=s2.next) (N:=s3.next) (lo:=lo) (hi:=hi) (at0:=l.length-r.length) b6 ((oB5.ext0 z6).same rfl rfl) ((oL5.ext0 z6).same rfl rfl) ((oH5.ext0 z6).same rfl rfl) ((oN5.ext0 z6).same rfl rfl) J ((h5.o1.ext0 z6).same rfl rfl) ((h5.bs.ext0 z6).same rfl rfl) ((g2.ext0 z6).same rfl rfl) J hz hby (λx hx hx'=>h5.dj x hx J) J (λu m r' s7 e x7 e1 e2 o1 o2=> ?_) λe pos s7 e1 he x7 o1 o2=> ?_
   ·rw[<-hr]at e
    exact⟨x7,m,r',e,e1,e2,o1,o2⟩
   ·rw[<-hr]at e1
    exact⟨e,pos,rfl,he,x7,o1,e1,o2⟩
  ·obtain⟨m,r',e,e1,e2,o1,o2⟩:=hΦ
   have e3:rInt lo hi (some r)=(m,some r'):=by rw[Ky,e]
   have hs3:s.next<=s3.next:=y3.nxt
   have y8:Ext Any (RdG R) (s.cxN cxN) s8:=(y55.weak hb0 (λ_ _ h=>h) λ_ _ h=>h.elim).trans x8 hb0 (λ_ _ _=>trivial) λy hy h=>by
    have h2:y<s.next:=hy
    rcases h with h|h
    ·exact .inl h
    ·omega
   have h8:RdI s8 R v l (some r'):=h5.adv x8 (λy hy=>by
    rcases hy with hy|hy
    ·exact .inl hy
    ·refine .inr ⟨λk=>J,λk=> ?_⟩
     have:=h.lt y k
     omega) (o1.same m8 n8) e1 e2
   exact fin _ _ s8 _ J rfl y8 (by rw[e3];exact h8) (by rw[e3];exact o2.same m8 n8) Y
  ·obtain⟨e1,o1⟩:=hΨ
   have e3:rInt lo hi (some r)=(0,none):=by rw[Ky,e1]
   have hs3:s.next<=s3.next:=y3.nxt
   have y8:Ext Any (RdG R) (s.cxN cxN) s8:=(y55.weak hb0 (λ_ _ h=>h) λ_ _ h=>h.elim).trans x8 hb0 (λ_ _ _=>trivial) λy hy h=>by
    have h2:y<s.next:=hy
    rcases h with(h|h)|h
    ·exact .inl h
    ·omega
    ·exact h
   have h8:RdI s8 R v l none:=h5.flt x8 (λy hy=>by
    rcases hy with(hy|hy)|hy
    ·exact .inl (.inl hy)
    ·refine .inr ⟨λk=>J,λk=> ?_⟩
     have:=h.lt y k
     omega
    ·exact .inl hy) o82 o83 o84 he
   have o8:Own s8 s3.next 0 (.int .i64 0):=((o1.same (s':=s7.cxN cxN) rfl rfl).ext x78 λk=>by
    rcases k with k|k|k<;>omega).same rfl rfl
   exact fin _ _ s8 _ J rfl y8 (by rw[e3];exact h8) (by rw[e3];exact o8) Y
end
section
variable {R n:Nat}{v:Value}{l:List Nat}{s:St}{Q:Value->St->Prop}{st:Rd}
theorem VP_ {hi:Nat}(hb:s.lim<=s.next)(h:RdI s R v l st)(hz:l.length<=1000000000)(hby:Byt l)(hn:600<=n)
  (q: ∀s1,Ext Any (RdG R) s s1->RdI s1 R v l (rInt 0 hi st).2->Q (.int .i64 ((rInt 0 hi st).1:Nat)) s1):W (Ac envS (runF envS n) 83 [.pointer (some ⟨R,0,none⟩), .int .i64 (hi:Nat)]) s Q:=by
 have hb0:(s.cxN cxN).lim<=(s.cxN cxN).next:=hb
 refine Agv_ λtm k0 k1=> ?_
 refine Auz_.u ?_
 simp only[PQ_,RR,SS,Nat.reduceEqDiff, ↓reduceIte,k0]
 refine W.box λs1 n1 x1 o1=> ?_
 have o1':Own s1 s.next 0 (.pointer (some ⟨R,0,none⟩)):=o1 0 _ rfl
 have n1':s1.next=s.next+2:=n1
 have y1:Ext Any Non (s.cxN cxN) s1:=x1.any hb0
 try simp only[SS,k1]
 refine W.box λs3 n3 x3 o3=> ?_
 have o3':Own s3 s1.next 0 (.int .i64 (hi:Nat)):=o3 0 _ rfl
 have n3':s3.next=s1.next+2:=n3
 have y3:=y1.then0 x3 hb0
 refine W.alloc Sd λs4 n4 x4 o4=> ?_
 have oN:Own s4 s3.next 0 (.int .i64 0):=o4 0 _ rfl
 have n4':s4.next=s3.next+2:=n4
 have y4:=y3.then0 x4 hb0
 have oB:Own s4 s.next 0 (.pointer (some ⟨R,0,none⟩)):=(o1'.ext0 x3).ext0 x4
 have oH:Own s4 s1.next 0 (.int .i64 (hi:Nat)):=o3'.ext0 x4
 have h4:RdI s4 R v l st:=(h.same (s':=s.cxN cxN) rfl rfl).ext0 y4
 have hb4:=y4.bnd hb0
 have hRt:R+4<s.next:=h.rt
 have fin: ∀(n':Nat) (tm':T Value) (s5:St) (td':List Item),10<=n'->skim 64 td'=Oi->Ext Any (RdG R) (s.cxN cxN) s5->RdI s5 R v l (rInt 0 hi st).2->Own s5 s3.next 0 (.int .i64 ((rInt 0 hi st).1:Nat))->T.get tm' 4=some (.pointer (some ⟨s3.next,0,none⟩))->
   W (runF envS n' ⟨83,YW_,HD,tm',td', .run, .normal,none⟩) s5 λp s1=>Q p.1 (s1.cxN s.cx):=by
  intro n' tm' s5 td' hn' hT' y5 h5 o5 g6
  refine Awt_.u ?_ hT'
  simp only[Ba_,RR,SS,g6]
  refine aA Ap o5.at' ?_
  have y6:=y5.thenRd' hb0 (s3.next+(0+0))
  refine aI (b:=s3.next) (o:=0) Ap rfl (o5.same rfl rfl) λs7 n7 x7 o7=> ?_
  have hnx:=y4.nxt
  have hs3:s.next<=s3.next:=y3.nxt
  have y7:Ext Any (RdG R) (s.cxN cxN) s7:=y6.trans x7 hb0 (λ_ _ _=>trivial) λy hy hh=>by
   have h1:=hh.1
   have h2:y<s.next:=hy
   omega
  have h7:RdI s7 R v l (rInt 0 hi st).2:=(h5.same (s':=s5.rdN (s3.next+(0+0))) rfl rfl).ext x7 λy hy hh=>by
   have h1:=hh.1
   rcases hy with hy|hy
   ·omega
   ·have:=h.lt y hy
    omega
  refine W.endC rfl (.inl WU_) J OZ_ Air_ y7.cx (by simpa [T.get_set]using g6) ?_
  refine aA (o:=0) Ap o7.at' ?_
  exact q _ (y7.thenRd' hb0 (s3.next+0)).cx' (h7.same rfl rfl)
 refine AoY_.u ?_
 simp only[ZN,RR,SS,Nat.reduceEqDiff, ↓reduceIte]
 refine aA Dq oB.at' ?_
 have y5:=y4.thenRd hb0 (s.next+(0+0))
 have y5':Ext Any Non s4 (s4.rdN (s.next+(0+0))):=(Ext.refl (F:=Any) (G:=Non) s4).thenRd hb4 _
 obtain⟨s5,hs5⟩: ∃s5,s5=s4.rdN (s.next+(0+0)):=⟨_,rfl⟩
 have b5:s5.lim<=s5.next:=by rw[hs5];exact y5.bnd hb0
 have n5:s5.next=s4.next:=by rw[hs5];rfl
 have z5:Ext Any Non s4 s5:=by rw[hs5];exact y5'
 have y55:Ext Any Non (s.cxN cxN) s5:=by rw[hs5];exact y5
 have h5:=h4.ext0 z5
 have oB5:=oB.ext0 z5
 have oH5:=oH.ext0 z5
 have oN5:=oN.ext0 z5
 rw[show((s4.rdN ((s.cxN cxN).next+(0+0))):St)=s5 from hs5.symm]
 cases st with
 |none=>
  obtain⟨a,e,p,g2,g3,g4,he⟩:=h5.st
  refine RX b5 h5.o0 g3 he J λu s6 x6=> ?_
  exact fin _ _ s6 _ J rfl ((y55.then0 x6 hb0).weak hb0 (λ_ _ h=>h) λ_ _ h=>h.elim) (h5.ext0 x6) (oN5.ext0 x6) Y
 |some r=>
  obtain⟨g2,g3,⟨p4,g4⟩,hr,hrl⟩:=h5.st
  refine Qb (G:=λx=>x=R+2\/x=s3.next) (Φ:=λs7=> ∃m r',bndR 0 hi r=some (m,r')/\r'=l.drop (l.length-r'.length)/\r'.length<=l.length/\Own s7 R 2 (.int .i64 (l.length-r'.length:Nat))/\Own s7 s3.next 0 (.int .i64 (m:Nat))) (Ψ:=λs7=>bndR 0 hi r=none/\Own s7 s3.next 0 (.int .i64 0)) b5 h5.o0 g2 g3 ⟨_,g4⟩ (λx hx=>J) J (λn' s6 hn' b6 x6=> ?_) (λu s7 s8 hΦ m8 n8 x8=> ?_) λu s7 s8 e pos he hΨ x78 x8 o82 o83 o84=> ?_
  ·have z6:Ext Any Non s5 (s6.cxN s5.cx):=x6.cxs s5.cx s5.cx
   refine AtQ_ (s:=s6) (B:=s.next) (H:=s1.next) (N:=s3.next) (hi:=hi) (at0:=l.length-r.length) b6 ((oB5.ext0 z6).same rfl rfl) ((oH5.ext0 z6).same rfl rfl) ((oN5.ext0 z6).same rfl rfl) J ((h5.o1.ext0 z6).same rfl rfl) ((h5.bs.ext0 z6).same rfl rfl) ((g2.ext0 z6).same rfl rfl) J hz hby (λx hx hx'=>h5.dj x hx J) J (λu m r' s7 e x7 e1 e2 o1 o2=> ?_) λe pos s7 e1 he x7 o1 o2=> ?_
   ·rw[<-hr]at e
    exact⟨x7,m,r',e,e1,e2,o1,o2⟩
   ·rw[<-hr]at e1
    exact⟨e,pos,rfl,he,x7,o1,e1,o2⟩
  ·obtain⟨m,r',e,e1,e2,o1,o2⟩:=hΦ
   have e3:rInt 0 hi (some r)=(m,some r'):=by rw[Ky,e]
   have hs3:s.next<=s3.next:=y3.nxt
   have y8:Ext Any (RdG R) (s.cxN cxN) s8:=(y55.weak hb0 (λ_ _ h=>h) λ_ _ h=>h.elim).trans x8 hb0 (λ_ _ _=>trivial) λy hy h=>by
    have h2:y<s.next:=hy
    rcases h with h|h
    ·exact .inl h
    ·omega
   have h8:RdI s8 R v l (some r'):=h5.adv x8 (λy hy=>by
    rcases hy with hy|hy
    ·exact .inl hy
    ·refine .inr ⟨λk=>J,λk=> ?_⟩
     have:=h.lt y k
     omega) (o1.same m8 n8) e1 e2
   exact fin _ _ s8 _ J rfl y8 (by rw[e3];exact h8) (by rw[e3];exact o2.same m8 n8) Y
  ·obtain⟨e1,o1⟩:=hΨ
   have e3:rInt 0 hi (some r)=(0,none):=by rw[Ky,e1]
   have hs3:s.next<=s3.next:=y3.nxt
   have y8:Ext Any (RdG R) (s.cxN cxN) s8:=(y55.weak hb0 (λ_ _ h=>h) λ_ _ h=>h.elim).trans x8 hb0 (λ_ _ _=>trivial) λy hy h=>by
    have h2:y<s.next:=hy
    rcases h with(h|h)|h
    ·exact .inl h
    ·omega
    ·exact h
   have h8:RdI s8 R v l none:=h5.flt x8 (λy hy=>by
    rcases hy with(hy|hy)|hy
    ·exact .inl (.inl hy)
    ·refine .inr ⟨λk=>J,λk=> ?_⟩
     have:=h.lt y k
     omega
    ·exact .inl hy) o82 o83 o84 he
   have o8:Own s8 s3.next 0 (.int .i64 0):=((o1.same (s':=s7.cxN cxN) rfl rfl).ext x78 λk=>by
    rcases k with k|k|k<;>omega).same rfl rfl
   exact fin _ _ s8 _ J rfl y8 (by rw[e3];exact h8) (by rw[e3];exact o8) Y
end
section
variable {R n:Nat}{v:Value}{l:List Nat}{s:St}{Q:Value->St->Prop}{Jr:List PanicEntry->St->Prop}
theorem Ae_ {b:Nat}: ∀{l:List OpLog} {i:Nat},(∀m∈l,m.wr=[]/\m.lo=m.hi)->Em b l i=true
 |[],_,_=>rfl
 |a::l,i,h=>by
  show((b.testBit i||(a.wr.isEmpty&&Nat.beq a.lo a.hi))&&Em b l (Nat.succ i))=true
  obtain⟨h1,h2⟩:=h a am
  rw[Ae_ λm hm=>h m (by simp[hm]),h1,h2,Nat.beq_refl]
  simp
theorem Hy:arrN envS 26=some (16,1):=X
theorem AvA_ {B N at0:Nat}(hb:s.lim<=s.next)(hB:Own s B 0 (.pointer (some ⟨R,0,none⟩)))(hN:Aa s N 0 (u8l (List.replicate 16 0)))(hNR: ∀i,i<16->N+i≠R+2)(hBR:B≠R+2)(hNB: ∀x,BsF v x-> ¬(N<=x/\x<N+16))
  (h1:Own s R 1 v) (hBs:Bs s v l) (h2:Own s R 2 (.int .i64 (at0:Nat))) (hat:at0<=l.length) (hz:l.length<=1000000000) (hdj: ∀x,BsF v x->x≠R+2) (hn:400<=n)
  (q:at0+16<=l.length-> ∀u s1,Ext Any (λx=>x=R+2\/(N<=x/\x<N+16)) s s1->Own s1 R 2 (.int .i64 (at0+16:Nat))->Aa s1 N 0 (u8l ((l.take (at0+16)).drop at0))->Q u s1)
  (p:l.length<at0+16-> ∀e pos s1,e≠0->Ext Any (λx=>x=R+2\/(N<=x/\x<N+16)) s s1->(∃u,Own s1 R 2 u)->Aa s1 N 0 (u8l (List.replicate 16 0))->Jr (D7 e pos) s1):
  Wx (Ac envS (runF envS n) 140 [.pointer (some ⟨N,0,none⟩), .pointer (some ⟨B,0,none⟩)]) s Q Jr:=by
 have hb0:(s.cxN cxN).lim<=(s.cxN cxN).next:=hb
 refine AoR_ λtm k0 k1=> ?_
 have hN0:Aa (s.cxN cxN) N 0 (u8l (List.replicate 16 0)):=λi u e=>(hN i u e).same rfl rfl
 refine Adw_.wx (up:=none) rfl J ?_
 rw[CO]
 refine .inl (W.drawQ ?_)
 simp only[Xu,RR,k0,k1,AA,BH]
 rw[W_dq λs Q=>Hm (s:=s) (lo:=none) (hi:=none) (l:=0) (h:=16) Hy (A0 al) rfl rfl (Nat.zero_le _) (Nat.le_refl _) Q]
 refine aD Dq (hB.same (s':=dSt (s.cxN cxN).mem (s.cxN cxN).next) rfl rfl).at' λrd1 _=> ?_
 rw[AJ]
 refine⟨CX am am,Ae_ am, ?_⟩
 refine Wx.cast (AjD_ _ _ _ _ _ _ _) ?_
 generalize hs1:(⟨(dSt (s.cxN cxN).mem (s.cxN cxN).next).mem,(dSt (s.cxN cxN).mem (s.cxN cxN).next).next,(s.cxN cxN).lim,_,_,(s.cxN cxN).cx⟩:St)=s1
 have m1:s1.mem=s.mem:=by rw[<-hs1];rfl
 have n1:s1.next=s.next:=by rw[<-hs1];rfl
 have x1:Ext Any Non (s.cxN cxN) s1:=by
  rw[<-hs1]
  exact Ext.drawR (s.cxN cxN) _ am
 have b1:=x1.bnd hb0
 simp only[CO,Dt,CS,DM,Bb,A7,AX]
 refine KZ_ (at0:=at0) b1 (h1.same m1 n1) (hBs.same m1 n1) (h2.same m1 n1) hat hz hdj J (λhc s2 b c x2 o2 hbn r2=> ?_) λhc e pos s2 he x2 o2=> ?_
 ·try simp only[SS,CO,FN,Dt,CS,D9,Wf,SV,DM,MS,ArC_,AsF_,Aso_,Nat.reduceEqDiff,reduceCtorEq, ↓reduceIte]
  have x12:Ext Any (λx=>x=R+2) (s.cxN cxN) s2:=(x1.weak hb0 (λ_ _ h=>h) λ_ _ h=>h.elim).trans x2 hb0 (λ_ _ _=>trivial) λ_ _ h=>h
  have x12n:(s.cxN cxN).next<=s2.next:=x12.nxt
  have mE:(Cj (s.cxN cxN) s2).mem=s.mem:=rfl
  have oN: ∀j,j<16-> ∃u,Own s N (0+j) u:=λj hj=>Aa.owned hN j (by simpa using hj)
  have lt2: ∀k u,Own s N k u->Own (dSt s.mem s2.next) N k u:=λk u h=>⟨Nat.lt_of_lt_of_le h.1 x12n,h.2⟩
  simp only[VC_,RR,k0,k1,AA,BH]
  rw[W_dq λs Q=>Hm (s:=s) (lo:=none) (hi:=none) (l:=0) (h:=16) Hy (A0 al) rfl rfl (Nat.zero_le _) (Nat.le_refl _) Q]
  have up: ∀{b k u},Own s b k u->Own (dSt s.mem s2.next) b k u:=λh=>⟨Nat.lt_of_lt_of_le h.1 x12n,h.2⟩
  have hBsU:Bs (oSt s.mem s2.next) v l:=by
   rcases hBs with h|⟨bb,oo,cc,e1,e2,e3,e4⟩
   ·exact .inl h
   ·exact .inr ⟨bb,oo,cc,e1,e2,e3,λi u e=>⟨Nat.lt_of_lt_of_le (e4 i u e).1 x12n,(e4 i u e).2⟩⟩
  refine aD Dq (up hB).at' λrd2 hr2=> ?_
  simp only[Bb,A7,AX,BH]
  refine W.dopG ?_
  rw[Q8]
  refine Wx.w (KZ_ (s:=oSt s.mem s2.next) (at0:=at0) (Nat.le_refl _) ((up h1).same rfl rfl) hBsU ((up h2).same rfl rfl) hat hz hdj J (λ_ s4 b4 c4 x4 o4 hb4 r4=>⟨_,_,x4,λrd4 wr4 hr4 hw4=> ?_⟩) λh=>absurd hc J)
  have n4:s2.next<=s4.next:=x4.nxt
  have hb4':s2.next<=b4:=hb4
  rw[AJ]
  refine⟨E8 ?_, ?_⟩
  ·simp only[List.reverse_cons,List.reverse_nil,List.nil_append,List.cons_append,allP,Ds,List.take,Eo]
   have w4: ∀x∈wr4,x<s2.next/\x=R+2:=hw4
   have r2': ∀x∈rd2,x=B+0:=hr2
   have lts: ∀x,s2.next<=x-> ¬x<s2.next:=λx h=>J
   refine⟨?_, ?_, ?_, ?_⟩<;>simp+contextual [lts]
   all_goals first
    |trivial
    |(repeat' first
     |exact .inl rfl
     |apply And.intro
     |(intro x hx;have:=w4 x hx;have:=r2';simp_all;omega)
     |(intro x hx hy;have:=w4 x;have:=r2' x;simp_all;omega))
  ·refine W.cast (Ano_ _ _ _ _ _ _ _ _) ?_
   simp only[SS,reduceCtorEq, ↓reduceIte]
   obtain⟨sA,hsA⟩: ∃sA,sA=Cj (s.cxN cxN) s2:=⟨_,rfl⟩
   have xA:Ext Any (λx=>x=R+2) (s.cxN cxN) sA:=by
    rw[hsA]
    exact⟨x12.nxt,rfl,rfl,λ_ _ _=>rfl,x12.rd,x12.wr⟩
   have nA:sA.next=s2.next:=by rw[hsA];rfl
   have mA:sA.mem=s.mem:=by rw[hsA];rfl
   generalize hsF:(⟨(dSt s4.mem s4.next).mem,(dSt s4.mem s4.next).next,(s.cxN cxN).lim,_,_,(s.cxN cxN).cx⟩:St)=sF
   have mF:sF.mem=s4.mem:=by rw[<-hsF];rfl
   have nF:sF.next=s4.next:=by rw[<-hsF];rfl
   have xF0:Ext (λ_=>True) (λx=>x=R+2) sA sF:=by
    rw[<-hsF,hsA]
    refine aR (s:=Cj (s.cxN cxN) s2) n4 (λx hx hg=>x4.mem x hx hg) ?_ λ_ _ _ _ _=>trivial
    simp only[List.mem_cons,List.not_mem_nil,or_false]
    rintro m (rfl|rfl|rfl) x hx hl
    ·exact(hw4 x hx).2
    ·cases hx
    ·cases hx
   have xF:Ext Any (λx=>x=R+2) (s.cxN cxN) sF:=xA.trans xF0 hb0 (λ_ _ _=>trivial) λ_ _ h=>h
   have bF:=xF.bnd hb0
   have ifN:(if(16:Nat)=0 then 0 else 0+0*1)=0:=rfl
   have rowF:Row sF b4 0 (u8l ((l.take (at0+16)).drop at0)):=λi u e=>((r4 i u e).same mF nF).at'
   have hm16:((l.take (at0+16)).drop at0).length=16:=by rw[List.length_drop,List.length_take];omega
   have ownF: ∀i,i<16-> ∃u,Own sF N (0+i) u:=λi hi=>by
    obtain⟨u,hu⟩:=oN i hi
    exact⟨u,(hu.same (s':=s.cxN cxN) rfl rfl).ext xF λk=>hNR i hi J⟩
   refine W.copy (b:=N) (o:=0) (k:=16) (l:=u8l ((l.take (at0+16)).drop at0)) DI rfl (D0 (n:=16) (c:=c4) rowF (by rw[AQ,hm16])).2 (by rw[AQ,hm16]) (CG _) (λi hi=>ownF i J) λsG nG xG rG=> ?_
   have xG':Ext Any (λx=>x=R+2\/(N<=x/\x<N+16)) (s.cxN cxN) sG:=(xF.weak hb0 (λ_ _ h=>h) λ_ _ h=> .inl h).trans xG hb0 (λ_ _ _=>trivial) λy _ hy=>by
    have h1:N+0<=y:=hy.1
    have h2:y<N+0+16*1:=hy.2
    exact .inr ⟨J,J⟩
   refine Wx.of (aT rfl (.inr X) J Gc_ AdC_ xG'.cx (aN ?_))
   refine q hc _ _ xG'.cx' (((o4.same mF nF).ext xG λk=> ?_).same rfl rfl) λi u e=>(rG i u e).same rfl rfl
   have h1:N+0<=R+2:=k.1
   have h2:R+2<N+0+16*1:=k.2
   exact hNR (R+2-N) J J
 ·have x12:Ext Any (λx=>x=R+2\/(N<=x/\x<N+16)) (s.cxN cxN) s2:=(x1.weak hb0 (λ_ _ h=>h) λ_ _ h=>h.elim).trans x2 hb0 (λ_ _ _=>trivial) λ_ _ h=> .inl h
  refine⟨x12.cx,p hc e pos _ he x12.cx' (o2.imp λu h=>h.same rfl rfl) λi u e=> ?_⟩
  have hi:i<16:=by
   have:=(List.getElem?_eq_some_iff.1 e).1
   simpa using this
  exact(((hN0 i u e).same m1 n1).ext x2 λk=>hNR i hi J).same rfl rfl
