import Derived.Test.YtofanlcjeohcjaaIBz31
noncomputable section
namespace Go.Proofs.Ytofanlcjeohcjaa.Am
open Go.RowKit
theorem Aa.set {F:Nat->Prop}{s s':St}{b o i:Nat}{l:List Value}{v:Value}(h:Aa s b o l)(e:Ext F (In b (o+i) 1) s s')(k:Own s' b (o+i) v):Aa s' b o (l.set i v):=λj u hj=>by
 rw[List.getElem?_set]at hj
 by_cases hij:i=j
 ·subst hij
  rw[if_pos rfl]at hj
  split at hj
  ·cases hj
   exact k
  ·cases hj
 ·rw[if_neg hij]at hj
  exact(h j u hj).ext e λhx=>hij (by have h1:=hx.1;have h2:=hx.2;omega)
section
variable {E:Env}{t:Nat}{xo yo:Operand}{γ:Type}{f:Value×OpLog->M γ}{mem:T Cell}{next:Nat}{Q:γ->St->Prop}
end
section
variable {b o cc B C:Nat}{l:List Nat}{Q:Value×FrameMode->St->Prop}{s0:St}
end
theorem AmL_ (s:St):Cy envS 22 9 (.slice none 0 0) s= .some (.string (txt [])) s:=X
theorem W.strA {v:Value}{l:List Nat}{s:St}{Q:Value->St->Prop}(h:Bs s v l)(q: ∀s1,s1.mem=s.mem->s1.next=s.next->Ext (BsF v) Non s s1->Q (.string (txt l)) s1):W (Cy envS 22 9 v) s Q:=by
 rcases h with⟨rfl,rfl⟩|⟨b,o,c,rfl,h1,h2,h3⟩
 ·exact W.of (AmL_ s) (q s rfl rfl (Ext.refl _))
 ·exact W.str (.inr ⟨b,o,c,rfl,h1,h2,h3⟩) (.inr ⟨b,o,c,rfl⟩) Aqs_ AgO_ q
theorem IE_ {va vb:Value}{l:List Nat}{n:Nat}{s:St}{Q:Value->St->Prop}(hbd:s.lim<=s.next)(ha:Bs s va l)(hb:Bs s vb l)(hn:20<=n)
  (q: ∀s1,Ext (λx=>BsF va x\/BsF vb x) Non s s1->s1.mem=s.mem->s1.next=s.next->Q (.bool true) s1):W (Ac envS (runF envS n) 19 [va,vb]) s Q:=by
 refine Aag_ λtm h0 h1=> ?_
 have ha':Bs (s.cxN cxN) va l:=ha.same rfl rfl
 have hb':Bs (s.cxN cxN) vb l:=hb.same rfl rfl
 refine Adn_.u ?_
 simp only[Tt_,RR,SS]
 refine AkX_.u ?_
 simp only[RI_,RR,SS,Nat.reduceEqDiff,reduceCtorEq, ↓reduceIte,h0,h1]
 refine W.strA ha' λsa ma na xa=> ?_
 refine W.strA (hb'.same ma na) λsb mb nb xb=> ?_
 have hx:Ext (λx=>BsF va x\/BsF vb x) Non (s.cxN cxN) sb:=(xa.weak hbd (λ_ _ h=> .inl h) λ_ _ h=>h).step xb hbd (λ_ _ h=> .inr h) λ_ h=>h.elim
 simp only[R5,beq_self_eq_true]
 refine aB (rs:=[4]) (vs:=[.bool true]) rfl (.inl AhF_) J Tg Agx_ hx.cx Y ?_
 exact q _ hx.cx' (mb.trans ma) (nb.trans na)
theorem AjW_ {v:Value}{l:List Nat}{nb n:Nat}{s:St}{Q:Value->St->Prop}(hbd:s.lim<=s.next)(h:MkG s v l nb)(h0:0<l.length)(hl:l.length<=16777216)
  (q: ∀s1,Ext (In nb 0 (l.length+1)) (In nb 0 (l.length+1)) s s1->Q (.tuple #[]) s1):W (Ac envS (runF envS n) 22 [v]) s Q:=by
 refine W.orc (m:=EZ) X ?_
 rw[h.val]
 show W (G5 ⟨nb,0,none⟩ l.length (capU*((nb+l.length)*1024+1)+l.length)) s Q
 have hlt:l.length<capU:=A0 J
 obtain⟨hd,hm⟩:=enc (q:=(nb+l.length)*1024+1) hlt
 obtain⟨hd2,hm2⟩:=enc2 (m:=nb+l.length) (sz:=1) al
 unfold G5
 refine W.chk ?_ (W.bind ?_)
 ·show(Nat.blt 0 l.length&&Nat.ble l.length 16777216&&Nat.beq ((capU*((nb+l.length)*1024+1)+l.length)%capU) l.length&&Nat.beq ((capU*((nb+l.length)*1024+1)+l.length)/capU%1024) 1)=true
  rw[hm,hd,hm2,BT h0,Nat.ble_eq_true_of_le hl,Nat.beq_refl]
  rfl
 have hr:Row s nb 0 (u8l l):=h.own.row
 have hle:(u8l l).length=l.length:=AQ l
 rw[<-hle]
 refine W.rdL hr λs1 m1 n1 x1=>W.chk ?_ (W.bind ?_)
 ·rw[List.all_eq_true]
  intro x hx
  obtain⟨y,_,rfl⟩:=List.mem_map.1 hx
  rfl
 rw[hle]at x1 ⊢
 show W (Am.rdC ((capU*((nb+l.length)*1024+1)+l.length)/capU/1024)) s1 _
 rw[hd,hd2]
 refine W.rdC (c:= .O (.tok false 1025)) (by rw[m1];exact h.tok) (by rw[n1];exact h.lt) ?_
 show W (M.chk (Nat.beq 1025 1025) (M.bind (Am.wrC ((capU*((nb+l.length)*1024+1)+l.length)/capU/1024) (.O (.tok true 1))) λ_=>M.bind (CR l.length (Nat.add nb 0)) λ_=>M.pure (.tuple #[]))) _ Q
 rw[hd,hd2]
 refine W.chk rfl (W.bind (W.wrC (by show nb+l.length<s1.next;rw[n1];exact h.lt) (W.bind ?_)))
 generalize hs3:((s1.rdN (nb+l.length)).wrN (nb+l.length) (.O (.tok true 1)))=s3
 have xa:Ext (In nb 0 (l.length+1)) (In nb 0 (l.length+1)) s s1:=x1.weak hbd (λy _ h=>⟨h.1,by have:=h.2;omega⟩) λ_ _ h=>h.elim
 have hn1:s1.next=s.next:=n1
 have x3:Ext (In nb 0 (l.length+1)) (In nb 0 (l.length+1)) s s3:=by
  rw[<-hs3]
  refine(xa.trans (Ext.rdN (F:=In nb 0 (l.length+1)) (G:=Non) s1 _ λ_=>⟨J,J⟩) hbd (λ_ _ h=>h) λ_ _ h=>h.elim).trans (Ext.wrN (F:=In nb 0 (l.length+1)) _ _ _ (⟨J,J⟩:In nb 0 (l.length+1) (nb+l.length))) hbd (λ_ _ h=>h) λ_ _ h=>h
 have n3:s3.next=s.next:=by rw[<-hs3];exact hn1
 have hll:=h.lt
 obtain⟨s4,e4,n4,x4⟩:=NB l.length (nb+0) s3 (x3.bnd hbd) J
 refine W.of e4 (W.pure (q s4 (x3.trans x4 hbd (λ_ _ h=>h.elim) λy _ h=>⟨h.1,by have:=h.2;omega⟩)))
theorem GW_: ∀{l m:List Nat},Byt l->Byt m->l.map UInt8.ofNat=m.map UInt8.ofNat->l=m
 |[],[],_,_,_=>rfl
 |[],_::_,_,_,e=>by cases e
 |_::_,[],_,_,e=>by cases e
 |a::l,b::m,h1,h2,e=>by
  have e1:UInt8.ofNat a=UInt8.ofNat b:=(List.cons.inj e).1
  have e2:l.map UInt8.ofNat=m.map UInt8.ofNat:=(List.cons.inj e).2
  have ha:=h1 a am
  have hb:=h2 b am
  have e3:=congrArg UInt8.toNat e1
  rw[UInt8.toNat_ofNat',UInt8.toNat_ofNat']at e3
  have:a=b:=by
   rw[Nat.mod_eq_of_lt ha,Nat.mod_eq_of_lt hb]at e3
   exact e3
  rw[this,GW_ (λx hx=>h1 x (by simp[hx])) (λx hx=>h2 x (by simp[hx])) e2]
theorem ZF_ {l m:List Nat}(h1:Byt l)(h2:Byt m):((txt l).data.toList==(txt m).data.toList)=decide (l=m):=by
 unfold txt
 show(((l.map UInt8.ofNat).toArray).toList==((m.map UInt8.ofNat).toArray).toList)=_
 by_cases h:l=m
 ·rw[h,decide_eq_true rfl,beq_self_eq_true]
 ·rw[decide_eq_false h]
  exact beq_eq_false_iff_ne.2 λe=>h (GW_ h1 h2 (by simpa using e))
theorem AdJ_ {n:Nat}{s:St}{v:Value}{l:List Nat}{Q:Value->St->Prop}(hbd:s.lim<=s.next)(h:Bn s v l)(hb:Byt l)(h5:4<=l.length)(hz:l.length<=900000)(hn:120*l.length+400<=n)
  (q1:GOk l-> ∀s1 w b,s.next<=b->Ext (BsF v) Non s s1->EmB s1 (l.take (l.length-4)) w b->Q (.tuple #[w, .int .i64 0]) s1) (q2: ¬GOk l-> ∀s1,Ext (BsF v) Non s s1->Q (.tuple #[.slice none 0 0, .int .i64 4]) s1):
  W (Ac envS (runF envS n) 87 [v]) s Q:=by
 refine HI_ λtm h0=> ?_
 have hc:Bn (s.cxN cxN) v l:=h.same rfl rfl
 refine Ni_.u ?_
 simp only[On,RR,SS]
 refine MR_.u ?_
 simp only[Rj,RR,SS,reduceCtorEq, ↓reduceIte,h0]
 rw[hc.bs.len AH]
 simp only[Ab]
 refine aE Sb_ ?_
 refine Adx_.u ?_
 simp only[Pe_,RR,SS,reduceCtorEq, ↓reduceIte,h0]
 refine aM (s:=s.cxN cxN) hbd (r:=[]) DI al rfl (A0 al) λs1 n1 x1 r1=> ?_
 have hb1:s1.lim<=s1.next:=x1.bnd hbd
 have hx1:Ext (BsF v) Non (s.cxN cxN) s1:=(Ext.refl _).step x1 hbd (λ_ _ h=>h.elim) λ_ h=>h.elim
 have hc1:=hc.ext0 hx1
 have ek:wrap64 (((l.length:Nat):Int)-4)=((l.length-4:Nat):Int):=by
  rw[AN J J];omega
 rw[hc1.bs.len AH]
 simp only[Ah,ek]
 refine W.cut hc1 AH (i:=0) (j:=l.length-4) rfl rfl (Nat.zero_le _) J λv2 hv2 hF2=> ?_
 have hcut:(l.take (l.length-4)).drop 0=l.take (l.length-4):=rfl
 rw[hcut]at hv2
 have hl1:(l.take (l.length-4)).length=l.length-4:=by rw[List.length_take];omega
 refine W.appBy hb1 EmB.nil hv2.bs (by show 0+_<=_;rw[hl1];omega) λs3 w3 b3 hb3 h3 x3=> ?_
 have hnm: ∀y,¬MkF 1 ([]:List Nat).length s.next y:=λy hy=>absurd hy.1 am
 have x3':Ext (BsF v) Non s1 s3:=x3.weak hb1 (λy _ hy=>hy.elim (λh=>hF2 y h) λhy=>(hnm y hy).elim) λy _ hy=>hnm y hy
 have hx3:Ext (BsF v) Non (s.cxN cxN) s3:=hx1.step x3' hbd (λ_ _ h=>h) λ_ h=>h.elim
 have hb3':s3.lim<=s3.next:=hx3.bnd hbd
 rw[List.nil_append]at h3
 have hB1:Byt (l.take (l.length-4)):=λx hx=>hb x (List.mem_of_mem_take hx)
 have hs3:s.next<=b3:=by
  have:s.next<=s1.next:=x1.nxt
  rcases hb3 with rfl|hb3
  ·exact Nat.le_refl _
  ·omega
 have hn3:s.next<=s3.next:=hx3.nxt
 refine Alv_.u ?_
 simp only[Sj_,RR,T.get_set,Nat.reduceEqDiff, ↓reduceIte,h0,AA,BH,Bb,A7,AX,Dn,Aw]
 have h3n:Bn s3 w3 (l.take (l.length-4)):=h3.bn (by rw[hl1];omega)
 refine aU (S4 (Nat.le_refl _) (by rw[hl1];omega) (h3n.same (s':=oSt s3.mem s3.next) rfl rfl) hB1 (by rw[hl1];omega) λs4 w4 b4 hb4 x4 h4=>⟨_,x4,λrd4 hr4=> ?_⟩)
 have hn4:s3.next<=s4.next:=x4.nxt
 have hgl:(gput (l.take (l.length-4))).length=l.length:=by rw[Ph,hl1];omega
 have h4n:Bn s4 w4 (gput (l.take (l.length-4))):=h4.bn (by rw[hgl];omega)
 simp only[AA]
 refine aU (W.strA (h4n.bs.same (s':=oSt s4.mem s4.next) rfl rfl) λs5 m5 n5 x5=>⟨_,x5,λrd5 hr5=> ?_⟩)
 have n5':s5.next=s4.next:=n5
 simp only[Aw]
 have hc5:Bs (oSt s5.mem s5.next) v l:=((((hc.ext0 hx3).bs.same (s':=oSt s3.mem s3.next) rfl rfl).ext0 x4).same m5 n5')
 refine aU (W.strA hc5 λs6 m6 n6 x6=>⟨_,x6,λrd6 hr6=> ?_⟩)
 have n6':s6.next=s5.next:=n6
 rw[AJ]
 have hwF: ∀y,BsF w4 y->s3.next<=y:=λy hy=>by
  obtain⟨c,rfl⟩:=h4.at
  have h1:b4+0<=y:=hy.1
  have h2:s3.next<=b4:=hb4
  omega
 refine⟨E8 ?_, ?_⟩
 ·simp only[List.reverse_cons,List.reverse_nil,List.nil_append,List.cons_append,allP,Ds,List.take,Eo]
  have hold: ∀x,x∈rd6-> ¬s3.next<=x:=λx hx=>Nat.not_le_of_lt ((hc.ext0 hx3).lt x (hr6 x hx).2)
  simp+contextual [n5',hold]
  exact .inl rfl
 ·refine W.cast (AdB_ ..) ?_
  simp only[SS]
  have m7:s6.mem=s4.mem:=m6.trans m5
  have n7:s6.next=s4.next:=n6'.trans n5'
  generalize hs7:(⟨(dSt s6.mem s6.next).mem,(dSt s6.mem s6.next).next,s3.lim,_,_,s3.cx⟩:St)=s7
  have e7m:s7.mem=s4.mem:=by rw[<-hs7];exact m7
  have e7n:s7.next=s4.next:=by rw[<-hs7];exact n7
  have x7:Ext (λy=>BsF v y\/s.next<=y) Non s3 s7:=by
   rw[<-hs7]
   refine Ext.draw (by show s3.next<=s6.next;omega) (λx hx=>by show T.get s6.mem x=_;rw[m7];exact x4.mem x hx id) am ?_
   simp only[List.mem_cons,List.not_mem_nil,or_false]
   rintro m (rfl|rfl|rfl|rfl|rfl) x hx _<;>first|(cases hx;done)|skip
   ·exact .inl (hr6 x hx).2
   ·exact .inr (by have:=hwF x (hr5 x hx).2;omega)
   ·have h1:=(hr4 x hx).2
    obtain⟨c,hc⟩:=h3.at
    rw[hc]at h1
    have h2:b3+0<=x:=h1.1
    exact .inr J
  have y7:Ext (BsF v) Non (s.cxN cxN) s7:=hx3.step x7 hbd (λx hx h=>h.elim id λh=>absurd hx (by show ¬x<s.lim;omega)) λ_ h=>h.elim
  rw[QX_,ZF_ (Byt.gput hB1) hb]
  by_cases hg:gput (l.take (l.length-4))=l
  ·refine aE MF_ ?_ rfl (an hg)
   refine AsO_.u ?_
   simp only[Cv_,RR,SS,Nat.reduceEqDiff, ↓reduceIte]
   refine aB (rs:=[2,3]) (vs:=[w3, .int .i64 0]) rfl (.inl Xw_) J KM P7 y7.cx Y ?_
   exact q1 ⟨J,hg⟩ _ w3 b3 hs3 y7.cx' ((((h3.same (s':=oSt s3.mem s3.next) rfl rfl).ext0 x4).same e7m e7n).same rfl rfl)
  ·refine aH MF_ ?_ rfl (an hg)
   refine Apu_.u ?_
   simp only[Oz_,RR,SS]
   exact aB (rs:=[2,3]) (vs:=[.slice none 0 0, .int .i64 4]) rfl (.inl AfE_) J KM P7 y7.cx Y (q2 (λh=>hg h.2) _ y7.cx')
theorem AbS_ (x y:Int):C5 envS 85 [(0, .int .i64 x),(1, .int .i64 y)]=some [.int .i64 x, .int .i64 y, .slice none 0 0]:=X
section
variable {R:Nat}{v:Value}{l:List Nat}{Q:Value×FrameMode->St->Prop}{s0:St}
theorem Age_ {cnt:Nat}{HS:List KeyP}{ST:Rd}(hb0:s0.lim<=s0.next)(hz:l.length<=1000000)(hby:Byt l)(hcnt:cnt<=500)(hR:R+3<s0.next)(hv: ∀x,BsF v x->x<s0.next):
  ∀(k i n:Nat) (st:Rd) (os:List PkI) (vo:Value) (bo:Nat) (tm:T Value) (s:St) (td:List Item),i+k=cnt->803000*k+1000<=n->os.length<=i->skim 64 td=K6->Ext Any (RrG R) s0 s->RrI s R v l st->PsO s0 s os vo bo->
  os.map PkI.key++(rPs k st).1=HS->(rPs k st).2=ST->T.get tm 6=some (.pointer (some ⟨R,0,none⟩))->T.get tm 7=some vo->T.get tm 8=some (.int .i64 (cnt:Nat))->T.get tm 9=some (.int .i64 (i:Nat))->
  (∀(n1:Nat) (os:List PkI) (vo:Value) (bo:Nat) (tm1:T Value) (s1:St) (td1:List Item),n-(803000*k+20)<=n1->skim 64 td1=RY->Ext Any (RrG R) s0 s1->RrI s1 R v l ST->PsO s0 s1 os vo bo->os.map PkI.key=HS->T.get tm1 6=some (.pointer (some ⟨R,0,none⟩))->T.get tm1 7=some vo->
   W (runF envS n1 ⟨40,GB,Bl,tm1,td1, .run, .normal,none⟩) s1 Q)->
  W (runF envS n ⟨40,GB,Bl,tm,td, .run, .normal,none⟩) s Q:=by
 intro k
 induction k with
 |zero=>
  intro i n st os vo bo tm s td hi hn hil hT' hx hr ho hHS hST g6 g7 g8 g9 q
  have ei:decide (((i:Nat):Int)<((cnt:Nat):Int))=false:=decide_eq_false J
  refine Sh_.u ?_ hT'
  simp only[Nl,RR,SS,Nat.reduceEqDiff,reduceCtorEq, ↓reduceIte,Ad,Ah,Ab,Ae,Ak,An,Al,Ag,g8,g9,ei]
  refine aE Si ?_
  have e1:os.map PkI.key=HS:=by rw[<-hHS];exact(List.append_nil _).symm
  have e2:st=ST:=hST
  subst e2
  exact q _ os vo bo _ s _ J rfl hx hr ho e1 (an g6) (an g7)
 |succ k ih=>
  intro i n st os vo bo tm s td hi hn hil hT' hx hr ho hHS hST g6 g7 g8 g9 q
  have hn0:s0.next<=s.next:=hx.nxt
  have ei0:decide (((i:Nat):Int)<((cnt:Nat):Int))=true:=decide_eq_true J
  obtain⟨e,oe,he⟩:=hr.err
  refine Sh_.u ?_ hT'
  simp only[Nl,RR,SS,Nat.reduceEqDiff,reduceCtorEq, ↓reduceIte,Ad,Ah,Ab,Ae,Ak,An,Al,Ag,g6,g8,g9,ei0,Af D3 al,Af Cm al]
  refine aA (b:=R) (o:=0+2+0) CF oe.at' ?_
  have xr:Ext Any Non s (s.rdN (R+(0+2+0))):=Ext.rdN (F:=Any) (G:=Non) s _ λ_=>trivial
  obtain⟨s1,hs1⟩: ∃s1,s1=s.rdN (R+(0+2+0)):=⟨_,rfl⟩
  rw[<-hs1]at xr ⊢
  have hx1:Ext Any (RrG R) s0 s1:=hx.onG xr hb0 λ_ _ h=>h.elim
  have hr1:=hr.ext0 xr
  have ho1:=ho.ext0 xr
  simp only[SS,Nat.reduceEqDiff,reduceCtorEq, ↓reduceIte,Ad,Ah,Ab,Ae,Ak,An,Al,Ag]
  cases st with
  |none=>
   have he0:e≠0:=λh0=>(he.1 h0) rfl
   refine aE Si ?_ rfl (an he0)
   have e1:os.map PkI.key=HS:=by rw[<-hHS];exact(List.append_nil _).symm
   have e2:none=ST:=hST
   subst e2
   exact q _ os vo bo _ s1 _ J rfl hx1 hr1 ho1 e1 (an g6) (an g7)
  |some r=>
   have he0:e=0:=he.2 am
   refine aH Si ?_ rfl (an he0)
   have hHS':os.map PkI.key++((rPk (some r)).1::(rPs k (rPk (some r)).2).1)=HS:=hHS
   have hST':(rPs k (rPk (some r)).2).2=ST:=hST
   have nG: ∀y,s0.next<=y-> ¬RrG R y:=λy hy hg=>by rcases hg with hg|hg|hg<;>omega
   have hb1:=hx1.bnd hb0
   have hn1:s0.next<=s1.next:=hx1.nxt
   refine Aow_.u ?_
   simp only[IP_,RR,SS,Nat.reduceEqDiff,reduceCtorEq, ↓reduceIte,Nat.reduceEqDiff, ↓reduceIte,g6]
   refine Kc (lo:=1) (hi:=999999) hb1 hr1 J hby J λs2 x2 r2=> ?_
   have y2:Ext Any (RrG R) s1 s2:=x2
   refine Kc (lo:=0) (hi:=65536) (y2.bnd hb1) r2 J hby J λs3 x3 r3=> ?_
   have y3:Ext Any (RrG R) s1 s3:=y2.onG x3 hb1 λ_ _ h=>h
   simp only[SS,Nat.reduceEqDiff,reduceCtorEq, ↓reduceIte,Ci (AbS_ _ _)]
   refine W.alloc FJ λs4 n4 x4 o4=> ?_
   have n4':s4.next=s3.next+4:=n4
   have y4:Ext Any (RrG R) s1 s4:=y3.onG x4 hb1 λ_ _ h=>h.elim
   have r4:=r3.ext0 x4
   have hP:s1.next<=s3.next:=y3.nxt
   refine W.store (b:=s3.next) (o:=0) Ca (v:= .agg #[.int .i64 ((rInt 1 999999 (some r)).1:Nat), .int .i64 ((rInt 0 65536 (rInt 1 999999 (some r)).2).1:Nat), .slice none 0 0]) rfl rfl (λj hj=>Aa.owned o4 j (by simpa using hj)) λs5 n5 x5 o5=> ?_
   have o5':Aa s5 s3.next 0 [.int .i64 ((rInt 1 999999 (some r)).1:Nat), .int .i64 ((rInt 0 65536 (rInt 1 999999 (some r)).2).1:Nat), .slice none 0 0]:=o5
   have n5':s5.next=s4.next:=n5
   have y5:Ext Any (RrG R) s1 s5:=y4.trans x5 hb1 (λ_ _ _=>trivial) λy hy hg=>by
    have h1:=hg.1
    have h2:y<s1.next:=hy
    omega
   have r5:RrI s5 R v l (rInt 0 65536 (rInt 1 999999 (some r)).2).2:=r4.ext x5 λy hy hg=>by
    have h1:=hg.1
    rcases hy with hy|hy
    ·omega
    ·have:=hv y hy
     omega
   have B5:PrB s1 s5 R s3.next v l (rInt 0 65536 (rInt 1 999999 (some r)).2).2 ((rInt 1 999999 (some r)).1:Nat) ((rInt 0 65536 (rInt 1 999999 (some r)).2).1:Nat) [] (.slice none 0 0) s5.next:=
    ⟨y5,r5,(o5' 0 _ rfl),(o5' 1 _ rfl),(o5' 2 _ rfl), .inl ⟨rfl,rfl,rfl⟩,hP,J,λx hx=>by have:=hv x hx;omega,J,λz hz=>by cases hz⟩
   refine Aej_.u ?_
   simp only[UL,RR,SS,Nat.reduceEqDiff,reduceCtorEq, ↓reduceIte,Nat.reduceEqDiff, ↓reduceIte,g6]
   refine Nd_ (hi:=20000) (B5.x.bnd hb1) B5.rd J hby J λs6 x6 r6=> ?_
   have B6:=B5.rdx hb1 x6 r6
   refine AcM_.u ?_
   simp only[Tb,RR,SS,Nat.reduceEqDiff,reduceCtorEq, ↓reduceIte]
   have hcl:=Ep 0 20000 (rInt 0 65536 (rInt 1 999999 (some r)).2).2
   refine WW_ (s0:=s1) (nO:=cnt) (iO:=i) (vo:=vo) (cnt:=(rInt 0 20000 (rInt 0 65536 (rInt 1 999999 (some r)).2).2).1) (HS:=(rPk (some r)).1.2.2) (ST:=(rPk (some r)).2) hb1 hz hby hcl _ 0 _ _ [] _ _ _ s6 _ (Nat.zero_add _) J am rfl B6 rfl rfl (an g6) (an g7) (an g8) (an g9) Y Y Y λn7 vL bL tm7 s7 td7 hn7 hT7 B7 k6 k7 k8 k9 k10=> ?_
   have ho7:PsO s0 s7 os vo bo:=ho1.ext B7.x nG
   have hx7:Ext Any (RrG R) s0 s7:=hx1.onG B7.x hb0 λ_ _ h=>h
   have rowP:Row s7 s3.next 0 [.int .i64 ((rInt 1 999999 (some r)).1:Nat), .int .i64 ((rInt 0 65536 (rInt 1 999999 (some r)).2).1:Nat),vL]:=λj u hu=>by
    match j,hu with
    |0,hu=>cases hu;exact B7.p0.at'
    |1,hu=>cases hu;exact B7.p1.at'
    |2,hu=>cases hu;exact B7.p2.at'
   obtain⟨p,hp⟩: ∃p:PkI,p=⟨((rInt 1 999999 (some r)).1:Nat),((rInt 0 65536 (rInt 1 999999 (some r)).2).1:Nat),vL,(rPk (some r)).1.2.2⟩:=⟨_,rfl⟩
   have hk:p.key=(rPk (some r)).1:=by rw[hp];rfl
   have hi7:HiR s7 p.v p.hs:=by
    rw[hp]
    rcases B7.ml with⟨e1,h0,_⟩|⟨hm,_⟩
    ·exact .inl ⟨e1,List.eq_nil_of_length_eq_zero h0⟩
    ·exact .inr ⟨bL,0,_,hm.val,hm.own.row⟩
   have hf7: ∀x,HiF p.v x->s1.next<=x:=λx hx=>by
    rw[hp]at hx
    rcases B7.ml with⟨e1,_,_⟩|⟨hm,_⟩
    ·have hx':HiF vL x:=hx
     rw[e1]at hx'
     exact hx'.elim
    ·have hx':HiF vL x:=hx
     rw[hm.val]at hx'
     have h2:bL+0<=x:=hx'.1
     have:=B7.hPb
     omega
   have h16: ∀h∈p.hs,h.1.length=16:=by rw[hp];exact B7.h16
   refine AuB_.u ?_ hT7
   simp only[Gj_,RR,SS,Nat.reduceEqDiff,reduceCtorEq, ↓reduceIte,k7,k10]
   refine aJ (b:=s3.next) (o:=0) Ca rowP rfl λs8 m8 n8 x8=> ?_
   have hx8:Ext Any (RrG R) s0 s8:=hx7.onG x8 hb0 λ_ _ h=>h.elim
   have epk:(pkC p).toArray= #[.int .i64 ((rInt 1 999999 (some r)).1:Nat), .int .i64 ((rInt 0 65536 (rInt 1 999999 (some r)).2).1:Nat),vL]:=by rw[hp];rfl
   rw[<-epk]
   refine Cf_ (p:=p) hb0 hx8 (ho7.ext0 x8) (hi7.ext0 x8) h16 (λx hx=>⟨by have:=hf7 x hx;omega,λhm=>by have h1:=hf7 x hx;have h2:=ho1.mo.lt x hm;omega⟩) J (by rw[hp];exact(B7.ml.hwI B7.h16).ext0 x8) (λo ho' x hx hq=>by have h1:=hf7 x hq;have h2:=ho1.hs o ho';have h3:=h2.1.lt h2.2.1 x hx;omega) λs9 v9 b9 x9 x89 ho9=> ?_
   have r9:RrI s9 R v l (rPk (some r)).2:=(B7.rd.ext0 x8).ext x89 λy hy hg=>by
    have h1:=hg.2.1
    have h2:=ho.no
    rcases hy with hy|hy
    ·omega
    ·have:=hv y hy
     omega
   refine AdE_.u ?_
   have ei:=eiW (i:=i) J
   simp only[Xw,RR,SS,Nat.reduceEqDiff,reduceCtorEq, ↓reduceIte,Ad,Ah,Ab,Ae,Ak,An,Al,Ag,Nat.reduceEqDiff, ↓reduceIte,k9,ei]
   refine ih (i+1) _ (rPk (some r)).2 (os++[p]) v9 b9 _ s9 _ J J (by simp;omega) Ajx_ x9 r9 ho9 ?_ hST' (an k6) Y (an k8) Y λn1 os' vo' bo' tm1 s1' td1 a1=>q n1 os' vo' bo' tm1 s1' td1 J
   rw[List.map_append,List.append_assoc]
   show os.map PkI.key++([p.key]++_)=HS
   rw[hk]
   exact hHS'
end
def Ee:Nat:=Ao Try.f34
abbrev Xd:Nat:=37
def ZC:Code:=Try.f34.body.getD .skip
theorem PT:envS.fn.get 34=some Try.f34:=X
theorem AeY_:G3 envS 34 37 Ee ZC:=λh=>
 aK PT (h _ X X X)
theorem Lw_:Try.f34.results.toList=[.tmp 6]:=X
def Ra_:List Item:=skim 64 [.code ZC]
def S1:=nx Ra_
def We_:=nx S1
def LS:=nx We_
def Sr:=nx LS
def MJ_:=bt Sr
def RV:=bf Sr
def SK_:=nx MJ_
def Sl_:=nx RV
theorem AeZ_:skim 64 SK_.tail=LS:=X
def TB:Rg:=λE u r t=>
 sV 6 (.bool false) t
theorem Aqv_:RegEq 34 37 Ee Ra_ TB:={}
def FY_:Rg:=λE u r t=>
 sV 7 (.int .i64 0) t
theorem AgS_:RegEq 34 37 Ee S1 FY_:={}
def Kv_:Rg:=λE u r t=>
 sV 8 (.int .i64 0) t
theorem Avm_:RegEq 34 37 Ee We_ Kv_:={}
def NF:Rg:=λE u r t=>
 mG t 8 λv9=>
 mG t 0 λv10=>
 lL E 55 v10 λv11=>
 bT E .lss 3 9 11 v9 v11 λv12=>
 mv (some v12) λv13=>
 sK v13 true (pG t 8) λv14=>
 sK v13 true (pG t 1) λv15=>
 sK v13 true (oS (some v14) λa=>oS (some v15) λb=>Cl.get (aBin E .leq 3 (.tmp 14) (.tmp 15)) a b) λv16=>
 ae v13 v16 (.bool false) λv17=>
 ac 17 v17 t
theorem IK_:RegEq 34 37 Ee LS NF:={}
theorem PA:Aj Sr=some 17:=X
def Ec_:Rg:=λE u r t=>
 mG t 7 λv20=>
 mG t 0 λv21=>
 mG t 8 λv22=>
 iD E 55 (some v21) (some v22) λv23=>
 fD E 85 2 (some v23) λv24=>
 lD E 36 (some v24) λv25=>
 lL E 36 v25 λv26=>
 bT E .add 3 20 26 v20 v26 λv27=>
 sV 7 v27 t
theorem Adb_:RegEq 34 37 Ee MJ_ Ec_:={}
def Xf:Rg:=λE u r t=>
 mG t 0 λv28=>
 lL E 55 v28 λv29=>
 mG t 1 λv30=>
 bT E .gtr 3 29 30 v29 v30 λv31=>
 mv (some v31) λv32=>
 sK v32 false (pG t 7) λv33=>
 sK v32 false (pG t 2) λv34=>
 sK v32 false (oS (some v33) λa=>oS (some v34) λb=>Cl.get (aBin E .gtr 3 (.tmp 33) (.tmp 34)) a b) λv35=>
 ae v32 (.bool true) v35 λv36=>
 sV 6 v36 t
theorem AjH_:RegEq 34 37 Ee RV Xf:={}
def SG:Rg:=λE u r t=>
 mG t 8 λv18=>
 bN E .add 18 1 (some v18) λv19=>
 sV 8 v19 t
theorem Ami_:RegEq 34 37 Ee SK_ SG:={}
theorem Kt_: ∃k,Sl_= .code .ret::k:=⟨Sl_.tail,X⟩
def EJ:Nat:=Ao Try.f36
abbrev Anh_:Nat:=26
def LE_:Code:=Try.f36.body.getD .skip
theorem Vt:envS.fn.get 36=some Try.f36:=X
theorem AxK_:G1 envS 36 26 EJ LE_:=λh=>
 aK Vt (h _ X)
theorem Aqf_:Try.f36.results.toList=[.tmp 2]:=X
def Ur_:List Item:=skim 64 [.code LE_]
def AP_:=nx Ur_
def KY_:=nx AP_
def JO:=nx KY_
def Sg:=nx JO
def XM:=bt Sg
def Wf_:=bf Sg
def Tq:=nx XM
def Wn:=nx Wf_
theorem AvL_:skim 64 Tq.tail=JO:=X
def Qq_:Rg:=λE u r t=>
 sV 2 (.slice none 0 0) t
theorem AhW_:RegEq 36 26 EJ Ur_ Qq_:={}
def PY_:Rg:=λE u r t=>
 M.bind (oS (seqP []) λps=>BS E 55 0 ps) λv5=>
 mG t 0 λv6=>
 lN E .append [55,55] [(some v5),(some v6)] λv7=>
 sV 3 v7 t
theorem AmC_:RegEq 36 26 EJ AP_ PY_:={}
def Zh:Rg:=λE u r t=>
 sV 4 (.int .i64 0) t
theorem Anj_:RegEq 36 26 EJ KY_ Zh:={}
def R7:Rg:=λE u r t=>
 mG t 4 λv8=>
 mG t 3 λv9=>
 lL E 55 v9 λv10=>
 bT E .lss 3 8 10 v8 v10 λv11=>
 ac 11 v11 t
theorem BS_:RegEq 36 26 EJ JO R7:={}
theorem Vr_:Aj Sg=some 11:=X
def DD_:Rg:=λE u r t=>
 mG t 3 λv14=>
 mG t 4 λv15=>
 M.bind (oS (seqP []) λps=>BS E 36 0 ps) λv16=>
 mG t 3 λv17=>
 mG t 4 λv18=>
 iD E 55 (some v17) (some v18) λv19=>
 fD E 85 2 (some v19) λv20=>
 lD E 36 (some v20) λv21=>
 lN E .append [36,36] [(some v16),(some v21)] λv22=>
 iD E 55 (some v14) (some v15) λv23=>
 fD E 85 2 (some v23) λv24=>
 sT E 36 (some v24) (some v22) λ_=>
 M.pure t
theorem Acd_:RegEq 36 26 EJ XM DD_:={}
def TR_:Rg:=λE u r t=>
 mG t 3 λv25=>
 sV 2 v25 t
theorem XG_:RegEq 36 26 EJ Wf_ TR_:={}
def UN_:Rg:=λE u r t=>
 mG t 4 λv12=>
 bN E .add 12 1 (some v12) λv13=>
 sV 4 v13 t
theorem AuE_:RegEq 36 26 EJ Tq UN_:={}
theorem Akm_: ∃k,Wn= .code .ret::k:=⟨Wn.tail,X⟩
theorem Ext.on {G F' G':Nat->Prop}{s s1 s2:St}(h:Ext Any G s s1)(k:Ext F' G' s1 s2)(hb:s.lim<=s.next)(hG: ∀x,x<s.next->G' x->G x):Ext Any G s s2:=h.trans k hb (λ_ _ _=>trivial) hG
def bigP (ps:List PkI)(k m:Nat):Bool:=decide (k<ps.length)||decide (m<Ar (ps.take (k+1)))
theorem Ic_ {N:Nat}: ∀{ps:List PkI},(∀p∈ps,p.hs.length<=N)->Ar ps<=ps.length*N
 |[],_=>Nat.zero_le _
 |p::ps,h=>by
  have h1:=h p am
  have h2:=Ic_ (ps:=ps) λx hx=>h x (by simp[hx])
  have h3:Ar (p::ps)=p.hs.length+Ar ps:=by unfold Ar;rw[List.map_cons,List.sum_cons]
  rw[h3,List.length_cons,Nat.succ_mul]
  omega
section
variable {vp:Value}{ps:List PkI}{k m:Nat}{Q:Value×FrameMode->St->Prop}{s0:St}
theorem Aaf_ (hb0:s0.lim<=s0.next)(hp:PkR s0 vp ps)(hz: ∀p∈ps,p.hs.length<=1048576)(hk:k<=1000)(hcx:s0.cx=cxN)(q: ∀s1,Ext Any Non s0 s1->Q (.bool (bigP ps k m), .run) s1):
  ∀(d i n:Nat) (tm:T Value) (s:St) (td:List Item),i+d=min ps.length (k+1)->10*d+20<=n->skim 64 td=LS->Ext Any Non s0 s->
  T.get tm 0=some vp->T.get tm 1=some (.int .i64 (k:Nat))->T.get tm 2=some (.int .i64 (m:Nat))->T.get tm 7=some (.int .i64 (Ar (ps.take i):Nat))->T.get tm 8=some (.int .i64 (i:Nat))->
  W (runF envS n ⟨34,Xd,Ee,tm,td, .run, .normal,none⟩) s Q:=by
 have tail: ∀(n':Nat) (tm:T Value) (s:St) (td:List Item),10<=n'->skim 64 td=RV->Ext Any Non s0 s->T.get tm 0=some vp->T.get tm 1=some (.int .i64 (k:Nat))->T.get tm 2=some (.int .i64 (m:Nat))->T.get tm 7=some (.int .i64 (Ar (ps.take (k+1)):Nat))->W (runF envS n' ⟨34,Xd,Ee,tm,td, .run, .normal,none⟩) s Q:=by
  intro n' tm s td hn hT hx h0 h1 h2 h7
  refine AjH_.u ?_ hT
  simp only[Xf,RR,SS,h0,h1]
  rw[hp.len]
  try simp only[A4,Dl,B9,Ae]
  by_cases c1:k<ps.length
  ·have e1:decide (((k:Nat):Int)<((ps.length:Nat):Int))=true:=decide_eq_true J
   simp only[e1,AJ,CA,Cx, ↓reduceIte]
   refine aB (rs:=[6]) (vs:=[.bool true]) rfl (.inl Kt_) J PT Lw_ (hx.cx.trans hcx) Y ?_
   have:=q s hx
   unfold bigP at this
   rw[decide_eq_true c1,Bool.true_or]at this
   exact this
  ·have e1:decide (((k:Nat):Int)<((ps.length:Nat):Int))=false:=decide_eq_false J
   have e2:decide (((m:Nat):Int)<((Ar (ps.take (k+1)):Nat):Int))=decide (m<Ar (ps.take (k+1))):=by
    by_cases h:m<Ar (ps.take (k+1))
    ·rw[decide_eq_true h,decide_eq_true J]
    ·rw[decide_eq_false h,decide_eq_false J]
   simp only[SS,e1,reduceCtorEq, ↓reduceIte,Ae,h2,h7,e2]
   refine aB (rs:=[6]) (vs:=[.bool (decide (m<Ar (ps.take (k+1))))]) rfl (.inl Kt_) J PT Lw_ (hx.cx.trans hcx) Y ?_
   have:=q s hx
   unfold bigP at this
   rw[decide_eq_false c1,Bool.false_or]at this
   exact this
 intro d
 induction d with
 |zero=>
  intro i n tm s td hi hn hT hx h0 h1 h2 h7 h8
  have ht:ps.take i=ps.take (k+1):=by
   rcases Nat.lt_or_ge (k+1) ps.length with h|h
   ·rw[show i=k+1 by omega]
   ·rw[List.take_of_length_le (show ps.length<=i by omega),List.take_of_length_le h]
  rw[ht]at h7
  refine IK_.u ?_ hT
  simp only[NF,RR,SS,h0,h8]
  rw[hp.len]
  try simp only[A4,Dl,B9,Ab]
  by_cases c1:i<ps.length
  ·have e1:decide (((i:Nat):Int)<((ps.length:Nat):Int))=true:=decide_eq_true J
   have e2:decide (((i:Nat):Int)<=((k:Nat):Int))=false:=decide_eq_false J
   simp only[SS,e1, ↓reduceIte,Ak,h1,e2]
   refine aE PA ?_
   exact tail _ _ s _ J rfl hx (an h0) (an h1) (an h2) (an h7)
  ·have e1:decide (((i:Nat):Int)<((ps.length:Nat):Int))=false:=decide_eq_false J
   simp only[e1,AJ,Dc,Cx,reduceCtorEq, ↓reduceIte]
   refine aE PA ?_
   exact tail _ _ s _ J rfl hx (an h0) (an h1) (an h2) (an h7)
 |succ d ih=>
  intro i n tm s td hi hn hT hx h0 h1 h2 h7 h8
  have hil:i<ps.length:=J
  obtain⟨b,o,c,ev,ga,gH,_,_,_⟩:=(hp.ext0 hx).at hil
  have e1:decide (((i:Nat):Int)<((ps.length:Nat):Int))=true:=decide_eq_true J
  have e2:decide (((i:Nat):Int)<=((k:Nat):Int))=true:=decide_eq_true J
  have hzi:=hz _ (List.getElem_mem hil)
  have htb:=Ic_ (ps:=ps.take i) (N:=1048576) λf hf'=>hz f (List.mem_of_mem_take hf')
  have hti:(ps.take i).length<=1001:=by rw[List.length_take];omega
  have hm:(ps.take i).length*1048576<=1001*1048576:=Nat.mul_le_mul_right _ hti
  refine IK_.u ?_ hT
  simp only[NF,RR,SS,h0,h8]
  rw[hp.len]
  simp only[SS, ↓reduceIte,Ab,Ak,e1,h1,e2]
  refine aH PA ?_
  refine Adb_.u ?_
  simp only[Ec_,RR,SS,Nat.reduceEqDiff,reduceCtorEq, ↓reduceIte,h0,ev,h7,h8,AO A8 hil,Af BG al]
  refine aA Bu (ga 2 _ rfl) ?_
  have x1:=hx.thenRd hb0 (b+(o+i*3+2))
  rw[gH.len]
  have es:wrap64 ((Ar (ps.take i):Nat)+(ps[i].hs.length:Nat):Int)=((Ar (ps.take (i+1)):Nat):Int):=by
   rw[AN J J,JR hil];omega
  simp only[Ad,es]
  refine Ami_.u ?_
  have ei:=eiW (i:=i) J
  simp only[SG,RR,SS,Nat.reduceEqDiff, ↓reduceIte,Ad,h8,ei]
  exact ih (i+1) _ _ _ _ J J AeZ_ x1 (by simp[T.get_set,h0,ev]) (an h1) (an h2) Y Y
theorem ApL_ {n:Nat}{s:St}{Q:Value->St->Prop}(hb:s.lim<=s.next)(hp:PkR s vp ps)(hz: ∀p∈ps,p.hs.length<=1048576)(hk:k<=1000)(hn:10*k+100<=n)(q: ∀s1,Ext Any Non s s1->Q (.bool (bigP ps k m)) s1):W (Ac envS (runF envS n) 34 [vp, .int .i64 (k:Nat), .int .i64 (m:Nat)]) s Q:=by
 refine AeY_ λtm h0 h1 h2=> ?_
 refine Aqv_.u ?_
 simp only[TB,RR,SS]
 refine AgS_.u ?_
 simp only[FY_,RR,SS]
 refine Avm_.u ?_
 simp only[Kv_,RR,SS]
 exact Aaf_ (s0:=s.cxN cxN) hb (hp.same rfl rfl) hz hk rfl (λs1 x1=>q _ x1.cx') (min ps.length (k+1)) 0 _ _ _ _ J J rfl (Ext.refl _) (an h0) (an h1) (an h2) (by simp[T.get_set];rfl) Y
