import Derived.Test.YtofanlcjeohcjaaIMg25
namespace Go.Proofs.Ytofanlcjeohcjaa.Am
open Go.RowKit
theorem Bi (l:List Nat):cellsOf (.agg (w32 l).toArray)=w32 l:=by
 show(w32 l).toArray.toList=_
 exact List.toList_toArray ..
theorem EL (l:List Nat):(w32 l).all oneCell=true:=by
 rw[List.all_eq_true]
 intro x hx
 obtain⟨n,_,rfl⟩:=List.mem_map.1 hx
 rfl
theorem AiQ_ (n:Nat):List.replicate n (.int .u32 0)=w32 (List.replicate n 0):=by
 unfold w32
 rw[List.map_replicate]
 rfl
theorem FT (f:Nat->Nat):(schL f).length=64:=by unfold schL;rw[List.length_map,List.length_range]
theorem Yn_ {n:Nat}{s:St}{v:Value}{l:List Nat}{Q:Value->St->Prop}(hbd:s.lim<=s.next)(hn:700<=n)(h:Bn s v l)(hlt: ∀x,BsF v x->x<s.next)(hl64:l.length=64)(hby:Byt l)
  (q: ∀s1,Ext (BsF v) Non s s1->Q (.agg (w32 (schL λj=>l.getD j 0)).toArray) s1):W (Ab envS (runF envS n) 146 [v]) s Q:=by
 refine Ada_ λtm h0=> ?_
 obtain⟨b,o,cc,rfl,h1,h2,h3⟩:=h
 rw[hl64]at h0
 have hlt': ∀x,In b o 64 x->x<s.next:=λx hx=>hlt x (by show In b o l.length x;rw[hl64];exact hx)
 refine Ade_.u ?_
 simp only[U5,RR,SS]
 refine W.alloc Hg λs1 n1 x1 o1=> ?_
 have n1':s1.next=s.next+65:=n1
 have hb1:s1.lim<=s1.next:=x1.bnd hbd
 refine Vn_.u ?_
 simp only[UD,RR,SS]
 refine W.alloc Hg λs2 n2 x2 o2=> ?_
 have n2':s2.next=s1.next+65:=n2
 have hb2:s2.lim<=s2.next:=x2.bnd hb1
 have hx2:Ext Non Non (s.cxN cxN) s2:=x1.step x2 hbd (λ_ _ h=>h.elim) λ_ h=>h.elim
 have hlim:s2.lim<=s.next:=by have:=hx2.lim;rw[this];exact hbd
 refine RG_.u ?_
 simp only[BQ_,RR,SS]
 rw[AiQ_]at o2
 refine Alw_ (C:=s.next) (B:=s1.next) (cc:=cc) (s0:=s2) hb2 (by omega) (λi v e=>((h3 i v e).same (s':=s.cxN cxN) rfl rfl).ext hx2 id) (λx hx h=>by have h4:=hlt' x hx;have h5:s1.next+0<=x:=h.1;omega) hl64 hby 16 0 _ _ _ _ (List.replicate 64 0) (by omega) (by omega) rfl (Ext.refl _) o2 (by simp) (λj hj=>absurd hj (by omega)) (by simp[T.get_set,h0]) (by simp[T.get_set]) (by simp[T.get_set]) (by simp[T.get_set]) λn3 tm3 s3 td3 ws hn3 hT3 hx3 ho3 hws3 hw3 g2 g3=> ?_
 refine XE_.u ?_ hT3
 simp only[Aa_,RR,SS]
 have hf: ∀j,l.getD j 0<256:=λj=>by
  rw[List.getD_eq_getElem?_getD]
  cases h:l[j]? with
  |none=>exact(by decide:0<256)
  |some x=>exact hby x (List.mem_of_getElem? h)
 refine Su_ (C:=s.next) (B:=s1.next) (f:=λj=>l.getD j 0) (s0:=s3) (hx3.bnd hb2) (by rw[hx3.lim];omega) hf 48 16 _ _ _ _ ws (by omega) (by omega) (by omega) rfl (Ext.refl _) ho3 hws3 hw3 (by simp[T.get_set,g2]) (by simp[T.get_set,g3]) (by simp[T.get_set]) λn4 tm4 s4 td4 hn4 hT4 hx4 ho4 k2 k3=> ?_
 have hx34:Ext (In b o 64) (In s1.next 0 64) s2 s4:=hx3.trans hx4 hb2 (λ_ _ h=>h.elim) λ_ _ h=>h
 have hx4':Ext (In b o 64) Non (s.cxN cxN) s4:=(hx2.weak hbd (λ_ _ h=>h.elim) λ_ _ h=>h).step hx34 hbd (λ_ _ h=>h) λy h=>by
  have h5:s1.next+0<=y:=h.1
  show s.next<=y
  omega
 have hb4:s4.lim<=s4.next:=hx4'.bnd hbd
 have hoC:An s4 s.next 0 64:=((Aa.owned o1).ext1 x2 λ_ _ h=>h).ext1 hx34 λx h h'=>by
  have h5:s1.next+0<=x:=h'.1
  have h6:x<s.next+0+64:=h.2
  omega
 refine Yj_.u ?_ hT4
 simp only[HE_,RR,SS,k2,k3]
 refine aG Ga ho4.row (by rw[BF,FT]) λs5 m5 n5 x5=> ?_
 have hx5:Ext (In b o 64) Non (s.cxN cxN) s5:=hx4'.step x5 hbd (λy hy h=>by
  have h5:s1.next+0<=y:=h.1
  have h6:y<s.lim:=hy
  omega) λ_ h=>h.elim
 refine W.store Ga (by rw[Bi,BF,FT]) (by rw[Bi];exact EL _) (λi hi=>let ⟨u,hu⟩:=hoC i hi;⟨u,hu.ext x5 id⟩) λs6 n6 x6 o6=> ?_
 rw[Bi]at o6
 have hx6:Ext (In b o 64) Non (s.cxN cxN) s6:=hx5.step x6 hbd (λy hy h=>by
  have h5:s.next+0<=y:=h.1
  have h6:y<s.lim:=hy
  omega) λy h=>by
   have h5:s.next+0<=y:=h.1
   show s.next<=y
   omega
 refine bB (r:=2) rfl (.inl AaV_) (by omega) Wd Akx_ hx6.cx (by simp[k2];rfl) ?_
 refine aG Ga o6.row (by rw[BF,FT]) λs7 m7 n7 x7=> ?_
 have hx7:Ext (In b o 64) Non (s.cxN cxN) s7:=hx6.step x7 hbd (λy hy h=>by
  have h5:s.next+0<=y:=h.1
  have h6:y<s.lim:=hy
  omega) λ_ h=>h.elim
 exact q _ ((hx7.weak hbd (λy _ h=>by show In b o l.length y;rw[hl64];exact h) λ_ _ h=>h).cx')
theorem Aca_ {n:Nat}{s:St}{Q:Value->St->Prop}(hbd:s.lim<=s.next)(hn:10<=n)(q: ∀s1,Ext Non Non s s1->Q (.agg (w32 Sha.ks).toArray) s1):W (Ab envS (runF envS n) 147 []) s Q:=by
 refine AeT_ λtm=> ?_
 refine Of_.u ?_
 simp only[AI_,RR,SS]
 refine W.alloc Hg λs1 n1 x1 o1=> ?_
 have hb1:s1.lim<=s1.next:=x1.bnd hbd
 refine Sy_.u ?_
 unfold TV
 refine W.bind (a8 (a:= .agg (w32 Sha.ks).toArray) (s':=s1) (by kernel_rfl) ?_)
 simp only[SS, ↓reduceIte]
 refine W.store Ga (by rw[Bi,BF];rfl) (by rw[Bi];exact EL _) (λi hi=>Aa.owned o1 i hi) λs6 n6 x6 o6=> ?_
 rw[Bi]at o6
 have hx6:Ext Non Non (s.cxN cxN) s6:=x1.step x6 hbd (λy hy h=>by
  have h5:s.next+0<=y:=h.1
  have h6:y<s.lim:=hy
  omega) λy h=>by
   have h5:s.next+0<=y:=h.1
   show s.next<=y
   omega
 refine bB (r:=0) rfl (.inl Sh_) (by omega) Tg WH_ hx6.cx (by simp[T.get_set];rfl) ?_
 refine aG Ga o6.row (by rw[BF];rfl) λs7 m7 n7 x7=> ?_
 have hx7:Ext Non Non (s.cxN cxN) s7:=hx6.step x7 hbd (λy hy h=>by
  have h5:s.next+0<=y:=h.1
  have h6:y<s.lim:=hy
  omega) λ_ h=>h.elim
 exact q _ hx7.cx'
theorem RU:CG envS 161=some (List.replicate 8 (.int .u32 0)):=by kernel_rfl
theorem EM:tyS envS 161=some (8,true):=by kernel_rfl
theorem Bl:arrN envS 161=some (8,1):=by kernel_rfl
theorem AcS_ (a b c d e f g h:Nat):Cv envS 161 [(0, .int .u32 (a:Nat)),(1, .int .u32 (b:Nat)),(2, .int .u32 (c:Nat)),(3, .int .u32 (d:Nat)),(4, .int .u32 (e:Nat)),(5, .int .u32 (f:Nat)),(6, .int .u32 (g:Nat)),(7, .int .u32 (h:Nat))]=some (w32 [a,b,c,d,e,f,g,h]):=by kernel_rfl
theorem Df {E:Env}{t sz b o len k:Nat}{i:Int}{kd:IntKind}{s:St}(e:i=(k:Nat))(h:arrN E t=some (len,sz))(hk:k<len)(Q:Value->St->Prop):W (BE E t (.pointer (some ⟨b,o,none⟩)) (.int kd i)) s Q=Q (.pointer (some ⟨b,o+k*sz,none⟩)) s:=by
 subst e
 exact ZO h hk Q
theorem am32 {a b:Nat}(ha:a<4294967296):(a&&&b)%4294967296=a&&&b:=Nat.mod_eq_of_lt (Nat.lt_of_le_of_lt Nat.and_le_left ha)
theorem Fz {a b:Nat}(ha:a<4294967296):a&&&b<4294967296:=Nat.lt_of_le_of_lt Nat.and_le_left ha
theorem WU_ {st:Sha.St8}(hok:st.Ok)(k w:Nat):((((st.h+((rot st.e 6^^^rot st.e 11)%4294967296^^^rot st.e 25)%4294967296)%4294967296+((st.e&&&st.f)%4294967296^^^((4294967295^^^st.e)%4294967296&&&st.g)%4294967296)%4294967296)%4294967296+k)%4294967296+w)%4294967296=Sha.t1 st k w:=by
 have he:=hok.e
 have hn:4294967295^^^st.e<4294967296:=Sha.xor_lt (by decide) he
 rw[xm32 (AQ _ 6 he) (AQ _ 11 he),xm32 (Sha.xor_lt (AQ _ 6 he) (AQ _ 11 he)) (AQ _ 25 he),am32 he,Nat.mod_eq_of_lt hn,am32 hn,xm32 (Fz he) (Fz hn)]
 rfl
theorem Ajt_ {st:Sha.St8}(hok:st.Ok):(((rot st.a 2^^^rot st.a 13)%4294967296^^^rot st.a 22)%4294967296+(((st.a&&&st.b)%4294967296^^^(st.a&&&st.c)%4294967296)%4294967296^^^(st.b&&&st.c)%4294967296)%4294967296)%4294967296=Sha.t2 st:=by
 have ha:=hok.a
 have hb:=hok.b
 rw[xm32 (AQ _ 2 ha) (AQ _ 13 ha),xm32 (Sha.xor_lt (AQ _ 2 ha) (AQ _ 13 ha)) (AQ _ 22 ha),am32 ha,am32 ha,am32 hb,xm32 (Fz ha) (Fz ha),xm32 (Sha.xor_lt (Fz ha) (Fz ha)) (Fz hb)]
 rfl
section
variable {V C B:Nat}{a2 a4:Value}{f:Nat->Nat}{st:Sha.St8}{Q:Value×FrameMode->St->Prop}{s0:St}
theorem PL_ (hb0:s0.lim<=s0.next)(hV:s0.lim<=V)(hC:s0.lim<=C)(hB:s0.lim<=B)(hVC:V+8<=C\/C+64<=V)(hVB:V+8<=B\/B+64<=V)(hst:st.Ok)(hw:Aa s0 B 0 (w32 (schL f)))(hk:Aa s0 C 0 (w32 Sha.ks)): ∀(k i n:Nat) (tm:T Value) (s:St) (td:List Item),i+k=64->8*k+60<=n->skim 64 td=Lw->Ext Non (In V 0 8) s0 s->Aa s V 0 (w32 (st8L (Sha.rnds Sha.K (Sha.sch f) st i)))->
  T.get tm 2=some a2->T.get tm 4=some a4->T.get tm 5=some (.pointer (some ⟨B,0,none⟩))->T.get tm 6=some (.pointer (some ⟨C,0,none⟩))->T.get tm 7=some (.pointer (some ⟨V,0,none⟩))->T.get tm 8=some (.int .i64 (i:Nat))->
  (∀n' tm' s1 td',n<=n'+8*k+10->skim 64 td'=Sa->Ext Non (In V 0 8) s0 s1->Aa s1 V 0 (w32 (st8L (Sha.rnds Sha.K (Sha.sch f) st 64)))->T.get tm' 2=some a2->T.get tm' 4=some a4->T.get tm' 7=some (.pointer (some ⟨V,0,none⟩))->W (runF envS n' ⟨132,JL,BO,tm',td', .run, .normal,none⟩) s1 Q)->
  W (runF envS n ⟨132,JL,BO,tm,td, .run, .normal,none⟩) s Q:=by
 intro k
 induction k with
 |zero=>
  intro i n tm s td hi hn hT hx ho h2 h4 h5 h6 h7 h8 q
  refine Bp_.u ?_ hT
  simp only[N4,RR,SS,Ak,h8]
  refine aH HF_ ?_
  obtain rfl:i=64:=by omega
  exact q _ _ _ _ (by omega) rfl hx ho (by simp[T.get_set,h2]) (by simp[T.get_set,h4]) (by simp[T.get_set,h7])
 |succ k ih=>
  intro i n tm s td hi hn hT hx ho h2 h4 h5 h6 h7 h8 q
  have hok:(Sha.rnds Sha.K (Sha.sch f) st i).Ok:=Sha.rnds_ok hst i
  have hnext:Sha.rnds Sha.K (Sha.sch f) st (i+1)=Sha.rnd (Sha.rnds Sha.K (Sha.sch f) st i) (Sha.K i) (Sha.sch f i):=rfl
  have hb:s.lim<=s.next:=hx.bnd hb0
  have hlimV:s.lim<=V:=by rw[hx.lim];exact hV
  generalize hS:Sha.rnds Sha.K (Sha.sch f) st i=S at *
  have gk:At s C (0+i*1) (.int .u32 (Sha.K i:Nat)):=by
   have h1:=hk i _ (Dl (show i<Sha.ks.length by rw[Sha.ks_len];omega))
   rw[Nat.mul_one]
   exact h1.at'.ext hx λh=>by have h3:=h.1;have h4:=h.2;omega
  have gw:At s B (0+i*1) (.int .u32 (Sha.sch f i:Nat)):=by
   have h1:=hw i _ (Dl (show i<(schL f).length by rw[FT];omega))
   have e:(schL f).getD i 0=Sha.sch f i:=by
    unfold schL
    rw[List.getD_eq_getElem?_getD,List.getElem?_map,List.getElem?_range (by omega)]
    rfl
   rw[e]at h1
   rw[Nat.mul_one]
   exact h1.at'.ext hx λh=>by have h3:=h.1;have h4:=h.2;omega
  have ga:At s V (0+0*1) (.int .u32 (S.a:Nat)):=(ho 0 _ rfl).at'
  have gb:At s V (0+1*1) (.int .u32 (S.b:Nat)):=(ho 1 _ rfl).at'
  have gc:At s V (0+2*1) (.int .u32 (S.c:Nat)):=(ho 2 _ rfl).at'
  have gd:At s V (0+3*1) (.int .u32 (S.d:Nat)):=(ho 3 _ rfl).at'
  have ge:At s V (0+4*1) (.int .u32 (S.e:Nat)):=(ho 4 _ rfl).at'
  have gf:At s V (0+5*1) (.int .u32 (S.f:Nat)):=(ho 5 _ rfl).at'
  have gg:At s V (0+6*1) (.int .u32 (S.g:Nat)):=(ho 6 _ rfl).at'
  have gh:At s V (0+7*1) (.int .u32 (S.h:Nat)):=(ho 7 _ rfl).at'
  obtain⟨F,hF⟩: ∃F:Nat->Prop,F=λx=>V<=x\/C<=x\/B<=x:=⟨_,rfl⟩
  have hFl: ∀x,x<s0.lim->F x->False:=λx h1 h2=>by rw[hF]at h2;rcases h2 with h2|h2|h2<;>omega
  refine Bp_.u ?_ hT
  simp only[N4,RR,SS,Ak,h8]
  refine aI HF_ ?_
  refine Sk_.rd (F:=F) rfl (by omega) ?_
  simp only[WJ,RR,T.get_set,Nat.reduceEqDiff, ↓reduceIte,h7,h8,h6,h5,AJ,Cw,B5,B8,BU,Bm (i:=7) (k:=7) rfl Bl (by decide)]
  refine aC AY (gh.same rfl rfl) λrd0 hr0=> ?_
  simp only[Bm (i:=4) (k:=4) rfl Bl (by decide)]
  refine aC AY (ge.same rfl rfl) λrd1 hr1=> ?_
  simp only[DV (i:=6) (n:=n-1-1-1) 6 rfl (by decide) rfl hok.e (by omega),Bm (i:=4) (k:=4) rfl Bl (by decide)]
  refine aC AY (ge.same rfl rfl) λrd2 hr2=> ?_
  simp only[Eu,DV (i:=11) (n:=n-1-1-1) 11 rfl (by decide) rfl hok.e (by omega),Bm (i:=4) (k:=4) rfl Bl (by decide)]
  refine aC AY (ge.same rfl rfl) λrd3 hr3=> ?_
  simp only[Eu,Fc,DV (i:=25) (n:=n-1-1-1) 25 rfl (by decide) rfl hok.e (by omega),Bm (i:=4) (k:=4) rfl Bl (by decide)]
  refine aC AY (ge.same rfl rfl) λrd4 hr4=> ?_
  simp only[Bm (i:=5) (k:=5) rfl Bl (by decide)]
  refine aC AY (gf.same rfl rfl) λrd5 hr5=> ?_
  simp only[IJ,Bm (i:=4) (k:=4) rfl Bl (by decide)]
  refine aC AY (ge.same rfl rfl) λrd6 hr6=> ?_
  simp only[Aae_,Bm (i:=6) (k:=6) rfl Bl (by decide)]
  refine aC AY (gg.same rfl rfl) λrd7 hr7=> ?_
  simp only[Ag,Eu,Fc,IJ,Bm (i:=((i:Nat):Int)) (k:=i) rfl EV (show i<64 by omega)]
  refine aC AY (gk.same rfl rfl) λrd8 hr8=> ?_
  simp only[Ag,Fc,Bm (i:=((i:Nat):Int)) (k:=i) rfl EV (show i<64 by omega)]
  refine aC AY (gw.same rfl rfl) λrd9 hr9=> ?_
  simp only[Fc]
  rw[WU_ hok,AK]
  have l0: ∀x∈rd0,F x:=λx hx=>by rw[hF,hr0 x hx];exact .inl (by omega)
  have l1: ∀x∈rd1,F x:=λx hx=>by rw[hF,hr1 x hx];exact .inl (by omega)
  have l2: ∀x∈rd2,F x:=λx hx=>by rw[hF,hr2 x hx];exact .inl (by omega)
  have l3: ∀x∈rd3,F x:=λx hx=>by rw[hF,hr3 x hx];exact .inl (by omega)
  have l4: ∀x∈rd4,F x:=λx hx=>by rw[hF,hr4 x hx];exact .inl (by omega)
  have l5: ∀x∈rd5,F x:=λx hx=>by rw[hF,hr5 x hx];exact .inl (by omega)
  have l6: ∀x∈rd6,F x:=λx hx=>by rw[hF,hr6 x hx];exact .inl (by omega)
  have l7: ∀x∈rd7,F x:=λx hx=>by rw[hF,hr7 x hx];exact .inl (by omega)
  have l8: ∀x∈rd8,F x:=λx hx=>by rw[hF,hr8 x hx];exact .inr (.inl (by omega))
  have l9: ∀x∈rd9,F x:=λx hx=>by rw[hF,hr9 x hx];exact .inr (.inr (by omega))
  refine⟨rfl,by simp, ?_,λs1 m1 n1 x1=> ?_⟩
  ·dsimp only
   simp only[List.forall_mem_cons]
   repeat' apply And.intro
   all_goals first|trivial|assumption|(intro x hx;cases hx)
  refine aJ (Ail_ ..) ?_
  simp only[SS]
  have hx1:Ext Non (In V 0 8) s0 s1:=hx.trans x1 hb0 (λy hy h=>hFl y hy h) λ_ _ h=>h.elim
  have ho1:Aa s1 V 0 (w32 (st8L S)):=λj v e=>(ho j v e).ext x1 id
  have ka:=ga.ext x1 id
  have kb:=gb.ext x1 id
  have kc:=gc.ext x1 id
  have kd:=gd.ext x1 id
  have ke:=ge.ext x1 id
  have kf:=gf.ext x1 id
  have kg:=gg.ext x1 id
  have kh:=gh.ext x1 id
  clear l0 l1 l2 l3 l4 l5 l6 l7 l8 l9
  refine Aaq_.rd (F:=F) rfl (by omega) ?_
  simp only[Nl_,RR,T.get_set,Nat.reduceEqDiff, ↓reduceIte,h7,AJ,Cw,B5,B8,BU,Bm (i:=0) (k:=0) rfl Bl (by decide)]
  refine aC AY (ka.same rfl rfl) λrd0 hr0=> ?_
  simp only[DV (i:=2) (n:=n-1-1-1-1) 2 rfl (by decide) rfl hok.a (by omega),Bm (i:=0) (k:=0) rfl Bl (by decide)]
  refine aC AY (ka.same rfl rfl) λrd1 hr1=> ?_
  simp only[Eu,DV (i:=13) (n:=n-1-1-1-1) 13 rfl (by decide) rfl hok.a (by omega),Bm (i:=0) (k:=0) rfl Bl (by decide)]
  refine aC AY (ka.same rfl rfl) λrd2 hr2=> ?_
  simp only[Eu,DV (i:=22) (n:=n-1-1-1-1) 22 rfl (by decide) rfl hok.a (by omega),Bm (i:=0) (k:=0) rfl Bl (by decide)]
  refine aC AY (ka.same rfl rfl) λrd3 hr3=> ?_
  simp only[Bm (i:=1) (k:=1) rfl Bl (by decide)]
  refine aC AY (kb.same rfl rfl) λrd4 hr4=> ?_
  simp only[IJ,Bm (i:=0) (k:=0) rfl Bl (by decide)]
  refine aC AY (ka.same rfl rfl) λrd5 hr5=> ?_
  simp only[Bm (i:=2) (k:=2) rfl Bl (by decide)]
  refine aC AY (kc.same rfl rfl) λrd6 hr6=> ?_
  simp only[Eu,IJ,Bm (i:=1) (k:=1) rfl Bl (by decide)]
  refine aC AY (kb.same rfl rfl) λrd7 hr7=> ?_
  simp only[Bm (i:=2) (k:=2) rfl Bl (by decide)]
  refine aC AY (kc.same rfl rfl) λrd8 hr8=> ?_
  simp only[Eu,Fc,IJ]
  rw[Ajt_ hok,AK]
  have l0: ∀x∈rd0,F x:=λx hx=>by rw[hF,hr0 x hx];exact .inl (by omega)
  have l1: ∀x∈rd1,F x:=λx hx=>by rw[hF,hr1 x hx];exact .inl (by omega)
  have l2: ∀x∈rd2,F x:=λx hx=>by rw[hF,hr2 x hx];exact .inl (by omega)
  have l3: ∀x∈rd3,F x:=λx hx=>by rw[hF,hr3 x hx];exact .inl (by omega)
  have l4: ∀x∈rd4,F x:=λx hx=>by rw[hF,hr4 x hx];exact .inl (by omega)
  have l5: ∀x∈rd5,F x:=λx hx=>by rw[hF,hr5 x hx];exact .inl (by omega)
  have l6: ∀x∈rd6,F x:=λx hx=>by rw[hF,hr6 x hx];exact .inl (by omega)
  have l7: ∀x∈rd7,F x:=λx hx=>by rw[hF,hr7 x hx];exact .inl (by omega)
  have l8: ∀x∈rd8,F x:=λx hx=>by rw[hF,hr8 x hx];exact .inl (by omega)
  refine⟨rfl,by simp, ?_,λs2 m2 n2 x2=> ?_⟩
  ·dsimp only
   simp only[List.forall_mem_cons]
   repeat' apply And.intro
   all_goals first|trivial|assumption|(intro x hx;cases hx)
  refine aJ (Aaf_ ..) ?_
  simp only[SS]
  have hx2:Ext Non (In V 0 8) s0 s2:=hx1.trans x2 hb0 (λy hy h=>hFl y hy h) λ_ _ h=>h.elim
  have ho2:Aa s2 V 0 (w32 (st8L S)):=λj v e=>(ho1 j v e).ext x2 id
  have ma:=ka.ext x2 id
  have mb:=kb.ext x2 id
  have mc:=kc.ext x2 id
  have md:=kd.ext x2 id
  have me:=ke.ext x2 id
  have mf:=kf.ext x2 id
  have mg:=kg.ext x2 id
  have mh:=kh.ext x2 id
  refine OV_.u ?_
  simp only[HH_,RR,SS,Nat.reduceEqDiff, ↓reduceIte,h7,Ug,Df (i:=0) (k:=0) rfl Bl (by decide),Df (i:=1) (k:=1) rfl Bl (by decide),Df (i:=2) (k:=2) rfl Bl (by decide),Df (i:=3) (k:=3) rfl Bl (by decide),Df (i:=4) (k:=4) rfl Bl (by decide),Df (i:=5) (k:=5) rfl Bl (by decide),Df (i:=6) (k:=6) rfl Bl (by decide)]
  refine aB AY (ma.same rfl rfl) ?_
  refine aB AY (mb.same rfl rfl) ?_
  refine aB AY (mc.same rfl rfl) ?_
  refine aB AY (md.same rfl rfl) ?_
  rw[Ug]
  refine aB AY (me.same rfl rfl) ?_
  refine aB AY (mf.same rfl rfl) ?_
  refine aB AY (mg.same rfl rfl) ?_
  rw[CA (AcS_ _ _ _ _ _ _ _ _)]
  have hrd: ∀(s:St) (j:Nat),s.lim<=V->Ext Non Non s (s.rdN (V+(0+j*1))):=λs j hl=>Ext.rdN s _ λh=>by omega
  generalize hs3:(((((((s2.rdN (V+(0+0*1))).rdN (V+(0+1*1))).rdN (V+(0+2*1))).rdN (V+(0+3*1))).rdN (V+(0+4*1))).rdN (V+(0+5*1))).rdN (V+(0+6*1)))=s3
  have hl2:s2.lim<=V:=by rw[hx2.lim];exact hV
  have hb2:s2.lim<=s2.next:=hx2.bnd hb0
  have x3:Ext Non Non s2 s3:=by
   rw[<-hs3]
   have tr: ∀{a b c:St},Ext Non Non a b->Ext Non Non b c->a.lim<=a.next->Ext Non Non a c:=λh k hb=>h.trans k hb (λ_ _ h=>h) λ_ _ h=>h
   exact tr (tr (tr (tr (tr (tr (hrd _ 0 hl2) (hrd _ 1 hl2) hb2) (hrd _ 2 hl2) hb2) (hrd _ 3 hl2) hb2) (hrd _ 4 hl2) hb2) (hrd _ 5 hl2) hb2) (hrd _ 6 hl2) hb2
  have hx3:Ext Non (In V 0 8) s0 s3:=hx2.trans x3 hb0 (λ_ _ h=>h) λ_ _ h=>h.elim
  have ho3:Aa s3 V 0 (w32 (st8L S)):=λj v e=>(ho2 j v e).ext x3 id
  refine W.store EM (by rw[Bi,BF];rfl) (by rw[Bi];exact EL _) (λi hi=>Aa.owned ho3 i hi) λs4 n4 x4 o4=> ?_
  rw[Bi]at o4
  have hx4:Ext Non (In V 0 8) s0 s4:=hx3.trans x4 hb0 (λy hy h=>by have h1:V+0<=y:=h.1;omega) λ_ _ h=>h
  refine AkN_.u ?_
  have ei:=eiW (i:=i) (by omega)
  simp only[Cq_,RR,SS,Nat.reduceEqDiff, ↓reduceIte,Aw,h8,ei]
  exact ih (i+1) _ _ _ _ (by omega) (by omega) AbZ_ hx4 (by rw[hnext];exact o4) (by simp[T.get_set,h2]) (by simp[T.get_set,h4]) (by simp[T.get_set,h5]) (by simp[T.get_set,h6]) (by simp[T.get_set,h7]) (by simp[T.get_set]) λn' tm' s5 td' e=>q n' tm' s5 td' (by omega)
end
section
variable {V S R:Nat}{st r:Sha.St8}{Q:Value×FrameMode->St->Prop}{s0:St}
def adL (st r:Sha.St8)(i:Nat):List Nat:=(List.range 8).map λj=>if j<i then((st8L st).getD j 0+(st8L r).getD j 0)%4294967296 else(st8L st).getD j 0
theorem Fp_ (st r:Sha.St8)(i:Nat):(adL st r i).length=8:=by unfold adL;rw[List.length_map,List.length_range]
theorem AiA_ (st r:Sha.St8)(i j:Nat)(hj:j<8):(adL st r i).getD j 0=if j<i then((st8L st).getD j 0+(st8L r).getD j 0)%4294967296 else(st8L st).getD j 0:=by
 unfold adL
 rw[List.getD_eq_getElem?_getD,List.getElem?_map,List.getElem?_range hj]
 rfl
theorem Xs_ (st r:Sha.St8):adL st r 0=st8L st:=rfl
theorem Xj_ (st r:Sha.St8):adL st r 8=st8L (Sha.plus st r):=by
 unfold Sha.plus
 rw[Nat.add_comm r.a,Nat.add_comm r.b,Nat.add_comm r.c,Nat.add_comm r.d,Nat.add_comm r.e,Nat.add_comm r.f,Nat.add_comm r.g,Nat.add_comm r.h]
 rfl
theorem ZY_ (st r:Sha.St8)(i:Nat)(hi:i<8):(adL st r i).set i (((st8L st).getD i 0+(st8L r).getD i 0)%4294967296)=adL st r (i+1):=by
 match i,hi with
 |0,_=>rfl
 |1,_=>rfl
 |2,_=>rfl
 |3,_=>rfl
 |4,_=>rfl
 |5,_=>rfl
 |6,_=>rfl
 |7,_=>rfl
theorem QL_ (hb0:s0.lim<=s0.next)(hV:s0.lim<=V)(hS:s0.lim<=S)(hVS:V+8<=S\/S+8<=V)(hv:Aa s0 V 0 (w32 (st8L r))): ∀(k i n:Nat) (tm:T Value) (s:St) (td:List Item),i+k=8->8*k+40<=n->skim 64 td=LZ->Ext Non (In S 0 8) s0 s->Aa s S 0 (w32 (adL st r i))->
  T.get tm 2=some (.pointer (some ⟨S,0,none⟩))->T.get tm 4=some (.pointer (some ⟨R,0,none⟩))->T.get tm 7=some (.pointer (some ⟨V,0,none⟩))->T.get tm 11=some (.int .i64 (i:Nat))->
  (∀n' tm' s1 td',n<=n'+8*k+10->skim 64 td'=Pq->Ext Non (In S 0 8) s0 s1->Aa s1 S 0 (w32 (st8L (Sha.plus st r)))->T.get tm' 2=some (.pointer (some ⟨S,0,none⟩))->T.get tm' 4=some (.pointer (some ⟨R,0,none⟩))->W (runF envS n' ⟨132,JL,BO,tm',td', .run, .normal,none⟩) s1 Q)->
  W (runF envS n ⟨132,JL,BO,tm,td, .run, .normal,none⟩) s Q:=by
 intro k
 induction k with
 |zero=>
  intro i n tm s td hi hn hT hx ho h2 h4 h7 h11 q
  refine My_.u ?_ hT
  simp only[OF,RR,SS,Ak,h11]
  refine aH Hw_ ?_
  obtain rfl:i=8:=by omega
  rw[Xj_]at ho
  exact q _ _ _ _ (by omega) rfl hx ho (by simp[T.get_set,h2]) (by simp[T.get_set,h4])
 |succ k ih=>
  intro i n tm s td hi hn hT hx ho h2 h4 h7 h11 q
  refine My_.u ?_ hT
  simp only[OF,RR,SS,Ak,h11]
  refine aI Hw_ ?_
  have hi8:i<8:=by omega
  obtain⟨F,hF⟩: ∃F:Nat->Prop,F=λx=>V<=x\/S<=x:=⟨_,rfl⟩
  have gs:At s S (0+i*1) (.int .u32 ((st8L st).getD i 0:Nat)):=by
   have h1:=ho i _ (Dl (show i<(adL st r i).length by rw[Fp_];exact hi8))
   rw[AiA_ st r i i hi8,if_neg (Nat.lt_irrefl i)]at h1
   rw[Nat.mul_one]
   exact h1.at'
  have gv:At s V (0+i*1) (.int .u32 ((st8L r).getD i 0:Nat)):=by
   have h1:=hv i _ (Dl (show i<(st8L r).length from hi8))
   rw[Nat.mul_one]
   exact h1.at'.ext hx λh=>by have h3:=h.1;have h4:=h.2;omega
  refine Afz_.rd (F:=F) rfl (by omega) ?_
  simp only[V6,RR,T.get_set,Nat.reduceEqDiff, ↓reduceIte,h2,h7,h11,AJ,Ag,Bm (i:=((i:Nat):Int)) (k:=i) rfl Bl hi8]
  refine aC AY (gs.same rfl rfl) λrd0 hr0=> ?_
  simp only[Ag,Bm (i:=((i:Nat):Int)) (k:=i) rfl Bl hi8]
  refine aC AY (gv.same rfl rfl) λrd1 hr1=> ?_
  simp only[Fc,Bm (i:=((i:Nat):Int)) (k:=i) rfl Bl hi8]
  rw[AK]
  have l0: ∀x∈rd0,F x:=λx hx=>by rw[hF,hr0 x hx];exact .inr (by omega)
  have l1: ∀x∈rd1,F x:=λx hx=>by rw[hF,hr1 x hx];exact .inl (by omega)
  refine⟨rfl,by simp, ?_,λs1 m1 n1 x1=> ?_⟩
  ·dsimp only
   simp only[List.forall_mem_cons]
   repeat' apply And.intro
   all_goals first|trivial|assumption|(intro x hx;cases hx)
  refine aJ (Oh_ ..) ?_
  simp only[SS]
  have hx1:Ext Non (In S 0 8) s0 s1:=hx.trans x1 hb0 (λy hy h=>by rw[hF]at h;rcases h with h|h<;>omega) λ_ _ h=>h.elim
  have ho1:Aa s1 S 0 (w32 (adL st r i)):=λj v e=>(ho j v e).ext x1 id
  have hown:=ho1 i _ (Dl (show i<(adL st r i).length by rw[Fp_];exact hi8))
  refine aL (o:=0+i*1) AY rfl (by rw[Nat.mul_one];exact hown) λs2 n2 x2 o2=> ?_
  rw[Nat.mul_one]at x2 o2
  have ho2:Aa s2 S 0 (w32 (adL st r (i+1))):=by
   rw[<-ZY_ st r i hi8,<-NQ]
   exact ho1.set x2 o2
  have hx2:Ext Non (In S 0 8) s0 s2:=hx1.trans x2 hb0 (λy hy h=>by have h1:S+(0+i)<=y:=h.1;omega) λy _ h=>by
   have h1:S+(0+i)<=y:=h.1
   have h2:y<S+(0+i)+1:=h.2
   exact⟨by omega,by omega⟩
  refine Aij_.u ?_
  have ei:=eiW (i:=i) (by omega)
  simp only[MV_,RR,SS,Nat.reduceEqDiff, ↓reduceIte,Aw,h11,ei]
  exact ih (i+1) _ _ _ _ (by omega) (by omega) AgK_ hx2 ho2 (by simp[T.get_set,h2]) (by simp[T.get_set,h4]) (by simp[T.get_set,h7]) (by simp[T.get_set]) λn' tm' s5 td' e=>q n' tm' s5 td' (by omega)
end
theorem HW (r:Sha.St8):(st8L r).length=8:=rfl
theorem Rl_ {n:Nat}{s:St}{v:Value}{st:Sha.St8}{l:List Nat}{Q:Value->St->Prop}(hbd:s.lim<=s.next)(hn:1500<=n)(h:Bn s v l)(hlt: ∀x,BsF v x->x<s.next)(hl64:l.length=64)(hby:Byt l)(hst:st.Ok)
  (q: ∀s1,Ext (BsF v) Non s s1->Q (.agg (w32 (st8L (Sha.next st λj=>l.getD j 0))).toArray) s1):W (Ab envS (runF envS n) 132 [.agg (w32 (st8L st)).toArray,v]) s Q:=by
 refine Afp_ λtm h0 h1=> ?_
 have hf: ∀j,l.getD j 0<256:=λj=>by
  rw[List.getD_eq_getElem?_getD]
  cases h:l[j]? with
  |none=>exact(by decide:0<256)
  |some x=>exact hby x (List.mem_of_getElem? h)
 have own: ∀{a b:Nat} {y:Nat},In a 0 b y->a<=y:=λh=>by have:=h.1;omega
 refine AhC_.u ?_
 simp only[Aq_,RR,SS,h0]
 refine W.box λs1 n1 x1 o1=> ?_
 rw[Bi,BF,HW]at n1
 rw[Bi]at o1
 have n1':s1.next=s.next+9:=n1
 refine W.alloc RU λs2 n2 x2 o2=> ?_
 have n2':s2.next=s1.next+9:=n2
 have hx2:Ext (BsF v) Non (s.cxN cxN) s2:=(x1.weak hbd (λ_ _ h=>h.elim) λ_ _ h=>h).step x2 hbd (λ_ _ h=>h.elim) λ_ h=>h.elim
 have hb2:s2.lim<=s2.next:=hx2.bnd hbd
 have hN2:s.next<=s2.next:=hx2.nxt
 refine RI_.u ?_
 simp only[WN,RR,SS,Nat.reduceEqDiff, ↓reduceIte,h1]
 refine Yn_ hb2 (by omega) ((h.same (s':=s.cxN cxN) rfl rfl).ext0 hx2) (λx hx=>Nat.lt_of_lt_of_le (hlt x hx) hN2) hl64 hby λs3 x3=> ?_
 have hx3:=hx2.step x3 hbd (λ_ _ h=>h) λ_ h=>h.elim
 refine Aca_ (hx3.bnd hbd) (by omega) λs4 x4=> ?_
 have hx4:=hx3.step x4 hbd (λ_ _ h=>h.elim) λ_ h=>h.elim
 refine W.alloc Hg λs5 n5 x5 o5=> ?_
 have n5':s5.next=s4.next+65:=n5
 have hx5:=hx4.step x5 hbd (λ_ _ h=>h.elim) λ_ h=>h.elim
 refine W.alloc Hg λs6 n6 x6 o6=> ?_
 have n6':s6.next=s5.next+65:=n6
 have hx6:=hx5.step x6 hbd (λ_ _ h=>h.elim) λ_ h=>h.elim
 have hN4:s2.next<=s4.next:=Nat.le_trans x3.nxt x4.nxt
 refine W.store Ga (by rw[Bi,BF,FT]) (by rw[Bi];exact EL _) (λi hi=>let ⟨u,hu⟩:=Aa.owned o5 i hi;⟨u,hu.ext x6 id⟩) λs7 n7 x7 o7=> ?_
 rw[Bi]at o7
 have hx7:=hx6.step x7 hbd (λy hy h=>by have h5:=own h;have h6:y<s.lim:=hy;omega) λy h=>by have h5:=own h;show s.next<=y;omega
 refine W.store Ga (by rw[Bi,BF];rfl) (by rw[Bi];exact EL _) (λi hi=>let ⟨u,hu⟩:=Aa.owned o6 i hi;⟨u,hu.ext x7 λh=>by have h5:=h.1;have h6:=h.2;omega⟩) λs8 n8 x8 o8=> ?_
 rw[Bi]at o8
 have hx8:=hx7.step x8 hbd (λy hy h=>by have h5:=own h;have h6:y<s.lim:=hy;omega) λy h=>by have h5:=own h;show s.next<=y;omega
 have o7':Aa s8 s4.next 0 (w32 (schL λj=>l.getD j 0)):=o7.ext x8 λi hi h=>by
  rw[BF,FT]at hi
  have h5:=own h
  omega
 have hoS:Aa s8 s.next 0 (w32 (st8L st)):=by
  refine Aa.ext (G:=λy=>s2.next<=y) (F:=BsF v) o1 ?_ λi hi h=> ?_
  ·have a1:Ext (BsF v) (λy=>s2.next<=y) s1 s2:=x2.weak (x1.bnd hbd) (λ_ _ h=>h.elim) λ_ _ h=>h.elim
   have a2:Ext (BsF v) (λy=>s2.next<=y) s1 s4:=(a1.trans x3 (x1.bnd hbd) (λ_ _ h=>h) λ_ _ h=>h.elim).trans x4 (x1.bnd hbd) (λ_ _ h=>h.elim) λ_ _ h=>h.elim
   have a3:Ext (BsF v) (λy=>s2.next<=y) s1 s6:=(a2.trans x5 (x1.bnd hbd) (λ_ _ h=>h.elim) λ_ _ h=>h.elim).trans x6 (x1.bnd hbd) (λ_ _ h=>h.elim) λ_ _ h=>h.elim
   have hl1:s1.lim<=s.next:=by rw[x1.lim];exact hbd
   have a4:=a3.trans x7 (x1.bnd hbd) (λy hy h=>by have h5:=own h;omega) λy _ h=>by have h5:=own h;show s2.next<=y;omega
   exact a4.trans x8 (x1.bnd hbd) (λy hy h=>by have h5:=own h;omega) λy _ h=>by have h5:=own h;show s2.next<=y;omega
  ·rw[BF,HW]at hi
   omega
 have hN8:s8.next=s6.next:=by omega
 refine Wb_.u ?_
 simp only[Hq_,RR,SS,Nat.reduceEqDiff, ↓reduceIte]
 refine aG EM hoS.row (by rw[BF];rfl) λs9 m9 n9 x9=> ?_
 have hx9:=hx8.step x9 hbd (λy hy h=>by have h5:s.next+0<=y:=h.1;have h6:y<s.lim:=hy;omega) λ_ h=>h.elim
 refine W.alloc RU λs10 n10 x10 o10=> ?_
 have n10':s10.next=s9.next+9:=n10
 have hx10:=hx9.step x10 hbd (λ_ _ h=>h.elim) λ_ h=>h.elim
 refine W.store EM (by rw[Bi,BF];rfl) (by rw[Bi];exact EL _) (λi hi=>Aa.owned o10 i hi) λs11 n11 x11 o11=> ?_
 rw[Bi]at o11
 have hx11:=hx10.step x11 hbd (λy hy h=>by have h5:=own h;have h6:y<s.lim:=hy;omega) λy h=>by have h5:=own h;show s.next<=y;omega
 have hb11:s11.lim<=s11.next:=hx11.bnd hbd
 have hl11:s11.lim<=s.next:=by rw[hx11.lim];exact hbd
 have x8_11:Ext (λy=>s.next<=y) (In s9.next 0 8) s8 s11:=((x9.weak (hx8.bnd hbd) (λy _ h=>by have h5:s.next+0<=y:=h.1;show s.next<=y;omega) λ_ _ h=>h.elim).trans x10 (hx8.bnd hbd) (λ_ _ h=>h.elim) λ_ _ h=>h.elim).trans x11 (hx8.bnd hbd) (λy _ h=>by have h5:=own h;show s.next<=y;omega) λ_ _ h=>h
 refine Ws_.u ?_
 simp only[CC_,RR,SS]
 refine PL_ (V:=s9.next) (C:=s5.next) (B:=s4.next) (f:=λj=>l.getD j 0) (st:=st) (s0:=s11) (a2:= .pointer (some ⟨s.next,0,none⟩)) (a4:= .pointer (some ⟨s1.next,0,none⟩)) hb11 (by omega) (by omega) (by omega) (.inr (by omega)) (.inr (by omega)) hst (o7'.ext x8_11 λi hi h=>by
  rw[BF,FT]at hi
  have h5:=own h
  omega) (o8.ext x8_11 λi hi h=>by
  rw[BF,Sha.ks_len]at hi
  have h5:=own h
  omega) 64 0 _ _ _ _ (by omega) (by omega) rfl (Ext.refl _) o11 (by simp[T.get_set]) (by simp[T.get_set]) (by simp[T.get_set]) (by simp[T.get_set]) (by simp[T.get_set]) (by simp[T.get_set]) λn12 tm12 s12 td12 hn12 hT12 hx12 ho12 g2 g4 g7=> ?_
 have hx12':=hx11.step hx12 hbd (λ_ _ h=>h.elim) λy h=>by have h5:=own h;show s.next<=y;omega
 refine AjE_.u ?_ hT12
 simp only[FO_,RR,SS]
 have hoS12:Aa s12 s.next 0 (w32 (st8L st)):=(hoS.ext x8_11 λi hi h=>by
  rw[BF,HW]at hi
  have h5:=own h
  omega).ext hx12 λi hi h=>by
  rw[BF,HW]at hi
  have h5:=own h
  omega
 refine QL_ (V:=s9.next) (S:=s.next) (R:=s1.next) (st:=st) (s0:=s12) (hx12'.bnd hbd) (by rw[hx12'.lim];show s.lim<=_;omega) (by rw[hx12'.lim];exact hbd) (.inr (by omega)) ho12 8 0 _ _ _ _ (by omega) (by omega) rfl (Ext.refl _) (by rw[Xs_];exact hoS12) (by simp[T.get_set,g2]) (by simp[T.get_set,g4]) (by simp[T.get_set,g7]) (by simp[T.get_set]) λn13 tm13 s13 td13 hn13 hT13 hx13 ho13 k2 k4=> ?_
 have hx13':=hx12'.step hx13 hbd (λ_ _ h=>h.elim) λy h=>by have h5:=own h;show s.next<=y;omega
 refine AlZ_.u ?_ hT13
 simp only[AR_,RR,SS,k2,k4]
 refine aG EM ho13.row (by rw[BF];rfl) λs14 m14 n14 x14=> ?_
 have hx14:=hx13'.step x14 hbd (λy hy h=>by have h5:s.next+0<=y:=h.1;have h6:y<s.lim:=hy;omega) λ_ h=>h.elim
 have hoR:An s14 s1.next 0 8:=by
  refine An.ext1 (F:=λ_=>True) (G:=λy=>s2.next<=y\/In s.next 0 8 y) (Aa.owned o2) ?_ λy h h'=> ?_
  ·have hb2':=hb2
   have t: ∀{F G:Nat->Prop} {a b:St},Ext (λ_=>True) (λy=>s2.next<=y\/In s.next 0 8 y) s2 a->Ext F G a b->(∀y,G y->s2.next<=y\/In s.next 0 8 y)->Ext (λ_=>True) (λy=>s2.next<=y\/In s.next 0 8 y) s2 b:=λh k hG=>h.trans k hb2' (λ_ _ _=>trivial) λy _ h=>hG y h
   have b4:=t (t (Ext.refl s2) x3 λ_ h=>h.elim) x4 λ_ h=>h.elim
   have b6:=t (t b4 x5 λ_ h=>h.elim) x6 λ_ h=>h.elim
   have b8:=t (t b6 x7 λy h=> .inl (by have:=own h;omega)) x8 λy h=> .inl (by have:=own h;omega)
   have b11:=t b8 x8_11 λy h=> .inl (by have:=own h;omega)
   have b13:=t (t b11 hx12 λy h=> .inl (by have:=own h;omega)) hx13 λy h=> .inr h
   exact t b13 x14 λ_ h=>h.elim
  ·have h5:=h.1
   have h6:y<s1.next+0+8:=h.2
   rcases h' with h'|h'
   ·omega
   ·have:=h'.2
    omega
 refine W.store EM (by rw[Bi,BF];rfl) (by rw[Bi];exact EL _) (λi hi=>hoR i hi) λs15 n15 x15 o15=> ?_
 rw[Bi]at o15
 have hx15:=hx14.step x15 hbd (λy hy h=>by have h5:=own h;have h6:y<s.lim:=hy;omega) λy h=>by have h5:=own h;show s.next<=y;omega
 refine bB (r:=4) rfl (.inl Aas_) (by omega) Ei_ AhL_ hx15.cx (by simp[k4];rfl) ?_
 refine aG EM o15.row (by rw[BF];rfl) λs16 m16 n16 x16=> ?_
 have hx16:=hx15.step x16 hbd (λy hy h=>by have h5:s1.next+0<=y:=h.1;have h6:y<s.lim:=hy;omega) λ_ h=>h.elim
 exact q _ hx16.cx'
section
variable {s0:St}{Q:Value×FrameMode->St->Prop}
theorem EmB.len {s s':St}{l:List Nat}{v:Value}{b:Nat}(h:EmB s l v b)(Q:Value->St->Prop):W (AS envS .len [22] [v]) s' Q=Q (.int .i64 (l.length:Nat)) s':=by
 obtain⟨c,rfl⟩:=h.at
 exact AP Al Q
theorem W.app1 {F G:Nat->Prop}{s:St}{l:List Nat}{x:Nat}{v:Value}{b:Nat}{Q:Value->St->Prop}(hbd:s.lim<=s.next)(h:EmB s l v b)(hz:l.length+1<=1000000)(hF:s0.next<=b)(hx:Ext F G s0 s)(hb0:s0.lim<=s0.next)
  (q: ∀s2 v2 b2,s0.next<=b2->EmB s2 (l++[x]) v2 b2->Ext F G s0 s2->Q v2 s2):W (AU envS 22 1 [(0, .int .u8 (x:Nat))]) s (λa s1=>W (AS envS .append [22,22] [v,a]) s1 Q):=by
 refine aK hbd (r:=u8l [x]) Ck (by decide) rfl (Az (by decide)) λs1 n1 x1 r1=> ?_
 have hb1:s1.lim<=s1.next:=x1.bnd hbd
 have hB:Bs s1 (.slice (some ⟨s.next,0,none⟩) 1 1) [x]:=Aa.bn r1 (Az (by simp))
 refine W.appBy hb1 (h.ext0 x1) hB (by simpa using hz) λs2 v2 b2 hb2 h2 x2=> ?_
 have hN:s0.next<=s.next:=hx.nxt
 refine q s2 v2 b2 ?_ h2 ?_
 ·have:=x1.nxt
  rcases hb2 with rfl|hb2<;>omega
 ·refine(hx.trans x1 hb0 (λ_ _ h=>h.elim) λ_ _ h=>h.elim).trans x2 hb0 (λy hy h=> ?_) λy hy h=> ?_
  ·rcases h with h|h
   ·have:s.next+0<=y:=h.1
    omega
   ·have:b+0<=y:=h.2.1
    omega
  ·have:b+0<=y:=h.2.1
   omega
theorem Yr_ {v:Value}{F:Nat->Prop}{b:List Nat}(hb0:s0.lim<=s0.next)(hz:b.length<=900000): ∀(k j n:Nat) (tm:T Value) (s:St) (td:List Item) (w:Value) (nb:Nat),j+k=(119-b.length%64)%64->8*k+30<=n->skim 64 td=KS->Ext F Non s0 s->s0.next<=nb->EmB s (b++(128::List.replicate j 0)) w nb->
  T.get tm 0=some v->T.get tm 3=some w->
  (∀n' tm' s1 td' w nb,n<=n'+8*k+10->skim 64 td'=QL->Ext F Non s0 s1->s0.next<=nb->EmB s1 (b++(128::List.replicate ((119-b.length%64)%64) 0)) w nb->T.get tm' 0=some v->T.get tm' 3=some w->W (runF envS n' ⟨131,K3,Cx,tm',td', .run, .normal,none⟩) s1 Q)->
  W (runF envS n ⟨131,K3,Cx,tm,td, .run, .normal,none⟩) s Q:=by
 intro k
 induction k with
 |zero=>
  intro j n tm s td w nb hj hn hT hx hnb he h0 h3 q
  have hl:(b++(128::List.replicate j 0)).length=b.length+1+j:=by rw[List.length_append,List.length_cons,List.length_replicate];omega
  refine BV_.u ?_ hT
  simp only[Nf,RR,SS,h3]
  rw[he.len,hl]
  simp only[CQ,Lc]
  refine aH XX ?_
  rw[show j=(119-b.length%64)%64 by omega]at he
  exact q _ _ _ _ w nb (by omega) rfl hx hnb he (by simp[T.get_set,h0]) (by simp[T.get_set,h3])
 |succ k ih=>
  intro j n tm s td w nb hj hn hT hx hnb he h0 h3 q
  have hl:(b++(128::List.replicate j 0)).length=b.length+1+j:=by rw[List.length_append,List.length_cons,List.length_replicate];omega
  refine BV_.u ?_ hT
  simp only[Nf,RR,SS,h3]
  rw[he.len,hl]
  simp only[CQ,Lc]
  refine aI XX ?_
  refine Se_.u ?_
  simp only[EG_,RR,SS,Nat.reduceEqDiff, ↓reduceIte,h3]
  refine W.app1 (x:=0) (hx.bnd hb0) he (by rw[hl];omega) hnb hx hb0 λs2 w2 b2 hb2 h2 x2=> ?_
  have e:b++(128::List.replicate j 0)++[0]=b++(128::List.replicate (j+1) 0):=by
   rw[List.append_assoc,List.cons_append,<-List.replicate_succ']
  rw[e]at h2
  exact ih (j+1) _ _ _ _ w2 b2 (by omega) (by omega) Amm_ x2 hb2 h2 (by simp[T.get_set,h0]) (by simp[T.get_set]) λn' tm' s3 td' w nb e=>q n' tm' s3 td' w nb (by omega)
theorem AjA_ {F:Nat->Prop}{N:Nat}(hb0:s0.lim<=s0.next)(hN:N<=100000000): ∀(k n:Nat) (tm:T Value) (s:St) (td:List Item) (w:Value) (nb:Nat) (l:List Nat),k<=8->10*k+30<=n->skim 64 td=JZ->Ext F Non s0 s->s0.next<=nb->EmB s l w nb->l.length+k<=1000000->
  T.get tm 3=some w->T.get tm 4=some (.int .i64 (N:Nat))->T.get tm 5=some (.int .i64 ((k:Nat)-1:Int))->
  (∀n' tm' s1 td' w nb,n<=n'+10*k+10->skim 64 td'=RL->Ext F Non s0 s1->s0.next<=nb->EmB s1 (l++tl8 N k) w nb->T.get tm' 3=some w->W (runF envS n' ⟨131,K3,Cx,tm',td', .run, .normal,none⟩) s1 Q)->
  W (runF envS n ⟨131,K3,Cx,tm,td, .run, .normal,none⟩) s Q:=by
 intro k
 induction k with
 |zero=>
  intro n tm s td w nb l hk hn hT hx hnb he hl h3 h4 h5 q
  refine ED_.u ?_ hT
  simp only[NX,RR,SS,Gv,h5]
  refine aH Wz ?_
  refine q _ _ _ _ w nb (by omega) rfl hx hnb ?_ (by simp[T.get_set,h3])
  rw[show tl8 N 0=[]from rfl,List.append_nil]
  exact he
 |succ k ih=>
  intro n tm s td w nb l hk hn hT hx hnb he hl h3 h4 h5 q
  have ec:(((k+1:Nat):Int)-1)=((k:Nat):Int):=by omega
  rw[ec]at h5
  refine ED_.u ?_ hT
  simp only[NX,RR,SS,Gv,h5]
  refine aI Wz ?_
  refine Uh_.u ?_
  simp only[JO_,RR,SS,Nat.reduceEqDiff, ↓reduceIte,h3,h4,h5,K2 (show 8*k<=9223372036854775807 by omega),Fk (k:= .i64) (kk:= .i64) (n:=8*k) (show 8*k<=btOf .i64 by show 8*k<=64;omega),Cu Jd Dy,wrap_u8]
  refine W.app1 (x:=N>>>(8*k)%256) (hx.bnd hb0) he (by omega) hnb hx hb0 λs2 w2 b2 hb2 h2 x2=> ?_
  refine AcZ_.u ?_
  have ei:wrap64 ((k:Nat)-1:Int)=((k:Nat)-1:Int):=Ax (by omega) (by omega)
  simp only[UA,RR,SS,Nat.reduceEqDiff, ↓reduceIte,Cq,h5,ei]
  refine ih _ _ _ _ w2 b2 (l++[N>>>(8*k)%256]) (by omega) (by omega) Pc_ x2 hb2 h2 (by rw[List.length_append,List.length_singleton];omega) (by simp[T.get_set]) (by simp[T.get_set,h4]) (by simp[T.get_set]) λn' tm' s3 td' w nb e h1 h2 h3 h4 h5=>q n' tm' s3 td' w nb (by omega) h1 h2 h3 ?_ h5
  rw[List.append_assoc]at h4
  exact h4
end
theorem AcL_ {n:Nat}{s:St}{v:Value}{l:List Nat}{Q:Value->St->Prop}(hbd:s.lim<=s.next)(hn:800<=n)(h:Bs s v l)(hz:l.length<=900000)
  (q: ∀s1 w b,s.next<=b->Ext (BsF v) Non s s1->EmB s1 (C4 l) w b->Q w s1):W (Ab envS (runF envS n) 131 [v]) s Q:=by
 refine AkA_ λtm h0=> ?_
 have hc:Bs (s.cxN cxN) v l:=h.same rfl rfl
 refine AdJ_.u ?_
 simp only[Ba_,RR,SS]
 refine RW_.u ?_
 simp only[GE_,RR,SS,reduceCtorEq, ↓reduceIte,h0]
 refine aK (s:=s.cxN cxN) hbd (r:=[]) Ck (by decide) rfl (Az (by decide)) λs2 n2 x2 r2=> ?_
 have hb2:s2.lim<=s2.next:=x2.bnd hbd
 refine W.appBy hb2 EmB.nil (hc.ext0 x2) (by show 0+_<=_;omega) λs3 w3 b3 hb3 h3 x3=> ?_
 have hnm: ∀y,¬MkF 1 ([]:List Nat).length (s.cxN cxN).next y:=λy hy=>absurd hy.1 (by simp)
 have x3':Ext (BsF v) Non s2 s3:=x3.weak hb2 (λy _ hy=>hy.elim id λhy=>(hnm y hy).elim) λy _ hy=>hnm y hy
 have hx3:Ext (BsF v) Non (s.cxN cxN) s3:=(x2.weak hbd (λ_ _ h=>h.elim) λ_ _ h=>h).step x3' hbd (λ_ _ h=>h) λ_ h=>h.elim
 have hs3:(s.cxN cxN).next<=b3:=by
  have:s.next<=s2.next:=x2.nxt
  show s.next<=b3
  rcases hb3 with rfl|hb3
  ·exact Nat.le_refl _
  ·omega
 rw[List.nil_append]at h3
 refine ZJ_.u ?_
 simp only[KF_,RR,SS, ↓reduceIte]
 refine W.app1 (x:=128) (s0:=s.cxN cxN) (hx3.bnd hbd) h3 (by omega) hs3 hx3 hbd λs4 w4 b4 hb4 h4 x4=> ?_
 refine Yr_ (v:=v) (F:=BsF v) (b:=l) (s0:=s.cxN cxN) hbd hz ((119-l.length%64)%64) 0 _ _ _ _ w4 b4 (by omega) (by omega) rfl x4 hb4 h4 (by simp[T.get_set,h0]) (by simp[T.get_set]) λn5 tm5 s5 td5 w5 b5 hn5 hT5 hx5 hb5 h5 g0 g3=> ?_
 refine AfR_.u ?_ hT5
 simp only[U1,RR,SS,g0]
 rw[(hc.ext0 hx5).len Al]
 simp only[K2 (show 8*l.length<=9223372036854775807 by omega)]
 refine RF_.u ?_
 simp only[Em_,RR,SS]
 refine AjA_ (F:=BsF v) (N:=8*l.length) (s0:=s.cxN cxN) hbd (by omega) 8 _ _ _ _ w5 b5 (l++(128::List.replicate ((119-l.length%64)%64) 0)) (by omega) (by omega) rfl hx5 hb5 h5 (by rw[List.length_append,List.length_cons,List.length_replicate];omega) (by simp[T.get_set,g3]) (by simp[T.get_set]) (by simp[T.get_set]) λn6 tm6 s6 td6 w6 b6 hn6 hT6 hx6 hb6 h6 k3=> ?_
 refine TJ_.u ?_ hT6
 simp only[Xg,RR,SS,k3]
 refine aF (rs:=[2]) (vs:=[w6]) rfl (.inl Ys_) (by omega) ZF Ajm_ hx6.cx (by simp[T.get_set]) ?_
 refine q _ _ b6 hb6 hx6.cx' ?_
 have:=h6.same (s':=s6.cxN s.cx) rfl rfl
 rw[List.append_assoc]at this
 exact this
theorem Aag_:Cv envS 161 [(0, .int .u32 1779033703),(1, .int .u32 3144134277),(2, .int .u32 1013904242),(3, .int .u32 2773480762),(4, .int .u32 1359893119),(5, .int .u32 2600822924),(6, .int .u32 528734635),(7, .int .u32 1541459225)]=some (w32 (st8L Dc)):=by kernel_rfl
theorem TT_ {x:List Nat}(h:Byt x)(q:Nat):Byt (blk x q):=λy hy=>h y (List.mem_of_mem_take (List.mem_of_mem_drop hy))
theorem Qe_ {x:List Nat}{q:Nat}(h:64*q+64<=x.length):(blk x q).length=64:=by
 unfold blk
 rw[List.length_drop,List.length_take]
 omega
theorem Lz_ (n d:Nat):bndV (some (.int .i64 (n:Nat))) d=some n:=rfl
section
variable {S R:Nat}{w:Value}{X:List Nat}{N:Nat}{Q:Value×FrameMode->St->Prop}{s0:St}
theorem QD_ (hb0:s0.lim<=s0.next)(hSl:s0.lim<=S)(hw:Bn s0 w X)(hwn: ∀x,BsF w x->x<s0.next/\ ¬In S 0 8 x)(hX:X.length=64*N)(hz:X.length<=1000000)(hby:Byt X): ∀(k i n:Nat) (tm:T Value) (s:St) (td:List Item),i+k=N->6*k+2000<=n->skim 64 td=Js->Ext (BsF w) (In S 0 8) s0 s->Aa s S 0 (w32 (st8L (CK X i)))->
  T.get tm 2=some (.pointer (some ⟨R,0,none⟩))->T.get tm 3=some (.pointer (some ⟨S,0,none⟩))->T.get tm 4=some w->T.get tm 5=some (.int .i64 (64*i:Nat))->
  (∀n' tm' s1 td',n<=n'+6*k+10->skim 64 td'=L9->Ext (BsF w) (In S 0 8) s0 s1->Aa s1 S 0 (w32 (st8L (CK X N)))->T.get tm' 2=some (.pointer (some ⟨R,0,none⟩))->T.get tm' 3=some (.pointer (some ⟨S,0,none⟩))->W (runF envS n' ⟨107,K9,B7,tm',td', .run, .normal,none⟩) s1 Q)->
  W (runF envS n ⟨107,K9,B7,tm,td, .run, .normal,none⟩) s Q:=by
 intro k
 induction k with
 |zero=>
  intro i n tm s td hi hn hT hx ho h2 h3 h4 h5 q
  refine Eh_.u ?_ hT
  simp only[Ra,RR,SS,h4,h5]
  obtain⟨b,o,cc,hwe,_⟩:=hw
  rw[hwe,AP Al]
  simp only[Ak]
  refine aH AQ_ ?_
  obtain rfl:i=N:=by omega
  exact q _ _ _ _ (by omega) rfl hx ho (by simp[T.get_set,h2]) (by simp[T.get_set,h3])
 |succ k ih=>
  intro i n tm s td hi hn hT hx ho h2 h3 h4 h5 q
  have hb:s.lim<=s.next:=hx.bnd hb0
  have hN:=hx.nxt
  refine Eh_.u ?_ hT
  simp only[Ra,RR,SS,h4,h5]
  have hlen: ∀Q:Value->St->Prop,W (AS envS .len [22] [w]) s Q=Q (.int .i64 (X.length:Nat)) s:=λQ=>by
   obtain⟨b,o,cc,hwe,_⟩:=hw
   rw[hwe,AP Al]
  rw[hlen]
  simp only[Ak]
  refine aI AQ_ ?_
  have hws:Bn s w X:=hw.ext hx λx hxx=>(hwn x hxx).2
  have w64:wrap64 (((64*i:Nat):Int)+64)=((64*i+64:Nat):Int):=by rw[Ax (by omega) (by omega)];simp
  refine Qn_.u ?_
  simp only[Kq_,RR,T.get_set,Nat.reduceEqDiff, ↓reduceIte,h3,h4,h5,AJ]
  refine aV EM (λj v e=>((ho j v e).same (s':=dSt s.mem s.next) rfl rfl).at') (by rw[BF];rfl) λmem1 rd1 hm1 hr1=> ?_
  subst hm1
  simp only[Cw,BU,Ag,JO,w64]
  refine bA (W.cut (hws.same (s':=oSt s.mem s.next) rfl rfl) Al (i:=64*i) (j:=64*i+64) (Lz_ _ _) (Lz_ _ _) (by omega) (by omega) λw2 hw2 hF2=>⟨rfl, ?_⟩)
  simp only[Cw,B5,B8,BU]
  have hk:64*i+64<=X.length:=by omega
  refine aU ?_
  rw[HG]
  refine Rl_ (l:=blk X i) (st:=CK X i) (Nat.le_refl _) (by omega) hw2 (λx hxx=>Nat.lt_of_lt_of_le (hwn x (hF2 x hxx)).1 hN) (Qe_ hk) (TT_ hby i) (Ajr_ X i) λs2 x2=>⟨BsF w2,x2,λrd2 hr2=> ?_⟩
  have hn2:s.next<=s2.next:=x2.nxt
  rw[AK]
  refine⟨D3 ?_, ?_⟩
  ·simp only[List.reverse_cons,List.reverse_nil,List.nil_append,List.cons_append,allP,CF,List.take,DB]
   have f1: ∀x,x∈rd1-> ¬s.next<=x:=λx hx=>Nat.not_le_of_lt (by
    have h1:=hr1 x hx
    have h2:=(ho 7 _ rfl).1
    have h3:x<S+0+8:=h1.2
    omega)
   have f2: ∀x,x∈rd2-> ¬s.next<=x:=λx hx=>Nat.not_le_of_lt (hr2 x hx).1
   simp+contextual [f2]
  refine aJ (AkM_ ..) ?_
  simp only[SS,Nat.reduceEqDiff, ↓reduceIte,h3]
  generalize hs3:(⟨(dSt s2.mem s2.next).mem,(dSt s2.mem s2.next).next,s.lim,_,_,s.cx⟩:St)=s3
  have m3:s3.mem=s2.mem:=by rw[<-hs3];rfl
  have n3:s3.next=s2.next:=by rw[<-hs3];rfl
  have x3:Ext (λy=>BsF w y\/In S 0 8 y) Non s s3:=by
   rw[<-hs3]
   refine Ext.draw (F:=λy=>BsF w y\/In S 0 8 y) hn2 (λy hy=>x2.mem y hy id) (by simp) ?_
   simp only[List.mem_cons,List.not_mem_nil,or_false]
   rintro m (rfl|rfl|rfl|rfl|rfl|rfl|rfl) x hx _<;>first|exact .inr (hr1 _ hx)|exact .inl (hF2 _ (hr2 _ hx).2)|cases hx
  have hx3:Ext (BsF w) (In S 0 8) s0 s3:=hx.trans x3 hb0 (λy hy h=>by
   rcases h with h|h
   ·exact h
   ·have:=h.1
    omega) λ_ _ h=>h.elim
  have ho3:Aa s3 S 0 (w32 (st8L (CK X i))):=ho.ext0 x3
  refine W.store EM (by rw[Bi,BF];rfl) (by rw[Bi];exact EL _) (λi hi=>Aa.owned ho3 i hi) λs4 n4 x4 o4=> ?_
  rw[Bi]at o4
  have hx4:Ext (BsF w) (In S 0 8) s0 s4:=hx3.trans x4 hb0 (λy hy h=>by have:=h.1;omega) λ_ _ h=>h
  refine Zp_.u ?_
  simp only[Sq,RR,SS,Nat.reduceEqDiff, ↓reduceIte,Aw,h5,w64]
  exact ih (i+1) _ _ _ _ (by omega) (by omega) Pv_ hx4 o4 (by simp[T.get_set,h2]) (by simp[T.get_set,h3]) (by simp[T.get_set,h4]) (by simp[T.get_set];omega) λn' tm' s5 td' e=>q n' tm' s5 td' (by omega)
end
def BA (n:Nat)(g:Nat->Nat)(i:Nat):List Nat:=(List.range n).map λj=>if j<i then g j else 0
theorem Jk (n:Nat)(g:Nat->Nat)(i:Nat):(BA n g i).length=n:=by unfold BA;rw[List.length_map,List.length_range]
theorem NH (n:Nat)(g:Nat->Nat):BA n g 0=List.replicate n 0:=by
 unfold BA
 apply List.ext_getElem?
 intro j
 rw[List.getElem?_map,List.getElem?_replicate]
 by_cases hj:j<n
 ·rw[List.getElem?_range hj,if_pos hj]
  rfl
 ·rw[List.getElem?_eq_none (by simp;omega),if_neg hj]
  rfl
theorem MT (n:Nat)(g:Nat->Nat):BA n g n=(List.range n).map g:=by
 unfold BA
 apply List.map_congr_left
 intro j hj
 rw[if_pos (List.mem_range.1 hj)]
theorem M8 (n:Nat)(g:Nat->Nat){i:Nat}(hi:i<n):(BA n g i).set i (g i)=BA n g (i+1):=by
 apply List.ext_getElem?
 intro j
 rw[List.getElem?_set,Jk]
 unfold BA
 rw[List.getElem?_map,List.getElem?_map]
 by_cases hij:i=j
 ·subst hij
  rw[if_pos rfl,if_pos hi,List.getElem?_range hi]
  show _=some (if i<i+1 then g i else 0)
  rw[if_pos (by omega)]
 ·rw[if_neg hij]
  by_cases hj:j<n
  ·rw[List.getElem?_range hj]
   show some (if j<i then g j else 0)=some (if j<i+1 then g j else 0)
   by_cases h:j<i
   ·rw[if_pos h,if_pos (by omega)]
   ·rw[if_neg h,if_neg (by omega)]
  ·rw[List.getElem?_eq_none (by simp;omega)]
   rfl
theorem Q0 (l:List Nat)(i x:Nat):(u8l l).set i (.int .u8 (x:Nat))=u8l (l.set i x):=by
 unfold u8l
 rw[List.map_set]
theorem IY {l:List Nat}{i:Nat}(h:i<l.length):(u8l l)[i]?=some (.int .u8 (l.getD i 0:Nat)):=by
 unfold u8l
 rw[List.getElem?_map,List.getElem?_eq_getElem h,List.getD_eq_getElem?_getD,List.getElem?_eq_getElem h]
 rfl
theorem EE (l:List Nat):cellsOf (.agg (u8l l).toArray)=u8l l:=by
 show(u8l l).toArray.toList=_
 exact List.toList_toArray ..
def outG (r:Sha.St8)(j:Nat):Nat:=(st8L r).getD (j/4) 0>>>(24-8*(j%4))%256
theorem AaE_ (r:Sha.St8):(List.range 32).map (outG r)=outs (st8L r):=rfl
section
variable {E:Env}{t:Nat}{xo yo:Operand}{s:St}
theorem Adl_ {m:Nat}(hm:m<=9223372036854775807)(Q:Value->St->Prop):W (Cl.get (aBin E .quo t xo yo) (.int .i64 (m:Nat)) (.int .i64 4)) s Q=Q (.int .i64 (m/4:Nat)) s:=Lq_ (n:=4) (by decide) hm Q
theorem Rx_ {m:Nat}(Q:Value->St->Prop):W (Cl.get (aBin E .rem t xo yo) (.int .i64 (m:Nat)) (.int .i64 4)) s Q=Q (.int .i64 (m%4:Nat)) s:=Kf (n:=4) (by decide) Q
end
section
variable {S R O:Nat}{r:Sha.St8}{Q:Value×FrameMode->St->Prop}{s0:St}
theorem Uz_ (hb0:s0.lim<=s0.next)(hSl:s0.lim<=S)(hOl:s0.lim<=O)(hSO:S+8<=O)(hs:Aa s0 S 0 (w32 (st8L r))): ∀(k i n:Nat) (tm:T Value) (s:St) (td:List Item),i+k=32->6*k+30<=n->skim 64 td=K0->Ext Non (In O 0 32) s0 s->Aa s O 0 (u8l (BA 32 (outG r) i))->
  T.get tm 2=some (.pointer (some ⟨R,0,none⟩))->T.get tm 3=some (.pointer (some ⟨S,0,none⟩))->T.get tm 6=some (.pointer (some ⟨O,0,none⟩))->T.get tm 7=some (.int .i64 (i:Nat))->
  (∀n' tm' s1 td',n<=n'+6*k+10->skim 64 td'=PW->Ext Non (In O 0 32) s0 s1->Aa s1 O 0 (u8l (outs (st8L r)))->T.get tm' 2=some (.pointer (some ⟨R,0,none⟩))->T.get tm' 6=some (.pointer (some ⟨O,0,none⟩))->W (runF envS n' ⟨107,K9,B7,tm',td', .run, .normal,none⟩) s1 Q)->
  W (runF envS n ⟨107,K9,B7,tm,td, .run, .normal,none⟩) s Q:=by
 intro k
 induction k with
 |zero=>
  intro i n tm s td hi hn hT hx ho h2 h3 h6 h7 q
  refine BT_.u ?_ hT
  simp only[R7,RR,SS,Ak,h7]
  refine aH HG_ ?_
  obtain rfl:i=32:=by omega
  rw[MT,AaE_]at ho
  exact q _ _ _ _ (by omega) rfl hx ho (by simp[T.get_set,h2]) (by simp[T.get_set,h6])
 |succ k ih=>
  intro i n tm s td hi hn hT hx ho h2 h3 h6 h7 q
  have hi32:i<32:=by omega
  have hb:s.lim<=s.next:=hx.bnd hb0
  refine BT_.u ?_ hT
  simp only[R7,RR,SS,Ak,h7]
  refine aI HG_ ?_
  refine AhH_.u ?_
  have e24:wrap64 ((24:Int)-((8*(i%4):Nat):Int))=((24-8*(i%4):Nat):Int):=by rw[Ax (by omega) (by omega)];omega
  have gs:At s S (0+i/4*1) (.int .u32 ((st8L r).getD (i/4) 0:Nat)):=by
   have h1:=hs (i/4) _ (Dl (show i/4<(st8L r).length by rw[HW];omega))
   rw[Nat.mul_one]
   exact h1.at'.ext hx λh=>by have h3:=h.1;omega
  simp only[TK,RR,SS,Nat.reduceEqDiff, ↓reduceIte,h3,h6,h7,Adl_ (show i<=9223372036854775807 by omega),Rx_,K2 (show 8*(i%4)<=9223372036854775807 by omega),Cq,e24,Df (i:=((i/4:Nat):Int)) (k:=i/4) rfl Bl (show i/4<8 by omega)]
  refine aB AY gs ?_
  simp only[Fk (k:= .u32) (kk:= .i64) (n:=24-8*(i%4)) (show 24-8*(i%4)<=btOf .u32 by show 24-8*(i%4)<=32;omega),Cu Gg Dy,wrap_u8,Df (i:=((i:Nat):Int)) (k:=i) rfl K5 hi32]
  have x1:Ext Non Non s (s.rdN (S+(0+i/4*1))):=Ext.rdN s _ λh=>by
   have:s.lim=s0.lim:=hx.lim
   omega
  generalize s.rdN (S+(0+i/4*1))=s1 at *
  have hx1:Ext Non (In O 0 32) s0 s1:=hx.trans x1 hb0 (λ_ _ h=>h) λ_ _ h=>h.elim
  have ho1:Aa s1 O 0 (u8l (BA 32 (outG r) i)):=ho.ext0 x1
  have hown:=ho1 i _ (IY (show i<(BA 32 (outG r) i).length by rw[Jk];exact hi32))
  refine aL (o:=0+i*1) Cd rfl (by rw[Nat.mul_one];exact hown) λs2 n2 x2 o2=> ?_
  rw[Nat.mul_one]at x2 o2
  have ho2:Aa s2 O 0 (u8l (BA 32 (outG r) (i+1))):=by
   rw[<-M8 32 (outG r) hi32,<-Q0]
   exact ho1.set x2 o2
  have hx2:Ext Non (In O 0 32) s0 s2:=hx1.trans x2 hb0 (λy hy h=>by have h1:O+(0+i)<=y:=h.1;omega) λy _ h=>by
   have h1:O+(0+i)<=y:=h.1
   have h2:y<O+(0+i)+1:=h.2
   exact⟨by omega,by omega⟩
  refine AfX_.u ?_
  have ei:=eiW (i:=i) (by omega)
  simp only[TF,RR,SS,Nat.reduceEqDiff, ↓reduceIte,Aw,h7,ei]
  exact ih (i+1) _ _ _ _ (by omega) (by omega) TI_ hx2 ho2 (by simp[T.get_set,h2]) (by simp[T.get_set,h3]) (by simp[T.get_set,h6]) (by simp[T.get_set]) λn' tm' s5 td' e=>q n' tm' s5 td' (by omega)
end
theorem Ajs_ {n:Nat}{s:St}{v:Value}{l:List Nat}{Q:Value->St->Prop}(hbd:s.lim<=s.next)(hn:l.length+3000<=n)(h:Bs s v l)(hby:Byt l)(hz:l.length<=900000)
  (q: ∀s1,Ext (BsF v) Non s s1->Q (.agg (u8l (sumB l)).toArray) s1):W (Ab envS (runF envS n) 107 [v]) s Q:=by
 refine Acw_ λtm h0=> ?_
 have hc:Bs (s.cxN cxN) v l:=h.same rfl rfl
 have own: ∀{a b:Nat} {y:Nat},In a 0 b y->a<=y:=λh=>by have:=h.1;omega
 refine Aav_.u ?_
 simp only[EM_,RR,SS]
 refine W.alloc F6 λs1 n1 x1 o1=> ?_
 have n1':s1.next=s.next+33:=n1
 have hx1:Ext (BsF v) Non (s.cxN cxN) s1:=x1.weak hbd (λ_ _ h=>h.elim) λ_ _ h=>h
 refine AhO_.u ?_
 simp only[T0,RR,SS,CA Aag_]
 refine W.alloc RU λs2 n2 x2 o2=> ?_
 have n2':s2.next=s1.next+9:=n2
 have hx2:=hx1.step x2 hbd (λ_ _ h=>h.elim) λ_ h=>h.elim
 refine W.store EM (by rw[Bi,BF];rfl) (by rw[Bi];exact EL _) (λi hi=>Aa.owned o2 i hi) λs3 n3 x3 o3=> ?_
 rw[Bi]at o3
 have hx3:=hx2.step x3 hbd (λy hy h=>by have h5:=own h;have h6:y<s.lim:=hy;omega) λy h=>by have h5:=own h;show s.next<=y;omega
 have hb3:s3.lim<=s3.next:=hx3.bnd hbd
 refine AdD_.u ?_
 simp only[JF_,RR,SS,reduceCtorEq, ↓reduceIte,h0]
 refine AcL_ hb3 (by omega) (hc.ext0 hx3) hz λs4 w nb hnb x4 h4=> ?_
 have hx4:=hx3.step x4 hbd (λ_ _ h=>h) λ_ h=>h.elim
 have hb4:s4.lim<=s4.next:=hx4.bnd hbd
 have hfl:(C4 l).length=64*((l.length+72)/64):=AF_ l
 have hfz:(C4 l).length<=1000000:=by omega
 have hBn:Bn s4 w (C4 l):=h4.bn hfz
 have hwF: ∀x,BsF w x->nb<=x:=λx hx=>by
  obtain⟨c,rfl⟩:=h4.at
  have:nb+0<=x:=hx.1
  omega
 have hwlt: ∀x,BsF w x->x<s4.next:=λx hx=>hBn.lt x hx
 refine AfQ_.u ?_
 simp only[HN_,RR,SS]
 refine QD_ (S:=s1.next) (R:=s.next) (w:=w) (X:=C4 l) (N:=(l.length+72)/64) (s0:=s4) hb4 (by rw[hx4.lim];show s.lim<=_;omega) hBn (λx hx=>⟨hwlt x hx,λh=>by
  have h5:=hwF x hx
  have h6:x<s1.next+0+8:=h.2
  omega⟩) hfl hfz (Zb_ hby) ((l.length+72)/64) 0 _ _ _ _ (by omega) (by omega) rfl (Ext.refl _) (o3.ext0 x4) (by simp[T.get_set];rfl) (by simp[T.get_set]) (by simp[T.get_set]) (by simp[T.get_set]) λn5 tm5 s5 td5 hn5 hT5 hx5 ho5 g2 g3=> ?_
 have hx5':=hx4.step hx5 hbd (λy hy h=>by
  have h5:=hwF y h
  have h6:y<s.lim:=hy
  omega) λy h=>by have h5:=own h;show s.next<=y;omega
 refine PY_.u ?_ hT5
 simp only[Ku_,RR,SS]
 refine W.alloc F6 λs6 n6 x6 o6=> ?_
 have n6':s6.next=s5.next+33:=n6
 have hx6:=hx5'.step x6 hbd (λ_ _ h=>h.elim) λ_ h=>h.elim
 have hN5:s3.next<=s5.next:=Nat.le_trans x4.nxt hx5.nxt
 have e0:Aa s6 s5.next 0 (u8l (BA 32 (outG (CK (C4 l) ((l.length+72)/64))) 0)):=by
  rw[NH]
  exact o6
 refine WK_.u ?_
 simp only[T3,RR,SS]
 refine Uz_ (S:=s1.next) (R:=s.next) (O:=s5.next) (r:=CK (C4 l) ((l.length+72)/64)) (s0:=s6) (hx6.bnd hbd) (by rw[hx6.lim];show s.lim<=_;omega) (by rw[hx6.lim];show s.lim<=_;omega) (by omega) (ho5.ext0 x6) 32 0 _ _ _ _ (by omega) (by omega) rfl (Ext.refl _) e0 (by simp[T.get_set,g2]) (by simp[T.get_set,g3]) (by simp[T.get_set]) (by simp[T.get_set]) λn7 tm7 s7 td7 hn7 hT7 hx7 ho7 k2 k6=> ?_
 rw[<-ZL_]at ho7
 have hx7':=hx6.step hx7 hbd (λ_ _ h=>h.elim) λy h=>by have h5:=own h;show s.next<=y;omega
 have hoR:An s7 s.next 0 32:=by
  have t: ∀{F G:Nat->Prop} {a b:St},Ext (λ_=>True) (λy=>s1.next<=y) s1 a->Ext F G a b->(∀y,G y->s1.next<=y)->Ext (λ_=>True) (λy=>s1.next<=y) s1 b:=λh k hG=>h.trans k (x1.bnd hbd) (λ_ _ _=>trivial) λy _ h=>hG y h
  have b4:=t (t (t (Ext.refl s1) x2 λ_ h=>h.elim) x3 λy h=>own h) x4 λ_ h=>h.elim
  have b7:=t (t (t b4 hx5 λy h=>own h) x6 λ_ h=>h.elim) hx7 λy h=>by have:=own h;omega
  exact An.ext1 (Aa.owned o1) b7 λy h h'=>by
   have h6:y<s.next+0+32:=h.2
   omega
 refine Ts_.u ?_ hT7
 simp only[WC,RR,SS,k2,k6]
 refine aG DI ho7.row (by rw[Av,FU]) λs8 m8 n8 x8=> ?_
 have hx8:=hx7'.step x8 hbd (λy hy h=>by have h5:s5.next+0<=y:=h.1;have h6:y<s.lim:=hy;omega) λ_ h=>h.elim
 refine W.store DI (by rw[EE,Av,FU]) (by rw[EE];exact Bx _) (λi hi=>let ⟨u,hu⟩:=hoR i hi;⟨u,hu.ext x8 id⟩) λs9 n9 x9 o9=> ?_
 rw[EE]at o9
 have hx9:=hx8.step x9 hbd (λy hy h=>by have h5:=own h;have h6:y<s.lim:=hy;omega) λy h=>by have h5:=own h;show s.next<=y;omega
 refine bB (r:=2) rfl (.inl Ahx_) (by omega) Ec_ Aes_ hx9.cx (by simp[k2];rfl) ?_
 refine aG DI o9.row (by rw[Av,FU]) λs10 m10 n10 x10=> ?_
 have hx10:=hx9.step x10 hbd (λy hy h=>by have h5:s.next+0<=y:=h.1;have h6:y<s.lim:=hy;omega) λ_ h=>h.elim
 exact q _ hx10.cx'
section
variable {S R O:Nat}{l:List Nat}{Q:Value×FrameMode->St->Prop}{s0:St}
theorem Zn_ (hb0:s0.lim<=s0.next)(hSl:s0.lim<=S)(hOl:s0.lim<=O)(hSO:O+16<=S)(hl:l.length=32)(hs:Aa s0 S 0 (u8l l)): ∀(k i n:Nat) (tm:T Value) (s:St) (td:List Item),i+k=16->6*k+30<=n->skim 64 td=LO->Ext Non (In O 0 16) s0 s->Aa s O 0 (u8l (BA 16 (λj=>l.getD j 0) i))->
  T.get tm 2=some (.pointer (some ⟨R,0,none⟩))->T.get tm 3=some (.pointer (some ⟨O,0,none⟩))->T.get tm 4=some (.pointer (some ⟨S,0,none⟩))->T.get tm 5=some (.int .i64 (i:Nat))->
  (∀n' tm' s1 td',n<=n'+6*k+10->skim 64 td'=NC->Ext Non (In O 0 16) s0 s1->Aa s1 O 0 (u8l (l.take 16))->T.get tm' 2=some (.pointer (some ⟨R,0,none⟩))->T.get tm' 3=some (.pointer (some ⟨O,0,none⟩))->W (runF envS n' ⟨65,TZ,Dq,tm',td', .run, .normal,none⟩) s1 Q)->
  W (runF envS n ⟨65,TZ,Dq,tm,td, .run, .normal,none⟩) s Q:=by
 intro k
 induction k with
 |zero=>
  intro i n tm s td hi hn hT hx ho h2 h3 h4 h5 q
  refine BM_.u ?_ hT
  simp only[RY,RR,SS,Ak,h5]
  refine aH Vv ?_
  obtain rfl:i=16:=by omega
  have e:BA 16 (λj=>l.getD j 0) 16=l.take 16:=by
   rw[MT]
   apply List.ext_getElem?
   intro j
   rw[List.getElem?_map,List.getElem?_take]
   by_cases hj:j<16
   ·rw[List.getElem?_range hj,if_pos hj,List.getElem?_eq_getElem (by omega)]
    show some (l.getD j 0)=_
    rw[List.getD_eq_getElem?_getD,List.getElem?_eq_getElem (by omega)]
    rfl
   ·rw[List.getElem?_eq_none (by simp;omega),if_neg hj]
    rfl
  rw[e]at ho
  exact q _ _ _ _ (by omega) rfl hx ho (by simp[T.get_set,h2]) (by simp[T.get_set,h3])
 |succ k ih=>
  intro i n tm s td hi hn hT hx ho h2 h3 h4 h5 q
  have hi16:i<16:=by omega
  have hb:s.lim<=s.next:=hx.bnd hb0
  refine BM_.u ?_ hT
  simp only[RY,RR,SS,Ak,h5]
  refine aI Vv ?_
  refine Aft_.u ?_
  have gs:At s S (0+i*1) (.int .u8 (l.getD i 0:Nat)):=by
   have h1:=hs i _ (IY (show i<l.length by omega))
   rw[Nat.mul_one]
   exact h1.at'.ext hx λh=>by have h3:=h.2;omega
  simp only[US,RR,SS,Nat.reduceEqDiff, ↓reduceIte,h3,h4,h5,Df (i:=((i:Nat):Int)) (k:=i) rfl K5 (show i<32 by omega)]
  refine aB Cd gs ?_
  simp only[Df (i:=((i:Nat):Int)) (k:=i) rfl Kt hi16]
  have x1:Ext Non Non s (s.rdN (S+(0+i*1))):=Ext.rdN s _ λh=>by
   have:s.lim=s0.lim:=hx.lim
   omega
  generalize s.rdN (S+(0+i*1))=s1 at *
  have hx1:Ext Non (In O 0 16) s0 s1:=hx.trans x1 hb0 (λ_ _ h=>h) λ_ _ h=>h.elim
  have ho1:Aa s1 O 0 (u8l (BA 16 (λj=>l.getD j 0) i)):=ho.ext0 x1
  have hown:=ho1 i _ (IY (show i<(BA 16 (λj=>l.getD j 0) i).length by rw[Jk];exact hi16))
  refine aL (o:=0+i*1) Cd rfl (by rw[Nat.mul_one];exact hown) λs2 n2 x2 o2=> ?_
  rw[Nat.mul_one]at x2 o2
  have ho2:Aa s2 O 0 (u8l (BA 16 (λj=>l.getD j 0) (i+1))):=by
   rw[<-M8 16 (λj=>l.getD j 0) hi16,<-Q0]
   exact ho1.set x2 o2
  have hx2:Ext Non (In O 0 16) s0 s2:=hx1.trans x2 hb0 (λy hy h=>by have h1:O+(0+i)<=y:=h.1;omega) λy _ h=>by
   have h1:O+(0+i)<=y:=h.1
   have h2:y<O+(0+i)+1:=h.2
   exact⟨by omega,by omega⟩
  refine Qv_.u ?_
  have ei:=eiW (i:=i) (by omega)
  simp only[XD,RR,SS,Nat.reduceEqDiff, ↓reduceIte,Aw,h5,ei]
  exact ih (i+1) _ _ _ _ (by omega) (by omega) AbT_ hx2 ho2 (by simp[T.get_set,h2]) (by simp[T.get_set,h3]) (by simp[T.get_set,h4]) (by simp[T.get_set]) λn' tm' s5 td' e=>q n' tm' s5 td' (by omega)
end
theorem Alt_ {n:Nat}{s:St}{v:Value}{l:List Nat}{Q:Value->St->Prop}(hbd:s.lim<=s.next)(hn:l.length+3200<=n)(h:Bs s v l)(hby:Byt l)(hz:l.length<=900000)
  (q: ∀s1,Ext (BsF v) Non s s1->Q (.agg (u8l (idB l)).toArray) s1):W (Ab envS (runF envS n) 65 [v]) s Q:=by
 refine VU_ λtm h0=> ?_
 have hc:Bs (s.cxN cxN) v l:=h.same rfl rfl
 have own: ∀{a b:Nat} {y:Nat},In a 0 b y->a<=y:=λh=>by have:=h.1;omega
 refine Aiz_.u ?_
 simp only[Zg,RR,SS]
 refine W.alloc Ei λs1 n1 x1 o1=> ?_
 have n1':s1.next=s.next+17:=n1
 have hx1:Ext (BsF v) Non (s.cxN cxN) s1:=x1.weak hbd (λ_ _ h=>h.elim) λ_ _ h=>h
 refine WL_.u ?_
 simp only[HQ_,RR,SS]
 refine W.alloc Ei λs2 n2 x2 o2=> ?_
 have n2':s2.next=s1.next+17:=n2
 have hx2:=hx1.step x2 hbd (λ_ _ h=>h.elim) λ_ h=>h.elim
 refine AeE_.u ?_
 simp only[KU_,RR,SS,reduceCtorEq, ↓reduceIte,h0]
 refine Ajs_ (hx2.bnd hbd) (by omega) (hc.ext0 hx2) hby hz λs3 x3=> ?_
 have hx3:=hx2.step x3 hbd (λ_ _ h=>h) λ_ h=>h.elim
 refine W.alloc F6 λs4 n4 x4 o4=> ?_
 have n4':s4.next=s3.next+33:=n4
 have hx4:=hx3.step x4 hbd (λ_ _ h=>h.elim) λ_ h=>h.elim
 have hN3:s2.next<=s3.next:=x3.nxt
 refine W.store DI (by rw[EE,Av,FU]) (by rw[EE];exact Bx _) (λi hi=>Aa.owned o4 i hi) λs5 n5 x5 o5=> ?_
 rw[EE]at o5
 have hx5:=hx4.step x5 hbd (λy hy h=>by have h5:=own h;have h6:y<s.lim:=hy;omega) λy h=>by have h5:=own h;show s.next<=y;omega
 have e0:Aa s5 s1.next 0 (u8l (BA 16 (λj=>(sumB l).getD j 0) 0)):=by
  rw[NH]
  refine((Aa.ext0 o2 x3).ext0 x4).ext x5 λi hi h=> ?_
  have h5:=own h
  have h6:i<16:=hi
  omega
 refine Yl_.u ?_
 simp only[Dw_,RR,SS]
 refine Zn_ (S:=s3.next) (R:=s.next) (O:=s1.next) (l:=sumB l) (s0:=s5) (hx5.bnd hbd) (by rw[hx5.lim];show s.lim<=_;omega) (by rw[hx5.lim];show s.lim<=_;omega) (by omega) (FU l) o5 16 0 _ _ _ _ (by omega) (by omega) rfl (Ext.refl _) e0 (by simp[T.get_set]) (by simp[T.get_set]) (by simp[T.get_set]) (by simp[T.get_set]) λn7 tm7 s7 td7 hn7 hT7 hx7 ho7 k2 k3=> ?_
 have hx7':=hx5.step hx7 hbd (λ_ _ h=>h.elim) λy h=>by have h5:=own h;show s.next<=y;omega
 have hoR:An s7 s.next 0 16:=by
  have t: ∀{F G:Nat->Prop} {a b:St},Ext (λ_=>True) (λy=>s1.next<=y) s1 a->Ext F G a b->(∀y,G y->s1.next<=y)->Ext (λ_=>True) (λy=>s1.next<=y) s1 b:=λh k hG=>h.trans k (x1.bnd hbd) (λ_ _ _=>trivial) λy _ h=>hG y h
  have b4:=t (t (t (Ext.refl s1) x2 λ_ h=>h.elim) x3 λ_ h=>h.elim) x4 λ_ h=>h.elim
  have b7:=t (t b4 x5 λy h=>by have:=own h;omega) hx7 λy h=>by have:=own h;omega
  exact An.ext1 (Aa.owned o1) b7 λy h h'=>by
   have h6:y<s.next+0+16:=h.2
   omega
 have hidl:(idB l).length=16:=Lj l
 refine Oy_.u ?_ hT7
 simp only[Md_,RR,SS,k2,k3]
 refine aG (l:=u8l (idB l)) BB ho7.row (by rw[Av,hidl]) λs8 m8 n8 x8=> ?_
 have hx8:=hx7'.step x8 hbd (λy hy h=>by have h5:s1.next+0<=y:=h.1;have h6:y<s.lim:=hy;omega) λ_ h=>h.elim
 refine W.store BB (by rw[EE,Av,hidl]) (by rw[EE];exact Bx _) (λi hi=>let ⟨u,hu⟩:=hoR i hi;⟨u,hu.ext x8 id⟩) λs9 n9 x9 o9=> ?_
 rw[EE]at o9
 have hx9:=hx8.step x9 hbd (λy hy h=>by have h5:=own h;have h6:y<s.lim:=hy;omega) λy h=>by have h5:=own h;show s.next<=y;omega
 refine bB (r:=2) rfl (.inl Ri_) (by omega) LJ_ AkE_ hx9.cx (by simp[k2];rfl) ?_
 refine aG BB o9.row (by rw[Av,hidl]) λs10 m10 n10 x10=> ?_
 have hx10:=hx9.step x10 hbd (λy hy h=>by have h5:s.next+0<=y:=h.1;have h6:y<s.lim:=hy;omega) λ_ h=>h.elim
 exact q _ hx10.cx'
theorem Pt_ {I C n0:Nat}{w:Value}{l:List Nat}{Q:Value×FrameMode->St->Prop}{s0:St}(hb0:s0.lim<=s0.next)(hI:n0<=I)(hn0:s0.next=n0)(hl:16<=l.length)(hwF: ∀y,BsF w y-> ¬In I 0 16 y): ∀(k i n:Nat) (tm:T Value) (s:St) (td:List Item),i+k=16->6*k+30<=n->skim 64 td=KT->Ext Any Non s0 s->Bn s w l->Aa s I 0 (u8l (BA 16 (λj=>l.getD j 0) i))->An s C 0 16->C+16<=I->
  T.get tm 6=some (.pointer (some ⟨C,0,none⟩))->T.get tm 9=some (.pointer (some ⟨I,0,none⟩))->T.get tm 10=some w->T.get tm 12=some (.int .i64 (i:Nat))->
  (∀n' tm' s1 td',n<=n'+6*k+10->skim 64 td'=IW->Ext Any Non s0 s1->Bn s1 w l->Aa s1 I 0 (u8l (l.take 16))->An s1 C 0 16->T.get tm' 6=some (.pointer (some ⟨C,0,none⟩))->T.get tm' 9=some (.pointer (some ⟨I,0,none⟩))->T.get tm' 10=some w->W (runF envS n' ⟨70,Dh_,CM,tm',td', .run, .normal,none⟩) s1 Q)->
  W (runF envS n ⟨70,Dh_,CM,tm,td, .run, .normal,none⟩) s Q:=by
 intro k
 induction k with
 |zero=>
  intro i n tm s td hi hn hT hx hw ho hc hCI h6 h9 h10 h12 q
  refine Bh_.u ?_ hT
  simp only[Pp,RR,SS,Ak,h12]
  refine aH Dg_ ?_
  obtain rfl:i=16:=by omega
  have e:BA 16 (λj=>l.getD j 0) 16=l.take 16:=by
   rw[MT]
   apply List.ext_getElem?
   intro j
   rw[List.getElem?_map,List.getElem?_take]
   by_cases hj:j<16
   ·rw[List.getElem?_range hj,if_pos hj,List.getElem?_eq_getElem (by omega)]
    show some (l.getD j 0)=_
    rw[List.getD_eq_getElem?_getD,List.getElem?_eq_getElem (by omega)]
    rfl
   ·rw[List.getElem?_eq_none (by simp;omega),if_neg hj]
    rfl
  rw[e]at ho
  exact q _ _ _ _ (by omega) rfl hx hw ho hc (by simp[T.get_set,h6]) (by simp[T.get_set,h9]) (by simp[T.get_set,h10])
 |succ k ih=>
  intro i n tm s td hi hn hT hx hw ho hc hCI h6 h9 h10 h12 q
  have hi16:i<16:=by omega
  have hil:i<l.length:=by omega
  refine Bh_.u ?_ hT
  simp only[Pp,RR,SS,Ak,h12]
  refine aI Dg_ ?_
  refine AaJ_.u ?_
  obtain⟨wb,wo,wc,rfl,g1,g2,g3⟩:=hw
  have gs:At s wb (wo+i*1) (.int .u8 (l.getD i 0:Nat)):=by
   have:=g3.at (List.getElem?_eq_getElem hil)
   rw[Nat.mul_one,List.getD_eq_getElem?_getD,List.getElem?_eq_getElem hil]
   exact this
  simp only[It_,RR,SS,Nat.reduceEqDiff, ↓reduceIte,h9,h10,h12,AL Al hil]
  refine aB Cd gs ?_
  simp only[Df (i:=((i:Nat):Int)) (k:=i) rfl Kt hi16]
  have hx1:=hx.thenRd hb0 (wb+(wo+i*1))
  have ho1:Aa (s.rdN (wb+(wo+i*1))) I 0 (u8l (BA 16 (λj=>l.getD j 0) i)):=λj u e=>(ho j u e).same rfl rfl
  have hw1:Bn (s.rdN (wb+(wo+i*1))) (.slice (some ⟨wb,wo,none⟩) l.length wc) l:=Bn.same ⟨wb,wo,wc,rfl,g1,g2,g3⟩ rfl rfl
  have hc1:An (s.rdN (wb+(wo+i*1))) C 0 16:=λj hj=>let ⟨u,hu⟩:=hc j hj;⟨u,hu.same rfl rfl⟩
  generalize s.rdN (wb+(wo+i*1))=s1 at *
  have hown:=ho1 i _ (IY (show i<(BA 16 (λj=>l.getD j 0) i).length by rw[Jk];exact hi16))
  refine aL (o:=0+i*1) Cd rfl (by rw[Nat.mul_one];exact hown) λs2 n2 x2 o2=> ?_
  rw[Nat.mul_one]at x2 o2
  have ho2:Aa s2 I 0 (u8l (BA 16 (λj=>l.getD j 0) (i+1))):=by
   rw[<-M8 16 (λj=>l.getD j 0) hi16,<-Q0]
   exact Aa.set ho1 x2 o2
  have hin: ∀y,In I (0+i) 1 y->In I 0 16 y:=λy h=>⟨by have:=h.1;omega,by have:=h.2;omega⟩
  have hw2:Bn s2 (.slice (some ⟨wb,wo,none⟩) l.length wc) l:=hw1.ext x2 λy hy h=>hwF y hy (hin y h)
  have hc2:An s2 C 0 16:=An.ext1 hc1 x2 λy h h'=>by
   have h1:=h.2
   have h2:=h'.1
   omega
  have hx2:Ext Any Non s0 s2:=hx1.thenW x2 hb0 (by omega)
  refine TH_.u ?_
  have ei:=eiW (i:=i) (by omega)
  simp only[Ap_,RR,SS,Nat.reduceEqDiff, ↓reduceIte,Aw,h12,ei]
  exact ih (i+1) _ _ _ _ (by omega) (by omega) XZ_ hx2 hw2 ho2 hc2 hCI (by simp[T.get_set,h6]) (by simp[T.get_set,h9]) (by simp[T.get_set,h10]) (by simp[T.get_set]) λn' tm' s5 td' e=>q n' tm' s5 td' (by omega)
theorem SF_ {n k m:Nat}{v:Value}{l:List Nat}{s:St}{Q:Value->St->Prop}(hbd:s.lim<=s.next)(hbs:Bs s v l)(hby:Byt l)(hz:l.length<=100000)(hm1:1<=m)(hm2:m<=1024)(hlen:k+26+m<=l.length)(hn:200000<=n)
  (q1:GOk (Cc l k m)-> ∀s1 w,Ext Any Non s s1->Bn s1 w (BM l k m)->Q (.tuple #[.agg (u8l (A9 l k m)).toArray,w, .bool (decide (idB (BM l k m)=A9 l k m))]) s1)
  (q2: ¬GOk (Cc l k m)-> ∀s1,Ext Any Non s s1->Q (.tuple #[.agg (u8l (List.replicate 16 0)).toArray, .slice none 0 0, .bool false]) s1):
  W (Ab envS (runF envS n) 70 [v, .int .i64 (k+6:Nat), .int .i64 (m:Nat)]) s Q:=by
 refine AeO_ λtm h0 h1 h2=> ?_
 have hb0:(s.cxN cxN).lim<=(s.cxN cxN).next:=hbd
 have hne:l≠[]:=λh=>by rw[h]at hlen;simp at hlen
 have hB0:Bn (s.cxN cxN) v l:=(hbs.bn' hne).same rfl rfl
 refine Ui_.u ?_
 simp only[WP,RR,SS]
 refine W.alloc Ei λsa na xa oa=> ?_
 have na':sa.next=s.next+17:=na
 have ya:Ext Any Non (s.cxN cxN) sa:=(Ext.refl _).then0 xa hb0
 refine SW_.u ?_
 simp only[KA_,RR,SS]
 refine W.alloc Ei λsb nb xb ob=> ?_
 have nb':sb.next=sa.next+17:=nb
 have yb:=ya.then0 xb hb0
 refine Aba_.u ?_
 have e1:wrap64 (((k+6:Nat):Int)+((m:Nat):Int))=((k+6+m:Nat):Int):=by
  rw[Ax (by omega) (by omega)];omega
 have e2:wrap64 (((k+6+m:Nat):Int)+20)=((k+26+m:Nat):Int):=by
  rw[Ax (by omega) (by omega)];omega
 simp only[MO_,RR,SS,Nat.reduceEqDiff,reduceCtorEq, ↓reduceIte,Aw,h0,h1,h2,e1,e2]
 refine W.cut (hB0.ext0 yb) Al (i:=k+6) (j:=k+26+m) rfl rfl (by omega) hlen λv1 hv1 hF1=> ?_
 have hch:(l.take (k+26+m)).drop (k+6)=Cc l k m:=rfl
 rw[hch]at hv1
 have hcl:=PZ hlen
 refine Ajf_ (yb.bnd hb0) hv1 (Om hby k m) (by omega) (by omega) (by omega) (λhg sc w b hb xc hw=> ?_) λhg sc xc=> ?_
 ·have yc:=yb.then0 xc hb0
  rw[AX (k:=0) rfl,AX (k:=1) rfl]
  refine Il_.u ?_
  simp only[ME,RR,SS, ↓reduceIte,CQ]
  refine aH NC_ ?_
  refine AbO_.u ?_
  simp only[VZ,RR,SS]
  have hX:(Cc l k m).take ((Cc l k m).length-4)=BG l k m:=by
   rw[hcl];rfl
  rw[hX]at hw
  have hXl:=Ij hlen
  have hwn:Bn sc w (BG l k m):=hw.bn (by omega)
  have hbF: ∀y,BsF w y->sb.next<=y:=λy hy=>by
   obtain⟨c,hc⟩:=hw.at
   rw[hc]at hy
   have:=hy.1
   omega
  have nbc:sb.next<=sc.next:=xc.nxt
  refine Pt_ (I:=sa.next) (C:=s.next) (n0:=s.next) (w:=w) (l:=BG l k m) (s0:=s.cxN cxN) hb0 (by omega) rfl (by omega) (λy hy h=>by have h1:=hbF y hy;have h2:=h.2;omega) 16 0 _ _ _ _ (by omega) (by omega) rfl yc hwn ?_ ?_ (by omega) (by simp[T.get_set]) (by simp[T.get_set]) (by simp[T.get_set]) (by simp[T.get_set]) λn1 tm1 sd td1 hn1 hT1 yd hwd hod hcd g6 g9 g10=> ?_
  ·rw[NH]
   exact λi u e=>(ob i u e).ext0 xc
  ·exact((Aa.owned oa).ext1 xb λ_ _ h=>h).ext1 xc λ_ _ h=>h
  have hI:(BG l k m).take 16=A9 l k m:=rfl
  rw[hI]at hod
  have hIl:=Iu hlen
  have hsd:sd.lim<=sd.next:=yd.bnd hb0
  refine Rg_.u ?_ hT1
  have hC:=NL hlen
  have hIu:(u8l (A9 l k m)).length=16:=by rw[Av];exact hIl
  simp only[MZ_,RR,g6,g9,g10,AJ,Cw,B5,B8,BU,DW]
  refine aV BB (λi u e=>((hod i u e).same (s':=dSt sd.mem sd.next) rfl rfl).at') hIu λmem1 rd1 hm1' hr1=> ?_
  subst hm1'
  simp only[Ag]
  have hwo:Bn (oSt sd.mem sd.next) w (BG l k m):=hwd.same rfl rfl
  have htk:((BG l k m).take (n:=(BG l k m).length)).drop 16=BM l k m:=by rw[List.take_length];rfl
  refine bA (W.cut hwo Al (i:=16) (j:=(BG l k m).length) rfl rfl (by omega) (Nat.le_refl _) λw1 hw1 hF1=>⟨rfl, ?_⟩)
  simp only[Ag]
  refine bA (W.cut hwo Al (i:=16) (j:=(BG l k m).length) rfl rfl (by omega) (Nat.le_refl _) λw2 hw2 hF2=>⟨rfl, ?_⟩)
  rw[htk]at hw1 hw2
  refine aU (Alt_ (Nat.le_refl _) (by omega) hw2.bs (IA (S1 hby k m) λx hx=>List.mem_of_mem_drop hx) (by omega) λs2 x2=>⟨BsF w2,x2,λrd2 hr2=> ?_⟩)
  have hn2:sd.next<=s2.next:=x2.nxt
  have hods:Aa s2 sa.next 0 (u8l (A9 l k m)):=λi v e=>((hod i v e).same (s':=oSt sd.mem sd.next) rfl rfl).ext0 x2
  refine aV BB (λi v e=>((hods i v e).same (s':=dSt s2.mem s2.next) rfl rfl).at') hIu λmem3 rd3 hm3 hr3=> ?_
  subst hm3
  rw[W_dq λs Q=>Sc (s:=s) VW (Lj _) hIl Q]
  have ho6s:An (oSt s2.mem s2.next) s.next 0 16:=λj hj=>by
   obtain⟨u,hu⟩:=hcd j hj
   exact⟨u,((hu.same (s':=oSt sd.mem sd.next) rfl rfl).ext0 x2).same rfl rfl⟩
  refine W.dopG (W.store BB hIu (Bx _) ho6s λs3 n3 x3 o3=>⟨In s.next 0 16,In s.next 0 16,x3,λrd4 wr4 hr4 hw4=> ?_⟩)
  simp only[Ag,FS,AK]
  have n3':s3.next=s2.next:=n3
  have nsd:sa.next+16<=sd.next:=by
   have:=(hod 15 _ (List.getElem?_eq_getElem (show 15<(u8l (A9 l k m)).length by rw[hIu];decide))).1
   omega
  have lt6: ∀x,In s.next 0 16 x->x<sd.next:=λx h=>by have:=h.2;omega
  have lt11: ∀x,In sa.next 0 16 x->x<sd.next:=λx h=>by have:=h.2;omega
  refine⟨D3 ?_, ?_⟩
  ·simp only[List.reverse_cons,List.reverse_nil,List.nil_append,List.cons_append,allP,CF,List.take,DB]
   have f1: ∀x,x∈rd1-> ¬sd.next<=x:=λx hx=>Nat.not_le_of_lt (lt11 x (hr1 x hx))
   have f2: ∀x,x∈rd2-> ¬sd.next<=x:=λx hx=>Nat.not_le_of_lt (hr2 x hx).1
   have f3: ∀x,x∈rd3-> ¬sd.next<=x:=λx hx=>Nat.not_le_of_lt (lt11 x (hr3 x hx))
   have f4: ∀x,x∈rd4-> ¬sd.next<=x:=λx hx=>Nat.not_le_of_lt (lt6 x (hr4 x hx).2)
   have g4: ∀x,x∈wr4-> ¬sd.next<=x:=λx hx=>Nat.not_le_of_lt (lt6 x (hw4 x hx).2)
   have d43: ∀x,x∈wr4-> ¬x∈rd3:=λx hx hy=>by
    have h1:=(hw4 x hx).2.2
    have h2:=(hr3 x hy).1
    omega
   have d41: ∀x,x∈wr4-> ¬x∈rd1:=λx hx hy=>by
    have h1:=(hw4 x hx).2.2
    have h2:=(hr1 x hy).1
    omega
   simp+contextual [f1,f2,f3,f4,g4,d43,d41]
   exact .inl rfl
  ·refine aJ (Abr_ ..) ?_
   simp only[SS]
   generalize hs5:(⟨(dSt s3.mem s3.next).mem,(dSt s3.mem s3.next).next,sd.lim,_,_,sd.cx⟩:St)=s5
   have m5:s5.mem=s3.mem:=by rw[<-hs5];rfl
   have n5:s5.next=s3.next:=by rw[<-hs5];rfl
   have x5:Ext Any (In s.next 0 16) sd s5:=by
    rw[<-hs5]
    refine aP (by show sd.next<=s3.next;omega) (λx hx hg=>(x3.mem x (by show x<s2.next;omega) λh=>hg h).trans (x2.mem x hx id)) ?_ λ_ _ _ _ _=>trivial
    simp only[List.mem_cons,List.not_mem_nil,or_false]
    rintro m (rfl|rfl|rfl|rfl|rfl|rfl|rfl|rfl|rfl|rfl) x hx _<;>first|(cases hx;done)|(exact(hw4 x hx).2)
   have y5:Ext Any Non (s.cxN cxN) s5:=yd.thenW x5 hb0 (Nat.le_refl _)
   refine W.endG rfl (.inl TF_) (by omega) OQ Nv_ y5.cx (aO (a:=⟨s.next,0,none⟩) (by simp[T.get_set,g6]) ?_)
   have o5:Aa s5 s.next 0 (u8l (A9 l k m)):=λi v e=>(o3 i v e).same m5 n5
   refine aG BB o5.row hIu λs6 m6 n6 x6=> ?_
   refine aR (v:=w1) (by simp[T.get_set]) (aR (v:= .bool (decide (idB (BM l k m)=A9 l k m))) (by simp[T.get_set]) (aZ ?_))
   have y6:=y5.then0 x6 hb0
   refine q1 hg _ w1 y6.cx' ?_
   have h1:Bn s3 w1 (BM l k m):=(((hw1.same (s':=oSt sd.mem sd.next) rfl rfl).ext0 x2).same (s':=oSt s2.mem s2.next) rfl rfl).ext x3 λx hx h=>by
    have h2:=hbF x (hF1 x hx)
    have h3:=h.2
    omega
   exact(h1.same (m6.trans m5) (n6.trans n5)).same rfl rfl
 ·have yc:=yb.then0 xc hb0
  rw[AX (k:=0) rfl,AX (k:=1) rfl]
  refine Il_.u ?_
  simp only[ME,RR,SS, ↓reduceIte,CQ]
  refine aI NC_ ?_
  refine Zu_.u ?_
  simp only[U6,RR,SS,Nat.reduceEqDiff, ↓reduceIte]
  have obc:Aa sc sa.next 0 (u8l (List.replicate 16 0)):=λi u e=>(ob i u e).ext0 xc
  refine aG BB obc.row (by simp) λsd md nd xd=> ?_
  have yd:=yc.then0 xd hb0
  have ho6:An sd s.next 0 16:=(((Aa.owned oa).ext1 xb λ_ _ h=>h).ext1 xc λ_ _ h=>h).ext1 xd λ_ _ h=>h
  refine W.store BB rfl (Bx _) ho6 λse ne xe oe=> ?_
  have ye:=yd.thenW xe hb0 (Nat.le_refl _)
  refine W.endG rfl (.inl YG_) (by omega) OQ Nv_ ye.cx (aO (a:=⟨s.next,0,none⟩) (by simp[T.get_set]) ?_)
  refine aG BB oe.row rfl λsf mf nf xf=> ?_
  have yf:=ye.then0 xf hb0
  refine aR (v:= .slice none 0 0) (by simp[T.get_set]) (aR (v:= .bool false) (by simp[T.get_set]) (aZ ?_))
  exact q2 hg _ yf.cx'
def Db (b:List Nat):List Nat:=b++[160+b.length%90,160+(b.length+1)%90,160+(b.length+2)%90]
theorem Rn (b:List Nat):(Db b).length=b.length+3:=by simp[Db]
def I6 (l:List Nat)(i:Nat):Nat->List Nat
 |0=>l
 |k+1=>I6 (l.set i (160+i%90)) (i+1) k
theorem PA_ (b:List Nat):I6 (b++[0,0,0]) b.length 3=Db b:=by
 simp only[I6,Db]
 rw[List.set_append_right _ _ (by omega),List.set_append_right _ _ (by omega),List.set_append_right _ _ (by omega)]
 simp[show b.length+1+1-b.length=2 by omega]
theorem SM_:hasT envS 3=true:=by kernel_rfl
theorem WR_ {E:Env}{t:Nat}{s:St}{xo yo:Operand}{m:Nat}(Q:Value->St->Prop):W (Cl.get (aBin E .rem t xo yo) (.int .i64 (m:Nat)) (.int .i64 90)) s Q=Q (.int .i64 (m%90:Nat)) s:=Kf (n:=90) (by decide) Q
theorem Ahv_ {L N:Nat}{s0:St}{w:Value}{Q:Value×FrameMode->St->Prop}(hb0:s0.lim<=s0.next)(hL:s0.next<=L)(hN:N<=1000000): ∀(k i n:Nat) (l:List Nat) (tm:T Value) (s:St) (td:List Item),i+k=N->l.length=N->5*k+10<=n->skim 64 td=KY->Ext Any Non s0 s->Aa s L 0 (u8l l)->
  T.get tm 0=some w->T.get tm 3=some (.slice (some ⟨L,0,none⟩) N N)->T.get tm 4=some (.int .i64 (i:Nat))->
  (∀n' tm' s1 td',5<=n'->skim 64 td'=Qs->Ext Any Non s0 s1->Aa s1 L 0 (u8l (I6 l i k))->T.get tm' 0=some w->T.get tm' 3=some (.slice (some ⟨L,0,none⟩) N N)->W (runF envS n' ⟨16,So,Dx,tm',td', .run, .normal,none⟩) s1 Q)->
  W (runF envS n ⟨16,So,Dx,tm,td, .run, .normal,none⟩) s Q:=by
 intro k
 induction k with
 |zero=>
  intro i n l tm s td hi hl hn hT hx ho h0 h3 h4 q
  refine Vn.u ?_ hT
  simp only[Pe,RR,SS,Ak,h3,h4,AP Al]
  refine aH S2 ?_
  exact q _ _ _ _ (by omega) rfl hx ho (by simp[T.get_set,h0]) (by simp[T.get_set,h3])
 |succ k ih=>
  intro i n l tm s td hi hl hn hT hx ho h0 h3 h4 q
  refine Vn.u ?_ hT
  simp only[Pe,RR,SS,Ak,h3,h4,AP Al]
  refine aI S2 ?_
  refine AlO_.u ?_
  have e1:wrap64 ((160:Int)+((i%90:Nat):Int))=((160+i%90:Nat):Int):=by
   rw[Ax (by omega) (by omega)];simp
  simp only[KW_,RR,SS,Nat.reduceEqDiff, ↓reduceIte,Aw,h3,h4,WR_,e1,Cu SM_ Dy,wrap_u8,AL Al (show i<N by omega)]
  have e2:(160+i%90)%256=160+i%90:=by omega
  rw[e2]
  have hO:Own s L (0+i*1) (u8 l[i]):=by
   rw[Nat.mul_one]
   exact ho i _ (by rw[List.getElem?_map,List.getElem?_eq_getElem (by omega)];rfl)
  refine aL Cd rfl hO λs1 n1 x1 o1=> ?_
  have ho1:Aa s1 L 0 (u8l (l.set i (160+i%90))):=by
   have:=Aa.set (o:=0) (i:=i) ho (by rw[Nat.mul_one]at x1;exact x1) (by rw[Nat.mul_one]at o1;exact o1)
   unfold u8l
   rw[List.map_set]
   exact this
  refine AcF_.u ?_
  have e3:wrap64 ((i:Nat)+1:Int)=((i+1:Nat):Int):=by
   rw[Ax (by omega) (by omega)];simp
  simp only[DZ_,RR,SS,Nat.reduceEqDiff, ↓reduceIte,Aw,h4,e3]
  exact ih (i+1) _ _ _ _ _ (by omega) (by rw[List.length_set];exact hl) (by omega) Wd_ (hx.thenW x1 hb0 hL) ho1 (by simp[T.get_set,h0]) (by simp[T.get_set,h3]) (by simp[T.get_set]) λn' tm' s2 td'=>q n' tm' s2 td'
theorem CW_ {v:Value}{b:List Nat}{n:Nat}{s:St}{Q:Value->St->Prop}(hbd:s.lim<=s.next)(hb:Bs s v b)(hz:b.length<=100000)(hn:60<=n)
  (q: ∀s1,Ext Any Non s s1->Aa s1 s.next 0 (u8l (Db b))->s.next+b.length+3<=s1.next->Q (.slice (some ⟨s.next,0,none⟩) b.length (b.length+3)) s1):W (Ab envS (runF envS n) 16 [v]) s Q:=by
 refine QB_ λtm h0=> ?_
 have hb0:(s.cxN cxN).lim<=(s.cxN cxN).next:=hbd
 have hb':Bs (s.cxN cxN) v b:=hb.same rfl rfl
 refine Vg_.u ?_
 simp only[Ya,RR,SS]
 refine Agg_.u ?_
 simp only[VK,RR,SS,reduceCtorEq, ↓reduceIte,h0]
 rw[hb'.len Al]
 have e1:wrap64 (((b.length:Nat):Int)+3)=((b.length+3:Nat):Int):=by
  rw[Ax (by omega) (by omega)];simp
 simp only[Aw,e1]
 refine W.mkSl Ck (Nat.le_refl _) (by omega) λsa na xa oa=> ?_
 rw[GY]at oa na
 rw[List.length_replicate]at na
 have na':sa.next=s.next+(b.length+3)+1:=na
 have oa':Aa sa s.next 0 (List.replicate (b.length+3) (.int .u8 0)):=oa
 have y1:Ext Any Non (s.cxN cxN) sa:=(Ext.refl _).then0 xa hb0
 refine Uq_.u ?_
 simp only[V8,RR,SS,reduceCtorEq, ↓reduceIte,h0]
 have hsrc:=(hb'.ext0 xa).src
 obtain⟨p,c,rfl⟩:=hb.sl
 refine W.copy (k:=b.length) (l:=u8l b) Ck (by show b.length=min (b.length+3) b.length;omega) hsrc.2 (by rw[Av,Nat.mul_one]) (Bx _) (λi hi=> ?_) λsb nb xb ob=> ?_
 ·exact⟨_,oa' i (.int .u8 0) (by rw[List.getElem?_replicate,if_pos (by omega)])⟩
 have nb':sb.next=sa.next:=nb
 have hob:Aa sb s.next 0 (u8l (b++[0,0,0])):=by
  unfold u8l
  rw[List.map_append]
  refine Aa.append ob λi u e=> ?_
  have hi:i<3:=(List.getElem?_eq_some_iff.1 e).1
  have hu:u= .int .u8 0:=by
   match i,hi,e with
   |0,_,e=>cases e;rfl
   |1,_,e=>cases e;rfl
   |2,_,e=>cases e;rfl
  subst hu
  rw[List.length_map]
  refine Own.ext (s:=sa) ?_ xb λh=>by have h2:_<s.next+0+b.length*1:=h.2;omega
  have:=oa' (b.length+i) (.int .u8 0) (by rw[List.getElem?_replicate,if_pos (by omega)])
  rwa [show 0+b.length+i=0+(b.length+i) by omega]
 have y2:Ext Any Non (s.cxN cxN) sb:=y1.trans xb hb0 (λ_ _ _=>trivial) λy hy h=>by
  have h1:s.next+0<=y:=h.1
  have h2:y<s.next:=hy
  omega
 refine Abg_.u ?_
 simp only[HB_,RR,SS,reduceCtorEq, ↓reduceIte,h0,AP Al]
 refine Ahv_ (L:=s.next) (N:=b.length+3) (w:= .slice p b.length c) (s0:=s.cxN cxN) hb0 (Nat.le_refl _) (by omega) 3 b.length _ (b++[0,0,0]) _ sb _ (by omega) (by simp) (by omega) rfl y2 hob (by simp[T.get_set,h0]) (by simp[T.get_set]) (by simp[T.get_set]) λn1 tm1 s1 td1 hn1 hT1 y3 ho g0 g3=> ?_
 refine Agb_.u ?_ hT1
 simp only[Lx_,RR,SS,g0,g3,AP Al]
 rw[GX (l:=0) (h:=b.length) Al rfl rfl (Nat.zero_le _) (by rw[Nat.mod_eq_of_lt (Az (by omega))];omega) (D4 (Az (by omega)))]
 rw[if_pos (by rw[Nat.mod_eq_of_lt (Az (by omega))];omega)]
 refine aF (rs:=[2]) (vs:=[.slice (some ⟨s.next,0,none⟩) b.length (b.length+3)]) rfl (.inl AeH_) (by omega) Vf NI_ y3.cx (by simp[T.get_set]) ?_
 rw[PA_]at ho
 refine q _ y3.cx' (λi u e=>(ho i u e).same rfl rfl) ?_
 have hl:(u8l (Db b)).length=b.length+3:=by rw[Av,Rn]
 have:=(ho (b.length+2) _ (List.getElem?_eq_getElem (by rw[hl];omega))).1
 show s.next+b.length+3<=s1.next
 omega
theorem NJ_ {E:Env}{t:Nat}{s:St}{sz n c:Nat}{a:Addr}(h:slN E t=some sz)(hc:c<capU)(Q:Value->St->Prop):W (AS E .cap [t] [.slice (some a) n c]) s Q=Q (.int .i64 (c:Nat)) s:=by
 obtain⟨i,e,ie,h1,h2,h3,h4⟩:=Ft h
 refine AC ?_
 show aCap E t (.slice (some a) n c) s=_
 unfold aCap
 rw[AG (show ti E t s= .some i s by unfold ti;rw[h1];rfl)]
 simp only[h2]
 rw[Bq hc]
 show pN c s=_
 unfold pN
 rw[Aj]
 rfl
theorem AfU_ {v:Value}{b:List Nat}{L n:Nat}{s:St}{Q:Value->St->Prop}(hbd:s.lim<=s.next)(hb:Bs s v b)(hz:b.length<=100000)(hL:Row s L 0 (u8l (Db b)))(hn:100<=n)
  (q: ∀s1,Ext Any Non s s1->Q (.bool true) s1):W (Ab envS (runF envS n) 23 [.slice (some ⟨L,0,none⟩) b.length (b.length+3),v]) s Q:=by
 refine XK_ λtm h0 h1=> ?_
 have hb0:(s.cxN cxN).lim<=(s.cxN cxN).next:=hbd
 refine Wm_.u ?_
 simp only[Xq,RR,SS]
 refine Aew_.u ?_
 have hU:b.length+3<capU:=Az (by omega)
 have hmod:(b.length+3)%capU=b.length+3:=Nat.mod_eq_of_lt hU
 have e1:wrap64 (((b.length:Nat):Int)+3)=((b.length+3:Nat):Int):=by
  rw[Ax (by omega) (by omega)];simp
 have hlen: ∀(s:St) (Q:Value->St->Prop),W (AS envS .len [22] [v]) s Q=Q (.int .i64 (b.length:Nat)) s:=λs Q=>by
  obtain⟨p,c,rfl⟩:=hb.sl
  exact AP Al Q
 simp only[Na_,RR,T.get_set,Nat.reduceEqDiff, ↓reduceIte,h0,h1,AJ,Cw,B5,B8,BU,DW,Ag]
 rw[W_dq λs Q=>AP Al Q]
 simp only[Ag]
 rw[W_dq hlen]
 simp only[Ag]
 rw[W_dq λs Q=>Di _ _]
 simp only[decide_true,Cs,Ha,El,if_t,Ag]
 rw[W_dq λs Q=>NJ_ Al hU Q]
 simp only[Ag]
 rw[W_dq λs Q=>GX (s:=s) (l:=0) (h:=b.length+3) Al rfl rfl (Nat.zero_le _) (by rw[hmod];exact Nat.le_refl _) (D4 hU) Q]
 rw[if_pos (by rw[hmod];omega)]
 simp only[Ag]
 refine aU (CW_ (s:=oSt s.mem s.next) (Nat.le_refl _) (hb.same rfl rfl) hz (by omega) λs1 x1 o1 l1=>⟨_,x1,λrd1 hr1=> ?_⟩)
 simp only[Ag]
 rw[W_dq hlen]
 simp only[Ag]
 rw[W_dq λs Q=>Aw (s:=s) _ _,e1]
 rw[W_dq λs Q=>GX (s:=s) (l:=0) (h:=b.length+3) Al rfl rfl (Nat.zero_le _) (by rw[hmod];exact Nat.le_refl _) (D4 hU) Q]
 rw[if_pos (by rw[hmod];omega)]
 have o1':Aa s1 s.next 0 (u8l (Db b)):=o1
 have hsub: ∀(s2:St) (B:Nat),Row s2 B 0 (u8l (Db b))->Bs s2 (.slice (some ⟨B,0+0*1,none⟩) (b.length+3-0) (b.length+3-0)) (Db b):=λs2 B h=> .inr ⟨B,0,b.length+3,by rw[Rn,Nat.zero_mul,Nat.sub_zero],by rw[hmod,Rn];exact Nat.le_refl _,D4 hU,h⟩
 refine aU (Alg_ (s:=oSt s1.mem s1.next) (Nat.le_refl _) (hsub _ L λi u e=>((((hL i u e).same (s':=oSt s.mem s.next) rfl rfl).ext0 x1).same rfl rfl)) (hsub _ s.next λi u e=>((o1' i u e).same (s':=oSt s1.mem s1.next) rfl rfl).at') (by omega) λs2 x2 m2 n2=>⟨_,x2,λrd2 hr2=> ?_⟩)
 rw[W_dq λs Q=>CO (s:=s) _ _ _ _]
 simp only[reduceIte,AK]
 have hn1:s.next<=s1.next:=x1.nxt
 have hn2:s2.next=s1.next:=n2
 refine⟨D3 ?_, ?_⟩
 ·simp only[List.reverse_cons,List.reverse_nil,List.nil_append,List.cons_append,allP,CF,List.take,DB]
  simp+contextual [hn2]
  exact .inl rfl
 ·refine aJ (Agq_ ..) ?_
  simp only[SS]
  generalize hs3:(⟨(dSt s2.mem s2.next).mem,(dSt s2.mem s2.next).next,(s.cxN cxN).lim,_,_,(s.cxN cxN).cx⟩:St)=s3
  have hx:Ext Any Non (s.cxN cxN) s3:=by
   rw[<-hs3]
   refine Ext.draw (by show s.next<=s2.next;omega) (λx hx=> ?_) ?_ λ_ _ _ _ _=>trivial
   ·have e2:T.get s1.mem x=T.get s.mem x:=x1.mem x hx id
    have e3:T.get s2.mem x=T.get s1.mem x:=x2.mem x (by show x<s1.next;exact Nat.lt_of_lt_of_le hx hn1) id
    exact e3.trans e2
   ·simp
  refine aF (rs:=[4]) (vs:=[.bool true]) rfl (.inl Si_) (by omega) CI_ OM_ hx.cx (by simp[T.get_set]) ?_
  exact q _ hx.cx'
theorem Ext.go {F:Nat->Prop}{F' G':Nat->Prop}{s s1 s2:St}(h:Ext F Non s s1)(k:Ext F' G' s1 s2)(hb:s.lim<=s.next)(hF: ∀y,F' y->F y\/s.next<=y)(hG: ∀y,G' y->s.next<=y):Ext F Non s s2:=
 h.step k hb (λy hy h=>(hF y h).elim id λh1=>absurd hy (by omega)) hG
def NoMk (s:St)(x:Value)(r:List Nat)(n0 n1:Nat):Prop:=(x= .slice none 0 0/\r=[])\/ ∃nb,MkG s x r nb/\0<r.length/\r.length<=2000/\n0<=nb/\nb+r.length<n1
theorem NoMk.bs {s:St}{x:Value}{r:List Nat}{n0 n1:Nat}(h:NoMk s x r n0 n1):Bs s x r:=by
 rcases h with⟨h1,h2⟩|⟨nb,h,_,h2,_⟩
 ·exact .inl ⟨h1,h2⟩
 ·exact(h.bn (by omega)).bs
theorem NoMk.lo {s:St}{x:Value}{r:List Nat}{n0 n1:Nat}(h:NoMk s x r n0 n1): ∀y,BsF x y->n0<=y:=λy hy=>by
 rcases h with⟨rfl,_⟩|⟨nb,h,_,_,h3,_⟩
 ·exact hy.elim
 ·rw[h.val]at hy
  have:=hy.1
  omega
theorem NoMk.ext {F G:Nat->Prop}{s s':St}{x:Value}{r:List Nat}{n0 n1:Nat}(h:NoMk s x r n0 n1)(e:Ext F G s s')(hG: ∀y,n0<=y->y<n1-> ¬G y):NoMk s' x r n0 n1:=by
 rcases h with h|⟨nb,h,h1,h2,h3,h4⟩
 ·exact .inl h
 ·refine .inr ⟨nb,h.ext e λy hy=>hG y (by have:=hy.1;omega) (by have:=hy.2;omega),h1,h2,h3,h4⟩
