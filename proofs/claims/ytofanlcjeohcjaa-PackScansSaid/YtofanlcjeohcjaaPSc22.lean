import Derived.Test.YtofanlcjeohcjaaPSc21
import Derived.Test.YtofanlcjeohcjaaPSc16
import Derived.Test.YtofanlcjeohcjaaPSc08
import Derived.Test.YtofanlcjeohcjaaPSc18
import Derived.Test.YtofanlcjeohcjaaPSc19
namespace Go.Proofs.Ytofanlcjeohcjaa.Am
open Go.RowKit
theorem BS (l:List Nat):cellsOf (.agg (w32 l).toArray)=w32 l:=by
 show(w32 l).toArray.toList=_
 exact List.toList_toArray ..
theorem EU (l:List Nat):(w32 l).all oneCell=true:=by
 rw[List.all_eq_true]
 intro x hx
 obtain⟨n,_,rfl⟩:=List.mem_map.1 hx
 rfl
theorem OB_ (n:Nat):List.replicate n (.int .u32 0)=w32 (List.replicate n 0):=by
 unfold w32
 rw[List.map_replicate]
 rfl
theorem Fo (f:Nat→Nat):(schL f).length=64:=by unfold schL;rw[List.length_map,List.length_range]
theorem Ls_ {n:Nat}{s:St}{v:Value}{l:List Nat}{Q:Value→St→Prop}(hbd:s.lim≤s.next)(hn:700≤n)(h:Bn s v l)(hlt: ∀x,BsF v x→x<s.next)(hl64:l.length=64)(hby:Byt l)
  (q: ∀s1,Ext (BsF v) Non s s1→Q (.agg (w32 (schL fun j=>l.getD j 0)).toArray) s1):W (Ai envS (runF envS n) 146 [v]) s Q:=by
 refine Wh_ fun tm h0=> ?_
 obtain⟨b,o,cc,rfl,h1,h2,h3⟩:=h
 rw[hl64]at h0
 have hlt': ∀x,In b o 64 x→x<s.next:=fun x hx=>hlt x (by show In b o l.length x;rw[hl64];exact hx)
 refine JV_.w rfl (by omega) ?_
 simp only[RM,Ad,Aa,Ac]
 refine W.alloc G4 fun s1 n1 x1 o1=> ?_
 have n1':s1.next=s.next+65:=n1
 have hb1:s1.lim≤s1.next:=x1.bnd hbd
 refine Uv_.w rfl (by omega) ?_
 simp only[QK,Ad,Aa,Ac]
 refine W.alloc G4 fun s2 n2 x2 o2=> ?_
 have n2':s2.next=s1.next+65:=n2
 have hb2:s2.lim≤s2.next:=x2.bnd hb1
 have hx2:Ext Non Non (s.cxN cxN) s2:=x1.step x2 hbd (fun _ _ h=>h.elim) fun _ h=>h.elim
 have hlim:s2.lim≤s.next:=by have:=hx2.lim;rw[this];exact hbd
 refine Iy_.w rfl (by omega) ?_
 simp only[Z5,Aa,W_mv,Ac]
 rw[OB_]at o2
 refine Xp_ (C:=s.next) (B:=s1.next) (cc:=cc) (s0:=s2) hb2 (by omega) (fun i v e=>((h3 i v e).same (s':=s.cxN cxN) rfl rfl).ext hx2 id) (fun x hx h=>by have h4:=hlt' x hx;have h5:s1.next+0≤x:=h.1;omega) hl64 hby 16 0 _ _ _ _ (List.replicate 64 0) (by omega) (by omega) rfl (Ext.refl _) o2 (by simp) (fun j hj=>absurd hj (by omega)) (by simp[T.get_set,h0]) (by simp[T.get_set]) (by simp[T.get_set]) (by simp[T.get_set]) fun n3 tm3 s3 td3 ws hn3 hT3 hx3 ho3 hws3 hw3 g2 g3=> ?_
 refine Vj_.w hT3 (by omega) ?_
 simp only[SH,Aa,W_mv,Ac]
 have hf: ∀j,l.getD j 0<256:=fun j=>by
  rw[List.getD_eq_getElem?_getD]
  cases h:l[j]? with
  |none=>exact(by decide:0<256)
  |some x=>exact hby x (List.mem_of_getElem? h)
 refine Op_ (C:=s.next) (B:=s1.next) (f:=fun j=>l.getD j 0) (s0:=s3) (hx3.bnd hb2) (by rw[hx3.lim];omega) hf 48 16 _ _ _ _ ws (by omega) (by omega) (by omega) rfl (Ext.refl _) ho3 hws3 hw3 (by simp[T.get_set,g2]) (by simp[T.get_set,g3]) (by simp[T.get_set]) fun n4 tm4 s4 td4 hn4 hT4 hx4 ho4 k2 k3=> ?_
 have hx34:Ext (In b o 64) (In s1.next 0 64) s2 s4:=hx3.trans hx4 hb2 (fun _ _ h=>h.elim) fun _ _ h=>h
 have hx4':Ext (In b o 64) Non (s.cxN cxN) s4:=(hx2.weak hbd (fun _ _ h=>h.elim) fun _ _ h=>h).step hx34 hbd (fun _ _ h=>h) fun y h=>by
  have h5:s1.next+0≤y:=h.1
  show s.next≤y
  omega
 have hb4:s4.lim≤s4.next:=hx4'.bnd hbd
 have hoC:A3 s4 s.next 0 64:=((Ae.owned o1).ext1 x2 fun _ _ h=>h).ext1 hx34 fun x h h'=>by
  have h5:s1.next+0≤x:=h'.1
  have h6:x<s.next+0+64:=h.2
  omega
 refine Wf_.w hT4 (by omega) ?_
 simp only[Aw_,Ad,W_oS,Aa,k2,k3]
 refine W.loadA FH ho4.row (by rw[Cb,Fo]) fun s5 m5 n5 x5=> ?_
 have hx5:Ext (In b o 64) Non (s.cxN cxN) s5:=hx4'.step x5 hbd (fun y hy h=>by
  have h5:s1.next+0≤y:=h.1
  have h6:y<s.lim:=hy
  omega) fun _ h=>h.elim
 refine W.store FH (by rw[BS,Cb,Fo]) (by rw[BS];exact EU _) (fun i hi=>let ⟨u,hu⟩:=hoC i hi;⟨u,hu.ext x5 id⟩) fun s6 n6 x6 o6=> ?_
 rw[BS]at o6
 have hx6:Ext (In b o 64) Non (s.cxN cxN) s6:=hx5.step x6 hbd (fun y hy h=>by
  have h5:s.next+0≤y:=h.1
  have h6:y<s.lim:=hy
  omega) fun y h=>by
   have h5:s.next+0≤y:=h.1
   show s.next≤y
   omega
 refine W.endC (r:=2) rfl (.inl AaW_) (by omega) Wy KM_ hx6.cx (by simp[k2];rfl) ?_
 refine W.loadA FH o6.row (by rw[Cb,Fo]) fun s7 m7 n7 x7=> ?_
 have hx7:Ext (In b o 64) Non (s.cxN cxN) s7:=hx6.step x7 hbd (fun y hy h=>by
  have h5:s.next+0≤y:=h.1
  have h6:y<s.lim:=hy
  omega) fun _ h=>h.elim
 exact q _ ((hx7.weak hbd (fun y _ h=>by show In b o l.length y;rw[hl64];exact h) fun _ _ h=>h).cx')
theorem TZ_ {n:Nat}{s:St}{Q:Value→St→Prop}(hbd:s.lim≤s.next)(hn:10≤n)(q: ∀s1,Ext Non Non s s1→Q (.agg (w32 Sha.ks).toArray) s1):W (Ai envS (runF envS n) 147 []) s Q:=by
 refine Qk_ fun tm=> ?_
 refine ZG_.w rfl (by omega) ?_
 simp only[BT_,Ad,Aa,Ac]
 refine W.alloc G4 fun s1 n1 x1 o1=> ?_
 have hb1:s1.lim≤s1.next:=x1.bnd hbd
 refine XD_.w rfl (by omega) ?_
 unfold EY_
 refine W.bind (W.of (a:= .agg (w32 Sha.ks).toArray) (s':=s1) (by kernel_rfl) ?_)
 simp only[Ad,W_oS,Aa,T.get_set,reduceIte, ↓reduceIte]
 refine W.store FH (by rw[BS,Cb];rfl) (by rw[BS];exact EU _) (fun i hi=>Ae.owned o1 i hi) fun s6 n6 x6 o6=> ?_
 rw[BS]at o6
 have hx6:Ext Non Non (s.cxN cxN) s6:=x1.step x6 hbd (fun y hy h=>by
  have h5:s.next+0≤y:=h.1
  have h6:y<s.lim:=hy
  omega) fun y h=>by
   have h5:s.next+0≤y:=h.1
   show s.next≤y
   omega
 refine W.endC (r:=0) rfl (.inl XM_) (by omega) Z3 QT_ hx6.cx (by simp[T.get_set];rfl) ?_
 refine W.loadA FH o6.row (by rw[Cb];rfl) fun s7 m7 n7 x7=> ?_
 have hx7:Ext Non Non (s.cxN cxN) s7:=hx6.step x7 hbd (fun y hy h=>by
  have h5:s.next+0≤y:=h.1
  have h6:y<s.lim:=hy
  omega) fun _ h=>h.elim
 exact q _ hx7.cx'
theorem Mz:Du envS 161=some (List.replicate 8 (.int .u32 0)):=by kernel_rfl
theorem ED:tyS envS 161=some (8,true):=by kernel_rfl
theorem B1:arrN envS 161=some (8,1):=by kernel_rfl
theorem MU_ (a b c d e f g h:Nat):Df envS 161 [(0, .int .u32 (a:Nat)),(1, .int .u32 (b:Nat)),(2, .int .u32 (c:Nat)),(3, .int .u32 (d:Nat)),(4, .int .u32 (e:Nat)),(5, .int .u32 (f:Nat)),(6, .int .u32 (g:Nat)),(7, .int .u32 (h:Nat))]=some (w32 [a,b,c,d,e,f,g,h]):=by kernel_rfl
theorem Dt {E:Env}{t sz b o len k:Nat}{i:Int}{kd:IntKind}{s:St}(e:i=(k:Nat))(h:arrN E t=some (len,sz))(hk:k<len)(Q:Value→St→Prop):W (AH E t (.pointer (some ⟨b,o,none⟩)) (.int kd i)) s Q=Q (.pointer (some ⟨b,o+k*sz,none⟩)) s:=by
 subst e
 exact Yk h hk Q
theorem am32 {a b:Nat}(ha:a<4294967296):(a&&&b)%4294967296=a&&&b:=Nat.mod_eq_of_lt (Nat.lt_of_le_of_lt Nat.and_le_left ha)
theorem Fm {a b:Nat}(ha:a<4294967296):a&&&b<4294967296:=Nat.lt_of_le_of_lt Nat.and_le_left ha
theorem Xz_ {st:Sha.St8}(hok:st.Ok)(k w:Nat):((((st.h+((rot st.e 6^^^rot st.e 11)%4294967296^^^rot st.e 25)%4294967296)%4294967296+((st.e&&&st.f)%4294967296^^^((4294967295^^^st.e)%4294967296&&&st.g)%4294967296)%4294967296)%4294967296+k)%4294967296+w)%4294967296=Sha.t1 st k w:=by
 have he:=hok.e
 have hn:4294967295^^^st.e<4294967296:=Sha.xor_lt (by decide) he
 rw[xm32 (BA _ 6 he) (BA _ 11 he),xm32 (Sha.xor_lt (BA _ 6 he) (BA _ 11 he)) (BA _ 25 he),am32 he,Nat.mod_eq_of_lt hn,am32 hn,xm32 (Fm he) (Fm hn)]
 rfl
theorem Qd_ {st:Sha.St8}(hok:st.Ok):(((rot st.a 2^^^rot st.a 13)%4294967296^^^rot st.a 22)%4294967296+(((st.a&&&st.b)%4294967296^^^(st.a&&&st.c)%4294967296)%4294967296^^^(st.b&&&st.c)%4294967296)%4294967296)%4294967296=Sha.t2 st:=by
 have ha:=hok.a
 have hb:=hok.b
 rw[xm32 (BA _ 2 ha) (BA _ 13 ha),xm32 (Sha.xor_lt (BA _ 2 ha) (BA _ 13 ha)) (BA _ 22 ha),am32 ha,am32 ha,am32 hb,xm32 (Fm ha) (Fm ha),xm32 (Sha.xor_lt (Fm ha) (Fm ha)) (Fm hb)]
 rfl
section
variable {V C B:Nat}{a2 a4:Value}{f:Nat→Nat}{st:Sha.St8}{Q:Value×FrameMode→St→Prop}{s0:St}
theorem Ya_ (hb0:s0.lim≤s0.next)(hV:s0.lim≤V)(hC:s0.lim≤C)(hB:s0.lim≤B)(hVC:V+8≤C∨C+64≤V)(hVB:V+8≤B∨B+64≤V)(hst:st.Ok)(hw:Ae s0 B 0 (w32 (schL f)))(hk:Ae s0 C 0 (w32 Sha.ks)): ∀(k i n:Nat) (tm:T Value) (s:St) (td:List Item),i+k=64→8*k+60≤n→skim 64 td=I8→Ext Non (In V 0 8) s0 s→Ae s V 0 (w32 (st8L (Sha.rnds Sha.K (Sha.sch f) st i)))→
  T.get tm 2=some a2→T.get tm 4=some a4→T.get tm 5=some (.pointer (some ⟨B,0,none⟩))→T.get tm 6=some (.pointer (some ⟨C,0,none⟩))→T.get tm 7=some (.pointer (some ⟨V,0,none⟩))→T.get tm 8=some (.int .i64 (i:Nat))→
  (∀n' tm' s1 td',n≤n'+8*k+10→skim 64 td'=PF→Ext Non (In V 0 8) s0 s1→Ae s1 V 0 (w32 (st8L (Sha.rnds Sha.K (Sha.sch f) st 64)))→T.get tm' 2=some a2→T.get tm' 4=some a4→T.get tm' 7=some (.pointer (some ⟨V,0,none⟩))→W (runF envS n' ⟨132,JW,Cg,tm',td', .run, .normal,none⟩) s1 Q)→
  W (runF envS n ⟨132,JW,Cg,tm,td, .run, .normal,none⟩) s Q:=by
 intro k
 induction k with
 |zero=>
  intro i n tm s td hi hn hT hx ho h2 h4 h5 h6 h7 h8 q
  refine YV.w hT (by omega) ?_
  simp only[MD,Ad,W_oS,Aa,W_mv,Ac,Be,h8]
  refine W.cond (v:=false) rfl X7 (by simp[T.get_set];omega) (by omega) (fun h=>by cases h) fun _=> ?_
  obtain rfl:i=64:=by omega
  exact q _ _ _ _ (by omega) rfl hx ho (by simp[T.get_set,h2]) (by simp[T.get_set,h4]) (by simp[T.get_set,h7])
 |succ k ih=>
  intro i n tm s td hi hn hT hx ho h2 h4 h5 h6 h7 h8 q
  have hok:(Sha.rnds Sha.K (Sha.sch f) st i).Ok:=Sha.rnds_ok hst i
  have hnext:Sha.rnds Sha.K (Sha.sch f) st (i+1)=Sha.rnd (Sha.rnds Sha.K (Sha.sch f) st i) (Sha.K i) (Sha.sch f i):=rfl
  have hb:s.lim≤s.next:=hx.bnd hb0
  have hlimV:s.lim≤V:=by rw[hx.lim];exact hV
  generalize hS:Sha.rnds Sha.K (Sha.sch f) st i=S at *
  have gk:At s C (0+i*1) (.int .u32 (Sha.K i:Nat)):=by
   have h1:=hk i _ (D0 (show i<Sha.ks.length by rw[Sha.ks_len];omega))
   rw[Nat.mul_one]
   exact h1.at'.ext hx fun h=>by have h3:=h.1;have h4:=h.2;omega
  have gw:At s B (0+i*1) (.int .u32 (Sha.sch f i:Nat)):=by
   have h1:=hw i _ (D0 (show i<(schL f).length by rw[Fo];omega))
   have e:(schL f).getD i 0=Sha.sch f i:=by
    unfold schL
    rw[List.getD_eq_getElem?_getD,List.getElem?_map,List.getElem?_range (by omega)]
    rfl
   rw[e]at h1
   rw[Nat.mul_one]
   exact h1.at'.ext hx fun h=>by have h3:=h.1;have h4:=h.2;omega
  have ga:At s V (0+0*1) (.int .u32 (S.a:Nat)):=(ho 0 _ rfl).at'
  have gb:At s V (0+1*1) (.int .u32 (S.b:Nat)):=(ho 1 _ rfl).at'
  have gc:At s V (0+2*1) (.int .u32 (S.c:Nat)):=(ho 2 _ rfl).at'
  have gd:At s V (0+3*1) (.int .u32 (S.d:Nat)):=(ho 3 _ rfl).at'
  have ge:At s V (0+4*1) (.int .u32 (S.e:Nat)):=(ho 4 _ rfl).at'
  have gf:At s V (0+5*1) (.int .u32 (S.f:Nat)):=(ho 5 _ rfl).at'
  have gg:At s V (0+6*1) (.int .u32 (S.g:Nat)):=(ho 6 _ rfl).at'
  have gh:At s V (0+7*1) (.int .u32 (S.h:Nat)):=(ho 7 _ rfl).at'
  obtain⟨F,hF⟩: ∃F:Nat→Prop,F=fun x=>V≤x∨C≤x∨B≤x:=⟨_,rfl⟩
  have hFl: ∀x,x<s0.lim→F x→False:=fun x h1 h2=>by rw[hF]at h2;rcases h2 with h2|h2|h2<;>omega
  refine YV.w hT (by omega) ?_
  simp only[MD,Ad,W_oS,Aa,W_mv,Ac,Be,h8]
  refine W.cond (v:=true) rfl X7 (by simp[T.get_set];omega) (by omega) (fun _=> ?_) fun h=>by cases h
  refine QK_.rd (F:=F) rfl (by omega) ?_
  simp only[CH_,T.get_set,Nat.reduceEqDiff, ↓reduceIte,h7,h8,h6,h5,BG,Ck,Ah,Ag,Af,BY (i:=7) (k:=7) rfl B1 (by decide)]
  refine W.dload BD (gh.same rfl rfl) fun rd0 hr0=> ?_
  simp only[BY (i:=4) (k:=4) rfl B1 (by decide)]
  refine W.dload BD (ge.same rfl rfl) fun rd1 hr1=> ?_
  simp only[D8 (i:=6) (n:=n-1-1-1) 6 rfl (by decide) rfl hok.e (by omega),BY (i:=4) (k:=4) rfl B1 (by decide)]
  refine W.dload BD (ge.same rfl rfl) fun rd2 hr2=> ?_
  simp only[Ev,D8 (i:=11) (n:=n-1-1-1) 11 rfl (by decide) rfl hok.e (by omega),BY (i:=4) (k:=4) rfl B1 (by decide)]
  refine W.dload BD (ge.same rfl rfl) fun rd3 hr3=> ?_
  simp only[Ev,E5,D8 (i:=25) (n:=n-1-1-1) 25 rfl (by decide) rfl hok.e (by omega),BY (i:=4) (k:=4) rfl B1 (by decide)]
  refine W.dload BD (ge.same rfl rfl) fun rd4 hr4=> ?_
  simp only[BY (i:=5) (k:=5) rfl B1 (by decide)]
  refine W.dload BD (gf.same rfl rfl) fun rd5 hr5=> ?_
  simp only[Hh,BY (i:=4) (k:=4) rfl B1 (by decide)]
  refine W.dload BD (ge.same rfl rfl) fun rd6 hr6=> ?_
  simp only[Td_,BY (i:=6) (k:=6) rfl B1 (by decide)]
  refine W.dload BD (gg.same rfl rfl) fun rd7 hr7=> ?_
  simp only[Ap,Ev,E5,Hh,BY (i:=((i:Nat):Int)) (k:=i) rfl Fe (show i<64 by omega)]
  refine W.dload BD (gk.same rfl rfl) fun rd8 hr8=> ?_
  simp only[Ap,E5,BY (i:=((i:Nat):Int)) (k:=i) rfl Fe (show i<64 by omega)]
  refine W.dload BD (gw.same rfl rfl) fun rd9 hr9=> ?_
  simp only[E5]
  rw[Xz_ hok,Aa]
  have l0: ∀x∈rd0,F x:=fun x hx=>by rw[hF,hr0 x hx];exact .inl (by omega)
  have l1: ∀x∈rd1,F x:=fun x hx=>by rw[hF,hr1 x hx];exact .inl (by omega)
  have l2: ∀x∈rd2,F x:=fun x hx=>by rw[hF,hr2 x hx];exact .inl (by omega)
  have l3: ∀x∈rd3,F x:=fun x hx=>by rw[hF,hr3 x hx];exact .inl (by omega)
  have l4: ∀x∈rd4,F x:=fun x hx=>by rw[hF,hr4 x hx];exact .inl (by omega)
  have l5: ∀x∈rd5,F x:=fun x hx=>by rw[hF,hr5 x hx];exact .inl (by omega)
  have l6: ∀x∈rd6,F x:=fun x hx=>by rw[hF,hr6 x hx];exact .inl (by omega)
  have l7: ∀x∈rd7,F x:=fun x hx=>by rw[hF,hr7 x hx];exact .inl (by omega)
  have l8: ∀x∈rd8,F x:=fun x hx=>by rw[hF,hr8 x hx];exact .inr (.inl (by omega))
  have l9: ∀x∈rd9,F x:=fun x hx=>by rw[hF,hr9 x hx];exact .inr (.inr (by omega))
  refine⟨rfl,by simp, ?_,fun s1 m1 n1 x1=> ?_⟩
  ·dsimp only
   simp only[List.forall_mem_cons]
   repeat' apply And.intro
   all_goals first|trivial|assumption|(intro x hx;cases hx)
  refine W.cast (AbD_ ..) ?_
  simp only[Ad,W_oS,Aa,AJ]
  have hx1:Ext Non (In V 0 8) s0 s1:=hx.trans x1 hb0 (fun y hy h=>hFl y hy h) fun _ _ h=>h.elim
  have ho1:Ae s1 V 0 (w32 (st8L S)):=fun j v e=>(ho j v e).ext x1 id
  have ka:=ga.ext x1 id
  have kb:=gb.ext x1 id
  have kc:=gc.ext x1 id
  have kd:=gd.ext x1 id
  have ke:=ge.ext x1 id
  have kf:=gf.ext x1 id
  have kg:=gg.ext x1 id
  have kh:=gh.ext x1 id
  clear l0 l1 l2 l3 l4 l5 l6 l7 l8 l9
  refine RM_.rd (F:=F) rfl (by omega) ?_
  simp only[GK_,T.get_set,Nat.reduceEqDiff, ↓reduceIte,h7,BG,Ck,Ah,Ag,Af,BY (i:=0) (k:=0) rfl B1 (by decide)]
  refine W.dload BD (ka.same rfl rfl) fun rd0 hr0=> ?_
  simp only[D8 (i:=2) (n:=n-1-1-1-1) 2 rfl (by decide) rfl hok.a (by omega),BY (i:=0) (k:=0) rfl B1 (by decide)]
  refine W.dload BD (ka.same rfl rfl) fun rd1 hr1=> ?_
  simp only[Ev,D8 (i:=13) (n:=n-1-1-1-1) 13 rfl (by decide) rfl hok.a (by omega),BY (i:=0) (k:=0) rfl B1 (by decide)]
  refine W.dload BD (ka.same rfl rfl) fun rd2 hr2=> ?_
  simp only[Ev,D8 (i:=22) (n:=n-1-1-1-1) 22 rfl (by decide) rfl hok.a (by omega),BY (i:=0) (k:=0) rfl B1 (by decide)]
  refine W.dload BD (ka.same rfl rfl) fun rd3 hr3=> ?_
  simp only[BY (i:=1) (k:=1) rfl B1 (by decide)]
  refine W.dload BD (kb.same rfl rfl) fun rd4 hr4=> ?_
  simp only[Hh,BY (i:=0) (k:=0) rfl B1 (by decide)]
  refine W.dload BD (ka.same rfl rfl) fun rd5 hr5=> ?_
  simp only[BY (i:=2) (k:=2) rfl B1 (by decide)]
  refine W.dload BD (kc.same rfl rfl) fun rd6 hr6=> ?_
  simp only[Ev,Hh,BY (i:=1) (k:=1) rfl B1 (by decide)]
  refine W.dload BD (kb.same rfl rfl) fun rd7 hr7=> ?_
  simp only[BY (i:=2) (k:=2) rfl B1 (by decide)]
  refine W.dload BD (kc.same rfl rfl) fun rd8 hr8=> ?_
  simp only[Ev,E5,Hh]
  rw[Qd_ hok,Aa]
  have l0: ∀x∈rd0,F x:=fun x hx=>by rw[hF,hr0 x hx];exact .inl (by omega)
  have l1: ∀x∈rd1,F x:=fun x hx=>by rw[hF,hr1 x hx];exact .inl (by omega)
  have l2: ∀x∈rd2,F x:=fun x hx=>by rw[hF,hr2 x hx];exact .inl (by omega)
  have l3: ∀x∈rd3,F x:=fun x hx=>by rw[hF,hr3 x hx];exact .inl (by omega)
  have l4: ∀x∈rd4,F x:=fun x hx=>by rw[hF,hr4 x hx];exact .inl (by omega)
  have l5: ∀x∈rd5,F x:=fun x hx=>by rw[hF,hr5 x hx];exact .inl (by omega)
  have l6: ∀x∈rd6,F x:=fun x hx=>by rw[hF,hr6 x hx];exact .inl (by omega)
  have l7: ∀x∈rd7,F x:=fun x hx=>by rw[hF,hr7 x hx];exact .inl (by omega)
  have l8: ∀x∈rd8,F x:=fun x hx=>by rw[hF,hr8 x hx];exact .inl (by omega)
  refine⟨rfl,by simp, ?_,fun s2 m2 n2 x2=> ?_⟩
  ·dsimp only
   simp only[List.forall_mem_cons]
   repeat' apply And.intro
   all_goals first|trivial|assumption|(intro x hx;cases hx)
  refine W.cast (UG_ ..) ?_
  simp only[Ad,W_oS,Aa,AJ]
  have hx2:Ext Non (In V 0 8) s0 s2:=hx1.trans x2 hb0 (fun y hy h=>hFl y hy h) fun _ _ h=>h.elim
  have ho2:Ae s2 V 0 (w32 (st8L S)):=fun j v e=>(ho1 j v e).ext x2 id
  have ma:=ka.ext x2 id
  have mb:=kb.ext x2 id
  have mc:=kc.ext x2 id
  have md:=kd.ext x2 id
  have me:=ke.ext x2 id
  have mf:=kf.ext x2 id
  have mg:=kg.ext x2 id
  have mh:=kh.ext x2 id
  refine Jn_.w rfl (by omega) ?_
  simp only[VN,Ad,W_oS,Aa,W_mv,T.get_set,A8,A2,Af,reduceIte,Nat.reduceEqDiff, ↓reduceIte,h7,Uz,Dt (i:=0) (k:=0) rfl B1 (by decide),Dt (i:=1) (k:=1) rfl B1 (by decide),Dt (i:=2) (k:=2) rfl B1 (by decide),Dt (i:=3) (k:=3) rfl B1 (by decide),Dt (i:=4) (k:=4) rfl B1 (by decide),Dt (i:=5) (k:=5) rfl B1 (by decide),Dt (i:=6) (k:=6) rfl B1 (by decide)]
  refine W.load1 BD (ma.same rfl rfl) ?_
  refine W.load1 BD (mb.same rfl rfl) ?_
  refine W.load1 BD (mc.same rfl rfl) ?_
  refine W.load1 BD (md.same rfl rfl) ?_
  rw[Uz]
  refine W.load1 BD (me.same rfl rfl) ?_
  refine W.load1 BD (mf.same rfl rfl) ?_
  refine W.load1 BD (mg.same rfl rfl) ?_
  rw[D6 (MU_ _ _ _ _ _ _ _ _)]
  have hrd: ∀(s:St) (j:Nat),s.lim≤V→Ext Non Non s (s.rdN (V+(0+j*1))):=fun s j hl=>Ext.rdN s _ fun h=>by omega
  generalize hs3:(((((((s2.rdN (V+(0+0*1))).rdN (V+(0+1*1))).rdN (V+(0+2*1))).rdN (V+(0+3*1))).rdN (V+(0+4*1))).rdN (V+(0+5*1))).rdN (V+(0+6*1)))=s3
  have hl2:s2.lim≤V:=by rw[hx2.lim];exact hV
  have hb2:s2.lim≤s2.next:=hx2.bnd hb0
  have x3:Ext Non Non s2 s3:=by
   rw[←hs3]
   have tr: ∀{a b c:St},Ext Non Non a b→Ext Non Non b c→a.lim≤a.next→Ext Non Non a c:=fun h k hb=>h.trans k hb (fun _ _ h=>h) fun _ _ h=>h
   exact tr (tr (tr (tr (tr (tr (hrd _ 0 hl2) (hrd _ 1 hl2) hb2) (hrd _ 2 hl2) hb2) (hrd _ 3 hl2) hb2) (hrd _ 4 hl2) hb2) (hrd _ 5 hl2) hb2) (hrd _ 6 hl2) hb2
  have hx3:Ext Non (In V 0 8) s0 s3:=hx2.trans x3 hb0 (fun _ _ h=>h) fun _ _ h=>h.elim
  have ho3:Ae s3 V 0 (w32 (st8L S)):=fun j v e=>(ho2 j v e).ext x3 id
  refine W.store ED (by rw[BS,Cb];rfl) (by rw[BS];exact EU _) (fun i hi=>Ae.owned ho3 i hi) fun s4 n4 x4 o4=> ?_
  rw[BS]at o4
  have hx4:Ext Non (In V 0 8) s0 s4:=hx3.trans x4 hb0 (fun y hy h=>by have h1:V+0≤y:=h.1;omega) fun _ _ h=>h
  refine RL_.w rfl (by omega) ?_
  have ei:wrap64 ((i:Nat)+1:Int)=((i+1:Nat):Int):=by
   rw[AP (by omega) (by omega)];simp
  simp only[BM_,Ad,W_oS,Aa,W_mv,Ac,T.get_set,reduceIte,Nat.reduceEqDiff, ↓reduceIte,By,h8,ei]
  exact ih (i+1) _ _ _ _ (by omega) (by omega) Yf_ hx4 (by rw[hnext];exact o4) (by simp[T.get_set,h2]) (by simp[T.get_set,h4]) (by simp[T.get_set,h5]) (by simp[T.get_set,h6]) (by simp[T.get_set,h7]) (by simp[T.get_set]) fun n' tm' s5 td' e=>q n' tm' s5 td' (by omega)
end
section
variable {V S R:Nat}{st r:Sha.St8}{Q:Value×FrameMode→St→Prop}{s0:St}
def adL (st r:Sha.St8)(i:Nat):List Nat:=(List.range 8).map fun j=>if j<i then((st8L st).getD j 0+(st8L r).getD j 0)%4294967296 else(st8L st).getD j 0
theorem RF (st r:Sha.St8)(i:Nat):(adL st r i).length=8:=by unfold adL;rw[List.length_map,List.length_range]
theorem VX_ (st r:Sha.St8)(i j:Nat)(hj:j<8):(adL st r i).getD j 0=if j<i then((st8L st).getD j 0+(st8L r).getD j 0)%4294967296 else(st8L st).getD j 0:=by
 unfold adL
 rw[List.getD_eq_getElem?_getD,List.getElem?_map,List.getElem?_range hj]
 rfl
theorem XQ_ (st r:Sha.St8):adL st r 0=st8L st:=rfl
theorem YG_ (st r:Sha.St8):adL st r 8=st8L (Sha.plus st r):=by
 unfold Sha.plus
 rw[Nat.add_comm r.a,Nat.add_comm r.b,Nat.add_comm r.c,Nat.add_comm r.d,Nat.add_comm r.e,Nat.add_comm r.f,Nat.add_comm r.g,Nat.add_comm r.h]
 rfl
theorem KV_ (st r:Sha.St8)(i:Nat)(hi:i<8):(adL st r i).set i (((st8L st).getD i 0+(st8L r).getD i 0)%4294967296)=adL st r (i+1):=by
 match i,hi with
 |0,_=>rfl
 |1,_=>rfl
 |2,_=>rfl
 |3,_=>rfl
 |4,_=>rfl
 |5,_=>rfl
 |6,_=>rfl
 |7,_=>rfl
theorem Nm_ (hb0:s0.lim≤s0.next)(hV:s0.lim≤V)(hS:s0.lim≤S)(hVS:V+8≤S∨S+8≤V)(hv:Ae s0 V 0 (w32 (st8L r))): ∀(k i n:Nat) (tm:T Value) (s:St) (td:List Item),i+k=8→8*k+40≤n→skim 64 td=Ki→Ext Non (In S 0 8) s0 s→Ae s S 0 (w32 (adL st r i))→
  T.get tm 2=some (.pointer (some ⟨S,0,none⟩))→T.get tm 4=some (.pointer (some ⟨R,0,none⟩))→T.get tm 7=some (.pointer (some ⟨V,0,none⟩))→T.get tm 11=some (.int .i64 (i:Nat))→
  (∀n' tm' s1 td',n≤n'+8*k+10→skim 64 td'=NS→Ext Non (In S 0 8) s0 s1→Ae s1 S 0 (w32 (st8L (Sha.plus st r)))→T.get tm' 2=some (.pointer (some ⟨S,0,none⟩))→T.get tm' 4=some (.pointer (some ⟨R,0,none⟩))→W (runF envS n' ⟨132,JW,Cg,tm',td', .run, .normal,none⟩) s1 Q)→
  W (runF envS n ⟨132,JW,Cg,tm,td, .run, .normal,none⟩) s Q:=by
 intro k
 induction k with
 |zero=>
  intro i n tm s td hi hn hT hx ho h2 h4 h7 h11 q
  refine Yp.w hT (by omega) ?_
  simp only[Qf,Ad,W_oS,Aa,W_mv,Ac,Be,h11]
  refine W.cond (v:=false) rfl Av_ (by simp[T.get_set];omega) (by omega) (fun h=>by cases h) fun _=> ?_
  obtain rfl:i=8:=by omega
  rw[YG_]at ho
  exact q _ _ _ _ (by omega) rfl hx ho (by simp[T.get_set,h2]) (by simp[T.get_set,h4])
 |succ k ih=>
  intro i n tm s td hi hn hT hx ho h2 h4 h7 h11 q
  refine Yp.w hT (by omega) ?_
  simp only[Qf,Ad,W_oS,Aa,W_mv,Ac,Be,h11]
  refine W.cond (v:=true) rfl Av_ (by simp[T.get_set];omega) (by omega) (fun _=> ?_) fun h=>by cases h
  have hi8:i<8:=by omega
  obtain⟨F,hF⟩: ∃F:Nat→Prop,F=fun x=>V≤x∨S≤x:=⟨_,rfl⟩
  have gs:At s S (0+i*1) (.int .u32 ((st8L st).getD i 0:Nat)):=by
   have h1:=ho i _ (D0 (show i<(adL st r i).length by rw[RF];exact hi8))
   rw[VX_ st r i i hi8,if_neg (Nat.lt_irrefl i)]at h1
   rw[Nat.mul_one]
   exact h1.at'
  have gv:At s V (0+i*1) (.int .u32 ((st8L r).getD i 0:Nat)):=by
   have h1:=hv i _ (D0 (show i<(st8L r).length from hi8))
   rw[Nat.mul_one]
   exact h1.at'.ext hx fun h=>by have h3:=h.1;have h4:=h.2;omega
  refine PX_.rd (F:=F) rfl (by omega) ?_
  simp only[BP_,T.get_set,Nat.reduceEqDiff, ↓reduceIte,h2,h7,h11,BG,Ap,BY (i:=((i:Nat):Int)) (k:=i) rfl B1 hi8]
  refine W.dload BD (gs.same rfl rfl) fun rd0 hr0=> ?_
  simp only[Ap,BY (i:=((i:Nat):Int)) (k:=i) rfl B1 hi8]
  refine W.dload BD (gv.same rfl rfl) fun rd1 hr1=> ?_
  simp only[E5,BY (i:=((i:Nat):Int)) (k:=i) rfl B1 hi8]
  rw[Aa]
  have l0: ∀x∈rd0,F x:=fun x hx=>by rw[hF,hr0 x hx];exact .inr (by omega)
  have l1: ∀x∈rd1,F x:=fun x hx=>by rw[hF,hr1 x hx];exact .inl (by omega)
  refine⟨rfl,by simp, ?_,fun s1 m1 n1 x1=> ?_⟩
  ·dsimp only
   simp only[List.forall_mem_cons]
   repeat' apply And.intro
   all_goals first|trivial|assumption|(intro x hx;cases hx)
  refine W.cast (KB_ ..) ?_
  simp only[Ad,W_oS,Aa]
  have hx1:Ext Non (In S 0 8) s0 s1:=hx.trans x1 hb0 (fun y hy h=>by rw[hF]at h;rcases h with h|h<;>omega) fun _ _ h=>h.elim
  have ho1:Ae s1 S 0 (w32 (adL st r i)):=fun j v e=>(ho j v e).ext x1 id
  have hown:=ho1 i _ (D0 (show i<(adL st r i).length by rw[RF];exact hi8))
  refine W.store1 (o:=0+i*1) BD rfl (by rw[Nat.mul_one];exact hown) fun s2 n2 x2 o2=> ?_
  rw[Nat.mul_one]at x2 o2
  have ho2:Ae s2 S 0 (w32 (adL st r (i+1))):=by
   rw[←KV_ st r i hi8,←Nq]
   exact ho1.set x2 o2
  have hx2:Ext Non (In S 0 8) s0 s2:=hx1.trans x2 hb0 (fun y hy h=>by have h1:S+(0+i)≤y:=h.1;omega) fun y _ h=>by
   have h1:S+(0+i)≤y:=h.1
   have h2:y<S+(0+i)+1:=h.2
   exact⟨by omega,by omega⟩
  refine AaY_.w rfl (by omega) ?_
  have ei:wrap64 ((i:Nat)+1:Int)=((i+1:Nat):Int):=by
   rw[AP (by omega) (by omega)];simp
  simp only[WO,Ad,W_oS,Aa,W_mv,Ac,T.get_set,reduceIte,Nat.reduceEqDiff, ↓reduceIte,By,h11,ei]
  exact ih (i+1) _ _ _ _ (by omega) (by omega) Xw_ hx2 ho2 (by simp[T.get_set,h2]) (by simp[T.get_set,h4]) (by simp[T.get_set,h7]) (by simp[T.get_set]) fun n' tm' s5 td' e=>q n' tm' s5 td' (by omega)
end
theorem Im (r:Sha.St8):(st8L r).length=8:=rfl
theorem VF_ {n:Nat}{s:St}{v:Value}{st:Sha.St8}{l:List Nat}{Q:Value→St→Prop}(hbd:s.lim≤s.next)(hn:1500≤n)(h:Bn s v l)(hlt: ∀x,BsF v x→x<s.next)(hl64:l.length=64)(hby:Byt l)(hst:st.Ok)
  (q: ∀s1,Ext (BsF v) Non s s1→Q (.agg (w32 (st8L (Sha.next st fun j=>l.getD j 0))).toArray) s1):W (Ai envS (runF envS n) 132 [.agg (w32 (st8L st)).toArray,v]) s Q:=by
 refine Ack_ fun tm h0 h1=> ?_
 have hf: ∀j,l.getD j 0<256:=fun j=>by
  rw[List.getD_eq_getElem?_getD]
  cases h:l[j]? with
  |none=>exact(by decide:0<256)
  |some x=>exact hby x (List.mem_of_getElem? h)
 have own: ∀{a b:Nat} {y:Nat},In a 0 b y→a≤y:=fun h=>by have:=h.1;omega
 refine Nu_.w rfl (by omega) ?_
 simp only[Cz_,Ad,W_oS,Aa,Ac,h0]
 refine W.box fun s1 n1 x1 o1=> ?_
 rw[BS,Cb,Im]at n1
 rw[BS]at o1
 have n1':s1.next=s.next+9:=n1
 refine W.alloc Mz fun s2 n2 x2 o2=> ?_
 have n2':s2.next=s1.next+9:=n2
 have hx2:Ext (BsF v) Non (s.cxN cxN) s2:=(x1.weak hbd (fun _ _ h=>h.elim) fun _ _ h=>h).step x2 hbd (fun _ _ h=>h.elim) fun _ h=>h.elim
 have hb2:s2.lim≤s2.next:=hx2.bnd hbd
 have hN2:s.next≤s2.next:=hx2.nxt
 refine YJ_.w rfl (by omega) ?_
 simp only[Hd_,Ad,W_oS,W_on,Aa,W_mv,Ac,T.get_set,Ah,Ag,Af,Ar,reduceIte,Nat.reduceEqDiff, ↓reduceIte,h1]
 refine Ls_ hb2 (by omega) ((h.same (s':=s.cxN cxN) rfl rfl).ext0 hx2) (fun x hx=>Nat.lt_of_lt_of_le (hlt x hx) hN2) hl64 hby fun s3 x3=> ?_
 have hx3:=hx2.step x3 hbd (fun _ _ h=>h) fun _ h=>h.elim
 refine TZ_ (hx3.bnd hbd) (by omega) fun s4 x4=> ?_
 have hx4:=hx3.step x4 hbd (fun _ _ h=>h.elim) fun _ h=>h.elim
 refine W.alloc G4 fun s5 n5 x5 o5=> ?_
 have n5':s5.next=s4.next+65:=n5
 have hx5:=hx4.step x5 hbd (fun _ _ h=>h.elim) fun _ h=>h.elim
 refine W.alloc G4 fun s6 n6 x6 o6=> ?_
 have n6':s6.next=s5.next+65:=n6
 have hx6:=hx5.step x6 hbd (fun _ _ h=>h.elim) fun _ h=>h.elim
 have hN4:s2.next≤s4.next:=Nat.le_trans x3.nxt x4.nxt
 refine W.store FH (by rw[BS,Cb,Fo]) (by rw[BS];exact EU _) (fun i hi=>let ⟨u,hu⟩:=Ae.owned o5 i hi;⟨u,hu.ext x6 id⟩) fun s7 n7 x7 o7=> ?_
 rw[BS]at o7
 have hx7:=hx6.step x7 hbd (fun y hy h=>by have h5:=own h;have h6:y<s.lim:=hy;omega) fun y h=>by have h5:=own h;show s.next≤y;omega
 refine W.store FH (by rw[BS,Cb];rfl) (by rw[BS];exact EU _) (fun i hi=>let ⟨u,hu⟩:=Ae.owned o6 i hi;⟨u,hu.ext x7 fun h=>by have h5:=h.1;have h6:=h.2;omega⟩) fun s8 n8 x8 o8=> ?_
 rw[BS]at o8
 have hx8:=hx7.step x8 hbd (fun y hy h=>by have h5:=own h;have h6:y<s.lim:=hy;omega) fun y h=>by have h5:=own h;show s.next≤y;omega
 have o7':Ae s8 s4.next 0 (w32 (schL fun j=>l.getD j 0)):=o7.ext x8 fun i hi h=>by
  rw[Cb,Fo]at hi
  have h5:=own h
  omega
 have hoS:Ae s8 s.next 0 (w32 (st8L st)):=by
  refine Ae.ext (G:=fun y=>s2.next≤y) (F:=BsF v) o1 ?_ fun i hi h=> ?_
  ·have a1:Ext (BsF v) (fun y=>s2.next≤y) s1 s2:=x2.weak (x1.bnd hbd) (fun _ _ h=>h.elim) fun _ _ h=>h.elim
   have a2:Ext (BsF v) (fun y=>s2.next≤y) s1 s4:=(a1.trans x3 (x1.bnd hbd) (fun _ _ h=>h) fun _ _ h=>h.elim).trans x4 (x1.bnd hbd) (fun _ _ h=>h.elim) fun _ _ h=>h.elim
   have a3:Ext (BsF v) (fun y=>s2.next≤y) s1 s6:=(a2.trans x5 (x1.bnd hbd) (fun _ _ h=>h.elim) fun _ _ h=>h.elim).trans x6 (x1.bnd hbd) (fun _ _ h=>h.elim) fun _ _ h=>h.elim
   have hl1:s1.lim≤s.next:=by rw[x1.lim];exact hbd
   have a4:=a3.trans x7 (x1.bnd hbd) (fun y hy h=>by have h5:=own h;omega) fun y _ h=>by have h5:=own h;show s2.next≤y;omega
   exact a4.trans x8 (x1.bnd hbd) (fun y hy h=>by have h5:=own h;omega) fun y _ h=>by have h5:=own h;show s2.next≤y;omega
  ·rw[Cb,Im]at hi
   omega
 have hN8:s8.next=s6.next:=by omega
 refine VG_.w rfl (by omega) ?_
 simp only[YE,Ad,W_oS,Aa,Ac,T.get_set,reduceIte,Nat.reduceEqDiff, ↓reduceIte]
 refine W.loadA ED hoS.row (by rw[Cb];rfl) fun s9 m9 n9 x9=> ?_
 have hx9:=hx8.step x9 hbd (fun y hy h=>by have h5:s.next+0≤y:=h.1;have h6:y<s.lim:=hy;omega) fun _ h=>h.elim
 refine W.alloc Mz fun s10 n10 x10 o10=> ?_
 have n10':s10.next=s9.next+9:=n10
 have hx10:=hx9.step x10 hbd (fun _ _ h=>h.elim) fun _ h=>h.elim
 refine W.store ED (by rw[BS,Cb];rfl) (by rw[BS];exact EU _) (fun i hi=>Ae.owned o10 i hi) fun s11 n11 x11 o11=> ?_
 rw[BS]at o11
 have hx11:=hx10.step x11 hbd (fun y hy h=>by have h5:=own h;have h6:y<s.lim:=hy;omega) fun y h=>by have h5:=own h;show s.next≤y;omega
 have hb11:s11.lim≤s11.next:=hx11.bnd hbd
 have hl11:s11.lim≤s.next:=by rw[hx11.lim];exact hbd
 have x8_11:Ext (fun y=>s.next≤y) (In s9.next 0 8) s8 s11:=((x9.weak (hx8.bnd hbd) (fun y _ h=>by have h5:s.next+0≤y:=h.1;show s.next≤y;omega) fun _ _ h=>h.elim).trans x10 (hx8.bnd hbd) (fun _ _ h=>h.elim) fun _ _ h=>h.elim).trans x11 (hx8.bnd hbd) (fun y _ h=>by have h5:=own h;show s.next≤y;omega) fun _ _ h=>h
 refine RC_.w rfl (by omega) ?_
 simp only[Em_,Aa,W_mv,Ac]
 refine Ya_ (V:=s9.next) (C:=s5.next) (B:=s4.next) (f:=fun j=>l.getD j 0) (st:=st) (s0:=s11) (a2:= .pointer (some ⟨s.next,0,none⟩)) (a4:= .pointer (some ⟨s1.next,0,none⟩)) hb11 (by omega) (by omega) (by omega) (.inr (by omega)) (.inr (by omega)) hst (o7'.ext x8_11 fun i hi h=>by
  rw[Cb,Fo]at hi
  have h5:=own h
  omega) (o8.ext x8_11 fun i hi h=>by
  rw[Cb,Sha.ks_len]at hi
  have h5:=own h
  omega) 64 0 _ _ _ _ (by omega) (by omega) rfl (Ext.refl _) o11 (by simp[T.get_set]) (by simp[T.get_set]) (by simp[T.get_set]) (by simp[T.get_set]) (by simp[T.get_set]) (by simp[T.get_set]) fun n12 tm12 s12 td12 hn12 hT12 hx12 ho12 g2 g4 g7=> ?_
 have hx12':=hx11.step hx12 hbd (fun _ _ h=>h.elim) fun y h=>by have h5:=own h;show s.next≤y;omega
 refine PC_.w hT12 (by omega) ?_
 simp only[RK,Aa,W_mv,Ac]
 have hoS12:Ae s12 s.next 0 (w32 (st8L st)):=(hoS.ext x8_11 fun i hi h=>by
  rw[Cb,Im]at hi
  have h5:=own h
  omega).ext hx12 fun i hi h=>by
  rw[Cb,Im]at hi
  have h5:=own h
  omega
 refine Nm_ (V:=s9.next) (S:=s.next) (R:=s1.next) (st:=st) (s0:=s12) (hx12'.bnd hbd) (by rw[hx12'.lim];show s.lim≤_;omega) (by rw[hx12'.lim];exact hbd) (.inr (by omega)) ho12 8 0 _ _ _ _ (by omega) (by omega) rfl (Ext.refl _) (by rw[XQ_];exact hoS12) (by simp[T.get_set,g2]) (by simp[T.get_set,g4]) (by simp[T.get_set,g7]) (by simp[T.get_set]) fun n13 tm13 s13 td13 hn13 hT13 hx13 ho13 k2 k4=> ?_
 have hx13':=hx12'.step hx13 hbd (fun _ _ h=>h.elim) fun y h=>by have h5:=own h;show s.next≤y;omega
 refine TB_.w hT13 (by omega) ?_
 simp only[EI_,Ad,W_oS,Aa,k2,k4]
 refine W.loadA ED ho13.row (by rw[Cb];rfl) fun s14 m14 n14 x14=> ?_
 have hx14:=hx13'.step x14 hbd (fun y hy h=>by have h5:s.next+0≤y:=h.1;have h6:y<s.lim:=hy;omega) fun _ h=>h.elim
 have hoR:A3 s14 s1.next 0 8:=by
  refine A3.ext1 (F:=fun _=>True) (G:=fun y=>s2.next≤y∨In s.next 0 8 y) (Ae.owned o2) ?_ fun y h h'=> ?_
  ·have hb2':=hb2
   have t: ∀{F G:Nat→Prop} {a b:St},Ext (fun _=>True) (fun y=>s2.next≤y∨In s.next 0 8 y) s2 a→Ext F G a b→(∀y,G y→s2.next≤y∨In s.next 0 8 y)→Ext (fun _=>True) (fun y=>s2.next≤y∨In s.next 0 8 y) s2 b:=fun h k hG=>h.trans k hb2' (fun _ _ _=>trivial) fun y _ h=>hG y h
   have b4:=t (t (Ext.refl s2) x3 fun _ h=>h.elim) x4 fun _ h=>h.elim
   have b6:=t (t b4 x5 fun _ h=>h.elim) x6 fun _ h=>h.elim
   have b8:=t (t b6 x7 fun y h=> .inl (by have:=own h;omega)) x8 fun y h=> .inl (by have:=own h;omega)
   have b11:=t b8 x8_11 fun y h=> .inl (by have:=own h;omega)
   have b13:=t (t b11 hx12 fun y h=> .inl (by have:=own h;omega)) hx13 fun y h=> .inr h
   exact t b13 x14 fun _ h=>h.elim
  ·have h5:=h.1
   have h6:y<s1.next+0+8:=h.2
   rcases h' with h'|h'
   ·omega
   ·have:=h'.2
    omega
 refine W.store ED (by rw[BS,Cb];rfl) (by rw[BS];exact EU _) (fun i hi=>hoR i hi) fun s15 n15 x15 o15=> ?_
 rw[BS]at o15
 have hx15:=hx14.step x15 hbd (fun y hy h=>by have h5:=own h;have h6:y<s.lim:=hy;omega) fun y h=>by have h5:=own h;show s.next≤y;omega
 refine W.endC (r:=4) rfl (.inl Li_) (by omega) Vh Abe_ hx15.cx (by simp[k4];rfl) ?_
 refine W.loadA ED o15.row (by rw[Cb];rfl) fun s16 m16 n16 x16=> ?_
 have hx16:=hx15.step x16 hbd (fun y hy h=>by have h5:s1.next+0≤y:=h.1;have h6:y<s.lim:=hy;omega) fun _ h=>h.elim
 exact q _ hx16.cx'
section
variable {s0:St}{Q:Value×FrameMode→St→Prop}
theorem EmB.len {s s':St}{l:List Nat}{v:Value}{b:Nat}(h:EmB s l v b)(Q:Value→St→Prop):W (Az envS .len [22] [v]) s' Q=Q (.int .i64 (l.length:Nat)) s':=by
 obtain⟨c,rfl⟩:=h.at
 exact B5 AE Q
theorem W.app1 {F G:Nat→Prop}{s:St}{l:List Nat}{x:Nat}{v:Value}{b:Nat}{Q:Value→St→Prop}(hbd:s.lim≤s.next)(h:EmB s l v b)(hz:l.length+1≤1000000)(hF:s0.next≤b)(hx:Ext F G s0 s)(hb0:s0.lim≤s0.next)
  (q: ∀s2 v2 b2,s0.next≤b2→EmB s2 (l++[x]) v2 b2→Ext F G s0 s2→Q v2 s2):W (BZ envS 22 1 [(0, .int .u8 (x:Nat))]) s (fun a s1=>W (Az envS .append [22,22] [v,a]) s1 Q):=by
 refine W.buildS hbd (r:=u8l [x]) CU (by decide) rfl (Bh (by decide)) fun s1 n1 x1 r1=> ?_
 have hb1:s1.lim≤s1.next:=x1.bnd hbd
 have hB:Bs s1 (.slice (some ⟨s.next,0,none⟩) 1 1) [x]:=Ae.bn r1 (Bh (by simp))
 refine W.appBy hb1 (h.ext0 x1) hB (by simpa using hz) fun s2 v2 b2 hb2 h2 x2=> ?_
 have hN:s0.next≤s.next:=hx.nxt
 refine q s2 v2 b2 ?_ h2 ?_
 ·have:=x1.nxt
  rcases hb2 with rfl|hb2<;>omega
 ·refine(hx.trans x1 hb0 (fun _ _ h=>h.elim) fun _ _ h=>h.elim).trans x2 hb0 (fun y hy h=> ?_) fun y hy h=> ?_
  ·rcases h with h|h
   ·have:s.next+0≤y:=h.1
    omega
   ·have:b+0≤y:=h.2.1
    omega
  ·have:b+0≤y:=h.2.1
   omega
theorem Va_ {v:Value}{F:Nat→Prop}{b:List Nat}(hb0:s0.lim≤s0.next)(hz:b.length≤900000): ∀(k j n:Nat) (tm:T Value) (s:St) (td:List Item) (w:Value) (nb:Nat),j+k=(119-b.length%64)%64→8*k+30≤n→skim 64 td=Iv→Ext F Non s0 s→s0.next≤nb→EmB s (b++(128::List.replicate j 0)) w nb→
  T.get tm 0=some v→T.get tm 3=some w→
  (∀n' tm' s1 td' w nb,n≤n'+8*k+10→skim 64 td'=Ol→Ext F Non s0 s1→s0.next≤nb→EmB s1 (b++(128::List.replicate ((119-b.length%64)%64) 0)) w nb→T.get tm' 0=some v→T.get tm' 3=some w→W (runF envS n' ⟨131,ID,CX,tm',td', .run, .normal,none⟩) s1 Q)→
  W (runF envS n ⟨131,ID,CX,tm,td, .run, .normal,none⟩) s Q:=by
 intro k
 induction k with
 |zero=>
  intro j n tm s td w nb hj hn hT hx hnb he h0 h3 q
  have hl:(b++(128::List.replicate j 0)).length=b.length+1+j:=by rw[List.length_append,List.length_cons,List.length_replicate];omega
  refine X9.w hT (by omega) ?_
  simp only[Lj,Ad,W_oS,Aa,W_mv,Ac,Ah,Ag,Af,h3]
  rw[he.len,hl]
  simp only[Dj,Jp]
  refine W.cond (v:=false) rfl Bd_ (by simp[T.get_set];omega) (by omega) (fun h=>by cases h) fun _=> ?_
  rw[show j=(119-b.length%64)%64 by omega]at he
  exact q _ _ _ _ w nb (by omega) rfl hx hnb he (by simp[T.get_set,h0]) (by simp[T.get_set,h3])
 |succ k ih=>
  intro j n tm s td w nb hj hn hT hx hnb he h0 h3 q
  have hl:(b++(128::List.replicate j 0)).length=b.length+1+j:=by rw[List.length_append,List.length_cons,List.length_replicate];omega
  refine X9.w hT (by omega) ?_
  simp only[Lj,Ad,W_oS,Aa,W_mv,Ac,Ah,Ag,Af,h3]
  rw[he.len,hl]
  simp only[Dj,Jp]
  refine W.cond (v:=true) rfl Bd_ (by simp[T.get_set];omega) (by omega) (fun _=> ?_) fun h=>by cases h
  refine KD_.w rfl (by omega) ?_
  simp only[R8,Ad,W_oS,Aa,W_mv,Ac,T.get_set,Ah,Ag,A8,A2,Af,reduceIte,Nat.reduceEqDiff, ↓reduceIte,h3]
  refine W.app1 (x:=0) (hx.bnd hb0) he (by rw[hl];omega) hnb hx hb0 fun s2 w2 b2 hb2 h2 x2=> ?_
  have e:b++(128::List.replicate j 0)++[0]=b++(128::List.replicate (j+1) 0):=by
   rw[List.append_assoc,List.cons_append,←List.replicate_succ']
  rw[e]at h2
  exact ih (j+1) _ _ _ _ w2 b2 (by omega) (by omega) RS_ x2 hb2 h2 (by simp[T.get_set,h0]) (by simp[T.get_set]) fun n' tm' s3 td' w nb e=>q n' tm' s3 td' w nb (by omega)
theorem Rm_ {F:Nat→Prop}{N:Nat}(hb0:s0.lim≤s0.next)(hN:N≤100000000): ∀(k n:Nat) (tm:T Value) (s:St) (td:List Item) (w:Value) (nb:Nat) (l:List Nat),k≤8→10*k+30≤n→skim 64 td=K2→Ext F Non s0 s→s0.next≤nb→EmB s l w nb→l.length+k≤1000000→
  T.get tm 3=some w→T.get tm 4=some (.int .i64 (N:Nat))→T.get tm 5=some (.int .i64 ((k:Nat)-1:Int))→
  (∀n' tm' s1 td' w nb,n≤n'+10*k+10→skim 64 td'=Qr→Ext F Non s0 s1→s0.next≤nb→EmB s1 (l++tl8 N k) w nb→T.get tm' 3=some w→W (runF envS n' ⟨131,ID,CX,tm',td', .run, .normal,none⟩) s1 Q)→
  W (runF envS n ⟨131,ID,CX,tm,td, .run, .normal,none⟩) s Q:=by
 intro k
 induction k with
 |zero=>
  intro n tm s td w nb l hk hn hT hx hnb he hl h3 h4 h5 q
  refine Y4.w hT (by omega) ?_
  simp only[M4,Ad,W_oS,Aa,W_mv,Ac,Hr,h5]
  refine W.cond (v:=false) rfl Bn_ (by simp[T.get_set]) (by omega) (fun h=>by cases h) fun _=> ?_
  refine q _ _ _ _ w nb (by omega) rfl hx hnb ?_ (by simp[T.get_set,h3])
  rw[show tl8 N 0=[]from rfl,List.append_nil]
  exact he
 |succ k ih=>
  intro n tm s td w nb l hk hn hT hx hnb he hl h3 h4 h5 q
  have ec:(((k+1:Nat):Int)-1)=((k:Nat):Int):=by omega
  rw[ec]at h5
  refine Y4.w hT (by omega) ?_
  simp only[M4,Ad,W_oS,Aa,W_mv,Ac,Hr,h5]
  refine W.cond (v:=true) rfl Bn_ (by simp[T.get_set]) (by omega) (fun _=> ?_) fun h=>by cases h
  refine Sr_.w rfl (by omega) ?_
  simp only[S3,Ad,W_oS,Aa,W_mv,Ac,T.get_set,Ah,Ag,A8,A2,Af,reduceIte,Nat.reduceEqDiff, ↓reduceIte,h3,h4,h5,Jr (show 8*k≤9223372036854775807 by omega),Fh (k:= .i64) (kk:= .i64) (n:=8*k) (show 8*k≤btOf .i64 by show 8*k≤64;omega),CO KI DP,wrap_u8]
  refine W.app1 (x:=N>>>(8*k)%256) (hx.bnd hb0) he (by omega) hnb hx hb0 fun s2 w2 b2 hb2 h2 x2=> ?_
  refine WX_.w rfl (by omega) ?_
  have ei:wrap64 ((k:Nat)-1:Int)=((k:Nat)-1:Int):=AP (by omega) (by omega)
  simp only[Ze,Ad,W_oS,Aa,W_mv,Ac,T.get_set,reduceIte,Nat.reduceEqDiff, ↓reduceIte,Cm,h5,ei]
  refine ih _ _ _ _ w2 b2 (l++[N>>>(8*k)%256]) (by omega) (by omega) Xb_ x2 hb2 h2 (by rw[List.length_append,List.length_singleton];omega) (by simp[T.get_set]) (by simp[T.get_set,h4]) (by simp[T.get_set]) fun n' tm' s3 td' w nb e h1 h2 h3 h4 h5=>q n' tm' s3 td' w nb (by omega) h1 h2 h3 ?_ h5
  rw[List.append_assoc]at h4
  exact h4
end
theorem Sc_ {n:Nat}{s:St}{v:Value}{l:List Nat}{Q:Value→St→Prop}(hbd:s.lim≤s.next)(hn:800≤n)(h:Bs s v l)(hz:l.length≤900000)
  (q: ∀s1 w b,s.next≤b→Ext (BsF v) Non s s1→EmB s1 (Dz l) w b→Q w s1):W (Ai envS (runF envS n) 131 [v]) s Q:=by
 refine AbL_ fun tm h0=> ?_
 have hc:Bs (s.cxN cxN) v l:=h.same rfl rfl
 refine TJ_.w rfl (by omega) ?_
 simp only[SQ,Aa,W_mv,Ac]
 refine TE_.w rfl (by omega) ?_
 simp only[CJ_,Ad,W_oS,Aa,W_mv,Ac,T.get_set,Ah,Ag,A2,Af,reduceIte,reduceCtorEq, ↓reduceIte,h0]
 refine W.buildS (s:=s.cxN cxN) hbd (r:=[]) CU (by decide) rfl (Bh (by decide)) fun s2 n2 x2 r2=> ?_
 have hb2:s2.lim≤s2.next:=x2.bnd hbd
 refine W.appBy hb2 EmB.nil (hc.ext0 x2) (by show 0+_≤_;omega) fun s3 w3 b3 hb3 h3 x3=> ?_
 have hnm: ∀y,¬MkF 1 ([]:List Nat).length (s.cxN cxN).next y:=fun y hy=>absurd hy.1 (by simp)
 have x3':Ext (BsF v) Non s2 s3:=x3.weak hb2 (fun y _ hy=>hy.elim id fun hy=>(hnm y hy).elim) fun y _ hy=>hnm y hy
 have hx3:Ext (BsF v) Non (s.cxN cxN) s3:=(x2.weak hbd (fun _ _ h=>h.elim) fun _ _ h=>h).step x3' hbd (fun _ _ h=>h) fun _ h=>h.elim
 have hs3:(s.cxN cxN).next≤b3:=by
  have:s.next≤s2.next:=x2.nxt
  show s.next≤b3
  rcases hb3 with rfl|hb3
  ·exact Nat.le_refl _
  ·omega
 rw[List.nil_append]at h3
 refine Acg_.w rfl (by omega) ?_
 simp only[Bp_,Ad,W_oS,Aa,W_mv,Ac,T.get_set,Ah,Ag,A8,A2,Af,reduceIte, ↓reduceIte]
 refine W.app1 (x:=128) (s0:=s.cxN cxN) (hx3.bnd hbd) h3 (by omega) hs3 hx3 hbd fun s4 w4 b4 hb4 h4 x4=> ?_
 refine Va_ (v:=v) (F:=BsF v) (b:=l) (s0:=s.cxN cxN) hbd hz ((119-l.length%64)%64) 0 _ _ _ _ w4 b4 (by omega) (by omega) rfl x4 hb4 h4 (by simp[T.get_set,h0]) (by simp[T.get_set]) fun n5 tm5 s5 td5 w5 b5 hn5 hT5 hx5 hb5 h5 g0 g3=> ?_
 refine WE_.w hT5 (by omega) ?_
 simp only[BD_,Ad,W_oS,Aa,W_mv,Ac,Ah,Ag,Af,g0]
 rw[(hc.ext0 hx5).len AE]
 simp only[Jr (show 8*l.length≤9223372036854775807 by omega)]
 refine XB_.w rfl (by omega) ?_
 simp only[UC,Aa,W_mv,Ac]
 refine Rm_ (F:=BsF v) (N:=8*l.length) (s0:=s.cxN cxN) hbd (by omega) 8 _ _ _ _ w5 b5 (l++(128::List.replicate ((119-l.length%64)%64) 0)) (by omega) (by omega) rfl hx5 hb5 h5 (by rw[List.length_append,List.length_cons,List.length_replicate];omega) (by simp[T.get_set,g3]) (by simp[T.get_set]) (by simp[T.get_set]) fun n6 tm6 s6 td6 w6 b6 hn6 hT6 hx6 hb6 h6 k3=> ?_
 refine AbT_.w hT6 (by omega) ?_
 simp only[Zv,Aa,W_mv,Ac,k3]
 refine W.end' (rs:=[2]) (vs:=[w6]) rfl (.inl Tf_) (by omega) Zx Nz_ hx6.cx (by simp[T.get_set]) ?_
 refine q _ _ b6 hb6 hx6.cx' ?_
 have:=h6.same (s':=s6.cxN s.cx) rfl rfl
 rw[List.append_assoc]at this
 exact this
theorem SY_:Df envS 161 [(0, .int .u32 1779033703),(1, .int .u32 3144134277),(2, .int .u32 1013904242),(3, .int .u32 2773480762),(4, .int .u32 1359893119),(5, .int .u32 2600822924),(6, .int .u32 528734635),(7, .int .u32 1541459225)]=some (w32 (st8L Dq)):=by kernel_rfl
theorem JY_ {x:List Nat}(h:Byt x)(q:Nat):Byt (blk x q):=fun y hy=>h y (List.mem_of_mem_take (List.mem_of_mem_drop hy))
theorem Zi_ {x:List Nat}{q:Nat}(h:64*q+64≤x.length):(blk x q).length=64:=by
 unfold blk
 rw[List.length_drop,List.length_take]
 omega
theorem Hg_ (n d:Nat):bndV (some (.int .i64 (n:Nat))) d=some n:=rfl
section
variable {S R:Nat}{w:Value}{X:List Nat}{N:Nat}{Q:Value×FrameMode→St→Prop}{s0:St}
theorem TC_ (hb0:s0.lim≤s0.next)(hSl:s0.lim≤S)(hw:Bn s0 w X)(hwn: ∀x,BsF w x→x<s0.next∧ ¬In S 0 8 x)(hX:X.length=64*N)(hz:X.length≤1000000)(hby:Byt X): ∀(k i n:Nat) (tm:T Value) (s:St) (td:List Item),i+k=N→6*k+2000≤n→skim 64 td=KW→Ext (BsF w) (In S 0 8) s0 s→Ae s S 0 (w32 (st8L (C9 X i)))→
  T.get tm 2=some (.pointer (some ⟨R,0,none⟩))→T.get tm 3=some (.pointer (some ⟨S,0,none⟩))→T.get tm 4=some w→T.get tm 5=some (.int .i64 (64*i:Nat))→
  (∀n' tm' s1 td',n≤n'+6*k+10→skim 64 td'=LZ→Ext (BsF w) (In S 0 8) s0 s1→Ae s1 S 0 (w32 (st8L (C9 X N)))→T.get tm' 2=some (.pointer (some ⟨R,0,none⟩))→T.get tm' 3=some (.pointer (some ⟨S,0,none⟩))→W (runF envS n' ⟨107,JT,Cy,tm',td', .run, .normal,none⟩) s1 Q)→
  W (runF envS n ⟨107,JT,Cy,tm,td, .run, .normal,none⟩) s Q:=by
 intro k
 induction k with
 |zero=>
  intro i n tm s td hi hn hT hx ho h2 h3 h4 h5 q
  refine RW.w hT (by omega) ?_
  simp only[Oi,Ad,W_oS,Aa,W_mv,Ac,Ah,Ag,Af,h4,h5]
  obtain⟨b,o,cc,hwe,_⟩:=hw
  rw[hwe,B5 AE]
  simp only[Be]
  refine W.cond (v:=false) rfl Ac_ (by simp[T.get_set];omega) (by omega) (fun h=>by cases h) fun _=> ?_
  obtain rfl:i=N:=by omega
  exact q _ _ _ _ (by omega) rfl hx ho (by simp[T.get_set,h2]) (by simp[T.get_set,h3])
 |succ k ih=>
  intro i n tm s td hi hn hT hx ho h2 h3 h4 h5 q
  have hb:s.lim≤s.next:=hx.bnd hb0
  have hN:=hx.nxt
  refine RW.w hT (by omega) ?_
  simp only[Oi,Ad,W_oS,Aa,W_mv,Ac,Ah,Ag,Af,h4,h5]
  have hlen: ∀Q:Value→St→Prop,W (Az envS .len [22] [w]) s Q=Q (.int .i64 (X.length:Nat)) s:=fun Q=>by
   obtain⟨b,o,cc,hwe,_⟩:=hw
   rw[hwe,B5 AE]
  rw[hlen]
  simp only[Be]
  refine W.cond (v:=true) rfl Ac_ (by simp[T.get_set];omega) (by omega) (fun _=> ?_) fun h=>by cases h
  have hws:Bn s w X:=hw.ext hx fun x hxx=>(hwn x hxx).2
  have w64:wrap64 (((64*i:Nat):Int)+64)=((64*i+64:Nat):Int):=by rw[AP (by omega) (by omega)];simp
  refine Un_.w rfl (by omega) ?_
  simp only[XQ,T.get_set,Nat.reduceEqDiff, ↓reduceIte,h3,h4,h5,BG]
  refine W.dloadA ED (fun j v e=>((ho j v e).same (s':=dSt s.mem s.next) rfl rfl).at') (by rw[Cb];rfl) fun mem1 rd1 hm1 hr1=> ?_
  subst hm1
  simp only[Ck,Af,Ap,JN,w64]
  refine W.dop0 (W.cut (hws.same (s':=oSt s.mem s.next) rfl rfl) AE (i:=64*i) (j:=64*i+64) (Hg_ _ _) (Hg_ _ _) (by omega) (by omega) fun w2 hw2 hF2=>⟨rfl, ?_⟩)
  simp only[Ck,Ah,Ag,Af]
  have hk:64*i+64≤X.length:=by omega
  refine W.dop ?_
  rw[Ar]
  refine VF_ (l:=blk X i) (st:=C9 X i) (Nat.le_refl _) (by omega) hw2 (fun x hxx=>Nat.lt_of_lt_of_le (hwn x (hF2 x hxx)).1 hN) (Zi_ hk) (JY_ hby i) (Jy_ X i) fun s2 x2=>⟨BsF w2,x2,fun rd2 hr2=> ?_⟩
  have hn2:s.next≤s2.next:=x2.nxt
  rw[Aa]
  refine⟨EJ ?_, ?_⟩
  ·simp only[List.reverse_cons,List.reverse_nil,List.nil_append,List.cons_append,allP,Dm,List.take,D9]
   have f1: ∀x,x∈rd1→ ¬s.next≤x:=fun x hx=>Nat.not_le_of_lt (by
    have h1:=hr1 x hx
    have h2:=(ho 7 _ rfl).1
    have h3:x<S+0+8:=h1.2
    omega)
   have f2: ∀x,x∈rd2→ ¬s.next≤x:=fun x hx=>Nat.not_le_of_lt (hr2 x hx).1
   simp+contextual [f2]
  refine W.cast (On_ ..) ?_
  simp only[Ad,W_oS,Aa,T.get_set,reduceIte,Nat.reduceEqDiff, ↓reduceIte,h3]
  generalize hs3:(⟨(dSt s2.mem s2.next).mem,(dSt s2.mem s2.next).next,s.lim,_,_,s.cx⟩:St)=s3
  have m3:s3.mem=s2.mem:=by rw[←hs3];rfl
  have n3:s3.next=s2.next:=by rw[←hs3];rfl
  have x3:Ext (fun y=>BsF w y∨In S 0 8 y) Non s s3:=by
   rw[←hs3]
   refine Ext.draw (F:=fun y=>BsF w y∨In S 0 8 y) hn2 (fun y hy=>x2.mem y hy id) (by simp) ?_
   simp only[List.mem_cons,List.not_mem_nil,or_false]
   rintro m (rfl|rfl|rfl|rfl|rfl|rfl|rfl) x hx _<;>first|exact .inr (hr1 _ hx)|exact .inl (hF2 _ (hr2 _ hx).2)|cases hx
  have hx3:Ext (BsF w) (In S 0 8) s0 s3:=hx.trans x3 hb0 (fun y hy h=>by
   rcases h with h|h
   ·exact h
   ·have:=h.1
    omega) fun _ _ h=>h.elim
  have ho3:Ae s3 S 0 (w32 (st8L (C9 X i))):=ho.ext0 x3
  refine W.store ED (by rw[BS,Cb];rfl) (by rw[BS];exact EU _) (fun i hi=>Ae.owned ho3 i hi) fun s4 n4 x4 o4=> ?_
  rw[BS]at o4
  have hx4:Ext (BsF w) (In S 0 8) s0 s4:=hx3.trans x4 hb0 (fun y hy h=>by have:=h.1;omega) fun _ _ h=>h
  refine Ie_.w rfl (by omega) ?_
  simp only[XI,Ad,W_oS,Aa,W_mv,Ac,T.get_set,reduceIte,Nat.reduceEqDiff, ↓reduceIte,By,h5,w64]
  exact ih (i+1) _ _ _ _ (by omega) (by omega) Zp_ hx4 o4 (by simp[T.get_set,h2]) (by simp[T.get_set,h3]) (by simp[T.get_set,h4]) (by simp[T.get_set];omega) fun n' tm' s5 td' e=>q n' tm' s5 td' (by omega)
end
def B7 (n:Nat)(g:Nat→Nat)(i:Nat):List Nat:=(List.range n).map fun j=>if j<i then g j else 0
theorem KT (n:Nat)(g:Nat→Nat)(i:Nat):(B7 n g i).length=n:=by unfold B7;rw[List.length_map,List.length_range]
theorem LT (n:Nat)(g:Nat→Nat):B7 n g 0=List.replicate n 0:=by
 unfold B7
 apply List.ext_getElem?
 intro j
 rw[List.getElem?_map,List.getElem?_replicate]
 by_cases hj:j<n
 ·rw[List.getElem?_range hj,if_pos hj]
  rfl
 ·rw[List.getElem?_eq_none (by simp;omega),if_neg hj]
  rfl
theorem NR (n:Nat)(g:Nat→Nat):B7 n g n=(List.range n).map g:=by
 unfold B7
 apply List.map_congr_left
 intro j hj
 rw[if_pos (List.mem_range.1 hj)]
theorem PI (n:Nat)(g:Nat→Nat){i:Nat}(hi:i<n):(B7 n g i).set i (g i)=B7 n g (i+1):=by
 apply List.ext_getElem?
 intro j
 rw[List.getElem?_set,KT]
 unfold B7
 rw[List.getElem?_map,List.getElem?_map]
 by_cases hij:i=j
 ·subst hij
  rw[if_pos rfl,if_pos hi,List.getElem?_range hi]
  show _=some (if i<i+1 then g i else 0)
  rw[if_pos (by omega)]
 ·rw[if_neg hij]
  by_cases hj:j<n
  ·rw[List.getElem?_range hj]
   show some (if j<i then g j else 0)=some (if j<i+1 then g j else 0)
   by_cases h:j<i
   ·rw[if_pos h,if_pos (by omega)]
   ·rw[if_neg h,if_neg (by omega)]
  ·rw[List.getElem?_eq_none (by simp;omega)]
   rfl
theorem Pz (l:List Nat)(i x:Nat):(u8l l).set i (.int .u8 (x:Nat))=u8l (l.set i x):=by
 unfold u8l
 rw[List.map_set]
theorem IU {l:List Nat}{i:Nat}(h:i<l.length):(u8l l)[i]?=some (.int .u8 (l.getD i 0:Nat)):=by
 unfold u8l
 rw[List.getElem?_map,List.getElem?_eq_getElem h,List.getD_eq_getElem?_getD,List.getElem?_eq_getElem h]
 rfl
theorem Er (l:List Nat):cellsOf (.agg (u8l l).toArray)=u8l l:=by
 show(u8l l).toArray.toList=_
 exact List.toList_toArray ..
def outG (r:Sha.St8)(j:Nat):Nat:=(st8L r).getD (j/4) 0>>>(24-8*(j%4))%256
theorem WY_ (r:Sha.St8):(List.range 32).map (outG r)=outs (st8L r):=rfl
section
variable {E:Env}{t:Nat}{xo yo:Operand}{s:St}
theorem Kb_ {m:Nat}(hm:m≤9223372036854775807)(Q:Value→St→Prop):W (Cl.get (aBin E .quo t xo yo) (.int .i64 (m:Nat)) (.int .i64 4)) s Q=Q (.int .i64 (m/4:Nat)) s:=XN (n:=4) (by decide) hm Q
theorem MJ_ {m:Nat}(Q:Value→St→Prop):W (Cl.get (aBin E .rem t xo yo) (.int .i64 (m:Nat)) (.int .i64 4)) s Q=Q (.int .i64 (m%4:Nat)) s:=I9 (n:=4) (by decide) Q
end
section
variable {S R O:Nat}{r:Sha.St8}{Q:Value×FrameMode→St→Prop}{s0:St}
theorem MF_ (hb0:s0.lim≤s0.next)(hSl:s0.lim≤S)(hOl:s0.lim≤O)(hSO:S+8≤O)(hs:Ae s0 S 0 (w32 (st8L r))): ∀(k i n:Nat) (tm:T Value) (s:St) (td:List Item),i+k=32→6*k+30≤n→skim 64 td=K6→Ext Non (In O 0 32) s0 s→Ae s O 0 (u8l (B7 32 (outG r) i))→
  T.get tm 2=some (.pointer (some ⟨R,0,none⟩))→T.get tm 3=some (.pointer (some ⟨S,0,none⟩))→T.get tm 6=some (.pointer (some ⟨O,0,none⟩))→T.get tm 7=some (.int .i64 (i:Nat))→
  (∀n' tm' s1 td',n≤n'+6*k+10→skim 64 td'=Ly→Ext Non (In O 0 32) s0 s1→Ae s1 O 0 (u8l (outs (st8L r)))→T.get tm' 2=some (.pointer (some ⟨R,0,none⟩))→T.get tm' 6=some (.pointer (some ⟨O,0,none⟩))→W (runF envS n' ⟨107,JT,Cy,tm',td', .run, .normal,none⟩) s1 Q)→
  W (runF envS n ⟨107,JT,Cy,tm,td, .run, .normal,none⟩) s Q:=by
 intro k
 induction k with
 |zero=>
  intro i n tm s td hi hn hT hx ho h2 h3 h6 h7 q
  refine AO_.w hT (by omega) ?_
  simp only[O9,Ad,W_oS,Aa,W_mv,Ac,Be,h7]
  refine W.cond (v:=false) rfl UQ (by simp[T.get_set];omega) (by omega) (fun h=>by cases h) fun _=> ?_
  obtain rfl:i=32:=by omega
  rw[NR,WY_]at ho
  exact q _ _ _ _ (by omega) rfl hx ho (by simp[T.get_set,h2]) (by simp[T.get_set,h6])
 |succ k ih=>
  intro i n tm s td hi hn hT hx ho h2 h3 h6 h7 q
  have hi32:i<32:=by omega
  have hb:s.lim≤s.next:=hx.bnd hb0
  refine AO_.w hT (by omega) ?_
  simp only[O9,Ad,W_oS,Aa,W_mv,Ac,Be,h7]
  refine W.cond (v:=true) rfl UQ (by simp[T.get_set];omega) (by omega) (fun _=> ?_) fun h=>by cases h
  refine AbK_.w rfl (by omega) ?_
  have e24:wrap64 ((24:Int)-((8*(i%4):Nat):Int))=((24-8*(i%4):Nat):Int):=by rw[AP (by omega) (by omega)];omega
  have gs:At s S (0+i/4*1) (.int .u32 ((st8L r).getD (i/4) 0:Nat)):=by
   have h1:=hs (i/4) _ (D0 (show i/4<(st8L r).length by rw[Im];omega))
   rw[Nat.mul_one]
   exact h1.at'.ext hx fun h=>by have h3:=h.1;omega
  simp only[Bs_,Ad,W_oS,Aa,W_mv,T.get_set,reduceIte,Nat.reduceEqDiff, ↓reduceIte,h3,h6,h7,Kb_ (show i≤9223372036854775807 by omega),MJ_,Jr (show 8*(i%4)≤9223372036854775807 by omega),Cm,e24,Dt (i:=((i/4:Nat):Int)) (k:=i/4) rfl B1 (show i/4<8 by omega)]
  refine W.load1 BD gs ?_
  simp only[Fh (k:= .u32) (kk:= .i64) (n:=24-8*(i%4)) (show 24-8*(i%4)≤btOf .u32 by show 24-8*(i%4)≤32;omega),CO Gg DP,wrap_u8,Dt (i:=((i:Nat):Int)) (k:=i) rfl Kq hi32]
  have x1:Ext Non Non s (s.rdN (S+(0+i/4*1))):=Ext.rdN s _ fun h=>by
   have:s.lim=s0.lim:=hx.lim
   omega
  generalize s.rdN (S+(0+i/4*1))=s1 at *
  have hx1:Ext Non (In O 0 32) s0 s1:=hx.trans x1 hb0 (fun _ _ h=>h) fun _ _ h=>h.elim
  have ho1:Ae s1 O 0 (u8l (B7 32 (outG r) i)):=ho.ext0 x1
  have hown:=ho1 i _ (IU (show i<(B7 32 (outG r) i).length by rw[KT];exact hi32))
  refine W.store1 (o:=0+i*1) CG rfl (by rw[Nat.mul_one];exact hown) fun s2 n2 x2 o2=> ?_
  rw[Nat.mul_one]at x2 o2
  have ho2:Ae s2 O 0 (u8l (B7 32 (outG r) (i+1))):=by
   rw[←PI 32 (outG r) hi32,←Pz]
   exact ho1.set x2 o2
  have hx2:Ext Non (In O 0 32) s0 s2:=hx1.trans x2 hb0 (fun y hy h=>by have h1:O+(0+i)≤y:=h.1;omega) fun y _ h=>by
   have h1:O+(0+i)≤y:=h.1
   have h2:y<O+(0+i)+1:=h.2
   exact⟨by omega,by omega⟩
  refine ZD_.w rfl (by omega) ?_
  have ei:wrap64 ((i:Nat)+1:Int)=((i+1:Nat):Int):=by
   rw[AP (by omega) (by omega)];simp
  simp only[Vx,Ad,W_oS,Aa,W_mv,Ac,T.get_set,reduceIte,Nat.reduceEqDiff, ↓reduceIte,By,h7,ei]
  exact ih (i+1) _ _ _ _ (by omega) (by omega) JR_ hx2 ho2 (by simp[T.get_set,h2]) (by simp[T.get_set,h3]) (by simp[T.get_set,h6]) (by simp[T.get_set]) fun n' tm' s5 td' e=>q n' tm' s5 td' (by omega)
end
theorem RE_ {n:Nat}{s:St}{v:Value}{l:List Nat}{Q:Value→St→Prop}(hbd:s.lim≤s.next)(hn:l.length+3000≤n)(h:Bs s v l)(hby:Byt l)(hz:l.length≤900000)
  (q: ∀s1,Ext (BsF v) Non s s1→Q (.agg (u8l (sumB l)).toArray) s1):W (Ai envS (runF envS n) 107 [v]) s Q:=by
 refine Rw_ fun tm h0=> ?_
 have hc:Bs (s.cxN cxN) v l:=h.same rfl rfl
 have own: ∀{a b:Nat} {y:Nat},In a 0 b y→a≤y:=fun h=>by have:=h.1;omega
 refine Wq_.w rfl (by omega) ?_
 simp only[Dt_,Ad,Aa,Ac]
 refine W.alloc Fq fun s1 n1 x1 o1=> ?_
 have n1':s1.next=s.next+33:=n1
 have hx1:Ext (BsF v) Non (s.cxN cxN) s1:=x1.weak hbd (fun _ _ h=>h.elim) fun _ _ h=>h
 refine NQ_.w rfl (by omega) ?_
 simp only[UR,Ad,W_oS,Aa,Ac,A8,A2,Af,D6 SY_]
 refine W.alloc Mz fun s2 n2 x2 o2=> ?_
 have n2':s2.next=s1.next+9:=n2
 have hx2:=hx1.step x2 hbd (fun _ _ h=>h.elim) fun _ h=>h.elim
 refine W.store ED (by rw[BS,Cb];rfl) (by rw[BS];exact EU _) (fun i hi=>Ae.owned o2 i hi) fun s3 n3 x3 o3=> ?_
 rw[BS]at o3
 have hx3:=hx2.step x3 hbd (fun y hy h=>by have h5:=own h;have h6:y<s.lim:=hy;omega) fun y h=>by have h5:=own h;show s.next≤y;omega
 have hb3:s3.lim≤s3.next:=hx3.bnd hbd
 refine AbP_.w rfl (by omega) ?_
 simp only[FM_,Ad,W_on,Aa,W_mv,Ac,T.get_set,Ah,Ag,Af,Ar,reduceIte,reduceCtorEq, ↓reduceIte,h0]
 refine Sc_ hb3 (by omega) (hc.ext0 hx3) hz fun s4 w nb hnb x4 h4=> ?_
 have hx4:=hx3.step x4 hbd (fun _ _ h=>h) fun _ h=>h.elim
 have hb4:s4.lim≤s4.next:=hx4.bnd hbd
 have hfl:(Dz l).length=64*((l.length+72)/64):=Xc l
 have hfz:(Dz l).length≤1000000:=by omega
 have hBn:Bn s4 w (Dz l):=h4.bn hfz
 have hwF: ∀x,BsF w x→nb≤x:=fun x hx=>by
  obtain⟨c,rfl⟩:=h4.at
  have:nb+0≤x:=hx.1
  omega
 have hwlt: ∀x,BsF w x→x<s4.next:=fun x hx=>hBn.lt x hx
 refine MM_.w rfl (by omega) ?_
 simp only[Vc,Aa,W_mv,Ac]
 refine TC_ (S:=s1.next) (R:=s.next) (w:=w) (X:=Dz l) (N:=(l.length+72)/64) (s0:=s4) hb4 (by rw[hx4.lim];show s.lim≤_;omega) hBn (fun x hx=>⟨hwlt x hx,fun h=>by
  have h5:=hwF x hx
  have h6:x<s1.next+0+8:=h.2
  omega⟩) hfl hfz (Vo_ hby) ((l.length+72)/64) 0 _ _ _ _ (by omega) (by omega) rfl (Ext.refl _) (o3.ext0 x4) (by simp[T.get_set];rfl) (by simp[T.get_set]) (by simp[T.get_set]) (by simp[T.get_set]) fun n5 tm5 s5 td5 hn5 hT5 hx5 ho5 g2 g3=> ?_
 have hx5':=hx4.step hx5 hbd (fun y hy h=>by
  have h5:=hwF y h
  have h6:y<s.lim:=hy
  omega) fun y h=>by have h5:=own h;show s.next≤y;omega
 refine IY_.w hT5 (by omega) ?_
 simp only[Q3,Ad,Aa,Ac]
 refine W.alloc Fq fun s6 n6 x6 o6=> ?_
 have n6':s6.next=s5.next+33:=n6
 have hx6:=hx5'.step x6 hbd (fun _ _ h=>h.elim) fun _ h=>h.elim
 have hN5:s3.next≤s5.next:=Nat.le_trans x4.nxt hx5.nxt
 have e0:Ae s6 s5.next 0 (u8l (B7 32 (outG (C9 (Dz l) ((l.length+72)/64))) 0)):=by
  rw[LT]
  exact o6
 refine Ia_.w rfl (by omega) ?_
 simp only[Tb,Aa,W_mv,Ac]
 refine MF_ (S:=s1.next) (R:=s.next) (O:=s5.next) (r:=C9 (Dz l) ((l.length+72)/64)) (s0:=s6) (hx6.bnd hbd) (by rw[hx6.lim];show s.lim≤_;omega) (by rw[hx6.lim];show s.lim≤_;omega) (by omega) (ho5.ext0 x6) 32 0 _ _ _ _ (by omega) (by omega) rfl (Ext.refl _) e0 (by simp[T.get_set,g2]) (by simp[T.get_set,g3]) (by simp[T.get_set]) (by simp[T.get_set]) fun n7 tm7 s7 td7 hn7 hT7 hx7 ho7 k2 k6=> ?_
 rw[←QH_]at ho7
 have hx7':=hx6.step hx7 hbd (fun _ _ h=>h.elim) fun y h=>by have h5:=own h;show s.next≤y;omega
 have hoR:A3 s7 s.next 0 32:=by
  have t: ∀{F G:Nat→Prop} {a b:St},Ext (fun _=>True) (fun y=>s1.next≤y) s1 a→Ext F G a b→(∀y,G y→s1.next≤y)→Ext (fun _=>True) (fun y=>s1.next≤y) s1 b:=fun h k hG=>h.trans k (x1.bnd hbd) (fun _ _ _=>trivial) fun y _ h=>hG y h
  have b4:=t (t (t (Ext.refl s1) x2 fun _ h=>h.elim) x3 fun y h=>own h) x4 fun _ h=>h.elim
  have b7:=t (t (t b4 hx5 fun y h=>own h) x6 fun _ h=>h.elim) hx7 fun y h=>by have:=own h;omega
  exact A3.ext1 (Ae.owned o1) b7 fun y h h'=>by
   have h6:y<s.next+0+32:=h.2
   omega
 refine Wi_.w hT7 (by omega) ?_
 simp only[Tt,Ad,W_oS,Aa,k2,k6]
 refine W.loadA Eb ho7.row (by rw[A6,FQ]) fun s8 m8 n8 x8=> ?_
 have hx8:=hx7'.step x8 hbd (fun y hy h=>by have h5:s5.next+0≤y:=h.1;have h6:y<s.lim:=hy;omega) fun _ h=>h.elim
 refine W.store Eb (by rw[Er,A6,FQ]) (by rw[Er];exact BT _) (fun i hi=>let ⟨u,hu⟩:=hoR i hi;⟨u,hu.ext x8 id⟩) fun s9 n9 x9 o9=> ?_
 rw[Er]at o9
 have hx9:=hx8.step x9 hbd (fun y hy h=>by have h5:=own h;have h6:y<s.lim:=hy;omega) fun y h=>by have h5:=own h;show s.next≤y;omega
 refine W.endC (r:=2) rfl (.inl PE_) (by omega) QF VH_ hx9.cx (by simp[k2];rfl) ?_
 refine W.loadA Eb o9.row (by rw[A6,FQ]) fun s10 m10 n10 x10=> ?_
 have hx10:=hx9.step x10 hbd (fun y hy h=>by have h5:s.next+0≤y:=h.1;have h6:y<s.lim:=hy;omega) fun _ h=>h.elim
 exact q _ hx10.cx'
section
variable {S R O:Nat}{l:List Nat}{Q:Value×FrameMode→St→Prop}{s0:St}
theorem Xa_ (hb0:s0.lim≤s0.next)(hSl:s0.lim≤S)(hOl:s0.lim≤O)(hSO:O+16≤S)(hl:l.length=32)(hs:Ae s0 S 0 (u8l l)): ∀(k i n:Nat) (tm:T Value) (s:St) (td:List Item),i+k=16→6*k+30≤n→skim 64 td=IS→Ext Non (In O 0 16) s0 s→Ae s O 0 (u8l (B7 16 (fun j=>l.getD j 0) i))→
  T.get tm 2=some (.pointer (some ⟨R,0,none⟩))→T.get tm 3=some (.pointer (some ⟨O,0,none⟩))→T.get tm 4=some (.pointer (some ⟨S,0,none⟩))→T.get tm 5=some (.int .i64 (i:Nat))→
  (∀n' tm' s1 td',n≤n'+6*k+10→skim 64 td'=OH→Ext Non (In O 0 16) s0 s1→Ae s1 O 0 (u8l (l.take 16))→T.get tm' 2=some (.pointer (some ⟨R,0,none⟩))→T.get tm' 3=some (.pointer (some ⟨O,0,none⟩))→W (runF envS n' ⟨65,Dm_,DU,tm',td', .run, .normal,none⟩) s1 Q)→
  W (runF envS n ⟨65,Dm_,DU,tm,td, .run, .normal,none⟩) s Q:=by
 intro k
 induction k with
 |zero=>
  intro i n tm s td hi hn hT hx ho h2 h3 h4 h5 q
  refine Ty.w hT (by omega) ?_
  simp only[Mc,Ad,W_oS,Aa,W_mv,Ac,Be,h5]
  refine W.cond (v:=false) rfl Eo_ (by simp[T.get_set];omega) (by omega) (fun h=>by cases h) fun _=> ?_
  obtain rfl:i=16:=by omega
  have e:B7 16 (fun j=>l.getD j 0) 16=l.take 16:=by
   rw[NR]
   apply List.ext_getElem?
   intro j
   rw[List.getElem?_map,List.getElem?_take]
   by_cases hj:j<16
   ·rw[List.getElem?_range hj,if_pos hj,List.getElem?_eq_getElem (by omega)]
    show some (l.getD j 0)=_
    rw[List.getD_eq_getElem?_getD,List.getElem?_eq_getElem (by omega)]
    rfl
   ·rw[List.getElem?_eq_none (by simp;omega),if_neg hj]
    rfl
  rw[e]at ho
  exact q _ _ _ _ (by omega) rfl hx ho (by simp[T.get_set,h2]) (by simp[T.get_set,h3])
 |succ k ih=>
  intro i n tm s td hi hn hT hx ho h2 h3 h4 h5 q
  have hi16:i<16:=by omega
  have hb:s.lim≤s.next:=hx.bnd hb0
  refine Ty.w hT (by omega) ?_
  simp only[Mc,Ad,W_oS,Aa,W_mv,Ac,Be,h5]
  refine W.cond (v:=true) rfl Eo_ (by simp[T.get_set];omega) (by omega) (fun _=> ?_) fun h=>by cases h
  refine LQ_.w rfl (by omega) ?_
  have gs:At s S (0+i*1) (.int .u8 (l.getD i 0:Nat)):=by
   have h1:=hs i _ (IU (show i<l.length by omega))
   rw[Nat.mul_one]
   exact h1.at'.ext hx fun h=>by have h3:=h.2;omega
  simp only[Xu,Ad,W_oS,Aa,W_mv,T.get_set,reduceIte,Nat.reduceEqDiff, ↓reduceIte,h3,h4,h5,Dt (i:=((i:Nat):Int)) (k:=i) rfl Kq (show i<32 by omega)]
  refine W.load1 CG gs ?_
  simp only[Dt (i:=((i:Nat):Int)) (k:=i) rfl JK hi16]
  have x1:Ext Non Non s (s.rdN (S+(0+i*1))):=Ext.rdN s _ fun h=>by
   have:s.lim=s0.lim:=hx.lim
   omega
  generalize s.rdN (S+(0+i*1))=s1 at *
  have hx1:Ext Non (In O 0 16) s0 s1:=hx.trans x1 hb0 (fun _ _ h=>h) fun _ _ h=>h.elim
  have ho1:Ae s1 O 0 (u8l (B7 16 (fun j=>l.getD j 0) i)):=ho.ext0 x1
  have hown:=ho1 i _ (IU (show i<(B7 16 (fun j=>l.getD j 0) i).length by rw[KT];exact hi16))
  refine W.store1 (o:=0+i*1) CG rfl (by rw[Nat.mul_one];exact hown) fun s2 n2 x2 o2=> ?_
  rw[Nat.mul_one]at x2 o2
  have ho2:Ae s2 O 0 (u8l (B7 16 (fun j=>l.getD j 0) (i+1))):=by
   rw[←PI 16 (fun j=>l.getD j 0) hi16,←Pz]
   exact ho1.set x2 o2
  have hx2:Ext Non (In O 0 16) s0 s2:=hx1.trans x2 hb0 (fun y hy h=>by have h1:O+(0+i)≤y:=h.1;omega) fun y _ h=>by
   have h1:O+(0+i)≤y:=h.1
   have h2:y<O+(0+i)+1:=h.2
   exact⟨by omega,by omega⟩
  refine SX_.w rfl (by omega) ?_
  have ei:wrap64 ((i:Nat)+1:Int)=((i+1:Nat):Int):=by
   rw[AP (by omega) (by omega)];simp
  simp only[Uq,Ad,W_oS,Aa,W_mv,Ac,T.get_set,reduceIte,Nat.reduceEqDiff, ↓reduceIte,By,h5,ei]
  exact ih (i+1) _ _ _ _ (by omega) (by omega) KW_ hx2 ho2 (by simp[T.get_set,h2]) (by simp[T.get_set,h3]) (by simp[T.get_set,h4]) (by simp[T.get_set]) fun n' tm' s5 td' e=>q n' tm' s5 td' (by omega)
end
theorem Ww_ {n:Nat}{s:St}{v:Value}{l:List Nat}{Q:Value→St→Prop}(hbd:s.lim≤s.next)(hn:l.length+3200≤n)(h:Bs s v l)(hby:Byt l)(hz:l.length≤900000)
  (q: ∀s1,Ext (BsF v) Non s s1→Q (.agg (u8l (idB l)).toArray) s1):W (Ai envS (runF envS n) 65 [v]) s Q:=by
 refine Ke_ fun tm h0=> ?_
 have hc:Bs (s.cxN cxN) v l:=h.same rfl rfl
 have own: ∀{a b:Nat} {y:Nat},In a 0 b y→a≤y:=fun h=>by have:=h.1;omega
 refine MT_.w rfl (by omega) ?_
 simp only[Yv,Ad,Aa,Ac]
 refine W.alloc DH fun s1 n1 x1 o1=> ?_
 have n1':s1.next=s.next+17:=n1
 have hx1:Ext (BsF v) Non (s.cxN cxN) s1:=x1.weak hbd (fun _ _ h=>h.elim) fun _ _ h=>h
 refine OS_.w rfl (by omega) ?_
 simp only[Bq_,Ad,Aa,Ac]
 refine W.alloc DH fun s2 n2 x2 o2=> ?_
 have n2':s2.next=s1.next+17:=n2
 have hx2:=hx1.step x2 hbd (fun _ _ h=>h.elim) fun _ h=>h.elim
 refine Aah_.w rfl (by omega) ?_
 simp only[Xb,Ad,W_oS,W_on,Aa,W_mv,Ac,T.get_set,Ah,Ag,Af,Ar,reduceIte,reduceCtorEq, ↓reduceIte,h0]
 refine RE_ (hx2.bnd hbd) (by omega) (hc.ext0 hx2) hby hz fun s3 x3=> ?_
 have hx3:=hx2.step x3 hbd (fun _ _ h=>h) fun _ h=>h.elim
 refine W.alloc Fq fun s4 n4 x4 o4=> ?_
 have n4':s4.next=s3.next+33:=n4
 have hx4:=hx3.step x4 hbd (fun _ _ h=>h.elim) fun _ h=>h.elim
 have hN3:s2.next≤s3.next:=x3.nxt
 refine W.store Eb (by rw[Er,A6,FQ]) (by rw[Er];exact BT _) (fun i hi=>Ae.owned o4 i hi) fun s5 n5 x5 o5=> ?_
 rw[Er]at o5
 have hx5:=hx4.step x5 hbd (fun y hy h=>by have h5:=own h;have h6:y<s.lim:=hy;omega) fun y h=>by have h5:=own h;show s.next≤y;omega
 have e0:Ae s5 s1.next 0 (u8l (B7 16 (fun j=>(sumB l).getD j 0) 0)):=by
  rw[LT]
  refine((Ae.ext0 o2 x3).ext0 x4).ext x5 fun i hi h=> ?_
  have h5:=own h
  have h6:i<16:=hi
  omega
 refine Pf_.w rfl (by omega) ?_
 simp only[Ul,Aa,W_mv,Ac]
 refine Xa_ (S:=s3.next) (R:=s.next) (O:=s1.next) (l:=sumB l) (s0:=s5) (hx5.bnd hbd) (by rw[hx5.lim];show s.lim≤_;omega) (by rw[hx5.lim];show s.lim≤_;omega) (by omega) (FQ l) o5 16 0 _ _ _ _ (by omega) (by omega) rfl (Ext.refl _) e0 (by simp[T.get_set]) (by simp[T.get_set]) (by simp[T.get_set]) (by simp[T.get_set]) fun n7 tm7 s7 td7 hn7 hT7 hx7 ho7 k2 k3=> ?_
 have hx7':=hx5.step hx7 hbd (fun _ _ h=>h.elim) fun y h=>by have h5:=own h;show s.next≤y;omega
 have hoR:A3 s7 s.next 0 16:=by
  have t: ∀{F G:Nat→Prop} {a b:St},Ext (fun _=>True) (fun y=>s1.next≤y) s1 a→Ext F G a b→(∀y,G y→s1.next≤y)→Ext (fun _=>True) (fun y=>s1.next≤y) s1 b:=fun h k hG=>h.trans k (x1.bnd hbd) (fun _ _ _=>trivial) fun y _ h=>hG y h
  have b4:=t (t (t (Ext.refl s1) x2 fun _ h=>h.elim) x3 fun _ h=>h.elim) x4 fun _ h=>h.elim
  have b7:=t (t b4 x5 fun y h=>by have:=own h;omega) hx7 fun y h=>by have:=own h;omega
  exact A3.ext1 (Ae.owned o1) b7 fun y h h'=>by
   have h6:y<s.next+0+16:=h.2
   omega
 have hidl:(idB l).length=16:=K1 l
 refine Rl_.w hT7 (by omega) ?_
 simp only[Ry,Ad,W_oS,Aa,k2,k3]
 refine W.loadA (l:=u8l (idB l)) BL ho7.row (by rw[A6,hidl]) fun s8 m8 n8 x8=> ?_
 have hx8:=hx7'.step x8 hbd (fun y hy h=>by have h5:s1.next+0≤y:=h.1;have h6:y<s.lim:=hy;omega) fun _ h=>h.elim
 refine W.store BL (by rw[Er,A6,hidl]) (by rw[Er];exact BT _) (fun i hi=>let ⟨u,hu⟩:=hoR i hi;⟨u,hu.ext x8 id⟩) fun s9 n9 x9 o9=> ?_
 rw[Er]at o9
 have hx9:=hx8.step x9 hbd (fun y hy h=>by have h5:=own h;have h6:y<s.lim:=hy;omega) fun y h=>by have h5:=own h;show s.next≤y;omega
 refine W.endC (r:=2) rfl (.inl NK_) (by omega) DH_ Tv_ hx9.cx (by simp[k2];rfl) ?_
 refine W.loadA BL o9.row (by rw[A6,hidl]) fun s10 m10 n10 x10=> ?_
 have hx10:=hx9.step x10 hbd (fun y hy h=>by have h5:s.next+0≤y:=h.1;have h6:y<s.lim:=hy;omega) fun _ h=>h.elim
 exact q _ hx10.cx'
theorem Ext.anyG {F:Nat→Prop}{s s1:St}(h:Ext F Non s s1)(hb:s.lim≤s.next):Ext Any Non s s1:=h.weak hb (fun _ _ _=>trivial) fun _ _ h=>h
theorem Nw_ {I C n0:Nat}{w:Value}{l:List Nat}{Q:Value×FrameMode→St→Prop}{s0:St}(hb0:s0.lim≤s0.next)(hI:n0≤I)(hn0:s0.next=n0)(hl:16≤l.length)(hwF: ∀y,BsF w y→ ¬In I 0 16 y): ∀(k i n:Nat) (tm:T Value) (s:St) (td:List Item),i+k=16→6*k+30≤n→skim 64 td=J5→Ext Any Non s0 s→Bn s w l→Ae s I 0 (u8l (B7 16 (fun j=>l.getD j 0) i))→A3 s C 0 16→C+16≤I→
  T.get tm 6=some (.pointer (some ⟨C,0,none⟩))→T.get tm 9=some (.pointer (some ⟨I,0,none⟩))→T.get tm 10=some w→T.get tm 12=some (.int .i64 (i:Nat))→
  (∀n' tm' s1 td',n≤n'+6*k+10→skim 64 td'=Kc→Ext Any Non s0 s1→Bn s1 w l→Ae s1 I 0 (u8l (l.take 16))→A3 s1 C 0 16→T.get tm' 6=some (.pointer (some ⟨C,0,none⟩))→T.get tm' 9=some (.pointer (some ⟨I,0,none⟩))→T.get tm' 10=some w→W (runF envS n' ⟨70,UL,Da,tm',td', .run, .normal,none⟩) s1 Q)→
  W (runF envS n ⟨70,UL,Da,tm,td, .run, .normal,none⟩) s Q:=by
 intro k
 induction k with
 |zero=>
  intro i n tm s td hi hn hT hx hw ho hc hCI h6 h9 h10 h12 q
  refine AJ_.w hT (by omega) ?_
  simp only[Ni,Ad,W_oS,Aa,W_mv,Ac,Be,h12]
  refine W.cond (v:=false) rfl U6 (by simp[T.get_set];omega) (by omega) (fun h=>by cases h) fun _=> ?_
  obtain rfl:i=16:=by omega
  have e:B7 16 (fun j=>l.getD j 0) 16=l.take 16:=by
   rw[NR]
   apply List.ext_getElem?
   intro j
   rw[List.getElem?_map,List.getElem?_take]
   by_cases hj:j<16
   ·rw[List.getElem?_range hj,if_pos hj,List.getElem?_eq_getElem (by omega)]
    show some (l.getD j 0)=_
    rw[List.getD_eq_getElem?_getD,List.getElem?_eq_getElem (by omega)]
    rfl
   ·rw[List.getElem?_eq_none (by simp;omega),if_neg hj]
    rfl
  rw[e]at ho
  exact q _ _ _ _ (by omega) rfl hx hw ho hc (by simp[T.get_set,h6]) (by simp[T.get_set,h9]) (by simp[T.get_set,h10])
 |succ k ih=>
  intro i n tm s td hi hn hT hx hw ho hc hCI h6 h9 h10 h12 q
  have hi16:i<16:=by omega
  have hil:i<l.length:=by omega
  refine AJ_.w hT (by omega) ?_
  simp only[Ni,Ad,W_oS,Aa,W_mv,Ac,Be,h12]
  refine W.cond (v:=true) rfl U6 (by simp[T.get_set];omega) (by omega) (fun _=> ?_) fun h=>by cases h
  refine PP_.w rfl (by omega) ?_
  obtain⟨wb,wo,wc,rfl,g1,g2,g3⟩:=hw
  have gs:At s wb (wo+i*1) (.int .u8 (l.getD i 0:Nat)):=by
   have:=g3.at (List.getElem?_eq_getElem hil)
   rw[Nat.mul_one,List.getD_eq_getElem?_getD,List.getElem?_eq_getElem hil]
   exact this
  simp only[Wc,Ad,W_oS,Aa,W_mv,T.get_set,reduceIte,Nat.reduceEqDiff, ↓reduceIte,h9,h10,h12,CS AE hil]
  refine W.load1 CG gs ?_
  simp only[Dt (i:=((i:Nat):Int)) (k:=i) rfl JK hi16]
  have hx1:=hx.thenRd hb0 (wb+(wo+i*1))
  have ho1:Ae (s.rdN (wb+(wo+i*1))) I 0 (u8l (B7 16 (fun j=>l.getD j 0) i)):=fun j u e=>(ho j u e).same rfl rfl
  have hw1:Bn (s.rdN (wb+(wo+i*1))) (.slice (some ⟨wb,wo,none⟩) l.length wc) l:=Bn.same ⟨wb,wo,wc,rfl,g1,g2,g3⟩ rfl rfl
  have hc1:A3 (s.rdN (wb+(wo+i*1))) C 0 16:=fun j hj=>let ⟨u,hu⟩:=hc j hj;⟨u,hu.same rfl rfl⟩
  generalize s.rdN (wb+(wo+i*1))=s1 at *
  have hown:=ho1 i _ (IU (show i<(B7 16 (fun j=>l.getD j 0) i).length by rw[KT];exact hi16))
  refine W.store1 (o:=0+i*1) CG rfl (by rw[Nat.mul_one];exact hown) fun s2 n2 x2 o2=> ?_
  rw[Nat.mul_one]at x2 o2
  have ho2:Ae s2 I 0 (u8l (B7 16 (fun j=>l.getD j 0) (i+1))):=by
   rw[←PI 16 (fun j=>l.getD j 0) hi16,←Pz]
   exact Ae.set ho1 x2 o2
  have hin: ∀y,In I (0+i) 1 y→In I 0 16 y:=fun y h=>⟨by have:=h.1;omega,by have:=h.2;omega⟩
  have hw2:Bn s2 (.slice (some ⟨wb,wo,none⟩) l.length wc) l:=hw1.ext x2 fun y hy h=>hwF y hy (hin y h)
  have hc2:A3 s2 C 0 16:=A3.ext1 hc1 x2 fun y h h'=>by
   have h1:=h.2
   have h2:=h'.1
   omega
  have hx2:Ext Any Non s0 s2:=hx1.thenW x2 hb0 (by omega)
  refine IW_.w rfl (by omega) ?_
  have ei:wrap64 ((i:Nat)+1:Int)=((i+1:Nat):Int):=by
   rw[AP (by omega) (by omega)];simp
  simp only[Gc_,Ad,W_oS,Aa,W_mv,Ac,T.get_set,reduceIte,Nat.reduceEqDiff, ↓reduceIte,By,h12,ei]
  exact ih (i+1) _ _ _ _ (by omega) (by omega) TY_ hx2 hw2 ho2 hc2 hCI (by simp[T.get_set,h6]) (by simp[T.get_set,h9]) (by simp[T.get_set,h10]) (by simp[T.get_set]) fun n' tm' s5 td' e=>q n' tm' s5 td' (by omega)
theorem Uy {n k m:Nat}{v:Value}{l:List Nat}{s:St}{Q:Value→St→Prop}(hbd:s.lim≤s.next)(hbs:Bs s v l)(hby:Byt l)(hz:l.length≤100000)(hm1:1≤m)(hm2:m≤1024)(hlen:k+26+m≤l.length)(hn:200000≤n)
  (q1:GOk (CE l k m)→ ∀s1 w,Ext Any Non s s1→Bn s1 w (BJ l k m)→Q (.tuple #[.agg (u8l (BH l k m)).toArray,w, .bool (decide (idB (BJ l k m)=BH l k m))]) s1)
  (q2: ¬GOk (CE l k m)→ ∀s1,Ext Any Non s s1→Q (.tuple #[.agg (u8l (List.replicate 16 0)).toArray, .slice none 0 0, .bool false]) s1):
  W (Ai envS (runF envS n) 70 [v, .int .i64 (k+6:Nat), .int .i64 (m:Nat)]) s Q:=by
 refine OQ_ fun tm h0 h1 h2=> ?_
 have hb0:(s.cxN cxN).lim≤(s.cxN cxN).next:=hbd
 have hne:l≠[]:=fun h=>by rw[h]at hlen;simp at hlen
 have hB0:Bn (s.cxN cxN) v l:=(hbs.bn' hne).same rfl rfl
 refine Pq_.w rfl (by omega) ?_
 simp only[Fj_,Ad,Aa,W_mv,Ac]
 refine W.alloc DH fun sa na xa oa=> ?_
 have na':sa.next=s.next+17:=na
 have ya:Ext Any Non (s.cxN cxN) sa:=(Ext.refl _).then0 xa hb0
 refine UB_.w rfl (by omega) ?_
 simp only[Vw,Ad,Aa,Ac]
 refine W.alloc DH fun sb nb xb ob=> ?_
 have nb':sb.next=sa.next+17:=nb
 have yb:=ya.then0 xb hb0
 refine KA_.w rfl (by omega) ?_
 have e1:wrap64 (((k+6:Nat):Int)+((m:Nat):Int))=((k+6+m:Nat):Int):=by
  rw[AP (by omega) (by omega)];omega
 have e2:wrap64 (((k+6+m:Nat):Int)+20)=((k+26+m:Nat):Int):=by
  rw[AP (by omega) (by omega)];omega
 simp only[Wz,Ad,W_oS,W_on,Aa,W_mv,Ac,T.get_set,Ah,Ag,Af,Ar,reduceIte,Nat.reduceEqDiff,reduceCtorEq, ↓reduceIte,By,h0,h1,h2,e1,e2]
 refine W.cut (hB0.ext0 yb) AE (i:=k+6) (j:=k+26+m) rfl rfl (by omega) hlen fun v1 hv1 hF1=> ?_
 have hch:(l.take (k+26+m)).drop (k+6)=CE l k m:=rfl
 rw[hch]at hv1
 have hcl:=PS hlen
 refine Jd_ (yb.bnd hb0) hv1 (MO hby k m) (by omega) (by omega) (by omega) (fun hg sc w b hb xc hw=> ?_) fun hg sc xc=> ?_
 ·have yc:=yb.then0 xc hb0
  rw[Bq (k:=0) rfl,Bq (k:=1) rfl]
  try simp only[Ad,W_oS,W_on,Aa,W_mv,Ac,AJ,T.get_set,Ah,Ag,A8,A2,Af,Ar,reduceIte,Ax,Bp,Ba,Bv,A5,A9,Bb,Bo,AA,Bg,Nat.reduceEqDiff,reduceCtorEq, ↓reduceIte]
  refine R9.w rfl (by omega) ?_
  simp only[LG,Ad,W_oS,Aa,W_mv,Ac,T.get_set,reduceIte, ↓reduceIte,Dj]
  refine W.cond (v:=false) rfl Dx_ (by simp[T.get_set]) (by omega) (fun h=>by cases h) fun _=> ?_
  refine Tx_.w rfl (by omega) ?_
  simp only[YT,Aa,W_mv,Ac]
  have hX:(CE l k m).take ((CE l k m).length-4)=Ca l k m:=by
   rw[hcl];rfl
  rw[hX]at hw
  have hXl:=G6 hlen
  have hwn:Bn sc w (Ca l k m):=hw.bn (by omega)
  have hbF: ∀y,BsF w y→sb.next≤y:=fun y hy=>by
   obtain⟨c,hc⟩:=hw.at
   rw[hc]at hy
   have:=hy.1
   omega
  have nbc:sb.next≤sc.next:=xc.nxt
  refine Nw_ (I:=sa.next) (C:=s.next) (n0:=s.next) (w:=w) (l:=Ca l k m) (s0:=s.cxN cxN) hb0 (by omega) rfl (by omega) (fun y hy h=>by have h1:=hbF y hy;have h2:=h.2;omega) 16 0 _ _ _ _ (by omega) (by omega) rfl yc hwn ?_ ?_ (by omega) (by simp[T.get_set]) (by simp[T.get_set]) (by simp[T.get_set]) (by simp[T.get_set]) fun n1 tm1 sd td1 hn1 hT1 yd hwd hod hcd g6 g9 g10=> ?_
  ·rw[LT]
   exact fun i u e=>(ob i u e).ext0 xc
  ·exact((Ae.owned oa).ext1 xb fun _ _ h=>h).ext1 xc fun _ _ h=>h
  have hI:(Ca l k m).take 16=BH l k m:=rfl
  rw[hI]at hod
  have hIl:=Fz hlen
  have hsd:sd.lim≤sd.next:=yd.bnd hb0
  refine JB_.w hT1 (by omega) ?_
  have hC:=K4 hlen
  have hIu:(u8l (BH l k m)).length=16:=by rw[A6];exact hIl
  simp only[W5,g6,g9,g10,BG,Ck,Ah,Ag,Af,Dc]
  refine W.dloadA BL (fun i u e=>((hod i u e).same (s':=dSt sd.mem sd.next) rfl rfl).at') hIu fun mem1 rd1 hm1' hr1=> ?_
  subst hm1'
  simp only[Ap]
  have hwo:Bn (oSt sd.mem sd.next) w (Ca l k m):=hwd.same rfl rfl
  have htk:((Ca l k m).take (n:=(Ca l k m).length)).drop 16=BJ l k m:=by rw[List.take_length];rfl
  refine W.dop0 (W.cut hwo AE (i:=16) (j:=(Ca l k m).length) rfl rfl (by omega) (Nat.le_refl _) fun w1 hw1 hF1=>⟨rfl, ?_⟩)
  simp only[Ap]
  refine W.dop0 (W.cut hwo AE (i:=16) (j:=(Ca l k m).length) rfl rfl (by omega) (Nat.le_refl _) fun w2 hw2 hF2=>⟨rfl, ?_⟩)
  rw[htk]at hw1 hw2
  refine W.dop (Ww_ (Nat.le_refl _) (by omega) hw2.bs (H3 (Bb_ hby k m) fun x hx=>List.mem_of_mem_drop hx) (by omega) fun s2 x2=>⟨BsF w2,x2,fun rd2 hr2=> ?_⟩)
  have hn2:sd.next≤s2.next:=x2.nxt
  have hods:Ae s2 sa.next 0 (u8l (BH l k m)):=fun i v e=>((hod i v e).same (s':=oSt sd.mem sd.next) rfl rfl).ext0 x2
  refine W.dloadA BL (fun i v e=>((hods i v e).same (s':=dSt s2.mem s2.next) rfl rfl).at') hIu fun mem3 rd3 hm3 hr3=> ?_
  subst hm3
  rw[W_dq fun s Q=>Lh (s:=s) Jg (K1 _) hIl Q]
  have ho6s:A3 (oSt s2.mem s2.next) s.next 0 16:=fun j hj=>by
   obtain⟨u,hu⟩:=hcd j hj
   exact⟨u,((hu.same (s':=oSt sd.mem sd.next) rfl rfl).ext0 x2).same rfl rfl⟩
  refine W.dopG (W.store BL hIu (BT _) ho6s fun s3 n3 x3 o3=>⟨In s.next 0 16,In s.next 0 16,x3,fun rd4 wr4 hr4 hw4=> ?_⟩)
  simp only[Ap,AJ,Aa]
  have n3':s3.next=s2.next:=n3
  have nsd:sa.next+16≤sd.next:=by
   have:=(hod 15 _ (List.getElem?_eq_getElem (show 15<(u8l (BH l k m)).length by rw[hIu];decide))).1
   omega
  have lt6: ∀x,In s.next 0 16 x→x<sd.next:=fun x h=>by have:=h.2;omega
  have lt11: ∀x,In sa.next 0 16 x→x<sd.next:=fun x h=>by have:=h.2;omega
  refine⟨EJ ?_, ?_⟩
  ·simp only[List.reverse_cons,List.reverse_nil,List.nil_append,List.cons_append,allP,Dm,List.take,D9]
   have f1: ∀x,x∈rd1→ ¬sd.next≤x:=fun x hx=>Nat.not_le_of_lt (lt11 x (hr1 x hx))
   have f2: ∀x,x∈rd2→ ¬sd.next≤x:=fun x hx=>Nat.not_le_of_lt (hr2 x hx).1
   have f3: ∀x,x∈rd3→ ¬sd.next≤x:=fun x hx=>Nat.not_le_of_lt (lt11 x (hr3 x hx))
   have f4: ∀x,x∈rd4→ ¬sd.next≤x:=fun x hx=>Nat.not_le_of_lt (lt6 x (hr4 x hx).2)
   have g4: ∀x,x∈wr4→ ¬sd.next≤x:=fun x hx=>Nat.not_le_of_lt (lt6 x (hw4 x hx).2)
   have d43: ∀x,x∈wr4→ ¬x∈rd3:=fun x hx hy=>by
    have h1:=(hw4 x hx).2.2
    have h2:=(hr3 x hy).1
    omega
   have d41: ∀x,x∈wr4→ ¬x∈rd1:=fun x hx hy=>by
    have h1:=(hw4 x hx).2.2
    have h2:=(hr1 x hy).1
    omega
   simp+contextual [f1,f2,f3,f4,g4,d43,d41]
   exact .inl rfl
  ·refine W.cast (Qj_ ..) ?_
   simp only[Ad,W_oS,Aa,AJ]
   generalize hs5:(⟨(dSt s3.mem s3.next).mem,(dSt s3.mem s3.next).next,sd.lim,_,_,sd.cx⟩:St)=s5
   have m5:s5.mem=s3.mem:=by rw[←hs5];rfl
   have n5:s5.next=s3.next:=by rw[←hs5];rfl
   have x5:Ext Any (In s.next 0 16) sd s5:=by
    rw[←hs5]
    refine Ext.drawG (by show sd.next≤s3.next;omega) (fun x hx hg=>(x3.mem x (by show x<s2.next;omega) fun h=>hg h).trans (x2.mem x hx id)) ?_ fun _ _ _ _ _=>trivial
    simp only[List.mem_cons,List.not_mem_nil,or_false]
    rintro m (rfl|rfl|rfl|rfl|rfl|rfl|rfl|rfl|rfl|rfl) x hx _<;>first|(cases hx;done)|(exact(hw4 x hx).2)
   have y5:Ext Any Non (s.cxN cxN) s5:=yd.thenW x5 hb0 (Nat.le_refl _)
   refine W.endG rfl (.inl Jt_) (by omega) MS Q5 y5.cx (W.resCell (a:=⟨s.next,0,none⟩) (by simp[T.get_set,g6]) ?_)
   have o5:Ae s5 s.next 0 (u8l (BH l k m)):=fun i v e=>(o3 i v e).same m5 n5
   refine W.loadA BL o5.row hIu fun s6 m6 n6 x6=> ?_
   refine W.resTmp (v:=w1) (by simp[T.get_set]) (W.resTmp (v:= .bool (decide (idB (BJ l k m)=BH l k m))) (by simp[T.get_set]) (W.resNil ?_))
   have y6:=y5.then0 x6 hb0
   refine q1 hg _ w1 y6.cx' ?_
   have h1:Bn s3 w1 (BJ l k m):=(((hw1.same (s':=oSt sd.mem sd.next) rfl rfl).ext0 x2).same (s':=oSt s2.mem s2.next) rfl rfl).ext x3 fun x hx h=>by
    have h2:=hbF x (hF1 x hx)
    have h3:=h.2
    omega
   exact(h1.same (m6.trans m5) (n6.trans n5)).same rfl rfl
 ·have yc:=yb.then0 xc hb0
  rw[Bq (k:=0) rfl,Bq (k:=1) rfl]
  try simp only[Ad,W_oS,W_on,Aa,W_mv,Ac,AJ,T.get_set,Ah,Ag,A8,A2,Af,Ar,reduceIte,Ax,Bp,Ba,Bv,A5,A9,Bb,Bo,AA,Bg,Nat.reduceEqDiff,reduceCtorEq, ↓reduceIte]
  refine R9.w rfl (by omega) ?_
  simp only[LG,Ad,W_oS,Aa,W_mv,Ac,T.get_set,reduceIte, ↓reduceIte,Dj]
  refine W.cond (v:=true) rfl Dx_ (by simp[T.get_set]) (by omega) (fun _=> ?_) fun h=>by cases h
  refine Nd_.w rfl (by omega) ?_
  simp only[ED_,Ad,W_oS,Aa,W_mv,Ac,T.get_set,reduceIte,Nat.reduceEqDiff, ↓reduceIte]
  have obc:Ae sc sa.next 0 (u8l (List.replicate 16 0)):=fun i u e=>(ob i u e).ext0 xc
  refine W.loadA BL obc.row (by simp) fun sd md nd xd=> ?_
  have yd:=yc.then0 xd hb0
  have ho6:A3 sd s.next 0 16:=(((Ae.owned oa).ext1 xb fun _ _ h=>h).ext1 xc fun _ _ h=>h).ext1 xd fun _ _ h=>h
  refine W.store BL rfl (BT _) ho6 fun se ne xe oe=> ?_
  have ye:=yd.thenW xe hb0 (Nat.le_refl _)
  refine W.endG rfl (.inl Pr_) (by omega) MS Q5 ye.cx (W.resCell (a:=⟨s.next,0,none⟩) (by simp[T.get_set]) ?_)
  refine W.loadA BL oe.row rfl fun sf mf nf xf=> ?_
  have yf:=ye.then0 xf hb0
  refine W.resTmp (v:= .slice none 0 0) (by simp[T.get_set]) (W.resTmp (v:= .bool false) (by simp[T.get_set]) (W.resNil ?_))
  exact q2 hg _ yf.cx'
def Bj (id:List Nat)(a z:Int):List Value:=u8l id++[.int .i64 a, .int .i64 z]
theorem GG {id:List Nat}{a z:Int}(h:id.length=16):(Bj id a z).length=18:=by
 unfold Bj
 rw[List.length_append,A6,h]
 rfl
theorem Ej {id:List Nat}{a z:Int}(h:id.length=16):(Bj id a z)[16]?=some (.int .i64 a)∧(Bj id a z)[17]?=some (.int .i64 z):=by
 unfold Bj
 have:(u8l id).length=16:=by rw[A6];exact h
 constructor
 ·rw[List.getElem?_append_right (by omega),this];rfl
 ·rw[List.getElem?_append_right (by omega),this];rfl
def isAt (l:List Nat)(a z:Int):Bool:=okAt l a&&decide (((A1 l a.toNat:Nat):Int)=z)&&decide (a+26+z≤(l.length:Nat))
def getR (l id:List Nat)(a z:Int):List Nat×Int:=if isAt l a z then(if hitB l (id,a.toNat,z.toNat)then(BJ l a.toNat z.toNat,0)else([],11))else([],6)
theorem Yr {l:List Nat}{a z:Int}(h:isAt l a z=true): ∃k m:Nat,a=(k:Nat)∧z=(m:Nat)∧Cp l k=true∧A1 l k=m∧1≤m∧m≤1024∧k+26+m≤l.length:=by
 unfold isAt okAt at h
 simp only[Bool.and_eq_true,decide_eq_true_eq]at h
 obtain⟨⟨⟨⟨h1,h2⟩,h3⟩,h4⟩,h5⟩:=h
 obtain⟨k,rfl⟩: ∃k:Nat,a=(k:Nat):=⟨a.toNat,by omega⟩
 rw[Int.toNat_natCast]at h3 h4
 obtain⟨g1,g2⟩:=EB h3
 exact⟨k,A1 l k,rfl,h4.symm,h3,rfl,g1,g2,by omega⟩
theorem Tp_ {R n:Nat}{a z:Int}{id:List Nat}{v:Value}{l:List Nat}{tm:T Value}{td:List Item}{s:St}{Q:Value×FrameMode→St→Prop}(hbd:s.lim≤s.next)(hbs:Bs s v l)(hz:l.length≤900000)(h16:id.length=16)(hR:Ae s R 0 (Bj id a z))(h0:T.get tm 0=some v)(h3:T.get tm 3=some (.pointer (some ⟨R,0,none⟩)))(h6:okAt l a=true→T.get tm 6=some (.int .i64 (A1 l a.toNat:Nat)))(h6':okAt l a=false→T.get tm 6=some (.int .i64 0))(h7:T.get tm 7=some (.bool (okAt l a)))(hT:skim 64 td=IF)(hn:100≤n)
  (q: ∀n' s1 tm' td',n≤n'+2→skim 64 td'=KQ→s1.mem=s.mem→s1.next=s.next→Ext Any Non s s1→(∀j,j≠35→T.get tm' j=T.get tm j)→T.get tm' 35=some (.bool (!isAt l a z))→W (runF envS n' ⟨28,G9,C2,tm',td', .run, .normal,none⟩) s1 Q):
  W (runF envS n ⟨28,G9,C2,tm,td, .run, .normal,none⟩) s Q:=by
 refine Wb_.w hT (by omega) ?_
 have o16:At (dSt s.mem s.next) R (0+16) (.int .i64 a):=((hR 16 _ (Ej h16).1).same (s':=dSt s.mem s.next) rfl rfl).at'
 have o17:At (dSt s.mem s.next) R (0+17) (.int .i64 z):=((hR 17 _ (Ej h16).2).same (s':=dSt s.mem s.next) rfl rfl).at'
 have hRn:R+17<s.next:=by
  have:=(hR 17 _ (Ej h16).2).1
  omega
 cases his:okAt l a with
 |false=>
  have h6:=h6' his
  rw[his]at h7
  have hm:(!isAt l a z)=true:=by unfold isAt;rw[his];rfl
  simp only[Pl,h0,h3,h6,h7,BG,Ck,Ah,Ag,Af,Dc,Ap]
  rw[W_dq fun s Q=>CJ (s:=s) _ _ Q]
  simp only[Ap,Bool.not_false,Ax,Cw,Ba,if_f]
  rw[W_dq fun s Q=>AA (s:=s) _ _ _ _]
  simp only[reduceIte,Ap,Ax,Cw,Ba,if_f,Aa]
  refine⟨Dn (by simp) (by simp), ?_⟩
  refine W.cast (OZ ..) ?_
  simp only[Ad,W_on,Aa,AJ,reduceIte,AA, ↓reduceIte]
  exact q _ _ _ _ (by omega) rfl rfl rfl (Ext.drawG (Nat.le_refl _) (fun _ _ _=>rfl) (by simp) (by simp)) (fun j hj=>by rw[T.get_set,if_neg hj]) (by rw[T.get_set,if_pos rfl,hm])
 |true=>
  have h6:=h6 his
  rw[his]at h7
  have hok:=his
  unfold okAt at hok
  simp only[Bool.and_eq_true,decide_eq_true_eq]at hok
  obtain⟨⟨ha1,ha2⟩,hso⟩:=hok
  obtain⟨g1,g2⟩:=EB hso
  simp only[Pl,h0,h3,h6,h7,BG,Ck,Ah,Ag,Af,Dc,Ap]
  rw[W_dq fun s Q=>CJ (s:=s) _ _ Q]
  simp only[Ap,Bool.not_true,Ax,Cw,A5,if_t]
  rw[W_dq fun s Q=>BW (s:=s) MQ (by decide) Q]
  refine W.dload B4 o17 fun rd1 hr1=> ?_
  rw[W_dq fun s Q=>Dj (s:=s) _ _]
  rw[W_dq fun s Q=>AA (s:=s) _ _ _ _]
  simp only[Bool.false_eq_true,reduceIte,Ap]
  by_cases hsz:((A1 l a.toNat:Nat):Int)=z
  ·have e1:(!decide (((A1 l a.toNat:Nat):Int)=z))=false:=by rw[decide_eq_true hsz];rfl
   rw[e1]
   simp only[Ax,Cw,A5,if_t,Ap]
   obtain⟨p,c,rfl⟩:=hbs.sl
   rw[W_dq fun s Q=>B5 (s:=s) AE Q]
   rw[W_dq fun s Q=>BW (s:=s) E6 (by decide) Q]
   refine W.dload B4 o16 fun rd2 hr2=> ?_
   have e2:wrap64 (((l.length:Nat):Int)-a)=((l.length:Nat):Int)-a:=AP (by omega) (by omega)
   rw[W_dq fun s Q=>Cm (s:=s) _ _,e2]
   simp only[Ap]
   refine W.dop0 (KH _ (by omega) ⟨rfl, ?_⟩)
   rw[Fc g1 g2,W_dq fun s Q=>Be (s:=s) _ _,Aa]
   have e3:decide (((l.length:Nat):Int)-a<((A1 l a.toNat+26:Nat):Int))= !isAt l a z:=by
    unfold isAt
    rw[his,decide_eq_true hsz,Bool.true_and,Bool.true_and]
    by_cases h5:a+26+z≤(l.length:Nat)
    ·rw[decide_eq_true h5,decide_eq_false (by omega)];rfl
    ·rw[decide_eq_false h5,decide_eq_true (by omega)];rfl
   rw[e3]
   refine⟨Fa (by simp) (by
    simp only[List.reverse_cons,List.reverse_nil,List.nil_append,List.cons_append,List.mem_cons,List.not_mem_nil,or_false]
    rintro m (rfl|rfl|rfl|rfl|rfl|rfl|rfl|rfl|rfl|rfl|rfl|rfl|rfl|rfl|rfl|rfl|rfl)<;>refine⟨rfl,fun x hx=> ?_⟩<;>first|(cases hx;done)|(have:=hr1 _ hx;omega)|(have:=hr2 _ hx;omega)), ?_⟩
   refine W.cast (OZ ..) ?_
   simp only[Ad,W_on,Aa,AJ,reduceIte,AA,reduceCtorEq, ↓reduceIte]
   refine q _ _ _ _ (by omega) rfl rfl rfl (Ext.drawG (Nat.le_refl _) (fun _ _ _=>rfl) ?_ fun _ _ _ _ _=>trivial) (fun j hj=>by rw[T.get_set,if_neg hj]) (by rw[T.get_set,if_pos rfl])
   simp only[List.mem_cons,List.not_mem_nil,or_false]
   rintro m (rfl|rfl|rfl|rfl|rfl|rfl|rfl|rfl|rfl|rfl|rfl|rfl|rfl|rfl|rfl|rfl|rfl) x hx _<;>cases hx
  ·have e1:(!decide (((A1 l a.toNat:Nat):Int)=z))=true:=by
    rw[decide_eq_false hsz];rfl
   have hm:(!isAt l a z)=true:=by unfold isAt;rw[his,decide_eq_false hsz];rfl
   rw[e1]
   simp only[Ax,Cw,Ba,if_f,Ap,Aa]
   refine⟨Fa (by simp) (by
    simp only[List.reverse_cons,List.reverse_nil,List.nil_append,List.cons_append,List.mem_cons,List.not_mem_nil,or_false]
    rintro m (rfl|rfl|rfl|rfl|rfl|rfl|rfl|rfl|rfl|rfl|rfl|rfl|rfl|rfl|rfl|rfl|rfl)<;>refine⟨rfl,fun x hx=> ?_⟩<;>first|(cases hx;done)|(have:=hr1 _ hx;omega)), ?_⟩
   refine W.cast (OZ ..) ?_
   simp only[Ad,W_on,Aa,AJ,reduceIte,AA, ↓reduceIte]
   refine q _ _ _ _ (by omega) rfl rfl rfl (Ext.drawG (Nat.le_refl _) (fun _ _ _=>rfl) ?_ fun _ _ _ _ _=>trivial) (fun j hj=>by rw[T.get_set,if_neg hj]) (by rw[T.get_set,if_pos rfl,hm])
   simp only[List.mem_cons,List.not_mem_nil,or_false]
   rintro m (rfl|rfl|rfl|rfl|rfl|rfl|rfl|rfl|rfl|rfl|rfl|rfl|rfl|rfl|rfl|rfl|rfl) x hx _<;>cases hx
def CN (b:List Nat):List Nat:=b++[160+b.length%90,160+(b.length+1)%90,160+(b.length+2)%90]
theorem Lk (b:List Nat):(CN b).length=b.length+3:=by simp[CN]
def Kb (l:List Nat)(i:Nat):Nat→List Nat
 |0=>l
 |k+1=>Kb (l.set i (160+i%90)) (i+1) k
theorem JZ_ (b:List Nat):Kb (b++[0,0,0]) b.length 3=CN b:=by
 simp only[Kb,CN]
 rw[List.set_append_right _ _ (by omega),List.set_append_right _ _ (by omega),List.set_append_right _ _ (by omega)]
 simp[show b.length+1+1-b.length=2 by omega]
theorem VQ_:hasT envS 3=true:=by kernel_rfl
theorem HP_ {E:Env}{t:Nat}{s:St}{xo yo:Operand}{m:Nat}(Q:Value→St→Prop):W (Cl.get (aBin E .rem t xo yo) (.int .i64 (m:Nat)) (.int .i64 90)) s Q=Q (.int .i64 (m%90:Nat)) s:=I9 (n:=90) (by decide) Q
theorem Rn_ {L N:Nat}{s0:St}{w:Value}{Q:Value×FrameMode→St→Prop}(hb0:s0.lim≤s0.next)(hL:s0.next≤L)(hN:N≤1000000): ∀(k i n:Nat) (l:List Nat) (tm:T Value) (s:St) (td:List Item),i+k=N→l.length=N→5*k+10≤n→skim 64 td=J8→Ext Any Non s0 s→Ae s L 0 (u8l l)→
  T.get tm 0=some w→T.get tm 3=some (.slice (some ⟨L,0,none⟩) N N)→T.get tm 4=some (.int .i64 (i:Nat))→
  (∀n' tm' s1 td',5≤n'→skim 64 td'=Oc→Ext Any Non s0 s1→Ae s1 L 0 (u8l (Kb l i k))→T.get tm' 0=some w→T.get tm' 3=some (.slice (some ⟨L,0,none⟩) N N)→W (runF envS n' ⟨16,Hr_,DT,tm',td', .run, .normal,none⟩) s1 Q)→
  W (runF envS n ⟨16,Hr_,DT,tm,td, .run, .normal,none⟩) s Q:=by
 intro k
 induction k with
 |zero=>
  intro i n l tm s td hi hl hn hT hx ho h0 h3 h4 q
  refine V7.w hT (by omega) ?_
  simp only[Ma,Ad,W_oS,Aa,W_mv,Ac,Ah,Ag,Af,Be,h3,h4,B5 AE]
  refine W.cond (v:=false) rfl W4 (by simp[T.get_set];omega) (by omega) (fun h=>by cases h) fun _=> ?_
  exact q _ _ _ _ (by omega) rfl hx ho (by simp[T.get_set,h0]) (by simp[T.get_set,h3])
 |succ k ih=>
  intro i n l tm s td hi hl hn hT hx ho h0 h3 h4 q
  refine V7.w hT (by omega) ?_
  simp only[Ma,Ad,W_oS,Aa,W_mv,Ac,Ah,Ag,Af,Be,h3,h4,B5 AE]
  refine W.cond (v:=true) rfl W4 (by simp[T.get_set];omega) (by omega) (fun _=> ?_) fun h=>by cases h
  refine ZL_.w rfl (by omega) ?_
  have e1:wrap64 ((160:Int)+((i%90:Nat):Int))=((160+i%90:Nat):Int):=by
   rw[AP (by omega) (by omega)];simp
  simp only[XJ,Ad,W_oS,Aa,W_mv,T.get_set,reduceIte,Nat.reduceEqDiff, ↓reduceIte,By,h3,h4,HP_,e1,CO VQ_ DP,wrap_u8,CS AE (show i<N by omega)]
  have e2:(160+i%90)%256=160+i%90:=by omega
  rw[e2]
  have hO:Own s L (0+i*1) (u8 l[i]):=by
   rw[Nat.mul_one]
   exact ho i _ (by rw[List.getElem?_map,List.getElem?_eq_getElem (by omega)];rfl)
  refine W.store1 CG rfl hO fun s1 n1 x1 o1=> ?_
  have ho1:Ae s1 L 0 (u8l (l.set i (160+i%90))):=by
   have:=Ae.set (o:=0) (i:=i) ho (by rw[Nat.mul_one]at x1;exact x1) (by rw[Nat.mul_one]at o1;exact o1)
   unfold u8l
   rw[List.map_set]
   exact this
  refine Kv_.w rfl (by omega) ?_
  have e3:wrap64 ((i:Nat)+1:Int)=((i+1:Nat):Int):=by
   rw[AP (by omega) (by omega)];simp
  simp only[Yj,Ad,W_oS,Aa,W_mv,Ac,T.get_set,reduceIte,Nat.reduceEqDiff, ↓reduceIte,By,h4,e3]
  exact ih (i+1) _ _ _ _ _ (by omega) (by rw[List.length_set];exact hl) (by omega) WP_ (hx.thenW x1 hb0 hL) ho1 (by simp[T.get_set,h0]) (by simp[T.get_set,h3]) (by simp[T.get_set]) fun n' tm' s2 td'=>q n' tm' s2 td'
theorem FO_ {v:Value}{b:List Nat}{n:Nat}{s:St}{Q:Value→St→Prop}(hbd:s.lim≤s.next)(hb:Bs s v b)(hz:b.length≤100000)(hn:60≤n)
  (q: ∀s1,Ext Any Non s s1→Ae s1 s.next 0 (u8l (CN b))→s.next+b.length+3≤s1.next→Q (.slice (some ⟨s.next,0,none⟩) b.length (b.length+3)) s1):W (Ai envS (runF envS n) 16 [v]) s Q:=by
 refine Ut_ fun tm h0=> ?_
 have hb0:(s.cxN cxN).lim≤(s.cxN cxN).next:=hbd
 have hb':Bs (s.cxN cxN) v b:=hb.same rfl rfl
 refine Ve_.w rfl (by omega) ?_
 simp only[Zm,Aa,W_mv,Ac]
 refine Acn_.w rfl (by omega) ?_
 simp only[Rk,Ad,W_oS,Aa,W_mv,Ac,T.get_set,Ah,Ag,Af,reduceIte,reduceCtorEq, ↓reduceIte,h0]
 rw[hb'.len AE]
 have e1:wrap64 (((b.length:Nat):Int)+3)=((b.length+3:Nat):Int):=by
  rw[AP (by omega) (by omega)];simp
 simp only[By,e1]
 refine W.mkSl CU (Nat.le_refl _) (by omega) fun sa na xa oa=> ?_
 rw[GA]at oa na
 rw[List.length_replicate]at na
 have na':sa.next=s.next+(b.length+3)+1:=na
 have oa':Ae sa s.next 0 (List.replicate (b.length+3) (.int .u8 0)):=oa
 have y1:Ext Any Non (s.cxN cxN) sa:=(Ext.refl _).then0 xa hb0
 refine TX_.w rfl (by omega) ?_
 simp only[FF_,Ad,W_oS,Aa,W_mv,T.get_set,Ah,Ag,Af,reduceIte,reduceCtorEq, ↓reduceIte,h0]
 have hsrc:=(hb'.ext0 xa).src
 obtain⟨p,c,rfl⟩:=hb.sl
 refine W.copy (k:=b.length) (l:=u8l b) CU (by show b.length=min (b.length+3) b.length;omega) hsrc.2 (by rw[A6,Nat.mul_one]) (BT _) (fun i hi=> ?_) fun sb nb xb ob=> ?_
 ·exact⟨_,oa' i (.int .u8 0) (by rw[List.getElem?_replicate,if_pos (by omega)])⟩
 have nb':sb.next=sa.next:=nb
 have hob:Ae sb s.next 0 (u8l (b++[0,0,0])):=by
  unfold u8l
  rw[List.map_append]
  refine Ae.append ob fun i u e=> ?_
  have hi:i<3:=(List.getElem?_eq_some_iff.1 e).1
  have hu:u= .int .u8 0:=by
   match i,hi,e with
   |0,_,e=>cases e;rfl
   |1,_,e=>cases e;rfl
   |2,_,e=>cases e;rfl
  subst hu
  rw[List.length_map]
  refine Own.ext (s:=sa) ?_ xb fun h=>by have h2:_<s.next+0+b.length*1:=h.2;omega
  have:=oa' (b.length+i) (.int .u8 0) (by rw[List.getElem?_replicate,if_pos (by omega)])
  rwa [show 0+b.length+i=0+(b.length+i) by omega]
 have y2:Ext Any Non (s.cxN cxN) sb:=y1.trans xb hb0 (fun _ _ _=>trivial) fun y hy h=>by
  have h1:s.next+0≤y:=h.1
  have h2:y<s.next:=hy
  omega
 refine IQ_.w rfl (by omega) ?_
 simp only[CU_,Ad,W_oS,Aa,W_mv,Ac,T.get_set,Ah,Ag,Af,reduceIte,reduceCtorEq, ↓reduceIte,h0,B5 AE]
 refine Rn_ (L:=s.next) (N:=b.length+3) (w:= .slice p b.length c) (s0:=s.cxN cxN) hb0 (Nat.le_refl _) (by omega) 3 b.length _ (b++[0,0,0]) _ sb _ (by omega) (by simp) (by omega) rfl y2 hob (by simp[T.get_set,h0]) (by simp[T.get_set]) (by simp[T.get_set]) fun n1 tm1 s1 td1 hn1 hT1 y3 ho g0 g3=> ?_
 refine OT_.w hT1 (by omega) ?_
 simp only[Tg,Ad,W_oS,W_on,Aa,W_mv,Ac,Ah,Ag,Af,g0,g3,B5 AE]
 rw[Gm (l:=0) (h:=b.length) AE rfl rfl (Nat.zero_le _) (by rw[Nat.mod_eq_of_lt (Bh (by omega))];omega) (DX (Bh (by omega)))]
 try simp only[Ad,W_oS,W_on,Aa,W_mv,Ac,AJ,T.get_set,Ah,Ag,A8,A2,Af,Ar,reduceIte,Ax,Bp,Ba,Bv,A5,A9,Bb,Bo,AA,Bg,Nat.reduceEqDiff,reduceCtorEq, ↓reduceIte]
 rw[if_pos (by rw[Nat.mod_eq_of_lt (Bh (by omega))];omega)]
 refine W.end' (rs:=[2]) (vs:=[.slice (some ⟨s.next,0,none⟩) b.length (b.length+3)]) rfl (.inl Zv_) (by omega) Ee_ OU_ y3.cx (by simp[T.get_set]) ?_
 rw[JZ_]at ho
 refine q _ y3.cx' (fun i u e=>(ho i u e).same rfl rfl) ?_
 have hl:(u8l (CN b)).length=b.length+3:=by rw[A6,Lk]
 have:=(ho (b.length+2) _ (List.getElem?_eq_getElem (by rw[hl];omega))).1
 show s.next+b.length+3≤s1.next
 omega
theorem IX_ {E:Env}{t:Nat}{s:St}{sz n c:Nat}{a:Addr}(h:slN E t=some sz)(hc:c<capU)(Q:Value→St→Prop):W (Az E .cap [t] [.slice (some a) n c]) s Q=Q (.int .i64 (c:Nat)) s:=by
 obtain⟨i,e,ie,h1,h2,h3,h4⟩:=Fw h
 refine Bl ?_
 show aCap E t (.slice (some a) n c) s=_
 unfold aCap
 rw[Br (show ti E t s= .some i s by unfold ti;rw[h1];rfl)]
 simp only[h2]
 rw[BV hc]
 show pN c s=_
 unfold pN
 rw[AB]
 rfl
theorem QN_ {v:Value}{b:List Nat}{L n:Nat}{s:St}{Q:Value→St→Prop}(hbd:s.lim≤s.next)(hb:Bs s v b)(hz:b.length≤100000)(hL:Row s L 0 (u8l (CN b)))(hn:100≤n)
  (q: ∀s1,Ext Any Non s s1→Q (.bool true) s1):W (Ai envS (runF envS n) 23 [.slice (some ⟨L,0,none⟩) b.length (b.length+3),v]) s Q:=by
 refine Lu_ fun tm h0 h1=> ?_
 have hb0:(s.cxN cxN).lim≤(s.cxN cxN).next:=hbd
 refine Nl_.w rfl (by omega) ?_
 simp only[RO,Aa,W_mv,Ac]
 refine QX_.w rfl (by omega) ?_
 have hU:b.length+3<capU:=Bh (by omega)
 have hmod:(b.length+3)%capU=b.length+3:=Nat.mod_eq_of_lt hU
 have e1:wrap64 (((b.length:Nat):Int)+3)=((b.length+3:Nat):Int):=by
  rw[AP (by omega) (by omega)];simp
 have hlen: ∀(s:St) (Q:Value→St→Prop),W (Az envS .len [22] [v]) s Q=Q (.int .i64 (b.length:Nat)) s:=fun s Q=>by
  obtain⟨p,c,rfl⟩:=hb.sl
  exact B5 AE Q
 simp only[Gw_,T.get_set,Nat.reduceEqDiff, ↓reduceIte,h0,h1,BG,Ck,Ah,Ag,Af,Dc,Ap]
 rw[W_dq fun s Q=>B5 AE Q]
 simp only[Ap]
 rw[W_dq hlen]
 simp only[Ap]
 rw[W_dq fun s Q=>Fl _ _]
 simp only[decide_true,Ax,Bp,Cw,if_t,Ap]
 rw[W_dq fun s Q=>IX_ AE hU Q]
 simp only[Ap]
 rw[W_dq fun s Q=>Gm (s:=s) (l:=0) (h:=b.length+3) AE rfl rfl (Nat.zero_le _) (by rw[hmod];exact Nat.le_refl _) (DX hU) Q]
 rw[if_pos (by rw[hmod];omega)]
 simp only[Ap]
 refine W.dop (FO_ (s:=oSt s.mem s.next) (Nat.le_refl _) (hb.same rfl rfl) hz (by omega) fun s1 x1 o1 l1=>⟨_,x1,fun rd1 hr1=> ?_⟩)
 simp only[Ap]
 rw[W_dq hlen]
 simp only[Ap]
 rw[W_dq fun s Q=>By (s:=s) _ _,e1]
 rw[W_dq fun s Q=>Gm (s:=s) (l:=0) (h:=b.length+3) AE rfl rfl (Nat.zero_le _) (by rw[hmod];exact Nat.le_refl _) (DX hU) Q]
 rw[if_pos (by rw[hmod];omega)]
 have o1':Ae s1 s.next 0 (u8l (CN b)):=o1
 have hsub: ∀(s2:St) (B:Nat),Row s2 B 0 (u8l (CN b))→Bs s2 (.slice (some ⟨B,0+0*1,none⟩) (b.length+3-0) (b.length+3-0)) (CN b):=fun s2 B h=> .inr ⟨B,0,b.length+3,by rw[Lk,Nat.zero_mul,Nat.sub_zero],by rw[hmod,Lk];exact Nat.le_refl _,DX hU,h⟩
 refine W.dop (Gx_ (s:=oSt s1.mem s1.next) (Nat.le_refl _) (hsub _ L fun i u e=>((((hL i u e).same (s':=oSt s.mem s.next) rfl rfl).ext0 x1).same rfl rfl)) (hsub _ s.next fun i u e=>((o1' i u e).same (s':=oSt s1.mem s1.next) rfl rfl).at') (by omega) fun s2 x2 m2 n2=>⟨_,x2,fun rd2 hr2=> ?_⟩)
 rw[W_dq fun s Q=>AA (s:=s) _ _ _ _]
 simp only[reduceIte,Aa]
 have hn1:s.next≤s1.next:=x1.nxt
 have hn2:s2.next=s1.next:=n2
 refine⟨EJ ?_, ?_⟩
 ·simp only[List.reverse_cons,List.reverse_nil,List.nil_append,List.cons_append,allP,Dm,List.take,D9]
  simp+contextual [hn2]
  exact .inl rfl
 ·refine W.cast (Lq_ ..) ?_
  simp only[Ad,W_oS,Aa,AJ]
  generalize hs3:(⟨(dSt s2.mem s2.next).mem,(dSt s2.mem s2.next).next,(s.cxN cxN).lim,_,_,(s.cxN cxN).cx⟩:St)=s3
  have hx:Ext Any Non (s.cxN cxN) s3:=by
   rw[←hs3]
   refine Ext.draw (by show s.next≤s2.next;omega) (fun x hx=> ?_) ?_ fun _ _ _ _ _=>trivial
   ·have e2:T.get s1.mem x=T.get s.mem x:=x1.mem x hx id
    have e3:T.get s2.mem x=T.get s1.mem x:=x2.mem x (by show x<s1.next;exact Nat.lt_of_lt_of_le hx hn1) id
    exact e3.trans e2
   ·simp
  refine W.end' (rs:=[4]) (vs:=[.bool true]) rfl (.inl SL_) (by omega) En_ Wk_ hx.cx (by simp[T.get_set]) ?_
  exact q _ hx.cx'
theorem Ext.go {F:Nat→Prop}{F' G':Nat→Prop}{s s1 s2:St}(h:Ext F Non s s1)(k:Ext F' G' s1 s2)(hb:s.lim≤s.next)(hF: ∀y,F' y→F y∨s.next≤y)(hG: ∀y,G' y→s.next≤y):Ext F Non s s2:=
 h.step k hb (fun y hy h=>(hF y h).elim id fun h1=>absurd hy (by omega)) hG
theorem Bs.lt' {s:St}{v:Value}{l:List Nat}(h:Bs s v l): ∀x,BsF v x→x<s.next:=by
 rcases h with⟨rfl,_⟩|⟨b,o,c,rfl,_,_,h3⟩
 ·intro x h
  exact h.elim
 ·intro x hx
  have h1:b+o≤x:=hx.1
  have h2:x<b+o+l.length:=hx.2
  have:=(h3 (x-(b+o)) _ (List.getElem?_eq_getElem (by rw[A6];omega))).1
  omega
def NoMk (s:St)(x:Value)(r:List Nat)(n0 n1:Nat):Prop:=(x= .slice none 0 0∧r=[])∨ ∃nb,MkG s x r nb∧0<r.length∧r.length≤2000∧n0≤nb∧nb+r.length<n1
theorem NoMk.bs {s:St}{x:Value}{r:List Nat}{n0 n1:Nat}(h:NoMk s x r n0 n1):Bs s x r:=by
 rcases h with⟨h1,h2⟩|⟨nb,h,_,h2,_⟩
 ·exact .inl ⟨h1,h2⟩
 ·exact(h.bn (by omega)).bs
theorem NoMk.lo {s:St}{x:Value}{r:List Nat}{n0 n1:Nat}(h:NoMk s x r n0 n1): ∀y,BsF x y→n0≤y:=fun y hy=>by
 rcases h with⟨rfl,_⟩|⟨nb,h,_,_,h3,_⟩
 ·exact hy.elim
 ·rw[h.val]at hy
  have:=hy.1
  omega
theorem NoMk.ext {F G:Nat→Prop}{s s':St}{x:Value}{r:List Nat}{n0 n1:Nat}(h:NoMk s x r n0 n1)(e:Ext F G s s')(hG: ∀y,n0≤y→y<n1→ ¬G y):NoMk s' x r n0 n1:=by
 rcases h with h|⟨nb,h,h1,h2,h3,h4⟩
 ·exact .inl h
 ·refine .inr ⟨nb,h.ext e fun y hy=>hG y (by have:=hy.1;omega) (by have:=hy.2;omega),h1,h2,h3,h4⟩
end Go.Proofs.Ytofanlcjeohcjaa.Am
