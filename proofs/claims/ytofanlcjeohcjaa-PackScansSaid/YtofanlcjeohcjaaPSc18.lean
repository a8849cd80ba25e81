import Derived.Test.YtofanlcjeohcjaaPSc17
import Derived.Test.YtofanlcjeohcjaaPSc07
import Derived.Test.YtofanlcjeohcjaaPSc08
namespace Go.Proofs.Ytofanlcjeohcjaa.Am
open Go.RowKit
theorem Or_:Du envS 97=some (List.replicate 16 (.int .u8 0)++[.int .i64 0, .int .i64 0, .bool false, .int .i64 0]):=by kernel_rfl
theorem Ld_:tyS envS 97=some (20,true):=by kernel_rfl
theorem OF_:fldN envS 97 0=some (0,18,true):=by kernel_rfl
theorem Ky_:fldN envS 97 1=some (18,1,false):=by kernel_rfl
theorem CM_:fldN envS 97 2=some (19,1,false):=by kernel_rfl
theorem GY:tyS envS 35=some (18,true):=by kernel_rfl
theorem B4:tyS envS 3=some (1,false):=by kernel_rfl
theorem Kk_:tyS envS 4=some (1,false):=by kernel_rfl
theorem Ig:tyS envS 36=some (1,false):=by kernel_rfl
theorem Jn:elT envS 36=some (18,32,List.replicate 16 (.int .u8 0)++[.int .i64 0, .int .i64 0]):=by kernel_rfl
theorem H9:appT envS 36 36=some (18,32,false,List.replicate 16 (.int .u8 0)++[.int .i64 0, .int .i64 0]):=by kernel_rfl
theorem AaT_:Du envS 36=some [.slice none 0 0]:=by kernel_rfl
theorem Ms:Du envS 3=some [.int .i64 0]:=by kernel_rfl
abbrev Hd:Type:=List Nat×Nat×Nat
def AI (h:Hd):List Value:=u8l h.1++[.int .i64 (h.2.1:Nat), .int .i64 (h.2.2:Nat)]
theorem DZ {h:Hd}(h16:h.1.length=16):(AI h).length=18:=by
 unfold AI
 rw[List.length_append,A6,h16]
 rfl
theorem It (h:Hd):(AI h).all oneCell=true:=by
 unfold AI
 rw[List.all_append,BT]
 rfl
def Bu:List Hd→List Value
 |[]=>[]
 |h::l=>AI h++Bu l
theorem J6: ∀{l:List Hd},(∀h∈l,h.1.length=16)→(Bu l).length=l.length*18
 |[],_=>rfl
 |h::l,hl=>by
  unfold Bu
  rw[List.length_append,DZ (hl h (by simp)),J6 fun x hx=>hl x (by simp[hx]),List.length_cons]
  omega
theorem Mr (h:Hd): ∀l:List Hd,Bu (l++[h])=Bu l++AI h
 |[]=>by show AI h++[]=_;rw[List.append_nil];rfl
 |x::l=>by
  show AI x++Bu (l++[h])=(AI x++Bu l)++AI h
  rw[Mr h l,List.append_assoc]
def recC (h:Hd)(good:Bool)(rest:Int):List Value:=AI h++[.bool good, .int .i64 rest]
theorem YO {h:Hd}(h16:h.1.length=16)(g:Bool)(r:Int):(recC h g r).length=20:=by
 unfold recC
 rw[List.length_append,DZ h16]
 rfl
theorem VJ_ (h:Hd)(g:Bool)(r:Int):(recC h g r).all oneCell=true:=by
 unfold recC
 rw[List.all_append,It]
 rfl
theorem PT {h:Hd}(h16:h.1.length=16)(g:Bool)(r:Int):(recC h g r)[18]?=some (.bool g)∧(recC h g r)[19]?=some (.int .i64 r):=by
 unfold recC
 have:=DZ h16
 constructor
 ·rw[List.getElem?_append_right (by omega),this];rfl
 ·rw[List.getElem?_append_right (by omega),this];rfl
def C8 (s:St)(D:Nat)(v:Value)(hs:List Hd):Prop:=(v= .slice none 0 0∧hs=[])∨ ∃b,D+2≤b∧Marked s 18 hs.length (Bu hs) v b∧hs≠[]
noncomputable abbrev scanL (tm:T Value)(st:LoopState)(D:Nat):AObj:= .loop st none 24 EC B3 tm [10,11] Ko KY D
structure ScI (A D:Nat)(tm:T Value)(st:LoopState)(s:St)(hs:List Hd)(bad size rest:Nat):Prop where
 lo:Obj s (D+1) (scanL tm st D)
 de:Obj s D (.deferred (some []))
 c2: ∃v,Own s A 0 v∧C8 s D v hs
 c3:Own s (A+2) 0 (.int .i64 (size:Nat))
 c4:Own s (A+4) 0 (.int .i64 (bad:Nat))
 c5:Own s (A+6) 0 (.int .i64 (rest:Nat))
 all16: ∀h∈hs,h.1.length=16
 sep:A+8≤D
abbrev ScZ (A D:Nat):Nat→Prop:=fun x=>A≤x∧(x<A+8∨D+1≤x)
theorem C8.ext {F G:Nat→Prop}{s s':St}{D:Nat}{v:Value}{hs:List Hd}(h:C8 s D v hs)(e:Ext F G s s')(hG: ∀x,D+2≤x→x<s.next→ ¬G x):C8 s' D v hs:=by
 rcases h with h|⟨b,h1,h2,h3⟩
 ·exact .inl h
 ·refine .inr ⟨b,h1,h2.ext e fun x hx=>hG x (by have:=hx.1;omega) ?_,h3⟩
  have h4:=h2.lt
  have h5:x<b+0+(hs.length*18+1):=hx.2
  omega
theorem ScI.ext0 {F:Nat→Prop}{A D:Nat}{tm:T Value}{st:LoopState}{s s':St}{hs:List Hd}{bad size rest:Nat}(h:ScI A D tm st s hs bad size rest)(e:Ext F Non s s'):ScI A D tm st s' hs bad size rest:=
 ⟨h.lo.ext e id,h.de.ext e id,let ⟨v,h1,h2⟩:=h.c2;⟨v,h1.ext0 e,h2.ext e fun _ _ _=>id⟩,h.c3.ext0 e,h.c4.ext0 e,h.c5.ext0 e,h.all16,h.sep⟩
theorem C8.same {s s':St}{D:Nat}{v:Value}{hs:List Hd}(h:C8 s D v hs)(hm:s'.mem=s.mem)(hn:s'.next=s.next):C8 s' D v hs:=by
 rcases h with h|⟨b,h1,h2,h3⟩
 ·exact .inl h
 ·exact .inr ⟨b,h1,h2.same hm hn,h3⟩
theorem ScI.same {A D:Nat}{tm:T Value}{st:LoopState}{s s':St}{hs:List Hd}{bad size rest:Nat}(h:ScI A D tm st s hs bad size rest)(hm:s'.mem=s.mem)(hn:s'.next=s.next):ScI A D tm st s' hs bad size rest:=
 ⟨h.lo.same hm hn,h.de.same hm hn,let ⟨v,h1,h2⟩:=h.c2;⟨v,h1.same hm hn,h2.same hm hn⟩,h.c3.same hm hn,h.c4.same hm hn,h.c5.same hm hn,h.all16,h.sep⟩
theorem ScI.turn {A D:Nat}{tm:T Value}{st st':LoopState}{s:St}{hs:List Hd}{bad size rest:Nat}(h:ScI A D tm st s hs bad size rest):ScI A D tm st' ((s.rdN (D+1)).wrN (D+1) (.O (scanL tm st' D))) hs bad size rest:=by
 have e:Ext (fun x=>x=D+1) (fun x=>x=D+1) s ((s.rdN (D+1)).wrN (D+1) (.O (scanL tm st' D))):=by
  obtain⟨d1,p1,p2⟩:=(Ext.rdN (F:=fun x=>x=D+1) (G:=fun x=>x=D+1) s (D+1) fun _=>rfl).rd
  obtain⟨d2,p3,p4⟩:=(Ext.wrN (F:=fun x=>x=D+1) (G:=fun x=>x=D+1) (s.rdN (D+1)) (D+1) (.O (scanL tm st' D)) rfl).wr
  refine⟨Nat.le_refl _,rfl,rfl,fun x _ hx=> ?_,⟨d1,p1,p2⟩,⟨d2,p3,p4⟩⟩
  show T.get (T.set s.mem (D+1) _) x=_
  rw[T.get_set,if_neg]
  exact hx
 have hD:=h.de.1
 have sep:=h.sep
 refine⟨⟨h.lo.1, ?_⟩,h.de.ext e (by omega), ?_,h.c3.ext e (by omega),h.c4.ext e (by omega),h.c5.ext e (by omega),h.all16,h.sep⟩
 ·show T.get (T.set s.mem (D+1) _) (D+1)=_
  rw[T.get_set,if_pos rfl]
 ·obtain⟨v,h1,h2⟩:=h.c2
  exact⟨v,h1.ext e (by omega),h2.ext e fun x hx _ hq=>by omega⟩
theorem ML {A D:Nat}{s:St}(c:Cell)(h:A+8≤D):Ext (ScZ A D) (ScZ A D) s ((s.rdN (D+1)).wrN (D+1) c):=by
 obtain⟨d1,p1,p2⟩:=(Ext.rdN (F:=ScZ A D) (G:=ScZ A D) s (D+1) fun _=>⟨by omega, .inr (by omega)⟩).rd
 obtain⟨d2,p3,p4⟩:=(Ext.wrN (F:=ScZ A D) (G:=ScZ A D) (s.rdN (D+1)) (D+1) c ⟨by omega, .inr (by omega)⟩).wr
 refine⟨Nat.le_refl _,rfl,rfl,fun x _ hx=> ?_,⟨d1,p1,p2⟩,⟨d2,p3,p4⟩⟩
 show T.get (T.set s.mem (D+1) _) x=_
 rw[T.get_set,if_neg]
 intro h2
 exact hx ⟨by omega, .inr (by omega)⟩
theorem JG_:Nat.testBit B3 10=true:=by kernel_rfl
theorem Zg_:Nat.testBit B3 11=true:=by kernel_rfl
theorem Aau_ (a b:Value)(tm:T Value):GP B3 [10,11] [a,b] tm=T.set (T.set tm 10 a) 11 b:=by
 show putG B3 11 b (putG B3 10 a tm)=_
 unfold putG
 rw[JG_,Zg_]
theorem RI_:Hu=[]:=by kernel_rfl
theorem Ok_:skim 64 [.code Ko, .beginRound, .code KY]=OS:=by rw[←Ro_];exact rfl
theorem Na {A D n:Nat}{tm tm':T Value}{td:List Item}{s:St}{hs:List Hd}{bad size rest:Nat}{Q:Value×FrameMode→St→Prop}(h:ScI A D tm .busy s hs bad size rest)(hT:skim 64 td=Hu)(hn:1≤n)
  (q: ∀s1,ScI A D tm .ready s1 hs bad size rest→Ext (ScZ A D) (ScZ A D) s s1→s1.next=s.next→Q (.bool true, .run) s1):W (runF envS n ⟨24,EC,B3,tm',td, .run, .normal,some (D+1)⟩) s Q:=by
 rw[RI_]at hT
 exact W.endR hT h.lo (by omega) (q _ h.turn (ML _ h.sep) rfl)
structure ScF (A R:Nat)(at':Nat)(tm:T Value):Prop where
 t2:T.get tm 2=some (.pointer (some ⟨A,0,none⟩))
 t3:T.get tm 3=some (.pointer (some ⟨A+2,0,none⟩))
 t4:T.get tm 4=some (.pointer (some ⟨A+4,0,none⟩))
 t5:T.get tm 5=some (.pointer (some ⟨A+6,0,none⟩))
 t6:T.get tm 6=some (.int .i64 (at':Nat))
 t7:T.get tm 7=some (.pointer (some ⟨R,0,none⟩))
theorem In1 {b x:Nat}:In b 0 1 x↔x=b:=⟨fun h=>by have:=h.1;have:=h.2;omega,fun h=>⟨by omega,by omega⟩⟩
theorem KX_ {A D R n at' r:Nat}{h:Hd}{g:Bool}{tm tm':T Value}{td:List Item}{s:St}{hs:List Hd}{bad size rest:Nat}{Q:Value×FrameMode→St→Prop}(hb:s.lim≤s.next)(hI:ScI A D tm .busy s hs bad size rest)(hF:ScF A R at' tm')(h16:h.1.length=16)(hR:Ae s R 0 (recC h g (r:Nat)))(hRD:D+2≤R)(hT:skim 64 td=JH)(hn:10≤n)
  (q: ∀s1,ScI A D tm .ready s1 hs bad at' r→Ext (ScZ A D) (ScZ A D) s s1→Q (.bool true, .run) s1):W (runF envS n ⟨24,EC,B3,tm',td, .run, .normal,some (D+1)⟩) s Q:=by
 have sep:=hI.sep
 refine MP_.w hT (by omega) ?_
 simp -implicitDefEqProofs only[RR,hF.t3,hF.t6,hF.t7,BG,Ap]
 rw[W_dq fun s Q=>BW (s:=s) CM_ (by decide) Q]
 have hr19:Own (dSt s.mem s.next) R (0+19) (.int .i64 (r:Nat)):=(hR 19 _ (PT h16 g _).2).same rfl rfl
 refine W.dload B4 hr19.at' fun rd1 hr1=> ?_
 have h3:Own (oSt s.mem s.next) (A+2) 0 (.int .i64 (size:Nat)):=hI.c3.same rfl rfl
 refine W.dopG (W.store1 B4 rfl h3 fun s2 n2 x2 o2=>⟨In (A+2) 0 1,In (A+2) 0 1,x2,fun rd2 wr2 hr2 hw2=> ?_⟩)
 rw[Aa]
 have n2':s2.next=s.next:=n2
 have lt:=hI.lo.1
 have hRn:R+19<s.next:=by have:=hr19.1;have h0:(dSt s.mem s.next).next=s.next:=rfl;omega
 refine⟨EJ ?_, ?_⟩
 ·simp -implicitDefEqProofs only[List.reverse_cons,List.reverse_nil,List.nil_append,List.cons_append,allP,Dm,List.take,D9]
  have f1: ∀x,x∈rd1→ ¬s.next≤x:=fun x hx=>by have:=hr1 x hx;omega
  have f2: ∀x,x∈rd2→ ¬s.next≤x:=fun x hx=>Nat.not_le_of_lt (hr2 x hx).1
  have g2: ∀x,x∈wr2→ ¬s.next≤x:=fun x hx=>Nat.not_le_of_lt (hw2 x hx).1
  have d21: ∀x,x∈wr2→ ¬x∈rd1:=fun x hx hy=>by
   have h1:=In1.1 (hw2 x hx).2
   have h2:=hr1 x hy
   omega
  simp+contextual [f1,f2,g2,d21]
 ·refine W.cast (AbU_ _ _ _ _ _ _ _ _) ?_
  simp -implicitDefEqProofs only[hF.t5,BG]
  have hx2: ∀s',s'.mem=s2.mem→s'.next=s2.next→Ext (ScZ A D) (ScZ A D) s s'→ScI A D tm .busy s' hs bad at' rest:=fun s' e1 e2 hx=>by
   have own: ∀(b o:Nat) (v:Value),b+o≠A+2→Own s b o v→Own s' b o v:=fun b o v hne hv=>((hv.same (s':=oSt s.mem s.next) rfl rfl).ext x2 fun h=>hne (In1.1 h)).same e1 e2
   refine⟨?_, ?_, ?_,o2.same e1 e2,own _ _ _ (by omega) hI.c4,own _ _ _ (by omega) hI.c5,hI.all16,sep⟩
   ·exact((hI.lo.same (s':=oSt s.mem s.next) rfl rfl).ext x2 fun h=>by have:=In1.1 h;omega).same e1 e2
   ·exact((hI.de.same (s':=oSt s.mem s.next) rfl rfl).ext x2 fun h=>by have:=In1.1 h;omega).same e1 e2
   ·obtain⟨v,c1,c2⟩:=hI.c2
    refine⟨v,own _ _ _ (by omega) c1, ?_⟩
    exact((c2.same (s':=oSt s.mem s.next) rfl rfl).ext x2 fun x hx _ h=>by have:=In1.1 h;omega).same e1 e2
  generalize hs':(⟨(dSt s2.mem s2.next).mem,(dSt s2.mem s2.next).next,s.lim,_,_,s.cx⟩:St)=s'
  have hx':Ext (ScZ A D) (ScZ A D) s s':=by
   rw[←hs']
   refine Ext.drawG (by rw[n2'];exact Nat.le_refl _) (fun x hx hg=>x2.mem x hx fun h=>hg ⟨by have:=In1.1 h;omega, .inl (by have:=In1.1 h;omega)⟩) ?_ ?_
   ·simp -implicitDefEqProofs only[List.mem_cons,List.not_mem_nil,or_false]
    rintro m (rfl|rfl|rfl|rfl) x hx _<;>first|(cases hx;done)|(have:=In1.1 (hw2 x hx).2;exact⟨by omega, .inl (by omega)⟩)
   ·simp -implicitDefEqProofs only[List.mem_cons,List.not_mem_nil,or_false]
    rintro m (rfl|rfl|rfl|rfl) x hx _<;>first|(cases hx;done)|(have:=hr1 x hx;exact⟨by omega, .inr (by omega)⟩)|(have:=In1.1 (hr2 x hx).2;exact⟨by omega, .inl (by omega)⟩)
  have hI':=hx2 s' (by rw[←hs'];rfl) (by rw[←hs'];rfl) hx'
  refine W.bind (W.store1 B4 rfl hI'.c5 fun s3 n3 x3 o3=>W.pure ?_)
  have own: ∀(b o:Nat) (v:Value),b+o≠A+6→Own s' b o v→Own s3 b o v:=fun b o v hne hv=>hv.ext x3 fun h=>hne (In1.1 h)
  have hI3:ScI A D tm .busy s3 hs bad at' r:=by
   refine⟨hI'.lo.ext x3 fun h=>by have:=In1.1 h;omega,hI'.de.ext x3 fun h=>by have:=In1.1 h;omega, ?_,own _ _ _ (by omega) hI'.c3,own _ _ _ (by omega) hI'.c4,o3,hI.all16,sep⟩
   obtain⟨v,c1,c2⟩:=hI'.c2
   exact⟨v,own _ _ _ (by omega) c1,c2.ext x3 fun x hx _ h=>by have:=In1.1 h;omega⟩
  have hx3:Ext (ScZ A D) (ScZ A D) s s3:=hx'.trans x3 hb (fun x _ h=>⟨by have:=In1.1 h;omega, .inl (by have:=In1.1 h;omega)⟩) fun x _ h=>⟨by have:=In1.1 h;omega, .inl (by have:=In1.1 h;omega)⟩
  refine Na hI3 rfl (by omega) fun s4 hI4 x4 _=> ?_
  exact q s4 hI4 (hx3.trans x4 hb (fun _ _ h=>h) fun _ _ h=>h)
theorem Og_ {A D R n at':Nat}{tm tm':T Value}{td:List Item}{s:St}{hs:List Hd}{bad size rest:Nat}{Q:Value×FrameMode→St→Prop}(hb:s.lim≤s.next)(hI:ScI A D tm .busy s hs bad size rest)(hF:ScF A R at' tm')(hbad:bad≤1000000)(hT:skim 64 td=PH)(hn:10≤n)
  (q: ∀s1,ScI A D tm .ready s1 hs (bad+1) size rest→Ext (ScZ A D) (ScZ A D) s s1→Q (.bool true, .run) s1):W (runF envS n ⟨24,EC,B3,tm',td, .run, .normal,some (D+1)⟩) s Q:=by
 have sep:=hI.sep
 refine PO_.w hT (by omega) ?_
 have e1:wrap64 (((bad:Nat):Int)+1)=((bad+1:Nat):Int):=by
  rw[AP (by omega) (by omega)];omega
 simp -implicitDefEqProofs only[QI,Ad,W_oS,Aa,hF.t4]
 refine W.load1 B4 hI.c4.at' ?_
 simp -implicitDefEqProofs only[By,e1]
 have hx1:Ext (ScZ A D) (ScZ A D) s (s.rdN (A+4+0)):=Ext.rdN s _ fun _=>⟨by omega, .inl (by omega)⟩
 have hI1:ScI A D tm .busy (s.rdN (A+4+0)) hs bad size rest:=hI.same rfl rfl
 generalize s.rdN (A+4+0)=s' at hx1 hI1
 refine W.store1 B4 rfl hI1.c4 fun s3 n3 x3 o3=> ?_
 have own: ∀(b o:Nat) (v:Value),b+o≠A+4→Own s' b o v→Own s3 b o v:=fun b o v hne hv=>hv.ext x3 fun h=>hne (In1.1 h)
 have hI3:ScI A D tm .busy s3 hs (bad+1) size rest:=by
  refine⟨hI1.lo.ext x3 fun h=>by have:=In1.1 h;omega,hI1.de.ext x3 fun h=>by have:=In1.1 h;omega, ?_,own _ _ _ (by omega) hI1.c3,o3,own _ _ _ (by omega) hI1.c5,hI.all16,sep⟩
  obtain⟨v,c1,c2⟩:=hI1.c2
  exact⟨v,own _ _ _ (by omega) c1,c2.ext x3 fun x hx _ h=>by have:=In1.1 h;omega⟩
 have hx3:Ext (ScZ A D) (ScZ A D) s s3:=hx1.trans x3 hb (fun x _ h=>⟨by have:=In1.1 h;omega, .inl (by have:=In1.1 h;omega)⟩) fun x _ h=>⟨by have:=In1.1 h;omega, .inl (by have:=In1.1 h;omega)⟩
 refine Na hI3 Vv_ (by omega) fun s4 hI4 x4 _=> ?_
 exact q s4 hI4 (hx3.trans x4 hb (fun _ _ h=>h) fun _ _ h=>h)
theorem Bo_ {id:List Nat}(h:id.length=16)(a b:Nat):DQ (fun k=>some (k*18,18)) [(0, .agg (AI (id,a,b)).toArray)] (rep 1 (List.replicate 16 (.int .u8 0)++[.int .i64 0, .int .i64 0]))=some (AI (id,a,b)):=by
 match id,h with
 |[x0,x1,x2,x3,x4,x5,x6,x7,x8,x9,x10,x11,x12,x13,x14,x15],_=>rfl
theorem Wn_ {A D R n at':Nat}{h:Hd}{g:Bool}{r:Int}{tm tm':T Value}{td:List Item}{s:St}{hs:List Hd}{bad size rest:Nat}{Q:Value×FrameMode→St→Prop}(hb:s.lim≤s.next)(hI:ScI A D tm .busy s hs bad size rest)(hF:ScF A R at' tm')(h16:h.1.length=16)(hR:Ae s R 0 (recC h g r))(hRD:D+2≤R)(hmany:hs.length≤10000)(hT:skim 64 td=NJ)(hn:10≤n)
  (q: ∀s1,ScI A D tm .ready s1 (hs++[h]) bad size rest→Ext (ScZ A D) (ScZ A D) s s1→Q (.bool true, .run) s1):W (runF envS n ⟨24,EC,B3,tm',td, .run, .normal,some (D+1)⟩) s Q:=by
 have sep:=hI.sep
 have hRl:(recC h g r).length=20:=YO h16 g r
 have hRn:R+19<s.next:=by
  have:=(hR 19 _ (List.getElem?_eq_getElem (show 19<(recC h g r).length by omega))).1
  omega
 refine WF_.w hT (by omega) ?_
 obtain⟨v,c1,c2⟩:=hI.c2
 simp -implicitDefEqProofs only[GM_,Ad,W_oS,Aa,Ah,Ag,A8,A2,Af,hF.t2,hF.t7]
 refine W.load1 Ig c1.at' ?_
 have hx1:Ext (ScZ A D) (ScZ A D) s (s.rdN (A+0)):=Ext.rdN s _ fun _=>⟨by omega, .inl (by omega)⟩
 have hI1:ScI A D tm .busy (s.rdN (A+0)) hs bad size rest:=hI.same rfl rfl
 have c11:Own (s.rdN (A+0)) A 0 v:=c1.same rfl rfl
 have c21:C8 (s.rdN (A+0)) D v hs:=c2.same rfl rfl
 have hR1:Ae (s.rdN (A+0)) R 0 (recC h g r):=fun i v e=>(hR i v e).same rfl rfl
 have hs1:(s.rdN (A+0)).next=s.next:=rfl
 generalize s.rdN (A+0)=s1 at hx1 hI1 c11 c21 hR1 hs1
 rw[BW OF_ (by decide)]
 have hl18:(AI h).length=18:=DZ h16
 have hRh:Ae s1 R (0+0) (AI h):=by
  have:=hR1.take (n:=18)
  have e:(recC h g r).take 18=AI h:=by
   unfold recC
   rw[←hl18,List.take_left]
  rw[e]at this
  exact this
 refine W.loadA GY hRh.row hl18 fun s2 m2 n2 x2=> ?_
 have hx2:Ext (ScZ A D) (ScZ A D) s s2:=hx1.trans x2 hb (fun x _ h=>⟨by have:=h.1;omega, .inr (by have:=h.1;omega)⟩) fun _ _ h=>h.elim
 have hI2:ScI A D tm .busy s2 hs bad size rest:=hI1.same m2 n2
 have c12:Own s2 A 0 v:=c11.same m2 n2
 have c22:C8 s2 D v hs:=c21.same m2 n2
 have hb2:s2.lim≤s2.next:=hx2.bnd hb
 have n2':s2.next=s.next:=n2.trans hs1
 obtain⟨id,ha,hz⟩:=h
 try simp -implicitDefEqProofs only[Ad,W_oS,W_on,Aa,W_mv,Ac,AJ,T.get_set,Ah,Ag,A8,A2,Af,Ar,reduceIte,Ax,Bp,Ba,Bv,A5,A9,Bb,Bo,AA,Bg,Nat.reduceEqDiff,reduceCtorEq, ↓reduceIte]
 refine W.buildS hb2 (r:=AI (id,ha,hz)) Jn (by decide) (Bo_ h16 ha hz) (Bh (by decide)) fun s3 n3 x3 o3=> ?_
 have n3':s3.next=s.next+19:=by rw[n3,hl18,n2']
 have hx3:Ext (ScZ A D) (ScZ A D) s s3:=hx2.trans x3 hb (fun _ _ h=>h.elim) fun _ _ h=>h.elim
 have hI3:ScI A D tm .busy s3 hs bad size rest:=hI2.ext0 x3
 have c13:Own s3 A 0 v:=c12.ext0 x3
 have c23:C8 s3 D v hs:=c22.ext x3 fun _ _ _ h=>h
 have hb3:s3.lim≤s3.next:=hx3.bnd hb
 simp -implicitDefEqProofs only[Eo]
 have hsrc:SrcG s3 18 32 false (List.replicate 16 (.int .u8 0)++[.int .i64 0, .int .i64 0]) (.slice (some ⟨s2.next,0,none⟩) 1 1) 1 (AI (id,ha,hz)) (In s2.next 0 (1*18)):=(H0 o3.row (by rw[hl18])).g
 have hDs:D+2≤s.next:=by have:=hI.lo.1;omega
 have fin: ∀(s4:St) (v2:Value) (b2:Nat) (n':Nat) (td':List Item) (tm9:T Value),Fresh1 s3 s4 18 (hs.length+1) (Bu hs++AI (id,ha,hz)) v2 b2→Ext (ScZ A D) (ScZ A D) s s4→(∀b o u,b+o<D+2→Own s3 b o u→Own s4 b o u)→(∀l o,l<D+2→Obj s3 l o→Obj s4 l o)→2≤n'→skim 64 td'=Hu→
   W (A7 envS 36 (.pointer (some ⟨A,0,none⟩)) v2) s4 fun _ s5=>W (runF envS n' ⟨24,EC,B3,tm9,td', .run, .normal,some (D+1)⟩) s5 Q:=fun s4 v2 b2 n' td' tm9 hf x4 own obj hn' hT'=>by
  have hb4:s4.lim≤s4.next:=x4.bnd hb
  have hv2:oneCell v2=true:=by rw[hf.val];rfl
  refine W.store1 Ig hv2 (own _ _ _ (by omega) c13) fun s5 n5 x5 o5=> ?_
  have own5: ∀b o u,b+o<D+2→b+o≠A→Own s3 b o u→Own s5 b o u:=fun b o u h1 h2 hu=>(own b o u h1 hu).ext x5 fun h=>h2 (In1.1 h)
  have hI5:ScI A D tm .busy s5 (hs++[(id,ha,hz)]) bad size rest:=by
   refine⟨(obj _ _ (by omega) hI3.lo).ext x5 fun h=>by have:=In1.1 h;omega,(obj _ _ (by omega) hI3.de).ext x5 fun h=>by have:=In1.1 h;omega, ?_,own5 _ _ _ (by omega) (by omega) hI3.c3,own5 _ _ _ (by omega) (by omega) hI3.c4,own5 _ _ _ (by omega) (by omega) hI3.c5, ?_,sep⟩
   ·refine⟨v2,o5, .inr ⟨b2,by have:=hf.new;omega, ?_,by simp⟩⟩
    rw[List.length_append,Mr]
    exact hf.marked.ext x5 fun x hx h=>by
     have h1:=In1.1 h
     have h2:=hx.1
     have h3:=hf.new
     omega
   ·intro y hy
    rcases List.mem_append.1 hy with hy|hy
    ·exact hI.all16 y hy
    ·rw[List.mem_singleton.1 hy];exact h16
  have hx5:Ext (ScZ A D) (ScZ A D) s s5:=x4.trans x5 hb (fun x _ h=>⟨by have:=In1.1 h;omega, .inl (by have:=In1.1 h;omega)⟩) fun x _ h=>⟨by have:=In1.1 h;omega, .inl (by have:=In1.1 h;omega)⟩
  refine Na hI5 hT' (by omega) fun s6 hI6 x6 _=> ?_
  exact q s6 hI6 (hx5.trans x6 hb (fun _ _ h=>h) fun _ _ h=>h)
 rcases c23 with⟨rfl,rfl⟩|⟨b,g1,g2,g3⟩
 ·refine W.appNil hb3 H9 hsrc (by decide) (by decide) (by decide) (by decide) (by rw[hl18]) (It _) fun s4 v2 b2 hf x4=> ?_
  refine fin s4 v2 b2 _ _ _ hf ?_ ?_ ?_ (by omega) RG
  ·exact hx3.trans x4 hb (fun x _ h=>⟨by have:=h.1;omega, .inr (by have:=h.1;omega)⟩) fun _ _ h=>h.elim
  ·exact fun b o u _ hu=>hu.ext0 x4
  ·exact fun l o _ ho=>ho.ext x4 fun h=>h
 ·have hpos:0<hs.length:=by
   cases hs with
   |nil=>exact absurd rfl g3
   |cons _ _=>simp
  refine W.appMark hb3 H9 g2 hsrc (by decide) hpos (by decide) (by decide) (by omega) (by rw[hl18]) (It _) fun s4 v2 b2 hf x4=> ?_
  have hG: ∀x,In b 0 (hs.length*18+1) x→D+2≤x:=fun x h=>by have:=h.1;omega
  refine fin s4 v2 b2 _ _ _ hf ?_ ?_ ?_ (by omega) RG
  ·refine hx3.trans x4 hb (fun x _ h=> ?_) fun x _ h=> ?_
   ·rcases h with h|h
    ·exact⟨by have:=h.1;omega, .inr (by have:=h.1;omega)⟩
    ·have:=hG x h
     exact⟨by omega, .inr (by omega)⟩
   ·have:=hG x h
    exact⟨by omega, .inr (by omega)⟩
  ·exact fun b o u h1 hu=>hu.ext x4 fun h=>by have:=hG _ h;omega
  ·exact fun l o h1 ho=>ho.ext x4 fun h=>by have:=hG _ h;omega
def Ew (hs:List Hd)(bad size rest:Nat)(at':Nat)(h:Hd)(g:Bool)(r:Int):List Hd×Nat×Nat×Nat:=
 if 0≤r then(hs,bad,at',r.toNat)else if g then(hs++[h],bad,size,rest)else(hs,bad+1,size,rest)
theorem DP_ {A D n at':Nat}{h:Hd}{g:Bool}{r:Int}{tm:T Value}{s:St}{hs:List Hd}{bad size rest:Nat}{Q:Value→St→Prop}(hb:s.lim≤s.next)(hI:ScI A D tm .ready s hs bad size rest)(h2:T.get tm 2=some (.pointer (some ⟨A,0,none⟩)))(h3:T.get tm 3=some (.pointer (some ⟨A+2,0,none⟩)))(h4:T.get tm 4=some (.pointer (some ⟨A+4,0,none⟩)))(h5:T.get tm 5=some (.pointer (some ⟨A+6,0,none⟩)))
  (h16:h.1.length=16) (hmany:hs.length≤10000) (hbad:bad≤1000000) (hr1: -10≤r) (hr2:r≤10) (hn:60≤n)
  (q: ∀s1,ScI A D tm .ready s1 (Ew hs bad size rest at' h g r).1 (Ew hs bad size rest at' h g r).2.1 (Ew hs bad size rest at' h g r).2.2.1 (Ew hs bad size rest at' h g r).2.2.2→Ext (ScZ A D) (ScZ A D) s s1→Q (.bool true) s1):
  W (B9 (runF envS n) (D+1) [.int .i64 (at':Nat), .agg (recC h g r).toArray]) s Q:=by
 have sep:=hI.sep
 refine W.round hI.lo rfl (by rfl) ?_
 rw[Aau_]
 have hx0:Ext (ScZ A D) (ScZ A D) s (s.rdN (D+1)):=Ext.rdN s _ fun _=>⟨by omega, .inr (by omega)⟩
 refine PA_.w Ok_ (by omega) ?_
 simp -implicitDefEqProofs only[Cn_,Aa,W_mv,Ac,T.get_set,reduceIte,Nat.reduceEqDiff, ↓reduceIte]
 refine HJ_.w rfl (by omega) ?_
 simp -implicitDefEqProofs only[AU_,Ad,W_oS,Aa,Ac,T.get_set,reduceIte,Nat.reduceEqDiff, ↓reduceIte]
 refine W.alloc Or_ fun s2 n2 x2 o2=> ?_
 have hI0:ScI A D tm .ready ((s.rdN (D+1)).cxN cxR) hs bad size rest:=hI.same rfl rfl
 have hn0:((s.rdN (D+1)).cxN cxR).next=s.next:=rfl
 have hx0':Ext (ScZ A D) (ScZ A D) (s.cxN cxR) ((s.rdN (D+1)).cxN cxR):=Ext.rdN (s.cxN cxR) _ fun _=>⟨by omega, .inr (by omega)⟩
 generalize (s.rdN (D+1)).cxN cxR=s1 at *
 have hb0:(s.cxN cxR).lim≤(s.cxN cxR).next:=hb
 have hx2:Ext (ScZ A D) (ScZ A D) (s.cxN cxR) s2:=hx0'.trans x2 hb0 (fun _ _ h=>h.elim) fun _ _ h=>h.elim
 have hb2:s2.lim≤s2.next:=hx2.bnd hb0
 have hI2:=hI0.ext0 x2
 have hD:D+2≤s.next:=by have:=hI.lo.1;omega
 rw[hn0]at o2 n2
 rw[hn0]
 refine W.store Ld_ (YO h16 g r) (VJ_ h g r) (fun i hi=>(Ae.owned o2) i (by simpa using hi)) fun s3 n3 x3 o3=> ?_
 have hG: ∀x,In s.next 0 20 x→s.next≤x:=fun x h=>by have:=h.1;omega
 have hx3:Ext (ScZ A D) (ScZ A D) (s.cxN cxR) s3:=hx2.trans x3 hb0 (fun x _ h=>⟨by have:=hG x h;omega, .inr (by have:=hG x h;omega)⟩) fun x _ h=>⟨by have:=hG x h;omega, .inr (by have:=hG x h;omega)⟩
 have hlt: ∀(b o:Nat) (u:Value),b+o<s.next→Own s2 b o u→Own s3 b o u:=fun b o u h1 hu=>hu.ext x3 fun h=>by have:=hG _ h;omega
 have hI3:ScI A D tm .ready s3 hs bad size rest:=by
  obtain⟨v,c1,c2⟩:=hI0.c2
  refine⟨hI2.lo.ext x3 fun h=>by have:=hG _ h;omega,hI2.de.ext x3 fun h=>by have:=hG _ h;omega,⟨v,hlt _ _ _ (by omega) (c1.ext0 x2), ?_⟩,hlt _ _ _ (by omega) hI2.c3,hlt _ _ _ (by omega) hI2.c4,hlt _ _ _ (by omega) hI2.c5,hI.all16,sep⟩
  rcases c2 with c2|⟨b,g1,g2,g3⟩
  ·exact .inl c2
  ·refine .inr ⟨b,g1,(g2.ext x2 fun _ _ h=>h).ext x3 fun x hx h=> ?_,g3⟩
   have e1:=hG x h
   have e2:=g2.lt
   have e3:x<b+0+(hs.length*18+1):=hx.2
   omega
 refine W.begR (k:=IL.tail) (rfl.trans Abu_) hI3.lo (by omega) ?_
 have hI4:ScI A D tm .busy _ hs bad size rest:=hI3.turn (st':= .busy)
 have x4:=ML (A:=A) (D:=D) (s:=s3) (.O (scanL tm .busy D)) sep
 have o4:Ae ((s3.rdN (D+1)).wrN (D+1) (.O (scanL tm .busy D))) s.next 0 (recC h g r):=fun i v e=>by
  have:=o3 i v e
  refine⟨this.1, ?_⟩
  show T.get (T.set s3.mem (D+1) _) _=_
  rw[T.get_set,if_neg (by omega)]
  exact this.2
 have hx4:Ext (ScZ A D) (ScZ A D) (s.cxN cxR) ((s3.rdN (D+1)).wrN (D+1) (.O (scanL tm .busy D))):=hx3.trans x4 hb0 (fun _ _ h=>h) fun _ _ h=>h
 show W (runF envS _ _) ((s3.rdN (D+1)).wrN (D+1) (.O (scanL tm .busy D))) _
 generalize (s3.rdN (D+1)).wrN (D+1) (.O (scanL tm .busy D))=s4 at *
 refine JO_.w rfl (by omega) ?_
 simp -implicitDefEqProofs only[SJ,Ad,W_oS,Aa,W_mv,Ac,T.get_set,reduceIte, ↓reduceIte,BW CM_ (by decide:0<1)]
 have hr19:Own s4 s.next (0+19) (.int .i64 r):=o4 19 _ (PT h16 g r).2
 refine W.load1 B4 hr19.at' ?_
 simp -implicitDefEqProofs only[Hr]
 have hR5:s.next+20≤s4.next:=by have:=hr19.1;omega
 have hx5:Ext (ScZ A D) (ScZ A D) (s.cxN cxR) (s4.rdN (s.next+(0+19))):=hx4.trans (Ext.rdN (F:=ScZ A D) (G:=ScZ A D) s4 _ fun _=>⟨by omega, .inr (by omega)⟩) hb0 (fun _ _ h=>h) fun _ _ h=>h
 have hI5:ScI A D tm .busy (s4.rdN (s.next+(0+19))) hs bad size rest:=hI4.same rfl rfl
 have o5:Ae (s4.rdN (s.next+(0+19))) s.next 0 (recC h g r):=fun i v e=>(o4 i v e).same rfl rfl
 generalize s4.rdN (s.next+(0+19))=s5 at *
 have hb5:s5.lim≤s5.next:=hx5.bnd hb0
 have ends: ∀s6,Ext (ScZ A D) (ScZ A D) s5 s6→Ext (ScZ A D) (ScZ A D) s (s6.cxN s.cx):=fun s6 x6=>(hx5.trans x6 hb0 (fun _ _ h=>h) fun _ _ h=>h).cx'
 unfold Ew at q
 by_cases hr:0≤r
 ·rw[if_pos hr]at q
  refine W.cond (v:=true) rfl Dk_ (by simp[T.get_set,hr]) (by omega) (fun _=> ?_) fun h=>by cases h
  obtain⟨m,rfl⟩: ∃m:Nat,r=(m:Int):=⟨r.toNat,by omega⟩
  refine KX_ (R:=s.next) (at':=at') (h:=h) (g:=g) (r:=m) hb5 hI5 ⟨by simp[T.get_set,h2],by simp[T.get_set,h3],by simp[T.get_set,h4],by simp[T.get_set,h5],by simp[T.get_set],by simp[T.get_set]⟩ h16 o5 hD rfl (by omega) fun s6 hI6 x6=> ?_
  exact q _ (hI6.same rfl rfl) (ends s6 x6)
 ·rw[if_neg hr]at q
  refine W.cond (v:=false) rfl Dk_ (by simp[T.get_set];omega) (by omega) (fun h=>by cases h) fun _=> ?_
  refine Uq_.w rfl (by omega) ?_
  simp -implicitDefEqProofs only[EM_,Ad,W_oS,Aa,W_mv,Ac,T.get_set,reduceIte,Nat.reduceEqDiff, ↓reduceIte,BW Ky_ (by decide:0<1)]
  have hr18:Own s5 s.next (0+18) (.bool g):=o5 18 _ (PT h16 g r).1
  refine W.load1 Kk_ hr18.at' ?_
  have hx6:Ext (ScZ A D) (ScZ A D) s5 (s5.rdN (s.next+(0+18))):=Ext.rdN (F:=ScZ A D) (G:=ScZ A D) s5 _ fun _=>⟨by omega, .inr (by omega)⟩
  have hI6:ScI A D tm .busy (s5.rdN (s.next+(0+18))) hs bad size rest:=hI5.same rfl rfl
  have o6:Ae (s5.rdN (s.next+(0+18))) s.next 0 (recC h g r):=fun i v e=>(o5 i v e).same rfl rfl
  have hb6:(s5.rdN (s.next+(0+18))).lim≤(s5.rdN (s.next+(0+18))).next:=hb5
  generalize s5.rdN (s.next+(0+18))=s6 at *
  cases g with
  |true=>
   rw[if_pos rfl]at q
   refine W.cond (v:=true) rfl Vk (by simp[T.get_set]) (by omega) (fun _=> ?_) fun h=>by cases h
   refine Wn_ (R:=s.next) (at':=at') (h:=h) (g:=true) (r:=r) hb6 hI6 ⟨by simp[T.get_set,h2],by simp[T.get_set,h3],by simp[T.get_set,h4],by simp[T.get_set,h5],by simp[T.get_set],by simp[T.get_set]⟩ h16 o6 hD hmany rfl (by omega) fun s7 hI7 x7=> ?_
   exact q _ (hI7.same rfl rfl) (ends s7 (hx6.trans x7 hb5 (fun _ _ h=>h) fun _ _ h=>h))
  |false=>
   rw[if_neg (by decide)]at q
   refine W.cond (v:=false) rfl Vk (by simp[T.get_set]) (by omega) (fun h=>by cases h) fun _=> ?_
   refine Og_ (R:=s.next) (at':=at') hb6 hI6 ⟨by simp[T.get_set,h2],by simp[T.get_set,h3],by simp[T.get_set,h4],by simp[T.get_set,h5],by simp[T.get_set],by simp[T.get_set]⟩ hbad rfl (by omega) fun s7 hI7 x7=> ?_
   exact q _ (hI7.same rfl rfl) (ends s7 (hx6.trans x7 hb5 (fun _ _ h=>h) fun _ _ h=>h))
theorem LR_:Abr_=[]:=by kernel_rfl
theorem Aac_ (r:Nat):Df envS 97 [(2, .int .i64 (r:Nat))]=some [.int .u8 0, .int .u8 0, .int .u8 0, .int .u8 0, .int .u8 0, .int .u8 0, .int .u8 0, .int .u8 0, .int .u8 0, .int .u8 0, .int .u8 0, .int .u8 0, .int .u8 0, .int .u8 0, .int .u8 0, .int .u8 0, .int .i64 0, .int .i64 0, .bool false, .int .i64 (r:Nat)]:=by kernel_rfl
abbrev FZ:List Nat:=List.replicate 16 0
theorem JD_ (r:Nat):recC (FZ,0,0) false (r:Nat)=[.int .u8 0, .int .u8 0, .int .u8 0, .int .u8 0, .int .u8 0, .int .u8 0, .int .u8 0, .int .u8 0, .int .u8 0, .int .u8 0, .int .u8 0, .int .u8 0, .int .u8 0, .int .u8 0, .int .u8 0, .int .u8 0, .int .i64 0, .int .i64 0, .bool false, .int .i64 (r:Nat)]:=rfl
theorem Vf_ (x0 x1 x2 x3 x4 x5 x6 x7 x8 x9 x10 x11 x12 x13 x14 x15 a b:Nat):Df envS 35 [(0, .agg #[u8 x0,u8 x1,u8 x2,u8 x3,u8 x4,u8 x5,u8 x6,u8 x7,u8 x8,u8 x9,u8 x10,u8 x11,u8 x12,u8 x13,u8 x14,u8 x15]),(1, .int .i64 (a:Nat)),(2, .int .i64 (b:Nat))]=some [u8 x0,u8 x1,u8 x2,u8 x3,u8 x4,u8 x5,u8 x6,u8 x7,u8 x8,u8 x9,u8 x10,u8 x11,u8 x12,u8 x13,u8 x14,u8 x15, .int .i64 (a:Nat), .int .i64 (b:Nat)]:=by kernel_rfl
theorem JT_ (x0 x1 x2 x3 x4 x5 x6 x7 x8 x9 x10 x11 x12 x13 x14 x15 a b:Nat)(g:Bool):Df envS 97 [(0, .agg #[u8 x0,u8 x1,u8 x2,u8 x3,u8 x4,u8 x5,u8 x6,u8 x7,u8 x8,u8 x9,u8 x10,u8 x11,u8 x12,u8 x13,u8 x14,u8 x15, .int .i64 (a:Nat), .int .i64 (b:Nat)]),(1, .bool g),(2, .int .i64 (-1))]=some [u8 x0,u8 x1,u8 x2,u8 x3,u8 x4,u8 x5,u8 x6,u8 x7,u8 x8,u8 x9,u8 x10,u8 x11,u8 x12,u8 x13,u8 x14,u8 x15, .int .i64 (a:Nat), .int .i64 (b:Nat), .bool g, .int .i64 (-1)]:=by kernel_rfl
theorem BY_ {id:List Nat}(h:id.length=16)(a b:Nat):Df envS 35 [(0, .agg (u8l id).toArray),(1, .int .i64 (a:Nat)),(2, .int .i64 (b:Nat))]=some (AI (id,a,b)):=by
 match id,h with
 |[x0,x1,x2,x3,x4,x5,x6,x7,x8,x9,x10,x11,x12,x13,x14,x15],_=>exact Vf_ x0 x1 x2 x3 x4 x5 x6 x7 x8 x9 x10 x11 x12 x13 x14 x15 a b
theorem Mh_ {id:List Nat}(h:id.length=16)(a b:Nat)(g:Bool):Df envS 97 [(0, .agg (AI (id,a,b)).toArray),(1, .bool g),(2, .int .i64 (-1))]=some (recC (id,a,b) g (-1)):=by
 match id,h with
 |[x0,x1,x2,x3,x4,x5,x6,x7,x8,x9,x10,x11,x12,x13,x14,x15],_=>exact JT_ x0 x1 x2 x3 x4 x5 x6 x7 x8 x9 x10 x11 x12 x13 x14 x15 a b g
abbrev LF (A:Nat)(v:Value):Nat→Prop:=fun x=>BsF v x∨A≤x
structure ScT (A:Nat)(tm:T Value):Prop where
 t2:T.get tm 2=some (.pointer (some ⟨A,0,none⟩))
 t3:T.get tm 3=some (.pointer (some ⟨A+2,0,none⟩))
 t4:T.get tm 4=some (.pointer (some ⟨A+4,0,none⟩))
 t5:T.get tm 5=some (.pointer (some ⟨A+6,0,none⟩))
theorem Ix {A D n k r:Nat}{v:Value}{tm tmS:T Value}{td:List Item}{s s0:St}{hs:List Hd}{bad:Nat}{Q:Value→St→Prop}(hb:s.lim≤s.next)(hcx:s.cx=cxN)(hI:ScI A D tmS .ready s hs bad 0 0)(hS:ScT A tmS)(h0:T.get tm 0=some (.func (.yield (D+1)) #[] #[]))(h3:T.get tm 3=some (.int .i64 (k:Nat)))(h6:T.get tm 6=some (.int .i64 (r:Nat)))(hr:r≤2)
  (hmany:hs.length≤10000) (hbad:bad≤1000000) (hT:skim 64 td=H5) (hn:100≤n)
  (q: ∀s1,ScI A D tmS .ready s1 hs bad k r→Ext (LF A v) (ScZ A D) s s1→Q (.tuple #[]) (s1.cxN s0.cx)):W (runF envS n ⟨109,Ef,B6,tm,td, .run, .normal,none⟩) s fun p s1=>Q p.1 (s1.cxN s0.cx):=by
 refine Kx_.w hT (by omega) ?_
 simp -implicitDefEqProofs only[SC,Ad,W_oS,W_on,Aa,W_mv,Ah,Ag,A8,A2,Af,h0,h3,h6,D6 (Aac_ r)]
 rw[←JD_ r]
 refine W.yield (DP_ hb hI hS.t2 hS.t3 hS.t4 hS.t5 rfl hmany hbad (by omega) (by omega) (by omega) fun s1 hI1 x1=> ?_)
 try simp -implicitDefEqProofs only[Ad,W_oS,W_on,Aa,W_mv,Ac,AJ,T.get_set,Ah,Ag,A8,A2,Af,Ar,reduceIte,Ax,Bp,Ba,Bv,A5,A9,Bb,Bo,AA,Bg,Nat.reduceEqDiff,reduceCtorEq, ↓reduceIte]
 have hsn:Ew hs bad 0 0 k (FZ,0,0) false (r:Nat)=(hs,bad,k,r):=by
  unfold Ew
  rw[if_pos (by omega)]
  rfl
 rw[hsn]at hI1
 refine W.end' (rs:=[]) (vs:=[]) rfl (.inr LR_) (by omega) BX_ Vi_ (x1.cx.trans hcx) rfl ?_
 exact q s1 hI1 (x1.weak hb (fun x _ h=> .inr h.1) fun _ _ h=>h)
theorem NO_ {A D C7 n k m:Nat}{v:Value}{g:Bool}{id:List Nat}{tm tmS:T Value}{td:List Item}{s:St}{hs:List Hd}{bad:Nat}{Q:Value×FrameMode→St→Prop}(hb:s.lim≤s.next)(hI:ScI A D tmS .ready s hs bad 0 0)(hS:ScT A tmS)(h0:T.get tm 0=some (.func (.yield (D+1)) #[] #[]))(h1:T.get tm 1=some v)(h3:T.get tm 3=some (.int .i64 (k:Nat)))(h4:T.get tm 4=some (.int .i64 (m:Nat)))(h7:T.get tm 7=some (.pointer (some ⟨C7,0,none⟩)))(h9:T.get tm 9=some (.bool g))
  (h16:id.length=16) (ho7:Ae s C7 0 (u8l id)) (hC7:A≤C7) (hm1:1≤m) (hm2:m≤1024) (hk:k≤1000000) (hmany:hs.length≤10000) (hbad:bad≤1000000) (hT:skim 64 td=PN) (hn:200≤n)
  (q: ∀n' s1 tm' td',n≤n'+10→skim 64 td'=Gr→ScI A D tmS .ready s1 (if g then hs++[(id,k,m)]else hs) (if g then bad else bad+1) 0 0→Ext (fun x=>A≤x) (ScZ A D) s s1→T.get tm' 0=some (.func (.yield (D+1)) #[] #[])→T.get tm' 1=some v→T.get tm' 3=some (.int .i64 (k+26+m:Nat))→W (runF envS n' ⟨109,Ef,B6,tm',td', .run, .normal,none⟩) s1 Q):
  W (runF envS n ⟨109,Ef,B6,tm,td, .run, .normal,none⟩) s Q:=by
 refine Aal_.w hT (by omega) ?_
 have hIl:(u8l id).length=16:=by rw[A6];exact h16
 simp -implicitDefEqProofs only[Xz,Ad,W_oS,W_on,Aa,W_mv,Ac,Ah,Ag,A8,A2,Af,h0,h3,h4,h7,h9]
 refine W.loadA BL ho7.row hIl fun s1 m1 n1 x1=> ?_
 have hb1:s1.lim≤s1.next:=x1.bnd hb
 have hI1:ScI A D tmS .ready s1 hs bad 0 0:=hI.same m1 n1
 have hx1:Ext (fun x=>A≤x) (ScZ A D) s s1:=x1.weak hb (fun x _ h=>by have:=h.1;omega) fun _ _ h=>h.elim
 try simp -implicitDefEqProofs only[Ad,W_oS,W_on,Aa,W_mv,Ac,AJ,T.get_set,Ah,Ag,A8,A2,Af,Ar,reduceIte,Ax,Bp,Ba,Bv,A5,A9,Bb,Bo,AA,Bg,Nat.reduceEqDiff,reduceCtorEq, ↓reduceIte]
 rw[D6 (BY_ h16 k m)]
 try simp -implicitDefEqProofs only[Ad,W_oS,W_on,Aa,W_mv,Ac,AJ,T.get_set,Ah,Ag,A8,A2,Af,Ar,reduceIte,Ax,Bp,Ba,Bv,A5,A9,Bb,Bo,AA,Bg,Nat.reduceEqDiff,reduceCtorEq, ↓reduceIte]
 rw[D6 (Mh_ h16 k m g)]
 try simp -implicitDefEqProofs only[Ad,W_oS,W_on,Aa,W_mv,Ac,AJ,T.get_set,Ah,Ag,A8,A2,Af,Ar,reduceIte,Ax,Bp,Ba,Bv,A5,A9,Bb,Bo,AA,Bg,Nat.reduceEqDiff,reduceCtorEq, ↓reduceIte]
 refine W.yield (DP_ hb1 hI1 hS.t2 hS.t3 hS.t4 hS.t5 h16 hmany hbad (by omega) (by omega) (by omega) fun s2 hI2 x2=> ?_)
 have hsn:Ew hs bad 0 0 k (id,k,m) g (-1)=(if g then hs++[(id,k,m)]else hs,if g then bad else bad+1,0,0):=by
  unfold Ew
  rw[if_neg (by omega)]
  cases g<;>rfl
 rw[hsn]at hI2
 have hx2:Ext (fun x=>A≤x) (ScZ A D) s s2:=hx1.trans x2 hb (fun x _ h=>h.1) fun _ _ h=>h
 simp -implicitDefEqProofs only[CJ,Bool.not_true]
 refine W.cond (v:=false) rfl Ph_ (by simp[T.get_set]) (by omega) (fun h=>by cases h) fun _=> ?_
 refine Ti_.w rfl (by omega) ?_
 simp -implicitDefEqProofs only[Yw,Ad,W_oS,W_on,Aa,W_mv,Ac,T.get_set,Ah,Ag,Af,Ar,reduceIte,Nat.reduceEqDiff, ↓reduceIte,h3,h4]
 refine Gt _ (by omega) ?_
 rw[Fc hm1 hm2]
 have e1:wrap64 (((k:Nat):Int)+((m+26:Nat):Int))=((k+26+m:Nat):Int):=by
  rw[AP (by omega) (by omega)];omega
 simp -implicitDefEqProofs only[By,e1]
 exact q _ s2 _ _ (by omega) SB_ hI2 hx2 (by simp[T.get_set,h0]) (by simp[T.get_set,h1]) (by simp[T.get_set])
theorem Mz_ {B n k N:Nat}{is:Bool}{v:Value}{l:List Nat}{tm:T Value}{td:List Item}{s:St}{Q:Value×FrameMode→St→Prop}(hB:Own s B 0 v)(hbs:Bs s v l)(hz:l.length≤900000)(hk:k≤l.length)(hN:is=true→1≤N∧N≤1024)(h1:T.get tm 1=some (.pointer (some ⟨B,0,none⟩)))(h3:T.get tm 3=some (.int .i64 (k:Nat)))(h4:T.get tm 4=some (.int .i64 (N:Nat)))(h5:T.get tm 5=some (.bool is))(hT:skim 64 td=Ky)(hn:60≤n)
  (q: ∀n' s1 tm' td',n≤n'+2→skim 64 td'=G0→s1.mem=s.mem→s1.next=s.next→Ext (fun x=>x=B) Non s s1→(∀j,j≠21→T.get tm' j=T.get tm j)→T.get tm' 21=some (.bool (is&&decide (l.length<k+26+N)))→W (runF envS n' ⟨109,Ef,B6,tm',td', .run, .normal,none⟩) s1 Q):
  W (runF envS n ⟨109,Ef,B6,tm,td, .run, .normal,none⟩) s Q:=by
 refine OC_.w hT (by omega) ?_
 cases is with
 |false=>
  simp -implicitDefEqProofs only[Mq,h1,h3,h4,h5,BG,Ck,Ah,Ag,Af,Dc,Ap,Ax,Cw,Bv,if_f]
  rw[W_dq fun s Q=>AA (s:=s) _ _ _ _]
  simp -implicitDefEqProofs only[Bool.false_eq_true,reduceIte,Aa]
  refine⟨Dn (by simp) (by simp), ?_⟩
  refine W.cast (T7 _ _ _ _ _ _ _ _ _ _ _ _ _ _ _) ?_
  simp -implicitDefEqProofs only[Ad,W_oS,Aa,AJ]
  refine q _ _ _ _ (by omega) BK_ rfl rfl (Ext.drawG (Nat.le_refl _) (fun _ _ _=>rfl) (by simp) (by simp)) (fun j hj=>by rw[T.get_set,if_neg hj]) (by rw[T.get_set,if_pos rfl];rfl)
 |true=>
  obtain⟨g1,g2⟩:=hN rfl
  simp -implicitDefEqProofs only[Mq,h1,h3,h4,h5,BG,Ck,Ah,Ag,Af,Dc,Ap,Ax,Cw,Bp,if_t]
  have hB':Own (dSt s.mem s.next) B 0 v:=hB.same rfl rfl
  have hb': ∀s',s'.mem=s.mem→s'.next=s.next→Bs s' v l:=fun s' e1 e2=>hbs.same e1 e2
  refine W.dload EH hB'.at' fun rd1 hr1=> ?_
  obtain⟨p,c,rfl⟩:=hbs.sl
  rw[W_dq fun s Q=>B5 (s:=s) AE Q]
  have e1:wrap64 (((l.length:Nat):Int)-((k:Nat):Int))=((l.length-k:Nat):Int):=by
   rw[AP (by omega) (by omega)];omega
  simp -implicitDefEqProofs only[Ap]
  rw[W_dq fun s Q=>Cm (s:=s) _ _,e1]
  simp -implicitDefEqProofs only[Ap]
  refine W.dop0 (Gt _ (by omega) ⟨rfl, ?_⟩)
  rw[Fc g1 g2,W_dq fun s Q=>Be (s:=s) _ _]
  have e2:decide (((l.length-k:Nat):Int)<((N+26:Nat):Int))=decide (l.length<k+26+N):=by
   rw[decide_eq_decide];omega
  rw[e2,W_dq fun s Q=>AA (s:=s) _ _ _ _]
  simp -implicitDefEqProofs only[reduceIte,Aa]
  have hBn:B+0<s.next:=hB.1
  refine⟨Fa (by simp) (by
   simp -implicitDefEqProofs only[List.reverse_cons,List.reverse_nil,List.nil_append,List.cons_append,List.mem_cons,List.not_mem_nil,or_false]
   rintro m (rfl|rfl|rfl|rfl|rfl|rfl|rfl|rfl|rfl|rfl)<;>refine⟨rfl,fun x hx=> ?_⟩<;>first|(cases hx;done)|(have:=hr1 _ hx;omega)), ?_⟩
  refine W.cast (T7 _ _ _ _ _ _ _ _ _ _ _ _ _ _ _) ?_
  simp -implicitDefEqProofs only[Ad,W_oS,Aa,AJ]
  refine q _ _ _ _ (by omega) BK_ rfl rfl (Ext.drawG (Nat.le_refl _) (fun _ _ _=>rfl) ?_ ?_) (fun j hj=>by rw[T.get_set,if_neg hj]) (by rw[T.get_set,if_pos rfl];rfl)
  ·simp -implicitDefEqProofs only[List.mem_cons,List.not_mem_nil,or_false]
   rintro m (rfl|rfl|rfl|rfl|rfl|rfl|rfl|rfl|rfl|rfl) x hx _<;>cases hx
  ·simp -implicitDefEqProofs only[List.mem_cons,List.not_mem_nil,or_false]
   rintro m (rfl|rfl|rfl|rfl|rfl|rfl|rfl|rfl|rfl|rfl) x hx _<;>first|(cases hx;done)|(have:=hr1 _ hx;omega)
def BI (l:List Nat)(k n:Nat):List Nat:=if GOk (CE l k n)then BH l k n else FZ
def BC (l:List Nat)(k n:Nat):Bool:=decide (GOk (CE l k n))&&decide (idB (BJ l k n)=BH l k n)
theorem Ik {l:List Nat}{k n:Nat}(h:k+26+n≤l.length):(BI l k n).length=16:=by
 unfold BI
 split
 ·exact Fz h
 ·rfl
theorem UH_ {A B D n k N:Nat}{v:Value}{l:List Nat}{tm tmS:T Value}{td:List Item}{s:St}{hs:List Hd}{bad:Nat}{Q:Value×FrameMode→St→Prop}(hb:s.lim≤s.next)(hI:ScI A D tmS .ready s hs bad 0 0)(hS:ScT A tmS)(hB:Own s B 0 v)(hAB:A+8≤B)(hbs:Bs s v l)(hby:Byt l)(hz:l.length≤900000)(hg1:1≤N)(hg2:N≤1024)(hlen:k+26+N≤l.length)
  (h0:T.get tm 0=some (.func (.yield (D+1)) #[] #[])) (h1:T.get tm 1=some (.pointer (some ⟨B,0,none⟩))) (h3:T.get tm 3=some (.int .i64 (k:Nat))) (h4:T.get tm 4=some (.int .i64 (N:Nat))) (hmany:hs.length≤10000) (hbad:bad≤1000000) (hT:skim 64 td=Kj) (hn:50000≤n)
  (q: ∀n' s1 tm' td',n≤n'+20→skim 64 td'=Gr→ScI A D tmS .ready s1 (if BC l k N then hs++[(BI l k N,k,N)]else hs) (if BC l k N then bad else bad+1) 0 0→Ext (LF A v) (ScZ A D) s s1→T.get tm' 0=some (.func (.yield (D+1)) #[] #[])→T.get tm' 1=some (.pointer (some ⟨B,0,none⟩))→T.get tm' 3=some (.int .i64 (k+26+N:Nat))→W (runF envS n' ⟨109,Ef,B6,tm',td', .run, .normal,none⟩) s1 Q):
  W (runF envS n ⟨109,Ef,B6,tm,td, .run, .normal,none⟩) s Q:=by
 refine JI_.w hT (by omega) ?_
 simp -implicitDefEqProofs only[DW_,Ad,W_oS,W_on,Aa,W_mv,Ac,Ah,Ag,Af,Ar,h1,h3,h4]
 refine W.load1 EH hB.at' ?_
 have hx1:Ext (LF A v) (ScZ A D) s (s.rdN (B+0)):=Ext.rdN s _ fun _=> .inr (by omega)
 have hI1:ScI A D tmS .ready (s.rdN (B+0)) hs bad 0 0:=hI.same rfl rfl
 have hbs1:Bs (s.rdN (B+0)) v l:=hbs.same rfl rfl
 have hb1:(s.rdN (B+0)).lim≤(s.rdN (B+0)).next:=hb
 have hsn:(s.rdN (B+0)).next=s.next:=rfl
 generalize s.rdN (B+0)=s1 at *
 have hAs:A≤s.next:=by have h5:=hI.lo.1;have h6:=hI.sep;omega
 have rest: ∀(s2:St) (w:Value) (id:List Nat) (g:Bool),Ext (BsF v) Non s1 s2→id.length=16→id=BI l k N→g=BC l k N→
   W (kExt 0 (.tuple #[.agg (u8l id).toArray,w, .bool g])) s2 fun v44 s3=>W (kExt 1 (.tuple #[.agg (u8l id).toArray,w, .bool g])) s3 fun v45 s4=>W (kExt 2 (.tuple #[.agg (u8l id).toArray,w, .bool g])) s4 fun v46 s5=>W (Bt envS 26) s5 fun v7 s6=>W (A7 envS 26 v7 v44) s6 fun _ s7=>W (runF envS (n-1) ⟨109,Ef,B6,T.set (T.set tm 7 v7) 9 v46,Kj.tail, .run, .normal,none⟩) s7 Q:=fun s2 w id g x2 h16 hid hg=>by
  rw[Bq (k:=0) rfl,Bq (k:=1) rfl,Bq (k:=2) rfl]
  have hx2:Ext (LF A v) (ScZ A D) s s2:=hx1.trans x2 hb (fun _ _ h=> .inl h) fun _ _ h=>h.elim
  have hIl:(u8l id).length=16:=by rw[A6];exact h16
  refine W.alloc DH fun s3 n3 x3 o3=> ?_
  have n12:s1.next≤s2.next:=x2.nxt
  have hx3:Ext (LF A v) (ScZ A D) s s3:=hx2.trans x3 hb (fun _ _ h=>h.elim) fun _ _ h=>h.elim
  refine W.store BL hIl (BT _) (fun i hi=>(Ae.owned o3) i (by simpa using hi)) fun s4 n4 x4 o4=> ?_
  have hG: ∀x,In s2.next 0 16 x→s2.next≤x:=fun x h=>by have:=h.1;omega
  have hI3:ScI A D tmS .ready s3 hs bad 0 0:=(hI1.ext0 x2).ext0 x3
  have hI2:ScI A D tmS .ready s2 hs bad 0 0:=hI1.ext0 x2
  have keep: ∀b o u,Own s2 b o u→Own s4 b o u:=fun b o u hu=>(hu.ext0 x3).ext x4 fun h=>by have:=hG _ h;have:=hu.1;omega
  have keepO: ∀l o,Obj s2 l o→Obj s4 l o:=fun l o hu=>(hu.ext x3 fun h=>h).ext x4 fun h=>by have:=hG _ h;have:=hu.1;omega
  have hI4:ScI A D tmS .ready s4 hs bad 0 0:=by
   obtain⟨u,c1,c2⟩:=hI2.c2
   refine⟨keepO _ _ hI2.lo,keepO _ _ hI2.de,⟨u,keep _ _ _ c1, ?_⟩,keep _ _ _ hI2.c3,keep _ _ _ hI2.c4,keep _ _ _ hI2.c5,hI.all16,hI.sep⟩
   rcases c2 with c2|⟨b,p1,p2,p3⟩
   ·exact .inl c2
   ·refine .inr ⟨b,p1,(p2.ext x3 fun _ _ h=>h).ext x4 fun x hx h=> ?_,p3⟩
    have e1:=hG x h
    have e2:=p2.lt
    have e3:x<b+0+(hs.length*18+1):=hx.2
    omega
  have hx4:Ext (LF A v) (ScZ A D) s s4:=hx3.trans x4 hb (fun x _ h=> .inr (by have:=hG x h;omega)) fun x hx h=>by have:=hG x h;omega
  have hb4:s4.lim≤s4.next:=hx4.bnd hb
  subst hid hg
  refine NO_ (C7:=s2.next) (k:=k) (m:=N) hb4 hI4 hS (by simp[T.get_set,h0]) (by simp[T.get_set,h1];rfl) (by simp[T.get_set,h3]) (by simp[T.get_set,h4]) (by simp[T.get_set]) (by simp[T.get_set];rfl) h16 o4 (by omega) hg1 hg2 (by omega) hmany hbad rfl (by omega) fun n' s5 tm' td' hn' hT' hI5 x5 h0' h1' h3'=> ?_
  exact q n' s5 tm' td' (by omega) hT' hI5 (hx4.trans x5 hb (fun _ _ h=> .inr h) fun _ _ h=>h) h0' h1' h3'
 refine SJ_ hb1 hbs1 hby hz hg1 hg2 hlen (by omega) (fun hg s2 w1 x2 _ _=> ?_) fun hg s2 x2=> ?_
 ·have e1:BI l k N=BH l k N:=if_pos hg
  have e2:BC l k N=decide (idB (BJ l k N)=BH l k N):=by unfold BC;rw[decide_eq_true hg,Bool.true_and]
  exact rest s2 w1 _ _ x2 (Fz hlen) e1.symm e2.symm
 ·have e1:BI l k N=FZ:=if_neg hg
  have e2:BC l k N=false:=by unfold BC;rw[decide_eq_false hg,Bool.false_and]
  exact rest s2 _ _ _ x2 rfl e1.symm e2.symm
def Cc (l:List Nat)(k:Nat):Bool:=decide (k+6≤l.length)&&Cp l k&&decide (k+26+A1 l k≤l.length)
def Cz (l:List Nat)(k:Nat):Nat:=if k=l.length then 0 else if l.length<k+6 then 1 else if Cp l k then 1 else 2
theorem Su (l:List Nat)(k:Nat):Cz l k≤2:=by
 unfold Cz
 split
 ·omega
 ·split
  ·omega
  ·split<;>omega
def BE (l:List Nat):Nat→Nat→List Hd→Nat→List Hd×Nat×Nat×Nat
 |0,k,hs,bad=>(hs,bad,k,Cz l k)
 |f+1,k,hs,bad=>if Cc l k then BE l f (k+26+A1 l k) (if BC l k (A1 l k)then hs++[(BI l k (A1 l k),k,A1 l k)]else hs) (if BC l k (A1 l k)then bad else bad+1)else(hs,bad,k,Cz l k)
theorem EB {l:List Nat}{k:Nat}(h:Cp l k=true):1≤A1 l k∧A1 l k≤1024:=by
 unfold Cp at h
 rw[Bool.and_eq_true]at h
 exact of_decide_eq_true h.1
theorem SI_ {A B D:Nat}{v:Value}{l:List Nat}{tmS:T Value}{s0:St}{Q:Value→St→Prop}(hAB:A+8≤B)(hBD:B<D)(hvA: ∀x,BsF v x→x<A)(hby:Byt l)(hz:l.length≤200000)(hS:ScT A tmS): ∀(f k n:Nat) (hs:List Hd) (bad:Nat) (tm:T Value) (td:List Item) (s:St),k≤l.length→l.length≤k+f→27*(hs.length+bad)≤k→60000+60*f≤n→skim 64 td=Gr→
  s.lim≤s.next→s.cx=cxN→ScI A D tmS .ready s hs bad 0 0→Own s B 0 v→Bs s v l→T.get tm 0=some (.func (.yield (D+1)) #[] #[])→T.get tm 1=some (.pointer (some ⟨B,0,none⟩))→T.get tm 3=some (.int .i64 (k:Nat))→
  (∀s1,ScI A D tmS .ready s1 (BE l f k hs bad).1 (BE l f k hs bad).2.1 (BE l f k hs bad).2.2.1 (BE l f k hs bad).2.2.2→Ext (LF A v) (ScZ A D) s s1→Q (.tuple #[]) (s1.cxN s0.cx))→
  W (runF envS n ⟨109,Ef,B6,tm,td, .run, .normal,none⟩) s fun p s1=>Q p.1 (s1.cxN s0.cx):=by
 intro f
 induction f with
 |zero=>
  intro k n hs bad tm td s hk hf hcnt hn hT hb hcx hI hB hbs h0 h1 h3 q
  have hkl:k=l.length:=by omega
  refine BA_.w hT (by omega) ?_
  simp -implicitDefEqProofs only[Nb,Ad,W_oS,W_on,Aa,W_mv,Ac,Ah,Ag,Af,Ar,h1,h3]
  refine W.load1 EH hB.at' ?_
  have hx1:Ext (LF A v) (ScZ A D) s (s.rdN (B+0)):=Ext.rdN s _ fun _=> .inr (by omega)
  have hI1:ScI A D tmS .ready (s.rdN (B+0)) hs bad 0 0:=hI.same rfl rfl
  have hB1:Own (s.rdN (B+0)) B 0 v:=hB.same rfl rfl
  have hbs1:Bs (s.rdN (B+0)) v l:=hbs.same rfl rfl
  have hb1:(s.rdN (B+0)).lim≤(s.rdN (B+0)).next:=hb
  try simp -implicitDefEqProofs only[Ad,W_oS,W_on,Aa,W_mv,Ac,AJ,T.get_set,Ah,Ag,A8,A2,Af,Ar,reduceIte,Ax,Bp,Ba,Bv,A5,A9,Bb,Bo,AA,Bg,Nat.reduceEqDiff,reduceCtorEq, ↓reduceIte]
  generalize s.rdN (B+0)=s1 at *
  refine J1 hb1 hbs1 hby (by omega) (by omega) fun s2 x2=> ?_
  rw[Bq (k:=0) rfl,Bq (k:=1) rfl]
  have hx2:Ext (LF A v) (ScZ A D) s s2:=hx1.trans x2 hb (fun _ _ h=> .inl h) fun _ _ h=>h.elim
  have hI2:=hI1.ext0 x2
  have hB2:=hB1.ext0 x2
  have hbs2:=hbs1.ext0 x2
  refine Fs_.w rfl (by omega) ?_
  simp -implicitDefEqProofs only[Lu,Aa,W_mv,Ac]
  refine QG.w rfl (by omega) ?_
  simp -implicitDefEqProofs only[N2,Ad,W_oS,Aa,W_mv,Ac,T.get_set,Ah,Ag,Af,reduceIte,Nat.reduceEqDiff, ↓reduceIte,h1,h3]
  refine W.load1 EH hB2.at' ?_
  have hx3:Ext (LF A v) (ScZ A D) s (s2.rdN (B+0)):=hx2.trans (Ext.rdN (F:=LF A v) (G:=ScZ A D) s2 _ fun _=> .inr (by omega)) hb (fun _ _ h=>h) fun _ _ h=>h
  have hI3:ScI A D tmS .ready (s2.rdN (B+0)) hs bad 0 0:=hI2.same rfl rfl
  have hbs3:Bs (s2.rdN (B+0)) v l:=hbs2.same rfl rfl
  generalize s2.rdN (B+0)=s3 at *
  simp -implicitDefEqProofs only[Fl,hbs3.len AE]
  refine W.cond (v:=true) rfl OK (by simp[T.get_set,hkl]) (by omega) (fun _=> ?_) fun h=>by cases h
  refine AL_.w rfl (by omega) ?_
  simp -implicitDefEqProofs only[Og,Aa,W_mv,Ac]
  refine Ix (k:=k) (r:=0) (v:=v) (hx3.bnd hb) (hx3.cx.trans hcx) hI3 hS (by simp[T.get_set,h0]) (by simp[T.get_set,h3]) (by simp[T.get_set]) (by omega) (by omega) (by omega) rfl (by omega) fun s4 hI4 x4=> ?_
  have e:BE l 0 k hs bad=(hs,bad,k,0):=by
   unfold BE Cz
   rw[if_pos hkl]
  rw[e]at q
  exact q s4 hI4 (hx3.trans x4 hb (fun _ _ h=>h) fun _ _ h=>h)
 |succ f ih=>
  intro k n hs bad tm td s hk hf hcnt hn hT hb hcx hI hB hbs h0 h1 h3 q
  refine BA_.w hT (by omega) ?_
  simp -implicitDefEqProofs only[Nb,Ad,W_oS,W_on,Aa,W_mv,Ac,Ah,Ag,Af,Ar,h1,h3]
  refine W.load1 EH hB.at' ?_
  have hx1:Ext (LF A v) (ScZ A D) s (s.rdN (B+0)):=Ext.rdN s _ fun _=> .inr (by omega)
  have hI1:ScI A D tmS .ready (s.rdN (B+0)) hs bad 0 0:=hI.same rfl rfl
  have hB1:Own (s.rdN (B+0)) B 0 v:=hB.same rfl rfl
  have hbs1:Bs (s.rdN (B+0)) v l:=hbs.same rfl rfl
  have hb1:(s.rdN (B+0)).lim≤(s.rdN (B+0)).next:=hb
  try simp -implicitDefEqProofs only[Ad,W_oS,W_on,Aa,W_mv,Ac,AJ,T.get_set,Ah,Ag,A8,A2,Af,Ar,reduceIte,Ax,Bp,Ba,Bv,A5,A9,Bb,Bo,AA,Bg,Nat.reduceEqDiff,reduceCtorEq, ↓reduceIte]
  generalize s.rdN (B+0)=s1 at *
  refine J1 hb1 hbs1 hby (by omega) (by omega) fun s2 x2=> ?_
  rw[Bq (k:=0) rfl,Bq (k:=1) rfl]
  have hx2:Ext (LF A v) (ScZ A D) s s2:=hx1.trans x2 hb (fun _ _ h=> .inl h) fun _ _ h=>h.elim
  have hI2:=hI1.ext0 x2
  have hB2:=hB1.ext0 x2
  have hbs2:=hbs1.ext0 x2
  refine Fs_.w rfl (by omega) ?_
  simp -implicitDefEqProofs only[Lu,Aa,W_mv,Ac]
  refine QG.w rfl (by omega) ?_
  simp -implicitDefEqProofs only[N2,Ad,W_oS,Aa,W_mv,Ac,T.get_set,Ah,Ag,Af,reduceIte,Nat.reduceEqDiff, ↓reduceIte,h1,h3]
  refine W.load1 EH hB2.at' ?_
  have hx3:Ext (LF A v) (ScZ A D) s (s2.rdN (B+0)):=hx2.trans (Ext.rdN (F:=LF A v) (G:=ScZ A D) s2 _ fun _=> .inr (by omega)) hb (fun _ _ h=>h) fun _ _ h=>h
  have hI3:ScI A D tmS .ready (s2.rdN (B+0)) hs bad 0 0:=hI2.same rfl rfl
  have hbs3:Bs (s2.rdN (B+0)) v l:=hbs2.same rfl rfl
  have hB3:Own (s2.rdN (B+0)) B 0 v:=hB2.same rfl rfl
  generalize s2.rdN (B+0)=s3 at *
  simp -implicitDefEqProofs only[Fl,hbs3.len AE]
  have over:Cc l k=false→ ∀r,Cz l k=r→ ∀s4,ScI A D tmS .ready s4 hs bad k r→Ext (LF A v) (ScZ A D) s s4→Q (.tuple #[]) (s4.cxN s0.cx):=fun hno r hr s4 hI4 x4=>by
   have e:BE l (f+1) k hs bad=(hs,bad,k,r):=by
    unfold BE
    rw[hno,hr]
    rfl
   rw[e]at q
   exact q s4 hI4 x4
  by_cases hkl:k=l.length
  ·refine W.cond (v:=true) rfl OK (by simp[T.get_set,hkl]) (by omega) (fun _=> ?_) fun h=>by cases h
   refine AL_.w rfl (by omega) ?_
   simp -implicitDefEqProofs only[Og,Aa,W_mv,Ac]
   refine Ix (k:=k) (r:=0) (v:=v) (hx3.bnd hb) (hx3.cx.trans hcx) hI3 hS (by simp[T.get_set,h0]) (by simp[T.get_set,h3]) (by simp[T.get_set]) (by omega) (by omega) (by omega) rfl (by omega) fun s4 hI4 x4=> ?_
   refine over ?_ 0 (by unfold Cz;rw[if_pos hkl]) s4 hI4 (hx3.trans x4 hb (fun _ _ h=>h) fun _ _ h=>h)
   unfold Cc
   rw[decide_eq_false (by omega)]
   rfl
  ·refine W.cond (v:=false) rfl OK (by simp[T.get_set];omega) (by omega) (fun h=>by cases h) fun _=> ?_
   refine Wu_.w rfl (by omega) ?_
   simp -implicitDefEqProofs only[Uv,Ad,W_oS,Aa,W_mv,Ac,T.get_set,Ah,Ag,Af,reduceIte,Nat.reduceEqDiff, ↓reduceIte,h1,h3]
   refine W.load1 EH hB3.at' ?_
   have hx4:Ext (LF A v) (ScZ A D) s (s3.rdN (B+0)):=hx3.trans (Ext.rdN (F:=LF A v) (G:=ScZ A D) s3 _ fun _=> .inr (by omega)) hb (fun _ _ h=>h) fun _ _ h=>h
   have hI4:ScI A D tmS .ready (s3.rdN (B+0)) hs bad 0 0:=hI3.same rfl rfl
   have hbs4:Bs (s3.rdN (B+0)) v l:=hbs3.same rfl rfl
   have hB4:Own (s3.rdN (B+0)) B 0 v:=hB3.same rfl rfl
   generalize s3.rdN (B+0)=s4 at *
   have e1:wrap64 (((l.length:Nat):Int)-((k:Nat):Int))=((l.length-k:Nat):Int):=by
    rw[AP (by omega) (by omega)];omega
   simp -implicitDefEqProofs only[Cm,Be,hbs4.len AE,e1]
   have torn: ∀(n':Nat) (s5:St) (tm':T Value) (td':List Item),1000≤n'→Ext (LF A v) (ScZ A D) s s5→ScI A D tmS .ready s5 hs bad 0 0→skim 64 td'=Ql→T.get tm' 0=some (.func (.yield (D+1)) #[] #[])→T.get tm' 3=some (.int .i64 (k:Nat))→Cc l k=false→Cz l k=1→
     W (runF envS n' ⟨109,Ef,B6,tm',td', .run, .normal,none⟩) s5 fun p s1=>Q p.1 (s1.cxN s0.cx):=fun n' s5 tm' td' hn' x5 hI5 hT' h0' h3' hno hr=>by
    refine Vq_.w hT' (by omega) ?_
    simp -implicitDefEqProofs only[VO,Aa,W_mv,Ac]
    refine Ix (k:=k) (r:=1) (v:=v) (x5.bnd hb) (x5.cx.trans hcx) hI5 hS (by simp[T.get_set,h0']) (by simp[T.get_set,h3']) (by simp[T.get_set]) (by omega) (by omega) (by omega) SM_ (by omega) fun s6 hI6 x6=> ?_
    exact over hno 1 hr s6 hI6 (x5.trans x6 hb (fun _ _ h=>h) fun _ _ h=>h)
   by_cases h6:l.length<k+6
   ·refine W.cond (v:=true) rfl GF_ (by simp[T.get_set];omega) (by omega) (fun _=> ?_) fun h=>by cases h
    refine W.cond (v:=true) rfl Kf (by simp[T.get_set];omega) (by omega) (fun _=> ?_) fun h=>by cases h
    refine torn _ s4 _ _ (by omega) hx4 hI4 rfl (by simp[T.get_set,h0]) (by simp[T.get_set,h3]) ?_ ?_
    ·unfold Cc
     rw[decide_eq_false (by omega)]
     rfl
    ·unfold Cz
     rw[if_neg hkl,if_pos h6]
   ·refine W.cond (v:=false) rfl GF_ (by simp[T.get_set];omega) (by omega) (fun h=>by cases h) fun _=> ?_
    have hsb:Co l k=(A1 l k,Cp l k):=if_pos (by omega)
    rw[hsb]
    have hin:=fun h=>EB (l:=l) (k:=k) h
    refine Mz_ (B:=B) (k:=k) (N:=A1 l k) (is:=Cp l k) hB4 hbs4 (by omega) hk hin (by simp[T.get_set,h1]) (by simp[T.get_set,h3]) (by simp[T.get_set]) (by simp[T.get_set]) rfl (by omega) fun n' s5 tm' td' hn' hT' m5 n5 x5 hkeep h21=> ?_
    have hx5:Ext (LF A v) (ScZ A D) s s5:=hx4.trans x5 hb (fun x _ h=> .inr (by omega)) fun _ _ h=>h.elim
    have hI5:ScI A D tmS .ready s5 hs bad 0 0:=hI4.same m5 n5
    have hbs5:Bs s5 v l:=hbs4.same m5 n5
    have hB5:Own s5 B 0 v:=hB4.same m5 n5
    have k0:T.get tm' 0=some (.func (.yield (D+1)) #[] #[]):=by rw[hkeep 0 (by decide)];simp[T.get_set,h0]
    have k1:T.get tm' 1=some (.pointer (some ⟨B,0,none⟩)):=by rw[hkeep 1 (by decide)];simp[T.get_set,h1]
    have k3:T.get tm' 3=some (.int .i64 (k:Nat)):=by rw[hkeep 3 (by decide)];simp[T.get_set,h3]
    have k4:T.get tm' 4=some (.int .i64 (A1 l k:Nat)):=by rw[hkeep 4 (by decide)];simp[T.get_set]
    have k5:T.get tm' 5=some (.bool (Cp l k)):=by rw[hkeep 5 (by decide)];simp[T.get_set]
    have k6:T.get tm' 6=some (.int .i64 2):=by rw[hkeep 6 (by decide)];simp[T.get_set]
    cases hok:Cp l k with
    |false=>
     rw[hok]at h21 k5
     refine W.cond (v:=false) hT' Kf (by rw[h21];rfl) (by omega) (fun h=>by cases h) fun _=> ?_
     refine Xk.w rfl (by omega) ?_
     simp -implicitDefEqProofs only[OW,Aa,W_mv,Ac,k5]
     refine W.cond (v:=false) rfl US (by simp[T.get_set]) (by omega) (fun h=>by cases h) fun _=> ?_
     refine Ix (k:=k) (r:=2) (v:=v) (hx5.bnd hb) (hx5.cx.trans hcx) hI5 hS (by simp[T.get_set,k0]) (by simp[T.get_set,k3]) (by simp[T.get_set,k6]) (by omega) (by omega) (by omega) VB_ (by omega) fun s6 hI6 x6=> ?_
     refine over ?_ 2 ?_ s6 hI6 (hx5.trans x6 hb (fun _ _ h=>h) fun _ _ h=>h)
     ·unfold Cc
      rw[hok,Bool.and_false]
      rfl
     ·unfold Cz
      rw[if_neg hkl,if_neg h6,hok]
      rfl
    |true=>
     obtain⟨g1,g2⟩:=hin hok
     rw[hok,Bool.true_and]at h21
     rw[hok]at k5
     by_cases hlen:l.length<k+26+A1 l k
     ·refine W.cond (v:=true) hT' Kf (by rw[h21,decide_eq_true hlen]) (by omega) (fun _=> ?_) fun h=>by cases h
      refine torn _ s5 _ _ (by omega) hx5 hI5 rfl k0 k3 ?_ ?_
      ·unfold Cc
       rw[decide_eq_false (show ¬k+26+A1 l k≤l.length by omega),Bool.and_false]
      ·unfold Cz
       rw[if_neg hkl,if_neg h6,hok]
       rfl
     ·refine W.cond (v:=false) hT' Kf (by rw[h21,decide_eq_false hlen]) (by omega) (fun h=>by cases h) fun _=> ?_
      refine Xk.w rfl (by omega) ?_
      simp -implicitDefEqProofs only[OW,Aa,W_mv,Ac,k5]
      refine W.cond (v:=true) rfl US (by simp[T.get_set]) (by omega) (fun _=> ?_) fun h=>by cases h
      have hyes:Cc l k=true:=by
       unfold Cc
       rw[hok,decide_eq_true (show k+6≤l.length by omega),decide_eq_true (show k+26+A1 l k≤l.length by omega)]
       rfl
      refine UH_ (B:=B) (l:=l) (k:=k) (N:=A1 l k) (hx5.bnd hb) hI5 hS hB5 hAB hbs5 hby (by omega) g1 g2 (by omega) (by simp[T.get_set,k0]) (by simp[T.get_set,k1]) (by simp[T.get_set,k3]) (by simp[T.get_set,k4]) (by omega) (by omega) rfl (by omega) fun n6 s6 tm6 td6 hn6 hT6 hI6 x6 p0 p1 p3=> ?_
      have hx6:Ext (LF A v) (ScZ A D) s s6:=hx5.trans x6 hb (fun _ _ h=>h) fun _ _ h=>h
      have e:BE l (f+1) k hs bad=BE l f (k+26+A1 l k) (if BC l k (A1 l k)then hs++[(BI l k (A1 l k),k,A1 l k)]else hs) (if BC l k (A1 l k)then bad else bad+1):=by
       rw[BE,hyes]
       rfl
      rw[e]at q
      refine ih (k+26+A1 l k) n6 _ _ tm6 td6 s6 (by omega) (by omega) ?_ (by omega) hT6 (hx6.bnd hb) (hx6.cx.trans hcx) hI6 (hB5.ext x6 (by omega)) (hbs5.ext x6 fun x hx h=>by have:=hvA x hx;have:=h.1;omega) p0 p1 p3 fun s7 hI7 x7=> ?_
      ·cases BC l k (A1 l k)with
       |true=>simp -implicitDefEqProofs only[reduceIte,List.length_append,List.length_singleton];omega
       |false=>simp -implicitDefEqProofs only[Bool.false_eq_true,reduceIte];omega
      ·exact q s7 hI7 (hx6.trans x7 hb (fun _ _ h=>h) fun _ _ h=>h)
theorem Tb_ {n:Nat}{v:Value}{s:St}{Q:Value→St→Prop}(hv:oneCell v=true)(hn:20≤n)(q: ∀s1,Ext Non Non s s1→s1.next=s.next+2→Own s1 s.next 0 v→Q (.func (.func 109) #[] #[.pointer (some ⟨s.next,0,none⟩)]) s1):W (Ai envS (runF envS n) 68 [v]) s Q:=by
 refine Zt_ fun tm h0=> ?_
 refine Ys_.w rfl (by omega) ?_
 simp -implicitDefEqProofs only[Cb_,Ad,W_oS,Aa,W_mv,Ac,h0]
 refine W.box fun sa na xa oa=> ?_
 rw[Kw hv]at na oa
 try simp -implicitDefEqProofs only[Ad,W_oS,W_on,Aa,W_mv,Ac,AJ,T.get_set,Ah,Ag,A8,A2,Af,Ar,reduceIte,Ax,Bp,Ba,Bv,A5,A9,Bb,Bo,AA,Bg,Nat.reduceEqDiff,reduceCtorEq, ↓reduceIte]
 refine Wt_.w rfl (by omega) ?_
 simp -implicitDefEqProofs only[VX,Ad,W_oS,Aa,W_mv,Ac,T.get_set,Ah,Ag,Af,reduceIte,Nat.reduceEqDiff, ↓reduceIte]
 refine W.end' (rs:=[2]) (vs:=[.func (.func 109) #[] #[.pointer (some ⟨s.next,0,none⟩)]]) rfl (.inl Lh_) (by omega) Do_ Su_ xa.cx (by simp[T.get_set];rfl) ?_
 exact q _ xa.cx' na ((oa 0 v rfl).same rfl rfl)
def Ib (s s':St)(v:Value)(hs:List Hd):Prop:=(v= .slice none 0 0∧hs=[])∨ ∃b,s.next≤b∧Marked s' 18 hs.length (Bu hs) v b∧hs≠[]
theorem Os_ {A D n:Nat}{tm tmS:T Value}{td:List Item}{s s0:St}{st:LoopState}{hs:List Hd}{bad size rest:Nat}{Q:Value→St→Prop}(hb:s.lim≤s.next)(hcx:s.cx= .cx none (some [CM D]))(hI:ScI A D tmS st s hs bad size rest)(hS:ScT A tm)(hT:skim 64 td=JZ)(hn:10≤n)
  (q: ∀s1 v,Ext (fun x=>A≤x) (fun x=>A≤x) (s.cxN cxN) s1→C8 s1 D v hs→Q (.tuple #[v, .int .i64 (size:Nat), .int .i64 (bad:Nat), .int .i64 (rest:Nat)]) (s1.cxN s0.cx)):W (runF envS n ⟨24,EC,B3,tm,td, .run, .normal,none⟩) s fun p s1=>Q p.1 (s1.cxN s0.cx):=by
 have sep:=hI.sep
 have hD:=hI.lo.1
 obtain⟨v,c2,hh⟩:=hI.c2
 have hv1:oneCell v=true:=by
  rcases hh with⟨rfl,_⟩|⟨b,_,hm,_⟩
  ·rfl
  ·rw[hm.val];rfl
 refine Xf_.w hT (by omega) ?_
 simp -implicitDefEqProofs only[Si,hS.t2,hS.t3,hS.t4,hS.t5,BG]
 have o2:Own (dSt s.mem s.next) A 0 v:=c2.same rfl rfl
 have o3:Own (dSt s.mem s.next) (A+2) 0 (.int .i64 (size:Nat)):=hI.c3.same rfl rfl
 have o4:Own (dSt s.mem s.next) (A+4) 0 (.int .i64 (bad:Nat)):=hI.c4.same rfl rfl
 have o5:Own (dSt s.mem s.next) (A+6) 0 (.int .i64 (rest:Nat)):=hI.c5.same rfl rfl
 refine W.dload Ig o2.at' fun rd0 hr0=> ?_
 refine W.dload B4 o3.at' fun rd1 hr1=> ?_
 refine W.dload B4 o4.at' fun rd2 hr2=> ?_
 refine W.dload B4 o5.at' fun rd3 hr3=> ?_
 refine W.dopG (W.store1 Ig hv1 (o2.same rfl rfl) fun s4 n4 x4 w4=>⟨In A 0 1,In A 0 1,x4,fun rd4 wr4 hr4 hw4=> ?_⟩)
 have n4':s4.next=s.next:=n4
 have p3:Own s4 (A+2) 0 (.int .i64 (size:Nat)):=(o3.same (s':=oSt s.mem s.next) rfl rfl).ext x4 fun h=>by have:=In1.1 h;omega
 refine W.dopG (W.store1 (s:=oSt s4.mem s4.next) B4 rfl (p3.same rfl rfl) fun s5 n5 x5 w5=>⟨In (A+2) 0 1,In (A+2) 0 1,x5,fun rd5 wr5 hr5 hw5=> ?_⟩)
 have n5':s5.next=s4.next:=n5
 have p4:Own s5 (A+4) 0 (.int .i64 (bad:Nat)):=(((o4.same (s':=oSt s.mem s.next) rfl rfl).ext x4 fun h=>by have:=In1.1 h;omega).same (s':=oSt s4.mem s4.next) rfl rfl).ext x5 fun h=>by have:=In1.1 h;omega
 refine W.dopG (W.store1 (s:=oSt s5.mem s5.next) B4 rfl (p4.same rfl rfl) fun s6 n6 x6 w6=>⟨In (A+4) 0 1,In (A+4) 0 1,x6,fun rd6 wr6 hr6 hw6=> ?_⟩)
 have n6':s6.next=s5.next:=n6
 rw[Aa]
 refine⟨EJ ?_, ?_⟩
 ·simp -implicitDefEqProofs only[List.reverse_cons,List.reverse_nil,List.nil_append,List.cons_append,allP,Dm,List.take,D9,n4',n5',n6']
  have e0: ∀x,x∈rd0→x=A:=fun x h=>by have:=hr0 x h;omega
  have e1: ∀x,x∈rd1→x=A+2:=fun x h=>by have:=hr1 x h;omega
  have e2: ∀x,x∈rd2→x=A+4:=fun x h=>by have:=hr2 x h;omega
  have e3: ∀x,x∈rd3→x=A+6:=fun x h=>by have:=hr3 x h;omega
  have e4: ∀x,x∈rd4→x=A:=fun x h=>In1.1 (hr4 x h).2
  have g4: ∀x,x∈wr4→x=A:=fun x h=>In1.1 (hw4 x h).2
  have e5: ∀x,x∈rd5→x=A+2:=fun x h=>In1.1 (hr5 x h).2
  have g5: ∀x,x∈wr5→x=A+2:=fun x h=>In1.1 (hw5 x h).2
  have e6: ∀x,x∈rd6→x=A+4:=fun x h=>In1.1 (hr6 x h).2
  have g6: ∀x,x∈wr6→x=A+4:=fun x h=>In1.1 (hw6 x h).2
  have nn: ∀x,s.next≤x→ ¬x<s.next:=fun x h=>by omega
  have ne: ∀(l m:List Nat) (a b:Nat),a≠b→(∀x,x∈l→x=a)→(∀x,x∈m→x=b)→ ∀x,x∈l→ ¬x∈m:=fun l m a b hab hl hm x hx hy=>hab ((hl x hx).symm.trans (hm x hy))
  have no: ∀(l:List Nat),∀x,x∈l→s.next≤x→s.next≤x→ ¬x<s.next:=fun _ x _ h _=>nn x h
  have d1:=ne wr4 rd1 _ _ (by omega) g4 e1
  have d2:=ne wr4 rd2 _ _ (by omega) g4 e2
  have d3:=ne wr4 rd3 _ _ (by omega) g4 e3
  have d4:=ne wr5 rd2 _ _ (by omega) g5 e2
  have d5:=ne wr5 rd3 _ _ (by omega) g5 e3
  have d6:=ne wr6 rd3 _ _ (by omega) g6 e3
  have d7:=ne wr5 rd0 _ _ (by omega) g5 e0
  have d8:=ne wr6 rd0 _ _ (by omega) g6 e0
  have d9:=ne wr6 rd1 _ _ (by omega) g6 e1
  simp+contextual [nn,d1,d2,d3,d4,d5,d6,d7,d8,d9]
  exact⟨⟨.inl rfl, .inl rfl⟩, .inl rfl, .inl rfl, .inl rfl⟩
 ·refine W.cast (LS_ _ _ _ _ _ _ _ _ _) ?_
  simp -implicitDefEqProofs only[hS.t5,BG]
  generalize hs':(⟨(dSt s6.mem s6.next).mem,(dSt s6.mem s6.next).next,s.lim,_,_,s.cx⟩:St)=s7
  have hZ: ∀(b x:Nat),A≤b→In b 0 1 x→A≤x:=fun b x h h2=>by have:=In1.1 h2;omega
  have hx7:Ext (fun x=>A≤x) (fun x=>A≤x) s s7:=by
   rw[←hs']
   refine Ext.drawG (by show s.next≤s6.next;omega) (fun x hx hg=> ?_) ?_ ?_
   ·exact(x6.mem x (by show x<s5.next;omega) fun h=>hg (hZ _ x (by omega) h)).trans ((x5.mem x (by show x<s4.next;omega) fun h=>hg (hZ _ x (by omega) h)).trans (x4.mem x hx fun h=>hg (hZ _ x (by omega) h)))
   ·simp -implicitDefEqProofs only[List.mem_cons,List.not_mem_nil,or_false]
    rintro m (rfl|rfl|rfl|rfl|rfl|rfl|rfl) x hx _<;>first|(cases hx;done)|(exact hZ _ x (by omega) (hw4 x hx).2)|(exact hZ _ x (by omega) (hw5 x hx).2)|(exact hZ _ x (by omega) (hw6 x hx).2)
   ·simp -implicitDefEqProofs only[List.mem_cons,List.not_mem_nil,or_false]
    rintro m (rfl|rfl|rfl|rfl|rfl|rfl|rfl) x hx _<;>first|(cases hx;done)|(exact hZ _ x (by omega) (hr4 x hx).2)|(exact hZ _ x (by omega) (hr5 x hx).2)|(exact hZ _ x (by omega) (hr6 x hx).2)|(have:=hr0 x hx;show A≤x;omega)|(have:=hr1 x hx;show A≤x;omega)|(have:=hr2 x hx;show A≤x;omega)|(have:=hr3 x hx;show A≤x;omega)
  have m7:s7.mem=s6.mem:=by rw[←hs'];rfl
  have n7:s7.next=s6.next:=by rw[←hs'];rfl
  have keep: ∀b o u,b+o≠A→b+o≠A+2→b+o≠A+4→Own s b o u→Own s7 b o u:=fun b o u h1 h2 h3 hu=>(((((hu.same (s':=oSt s.mem s.next) rfl rfl).ext x4 fun h=>h1 (In1.1 h)).same (s':=oSt s4.mem s4.next) rfl rfl).ext x5 fun h=>h2 (In1.1 h)).same (s':=oSt s5.mem s5.next) rfl rfl).ext x6 (fun h=>h3 (In1.1 h)) |>.same m7 n7
  have keepO: ∀l o,l≠A→l≠A+2→l≠A+4→Obj s l o→Obj s7 l o:=fun l o h1 h2 h3 hu=>(((((hu.same (s':=oSt s.mem s.next) rfl rfl).ext x4 fun h=>h1 (In1.1 h)).same (s':=oSt s4.mem s4.next) rfl rfl).ext x5 fun h=>h2 (In1.1 h)).same (s':=oSt s5.mem s5.next) rfl rfl).ext x6 (fun h=>h3 (In1.1 h)) |>.same m7 n7
  have k2:Own s7 A 0 v:=((((w4.same (s':=oSt s4.mem s4.next) rfl rfl).ext x5 fun h=>by have:=In1.1 h;omega).same (s':=oSt s5.mem s5.next) rfl rfl).ext x6 fun h=>by have:=In1.1 h;omega).same m7 n7
  have k3:Own s7 (A+2) 0 (.int .i64 (size:Nat)):=((w5.same (s':=oSt s5.mem s5.next) rfl rfl).ext x6 fun h=>by have:=In1.1 h;omega).same m7 n7
  have k4:Own s7 (A+4) 0 (.int .i64 (bad:Nat)):=w6.same m7 n7
  have k5:Own s7 (A+6) 0 (.int .i64 (rest:Nat)):=keep _ _ _ (by omega) (by omega) (by omega) hI.c5
  have kd:Obj s7 D (.deferred (some [])):=keepO _ _ (by omega) (by omega) (by omega) hI.de
  have kh:C8 s7 D v hs:=(((((hh.same (s':=oSt s.mem s.next) rfl rfl).ext x4 fun x hx _ h=>by have:=In1.1 h;omega).same (s':=oSt s4.mem s4.next) rfl rfl).ext x5 fun x hx _ h=>by have:=In1.1 h;omega).same (s':=oSt s5.mem s5.next) rfl rfl).ext x6 (fun x hx _ h=>by have:=In1.1 h;omega) |>.same m7 n7
  have hb7:s7.lim≤s7.next:=hx7.bnd hb
  refine W.bind (W.store1 B4 rfl k5 fun s8 n8 x8 w8=>W.pure ?_)
  have hx8:Ext (fun x=>A≤x) (fun x=>A≤x) s s8:=hx7.trans x8 hb (fun x _ h=>hZ _ x (by omega) h) fun x _ h=>hZ _ x (by omega) h
  have q2:Own s8 A 0 v:=k2.ext x8 fun h=>by have:=In1.1 h;omega
  have q3:Own s8 (A+2) 0 (.int .i64 (size:Nat)):=k3.ext x8 fun h=>by have:=In1.1 h;omega
  have q4:Own s8 (A+4) 0 (.int .i64 (bad:Nat)):=k4.ext x8 fun h=>by have:=In1.1 h;omega
  have qd:Obj s8 D (.deferred (some [])):=kd.ext x8 fun h=>by have:=In1.1 h;omega
  have qh:C8 s8 D v hs:=kh.ext x8 fun x hx _ h=>by have:=In1.1 h;omega
  refine W.endK rfl (.inl Tk_) (by omega) Fh_ HD_ (hx8.cx.trans hcx) qd ?_
  have x9:Ext (fun x=>A≤x) (fun x=>A≤x) (s.cxN cxN) (((s8.cxN cxN).rdN D).wrN D (.O (.deferred none))):=by
   have y1:Ext (fun x=>A≤x) (fun x=>A≤x) (s.cxN cxN) (s8.cxN cxN):=⟨hx8.nxt,hx8.lim,rfl,hx8.mem,hx8.rd,hx8.wr⟩
   have y2:=y1.trans (Ext.rdN (F:=fun x=>A≤x) (G:=fun x=>A≤x) (s8.cxN cxN) D fun _=>by omega) hb (fun _ _ h=>h) fun _ _ h=>h
   exact y2.trans (Ext.wrN (F:=fun x=>A≤x) (G:=fun x=>A≤x) ((s8.cxN cxN).rdN D) D _ (by omega)) hb (fun _ _ h=>h) fun _ _ h=>h
  have own9: ∀b o u,b+o<D→Own s8 b o u→Own (((s8.cxN cxN).rdN D).wrN D (.O (.deferred none))) b o u:=fun b o u h hu=>by
   refine⟨hu.1, ?_⟩
   show T.get (T.set s8.mem D _) _=_
   rw[T.get_set,if_neg (by omega)]
   exact hu.2
  have h9:C8 (((s8.cxN cxN).rdN D).wrN D (.O (.deferred none))) D v hs:=by
   have e:Ext (fun _=>True) (fun x=>x=D) (s8.cxN cxN) (((s8.cxN cxN).rdN D).wrN D (.O (.deferred none))):=by
    have y2:=Ext.rdN (F:=fun _=>True) (G:=fun x=>x=D) (s8.cxN cxN) D fun _=>trivial
    exact y2.trans (Ext.wrN (F:=fun _=>True) (G:=fun x=>x=D) ((s8.cxN cxN).rdN D) D _ rfl) (hx8.bnd hb) (fun _ _ h=>h) fun _ _ h=>h
   exact(qh.same (s':=s8.cxN cxN) rfl rfl).ext e fun x hx _ h=>by omega
  show W (resL envS tm _) (((s8.cxN cxN).rdN D).wrN D (.O (.deferred none))) _
  generalize ((s8.cxN cxN).rdN D).wrN D (.O (.deferred none))=s9 at *
  have step: ∀(b:Nat) (u:Value) (sa:St),A≤b→Ext (fun x=>A≤x) (fun x=>A≤x) (s.cxN cxN) sa→Ext (fun x=>A≤x) (fun x=>A≤x) (s.cxN cxN) (sa.rdN (b+0)):=fun b u sa hA x=>x.trans (Ext.rdN (F:=fun x=>A≤x) (G:=fun x=>A≤x) sa _ fun _=>by omega) hb (fun _ _ h=>h) fun _ _ h=>h
  refine W.resCell hS.t2 (W.load1 Ig (own9 _ _ _ (by omega) q2).at' ?_)
  refine W.resCell hS.t3 (W.load1 B4 ((own9 _ _ _ (by omega) q3).same rfl rfl).at' ?_)
  refine W.resCell hS.t4 (W.load1 B4 ((own9 _ _ _ (by omega) q4).same rfl rfl).at' ?_)
  refine W.resCell hS.t5 (W.load1 B4 ((own9 _ _ _ (by omega) w8).same rfl rfl).at' ?_)
  refine W.resNil ?_
  exact q _ v (step _ v _ (by omega) (step _ v _ (by omega) (step _ v _ (by omega) (step _ v _ (by omega) x9)))) (h9.same rfl rfl)
theorem Ki_:envS.ext.get 109=none:=by kernel_rfl
theorem Bs.one {s:St}{v:Value}{l:List Nat}(h:Bs s v l):oneCell v=true:=by
 obtain⟨p,c,rfl⟩:=h.sl
 cases p<;>rfl
def Ci (l:List Nat):List Hd×Nat×Nat×Nat:=BE l l.length 0 [] 0
theorem Ln_ {n:Nat}{v:Value}{l:List Nat}{s:St}{Q:Value→St→Prop}(hbd:s.lim≤s.next)(hbs:Bs s v l)(hvA: ∀x,BsF v x→x<s.next)(hby:Byt l)(hz:l.length≤200000)(hn:70000+60*l.length≤n)
  (q: ∀s1 w,Ext (BsF v) Non s s1→Ib s s1 w (Ci l).1→Q (.tuple #[w, .int .i64 ((Ci l).2.2.1:Nat), .int .i64 ((Ci l).2.1:Nat), .int .i64 ((Ci l).2.2.2:Nat)]) s1):W (Ai envS (runF envS n) 24 [v]) s Q:=by
 refine Ml_ fun tm h0=> ?_
 have hbs0:Bs (s.cxN cxN) v l:=hbs.same rfl rfl
 refine Tg_.w rfl (by omega) ?_
 simp -implicitDefEqProofs only[VZ,Ad,Aa,Ac]
 refine W.alloc AaT_ fun sa na xa oa=> ?_
 have na':sa.next=s.next+2:=na
 try simp -implicitDefEqProofs only[Ad,W_oS,W_on,Aa,W_mv,Ac,AJ,T.get_set,Ah,Ag,A8,A2,Af,Ar,reduceIte,Ax,Bp,Ba,Bv,A5,A9,Bb,Bo,AA,Bg,Nat.reduceEqDiff,reduceCtorEq, ↓reduceIte]
 refine W.alloc Ms fun sb nb xb ob=> ?_
 have nb':sb.next=s.next+4:=by rw[nb,na'];rfl
 try simp -implicitDefEqProofs only[Ad,W_oS,W_on,Aa,W_mv,Ac,AJ,T.get_set,Ah,Ag,A8,A2,Af,Ar,reduceIte,Ax,Bp,Ba,Bv,A5,A9,Bb,Bo,AA,Bg,Nat.reduceEqDiff,reduceCtorEq, ↓reduceIte]
 refine W.alloc Ms fun sc nc xc oc=> ?_
 have nc':sc.next=s.next+6:=by rw[nc,nb'];rfl
 try simp -implicitDefEqProofs only[Ad,W_oS,W_on,Aa,W_mv,Ac,AJ,T.get_set,Ah,Ag,A8,A2,Af,Ar,reduceIte,Ax,Bp,Ba,Bv,A5,A9,Bb,Bo,AA,Bg,Nat.reduceEqDiff,reduceCtorEq, ↓reduceIte]
 refine W.alloc Ms fun sd nd xd od=> ?_
 have nd':sd.next=s.next+8:=by rw[nd,nc'];rfl
 rw[na']at ob ⊢
 rw[nb']at oc ⊢
 rw[nc']at od ⊢
 try simp -implicitDefEqProofs only[Ad,W_oS,W_on,Aa,W_mv,Ac,AJ,T.get_set,Ah,Ag,A8,A2,Af,Ar,reduceIte,Ax,Bp,Ba,Bv,A5,A9,Bb,Bo,AA,Bg,Nat.reduceEqDiff,reduceCtorEq, ↓reduceIte]
 have hxd:Ext (BsF v) Non (s.cxN cxN) sd:=((((Ext.refl _).step xa hbd (fun _ _ h=>h.elim) fun _ h=>h.elim).step xb hbd (fun _ _ h=>h.elim) fun _ h=>h.elim).step xc hbd (fun _ _ h=>h.elim) fun _ h=>h.elim).step xd hbd (fun _ _ h=>h.elim) fun _ h=>h.elim
 refine PU_.w rfl (by omega) ?_
 simp -implicitDefEqProofs only[UW,Ad,W_on,Aa,W_mv,Ac,T.get_set,Ah,Ag,Af,Ar,reduceIte,reduceCtorEq, ↓reduceIte,h0]
 refine Tb_ hbs.one (by omega) fun se xe ne oe=> ?_
 rw[nd']at ne oe ⊢
 have hxe:Ext (BsF v) Non (s.cxN cxN) se:=hxd.step xe hbd (fun _ _ h=>h.elim) fun _ h=>h.elim
 have hbe:se.lim≤se.next:=hxe.bnd hbd
 have hbse:Bs se v l:=hbs0.ext0 hxe
 have c2:Own se s.next 0 (.slice none 0 0):=((((oa 0 _ rfl).ext0 xb).ext0 xc).ext0 xd).ext0 xe
 have c3:Own se (s.next+2) 0 (.int .i64 0):=(((ob 0 _ rfl).ext0 xc).ext0 xd).ext0 xe
 have c4:Own se (s.next+4) 0 (.int .i64 0):=((oc 0 _ rfl).ext0 xd).ext0 xe
 have c5:Own se (s.next+6) 0 (.int .i64 0):=(od 0 _ rfl).ext0 xe
 have H: ∀(n':Nat) (tmS:T Value) (td:List Item),65000+60*l.length≤n'→skim 64 td=EX→ScT s.next tmS→T.get tmS 9=some (.func (.func 109) #[] #[.pointer (some ⟨s.next+8,0,none⟩)])→W (runF envS n' ⟨24,EC,B3,tmS,td, .run, .normal,none⟩) se fun p s1=>Q p.1 (s1.cxN s.cx):=fun n' tmS td hn' hT hS h9=>by
  refine W.rangeFunc hT Qe_ h9 Ki_ hxe.cx (by omega) ?_
  rw[ne]
  intro s1 n1 x1 d1 l1
  have hx1:Ext (BsF v) Non (s.cxN cxN) s1:=hxe.step x1 hbd (fun _ _ h=>h.elim) fun _ h=>h.elim
  have hb1:s1.lim≤s1.next:=hx1.bnd hbd
  refine Se_ fun tm2 g0 g1=> ?_
  refine LV_.w rfl (by omega) ?_
  simp -implicitDefEqProofs only[Gl_,Aa,W_mv,Ac]
  have hbs1:Bs ((s1.cxN (.cx none (some (CM (s.next+8+2)::[])))).cxN cxN) v l:=(hbse.ext0 x1).same rfl rfl
  have I1:ScI s.next (s.next+8+2) _ .ready ((s1.cxN (.cx none (some (CM (s.next+8+2)::[])))).cxN cxN) [] 0 0 0:=
   ⟨l1.same rfl rfl,d1.same rfl rfl,⟨_,(c2.ext0 x1).same rfl rfl, .inl ⟨rfl,rfl⟩⟩,(c3.ext0 x1).same rfl rfl,(c4.ext0 x1).same rfl rfl,(c5.ext0 x1).same rfl rfl,fun h hh=>by simp at hh,by omega⟩
  have oB:Own ((s1.cxN (.cx none (some (CM (s.next+8+2)::[])))).cxN cxN) (s.next+8) 0 v:=(oe.ext0 x1).same rfl rfl
  refine SI_ (Q:=fun _ s2=>Obj s2 (s.next+8+2+1) (scanL tmS .ready (s.next+8+2))∧W (runF envS (n'-1) ⟨24,EC,B3,tmS,EX.tail, .run, .normal,none⟩) ((s2.rdN (s.next+8+2+1)).wrN (s.next+8+2+1) (.O (scanL tmS .exhausted (s.next+8+2)))) fun p s1=>Q p.1 (s1.cxN s.cx)) (s0:=s1.cxN (.cx none (some (CM (s.next+8+2)::[])))) (A:=s.next) (B:=s.next+8) (D:=s.next+8+2) (v:=v) (l:=l) (by omega) (by omega) hvA hby hz hS l.length 0 _ [] 0 _ _ ((s1.cxN (.cx none (some (CM (s.next+8+2)::[])))).cxN cxN) (Nat.zero_le _) (by omega) (by simp) (by omega) rfl hb1 rfl I1 oB hbs1 (by simp[T.get_set,g0]) (by simp[T.get_set,g1]) (by simp[T.get_set]) fun s2 I2 x2=> ?_
  refine⟨(I2.lo).same rfl rfl, ?_⟩
  have I3:=(ScI.turn (st':= .exhausted) (I2.same (s':=s2.cxN (.cx none (some [CM (s.next+8+2)]))) rfl rfl))
  have x3:=ML (A:=s.next) (D:=s.next+8+2) (s:=s2.cxN (.cx none (some [CM (s.next+8+2)]))) (.O (scanL tmS .exhausted (s.next+8+2))) I2.sep
  have hb2:s2.lim≤s2.next:=x2.bnd hb1
  refine Os_ (A:=s.next) (D:=s.next+8+2) (s0:=s) (x3.bnd hb2) rfl I3 hS rfl (by omega) fun s4 w x4 hw=> ?_
  have y1:Ext (BsF v) Non (s.cxN cxN) (s1.cxN cxN):=⟨hx1.nxt,hx1.lim,rfl,hx1.mem,hx1.rd,hx1.wr⟩
  have y2:Ext (BsF v) Non (s.cxN cxN) (s2.cxN cxN):=by
   have x2':Ext (LF s.next v) (ScZ s.next (s.next+8+2)) (s1.cxN cxN) (s2.cxN cxN):=⟨x2.nxt,x2.lim,rfl,x2.mem,x2.rd,x2.wr⟩
   refine y1.step x2' hbd (fun x hx h=> ?_) fun x h=>h.1
   rcases h with h|h
   ·exact h
   ·have h2:x<s.lim:=hx
    omega
  have y3:Ext (BsF v) Non (s.cxN cxN) ((((s2.cxN (.cx none (some [CM (s.next+8+2)]))).rdN (s.next+8+2+1)).wrN (s.next+8+2+1) (.O (scanL tmS .exhausted (s.next+8+2)))).cxN cxN):=by
   have x3':=x3
   refine y2.step (F':=ScZ s.next (s.next+8+2)) (G':=ScZ s.next (s.next+8+2)) ⟨x3.nxt,x3.lim,rfl,x3.mem,x3.rd,x3.wr⟩ hbd (fun x hx h=> ?_) fun x h=>h.1
   have h2:x<s.lim:=hx
   have:=h.1
   omega
  have y4:Ext (BsF v) Non (s.cxN cxN) s4:=y3.step x4 hbd (fun x hx h=>by
   have h2:x<s.lim:=hx
   have h3:s.next≤x:=h
   omega) fun x h=>h
  refine q _ w y4.cx' ?_
  rcases hw with hw|⟨b,g1,g2,g3⟩
  ·exact .inl hw
  ·exact .inr ⟨b,by omega,g2.same rfl rfl,g3⟩
 exact H _ _ _ (by omega) rfl ⟨by simp[T.get_set];rfl,by simp[T.get_set],by simp[T.get_set],by simp[T.get_set]⟩ (by simp[T.get_set])
theorem WQ:fldN envS 35 0=some (0,16,true):=by kernel_rfl
theorem E6:fldN envS 35 1=some (16,1,false):=by kernel_rfl
theorem MQ:fldN envS 35 2=some (17,1,false):=by kernel_rfl
theorem GF {h:Hd}(h16:h.1.length=16):(AI h)[16]?=some (.int .i64 (h.2.1:Nat))∧(AI h)[17]?=some (.int .i64 (h.2.2:Nat)):=by
 unfold AI
 have:(u8l h.1).length=16:=by rw[A6];exact h16
 constructor
 ·rw[List.getElem?_append_right (by omega),this];rfl
 ·rw[List.getElem?_append_right (by omega),this];rfl
def CY (l:List Nat)(h:Hd):Bool:= !((Co l h.2.1).2&&decide (A1 l h.2.1=h.2.2)&&decide (h.2.1+26+h.2.2≤l.length))
theorem Wp_ {R n:Nat}{v:Value}{l:List Nat}{h:Hd}{tm:T Value}{td:List Item}{s:St}{Q:Value×FrameMode→St→Prop}(hbs:Bs s v l)(hz:l.length≤900000)(h16:h.1.length=16)(hR:Ae s R 0 (AI h))(h0:T.get tm 0=some v)(h3:T.get tm 3=some (.pointer (some ⟨R,0,none⟩)))(h6:T.get tm 6=some (.int .i64 ((Co l h.2.1).1:Nat)))(h7:T.get tm 7=some (.bool (Co l h.2.1).2))(hT:skim 64 td=Hs)(hn:60≤n)
  (q: ∀n' s1 tm' td',n≤n'+2→skim 64 td'=Il→s1.mem=s.mem→s1.next=s.next→Ext (fun x=>R≤x) Non s s1→(∀j,j≠35→T.get tm' j=T.get tm j)→T.get tm' 35=some (.bool (CY l h))→W (runF envS n' ⟨27,Gp,CV,tm',td', .run, .normal,none⟩) s1 Q):
  W (runF envS n ⟨27,Gp,CV,tm,td, .run, .normal,none⟩) s Q:=by
 refine Be_.w hT (by omega) ?_
 have hl18:(AI h).length=18:=DZ h16
 have hRn:R+17<s.next:=by
  have:=(hR 17 _ (GF h16).2).1
  omega
 have o16:At (dSt s.mem s.next) R (0+16) (.int .i64 (h.2.1:Nat)):=((hR 16 _ (GF h16).1).same (s':=dSt s.mem s.next) rfl rfl).at'
 have o17:At (dSt s.mem s.next) R (0+17) (.int .i64 (h.2.2:Nat)):=((hR 17 _ (GF h16).2).same (s':=dSt s.mem s.next) rfl rfl).at'
 cases his:(Co l h.2.1).2 with
 |false=>
  rw[his]at h7
  have hm:CY l h=true:=by unfold CY;rw[his];rfl
  simp -implicitDefEqProofs only[Hw,h0,h3,h6,h7,BG,Ck,Ah,Ag,Af,Dc,Ap]
  rw[W_dq fun s Q=>CJ (s:=s) _ _ Q]
  simp -implicitDefEqProofs only[Ap,Bool.not_false,Ax,Cw,Ba,if_f]
  rw[W_dq fun s Q=>AA (s:=s) _ _ _ _]
  simp -implicitDefEqProofs only[reduceIte,Ap,Ax,Cw,Ba,if_f,Aa]
  refine⟨Dn (by simp) (by simp), ?_⟩
  refine W.cast (GN _ _ _ _ _ _ _ _ _ _ _ _ _ _ _ _ _ _ _ _ _ _) ?_
  simp -implicitDefEqProofs only[Ad,W_on,Aa,AJ,reduceIte,AA, ↓reduceIte]
  exact q _ _ _ _ (by omega) rfl rfl rfl (Ext.drawG (Nat.le_refl _) (fun _ _ _=>rfl) (by simp) (by simp)) (fun j hj=>by rw[T.get_set,if_neg hj]) (by rw[T.get_set,if_pos rfl,hm])
 |true=>
  rw[his]at h7
  have hk:h.2.1+6≤l.length:=by
   unfold Co at his
   split at his
   ·assumption
   ·cases his
  have hsb:(Co l h.2.1).1=A1 l h.2.1:=by unfold Co;rw[if_pos hk]
  have hok:Cp l h.2.1=true:=by unfold Co at his;rw[if_pos hk]at his;exact his
  obtain⟨g1,g2⟩:=EB hok
  rw[hsb]at h6
  simp -implicitDefEqProofs only[Hw,h0,h3,h6,h7,BG,Ck,Ah,Ag,Af,Dc,Ap]
  rw[W_dq fun s Q=>CJ (s:=s) _ _ Q]
  simp -implicitDefEqProofs only[Ap,Bool.not_true,Ax,Cw,A5,if_t]
  rw[W_dq fun s Q=>BW (s:=s) MQ (by decide) Q]
  refine W.dload B4 o17 fun rd1 hr1=> ?_
  rw[W_dq fun s Q=>Dj (s:=s) _ _]
  rw[W_dq fun s Q=>AA (s:=s) _ _ _ _]
  simp -implicitDefEqProofs only[Bool.false_eq_true,reduceIte,Ap]
  by_cases hsz:A1 l h.2.1=h.2.2
  ·have e1:(!decide (((A1 l h.2.1:Nat):Int)=((h.2.2:Nat):Int)))=false:=by rw[hsz];simp
   rw[e1]
   simp -implicitDefEqProofs only[Ax,Cw,A5,if_t,Ap]
   obtain⟨p,c,rfl⟩:=hbs.sl
   rw[W_dq fun s Q=>B5 (s:=s) AE Q]
   rw[W_dq fun s Q=>BW (s:=s) E6 (by decide) Q]
   refine W.dload B4 o16 fun rd2 hr2=> ?_
   have e2:wrap64 (((l.length:Nat):Int)-((h.2.1:Nat):Int))=((l.length-h.2.1:Nat):Int):=by
    rw[AP (by omega) (by omega)];omega
   rw[W_dq fun s Q=>Cm (s:=s) _ _,e2]
   simp -implicitDefEqProofs only[Ap]
   refine W.dop0 (Gt _ (by omega) ⟨rfl, ?_⟩)
   rw[Fc g1 g2,W_dq fun s Q=>Be (s:=s) _ _,Aa]
   have e3:decide (((l.length-h.2.1:Nat):Int)<((A1 l h.2.1+26:Nat):Int))=CY l h:=by
    unfold CY
    rw[his,decide_eq_true hsz,Bool.true_and,Bool.true_and]
    by_cases h5:h.2.1+26+h.2.2≤l.length
    ·rw[decide_eq_true h5,decide_eq_false (by omega)];rfl
    ·rw[decide_eq_false h5,decide_eq_true (by omega)];rfl
   rw[e3]
   refine⟨Fa (by simp) (by
    simp -implicitDefEqProofs only[List.reverse_cons,List.reverse_nil,List.nil_append,List.cons_append,List.mem_cons,List.not_mem_nil,or_false]
    rintro m (rfl|rfl|rfl|rfl|rfl|rfl|rfl|rfl|rfl|rfl|rfl|rfl|rfl|rfl|rfl|rfl|rfl)<;>refine⟨rfl,fun x hx=> ?_⟩<;>first|(cases hx;done)|(have:=hr1 _ hx;omega)|(have:=hr2 _ hx;omega)), ?_⟩
   refine W.cast (GN _ _ _ _ _ _ _ _ _ _ _ _ _ _ _ _ _ _ _ _ _ _) ?_
   simp -implicitDefEqProofs only[Ad,W_on,Aa,AJ,reduceIte,AA,reduceCtorEq, ↓reduceIte]
   refine q _ _ _ _ (by omega) rfl rfl rfl (Ext.drawG (Nat.le_refl _) (fun _ _ _=>rfl) ?_ ?_) (fun j hj=>by rw[T.get_set,if_neg hj]) (by rw[T.get_set,if_pos rfl])
   ·simp -implicitDefEqProofs only[List.mem_cons,List.not_mem_nil,or_false]
    rintro m (rfl|rfl|rfl|rfl|rfl|rfl|rfl|rfl|rfl|rfl|rfl|rfl|rfl|rfl|rfl|rfl|rfl) x hx _<;>cases hx
   ·simp -implicitDefEqProofs only[List.mem_cons,List.not_mem_nil,or_false]
    rintro m (rfl|rfl|rfl|rfl|rfl|rfl|rfl|rfl|rfl|rfl|rfl|rfl|rfl|rfl|rfl|rfl|rfl) x hx _<;>first|(cases hx;done)|(have:=hr1 _ hx;omega)|(have:=hr2 _ hx;omega)
  ·have e1:(!decide (((A1 l h.2.1:Nat):Int)=((h.2.2:Nat):Int)))=true:=by
    rw[decide_eq_false (by omega)];rfl
   have hm:CY l h=true:=by unfold CY;rw[his,decide_eq_false hsz];rfl
   rw[e1]
   simp -implicitDefEqProofs only[Ax,Cw,Ba,if_f,Ap,Aa]
   refine⟨Fa (by simp) (by
    simp -implicitDefEqProofs only[List.reverse_cons,List.reverse_nil,List.nil_append,List.cons_append,List.mem_cons,List.not_mem_nil,or_false]
    rintro m (rfl|rfl|rfl|rfl|rfl|rfl|rfl|rfl|rfl|rfl|rfl|rfl|rfl|rfl|rfl|rfl|rfl)<;>refine⟨rfl,fun x hx=> ?_⟩<;>first|(cases hx;done)|(have:=hr1 _ hx;omega)), ?_⟩
   refine W.cast (GN _ _ _ _ _ _ _ _ _ _ _ _ _ _ _ _ _ _ _ _ _ _) ?_
   simp -implicitDefEqProofs only[Ad,W_on,Aa,AJ,reduceIte,AA, ↓reduceIte]
   refine q _ _ _ _ (by omega) rfl rfl rfl (Ext.drawG (Nat.le_refl _) (fun _ _ _=>rfl) ?_ ?_) (fun j hj=>by rw[T.get_set,if_neg hj]) (by rw[T.get_set,if_pos rfl,hm])
   ·simp -implicitDefEqProofs only[List.mem_cons,List.not_mem_nil,or_false]
    rintro m (rfl|rfl|rfl|rfl|rfl|rfl|rfl|rfl|rfl|rfl|rfl|rfl|rfl|rfl|rfl|rfl|rfl) x hx _<;>cases hx
   ·simp -implicitDefEqProofs only[List.mem_cons,List.not_mem_nil,or_false]
    rintro m (rfl|rfl|rfl|rfl|rfl|rfl|rfl|rfl|rfl|rfl|rfl|rfl|rfl|rfl|rfl|rfl|rfl) x hx _<;>first|(cases hx;done)|(have:=hr1 _ hx;omega)
def hitB (l:List Nat)(h:Hd):Bool:=BC l h.2.1 h.2.2&&decide (BI l h.2.1 h.2.2=h.1)
theorem AaF_ {n:Nat}{v:Value}{l:List Nat}{h:Hd}{s:St}{Q:Value→St→Prop}(hbd:s.lim≤s.next)(hbs:Bs s v l)(hby:Byt l)(hz:l.length≤200000)(hk:h.2.1≤1000000)(h16:h.1.length=16)(hn:60000≤n)
  (q1:CY l h=false→hitB l h=true→ ∀s1 w nb,Ext (BsF v) Non s s1→MkO s1 w (BJ l h.2.1 h.2.2) nb 16→s.next≤nb→Q (.tuple #[w, .int .i64 0]) s1)
  (q2:CY l h=false→hitB l h=false→ ∀s1,Ext (BsF v) Non s s1→Q (.tuple #[.slice none 0 0, .int .i64 11]) s1)
  (q3:CY l h=true→ ∀s1,Ext (BsF v) Non s s1→Q (.tuple #[.slice none 0 0, .int .i64 6]) s1):W (Ai envS (runF envS n) 27 [v, .agg (AI h).toArray]) s Q:=by
 refine XS fun tm h0 h1=> ?_
 have hbs0:Bs (s.cxN cxN) v l:=hbs.same rfl rfl
 have hl18:(AI h).length=18:=DZ h16
 refine WY.w rfl (by omega) ?_
 simp -implicitDefEqProofs only[NX,Ad,W_oS,Aa,W_mv,Ac,h1]
 refine W.box fun sa na xa oa=> ?_
 have hcel:cellsOf (.agg (AI h).toArray)=AI h:=rfl
 rw[hcel]at na oa
 have na':sa.next=s.next+19:=by rw[na,hl18];rfl
 have oa':Ae sa s.next 0 (AI h):=oa
 try simp -implicitDefEqProofs only[Ad,W_oS,W_on,Aa,W_mv,Ac,AJ,T.get_set,Ah,Ag,A8,A2,Af,Ar,reduceIte,Ax,Bp,Ba,Bv,A5,A9,Bb,Bo,AA,Bg,Nat.reduceEqDiff,reduceCtorEq, ↓reduceIte]
 have hxa:Ext (BsF v) Non (s.cxN cxN) sa:=(Ext.refl _).step xa hbd (fun _ _ h=>h.elim) fun _ h=>h.elim
 refine CO_.w rfl (by omega) ?_
 simp -implicitDefEqProofs only[NI,Ad,W_oS,W_on,Aa,W_mv,Ac,T.get_set,Ah,Ag,Af,Ar,reduceIte,Nat.reduceEqDiff,reduceCtorEq, ↓reduceIte,h0]
 rw[show(s.cxN cxN).next=s.next from rfl,BW E6 (by decide)]
 have o16:Own sa s.next (0+16) (.int .i64 (h.2.1:Nat)):=oa' 16 _ (GF h16).1
 refine W.load1 B4 o16.at' ?_
 try simp -implicitDefEqProofs only[Ad,W_oS,W_on,Aa,W_mv,Ac,AJ,T.get_set,Ah,Ag,A8,A2,Af,Ar,reduceIte,Ax,Bp,Ba,Bv,A5,A9,Bb,Bo,AA,Bg,Nat.reduceEqDiff,reduceCtorEq, ↓reduceIte]
 have hxb:Ext (BsF v) Non (s.cxN cxN) (sa.rdN (s.next+(0+16))):=hxa.step (Ext.rdN (F:=fun x=>s.next≤x) (G:=Non) sa _ fun _=>by omega) hbd (fun x hx h=>by
  have h2:x<s.lim:=hx
  have h3:s.next≤x:=h
  omega) fun _ h=>h.elim
 have ob:Ae (sa.rdN (s.next+(0+16))) s.next 0 (AI h):=fun i v e=>(oa' i v e).same rfl rfl
 have nb:(sa.rdN (s.next+(0+16))).next=s.next+19:=na'
 generalize sa.rdN (s.next+(0+16))=sb at *
 refine J1 (hxb.bnd hbd) (hbs0.ext0 hxb) hby (by omega) (by omega) fun sc xc=> ?_
 rw[Bq (k:=0) rfl,Bq (k:=1) rfl]
 have hxc:Ext (BsF v) Non (s.cxN cxN) sc:=hxb.step xc hbd (fun _ _ h=>h) fun _ h=>h.elim
 have oc:Ae sc s.next 0 (AI h):=fun i v e=>(ob i v e).ext0 xc
 have nc:s.next+19≤sc.next:=by have:=xc.nxt;omega
 refine Wp_ (R:=s.next) (h:=h) (hbs0.ext0 hxc) (by omega) h16 oc (by simp[T.get_set,h0]) (by simp[T.get_set]) (by simp[T.get_set]) (by simp[T.get_set]) rfl (by omega) fun n' sd tm' td' hn' hT' md nd xd hkeep h35=> ?_
 have hxd:Ext (BsF v) Non (s.cxN cxN) sd:=hxc.step xd hbd (fun x hx h=>by
  have h2:x<s.lim:=hx
  omega) fun _ h=>h.elim
 have od:Ae sd s.next 0 (AI h):=fun i v e=>(oc i v e).same md nd
 have k0:T.get tm' 0=some v:=by rw[hkeep 0 (by decide)];simp[T.get_set,h0]
 have k3:T.get tm' 3=some (.pointer (some ⟨s.next,0,none⟩)):=by rw[hkeep 3 (by decide)];simp[T.get_set]
 have k6:T.get tm' 6=some (.int .i64 ((Co l h.2.1).1:Nat)):=by rw[hkeep 6 (by decide)];simp[T.get_set]
 cases hm:CY l h with
 |true=>
  rw[hm]at h35
  refine W.cond (v:=true) hT' ON h35 (by omega) (fun _=> ?_) fun h=>by cases h
  refine At_.w rfl (by omega) ?_
  simp -implicitDefEqProofs only[Pk,Aa,W_mv,Ac]
  exact W.end' (rs:=[4,5]) (vs:=[.slice none 0 0, .int .i64 6]) rfl (.inl Fm_) (by omega) G3 IW hxd.cx (by simp[T.get_set]) (q3 hm _ hxd.cx')
 |false=>
  rw[hm]at h35
  refine W.cond (v:=false) hT' ON h35 (by omega) (fun h=>by cases h) fun _=> ?_
  have hm2:=hm
  unfold CY at hm2
  rw[Bool.not_eq_false',Bool.and_eq_true,Bool.and_eq_true,decide_eq_true_eq,decide_eq_true_eq]at hm2
  obtain⟨⟨p1,p2⟩,p3⟩:=hm2
  have hk6:h.2.1+6≤l.length:=by omega
  have hsb:(Co l h.2.1).1=h.2.2:=by unfold Co;rw[if_pos hk6];exact p2
  have hok:Cp l h.2.1=true:=by unfold Co at p1;rw[if_pos hk6]at p1;exact p1
  obtain⟨g1,g2⟩:=EB hok
  rw[p2]at g1 g2
  rw[hsb]at k6
  refine Ns_.w rfl (by omega) ?_
  simp -implicitDefEqProofs only[BJ_,Ad,W_oS,W_on,Aa,W_mv,Ac,Ah,Ag,Af,Ar,k0,k3,k6]
  rw[BW E6 (by decide)]
  have o16d:Own sd s.next (0+16) (.int .i64 (h.2.1:Nat)):=od 16 _ (GF h16).1
  refine W.load1 B4 o16d.at' ?_
  try simp -implicitDefEqProofs only[Ad,W_oS,W_on,Aa,W_mv,Ac,AJ,T.get_set,Ah,Ag,A8,A2,Af,Ar,reduceIte,Ax,Bp,Ba,Bv,A5,A9,Bb,Bo,AA,Bg,Nat.reduceEqDiff,reduceCtorEq, ↓reduceIte]
  have hxe:Ext (BsF v) Non (s.cxN cxN) (sd.rdN (s.next+(0+16))):=hxd.step (Ext.rdN (F:=fun x=>s.next≤x) (G:=Non) sd _ fun _=>by omega) hbd (fun x hx h=>by
   have h2:x<s.lim:=hx
   have h3:s.next≤x:=h
   omega) fun _ h=>h.elim
  have oe:Ae (sd.rdN (s.next+(0+16))) s.next 0 (AI h):=fun i v e=>(od i v e).same rfl rfl
  have ne:s.next+19≤(sd.rdN (s.next+(0+16))).next:=by show s.next+19≤sd.next;omega
  generalize sd.rdN (s.next+(0+16))=se at *
  have hbe:se.lim≤se.next:=hxe.bnd hbd
  have rest: ∀(sf:St) (w:Value) (id:List Nat) (g:Bool),Ext (BsF v) Non se sf→id.length=16→id=BI l h.2.1 h.2.2→g=BC l h.2.1 h.2.2→oneCell w=true→(g=true→ ∃nb,MkO sf w (BJ l h.2.1 h.2.2) nb 16∧se.next≤nb)→
    W (kExt 0 (.tuple #[.agg (u8l id).toArray,w, .bool g])) sf fun v42 s3=>W (kExt 1 (.tuple #[.agg (u8l id).toArray,w, .bool g])) s3 fun v43 s4=>W (kExt 2 (.tuple #[.agg (u8l id).toArray,w, .bool g])) s4 fun v44 s5=>W (Bt envS 26) s5 fun v8 s6=>W (A7 envS 26 v8 v42) s6 fun _ s7=>W (runF envS (n'-1-1) ⟨27,Gp,CV,T.set (T.set (T.set tm' 8 v8) 9 v43) 10 v44,Qe.tail, .run, .normal,none⟩) s7 fun p s1=>Q p.1 (s1.cxN s.cx):=fun sf w id g xf hid hide hge hw1 hw=>by
   rw[Bq (k:=0) rfl,Bq (k:=1) rfl,Bq (k:=2) rfl]
   have hxf:Ext (BsF v) Non (s.cxN cxN) sf:=hxe.step xf hbd (fun _ _ h=>h) fun _ h=>h.elim
   have hIl:(u8l id).length=16:=by rw[A6];exact hid
   have nf:se.next≤sf.next:=xf.nxt
   refine W.alloc DH fun sg ng xg og=> ?_
   have hxg:Ext (BsF v) Non (s.cxN cxN) sg:=hxf.step xg hbd (fun _ _ h=>h.elim) fun _ h=>h.elim
   refine W.store BL hIl (BT _) (fun i hi=>(Ae.owned og) i (by simpa using hi)) fun sh nh xh oh=> ?_
   have oh':Ae sh sf.next 0 (u8l id):=oh
   have hG: ∀x,In sf.next 0 16 x→sf.next≤x:=fun x h=>by have:=h.1;omega
   have hxh:Ext (BsF v) Non (s.cxN cxN) sh:=hxg.step xh hbd (fun x hx h=>by
    have h2:x<s.lim:=hx
    have:=hG x h
    omega) fun x h=>by have h3:=hG x h;show s.next≤x;omega
   have keep: ∀b o u,Own sf b o u→Own sh b o u:=fun b o u hu=>(hu.ext0 xg).ext xh fun h=>by have:=hG _ h;have:=hu.1;omega
   have oh18:Ae sh s.next 0 (AI h):=fun i v e=>keep _ _ _ ((oe i v e).ext0 xf)
   refine Ue_.w rfl (by omega) ?_
   have fin: ∀(si:St) (tm2:T Value) (td2:List Item) (b:Bool),Ext (BsF v) Non (s.cxN cxN) si→(∀x,x<sf.next→T.get si.mem x=T.get sh.mem x)→sf.next≤si.next→skim 64 td2=Lc→T.get tm2 9=some w→T.get tm2 52=some (.bool b)→b= !hitB l h→(b=false→g=true)→
     W (runF envS (n'-1-1-1) ⟨27,Gp,CV,tm2,td2, .run, .normal,none⟩) si fun p s1=>Q p.1 (s1.cxN s.cx):=fun si tm2 td2 b xi mi ni hT2 h9 h52 hb hbg=>by
    cases b with
    |true=>
     refine W.cond (v:=true) hT2 EB_ h52 (by omega) (fun _=> ?_) fun h=>by cases h
     refine ME_.w rfl (by omega) ?_
     simp -implicitDefEqProofs only[Ud,Aa,W_mv,Ac]
     exact W.end' (rs:=[4,5]) (vs:=[.slice none 0 0, .int .i64 11]) rfl (.inl NV_) (by omega) G3 IW xi.cx (by simp[T.get_set]) (q2 hm (by simpa using hb.symm) _ xi.cx')
    |false=>
     refine W.cond (v:=false) hT2 EB_ h52 (by omega) (fun h=>by cases h) fun _=> ?_
     refine YM_.w rfl (by omega) ?_
     simp -implicitDefEqProofs only[Z0,Aa,W_mv,Ac,h9]
     obtain⟨nb,w1,w2⟩:=hw (hbg rfl)
     have kp: ∀y,y<sf.next→T.get si.mem y=T.get sf.mem y:=fun y hy=>by
      rw[mi _ hy,xh.mem _ (Nat.lt_of_lt_of_le hy xg.nxt) fun h=>by have:=hG _ h;omega,xg.mem _ hy fun h=>h]
     refine W.end' (rs:=[4,5]) (vs:=[w, .int .i64 0]) rfl (.inl ND_) (by omega) G3 IW xi.cx (by simp[T.get_set]) (q1 hm (by simpa using hb.symm) _ w nb xi.cx' ⟨w1.val,fun i u e=> ?_,(kp _ w1.lt).trans w1.tok,Nat.lt_of_lt_of_le w1.lt ni⟩ (by omega))
     have e5:=w1.own i u e
     exact⟨Nat.lt_of_lt_of_le e5.1 ni,(kp _ e5.1).trans e5.2⟩
   cases g with
   |false=>
    simp -implicitDefEqProofs only[Mb,Ad,W_oS,W_on,Aa,W_mv,Ac,T.get_set,reduceIte,Ax,Ba,A9,Bo,AA,Nat.reduceEqDiff, ↓reduceIte,CJ,Bool.not_false]
    refine fin sh _ _ true hxh (fun _ _=>rfl) (by have:=xg.nxt;have:=xh.nxt;omega) rfl (by simp[T.get_set]) (by simp[T.get_set]) ?_ fun h=>by cases h
    unfold hitB
    rw[←hge]
    rfl
   |true=>
    simp -implicitDefEqProofs only[Mb,Ad,W_oS,W_on,Aa,W_mv,Ac,T.get_set,reduceIte,Ax,A5,A9,Bb,AA,Nat.reduceEqDiff,reduceCtorEq, ↓reduceIte,CJ,Bool.not_true,k3]
    refine W.loadA BL oh'.row hIl fun si mi ni xi=> ?_
    have hxi:Ext (BsF v) Non (s.cxN cxN) si:=hxh.step xi hbd (fun x hx h=>by
     have h2:x<s.lim:=hx
     have:=hG x h
     omega) fun _ h=>h.elim
    rw[BW WQ (by decide)]
    have oid:Ae si s.next (0+0) (u8l h.1):=fun i u e=>by
     have hi:i<(u8l h.1).length:=(List.getElem?_eq_some_iff.1 e).1
     have:=oh18 i u (by unfold AI;rw[List.getElem?_append_left hi];exact e)
     exact this.same mi ni
    refine W.loadA BL oid.row (by rw[A6];exact h16) fun sj mj nj xj=> ?_
    have hxj:Ext (BsF v) Non (s.cxN cxN) sj:=hxi.step xj hbd (fun x hx h=>by
     have h2:x<s.lim:=hx
     have h4:s.next+(0+0)≤x:=h.1
     omega) fun _ h=>h.elim
    try simp -implicitDefEqProofs only[Ad,W_oS,W_on,Aa,W_mv,Ac,AJ,T.get_set,Ah,Ag,A8,A2,Af,Ar,reduceIte,Ax,Bp,Ba,Bv,A5,A9,Bb,Bo,AA,Bg,Nat.reduceEqDiff,reduceCtorEq, ↓reduceIte]
    rw[Ew_ Jg hid h16]
    try simp -implicitDefEqProofs only[Ad,W_oS,W_on,Aa,W_mv,Ac,AJ,T.get_set,Ah,Ag,A8,A2,Af,Ar,reduceIte,Ax,Bp,Ba,Bv,A5,A9,Bb,Bo,AA,Bg,Nat.reduceEqDiff,reduceCtorEq, ↓reduceIte]
    refine fin sj _ _ (!decide (id=h.1)) hxj (fun x _=>by rw[mj,mi]) (by have:=xg.nxt;have:=xh.nxt;omega) rfl (by simp[T.get_set]) (by simp[T.get_set]) ?_ fun _=>rfl
    unfold hitB
    rw[←hge,←hide,Bool.true_and]
  refine Rn hbe (hbs0.ext0 hxe) hby (by omega) g1 g2 p3 (by omega) (fun hg sf w nb xf hw1 hw2=> ?_) fun hg sf xf=> ?_
  ·have e1:BI l h.2.1 h.2.2=BH l h.2.1 h.2.2:=if_pos hg
   have e2:BC l h.2.1 h.2.2=decide (idB (BJ l h.2.1 h.2.2)=BH l h.2.1 h.2.2):=by unfold BC;rw[decide_eq_true hg,Bool.true_and]
   exact rest sf w _ _ xf (Fz p3) e1.symm e2.symm (by rw[hw1.val];rfl) fun _=>⟨nb,hw1,hw2⟩
  ·have e1:BI l h.2.1 h.2.2=FZ:=if_neg hg
   have e2:BC l h.2.1 h.2.2=false:=by unfold BC;rw[decide_eq_false hg,Bool.false_and]
   exact rest sf _ _ _ xf rfl e1.symm e2.symm rfl fun h=>by cases h
structure Good (l:List Nat)(h:Hd):Prop where
 ok:Cc l h.2.1=true
 sz:A1 l h.2.1=h.2.2
 good:BC l h.2.1 h.2.2=true
 id:BI l h.2.1 h.2.2=h.1
def chainB (e:Nat):List Hd→Prop
 |[]=>True
 |h::t=>e≤h.2.1∧chainB (h.2.1+26+h.2.2) t
def endB (e:Nat):List Hd→Nat
 |[]=>e
 |h::t=>endB (h.2.1+26+h.2.2) t
theorem Aav_ {e e':Nat}(h:e'≤e): ∀{t:List Hd},chainB e t→chainB e' t
 |[],_=>trivial
 |_::_,⟨h1,h2⟩=>⟨by omega,h2⟩
theorem ID_ {e e':Nat}(h:e'≤e): ∀(t:List Hd),endB e' t≤endB e t
 |[]=>h
 |_::_=>Nat.le_refl _
theorem Co_ {l:List Nat}{k:Nat}:Cz l k=0↔k=l.length:=by
 unfold Cz
 constructor
 ·intro h
  split at h
  ·assumption
  ·split at h
   ·omega
   ·split at h<;>omega
 ·intro h
  rw[if_pos h]
theorem M0 {l:List Nat}: ∀(f k:Nat) (hs:List Hd) (bad:Nat),k≤l.length→ ∃new,(BE l f k hs bad).1=hs++new∧chainB k new∧endB k new≤(BE l f k hs bad).2.2.1∧(∀h∈new,Good l h)∧(BE l f k hs bad).2.2.1≤l.length∧((BE l f k hs bad).2.2.2=0↔(BE l f k hs bad).2.2.1=l.length)∧(BE l f k hs bad).2.2.2≤2
 |0,k,hs,bad,hk=>⟨[],by simp[BE],trivial,Nat.le_refl _,fun _ h=>by simp at h,hk,Co_,Su l k⟩
 |f+1,k,hs,bad,hk=>by
  unfold BE
  cases hr:Cc l k with
  |false=>exact⟨[],by simp,trivial,Nat.le_refl _,fun _ h=>by simp at h,hk,Co_,Su l k⟩
  |true=>
   have hlen:k+26+A1 l k≤l.length:=by
    unfold Cc at hr
    rw[Bool.and_eq_true]at hr
    exact of_decide_eq_true hr.2
   simp -implicitDefEqProofs only[reduceIte]
   cases hg:BC l k (A1 l k)with
   |false=>
    simp -implicitDefEqProofs only[Bool.false_eq_true,reduceIte]
    obtain⟨new,e1,e2,e3,e4,e5,e6,e7⟩:=M0 f (k+26+A1 l k) hs (bad+1) hlen
    exact⟨new,e1,Aav_ (by omega) e2,Nat.le_trans (ID_ (by omega) new) e3,e4,e5,e6,e7⟩
   |true=>
    simp -implicitDefEqProofs only[reduceIte]
    obtain⟨new,e1,e2,e3,e4,e5,e6,e7⟩:=M0 f (k+26+A1 l k) (hs++[(BI l k (A1 l k),k,A1 l k)]) bad hlen
    refine⟨(BI l k (A1 l k),k,A1 l k)::new,by rw[e1,List.append_assoc];rfl,⟨Nat.le_refl _,e2⟩,e3,fun h hh=> ?_,e5,e6,e7⟩
    rcases List.mem_cons.1 hh with rfl|hh
    ·exact⟨hr,rfl,hg,rfl⟩
    ·exact e4 h hh
theorem KR_ (l:List Nat):chainB 0 (Ci l).1∧endB 0 (Ci l).1≤(Ci l).2.2.1∧(∀h∈(Ci l).1,Good l h)∧(Ci l).2.2.1≤l.length∧((Ci l).2.2.2=0↔(Ci l).2.2.1=l.length)∧(Ci l).2.2.2≤2:=by
 obtain⟨new,e1,e2,e3,e4,e5,e6,e7⟩:=M0 (l:=l) l.length 0 [] 0 (Nat.zero_le _)
 rw[List.nil_append]at e1
 have:(Ci l).1=new:=e1
 rw[this]
 exact⟨e2,e3,e4,e5,e6,e7⟩
theorem Good.facts {l:List Nat}{h:Hd}(g:Good l h):CY l h=false∧hitB l h=true∧h.2.1+26+h.2.2≤l.length∧1≤h.2.2∧h.2.2≤1024∧h.1.length=16∧idB (BJ l h.2.1 h.2.2)=h.1:=by
 have hr:=g.ok
 unfold Cc at hr
 rw[Bool.and_eq_true,Bool.and_eq_true,decide_eq_true_eq,decide_eq_true_eq,g.sz]at hr
 obtain⟨⟨h1,h2⟩,h3⟩:=hr
 obtain⟨g1,g2⟩:=EB h2
 rw[g.sz]at g1 g2
 have h4:h.1.length=16:=by rw[←g.id];exact Ik h3
 have hg:=g.good
 unfold BC at hg
 rw[Bool.and_eq_true,decide_eq_true_eq,decide_eq_true_eq]at hg
 have hid:=g.id
 unfold BI at hid
 rw[if_pos hg.1]at hid
 refine⟨?_, ?_,h3,g1,g2,h4,by rw[hg.2,hid]⟩
 ·unfold CY Co
  rw[if_pos h1]
  simp[h2,g.sz,h3]
 ·unfold hitB
  rw[g.good,g.id]
  simp
def recB (b:List Nat):List Nat:=Do b.length++gput (idB b++b)
end Go.Proofs.Ytofanlcjeohcjaa.Am
