import Derived.Test.YtndednnianphoaaGreatDoorJo17
noncomputable section
namespace Go.Proofs.YtndednnianphoaaGreatDoor.Am
open Go.RowKit
def H5:Nat:=Ar Tryz.f49
def XX:Code:=Tryz.f49.body.getD .skip
theorem Ds_:envS.fn.get 49=some Tryz.f49:=by kernel_rfl
theorem Kq_:G2 envS 49 42 H5 XX:=λh=>
 aI Ds_ (h _ (by kernel_rfl) (by kernel_rfl))
theorem UB_:Tryz.f49.results.toList=[.tmp 4]:=by kernel_rfl
def Uz:List Item:=skim 64 [.code XX]
def AC_:=nx Uz
def X3:=nx AC_
def UC:=nx X3
def Eo_:=bt UC
def CN_:=nx Eo_
def UX:Rg:=λE call round tm=>
 mv (some (.slice none 0 0)) λv4=>
 setF 4 v4 tm λtm1=>
 M.pure tm1
theorem SV_:RegEq 49 42 H5 Uz UX:={}
def Zh:Rg:=λE call round tm=>
 mv (T.get tm 0) λv8=>
 mv (T.get tm 1) λv9=>
 cN call round 70 [(some v8),(some v9)] λv10=>
 mv (some v10) λv5=>
 setF 5 v5 tm λtm1=>
 M.pure tm1
theorem VD_:RegEq 49 42 H5 AC_ Zh:={}
def YJ:Rg:=λE call round tm=>
 mv (T.get tm 5) λv11=>
 bI E .eql 3 (.tmp 11) (.const (.int .i64 (-1))) (some v11) (some (.int .i64 (-1))) λv12=>
 setF 12 v12 tm λtm1=>
 M.pure tm1
theorem SD_:RegEq 49 42 H5 X3 YJ:={}
theorem Vj_:Ak UC=some 12:=by kernel_rfl
def Vo:Rg:=λE call round tm=>
 mv (T.get tm 0) λv13=>
 mv (some v13) λv4=>
 setF 4 v4 tm λtm1=>
 M.pure tm1
theorem PO_:RegEq 49 42 H5 Eo_ Vo:={}
theorem Ot_: ∃k,CN_= .code .ret::k:=⟨CN_.tail,by kernel_rfl⟩
def DR:Nat:=Ar Tryz.f70
abbrev Jz_:Nat:=19
def DM_:Code:=Tryz.f70.body.getD .skip
theorem Q1:envS.fn.get 70=some Tryz.f70:=by kernel_rfl
theorem ZK_:G2 envS 70 19 DR DM_:=λh=>
 aI Q1 (h _ (by kernel_rfl) (by kernel_rfl))
theorem Uy_:Tryz.f70.results.toList=[.tmp 4]:=by kernel_rfl
def ZR:List Item:=skim 64 [.code DM_]
def UY:=nx ZR
def Kb:=nx UY
def Ns:=nx Kb
def VV:=bt Ns
def HT_:=bf Ns
def Rm:=nx VV
def AS_:=nx HT_
def RO:=nx Rm
def Y4:=bf RO
theorem MV_:skim 64 Y4.tail=Kb:=by kernel_rfl
def VX:Rg:=λE call round tm=>
 mv (some (.int .i64 0)) λv4=>
 setF 4 v4 tm λtm1=>
 M.pure tm1
theorem AcV_:RegEq 70 19 DR ZR VX:={}
def FE_:Rg:=λE call round tm=>
 mv (T.get tm 0) λv6=>
 lN E .len [41] [(some v6)] λv7=>
 setF 7 v7 tm λtm1=>
 mv (some (.int .i64 0)) λv8=>
 setF 8 v8 tm1 λtm2=>
 M.pure tm2
theorem Oq_:RegEq 70 19 DR UY FE_:={}
def Lm:Rg:=λE call round tm=>
 bI E .lss 3 (.tmp 8) (.tmp 7) (T.get tm 8) (T.get tm 7) λv9=>
 setF 9 v9 tm λtm1=>
 M.pure tm1
theorem FS_:RegEq 70 19 DR Kb Lm:={}
theorem W0:Ak Ns=some 9:=by kernel_rfl
def Dd_:Rg:=λE call round tm=>
 mv (T.get tm 8) λv10=>
 mv (some v10) λv5=>
 setF 5 v5 tm λtm1=>
 M.pure tm1
theorem WV_:RegEq 70 19 DR VV Dd_:={}
def UG:Rg:=λE call round tm=>
 mv (some (.int .i64 (-1))) λv4=>
 setF 4 v4 tm λtm1=>
 M.pure tm1
theorem ST_:RegEq 70 19 DR HT_ UG:={}
def Zc:Rg:=λE call round tm=>
 mv (T.get tm 1) λv11=>
 mv (T.get tm 0) λv12=>
 mv (T.get tm 5) λv13=>
 iD E 41 (some v12) (some v13) λv14=>
 lD E 9 (some v14) λv15=>
 M.bind (M.on (some v11) λf=>M.on (seqO [(some v15)]) λl=>Be call round f l) λv16=>
 setF 16 v16 tm λtm1=>
 M.pure tm1
theorem NK_:RegEq 70 19 DR Rm Zc:={}
theorem Pb_: ∃k,AS_= .code .ret::k:=⟨AS_.tail,by kernel_rfl⟩
theorem Yl_:Ak RO=some 16:=by kernel_rfl
def CZ_:Rg:=λE call round tm=>
 bI E .add 3 (.tmp 8) (.const (.int .i64 1)) (T.get tm 8) (some (.int .i64 1)) λv18=>
 mv (some v18) λv8=>
 setF 8 v8 tm λtm1=>
 M.pure tm1
theorem Aat_:RegEq 70 19 DR Y4 CZ_:={}
def Lo:Nat:=Ar Tryz.f59
def Hq_:Code:=Tryz.f59.body.getD .skip
theorem Qu:envS.fn.get 59=some Tryz.f59:=by kernel_rfl
theorem JL_:G2 envS 59 10 Lo Hq_:=λh=>
 aI Qu (h _ (by kernel_rfl) (by kernel_rfl))
theorem TO_:Tryz.f59.results.toList=[.tmp 4]:=by kernel_rfl
def FD_:List Item:=skim 64 [.code Hq_]
def CE_:=nx FD_
def ZB:=nx CE_
def TA:Rg:=λE call round tm=>
 mv (some (.int .i64 0)) λv4=>
 setF 4 v4 tm λtm1=>
 M.pure tm1
theorem Zs_:RegEq 59 10 Lo FD_ TA:={}
def X4:Rg:=λE call round tm=>
 mv (T.get tm 0) λv5=>
 M.bind (oS (some v5) λa=>kNil a) λv6=>
 fD E 76 2 (some v6) λv7=>
 mv (T.get tm 1) λv8=>
 cN call round 74 [(some v7),(some v8)] λv9=>
 mv (some v9) λv4=>
 setF 4 v4 tm λtm1=>
 M.pure tm1
theorem Kz_:RegEq 59 10 Lo CE_ X4:={}
theorem Nm_: ∃k,ZB= .code .ret::k:=⟨ZB.tail,by kernel_rfl⟩
def E5:Nat:=Ar Tryz.f45
def CG_:Code:=Tryz.f45.body.getD .skip
theorem Ps:envS.fn.get 45=some Tryz.f45:=by kernel_rfl
theorem AcZ_:G2 envS 45 21 E5 CG_:=λh=>
 aI Ps (h _ (by kernel_rfl) (by kernel_rfl))
theorem Th:Tryz.f45.results.toList=[.tmp 4]:=by kernel_rfl
def U1:List Item:=skim 64 [.code CG_]
def Tb:=nx U1
def HZ_:=nx Tb
def EZ_:=nx HZ_
def Nj:=bf EZ_
def T9:=nx Nj
def AM_:=bf T9
def Fu_:=nx AM_
def An_:Rg:=λE call round tm=>
 M.bind (oS (T.get tm 0) λa=>kBox a) λv2=>
 setF 2 v2 tm λtm1=>
 M.bind (oS (T.get tm1 1) λa=>kBox a) λv3=>
 setF 3 v3 tm1 λtm2=>
 mv (some (.int .i64 0)) λv4=>
 setF 4 v4 tm2 λtm3=>
 M.pure tm3
theorem Rp_:RegEq 45 21 E5 U1 An_:={}
def Sz:Rg:=λE call round tm=>
 lD E 25 (T.get tm 2) λv6=>
 cN call round 32 [(some v6)] λv7=>
 mv (some v7) λv5=>
 setF 5 v5 tm λtm1=>
 M.pure tm1
theorem Ys_:RegEq 45 21 E5 Tb Sz:={}
def Cx_:Rg:=λE call round tm=>
 mv (T.get tm 5) λv8=>
 bI E .neq 29 (.tmp 8) (.const (.int .i64 0)) (some v8) (some (.int .i64 0)) λv9=>
 setF 9 v9 tm λtm1=>
 M.pure tm1
theorem SE_:RegEq 45 21 E5 HZ_ Cx_:={}
theorem KG_:Ak EZ_=some 9:=by kernel_rfl
def Ia_:RdW:=λE call round tm=>
 LD E 25 (T.get tm 2) λp0=>
 M.bind (apartO (oS (some p0.1) λa=>kNil a)) λp1=>
 FD E 78 1 (some p1.1) λp2=>
 LD E 71 (some p2.1) λp3=>
 LD E 9 (T.get tm 3) λp4=>
 M.bind (apartO (oS (some p3.1) λa=>oS (some p4.1) λb=>Cs E 71 false a b)) λp5=>
 fJ [p5,p4,p3,p2,p1,p0] tm
theorem KD_:DrawEq 45 21 E5 Nj [0,1,3,7,0,31,63] Ia_:={}
theorem Wf_ (E:Env)(call round:Ah)(x11 x12 x13 x14 x15 x16:Value)(tm:T Value)(s:St):AH call round (Bg E E5 21 (hdC Nj)) [x16,x15,x14,x13,x12,x11] tm s=(M.bind (oS (some x16) λa=>oS (some (.pointer none)) λb=>Cl.get (aBin E .eql 70 (.tmp 16) (.const (.pointer none))) a b) λv17=>setT 17 v17 tm λtm1=>M.pure tm1) s:=by kernel_rfl
theorem AcC_:Ak T9=some 17:=by kernel_rfl
def AO_:Rg:=λE call round tm=>
 lD E 25 (T.get tm 2) λv18=>
 M.bind (oS (seqO []) λa=>oS (seqO [(T.get tm 2),(T.get tm 3)]) λb=>M.pure (.func (.func 66) a.toArray b.toArray)) λv19=>
 cN call round 35 [(some v18),(some v19)] λv20=>
 mv (some v20) λv4=>
 setF 4 v4 tm λtm1=>
 M.pure tm1
theorem Zt_:RegEq 45 21 E5 AM_ AO_:={}
theorem BW_: ∃k,Fu_= .code .ret::k:=⟨Fu_.tail,by kernel_rfl⟩
def PG:Nat:=Ar Tryz.f66
def Rq:Code:=Tryz.f66.body.getD .skip
theorem Vj:envS.fn.get 66=some Tryz.f66:=by kernel_rfl
theorem Sy_:G2 envS 66 7 PG Rq:=λh=>
 aI Vj (h _ (by kernel_rfl) (by kernel_rfl))
theorem LH_:Tryz.f66.results.toList=[]:=by kernel_rfl
def N6:List Item:=skim 64 [.code Rq]
def ZZ_:=nx N6
def Wb:RdW:=λE call round tm=>
 LD E 25 (T.get tm 0) λp0=>
 M.bind (apartO (oS (some p0.1) λa=>kNil a)) λp1=>
 FD E 78 1 (some p1.1) λp2=>
 LD E 71 (some p2.1) λp3=>
 LD E 9 (T.get tm 1) λp4=>
 fJ [p4,p3,p2,p1,p0] tm
theorem NR_:DrawEq 66 7 PG N6 [0,1,3,7,0,31] Wb:={}
theorem PX_ (E:Env)(call round:Ah)(x2 x3 x4 x5 x6:Value)(tm:T Value)(s:St):AH call round (Bg E PG 7 (hdC N6)) [x6,x5,x4,x3,x2] tm s=(M.bind (oS (seqO [(some x5),(some x6)]) λl=>A8 E .delete [71,9] l) λ_=>M.pure tm) s:=by kernel_rfl
section
variable {s:St}{E:Env}{t t2:Nat}
theorem W.appV (hbd:s.lim<=s.next){sz by' n len b:Nat}{z l old:List Value}{v x:Value}{F:Nat->Prop}{Q:Value->St->Prop}{g:Bool}(ht:appT E t t2=some (sz,by',g,z))(hm:MkS s sz len old v b)(hx:SrcG s sz by' g z x n l F)(hs0:0<sz)(hs1:sz<1024)
  (hb:(len+n)*(by'+1)<=16777216) (hl:l.length=n*sz) (h1:l.all oneCell=true)
  (q: ∀s2 v2 b2,(b2=b/\n=0\/s.next<=b2)->MkS s2 sz (len+n) (old++l) v2 b2->Ext (λx=>F x\/MkF sz len b x) (MkF sz len b) s s2->Q v2 s2):W (BS E t t2 v x) s Q:=by
 by_cases hn:n=0
 ·rcases hm with⟨rfl,rfl,rfl⟩|⟨hm,h0⟩
  ·subst hn
   have hl0:l=[]:=List.eq_nil_of_length_eq_zero (by rw[hl,Nat.zero_mul])
   subst hl0
   obtain⟨i,i2,e,ie,g1,g2,g3,g4,g5,g6,g7,g8⟩:=Im ht
   obtain⟨hN,s1,e1,m1,n1,x1⟩:=hx ie g5 g6 g8
   subst g5;subst g6
   refine W.bind (aR g1 (W.bind (aR g2 ?_)))
   rw[g3,g7]
   refine W.bind (aR g4 (W.bind (W.of (hN s) (W.bind ?_))))
   refine W.of e1 ?_
   show W (aN (Nat.ble (Nat.add 0 0) (0%capU)) (EG ie.size none 0 0 0 []) _) s1 Q
   rw[show Nat.ble (Nat.add 0 0) (0%capU)=true from Nat.ble_eq_true_of_le (Nat.zero_le _)]
   show W (M.pure (.slice none 0 0)) s1 Q
   exact W.pure (q s1 _ b (.inl ⟨rfl,rfl⟩) (.inl ⟨rfl,rfl,rfl⟩) (x1.weak hbd (λ_ _ h=> .inl h) λ_ _ h=>h.elim))
  ·refine W.appE hbd ht (.inr ⟨hm,h0⟩) hx hs0 hs1 hb hl h1 λs2 v2 b2 hb2 e2 x2=>q s2 v2 b2 (hb2.elim (λh=> .inl ⟨h,hn⟩) .inr) ?_ x2
   rcases e2 with⟨_,h,_⟩|⟨h,h'⟩
   ·omega
   ·exact .inr ⟨h,h'⟩
 ·exact W.appU hbd ht hm hx (by omega) hs0 hs1 hb hl h1 λs2 v2 b2 hb2 mk x2=>q s2 v2 b2 (.inr hb2) mk x2
end
def Cz (n0:Nat)(m a:OpLog):Prop:=(∀x∈m.rd,n0<=x-> ¬(a.lo<=x/\x<a.hi))/\(∀x∈m.wr,n0<=x-> ¬(a.lo<=x/\x<a.hi))/\(∀x∈a.wr,x∉m.rd/\x∉m.wr)/\(∀x∈m.wr,x∉a.rd)
def B6 (n0 b:Nat)(m:OpLog):List OpLog->Nat->Prop
 |[],_=>True
 |a::l,i=>(b.testBit i=true\/Cz n0 m a)/\B6 n0 b m l (i+1)
def allP (n0:Nat)(all:List OpLog):List OpLog->List Nat->Nat->Prop
 |[],_,_=>True
 |m::l,b::bef,j=>B6 n0 b m (all.take j) 0/\allP n0 all l bef (j+1)
 |_::_,[],_=>False
theorem WU {x:Nat}: ∀{l:List Nat} {m:Nat},(BL l m).testBit x=true->x∈l\/m.testBit x=true
 |[],m,h=> .inr h
 |a::l,m,h=>by
  have e:BL (a::l) m=BL l (m|||2^a):=by
   show fN (Nat.lor m (Nat.shiftLeft (nat_lit 1) a)) (BL l)=_
   rw[Ao]
   show BL l (m|||(1<<<a))=_
   rw[Nat.one_shiftLeft]
  rw[e]at h
  rcases WU h with h|h
  ·exact .inl (by simp[h])
  ·rw[Nat.testBit_or,Oj,Bool.or_eq_true]at h
   rcases h with h|h
   ·exact .inr h
   ·have:x=a:=by
     have:=of_decide_eq_true h
     omega
    exact .inl (by simp[this])
theorem Q3 {a b:Nat}(h: ∀x,¬(a.testBit x=true/\b.testBit x=true)):Nat.beq (Nat.land a b) (nat_lit 0)=true:=by
 have e:a&&&b=0:=by
  refine Nat.eq_of_testBit_eq λx=> ?_
  rw[Nat.testBit_and,Nat.zero_testBit]
  cases h1:a.testBit x with
  |false=>rfl
  |true=>
   cases h2:b.testBit x with
   |false=>rfl
   |true=>exact absurd ⟨h1,h2⟩ (h x)
 show Nat.beq (a&&&b) 0=true
 rw[e]
 rfl
theorem Gc {x:Nat}{l:List Nat}(h:(BL l 0).testBit x=true):x∈l:=by
 rcases WU h with h|h
 ·exact h
 ·rw[Nat.zero_testBit]at h;cases h
theorem RV_ {a m:OpLog}(h1: ∀x∈a.wr,x∉m.rd/\x∉m.wr)(h2: ∀x∈m.wr,x∉a.rd):DQ (Bo a) (Bo m)=true:=by
 unfold DQ
 rw[Bool.and_eq_true,J6,J6]
 refine⟨Q3 λx ⟨p,q⟩=> ?_,Q3 λx ⟨p,q⟩=>h2 x (Gc p) (Gc q)⟩
 have q':(BL m.rd 0|||BL m.wr 0).testBit x=true:=q
 rw[Nat.testBit_or,Bool.or_eq_true]at q'
 rcases q' with q|q
 ·exact(h1 x (Gc p)).1 (Gc q)
 ·exact(h1 x (Gc p)).2 (Gc q)
theorem SA {n0 b:Nat}{m:OpLog}(news:List Nat)(hn: ∀x∈news,n0<=x/\(x∈m.rd\/x∈m.wr)): ∀(acc:List OpLog) (i:Nat),B6 n0 b m acc i->DJ b news acc i=true
 |[],_,_=>rfl
 |a::acc,i,h=>by
  show((b.testBit i|| !CV a.lo a.hi news)&&DJ b news acc (Nat.succ i))=true
  rw[Bool.and_eq_true]
  refine⟨?_,SA news hn acc (i+1) h.2⟩
  rcases h.1 with h|h
  ·rw[h];rfl
  ·rw[AU_ _ _ _ λx hx=> ?_]
   ·simp
   ·obtain⟨h1,h2⟩:=hn x hx
    rcases h2 with h2|h2
    ·exact h.1 x h2 h1
    ·exact h.2.1 x h2 h1
theorem QM {n0 b:Nat}{m:OpLog}: ∀(acc:List OpLog) (i:Nat),B6 n0 b m acc i->Fg b (Bo m) (acc.map Bo) i=true
 |[],_,_=>rfl
 |a::acc,i,h=>by
  show((b.testBit i||DQ (Bo a) (Bo m))&&Fg b (Bo m) (acc.map Bo) (Nat.succ i))=true
  rw[Bool.and_eq_true]
  refine⟨?_,QM acc (i+1) h.2⟩
  rcases h.1 with h|h
  ·rw[h];rfl
  ·rw[RV_ h.2.2.1 h.2.2.2];simp
theorem Yf {n0:Nat}{all:List OpLog}: ∀(l:List OpLog) (bef:List Nat) (j:Nat),allP n0 all l bef j->FA n0 all l bef j=true
 |[],_,_,_=>rfl
 |_::_,[],_,h=>h.elim
 |m::l,b::bef,j,h=>by
  show(F1 b (Bd n0 m.rd (Bd n0 m.wr [])) (all.take j)&&FA n0 all l bef (Nat.succ j))=true
  rw[Bool.and_eq_true]
  refine⟨?_,Yf l bef (j+1) h.2⟩
  have hn: ∀x∈Bd n0 m.rd (Bd n0 m.wr []),n0<=x/\(x∈m.rd\/x∈m.wr):=λx hx=>by
   rcases N9 _ _ _ x hx with h|h
   ·exact⟨h.2, .inl h.1⟩
   ·rcases N9 _ _ _ x h with h|h
    ·exact⟨h.2, .inr h.1⟩
    ·cases h
  have hj:=SA _ hn _ _ h.1
  unfold F1
  generalize Bd n0 m.rd (Bd n0 m.wr [])=z at hj
  cases z with
  |nil=>rfl
  |cons x z=>exact hj
theorem Ru {n0:Nat}{all:List OpLog}: ∀(l:List OpLog) (bef:List Nat) (j:Nat),allP n0 all l bef j->Hi (all.map Bo) (l.map Bo) bef j=true
 |[],_,_,_=>rfl
 |_::_,[],_,h=>h.elim
 |m::l,b::bef,j,h=>by
  show(Fg b (Bo m) ((all.map Bo).take j) 0&&Hi (all.map Bo) (l.map Bo) bef (Nat.succ j))=true
  rw[Bool.and_eq_true,<-List.map_take]
  exact⟨QM _ _ h.1,Ru l bef (j+1) h.2⟩
theorem C7 {n0:Nat}{l:List OpLog}{bef:List Nat}(h:allP n0 l l bef 0):Bt n0 l bef=true:=by
 unfold Bt
 rw[Yf l bef 0 h,KW,Ru l bef 0 h]
 simp
section
variable {α β:Type}{s:St}
theorem bA {m:M α}{f:α×OpLog->M β}{mem:T Cell}{next:Nat}{Q:β->St->Prop}
  (h:W m (oSt mem next) λv s1=> ∃F G,Ext F G (oSt mem next) s1/\ ∀rd wr,(∀x∈rd,x<next/\F x)->(∀x∈wr,x<next/\G x)->W (f (v,⟨next,s1.next,rd,wr⟩)) (dSt s1.mem s1.next) Q):W (M.bind (apartO m) f) (dSt mem next) Q:=by
 obtain⟨a,s1,e,F,G,x,q⟩:=h
 obtain⟨mem1,next1,lim1,rd1,wr1,cx1⟩:=s1
 have hcx:cx1= .no:=x.cx
 obtain⟨d1,p1,p2⟩:=x.rd
 obtain⟨d2,p3,p4⟩:=x.wr
 have e1:rd1=d1:=by simpa [oSt]using p1
 have e2:wr1=d2:=by simpa [oSt]using p3
 subst hcx
 refine W.bind (W.of (a:=(a,⟨next,next1,rd1,wr1⟩)) (s':=dSt mem1 next1) ?_ (q rd1 wr1 (λy hy=>p2 y (by rw[<-e1];exact hy)) λy hy=>p4 y (by rw[<-e2];exact hy)))
 have e':m ⟨mem,next,next,[],[], .no⟩= .some a ⟨mem1,next1,lim1,rd1,wr1, .no⟩:=e
 show Am.apartO m ⟨mem,next,0,[],[], .no⟩=_
 unfold Am.apartO
 simp only[e']
 rfl
theorem Aag_ (lim:Nat)(l:List OpLog)(base:List Nat): ∃d,wrsL lim l base=d++base/\ ∀x∈d,x<lim/\ ∃m∈l,x∈m.wr:=by
 induction l with
 |nil=>exact⟨[],rfl,λ_ h=>by cases h⟩
 |cons m l ih=>
  obtain⟨d,e,q⟩:=ih
  obtain⟨d2,e2,q2⟩:=Zf lim m.wr (wrsL lim l base)
  refine⟨d2++d, ?_,λx hx=> ?_⟩
  ·show addL lim m.wr (wrsL lim l base)=_
   rw[e2,e,List.append_assoc]
  ·rcases List.mem_append.1 hx with hx|hx
   ·exact⟨(q2 x hx).1,m,by simp,(q2 x hx).2⟩
   ·obtain⟨h1,m',h2,h3⟩:=q x hx
    exact⟨h1,m',by simp[h2],h3⟩
theorem aL {F G:Nat->Prop}{mem':T Cell}{next':Nat}{l:List OpLog}(h1:s.next<=next')(h2: ∀x,x<s.next-> ¬G x->T.get mem' x=T.get s.mem x)(hw: ∀m∈l,∀x∈m.wr,x<s.lim->G x)(hr: ∀m∈l,∀x∈m.rd,x<s.lim->F x):
  Ext F G s ⟨mem',next',s.lim,rdsL s.lim l s.rd,wrsL s.lim l s.wr,s.cx⟩:=by
 obtain⟨d,e,q⟩:=FK_ s.lim l s.rd
 obtain⟨d2,e2,q2⟩:=Aag_ s.lim l s.wr
 exact⟨h1,rfl,rfl,λx hx hg=>h2 x hx hg,⟨d,e,λx hx=>by obtain⟨a,m,b,c⟩:=q x hx;exact⟨a,hr m b x c a⟩⟩,⟨d2,e2,λx hx=>by obtain⟨a,m,b,c⟩:=q2 x hx;exact⟨a,hw m b x c a⟩⟩⟩
end
theorem Ext.on {G F' G':Nat->Prop}{s s1 s2:St}(h:Ext Any G s s1)(k:Ext F' G' s1 s2)(hb:s.lim<=s.next)(hG: ∀x,x<s.next->G' x->G x):Ext Any G s s2:=h.trans k hb (λ_ _ _=>trivial) hG
theorem Ext.gw {G G':Nat->Prop}{s s1:St}(h:Ext Any G s s1)(hb:s.lim<=s.next)(hG: ∀x,x<s.next->G x->G' x):Ext Any G' s s1:=h.weak hb (λ_ _ h=>h) hG
theorem In1 {b x:Nat}:In b 0 1 x↔x=b:=⟨λh=>by have:=h.1;have:=h.2;omega,λh=>⟨by omega,by omega⟩⟩
theorem Aaa_:fldN envS 78 0=some (0,1,false):=by kernel_rfl
theorem DD:fldN envS 78 1=some (1,1,false):=by kernel_rfl
theorem Sm:fldN envS 78 2=some (2,1,false):=by kernel_rfl
theorem AcQ_:fldN envS 78 3=some (3,1,true):=by kernel_rfl
theorem Ii:fldN envS 78 4=some (4,1,false):=by kernel_rfl
theorem Jm:fldN envS 78 5=some (5,1,false):=by kernel_rfl
theorem Kx:fldN envS 78 6=some (6,1,false):=by kernel_rfl
theorem NP_:fldN envS 76 2=some (0,1,false):=by kernel_rfl
theorem HZ:fldN envS 83 0=some (0,1,false):=by kernel_rfl
theorem D2:fldN envS 83 1=some (1,1,false):=by kernel_rfl
theorem Bx:tyS envS 4=some (1,false):=by kernel_rfl
theorem Au:tyS envS 3=some (1,false):=by kernel_rfl
theorem DM:tyS envS 71=some (1,false):=by kernel_rfl
theorem CH:tyS envS 9=some (1,false):=by kernel_rfl
theorem Ct:tyS envS 70=some (1,false):=by kernel_rfl
theorem B4:tyS envS 25=some (1,false):=by kernel_rfl
theorem He_:FT envS 70=some [.pointer none]:=by kernel_rfl
theorem GG_:ptrT envS 25=true:=by kernel_rfl
theorem G7:ptrT envS 70=true:=by kernel_rfl
theorem SI_:mapU envS 71=true:=by kernel_rfl
theorem I9 (s:St):mapT envS 71 s= .some (9,70) s:=by kernel_rfl
theorem AaM_ (s:St):zeroOf envS 70 s= .some (.pointer none) s:=by kernel_rfl
theorem IL:envS.P.underlying 9=some .string:=by kernel_rfl
theorem Vx_ (k:Nat)(s:St):Cl.get (aBin envS .eql 70 (.tmp k) (.const (.pointer none))) (.pointer none) (.pointer none) s= .some (.bool true) s:=by kernel_rfl
theorem J7 (k:Nat)(s:St)(Q:Value->St->Prop):W (Cl.get (aBin envS .eql 70 (.tmp k) (.const (.pointer none))) (.pointer none) (.pointer none)) s Q=Q (.bool true) s:=AJ (Vx_ k s)
theorem ZF {s:St}{call round:Ah}{f:Nat}{cap:Array Value}{l:List Value}(Q:Value->St->Prop):W (Be call round (.func (.func f) #[] cap) l) s Q=W (call f (l++cap.toList)) s Q:=by
 show W (call f ([]++(l++cap.toList))) s Q=_
 rw[List.nil_append]
theorem W.extF {E:Env}{s:St}{ih:AF->M (Value×FrameMode)}{f:Nat}{m:List Value->M Value}{args:List Value}{Q:Value->St->Prop}(h0:E.orc.get f=none)(ho:E.ext.get f=some m)(h:W (m args) s Q):W (Ab E ih f args) s Q:=by
 unfold Ab
 rw[h0,ho]
 exact h
section
variable {D n:Nat}{s:St}{Q:Value->St->Prop}
theorem GM (hb:s.lim<=s.next)(h0:Own s D 0 (.bool true))(hn:20<=n)(q: ∀s1,s1.mem=s.mem->s1.next=s.next->Ext Any Non s s1->Q (.bool false) s1):W (Ab envS (runF envS n) 46 [.pointer (some ⟨D,0,none⟩)]) s Q:=by
 refine Yb_ λtm h=> ?_
 refine TC_.u ?_
 simp only[DD_,RR,SS]
 refine OB_.u ?_
 simp only[Cc_,RR,SS,reduceCtorEq, ↓reduceIte,h,Dj GG_,Ai Aaa_ (by decide)]
 refine aB Bx (h0.same (s':=s.cxN cxN) rfl rfl).at' ?_
 simp only[BN,Bool.not_true]
 refine aC (rs:=[2]) (vs:=[.bool false]) rfl (.inl Aby_) (by omega) BE_ Xn_ rfl (by simp[T.get_set]) ?_
 exact q _ rfl rfl ((Ext.refl (F:=Any) (G:=Non) (s.cxN cxN)).thenRd hb _).cx'
theorem Ku {o:Bool}(hb:s.lim<=s.next)(h0:Own s D 0 (.bool true))(h6:Own s D 6 (.bool o))(hn:60<=n)(q: ∀s1,s1.mem=s.mem->s1.next=s.next->Ext Any Non s s1->Q (.int .i64 (if o then 10 else 0)) s1):W (Ab envS (runF envS n) 32 [.pointer (some ⟨D,0,none⟩)]) s Q:=by
 have hb0:(s.cxN cxN).lim<=(s.cxN cxN).next:=hb
 refine MJ_ λtm h=> ?_
 refine XL_.u ?_
 simp only[Wq,RR,SS]
 refine YZ_.u ?_
 simp only[RY,RR,SS,reduceCtorEq, ↓reduceIte,h]
 refine GM hb0 (h0.same rfl rfl) (by omega) λs1 m1 n1 x1=> ?_
 refine aH Tu_ ?_
 refine Su_.u ?_
 simp only[SI,RR,SS,reduceCtorEq, ↓reduceIte,h,Ai Kx (by decide)]
 have y1:=x1.thenRd hb0 (D+(0+6))
 refine aB Bx ((h6.same (s':=s.cxN cxN) rfl rfl).same m1 n1).at' ?_
 cases o with
 |true=>
  refine aK Fn_ ?_
  refine Tm_.u ?_
  simp only[Aq_,RR,SS]
  refine aC (rs:=[2]) (vs:=[.int .i64 10]) Kg_ (.inl IP_) (by omega) MP Rz y1.cx (by simp[T.get_set]) ?_
  exact q _ m1 n1 y1.cx'
 |false=>
  refine aH Fn_ ?_
  refine Adk_.u ?_
  simp only[DG_,RR,SS]
  refine aC (rs:=[2]) (vs:=[.int .i64 0]) rfl (.inl IC_) (by omega) MP Rz y1.cx (by simp[T.get_set]) ?_
  exact q _ m1 n1 y1.cx'
theorem Wo_ {o:Nat}{x:Int}(hb:s.lim<=s.next)(h3:Own s D o (.int .i64 x))(hn:20<=n)(q: ∀w s1,s1.next=s.next->Ext Any (λy=>y=D+o) s s1->Own s1 D o (.int .i64 (wrap64 (x+1)))->Q w s1):W (Ab envS (runF envS n) 59 [.pointer (some ⟨D,o,none⟩), .int .i64 1]) s Q:=by
 have hb0:(s.cxN cxN).lim<=(s.cxN cxN).next:=hb
 refine JL_ λtm h h1=> ?_
 refine Zs_.u ?_
 simp only[TA,RR,SS]
 refine Kz_.u ?_
 simp only[X4,RR,SS,Nat.reduceEqDiff,reduceCtorEq, ↓reduceIte,h,h1,Ai NP_ (by decide)]
 refine W.extF (by kernel_rfl) (m:=Hd) (by kernel_rfl) ?_
 show W (M.bind (Am.rdV ⟨D,o,none⟩) λv=>match v with
  | .int .i64 x=>fI (wrap64 (addI x 1)) λn=>M.bind (Am.wrV ⟨D,o,none⟩ (.int .i64 n)) λ_=>M.pure (Value.int .i64 n)
  |_=>aA) (s.cxN cxN) _
 have h3':Own (s.cxN cxN) D o (.int .i64 x):=h3.same rfl rfl
 refine W.bind (W.rdV h3'.at' ?_)
 show W (fI (wrap64 (addI x 1)) _) _ _
 rw[BO,KF]
 refine W.bind (W.wrV (h3'.same (s':=(s.cxN cxN).rdN (D+o)) rfl rfl) rfl (W.pure ?_))
 have z0:=(Ext.refl (F:=Any) (G:=λy=>y=D+o) (s.cxN cxN)).on (Ext.rdN (F:=Any) (G:=λy=>y=D+o) (s.cxN cxN) (D+o) λ_=>trivial) hb0 λ_ _ h=>h
 have z1:=z0.on (Ext.rdN (F:=Any) (G:=λy=>y=D+o) _ (D+o) λ_=>trivial) hb0 λ_ _ h=>h
 have z2:=z1.on (Ext.wrN (F:=Any) (G:=λy=>y=D+o) _ (D+o) (.C D (.int .i64 (wrap64 (x+1)))) rfl) hb0 λ_ _ h=>h
 have hw:Own ((((s.cxN cxN).rdN (D+o)).rdN (D+o)).wrN (D+o) (.C D (.int .i64 (wrap64 (x+1))))) D o (.int .i64 (wrap64 (x+1))):=⟨h3.1,by
  show T.get (T.set s.mem (D+o) _) (D+o)=_
  rw[T.get_set,if_pos rfl]⟩
 have nz:((((s.cxN cxN).rdN (D+o)).rdN (D+o)).wrN (D+o) (.C D (.int .i64 (wrap64 (x+1))))).next=s.next:=rfl
 generalize (((s.cxN cxN).rdN (D+o)).rdN (D+o)).wrN (D+o) (.C D (.int .i64 (wrap64 (x+1))))=s2 at *
 refine aC (rs:=[4]) (vs:=[.int .i64 (wrap64 (x+1))]) rfl (.inl Nm_) (by omega) Qu TO_ z2.cx (by simp[T.get_set]) ?_
 exact q _ _ nz z2.cx' (hw.same rfl rfl)
theorem OV {f2:Nat}{cap:Array Value}{fused out:Bool}{left steps:Int}(hb:s.lim<=s.next)(h3:Own s D 3 (.int .i64 steps))(h4:Own s D 4 (.bool fused))(h5:Own s D 5 (.int .i64 left))(h6:Own s D 6 (.bool out))(hn:60<=n)
  (q1:(fused=true/\left=0)-> ∀s1,s1.next=s.next->Ext Any (λy=>y=D+6) s s1->Own s1 D 6 (.bool true)->Q (.int .i64 10) s1)
  (q2: ¬(fused=true/\left=0)-> ∀n' s1,n<=n'+20->s1.cx=cxN->s1.next=s.next->Ext Any (λy=>y=D+3\/y=D+5) s (s1.cxN s.cx)->Own s1 D 3 (.int .i64 (wrap64 (steps+1)))->Own s1 D 5 (.int .i64 (if fused then wrap64 (left-1)else left))->W (Ab envS (runF envS n') f2 cap.toList) s1 λ_ s2=>s2.cx=cxN/\Q (.int .i64 0) (s2.cxN s.cx)):
  W (Ab envS (runF envS n) 35 [.pointer (some ⟨D,0,none⟩), .func (.func f2) #[] cap]) s Q:=by
 have hb0:(s.cxN cxN).lim<=(s.cxN cxN).next:=hb
 refine My_ λtm h h1=> ?_
 refine Xk_.u ?_
 simp only[TX,RR,SS]
 refine Rn_.u ?_
 simp only[HE_,RR,SS,reduceCtorEq, ↓reduceIte,h,Ai Ii (by decide)]
 refine aB Bx (h4.same (s':=s.cxN cxN) rfl rfl).at' ?_
 have y1:=(Ext.refl (F:=Any) (G:=Non) (s.cxN cxN)).thenRd hb0 (D+(0+4))
 have work: ∀(n':Nat) (tm':T Value) (td':List Item) (s':St),n<=n'+10->skim 64 td'=JJ->s'.next=s.next->Ext Any (λy=>y=D+5) (s.cxN cxN) s'->Own s' D 5 (.int .i64 (if fused then wrap64 (left-1)else left))->T.get tm' 0=some (.pointer (some ⟨D,0,none⟩))->T.get tm' 1=some (.func (.func f2) #[] cap)-> ¬(fused=true/\left=0)->W (runF envS n' ⟨35,Oh_,CQ,tm',td', .run, .normal,none⟩) s' λp s1=>Q p.1 (s1.cxN s.cx):=by
  intro n' tm' td' s' hn' hT' hnx x' h5' g0 g1 hc
  have h3':Own s' D 3 (.int .i64 steps):=(h3.same (s':=s.cxN cxN) rfl rfl).ext x' λhq=>by omega
  refine Wt_.u ?_ hT'
  simp only[Ab_,RR,SS,g0,Ai AcQ_ (by decide)]
  refine Wo_ (x'.bnd hb0) h3' (by omega) λw s2 n2 x2 o2=> ?_
  have z2:Ext Any (λy=>y=D+3\/y=D+5) (s.cxN cxN) s2:=(x'.gw hb0 λ_ _ h=> .inr h).on x2 hb0 λy _ hq=> .inl (by omega)
  refine QN_.u ?_
  simp only[CX_,RR,SS,g1]
  rw[ZF]
  refine W.mono (q2 hc (n'-1-1) s2 (by omega) z2.cx (by omega) z2.cx' o2 (h5'.ext x2 λhq=>by omega)) λw2 s3 hq=> ?_
  obtain⟨hcx,hq⟩:=hq
  refine VX_.u ?_
  simp only[UB,RR,SS]
  exact aC (rs:=[4]) (vs:=[.int .i64 0]) rfl (.inl TN_) (by omega) KU YP hcx (by simp[T.get_set]) hq
 cases fused with
 |false=>
  simp only[AY,CE,EB,Dl,Dp,Dr, ↓reduceIte,Bool.false_eq_true]
  refine aH Ol ?_
  refine Yy.u ?_
  simp only[LG,RR,SS,reduceCtorEq, ↓reduceIte,h,Ai Ii (by decide)]
  refine aB Bx (h4.same (s':=(s.cxN cxN).rdN (D+(0+4))) rfl rfl).at' ?_
  have y2:=y1.thenRd hb0 (D+(0+4))
  refine aH Ww ?_
  exact work _ _ _ _ (by omega) rfl rfl (y2.gw hb0 λ_ _ h=>h.elim) (h5.same rfl rfl) (by simp[T.get_set,h]) (by simp[T.get_set,h1]) (by simp)
 |true=>
  simp only[SS, ↓reduceIte,Ai Jm (by decide)]
  refine aB Au (h5.same (s':=(s.cxN cxN).rdN (D+(0+4))) rfl rfl).at' ?_
  have y2:=y1.thenRd hb0 (D+(0+5))
  simp only[A0]
  by_cases hl:left=0
  ·refine aK Ol ?_ rfl (by simp[T.get_set,hl])
   refine Ach_.u ?_
   simp only[Tw,RR,SS,reduceCtorEq, ↓reduceIte,h,Ai Kx (by decide)]
   refine aG Bx rfl (h6.same (s':=((s.cxN cxN).rdN (D+(0+4))).rdN (D+(0+5))) rfl rfl) λs3 n3 x3 o3=> ?_
   have y3:Ext Any (λy=>y=D+6) (s.cxN cxN) s3:=(y2.gw hb0 λ_ _ h=>h.elim).on x3 hb0 λy _ hq=>by have:=In1.1 (show In (D+6) 0 1 y from⟨by have:=hq.1;omega,by have:=hq.2;omega⟩);omega
   refine LF_.u ?_
   simp only[Dt_,RR,SS]
   refine aC (rs:=[4]) (vs:=[.int .i64 10]) rfl (.inl AaX_) (by omega) KU YP y3.cx (by simp[T.get_set]) ?_
   exact q1 ⟨rfl,hl⟩ _ n3 y3.cx' (o3.same rfl rfl)
  ·refine aH Ol ?_ rfl (by simp[T.get_set,hl])
   refine Yy.u ?_
   simp only[LG,RR,SS,reduceCtorEq, ↓reduceIte,h,Ai Ii (by decide)]
   refine aB Bx (h4.same rfl rfl).at' ?_
   have y3:=y2.thenRd hb0 (D+(0+4))
   refine aK Ww ?_
   refine WU_.u ?_
   simp only[AE_,RR,SS,reduceCtorEq, ↓reduceIte,h,Ai Jm (by decide)]
   refine aB Au (h5.same rfl rfl).at' ?_
   have y4:=y3.thenRd hb0 (D+(0+5))
   simp only[Bq]
   refine aG Au rfl (h5.same rfl rfl) λs5 n5 x5 o5=> ?_
   have y5:Ext Any (λy=>y=D+5) (s.cxN cxN) s5:=(y4.gw hb0 λ_ _ h=>h.elim).on x5 hb0 λy _ hq=>by have h1:=hq.1;have h2:=hq.2;omega
   exact work _ _ _ _ (by omega) TR_ n5 y5 o5 (by simp[T.get_set,h]) (by simp[T.get_set,h1]) (by simp[hl])
end
section
variable {E:Env}{s:St}{t:Nat}
end
section
variable {n:Nat}{s:St}{a:ByteArray}{Q:Value->St->Prop}
end
theorem W.pureM {E:Env}{fuel f:Nat}{args:List Value}{v:Value}{s:St}{Q:Value->St->Prop}(ha:args.all plain=true)(h:valR (callF E fuel f args st0)=some v)(hp:plain v=true)(q:Q v s):W (pureM E fuel f args) s Q:=by
 unfold Am.pureM
 rw[h]
 exact W.chk ha (W.chk hp (W.pure q))
def NmOk (a:ByteArray):Prop:=valR (callF envC 1000 33 [.string a] st0)=some (.bool true)
theorem Li_:envS.orc.get 33=some (pureM envC 1000 33):=by kernel_rfl
theorem Ns_ {n:Nat}{s:St}{a:ByteArray}{Q:Value->St->Prop}(hb:s.lim<=s.next)(ha:NmOk a)(hn:100<=n)(q: ∀s1,Ext Any Non s s1->Q (.bool true) s1):W (Ab envS (runF envS n) 33 [.string a]) s Q:=W.orc Li_ (W.pureM rfl ha rfl (q s (Ext.refl s)))
theorem Sh:slN envS 23=some 1:=by kernel_rfl
theorem PP:appT envS 23 23=some (1,1,false,[.int .u8 0]):=by kernel_rfl
theorem B9:tyS envS 23=some (1,false):=by kernel_rfl
theorem Oq (E:Env)(t t2:Nat)(s x:Value)(st:St)(Q:Value->St->Prop):W (A8 E .append [t,t2] [s,x]) st Q=W (BS E t t2 s x) st Q:=rfl
theorem T5 {l:List Nat}(h: ∀x∈l,False):l=[]:=by
 cases l with
 |nil=>rfl
 |cons y _=>exact(h y (by simp)).elim
theorem MkS.one {s:St}{sz n:Nat}{l:List Value}{v:Value}{b:Nat}(h:MkS s sz n l v b):oneCell v=true:=by
 rcases h with⟨rfl,_⟩|⟨h,_⟩
 ·rfl
 ·rw[h.val];rfl
theorem Px (l m:List Nat):u8l (l++m)=u8l l++u8l m:=by unfold u8l;rw[List.map_append]
theorem LG_:Lo_=[]:=by kernel_rfl
section
variable {n:Nat}{s:St}
theorem W6 {C K blk lbk:Nat}{lv bv:Value}{lb l:List Nat}{tm:T Value}{td:List Item}{Q:Value×FrameMode->St->Prop}(hb:s.lim<=s.next)(h6:Own s K 0 (.pointer (some ⟨blk,0,none⟩)))(h4:Own s C 0 bv)(hl:Own s blk 1 lv)(hm:MkS s 1 lb.length (u8l lb) lv lbk)(hB:Bs s bv l)(hz:lb.length+l.length<=5000000)
  (hK: ¬MkF 1 lb.length lbk K) (hbl: ¬MkF 1 lb.length lbk (blk+1)) (t0:T.get tm 0=some (.pointer (some ⟨K,0,none⟩))) (t3:T.get tm 3=some (.pointer (some ⟨C,0,none⟩))) (hT:skim 64 td=G6) (hn:20<=n) (hcx:s.cx=cxN)
  (q: ∀s1 v b,Ext Any (λx=>x=blk+1\/MkF 1 lb.length lbk x) s s1->Own s1 blk 1 v->MkS s1 1 (lb.length+l.length) (u8l (lb++l)) v b->(b=lbk/\l.length=0\/s.next<=b)->Q (.tuple #[], .run) s1):
  W (runF envS n ⟨36,TH_,EI,tm,td, .run, .normal,none⟩) s Q:=by
 refine Kr_.u ?_ hT
 simp only[HA_,RR,t0,t3,Af]
 refine aE Ct ((h6.same (s':=dSt s.mem s.next) rfl rfl).at') λrd0 hr0=> ?_
 refine aE Ct ((h6.same (s':=dSt s.mem s.next) rfl rfl).at') λrd1 hr1=> ?_
 try simp only[Af]
 rw[W_dq λs Q=>Bu (s:=s) _ Q]
 dsimp only
 try simp only[Af]
 rw[W_dq λs Q=>Ai (s:=s) D2 (by decide) Q]
 dsimp only
 try simp only[Af]
 refine aE B9 ((hl.same (s':=dSt s.mem s.next) rfl rfl).at') λrd4 hr4=> ?_
 refine aE B9 ((h4.same (s':=dSt s.mem s.next) rfl rfl).at') λrd5 hr5=> ?_
 try simp only[Af,B2,Cb,BQ]
 refine bA ?_
 rw[Oq]
 refine W.appV (s:=oSt s.mem s.next) (Nat.le_refl _) PP (hm.same rfl rfl) (hB.same (s':=oSt s.mem s.next) rfl rfl).src.g (by decide) (by decide) (by omega) (by rw[BU,Nat.mul_one]) (FO l) λs2 v2 b2 hb2 mk2 x2=>⟨_,_,x2,λrd6 wr6 hr6 hw6=> ?_⟩
 have n2:s.next<=s2.next:=x2.nxt
 try simp only[Af]
 rw[W_dq λs Q=>Bu (s:=s) _ Q]
 dsimp only
 try simp only[Af]
 rw[W_dq λs Q=>Ai (s:=s) D2 (by decide) Q,AY]
 refine⟨C7 ?_, ?_⟩
 ·simp only[List.reverse_cons,List.reverse_nil,List.nil_append,List.cons_append,allP,B6,List.take,Cz]
  have lts: ∀x,s.next<=x-> ¬x<s.next:=λx h=>by omega
  have e0: ∀x,x∈rd0->x=K:=λx h=>by have:=hr0 x h;omega
  have e6: ∀x,x∈rd6->x<s.next:=λx h=>(hr6 x h).1
  have w6: ∀x,x∈wr6->x<s.next:=λx h=>(hw6 x h).1
  have g6: ∀x,x∈wr6-> ¬x∈rd0:=λx h1 h2=>hK (by have h3:=(hw6 x h1).2;rw[e0 x h2]at h3;exact h3)
  have a6: ∀x,x∈rd6->s.next<=x->False:=λx h1 h2=>by have:=e6 x h1;omega
  have b6: ∀x,x∈wr6->s.next<=x->False:=λx h1 h2=>by have:=w6 x h1;omega
  simp+contextual [lts,g6]
  exact⟨.inl rfl, .inl rfl, .inl rfl⟩
 ·refine W.cast (Ro_ _ _ _ _ _ _ _ _ _ _ _ _ _ _) ?_
  simp only[SS]
  generalize hs':(⟨(dSt s2.mem s2.next).mem,(dSt s2.mem s2.next).next,s.lim,_,_,s.cx⟩:St)=s7
  have m7:s7.mem=s2.mem:=by rw[<-hs'];rfl
  have n7:s7.next=s2.next:=by rw[<-hs'];rfl
  have x7:Ext Any (λx=>MkF 1 lb.length lbk x) s s7:=by
   rw[<-hs']
   refine aL (by show s.next<=s2.next;omega) (λx hx hg=>x2.mem x hx hg) ?_ λ_ _ _ _ _=>trivial
   simp only[List.mem_cons,List.not_mem_nil,or_false]
   rintro m (rfl|rfl|rfl|rfl|rfl|rfl|rfl|rfl|rfl) x hx hxl<;>first|(cases hx;done)|exact(hw6 x hx).2
  have hl7:Own s7 blk 1 lv:=hl.ext x7 hbl
  refine aG B9 mk2.one (hl7.same rfl rfl) λs8 n8 x8 o8=> ?_
  have y8:Ext Any (λx=>x=blk+1\/MkF 1 lb.length lbk x) s s8:=(x7.gw hb λ_ _ h=> .inr h).on x8 hb λy _ hq=> .inl (by have h1:=hq.1;have h2:=hq.2;omega)
  refine aC (rs:=[]) (vs:=[]) rfl (.inr LG_) (by omega) Yi Np_ (y8.cx.trans hcx) rfl ?_
  have mk8:MkS s8 1 (lb.length+l.length) (u8l (lb++l)) v2 b2:=by
   rw[Px]
   refine(mk2.same m7 n7).ext x8 λx hx hq=> ?_
   have h1:=hq.1
   have h2:=hq.2
   have hxe:x=blk+1:=by omega
   subst hxe
   rcases hb2 with h|h
   ·rw[h.1,h.2,Nat.add_zero]at hx
    exact hbl hx
   ·have h3:=hx.2.1
    have h4:=hl.1
    have h5:(oSt s.mem s.next).next<=b2:=h
    have h6:s.next<=b2:=h5
    omega
  exact q s8 v2 b2 y8 o8 mk8 hb2
end
def Az (fs:List FileS)(a:ByteArray):Option Nat:=(fs.map FileS.name).findIdx? λb=>a==b
def A7 (fs:List FileS)(a:ByteArray):Value:=match Az fs a with
 |none=> .pointer none
 |some j=>match fs[j]? with
  |some f=> .pointer (some ⟨f.blk,0,none⟩)
  |none=> .pointer none
theorem IY (fs:List FileS):(fs.map FileS.ent).map (·.key)=(fs.map FileS.name).map Value.string:=by rw[List.map_map,List.map_map];rfl
theorem Fo {fs:List FileS}{a:ByteArray}{j:Nat}(h:Az fs a=some j):j<fs.length:=by
 have:=(List.findIdx?_eq_some_iff_getElem.1 h).1
 simpa using this
theorem HF {s:St}{M mx:Nat}{fs:List FileS}{a:ByteArray}{Q:Value->St->Prop}(ho:Obj s M (.map (fs.map FileS.ent) mx))(q:Q (A7 fs a) (s.rdN M)):W (Cs envS 71 false (.map (some M)) (.string a)) s Q:=by
 unfold A7 at q
 cases hj:Az fs a with
 |none=>
  rw[hj]at q
  exact W.lookS0 I9 AaM_ IL (IY fs) hj ho q
 |some j=>
  rw[hj]at q
  have hlt:=Fo hj
  simp only[List.getElem?_eq_getElem hlt]at q
  exact W.lookS1 (j:=j) (e:=fs[j].ent) I9 IL (IY fs) hj (by rw[List.getElem?_map,List.getElem?_eq_getElem hlt];rfl) ho q
def DkS.used (k:DkS):Nat:=(k.fs.map λf=>f.sb.length+f.lb.length).sum
theorem DkI.lens {s:St}{col:Nat->Nat}{D M:Nat}{k:DkS}(h:DkI s col D M k): ∀(i:Nat) (e:MapEntry) (n:Nat),(k.fs.map FileS.ent)[i]?=some e->(k.fs.map λf=>f.sb.length+f.lb.length)[i]?=some n->FL s e n:=by
 intro i e n h1 h2
 rw[List.getElem?_map]at h1 h2
 obtain⟨f,hf,rfl⟩:=Option.map_eq_some_iff.1 h1
 rw[hf]at h2
 cases h2
 obtain⟨hi,rfl⟩:=List.getElem?_eq_some_iff.1 hf
 have g:=h.fl i hi
 obtain⟨p1,c1,e1⟩:=g.ms.sl
 obtain⟨p2,c2,e2⟩:=g.ml.sl
 have o0:=g.o0
 have o1:=g.o1
 rw[e1]at o0
 rw[e2]at o1
 exact⟨_,p1,_,c1,p2,_,c2,rfl,o0.at',o1.at',rfl⟩
structure After (s s1:St)(col col':Nat->Nat)(D M:Nat)(k:DkS):Prop where
 inv:DkI s1 col' D M k
 agree: ∀x,x<s.next->col' x=col x
 ext:Ext Any (λx=>col x<1000) s s1
def As (k:DkS)(a:ByteArray)(blk:Nat)(v:Value)(b:Nat)(l:List Nat):List FileS:=match Az k.fs a with
 |some j=>match k.fs[j]? with
  |some f=>k.fs.set j {f with lv:=v,lbk:=b,lb:=f.lb++l}
  |none=>k.fs
 |none=>k.fs++[⟨a,k.mx,blk, .slice none 0 0,0,[],v,b,l⟩]
def D3 (k:DkS)(a:ByteArray):Nat:=match Az k.fs a with|some _=>k.mx|none=>k.mx+1
theorem ZQ_ (a b:Int){E:Env}{s:St}{xo yo:Operand}{t:Nat}(Q:Value->St->Prop):W (Cl.get (aBin E .add t xo yo) (.int .i64 a) (.int .i64 b)) s Q=Q (.int .i64 (wrap64 (a+b))) s:=AJ (RJ _ a b)
theorem Yx {e:MapEntry}: ∀{es:List MapEntry} {lo n:Nat},Bi es lo n=true->lo<=n->e.born=n->Bi (es++[e]) lo (n+1)=true
 |[],lo,n,_,hle,he=>by
  show(Nat.ble lo e.born&&Nat.blt e.born (n+1)&&Bi [] (e.born+1) (n+1))=true
  rw[he,Nat.ble_eq_true_of_le hle,Bv (by omega)]
  rfl
 |x::es,lo,n,h,hle,he=>by
  unfold Bi at h
  rw[Bool.and_eq_true,Bool.and_eq_true]at h
  have h2:x.born<n:=Nat.le_of_ble_eq_true h.1.2
  show(Nat.ble lo x.born&&Nat.blt x.born (n+1)&&Bi (es++[e]) (x.born+1) (n+1))=true
  rw[h.1.1,Bv (by omega),Yx h.2 (by omega) he]
  rfl
theorem RB {α:Type}(x y:α): ∀l:List α,(l++[x]).set l.length y=l++[y]
 |[]=>rfl
 |z::l=>by
  show z::(l++[x]).set l.length y=z::(l++[y])
  rw[RB x y l]
theorem Qm_ {l:List Nat}{i:Nat}(h:i<l.length):l[i]<=l.sum:=by
 have e:l=l.take i++l[i]::l.drop (i+1):=by rw[List.getElem_cons_drop,List.take_append_drop]
 have:l.sum=(l.take i).sum+(l[i]+(l.drop (i+1)).sum):=by
  conv=>lhs;rw[e]
  rw[List.sum_append,List.sum_cons]
 omega
theorem aW {k:DkS}{j:Nat}(h:j<k.fs.length):k.fs[j].sb.length+k.fs[j].lb.length<=k.used:=by
 unfold DkS.used
 have:=Qm_ (l:=k.fs.map λf=>f.sb.length+f.lb.length) (i:=j) (by simpa using h)
 simpa using this
theorem DkI.file {F G:Nat->Prop}{s s':St}{col col':Nat->Nat}{D M j:Nat}{k:DkS}{f':FileS}(h:DkI s col D M k)(hj:j<k.fs.length)(x:Ext F G s s')(hG: ∀y,y<s.next->G y->2+3*j<=col y/\col y<=2+3*j+2)(ec: ∀y,y<s.next->col' y=col y)(hf:FileI s' col' (2+3*j) f')(he:f'.ent=k.fs[j].ent):DkI s' col' D M {k with fs:=k.fs.set j f'}:=by
 have c: ∀o,o<7->D+o<s.next-> ¬G (D+o):=λo ho hn g=>by
  have h1:=hG _ hn g
  have h2:=h.kd (D+o) (by omega) (by omega)
  omega
 have em:(k.fs.set j f').map FileS.ent=k.fs.map FileS.ent:=by
  rw[List.map_set,he]
  apply List.ext_getElem
  ·simp
  ·intro i h1 h2
   rw[List.getElem_set]
   by_cases c:j=i
   ·subst c;simp
   ·simp[c]
 have b6:=h.d6.1
 refine⟨h.d0.ext x (c 0 (by decide) h.d0.1),h.d1.ext x (c 1 (by decide) h.d1.1),h.d2.ext x (c 2 (by decide) h.d2.1),h.d3.ext x (c 3 (by decide) h.d3.1),h.d4.ext x (c 4 (by decide) h.d4.1),h.d5.ext x (c 5 (by decide) h.d5.1),h.d6.ext x (c 6 (by decide) h.d6.1),λy h1 h2=>(ec y (by omega)).trans (h.kd y h1 h2), ?_,(ec M h.om.1).trans h.km, ?_,λi hi=> ?_⟩
 ·show Obj s' M (.map ((k.fs.set j f').map FileS.ent) k.mx)
  rw[em]
  exact h.om.ext x λg=>by
   have h1:=hG _ h.om.1 g
   have h2:=h.km
   omega
 ·show Bi ((k.fs.set j f').map FileS.ent) 0 k.mx=true
  rw[em]
  exact h.bo
 ·show FileI s' col' (2+3*i) (k.fs.set j f')[i]
  by_cases q:i=j
  ·subst q
   rw[List.getElem_set_self]
   exact hf
  ·have hi':i<k.fs.length:=by simpa using hi
   rw[List.getElem_set_ne (by omega)]
   refine((h.fl i hi').col ec).ext x λy hy g=> ?_
   have h1:=hG y hy g
   rw[ec y hy]
   omega
theorem DkI.newF {s s':St}{F:Nat->Prop}{col col':Nat->Nat}{D M:Nat}{k:DkS}{f:FileS}(h:DkI s col D M k)(x:Ext F (λy=>y=M) s s')(ec: ∀y,y<s.next->col' y=col y)(hM:Obj s' M (.map (k.fs.map FileS.ent++[f.ent]) (k.mx+1)))(hb:f.born=k.mx)(hf:FileI s' col' (2+3*k.fs.length) f):DkI s' col' D M {k with fs:=k.fs++[f],mx:=k.mx+1}:=by
 have c: ∀o,o<7-> ¬D+o=M:=λo ho e=>by
  have h2:=h.kd (D+o) (by omega) (by omega)
  rw[e,h.km]at h2
  omega
 have b6:=h.d6.1
 refine⟨h.d0.ext x (c 0 (by decide)),h.d1.ext x (c 1 (by decide)),h.d2.ext x (c 2 (by decide)),h.d3.ext x (c 3 (by decide)),h.d4.ext x (c 4 (by decide)),h.d5.ext x (c 5 (by decide)),h.d6.ext x (c 6 (by decide)),λy h1 h2=>(ec y (by omega)).trans (h.kd y h1 h2), ?_,(ec M h.om.1).trans h.km, ?_,λi hi=> ?_⟩
 ·show Obj s' M (.map ((k.fs++[f]).map FileS.ent) (k.mx+1))
  rw[List.map_append]
  exact hM
 ·show Bi ((k.fs++[f]).map FileS.ent) 0 (k.mx+1)=true
  rw[List.map_append]
  exact Yx h.bo (Nat.zero_le _) hb
 ·show FileI s' col' (2+3*i) (k.fs++[f])[i]
  have hi':i<k.fs.length+1:=by simpa using hi
  rcases Nat.lt_or_ge i k.fs.length with q|q
  ·rw[List.getElem_append_left q]
   refine((h.fl i q).col ec).ext x λy hy g=> ?_
   rw[ec y hy,g,h.km]
   omega
  ·have:i=k.fs.length:=by omega
   subst this
   rw[List.getElem_append_right (Nat.le_refl _)]
   simp only[Nat.sub_self,List.getElem_cons_zero]
   exact hf
theorem FileI.loose {G:Nat->Prop}{s s':St}{F:Nat->Prop}{col:Nat->Nat}{c b:Nat}{v:Value}{m:List Nat}{f:FileS}(h:FileI s col c f)(x:Ext F (λy=>y=f.blk+1\/MkF 1 f.lb.length f.lbk y) s s')(ho:Own s' f.blk 1 v)(hm:MkS s' 1 m.length (u8l m) v b)(hb:b=f.lbk/\m.length=f.lb.length\/s.next<=b):FileI s' (Av col s.next (c+2)) c {f with lv:=v,lbk:=b,lb:=m}:=by
 have b0:=h.o0.1
 have b1:=h.o1.1
 refine⟨h.o0.ext x λg=> ?_,ho,λy h1 h2=>(AG (by have h3:y<f.blk+2:=h2;omega)).trans (h.k y h1 h2),h.ms.ext x λy hy g=> ?_,λy hy=>(AG (h.ms.lt y hy)).trans (h.ks y hy),hm,λy hy=> ?_⟩
 ·rcases g with g|g
  ·omega
  ·have h1:=h.kl _ g
   have h2:=h.k (f.blk+0) (by omega) (by omega)
   omega
 ·have h1:=h.ks y hy
  rcases g with g|g
  ·have h2:=h.k y (by omega) (by omega)
   omega
  ·have h2:=h.kl y g
   omega
 ·have hy':MkF 1 m.length b y:=hy
  rcases hb with⟨h1,h2⟩|h1
  ·rw[h1,h2]at hy'
   exact(AG (h.ml.lt y hy')).trans (h.kl y hy')
  ·exact Ch (by have:=hy'.2.1;omega)
theorem AbA_:E2 envS 83 []=some [.slice none 0 0, .slice none 0 0]:=by kernel_rfl
section
variable {n D M C K:Nat}{s:St}{k:DkS}{col:Nat->Nat}{a:ByteArray}{bv:Value}{l:List Nat}
theorem Ul_ {Q:Value->St->Prop}(hb:s.lim<=s.next)(hI:DkI s col D M k)(hlen:k.fs.length<=300)(hB:Bs s bv l)(hC:Own s C 0 (.pointer (some ⟨D,0,none⟩)))(hC2:Own s (C+2) 0 (.string a))(hC4:Own s (C+4) 0 bv)(hK:Own s K 0 (A7 k.fs a))(kC: ∀x,C<=x->x<C+6->1000<=col x)(kK:1000<=col K)(hBc: ∀x,BsF bv x->x≠K/\1000<=col x)(hKC:K<C\/C+6<=K)(hz:k.used+l.length<=4000000)(hn:100<=n)
  (q: ∀s1 col' blk v b,DkI s1 col' D M {k with fs:=As k a blk v b l,mx:=D3 k a}->(∀x,x<s.next->col' x=col x)->Ext Any (λx=>col x<1000\/x=K) s s1->Q (.tuple #[]) s1):
  W (Ab envS (runF envS n) 36 [.pointer (some ⟨K,0,none⟩), .pointer (some ⟨C,0,none⟩), .pointer (some ⟨C+2,0,none⟩), .pointer (some ⟨C+4,0,none⟩)]) s Q:=by
 have hb0:(s.cxN cxN).lim<=(s.cxN cxN).next:=hb
 refine Yx_ λtm t0 t1 t2 t3=> ?_
 refine SG_.u ?_
 simp only[ZM,RR,SS,t0]
 refine aB Ct (hK.same (s':=s.cxN cxN) rfl rfl).at' ?_
 have y1:=(Ext.refl (F:=Any) (G:=Non) (s.cxN cxN)).thenRd hb0 (K+0)
 have hI1:DkI ((s.cxN cxN).rdN (K+0)) col D M k:=hI.same rfl rfl
 have o1:Own ((s.cxN cxN).rdN (K+0)) K 0 (A7 k.fs a):=hK.same rfl rfl
 have c0:Own ((s.cxN cxN).rdN (K+0)) C 0 (.pointer (some ⟨D,0,none⟩)):=hC.same rfl rfl
 have c2:Own ((s.cxN cxN).rdN (K+0)) (C+2) 0 (.string a):=hC2.same rfl rfl
 have c4:Own ((s.cxN cxN).rdN (K+0)) (C+4) 0 bv:=hC4.same rfl rfl
 have hB1:Bs ((s.cxN cxN).rdN (K+0)) bv l:=hB.same rfl rfl
 have hn1:((s.cxN cxN).rdN (K+0)).next=s.next:=rfl
 generalize (s.cxN cxN).rdN (K+0)=s1 at *
 cases hj:Az k.fs a with
 |some j=>
  have hlt:=Fo hj
  have hv:A7 k.fs a= .pointer (some ⟨k.fs[j].blk,0,none⟩):=by
   unfold A7
   rw[hj]
   simp only[List.getElem?_eq_getElem hlt]
  have hadd: ∀blk v b,As k a blk v b l=k.fs.set j {k.fs[j]with lv:=v,lbk:=b,lb:=k.fs[j].lb++l}:=λblk v b=>by
   unfold As
   rw[hj]
   simp only[List.getElem?_eq_getElem hlt]
  have hmx:D3 k a=k.mx:=by unfold D3;rw[hj]
  rw[hv]at o1 ⊢
  have g:=hI1.fl j hlt
  have hused:=aW hlt
  simp only[Dj G7]
  refine aH Al_ ?_
  refine W6 (C:=C+4) (K:=K) (y1.bnd hb0) o1 c4 g.o1 g.ml hB1 (by omega) (λh=>by have:=g.kl _ h;omega) (λh=>by have h1:=g.kl _ h;have h2:=g.k _ (show k.fs[j].blk<=k.fs[j].blk+1 by omega) (by omega);omega) (by simp[T.get_set,t0]) (by simp[T.get_set,t3]) rfl (by omega) y1.cx λs2 v b x2 o2 mk2 hb2=> ?_
  have hf:FileI s2 (Av col s1.next (2+3*j+2)) (2+3*j) {k.fs[j]with lv:=v,lbk:=b,lb:=k.fs[j].lb++l}:=g.loose (G:=Non) x2 o2 (by rw[List.length_append];exact mk2) (hb2.imp (λh=>⟨h.1,by rw[List.length_append,h.2,Nat.add_zero]⟩) λh=>h)
  have hD:=hI1.file hlt x2 (λy hy h=>by
   rcases h with rfl|h
   ·have:=g.k _ (show k.fs[j].blk<=k.fs[j].blk+1 by omega) (by omega)
    omega
   ·have:=g.kl y h
    omega) (λy hy=>AG hy) hf rfl
  refine q (s2.cxN s.cx) (Av col s1.next (2+3*j+2)) 0 v b ?_ (λx hx=>AG (by omega)) ((y1.gw hb0 λ_ _ h=>h.elim).on x2 hb0 λy hy h=> .inl ?_).cx'
  ·rw[hadd,hmx]
   exact hD.same rfl rfl
  ·rcases h with rfl|h
   ·have:=g.k _ (show k.fs[j].blk<=k.fs[j].blk+1 by omega) (by omega)
    omega
   ·have:=g.kl y h
    omega
 |none=>
  have hv:A7 k.fs a= .pointer none:=by unfold A7;rw[hj]
  have hadd: ∀blk v b,As k a blk v b l=k.fs++[⟨a,k.mx,blk, .slice none 0 0,0,[],v,b,l⟩]:=λblk v b=>by unfold As;rw[hj]
  have hmx:D3 k a=k.mx+1:=by unfold D3;rw[hj]
  rw[hv]at o1 ⊢
  simp only[J7]
  refine aK Al_ ?_
  refine JX_.u ?_
  simp only[Go_,RR,SS,reduceCtorEq, ↓reduceIte,Ek AbA_,t0]
  refine W.box λs2 n2 x2 r2=> ?_
  rw[E9]at n2 r2
  have n2':s2.next=s.next+3:=by rw[n2,hn1];rfl
  rw[hn1]at r2 ⊢
  have y2:=y1.on x2 hb0 λ_ _ h=>h
  refine aG Ct rfl (o1.ext0 x2) λs3 n3 x3 o3=> ?_
  have x3':Ext Any (λy=>y=K) s2 s3:=x3.weak (y2.bnd hb0) (λ_ _ _=>trivial) λy _ hq=>by have h1:=hq.1;have h2:=hq.2;omega
  have y3:Ext Any (λx=>col x<1000\/x=K) (s.cxN cxN) s3:=(y2.gw hb0 λ_ _ h=>h.elim).on x3' hb0 λy _ h=> .inr h
  have hKs:K<s.next:=by have:=o1.1;omega
  have hI3:DkI s3 col D M k:=(hI1.ext0 x2 hlen).ext x3' hlen λy _ h=>by subst h;exact kK
  have r3:An s3 s.next 0 [.slice none 0 0, .slice none 0 0]:=r2.ext x3' λi hi h=>by omega
  have c03:=(c0.ext0 x2).ext x3' λh=>by omega
  have c23:=(c2.ext0 x2).ext x3' λh=>by omega
  have c43:=(c4.ext0 x2).ext x3' λh=>by omega
  have hB3:Bs s3 bv l:=(hB1.ext0 x2).ext x3' λx hx h=>(hBc x hx).1 h
  have n3':s3.next=s.next+3:=by omega
  refine TK_.u ?_
  simp only[Iv_,RR,T.get_set,Nat.reduceEqDiff,reduceIte,t0,t1,t2,Af]
  refine aE B4 ((c03.same (s':=dSt s3.mem s3.next) rfl rfl).at') λrd0 hr0=> ?_
  try simp only[Af]
  rw[W_dq λs Q=>Bu (s:=s) _ Q]
  dsimp only
  try simp only[Af]
  rw[W_dq λs Q=>Ai (s:=s) DD (by decide) Q]
  dsimp only
  try simp only[Af]
  refine aE DM ((hI3.d1.same (s':=dSt s3.mem s3.next) rfl rfl).at') λrd3 hr3=> ?_
  refine aE CH ((c23.same (s':=dSt s3.mem s3.next) rfl rfl).at') λrd4 hr4=> ?_
  refine aE Ct ((o3.same (s':=dSt s3.mem s3.next) rfl rfl).at') λrd5 hr5=> ?_
  rw[AY]
  refine⟨Df (by simp) (by simp), ?_⟩
  refine W.cast (VZ_ _ _ _ _ _ _ _ _ _ _ _) ?_
  simp only[SS]
  generalize hs':(⟨(dSt s3.mem s3.next).mem,(dSt s3.mem s3.next).next,s3.lim,_,_,s3.cx⟩:St)=s4
  have x4:Ext Any Non s3 s4:=by
   rw[<-hs']
   exact Ext.draw (F:=Any) (Nat.le_refl _) (λ_ _=>rfl) (by simp) λ_ _ _ _ _=>trivial
  have y4:=y3.on x4 hb0 λ_ _ h=>h.elim
  have hI4:=hI3.ext0 x4 hlen
  have n4:s4.next=s3.next:=by rw[<-hs'];rfl
  refine W.mapUpS0 I9 IL (IY k.fs) hj hI4.om λs5 n5 x5 o5=> ?_
  have y5:=y4.on x5 hb0 λy _ h=> .inl (by rw[h];have:=hI4.km;omega)
  have hMs:M<s.next:=hI.om.1
  have r5:An s5 s.next 0 [.slice none 0 0, .slice none 0 0]:=(An.ext0 r3 x4).ext x5 λi hi h=>by omega
  have hf5:FileI s5 (Av col s.next (2+3*k.fs.length)) (2+3*k.fs.length) ⟨a,k.mx,s.next, .slice none 0 0,0,[], .slice none 0 0,0,[]⟩:=
   ⟨r5 0 _ rfl,r5 1 _ rfl,λy h1 _=>Ch h1, .inl ⟨rfl,rfl,rfl⟩,λy hy=>absurd hy.1 (Nat.lt_irrefl 0), .inl ⟨rfl,rfl,rfl⟩,λy hy=>absurd hy.1 (Nat.lt_irrefl 0)⟩
  have hI4':DkI s4 (Av col s.next (2+3*k.fs.length)) D M k:=⟨hI4.d0,hI4.d1,hI4.d2,hI4.d3,hI4.d4,hI4.d5,hI4.d6,λx h1 h2=>(AG (by have:=hI.d6.1;omega)).trans (hI4.kd x h1 h2),hI4.om,(AG hMs).trans hI4.km,hI4.bo,λi hi=>by
   have g1:=(hI1.fl i hi).col (col':=Av col s.next (2+3*k.fs.length)) λx hx=>AG (by omega)
   have g2:=g1.ext x2 λ_ _ h=>h.elim
   have g3:=g2.ext x3' λy hy h=>by
    rw[h,AG hKs]
    omega
   exact g3.ext x4 λ_ _ h=>h.elim⟩
  have hI5:=hI4'.newF (f:=⟨a,k.mx,s.next, .slice none 0 0,0,[], .slice none 0 0,0,[]⟩) x5 (λ_ _=>rfl) o5 rfl hf5
  have hlt5:k.fs.length<(k.fs++[(⟨a,k.mx,s.next, .slice none 0 0,0,[], .slice none 0 0,0,[]⟩:FileS)]).length:=by simp
  have g5:FileI s5 (Av col s.next (2+3*k.fs.length)) (2+3*k.fs.length) ⟨a,k.mx,s.next, .slice none 0 0,0,[], .slice none 0 0,0,[]⟩:=hf5
  have o5K:Own s5 K 0 (.pointer (some ⟨s.next,0,none⟩)):=(Own.ext0 o3 x4).ext x5 λh=>by
   have h1:K=M:=by omega
   have h2:=hI.km
   rw[<-h1]at h2
   omega
  have c45:Own s5 (C+4) 0 bv:=(Own.ext0 c43 x4).ext x5 λh=>by
   have h1:C+4=M:=by omega
   have h2:=kC (C+4) (by omega) (by omega)
   rw[h1,hI.km]at h2
   omega
  have hB5:Bs s5 bv l:=(Bs.ext0 hB3 x4).ext x5 λx hx h=>by
   have h1:=(hBc x hx).2
   rw[h,hI.km]at h1
   omega
  refine W6 (C:=C+4) (K:=K) (lb:=[]) (lbk:=0) (blk:=s.next) (y5.bnd hb0) o5K c45 g5.o1 g5.ml hB5 (by simp;omega) (λh=>absurd h.1 (Nat.lt_irrefl 0)) (λh=>absurd h.1 (Nat.lt_irrefl 0)) (by simp[T.get_set,t0]) (by simp[T.get_set,t3]) MP_ (by omega) y5.cx λs6 v b x6 o6 mk6 hb6=> ?_
  have hf6:=g5.loose (G:=Non) (m:=[]++l) x6 o6 (by rw[List.nil_append];simpa using mk6) (hb6.imp (λh=>⟨h.1,by rw[List.nil_append,h.2];rfl⟩) λh=>h)
  rw[List.nil_append]at hf6
  have hD:=hI5.file (j:=k.fs.length) hlt5 x6 (λy hy h=>by
   rcases h with rfl|h
   ·rw[Ch (by omega)]
    omega
   ·exact absurd h.1 (Nat.lt_irrefl 0)) (λy hy=>AG hy) hf6 (by
   show _=((k.fs++[(⟨a,k.mx,s.next, .slice none 0 0,0,[], .slice none 0 0,0,[]⟩:FileS)])[k.fs.length]'hlt5).ent
   rw[List.getElem_append_right (Nat.le_refl _)]
   simp only[Nat.sub_self,List.getElem_cons_zero]
   rfl)
  have y6:=y5.on x6 hb0 λy hy h=>by
   rcases h with rfl|h
   ·have h1:s.next+1<s.next:=hy
    omega
   ·exact absurd h.1 (Nat.lt_irrefl 0)
  refine q (s6.cxN s.cx) (Av (Av col s.next (2+3*k.fs.length)) s5.next (2+3*k.fs.length+2)) s.next v b ?_ (λx hx=>(AG (by have:=y5.nxt;have e:(s.cxN cxN).next=s.next:=rfl;omega)).trans (AG hx)) y6.cx'
  rw[hadd,hmx]
  have: ∀f':FileS,(k.fs++[(⟨a,k.mx,s.next, .slice none 0 0,0,[], .slice none 0 0,0,[]⟩:FileS)]).set k.fs.length f'=k.fs++[f']:=λf'=>RB _ _ _
  have hD':=hD.same (s':=s6.cxN s.cx) rfl rfl
  simp only[this]at hD'
  exact hD'
end
theorem Abu_:envS.orc.get 34=some usedM:=by kernel_rfl
theorem Eg {call round:Ah}{f:Nat}{l:List Value}:Be call round (.func (.func f) #[] #[]) l=call f l:=by
 show call f ([]++(l++[]))=_
 rw[List.append_nil,List.nil_append]
theorem Bs.lenq {E:Env}{s s':St}{t sz:Nat}{v:Value}{l:List Nat}(h:Bs s v l)(ht:slN E t=some sz)(Q:Value->St->Prop):W (A8 E .len [t] [v]) s' Q=Q (.int .i64 (l.length:Nat)) s':=by
 obtain⟨p,c,rfl⟩:=h.sl
 exact B0 ht Q
theorem Bs.oneq {s:St}{v:Value}{l:List Nat}(h:Bs s v l):oneCell v=true:=by
 obtain⟨p,c,rfl⟩:=h.sl
 rfl
theorem W.usedD {D Mp:Nat}{k:DkS}{col:Nat->Nat}{s:St}{β:Type}{n:Nat}{f:Value×OpLog->M β}{Q:β->St->Prop}(hI:DkI s col D Mp k)(hz:k.used<=5000000)(q: ∀rd,(∀x∈rd,x<s.next)->W (f (.int .i64 (k.used:Nat),⟨s.next,s.next,rd,[]⟩)) (dSt s.mem s.next) Q):W (M.bind (apartO (Ab envS (runF envS n) 34 [.pointer (some ⟨D,0,none⟩)])) f) (dSt s.mem s.next) Q:=by
 refine aV (W.orc Abu_ (W.used (s:=oSt s.mem s.next) (Nat.le_refl _) (hI.d0.same rfl rfl).at' (hI.d1.same rfl rfl).at' (hI.om.same rfl rfl) hI.bo (ns:=k.fs.map λf=>f.sb.length+f.lb.length) (by simp) (λi e n h1 h2=>(hI.lens i e n h1 h2).same rfl rfl) λs1 m1 n1 x1=>⟨Any,x1,λrd hr=> ?_⟩))
 have e:wrap64 (((k.fs.map λf=>f.sb.length+f.lb.length).sum:Nat):Int)=((k.used:Nat):Int):=by
  show wrap64 ((k.used:Nat):Int)=_
  exact Bc (by omega) (by omega)
 rw[e,m1,n1]
 exact q rd λx hx=>(hr x hx).1
theorem DkI.own {F G:Nat->Prop}{s s':St}{col:Nat->Nat}{D M:Nat}{k:DkS}{st le:Int}{fu ou:Bool}(h:DkI s col D M k)(x:Ext F G s s')(hG: ∀y,y<s.next->G y->D+3<=y/\y<D+7)(h3:Own s' D 3 (.int .i64 st))(h4:Own s' D 4 (.bool fu))(h5:Own s' D 5 (.int .i64 le))(h6:Own s' D 6 (.bool ou)):DkI s' col D M {k with steps:=st,fused:=fu,left:=le,out:=ou}:=by
 have c: ∀o,o<3->D+o<s.next-> ¬G (D+o):=λo ho hn g=>by have:=hG _ hn g;omega
 have z: ∀y,y<s.next->G y->col y=0:=λy hy g=>h.kd y (by have:=hG y hy g;omega) (by have:=hG y hy g;omega)
 exact⟨h.d0.ext x (c 0 (by decide) h.d0.1),h.d1.ext x (c 1 (by decide) h.d1.1),h.d2.ext x (c 2 (by decide) h.d2.1),h3,h4,h5,h6,h.kd,h.om.ext x λg=>by
  have h1:=z _ h.om.1 g
  have h2:=h.km
  omega,h.km,h.bo,λi hi=>(h.fl i hi).ext x λy hy g=>by
  have h1:=z y hy g
  omega⟩
section
variable {n D M:Nat}{s:St}{k:DkS}{col:Nat->Nat}{a:ByteArray}{bv:Value}{l:List Nat}{Q:Value->St->Prop}
theorem VM_ (hb:s.lim<=s.next)(hI:DkI s col D M k)(hlen:k.fs.length<=300)(ha:NmOk a)(hB:Bs s bv l)(hBc: ∀x,BsF bv x->x<s.next/\1000<=col x)(hz:k.used+l.length<=4000000)(hn:400<=n)
  (q1:k.out=true-> ∀s1 col',After s s1 col col' D M k->Q (.int .i64 10) s1)
  (q2:k.out=false->k.room<(k.used+l.length:Nat)-> ∀s1 col',After s s1 col col' D M k->Q (.int .i64 8) s1)
  (q3:k.out=false->((k.used+l.length:Nat):Int)<=k.room->(k.fused=true/\k.left=0)-> ∀s1 col',After s s1 col col' D M {k with out:=true}->Q (.int .i64 10) s1)
  (q4:k.out=false->((k.used+l.length:Nat):Int)<=k.room-> ¬(k.fused=true/\k.left=0)-> ∀s1 col' blk v b,After s s1 col col' D M {k with fs:=As k a blk v b l,mx:=D3 k a,steps:=wrap64 (k.steps+1),left:=if k.fused then wrap64 (k.left-1)else k.left}->Q (.int .i64 0) s1):
  W (Ab envS (runF envS n) 11 [.pointer (some ⟨D,0,none⟩), .string a,bv]) s Q:=by
 have hb0:(s.cxN cxN).lim<=(s.cxN cxN).next:=hb
 have hI0:DkI (s.cxN cxN) (Av col s.next 1000) D M k:=(hI.col λx hx=>AG hx).same rfl rfl
 have hag: ∀x,x<s.next->Av col s.next 1000 x=col x:=λx hx=>AG hx
 have hnew: ∀x,s.next<=x->Av col s.next 1000 x=1000:=λx hx=>Ch hx
 have hBc': ∀x,BsF bv x->1000<=Av col s.next 1000 x:=λx hx=>by rw[hag x (hBc x hx).1];exact(hBc x hx).2
 have hDlt:D+6<s.next:=hI.d6.1
 generalize hcol1:Av col s.next 1000=col1 at *
 refine Nh_ λtm t0 t1 t2=> ?_
 refine OS_.u ?_
 simp only[Y1,RR,SS,Nat.reduceEqDiff, ↓reduceIte,t0]
 refine W.box λsa na xa oa=> ?_
 have ea:(s.cxN cxN).next=s.next:=rfl
 rw[Dt (show oneCell (.pointer (some ⟨D,0,none⟩))=true from rfl)]at na oa
 rw[ea]at oa na ⊢
 have na':sa.next=s.next+2:=na
 simp only[SS,t1]
 refine W.box λsb nb xb ob=> ?_
 rw[Dt (show oneCell (.string a)=true from rfl)]at nb ob
 rw[na']at ob nb ⊢
 have nb':sb.next=s.next+4:=nb
 simp only[SS,t2]
 refine W.box λsc nc xc oc=> ?_
 rw[Dt hB.oneq]at nc oc
 rw[nb']at oc nc ⊢
 have nc':sc.next=s.next+6:=nc
 have yc:=(((Ext.refl (F:=Any) (G:=Non) (s.cxN cxN)).on xa hb0 λ_ _ h=>h).on xb hb0 λ_ _ h=>h).on xc hb0 λ_ _ h=>h
 have c0:Own sc s.next 0 (.pointer (some ⟨D,0,none⟩)):=((oa 0 _ rfl).ext0 xb).ext0 xc
 have c2:Own sc (s.next+2) 0 (.string a):=(ob 0 _ rfl).ext0 xc
 have c4:Own sc (s.next+4) 0 bv:=oc 0 _ rfl
 have hIc:DkI sc col1 D M k:=hI0.ext0 yc hlen
 have hBsc:Bs sc bv l:=(hB.same (s':=s.cxN cxN) rfl rfl).ext0 yc
 refine Mm_.u ?_
 simp only[Ce_,RR,SS,Nat.reduceEqDiff, ↓reduceIte]
 refine aB B4 c0.at' ?_
 have yd:=yc.thenRd hb0 (s.next+0)
 refine Ku (o:=k.out) (yd.bnd hb0) (hIc.d0.same rfl rfl) (hIc.d6.same rfl rfl) (by omega) λs1 m1 n1 x1=> ?_
 have y1:=yd.on x1 hb0 λ_ _ h=>h
 have m1':s1.mem=sc.mem:=m1
 have n1':s1.next=s.next+6:=by have:s1.next=sc.next:=n1;omega
 have hI1:DkI s1 col1 D M k:=hIc.same m1' (by omega)
 have d0:=c0.same m1' (show s1.next=sc.next by omega)
 have d2:=c2.same m1' (show s1.next=sc.next by omega)
 have d4:=c4.same m1' (show s1.next=sc.next by omega)
 have hB1:=hBsc.same m1' (show s1.next=sc.next by omega)
 refine AaZ_.u ?_
 cases ho:k.out with
 |true=>
  simp only[PR,RR,SS, ↓reduceIte,AL]
  refine aK Hi_ ?_
  refine RD_.u ?_
  simp only[QN,RR,SS,Nat.reduceEqDiff, ↓reduceIte]
  refine aC (rs:=[6]) (vs:=[.int .i64 10]) rfl (.inl Ji_) (by omega) HJ I3 y1.cx (by simp[T.get_set]) ?_
  exact q1 ho _ col1 ⟨hI1.same rfl rfl,hag,(y1.gw hb0 λ_ _ h=>h.elim).cx'⟩
 |false=>
  simp only[PR,RR,SS,reduceCtorEq, ↓reduceIte,AL]
  refine aH Hi_ ?_
  refine Xw_.u ?_
  simp only[VW,RR,T.get_set,Nat.reduceEqDiff,reduceIte,Af]
  refine aE B4 ((d0.same (s':=dSt s1.mem s1.next) rfl rfl).at') λrd0 hr0=> ?_
  try simp only[Af]
  rw[W_dq λs Q=>Bu (s:=s) _ Q]
  dsimp only
  try simp only[Af]
  rw[W_dq λs Q=>Ai (s:=s) DD (by decide) Q]
  dsimp only
  try simp only[Af]
  refine aE DM ((hI1.d1.same (s':=dSt s1.mem s1.next) rfl rfl).at') λrd3 hr3=> ?_
  refine aE CH ((d2.same (s':=dSt s1.mem s1.next) rfl rfl).at') λrd4 hr4=> ?_
  try simp only[Af]
  refine aV (HF (s:=oSt s1.mem s1.next) (fs:=k.fs) (mx:=k.mx) (hI1.om.same rfl rfl) ⟨Any,Ext.rdN (F:=Any) (G:=Non) _ M λ_=>trivial,λrd5 hr5=> ?_⟩)
  show W _ (dSt s1.mem s1.next) _
  refine aV (W.alloc (s:=oSt s1.mem s1.next) He_ λs2 n2 x2 o2=>⟨Non,x2,λrd6 hr6=> ?_⟩)
  obtain rfl:=T5 (λx hx=>(hr6 x hx).2)
  have n2':s2.next=s.next+8:=by
   have:s2.next=s1.next+2:=n2
   omega
  simp only[Gv,AY]
  refine⟨C7 ?_, ?_⟩
  ·simp only[List.reverse_cons,List.reverse_nil,List.nil_append,List.cons_append,allP,B6,List.take,Cz]
   have lts: ∀x,s1.next<=x-> ¬x<s1.next:=λx h=>by omega
   have e5: ∀x,x∈rd5->s1.next<=x->False:=λx h1 h2=>by have:=(hr5 x h1).1;omega
   simp+contextual [lts]
  ·refine W.cast (LL_ _ _ _ _ _ _ _ _ _ _ _ _) ?_
   simp only[SS]
   generalize hs':(⟨(dSt s2.mem s2.next).mem,(dSt s2.mem s2.next).next,s1.lim,_,_,s1.cx⟩:St)=s3
   have m3:s3.mem=s2.mem:=by rw[<-hs'];rfl
   have n3:s3.next=s2.next:=by rw[<-hs'];rfl
   have x3:Ext Any Non s1 s3:=by
    rw[<-hs']
    exact Ext.draw (F:=Any) (by show s1.next<=s2.next;omega) (λx hx=>x2.mem x hx λh=>h) (by simp) λ_ _ _ _ _=>trivial
   have y3:=y1.on x3 hb0 λ_ _ h=>h.elim
   have hlv:oneCell (A7 k.fs a)=true:=by
    unfold A7
    cases Az k.fs a with
    |none=>rfl
    |some j=>simp only;cases k.fs[j]?<;>rfl
   have oK3:Own s3 s1.next 0 (.pointer none):=(o2 0 _ rfl).same m3 n3
   rw[show(oSt s1.mem s1.next).next=s.next+6 from n1'] 
   rw[n1']at oK3
   refine aG Ct hlv oK3 λs4 n4 x4 o4=> ?_
   have x4':Ext Any (λy=>y=s.next+6) s3 s4:=x4.weak (y3.bnd hb0) (λ_ _ _=>trivial) λy _ hq=>by have h1:=hq.1;have h2:=hq.2;omega
   have y4:Ext Any Non (s.cxN cxN) s4:=y3.on x4' hb0 λy hy h=>by have:y<s.next:=hy;omega
   have hI4:DkI s4 col1 D M k:=(hI1.ext0 x3 hlen).ext x4' hlen λy _ h=>by rw[hnew y (by omega)];exact Nat.le_refl _
   have keep: ∀o u,o<6->Own s1 (s.next+o) 0 u->Own s4 (s.next+o) 0 u:=λo u ho hu=>(hu.ext0 x3).ext x4' λh=>by omega
   have e0:=keep 0 _ (by decide) d0
   have e2:=keep 2 _ (by decide) d2
   have e4:=keep 4 _ (by decide) d4
   have hB4:Bs s4 bv l:=(Bs.ext0 hB1 x3).ext x4' λx hx h=>by have:=(hBc x hx).1;omega
   have n4':s4.next=s.next+8:=by omega
   refine SU_.u ?_
   simp only[Q6,RR,SS,Nat.reduceEqDiff, ↓reduceIte]
   refine aB CH e2.at' ?_
   have y5:=y4.thenRd hb0 (s.next+2+0)
   refine Ns_ (y5.bnd hb0) ha (by omega) λs6 x6=> ?_
   have y6:=y5.on x6 hb0 λ_ _ h=>h
   have x46:Ext Any Non s4 s6:=((Ext.refl (F:=Any) (G:=Non) s4).thenRd (y4.bnd hb0) _).on x6 (y4.bnd hb0) λ_ _ h=>h
   have hI6:=hI4.ext0 x46 hlen
   have f0:=e0.ext0 x46
   have f2:=e2.ext0 x46
   have f4:=e4.ext0 x46
   have fK:=o4.ext0 x46
   have hB6:=Bs.ext0 hB4 x46
   simp only[BN,Bool.not_true]
   refine aH Sq_ ?_
   refine AaO_.u ?_
   have full: ∀(n':Nat) (tm':T Value) (td':List Item) (s':St),n<=n'+20->skim 64 td'=Jb->Ext Any Non (s.cxN cxN) s'->Ext Any Non s6 s'->T.get tm' 3=some (.pointer (some ⟨s.next,0,none⟩))->T.get tm' 4=some (.pointer (some ⟨s.next+2,0,none⟩))->T.get tm' 5=some (.pointer (some ⟨s.next+4,0,none⟩))->T.get tm' 8=some (.pointer (some ⟨s.next+6,0,none⟩))->
     W (runF envS n' ⟨11,Aai_,Cc,tm',td', .run, .normal,none⟩) s' λp s1=>Q p.1 (s1.cxN s.cx):=by
    intro n' tm' td' s' hn' hT' y' x' g3 g4 g5 g8
    have hI':=hI6.ext0 x' hlen
    have p0:=f0.ext0 x'
    have p4:=f4.ext0 x'
    have pK:=fK.ext0 x'
    have p2:=f2.ext0 x'
    have hB':=Bs.ext0 hB6 x'
    refine Kb_.u ?_ hT'
    simp only[Z2,RR,g3,g5,Af,C6,B2,Cb,BQ,Eg]
    refine aE B4 ((p0.same (s':=dSt s'.mem s'.next) rfl rfl).at') λrd0 hr0=> ?_
    try simp only[C6]
    refine W.usedD hI' (by omega) λrd1 hr1=> ?_
    refine aE B9 ((p4.same (s':=dSt s'.mem s'.next) rfl rfl).at') λrd2 hr2=> ?_
    try simp only[Af]
    rw[W_dq λs Q=>Bs.lenq (s':=s) hB' Sh Q]
    dsimp only
    try simp only[Af]
    rw[W_dq λs Q=>ZQ_ (s:=s) _ _ Q]
    have es:wrap64 (((k.used:Nat):Int)+((l.length:Nat):Int))=((k.used+l.length:Nat):Int):=by
     rw[Bc (by omega) (by omega)];omega
    rw[es]
    dsimp only
    refine aE B4 ((p0.same (s':=dSt s'.mem s'.next) rfl rfl).at') λrd5 hr5=> ?_
    try simp only[Af]
    rw[W_dq λs Q=>Bu (s:=s) _ Q]
    dsimp only
    try simp only[Af]
    rw[W_dq λs Q=>Ai (s:=s) Sm (by decide) Q]
    dsimp only
    try simp only[Af]
    refine aE Au ((hI'.d2.same (s':=dSt s'.mem s'.next) rfl rfl).at') λrd8 hr8=> ?_
    try simp only[Af]
    rw[W_dq λs Q=>Bp (s:=s) (Q:=Q) _ _,AY]
    refine⟨Df (by simp) (by simp), ?_⟩
    refine W.cast (Xd_ _ _ _ _ _ _ _ _ _ _ _ _ _ _ _) ?_
    simp only[SS]
    generalize hs':(⟨(dSt s'.mem s'.next).mem,(dSt s'.mem s'.next).next,s'.lim,_,_,s'.cx⟩:St)=s7
    have x7:Ext Any Non s' s7:=by
     rw[<-hs']
     exact Ext.draw (F:=Any) (Nat.le_refl _) (λ_ _=>rfl) (by simp) λ_ _ _ _ _=>trivial
    have y7:=y'.on x7 hb0 λ_ _ h=>h
    have hI7:=hI'.ext0 x7 hlen
    have r0:=p0.ext0 x7
    have r2:=p2.ext0 x7
    have r4:=p4.ext0 x7
    have rK:=pK.ext0 x7
    have hB7:=Bs.ext0 hB' x7
    by_cases hfu:k.room<((k.used+l.length:Nat):Int)
    ·refine aK DW_ ?_ Y2 (by simp[T.get_set];exact hfu)
     refine AaE_.u ?_
     simp only[UD,RR,SS]
     refine aC (rs:=[6]) (vs:=[.int .i64 8]) Nd_ (.inl OJ_) (by omega) HJ I3 y7.cx (by simp[T.get_set]) ?_
     exact q2 ho hfu _ col1 ⟨hI7.same rfl rfl,hag,(y7.gw hb0 λ_ _ h=>h.elim).cx'⟩
    ·refine aH DW_ ?_ Y2
     refine AbW_.u ?_
     simp only[Gx_,RR,SS,Nat.reduceEqDiff, ↓reduceIte,g3,g4,g5,g8]
     refine aB B4 r0.at' ?_
     have y8:=y7.thenRd hb0 (s.next+0)
     have hI8:DkI (s7.rdN (s.next+0)) col1 D M k:=hI7.same rfl rfl
     have u0:Own (s7.rdN (s.next+0)) s.next 0 (.pointer (some ⟨D,0,none⟩)):=r0.same rfl rfl
     have u2:Own (s7.rdN (s.next+0)) (s.next+2) 0 (.string a):=r2.same rfl rfl
     have u4:Own (s7.rdN (s.next+0)) (s.next+4) 0 bv:=r4.same rfl rfl
     have uK:Own (s7.rdN (s.next+0)) (s.next+6) 0 (A7 k.fs a):=rK.same rfl rfl
     have hB8:Bs (s7.rdN (s.next+0)) bv l:=hB7.same rfl rfl
     generalize s7.rdN (s.next+0)=s8 at *
     have hD0:=hI8.kd
     refine OV (f2:=36) (y8.bnd hb0) hI8.d3 hI8.d4 hI8.d5 hI8.d6 (by omega) (λhf s9 n9 x9 o9=> ?_) λhf n9 s9 hn9 hcx9 hnx9 x9 o93 o95=> ?_
     ·have y9:Ext Any (λx=>col1 x<1000) (s.cxN cxN) s9:=(y8.gw hb0 λ_ _ h=>h.elim).on x9 hb0 λy _ h=>by rw[h,hD0 (D+6) (by omega) (by omega)];decide
      refine aC (rs:=[6]) (vs:=[.int .i64 10]) rfl (.inl Td) (by omega) HJ I3 y9.cx (by simp[T.get_set]) ?_
      have hd:Ext Any (λy=>y=D+6) s8 s9:=x9
      have hI9:=hI8.own (st:=k.steps) (fu:=k.fused) (le:=k.left) (ou:=true) hd (λy _ h=>by omega) (hI8.d3.ext hd λh=>by omega) (hI8.d4.ext hd λh=>by omega) (hI8.d5.ext hd λh=>by omega) o9
      exact q3 ho (by omega) hf _ col1 ⟨hI9.same rfl rfl,hag,(y9.gw hb0 λy hy h=>by rw[<-hag y hy];exact h).cx'⟩
     ·have hd:Ext Any (λy=>y=D+3\/y=D+5) s8 (s9.cxN s8.cx):=x9
      have hI9':=hI8.own (st:=wrap64 (k.steps+1)) (fu:=k.fused) (le:=if k.fused then wrap64 (k.left-1)else k.left) (ou:=k.out) hd (λy _ h=>by omega) (o93.same rfl rfl) (hI8.d4.ext hd λh=>by omega) (o95.same rfl rfl) (hI8.d6.ext hd λh=>by omega)
      have hI9:=hI9'.same (s':=s9) rfl rfl
      have v0:=(u0.ext hd λh=>by omega).same (s':=s9) rfl rfl
      have v2:=(u2.ext hd λh=>by omega).same (s':=s9) rfl rfl
      have v4:=(u4.ext hd λh=>by omega).same (s':=s9) rfl rfl
      have vK:=(uK.ext hd λh=>by omega).same (s':=s9) rfl rfl
      have hB9:Bs s9 bv l:=(hB8.ext hd λx hx h=>by
       have h1:=hBc' x hx
       have h2:=hD0 x (by omega) (by omega)
       omega).same rfl rfl
      have y9:Ext Any (λx=>col1 x<1000) (s.cxN cxN) (s9.cxN s8.cx):=(y8.gw hb0 λ_ _ h=>h.elim).on hd hb0 λy _ h=>by rw[hD0 y (by omega) (by omega)];decide
      have y9':Ext Any (λx=>col1 x<1000) (s.cxN cxN) s9:=⟨y9.nxt,y9.lim,hcx9,y9.mem,y9.rd,y9.wr⟩
      have hn9':s9.next=s8.next:=hnx9
      show W (Ab envS (runF envS n9) 36 [.pointer (some ⟨s.next+6,0,none⟩), .pointer (some ⟨s.next,0,none⟩), .pointer (some ⟨s.next+2,0,none⟩), .pointer (some ⟨s.next+4,0,none⟩)]) s9 _
      refine Ul_ (C:=s.next) (K:=s.next+6) (y9'.bnd hb0) hI9 hlen hB9 v0 v2 v4 vK (λx h1 h2=>by rw[hnew x h1];exact Nat.le_refl _) (by rw[hnew _ (by omega)];exact Nat.le_refl _) (λx hx=>⟨λh=>by have:=(hBc x hx).1;omega,hBc' x hx⟩) (.inr (by omega)) (by show DkS.used _+_<=_;exact hz) (by omega) λs10 col' blk v b hI10 hag10 x10=> ?_
      refine⟨x10.cx.trans hcx9, ?_⟩
      have y10:=y9'.on x10 hb0 λy hy h=>by
       have h0:y<s.next:=hy
       rcases h with h|h
       ·exact h
       ·omega
      have e8:s8.cx=cxN:=y8.cx
      rw[e8]
      refine aC (rs:=[6]) (vs:=[.int .i64 0]) rfl (.inl Td) (by omega) HJ I3 rfl (by simp[T.get_set]) ?_
      have hn8:s.next<=s8.next:=y8.nxt
      exact q4 ho (by omega) hf _ col' blk v b ⟨hI10.same rfl rfl,λx hx=>(hag10 x (by omega)).trans (hag x hx),(y10.gw hb0 λy hy h=>by rw[<-hag y hy];exact h).cx'⟩
   simp only[TV,RR,SS,Nat.reduceEqDiff, ↓reduceIte]
   refine aB Ct fK.at' ?_
   have y7:=y6.thenRd hb0 (s.next+6+0)
   have x7:=(Ext.refl (F:=Any) (G:=Non) s6).thenRd (y6.bnd hb0) (s.next+6+0)
   cases hj:Az k.fs a with
   |none=>
    have hv:A7 k.fs a= .pointer none:=by unfold A7;rw[hj]
    rw[hv]
    simp only[SS, ↓reduceIte,J7]
    refine aB B4 (f0.same (s':=s6.rdN (s.next+6+0)) rfl rfl).at' ?_
    simp only[Bu,Ai DD (by decide)]
    refine aB DM (hI6.d1.same rfl rfl).at' ?_
    refine W.lenM SI_ (hI6.om.same rfl rfl) ?_
    have e7:decide ((1000:Int)<=((k.fs.map FileS.ent).length:Nat))=false:=by
     rw[List.length_map]
     exact decide_eq_false (by omega)
    simp only[BJ,e7]
    refine aH Ee_ ?_
    exact full _ _ _ _ (by omega) rfl (((y7.thenRd hb0 _).thenRd hb0 _).thenRd hb0 _) (((x7.thenRd (y6.bnd hb0) _).thenRd (y6.bnd hb0) _).thenRd (y6.bnd hb0) _) (by simp[T.get_set]) (by simp[T.get_set]) (by simp[T.get_set]) (by simp[T.get_set])
   |some j=> 
    have hlt:=Fo hj
    have hv:A7 k.fs a= .pointer (some ⟨k.fs[j].blk,0,none⟩):=by
     unfold A7
     rw[hj]
     simp only[List.getElem?_eq_getElem hlt]
    rw[hv]
    simp only[AY,CE,EB,Dl,Dp,Dr,reduceCtorEq, ↓reduceIte,Dj G7]
    refine aH Ee_ ?_
    exact full _ _ _ _ (by omega) rfl y7 x7 (by simp[T.get_set]) (by simp[T.get_set]) (by simp[T.get_set]) (by simp[T.get_set])
end
section
variable {E:Env}{s s':St}{t:Nat}{xo yo:Operand}
theorem MkS.bs {l:List Nat}{v:Value}{b:Nat}(h:MkS s 1 l.length (u8l l) v b)(hn:l.length<capU):Bs s v l:=by
 rcases h with⟨rfl,h0,_⟩|⟨h,_⟩
 ·exact .inl ⟨rfl,List.eq_nil_of_length_eq_zero h0⟩
 ·refine .inr ⟨b,0,_,h.val, ?_,FX hn (by decide),λi u e=>(h.own i u e).at'⟩
  rw[Nat.mul_add_mod,Nat.mod_eq_of_lt hn]
  exact Nat.le_refl _
theorem MkS.put {l:List Nat}{k x:Nat}{v:Value}{b:Nat}{G:Nat->Prop}(h:MkS s 1 l.length (u8l l) v b)(hk:k<l.length)(hn:s'.next=s.next)(e:Ext G (In b k 1) s s')(ho:Own s' b k (.int .u8 (x:Nat))):MkS s' 1 (l.set k x).length (u8l (l.set k x)) v b:=by
 rw[List.length_set]
 rcases h with⟨_,h0,_⟩|⟨h,h0⟩
 ·omega
 ·refine .inr ⟨⟨h.val,λi u hi=> ?_, ?_, ?_,by rw[hn];exact h.lt⟩,h0⟩
  ·by_cases hik:i=k
   ·subst hik
    unfold u8l at hi
    rw[List.getElem?_map,List.getElem?_set_self hk]at hi
    have:u= .int .u8 (x:Nat):=by injection hi with hi;exact hi.symm
    subst this
    rwa [Nat.zero_add]
   ·have hi':(u8l l)[i]?=some u:=by
     unfold u8l at hi ⊢
     rw[List.getElem?_map,List.getElem?_set_ne (λq=>hik q.symm)]at hi
     rw[List.getElem?_map]
     exact hi
    exact(h.own i u hi').ext e λq=>by
     have h1:=In1.1 q
     omega
  ·rw[BU,List.length_set,Nat.mul_one]
  ·have hlt:b+l.length*1<s.next:=h.lt
   rw[e.mem _ hlt λq=>by have h1:=In1.1 q;omega]
   exact h.tok
theorem MkS.get {l:List Nat}{k:Nat}{v:Value}{b:Nat}(h:MkS s 1 l.length (u8l l) v b)(hk:k<l.length): ∃c,v= .slice (some ⟨b,0,none⟩) l.length c/\Own s b k (.int .u8 (l.getD k 0:Nat)):=by
 rcases h with⟨_,h0,_⟩|⟨h,h0⟩
 ·omega
 ·refine⟨_,h.val, ?_⟩
  have:=h.own k (.int .u8 (l.getD k 0:Nat)) (by
   unfold u8l
   rw[List.getElem?_map,List.getElem?_eq_getElem hk,List.getD_eq_getElem?_getD,List.getElem?_eq_getElem hk]
   rfl)
  rwa [Nat.zero_add]at this
end
theorem Bs.at {s:St}{v:Value}{l:List Nat}(h:Bs s v l){i:Nat}(hi:i<l.length): ∃b o c,v= .slice (some ⟨b,o,none⟩) l.length c/\At s b (o+i*1) (u8 l[i])/\(∀x,x=b+(o+i*1)->BsF v x):=by
 rcases h with⟨rfl,rfl⟩|⟨b,o,c,rfl,_,_,h3⟩
 ·simp at hi
 ·refine⟨b,o,c,rfl, ?_,λx hx=>⟨by omega,by omega⟩⟩
  rw[Nat.mul_one]
  exact h3.at (List.getElem?_eq_getElem hi)
