import Derived.Test.YtofanlcjeohcjaaIBk15
import Derived.Test.YtofanlcjeohcjaaIBk07
import Derived.KernelRfl
import Derived.Test.YtofanlcjeohcjaaIBk19
import Derived.Test.YtofanlcjeohcjaaIBk08
import Derived.Test.YtofanlcjeohcjaaIBk18
import Derived.Test.YtofanlcjeohcjaaIBk24
noncomputable section
namespace Go.Proofs.Ytofanlcjeohcjaa.Am
open Go.RowKit
def D6:Nat:=Ba Try.f45
abbrev Ou_:Nat:=55
def GU_:Code:=Try.f45.body.getD .skip
theorem V1:envS.fn.get 45=some Try.f45:=by kernel_rfl
theorem Aak_ {a0 a1:Value}{n:Nat}{s:St}{Q:Value->St->Prop}(h: ∀tm,T.get tm 0=some a0->T.get tm 1=some a1->W (runF envS n ⟨45,55,D6,tm,[.code GU_], .run, .normal,none⟩) (s.cxN cxN) λp s1=>Q p.1 (s1.cxN s.cx)):W (Ay envS (runF envS n) 45 [a0,a1]) s Q:=
 W.call (by kernel_rfl) (by kernel_rfl) V1 (by kernel_rfl) rfl rfl (by simp) (h _ (by kernel_rfl) (by kernel_rfl))
theorem Ajm_:Try.f45.results.toList=[.tmp 4]:=by kernel_rfl
def Uf:List Item:=skim 64 [.code GU_]
def LI:List Item:=skim 64 Uf.tail
theorem AdK_:skim 64 Uf.tail=LI:=by kernel_rfl
def OE:List Item:=skim 64 LI.tail
theorem MJ_:skim 64 LI.tail=OE:=by kernel_rfl
def MV:List Item:=skim 64 (brF OE)
theorem Rl_:skim 64 (brF OE)=MV:=by kernel_rfl
def GA:List Item:=skim 64 MV.tail
theorem Zq_:skim 64 MV.tail=GA:=by kernel_rfl
def Hj:List Item:=skim 64 GA.tail
theorem Dq_:skim 64 GA.tail=Hj:=by kernel_rfl
def KB:List Item:=skim 64 (brT Hj)
theorem AfZ_:skim 64 (brT Hj)=KB:=by kernel_rfl
def PH:List Item:=skim 64 (brF Hj)
theorem OX_:skim 64 (brF Hj)=PH:=by kernel_rfl
def LY:List Item:=skim 64 KB.tail
theorem Mk_:skim 64 KB.tail=LY:=by kernel_rfl
def RV:List Item:=skim 64 PH.tail
theorem QM_:skim 64 PH.tail=RV:=by kernel_rfl
def Tz:List Item:=skim 64 (brF LY)
theorem UQ_:skim 64 (brF LY)=Tz:=by kernel_rfl
theorem Wv_:skim 64 Tz.tail=GA:=by kernel_rfl
def GE_ (E:Env)(call round:Ad)(tm:T Value):M (T Value):=
 mv (some (.bool false)) λv4=>
 setF 4 v4 tm λtm1=>
 M.pure tm1
theorem Vp_:RegEq 45 55 D6 Uf GE_:=⟨by kernel_rfl,λ_ _ _ _ _ _ _ _ _=>by kernel_rfl⟩
def AD_ (E:Env)(call round:Ad)(tm:T Value):M (T Value):=
 mv (T.get tm 0) λv6=>
 M.bind (oS (seqO [(some v6)]) λl=>A6 E .len [55] l) λv7=>
 mv (T.get tm 1) λv8=>
 M.bind (oS (seqO [(some v8)]) λl=>A6 E .len [55] l) λv9=>
 M.bind (oS (some v7) λa=>oS (some v9) λb=>Cl.get (aBin E .neq 3 (.tmp 7) (.tmp 9)) a b) λv10=>
 setF 10 v10 tm λtm1=>
 M.pure tm1
theorem Qu_:RegEq 45 55 D6 LI AD_:=⟨by kernel_rfl,λ_ _ _ _ _ _ _ _ _=>by kernel_rfl⟩
theorem Ng_:A5 OE=some 10:=by kernel_rfl
def Iv_ (E:Env)(call round:Ad)(tm:T Value):M (T Value):=
 mv (some (.int .i64 0)) λv5=>
 setF 5 v5 tm λtm1=>
 M.pure tm1
theorem Aei_:RegEq 45 55 D6 MV Iv_:=⟨by kernel_rfl,λ_ _ _ _ _ _ _ _ _=>by kernel_rfl⟩
def QG (E:Env)(call round:Ad)(tm:T Value):M (T Value):=
 mv (T.get tm 5) λv11=>
 mv (T.get tm 0) λv12=>
 M.bind (oS (seqO [(some v12)]) λl=>A6 E .len [55] l) λv13=>
 M.bind (oS (some v11) λa=>oS (some v13) λb=>Cl.get (aBin E .lss 3 (.tmp 11) (.tmp 13)) a b) λv14=>
 setF 14 v14 tm λtm1=>
 M.pure tm1
theorem GZ_:RegEq 45 55 D6 GA QG:=⟨by kernel_rfl,λ_ _ _ _ _ _ _ _ _=>by kernel_rfl⟩
theorem Ke_:A5 Hj=some 14:=by kernel_rfl
def Bm_ (E:Env)(call round:Ad)(tm:T Value):M ((Rho×T Value)×List OpLog):=
 M.bind (apartO (oS (T.get tm 0) λa=>M.pure a)) λp0=>
 M.bind (apartO (oS (T.get tm 5) λa=>M.pure a)) λp1=>
 M.bind (apartO (oS (some p0.1) λa=>oS (some p1.1) λb=>Bt E 55 a b)) λp2=>
 M.bind (apartO (oS (some p2.1) λa=>kFld E 85 a 0)) λp3=>
 M.bind (apartO (oS (some p3.1) λa=>AD E 3 a)) λp4=>
 M.bind (apartO (oS (T.get tm 1) λa=>M.pure a)) λp5=>
 M.bind (apartO (oS (T.get tm 5) λa=>M.pure a)) λp6=>
 M.bind (apartO (oS (some p5.1) λa=>oS (some p6.1) λb=>Bt E 55 a b)) λp7=>
 M.bind (apartO (oS (some p7.1) λa=>kFld E 85 a 0)) λp8=>
 M.bind (apartO (oS (some p8.1) λa=>AD E 3 a)) λp9=>
 M.bind (apartO (oS (some p4.1) λa=>oS (some p9.1) λb=>Cl.get (aBin E .neq 3 (.tmp 21) (.tmp 26)) a b)) λp10=>
 M.bind (apartO (oS (some p10.1) λa=>M.pure a)) λp11=>
 M.bind (apartO (M.chk (isK p11.1) (aC (isB p11.1 false) (oS (T.get tm 0) λa=>M.pure a) (M.pure undef)))) λp12=>
 M.bind (apartO (M.chk (isK p11.1) (aC (isB p11.1 false) (oS (T.get tm 5) λa=>M.pure a) (M.pure undef)))) λp13=>
 M.bind (apartO (M.chk (isK p11.1) (aC (isB p11.1 false) (oS (some p12.1) λa=>oS (some p13.1) λb=>Bt E 55 a b) (M.pure undef)))) λp14=>
 M.bind (apartO (M.chk (isK p11.1) (aC (isB p11.1 false) (oS (some p14.1) λa=>kFld E 85 a 1) (M.pure undef)))) λp15=>
 M.bind (apartO (M.chk (isK p11.1) (aC (isB p11.1 false) (oS (some p15.1) λa=>AD E 3 a) (M.pure undef)))) λp16=>
 M.bind (apartO (M.chk (isK p11.1) (aC (isB p11.1 false) (oS (T.get tm 1) λa=>M.pure a) (M.pure undef)))) λp17=>
 M.bind (apartO (M.chk (isK p11.1) (aC (isB p11.1 false) (oS (T.get tm 5) λa=>M.pure a) (M.pure undef)))) λp18=>
 M.bind (apartO (M.chk (isK p11.1) (aC (isB p11.1 false) (oS (some p17.1) λa=>oS (some p18.1) λb=>Bt E 55 a b) (M.pure undef)))) λp19=>
 M.bind (apartO (M.chk (isK p11.1) (aC (isB p11.1 false) (oS (some p19.1) λa=>kFld E 85 a 1) (M.pure undef)))) λp20=>
 M.bind (apartO (M.chk (isK p11.1) (aC (isB p11.1 false) (oS (some p20.1) λa=>AD E 3 a) (M.pure undef)))) λp21=>
 M.bind (apartO (M.chk (isK p11.1) (aC (isB p11.1 false) (oS (some p16.1) λa=>oS (some p21.1) λb=>Cl.get (aBin E .neq 3 (.tmp 33) (.tmp 38)) a b) (M.pure undef)))) λp22=>
 M.bind (apartO (M.on (some p11.1) λa=>M.on (some (.bool true)) λb=>M.on (some p22.1) λc=>Bp a b c)) λp23=>
 M.bind (apartO (oS (some p23.1) λa=>M.pure a)) λp24=>
 M.bind (apartO (M.chk (isK p24.1) (aC (isB p24.1 false) (oS (T.get tm 0) λa=>M.pure a) (M.pure undef)))) λp25=>
 M.bind (apartO (M.chk (isK p24.1) (aC (isB p24.1 false) (oS (T.get tm 5) λa=>M.pure a) (M.pure undef)))) λp26=>
 M.bind (apartO (M.chk (isK p24.1) (aC (isB p24.1 false) (oS (some p25.1) λa=>oS (some p26.1) λb=>Bt E 55 a b) (M.pure undef)))) λp27=>
 M.bind (apartO (M.chk (isK p24.1) (aC (isB p24.1 false) (oS (some p27.1) λa=>kFld E 85 a 2) (M.pure undef)))) λp28=>
 M.bind (apartO (M.chk (isK p24.1) (aC (isB p24.1 false) (oS (some p28.1) λa=>AD E 36 a) (M.pure undef)))) λp29=>
 M.bind (apartO (M.chk (isK p24.1) (aC (isB p24.1 false) (oS (T.get tm 1) λa=>M.pure a) (M.pure undef)))) λp30=>
 M.bind (apartO (M.chk (isK p24.1) (aC (isB p24.1 false) (oS (T.get tm 5) λa=>M.pure a) (M.pure undef)))) λp31=>
 M.bind (apartO (M.chk (isK p24.1) (aC (isB p24.1 false) (oS (some p30.1) λa=>oS (some p31.1) λb=>Bt E 55 a b) (M.pure undef)))) λp32=>
 M.bind (apartO (M.chk (isK p24.1) (aC (isB p24.1 false) (oS (some p32.1) λa=>kFld E 85 a 2) (M.pure undef)))) λp33=>
 M.bind (apartO (M.chk (isK p24.1) (aC (isB p24.1 false) (oS (some p33.1) λa=>AD E 36 a) (M.pure undef)))) λp34=>
 M.bind (apartO (M.chk (isK p24.1) (aC (isB p24.1 false) (M.on (some (.func (.func 26) #[] #[])) λf=>M.on (seqO [(some p29.1),(some p34.1)]) λl=>AW call round f l) (M.pure undef)))) λp35=>
 M.bind (apartO (M.chk (isK p24.1) (aC (isB p24.1 false) (oS (some p35.1) λa=>kUn E.P .not a) (M.pure undef)))) λp36=>
 M.pure (([p36.1,p35.1,p34.1,p33.1,p32.1,p31.1,p30.1,p29.1,p28.1,p27.1,p26.1,p25.1,p24.1,p23.1,p22.1,p21.1,p20.1,p19.1,p18.1,p17.1,p16.1,p15.1,p14.1,p13.1,p12.1,p11.1,p10.1,p9.1,p8.1,p7.1,p6.1,p5.1,p4.1,p3.1,p2.1,p1.1,p0.1],tm),[p36.2,p35.2,p34.2,p33.2,p32.2,p31.2,p30.2,p29.2,p28.2,p27.2,p26.2,p25.2,p24.2,p23.2,p22.2,p21.2,p20.2,p19.2,p18.2,p17.2,p16.2,p15.2,p14.2,p13.2,p12.2,p11.2,p10.2,p9.2,p8.2,p7.2,p6.2,p5.2,p4.2,p3.2,p2.2,p1.2,p0.2])
theorem MC_:DrawEq 45 55 D6 KB [0,0,3,7,15,0,0,96,224,480,1023,2047,4095,4095,16383,32767,65535,4095,4095,397311,921599,1970175,4194303,8388607,16777215,33554431,33554431,134217727,268435455,536870911,33554431,33554431,3254779903,7549747199,16139681791,34359738367,68719476735,137438953471] Bm_:=⟨by kernel_rfl,by kernel_rfl,λ_ _ _ _ _ _ _ _ _=>by kernel_rfl⟩
theorem ZL_ (E:Env)(call round:Ad)(x17 x18 x19 x20 x21 x22 x23 x24 x25 x26 x27 x28 x29 x30 x31 x32 x33 x34 x35 x36 x37 x38 x39 x40 x41 x42 x43 x44 x45 x46 x47 x48 x49 x50 x51 x52 x53:Value)(tm:T Value)(s:St):Bm call round (BM E D6 55 (hdC KB)) [x53,x52,x51,x50,x49,x48,x47,x46,x45,x44,x43,x42,x41,x40,x39,x38,x37,x36,x35,x34,x33,x32,x31,x30,x29,x28,x27,x26,x25,x24,x23,x22,x21,x20,x19,x18,x17] tm s=(M.bind (M.on (some x41) λa=>M.on (some (.bool true)) λb=>M.on (some x53) λc=>Bp a b c) λv54=>setT 54 v54 tm λtm1=>M.pure tm1) s:=by kernel_rfl
def FH_ (E:Env)(call round:Ad)(tm:T Value):M (T Value):=
 mv (some (.bool true)) λv4=>
 setF 4 v4 tm λtm1=>
 M.pure tm1
theorem NE_:RegEq 45 55 D6 PH FH_:=⟨by kernel_rfl,λ_ _ _ _ _ _ _ _ _=>by kernel_rfl⟩
theorem AeU_:A5 LY=some 54:=by kernel_rfl
theorem AaQ_: ∃k,RV= .code .ret::k:=⟨RV.tail,by kernel_rfl⟩
def AW_ (E:Env)(call round:Ad)(tm:T Value):M (T Value):=
 mv (T.get tm 5) λv15=>
 M.bind (oS (some v15) λa=>oS (some (.int .i64 1)) λb=>Cl.get (aBin E .add 3 (.tmp 15) (.const (.int .i64 1))) a b) λv16=>
 mv (some v16) λv5=>
 setF 5 v5 tm λtm1=>
 M.pure tm1
theorem Mr_:RegEq 45 55 D6 Tz AW_:=⟨by kernel_rfl,λ_ _ _ _ _ _ _ _ _=>by kernel_rfl⟩
def PkI.key (p:PkI):Int×Int×List HdI:=(p.num,p.size,p.hs)
section
variable {va vb:Value}{ps qs:List PkI}{Q:Value×FrameMode->St->Prop}{s0:St}
theorem Adf_ (hb0:s0.lim<=s0.next)(ha:PkR s0 va ps)(hb:PkR s0 vb qs)(he:ps.map PkI.key=qs.map PkI.key)(hz: ∀p∈ps,p.hs.length<=1000000000)(hps:ps.length<=1000000000)(hcx:s0.cx=cxN){N:Nat}(hN: ∀p∈ps,p.hs.length<=N)(q: ∀s1,Ext Any Non s0 s1->Q (.bool true, .run) s1):
  ∀(k i n:Nat) (tm:T Value) (s:St) (td:List Item),i+k=ps.length->7*N+10*k+100<=n->skim 64 td=GA->Ext Any Non s0 s->
  T.get tm 0=some va->T.get tm 1=some vb->T.get tm 5=some (.int .i64 (i:Nat))->
  W (runF envS n ⟨45,Ou_,D6,tm,td, .run, .normal,none⟩) s Q:=by
 have hlen:ps.length=qs.length:=by
  have:=congrArg List.length he
  simpa using this
 intro k
 induction k with
 |zero=>
  intro i n tm s td hi hn hT hx h0 h1 h5
  refine GZ_.w hT (by omega) ?_
  simp only[QG,Ac,W_oS,Aa,W_mv,Ab,Ag,Af,Ae,h0,h5]
  rw[ha.len]
  try simp only[Bg]
  refine W.cond (v:=false) Dq_ Ke_ (by simp[aA];omega) (by omega) (λh=>by cases h) λ_=> ?_
  refine NE_.w OX_ (by omega) ?_
  simp only[FH_,Aa,W_mv,Ab]
  refine aG (rs:=[4]) (vs:=[.bool true]) QM_ (.inl AaQ_) (by omega) V1 Ajm_ (hx.cx.trans hcx) (by simp[aA]) ?_
  exact q s hx
 |succ k ih=>
  intro i n tm s td hi hn hT hx h0 h1 h5
  have hil:i<ps.length:=by omega
  have hil2:i<qs.length:=by omega
  have hk:ps[i].key=qs[i].key:=by
   have:=congrArg (λl=>l[i]?) he
   simpa [hil,hil2]using this
  obtain⟨k1,k2,k3⟩:ps[i].num=qs[i].num/\ps[i].size=qs[i].size/\ps[i].hs=qs[i].hs:=by
   unfold PkI.key at hk
   simp only[Prod.mk.injEq]at hk
   exact hk
  obtain⟨ba,oa,ca,ea,ga,gha,g16,_,_⟩:=(ha.ext0 hx).at hil
  obtain⟨bb,ob,cb,eb,gb,ghb,_,_,_⟩:=(hb.ext0 hx).at hil2
  have hzi:=hz _ (List.getElem_mem hil)
  have hNi:=hN _ (List.getElem_mem hil)
  refine GZ_.w hT (by omega) ?_
  simp only[QG,Ac,W_oS,Aa,W_mv,Ab,Ag,Af,Ae,h0,h5]
  rw[ha.len]
  try simp only[Bg]
  refine W.cond (v:=true) Dq_ Ke_ (by simp[aA];omega) (by omega) (λ_=> ?_) λh=>by cases h
  refine MC_.w AfZ_ (by omega) ?_
  have a0:At (dSt s.mem s.next) ba (oa+i*3+0) (.int .i64 ps[i].num):=(ga 0 _ rfl).same rfl rfl
  have a1:At (dSt s.mem s.next) ba (oa+i*3+1) (.int .i64 ps[i].size):=(ga 1 _ rfl).same rfl rfl
  have a2:At (dSt s.mem s.next) ba (oa+i*3+2) ps[i].v:=(ga 2 _ rfl).same rfl rfl
  have b0:At (dSt s.mem s.next) bb (ob+i*3+0) (.int .i64 ps[i].num):=by rw[k1];exact(gb 0 _ rfl).same rfl rfl
  have b1:At (dSt s.mem s.next) bb (ob+i*3+1) (.int .i64 ps[i].size):=by rw[k2];exact(gb 1 _ rfl).same rfl rfl
  have b2:At (dSt s.mem s.next) bb (ob+i*3+2) qs[i].v:=(gb 2 _ rfl).same rfl rfl
  have eqn: ∀x:Int,(!decide (x=x))=false:=λx=>by simp
  simp only[Bm_,aA,Nat.reduceEqDiff, ↓reduceIte,h0,h1,h5,ea,eb,BW,Dz,Ag,Af,Ae,Mf,Br]
  rw[W_dq λs Q=>BX (s:=s) CZ hil Q]
  rw[W_dq λs Q=>A8 (s:=s) Fr (by decide) Q]
  refine aH Be a0 λrd4 hr4=> ?_
  simp only[Br]
  rw[W_dq λs Q=>BX (s:=s) CZ hil2 Q]
  rw[W_dq λs Q=>A8 (s:=s) Fr (by decide) Q]
  refine aH Be b0 λrd9 hr9=> ?_
  rw[W_dq λs Q=>Co (s:=s) _ _,eqn]
  simp only[Br,Ai,EG,An,if_t]
  rw[W_dq λs Q=>BX (s:=s) CZ hil Q]
  rw[W_dq λs Q=>A8 (s:=s) FL (by decide) Q]
  refine aH Be a1 λrd16 hr16=> ?_
  simp only[Br]
  rw[W_dq λs Q=>BX (s:=s) CZ hil2 Q]
  rw[W_dq λs Q=>A8 (s:=s) FL (by decide) Q]
  refine aH Be b1 λrd21 hr21=> ?_
  rw[W_dq λs Q=>Co (s:=s) _ _,eqn]
  dsimp only
  rw[W_dq λs Q=>Aj (s:=s) _ _ _ _]
  simp only[Bool.false_eq_true,reduceIte,Br,Ai,EG,An,if_t]
  rw[W_dq λs Q=>BX (s:=s) CZ hil Q]
  rw[W_dq λs Q=>A8 (s:=s) Eg (by decide) Q]
  refine aH Eo a2 λrd29 hr29=> ?_
  simp only[Br]
  rw[W_dq λs Q=>BX (s:=s) CZ hil2 Q]
  rw[W_dq λs Q=>A8 (s:=s) Eg (by decide) Q]
  refine aH Eo b2 λrd34 hr34=> ?_
  refine W.dop (Aeq_ (s:=oSt s.mem s.next) (hs:=ps[i].hs) (Nat.le_refl _) (gha.same rfl rfl) (by rw[k3];exact ghb.same rfl rfl) g16 (by omega) (by omega) λs1 x1 m1 n1=>⟨_,x1,λrd35 hr35=> ?_⟩)
  have m1':s1.mem=s.mem:=m1
  have n1':s1.next=s.next:=n1
  rw[m1',n1']
  rw[W_dq λs Q=>DW (s:=s) _ _ Q,Aa]
  refine⟨D9 (by simp) (by simp), ?_⟩
  refine W.cast (ZL_ _ _ _ _ _ _ _ _ _ _ _ _ _ _ _ _ _ _ _ _ _ _ _ _ _ _ _ _ _ _ _ _ _ _ _ _ _ _ _ _ _ _) ?_
  simp only[Ac,W_on,Aa,Ar,Aj,reduceCtorEq, ↓reduceIte,Bool.not_true]
  have hx': ∀(rds wrs:List Nat) (l:List OpLog),(∀m∈l,m.wr=[])->Ext Any Non s0 ⟨(dSt s.mem s.next).mem,(dSt s.mem s.next).next,s.lim,rdsL s.lim l s.rd,wrsL s.lim l s.wr,s.cx⟩:=λrds wrs l hl=>hx.then0 (Ext.draw (F:=Any) (Nat.le_refl _) (λ_ _=>rfl) hl λ_ _ _ _ _=>trivial) hb0
  refine W.cond (v:=false) Mk_ AeU_ (by simp[aA]) (by omega) (λh=>by cases h) λ_=> ?_
  refine Mr_.w UQ_ (by omega) ?_
  have ei:wrap64 ((i:Nat)+1:Int)=((i+1:Nat):Int):=by
   rw[Bq (by omega) (by omega)];simp
  simp only[AW_,Ac,W_oS,Aa,W_mv,Ab,aA,Nat.reduceEqDiff, ↓reduceIte,BG,h5,ei]
  exact ih (i+1) _ _ _ _ (by omega) (by omega) Wv_ (hx' [] [] _ (by simp)) (by simp[aA,h0,ea]) (by simp[aA,h1,eb]) (by simp[aA])
end
theorem Yx_ {va vb:Value}{ps qs:List PkI}{n N:Nat}{s:St}{Q:Value->St->Prop}(hbd:s.lim<=s.next)(ha:PkR s va ps)(hb:PkR s vb qs)(he:ps.map PkI.key=qs.map PkI.key)(hN: ∀p∈ps,p.hs.length<=N)(hN2:N<=1000000000)(hps:ps.length<=1000000000)(hn:7*N+10*ps.length+200<=n)
  (q: ∀s1,Ext Any Non s s1->Q (.bool true) s1):W (Ay envS (runF envS n) 45 [va,vb]) s Q:=by
 have hlen:ps.length=qs.length:=by
  have:=congrArg List.length he
  simpa using this
 refine Aak_ λtm h0 h1=> ?_
 have ha':PkR (s.cxN cxN) va ps:=ha.same rfl rfl
 have hb':PkR (s.cxN cxN) vb qs:=hb.same rfl rfl
 refine Vp_.w rfl (by omega) ?_
 simp only[GE_,Aa,W_mv,Ab]
 refine Qu_.w AdK_ (by omega) ?_
 simp only[AD_,Ac,W_oS,Aa,W_mv,Ab,aA,Ag,Af,Ae,Nat.reduceEqDiff,reduceCtorEq, ↓reduceIte,h0,h1]
 rw[ha'.len,hb'.len,hlen]
 try simp only[Co]
 refine W.cond (v:=false) MJ_ Ng_ (by simp[aA]) (by omega) (λh=>by cases h) λ_=> ?_
 refine Aei_.w Rl_ (by omega) ?_
 simp only[Iv_,Aa,W_mv,Ab]
 exact Adf_ (s0:=s.cxN cxN) hbd ha' hb' he (λp hp=>Nat.le_trans (hN p hp) hN2) hps rfl hN (λs1 x1=>q _ x1.cx') ps.length 0 _ _ _ _ (by omega) (by omega) Zq_ (Ext.refl _) (by simp[aA,h0]) (by simp[aA,h1]) (by simp[aA])
theorem EmS.hi {s:St}{hs:List HdI}{v:Value}{b n:Nat}(h:EmS s 18 n (BN hs) v b)(hn:n=hs.length):HiR s v hs:=by
 subst hn
 obtain⟨c,rfl,r⟩:=h.row
 exact .inr ⟨b,0,c,rfl,r⟩
theorem Jt_:slN envS 75=some 2:=by kernel_rfl
structure FdI where
 num:Int
 v:Value
 l:List Nat
def fdC (f:FdI):List Value:=[.int .i64 f.num,f.v]
section
variable {v:Value}{ps:List PkI}{Q:Value×FrameMode->St->Prop}{s0:St}
end
theorem Hw_:slN envS 44=some 1:=by kernel_rfl
theorem Bs.lt {s:St}{v:Value}{l:List Nat}(h:Bs s v l): ∀x,BsF v x->x<s.next:=by
 intro x hx
 rcases h with⟨rfl,_⟩|⟨b,o,c,rfl,_,_,h3⟩
 ·exact hx.elim
 ·have h1:b+o<=x:=hx.1
  have h2:x<b+o+l.length:=hx.2
  have hl:x-(b+o)<(u8l l).length:=by rw[Bu];omega
  have:=(h3 (x-(b+o)) _ (List.getElem?_eq_getElem hl)).1
  omega
def fdCs:List FdI->List Value
 |[]=>[]
 |f::l=>fdC f++fdCs l
theorem W7: ∀l:List FdI,(fdCs l).length=l.length*2
 |[]=>rfl
 |p::l=>by
  show(fdC p++fdCs l).length=_
  rw[List.length_append,W7 l,List.length_cons]
  show 2+_=_
  omega
theorem PA_ (l m:List FdI):fdCs (l++m)=fdCs l++fdCs m:=by
 induction l with
 |nil=>rfl
 |cons h l ih=>show fdC h++fdCs (l++m)=(fdC h++fdCs l)++fdCs m;rw[ih,List.append_assoc]
theorem UN_ {ps:List FdI}{i:Nat}(hi:i<ps.length){j:Nat}(hj:j<2):(fdCs ps)[i*2+j]?=(fdC ps[i])[j]?:=by
 have e:ps=ps.take i++ps[i]::ps.drop (i+1):=by rw[List.getElem_cons_drop,List.take_append_drop]
 have hl:(fdCs (ps.take i)).length=i*2:=by
  rw[W7,List.length_take]
  congr 1;omega
 conv=>lhs;rw[e,PA_]
 rw[List.getElem?_append_right (by omega),hl,show i*2+j-i*2=j by omega]
 show(fdC ps[i]++fdCs (ps.drop (i+1)))[j]?=_
 rw[List.getElem?_append_left (show j<2 from hj)]
structure FdR (s:St)(v:Value)(fs:List FdI):Prop where
 row:(v= .slice none 0 0/\fs=[])\/ ∃b o c,v= .slice (some ⟨b,o,none⟩) fs.length c/\Row s b o (fdCs fs)
 bs: ∀f∈fs,Bs s f.v f.l
 byt: ∀f∈fs,Byt f.l
theorem FdR.same {s s':St}{v:Value}{fs:List FdI}(h:FdR s v fs)(hm:s'.mem=s.mem)(hn:s'.next=s.next):FdR s' v fs:=by
 refine⟨?_,λp hp=>(h.bs p hp).same hm hn,h.byt⟩
 rcases h.row with h|⟨b,o,c,h0,h3⟩
 ·exact .inl h
 ·exact .inr ⟨b,o,c,h0,λi v e=>(h3 i v e).same hm hn⟩
theorem FdR.ext0 {F:Nat->Prop}{s s':St}{v:Value}{fs:List FdI}(h:FdR s v fs)(e:Ext F Non s s'):FdR s' v fs:=by
 refine⟨?_,λp hp=>(h.bs p hp).ext0 e,h.byt⟩
 rcases h.row with h|⟨b,o,c,h0,h3⟩
 ·exact .inl h
 ·exact .inr ⟨b,o,c,h0,h3.ext0 e⟩
theorem FdR.len {s s':St}{v:Value}{fs:List FdI}(h:FdR s v fs)(Q:Value->St->Prop):W (A6 envS .len [75] [v]) s' Q=Q (.int .i64 (fs.length:Nat)) s':=by
 rcases h.row with⟨rfl,rfl⟩|⟨b,o,c,rfl,_⟩
 ·exact Cc Jt_ Q
 ·exact Cc Jt_ Q
theorem FdR.at {s:St}{v:Value}{fs:List FdI}(h:FdR s v fs){i:Nat}(hi:i<fs.length): ∃b o c,v= .slice (some ⟨b,o,none⟩) fs.length c/\Row s b (o+i*2) (fdC fs[i])/\Bs s fs[i].v fs[i].l/\Byt fs[i].l:=by
 have hm:=List.getElem_mem hi
 rcases h.row with⟨rfl,rfl⟩|⟨b,o,c,rfl,h3⟩
 ·simp at hi
 ·refine⟨b,o,c,rfl,λj u e=> ?_,h.bs _ hm,h.byt _ hm⟩
  have hj:j<2:=(List.getElem?_eq_some_iff.1 e).1
  have:=h3 (i*2+j) u (by rw[UN_ hi hj];exact e)
  rwa [show o+(i*2+j)=o+i*2+j by omega]at this
def IntR (s:St)(v:Value)(l:List Int):Prop:=(v= .slice none 0 0/\l=[])\/ ∃b o c,v= .slice (some ⟨b,o,none⟩) l.length c/\Row s b o (l.map (.int .i64))
theorem IntR.same {s s':St}{v:Value}{l:List Int}(h:IntR s v l)(hm:s'.mem=s.mem)(hn:s'.next=s.next):IntR s' v l:=by
 rcases h with h|⟨b,o,c,h0,h3⟩
 ·exact .inl h
 ·exact .inr ⟨b,o,c,h0,λi v e=>(h3 i v e).same hm hn⟩
theorem IntR.ext0 {F:Nat->Prop}{s s':St}{v:Value}{l:List Int}(h:IntR s v l)(e:Ext F Non s s'):IntR s' v l:=by
 rcases h with h|⟨b,o,c,h0,h3⟩
 ·exact .inl h
 ·exact .inr ⟨b,o,c,h0,h3.ext0 e⟩
theorem IntR.len {s s':St}{v:Value}{l:List Int}(h:IntR s v l)(Q:Value->St->Prop):W (A6 envS .len [44] [v]) s' Q=Q (.int .i64 (l.length:Nat)) s':=by
 rcases h with⟨rfl,rfl⟩|⟨b,o,c,rfl,_⟩
 ·exact Cc Hw_ Q
 ·exact Cc Hw_ Q
abbrev KeyP:Type:=Int×Int×List HdI
structure MgO (s0 s:St)(os:List PkI)(sc:List Int)(vo vs:Value)(bo bs:Nat):Prop where
 mo:MkS s 3 os.length (pkCs os) vo bo
 ms:MkS s 1 sc.length (sc.map (.int .i64)) vs bs
 no:s0.next<=bo
 ns:s0.next<=bs
 dj: ∀x,MkF 3 os.length bo x-> ¬MkF 1 sc.length bs x
 hs: ∀o∈os,HiR s o.v o.hs/\(∀h∈o.hs,h.1.length=16)/\(∀x,HiF o.v x->s0.next<=x/\ ¬MkF 3 os.length bo x/\ ¬MkF 1 sc.length bs x)
theorem MgO.ext0 {F:Nat->Prop}{s0 s s':St}{os:List PkI}{sc:List Int}{vo vs:Value}{bo bs:Nat}(h:MgO s0 s os sc vo vs bo bs)(e:Ext F Non s s'):MgO s0 s' os sc vo vs bo bs:=
 ⟨h.mo.ext0 e,h.ms.ext0 e,h.no,h.ns,h.dj,λo ho=>⟨(h.hs o ho).1.ext0 e,(h.hs o ho).2⟩⟩
theorem AiQ_ {p:PkI}(h:oneCell p.v=true):(pkC p).all oneCell=true:=by
 unfold pkC
 simp[oneCell]at h ⊢
 exact h
theorem AdN_ (p:PkI):DY (λk=>some (k*3,3)) [(0, .agg (pkC p).toArray)] (rep 1 [.int .i64 0, .int .i64 0, .slice none 0 0])=some (pkC p):=rfl
end Go.Proofs.Ytofanlcjeohcjaa.Am
end
