import Derived.Test.YtofanlcjeohcjaaIFn14
import Derived.Test.YtofanlcjeohcjaaIFn07
import Derived.KernelRfl
import Derived.Test.YtofanlcjeohcjaaIFn18
import Derived.Test.YtofanlcjeohcjaaIFn17
import Derived.Test.YtofanlcjeohcjaaIFn20
noncomputable section
namespace Go.Proofs.Ytofanlcjeohcjaa.Am
open Go.RowKit
def Dt:Nat:=BU Try.f45
abbrev Cc_:Nat:=55
def RQ:Code:=Try.f45.body.getD .skip
theorem Ri:envS.fn.get 45=some Try.f45:=by kernel_rfl
theorem Bz_ {a0 a1:Value}{n:Nat}{s:St}{Q:Value→St→Prop}(h: ∀tm,T.get tm 0=some a0→T.get tm 1=some a1→W (runF envS n ⟨45,55,Dt,tm,[.code RQ], .run, .normal,none⟩) (s.cxN cxN) fun p s1=>Q p.1 (s1.cxN s.cx)):W (A2 envS (runF envS n) 45 [a0,a1]) s Q:=
 W.call (by kernel_rfl) (by kernel_rfl) Ri (by kernel_rfl) rfl rfl (by simp) (h _ (by kernel_rfl) (by kernel_rfl))
theorem Wg:Try.f45.results.toList=[.tmp 4]:=by kernel_rfl
def Mf:List Item:=skim 64 [.code RQ]
def IT:List Item:=skim 64 Mf.tail
theorem Cp_:skim 64 Mf.tail=IT:=by kernel_rfl
def I9:List Item:=skim 64 IT.tail
theorem Ji_:skim 64 IT.tail=I9:=by kernel_rfl
def KC:List Item:=skim 64 (brF I9)
theorem YZ:skim 64 (brF I9)=KC:=by kernel_rfl
def Gw:List Item:=skim 64 KC.tail
theorem Gl_:skim 64 KC.tail=Gw:=by kernel_rfl
def F4:List Item:=skim 64 Gw.tail
theorem Sf:skim 64 Gw.tail=F4:=by kernel_rfl
def HA:List Item:=skim 64 (brT F4)
theorem Xo:skim 64 (brT F4)=HA:=by kernel_rfl
def J9:List Item:=skim 64 (brF F4)
theorem ZO:skim 64 (brF F4)=J9:=by kernel_rfl
def IN:List Item:=skim 64 HA.tail
theorem Db_:skim 64 HA.tail=IN:=by kernel_rfl
def KW:List Item:=skim 64 J9.tail
theorem CN_:skim 64 J9.tail=KW:=by kernel_rfl
def K8:List Item:=skim 64 (brF IN)
theorem Hk_:skim 64 (brF IN)=K8:=by kernel_rfl
theorem Yl:skim 64 K8.tail=Gw:=by kernel_rfl
def Qc (E:Env)(call round:Aw)(tm:T Value):M (T Value):=
 mv (some (.bool false)) fun v4=>
 setF 4 v4 tm fun tm1=>
 M.pure tm1
theorem DH_:RegEq 45 55 Dt Mf Qc:=⟨by kernel_rfl,fun _ _ _ _ _ _ _ _ _=>by kernel_rfl⟩
def Qq (E:Env)(call round:Aw)(tm:T Value):M (T Value):=
 mv (T.get tm 0) fun v6=>
 M.bind (oS (seqO [(some v6)]) fun l=>Bi E .len [55] l) fun v7=>
 mv (T.get tm 1) fun v8=>
 M.bind (oS (seqO [(some v8)]) fun l=>Bi E .len [55] l) fun v9=>
 M.bind (oS (some v7) fun a=>oS (some v9) fun b=>Cl.get (aBin E .neq 3 (.tmp 7) (.tmp 9)) a b) fun v10=>
 setF 10 v10 tm fun tm1=>
 M.pure tm1
theorem Bn_:RegEq 45 55 Dt IT Qq:=⟨by kernel_rfl,fun _ _ _ _ _ _ _ _ _=>by kernel_rfl⟩
theorem LM_:BB I9=some 10:=by kernel_rfl
def Pr (E:Env)(call round:Aw)(tm:T Value):M (T Value):=
 mv (some (.int .i64 0)) fun v5=>
 setF 5 v5 tm fun tm1=>
 M.pure tm1
theorem WW:RegEq 45 55 Dt KC Pr:=⟨by kernel_rfl,fun _ _ _ _ _ _ _ _ _=>by kernel_rfl⟩
def N6 (E:Env)(call round:Aw)(tm:T Value):M (T Value):=
 mv (T.get tm 5) fun v11=>
 mv (T.get tm 0) fun v12=>
 M.bind (oS (seqO [(some v12)]) fun l=>Bi E .len [55] l) fun v13=>
 M.bind (oS (some v11) fun a=>oS (some v13) fun b=>Cl.get (aBin E .lss 3 (.tmp 11) (.tmp 13)) a b) fun v14=>
 setF 14 v14 tm fun tm1=>
 M.pure tm1
theorem OE:RegEq 45 55 Dt Gw N6:=⟨by kernel_rfl,fun _ _ _ _ _ _ _ _ _=>by kernel_rfl⟩
theorem QJ:BB F4=some 14:=by kernel_rfl
def Ot (E:Env)(call round:Aw)(tm:T Value):M ((Rho×T Value)×List OpLog):=
 M.bind (apartO (oS (T.get tm 0) fun a=>M.pure a)) fun p0=>
 M.bind (apartO (oS (T.get tm 5) fun a=>M.pure a)) fun p1=>
 M.bind (apartO (oS (some p0.1) fun a=>oS (some p1.1) fun b=>Bk E 55 a b)) fun p2=>
 M.bind (apartO (oS (some p2.1) fun a=>kFld E 85 a 0)) fun p3=>
 M.bind (apartO (oS (some p3.1) fun a=>A4 E 3 a)) fun p4=>
 M.bind (apartO (oS (T.get tm 1) fun a=>M.pure a)) fun p5=>
 M.bind (apartO (oS (T.get tm 5) fun a=>M.pure a)) fun p6=>
 M.bind (apartO (oS (some p5.1) fun a=>oS (some p6.1) fun b=>Bk E 55 a b)) fun p7=>
 M.bind (apartO (oS (some p7.1) fun a=>kFld E 85 a 0)) fun p8=>
 M.bind (apartO (oS (some p8.1) fun a=>A4 E 3 a)) fun p9=>
 M.bind (apartO (oS (some p4.1) fun a=>oS (some p9.1) fun b=>Cl.get (aBin E .neq 3 (.tmp 21) (.tmp 26)) a b)) fun p10=>
 M.bind (apartO (oS (some p10.1) fun a=>M.pure a)) fun p11=>
 M.bind (apartO (M.chk (isK p11.1) (M.if (isB p11.1 false) (oS (T.get tm 0) fun a=>M.pure a) (M.pure undef)))) fun p12=>
 M.bind (apartO (M.chk (isK p11.1) (M.if (isB p11.1 false) (oS (T.get tm 5) fun a=>M.pure a) (M.pure undef)))) fun p13=>
 M.bind (apartO (M.chk (isK p11.1) (M.if (isB p11.1 false) (oS (some p12.1) fun a=>oS (some p13.1) fun b=>Bk E 55 a b) (M.pure undef)))) fun p14=>
 M.bind (apartO (M.chk (isK p11.1) (M.if (isB p11.1 false) (oS (some p14.1) fun a=>kFld E 85 a 1) (M.pure undef)))) fun p15=>
 M.bind (apartO (M.chk (isK p11.1) (M.if (isB p11.1 false) (oS (some p15.1) fun a=>A4 E 3 a) (M.pure undef)))) fun p16=>
 M.bind (apartO (M.chk (isK p11.1) (M.if (isB p11.1 false) (oS (T.get tm 1) fun a=>M.pure a) (M.pure undef)))) fun p17=>
 M.bind (apartO (M.chk (isK p11.1) (M.if (isB p11.1 false) (oS (T.get tm 5) fun a=>M.pure a) (M.pure undef)))) fun p18=>
 M.bind (apartO (M.chk (isK p11.1) (M.if (isB p11.1 false) (oS (some p17.1) fun a=>oS (some p18.1) fun b=>Bk E 55 a b) (M.pure undef)))) fun p19=>
 M.bind (apartO (M.chk (isK p11.1) (M.if (isB p11.1 false) (oS (some p19.1) fun a=>kFld E 85 a 1) (M.pure undef)))) fun p20=>
 M.bind (apartO (M.chk (isK p11.1) (M.if (isB p11.1 false) (oS (some p20.1) fun a=>A4 E 3 a) (M.pure undef)))) fun p21=>
 M.bind (apartO (M.chk (isK p11.1) (M.if (isB p11.1 false) (oS (some p16.1) fun a=>oS (some p21.1) fun b=>Cl.get (aBin E .neq 3 (.tmp 33) (.tmp 38)) a b) (M.pure undef)))) fun p22=>
 M.bind (apartO (M.on (some p11.1) fun a=>M.on (some (.bool true)) fun b=>M.on (some p22.1) fun c=>B9 a b c)) fun p23=>
 M.bind (apartO (oS (some p23.1) fun a=>M.pure a)) fun p24=>
 M.bind (apartO (M.chk (isK p24.1) (M.if (isB p24.1 false) (oS (T.get tm 0) fun a=>M.pure a) (M.pure undef)))) fun p25=>
 M.bind (apartO (M.chk (isK p24.1) (M.if (isB p24.1 false) (oS (T.get tm 5) fun a=>M.pure a) (M.pure undef)))) fun p26=>
 M.bind (apartO (M.chk (isK p24.1) (M.if (isB p24.1 false) (oS (some p25.1) fun a=>oS (some p26.1) fun b=>Bk E 55 a b) (M.pure undef)))) fun p27=>
 M.bind (apartO (M.chk (isK p24.1) (M.if (isB p24.1 false) (oS (some p27.1) fun a=>kFld E 85 a 2) (M.pure undef)))) fun p28=>
 M.bind (apartO (M.chk (isK p24.1) (M.if (isB p24.1 false) (oS (some p28.1) fun a=>A4 E 36 a) (M.pure undef)))) fun p29=>
 M.bind (apartO (M.chk (isK p24.1) (M.if (isB p24.1 false) (oS (T.get tm 1) fun a=>M.pure a) (M.pure undef)))) fun p30=>
 M.bind (apartO (M.chk (isK p24.1) (M.if (isB p24.1 false) (oS (T.get tm 5) fun a=>M.pure a) (M.pure undef)))) fun p31=>
 M.bind (apartO (M.chk (isK p24.1) (M.if (isB p24.1 false) (oS (some p30.1) fun a=>oS (some p31.1) fun b=>Bk E 55 a b) (M.pure undef)))) fun p32=>
 M.bind (apartO (M.chk (isK p24.1) (M.if (isB p24.1 false) (oS (some p32.1) fun a=>kFld E 85 a 2) (M.pure undef)))) fun p33=>
 M.bind (apartO (M.chk (isK p24.1) (M.if (isB p24.1 false) (oS (some p33.1) fun a=>A4 E 36 a) (M.pure undef)))) fun p34=>
 M.bind (apartO (M.chk (isK p24.1) (M.if (isB p24.1 false) (M.on (some (.func (.func 26) #[] #[])) fun f=>M.on (seqO [(some p29.1),(some p34.1)]) fun l=>BP call round f l) (M.pure undef)))) fun p35=>
 M.bind (apartO (M.chk (isK p24.1) (M.if (isB p24.1 false) (oS (some p35.1) fun a=>kUn E.P .not a) (M.pure undef)))) fun p36=>
 M.pure (([p36.1,p35.1,p34.1,p33.1,p32.1,p31.1,p30.1,p29.1,p28.1,p27.1,p26.1,p25.1,p24.1,p23.1,p22.1,p21.1,p20.1,p19.1,p18.1,p17.1,p16.1,p15.1,p14.1,p13.1,p12.1,p11.1,p10.1,p9.1,p8.1,p7.1,p6.1,p5.1,p4.1,p3.1,p2.1,p1.1,p0.1],tm),[p36.2,p35.2,p34.2,p33.2,p32.2,p31.2,p30.2,p29.2,p28.2,p27.2,p26.2,p25.2,p24.2,p23.2,p22.2,p21.2,p20.2,p19.2,p18.2,p17.2,p16.2,p15.2,p14.2,p13.2,p12.2,p11.2,p10.2,p9.2,p8.2,p7.2,p6.2,p5.2,p4.2,p3.2,p2.2,p1.2,p0.2])
theorem Ed_:DrawEq 45 55 Dt HA [0,0,3,7,15,0,0,96,224,480,1023,2047,4095,4095,16383,32767,65535,4095,4095,397311,921599,1970175,4194303,8388607,16777215,33554431,33554431,134217727,268435455,536870911,33554431,33554431,3254779903,7549747199,16139681791,34359738367,68719476735,137438953471] Ot:=⟨by kernel_rfl,by kernel_rfl,fun _ _ _ _ _ _ _ _ _=>by kernel_rfl⟩
theorem HJ_ (E:Env)(call round:Aw)(x17 x18 x19 x20 x21 x22 x23 x24 x25 x26 x27 x28 x29 x30 x31 x32 x33 x34 x35 x36 x37 x38 x39 x40 x41 x42 x43 x44 x45 x46 x47 x48 x49 x50 x51 x52 x53:Value)(tm:T Value)(s:St):BJ call round (CP E Dt 55 (hdC HA)) [x53,x52,x51,x50,x49,x48,x47,x46,x45,x44,x43,x42,x41,x40,x39,x38,x37,x36,x35,x34,x33,x32,x31,x30,x29,x28,x27,x26,x25,x24,x23,x22,x21,x20,x19,x18,x17] tm s=(M.bind (M.on (some x41) fun a=>M.on (some (.bool true)) fun b=>M.on (some x53) fun c=>B9 a b c) fun v54=>setT 54 v54 tm fun tm1=>M.pure tm1) s:=by kernel_rfl
def T8 (E:Env)(call round:Aw)(tm:T Value):M (T Value):=
 mv (some (.bool true)) fun v4=>
 setF 4 v4 tm fun tm1=>
 M.pure tm1
theorem WY:RegEq 45 55 Dt J9 T8:=⟨by kernel_rfl,fun _ _ _ _ _ _ _ _ _=>by kernel_rfl⟩
theorem EE_:BB IN=some 54:=by kernel_rfl
theorem Dn_: ∃k,KW= .code .ret::k:=⟨KW.tail,by kernel_rfl⟩
def PP (E:Env)(call round:Aw)(tm:T Value):M (T Value):=
 mv (T.get tm 5) fun v15=>
 M.bind (oS (some v15) fun a=>oS (some (.int .i64 1)) fun b=>Cl.get (aBin E .add 3 (.tmp 15) (.const (.int .i64 1))) a b) fun v16=>
 mv (some v16) fun v5=>
 setF 5 v5 tm fun tm1=>
 M.pure tm1
theorem AN_:RegEq 45 55 Dt K8 PP:=⟨by kernel_rfl,fun _ _ _ _ _ _ _ _ _=>by kernel_rfl⟩
def PkI.key (p:PkI):Int×Int×List HdI:=(p.num,p.size,p.hs)
section
variable {va vb:Value}{ps qs:List PkI}{Q:Value×FrameMode→St→Prop}{s0:St}
theorem IB_ (hb0:s0.lim≤s0.next)(ha:PkR s0 va ps)(hb:PkR s0 vb qs)(he:ps.map PkI.key=qs.map PkI.key)(hz: ∀p∈ps,p.hs.length≤1000000000)(hps:ps.length≤1000000000)(hcx:s0.cx=cxN){N:Nat}(hN: ∀p∈ps,p.hs.length≤N)(q: ∀s1,Ext Any Non s0 s1→Q (.bool true, .run) s1):
  ∀(k i n:Nat) (tm:T Value) (s:St) (td:List Item),i+k=ps.length→7*N+10*k+100≤n→skim 64 td=Gw→Ext Any Non s0 s→
  T.get tm 0=some va→T.get tm 1=some vb→T.get tm 5=some (.int .i64 (i:Nat))→
  W (runF envS n ⟨45,Cc_,Dt,tm,td, .run, .normal,none⟩) s Q:=by
 have hlen:ps.length=qs.length:=by
  have:=congrArg List.length he
  simpa using this
 intro k
 induction k with
 |zero=>
  intro i n tm s td hi hn hT hx h0 h1 h5
  refine OE.w hT (by omega) ?_
  simp only[N6,Ac,W_oS,Aa,W_mv,Ab,Ae,Ad,Af,h0,h5]
  rw[ha.len]
  try simp only[A5]
  refine W.cond (v:=false) Sf QJ (by simp[T.get_set];omega) (by omega) (fun h=>by cases h) fun _=> ?_
  refine WY.w ZO (by omega) ?_
  simp only[T8,Aa,W_mv,Ab]
  refine W.end' (rs:=[4]) (vs:=[.bool true]) CN_ (.inl Dn_) (by omega) Ri Wg (hx.cx.trans hcx) (by simp[T.get_set]) ?_
  exact q s hx
 |succ k ih=>
  intro i n tm s td hi hn hT hx h0 h1 h5
  have hil:i<ps.length:=by omega
  have hil2:i<qs.length:=by omega
  have hk:ps[i].key=qs[i].key:=by
   have:=congrArg (fun l=>l[i]?) he
   simpa [hil,hil2]using this
  obtain⟨k1,k2,k3⟩:ps[i].num=qs[i].num∧ps[i].size=qs[i].size∧ps[i].hs=qs[i].hs:=by
   unfold PkI.key at hk
   simp only[Prod.mk.injEq]at hk
   exact hk
  obtain⟨ba,oa,ca,ea,ga,gha,g16,_,_⟩:=(ha.ext0 hx).at hil
  obtain⟨bb,ob,cb,eb,gb,ghb,_,_,_⟩:=(hb.ext0 hx).at hil2
  have hzi:=hz _ (List.getElem_mem hil)
  have hNi:=hN _ (List.getElem_mem hil)
  refine OE.w hT (by omega) ?_
  simp only[N6,Ac,W_oS,Aa,W_mv,Ab,Ae,Ad,Af,h0,h5]
  rw[ha.len]
  try simp only[A5]
  refine W.cond (v:=true) Sf QJ (by simp[T.get_set];omega) (by omega) (fun _=> ?_) fun h=>by cases h
  refine Ed_.w Xo (by omega) ?_
  have a0:At (dSt s.mem s.next) ba (oa+i*3+0) (.int .i64 ps[i].num):=(ga 0 _ rfl).same rfl rfl
  have a1:At (dSt s.mem s.next) ba (oa+i*3+1) (.int .i64 ps[i].size):=(ga 1 _ rfl).same rfl rfl
  have a2:At (dSt s.mem s.next) ba (oa+i*3+2) ps[i].v:=(ga 2 _ rfl).same rfl rfl
  have b0:At (dSt s.mem s.next) bb (ob+i*3+0) (.int .i64 ps[i].num):=by rw[k1];exact(gb 0 _ rfl).same rfl rfl
  have b1:At (dSt s.mem s.next) bb (ob+i*3+1) (.int .i64 ps[i].size):=by rw[k2];exact(gb 1 _ rfl).same rfl rfl
  have b2:At (dSt s.mem s.next) bb (ob+i*3+2) qs[i].v:=(gb 2 _ rfl).same rfl rfl
  have eqn: ∀x:Int,(!decide (x=x))=false:=fun x=>by simp
  simp only[Ot,T.get_set,Nat.reduceEqDiff, ↓reduceIte,h0,h1,h5,ea,eb,Dd,Mc,Ae,Ad,Af,CH_,B8]
  rw[W_dq fun s Q=>Bx (s:=s) BL hil Q]
  rw[W_dq fun s Q=>BE (s:=s) Kb (by decide) Q]
  refine W.dload DI a0 fun rd4 hr4=> ?_
  simp only[B8]
  rw[W_dq fun s Q=>Bx (s:=s) BL hil2 Q]
  rw[W_dq fun s Q=>BE (s:=s) Kb (by decide) Q]
  refine W.dload DI b0 fun rd9 hr9=> ?_
  rw[W_dq fun s Q=>A6 (s:=s) _ _,eqn]
  simp only[B8,Ai,RN,Ah,if_t]
  rw[W_dq fun s Q=>Bx (s:=s) BL hil Q]
  rw[W_dq fun s Q=>BE (s:=s) SH (by decide) Q]
  refine W.dload DI a1 fun rd16 hr16=> ?_
  simp only[B8]
  rw[W_dq fun s Q=>Bx (s:=s) BL hil2 Q]
  rw[W_dq fun s Q=>BE (s:=s) SH (by decide) Q]
  refine W.dload DI b1 fun rd21 hr21=> ?_
  rw[W_dq fun s Q=>A6 (s:=s) _ _,eqn]
  dsimp only
  rw[W_dq fun s Q=>Aj (s:=s) _ _ _ _]
  simp only[Bool.false_eq_true,reduceIte,B8,Ai,RN,Ah,if_t]
  rw[W_dq fun s Q=>Bx (s:=s) BL hil Q]
  rw[W_dq fun s Q=>BE (s:=s) Cr (by decide) Q]
  refine W.dload Cm a2 fun rd29 hr29=> ?_
  simp only[B8]
  rw[W_dq fun s Q=>Bx (s:=s) BL hil2 Q]
  rw[W_dq fun s Q=>BE (s:=s) Cr (by decide) Q]
  refine W.dload Cm b2 fun rd34 hr34=> ?_
  refine W.dop (FN_ (s:=oSt s.mem s.next) (hs:=ps[i].hs) (Nat.le_refl _) (gha.same rfl rfl) (by rw[k3];exact ghb.same rfl rfl) g16 (by omega) (by omega) fun s1 x1 m1 n1=>⟨_,x1,fun rd35 hr35=> ?_⟩)
  have m1':s1.mem=s.mem:=m1
  have n1':s1.next=s.next:=n1
  rw[m1',n1']
  rw[W_dq fun s Q=>D7 (s:=s) _ _ Q,Aa]
  refine⟨H0 (by simp) (by simp), ?_⟩
  refine W.cast (HJ_ _ _ _ _ _ _ _ _ _ _ _ _ _ _ _ _ _ _ _ _ _ _ _ _ _ _ _ _ _ _ _ _ _ _ _ _ _ _ _ _ _ _) ?_
  simp only[Ac,W_on,Aa,Ag,reduceIte,Aj,reduceCtorEq, ↓reduceIte,Bool.not_true]
  have hx': ∀(rds wrs:List Nat) (l:List OpLog),(∀m∈l,m.wr=[])→Ext Any Non s0 ⟨(dSt s.mem s.next).mem,(dSt s.mem s.next).next,s.lim,rdsL s.lim l s.rd,wrsL s.lim l s.wr,s.cx⟩:=fun rds wrs l hl=>hx.then0 (Ext.draw (F:=Any) (Nat.le_refl _) (fun _ _=>rfl) hl fun _ _ _ _ _=>trivial) hb0
  refine W.cond (v:=false) Db_ EE_ (by simp[T.get_set]) (by omega) (fun h=>by cases h) fun _=> ?_
  refine AN_.w Hk_ (by omega) ?_
  have ei:wrap64 ((i:Nat)+1:Int)=((i+1:Nat):Int):=by
   rw[B5 (by omega) (by omega)];simp
  simp only[PP,Ac,W_oS,Aa,W_mv,Ab,T.get_set,reduceIte,Nat.reduceEqDiff, ↓reduceIte,A8,h5,ei]
  exact ih (i+1) _ _ _ _ (by omega) (by omega) Yl (hx' [] [] _ (by simp)) (by simp[T.get_set,h0,ea]) (by simp[T.get_set,h1,eb]) (by simp[T.get_set])
end
theorem VM {va vb:Value}{ps qs:List PkI}{n N:Nat}{s:St}{Q:Value→St→Prop}(hbd:s.lim≤s.next)(ha:PkR s va ps)(hb:PkR s vb qs)(he:ps.map PkI.key=qs.map PkI.key)(hN: ∀p∈ps,p.hs.length≤N)(hN2:N≤1000000000)(hps:ps.length≤1000000000)(hn:7*N+10*ps.length+200≤n)
  (q: ∀s1,Ext Any Non s s1→Q (.bool true) s1):W (A2 envS (runF envS n) 45 [va,vb]) s Q:=by
 have hlen:ps.length=qs.length:=by
  have:=congrArg List.length he
  simpa using this
 refine Bz_ fun tm h0 h1=> ?_
 have ha':PkR (s.cxN cxN) va ps:=ha.same rfl rfl
 have hb':PkR (s.cxN cxN) vb qs:=hb.same rfl rfl
 refine DH_.w rfl (by omega) ?_
 simp only[Qc,Aa,W_mv,Ab]
 refine Bn_.w Cp_ (by omega) ?_
 simp only[Qq,Ac,W_oS,Aa,W_mv,Ab,T.get_set,Ae,Ad,Af,reduceIte,Nat.reduceEqDiff,reduceCtorEq, ↓reduceIte,h0,h1]
 rw[ha'.len,hb'.len,hlen]
 try simp only[A6]
 refine W.cond (v:=false) Ji_ LM_ (by simp[T.get_set]) (by omega) (fun h=>by cases h) fun _=> ?_
 refine WW.w YZ (by omega) ?_
 simp only[Pr,Aa,W_mv,Ab]
 exact IB_ (s0:=s.cxN cxN) hbd ha' hb' he (fun p hp=>Nat.le_trans (hN p hp) hN2) hps rfl hN (fun s1 x1=>q _ x1.cx') ps.length 0 _ _ _ _ (by omega) (by omega) Gl_ (Ext.refl _) (by simp[T.get_set,h0]) (by simp[T.get_set,h1]) (by simp[T.get_set])
theorem EmS.hi {s:St}{hs:List HdI}{v:Value}{b n:Nat}(h:EmS s 18 n (BN hs) v b)(hn:n=hs.length):HiR s v hs:=by
 subst hn
 obtain⟨c,rfl,r⟩:=h.row
 exact .inr ⟨b,0,c,rfl,r⟩
theorem SL:slN envS 75=some 2:=by kernel_rfl
structure FdI where
 num:Int
 v:Value
 l:List Nat
def fdC (f:FdI):List Value:=[.int .i64 f.num,f.v]
section
variable {v:Value}{ps:List PkI}{Q:Value×FrameMode→St→Prop}{s0:St}
end
theorem O1:slN envS 44=some 1:=by kernel_rfl
theorem Bs.lt {s:St}{v:Value}{l:List Nat}(h:Bs s v l): ∀x,BsF v x→x<s.next:=by
 intro x hx
 rcases h with⟨rfl,_⟩|⟨b,o,c,rfl,_,_,h3⟩
 ·exact hx.elim
 ·have h1:b+o≤x:=hx.1
  have h2:x<b+o+l.length:=hx.2
  have hl:x-(b+o)<(u8l l).length:=by rw[Bp];omega
  have:=(h3 (x-(b+o)) _ (List.getElem?_eq_getElem hl)).1
  omega
def fdCs:List FdI→List Value
 |[]=>[]
 |f::l=>fdC f++fdCs l
theorem R7: ∀l:List FdI,(fdCs l).length=l.length*2
 |[]=>rfl
 |p::l=>by
  show(fdC p++fdCs l).length=_
  rw[List.length_append,R7 l,List.length_cons]
  show 2+_=_
  omega
theorem Hg_ (l m:List FdI):fdCs (l++m)=fdCs l++fdCs m:=by
 induction l with
 |nil=>rfl
 |cons h l ih=>show fdC h++fdCs (l++m)=(fdC h++fdCs l)++fdCs m;rw[ih,List.append_assoc]
theorem Fo_ {ps:List FdI}{i:Nat}(hi:i<ps.length){j:Nat}(hj:j<2):(fdCs ps)[i*2+j]?=(fdC ps[i])[j]?:=by
 have e:ps=ps.take i++ps[i]::ps.drop (i+1):=by rw[List.getElem_cons_drop,List.take_append_drop]
 have hl:(fdCs (ps.take i)).length=i*2:=by
  rw[R7,List.length_take]
  congr 1;omega
 conv=>lhs;rw[e,Hg_]
 rw[List.getElem?_append_right (by omega),hl,show i*2+j-i*2=j by omega]
 show(fdC ps[i]++fdCs (ps.drop (i+1)))[j]?=_
 rw[List.getElem?_append_left (show j<2 from hj)]
structure FdR (s:St)(v:Value)(fs:List FdI):Prop where
 row:(v= .slice none 0 0∧fs=[])∨ ∃b o c,v= .slice (some ⟨b,o,none⟩) fs.length c∧Row s b o (fdCs fs)
 bs: ∀f∈fs,Bs s f.v f.l
 byt: ∀f∈fs,Byt f.l
theorem FdR.same {s s':St}{v:Value}{fs:List FdI}(h:FdR s v fs)(hm:s'.mem=s.mem)(hn:s'.next=s.next):FdR s' v fs:=by
 refine⟨?_,fun p hp=>(h.bs p hp).same hm hn,h.byt⟩
 rcases h.row with h|⟨b,o,c,h0,h3⟩
 ·exact .inl h
 ·exact .inr ⟨b,o,c,h0,fun i v e=>(h3 i v e).same hm hn⟩
theorem FdR.ext0 {F:Nat→Prop}{s s':St}{v:Value}{fs:List FdI}(h:FdR s v fs)(e:Ext F Non s s'):FdR s' v fs:=by
 refine⟨?_,fun p hp=>(h.bs p hp).ext0 e,h.byt⟩
 rcases h.row with h|⟨b,o,c,h0,h3⟩
 ·exact .inl h
 ·exact .inr ⟨b,o,c,h0,h3.ext0 e⟩
theorem FdR.len {s s':St}{v:Value}{fs:List FdI}(h:FdR s v fs)(Q:Value→St→Prop):W (Bi envS .len [75] [v]) s' Q=Q (.int .i64 (fs.length:Nat)) s':=by
 rcases h.row with⟨rfl,rfl⟩|⟨b,o,c,rfl,_⟩
 ·exact Ck SL Q
 ·exact Ck SL Q
theorem FdR.at {s:St}{v:Value}{fs:List FdI}(h:FdR s v fs){i:Nat}(hi:i<fs.length): ∃b o c,v= .slice (some ⟨b,o,none⟩) fs.length c∧Row s b (o+i*2) (fdC fs[i])∧Bs s fs[i].v fs[i].l∧Byt fs[i].l:=by
 have hm:=List.getElem_mem hi
 rcases h.row with⟨rfl,rfl⟩|⟨b,o,c,rfl,h3⟩
 ·simp at hi
 ·refine⟨b,o,c,rfl,fun j u e=> ?_,h.bs _ hm,h.byt _ hm⟩
  have hj:j<2:=(List.getElem?_eq_some_iff.1 e).1
  have:=h3 (i*2+j) u (by rw[Fo_ hi hj];exact e)
  rwa [show o+(i*2+j)=o+i*2+j by omega]at this
def IntR (s:St)(v:Value)(l:List Int):Prop:=(v= .slice none 0 0∧l=[])∨ ∃b o c,v= .slice (some ⟨b,o,none⟩) l.length c∧Row s b o (l.map (.int .i64))
theorem IntR.same {s s':St}{v:Value}{l:List Int}(h:IntR s v l)(hm:s'.mem=s.mem)(hn:s'.next=s.next):IntR s' v l:=by
 rcases h with h|⟨b,o,c,h0,h3⟩
 ·exact .inl h
 ·exact .inr ⟨b,o,c,h0,fun i v e=>(h3 i v e).same hm hn⟩
theorem IntR.ext0 {F:Nat→Prop}{s s':St}{v:Value}{l:List Int}(h:IntR s v l)(e:Ext F Non s s'):IntR s' v l:=by
 rcases h with h|⟨b,o,c,h0,h3⟩
 ·exact .inl h
 ·exact .inr ⟨b,o,c,h0,h3.ext0 e⟩
theorem IntR.len {s s':St}{v:Value}{l:List Int}(h:IntR s v l)(Q:Value→St→Prop):W (Bi envS .len [44] [v]) s' Q=Q (.int .i64 (l.length:Nat)) s':=by
 rcases h with⟨rfl,rfl⟩|⟨b,o,c,rfl,_⟩
 ·exact Ck O1 Q
 ·exact Ck O1 Q
abbrev KeyP:Type:=Int×Int×List HdI
structure MgO (s0 s:St)(os:List PkI)(sc:List Int)(vo vs:Value)(bo bs:Nat):Prop where
 mo:MkS s 3 os.length (pkCs os) vo bo
 ms:MkS s 1 sc.length (sc.map (.int .i64)) vs bs
 no:s0.next≤bo
 ns:s0.next≤bs
 dj: ∀x,MkF 3 os.length bo x→ ¬MkF 1 sc.length bs x
 hs: ∀o∈os,HiR s o.v o.hs∧(∀h∈o.hs,h.1.length=16)∧(∀x,HiF o.v x→s0.next≤x∧ ¬MkF 3 os.length bo x∧ ¬MkF 1 sc.length bs x)
theorem MgO.ext0 {F:Nat→Prop}{s0 s s':St}{os:List PkI}{sc:List Int}{vo vs:Value}{bo bs:Nat}(h:MgO s0 s os sc vo vs bo bs)(e:Ext F Non s s'):MgO s0 s' os sc vo vs bo bs:=
 ⟨h.mo.ext0 e,h.ms.ext0 e,h.no,h.ns,h.dj,fun o ho=>⟨(h.hs o ho).1.ext0 e,(h.hs o ho).2⟩⟩
theorem LJ {p:PkI}(h:oneCell p.v=true):(pkC p).all oneCell=true:=by
 unfold pkC
 simp[oneCell]at h ⊢
 exact h
end Go.Proofs.Ytofanlcjeohcjaa.Am
end
