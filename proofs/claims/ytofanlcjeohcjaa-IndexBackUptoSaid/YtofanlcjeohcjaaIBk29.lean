import Derived.Test.YtofanlcjeohcjaaIBk28
import Derived.Test.YtofanlcjeohcjaaIBk25
import Derived.Test.YtofanlcjeohcjaaIBk26
import Derived.Test.YtofanlcjeohcjaaIBk20
import Derived.Test.YtofanlcjeohcjaaIBk23
import Derived.Test.YtofanlcjeohcjaaIBk09
import Derived.Test.YtofanlcjeohcjaaIBk08
import Derived.Test.YtofanlcjeohcjaaRows
namespace Go.Proofs.Ytofanlcjeohcjaa.Am
open Go.RowKit
theorem AaN_:envS.orc.get 58=some (IP (.bool true)):=by kernel_rfl
theorem Aid_ {E:Env}{s:St}{t:Nat}{xo yo:Operand}{m:Nat}(Q:Value->St->Prop):W (Cl.get (aBin E .neq t xo yo) (.int .u32 (m:Nat)) (.int .u32 0)) s Q=Q (.bool (!decide (m=0))) s:=Bd (neqU .u32 rfl m 0 xo yo)
theorem Wk (l:List Nat):(gput l).take ((gput l).length-4)=l:=by
 rw[JF]
 unfold gput
 rw[show l.length+4-4=l.length by omega,List.take_left' rfl]
theorem Xr_ (l:List Nat):GOk (gput l):=⟨by rw[JF];omega,by rw[Wk]⟩
theorem Ov_ {n:Nat}{vl vb:Value}{ps:List PkI}{b:List Nat}{fr:Int}{mask:Nat}{s:St}(hb:s.lim<=s.next)(hl:PkR s vl ps)(hid: ∀p∈ps,∀h∈p.hs,Byt h.1)(hzp: ∀p∈ps,p.hs.length<=1048576)(hB:Bs s vb b)(hbb:Byt b)(hbz:b.length<=1048576)(hm:mask<4294967296)(hn:2000000000<=n):
  W (Ay envS (runF envS n) 13 [vl,vb, .int .i64 fr, .int .u32 (mask:Nat)]) s λu _=>u= .bool true:=by
 have hb0:(s.cxN cxN).lim<=(s.cxN cxN).next:=hb
 refine AdG_ λtm h0 h1 h2 h3=> ?_
 have hl0:PkR (s.cxN cxN) vl ps:=hl.same rfl rfl
 have hB0:Bs (s.cxN cxN) vb b:=hB.same rfl rfl
 refine Uf_.w rfl (by omega) ?_
 simp only[WH,Aa,W_mv,Ab]
 refine AeB_.w Ajp_ (by omega) ?_
 simp only[Yw,Ac,W_on,Aa,W_mv,Ab,Af,Ah]
 refine W.orc AaN_ (W.pure ?_)
 refine Afa_.w SW_ (by omega) ?_
 simp only[Xa,Ac,W_on,Aa,W_mv,Ab,aA,Ag,Af,Ae,Ah,Nat.reduceEqDiff,reduceCtorEq, ↓reduceIte,h0,h1]
 refine Adk_ (k:=520) (m:=300) hb0 hl0 hzp (by omega) (by omega) λs1 x1=> ?_
 have y1:Ext Any Non (s.cxN cxN) s1:=x1
 have short: ∀(n':Nat) (tm':T Value) (s':St) (td':List Item),20<=n'->skim 64 td'=FQ->s'.cx=cxN->T.get tm' 30=some (.bool true)->T.get tm' 9=some (.bool true)->
   W (runF envS n' ⟨13,EF,BB,tm',td', .run, .normal,none⟩) s' λp s1=>p.1= .bool true:=by
  intro n' tm' s' td' hn' hT' hc g30 g9
  refine W.cond (v:=true) hT' HI_ g30 (by omega) (λ_=> ?_) λh=>by cases h
  refine Xz_.w Od_ (by omega) ?_
  simp only[Ju_,Aa,W_mv,Ab,g9]
  exact aG (rs:=[8]) (vs:=[.bool true]) YE_ (.inl NR_) (by omega) MT Vy hc (by simp[aA]) rfl
 cases hbig:bigP ps 520 300 with
 |true=>
  simp only[Ai,As,Aa,Ai,As,Ak,Aq,Aj, ↓reduceIte]
  exact short _ _ s1 _ (by omega) Tq y1.cx (by simp[aA]) (by simp[aA])
 |false=>
  have hps:ps.length<=520:=by
   unfold bigP at hbig
   rw[Bool.or_eq_false_iff]at hbig
   have:=of_decide_eq_false hbig.1
   omega
  have htot:Bb ps<=300:=by
   unfold bigP at hbig
   rw[Bool.or_eq_false_iff]at hbig
   have:=of_decide_eq_false hbig.2
   rw[List.take_of_length_le (by omega)]at this
   omega
  have hz3: ∀p∈ps,p.hs.length<=300:=λp hp=>by
   obtain⟨i,hi⟩:=List.getElem?_of_mem hp
   obtain⟨k1,k2⟩:=List.getElem?_eq_some_iff.1 hi
   have:=Km k1
   rw[k2]at this
   omega
  simp only[Ai,An,W_oS,Aa,Ai,An,Ak,Al,Aj,reduceCtorEq, ↓reduceIte]
  rw[hB0.len' BE]
  try simp only[CT]
  by_cases hb3:3000<b.length
  ·have ed:decide ((3000:Int)<((b.length:Nat):Int))=true:=decide_eq_true (by omega)
   try simp only[ed]
   exact short _ _ s1 _ (by omega) Tq y1.cx (by simp[aA]) (by simp[aA])
  ·refine W.cond (v:=false) Tq HI_ (by simp[aA];omega) (by omega) (λh=>by cases h) λ_=> ?_
   refine Ye_.w QU_ (by omega) ?_
   simp only[EO_,Ac,W_oS,W_on,Aa,W_mv,Ab,aA,Ag,Af,Ae,Ah,reduceCtorEq, ↓reduceIte,h0]
   have hl1:=hl0.ext0 y1
   refine Eh_ (y1.bnd hb0) hl1 hid (by omega) (by omega) (by omega) (λhc s2 x2=> ?_) λhc s2 w x2 hw=> ?_
   ·have y2:=y1.then0 x2 hb0
    rw[BS (k:=0) rfl,BS (k:=1) rfl]
    refine BY_.w DX_ (by omega) ?_
    simp only[QH,Ac,W_oS,W_on,Aa,W_mv,Ab,aA,Ag,Af,Ae,Ah,reduceCtorEq, ↓reduceIte,h0]
    refine JC (y2.bnd hb0) (hl0.ext0 y2) (by omega) (by omega) (by omega) λs3 x3=> ?_
    have y3:=y2.then0 x3 hb0
    simp only[Co,decide_true,Bool.not_true]
    refine W.cond (v:=false) Am_ Xi (by simp[aA]) (by omega) (λh=>by cases h) λ_=> ?_
    refine Yq.w DG_ (by omega) ?_
    simp only[RW,Ac,W_oS,Aa,W_mv,Ab,aA,Nat.reduceEqDiff, ↓reduceIte,EU]
    refine W.cond (v:=false) Xk Hs_ (by simp[aA,hc]) (by omega) (λh=>by cases h) λ_=> ?_
    exact Ab_ (s0:=s.cxN cxN) hb0 rfl hB0 hbb (by omega) (λ_=>rfl) _ _ s3 _ (by omega) VN_ y3 (by simp[aA,h1]) (by simp[aA])
   ·have y2:=y1.then0 x2 hb0
    rw[BS (k:=0) rfl,BS (k:=1) rfl]
    obtain⟨c1,c2,c3,c4⟩:=Y0 hc hl.h16
    obtain⟨X,hX⟩: ∃X,gput (Cf (ps.map PkI.key))=X:=⟨_,rfl⟩
    rw[hX]at hw
    have hXg:GOk X:=by rw[<-hX];exact Xr_ _
    have hXt:X.take (X.length-4)=Cf (ps.map PkI.key):=by rw[<-hX];exact Wk _
    have hXl:X.length=(Cf (ps.map PkI.key)).length+4:=by rw[<-hX,JF]
    have hpos:1<=(Cf (ps.map PkI.key)).length:=by
     unfold Cf
     rw[List.length_append,ME]
     have:=(E6 (ps.map PkI.key).length).1
     omega
    have hXb:Byt X:=by
     rw[<-hX]
     refine Byt.gput λx hx=> ?_
     unfold Cf at hx
     rcases List.mem_append.1 hx with hx|hx
     ·exact Ga _ x hx
     ·exact SO ps hid x hx
    have hok:IxOk X (ps.map PkI.key):=⟨hXg,by
     rw[hXt]
     exact Aax_ (by rw[List.length_map];omega) λk hk=>by
      obtain⟨p,hp,rfl⟩:=List.mem_map.1 hk
      exact c3 p hp⟩
    obtain⟨nb,cw,ew,ew2,ew3,hown,hnb⟩:=hw
    have hn02:s.next<=nb:=by
     have:s.next<=s1.next:=y1.nxt
     omega
    have hbsX: ∀{s':St} {Z:List Nat},Z.length=X.length->AC s' nb 0 (u8l Z)->Bn s' w Z:=λhz hr=>⟨nb,0,cw,by rw[ew,hz],by rw[hz];exact ew2,ew3,hr.row⟩
    refine BY_.w DX_ (by omega) ?_
    simp only[QH,Ac,W_oS,W_on,Aa,W_mv,Ab,aA,Ag,Af,Ae,Ah,reduceCtorEq, ↓reduceIte,h0]
    refine JC (y2.bnd hb0) (hl0.ext0 y2) (by omega) (by omega) (by omega) λs3 x3=> ?_
    have y3:=y2.then0 x3 hb0
    rw[hc]
    simp only[Co,decide_true,Bool.not_true]
    refine W.cond (v:=false) Am_ Xi (by simp[aA]) (by omega) (λh=>by cases h) λ_=> ?_
    refine Yq.w DG_ (by omega) ?_
    simp only[RW,Ac,W_oS,Aa,W_mv,Ab,aA,Nat.reduceEqDiff, ↓reduceIte,EU]
    refine W.cond (v:=true) Xk Hs_ (by simp[aA]) (by omega) (λ_=> ?_) λh=>by cases h
    have hown3:AC s3 nb 0 (u8l X):=hown.ext0 x3
    refine Adw_.w AcO_ (by omega) ?_
    simp only[Yj,Ac,W_oS,W_on,Aa,W_mv,Ab,aA,Ag,Af,Ae,Ah,Nat.reduceEqDiff, ↓reduceIte]
    refine Lo (y3.bnd hb0) (hbsX rfl hown3).bs hXb (by omega) (by omega) (λos vo s4 hok4 hc4 x4 hr4 _ hol _=> ?_) λs4 hno _=>absurd hok (hno ps hc)
    have y4:=y3.then0 x4 hb0
    have hkeys:os.map PkI.key=ps.map PkI.key:=by
     have e1:=hok4.2
     rw[hok.2]at e1
     exact(Prod.mk.inj e1).1.symm
    have hosz: ∀p∈os,p.hs.length<=300:=λp hp=>by
     have:p.key∈ps.map PkI.key:=by rw[<-hkeys];exact List.mem_map_of_mem hp
     obtain⟨o,ho,e⟩:=List.mem_map.1 this
     obtain⟨_,_,e3⟩:=PkI.key_inj e
     rw[<-e3]
     exact hz3 o ho
    rw[BS (k:=0) rfl,BS (k:=1) rfl]
    refine AkZ_.w AdA_ (by omega) ?_
    simp only[YN,Ac,W_oS,W_on,Aa,W_mv,Ab,aA,Ag,Af,Ae,Ah,Ai,An,Ak,Al,Aj,Nat.reduceEqDiff,reduceCtorEq, ↓reduceIte,Co,h0,decide_true,Bool.not_true,Ai,An]
    refine Yx_ (N:=300) (y4.bnd hb0) hr4 (hl0.ext0 y4) hkeys hosz (by omega) (by omega) (by omega) λs5 x5=> ?_
    have y5:=y4.then0 x5 hb0
    simp only[W_oS,Aa,Ai,An,Ak,Al,Aj, ↓reduceIte,DW,Bool.not_true,Ai,An,Bool.false_eq_true]
    rw[ew,Cc BE,<-ew]
    have e5:decide (((X.length:Nat):Int)<5)=false:=decide_eq_false (by omega)
    simp only[Bg,e5]
    refine W.cond (v:=false) Lh_ Uy_ (by simp[aA]) (by omega) (λh=>by cases h) λ_=> ?_
    have hown5:AC s5 nb 0 (u8l X):=(hown3.ext0 x4).ext0 x5
    refine Aga_.w AhA_ (by omega) ?_
    simp only[ZP,Ac,W_oS,W_on,Aa,W_mv,Ab,aA,Ag,Af,Ae,Ah,Nat.reduceEqDiff, ↓reduceIte,h2]
    refine Jq_ (m:=4) (by omega) (by omega) (by omega) λr hr=> ?_
    refine W.cut (i:=0) (j:=r) (hbsX rfl hown5) BE rfl rfl (Nat.zero_le _) (by omega) λv6 hv6 _=> ?_
    have hl6:((X.take r).drop 0).length=r:=by rw[List.drop_zero,List.length_take];omega
    refine Lo (y5.bnd hb0) hv6.bs (λx hx=>hXb x (List.mem_of_mem_take (by rw[List.drop_zero]at hx;exact hx))) (by omega) (by omega) (λos' vo' s6 hok6 _ _ _ _ _ _=>absurd hok6.1.1 (by omega)) λs6 _ x6=> ?_
    have y6:=y5.then0 x6 hb0
    rw[BS (k:=0) rfl,BS (k:=1) rfl]
    refine Yg_.w Td_ (by omega) ?_
    simp only[Z5,Ac,W_oS,W_on,Aa,W_mv,Ab,aA,Ag,Af,Ae,Ah,Nat.reduceEqDiff, ↓reduceIte,h2]
    rw[ew,Cc BE,<-ew]
    rw[AkB_ (by omega)]
    have e31:wrap64 (((8*X.length:Nat):Int)-31)=((8*X.length-31:Nat):Int):=by
     rw[Bq (by omega) (by omega)];omega
    simp only[Ec,e31]
    have hbig8:8*X.length-31<=1000000\/1000000<8*X.length-31:=by omega
    have hXs:X.length<=60000:=by
     have h1:=S8 ps hl.h16
     have h2:=FG (ps.map PkI.key).length
     have h3:(Cf (ps.map PkI.key)).length=(numB (ps.map PkI.key).length).length+(CP (ps.map PkI.key)).length:=by unfold Cf;rw[List.length_append]
     omega
    refine Jq_ (m:=8*X.length-31) (by omega) (by omega) (by omega) λF0 hF=> ?_
    refine AfQ_.w Wh_ (by omega) ?_
    simp only[Hz_,Aa,W_mv,Ab]
    refine Aac_ (s0:=s.cxN cxN) (F0:=F0) (m:=mask) (nb:=nb) (c:=cw) (l:=X) (vb:=vb) (vl:=vl) hb0 hn02 (by omega) (by omega) hXb 32 0 _ _ s6 _ (by omega) (by omega) Aio_ y6 (hown5.ext0 x6) (by simp[aA,h1]) (by simp[aA]) (by simp[aA,h3]) (by simp[aA]) (by simp[aA,ew]) (by simp[aA]) (by simp[aA]) λn7 tm7 s7 td7 hn7 hT7 y7 hown7 g1 g3 g9 g10 g15=> ?_
    have hXl7:(CA X F0 mask 32).length=X.length:=GZ _ _ _ _
    refine Sc_.w hT7 (by omega) ?_
    simp only[ZT,Ac,W_oS,W_on,Aa,W_mv,Ab,Ag,Af,Ae,Ah,g10]
    rw[<-ew]
    have fin: ∀(n':Nat) (tm':T Value) (s8:St) (td':List Item) (e:Int),950000000<=n'->skim 64 td'=KJ->Ext Any Non (s.cxN cxN) s8->(mask≠0->e=4)->T.get tm' 1=some vb->T.get tm' 3=some (.int .u32 (mask:Nat))->T.get tm' 9=some (.bool true)->T.get tm' 15=some (.int .i64 4)->T.get tm' 18=some (.int .i64 e)->
      W (runF envS n' ⟨13,EF,BB,tm',td', .run, .normal,none⟩) s8 λp s1=>p.1= .bool true:=by
     intro n' tm' s8 td' e hn' hT' y8 he k1 k3 k9 k15 k18
     refine AfJ_.w hT' (by omega) ?_
     simp only[YM,Ac,W_oS,W_on,Aa,W_mv,Ab,Ai,An,Ak,Al,Aj,reduceCtorEq, ↓reduceIte,Co,k3,k15,k18,decide_true,Bool.not_true,Ai,An]
     rw[Aid_]
     have go: ∀(tm'':T Value) (td'':List Item) (n'':Nat),900000010<=n''->skim 64 td''=N1->T.get tm'' 117=some (.bool false)->T.get tm'' 1=some vb->T.get tm'' 9=some (.bool true)->
       W (runF envS n'' ⟨13,EF,BB,tm'',td'', .run, .normal,none⟩) s8 λp s1=>p.1= .bool true:=by
      intro tm'' td'' n'' hn'' hT'' z117 z1 z9
      refine W.cond (v:=false) hT'' RA_ z117 (by omega) (λh=>by cases h) λ_=> ?_
      exact Ab_ (s0:=s.cxN cxN) hb0 rfl hB0 hbb (by omega) (λ_=>rfl) _ _ s8 _ (by omega) Afr_ y8 z1 z9
     by_cases hm0:mask=0
     ·simp only[hm0,decide_true,Bool.not_true,Ai,Au,Aa,Ai,Au,Ak,Aq,Aj, ↓reduceIte,Bool.false_eq_true]
      exact go _ _ _ (by omega) Aw_ (by simp[aA]) (by simp[aA,k1]) (by simp[aA,k9])
     ·have hd:decide (mask=0)=false:=decide_eq_false hm0
      rw[he hm0]
      simp only[hd,Bool.not_false,Ai,Ap,W_oS,Aa,Ai,Ap,Ak,Al,Aj, ↓reduceIte,Co,decide_true,Bool.not_true]
      exact go _ _ _ (by omega) Aw_ (by simp[aA]) (by simp[aA,k1]) (by simp[aA,k9])
    refine Lo (y7.bnd hb0) (hbsX hXl7 hown7).bs (Gt hXb _ _ _) (by omega) (by omega) (λos' vo' s8 hok8 _ x8 _ _ _ _=> ?_) λs8 _ x8=> ?_
    ·rw[BS (k:=0) rfl,BS (k:=1) rfl]
     refine fin _ _ s8 _ 0 (by omega) ZL (y7.then0 x8 hb0) (λhm0=> ?_) (by simp[aA,g1]) (by simp[aA,g3]) (by simp[aA,g9]) (by simp[aA,g15]) (by simp[aA])
     exact absurd hok8.1 (XX_ hXb hXg hm hm0 (by omega))
    ·rw[BS (k:=0) rfl,BS (k:=1) rfl]
     exact fin _ _ s8 _ 4 (by omega) ZL (y7.then0 x8 hb0) (λ_=>rfl) (by simp[aA,g1]) (by simp[aA,g3]) (by simp[aA,g9]) (by simp[aA,g15]) (by simp[aA])
structure KeyOk (fs:List FdI)(k:KeyP):Prop where
 of: ∃f∈fs,k=(f.num,(f.l.length:Int),(KC_ f.l).1.map toI)
 hi:k.1<=999999
section
variable {vf:Value}{fs:List FdI}{Q:Value×FrameMode->St->Prop}{s0:St}
end
section
variable {vf vx vs w:Value}{fs:List FdI}{xs:List PkI}{sc:List Int}{Q:Value×FrameMode->St->Prop}{s0:St}
end
section
variable {vf vx:Value}{fs:List FdI}{xs:List PkI}{Q:Value×FrameMode->St->Prop}{s0:St}
end
section
variable {parts:List (Value×List Nat)}{b o c:Nat}
end
section
variable {parts:List (Value×List Nat)}{b o c:Nat}
end
open Go.RowKit Go.ChangeShapes Go.WideShapes
theorem AfL_:envS.P=Try.prog:=by kernel_rfl
theorem Ut_:Try.prog.underlying 22=some (.slice 5):=by kernel_rfl
theorem En_:Try.prog.underlying 5=some (.int .u8):=by kernel_rfl
theorem KH:Try.prog.underlying 3=some (.int .i64):=by kernel_rfl
theorem Bb_:Try.prog.cellsOf 5=1:=by kernel_rfl
theorem YL_ {H:Type}(d:DataW H):1<=Rows.uptoBulk d:=by
 unfold Rows.uptoBulk
 split<;>omega
theorem Hq_ {H:Type}: ∀l:List (DataW H),l.length<=Rows.uptoBulkAll l
 |[]=>Nat.zero_le _
 |d::l=>by
  unfold Rows.uptoBulkAll
  have:=YL_ d
  have:=Hq_ l
  rw[List.length_cons]
  omega
mutual
theorem Qe_ {H:Type}{N:Nat}: ∀d:DataW H,Rows.uptoBulk d<=N->lensOk N d
 | .lit (.string l),h=>by
  unfold Rows.uptoBulk at h
  unfold lensOk
  omega
 | .lit (.bool _),_=>by unfold lensOk;trivial
 | .lit (.int _ _),_=>by unfold lensOk;trivial
 | .lit (.float _ _),_=>by unfold lensOk;trivial
 | .lit .nil,_=>by unfold lensOk;trivial
 | .nil,_=>by unfold lensOk;trivial
 | .ptr _,_=>by unfold lensOk;trivial
 | .slice es sp,h=>by
  unfold Rows.uptoBulk at h
  have:=Hq_ es
  unfold lensOk
  exact⟨by omega,O6 es (by omega)⟩
 | .agg ps,h=>by
  unfold Rows.uptoBulk at h
  unfold lensOk
  exact O6 ps (by omega)
 | .iface _ _,_=>by unfold lensOk;trivial
 | .map _,_=>by unfold lensOk;trivial
 | .held _,_=>by unfold lensOk;trivial
theorem O6 {H:Type}{N:Nat}: ∀l:List (DataW H),Rows.uptoBulkAll l<=N->Fw N l
 |[],_=>by unfold Fw;trivial
 |d::l,h=>by
  unfold Rows.uptoBulkAll at h
  unfold Fw
  exact⟨Qe_ d (by omega),O6 l (by omega)⟩
end
theorem lens_small {H:Type}{ds:List (DataW H)}(h:Rows.uptoSmall H ds=true): ∀d∈ds,lensOk 1048576 d:=
 KA (O6 ds (of_decide_eq_true h))
def LO (P:Program)(t:TypeId)(l:List (TypeId×Nat)):Bool:=match P.underlying t with
 |some (.struct fs)=>decide (fs.toList.map (λx=>(x.type,x.offset))=l)
 |_=>false
theorem Bc.struct {P:Program}{N F:Nat}{s:St}{t:TypeId}{us:List Value}{l:List (TypeId×Nat)}(hb:LO P t l=true)(h:Bc P N s (F+1) t us):us.length=P.cellsOf t/\ ∀x∈l,Bc P N s F x.1 ((us.drop x.2).take (P.cellsOf x.1)):=by
 unfold LO at hb
 unfold Bc at h
 cases hu:P.underlying t with
 |none=>rw[hu]at hb;cases hb
 |some u=>
  rw[hu]at hb h
  cases u<;>try (cases hb;done)
  have e:=of_decide_eq_true hb
  refine⟨h.1,λx hx=> ?_⟩
  rw[<-e]at hx
  obtain⟨y,hy,rfl⟩:=List.mem_map.1 hx
  exact h.2 y hy
theorem Bc.int' {P:Program}{N F:Nat}{s:St}{t:TypeId}{k:IntKind}{us:List Value}(hu:P.underlying t=some (.int k))(h:Bc P N s (F+1) t us): ∃n,us=[.int k n]/\(Lit.int k n).wf=true:=by
 unfold Bc at h
 rw[hu]at h
 exact h
theorem AjR_ {P:Program}{N F:Nat}{s:St}{t e:TypeId}{us:List Value}(ht:P.underlying t=some (.slice e))(he:P.underlying e=some (.int .u8))(hc:P.cellsOf e=1)(h:Bc P N s (F+2) t us): ∃v l,us=[v]/\Bs s v l/\Byt l/\l.length<=N:=by
 obtain⟨v,es,rfl,hE,_,hN,ha⟩:=Bc.slice ht (by rw[hc];decide) h
 have h1: ∀i,i<es.length-> ∃n:Nat,n<256/\es[i]?=some [.int .u8 (n:Nat)]:=λi hi=>by
  obtain⟨_,hx⟩:=ha _ (List.getElem_mem hi)
  obtain⟨n,e1,e2⟩:=hx.int' he
  have h2:(0:Int)<=n/\n<=255:=by
   have e3:(decide ((0:Int)<=n)&&decide (n<=(255:Int)))=true:=e2
   rw[Bool.and_eq_true]at e3
   exact⟨of_decide_eq_true e3.1,of_decide_eq_true e3.2⟩
  exact⟨n.toNat,by omega,by rw[List.getElem?_eq_getElem hi,e1,Int.toNat_of_nonneg h2.1]⟩
 obtain⟨l,hl,hp⟩:=KL h1
 refine⟨v,l,rfl, ?_,λx hx=> ?_,by omega⟩
 ·rcases hE with⟨rfl,rfl⟩|⟨b,c,rfl,hc1,hc2,hr⟩
  ·exact .inl ⟨rfl,List.eq_nil_of_length_eq_zero hl⟩
  ·rw[hc]at hc2 hr
   refine .inr ⟨b,0,c,by rw[hl],by rw[hl];exact hc1,hc2,λi x e=> ?_⟩
   obtain⟨n,e1,rfl⟩: ∃n,l[i]?=some n/\Value.int .u8 (n:Nat)=x:=by
    rw[List.getElem?_map]at e
    exact Option.map_eq_some_iff.1 e
   have:=hr i _ (hp i n e1).2 0 _ rfl
   rw[Nat.mul_one]at this
   rw[Nat.zero_add]
   exact this
 ·obtain⟨i,hi⟩:=List.getElem?_of_mem hx
  exact(hp i x hi).1
theorem V6:Try.prog.cellsOf 3=1:=by kernel_rfl
attribute [local irreducible] Bc
theorem MY.one {P:Program}{N F:Nat}{s:St}{t:TypeId}{u:Value}(hb:aggT P t=false)(h:MY P N s F t u):Bc P N s F t [u]:=by
 obtain⟨us,h1,⟨h2,_⟩|⟨_,rfl⟩⟩:=h
 ·rw[hb]at h2;cases h2
 ·exact h1
theorem Bc.arrayB {P:Program}{N F n:Nat}{s:St}{t e:TypeId}{us:List Value}(hu:P.underlying t=some (.array n e))(h:Bc P N s (F+1) t us):us.length=P.cellsOf t/\ ∀i,i<n->Bc P N s F e ((us.drop (i*P.cellsOf e)).take (P.cellsOf e)):=by
 unfold Bc at h
 rw[hu]at h
 exact h
theorem Aag_:Try.prog.underlying 26=some (.array 16 5):=by kernel_rfl
theorem AT_:Try.prog.cellsOf 26=16:=by kernel_rfl
theorem Aet_:Try.prog.underlying 36=some (.slice 35):=by kernel_rfl
theorem AhE_:LO Try.prog 35 [(26,0),(3,16),(3,17)]=true:=by kernel_rfl
theorem P9:Try.prog.cellsOf 35=18:=by kernel_rfl
theorem Akm_:Try.prog.cellsOf 35<1024:=by rw[P9];decide
theorem Wu_:Try.prog.cellsOf 36=1:=by kernel_rfl
theorem AhH_:Try.prog.underlying 55=some (.slice 85):=by kernel_rfl
theorem WG_:LO Try.prog 85 [(3,0),(3,1),(36,2)]=true:=by kernel_rfl
theorem UJ:Try.prog.cellsOf 85=3:=by kernel_rfl
theorem RQ_:Try.prog.cellsOf 85<1024:=by rw[UJ];decide
theorem Sx_ {us:List Value}{l:List Nat}(hl:l.length=us.length)(h: ∀(i n:Nat),l[i]?=some n->us[i]?=some (Value.int .u8 (n:Nat))):us=u8l l:=by
 apply List.ext_getElem?
 intro i
 unfold u8l
 rw[List.getElem?_map]
 cases hq:l[i]? with
 |none=>
  have:=List.getElem?_eq_none_iff.1 hq
  rw[Option.map_none]
  exact List.getElem?_eq_none_iff.2 (by omega)
 |some n=>rw[h i n hq,Option.map_some]
theorem Ux_ {N F:Nat}{s:St}{us:List Value}(h:Bc Try.prog N s (F+2) 26 us): ∃id,us=u8l id/\id.length=16/\Byt id:=by
 obtain⟨h1,h2⟩:=h.arrayB Aag_
 rw[AT_]at h1
 rw[Bb_]at h2
 obtain⟨id,hl,hp⟩:=KL (n:=16) (p:=λi (x:Nat)=>us[i]?=some (Value.int .u8 (x:Nat))/\x<256) λi hi=>by
  obtain⟨n,e1,e2⟩:=(h2 i hi).int' En_
  have h3:(0:Int)<=n/\n<=255:=by
   have e3:(decide ((0:Int)<=n)&&decide (n<=(255:Int)))=true:=e2
   rw[Bool.and_eq_true]at e3
   exact⟨of_decide_eq_true e3.1,of_decide_eq_true e3.2⟩
  refine⟨n.toNat, ?_,by omega⟩
  rw[Nat.mul_one]at e1
  have:((us.drop i).take 1)[0]?=some (.int .u8 n):=by rw[e1];rfl
  rw[List.getElem?_take,if_pos (by decide),List.getElem?_drop,Nat.add_zero]at this
  rw[this,Int.toNat_of_nonneg h3.1]
 exact⟨id,Sx_ (by omega) λi n h=>(hp i n h).1,hl,λx hx=>by
  obtain⟨i,hi⟩:=List.getElem?_of_mem hx
  exact(hp i x hi).2⟩
theorem ZR {s:St}{b:Nat}: ∀(hs:List HdI) (o:Nat),(∀h∈hs,h.1.length=16)->(∀i h,hs[i]?=some h->Row s b (o+i*18) (A9 h))->Row s b o (BN hs)
 |[],_,_,_=>λi v e=>by simp[BN]at e
 |h::hs,o,h16,hr=>λi v e=>by
  have e':(A9 h++BN hs)[i]?=some v:=e
  have hl:(A9 h).length=18:=C6 (h16 h (by simp))
  rcases Nat.lt_or_ge i 18 with hi|hi
  ·rw[List.getElem?_append_left (by omega)]at e'
   have:=hr 0 h rfl i v e'
   rwa [Nat.zero_mul]at this
  ·rw[List.getElem?_append_right (by omega),hl]at e'
   have:=ZR hs (o+18) (λx hx=>h16 x (by simp[hx])) (λj g e1=>by
    have:=hr (j+1) g e1
    rwa [show o+(j+1)*18=o+18+j*18 by omega]at this) (i-18) v e'
   rwa [show o+18+(i-18)=o+i by omega]at this
theorem WJ {s:St}{b:Nat}: ∀(ps:List PkI) (o:Nat),(∀i p,ps[i]?=some p->Row s b (o+i*3) (pkC p))->Row s b o (pkCs ps)
 |[],_,_=>λi v e=>by simp[pkCs]at e
 |p::ps,o,hr=>λi v e=>by
  have e':(pkC p++pkCs ps)[i]?=some v:=e
  rcases Nat.lt_or_ge i 3 with hi|hi
  ·rw[List.getElem?_append_left (by exact hi)]at e'
   have:=hr 0 p rfl i v e'
   rwa [Nat.zero_mul]at this
  ·rw[List.getElem?_append_right (by exact hi)]at e'
   have:=WJ ps (o+3) (λj g e1=>by
    have:=hr (j+1) g e1
    rwa [show o+(j+1)*3=o+3+j*3 by omega]at this) (i-3) v e'
   rwa [show o+3+(i-3)=o+i by omega]at this
theorem AiI_ {N F:Nat}{s:St}{us:List Value}(h:Bc Try.prog N s (F+4) 36 us): ∃v hs,us=[v]/\HiR s v hs/\(∀h∈hs,h.1.length=16)/\hs.length<=N/\ ∀h∈hs,Byt h.1:=by
 obtain⟨v,es,rfl,hE,_,hN,ha⟩:=Bc.slice (P:=Try.prog) (F:=F+3) (t:=36) (e:=35) Aet_ Akm_ h
 rw[P9]at hE
 have h1: ∀i,i<es.length-> ∃g:HdI,es[i]?=some (A9 g)/\g.1.length=16/\Byt g.1:=λi hi=>by
  obtain⟨hx2,hx⟩:=ha _ (List.getElem_mem hi)
  rw[P9]at hx2
  obtain⟨_,hx⟩:=hx.struct AhE_
  have k1:=hx (26,0) (by simp)
  have k2:=hx (3,16) (by simp)
  have k3:=hx (3,17) (by simp)
  simp only[V6,AT_]at k1 k2 k3
  obtain⟨id,e1,hid,hbt⟩:=Ux_ k1
  obtain⟨a,e2,_⟩:=k2.int' KH
  obtain⟨z,e3,_⟩:=k3.int' KH
  refine⟨(id,a,z), ?_,hid,hbt⟩
  rw[List.getElem?_eq_getElem hi]
  generalize es[i]=x at e1 e2 e3 hx2
  congr 1
  rw[List.drop_zero]at e1
  have d1:x=x.take 16++x.drop 16:=(List.take_append_drop 16 x).symm
  have d2:x.drop 16=(x.drop 16).take 1++(x.drop 16).drop 1:=(List.take_append_drop 1 _).symm
  have d3:(x.drop 16).drop 1=(x.drop 17).take 1:=by
   rw[List.drop_drop]
   exact(List.take_of_length_le (by rw[List.length_drop];omega)).symm
  rw[d1,d2,d3,e1,e2,e3]
  rfl
 obtain⟨hs,hl,hp⟩:=KL h1
 have h16: ∀h∈hs,h.1.length=16:=λg hg=>by
  obtain⟨i,hi⟩:=List.getElem?_of_mem hg
  exact(hp i g hi).2.1
 refine⟨v,hs,rfl, ?_,h16,by omega,λg hg=>by
  obtain⟨i,hi⟩:=List.getElem?_of_mem hg
  exact(hp i g hi).2.2⟩
 rcases hE with⟨rfl,rfl⟩|⟨b,c,rfl,_,_,hr⟩
 ·exact .inl ⟨rfl,List.eq_nil_of_length_eq_zero hl⟩
 ·exact .inr ⟨b,0,c,by rw[hl],ZR hs 0 h16 λi g e=>by rw[Nat.zero_add];exact hr i _ (hp i g e).1⟩
theorem La_ {N F:Nat}{s:St}{us:List Value}(h:Bc Try.prog N s (F+6) 55 us): ∃v ps,us=[v]/\PkR s v ps/\ps.length<=N/\(∀p∈ps,p.hs.length<=N)/\ ∀p∈ps,∀h∈p.hs,Byt h.1:=by
 obtain⟨v,es,rfl,hE,_,hN,ha⟩:=Bc.slice (P:=Try.prog) (F:=F+5) (t:=55) (e:=85) AhH_ RQ_ h
 rw[UJ]at hE
 have h1: ∀i,i<es.length-> ∃p:PkI,es[i]?=some (pkC p)/\HiR s p.v p.hs/\(∀h∈p.hs,h.1.length=16)/\p.hs.length<=N/\ ∀h∈p.hs,Byt h.1:=λi hi=>by
  obtain⟨hx2,hx⟩:=ha _ (List.getElem_mem hi)
  rw[UJ]at hx2
  obtain⟨_,hx⟩:=hx.struct WG_
  have k1:=hx (3,0) (by simp)
  have k2:=hx (3,1) (by simp)
  have k3:=hx (36,2) (by simp)
  simp only[V6,Wu_]at k1 k2 k3
  obtain⟨n,e1,_⟩:=k1.int' KH
  obtain⟨z,e2,_⟩:=k2.int' KH
  obtain⟨w,hs,e3,g1,g2,g3,g4⟩:=AiI_ k3
  refine⟨⟨n,z,w,hs⟩, ?_,g1,g2,g3,g4⟩
  rw[List.getElem?_eq_getElem hi]
  generalize es[i]=x at e1 e2 e3 hx2
  match x,hx2,e1,e2,e3 with
  |[a,b,c],_,e1,e2,e3=>
   cases e1
   cases e2
   cases e3
   rfl
 obtain⟨ps,hl,hp⟩:=KL h1
 have hm: ∀p∈ps,HiR s p.v p.hs/\(∀h∈p.hs,h.1.length=16)/\p.hs.length<=N/\ ∀h∈p.hs,Byt h.1:=λp hq=>by
  obtain⟨i,hi⟩:=List.getElem?_of_mem hq
  exact(hp i p hi).2
 refine⟨v,ps,rfl,⟨?_,λp hq=>(hm p hq).1,λp hq=>(hm p hq).2.1⟩,by omega,λp hq=>(hm p hq).2.2.1,λp hq=>(hm p hq).2.2.2⟩
 rcases hE with⟨rfl,rfl⟩|⟨b,c,rfl,_,_,hr⟩
 ·exact .inl ⟨rfl,List.eq_nil_of_length_eq_zero hl⟩
 ·exact .inr ⟨b,0,c,by rw[hl],WJ ps 0 λi p e=>by rw[Nat.zero_add];exact hr i _ (hp i p e).1⟩
theorem Xs_:Try.prog.underlying 51=some (.int .u32):=by kernel_rfl
theorem XQ:Try.f13.params.toList=[55,22,3,51]:=by kernel_rfl
theorem ZV_:envS.orc.get 13=none:=by kernel_rfl
theorem Zk_:envS.ext.get 13=none:=by kernel_rfl
theorem Lo_:[55,22,3,51].all (DR Try.prog 8)=true:=by kernel_rfl
theorem Aaq_:aggT Try.prog 55=false:=by kernel_rfl
theorem Nd_:aggT Try.prog 22=false:=by kernel_rfl
theorem QI_:aggT Try.prog 3=false:=by kernel_rfl
theorem Ajy_:aggT Try.prog 51=false:=by kernel_rfl
set_option maxRecDepth 1000000 in
theorem walkBackI {H:Type}{enc:TypeId×Value->H}{w:World}{base:Nat}{args:Array Value}{ds:List (DataW H)}{ps:List MemPlace}(hN: ∀d∈ds,lensOk 1048576 d)(hA:DataW.TrodAll enc Try.prog w 0 (λ_=>true) true Try.f13.params.toList args.toList ds ps)
  (hv: ∀(j:Nat) t v,Try.f13.params[j]?=some t->args[j]?=some v->Value.okWide Try.prog w .any base t v):Calls Try.prog 13 args w λe w'=>e= .returned (.bool true)/\Below w.heap.size w w':=by
 have hv': ∀(j:Nat) t v,[55,22,3,51][j]?=some t->args.toList[j]?=some v->Value.okWide Try.prog w .any base t v:=λj t v e1 e2=>by
  rw[<-XQ]at e1
  rw[Array.getElem?_toList]at e1 e2
  exact hv j t v e1 e2
 rw[XQ]at hA
 have hE:envS.P=Try.prog:=AfL_
 have h:=Op_ (E:=envS) (fuel:=2000000001) (f:=13) (F:=8) (N:=1048576) (v:= .bool true) (ts:=[55,22,3,51]) Afl_ ZV_ Zk_ rfl (by rw[hE];exact hA) (by rw[hE];exact hv') (by rw[hE];exact Lo_) (.inr hN) (λm nx us hus hu=>by
  rw[hE]at hu
  match us,hus,hu with
  |[u0,u1,u2,u3],_,hu=>
   have k0:=(hu 0 _ u0 rfl rfl).one Aaq_
   have k1:=(hu 1 _ u1 rfl rfl).one Nd_
   have k2:=(hu 2 _ u2 rfl rfl).one QI_
   have k3:=(hu 3 _ u3 rfl rfl).one Ajy_
   obtain⟨v,ps,e0,hp,hpl,hpz,hpb⟩:=La_ (F:=2) k0
   obtain⟨vb,b,e1,hB,hby,hbz⟩:=AjR_ Ut_ En_ Bb_ k1
   obtain⟨y,e2,_⟩:=k2.int' KH
   obtain⟨z,e3,hz⟩:=k3.int' Xs_
   have h3:(0:Int)<=z/\z<=4294967295:=by
    have e4:(decide ((0:Int)<=z)&&decide (z<=(4294967295:Int)))=true:=hz
    rw[Bool.and_eq_true]at e4
    exact⟨of_decide_eq_true e4.1,of_decide_eq_true e4.2⟩
   obtain⟨zz,hzz⟩: ∃a:Nat,z=a:=⟨z.toNat,(Int.toNat_of_nonneg h3.1).symm⟩
   rw[hzz]at e3
   cases e0
   cases e1
   cases e2
   cases e3
   exact Ov_ (Nat.zero_le _) hp hpb hpz hB hby hbz (by omega) (by omega))
 rw[hE]at h
 exact h
end Go.Proofs.Ytofanlcjeohcjaa.Am
