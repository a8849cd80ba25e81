import Derived.Test.YtjfhmacppabehaaIDr20
import Derived.Test.YtjfhmacppabehaaIDr07
import Derived.Test.YtjfhmacppabehaaIDr06
import GoSem.ClaimWide
import Derived.Carry
import Derived.ChangeSame
namespace Go.Proofs.Ytjfhmacppabehaa.Am
open Go.RowKit
theorem Ev_:envS.orc.get 7=some (HR (.bool true)):=by kernel_rfl
section
variable {n:Nat}{s:St}{av bv:Value}{a b:List Nat}{bit:Int}
end
open Go.RowKit Go.ChangeShapes Go.WideShapes
theorem ER_:envS.P=Try.prog:=by kernel_rfl
theorem Fz_:Try.prog.underlying 26=some (.slice 5):=by kernel_rfl
theorem WI:Try.prog.underlying 5=some (.int .u8):=by kernel_rfl
theorem LW_:Try.prog.underlying 3=some (.int .i64):=by kernel_rfl
theorem MH_:Try.prog.cellsOf 5=1:=by kernel_rfl
theorem Bs.lt {s:St}{v:Value}{l:List Nat}(h:Bs s v l): ∀x,BsF v x→x<s.next:=by
 intro x hx
 rcases h with⟨rfl,_⟩|⟨b,o,c,rfl,_,_,h3⟩
 ·exact hx.elim
 ·have h1:b+o≤x:=hx.1
  have h2:x<b+o+l.length:=hx.2
  have hl:x-(b+o)<(u8l l).length:=by rw[Df];omega
  have:=(h3 (x-(b+o)) _ (List.getElem?_eq_getElem hl)).1
  omega
theorem ZV {P:Program}{N F:Nat}{s:St}{t e:TypeId}{us:List Value}(ht:P.underlying t=some (.slice e))(he:P.underlying e=some (.int .u8))(hc:P.cellsOf e=1)(h:A5 P N s (F+2) t us): ∃v l,us=[v]∧Bs s v l∧Byt l∧l.length≤N:=by
 obtain⟨v,es,rfl,hE,_,hN,ha⟩:=A5.slice ht (by rw[hc];decide) h
 have h1: ∀i,i<es.length→ ∃n:Nat,n<256∧es[i]?=some [.int .u8 (n:Nat)]:=fun i hi=>by
  obtain⟨_,hx⟩:=ha _ (List.getElem_mem hi)
  obtain⟨n,e1,e2⟩:=hx.int' he
  have h2:(0:Int)≤n∧n≤255:=by
   have e3:(decide ((0:Int)≤n)&&decide (n≤(255:Int)))=true:=e2
   rw[Bool.and_eq_true]at e3
   exact⟨of_decide_eq_true e3.1,of_decide_eq_true e3.2⟩
  exact⟨n.toNat,by omega,by rw[List.getElem?_eq_getElem hi,e1,Int.toNat_of_nonneg h2.1]⟩
 obtain⟨l,hl,hp⟩:=Ln h1
 refine⟨v,l,rfl, ?_,fun x hx=> ?_,by omega⟩
 ·rcases hE with⟨rfl,rfl⟩|⟨b,c,rfl,hc1,hc2,hr⟩
  ·exact .inl ⟨rfl,List.eq_nil_of_length_eq_zero hl⟩
  ·rw[hc]at hc2 hr
   refine .inr ⟨b,0,c,by rw[hl],by rw[hl];exact hc1,hc2,fun i x e=> ?_⟩
   obtain⟨n,e1,rfl⟩: ∃n,l[i]?=some n∧Value.int .u8 (n:Nat)=x:=by
    rw[List.getElem?_map]at e
    exact Option.map_eq_some_iff.1 e
   have:=hr i _ (hp i n e1).2 0 _ rfl
   rw[Nat.mul_one]at this
   rw[Nat.zero_add]
   exact this
 ·obtain⟨i,hi⟩:=List.getElem?_of_mem hx
  exact(hp i x hi).1
section
attribute [local irreducible] A5
theorem JW_:aggT Try.prog 3=false:=by kernel_rfl
end
theorem XY {fs:List FileS}{i:Nat}(h:i<fs.length):Bc (fs.drop i)=fs[i].sb.length+fs[i].lb.length+Bc (fs.drop (i+1)):=by
 unfold Bc
 rw[List.drop_eq_getElem_cons h]
 rfl
structure Rm2 (D M room:Nat)(fs:List FileS)(bN:Nat)(v:Value)(i:Nat)(s:St)(tm:T Value)(col:Nat→Nat)(mx:Nat)(st le:Int):Prop where
 cx:s.cx=cxN
 bd:s.lim≤s.next
 inv:DkI s col D M ⟨fs.drop i,mx,room,st,false,le,false⟩
 nr:NmR s v (fs.map FileS.name) bN
 nc: ∀x,MkF 1 (fs.map FileS.name).length bN x→1000≤col x
 t0:T.get tm 0=some (.int .i64 (room:Nat))
 t5:T.get tm 5=some (.bool true)
 t6:T.get tm 6=some (.pointer (some ⟨D,0,none⟩))
 t7:T.get tm 7=some (.int .i64 (Bc (fs.drop i):Nat))
 t11:T.get tm 11=some v
 t12:T.get tm 12=some (.int .i64 (i:Nat))
theorem FJ_ {s:St}{b room:Nat}(h:A7 s b 0 (rep room [.int .u8 0]))(hr:room≤3000):Bs s (.slice (some ⟨b,0,none⟩) room room) (List.replicate room 0):=by
 have hl:(List.replicate room (0:Nat)).length=room:=List.length_replicate
 have hc:room<capU:=Nat.lt_of_le_of_lt hr (by decide)
 refine .inr ⟨b,0,room,by rw[hl], ?_,NM hc,fun i u e=>(h i u ?_).at'⟩
 ·rw[hl,Nat.mod_eq_of_lt hc]
  exact Nat.le_refl _
 ·rw[Kh]
  unfold u8l at e
  rw[List.map_replicate]at e
  exact e
section
variable {D M room bN:Nat}{v:Value}{fs:List FileS}
theorem JC_ (hroom:room≤3000)(hl:fs.length≤20)(hus:Bc fs≤3000):
  ∀(m i n:Nat) (tm:T Value) (s:St) (td:List Item) (col:Nat→Nat) (mx:Nat) (st le:Int),i+m=fs.length→40*m+1000≤n→skim 64 td=FS→Bc (fs.drop i)≤3000→Rm2 D M room fs bN v i s tm col mx st le→
  W (runF envS n ⟨3,GB,Bk,tm,td, .run, .normal,none⟩) s fun p _=>p.1= .bool true:=by
 intro m
 induction m with
 |zero=>
  intro i n tm s td col mx st le hi hn hT hu hK
  have hnl:(fs.map FileS.name).length=fs.length:=by simp
  have he:fs.drop i=[]:=List.drop_eq_nil_of_le (by omega)
  have hI:=hK.inv
  have h7:=hK.t7
  rw[he]at hI h7
  refine Vb.w hT (by omega) ?_
  have e1:decide (((i:Nat):Int)<((fs.length:Nat):Int))=false:=decide_eq_false (by omega)
  simp only[Lx,Ad,W_oS,Aa,W_mv,Ab,Ak,Aj,Ai,BN,hK.t11,hK.t12,MkS.lenq hK.nr E5,hnl,e1]
  refine W.cond (v:=false) Wa QM (by simp[T.get_set]) (by omega) (fun h=>by cases h) fun _=> ?_
  refine KP_.w Jm_ (by omega) ?_
  have e2:((Bc ([]:List FileS):Nat):Int)=0:=rfl
  simp only[ON,Ad,W_oS,W_on,Aa,W_mv,Ab,T.get_set,Ak,Aj,Ai,Av,reduceIte,AP,AW,AQ,AS,AO,Nat.reduceEqDiff,reduceCtorEq, ↓reduceIte,DH,hK.t0,hK.t5,hK.t6,h7,e2,decide_true]
  refine W.mkSl Mw_ (Nat.le_refl _) (by omega) fun s2 n2 x2 o2=> ?_
  have hag: ∀x,x<s.next→paint col s.next 1000 x=col x:=fun x hx=>BJ hx
  have hnw: ∀x,s.next≤x→paint col s.next 1000 x=1000:=fun x hx=>Dx hx
  have hI2:=(hI.col hag).ext0 x2 (by simp)
  have b2:=x2.bnd hK.bd
  have hB:=FJ_ o2 hroom
  have hll:(List.replicate room (0:Nat)).length=room:=List.length_replicate
  generalize paint col s.next 1000=col2 at *
  try simp only[Ad,W_oS,W_on,Aa,W_mv,Ab,AV,T.get_set,Ak,Aj,A0,AZ,Ai,Av,reduceIte,AP,AW,A2,AY,AT,AQ,AS,AX,AO,AN,Nat.reduceEqDiff,reduceCtorEq, ↓reduceIte]
  refine P6 (a:=⟨#[122]⟩) (l:=List.replicate room 0) b2 hI2 (by simp) nm_z hB (fun x hx=>⟨hB.lt x hx,by
   have h1:s.next+0≤x:=hx.1
   rw[hnw x (by omega)];exact Nat.le_refl _⟩) (by rw[hll];show 0+room≤_;omega) (by omega) (fun h=>by cases h) (fun _ h=> ?_) (fun _ _ h=>by cases h.1) fun _ _ _ s3 col3 blk w wb A=> ?_
  ·have h':((room:Nat):Int)<((0+(List.replicate room 0).length:Nat):Int):=h
   rw[hll]at h'
   omega
  ·simp only[DH,decide_true]
   exact W.end' (rs:=[4]) (vs:=[.bool true]) Dq_ (.inl GP_) (by omega) Ih K4 (A.ext.cx.trans (x2.cx.trans hK.cx)) (by simp[T.get_set]) rfl
 |succ m ih=>
  intro i n tm s td col mx st le hi hn hT hu hK
  have hnl:(fs.map FileS.name).length=fs.length:=by simp
  have hil:i<fs.length:=by omega
  have hud:=XY hil
  have hI:=hK.inv
  rw[List.drop_eq_getElem_cons hil]at hI
  obtain⟨c,ev,ho⟩:=NmR.at hK.nr (i:=i) (by rw[hnl];exact hil)
  rw[hnl]at ev
  rw[List.getElem_map]at ho
  have hdl:(fs.drop (i+1)).length≤290:=by rw[List.length_drop];omega
  have hul:DkS.used ⟨fs[i]::fs.drop (i+1),mx,room,st,false,le,false⟩≤1000000:=by
   have:DkS.used ⟨fs[i]::fs.drop (i+1),mx,room,st,false,le,false⟩=fs[i].sb.length+fs[i].lb.length+Bc (fs.drop (i+1)):=rfl
   omega
  refine Vb.w hT (by omega) ?_
  have e1:decide (((i:Nat):Int)<((fs.length:Nat):Int))=true:=decide_eq_true (by omega)
  simp only[Lx,Ad,W_oS,Aa,W_mv,Ab,Ak,Aj,Ai,BN,hK.t11,hK.t12,MkS.lenq hK.nr E5,hnl,e1]
  refine W.cond (v:=true) Wa QM (by simp[T.get_set]) (by omega) (fun _=> ?_) fun h=>by cases h
  refine ZU.w XB (by omega) ?_
  simp only[Sm,Ad,W_oS,W_on,Aa,W_mv,Ab,T.get_set,Ak,Aj,Ai,Av,reduceIte,Nat.reduceEqDiff, ↓reduceIte,hK.t6,hK.t11,hK.t12,ev,CL E5 hil]
  refine W.load1 Dc ho.at' ?_
  have x1:=(Ext.refl (F:=Any) (G:=Non) s).thenRd hK.bd (bN+(0+i*1))
  have hI1:=hI.ext0 x1 (by show(fs.drop (i+1)).length+1≤300;omega)
  have b1:=x1.bnd hK.bd
  generalize s.rdN (bN+(0+i*1))=s1 at *
  try simp only[Ad,W_oS,W_on,Aa,W_mv,Ab,AV,T.get_set,Ak,Aj,A0,AZ,Ai,Av,reduceIte,AP,AW,A2,AY,AT,AQ,AS,AX,AO,AN,Nat.reduceEqDiff,reduceCtorEq, ↓reduceIte]
  refine HX_ (a:=fs[i].name) b1 hI1 (by show(fs.drop (i+1)).length+1≤300;omega) hul (by omega) (fun h=>by cases h) (fun _ h=>by rw[Ob]at h;cases h) fun _ j hj hjl s2 w x2 hw _=> ?_
  have hj0:j=0:=by
   have h':BL (fs[i]::fs.drop (i+1)) fs[i].name=some j:=hj
   rw[Ob]at h'
   cases h'
   rfl
  subst hj0
  have hw':Bs s2 w fs[i].all:=hw
  have hI2:=hI1.ext0 x2 (by show(fs.drop (i+1)).length+1≤300;omega)
  have b2:=x2.bnd b1
  have x12:=x1.on x2 hK.bd fun _ _ h=>h
  try simp only[Ad,W_oS,W_on,Aa,W_mv,Ab,AV,T.get_set,Ak,Aj,A0,AZ,Ai,Av,reduceIte,AP,AW,A2,AY,AT,AQ,AS,AX,AO,AN,Nat.reduceEqDiff,reduceCtorEq, ↓reduceIte]
  rw[Dz (k:=0) rfl]
  try simp only[Ad,W_oS,W_on,Aa,W_mv,Ab,AV,T.get_set,Ak,Aj,A0,AZ,Ai,Av,reduceIte,AP,AW,A2,AY,AT,AQ,AS,AX,AO,AN,Nat.reduceEqDiff,reduceCtorEq, ↓reduceIte]
  rw[Dz (k:=1) rfl]
  try simp only[Ad,W_oS,W_on,Aa,W_mv,Ab,AV,T.get_set,Ak,Aj,A0,AZ,Ai,Av,reduceIte,AP,AW,A2,AY,AT,AQ,AS,AX,AO,AN,Nat.reduceEqDiff,reduceCtorEq, ↓reduceIte]
  refine WK.w Bw_ (by omega) ?_
  simp only[Ul,Ad,W_oS,W_on,Aa,W_mv,Ab,T.get_set,Ak,Aj,Ai,Av,reduceIte,AP,AT,AQ,AS,AO,Nat.reduceEqDiff,reduceCtorEq, ↓reduceIte,Cd,hK.t6,hK.t11,hK.t12,ev,CL E5 hil,decide_true,Bool.not_true]
  refine W.load1 Dc (ho.ext0 x12).at' ?_
  have x3:=x12.thenRd hK.bd (bN+(0+i*1))
  have x3':=(Ext.refl (F:=Any) (G:=Non) s2).thenRd b2 (bN+(0+i*1))
  have hI3:=hI2.ext0 x3' (by show(fs.drop (i+1)).length+1≤300;omega)
  have hw3:=hw'.ext0 x3'
  have b3:=x3'.bnd b2
  generalize s2.rdN (bN+(0+i*1))=s3 at *
  try simp only[Ad,W_oS,W_on,Aa,W_mv,Ab,AV,T.get_set,Ak,Aj,A0,AZ,Ai,Av,reduceIte,AP,AW,A2,AY,AT,AQ,AS,AX,AO,AN,Nat.reduceEqDiff,reduceCtorEq, ↓reduceIte]
  refine ZY (a:=fs[i].name) b3 hI3 hdl (Ob _ _) (by omega) fun s4 col4 st4 hI4 hag4 x4=> ?_
  have b4:=x4.bnd b3
  have y4:Ext Any (fun x=>col x<1000) s s4:=(x3.gw hK.bd fun _ _ h=>h.elim).on x4 hK.bd fun y hy h=>h
  have hnr4:NmR s4 v (fs.map FileS.name) bN:=MkS.ext hK.nr y4 fun x hx g=>by have:=hK.nc x hx;omega
  have hnc4: ∀x,MkF 1 (fs.map FileS.name).length bN x→1000≤col4 x:=fun x hx=>by
   have h1:=hK.nc x hx
   rw[hag4 x (Nat.lt_of_lt_of_le (MkS.lt hK.nr x hx) x3.nxt) h1]
   exact h1
  simp only[Cd,decide_true,Bool.not_true]
  refine W.cond (v:=false) Ff_ ZB (by simp[T.get_set]) (by omega) (fun h=>by cases h) fun _=> ?_
  refine Yf.w FH_ (by omega) ?_
  have hal:fs[i].all.length=fs[i].sb.length+fs[i].lb.length:=List.length_append
  have es:wrap64 (((Bc (fs.drop i):Nat):Int)-((fs[i].all.length:Nat):Int))=((Bc (fs.drop (i+1)):Nat):Int):=by
   rw[hal,Cb (by omega) (by omega)];omega
  simp only[T7,Ad,W_oS,Aa,W_mv,Ab,T.get_set,Ak,Aj,Ai,reduceIte,Nat.reduceEqDiff, ↓reduceIte,Jo,hK.t7,Bs.lenq hw3 EB,es]
  refine JA_.w FE_ (by omega) ?_
  simp only[PY,Ad,W_oS,W_on,Aa,W_mv,Ab,T.get_set,Ak,Aj,Ai,Av,reduceIte,Nat.reduceEqDiff, ↓reduceIte,hK.t6]
  have hu4:DkS.used ⟨fs.drop (i+1),mx,room,st4,false,le,false⟩=Bc (fs.drop (i+1)):=rfl
  refine P7 b4 hI4 (by rw[hu4];omega) fun s5 m5 n5 x5=> ?_
  rw[hu4]
  simp only[Cd,decide_true,Bool.not_true]
  refine W.cond (v:=false) YP Gq_ (by simp[T.get_set]) (by omega) (fun h=>by cases h) fun _=> ?_
  refine FK_.w Ji_ (by omega) ?_
  have ei:wrap64 ((i:Nat)+1:Int)=((i+1:Nat):Int):=by
   rw[Cb (by omega) (by omega)];simp
  simp only[Rb,Ad,W_oS,Aa,W_mv,Ab,T.get_set,reduceIte,Nat.reduceEqDiff, ↓reduceIte,CP,hK.t12,ei]
  exact ih (i+1) _ _ _ _ col4 mx st4 le (by omega) (by omega) Au_ (by omega) ⟨x5.cx.trans (y4.cx.trans hK.cx),x5.bnd b4,hI4.ext0 x5 (by show(fs.drop (i+1)).length≤300;omega),MkS.ext0 hnr4 x5,hnc4,by simp[T.get_set,hK.t0],by simp[T.get_set,hK.t5],by simp[T.get_set,hK.t6],by simp[T.get_set],by simp[T.get_set,hK.t11,ev],by simp[T.get_set]⟩
end
section
variable {n:Nat}{s:St}{v:Value}{ps:List (Value×List Nat)}{rm:Int}
theorem CQ_ (hb:s.lim≤s.next)(hP:PaS s (fun _=>1000) v ps)(hn:12000≤n):W (As envS (runF envS n) 3 [.int .i64 rm,v]) s fun u _=>u= .bool true:=by
 have hb0:(s.cxN cxN).lim≤(s.cxN cxN).next:=hb
 have hP0:PaS (s.cxN cxN) (fun _=>1000) v ps:=hP.same rfl rfl
 refine GY_ fun tm t0 t1=> ?_
 refine WU.w rfl (by omega) ?_
 simp only[SV,Aa,W_mv,Ab]
 refine Kq_.w Ys (by omega) ?_
 simp only[Us,Ad,W_on,Aa,W_mv,Ab,Aj,Av]
 refine W.orc Ev_ (W.pure ?_)
 try simp only[Ad,W_oS,W_on,Aa,W_mv,Ab,AV,T.get_set,Ak,Aj,A0,AZ,Ai,Av,reduceIte,AP,AW,A2,AY,AT,AQ,AS,AX,AO,AN,Nat.reduceEqDiff,reduceCtorEq, ↓reduceIte]
 have done: ∀(n':Nat) (tm':T Value) (td':List Item) (s':St),100≤n'→skim 64 td'=Gs→s'.cx=cxN→T.get tm' 5=some (.bool true)→W (runF envS n' ⟨3,GB,Bk,tm',td', .run, .normal,none⟩) s' fun p s1=>p.1= .bool true:=by
  intro n' tm' td' s' hn' hT' hcx g5
  refine Ep_.w hT' (by omega) ?_
  simp only[Q7,Aa,W_mv,Ab,g5]
  exact W.end' (rs:=[4]) (vs:=[.bool true]) Yr (.inl Ml_) (by omega) Ih K4 hcx (by simp[T.get_set]) rfl
 refine Yz.w DM_ (by omega) ?_
 by_cases h1:20<ps.length
 ·have e1:decide ((20:Int)<((ps.length:Nat):Int))=true:=decide_eq_true (by omega)
  simp only[G6,Ad,W_oS,W_on,Aa,W_mv,Ab,T.get_set,Ak,Aj,Ai,reduceIte,AP,A2,AQ,AX,AO,Nat.reduceEqDiff,reduceCtorEq, ↓reduceIte,CU,t0,t1,PaS.len hP,e1]
  refine W.cond (v:=true) Ik Ko (by simp[T.get_set]) (by omega) (fun _=> ?_) fun h=>by cases h
  exact done _ _ _ _ (by omega) OJ rfl (by simp[T.get_set])
 have e1:decide ((20:Int)<((ps.length:Nat):Int))=false:=decide_eq_false (by omega)
 by_cases h2:rm<0
 ·have e2:decide (rm<0)=true:=decide_eq_true h2
  simp only[G6,Ad,W_oS,W_on,Aa,W_mv,Ab,T.get_set,Ak,Aj,Ai,reduceIte,AP,A2,AT,AQ,AS,AX,AO,Nat.reduceEqDiff,reduceCtorEq, ↓reduceIte,BN,CU,t0,t1,PaS.len hP,e1,e2]
  refine W.cond (v:=true) Ik Ko (by simp[T.get_set]) (by omega) (fun _=> ?_) fun h=>by cases h
  exact done _ _ _ _ (by omega) OJ rfl (by simp[T.get_set])
 have e2:decide (rm<0)=false:=decide_eq_false h2
 by_cases h3:3000<rm
 ·have e3:decide (3000<rm)=true:=decide_eq_true h3
  simp only[G6,Ad,W_oS,W_on,Aa,W_mv,Ab,T.get_set,Ak,Aj,Ai,reduceIte,AP,AT,AQ,AS,AO,Nat.reduceEqDiff,reduceCtorEq, ↓reduceIte,BN,CU,t0,t1,PaS.len hP,e1,e2,e3]
  refine W.cond (v:=true) Ik Ko (by simp[T.get_set]) (by omega) (fun _=> ?_) fun h=>by cases h
  exact done _ _ _ _ (by omega) OJ rfl (by simp[T.get_set])
 have e3:decide (3000<rm)=false:=decide_eq_false h3
 simp only[G6,Ad,W_oS,W_on,Aa,W_mv,Ab,T.get_set,Ak,Aj,Ai,reduceIte,AP,AT,AQ,AS,AO,Nat.reduceEqDiff,reduceCtorEq, ↓reduceIte,BN,CU,t0,t1,PaS.len hP,e1,e2,e3]
 obtain⟨room,rfl⟩: ∃r:Nat,rm=(r:Nat):=⟨rm.toNat,by omega⟩
 refine W.cond (v:=false) Ik Ko (by simp[T.get_set]) (by omega) (fun h=>by cases h) fun _=> ?_
 refine Zc.w HC_ (by omega) ?_
 simp only[S3,Ad,W_on,Aa,W_mv,Ab,T.get_set,Ak,Aj,Ai,Av,reduceIte,reduceCtorEq, ↓reduceIte,t0]
 refine Jd_ (room:=room) hb0 (by omega) (by omega) fun s1 x1 hI1=> ?_
 have ea:(s.cxN cxN).next=s.next:=rfl
 rw[ea]at hI1 ⊢
 have hP1:PaS s1 (newC s.next) v ps:=hP0.mv (x1.gw hb0 fun _ _ h=>h.elim) fun x hx=>by
  have hx':x<s.next:=hx
  unfold newC
  rw[if_pos hx']
 have b1:=x1.bnd hb0
 generalize newC s.next=col1 at *
 generalize s.next+1=D at *
 generalize s.next=M at *
 try simp only[Ad,W_oS,W_on,Aa,W_mv,Ab,AV,T.get_set,Ak,Aj,A0,AZ,Ai,Av,reduceIte,AP,AW,A2,AY,AT,AQ,AS,AX,AO,AN,Nat.reduceEqDiff,reduceCtorEq, ↓reduceIte]
 refine Hc_.w YT (by omega) ?_
 simp only[Vj,Ad,W_oS,Aa,W_mv,Ab,T.get_set,reduceIte, ↓reduceIte,Fp VC]
 refine W.cond (v:=false) Mq_ Fa_ (by simp[T.get_set]) (by omega) (fun h=>by cases h) fun _=> ?_
 refine Hk_.w ZW (by omega) ?_
 simp only[O8,Aa,W_mv,Ab]
 refine Jo_.w Zl (by omega) ?_
 simp only[SF,Aa,W_mv,Ab]
 refine BY_.w IL_ (by omega) ?_
 simp only[TF,Aa,W_mv,Ab]
 refine Ag_ (D:=D) (M:=M) (room:=room) (v:=v) (ps:=ps) (by omega) (by omega) (fun n2 tm2 s2 td2 col2 fs mx st le is hn2 hT2 hK=> ?_) ps.length 0 _ _ _ _ col1 [] 0 0 0 [] (by omega) (by omega) CW_ ⟨x1.cx,b1,hI1,rfl,List.Pairwise.nil,fun j hj=>absurd hj (by simp),Nat.zero_le _,hP1,by simp[T.get_set,t0],by simp[T.get_set,t1],by simp[T.get_set],by simp[T.get_set],by simp[T.get_set];rfl,by simp[T.get_set],by simp[T.get_set]⟩
 have hfl:fs.length=is.length:=by
  have:=congrArg List.length hK.nm
  simpa using this
 have hil:=Ij hK.inc hK.lt
 refine Ei_.w hT2 (by omega) ?_
 simp only[OL,Ad,W_on,Aa,W_mv,Ab,Ak,Aj,Ai,Av,hK.t6]
 have hNm:NmsOk (fs.map FileS.name):=by
  rw[hK.nm]
  exact Fq_ hK.inc (fun i hi=>by have:=hK.lt i hi;omega) (by omega)
 refine AV_ hK.bd hK.inv hNm (by show 10*fs.length+500≤_;omega) fun s3 w bN hbN hr x3=> ?_
 have hag: ∀x,x<s2.next→paint col2 s2.next 1000 x=col2 x:=fun x hx=>BJ hx
 have hnw: ∀x,s2.next≤x→paint col2 s2.next 1000 x=1000:=fun x hx=>Dx hx
 have hI3:=(hK.inv.col hag).ext0 x3 (by show fs.length≤300;omega)
 have hus:=hK.us
 try simp only[Ad,W_oS,W_on,Aa,W_mv,Ab,AV,T.get_set,Ak,Aj,A0,AZ,Ai,Av,reduceIte,AP,AW,A2,AY,AT,AQ,AS,AX,AO,AN,Nat.reduceEqDiff,reduceCtorEq, ↓reduceIte]
 refine YJ.w Wm (by omega) ?_
 simp only[Qs,Aa,W_mv,Ab]
 refine JC_ (D:=D) (M:=M) (room:=room) (bN:=bN) (v:=w) (fs:=fs) (by omega) (by omega) (by omega) fs.length 0 _ _ _ _ (paint col2 s2.next 1000) mx st le (by omega) (by omega) LH_ (by show Bc fs≤3000;omega) ⟨x3.cx.trans hK.cx,x3.bnd hK.bd,hI3,hr,fun x hx=>by rw[hnw x (by have:=hx.2.1;omega)];exact Nat.le_refl _,by simp[T.get_set,hK.t0],by simp[T.get_set,hK.t5],by simp[T.get_set,hK.t6],by simp[T.get_set,hK.t7],by simp[T.get_set],by simp[T.get_set]⟩
end
theorem Ym:Try.prog.underlying 22=some (.slice 26):=by kernel_rfl
theorem Tb:Try.prog.cellsOf 26=1:=by kernel_rfl
theorem HI_:Try.prog.cellsOf 26<1024:=by rw[Tb];decide
section
attribute [local irreducible] A5
theorem Kt_ {N F:Nat}{s:St}{us:List Value}(h:A5 Try.prog N s (F+4) 22 us): ∃v ps,us=[v]∧PaS s (fun _=>1000) v ps:=by
 obtain⟨v,es,rfl,hE,_,hN,ha⟩:=A5.slice (P:=Try.prog) (F:=F+3) (t:=22) (e:=26) Ym HI_ h
 rw[Tb]at hE
 have h1: ∀i,i<es.length→ ∃p:Value×List Nat,es[i]?=some [p.1]∧Bs s p.1 p.2:=fun i hi=>by
  obtain⟨hx2,hx⟩:=ha _ (List.getElem_mem hi)
  obtain⟨w,l,e1,k3,_,_⟩:=ZV (F:=F+1) Fz_ WI MH_ hx
  exact⟨(w,l),by rw[List.getElem?_eq_getElem hi,e1],k3⟩
 obtain⟨ps,hl,hp⟩:=Ln h1
 have hm: ∀p∈ps,Bs s p.1 p.2:=fun p hq=>by
  obtain⟨i,hi⟩:=List.getElem?_of_mem hq
  exact(hp i p hi).2
 refine⟨v,ps,rfl,⟨?_,fun p hq=>⟨hm p hq,(hm p hq).lt,fun _ _=>Nat.le_refl _⟩⟩⟩
 rcases hE with⟨rfl,rfl⟩|⟨b,c,rfl,_,_,hr⟩
 ·exact .inl ⟨rfl,List.eq_nil_of_length_eq_zero hl⟩
 ·have hrow:Row s b 0 (ps.map (·.1)):=fun i u e=>by
   rw[List.getElem?_map,Option.map_eq_some_iff]at e
   obtain⟨p,hpi,rfl⟩:=e
   have:=hr i _ (hp i p hpi).1 0 _ rfl
   rw[Nat.mul_one]at this
   rw[Nat.zero_add]
   exact this
  refine .inr ⟨b,0,c,by rw[hl],hrow,fun x hx=>⟨?_,Nat.le_refl _⟩⟩
  have h2:b+0≤x:=hx.1
  have h3:x<b+0+ps.length:=hx.2
  have hi:x-b<(ps.map (·.1)).length:=by rw[List.length_map];omega
  have:=(hrow (x-b) _ (List.getElem?_eq_getElem hi)).1
  omega
theorem PE:Try.f3.params.toList=[3,22]:=by kernel_rfl
theorem Hq_:envS.orc.get 3=none:=by kernel_rfl
theorem CH_:envS.ext.get 3=none:=by kernel_rfl
theorem Lz_:[3,22].all (CR Try.prog 6)=true:=by kernel_rfl
theorem LS_:aggT Try.prog 22=false:=by kernel_rfl
set_option maxRecDepth 1000000 in
theorem walkRoom {H:Type}{enc:TypeId×Value→H}{w:World}{base:Nat}{args:Array Value}{ds:List (DataW H)}{ps:List MemPlace}(hA:DataW.TrodAll enc Try.prog w 0 (fun _=>true) true Try.f3.params.toList args.toList ds ps)
  (hv: ∀(j:Nat) t v,Try.f3.params[j]?=some t→args[j]?=some v→Value.okWide Try.prog w .any base t v):Calls Try.prog 3 args w fun e w'=>e= .returned (.bool true)∧Below w.heap.size w w':=by
 have hv': ∀(j:Nat) t v,[3,22][j]?=some t→args.toList[j]?=some v→Value.okWide Try.prog w .any base t v:=fun j t v e1 e2=>by
  rw[←PE]at e1
  rw[Array.getElem?_toList]at e1 e2
  exact hv j t v e1 e2
 rw[PE]at hA
 have hE:envS.P=Try.prog:=ER_
 have h:=Hh_ (E:=envS) (fuel:=9000000) (f:=3) (F:=6) (N:=maxLen) (v:= .bool true) (ts:=[3,22]) Er_ Hq_ CH_ rfl (by rw[hE];exact hA) (by rw[hE];exact hv') (by rw[hE];exact Lz_) (.inl (Nat.le_refl _)) (fun m nx us hus hu=>by
  rw[hE]at hu
  match us,hus,hu with
  |[u0,u1],_,hu=>
   have k0:=(hu 0 _ u0 rfl rfl).one JW_
   have k1:=(hu 1 _ u1 rfl rfl).one LS_
   obtain⟨y,e0,_⟩:=k0.int' LW_
   obtain⟨v,qs,e1,hP⟩:=Kt_ (F:=2) k1
   cases e0
   cases e1
   exact CQ_ (Nat.zero_le _) hP (by omega))
 rw[hE]at h
 exact h
end
open Go.RowKit Go.ChangeShapes
noncomputable def zeroT (P:Program)(t:Nat):Value:=((P.info? t).bind (·.zero)).getD .nilFunc
section
variable {H:Type}{enc:TypeId×Value→H}{P:Program}{W W':World}
theorem below_all (hl:laidOutB P=true)(hb:Below W.heap.size W W'){sp:Nat→Bool}: ∀{ts:List TypeId} {vs:List Value} {ds:List (DataW H)} {ps:List MemPlace},(ts.all fun t=>P.readableRec t&&decide (t<P.types.size))=true→DataW.TrodAll enc P W 0 (fun _=>true) true ts vs ds ps→(∀x∈ps,x.block<W.heap.size)→(∀x∈ps,sp x.block=true)→
  DataW.TrodAll enc P W' 0 sp true ts vs ds ps
 |[],_,_,_,_,h,_,_=>by
  obtain⟨rfl,rfl,rfl⟩:=trodAll_nil h
  exact trodAll_mk0
 |t::ts,_,_,_,hr,h,hlt,hsp=>by
  obtain⟨v,vs,d,ds,p,q,rfl,rfl,rfl,h1,h2⟩:=trodAll_cons h
  rw[List.all_cons,Bool.and_eq_true,Bool.and_eq_true]at hr
  refine⟨p,q,WideElems.Trod_stays hl hr.1.1 (of_decide_eq_true hr.1.2) h1 (fun x hx=>hb.same (hlt x (List.mem_append_left _ hx))) (fun x hx=>hsp x (List.mem_append_left _ hx)), ?_,rfl⟩
  exact below_all hl hb hr.2 h2 (fun x hx=>hlt x (List.mem_append_right _ hx)) (fun x hx=>hsp x (List.mem_append_right _ hx))
end
end Go.Proofs.Ytjfhmacppabehaa.Am
