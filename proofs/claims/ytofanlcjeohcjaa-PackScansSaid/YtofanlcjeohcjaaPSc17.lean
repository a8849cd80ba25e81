import Derived.Test.YtofanlcjeohcjaaPSc16
import Derived.Test.YtofanlcjeohcjaaPSc14
import Derived.Test.YtofanlcjeohcjaaPSc07
import Derived.KernelRfl
import Derived.Test.YtofanlcjeohcjaaPSc08
noncomputable section
namespace Go.Proofs.Ytofanlcjeohcjaa.Am
open Go.RowKit
theorem Dig.ext {F G:Nat→Prop}{s s':St}{D:Nat}{d:DS}(h:Dig s D d)(e:Ext F G s s')(k: ∀x,In D 0 74 x→ ¬G x):Dig s' D d:=
 ⟨h.made.ext e (k _ ⟨by omega,by omega⟩),h.st.ext e fun i hi=>k _ ⟨by omega,by rw[D1]at hi;omega⟩,h.w.ext e fun i hi=>k _ ⟨by omega,by rw[A6,h.len]at hi;omega⟩,h.n.ext e (k _ ⟨by omega,by omega⟩),h.len,h.byt,h.ok⟩
theorem A3.ext1 {F G:Nat→Prop}{s s':St}{b o n:Nat}(h:A3 s b o n)(e:Ext F G s s')(k: ∀x,In b o n x→ ¬G x):A3 s' b o n:=fun j hj=>let ⟨u,hu⟩:=h j hj;⟨u,hu.ext e (k _ ⟨by omega,by omega⟩)⟩
theorem LI_ {E:Env}{t:Nat}{s:St}{sz b o n c:Nat}(h:slN E t=some sz)(hk:0<n)(Q:Value→St→Prop):W (AH E t (.slice (some ⟨b,o,none⟩) n c) (.int .i64 0)) s Q=Q (.pointer (some ⟨b,o+0*sz,none⟩)) s:=CS (k:=0) h hk Q
abbrev MidF (D O2:Nat):Nat→Prop:=fun x=>In D 0 74 x∨O2≤x
theorem Acq_ {D C O2 O3 n:Nat}{d:DS}{tm:T Value}{td:List Item}{s:St}{Q:Value×FrameMode→St→Prop}(hb:s.lim≤s.next)(hcx:s.cx= .cx none (some []))(hmax:d.n≤900000000)(hD2:D+74≤O2)(h23:O2+32≤O3)(h3C:O3+32≤C)(hCn:C+74≤s.next)(hd:Dig s D d)(hc:Dig s C d)(ho3:A3 s O3 0 32)(ho2:A3 s O2 0 32)(hn:2000≤n)(hT:skim 64 td=Mf)
  (h0:T.get tm 0=some (.pointer (some ⟨D,0,none⟩))) (h2:T.get tm 2=some (.pointer (some ⟨O2,0,none⟩))) (h3:T.get tm 3=some (.pointer (some ⟨O3,0,none⟩))) (h4:T.get tm 4=some (.pointer (some ⟨C,0,none⟩)))
  (q: ∀s1,Ext (MidF D O2) (fun x=>O2≤x) s s1→Q (.agg (u8l d.sum).toArray, .run) s1):W (runF envS n ⟨112,Gu,B8,tm,td, .run, .normal,none⟩) s Q:=by
 refine Np_.w hT (by omega) ?_
 simp -implicitDefEqProofs only[Cj_,Ad,W_oS,Aa,W_mv,Ac,Bg,h0,BW KK (by decide:0<1)]
 refine W.load1 HZ hd.n.at' ?_
 have hxa:Ext (MidF D O2) (fun x=>O2≤x) s (s.rdN (D+(0+73))):=Ext.rdN (F:=MidF D O2) s _ fun _=> .inl ⟨by omega,by omega⟩
 have hda:Dig (s.rdN (D+(0+73))) D d:=hd.same rfl rfl
 have hca:Dig (s.rdN (D+(0+73))) C d:=hc.same rfl rfl
 have ho3a:A3 (s.rdN (D+(0+73))) O3 0 32:=fun j hj=>let ⟨u,h⟩:=ho3 j hj;⟨u,h.same rfl rfl⟩
 have ho2a:A3 (s.rdN (D+(0+73))) O2 0 32:=fun j hj=>let ⟨u,h⟩:=ho2 j hj;⟨u,h.same rfl rfl⟩
 have na:(s.rdN (D+(0+73))).next=s.next:=rfl
 generalize s.rdN (D+(0+73))=sa at hxa hda hca ho3a ho2a na ⊢
 have hm:d.n%64<64:=Nat.mod_lt _ (by decide)
 have e1:wrap64 (119-((d.n%64:Nat):Int))=((119-d.n%64:Nat):Int):=by
  rw[AP (by omega) (by omega)];omega
 have e2:wrap64 (1+(((119-d.n%64)%64:Nat):Int))=((d.pad0.length:Nat):Int):=by
  rw[AP (by omega) (by omega),DS.pad0_len];omega
 have hp0:d.pad0.length≤64:=by rw[DS.pad0_len];omega
 simp -implicitDefEqProofs only[By,Cm,Jp,e1,e2]
 have hba:sa.lim≤sa.next:=hxa.bnd hb
 refine W.mkSl (c:=80) CU (by omega) (by decide) fun sb nb xb ob=> ?_
 have hrl:(rep 80 [Value.int .u8 0]).length=80:=by rw[GA];simp
 have hnew:s.next≤sa.next:=hxa.nxt
 have hxb:Ext (MidF D O2) (fun x=>O2≤x) s sb:=hxa.trans xb hb (fun _ _ h=>h.elim) fun _ _ h=>h.elim
 have hdb:Dig sb D d:=hda.ext0 xb
 have hcb:Dig sb C d:=hca.ext0 xb
 have ho3b:A3 sb O3 0 32:=ho3a.ext1 xb fun _ _ h=>h
 have ho2b:A3 sb O2 0 32:=ho2a.ext1 xb fun _ _ h=>h
 have hob:A3 sb sa.next 0 80:=by
  have:=Ae.owned ob
  rw[hrl]at this
  exact this
 have hzb:Ae sb sa.next 0 (List.replicate 80 (.int .u8 0)):=by rw[←GA];exact ob
 clear ob xb hda hca ho3a ho2a
 refine Qv_.w rfl (by omega) ?_
 simp -implicitDefEqProofs only[Vg,Ad,W_oS,Aa,W_mv,T.get_set,reduceIte, ↓reduceIte,LI_ AE (show 0<d.pad0.length by rw[DS.pad0_len];omega)]
 obtain⟨u0,hu0⟩:=hob 0 (by omega)
 refine W.store1 CG rfl hu0 fun sc nc xc oc=> ?_
 have sub: ∀x,In sa.next (0+0*1) 1 x→In sa.next 0 80 x:=fun x h=>⟨by have:=h.1;omega,by have:=h.2;omega⟩
 have up: ∀x,In sa.next 0 80 x→O2≤x:=fun x h=>by have:=h.1;omega
 have nod: ∀b m x,b+m≤s.next→In b 0 m x→ ¬In sa.next 0 80 x:=fun b m x hbm h h'=>by
  have g1:=h.2
  have g2:=h'.1
  omega
 have hxc:Ext (MidF D O2) (fun x=>O2≤x) s sc:=hxb.trans xc hb (fun x _ h=> .inr (up x (sub x h))) fun x _ h=>up x (sub x h)
 have hdc:Dig sc D d:=hdb.ext xc fun x h h'=>nod D 74 x (by omega) h (sub x h')
 have hcc:Dig sc C d:=hcb.ext xc fun x h h'=>nod C 74 x (by omega) h (sub x h')
 have ho3c:A3 sc O3 0 32:=ho3b.ext1 xc fun x h h'=>nod O3 32 x (by omega) h (sub x h')
 have ho2c:A3 sc O2 0 32:=ho2b.ext1 xc fun x h h'=>nod O2 32 x (by omega) h (sub x h')
 have hwc:A3 sc sa.next 0 80:=hob.ext (l:=[.int .u8 128]) xc (Ae.cons oc .nil)
 have hpc:Ae sc sa.next 0 (u8l d.pad0):=by
  have e:u8l d.pad0= .int .u8 128::List.replicate ((119-d.n%64)%64) (.int .u8 0):=by
   unfold DS.pad0 u8l
   rw[List.map_cons,List.map_replicate]
   rfl
  rw[e]
  refine Ae.cons oc fun i v hi=> ?_
  rw[List.getElem?_replicate]at hi
  split at hi
  ·rename_i hlt
   cases hi
   have:=hzb (1+i) (.int .u8 0) (by rw[List.getElem?_replicate,if_pos (by omega)])
   rw[←Nat.add_assoc]at this
   refine this.ext xc fun h=> ?_
   have:=h.2
   omega
  ·cases hi
 clear hob hzb hu0 oc
 have hbc:sc.lim≤sc.next:=hxc.bnd hb
 have hBn:sa.next+80≤sc.next:=by
  have h1:sb.next=sa.next+(rep 80 [Value.int .u8 0]).length+1:=nb
  omega
 refine Mn_.w rfl (by omega) ?_
 simp -implicitDefEqProofs only[UP,Aa,W_mv,Ac]
 refine QD_ (d:=d) (a2:= .pointer (some ⟨O2,0,none⟩)) (a3:= .pointer (some ⟨O3,0,none⟩)) (a4:= .pointer (some ⟨C,0,none⟩)) (by omega) hbc (.inl (show D+74≤sa.next by omega)) hBn 8 _ _ sc _ d.pad0 (Nat.le_refl _) (by omega) rfl (Ext.refl sc) hdc hpc hwc (by omega) (by simp[T.get_set,h0]) (by simp[T.get_set,h2]) (by simp[T.get_set,h3]) (by simp[T.get_set,h4]) (by simp[T.get_set]) (by simp[T.get_set]) fun n' tm' sd td' f1 f2 xd hdd hpd t0 t2 t3 t4 t5=> ?_
 have hxd:Ext (MidF D O2) (fun x=>O2≤x) s sd:=hxc.trans xd hb (fun x _ h=>by
  rcases h with h|h
  ·exact .inl h
  ·exact .inr (up x h)) fun x _ h=>up x h
 have hcd:Dig sd C d:=hcc.ext xd fun x h h'=>nod C 74 x (by omega) h h'
 have ho3d:A3 sd O3 0 32:=ho3c.ext1 xd fun x h h'=>nod O3 32 x (by omega) h h'
 have ho2d:A3 sd O2 0 32:=ho2c.ext1 xd fun x h h'=>nod O2 32 x (by omega) h h'
 have hpl:d.pad.length=d.pad0.length+8:=by unfold DS.pad;rw[List.length_append,O1]
 rw[←hpl]at t5
 have hpd':Ae sd sa.next 0 (u8l d.pad):=hpd
 have hbn:Bn sd (.slice (some ⟨sa.next,0,none⟩) d.pad.length 80) d.pad:=⟨sa.next,0,80,rfl,by rw[Nat.mod_eq_of_lt (Bh (by decide))];omega,DX (Bh (by decide)),hpd'.row⟩
 have hbd:sd.lim≤sd.next:=hxd.bnd hb
 refine NC_.w f2 (by omega) ?_
 simp -implicitDefEqProofs only[X0,Ad,W_on,Aa,W_mv,Ah,Ag,Af,Ar,t4,t5]
 refine TH hbd (fun x h h'=>nod C 74 x (by omega) h' ⟨h.1,by have:=h.2;omega⟩) hcd (by omega) (fun _=>hbn) hbn.bs d.pad_byt (by omega) fun se xe he=> ?_
 have hxe:Ext (MidF D O2) (fun x=>O2≤x) s se:=hxd.trans xe hb (fun x _ h=>by
  rcases h with h|h
  ·exact .inr (by have:=h.1;omega)
  ·exact .inr (up x ⟨h.1,by have:=h.2;omega⟩)) fun x _ h=>by have:=h.1;omega
 have ho3e:A3 se O3 0 32:=ho3d.ext1 xe fun x h h'=>by have:=h.2;have:=h'.1;omega
 have ho2e:A3 se O2 0 32:=ho2d.ext1 xe fun x h h'=>by have:=h.2;have:=h'.1;omega
 have hbe:se.lim≤se.next:=hxe.bnd hb
 refine Zm_ (C:=C) hbe (hxe.cx.trans hcx) h23 he ho3e ho2e (by omega) rfl t2 t3 t4 fun sf xf=>q sf (hxe.trans xf hb (fun x _ h=> ?_) fun x _ h=> ?_)
 ·rcases h with h|h|h
  ·exact .inr (by have:=h.1;omega)
  ·exact .inr (by have:=h.1;omega)
  ·exact .inr (by have:=h.1;omega)
 ·rcases h with h|h
  ·have:=h.1;omega
  ·have:=h.1;omega
theorem Qo_ {D n:Nat}{d:DS}{s:St}{Q:Value→St→Prop}(hbd:s.lim≤s.next)(hd:Dig s D d)(hmax:d.n≤900000000)(hn:2500≤n)
  (q: ∀s1,Ext (In D 0 74) Non s s1→Q (.agg (u8l d.sum).toArray) s1):W (Ai envS (runF envS n) 112 [.pointer (some ⟨D,0,none⟩)]) s Q:=by
 refine KK_ fun tm h0=> ?_
 have hD:D+73<s.next:=by have:=hd.n.1;omega
 have hd0:Dig (s.cxN cxN) D d:=hd.same rfl rfl
 refine AbJ_.w rfl (by omega) ?_
 simp -implicitDefEqProofs only[Hf_,Ad,Aa,Ac]
 refine W.alloc Fq fun sa na xa oa=> ?_
 have na':sa.next=s.next+33:=na
 have hxa:Ext (In D 0 74) Non (s.cxN cxN) sa:=(Ext.refl _).step xa hbd (fun _ _ h=>h.elim) fun _ h=>h.elim
 refine IP_.w rfl (by omega) ?_
 simp -implicitDefEqProofs only[Ca_,Ad,Aa,Ac]
 refine W.alloc Fq fun sb nb xb ob=> ?_
 have nb':sb.next=sa.next+33:=nb
 have hxb:Ext (In D 0 74) Non (s.cxN cxN) sb:=hxa.step xb hbd (fun _ _ h=>h.elim) fun _ h=>h.elim
 have hdb:Dig sb D d:=hd0.ext0 hxb
 have ho2:A3 sb s.next 0 32:=(Ae.owned oa).ext1 xb fun _ _ h=>h
 have ho3:A3 sb sa.next 0 32:=Ae.owned ob
 refine Vl_.w rfl (by omega) ?_
 simp -implicitDefEqProofs only[UD,Ad,W_oS,W_on,Aa,W_mv,Ac,T.get_set,reduceIte,Ax,A5,A9,Bb,AA,Bg,reduceCtorEq, ↓reduceIte,h0,CE_ Ua,BW Ea_ (by decide:0<1)]
 refine W.load1 QY hdb.made.at' ?_
 simp -implicitDefEqProofs only[CJ]
 have hxc:Ext (In D 0 74) Non (s.cxN cxN) (sb.rdN (D+(0+0))):=hxb.step (Ext.rdN (F:=In D 0 74) (G:=Non) sb _ fun _=>⟨by omega,by omega⟩) hbd (fun _ _ h=>h) fun _ h=>h.elim
 have hdc:Dig (sb.rdN (D+(0+0))) D d:=hdb.same rfl rfl
 have ho2c:A3 (sb.rdN (D+(0+0))) s.next 0 32:=fun j hj=>let ⟨u,h⟩:=ho2 j hj;⟨u,h.same rfl rfl⟩
 have ho3c:A3 (sb.rdN (D+(0+0))) sa.next 0 32:=fun j hj=>let ⟨u,h⟩:=ho3 j hj;⟨u,h.same rfl rfl⟩
 have nc:(sb.rdN (D+(0+0))).next=sb.next:=rfl
 refine W.cond (v:=false) rfl Lf_ (by simp[T.get_set]) (by omega) (fun h=>by cases h) fun _=> ?_
 generalize sb.rdN (D+(0+0))=sc at hxc hdc ho2c ho3c nc ⊢
 refine YW_.w rfl (by omega) ?_
 simp -implicitDefEqProofs only[ET_,Ad,W_oS,Aa,W_mv,Ac,T.get_set,reduceIte,Bg,reduceCtorEq, ↓reduceIte,h0]
 refine W.loadA SO hdc.toRow.row (d.row_len hd.len) fun sd md nd xd=> ?_
 have hxd:Ext (In D 0 74) Non (s.cxN cxN) sd:=hxc.step xd hbd (fun _ _ h=>h) fun _ h=>h.elim
 refine W.alloc QR_ fun se ne xe oe=> ?_
 have ne':se.next=sd.next+75:=ne
 have hxe:Ext (In D 0 74) Non (s.cxN cxN) se:=hxd.step xe hbd (fun _ _ h=>h.elim) fun _ h=>h.elim
 have hnd:sd.next=sc.next:=nd
 refine W.store SO (d.row_len hd.len) d.row_one (fun i hi=>oe.owned i (by simp;omega)) fun sf nf xf of=> ?_
 have hnf:sf.next=se.next:=nf
 have hG: ∀x,In sd.next 0 74 x→s.next≤x:=fun x h=>by have:=h.1;omega
 have hxf:Ext (In D 0 74) Non (s.cxN cxN) sf:=hxe.step xf hbd (fun x hx h=>by
  have h1:=hG x h
  have h2:x<s.lim:=hx
  omega) fun x h=>hG x h
 have hbf:sf.lim≤sf.next:=hxf.bnd hbd
 have hcf:Dig sf sd.next d:=Dig.ofRow of hd.len hd.byt hd.ok
 have hdf:Dig sf D d:=hd0.ext0 hxf
 have ho2f:A3 sf s.next 0 32:=((ho2c.ext1 xd fun _ _ h=>h).ext1 xe fun _ _ h=>h).ext1 xf fun x h h'=>by
  have:=h.2
  have:=h'.1
  omega
 have ho3f:A3 sf sa.next 0 32:=((ho3c.ext1 xd fun _ _ h=>h).ext1 xe fun _ _ h=>h).ext1 xf fun x h h'=>by
  have:=h.2
  have:=h'.1
  omega
 refine Acq_ (D:=D) (C:=sd.next) (O2:=s.next) (O3:=sa.next) (d:=d) hbf hxf.cx hmax (by omega) (by omega) (by omega) (by omega) hdf hcf ho3f ho2f (by omega) rfl (by simp[T.get_set,h0]) (by simp[T.get_set]) (by simp[T.get_set]) (by simp[T.get_set]) fun sg xg=> ?_
 have hxg:Ext (In D 0 74) Non (s.cxN cxN) sg:=hxf.step xg hbd (fun x hx h=>by
  have h2:x<s.lim:=hx
  rcases h with h|h
  ·exact h
  ·omega) fun x h=>h
 exact q _ hxg.cx'
theorem DS.write_n: ∀(f:Nat) (d:DS) (b:List Nat),b.length≤f→(DS.write f d b).n=d.n+b.length
 |0,d,b,h=>by
  have:b.length=0:=by omega
  unfold DS.write
  omega
 |f+1,d,b,h=>by
  unfold DS.write
  by_cases hb:b.length=0
  ·rw[if_pos hb];omega
  ·rw[if_neg hb]
   obtain⟨hk1,hk2⟩:=d.k_le b
   have hm:d.n%64<64:=Nat.mod_lt _ (by decide)
   have hk0:0<d.k b:=by
    unfold DS.k
    exact Nat.lt_min.2 ⟨by omega,by omega⟩
   rw[DS.write_n f _ _ (by rw[List.length_drop];omega),List.length_drop]
   show d.n+d.k b+(b.length-d.k b)=_
   omega
def sumB (b:List Nat):List Nat:=(DS.write b.length DS.new b).sum
theorem FQ (b:List Nat):(sumB b).length=32:=DS.sum_len _
theorem Bs.bn' {s:St}{v:Value}{b:List Nat}(h:Bs s v b)(hb:b≠[]):Bn s v b:=by
 rcases h with⟨_,h⟩|h
 ·exact absurd h hb
 ·exact h
theorem Xv_ {n:Nat}{v:Value}{b:List Nat}{s:St}{Q:Value→St→Prop}(hbd:s.lim≤s.next)(hbs:Bs s v b)(hlt: ∀x,BsF v x→x<s.next)(hby:Byt b)(hmax:b.length≤900000)(hn:20*b.length+2600≤n)
  (q: ∀s1,Ext (BsF v) Non s s1→Q (.agg (u8l (sumB b)).toArray) s1):W (Ai envS (runF envS n) 73 [v]) s Q:=by
 refine WG_ fun tm h0=> ?_
 have hbs0:Bs (s.cxN cxN) v b:=hbs.same rfl rfl
 refine LJ_.w rfl (by omega) ?_
 simp -implicitDefEqProofs only[TW,Ad,Aa,Ac]
 refine W.alloc Fq fun sa na xa oa=> ?_
 have na':sa.next=s.next+33:=na
 have hxa:Ext (BsF v) Non (s.cxN cxN) sa:=(Ext.refl _).step xa hbd (fun _ _ h=>h.elim) fun _ h=>h.elim
 refine AbY_.w rfl (by omega) ?_
 simp -implicitDefEqProofs only[Ux,Ad,W_on,Aa,W_mv,Ac,Ag,Ar]
 refine ML_ (hxa.bnd hbd) (by omega) fun sb D hD1 hD2 xb hd=> ?_
 have hxb:Ext (BsF v) Non (s.cxN cxN) sb:=hxa.step xb hbd (fun _ _ h=>h.elim) fun _ h=>h.elim
 refine Oa_.w rfl (by omega) ?_
 simp -implicitDefEqProofs only[Dc_,Ad,W_on,Aa,W_mv,T.get_set,Ah,Ag,Af,Ar,reduceIte,reduceCtorEq, ↓reduceIte,h0]
 have hbsb:Bs sb v b:=hbs0.ext0 hxb
 refine TH (hxb.bnd hbd) (fun x h h'=>by have:=hlt x h;have:=h'.1;omega) hd (show 0+b.length≤1000000000 by omega) (fun h=>hbsb.bn' h) hbsb hby (by omega) fun sc xc hdc=> ?_
 have hG: ∀x,In D 0 74 x→s.next≤x:=fun x h=>by have:=h.1;omega
 have hxc:Ext (BsF v) Non (s.cxN cxN) sc:=hxb.step xc hbd (fun x hx h=>by
  have h2:x<s.lim:=hx
  rcases h with h|h
  ·have:=hG x h;omega
  ·exact h) fun x h=>hG x h
 have hoc:A3 sc s.next 0 32:=((Ae.owned oa).ext1 xb fun _ _ h=>h).ext1 xc fun x h h'=>by
  have h1:x<s.next+0+32:=h.2
  have:=h'.1
  omega
 refine Abh_.w rfl (by omega) ?_
 simp -implicitDefEqProofs only[ZL,Ad,W_oS,W_on,Aa,W_mv,T.get_set,Ah,Ag,Af,Ar,reduceIte,Nat.reduceEqDiff, ↓reduceIte]
 refine Qo_ (hxc.bnd hbd) hdc (by rw[DS.write_n _ _ _ (Nat.le_refl _)];show 0+b.length≤_;omega) (by omega) fun sd xd=> ?_
 have hxd:Ext (BsF v) Non (s.cxN cxN) sd:=hxc.step xd hbd (fun x hx h=>by
  have h2:x<s.lim:=hx
  have:=hG x h
  omega) fun _ h=>h.elim
 have hod:A3 sd s.next 0 32:=hoc.ext1 xd fun _ _ h=>h
 have hlen:(u8l (DS.write b.length DS.new b).sum).length=32:=by rw[A6];exact DS.sum_len _
 refine W.store Eb hlen (BT _) hod fun se ne xe oe=> ?_
 have hG2: ∀x,In s.next 0 32 x→s.next≤x:=fun x h=>by have:=h.1;omega
 have hxe:Ext (BsF v) Non (s.cxN cxN) se:=hxd.step xe hbd (fun x hx h=>by
  have h2:x<s.lim:=hx
  have:=hG2 x h
  omega) hG2
 refine W.endC (r:=2) rfl (.inl KT_) (by omega) VJ Ja_ hxe.cx (by simp[T.get_set];rfl) ?_
 refine W.loadA Eb oe.row hlen fun sf mf nf xf=> ?_
 have hxf:Ext (BsF v) Non (s.cxN cxN) sf:=hxe.step xf hbd (fun x hx h=>by
  have h2:x<s.lim:=hx
  have:=hG2 x h
  omega) fun _ h=>h.elim
 exact q _ hxf.cx'
theorem Po {E:Env}{t n sz l c:Nat}{a:Addr}{s:St}(h:arrN E t=some (n,sz))(h1:n≤l)(h2:0<l)(Q:Value→St→Prop):W (Dw E t (.slice (some a) l c)) s Q=Q (.pointer (some a)) s:=by
 obtain⟨i,e,ie,g1,g2,g3,g4⟩:=PB h
 refine Bl ?_
 unfold Dw
 rw[Br (show ti E t s= .some i s by unfold ti;rw[g1];rfl),g2]
 show M.chk (Nat.ble n l&&Nat.blt 0 l) (M.pure (Value.pointer (some a))) s=_
 rw[Nat.ble_eq_true_of_le h1,BV h2]
 rfl
theorem JK:arrN envS 26=some (16,1):=by kernel_rfl
theorem BL:tyS envS 26=some (16,true):=by kernel_rfl
theorem DH:Du envS 26=some (List.replicate 16 (.int .u8 0)):=by kernel_rfl
def idB (b:List Nat):List Nat:=(sumB b).take 16
theorem K1 (b:List Nat):(idB b).length=16:=by unfold idB;rw[List.length_take,FQ];rfl
theorem WB_ {n:Nat}{v:Value}{b:List Nat}{s:St}{Q:Value→St→Prop}(hbd:s.lim≤s.next)(hbs:Bs s v b)(hlt: ∀x,BsF v x→x<s.next)(hby:Byt b)(hmax:b.length≤900000)(hn:20*b.length+2700≤n)
  (q: ∀s1,Ext (BsF v) Non s s1→Q (.agg (u8l (idB b)).toArray) s1):W (Ai envS (runF envS n) 32 [v]) s Q:=by
 refine XE_ fun tm h0=> ?_
 have hbs0:Bs (s.cxN cxN) v b:=hbs.same rfl rfl
 refine Xh_.w rfl (by omega) ?_
 simp -implicitDefEqProofs only[Ys,Ad,Aa,Ac]
 refine W.alloc DH fun sa na xa oa=> ?_
 have na':sa.next=s.next+17:=na
 have hxa:Ext (BsF v) Non (s.cxN cxN) sa:=(Ext.refl _).step xa hbd (fun _ _ h=>h.elim) fun _ h=>h.elim
 refine AaL_.w rfl (by omega) ?_
 simp -implicitDefEqProofs only[AW_,Ad,W_oS,W_on,Aa,W_mv,Ac,T.get_set,Ah,Ag,Af,Ar,reduceIte,reduceCtorEq, ↓reduceIte,h0]
 refine Xv_ (hxa.bnd hbd) (hbs0.ext0 hxa) (fun x h=>by have:=hlt x h;omega) hby hmax (by omega) fun sb xb=> ?_
 have hxb:Ext (BsF v) Non (s.cxN cxN) sb:=hxa.step xb hbd (fun _ _ h=>h) fun _ h=>h.elim
 refine W.alloc Fq fun sc nc xc oc=> ?_
 have hxc:Ext (BsF v) Non (s.cxN cxN) sc:=hxb.step xc hbd (fun _ _ h=>h.elim) fun _ h=>h.elim
 have hbn:sa.next≤sb.next:=xb.nxt
 have hlen:(u8l (sumB b)).length=32:=by rw[A6];exact FQ _
 refine W.store Eb hlen (BT _) (fun i hi=>oc.owned i (by simp;omega)) fun sd nd xd od=> ?_
 have hG: ∀x,In sb.next 0 32 x→s.next≤x:=fun x h=>by have:=h.1;omega
 have hxd:Ext (BsF v) Non (s.cxN cxN) sd:=hxc.step xd hbd (fun x hx h=>by
  have h2:x<s.lim:=hx
  have:=hG x h
  omega) hG
 have ho2:A3 sd s.next 0 16:=(((Ae.owned oa).ext1 xb fun _ _ h=>h).ext1 xc fun _ _ h=>h).ext1 xd fun x h h'=>by
  have h1:x<s.next+0+16:=h.2
  have:=h'.1
  omega
 refine AbF_.w rfl (by omega) ?_
 simp -implicitDefEqProofs only[VE,Ad,W_oS,W_on,Aa,T.get_set,Af,reduceIte,Nat.reduceEqDiff, ↓reduceIte]
 simp -implicitDefEqProofs only[Lb (lo:=none) (hi:=some (.int .i64 16)) (l:=0) (h:=16) Kq (Bh (by decide)) rfl rfl (Nat.zero_le _) (by decide),Po JK (show 16≤16-0 by decide) (by decide),reduceIte,reduceCtorEq, ↓reduceIte]
 have hlen2:(u8l (idB b)).length=16:=by rw[A6];exact K1 _
 have hod:Ae sd sb.next 0 (u8l (idB b)):=by
  have:=od.take (n:=16)
  show Ae sd sb.next 0 (u8l ((sumB b).take 16))
  unfold u8l
  rw[List.map_take]
  exact this
 refine W.loadA BL hod.row hlen2 fun se me ne xe=> ?_
 have hxe:Ext (BsF v) Non (s.cxN cxN) se:=hxd.step xe hbd (fun x hx h=>by
  have h2:x<s.lim:=hx
  have h3:sb.next+(0+0*1)≤x:=h.1
  omega) fun _ h=>h.elim
 have ho2e:A3 se s.next 0 16:=ho2.ext1 xe fun _ _ h=>h
 refine W.store BL hlen2 (BT _) ho2e fun sf nf xf of=> ?_
 have hG2: ∀x,In s.next 0 16 x→s.next≤x:=fun x h=>by have:=h.1;omega
 have hxf:Ext (BsF v) Non (s.cxN cxN) sf:=hxe.step xf hbd (fun x hx h=>by
  have h2:x<s.lim:=hx
  have:=hG2 x h
  omega) hG2
 refine W.endC (r:=2) rfl (.inl Aci_) (by omega) Aq_ MY_ hxf.cx (by simp[T.get_set];rfl) ?_
 refine W.loadA BL of.row hlen2 fun sg mg ng xg=> ?_
 have hxg:Ext (BsF v) Non (s.cxN cxN) sg:=hxf.step xg hbd (fun x hx h=>by
  have h2:x<s.lim:=hx
  have:=hG2 x h
  omega) fun _ h=>h.elim
 exact q _ hxg.cx'
def Hq:Nat:=Bm Try.f20
def Xw:Code:=Try.f20.body.getD .skip
theorem Jj:envS.fn.get 20=some Try.f20:=by kernel_rfl
theorem JP_ {a0:Value}{n:Nat}{s:St}{Q:Value→St→Prop}(h: ∀tm,T.get tm 0=some a0→W (runF envS n ⟨20,11,Hq,tm,[.code Xw], .run, .normal,none⟩) (s.cxN cxN) fun p s1=>Q p.1 (s1.cxN s.cx)):W (Ai envS (runF envS n) 20 [a0]) s Q:=
 W.call (by kernel_rfl) (by kernel_rfl) Jj (by kernel_rfl) rfl rfl (by simp) (h _ (by kernel_rfl))
theorem MP:Try.f20.results.toList=[.tmp 2]:=by kernel_rfl
def Ya:List Item:=skim 64 [.code Xw]
def VB:List Item:=skim 64 Ya.tail
def M7:List Item:=skim 64 VB.tail
def Rq:List Item:=skim 64 (brT M7)
def YJ:List Item:=skim 64 (brF M7)
def YW:List Item:=skim 64 Rq.tail
def ZA:List Item:=skim 64 YJ.tail
def T5 (E:Env)(call round:Ab)(tm:T Value):M (T Value):=
 mv (some (.int .i64 0)) fun v2=>
 setF 2 v2 tm fun tm1=>
 M.pure tm1
theorem Abq_:RegEq 20 11 Hq Ya T5:={}
def Df_ (E:Env)(call round:Ab)(tm:T Value):M (T Value):=
 mv (T.get tm 0) fun v3=>
 M.bind (oS (some v3) fun a=>oS (some (.int .i64 1)) fun b=>Cl.get (aBin E .lss 3 (.tmp 3) (.const (.int .i64 1))) a b) fun v4=>
 mv (some v4) fun v5=>
 M.bind (M.chk (isK v5) (M.if (isB v5 false) (oS (T.get tm 0) fun a=>M.pure a) (M.pure undef))) fun v6=>
 M.bind (M.chk (isK v5) (M.if (isB v5 false) (oS (some v6) fun a=>oS (some (.int .i64 1024)) fun b=>Cl.get (aBin E .gtr 3 (.tmp 6) (.const (.int .i64 1024))) a b) (M.pure undef))) fun v7=>
 M.bind (M.on (some v5) fun a=>M.on (some (.bool true)) fun b=>M.on (some v7) fun c=>BM a b c) fun v8=>
 setF 8 v8 tm fun tm1=>
 M.pure tm1
theorem Km_:RegEq 20 11 Hq VB Df_:={}
theorem N0:A4 M7=some 8:=by kernel_rfl
def Ot (E:Env)(call round:Ab)(tm:T Value):M (T Value):=
 mv (some (.int .i64 0)) fun v2=>
 setF 2 v2 tm fun tm1=>
 M.pure tm1
theorem Vz:RegEq 20 11 Hq Rq Ot:={}
def Gf_ (E:Env)(call round:Ab)(tm:T Value):M (T Value):=
 mv (T.get tm 0) fun v9=>
 M.bind (oS (some v9) fun a=>oS (some (.int .i64 26)) fun b=>Cl.get (aBin E .add 3 (.tmp 9) (.const (.int .i64 26))) a b) fun v10=>
 mv (some v10) fun v2=>
 setF 2 v2 tm fun tm1=>
 M.pure tm1
theorem RO_:RegEq 20 11 Hq YJ Gf_:={}
theorem V0: ∃k,YW= .code .ret::k:=⟨YW.tail,by kernel_rfl⟩
theorem UW_: ∃k,ZA= .code .ret::k:=⟨ZA.tail,by kernel_rfl⟩
def HU:Nat:=Bm Try.f62
def YA:Code:=Try.f62.body.getD .skip
theorem GC_:envS.fn.get 62=some Try.f62:=by kernel_rfl
theorem TR_ {a0:Value}{n:Nat}{s:St}{Q:Value→St→Prop}(h: ∀tm,T.get tm 0=some a0→W (runF envS n ⟨62,31,HU,tm,[.code YA], .run, .normal,none⟩) (s.cxN cxN) fun p s1=>Q p.1 (s1.cxN s.cx)):W (Ai envS (runF envS n) 62 [a0]) s Q:=
 W.call (by kernel_rfl) (by kernel_rfl) GC_ (by kernel_rfl) rfl rfl (by simp) (h _ (by kernel_rfl))
theorem Vb_:Try.f62.results.toList=[.cell 2 89]:=by kernel_rfl
def Xj:List Item:=skim 64 [.code YA]
def YR:List Item:=skim 64 Xj.tail
def WF:List Item:=skim 64 YR.tail
def TY:List Item:=skim 64 WF.tail
def QX:List Item:=skim 64 TY.tail
def Ts (E:Env)(call round:Ab)(tm:T Value):M (T Value):=
 M.bind (Bt E 89) fun v2=>
 setF 2 v2 tm fun tm1=>
 M.pure tm1
theorem YH_:RegEq 62 31 HU Xj Ts:={}
def Va (E:Env)(call round:Ab)(tm:T Value):M (T Value):=
 mv (T.get tm 0) fun v6=>
 M.bind (oS (some v6) fun a=>oS (some (.int .u64 8)) fun b=>Cl.get (aBin E .shr 3 (.tmp 6) (.const (.int .u64 8))) a b) fun v7=>
 M.bind (oS (some v7) fun a=>Bc E 3 5 a) fun v8=>
 mv (T.get tm 0) fun v9=>
 M.bind (oS (some v9) fun a=>Bc E 3 5 a) fun v10=>
 mv (some v8) fun v3=>
 setF 3 v3 tm fun tm1=>
 mv (some v10) fun v4=>
 setF 4 v4 tm1 fun tm2=>
 M.pure tm2
theorem Xq_:RegEq 62 31 HU YR Va:={}
def Ff_ (E:Env)(call round:Ab)(tm:T Value):M (T Value):=
 mv (T.get tm 3) fun v11=>
 mv (T.get tm 4) fun v12=>
 mv (T.get tm 3) fun v13=>
 M.bind (oS (some v13) fun a=>kUn E.P .xor a) fun v14=>
 mv (T.get tm 4) fun v15=>
 M.bind (oS (some v15) fun a=>kUn E.P .xor a) fun v16=>
 M.bind (oS (seqP [(0,(some v11)),(1,(some v12)),(2,(some v14)),(3,(some v16))]) fun ps=>BZ E 22 4 ps) fun v17=>
 M.bind (M.on (some (.func (.func 105) #[] #[])) fun f=>M.on (seqO [(some v17)]) fun l=>AC call round f l) fun v18=>
 mv (some v18) fun v5=>
 setF 5 v5 tm fun tm1=>
 M.pure tm1
theorem AaZ_:RegEq 62 31 HU WF Ff_:={}
def Wp (E:Env)(call round:Ab)(tm:T Value):M (T Value):=
 mv (T.get tm 3) fun v19=>
 mv (T.get tm 4) fun v20=>
 mv (T.get tm 3) fun v21=>
 M.bind (oS (some v21) fun a=>kUn E.P .xor a) fun v22=>
 mv (T.get tm 4) fun v23=>
 M.bind (oS (some v23) fun a=>kUn E.P .xor a) fun v24=>
 mv (T.get tm 5) fun v25=>
 M.bind (oS (some v25) fun a=>Bc E 51 5 a) fun v26=>
 mv (T.get tm 5) fun v27=>
 M.bind (oS (some v27) fun a=>oS (some (.int .u64 8)) fun b=>Cl.get (aBin E .shr 51 (.tmp 27) (.const (.int .u64 8))) a b) fun v28=>
 M.bind (oS (some v28) fun a=>Bc E 51 5 a) fun v29=>
 M.bind (oS (seqP [(0,(some v19)),(1,(some v20)),(2,(some v22)),(3,(some v24)),(4,(some v26)),(5,(some v29))]) fun ps=>Cj E 89 ps) fun v30=>
 M.bind (oS (T.get tm 2) fun a=>oS (some v30) fun b=>A7 E 89 a b) fun _=>
 M.pure tm
theorem Qh_:RegEq 62 31 HU TY Wp:={}
theorem TG_: ∃k,QX= .code .ret::k:=⟨QX.tail,by kernel_rfl⟩
def D2:Nat:=Bm Try.f71
abbrev CS_:Nat:=45
def YH:Code:=Try.f71.body.getD .skip
theorem Hm:envS.fn.get 71=some Try.f71:=by kernel_rfl
theorem Nw {a0 a1:Value}{n:Nat}{s:St}{Q:Value→St→Prop}(h: ∀tm,T.get tm 0=some a0→T.get tm 1=some a1→W (runF envS n ⟨71,45,D2,tm,[.code YH], .run, .normal,none⟩) (s.cxN cxN) fun p s1=>Q p.1 (s1.cxN s.cx)):W (Ai envS (runF envS n) 71 [a0,a1]) s Q:=
 W.call (by kernel_rfl) (by kernel_rfl) Hm (by kernel_rfl) rfl rfl (by simp) (h _ (by kernel_rfl) (by kernel_rfl))
theorem KM:Try.f71.results.toList=[.tmp 4, .tmp 5]:=by kernel_rfl
def T8:List Item:=skim 64 [.code YH]
def Yd:List Item:=skim 64 T8.tail
def PR:List Item:=skim 64 Yd.tail
def Nz:List Item:=skim 64 (brT PR)
def OU:List Item:=skim 64 (brF PR)
def RH:List Item:=skim 64 Nz.tail
def IN:List Item:=skim 64 OU.tail
def Z2:List Item:=skim 64 IN.tail
def IC (E:Env)(call round:Ab)(tm:T Value):M (T Value):=
 mv (some (.int .i64 0)) fun v4=>
 setF 4 v4 tm fun tm1=>
 mv (some (.bool false)) fun v5=>
 setF 5 v5 tm1 fun tm2=>
 M.pure tm2
theorem NQ:RegEq 71 45 D2 T8 IC:={}
def K8 (E:Env)(call round:Ab)(tm:T Value):M (T Value):=
 mv (T.get tm 1) fun v7=>
 M.bind (oS (some v7) fun a=>oS (some (.int .i64 0)) fun b=>Cl.get (aBin E .lss 3 (.tmp 7) (.const (.int .i64 0))) a b) fun v8=>
 mv (some v8) fun v9=>
 M.bind (M.chk (isK v9) (M.if (isB v9 false) (oS (T.get tm 1) fun a=>M.pure a) (M.pure undef))) fun v10=>
 M.bind (M.chk (isK v9) (M.if (isB v9 false) (oS (T.get tm 0) fun a=>M.pure a) (M.pure undef))) fun v11=>
 M.bind (M.chk (isK v9) (M.if (isB v9 false) (oS (seqO [(some v11)]) fun l=>Az E .len [22] l) (M.pure undef))) fun v12=>
 M.bind (M.chk (isK v9) (M.if (isB v9 false) (oS (some v12) fun a=>oS (some (.int .i64 6)) fun b=>Cl.get (aBin E .sub 3 (.tmp 12) (.const (.int .i64 6))) a b) (M.pure undef))) fun v13=>
 M.bind (M.chk (isK v9) (M.if (isB v9 false) (oS (some v10) fun a=>oS (some v13) fun b=>Cl.get (aBin E .gtr 3 (.tmp 10) (.tmp 13)) a b) (M.pure undef))) fun v14=>
 M.bind (M.on (some v9) fun a=>M.on (some (.bool true)) fun b=>M.on (some v14) fun c=>BM a b c) fun v15=>
 setF 15 v15 tm fun tm1=>
 M.pure tm1
theorem MH:RegEq 71 45 D2 Yd K8:={}
theorem Iy:A4 PR=some 15:=by kernel_rfl
def Ob (E:Env)(call round:Ab)(tm:T Value):M (T Value):=
 mv (some (.int .i64 0)) fun v4=>
 setF 4 v4 tm fun tm1=>
 mv (some (.bool false)) fun v5=>
 setF 5 v5 tm1 fun tm2=>
 M.pure tm2
theorem Tv:RegEq 71 45 D2 Nz Ob:={}
def Ar_ (E:Env)(call round:Ab)(tm:T Value):M ((Rho×T Value)×List OpLog):=
 M.bind (apartO (oS (T.get tm 0) fun a=>M.pure a)) fun p0=>
 M.bind (apartO (oS (T.get tm 1) fun a=>M.pure a)) fun p1=>
 M.bind (apartO (oS (some p0.1) fun a=>oS (some p1.1) fun b=>AH E 22 a b)) fun p2=>
 M.bind (apartO (oS (some p2.1) fun a=>Ak E 5 a)) fun p3=>
 M.bind (apartO (oS (some p3.1) fun a=>Bc E 5 3 a)) fun p4=>
 M.bind (apartO (oS (some p4.1) fun a=>oS (some (.int .u64 8)) fun b=>Cl.get (aBin E .shl 3 (.tmp 20) (.const (.int .u64 8))) a b)) fun p5=>
 M.bind (apartO (oS (T.get tm 0) fun a=>M.pure a)) fun p6=>
 M.bind (apartO (oS (T.get tm 1) fun a=>M.pure a)) fun p7=>
 M.bind (apartO (oS (some p7.1) fun a=>oS (some (.int .i64 1)) fun b=>Cl.get (aBin E .add 3 (.tmp 23) (.const (.int .i64 1))) a b)) fun p8=>
 M.bind (apartO (oS (some p6.1) fun a=>oS (some p8.1) fun b=>AH E 22 a b)) fun p9=>
 M.bind (apartO (oS (some p9.1) fun a=>Ak E 5 a)) fun p10=>
 M.bind (apartO (oS (some p10.1) fun a=>Bc E 5 3 a)) fun p11=>
 M.bind (apartO (oS (some p5.1) fun a=>oS (some p11.1) fun b=>Cl.get (aBin E .or 3 (.tmp 21) (.tmp 27)) a b)) fun p12=>
 M.pure (([p12.1,p11.1,p10.1,p9.1,p8.1,p7.1,p6.1,p5.1,p4.1,p3.1,p2.1,p1.1,p0.1],tm),[p12.2,p11.2,p10.2,p9.2,p8.2,p7.2,p6.2,p5.2,p4.2,p3.2,p2.2,p1.2,p0.2])
theorem OR_:DrawEq 71 45 D2 OU [0,0,3,7,15,31,0,0,128,448,960,1984,4095,8191] Ar_:={}
theorem JQ_ (E:Env)(call round:Ab)(x16 x17 x18 x19 x20 x21 x22 x23 x24 x25 x26 x27 x28:Value)(tm:T Value)(s:St):Bw call round (BO E D2 45 (hdC OU)) [x28,x27,x26,x25,x24,x23,x22,x21,x20,x19,x18,x17,x16] tm s=(M.bind (oS (some x28) fun a=>M.pure a) fun v6=>setT 6 v6 tm fun tm1=>M.pure tm1) s:=by kernel_rfl
theorem UV: ∃k,RH= .code .ret::k:=⟨RH.tail,by kernel_rfl⟩
def WR (E:Env)(call round:Ab)(tm:T Value):M ((Rho×T Value)×List OpLog):=
 M.bind (apartO (oS (T.get tm 6) fun a=>M.pure a)) fun p0=>
 M.bind (apartO (oS (T.get tm 6) fun a=>M.pure a)) fun p1=>
 M.bind (apartO (M.on (some (.func (.func 20) #[] #[])) fun f=>M.on (seqO [(some p1.1)]) fun l=>AC call round f l)) fun p2=>
 M.bind (apartO (oS (some p2.1) fun a=>oS (some (.int .i64 0)) fun b=>Cl.get (aBin E .gtr 3 (.tmp 31) (.const (.int .i64 0))) a b)) fun p3=>
 M.bind (apartO (oS (some p3.1) fun a=>M.pure a)) fun p4=>
 M.bind (apartO (M.chk (isK p4.1) (M.if (isB p4.1 true) (oS (T.get tm 0) fun a=>M.pure a) (M.pure undef)))) fun p5=>
 M.bind (apartO (M.chk (isK p4.1) (M.if (isB p4.1 true) (oS (T.get tm 1) fun a=>M.pure a) (M.pure undef)))) fun p6=>
 M.bind (apartO (M.chk (isK p4.1) (M.if (isB p4.1 true) (oS (T.get tm 1) fun a=>M.pure a) (M.pure undef)))) fun p7=>
 M.bind (apartO (M.chk (isK p4.1) (M.if (isB p4.1 true) (oS (some p7.1) fun a=>oS (some (.int .i64 6)) fun b=>Cl.get (aBin E .add 3 (.tmp 36) (.const (.int .i64 6))) a b) (M.pure undef)))) fun p8=>
 M.bind (apartO (M.chk (isK p4.1) (M.if (isB p4.1 true) (M.on (some p5.1) fun a=>M.on (onO (some p6.1) fun v=>some (some v)) fun b=>M.on (onO (some p8.1) fun v=>some (some v)) fun c=>BB E 22 a b c) (M.pure undef)))) fun p9=>
 M.bind (apartO (M.chk (isK p4.1) (M.if (isB p4.1 true) (oS (some p9.1) fun a=>Dw E 89 a) (M.pure undef)))) fun p10=>
 M.bind (apartO (M.chk (isK p4.1) (M.if (isB p4.1 true) (oS (some p10.1) fun a=>Ak E 89 a) (M.pure undef)))) fun p11=>
 M.bind (apartO (M.chk (isK p4.1) (M.if (isB p4.1 true) (oS (T.get tm 6) fun a=>M.pure a) (M.pure undef)))) fun p12=>
 M.bind (apartO (M.chk (isK p4.1) (M.if (isB p4.1 true) (M.on (some (.func (.func 62) #[] #[])) fun f=>M.on (seqO [(some p12.1)]) fun l=>AC call round f l) (M.pure undef)))) fun p13=>
 M.bind (apartO (M.chk (isK p4.1) (M.if (isB p4.1 true) (oS (some p11.1) fun a=>oS (some p13.1) fun b=>Cl.get (aBin E .eql 89 (.tmp 40) (.tmp 42)) a b) (M.pure undef)))) fun p14=>
 M.bind (apartO (M.on (some p4.1) fun a=>M.on (some p14.1) fun b=>M.on (some (.bool false)) fun c=>BM a b c)) fun p15=>
 M.bind (apartO (oS (some p0.1) fun a=>M.pure a)) fun p16=>
 setT 4 p16.1 tm fun tm1=>
 M.pure (([p16.1,p15.1,p14.1,p13.1,p12.1,p11.1,p10.1,p9.1,p8.1,p7.1,p6.1,p5.1,p4.1,p3.1,p2.1,p1.1,p0.1],tm1),[p16.2,p15.2,p14.2,p13.2,p12.2,p11.2,p10.2,p9.2,p8.2,p7.2,p6.2,p5.2,p4.2,p3.2,p2.2,p1.2,p0.2])
theorem NR_:DrawEq 71 45 D2 IN [0,0,2,6,14,30,30,30,158,510,1022,2046,30,4126,16382,32766,12319,131071] WR:={}
theorem CR_ (E:Env)(call round:Ab)(x29 x30 x31 x32 x33 x34 x35 x36 x37 x38 x39 x40 x41 x42 x43 x44 x4:Value)(tm:T Value)(s:St):Bw call round (BO E D2 45 (hdC IN)) [x4,x44,x43,x42,x41,x40,x39,x38,x37,x36,x35,x34,x33,x32,x31,x30,x29] tm s=(M.bind (oS (some x44) fun a=>M.pure a) fun v5=>setT 5 v5 tm fun tm1=>M.pure tm1) s:=by kernel_rfl
theorem Zo: ∃k,Z2= .code .ret::k:=⟨Z2.tail,by kernel_rfl⟩
def D4:Nat:=Bm Try.f72
abbrev Dn_:Nat:=39
def UF:Code:=Try.f72.body.getD .skip
theorem N5:envS.fn.get 72=some Try.f72:=by kernel_rfl
theorem Tj_ {a0 a1 a2:Value}{n:Nat}{s:St}{Q:Value→St→Prop}(h: ∀tm,T.get tm 0=some a0→T.get tm 1=some a1→T.get tm 2=some a2→W (runF envS n ⟨72,39,D4,tm,[.code UF], .run, .normal,none⟩) (s.cxN cxN) fun p s1=>Q p.1 (s1.cxN s.cx)):W (Ai envS (runF envS n) 72 [a0,a1,a2]) s Q:=
 W.call (by kernel_rfl) (by kernel_rfl) N5 (by kernel_rfl) rfl rfl (by simp) (h _ (by kernel_rfl) (by kernel_rfl) (by kernel_rfl))
theorem RL:Try.f72.results.toList=[.cell 6 26, .tmp 7, .tmp 8]:=by kernel_rfl
def DA_:List Item:=skim 64 [.code UF]
def Y5:List Item:=skim 64 DA_.tail
def EE_:List Item:=skim 64 Y5.tail
def ND:List Item:=skim 64 EE_.tail
def Rx:List Item:=skim 64 (brT ND)
def T0:List Item:=skim 64 (brF ND)
def EF_:List Item:=skim 64 Rx.tail
def J9:List Item:=skim 64 T0.tail
def PG:List Item:=skim 64 J9.tail
def Fy_ (E:Env)(call round:Ab)(tm:T Value):M (T Value):=
 M.bind (Bt E 26) fun v6=>
 setF 6 v6 tm fun tm1=>
 mv (some (.slice none 0 0)) fun v7=>
 setF 7 v7 tm1 fun tm2=>
 mv (some (.bool false)) fun v8=>
 setF 8 v8 tm2 fun tm3=>
 M.pure tm3
theorem Rs_:RegEq 72 39 D4 DA_ Fy_:={}
def DX_ (E:Env)(call round:Ab)(tm:T Value):M (T Value):=
 mv (T.get tm 0) fun v13=>
 mv (T.get tm 1) fun v14=>
 M.bind (oS (some v14) fun a=>oS (some (.int .i64 6)) fun b=>Cl.get (aBin E .add 3 (.tmp 14) (.const (.int .i64 6))) a b) fun v15=>
 mv (T.get tm 1) fun v16=>
 mv (T.get tm 2) fun v17=>
 M.bind (M.on (some (.func (.func 20) #[] #[])) fun f=>M.on (seqO [(some v17)]) fun l=>AC call round f l) fun v18=>
 M.bind (oS (some v16) fun a=>oS (some v18) fun b=>Cl.get (aBin E .add 3 (.tmp 16) (.tmp 18)) a b) fun v19=>
 M.bind (M.on (some v13) fun a=>M.on (onO (some v15) fun v=>some (some v)) fun b=>M.on (onO (some v19) fun v=>some (some v)) fun c=>BB E 22 a b c) fun v20=>
 M.bind (M.on (some (.func (.func 81) #[] #[])) fun f=>M.on (seqO [(some v20)]) fun l=>AC call round f l) fun v21=>
 mv (some v21) fun v12=>
 M.bind (oS (some v12) fun a=>kExt 0 a) fun v22=>
 M.bind (oS (some v12) fun a=>kExt 1 a) fun v23=>
 mv (some v22) fun v9=>
 setF 9 v9 tm fun tm1=>
 mv (some v23) fun v10=>
 setF 10 v10 tm1 fun tm2=>
 M.pure tm2
theorem Pz_:RegEq 72 39 D4 Y5 DX_:={}
def Pv (E:Env)(call round:Ab)(tm:T Value):M (T Value):=
 mv (T.get tm 10) fun v24=>
 M.bind (oS (some v24) fun a=>oS (some (.int .i64 0)) fun b=>Cl.get (aBin E .neq 27 (.tmp 24) (.const (.int .i64 0))) a b) fun v25=>
 setF 25 v25 tm fun tm1=>
 M.pure tm1
theorem Vd:RegEq 72 39 D4 EE_ Pv:={}
theorem As_:A4 ND=some 25:=by kernel_rfl
def XR (E:Env)(call round:Ab)(tm:T Value):M (T Value):=
 M.bind (oS (seqP []) fun ps=>Cj E 26 ps) fun v26=>
 M.bind (oS (T.get tm 6) fun a=>oS (some v26) fun b=>A7 E 26 a b) fun _=>
 mv (some (.slice none 0 0)) fun v7=>
 setF 7 v7 tm fun tm1=>
 mv (some (.bool false)) fun v8=>
 setF 8 v8 tm1 fun tm2=>
 M.pure tm2
theorem Yo_:RegEq 72 39 D4 Rx XR:={}
def XP (E:Env)(call round:Ab)(tm:T Value):M (T Value):=
 mv (T.get tm 9) fun v27=>
 M.bind (M.on (some v27) fun a=>M.on (some none) fun b=>M.on (onO (some (.int .i64 16)) fun v=>some (some v)) fun c=>BB E 22 a b c) fun v28=>
 M.bind (oS (some v28) fun a=>Dw E 26 a) fun v29=>
 M.bind (oS (some v29) fun a=>Ak E 26 a) fun v30=>
 M.bind (Bt E 26) fun v11=>
 setF 11 v11 tm fun tm1=>
 M.bind (oS (some v11) fun a=>oS (some v30) fun b=>A7 E 26 a b) fun _=>
 M.pure tm1
theorem Ne_:RegEq 72 39 D4 T0 XP:={}
theorem SK_: ∃k,EF_= .code .ret::k:=⟨EF_.tail,by kernel_rfl⟩
def GL_ (E:Env)(call round:Ab)(tm:T Value):M ((Rho×T Value)×List OpLog):=
 M.bind (apartO (oS (T.get tm 11) fun a=>Ak E 26 a)) fun p0=>
 M.bind (apartO (oS (T.get tm 9) fun a=>M.pure a)) fun p1=>
 M.bind (apartO (M.on (some p1.1) fun a=>M.on (onO (some (.int .i64 16)) fun v=>some (some v)) fun b=>M.on (some none) fun c=>BB E 22 a b c)) fun p2=>
 M.bind (apartO (oS (T.get tm 9) fun a=>M.pure a)) fun p3=>
 M.bind (apartO (M.on (some p3.1) fun a=>M.on (onO (some (.int .i64 16)) fun v=>some (some v)) fun b=>M.on (some none) fun c=>BB E 22 a b c)) fun p4=>
 M.bind (apartO (M.on (some (.func (.func 32) #[] #[])) fun f=>M.on (seqO [(some p4.1)]) fun l=>AC call round f l)) fun p5=>
 M.bind (apartO (oS (T.get tm 11) fun a=>Ak E 26 a)) fun p6=>
 M.bind (apartO (oS (some p5.1) fun a=>oS (some p6.1) fun b=>Cl.get (aBin E .eql 26 (.tmp 36) (.tmp 37)) a b)) fun p7=>
 M.bind (apartO (oS (T.get tm 6) fun a=>oS (some p0.1) fun b=>A7 E 26 a b)) fun p8=>
 M.bind (apartO (oS (some p2.1) fun a=>M.pure a)) fun p9=>
 setT 7 p9.1 tm fun tm1=>
 M.pure (([p9.1,p7.1,p6.1,p5.1,p4.1,p3.1,p2.1,p1.1,p0.1],tm1),[p9.2,p8.2,p7.2,p6.2,p5.2,p4.2,p3.2,p2.2,p1.2,p0.2])
theorem Aay_:DrawEq 72 39 D4 J9 [0,0,2,0,8,24,0,120,57,319,1023] GL_:={}
theorem IF_ (E:Env)(call round:Ab)(x31 x32 x33 x34 x35 x36 x37 x38 x7:Value)(tm:T Value)(s:St):Bw call round (BO E D4 39 (hdC J9)) [x7,x38,x37,x36,x35,x34,x33,x32,x31] tm s=(M.bind (oS (some x38) fun a=>M.pure a) fun v8=>setT 8 v8 tm fun tm1=>M.pure tm1) s:=by kernel_rfl
theorem Lr_: ∃k,PG= .code .ret::k:=⟨PG.tail,by kernel_rfl⟩
def CV:Nat:=Bm Try.f27
abbrev Gp:Nat:=54
def Zt:Code:=Try.f27.body.getD .skip
theorem G3:envS.fn.get 27=some Try.f27:=by kernel_rfl
theorem XS {a0 a1:Value}{n:Nat}{s:St}{Q:Value→St→Prop}(h: ∀tm,T.get tm 0=some a0→T.get tm 1=some a1→W (runF envS n ⟨27,54,CV,tm,[.code Zt], .run, .normal,none⟩) (s.cxN cxN) fun p s1=>Q p.1 (s1.cxN s.cx)):W (Ai envS (runF envS n) 27 [a0,a1]) s Q:=
 W.call (by kernel_rfl) (by kernel_rfl) G3 (by kernel_rfl) rfl rfl (by simp) (h _ (by kernel_rfl) (by kernel_rfl))
theorem IW:Try.f27.results.toList=[.tmp 4, .tmp 5]:=by kernel_rfl
def GT_:List Item:=skim 64 [.code Zt]
def EK_:List Item:=skim 64 GT_.tail
def Hs:List Item:=skim 64 EK_.tail
def Il:List Item:=skim 64 Hs.tail
def ZV:List Item:=skim 64 (brT Il)
def Qe:List Item:=skim 64 (brF Il)
def Wl:List Item:=skim 64 ZV.tail
def Ha_:List Item:=skim 64 Qe.tail
def Lc:List Item:=skim 64 Ha_.tail
def UN:List Item:=skim 64 (brT Lc)
def Yn:List Item:=skim 64 (brF Lc)
def AG_:List Item:=skim 64 UN.tail
def S0:List Item:=skim 64 Yn.tail
def NX (E:Env)(call round:Ab)(tm:T Value):M (T Value):=
 M.bind (oS (T.get tm 1) fun a=>kBox a) fun v3=>
 setF 3 v3 tm fun tm1=>
 mv (some (.slice none 0 0)) fun v4=>
 setF 4 v4 tm1 fun tm2=>
 mv (some (.int .i64 0)) fun v5=>
 setF 5 v5 tm2 fun tm3=>
 M.pure tm3
theorem WY:RegEq 27 54 CV GT_ NX:={}
def NI (E:Env)(call round:Ab)(tm:T Value):M (T Value):=
 mv (T.get tm 0) fun v12=>
 M.bind (oS (T.get tm 3) fun a=>kFld E 35 a 1) fun v13=>
 M.bind (oS (some v13) fun a=>Ak E 3 a) fun v14=>
 M.bind (M.on (some (.func (.func 71) #[] #[])) fun f=>M.on (seqO [(some v12),(some v14)]) fun l=>AC call round f l) fun v15=>
 mv (some v15) fun v11=>
 M.bind (oS (some v11) fun a=>kExt 0 a) fun v16=>
 M.bind (oS (some v11) fun a=>kExt 1 a) fun v17=>
 mv (some v16) fun v6=>
 setF 6 v6 tm fun tm1=>
 mv (some v17) fun v7=>
 setF 7 v7 tm1 fun tm2=>
 M.pure tm2
theorem CO_:RegEq 27 54 CV EK_ NI:={}
def Hw (E:Env)(call round:Ab)(tm:T Value):M ((Rho×T Value)×List OpLog):=
 M.bind (apartO (oS (T.get tm 7) fun a=>M.pure a)) fun p0=>
 M.bind (apartO (oS (some p0.1) fun a=>kUn E.P .not a)) fun p1=>
 M.bind (apartO (oS (some p1.1) fun a=>M.pure a)) fun p2=>
 M.bind (apartO (M.chk (isK p2.1) (M.if (isB p2.1 false) (oS (T.get tm 6) fun a=>M.pure a) (M.pure undef)))) fun p3=>
 M.bind (apartO (M.chk (isK p2.1) (M.if (isB p2.1 false) (oS (T.get tm 3) fun a=>kFld E 35 a 2) (M.pure undef)))) fun p4=>
 M.bind (apartO (M.chk (isK p2.1) (M.if (isB p2.1 false) (oS (some p4.1) fun a=>Ak E 3 a) (M.pure undef)))) fun p5=>
 M.bind (apartO (M.chk (isK p2.1) (M.if (isB p2.1 false) (oS (some p3.1) fun a=>oS (some p5.1) fun b=>Cl.get (aBin E .neq 3 (.tmp 21) (.tmp 23)) a b) (M.pure undef)))) fun p6=>
 M.bind (apartO (M.on (some p2.1) fun a=>M.on (some (.bool true)) fun b=>M.on (some p6.1) fun c=>BM a b c)) fun p7=>
 M.bind (apartO (oS (some p7.1) fun a=>M.pure a)) fun p8=>
 M.bind (apartO (M.chk (isK p8.1) (M.if (isB p8.1 false) (oS (T.get tm 0) fun a=>M.pure a) (M.pure undef)))) fun p9=>
 M.bind (apartO (M.chk (isK p8.1) (M.if (isB p8.1 false) (oS (seqO [(some p9.1)]) fun l=>Az E .len [22] l) (M.pure undef)))) fun p10=>
 M.bind (apartO (M.chk (isK p8.1) (M.if (isB p8.1 false) (oS (T.get tm 3) fun a=>kFld E 35 a 1) (M.pure undef)))) fun p11=>
 M.bind (apartO (M.chk (isK p8.1) (M.if (isB p8.1 false) (oS (some p11.1) fun a=>Ak E 3 a) (M.pure undef)))) fun p12=>
 M.bind (apartO (M.chk (isK p8.1) (M.if (isB p8.1 false) (oS (some p10.1) fun a=>oS (some p12.1) fun b=>Cl.get (aBin E .sub 3 (.tmp 28) (.tmp 30)) a b) (M.pure undef)))) fun p13=>
 M.bind (apartO (M.chk (isK p8.1) (M.if (isB p8.1 false) (oS (T.get tm 6) fun a=>M.pure a) (M.pure undef)))) fun p14=>
 M.bind (apartO (M.chk (isK p8.1) (M.if (isB p8.1 false) (M.on (some (.func (.func 20) #[] #[])) fun f=>M.on (seqO [(some p14.1)]) fun l=>AC call round f l) (M.pure undef)))) fun p15=>
 M.bind (apartO (M.chk (isK p8.1) (M.if (isB p8.1 false) (oS (some p13.1) fun a=>oS (some p15.1) fun b=>Cl.get (aBin E .lss 3 (.tmp 31) (.tmp 33)) a b) (M.pure undef)))) fun p16=>
 M.pure (([p16.1,p15.1,p14.1,p13.1,p12.1,p11.1,p10.1,p9.1,p8.1,p7.1,p6.1,p5.1,p4.1,p3.1,p2.1,p1.1,p0.1],tm),[p16.2,p15.2,p14.2,p13.2,p12.2,p11.2,p10.2,p9.2,p8.2,p7.2,p6.2,p5.2,p4.2,p3.2,p2.2,p1.2,p0.2])
theorem Be_:DrawEq 27 54 CV Hs [0,1,3,7,7,23,63,127,255,511,1023,511,2559,8191,511,16895,65535,131071] Hw:={}
theorem GN (E:Env)(call round:Ab)(x18 x19 x20 x21 x22 x23 x24 x25 x26 x27 x28 x29 x30 x31 x32 x33 x34:Value)(tm:T Value)(s:St):Bw call round (BO E CV 54 (hdC Hs)) [x34,x33,x32,x31,x30,x29,x28,x27,x26,x25,x24,x23,x22,x21,x20,x19,x18] tm s=(M.bind (M.on (some x26) fun a=>M.on (some (.bool true)) fun b=>M.on (some x34) fun c=>BM a b c) fun v35=>setT 35 v35 tm fun tm1=>M.pure tm1) s:=by kernel_rfl
theorem ON:A4 Il=some 35:=by kernel_rfl
def Pk (E:Env)(call round:Ab)(tm:T Value):M (T Value):=
 mv (some (.slice none 0 0)) fun v4=>
 setF 4 v4 tm fun tm1=>
 mv (some (.int .i64 6)) fun v5=>
 setF 5 v5 tm1 fun tm2=>
 M.pure tm2
theorem At_:RegEq 27 54 CV ZV Pk:={}
def BJ_ (E:Env)(call round:Ab)(tm:T Value):M (T Value):=
 mv (T.get tm 0) fun v37=>
 M.bind (oS (T.get tm 3) fun a=>kFld E 35 a 1) fun v38=>
 M.bind (oS (some v38) fun a=>Ak E 3 a) fun v39=>
 mv (T.get tm 6) fun v40=>
 M.bind (M.on (some (.func (.func 72) #[] #[])) fun f=>M.on (seqO [(some v37),(some v39),(some v40)]) fun l=>AC call round f l) fun v41=>
 mv (some v41) fun v36=>
 M.bind (oS (some v36) fun a=>kExt 0 a) fun v42=>
 M.bind (oS (some v36) fun a=>kExt 1 a) fun v43=>
 M.bind (oS (some v36) fun a=>kExt 2 a) fun v44=>
 M.bind (Bt E 26) fun v8=>
 setF 8 v8 tm fun tm1=>
 M.bind (oS (some v8) fun a=>oS (some v42) fun b=>A7 E 26 a b) fun _=>
 mv (some v43) fun v9=>
 setF 9 v9 tm1 fun tm2=>
 mv (some v44) fun v10=>
 setF 10 v10 tm2 fun tm3=>
 M.pure tm3
theorem Ns_:RegEq 27 54 CV Qe BJ_:={}
theorem Fm_: ∃k,Wl= .code .ret::k:=⟨Wl.tail,by kernel_rfl⟩
def Mb (E:Env)(call round:Ab)(tm:T Value):M (T Value):=
 mv (T.get tm 10) fun v45=>
 M.bind (oS (some v45) fun a=>kUn E.P .not a) fun v46=>
 mv (some v46) fun v47=>
 M.bind (M.chk (isK v47) (M.if (isB v47 false) (oS (T.get tm 8) fun a=>Ak E 26 a) (M.pure undef))) fun v48=>
 M.bind (M.chk (isK v47) (M.if (isB v47 false) (oS (T.get tm 3) fun a=>kFld E 35 a 0) (M.pure undef))) fun v49=>
 M.bind (M.chk (isK v47) (M.if (isB v47 false) (oS (some v49) fun a=>Ak E 26 a) (M.pure undef))) fun v50=>
 M.bind (M.chk (isK v47) (M.if (isB v47 false) (oS (some v48) fun a=>oS (some v50) fun b=>Cl.get (aBin E .neq 26 (.tmp 48) (.tmp 50)) a b) (M.pure undef))) fun v51=>
 M.bind (M.on (some v47) fun a=>M.on (some (.bool true)) fun b=>M.on (some v51) fun c=>BM a b c) fun v52=>
 setF 52 v52 tm fun tm1=>
 M.pure tm1
theorem Ue_:RegEq 27 54 CV Ha_ Mb:={}
theorem EB_:A4 Lc=some 52:=by kernel_rfl
def Ud (E:Env)(call round:Ab)(tm:T Value):M (T Value):=
 mv (some (.slice none 0 0)) fun v4=>
 setF 4 v4 tm fun tm1=>
 mv (some (.int .i64 11)) fun v5=>
 setF 5 v5 tm1 fun tm2=>
 M.pure tm2
theorem ME_:RegEq 27 54 CV UN Ud:={}
def Z0 (E:Env)(call round:Ab)(tm:T Value):M (T Value):=
 mv (T.get tm 9) fun v53=>
 mv (some v53) fun v4=>
 setF 4 v4 tm fun tm1=>
 mv (some (.int .i64 0)) fun v5=>
 setF 5 v5 tm1 fun tm2=>
 M.pure tm2
theorem YM_:RegEq 27 54 CV Yn Z0:={}
theorem NV_: ∃k,AG_= .code .ret::k:=⟨AG_.tail,by kernel_rfl⟩
theorem ND_: ∃k,S0= .code .ret::k:=⟨S0.tail,by kernel_rfl⟩
def Px:Nat:=Bm Try.f68
def BQ_:Code:=Try.f68.body.getD .skip
theorem Do_:envS.fn.get 68=some Try.f68:=by kernel_rfl
theorem Zt_ {a0:Value}{n:Nat}{s:St}{Q:Value→St→Prop}(h: ∀tm,T.get tm 0=some a0→W (runF envS n ⟨68,4,Px,tm,[.code BQ_], .run, .normal,none⟩) (s.cxN cxN) fun p s1=>Q p.1 (s1.cxN s.cx)):W (Ai envS (runF envS n) 68 [a0]) s Q:=
 W.call (by kernel_rfl) (by kernel_rfl) Do_ (by kernel_rfl) rfl rfl (by simp) (h _ (by kernel_rfl))
theorem Su_:Try.f68.results.toList=[.tmp 2]:=by kernel_rfl
def GO_:List Item:=skim 64 [.code BQ_]
def Dp_:List Item:=skim 64 GO_.tail
def FP_:List Item:=skim 64 Dp_.tail
def Cb_ (E:Env)(call round:Ab)(tm:T Value):M (T Value):=
 M.bind (oS (T.get tm 0) fun a=>kBox a) fun v1=>
 setF 1 v1 tm fun tm1=>
 mv (some .nilFunc) fun v2=>
 setF 2 v2 tm1 fun tm2=>
 M.pure tm2
theorem Ys_:RegEq 68 4 Px GO_ Cb_:={}
def VX (E:Env)(call round:Ab)(tm:T Value):M (T Value):=
 M.bind (oS (seqO []) fun a=>oS (seqO [(T.get tm 1)]) fun b=>M.pure (.func (.func 109) a.toArray b.toArray)) fun v3=>
 mv (some v3) fun v2=>
 setF 2 v2 tm fun tm1=>
 M.pure tm1
theorem Wt_:RegEq 68 4 Px Dp_ VX:={}
theorem Lh_: ∃k,FP_= .code .ret::k:=⟨FP_.tail,by kernel_rfl⟩
def B6:Nat:=Bm Try.f109
abbrev Ef:Nat:=66
def Yq:Code:=Try.f109.body.getD .skip
theorem BX_:envS.fn.get 109=some Try.f109:=by kernel_rfl
theorem Se_ {a0 a1:Value}{n:Nat}{s:St}{Q:Value→St→Prop}(h: ∀tm,T.get tm 0=some a0→T.get tm 1=some a1→W (runF envS n ⟨109,66,B6,tm,[.code Yq], .run, .normal,none⟩) (s.cxN cxN) fun p s1=>Q p.1 (s1.cxN s.cx)):W (Ai envS (runF envS n) 109 [a0,a1]) s Q:=
 W.call (by kernel_rfl) (by kernel_rfl) BX_ (by kernel_rfl) rfl rfl (by simp) (h _ (by kernel_rfl) (by kernel_rfl))
theorem Vi_:Try.f109.results.toList=[]:=by kernel_rfl
def CV_:List Item:=skim 64 [.code Yq]
def Gr:List Item:=skim 64 CV_.tail
def FC_:List Item:=skim 64 Gr.tail
def GW_:List Item:=skim 64 FC_.tail
def L9:List Item:=skim 64 GW_.tail
def DF_:List Item:=skim 64 (brT L9)
def EQ_:List Item:=skim 64 (brF L9)
def H5:List Item:=skim 64 DF_.tail
def PJ:List Item:=skim 64 EQ_.tail
def Abr_:List Item:=skim 64 H5.tail
def G0:List Item:=skim 64 (brT PJ)
def Ky:List Item:=skim 64 (brF PJ)
def Ql:List Item:=skim 64 (brT G0)
def ZH:List Item:=skim 64 (brF G0)
theorem BK_:skim 64 Ky.tail=G0:=by kernel_rfl
theorem SM_:skim 64 Ql.tail=H5:=by kernel_rfl
def Qb:List Item:=skim 64 ZH.tail
def Kj:List Item:=skim 64 (brT Qb)
theorem VB_:skim 64 (brF Qb)=H5:=by kernel_rfl
def PN:List Item:=skim 64 Kj.tail
def X5:List Item:=skim 64 PN.tail
def Bk_:List Item:=skim 64 (brF X5)
theorem SB_:skim 64 Bk_.tail=Gr:=by kernel_rfl
def Gl_ (E:Env)(call round:Ab)(tm:T Value):M (T Value):=
 mv (some (.int .i64 0)) fun v3=>
 setF 3 v3 tm fun tm1=>
 M.pure tm1
theorem LV_:RegEq 109 66 B6 CV_ Gl_:={}
def Nb (E:Env)(call round:Ab)(tm:T Value):M (T Value):=
 M.bind (oS (T.get tm 1) fun a=>Ak E 22 a) fun v11=>
 mv (T.get tm 3) fun v12=>
 M.bind (M.on (some (.func (.func 71) #[] #[])) fun f=>M.on (seqO [(some v11),(some v12)]) fun l=>AC call round f l) fun v13=>
 mv (some v13) fun v10=>
 M.bind (oS (some v10) fun a=>kExt 0 a) fun v14=>
 M.bind (oS (some v10) fun a=>kExt 1 a) fun v15=>
 mv (some v14) fun v4=>
 setF 4 v4 tm fun tm1=>
 mv (some v15) fun v5=>
 setF 5 v5 tm1 fun tm2=>
 M.pure tm2
theorem BA_:RegEq 109 66 B6 Gr Nb:={}
def Lu (E:Env)(call round:Ab)(tm:T Value):M (T Value):=
 mv (some (.int .i64 2)) fun v6=>
 setF 6 v6 tm fun tm1=>
 M.pure tm1
theorem Fs_:RegEq 109 66 B6 FC_ Lu:={}
def N2 (E:Env)(call round:Ab)(tm:T Value):M (T Value):=
 mv (T.get tm 3) fun v17=>
 M.bind (oS (T.get tm 1) fun a=>Ak E 22 a) fun v18=>
 M.bind (oS (seqO [(some v18)]) fun l=>Az E .len [22] l) fun v19=>
 M.bind (oS (some v17) fun a=>oS (some v19) fun b=>Cl.get (aBin E .eql 3 (.tmp 17) (.tmp 19)) a b) fun v20=>
 mv (some v20) fun v16=>
 setF 16 v16 tm fun tm1=>
 M.pure tm1
theorem QG:RegEq 109 66 B6 GW_ N2:={}
theorem OK:A4 L9=some 16:=by kernel_rfl
def Og (E:Env)(call round:Ab)(tm:T Value):M (T Value):=
 mv (some (.int .i64 0)) fun v6=>
 setF 6 v6 tm fun tm1=>
 M.pure tm1
theorem AL_:RegEq 109 66 B6 DF_ Og:={}
def Uv (E:Env)(call round:Ab)(tm:T Value):M (T Value):=
 M.bind (oS (T.get tm 1) fun a=>Ak E 22 a) fun v22=>
 M.bind (oS (seqO [(some v22)]) fun l=>Az E .len [22] l) fun v23=>
 mv (T.get tm 3) fun v24=>
 M.bind (oS (some v23) fun a=>oS (some v24) fun b=>Cl.get (aBin E .sub 3 (.tmp 23) (.tmp 24)) a b) fun v25=>
 M.bind (oS (some v25) fun a=>oS (some (.int .i64 6)) fun b=>Cl.get (aBin E .lss 3 (.tmp 25) (.const (.int .i64 6))) a b) fun v26=>
 mv (some v26) fun v21=>
 setF 21 v21 tm fun tm1=>
 M.pure tm1
theorem Wu_:RegEq 109 66 B6 EQ_ Uv:={}
def SC (E:Env)(call round:Ab)(tm:T Value):M (T Value):=
 mv (T.get tm 0) fun v61=>
 mv (T.get tm 3) fun v62=>
 mv (T.get tm 6) fun v63=>
 M.bind (oS (seqP [(2,(some v63))]) fun ps=>Cj E 97 ps) fun v64=>
 M.bind (M.on (some v61) fun f=>M.on (seqO [(some v62),(some v64)]) fun l=>AC call round f l) fun v65=>
 M.pure tm
theorem Kx_:RegEq 109 66 B6 H5 SC:={}
theorem GF_:A4 PJ=some 21:=by kernel_rfl
theorem Kf:A4 G0=some 21:=by kernel_rfl
def Mq (E:Env)(call round:Ab)(tm:T Value):M ((Rho×T Value)×List OpLog):=
 M.bind (apartO (oS (T.get tm 5) fun a=>M.pure a)) fun p0=>
 M.bind (apartO (oS (some p0.1) fun a=>M.pure a)) fun p1=>
 M.bind (apartO (M.chk (isK p1.1) (M.if (isB p1.1 true) (oS (T.get tm 1) fun a=>Ak E 22 a) (M.pure undef)))) fun p2=>
 M.bind (apartO (M.chk (isK p1.1) (M.if (isB p1.1 true) (oS (seqO [(some p2.1)]) fun l=>Az E .len [22] l) (M.pure undef)))) fun p3=>
 M.bind (apartO (M.chk (isK p1.1) (M.if (isB p1.1 true) (oS (T.get tm 3) fun a=>M.pure a) (M.pure undef)))) fun p4=>
 M.bind (apartO (M.chk (isK p1.1) (M.if (isB p1.1 true) (oS (some p3.1) fun a=>oS (some p4.1) fun b=>Cl.get (aBin E .sub 3 (.tmp 30) (.tmp 31)) a b) (M.pure undef)))) fun p5=>
 M.bind (apartO (M.chk (isK p1.1) (M.if (isB p1.1 true) (oS (T.get tm 4) fun a=>M.pure a) (M.pure undef)))) fun p6=>
 M.bind (apartO (M.chk (isK p1.1) (M.if (isB p1.1 true) (M.on (some (.func (.func 20) #[] #[])) fun f=>M.on (seqO [(some p6.1)]) fun l=>AC call round f l) (M.pure undef)))) fun p7=>
 M.bind (apartO (M.chk (isK p1.1) (M.if (isB p1.1 true) (oS (some p5.1) fun a=>oS (some p7.1) fun b=>Cl.get (aBin E .lss 3 (.tmp 32) (.tmp 34)) a b) (M.pure undef)))) fun p8=>
 M.bind (apartO (M.on (some p1.1) fun a=>M.on (some p8.1) fun b=>M.on (some (.bool false)) fun c=>BM a b c)) fun p9=>
 M.pure (([p9.1,p8.1,p7.1,p6.1,p5.1,p4.1,p3.1,p2.1,p1.1,p0.1],tm),[p9.2,p8.2,p7.2,p6.2,p5.2,p4.2,p3.2,p2.2,p1.2,p0.2])
theorem OC_:DrawEq 109 66 B6 Ky [0,1,3,7,3,31,3,67,255,511,1023] Mq:={}
theorem T7 (E:Env)(call round:Ab)(x27 x28 x29 x30 x31 x32 x33 x34 x35 x36:Value)(tm:T Value)(s:St):Bw call round (BO E B6 66 (hdC Ky)) [x36,x35,x34,x33,x32,x31,x30,x29,x28,x27] tm s=(M.bind (oS (some x36) fun a=>M.pure a) fun v21=>setT 21 v21 tm fun tm1=>M.pure tm1) s:=by kernel_rfl
def VO (E:Env)(call round:Ab)(tm:T Value):M (T Value):=
 mv (some (.int .i64 1)) fun v6=>
 setF 6 v6 tm fun tm1=>
 M.pure tm1
theorem Vq_:RegEq 109 66 B6 Ql VO:={}
def OW (E:Env)(call round:Ab)(tm:T Value):M (T Value):=
 mv (T.get tm 5) fun v38=>
 mv (some v38) fun v37=>
 setF 37 v37 tm fun tm1=>
 M.pure tm1
theorem Xk:RegEq 109 66 B6 ZH OW:={}
theorem US:A4 Qb=some 37:=by kernel_rfl
def DW_ (E:Env)(call round:Ab)(tm:T Value):M (T Value):=
 M.bind (oS (T.get tm 1) fun a=>Ak E 22 a) fun v40=>
 mv (T.get tm 3) fun v41=>
 mv (T.get tm 4) fun v42=>
 M.bind (M.on (some (.func (.func 72) #[] #[])) fun f=>M.on (seqO [(some v40),(some v41),(some v42)]) fun l=>AC call round f l) fun v43=>
 mv (some v43) fun v39=>
 M.bind (oS (some v39) fun a=>kExt 0 a) fun v44=>
 M.bind (oS (some v39) fun a=>kExt 1 a) fun v45=>
 M.bind (oS (some v39) fun a=>kExt 2 a) fun v46=>
 M.bind (Bt E 26) fun v7=>
 setF 7 v7 tm fun tm1=>
 M.bind (oS (some v7) fun a=>oS (some v44) fun b=>A7 E 26 a b) fun _=>
 mv (some v45) fun v8=>
 mv (some v46) fun v9=>
 setF 9 v9 tm1 fun tm2=>
 M.pure tm2
theorem JI_:RegEq 109 66 B6 Kj DW_:={}
def Xz (E:Env)(call round:Ab)(tm:T Value):M (T Value):=
 mv (T.get tm 0) fun v47=>
 mv (T.get tm 3) fun v48=>
 M.bind (oS (T.get tm 7) fun a=>Ak E 26 a) fun v49=>
 mv (T.get tm 3) fun v50=>
 mv (T.get tm 4) fun v51=>
 M.bind (oS (seqP [(0,(some v49)),(1,(some v50)),(2,(some v51))]) fun ps=>Cj E 35 ps) fun v52=>
 mv (T.get tm 9) fun v53=>
 M.bind (oS (seqP [(0,(some v52)),(1,(some v53)),(2,(some (.int .i64 (-1))))]) fun ps=>Cj E 97 ps) fun v54=>
 M.bind (M.on (some v47) fun f=>M.on (seqO [(some v48),(some v54)]) fun l=>AC call round f l) fun v55=>
 M.bind (oS (some v55) fun a=>kUn E.P .not a) fun v56=>
 setF 56 v56 tm fun tm1=>
 M.pure tm1
theorem Aal_:RegEq 109 66 B6 PN Xz:={}
theorem Ph_:A4 X5=some 56:=by kernel_rfl
def Yw (E:Env)(call round:Ab)(tm:T Value):M (T Value):=
 mv (T.get tm 3) fun v57=>
 mv (T.get tm 4) fun v58=>
 M.bind (M.on (some (.func (.func 20) #[] #[])) fun f=>M.on (seqO [(some v58)]) fun l=>AC call round f l) fun v59=>
 M.bind (oS (some v57) fun a=>oS (some v59) fun b=>Cl.get (aBin E .add 3 (.tmp 57) (.tmp 59)) a b) fun v60=>
 mv (some v60) fun v3=>
 setF 3 v3 tm fun tm1=>
 M.pure tm1
theorem Ti_:RegEq 109 66 B6 Bk_ Yw:={}
def B3:Nat:=Bm Try.f24
abbrev EC:Nat:=33
def CL_:Code:=Try.f24.body.getD .skip
theorem Fh_:envS.fn.get 24=some Try.f24:=by kernel_rfl
theorem Ml_ {a0:Value}{n:Nat}{s:St}{Q:Value→St→Prop}(h: ∀tm,T.get tm 0=some a0→W (runF envS n ⟨24,33,B3,tm,[.code CL_], .run, .normal,none⟩) (s.cxN cxN) fun p s1=>Q p.1 (s1.cxN s.cx)):W (Ai envS (runF envS n) 24 [a0]) s Q:=
 W.call (by kernel_rfl) (by kernel_rfl) Fh_ (by kernel_rfl) rfl rfl (by simp) (h _ (by kernel_rfl))
theorem HD_:Try.f24.results.toList=[.cell 2 36, .cell 3 3, .cell 4 3, .cell 5 3]:=by kernel_rfl
def Ds_:List Item:=skim 64 [.code CL_]
def Vs:List Item:=skim 64 Ds_.tail
def EX:List Item:=skim 64 Vs.tail
def Ko:Code:=asC EX
def KY:Code:=bdC EX
theorem Qe_:rfP EX=some (9,[10,11],Ko,KY):=by kernel_rfl
theorem Ro_:TO EX=[.code Ko, .beginRound, .code KY]:=by kernel_rfl
def JZ:List Item:=skim 64 EX.tail
def OS:List Item:=skim 64 (TO EX)
def Eb_:List Item:=skim 64 JZ.tail
def Xo:List Item:=skim 64 OS.tail
def IL:List Item:=skim 64 Xo.tail
def CT_:List Item:=skim 64 IL.tail
def O8:List Item:=skim 64 CT_.tail
def JH:List Item:=skim 64 (brT O8)
def Y6:List Item:=skim 64 (brF O8)
def Hu:List Item:=skim 64 JH.tail
def OD:List Item:=skim 64 Y6.tail
def NJ:List Item:=skim 64 (brT OD)
def PH:List Item:=skim 64 (brF OD)
theorem RG:skim 64 NJ.tail=Hu:=by kernel_rfl
theorem Vv_:skim 64 PH.tail=Hu:=by kernel_rfl
def VZ (E:Env)(call round:Ab)(tm:T Value):M (T Value):=
 M.bind (Bt E 36) fun v2=>
 setF 2 v2 tm fun tm1=>
 M.bind (Bt E 3) fun v3=>
 setF 3 v3 tm1 fun tm2=>
 M.bind (Bt E 3) fun v4=>
 setF 4 v4 tm2 fun tm3=>
 M.bind (Bt E 3) fun v5=>
 setF 5 v5 tm3 fun tm4=>
 M.pure tm4
theorem Tg_:RegEq 24 33 B3 Ds_ VZ:={}
def UW (E:Env)(call round:Ab)(tm:T Value):M (T Value):=
 mv (T.get tm 0) fun v8=>
 M.bind (M.on (some (.func (.func 68) #[] #[])) fun f=>M.on (seqO [(some v8)]) fun l=>AC call round f l) fun v9=>
 setF 9 v9 tm fun tm1=>
 M.pure tm1
theorem PU_:RegEq 24 33 B3 Vs UW:={}
def Si (E:Env)(call round:Ab)(tm:T Value):M ((Rho×T Value)×List OpLog):=
 M.bind (apartO (oS (T.get tm 2) fun a=>Ak E 36 a)) fun p0=>
 M.bind (apartO (oS (T.get tm 3) fun a=>Ak E 3 a)) fun p1=>
 M.bind (apartO (oS (T.get tm 4) fun a=>Ak E 3 a)) fun p2=>
 M.bind (apartO (oS (T.get tm 5) fun a=>Ak E 3 a)) fun p3=>
 M.bind (apartO (oS (T.get tm 2) fun a=>oS (some p0.1) fun b=>A7 E 36 a b)) fun p4=>
 M.bind (apartO (oS (T.get tm 3) fun a=>oS (some p1.1) fun b=>A7 E 3 a b)) fun p5=>
 M.bind (apartO (oS (T.get tm 4) fun a=>oS (some p2.1) fun b=>A7 E 3 a b)) fun p6=>
 M.pure (([p3.1,p2.1,p1.1,p0.1],tm),[p6.2,p5.2,p4.2,p3.2,p2.2,p1.2,p0.2])
theorem Xf_:DrawEq 24 33 B3 JZ [0,0,0,0,1,19,55,127] Si:={}
theorem LS_ (E:Env)(call round:Ab)(x29 x30 x31 x32:Value)(tm:T Value)(s:St):Bw call round (BO E B3 33 (hdC JZ)) [x32,x31,x30,x29] tm s=(M.bind (oS (T.get tm 5) fun a=>oS (some x32) fun b=>A7 E 3 a b) fun _=>M.pure tm) s:=by kernel_rfl
def Cn_ (E:Env)(call round:Ab)(tm:T Value):M (T Value):=
 mv (T.get tm 10) fun v6=>
 setF 6 v6 tm fun tm1=>
 M.pure tm1
theorem PA_:RegEq 24 33 B3 OS Cn_:={}
theorem Tk_: ∃k,Eb_= .code .ret::k:=⟨Eb_.tail,by kernel_rfl⟩
def AU_ (E:Env)(call round:Ab)(tm:T Value):M (T Value):=
 M.bind (Bt E 97) fun v7=>
 setF 7 v7 tm fun tm1=>
 M.bind (oS (some v7) fun a=>oS (T.get tm1 11) fun b=>A7 E 97 a b) fun _=>
 M.pure tm1
theorem HJ_:RegEq 24 33 B3 Xo AU_:={}
theorem Abu_:IL= .beginRound::IL.tail:=by kernel_rfl
def SJ (E:Env)(call round:Ab)(tm:T Value):M (T Value):=
 M.bind (oS (T.get tm 7) fun a=>kFld E 97 a 2) fun v15=>
 M.bind (oS (some v15) fun a=>Ak E 3 a) fun v16=>
 M.bind (oS (some v16) fun a=>oS (some (.int .i64 0)) fun b=>Cl.get (aBin E .geq 3 (.tmp 16) (.const (.int .i64 0))) a b) fun v17=>
 mv (some v17) fun v14=>
 setF 14 v14 tm fun tm1=>
 M.pure tm1
theorem JO_:RegEq 24 33 B3 CT_ SJ:={}
theorem Dk_:A4 O8=some 14:=by kernel_rfl
def RR (E:Env)(call round:Ab)(tm:T Value):M ((Rho×T Value)×List OpLog):=
 M.bind (apartO (oS (T.get tm 6) fun a=>M.pure a)) fun p0=>
 M.bind (apartO (oS (T.get tm 7) fun a=>kFld E 97 a 2)) fun p1=>
 M.bind (apartO (oS (some p1.1) fun a=>Ak E 3 a)) fun p2=>
 M.bind (apartO (oS (T.get tm 3) fun a=>oS (some p0.1) fun b=>A7 E 3 a b)) fun p3=>
 M.pure (([p2.1,p1.1,p0.1],tm),[p3.2,p2.2,p1.2,p0.2])
theorem MP_:DrawEq 24 33 B3 JH [0,0,2,1,15] RR:={}
theorem AbU_ (E:Env)(call round:Ab)(x18 x19 x20:Value)(tm:T Value)(s:St):Bw call round (BO E B3 33 (hdC JH)) [x20,x19,x18] tm s=(M.bind (oS (T.get tm 5) fun a=>oS (some x20) fun b=>A7 E 3 a b) fun _=>M.pure tm) s:=by kernel_rfl
def EM_ (E:Env)(call round:Ab)(tm:T Value):M (T Value):=
 M.bind (oS (T.get tm 7) fun a=>kFld E 97 a 1) fun v22=>
 M.bind (oS (some v22) fun a=>Ak E 4 a) fun v23=>
 mv (some v23) fun v21=>
 setF 21 v21 tm fun tm1=>
 M.pure tm1
theorem Uq_:RegEq 24 33 B3 Y6 EM_:={}
theorem Vk:A4 OD=some 21:=by kernel_rfl
def GM_ (E:Env)(call round:Ab)(tm:T Value):M (T Value):=
 M.bind (oS (T.get tm 2) fun a=>Ak E 36 a) fun v24=>
 M.bind (oS (T.get tm 7) fun a=>kFld E 97 a 0) fun v25=>
 M.bind (oS (some v25) fun a=>Ak E 35 a) fun v26=>
 M.bind (oS (seqP [(0,(some v26))]) fun ps=>BZ E 36 1 ps) fun v27=>
 M.bind (oS (seqO [(some v24),(some v27)]) fun l=>Az E .append [36,36] l) fun v28=>
 M.bind (oS (T.get tm 2) fun a=>oS (some v28) fun b=>A7 E 36 a b) fun _=>
 M.pure tm
theorem WF_:RegEq 24 33 B3 NJ GM_:={}
def QI (E:Env)(call round:Ab)(tm:T Value):M (T Value):=
 M.bind (oS (T.get tm 4) fun a=>Ak E 3 a) fun v12=>
 M.bind (oS (some v12) fun a=>oS (some (.int .i64 1)) fun b=>Cl.get (aBin E .add 3 (.tmp 12) (.const (.int .i64 1))) a b) fun v13=>
 M.bind (oS (T.get tm 4) fun a=>oS (some v13) fun b=>A7 E 3 a b) fun _=>
 M.pure tm
theorem PO_:RegEq 24 33 B3 PH QI:={}
def CH (a:Int):Int:=if a<1∨1024<a then 0 else a+26
theorem Gt {n:Nat}{s:St}{Q:Value→St→Prop}(a:Int)(hn:20≤n)(q:Q (.int .i64 (CH a)) s):W (Ai envS (runF envS n) 20 [.int .i64 a]) s Q:=by
 refine JP_ fun tm h0=> ?_
 refine Abq_.w rfl (by omega) ?_
 simp -implicitDefEqProofs only[T5,Aa,W_mv,Ac]
 refine Km_.w rfl (by omega) ?_
 simp -implicitDefEqProofs only[Df_,Ad,W_oS,W_on,Aa,W_mv,Ac,T.get_set,reduceIte,Ax,A9,AA,reduceCtorEq, ↓reduceIte,Be,h0]
 by_cases h1:a<1
 ·rw[decide_eq_true h1]
  simp -implicitDefEqProofs only[Aa,reduceIte,Ba,Bo, ↓reduceIte]
  refine W.cond (v:=true) rfl N0 (by simp[T.get_set]) (by omega) (fun _=> ?_) fun h=>by cases h
  refine Vz.w rfl (by omega) ?_
  simp -implicitDefEqProofs only[Ot,Aa,W_mv,Ac]
  refine W.end' (rs:=[2]) (vs:=[.int .i64 0]) rfl (.inl V0) (by omega) Jj MP rfl (by simp[T.get_set]) ?_
  have e:CH a=0:=if_pos (.inl h1)
  rw[e]at q
  exact q
 ·rw[decide_eq_false h1]
  simp -implicitDefEqProofs only[W_oS,Aa,reduceIte,A5,Bb,reduceCtorEq, ↓reduceIte,Dl]
  by_cases h2:1024<a
  ·refine W.cond (v:=true) rfl N0 (by simp[T.get_set,h2]) (by omega) (fun _=> ?_) fun h=>by cases h
   refine Vz.w rfl (by omega) ?_
   simp -implicitDefEqProofs only[Ot,Aa,W_mv,Ac]
   refine W.end' (rs:=[2]) (vs:=[.int .i64 0]) rfl (.inl V0) (by omega) Jj MP rfl (by simp[T.get_set]) ?_
   have e:CH a=0:=if_pos (.inr h2)
   rw[e]at q
   exact q
  ·refine W.cond (v:=false) rfl N0 (by simp[T.get_set,h2]) (by omega) (fun h=>by cases h) fun _=> ?_
   refine RO_.w rfl (by omega) ?_
   have ea:wrap64 (a+26)=a+26:=AP (by omega) (by omega)
   simp -implicitDefEqProofs only[Gf_,Ad,W_oS,Aa,W_mv,Ac,T.get_set,reduceIte,reduceCtorEq, ↓reduceIte,By,h0,ea]
   refine W.end' (rs:=[2]) (vs:=[.int .i64 (a+26)]) rfl (.inl UW_) (by omega) Jj MP rfl (by simp[T.get_set]) ?_
   have e:CH a=a+26:=if_neg fun h=>h.elim h1 h2
   rw[e]at q
   exact q
theorem Ra_ (m:Nat)(hm:m≤255):Nat.xor 255 m=255-m:=by
 have h: ∀m:Fin 256,Nat.xor 255 m.val=255-m.val:=by decide+kernel
 exact h ⟨m,by omega⟩
theorem Il_ (P:Program)(m:Nat)(hm:m≤255)(s:St):kUn P .xor (.int .u8 (m:Nat)) s= .some (.int .u8 (255-m:Nat)) s:=by
 show Option.rec (motive:=fun _=>M Value) (C3 P .xor (.int .u8 (.ofNat m))) (fun x=>M.pure x) (notK .u8 m) s=_
 have:notK .u8 m=some (.int .u8 (255-m:Nat)):=by
  unfold notK
  show sOpt true (fitI .u8 (Nat.xor 255 m))=_
  rw[Ra_ m hm]
  unfold fitI
  rw[Nat.ble_eq_true_of_le (show 255-m≤mxOf .u8 from Nat.sub_le _ _)]
  show mkI .u8 (255-m)=_
  unfold mkI
  rw[AB]
  rfl
 rw[this]
 rfl
theorem Kd {P:Program}{m:Nat}{s:St}(hm:m≤255)(Q:Value→St→Prop):W (kUn P .xor (.int .u8 (m:Nat))) s Q=Q (.int .u8 (255-m:Nat)) s:=Bl (Il_ P m hm s)
theorem Mk_:arrN envS 89=some (6,1):=by kernel_rfl
theorem MB:tyS envS 89=some (6,true):=by kernel_rfl
theorem LX_:Du envS 89=some (List.replicate 6 (.int .u8 0)):=by kernel_rfl
theorem Lv_ (a b c d e f:Nat):Df envS 89 [(0, .int .u8 (a:Nat)),(1, .int .u8 (b:Nat)),(2, .int .u8 (c:Nat)),(3, .int .u8 (d:Nat)),(4, .int .u8 (e:Nat)),(5, .int .u8 (f:Nat))]=some (u8l [a,b,c,d,e,f]):=by kernel_rfl
def Cf (n:Nat):List Nat:=[n>>>8%256,n%256,255-n>>>8%256,255-n%256]
def Do (n:Nat):List Nat:=[n>>>8%256,n%256,255-n>>>8%256,255-n%256,Cu 0 (Cf n)%256,Cu 0 (Cf n)>>>8%256]
theorem RE (n:Nat):Byt (Cf n):=fun x hx=>by
 simp -implicitDefEqProofs only[Cf,List.mem_cons,List.not_mem_nil,or_false]at hx
 omega
theorem QL_ (n:Nat):Byt (Do n):=fun x hx=>by
 simp -implicitDefEqProofs only[Do,List.mem_cons,List.not_mem_nil,or_false]at hx
 omega
theorem Aad_ {k n:Nat}{s:St}{Q:Value→St→Prop}(hbd:s.lim≤s.next)(hn:40≤n)(q: ∀s1,Ext Non Non s s1→Q (.agg (u8l (Do k)).toArray) s1):W (Ai envS (runF envS n) 62 [.int .i64 (k:Nat)]) s Q:=by
 refine TR_ fun tm h0=> ?_
 refine YH_.w rfl (by omega) ?_
 simp -implicitDefEqProofs only[Ts,Ad,Aa,Ac]
 refine W.alloc LX_ fun sa na xa oa=> ?_
 have na':sa.next=s.next+7:=na
 have hxa:Ext Non Non (s.cxN cxN) sa:=xa
 refine Xq_.w rfl (by omega) ?_
 simp -implicitDefEqProofs only[Va,Ad,W_oS,Aa,W_mv,Ac,T.get_set,reduceIte,reduceCtorEq, ↓reduceIte,h0,Gv (k:= .i64) (by decide),CO KI DP,wrap_u8]
 refine AaZ_.w rfl (by omega) ?_
 have m1:k>>>8%256≤255:=by omega
 have m2:k%256≤255:=by omega
 simp -implicitDefEqProofs only[Ff_,Ad,W_oS,W_on,Aa,W_mv,Ac,T.get_set,Ah,Ag,A8,A2,Af,Ar,reduceIte,Nat.reduceEqDiff, ↓reduceIte,Kd m1,Kd m2]
 refine W.buildS (xa.bnd hbd) (r:=u8l (Cf k)) CU (by decide) rfl (Bh (by decide)) fun sb nb xb ob=> ?_
 have hxb:Ext Non Non (s.cxN cxN) sb:=hxa.step xb hbd (fun _ _ h=>h.elim) fun _ h=>h.elim
 have hB:Bs sb (.slice (some ⟨sa.next,0,none⟩) 4 4) (Cf k):=Ae.bn ob (Bh (by simp[Cf]))
 refine EN_ (by omega) (hB.bn' (by simp[Cf])) (RE k) (by simp[Cf]) fun sc mc nc xc=> ?_
 have hxc:Ext Non Non (s.cxN cxN) sc:=hxb.step xc hbd (fun x hx h=>by
  have h2:x<s.lim:=hx
  have h3:sa.next+0≤x:=h.1
  omega) fun _ h=>h.elim
 have hoc:A3 sc s.next 0 6:=((Ae.owned oa).ext1 xb fun _ _ h=>h).ext1 xc fun _ _ h=>h
 refine Qh_.w rfl (by omega) ?_
 generalize hS:Cu 0 (Cf k)=S
 simp -implicitDefEqProofs only[Wp,Ad,W_oS,Aa,W_mv,T.get_set,A8,A2,Af,reduceIte,Nat.reduceEqDiff, ↓reduceIte,Kd m1,Kd m2,CO Gg DP,wrap_u8,Gv (k:= .u32) (by decide),D6 (Lv_ _ _ _ _ _ _)]
 refine W.store MB rfl (BT _) hoc fun sd nd xd od=> ?_
 have hG: ∀x,In s.next 0 6 x→s.next≤x:=fun x h=>by have:=h.1;omega
 have hxd:Ext Non Non (s.cxN cxN) sd:=hxc.step xd hbd (fun x hx h=>by
  have h2:x<s.lim:=hx
  have:=hG x h
  omega) hG
 refine W.endC (r:=2) rfl (.inl TG_) (by omega) GC_ Vb_ hxd.cx (by simp[T.get_set];rfl) ?_
 refine W.loadA MB od.row rfl fun se me ne xe=> ?_
 have hxe:Ext Non Non (s.cxN cxN) se:=hxd.step xe hbd (fun x hx h=>by
  have h2:x<s.lim:=hx
  have:=hG x h
  omega) fun _ h=>h.elim
 have:=q _ hxe.cx'
 unfold Do at this
 rw[hS]at this
 exact this
theorem KN:hasT envS 5=true:=by kernel_rfl
theorem JS:intK envS 3=some .i64:=by kernel_rfl
theorem wrap_i64 (n:Nat)(h:n<9223372036854775808):IntKind.i64.wrap ((n:Nat):Int)=((n:Nat):Int):=by
 rw[←Km]
 exact AP (by omega) (by omega)
def len2 (a b:Nat):Nat:=a<<<8|||b
theorem Ed_ {a b:Nat}(ha:a<256)(hb:b<256):a<<<8<65536∧len2 a b<65536:=by
 have h:a<<<8<2^16:=by rw[Nat.shiftLeft_eq];omega
 exact⟨h,Nat.or_lt_two_pow h (by omega)⟩
theorem MZ_ {n k:Nat}{s:St}{v:Value}{l:List Nat}{Q:Value→St→Prop}(hbd:s.lim≤s.next)(hbs:Bs s v l)(hby:Byt l)(hk:k+6≤l.length)(hz:l.length≤1000000)(hn:60≤n)
  (q: ∀n' tm' s1 td',n≤n'+10→skim 64 td'=IN→Ext (BsF v) Non (s.cxN cxN) s1→s1.mem=s.mem→s1.next=s.next→T.get tm' 0=some v→T.get tm' 1=some (.int .i64 (k:Nat))→T.get tm' 6=some (.int .i64 (len2 (l.getD k 0) (l.getD (k+1) 0):Nat))→W (runF envS n' ⟨71,CS_,D2,tm',td', .run, .normal,none⟩) s1 fun p s2=>Q p.1 (s2.cxN s.cx)):W (Ai envS (runF envS n) 71 [v, .int .i64 (k:Nat)]) s Q:=by
 refine Nw fun tm h0 h1=> ?_
 have hb0:Bs (s.cxN cxN) v l:=hbs.same rfl rfl
 have hka:k<l.length:=by omega
 have hkb:k+1<l.length:=by omega
 refine NQ.w rfl (by omega) ?_
 simp -implicitDefEqProofs only[IC,Aa,W_mv,Ac]
 refine MH.w rfl (by omega) ?_
 have e6:wrap64 (((l.length:Nat):Int)-6)=((l.length-6:Nat):Int):=by
  rw[AP (by omega) (by omega)];omega
 simp -implicitDefEqProofs only[K8,Ad,W_oS,W_on,Aa,W_mv,Ac,T.get_set,Ah,Ag,Af,reduceIte,Ax,A9,AA,Nat.reduceEqDiff,reduceCtorEq, ↓reduceIte,Be,h0,h1]
 rw[decide_eq_false (show ¬((k:Nat):Int)<0 by omega)]
 simp -implicitDefEqProofs only[W_oS,Aa,reduceIte,A5,Bb,reduceCtorEq, ↓reduceIte,Cm,Dl,hb0.len AE,e6]
 refine W.cond (v:=false) rfl Iy (by simp[T.get_set];omega) (by omega) (fun h=>by cases h) fun _=> ?_
 obtain⟨ba,oa,ca,rfl,ga,fa⟩:=hb0.at hka
 obtain⟨bb,ob,cb,e,gb,fb⟩:=hb0.at hkb
 cases e
 refine OR_.w rfl (by omega) ?_
 have hA:l[k]<256:=hby _ (List.getElem_mem hka)
 have hB:l[k+1]<256:=hby _ (List.getElem_mem hkb)
 obtain⟨hs1,hs2⟩:=Ed_ hA hB
 have ei:wrap64 ((k:Nat)+1:Int)=((k+1:Nat):Int):=by
  rw[AP (by omega) (by omega)];simp
 simp -implicitDefEqProofs only[Ar_,T.get_set,Nat.reduceEqDiff, ↓reduceIte,h0,h1,BG,Ap]
 rw[W_dq fun s Q=>CS (s:=s) AE hka Q]
 refine W.dload CG (ga.same rfl rfl) fun rd1 hr1=> ?_
 rw[W_dq fun s Q=>CO (s:=s) KN JS Q,wrap_i64 _ (by omega),W_dq fun s Q=>Zw_ (s:=s) (by omega) Q]
 simp -implicitDefEqProofs only[Ap]
 rw[W_dq fun s Q=>By (s:=s) ((k:Nat):Int) 1,ei,W_dq fun s Q=>CS (s:=s) AE hkb Q]
 refine W.dload CG (gb.same rfl rfl) fun rd2 hr2=> ?_
 rw[W_dq fun s Q=>CO (s:=s) KN JS Q,wrap_i64 _ (by omega),W_dq fun s Q=>W_or (s:=s) (show l[k]<<<8|||l[k+1]≤9223372036854775807 from by unfold len2 at hs2;omega) Q]
 rw[Aa]
 refine⟨Dn (by simp) (by simp), ?_⟩
 refine W.cast (JQ_ _ _ _ _ _ _ _ _ _ _ _ _ _ _ _ _ _ _) ?_
 simp -implicitDefEqProofs only[Ad,W_oS,Aa,AJ]
 generalize hs':(⟨(dSt (s.cxN cxN).mem (s.cxN cxN).next).mem,(dSt (s.cxN cxN).mem (s.cxN cxN).next).next,(s.cxN cxN).lim,_,_,(s.cxN cxN).cx⟩:St)=s'
 have hx':Ext (BsF (.slice (some ⟨ba,oa,none⟩) l.length ca)) Non (s.cxN cxN) s':=by
  rw[←hs']
  refine Ext.draw (F:=BsF (.slice (some ⟨ba,oa,none⟩) l.length ca)) (Nat.le_refl _) (fun _ _=>rfl) (by simp) (by
   simp -implicitDefEqProofs only[List.mem_cons,List.not_mem_nil,or_false]
   rintro m (rfl|rfl|rfl|rfl|rfl|rfl|rfl|rfl|rfl|rfl|rfl|rfl|rfl) x hx _<;>first|(exact fa _ (hr1 _ hx))|(exact fb _ (hr2 _ hx))|(cases hx))
 have hm':s'.mem=s.mem:=by rw[←hs'];rfl
 have hn':s'.next=s.next:=by rw[←hs'];rfl
 refine q _ _ s' _ (by omega) rfl hx' hm' hn' (by simp[T.get_set,h0]) (by simp[T.get_set,h1]) ?_
 rw[List.getD_eq_getElem?_getD,List.getD_eq_getElem?_getD,List.getElem?_eq_getElem hka,List.getElem?_eq_getElem hkb]
 simp[T.get_set,len2]
theorem Ko_ {n k:Nat}{s:St}{v:Value}{l:List Nat}{Q:Value→St→Prop}(hbs:Bs s v l)(hk:l.length<k+6)(hz:l.length≤1000000)(hn:60≤n)(q:Q (.tuple #[.int .i64 0, .bool false]) s):W (Ai envS (runF envS n) 71 [v, .int .i64 (k:Nat)]) s Q:=by
 refine Nw fun tm h0 h1=> ?_
 have hb0:Bs (s.cxN cxN) v l:=hbs.same rfl rfl
 refine NQ.w rfl (by omega) ?_
 simp -implicitDefEqProofs only[IC,Aa,W_mv,Ac]
 refine MH.w rfl (by omega) ?_
 have e6:wrap64 (((l.length:Nat):Int)-6)=((l.length:Nat):Int)-6:=AP (by omega) (by omega)
 simp -implicitDefEqProofs only[K8,Ad,W_oS,W_on,Aa,W_mv,Ac,T.get_set,Ah,Ag,Af,reduceIte,Ax,A9,AA,Nat.reduceEqDiff,reduceCtorEq, ↓reduceIte,Be,h0,h1]
 rw[decide_eq_false (show ¬((k:Nat):Int)<0 by omega)]
 simp -implicitDefEqProofs only[W_oS,Aa,reduceIte,A5,Bb,reduceCtorEq, ↓reduceIte,Cm,Dl,hb0.len AE,e6]
 refine W.cond (v:=true) rfl Iy (by simp[T.get_set];omega) (by omega) (fun _=> ?_) fun h=>by cases h
 refine Tv.w rfl (by omega) ?_
 simp -implicitDefEqProofs only[Ob,Aa,W_mv,Ac]
 exact W.end' (rs:=[4,5]) (vs:=[.int .i64 0, .bool false]) rfl (.inl UV) (by omega) Hm KM rfl (by simp[T.get_set]) q
section
variable {α:Type}
theorem Cw (m:M α):M.chk true m=m:=rfl
theorem if_t (x y:M α):M.if true x y=x:=rfl
theorem if_f (x y:M α):M.if false x y=y:=rfl
theorem Dc (call round:Ab)(f:Nat)(l:List Value):AC call round (.func (.func f) #[] #[]) l=call f l:=by
 show call f ([]++(l++[]))=_
 rw[List.append_nil,List.nil_append]
end
theorem Fa {n0:Nat}{l:List OpLog}{bef:List Nat}(hl:l.length≤bef.length)(h: ∀m∈l,m.wr=[]∧ ∀x∈m.rd,x<n0):CL n0 l bef=true:=
 WD hl (fun k m b e1 _=>⟨(h m (List.mem_of_getElem? e1)).1,fun i a _ _=> .inr fun x hx hn=>absurd ((h m (List.mem_of_getElem? e1)).2 x hx) (Nat.not_lt_of_le hn)⟩) fun m hm=>(h m hm).1
theorem Xk_:arrB envS.P 89=some 6:=by kernel_rfl
def A1 (l:List Nat)(k:Nat):Nat:=len2 (l.getD k 0) (l.getD (k+1) 0)
def Cp (l:List Nat)(k:Nat):Bool:=decide (1≤A1 l k∧A1 l k≤1024)&&decide ((l.take (k+6)).drop k=Do (A1 l k))
theorem ZG (n:Nat):(Do n).length=6:=rfl
theorem GZ_ (n:Nat):decide (0<CH ((n:Nat):Int))=decide (1≤n∧n≤1024):=by
 unfold CH
 by_cases h:((n:Nat):Int)<1∨1024<((n:Nat):Int)
 ·rw[if_pos h,decide_eq_decide];omega
 ·rw[if_neg h,decide_eq_decide];omega
theorem Lo_ {n k:Nat}{s:St}{v:Value}{l:List Nat}{Q:Value→St→Prop}(hbd:s.lim≤s.next)(hbs:Bs s v l)(hby:Byt l)(hk:k+6≤l.length)(hz:l.length≤1000000)(hn:200≤n)
  (q: ∀s1,Ext (BsF v) Non s s1→Q (.tuple #[.int .i64 (A1 l k:Nat), .bool (Cp l k)]) s1):W (Ai envS (runF envS n) 71 [v, .int .i64 (k:Nat)]) s Q:=by
 refine MZ_ hbd hbs hby hk hz (by omega) fun n' tm' s1 td' hn' hT hx1 hm1 hn1 h0 h1 h6=> ?_
 have hne:l≠[]:=fun h=>by rw[h]at hk;simp at hk
 have hB1:Bn s1 v l:=(hbs.bn' hne).same hm1 hn1
 have hb1:s1.lim≤s1.next:=hx1.bnd hbd
 have hNN:len2 (l.getD k 0) (l.getD (k+1) 0)=A1 l k:=rfl
 rw[hNN]at h6
 unfold Cp at q
 generalize A1 l k=N at h6 q
 rw[←GZ_]at q
 refine NR_.w hT (by omega) ?_
 simp -implicitDefEqProofs only[WR,h0,h1,h6,BG,Ck,Ah,Ag,Af,Dc,Ap]
 refine W.dop0 (Gt _ (by omega) ⟨rfl, ?_⟩)
 rw[W_dq fun s Q=>Dl (s:=s) _ _]
 simp -implicitDefEqProofs only[Ap,Ax,Cw]
 cases hp:decide (0<CH ((N:Nat):Int))with
 |false=>
  rw[hp]at q
  simp -implicitDefEqProofs only[Bv,if_f,Ap]
  rw[W_dq fun s Q=>AA (s:=s) _ _ _ _]
  simp -implicitDefEqProofs only[Bool.false_eq_true,reduceIte,Ap,AJ,Aa]
  refine⟨Dn (by simp) (by simp), ?_⟩
  refine W.cast (CR_ _ _ _ _ _ _ _ _ _ _ _ _ _ _ _ _ _ _ _ _ _ _) ?_
  simp -implicitDefEqProofs only[Ad,W_oS,Aa,AJ]
  refine W.end' (rs:=[4,5]) (vs:=[.int .i64 (N:Nat), .bool false]) rfl (.inl Zo) (by omega) Hm KM hx1.cx (by simp[T.get_set]) (q _ ?_)
  refine(hx1.step (Ext.drawG (F:=BsF v) (G:=Non) (Nat.le_refl _) (fun _ _ _=>rfl) (by simp) (by simp)) hbd (fun _ _ h=>h) fun _ h=>h.elim).cx'
 |true=>
  rw[hp]at q
  simp -implicitDefEqProofs only[Bp,if_t,Ap]
  have e6:wrap64 (((k:Nat):Int)+6)=((k+6:Nat):Int):=by
   rw[AP (by omega) (by omega)];omega
  rw[W_dq fun s Q=>By (s:=s) _ _,e6]
  have hBo:Bn (oSt s1.mem s1.next) v l:=hB1.same rfl rfl
  refine W.dop0 (W.cut hBo AE (i:=k) (j:=k+6) rfl rfl (by omega) hk fun v' hv' hF'=>⟨rfl, ?_⟩)
  obtain⟨b,o,c,rfl,g1,g2,g3⟩:=hv'
  have hlen:((l.take (k+6)).drop k).length=6:=by rw[List.length_drop,List.length_take];omega
  generalize (l.take (k+6)).drop k=seg at *
  have hrow:Row (dSt s1.mem s1.next) b o (u8l seg):=fun i u e=>(g3 i u e).same rfl rfl
  rw[W_dq fun s Q=>Po (s:=s) Mk_ (show 6≤seg.length by omega) (by omega) Q]
  refine W.dloadA MB hrow (by rw[A6];exact hlen) fun mem1 rd1 hm hr=> ?_
  subst hm
  simp -implicitDefEqProofs only[Ap]
  refine W.dop (Aad_ (Nat.le_refl _) (by omega) fun s2 x2=>⟨Non,x2,fun rd2 hr2=> ?_⟩)
  rw[W_dq fun s Q=>Lh (s:=s) Xk_ hlen (ZG N) Q]
  rw[W_dq fun s Q=>AA (s:=s) _ _ _ _]
  simp -implicitDefEqProofs only[reduceIte,Ap,AJ,Aa]
  have hold: ∀x,In b o 6 x→x<s1.next:=fun x hx=>by
   have h5:=(g3 (x-(b+o)) _ (List.getElem?_eq_getElem (show x-(b+o)<(u8l seg).length by rw[A6,hlen];have:=hx.1;have:=hx.2;omega))).1
   have h6:b+(o+(x-(b+o)))<s1.next:=h5
   have:=hx.1
   omega
  have hrd2: ∀x∈rd2,False:=fun x hx=>(hr2 x hx).2
  refine⟨Fa (by simp) (by
   simp -implicitDefEqProofs only[List.reverse_cons,List.reverse_nil,List.nil_append,List.cons_append,List.mem_cons,List.not_mem_nil,or_false]
   rintro m (rfl|rfl|rfl|rfl|rfl|rfl|rfl|rfl|rfl|rfl|rfl|rfl|rfl|rfl|rfl|rfl|rfl)<;>refine⟨rfl,fun x hx=> ?_⟩<;>first|(exact hold _ (hr _ hx))|(exact(hrd2 _ hx).elim)|(cases hx)), ?_⟩
  refine W.cast (CR_ _ _ _ _ _ _ _ _ _ _ _ _ _ _ _ _ _ _ _ _ _ _) ?_
  simp -implicitDefEqProofs only[Ad,W_oS,Aa,AJ]
  have hx9:Ext (BsF v) Non (s.cxN cxN) s1:=hx1
  refine W.end' (rs:=[4,5]) (vs:=[.int .i64 (N:Nat), .bool (decide (seg=Do N))]) rfl (.inl Zo) (by omega) Hm KM hx1.cx (by simp[T.get_set]) ?_
  rw[Bool.true_and]at q
  refine q _ (hx9.step (Ext.drawG (F:=BsF v) (G:=Non) x2.nxt (fun x hx _=>x2.mem x hx id) (by
    simp -implicitDefEqProofs only[List.mem_cons,List.not_mem_nil,or_false]
    rintro m (rfl|rfl|rfl|rfl|rfl|rfl|rfl|rfl|rfl|rfl|rfl|rfl|rfl|rfl|rfl|rfl|rfl) x hx<;>cases hx) (by
    simp -implicitDefEqProofs only[List.mem_cons,List.not_mem_nil,or_false]
    rintro m (rfl|rfl|rfl|rfl|rfl|rfl|rfl|rfl|rfl|rfl|rfl|rfl|rfl|rfl|rfl|rfl|rfl) x hx _<;>first|(exact hF' _ ⟨(hr _ hx).1,by rw[hlen];exact(hr _ hx).2⟩)|(exact(hrd2 _ hx).elim)|(cases hx))) hbd (fun _ _ h=>h) fun _ h=>h.elim).cx'
def Co (l:List Nat)(k:Nat):Nat×Bool:=if k+6≤l.length then(A1 l k,Cp l k)else(0,false)
theorem J1 {n k:Nat}{s:St}{v:Value}{l:List Nat}{Q:Value→St→Prop}(hbd:s.lim≤s.next)(hbs:Bs s v l)(hby:Byt l)(hz:l.length≤1000000)(hn:200≤n)
  (q: ∀s1,Ext (BsF v) Non s s1→Q (.tuple #[.int .i64 ((Co l k).1:Nat), .bool (Co l k).2]) s1):W (Ai envS (runF envS n) 71 [v, .int .i64 (k:Nat)]) s Q:=by
 unfold Co at q
 by_cases hk:k+6≤l.length
 ·rw[if_pos hk]at q
  exact Lo_ hbd hbs hby hk hz hn q
 ·rw[if_neg hk]at q
  exact Ko_ hbs (by omega) hz (by omega) (q s (Ext.refl s))
theorem Bn.lt {s:St}{v:Value}{l:List Nat}(h:Bn s v l): ∀x,BsF v x→x<s.next:=fun x hx=>by
 obtain⟨b,o,c,rfl,_,_,h3⟩:=h
 obtain⟨h1,h2⟩:=hx
 have hi:x-(b+o)<(u8l l).length:=by rw[A6];omega
 have h5:=(h3 (x-(b+o)) _ (List.getElem?_eq_getElem hi)).1
 have h6:b+(o+(x-(b+o)))<s.next:=h5
 omega
theorem Jg:arrB envS.P 26=some 16:=by kernel_rfl
theorem AaK_:Df envS 26 []=some (u8l (List.replicate 16 0)):=by kernel_rfl
def CE (l:List Nat)(k n:Nat):List Nat:=(l.take (k+26+n)).drop (k+6)
theorem PS {l:List Nat}{k n:Nat}(h:k+26+n≤l.length):(CE l k n).length=n+20:=by
 unfold CE
 rw[List.length_drop,List.length_take]
 omega
def Ca (l:List Nat)(k n:Nat):List Nat:=(CE l k n).take (n+16)
theorem G6 {l:List Nat}{k n:Nat}(h:k+26+n≤l.length):(Ca l k n).length=n+16:=by
 unfold Ca
 rw[List.length_take,PS h]
 omega
def BH (l:List Nat)(k n:Nat):List Nat:=(Ca l k n).take 16
def BJ (l:List Nat)(k n:Nat):List Nat:=(Ca l k n).drop 16
theorem Fz {l:List Nat}{k n:Nat}(h:k+26+n≤l.length):(BH l k n).length=16:=by
 unfold BH
 rw[List.length_take,G6 h]
 omega
theorem K4 {l:List Nat}{k n:Nat}(h:k+26+n≤l.length):(BJ l k n).length=n:=by
 unfold BJ
 rw[List.length_drop,G6 h]
 omega
theorem H3 {l m:List Nat}(h:Byt l)(hs: ∀x∈m,x∈l):Byt m:=fun x hx=>h x (hs x hx)
theorem MO {l:List Nat}(h:Byt l)(k n:Nat):Byt (CE l k n):=H3 h fun x hx=>List.mem_of_mem_take (List.mem_of_mem_drop hx)
theorem Bb_ {l:List Nat}(h:Byt l)(k n:Nat):Byt (Ca l k n):=H3 (MO h k n) fun x hx=>List.mem_of_mem_take hx
structure MkO (s:St)(v:Value)(l:List Nat)(b o:Nat):Prop where
 val:v= .slice (some ⟨b,o,none⟩) l.length (capU*((b+o+l.length)*1024+1)+l.length)
 own:Ae s b o (u8l l)
 tok:T.get s.mem (b+o+l.length)=some (.O (.tok false 1025))
 lt:b+o+l.length<s.next
theorem MkO.same {s s':St}{v:Value}{l:List Nat}{b o:Nat}(h:MkO s v l b o)(hm:s'.mem=s.mem)(hn:s'.next=s.next):MkO s' v l b o:=
 ⟨h.val,fun i u e=>(h.own i u e).same hm hn,by rw[hm];exact h.tok,by rw[hn];exact h.lt⟩
theorem MkO.ext {F G:Nat→Prop}{s s':St}{v:Value}{l:List Nat}{b o:Nat}(h:MkO s v l b o)(e:Ext F G s s')(hG: ∀x,In b o (l.length+1) x→ ¬G x):MkO s' v l b o:=
 ⟨h.val,fun i u q=>(h.own i u q).ext e (hG _ ⟨by omega,by have:=(List.getElem?_eq_some_iff.1 q).1;rw[A6]at this;omega⟩),by rw[e.mem _ h.lt (hG _ ⟨by omega,by omega⟩)];exact h.tok,Nat.lt_of_lt_of_le h.lt e.nxt⟩
theorem MkG.cut {E:Env}{t:Nat}{s:St}{v:Value}{l:List Nat}{b i:Nat}{lo:Option Value}{Q:Value→St→Prop}(h:MkG s v l b)(ht:slN E t=some 1)(hlo:bndV lo 0=some i)(hi:i<l.length)(hz:l.length≤1073741824)
  (q: ∀v',MkO s v' (l.drop i) b i→Q v' s):W (BB E t v lo none) s Q:=by
 have hm:=FM (q:=(b+l.length)*1024+1) (Bh hz)
 have hok:=Ey (m:=b+l.length) (sz:=1) (Bh hz) (by decide)
 rw[h.val,Gm ht hlo (h:=l.length) rfl (Nat.le_of_lt hi) (by rw[hm];exact Nat.le_refl _) hok,if_pos (by rw[hm];exact hi)]
 have hl:(l.drop i).length=l.length-i:=List.length_drop
 have e1:b+i+(l.length-i)=b+l.length:=by omega
 refine q _ ⟨?_, ?_,by rw[hl,e1];exact h.tok,by rw[hl,e1];exact h.lt⟩
 ·rw[hl,e1,Nat.zero_add,Nat.mul_one]
  congr 1
  omega
 ·have:=Ae.drop (n:=i) h.own
  rw[Nat.zero_add]at this
  unfold u8l
  rw[List.map_drop]
  exact this
theorem YD_ {C6 C11 n k m:Nat}{w:Value}{l:List Nat}{tm:T Value}{td:List Item}{s s0:St}{Q:Value→St→Prop}(hb:s.lim≤s.next)(hlen:k+26+m≤l.length)(hby:Byt l)(hm0:m≤1024)(hm1:1≤m)(hn:25000≤n)(hcx:s.cx=cxN)(hs0:s0.next≤C6)(h611:C6+16≤C11)(h11:C11+16≤s.next)
  (hw:Bn s w (Ca l k m)) (hwn: ∀x,BsF w x→s0.next≤x∧ ¬In C6 0 16 x) (ho6:A3 s C6 0 16) (ho11:Ae s C11 0 (u8l (BH l k m))) (hT:skim 64 td=J9) (h6:T.get tm 6=some (.pointer (some ⟨C6,0,none⟩))) (h9:T.get tm 9=some w) (h11t:T.get tm 11=some (.pointer (some ⟨C11,0,none⟩)))
  {nb:Nat} (hM:MkG s w (Ca l k m) nb) (hnb:C6+16≤nb)
  (q: ∀s1 w1,Ext (fun x=>s0.next≤x) (fun x=>s0.next≤x) s s1→MkO s1 w1 (BJ l k m) nb 16→Q (.tuple #[.agg (u8l (BH l k m)).toArray,w1, .bool (decide (idB (BJ l k m)=BH l k m))]) (s1.cxN s0.cx)):
  W (runF envS n ⟨72,Dn_,D4,tm,td, .run, .normal,none⟩) s fun p s1=>Q p.1 (s1.cxN s0.cx):=by
 have hI:=Fz hlen
 have hC:=K4 hlen
 have hX:=G6 hlen
 have hIl:(u8l (BH l k m)).length=16:=by rw[A6];exact hI
 refine Aay_.w hT (by omega) ?_
 simp -implicitDefEqProofs only[GL_,h6,h9,h11t,BG,Ck,Ah,Ag,Af,Dc]
 have ho11':Ae (dSt s.mem s.next) C11 0 (u8l (BH l k m)):=fun i v e=>(ho11 i v e).same rfl rfl
 refine W.dloadA BL ho11'.row hIl fun mem1 rd1 hm1' hr1=> ?_
 subst hm1'
 simp -implicitDefEqProofs only[Ap]
 have hwo:Bn (oSt s.mem s.next) w (Ca l k m):=hw.same rfl rfl
 have htk:((Ca l k m).take (n:=(Ca l k m).length)).drop 16=BJ l k m:=by rw[List.take_length];rfl
 refine W.dop0 (MkG.cut (hM.same (s':=oSt s.mem s.next) rfl rfl) AE (i:=16) rfl (by omega) (by omega) fun w1 hw1=>⟨rfl, ?_⟩)
 have hw1:MkO (oSt s.mem s.next) w1 (BJ l k m) nb 16:=hw1
 simp -implicitDefEqProofs only[Ap]
 refine W.dop0 (W.cut hwo AE (i:=16) (j:=(Ca l k m).length) rfl rfl (by omega) (Nat.le_refl _) fun w2 hw2 hF2=>⟨rfl, ?_⟩)
 rw[htk]at hw2
 refine W.dop (WB_ (Nat.le_refl _) hw2.bs (fun x hx=>hw2.lt x hx) (H3 (Bb_ hby k m) fun x hx=>List.mem_of_mem_drop hx) (by omega) (by omega) fun s2 x2=>⟨BsF w2,x2,fun rd2 hr2=> ?_⟩)
 have hn2:s.next≤s2.next:=x2.nxt
 have ho11s:Ae s2 C11 0 (u8l (BH l k m)):=fun i v e=>((ho11 i v e).same (s':=oSt s.mem s.next) rfl rfl).ext0 x2
 refine W.dloadA BL (fun i v e=>((ho11s i v e).same (s':=dSt s2.mem s2.next) rfl rfl).at') hIl fun mem3 rd3 hm3 hr3=> ?_
 subst hm3
 rw[W_dq fun s Q=>Lh (s:=s) Jg (K1 _) hI Q]
 have ho6s:A3 (oSt s2.mem s2.next) C6 0 16:=fun j hj=>by
  obtain⟨u,hu⟩:=ho6 j hj
  exact⟨u,((hu.same (s':=oSt s.mem s.next) rfl rfl).ext0 x2).same rfl rfl⟩
 refine W.dopG (W.store BL hIl (BT _) ho6s fun s3 n3 x3 o3=>⟨In C6 0 16,In C6 0 16,x3,fun rd4 wr4 hr4 hw4=> ?_⟩)
 simp -implicitDefEqProofs only[Ap,AJ,Aa]
 have n3':s3.next=s2.next:=n3
 have lt6: ∀x,In C6 0 16 x→x<s.next:=fun x h=>by have:=h.2;omega
 have lt11: ∀x,In C11 0 16 x→x<s.next:=fun x h=>by have:=h.2;omega
 refine⟨EJ ?_, ?_⟩
 ·simp -implicitDefEqProofs only[List.reverse_cons,List.reverse_nil,List.nil_append,List.cons_append,allP,Dm,List.take,D9]
  have f1: ∀x,x∈rd1→ ¬s.next≤x:=fun x hx=>Nat.not_le_of_lt (lt11 x (hr1 x hx))
  have f2: ∀x,x∈rd2→ ¬s.next≤x:=fun x hx=>Nat.not_le_of_lt (hr2 x hx).1
  have f3: ∀x,x∈rd3→ ¬s.next≤x:=fun x hx=>Nat.not_le_of_lt (lt11 x (hr3 x hx))
  have f4: ∀x,x∈rd4→ ¬s.next≤x:=fun x hx=>Nat.not_le_of_lt (lt6 x (hr4 x hx).2)
  have g4: ∀x,x∈wr4→ ¬s.next≤x:=fun x hx=>Nat.not_le_of_lt (lt6 x (hw4 x hx).2)
  have d43: ∀x,x∈wr4→ ¬x∈rd3:=fun x hx hy=>by
   have h1:=(hw4 x hx).2.2
   have h2:=(hr3 x hy).1
   omega
  have d41: ∀x,x∈wr4→ ¬x∈rd1:=fun x hx hy=>by
   have h1:=(hw4 x hx).2.2
   have h2:=(hr1 x hy).1
   omega
  simp+contextual [f1,f2,f3,f4,g4,d43,d41]
  exact .inl rfl
 ·refine W.cast (IF_ _ _ _ _ _ _ _ _ _ _ _ _ _ _) ?_
  simp -implicitDefEqProofs only[Ad,W_oS,Aa,AJ]
  have hb3:s.next≤s3.next:=by omega
  have fin: ∀(s':St) (n':Nat) (tm':T Value) (td':List Item),s'.mem=s3.mem→s'.next=s3.next→2≤n'→Ext (fun x=>s0.next≤x) (fun x=>s0.next≤x) s s'→skim 64 td'=PG→T.get tm' 6=some (.pointer (some ⟨C6,0,none⟩))→T.get tm' 7=some w1→T.get tm' 8=some (.bool (decide (idB (BJ l k m)=BH l k m)))→
    W (runF envS n' ⟨72,Dn_,D4,tm',td', .run, .normal,none⟩) s' fun p s1=>Q p.1 (s1.cxN s0.cx):=fun s' n' tm' td' e1 e2 hn' hx' hT' h6' h7' h8'=>by
   refine W.endG hT' (.inl Lr_) hn' N5 RL (hx'.cx.trans hcx) (W.resCell h6' ?_)
   have o3':Ae s' C6 0 (u8l (BH l k m)):=fun i v e=>(o3 i v e).same e1 e2
   refine W.loadA BL o3'.row hIl fun s5 m5 n5 x5=> ?_
   refine W.resTmp h7' (W.resTmp h8' (W.resNil ?_))
   have hx5:Ext (fun x=>s0.next≤x) (fun x=>s0.next≤x) s s5:=hx'.trans x5 hb (fun x _ h=>by have:=h.1;omega) fun _ _ h=>h.elim
   refine q s5 w1 hx5 ?_
   have hw1':MkO s3 w1 (BJ l k m) nb 16:=(((hw1.same (s':=oSt s.mem s.next) rfl rfl).ext x2 fun _ _ h=>h).same (s':=oSt s2.mem s2.next) rfl rfl).ext x3 fun x hx h=>by
    have h1:=hx.1
    have h2:=h.2
    omega
   exact hw1'.same (m5.trans e1) (n5.trans e2)
  refine fin _ _ _ _ rfl rfl (by omega) (Ext.drawG (by rw[n3'];exact hn2) (fun x hx hg=>(x3.mem x (by show x<s2.next;omega) fun h=>hg (by have:=h.1;omega)).trans (x2.mem x hx id)) ?_ ?_) rfl (by simp[T.get_set,h6]) (by simp[T.get_set]) (by simp[T.get_set])
  ·simp -implicitDefEqProofs only[List.mem_cons,List.not_mem_nil,or_false]
   rintro m (rfl|rfl|rfl|rfl|rfl|rfl|rfl|rfl|rfl|rfl) x hx _<;>first|(cases hx;done)|(have:=(hw4 x hx).2.1;omega)
  ·simp -implicitDefEqProofs only[List.mem_cons,List.not_mem_nil,or_false]
   rintro m (rfl|rfl|rfl|rfl|rfl|rfl|rfl|rfl|rfl|rfl) x hx _<;>first|(cases hx;done)|(have:=(hr1 x hx).1;omega)|(have:=(hr3 x hx).1;omega)|(have:=(hr4 x hx).2.1;omega)|(exact(hwn x (hF2 x (hr2 x hx).2)).1)
theorem Fc {n:Nat}(h1:1≤n)(h2:n≤1024):CH ((n:Nat):Int)=((n+26:Nat):Int):=by
 unfold CH
 rw[if_neg (by omega)]
 omega
theorem MkO.bn {s:St}{v:Value}{l:List Nat}{b o:Nat}(h:MkO s v l b o)(hl:l.length≤1073741824):Bn s v l:=
 ⟨b,o,_,h.val,by rw[FM (Bh hl)];exact Nat.le_refl _,Ey (Bh hl) (by decide),h.own.row⟩
theorem Rn {n k m:Nat}{v:Value}{l:List Nat}{s:St}{Q:Value→St→Prop}(hbd:s.lim≤s.next)(hbs:Bs s v l)(hby:Byt l)(hz:l.length≤900000)(hm1:1≤m)(hm2:m≤1024)(hlen:k+26+m≤l.length)(hn:40000≤n)
  (q1:GOk (CE l k m)→ ∀s1 w1 nb,Ext (BsF v) Non s s1→MkO s1 w1 (BJ l k m) nb 16→s.next≤nb→Q (.tuple #[.agg (u8l (BH l k m)).toArray,w1, .bool (decide (idB (BJ l k m)=BH l k m))]) s1)
  (q2: ¬GOk (CE l k m)→ ∀s1,Ext (BsF v) Non s s1→Q (.tuple #[.agg (u8l (List.replicate 16 0)).toArray, .slice none 0 0, .bool false]) s1):
  W (Ai envS (runF envS n) 72 [v, .int .i64 (k:Nat), .int .i64 (m:Nat)]) s Q:=by
 refine Tj_ fun tm h0 h1 h2=> ?_
 have hne:l≠[]:=fun h=>by rw[h]at hlen;simp at hlen
 have hB0:Bn (s.cxN cxN) v l:=(hbs.bn' hne).same rfl rfl
 refine Rs_.w rfl (by omega) ?_
 simp -implicitDefEqProofs only[Fy_,Ad,Aa,W_mv,Ac]
 refine W.alloc DH fun sa na xa oa=> ?_
 have na':sa.next=s.next+17:=na
 have hxa:Ext (BsF v) Non (s.cxN cxN) sa:=(Ext.refl _).step xa hbd (fun _ _ h=>h.elim) fun _ h=>h.elim
 refine Pz_.w rfl (by omega) ?_
 have e6:wrap64 (((k:Nat):Int)+6)=((k+6:Nat):Int):=by
  rw[AP (by omega) (by omega)];omega
 have e26:wrap64 (((k:Nat):Int)+((m+26:Nat):Int))=((k+26+m:Nat):Int):=by
  rw[AP (by omega) (by omega)];omega
 simp -implicitDefEqProofs only[DX_,Ad,W_oS,W_on,Aa,W_mv,Ac,T.get_set,Ah,Ag,Af,Ar,reduceIte,Nat.reduceEqDiff,reduceCtorEq, ↓reduceIte,By,h0,h1,h2,e6]
 refine Gt _ (by omega) ?_
 rw[Fc hm1 hm2]
 simp -implicitDefEqProofs only[By,e26]
 refine W.cut (hB0.ext0 hxa) AE (i:=k+6) (j:=k+26+m) rfl rfl (by omega) hlen fun v1 hv1 hF1=> ?_
 have hch:(l.take (k+26+m)).drop (k+6)=CE l k m:=rfl
 rw[hch]at hv1
 have hcl:=PS hlen
 refine WW_ (hxa.bnd hbd) hv1 (MO hby k m) (by omega) (by omega) (fun hg sb w xb hw hmk=> ?_) fun hg sb xb=> ?_
 ·have hxb:Ext (BsF v) Non (s.cxN cxN) sb:=hxa.step xb hbd (fun x _ h=>hF1 x h) fun _ h=>h.elim
  rw[Bq (k:=0) rfl,Bq (k:=1) rfl]
  refine Vd.w rfl (by omega) ?_
  simp -implicitDefEqProofs only[Pv,Ad,W_oS,Aa,W_mv,Ac,T.get_set,reduceIte, ↓reduceIte,Dj]
  refine W.cond (v:=false) rfl As_ (by simp[T.get_set]) (by omega) (fun h=>by cases h) fun _=> ?_
  refine Ne_.w rfl (by omega) ?_
  have hX:(CE l k m).take ((CE l k m).length-4)=Ca l k m:=by
   rw[hcl];rfl
  obtain⟨nb,hmk,hnb⟩:=hmk (by omega)
  rw[hX]at hw hmk
  have hXl:=G6 hlen
  simp -implicitDefEqProofs only[XP,Ad,W_oS,W_on,Aa,W_mv,Ac,T.get_set,Af,reduceIte,Nat.reduceEqDiff, ↓reduceIte]
  have h16:((Ca l k m).take 16).drop 0=BH l k m:=rfl
  refine W.cut hw.bn AE (i:=0) (j:=16) rfl rfl (Nat.zero_le _) (by omega) fun v2 hv2 hF2=> ?_
  rw[h16]at hv2
  obtain⟨b,o,c,rfl,g1,g2,g3⟩:=hv2
  have hI:=Fz hlen
  have hIl:(u8l (BH l k m)).length=16:=by rw[A6];exact hI
  rw[Po JK (show 16≤(BH l k m).length by omega) (by omega)]
  refine W.loadA BL g3 hIl fun sc mc nc xc=> ?_
  have hinv: ∀x,In b o 16 x→sa.next≤x:=fun x h=>hw.new x (hF2 x ⟨h.1,by rw[hI];exact h.2⟩)
  have hxc:Ext (BsF v) Non (s.cxN cxN) sc:=hxb.step xc hbd (fun x hx h=>by
   have h2:x<s.lim:=hx
   have:=hinv x h
   omega) fun _ h=>h.elim
  refine W.alloc DH fun sd nd xd od=> ?_
  have nd':sd.next=sc.next+17:=nd
  have nbc:sb.next≤sc.next:=xc.nxt
  have nab:sa.next≤sb.next:=xb.nxt
  have hxd:Ext (BsF v) Non (s.cxN cxN) sd:=hxc.step xd hbd (fun _ _ h=>h.elim) fun _ h=>h.elim
  refine W.store BL hIl (BT _) (Ae.owned od) fun se ne xe oe=> ?_
  have ne':se.next=sd.next:=ne
  have hG: ∀x,In sc.next 0 16 x→sc.next≤x:=fun x h=>by have:=h.1;omega
  have hxe:Ext (BsF v) Non (s.cxN cxN) se:=hxd.step xe hbd (fun x hx h=>by
   have h2:x<s.lim:=hx
   have:=hG x h
   have h3:s.next≤sc.next:=hxc.nxt
   omega) fun x h=>Nat.le_trans hxc.nxt (hG x h)
  have hwlt: ∀x,BsF w x→x<sb.next:=fun x hx=>hw.bn.lt x hx
  have hwe:Bn se w (Ca l k m):=(((hw.bn.ext0 xc).ext0 xd).ext xe fun x hx h=>by
   have h1:=hwlt x hx
   have h2:=hG x h
   omega)
  have ho6:A3 se s.next 0 16:=((((Ae.owned oa).ext1 xb fun _ _ h=>h).ext1 xc fun _ _ h=>h).ext1 xd fun _ _ h=>h).ext1 xe fun x h h'=>by
   have h1:x<s.next+0+16:=h.2
   have h2:=hG x h'
   omega
  refine YD_ (C6:=s.next) (C11:=sc.next) (k:=k) (m:=m) (w:=w) (l:=l) (s0:=s) (hxe.bnd hbd) hlen hby hm2 hm1 (by omega) hxe.cx (Nat.le_refl _) (by omega) (by omega) hwe (fun x hx=> ?_) ho6 oe rfl (by simp[T.get_set]) (by simp[T.get_set]) (by simp[T.get_set]) (((hmk.ext xc fun _ _ h=>h).ext xd fun _ _ h=>h).ext xe fun x h h'=>by
   have h2:=hG x h'
   have h3:=h.2
   have h4:=hmk.lt
   omega) (by omega) fun sf w1 xf hw1=> ?_
  ·have h1:=hw.new x hx
   refine⟨by omega,fun h=> ?_⟩
   have h2:x<s.next+0+16:=h.2
   omega
  ·have hxf:Ext (BsF v) Non (s.cxN cxN) sf:=hxe.step xf hbd (fun x hx h=>by
    have h2:x<s.lim:=hx
    have h3:s.next≤x:=h
    omega) fun _ h=>h
   exact q1 hg _ w1 nb hxf.cx' (hw1.same rfl rfl) (by omega)
 ·have hxb:Ext (BsF v) Non (s.cxN cxN) sb:=hxa.step xb hbd (fun x _ h=>hF1 x h) fun _ h=>h.elim
  rw[Bq (k:=0) rfl,Bq (k:=1) rfl]
  refine Vd.w rfl (by omega) ?_
  simp -implicitDefEqProofs only[Pv,Ad,W_oS,Aa,W_mv,Ac,T.get_set,reduceIte, ↓reduceIte,Dj]
  refine W.cond (v:=true) rfl As_ (by simp[T.get_set]) (by omega) (fun _=> ?_) fun h=>by cases h
  refine Yo_.w rfl (by omega) ?_
  simp -implicitDefEqProofs only[XR,Ad,W_oS,Aa,W_mv,Ac,T.get_set,A2,reduceIte,Nat.reduceEqDiff, ↓reduceIte,D6 AaK_]
  have ho6:A3 sb s.next 0 16:=(Ae.owned oa).ext1 xb fun _ _ h=>h
  refine W.store BL rfl (BT _) ho6 fun sc nc xc oc=> ?_
  have hG: ∀x,In s.next 0 16 x→s.next≤x:=fun x h=>by have:=h.1;omega
  have hxc:Ext (BsF v) Non (s.cxN cxN) sc:=hxb.step xc hbd (fun x hx h=>by
   have h2:x<s.lim:=hx
   have:=hG x h
   omega) hG
  refine W.endG rfl (.inl SK_) (by omega) N5 RL hxc.cx (W.resCell (a:=⟨s.next,0,none⟩) (by simp[T.get_set];rfl) ?_)
  refine W.loadA BL oc.row rfl fun sd md nd xd=> ?_
  have hxd:Ext (BsF v) Non (s.cxN cxN) sd:=hxc.step xd hbd (fun x hx h=>by
   have h2:x<s.lim:=hx
   have:=hG x h
   omega) fun _ h=>h.elim
  refine W.resTmp (v:= .slice none 0 0) (by simp[T.get_set]) (W.resTmp (v:= .bool false) (by simp[T.get_set]) (W.resNil ?_))
  exact q2 hg _ hxd.cx'
theorem SJ_ {n k m:Nat}{v:Value}{l:List Nat}{s:St}{Q:Value→St→Prop}(hbd:s.lim≤s.next)(hbs:Bs s v l)(hby:Byt l)(hz:l.length≤900000)(hm1:1≤m)(hm2:m≤1024)(hlen:k+26+m≤l.length)(hn:40000≤n)
  (q1:GOk (CE l k m)→ ∀s1 w1,Ext (BsF v) Non s s1→Bn s1 w1 (BJ l k m)→(∀x,BsF w1 x→s.next≤x)→Q (.tuple #[.agg (u8l (BH l k m)).toArray,w1, .bool (decide (idB (BJ l k m)=BH l k m))]) s1)
  (q2: ¬GOk (CE l k m)→ ∀s1,Ext (BsF v) Non s s1→Q (.tuple #[.agg (u8l (List.replicate 16 0)).toArray, .slice none 0 0, .bool false]) s1):
  W (Ai envS (runF envS n) 72 [v, .int .i64 (k:Nat), .int .i64 (m:Nat)]) s Q:=by
 refine Rn hbd hbs hby hz hm1 hm2 hlen hn (fun hg s1 w1 nb x h hnb=> ?_) q2
 refine q1 hg s1 w1 x (h.bn (by rw[K4 hlen];omega)) fun y hy=> ?_
 rw[h.val]at hy
 have:=hy.1
 omega
end Go.Proofs.Ytofanlcjeohcjaa.Am
end
