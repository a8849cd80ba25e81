import Derived.Test.YtofanlcjeohcjaaIFn25
namespace Go.Proofs.Ytofanlcjeohcjaa.Am
open Go.RowKit
theorem Bd.array' {P:Program}{N F n:Nat}{s:St}{t e:TypeId}{us:List Value}(hu:P.underlying t=some (.array n e))(h:Bd P N s (F+1) t us):us.length=P.cellsOf t∧ ∀i,i<n→Bd P N s F e ((us.drop (i*P.cellsOf e)).take (P.cellsOf e)):=by
 unfold Bd at h
 rw[hu]at h
 exact h
theorem Ku_:Try.prog.underlying 26=some (.array 16 5):=by kernel_rfl
theorem OK:Try.prog.cellsOf 26=16:=by kernel_rfl
theorem Hb_:Try.prog.underlying 36=some (.slice 35):=by kernel_rfl
theorem Wo:JN Try.prog 35 [(26,0),(3,16),(3,17)]=true:=by kernel_rfl
theorem Lv:Try.prog.cellsOf 35=18:=by kernel_rfl
theorem AC_:Try.prog.cellsOf 35<1024:=by rw[Lv];decide
theorem Zg:Try.prog.cellsOf 36=1:=by kernel_rfl
theorem WX:Try.prog.underlying 55=some (.slice 85):=by kernel_rfl
theorem XY:JN Try.prog 85 [(3,0),(3,1),(36,2)]=true:=by kernel_rfl
theorem Nw:Try.prog.cellsOf 85=3:=by kernel_rfl
theorem V4:Try.prog.cellsOf 85<1024:=by rw[Nw];decide
theorem JQ_ {us:List Value}{l:List Nat}(hl:l.length=us.length)(h: ∀(i n:Nat),l[i]?=some n→us[i]?=some (Value.int .u8 (n:Nat))):us=u8l l:=by
 apply List.ext_getElem?
 intro i
 unfold u8l
 rw[List.getElem?_map]
 cases hq:l[i]? with
 |none=>
  have:=List.getElem?_eq_none_iff.1 hq
  rw[Option.map_none]
  exact List.getElem?_eq_none_iff.2 (by omega)
 |some n=>rw[h i n hq,Option.map_some]
attribute [local irreducible] Bd
theorem Th {N F:Nat}{s:St}{us:List Value}(h:Bd Try.prog N s (F+2) 26 us): ∃id,us=u8l id∧id.length=16:=by
 obtain⟨h1,h2⟩:=h.array' Ku_
 rw[OK]at h1
 rw[Ht_]at h2
 obtain⟨id,hl,hp⟩:=IC (n:=16) (p:=fun i (x:Nat)=>us[i]?=some (Value.int .u8 (x:Nat))) fun i hi=>by
  obtain⟨n,e1,e2⟩:=(h2 i hi).int' LF_
  have h3:(0:Int)≤n∧n≤255:=by
   have e3:(decide ((0:Int)≤n)&&decide (n≤(255:Int)))=true:=e2
   rw[Bool.and_eq_true]at e3
   exact⟨of_decide_eq_true e3.1,of_decide_eq_true e3.2⟩
  refine⟨n.toNat, ?_⟩
  rw[Nat.mul_one]at e1
  have:((us.drop i).take 1)[0]?=some (.int .u8 n):=by rw[e1];rfl
  rw[List.getElem?_take,if_pos (by decide),List.getElem?_drop,Nat.add_zero]at this
  rw[this,Int.toNat_of_nonneg h3.1]
 exact⟨id,JQ_ (by omega) hp,hl⟩
theorem SX {s:St}{b:Nat}: ∀(hs:List HdI) (o:Nat),(∀h∈hs,h.1.length=16)→(∀i h,hs[i]?=some h→Row s b (o+i*18) (AP h))→Row s b o (BN hs)
 |[],_,_,_=>fun i v e=>by simp[BN]at e
 |h::hs,o,h16,hr=>fun i v e=>by
  have e':(AP h++BN hs)[i]?=some v:=e
  have hl:(AP h).length=18:=Cg (h16 h (by simp))
  rcases Nat.lt_or_ge i 18 with hi|hi
  ·rw[List.getElem?_append_left (by omega)]at e'
   have:=hr 0 h rfl i v e'
   rwa [Nat.zero_mul]at this
  ·rw[List.getElem?_append_right (by omega),hl]at e'
   have:=SX hs (o+18) (fun x hx=>h16 x (by simp[hx])) (fun j g e1=>by
    have:=hr (j+1) g e1
    rwa [show o+(j+1)*18=o+18+j*18 by omega]at this) (i-18) v e'
   rwa [show o+18+(i-18)=o+i by omega]at this
theorem T1 {s:St}{b:Nat}: ∀(ps:List PkI) (o:Nat),(∀i p,ps[i]?=some p→Row s b (o+i*3) (pkC p))→Row s b o (pkCs ps)
 |[],_,_=>fun i v e=>by simp[pkCs]at e
 |p::ps,o,hr=>fun i v e=>by
  have e':(pkC p++pkCs ps)[i]?=some v:=e
  rcases Nat.lt_or_ge i 3 with hi|hi
  ·rw[List.getElem?_append_left (by exact hi)]at e'
   have:=hr 0 p rfl i v e'
   rwa [Nat.zero_mul]at this
  ·rw[List.getElem?_append_right (by exact hi)]at e'
   have:=T1 ps (o+3) (fun j g e1=>by
    have:=hr (j+1) g e1
    rwa [show o+(j+1)*3=o+3+j*3 by omega]at this) (i-3) v e'
   rwa [show o+3+(i-3)=o+i by omega]at this
theorem Zh {N F:Nat}{s:St}{us:List Value}(h:Bd Try.prog N s (F+4) 36 us): ∃v hs,us=[v]∧HiR s v hs∧(∀h∈hs,h.1.length=16)∧hs.length≤N:=by
 obtain⟨v,es,rfl,hE,_,hN,ha⟩:=Bd.slice (P:=Try.prog) (F:=F+3) (t:=36) (e:=35) Hb_ AC_ h
 rw[Lv]at hE
 have h1: ∀i,i<es.length→ ∃g:HdI,es[i]?=some (AP g)∧g.1.length=16:=fun i hi=>by
  obtain⟨hx2,hx⟩:=ha _ (List.getElem_mem hi)
  rw[Lv]at hx2
  obtain⟨_,hx⟩:=hx.struct Wo
  have k1:=hx (26,0) (by simp)
  have k2:=hx (3,16) (by simp)
  have k3:=hx (3,17) (by simp)
  simp only[Tx,OK]at k1 k2 k3
  obtain⟨id,e1,hid⟩:=Th k1
  obtain⟨a,e2,_⟩:=k2.int' IV
  obtain⟨z,e3,_⟩:=k3.int' IV
  refine⟨(id,a,z), ?_,hid⟩
  rw[List.getElem?_eq_getElem hi]
  generalize es[i]=x at e1 e2 e3 hx2
  congr 1
  rw[List.drop_zero]at e1
  have d1:x=x.take 16++x.drop 16:=(List.take_append_drop 16 x).symm
  have d2:x.drop 16=(x.drop 16).take 1++(x.drop 16).drop 1:=(List.take_append_drop 1 _).symm
  have d3:(x.drop 16).drop 1=(x.drop 17).take 1:=by
   rw[List.drop_drop]
   exact(List.take_of_length_le (by rw[List.length_drop];omega)).symm
  rw[d1,d2,d3,e1,e2,e3]
  rfl
 obtain⟨hs,hl,hp⟩:=IC h1
 have h16: ∀h∈hs,h.1.length=16:=fun g hg=>by
  obtain⟨i,hi⟩:=List.getElem?_of_mem hg
  exact(hp i g hi).2
 refine⟨v,hs,rfl, ?_,h16,by omega⟩
 rcases hE with⟨rfl,rfl⟩|⟨b,c,rfl,_,_,hr⟩
 ·exact .inl ⟨rfl,List.eq_nil_of_length_eq_zero hl⟩
 ·exact .inr ⟨b,0,c,by rw[hl],SX hs 0 h16 fun i g e=>by rw[Nat.zero_add];exact hr i _ (hp i g e).1⟩
theorem Cw_ {N F:Nat}{s:St}{us:List Value}(h:Bd Try.prog N s (F+6) 55 us): ∃v ps,us=[v]∧PkR s v ps∧ps.length≤N∧ ∀p∈ps,p.hs.length≤N:=by
 obtain⟨v,es,rfl,hE,_,hN,ha⟩:=Bd.slice (P:=Try.prog) (F:=F+5) (t:=55) (e:=85) WX V4 h
 rw[Nw]at hE
 have h1: ∀i,i<es.length→ ∃p:PkI,es[i]?=some (pkC p)∧HiR s p.v p.hs∧(∀h∈p.hs,h.1.length=16)∧p.hs.length≤N:=fun i hi=>by
  obtain⟨hx2,hx⟩:=ha _ (List.getElem_mem hi)
  rw[Nw]at hx2
  obtain⟨_,hx⟩:=hx.struct XY
  have k1:=hx (3,0) (by simp)
  have k2:=hx (3,1) (by simp)
  have k3:=hx (36,2) (by simp)
  simp only[Tx,Zg]at k1 k2 k3
  obtain⟨n,e1,_⟩:=k1.int' IV
  obtain⟨z,e2,_⟩:=k2.int' IV
  obtain⟨w,hs,e3,g1,g2,g3⟩:=Zh k3
  refine⟨⟨n,z,w,hs⟩, ?_,g1,g2,g3⟩
  rw[List.getElem?_eq_getElem hi]
  generalize es[i]=x at e1 e2 e3 hx2
  match x,hx2,e1,e2,e3 with
  |[a,b,c],_,e1,e2,e3=>
   cases e1
   cases e2
   cases e3
   rfl
 obtain⟨ps,hl,hp⟩:=IC h1
 have hm: ∀p∈ps,HiR s p.v p.hs∧(∀h∈p.hs,h.1.length=16)∧p.hs.length≤N:=fun p hq=>by
  obtain⟨i,hi⟩:=List.getElem?_of_mem hq
  exact(hp i p hi).2
 refine⟨v,ps,rfl,⟨?_,fun p hq=>(hm p hq).1,fun p hq=>(hm p hq).2.1⟩,by omega,fun p hq=>(hm p hq).2.2⟩
 rcases hE with⟨rfl,rfl⟩|⟨b,c,rfl,_,_,hr⟩
 ·exact .inl ⟨rfl,List.eq_nil_of_length_eq_zero hl⟩
 ·exact .inr ⟨b,0,c,by rw[hl],T1 ps 0 fun i p e=>by rw[Nat.zero_add];exact hr i _ (hp i p e).1⟩
theorem Gt.agg {P:Program}{N F:Nat}{s:St}{t:TypeId}{u:Value}(hb:aggT P t=true)(h:Gt P N s F t u): ∃us,u= .agg us.toArray∧Bd P N s F t us:=by
 obtain⟨us,h1,⟨_,rfl⟩|⟨h2,_⟩⟩:=h
 ·exact⟨us,rfl,h1⟩
 ·rw[hb]at h2;cases h2
theorem So:Try.f11.params.toList=[55,26]:=by kernel_rfl
theorem Ys:envS.orc.get 11=none:=by kernel_rfl
theorem Fj_:envS.ext.get 11=none:=by kernel_rfl
theorem As_:[55,26].all (C7 Try.prog 8)=true:=by kernel_rfl
theorem Gb_:aggT Try.prog 55=false:=by kernel_rfl
theorem ZR:aggT Try.prog 26=true:=by kernel_rfl
set_option maxRecDepth 1000000 in
theorem walkFinds {H:Type}{enc:TypeId×Value→H}{w:World}{base:Nat}{args:Array Value}{ds:List (DataW H)}{ps:List MemPlace}(hN: ∀d∈ds,lensOk 1048576 d)(hA:DataW.TrodAll enc Try.prog w 0 (fun _=>true) true Try.f11.params.toList args.toList ds ps)
  (hv: ∀(j:Nat) t v,Try.f11.params[j]?=some t→args[j]?=some v→Value.okWide Try.prog w .any base t v):Calls Try.prog 11 args w fun e w'=>e= .returned (.bool true)∧Below w.heap.size w w':=by
 have hv': ∀(j:Nat) t v,[55,26][j]?=some t→args.toList[j]?=some v→Value.okWide Try.prog w .any base t v:=fun j t v e1 e2=>by
  rw[←So]at e1
  rw[Array.getElem?_toList]at e1 e2
  exact hv j t v e1 e2
 rw[So]at hA
 have hE:envS.P=Try.prog:=Cq_
 have h:=Er_ (E:=envS) (fuel:=300000000000) (f:=11) (F:=8) (N:=1048576) (v:= .bool true) (ts:=[55,26]) HX_ Ys Fj_ rfl (by rw[hE];exact hA) (by rw[hE];exact hv') (by rw[hE];exact As_) (.inr hN) (fun m nx us hus hu=>by
  rw[hE]at hu
  match us,hus,hu with
  |[u0,u1],_,hu=>
   have k0:=(hu 0 _ u0 rfl rfl).one Gb_
   obtain⟨us1,e1,k1⟩:=(hu 1 _ u1 rfl rfl).agg ZR
   obtain⟨v,ps,e0,hp,hpl,hpz⟩:=Cw_ (F:=2) k0
   obtain⟨id,e2,hid⟩:=Th (F:=6) k1
   cases e0
   subst e1
   subst e2
   exact EO_ (Nat.zero_le _) hid hp hpz (by omega))
 rw[hE]at h
 exact h
end Go.Proofs.Ytofanlcjeohcjaa.Am
