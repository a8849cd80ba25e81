import Derived.Test.YtofanlcjeohcjaaIAg14
import Derived.Test.YtofanlcjeohcjaaIAg07
import Derived.KernelRfl
import Derived.Test.YtofanlcjeohcjaaIAg22
import Derived.Test.YtofanlcjeohcjaaIAg20
import Derived.Test.YtofanlcjeohcjaaIAg08
import Derived.Test.YtofanlcjeohcjaaRows
namespace Go.Proofs.Ytofanlcjeohcjaa.Am
open Go.RowKit
section
variable {parts:List (Value×List Nat)}{b o c:Nat}
end
section
variable {parts:List (Value×List Nat)}{b o c:Nat}
end
section
variable {parts:List (Value×List Nat)}{b o c:Nat}
end
open Go.RowKit Go.ChangeShapes Go.WideShapes
theorem AbL_:envS.P=Try.prog:=by kernel_rfl
theorem Aem_:Try.prog.underlying 22=some (.slice 5):=by kernel_rfl
theorem Aeg_:Try.prog.underlying 5=some (.int .u8):=by kernel_rfl
theorem Bu_:Try.prog.underlying 3=some (.int .i64):=by kernel_rfl
theorem Adt_:Try.prog.cellsOf 5=1:=by kernel_rfl
theorem Oi_ {H:Type}(d:DataW H):1≤Rows.uptoBulk d:=by
 unfold Rows.uptoBulk
 split<;>omega
theorem BI_ {H:Type}: ∀l:List (DataW H),l.length≤Rows.uptoBulkAll l
 |[]=>Nat.zero_le _
 |d::l=>by
  unfold Rows.uptoBulkAll
  have:=Oi_ d
  have:=BI_ l
  rw[List.length_cons]
  omega
mutual
theorem JV_ {H:Type}{N:Nat}: ∀d:DataW H,Rows.uptoBulk d≤N→lensOk N d
 | .lit (.string l),h=>by
  unfold Rows.uptoBulk at h
  unfold lensOk
  omega
 | .lit (.bool _),_=>by unfold lensOk;trivial
 | .lit (.int _ _),_=>by unfold lensOk;trivial
 | .lit (.float _ _),_=>by unfold lensOk;trivial
 | .lit .nil,_=>by unfold lensOk;trivial
 | .nil,_=>by unfold lensOk;trivial
 | .ptr _,_=>by unfold lensOk;trivial
 | .slice es sp,h=>by
  unfold Rows.uptoBulk at h
  have:=BI_ es
  unfold lensOk
  exact⟨by omega,NC es (by omega)⟩
 | .agg ps,h=>by
  unfold Rows.uptoBulk at h
  unfold lensOk
  exact NC ps (by omega)
 | .iface _ _,_=>by unfold lensOk;trivial
 | .map _,_=>by unfold lensOk;trivial
 | .held _,_=>by unfold lensOk;trivial
theorem NC {H:Type}{N:Nat}: ∀l:List (DataW H),Rows.uptoBulkAll l≤N→Fd N l
 |[],_=>by unfold Fd;trivial
 |d::l,h=>by
  unfold Rows.uptoBulkAll at h
  unfold Fd
  exact⟨JV_ d (by omega),NC l (by omega)⟩
end
theorem lens_small {H:Type}{ds:List (DataW H)}(h:Rows.uptoSmall H ds=true): ∀d∈ds,lensOk 1048576 d:=
 J0 (NC ds (of_decide_eq_true h))
def Rq (P:Program)(t:TypeId)(l:List (TypeId×Nat)):Bool:=match P.underlying t with
 |some (.struct fs)=>decide (fs.toList.map (fun x=>(x.type,x.offset))=l)
 |_=>false
theorem Bp.struct {P:Program}{N F:Nat}{s:St}{t:TypeId}{us:List Value}{l:List (TypeId×Nat)}(hb:Rq P t l=true)(h:Bp P N s (F+1) t us):us.length=P.cellsOf t∧ ∀x∈l,Bp P N s F x.1 ((us.drop x.2).take (P.cellsOf x.1)):=by
 unfold Rq at hb
 unfold Bp at h
 cases hu:P.underlying t with
 |none=>rw[hu]at hb;cases hb
 |some u=>
  rw[hu]at hb h
  cases u<;>try (cases hb;done)
  have e:=of_decide_eq_true hb
  refine⟨h.1,fun x hx=> ?_⟩
  rw[←e]at hx
  obtain⟨y,hy,rfl⟩:=List.mem_map.1 hx
  exact h.2 y hy
theorem Bp.int' {P:Program}{N F:Nat}{s:St}{t:TypeId}{k:IntKind}{us:List Value}(hu:P.underlying t=some (.int k))(h:Bp P N s (F+1) t us): ∃n,us=[.int k n]∧(Lit.int k n).wf=true:=by
 unfold Bp at h
 rw[hu]at h
 exact h
theorem AcR_ {P:Program}{N F:Nat}{s:St}{t e:TypeId}{us:List Value}(ht:P.underlying t=some (.slice e))(he:P.underlying e=some (.int .u8))(hc:P.cellsOf e=1)(h:Bp P N s (F+2) t us): ∃v l,us=[v]∧Bs s v l∧Byt l∧l.length≤N:=by
 obtain⟨v,es,rfl,hE,_,hN,ha⟩:=Bp.slice ht (by rw[hc];decide) h
 have h1: ∀i,i<es.length→ ∃n:Nat,n<256∧es[i]?=some [.int .u8 (n:Nat)]:=fun i hi=>by
  obtain⟨_,hx⟩:=ha _ (List.getElem_mem hi)
  obtain⟨n,e1,e2⟩:=hx.int' he
  have h2:(0:Int)≤n∧n≤255:=by
   have e3:(decide ((0:Int)≤n)&&decide (n≤(255:Int)))=true:=e2
   rw[Bool.and_eq_true]at e3
   exact⟨of_decide_eq_true e3.1,of_decide_eq_true e3.2⟩
  exact⟨n.toNat,by omega,by rw[List.getElem?_eq_getElem hi,e1,Int.toNat_of_nonneg h2.1]⟩
 obtain⟨l,hl,hp⟩:=PH h1
 refine⟨v,l,rfl, ?_,fun x hx=> ?_,by omega⟩
 ·rcases hE with⟨rfl,rfl⟩|⟨b,c,rfl,hc1,hc2,hr⟩
  ·exact .inl ⟨rfl,List.eq_nil_of_length_eq_zero hl⟩
  ·rw[hc]at hc2 hr
   refine .inr ⟨b,0,c,by rw[hl],by rw[hl];exact hc1,hc2,fun i x e=> ?_⟩
   obtain⟨n,e1,rfl⟩: ∃n,l[i]?=some n∧Value.int .u8 (n:Nat)=x:=by
    rw[List.getElem?_map]at e
    exact Option.map_eq_some_iff.1 e
   have:=hr i _ (hp i n e1).2 0 _ rfl
   rw[Nat.mul_one]at this
   rw[Nat.zero_add]
   exact this
 ·obtain⟨i,hi⟩:=List.getElem?_of_mem hx
  exact(hp i x hi).1
theorem Pa_:Try.prog.underlying 75=some (.slice 78):=by kernel_rfl
theorem XJ_:Rq Try.prog 78 [(3,0),(22,1)]=true:=by kernel_rfl
theorem Qa:Try.prog.cellsOf 78=2:=by kernel_rfl
theorem QG_:Try.prog.cellsOf 78<1024:=by rw[Qa];decide
theorem TV_:Try.prog.cellsOf 3=1:=by kernel_rfl
theorem XS_:Try.prog.cellsOf 22=1:=by kernel_rfl
theorem Xm {s:St}{b:Nat}: ∀(fs:List FdI) (o:Nat),(∀i f,fs[i]?=some f→Row s b (o+i*2) (fdC f))→Row s b o (fdCs fs)
 |[],_,_=>fun i v e=>by simp[fdCs]at e
 |f::fs,o,h=>fun i v e=>by
  have e':(fdC f++fdCs fs)[i]?=some v:=e
  rcases Nat.lt_or_ge i 2 with hi|hi
  ·rw[List.getElem?_append_left (by exact hi)]at e'
   have:=h 0 f rfl i v e'
   rwa [Nat.zero_mul]at this
  ·rw[List.getElem?_append_right (by exact hi)]at e'
   have:=Xm fs (o+2) (fun j g e1=>by
    have:=h (j+1) g e1
    rwa [show o+(j+1)*2=o+2+j*2 by omega]at this) (i-2) v e'
   rwa [show o+2+(i-2)=o+i by omega]at this
attribute [local irreducible] Bp
theorem UH_ {N F:Nat}{s:St}{us:List Value}(h:Bp Try.prog N s (F+4) 75 us): ∃v fs,us=[v]∧FdR s v fs∧fs.length≤N∧ ∀f∈fs,f.l.length≤N:=by
 obtain⟨v,es,rfl,hE,_,hN,ha⟩:=Bp.slice (P:=Try.prog) (F:=F+3) (t:=75) (e:=78) Pa_ QG_ h
 rw[Qa]at hE
 have h1: ∀i,i<es.length→ ∃f:FdI,es[i]?=some (fdC f)∧Bs s f.v f.l∧Byt f.l∧f.l.length≤N:=fun i hi=>by
  obtain⟨hx2,hx⟩:=ha _ (List.getElem_mem hi)
  rw[Qa]at hx2
  obtain⟨_,hx⟩:=hx.struct XJ_
  have k1:=hx (3,0) (by simp)
  have k2:=hx (22,1) (by simp)
  simp only[TV_,XS_]at k1 k2
  obtain⟨n,e1,_⟩:=k1.int' Bu_
  obtain⟨w,l,e2,k3,k4,k5⟩:=AcR_ Aem_ Aeg_ Adt_ k2
  refine⟨⟨n,w,l⟩, ?_,k3,k4,k5⟩
  rw[List.getElem?_eq_getElem hi]
  generalize es[i]=x at e1 e2 hx2
  match x,hx2,e1,e2 with
  |[a,b],_,e1,e2=>
   cases e1
   cases e2
   rfl
 obtain⟨fs,hl,hp⟩:=PH h1
 have hm: ∀f∈fs,Bs s f.v f.l∧Byt f.l∧f.l.length≤N:=fun f hf=>by
  obtain⟨i,hi⟩:=List.getElem?_of_mem hf
  exact(hp i f hi).2
 refine⟨v,fs,rfl,⟨?_,fun f hf=>(hm f hf).1,fun f hf=>(hm f hf).2.1⟩,by omega,fun f hf=>(hm f hf).2.2⟩
 rcases hE with⟨rfl,rfl⟩|⟨b,c,rfl,_,_,hr⟩
 ·exact .inl ⟨rfl,List.eq_nil_of_length_eq_zero hl⟩
 ·exact .inr ⟨b,0,c,by rw[hl],Xm fs 0 fun i f e=>by rw[Nat.zero_add];exact hr i _ (hp i f e).1⟩
theorem M7.one {P:Program}{N F:Nat}{s:St}{t:TypeId}{u:Value}(hb:aggT P t=false)(h:M7 P N s F t u):Bp P N s F t [u]:=by
 obtain⟨us,h1,⟨h2,_⟩|⟨_,rfl⟩⟩:=h
 ·rw[hb]at h2;cases h2
 ·exact h1
theorem Uw:Try.f14.params.toList=[75,3]:=by kernel_rfl
theorem Jq_:envS.orc.get 14=none:=by kernel_rfl
theorem Ir_:envS.ext.get 14=none:=by kernel_rfl
theorem Ty_:[75,3].all (Dv Try.prog 6)=true:=by kernel_rfl
theorem Ic_:aggT Try.prog 75=false:=by kernel_rfl
theorem UM_:aggT Try.prog 3=false:=by kernel_rfl
set_option maxRecDepth 1000000 in
theorem walkAgain {H:Type}{enc:TypeId×Value→H}{w:World}{base:Nat}{args:Array Value}{ds:List (DataW H)}{ps:List MemPlace}(hN: ∀d∈ds,lensOk 1048576 d)(hA:DataW.TrodAll enc Try.prog w 0 (fun _=>true) true Try.f14.params.toList args.toList ds ps)
  (hv: ∀(j:Nat) t v,Try.f14.params[j]?=some t→args[j]?=some v→Value.okWide Try.prog w .any base t v):Calls Try.prog 14 args w fun e w'=>e= .returned (.bool true)∧Below w.heap.size w w':=by
 have hv': ∀(j:Nat) t v,[75,3][j]?=some t→args.toList[j]?=some v→Value.okWide Try.prog w .any base t v:=fun j t v e1 e2=>by
  rw[←Uw]at e1
  rw[Array.getElem?_toList]at e1 e2
  exact hv j t v e1 e2
 rw[Uw]at hA
 have hE:envS.P=Try.prog:=AbL_
 have h:=JZ_ (E:=envS) (fuel:=90000000) (f:=14) (F:=6) (N:=1048576) (v:= .bool true) (ts:=[75,3]) Jg_ Jq_ Ir_ rfl (by rw[hE];exact hA) (by rw[hE];exact hv') (by rw[hE];exact Ty_) (.inr hN) (fun m nx us hus hu=>by
  rw[hE]at hu
  match us,hus,hu with
  |[u0,u1],_,hu=>
   have k0:=(hu 0 _ u0 rfl rfl).one Ic_
   have k1:=(hu 1 _ u1 rfl rfl).one UM_
   obtain⟨v,fs,e0,hf,hfl,hfz⟩:=UH_ (F:=2) k0
   obtain⟨y,e1,_⟩:=k1.int' Bu_
   cases e0
   cases e1
   exact Ip_ (Nat.zero_le _) hf (by omega) hfz (by omega))
 rw[hE]at h
 exact h
end Go.Proofs.Ytofanlcjeohcjaa.Am
