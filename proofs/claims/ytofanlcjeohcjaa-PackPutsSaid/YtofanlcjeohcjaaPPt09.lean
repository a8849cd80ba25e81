import Derived.Test.YtofanlcjeohcjaaPPt08
import Derived.OpenShut
import Derived.Test.YtofanlcjeohcjaaPPt07
import GoSem.ClaimWide
import Derived.Carry
import Derived.ChangeSame
namespace Go.Proofs.Ytofanlcjeohcjaa.Am
open Go.RowKit Go.ChangeShapes Go.WideShapes
structure OldSt (w:World)(m:T Cell)(nx:Nat)(r:Inj):Prop where
 ho: ∀loc c,T.get m loc=some c→loc<nx∧ ∃b v,c= .O (.old b v)∧ ∃b' d v',b≤loc∧r.blk b=some (b',d)∧w.cell? ⟨b',loc-b+d,none⟩=some v'∧VR r v v'
 hd: ∀b b' d,r.blk b=some (b',d)→b<nx∧b'<w.heap.size
 hx: ∀b,r.ext b=none
 hk:r.known= .no
structure Grow (m:T Cell)(nx:Nat)(r:Inj)(m':T Cell)(nx':Nat)(r':Inj):Prop where
 le:r.le r'
 nle:nx≤nx'
 mem: ∀l,l<nx→T.get m' l=T.get m l
theorem Grow.refl (m:T Cell)(nx:Nat)(r:Inj):Grow m nx r m nx r:=⟨Inj.le_refl r,Nat.le_refl _,fun _ _=>rfl⟩
theorem Grow.trans {m m' m'':T Cell}{nx nx' nx'':Nat}{r r' r'':Inj}(h:Grow m nx r m' nx' r')(k:Grow m' nx' r' m'' nx'' r''):Grow m nx r m'' nx'' r'':=
 ⟨Inj.le_trans h.le k.le,Nat.le_trans h.nle k.nle,fun l hl=>(k.mem l (Nat.lt_of_lt_of_le hl h.nle)).trans (h.mem l hl)⟩
noncomputable def stO (m:T Cell)(nx:Nat):St:=⟨m,nx,0,[],[], .no⟩
theorem Grow.row {m m':T Cell}{nx nx':Nat}{r r':Inj}(g:Grow m nx r m' nx' r'){b o:Nat}{l:List Value}(h:Row (stO m nx) b o l):Row (stO m' nx') b o l:=fun i v e=>by
 have hl:b+(o+i)<nx:=(h i v e).1
 refine⟨Nat.lt_of_lt_of_le hl g.nle, ?_⟩
 show T.get m' (b+(o+i))=_∨T.get m' (b+(o+i))=_
 rw[g.mem _ hl]
 exact(h i v e).2
def Bv (P:Program)(N:Nat)(s:St):Nat→TypeId→List Value→Prop
 |0,_,_=>False
 |f+1,t,us=>match P.underlying t with
  |some .bool=> ∃b,us=[.bool b]
  |some (.int k)=> ∃n,us=[.int k n]∧(Lit.int k n).wf=true
  |some .string=> ∃x:ByteArray,us=[.string x]∧x.size≤maxLen∧x.size≤N
  |some (.slice e)=>us=[.slice none 0 0]∨us=[.slice (some ⟨0,0,none⟩) 0 (capU*P.cellsOf e)]∨ ∃b n c,us=[.slice (some ⟨b,0,none⟩) n c]∧0<n∧n≤c∧c≤maxLen∧n≤N∧ ∀i,i<n→ ∃es,es.length=P.cellsOf e∧Row s b (i*P.cellsOf e) es∧Bv P N s f e es
  |some (.struct fs)=>us.length=P.cellsOf t∧ ∀x∈fs.toList,Bv P N s f x.type ((us.drop x.offset).take (P.cellsOf x.type))
  |some (.array n e)=>us.length=P.cellsOf t∧ ∀i,i<n→Bv P N s f e ((us.drop (i*P.cellsOf e)).take (P.cellsOf e))
  |_=>False
theorem Bv.mono {P:Program}{N:Nat}{s s':St}(h: ∀b o l,Row s b o l→Row s' b o l): ∀(f:Nat) (t:TypeId) (us:List Value),Bv P N s f t us→Bv P N s' f t us
 |0,_,_,k=>k
 |f+1,t,us,k=>by
  unfold Bv at k ⊢
  cases hu:P.underlying t with
  |none=>rw[hu]at k;exact k
  |some u=>
   rw[hu]at k
   cases u<;>try exact k
   ·rename_i e
    rcases k with k|k|⟨b,n,c,k1,k2,k3,k4,k6,k5⟩
    ·exact .inl k
    ·exact .inr (.inl k)
    ·refine .inr (.inr ⟨b,n,c,k1,k2,k3,k4,k6,fun i hi=> ?_⟩)
     obtain⟨es,e1,e2,e3⟩:=k5 i hi
     exact⟨es,e1,h _ _ _ e2,Bv.mono h f _ _ e3⟩
   ·exact⟨k.1,fun x hx=>Bv.mono h f _ _ (k.2 x hx)⟩
   ·exact⟨k.1,fun i hi=>Bv.mono h f _ _ (k.2 i hi)⟩
def Ev (P:Program):List Field→Nat→Nat→Bool
 |[],o,z=>Nat.beq o z
 |x::l,o,z=>Nat.beq x.offset o&&Ev P l (o+P.cellsOf x.type) z
def DM (P:Program):Nat→TypeId→Bool
 |0,_=>false
 |f+1,t=>match P.underlying t with
  |some .bool|some (.int _)|some .string=>true
  |some (.slice e)=>Nat.blt 0 (P.cellsOf e)&&DM P f e
  |some (.struct fs)=>Ev P fs.toList 0 (P.cellsOf t)&&fs.toList.all fun x=>DM P f x.type
  |some (.array n e)=>Nat.beq (n*P.cellsOf e) (P.cellsOf t)&&DM P f e
  |_=>false
def Lay (w:World)(cs:List Value)(H:St→List Value→Prop):Prop:= ∀m nx r,OldSt w m nx r→ ∃m' nx' r' us,OldSt w m' nx' r'∧Grow m nx r m' nx' r'∧VRs r' us cs∧H (stO m' nx') us
theorem Lay.plain {w:World}{cs:List Value}{H:St→List Value→Prop}(h: ∀v∈cs,plain v=true)(k: ∀s,H s cs):Lay w cs H:=fun m nx r ho=>⟨m,nx,r,cs,ho, .refl _ _ _,VRs.plains h,k _⟩
theorem Q2 {w:World}{cs:List Value}{k:Nat}{H:St→List Value→Prop}(mono: ∀(s s':St) us,(∀b o l,Row s b o l→Row s' b o l)→H s us→H s' us): ∀n,n*k≤cs.length→(∀i,i<n→Lay w ((cs.drop (i*k)).take k) H)→Lay w (cs.take (n*k)) fun s us=> ∀i,i<n→H s ((us.drop (i*k)).take k)
 |0,_,_=>fun m nx r ho=>⟨m,nx,r,[],ho, .refl _ _ _,by rw[Nat.zero_mul];exact VRs.nil,fun i hi=>absurd hi (Nat.not_lt_zero i)⟩
 |n+1,hl,h=>fun m nx r ho=>by
  have hnk:(n+1)*k=n*k+k:=Nat.succ_mul n k
  obtain⟨m1,nx1,r1,us1,ho1,g1,v1,h1⟩:=Q2 mono n (by omega) (fun i hi=>h i (by omega)) m nx r ho
  obtain⟨m2,nx2,r2,us2,ho2,g2,v2,h2⟩:=h n (by omega) m1 nx1 r1 ho1
  have l1:us1.length=n*k:=by rw[v1.1,List.length_take];omega
  have l2:us2.length=k:=by rw[v2.1,List.length_take,List.length_drop];omega
  refine⟨m2,nx2,r2,us1++us2,ho2,g1.trans g2, ?_,fun i hi=> ?_⟩
  ·have e:cs.take ((n+1)*k)=cs.take (n*k)++(cs.drop (n*k)).take k:=by
    rw[hnk,List.take_add]
   rw[e]
   exact(v1.mono g2.le).append v2
  ·rcases Nat.lt_or_ge i n with hin|hin
   ·have hik:i*k+k≤n*k:=by
     have:=Nat.mul_le_mul_right k (show i+1≤n by omega)
     rw[Nat.succ_mul]at this
     exact this
    have e:((us1++us2).drop (i*k)).take k=(us1.drop (i*k)).take k:=by
     rw[List.drop_append_of_le_length (by omega),List.take_append_of_le_length (by rw[List.length_drop];omega)]
    rw[e]
    exact mono _ _ _ (fun b o l q=>g2.row q) (h1 i hin)
   ·have:i=n:=by omega
    subst this
    have e:((us1++us2).drop (i*k)).take k=us2:=by
     rw[List.drop_left' l1,List.take_of_length_le (by omega)]
    rw[e]
    exact h2
theorem VA {P:Program}: ∀{l:List Field} {o z:Nat},Ev P l o z=true→o≤z
 |[],o,z,h=>Nat.le_of_eq (Nat.eq_of_beq_eq_true h)
 |x::l,o,z,h=>by
  have h':(Nat.beq x.offset o&&Ev P l (o+P.cellsOf x.type) z)=true:=h
  rw[Bool.and_eq_true]at h'
  have:=VA h'.2
  omega
theorem Xu {P:Program}: ∀{l:List Field} {o z:Nat},Ev P l o z=true→ ∀x∈l,o≤x.offset
 |[],_,_,_,x,hx=>by cases hx
 |y::l,o,z,h,x,hx=>by
  have h':(Nat.beq y.offset o&&Ev P l (o+P.cellsOf y.type) z)=true:=h
  rw[Bool.and_eq_true]at h'
  rcases List.mem_cons.1 hx with rfl|hx
  ·exact Nat.le_of_eq (Nat.eq_of_beq_eq_true h'.1).symm
  ·have:=Xu h'.2 x hx
   omega
theorem SM {P:Program}{N:Nat}{w:World}{cs:List Value}{F:Nat}: ∀(l:List Field) (o:Nat),Ev P l o cs.length=true→(∀x∈l,Lay w ((cs.drop x.offset).take (P.cellsOf x.type)) fun s us=>Bv P N s F x.type us)→
  Lay w (cs.drop o) fun s us=> ∀x∈l,Bv P N s F x.type ((us.drop (x.offset-o)).take (P.cellsOf x.type))
 |[],o,ht,_=>fun m nx r ho=>by
  have:o=cs.length:=Nat.eq_of_beq_eq_true ht
  exact⟨m,nx,r,[],ho, .refl _ _ _,by rw[this,List.drop_length];exact VRs.nil,fun x hx=>by cases hx⟩
 |x::l,o,ht,h=>fun m nx r ho=>by
  have ht':(Nat.beq x.offset o&&Ev P l (o+P.cellsOf x.type) cs.length)=true:=ht
  rw[Bool.and_eq_true]at ht'
  have ho':x.offset=o:=Nat.eq_of_beq_eq_true ht'.1
  have hz:=VA ht'.2
  have hge:=Xu ht'.2
  obtain⟨m1,nx1,r1,us1,ho1,g1,v1,h1⟩:=h x (by simp) m nx r ho
  obtain⟨m2,nx2,r2,us2,ho2,g2,v2,h2⟩:=SM l (o+P.cellsOf x.type) ht'.2 (fun y hy=>h y (by simp[hy])) m1 nx1 r1 ho1
  rw[ho']at v1
  have l1:us1.length=P.cellsOf x.type:=by rw[v1.1,List.length_take,List.length_drop];omega
  refine⟨m2,nx2,r2,us1++us2,ho2,g1.trans g2, ?_,fun y hy=> ?_⟩
  ·have e:cs.drop o=(cs.drop o).take (P.cellsOf x.type)++cs.drop (o+P.cellsOf x.type):=by
    rw[←List.drop_drop,List.take_append_drop]
   rw[e]
   exact(v1.mono g2.le).append v2
  ·rcases List.mem_cons.1 hy with rfl|hy
   ·have e:((us1++us2).drop (y.offset-o)).take (P.cellsOf y.type)=us1:=by
     rw[ho',Nat.sub_self,List.drop_zero,List.take_left' l1]
    rw[e]
    exact Bv.mono (fun b o l q=>g2.row q) _ _ _ h1
   ·have hoy:=hge y hy
    have e:(us1++us2).drop (y.offset-o)=us2.drop (y.offset-(o+P.cellsOf x.type)):=by
     rw[List.drop_append,List.drop_of_length_le (by omega),List.nil_append,l1]
     congr 1
     omega
    rw[e]
    exact h2 y hy
theorem TE {α β:Type}{f:α→Option β}: ∀{xs:List α} {l:List β},xs.mapM f=some l→l.length=xs.length∧ ∀(i:Nat) (x:α),xs[i]?=some x→f x=l[i]?
 |[],l,h=>by
  have:l=[]:=by simpa using h.symm
  subst this
  exact⟨rfl,fun i x e=>by simp at e⟩
 |x::xs,l,h=>by
  rw[List.mapM_cons]at h
  cases hf:f x with
  |none=>rw[hf]at h;cases h
  |some y=>
   rw[hf]at h
   cases hx:xs.mapM f with
   |none=>rw[hx]at h;cases h
   |some ys=>
    rw[hx]at h
    cases h
    obtain⟨h1,h2⟩:=TE hx
    refine⟨by simp[h1],fun i z e=> ?_⟩
    cases i with
    |zero=>
     have:x=z:=by simpa using e
     subst this
     exact hf
    |succ i=>exact h2 i z (by simpa using e)
theorem Pb {w:World}{base k:Nat}{a:Addr}{l:List Value}(h:w.cells? base a k=some l):l.length=k∧ ∀j,j<k→w.cell? (a.add j)=l[j]?:=by
 unfold World.cells? at h
 split at h
 ·obtain⟨h1,h2⟩:=TE h
  rw[List.length_range]at h1
  exact⟨h1,fun j hj=>h2 j j (by simp[hj])⟩
 ·cases h
theorem DS_ {w:World}{a:Addr}{v:Value}(h:w.cell? a=some v):a.spot=none∧a.block<w.heap.size:=by
 unfold World.cell? at h
 cases hq:w.heap[a.block]? with
 |none=>simp only[hq]at h;cases h
 |some c=>
  refine⟨?_,(Array.getElem?_eq_some_iff.1 hq).1⟩
  cases hsp:a.spot with
  |none=>rfl
  |some x=>cases c<;>simp[hq,hsp]at h
theorem Q3 (b o n:Nat):(⟨b,o,none⟩:Addr).add n=⟨b,o+n,none⟩:=by
 unfold Addr.add
 split
 ·rename_i h;rw[h];rfl
 ·rfl
theorem X0 {a:Addr}{n:Nat}(hs:a.spot=none):a.add n=⟨a.block,a.off+n,none⟩:=by
 obtain⟨b,o,s⟩:=a
 cases hs
 exact Q3 b o n
mutual
def Ir {H:Type}(N:Nat):DataW H→Prop
 | .lit (.string l)=>l.length≤N
 | .slice es _=>es.length≤N∧Kg N es
 | .agg ps=>Kg N ps
 |_=>True
def Kg {H:Type}(N:Nat):List (DataW H)→Prop
 |[]=>True
 |d::r=>Ir N d∧Kg N r
end
theorem MU {H:Type}{N:Nat}: ∀{l:List (DataW H)},Kg N l→ ∀d∈l,Ir N d
 |[],_,d,hd=>by cases hd
 |x::l,h,d,hd=>by
  rcases List.mem_cons.1 hd with rfl|hd
  ·exact h.1
  ·exact MU h.2 d hd
theorem LY {H:Type}{enc:TypeId×Value→H}{P:Program}{N:Nat}{w:World}{b0:Nat}{sp:Nat→Bool}{held:Bool}: ∀(F f:Nat) (t:TypeId) (cs:List Value) (y:DataW H×List MemPlace),DM P F t=true→(maxLen≤N∨Ir N y.1)→DataW.trod enc P w b0 sp held f t cs=some y→Lay w cs fun s us=>Bv P N s F t us
 |0,_,_,_,_,hf,_,_=>by cases hf
 |F+1,f,t,cs,y,hf,hN,h=>by
  unfold DM at hf
  cases hu:P.underlying t with
  |none=>rw[hu]at hf;cases hf
  |some u=>
   rw[hu]at hf
   cases u<;>try (cases hf;done)
   case bool=>
    obtain⟨b,rfl,_⟩:=DataW.trod_bool hu h
    refine Lay.plain (fun v hv=>by rw[List.mem_singleton.1 hv];rfl) fun s=> ?_
    unfold Bv
    rw[hu]
    exact⟨b,rfl⟩
   case int k=>
    obtain⟨n,rfl,_,hw⟩:=DataW.trod_int hu h
    refine Lay.plain (fun v hv=>by rw[List.mem_singleton.1 hv];rfl) fun s=> ?_
    unfold Bv
    rw[hu]
    exact⟨n,rfl,hw⟩
   case string=>
    obtain⟨x,rfl,rfl,hs⟩:=DataW.trod_string hu h
    refine Lay.plain (fun v hv=>by rw[List.mem_singleton.1 hv];rfl) fun s=> ?_
    unfold Bv
    rw[hu]
    exact⟨x,rfl,hs,by
     rcases hN with hN|hN
     ·omega
     ·have:x.data.toList.length≤N:=hN
      simpa using this⟩
   case struct fs=>
    rw[Bool.and_eq_true]at hf
    obtain⟨xs,n,_,rfl,hl,_,hx⟩:=DataW.trod_struct hu h
    have hall: ∀x∈fs.toList,Lay w ((cs.drop x.offset).take (P.cellsOf x.type)) fun s us=>Bv P N s F x.type us:=fun x hxm=>by
     obtain⟨i,hi⟩:=List.getElem?_of_mem hxm
     have hi':fs[i]?=some x:=by rw[←Array.getElem?_toList];exact hi
     have hd:=hx i x hi'
     have hfl:DM P F x.type=true:=List.all_eq_true.1 hf.2 x hxm
     cases hz:DataW.trod enc P w b0 sp held n x.type ((cs.drop x.offset).take (P.cellsOf x.type))with
     |none=>
      rw[hz]at hd
      have h1:=(Array.getElem?_eq_some_iff.1 hi').1
      have h2:=List.getElem?_eq_none_iff.1 hd.symm
      omega
     |some z=>
      rw[hz]at hd
      exact LY F n _ _ z hfl (hN.imp id fun q=>MU q _ (List.mem_map.2 ⟨z,List.mem_of_getElem? hd.symm,rfl⟩)) hz
    intro m nx r ho
    obtain⟨m',nx',r',us,k1,k2,k3,k4⟩:=SM (F:=F) fs.toList 0 (by rw[hl];exact hf.1) hall m nx r ho
    rw[List.drop_zero]at k3
    refine⟨m',nx',r',us,k1,k2,k3, ?_⟩
    unfold Bv
    rw[hu]
    exact⟨by rw[k3.1,hl],fun x hx=>by have:=k4 x hx;rwa [Nat.sub_zero]at this⟩
   case array n e=>
    rw[Bool.and_eq_true]at hf
    have hsz:n*P.cellsOf e=P.cellsOf t:=Nat.eq_of_beq_eq_true hf.1
    obtain⟨xs,m1,_,rfl,hl,hxl,hx⟩:=DataW.trod_array hu h
    intro m nx r ho
    obtain⟨m',nx',r',us,k1,k2,k3,k4⟩:=Q2 (w:=w) (cs:=cs) (k:=P.cellsOf e) (H:=fun s us=>Bv P N s F e us) (fun s s' us hr hh=>Bv.mono hr _ _ _ hh) n (by rw[hsz,hl];exact Nat.le_refl _) (fun i hi=>by
     have hd:=hx i hi
     cases hz:DataW.trod enc P w b0 sp held m1 e ((cs.drop (i*P.cellsOf e)).take (P.cellsOf e))with
     |none=>
      rw[hz]at hd
      have h2:=List.getElem?_eq_none_iff.1 hd.symm
      omega
     |some z=>
      rw[hz]at hd
      exact LY F m1 _ _ z hf.2 (hN.imp id fun q=>MU q _ (List.mem_map.2 ⟨z,List.mem_of_getElem? hd.symm,rfl⟩)) hz) m nx r ho
    rw[hsz,←hl,List.take_length]at k3
    refine⟨m',nx',r',us,k1,k2,k3, ?_⟩
    unfold Bv
    rw[hu]
    exact⟨by rw[k3.1,hl],k4⟩
   case slice e=>
    rw[Bool.and_eq_true]at hf
    have hk:0<P.cellsOf e:=BR hf.1
    rcases DataW.trod_slice hu h with⟨rfl,_⟩|⟨a,len,cap,elems,rest,n,_,rfl,rfl,_,hlc,hcm,hel,hx,_,_⟩
    ·refine fun m nx r ho=>⟨m,nx,r,[.slice none 0 0],ho, .refl _ _ _, .cons .slNil .nil, ?_⟩
     unfold Bv
     rw[hu]
     exact .inl rfl
    ·by_cases h0:len=0
     ·subst h0
      refine fun m nx r ho=>⟨m,nx,r,[.slice (some ⟨0,0,none⟩) 0 (capU*P.cellsOf e)],ho, .refl _ _ _, .cons (.slEnd (by rw[Nat.mul_div_cancel_left _ (by unfold capU;decide)];omega) (Nat.mul_mod_right _ _)) .nil, ?_⟩
      unfold Bv
      rw[hu]
      exact .inr (.inl rfl)
     ·have hlN:len≤N:=by
       rcases hN with hN|hN
       ·omega
       ·have:=hN.1
        rw[List.length_map,hel]at this
        exact this
      have cells: ∀i,i<len→ ∃l z,w.cells? b0 (a.add (i*P.cellsOf e)) (P.cellsOf e)=some l∧DataW.trod enc P w b0 sp held n e l=some z∧z∈elems:=fun i hi=>by
       have:=hx i hi
       rw[List.getElem?_eq_getElem (by omega),Option.bind_eq_some_iff]at this
       obtain⟨l,h1,h2⟩:=this
       exact⟨l,_,h1,h2,List.getElem_mem _⟩
      have hspot:a.spot=none∧a.block<w.heap.size:=by
       obtain⟨l,z,h1,_⟩:=cells 0 (by omega)
       obtain⟨q1,q2⟩:=Pb h1
       have:=q2 0 hk
       rw[List.getElem?_eq_getElem (by omega)]at this
       rw[Nat.zero_mul]at this
       exact DS_ this
      have each: ∀j,∃v:Value,j<len*P.cellsOf e→w.cell? ⟨a.block,a.off+j,none⟩=some v:=fun j=>by
       by_cases hj:j<len*P.cellsOf e
       ·have hi:j/P.cellsOf e<len:=by rw[Nat.div_lt_iff_lt_mul hk];exact hj
        obtain⟨l,z,h1,_⟩:=cells _ hi
        obtain⟨q1,q2⟩:=Pb h1
        have hm:j%P.cellsOf e<P.cellsOf e:=Nat.mod_lt _ hk
        have:=q2 _ hm
        rw[List.getElem?_eq_getElem (by omega),X0 hspot.1,Q3]at this
        refine⟨l[j%P.cellsOf e]'(by omega),fun _=> ?_⟩
        rw[←this]
        have hdm:=Nat.div_add_mod j (P.cellsOf e)
        rw[Nat.mul_comm]at hdm
        congr 2
        omega
       ·exact⟨undef,fun h=>absurd h hj⟩
      obtain⟨g,hg⟩:=Classical.axiomOfChoice each
      obtain⟨cs,hcs⟩: ∃cs:List Value,cs=(List.range (len*P.cellsOf e)).map g:=⟨_,rfl⟩
      have hcl:cs.length=len*P.cellsOf e:=by rw[hcs];simp
      have hcg: ∀j v,cs[j]?=some v→w.cell? ⟨a.block,a.off+j,none⟩=some v:=fun j v e=>by
       rw[hcs,List.getElem?_map,Option.map_eq_some_iff]at e
       obtain⟨j',e1,e2⟩:=e
       have hj:=(List.getElem?_eq_some_iff.1 e1).1
       rw[List.length_range]at hj
       rw[List.getElem?_range hj]at e1
       cases e1
       rw[←e2]
       exact hg _ hj
      intro m nx r ho
      obtain⟨m',nx',r',us,k1,k2,k3,k4⟩:=Q2 (w:=w) (cs:=cs) (k:=P.cellsOf e) (H:=fun s us=>Bv P N s F e us) (fun s s' us hr hh=>Bv.mono hr _ _ _ hh) len (by omega) (fun i hi=>by
       obtain⟨l,z,h1,h2,h3⟩:=cells i hi
       obtain⟨q1,q2⟩:=Pb h1
       have el:(cs.drop (i*P.cellsOf e)).take (P.cellsOf e)=l:=by
        apply List.ext_getElem?
        intro j
        by_cases hj:j<P.cellsOf e
        ·have hjj:i*P.cellsOf e+j<cs.length:=by
          have:=Nat.mul_le_mul_right (P.cellsOf e) (show i+1≤len by omega)
          rw[Nat.succ_mul]at this
          omega
         rw[List.getElem?_take,if_pos hj,List.getElem?_drop,List.getElem?_eq_getElem hjj,←q2 j hj,X0 hspot.1,Q3]
         have:=hcg _ _ (List.getElem?_eq_getElem hjj)
         rw[←Nat.add_assoc]at this
         exact this.symm
        ·rw[List.getElem?_take,if_neg hj,List.getElem?_eq_none (by omega)]
       rw[el]
       exact LY F n _ _ z hf.2 (hN.imp id fun q=>MU q.2 _ (List.mem_map.2 ⟨z,h3,rfl⟩)) h2) m nx r ho
      rw[←hcl,List.take_length]at k3
      have hul:us.length=len*P.cellsOf e:=by rw[k3.1,hcl]
      have hpos:0<us.length:=by rw[hul];exact Nat.mul_pos (by omega) hk
      obtain⟨r2,hr2⟩: ∃r2:Inj,r2=⟨fun b=>if b=nx' then some (a.block,a.off)else r'.blk b,r'.ext,r'.known⟩:=⟨_,rfl⟩
      have hb2: ∀b,r2.blk b=if b=nx' then some (a.block,a.off)else r'.blk b:=fun b=>by rw[hr2]
      have hle:r'.le r2:=⟨fun b x e=>by
       rw[hb2,if_neg]
       ·exact e
       ·intro hb
        have:=(k1.hd b x.1 x.2 e).1
        omega,fun t x e=>by rw[hr2];exact e,by rw[hr2]⟩
      have hget: ∀j,T.get (layT nx' us nx' m') j=if nx'≤j∧j<nx'+us.length then(us[j-nx']?).map (fun v=> .O (.old nx' v))else T.get m' j:=fun j=>UZ _ _ _ _ _
      have hgrow:Grow m' nx' r' (layT nx' us nx' m') (nx'+us.length+1) r2:=⟨hle,by omega,fun l hl=>by rw[hget,if_neg (by omega)]⟩
      refine⟨layT nx' us nx' m',nx'+us.length+1,r2,[.slice (some ⟨nx',0,none⟩) len cap],⟨fun loc c e=> ?_,fun b b' d e=> ?_,fun b=>by rw[hr2];exact k1.hx b,by rw[hr2];exact k1.hk⟩,k2.trans hgrow, ?_, ?_⟩
      ·rw[hget]at e
       split at e
       ·rename_i hin
        rw[Option.map_eq_some_iff]at e
        obtain⟨v,e1,rfl⟩:=e
        obtain⟨v',e2,e3⟩:=k3.get e1
        refine⟨by omega,nx',v,rfl,a.block,a.off,v',hin.1,by rw[hb2,if_pos rfl], ?_,e3.mono hle⟩
        have:=hcg _ _ e2
        rwa [Nat.add_comm a.off]at this
       ·obtain⟨h1,b,v,rfl,b',d,v',h2,h3,h4,h5⟩:=k1.ho loc c e
        exact⟨by omega,b,v,rfl,b',d,v',h2,hle.1 _ _ h3,h4,h5.mono hle⟩
      ·rw[hb2]at e
       split at e
       ·rename_i hb
        cases e
        exact⟨by omega,hspot.2⟩
       ·have:=k1.hd b b' d e
        exact⟨by omega,this.2⟩
      ·refine .cons ?_ .nil
       have hcu:cap<capU:=by
        have:cap≤9223372036854775807:=hcm
        unfold capU
        omega
       have:=VR.sl (r:=r2) (b:=nx') (o:=0) (b':=a.block) (d:=a.off) (l:=len) (c:=cap) (c':=cap) (by rw[hb2,if_pos rfl]) (.inl ⟨Nat.div_eq_of_lt hcu,rfl⟩) (by rw[Nat.mod_eq_of_lt hcu];exact hlc)
       rw[Nat.zero_add]at this
       obtain⟨b,o,s⟩:=a
       have hs:s=none:=hspot.1
       subst hs
       exact this
      ·unfold Bv
       rw[hu]
       refine .inr (.inr ⟨nx',len,cap,rfl,by omega,hlc,hcm,hlN,fun i hi=>⟨(us.drop (i*P.cellsOf e)).take (P.cellsOf e), ?_,fun j v ej=> ?_,Bv.mono (fun b o l q=>hgrow.row q) _ _ _ (k4 i hi)⟩⟩)
       ·have:=Nat.mul_le_mul_right (P.cellsOf e) (show i+1≤len by omega)
        rw[Nat.succ_mul]at this
        rw[List.length_take,List.length_drop]
        omega
       ·have hj:=(List.getElem?_eq_some_iff.1 ej).1
        rw[List.length_take]at hj
        rw[List.getElem?_take,if_pos (by omega),List.getElem?_drop]at ej
        have hjl:=(List.getElem?_eq_some_iff.1 ej).1
        refine⟨?_, .inr ?_⟩
        ·show nx'+(i*P.cellsOf e+j)<nx'+us.length+1
         omega
        ·show T.get (layT nx' us nx' m') (nx'+(i*P.cellsOf e+j))=_
         rw[hget,if_pos (by omega),Nat.add_sub_cancel_left,ej]
         rfl
def aggT (P:Program)(t:TypeId):Bool:=match P.underlying t with
 |some (.struct _)|some (.array _ _)=>true
 |_=>false
def GN (P:Program)(N:Nat)(s:St)(F:Nat)(t:TypeId)(u:Value):Prop:= ∃us,Bv P N s F t us∧((aggT P t=true∧u= .agg us.toArray)∨(aggT P t=false∧us=[u]))
theorem Hj_ {P:Program}{w:World}{rc:Reach}{base F:Nat}{t:TypeId}{v:Value}(hf:DM P F t=true)(h:Value.okWide P w rc base t v):(aggT P t=true∧v= .agg v.cells)∨(aggT P t=false∧v.cells= #[v]):=by
 cases F with
 |zero=>cases hf
 |succ F=>
  unfold DM at hf
  unfold aggT
  cases hu:P.underlying t with
  |none=>rw[hu]at hf;cases hf
  |some u=>
   rw[hu]at hf
   unfold Value.okWide at h
   rw[hu]at h
   cases u<;>try (cases hf;done)
   case struct fs=>
    obtain⟨cs,rfl,_⟩:=h
    exact .inl ⟨rfl,rfl⟩
   case array n e=>
    obtain⟨cs,rfl,_⟩:=h
    exact .inl ⟨rfl,rfl⟩
   all_goals
    refine .inr ⟨rfl, ?_⟩
    simp only at h
    unfold Cell.okWide Cell.ok at h
    rw[hu]at h
    cases v<;>first|rfl|(simp at h)
theorem Ta {H:Type}{enc:TypeId×Value→H}{P:Program}{w:World}{b0 base F N:Nat}{sp:Nat→Bool}{held:Bool}: ∀(ts:List TypeId) (vs:List Value) (ds:List (DataW H)) (ps:List MemPlace),DataW.TrodAll enc P w b0 sp held ts vs ds ps→(∀(j:Nat) t v,ts[j]?=some t→vs[j]?=some v→Value.okWide P w .any base t v)→ts.all (DM P F)=true→(maxLen≤N∨ ∀d∈ds,Ir N d)→
  ∀m nx r,OldSt w m nx r→ ∃m' nx' r' us,OldSt w m' nx' r'∧Grow m nx r m' nx' r'∧VRs r' us vs∧us.length=ts.length∧ ∀(j:Nat) t u,ts[j]?=some t→us[j]?=some u→GN P N (stO m' nx') F t u
 |[],[],_,_,_,_,_,_=>fun m nx r ho=>⟨m,nx,r,[],ho, .refl _ _ _, .nil,rfl,fun j t u e=>by simp at e⟩
 |[],_::_,ds,_,h,_,_,_=>by cases ds<;>exact h.elim
 |_::_,[],ds,_,h,_,_,_=>by cases ds<;>exact h.elim
 |t::ts,v::vs,[],_,h,_,_,_=>h.elim
 |t::ts,v::vs,d::ds,_,⟨p,q,⟨fuel,h1⟩,h2,_⟩,hv,hf,hN=>fun m nx r ho=>by
  rw[List.all_cons,Bool.and_eq_true]at hf
  obtain⟨m1,nx1,r1,us,o1,g1,v1,k1⟩:=LY (N:=N) F fuel t _ _ hf.1 (hN.imp id fun z=>z d (by simp)) h1 m nx r ho
  obtain⟨m2,nx2,r2,us2,o2,g2,v2,l2,k2⟩:=Ta ts vs ds q h2 (fun j t v e1 e2=>hv (j+1) t v e1 e2) hf.2 (hN.imp id fun z d' hd=>z d' (by simp[hd])) m1 nx1 r1 o1
  have k1':=Bv.mono (fun b o l z=>g2.row z) _ _ _ k1
  rcases Hj_ hf.1 (hv 0 t v rfl rfl)with⟨ha,hc⟩|⟨ha,hc⟩
  ·refine⟨m2,nx2,r2, .agg us.toArray::us2,o2,g1.trans g2, .cons ?_ v2,by simp[l2],fun j t' u e1 e2=> ?_⟩
   ·rw[hc]
    have:=(v1.mono g2.le).agg
    simpa using this
   ·cases j with
    |zero=>
     cases e1
     cases e2
     exact⟨us,k1', .inl ⟨ha,rfl⟩⟩
    |succ j=>exact k2 j t' u e1 e2
  ·rw[hc]at v1
   have hl:us.length=1:=v1.1
   obtain⟨u0,rfl⟩: ∃u0,us=[u0]:=by
    match us,hl with
    |[x],_=>exact⟨x,rfl⟩
   obtain⟨v',l',e0,e1,_⟩:=v1.inv
   have hv':v=v':=by
    have:[v]=v'::l':=e0
    cases this
    rfl
   subst hv'
   refine⟨m2,nx2,r2,u0::us2,o2,g1.trans g2, .cons (e1.mono g2.le) v2,by simp[l2],fun j t' u e1 e2=> ?_⟩
   cases j with
   |zero=>
    cases e1
    cases e2
    exact⟨[u0],k1', .inr ⟨ha,rfl⟩⟩
   |succ j=>exact k2 j t' u e1 e2
theorem Uw_ {H:Type}{enc:TypeId×Value→H}{E:Env}(he:EnvOK E){fuel f F N base:Nat}{args:Array Value}{v:Value}{ts:List TypeId}{sp:Nat→Bool}{held:Bool}{ds:List (DataW H)}{ps:List MemPlace}{w:World}(ho:E.orc.get f=none)(hx:E.ext.get f=none)(hp:plain v=true)
  (hA:DataW.TrodAll enc E.P w 0 sp held ts args.toList ds ps) (hv: ∀(j:Nat) t v,ts[j]?=some t→args.toList[j]?=some v→Value.okWide E.P w .any base t v) (hf:ts.all (DM E.P F)=true) (hN:maxLen≤N∨ ∀d∈ds,Ir N d)
  (run: ∀m nx us,us.length=ts.length→(∀(j:Nat) t u,ts[j]?=some t→us[j]?=some u→GN E.P N (stO m nx) F t u)→W (AJ E (runF E fuel) f us) (stO m nx) fun u _=>u=v):
  Calls E.P f args w fun e w'=>e= .returned v∧Below w.heap.size w w':=by
 have h0:OldSt w .E 0 ⟨fun _=>none,fun _=>none, .no⟩:=⟨fun loc c e=>(by cases e),fun b b' d e=>(by cases e),fun _=>rfl,rfl⟩
 obtain⟨m,nx,r,us,o1,_,v1,l1,k1⟩:=Ta ts args.toList ds ps hA hv hf hN .E 0 _ h0
 refine Jv_ (r:=r) (s0:=stO m nx) he ho hx (run m nx us l1 k1) hp v1 (Rel.ofOld (by rw[o1.hk];exact Know.no_sure w) (fun b b' d e=>(o1.hd b b' d e).2) fun loc c e=>(o1.ho loc c e).2) (Nat.zero_le _) fun b hb=>⟨?_,o1.hx b⟩
 cases hq:r.blk b with
 |none=>rfl
 |some x=>
  have:=(o1.hd b x.1 x.2 hq).1
  have hb':nx≤b:=hb
  omega
theorem Ag_ {α:Type}{n:Nat}{p:Nat→α→Prop}(h: ∀i,i<n→ ∃x,p i x): ∃l:List α,l.length=n∧ ∀i x,l[i]?=some x→p i x:=by
 induction n with
 |zero=>exact⟨[],rfl,fun i x e=>by simp at e⟩
 |succ n ih=>
  obtain⟨l,h1,h2⟩:=ih fun i hi=>h i (by omega)
  obtain⟨x,hx⟩:=h n (by omega)
  refine⟨l++[x],by simp[h1],fun i y e=> ?_⟩
  rcases Nat.lt_or_ge i n with hi|hi
  ·rw[List.getElem?_append_left (by omega)]at e
   exact h2 i y e
  ·rw[List.getElem?_append_right (by omega),h1]at e
   have:i=n:=by
    have:=(List.getElem?_eq_some_iff.1 e).1
    simp at this
    omega
   subst this
   rw[Nat.sub_self]at e
   cases e
   exact hx
theorem JU_ {k:Nat}(hk:k<1024):Cr (capU*k) k=true:=by
 unfold Cr
 have hd:Nat.div (capU*k) capU=k:=Nat.mul_div_cancel_left k (by unfold capU;decide)
 have hm:Nat.mod k 1024=k:=Nat.mod_eq_of_lt hk
 rw[hd,hm,Nat.beq_refl]
 cases Nat.beq k 0<;>rfl
section
variable {P:Program}{s:St}{F N:Nat}{t e:TypeId}{us:List Value}
def ElS (s:St)(k:Nat)(v:Value)(es:List (List Value)):Prop:=(v= .slice none 0 0∧es=[])∨ ∃b c,v= .slice (some ⟨b,0,none⟩) es.length c∧es.length≤c%capU∧Cr c k=true∧ ∀i x,es[i]?=some x→Row s b (i*k) x
theorem Bv.slice (ht:P.underlying t=some (.slice e))(hk:P.cellsOf e<1024)(h:Bv P N s (F+1) t us): ∃v es,us=[v]∧ElS s (P.cellsOf e) v es∧es.length≤9223372036854775807∧es.length≤N∧ ∀x∈es,x.length=P.cellsOf e∧Bv P N s F e x:=by
 unfold Bv at h
 rw[ht]at h
 rcases h with rfl|rfl|⟨b,n,c,rfl,h1,h2,h3,h5,h4⟩
 ·exact⟨_,[],rfl, .inl ⟨rfl,rfl⟩,by simp,by simp,fun x hx=>by cases hx⟩
 ·exact⟨_,[],rfl, .inr ⟨0,_,rfl,Nat.zero_le _,JU_ hk,fun i x e=>by simp at e⟩,by simp,by simp,fun x hx=>by cases hx⟩
 ·obtain⟨l,l1,l2⟩:=Ag_ h4
  have h3':c≤9223372036854775807:=h3
  have hcu:c<capU:=by unfold capU;omega
  refine⟨_,l,rfl, .inr ⟨b,c,by rw[l1],by rw[l1,Nat.mod_eq_of_lt hcu];exact h2,D3 hcu,fun i x e=>(l2 i x e).2.1⟩,by omega,by omega,fun x hx=> ?_⟩
  obtain⟨i,hi⟩:=List.getElem?_of_mem hx
  exact⟨(l2 i x hi).1,(l2 i x hi).2.2⟩
end
abbrev Any:Nat→Prop:=fun _=>True
theorem Ext.any {F G:Nat→Prop}{s s1:St}(h:Ext F G s s1)(hb:s.lim≤s.next):Ext Any G s s1:=h.weak hb (fun _ _ _=>trivial) fun _ _ h=>h
theorem Ext.then0 {F:Nat→Prop}{s s1 s2:St}(h:Ext Any Non s s1)(k:Ext F Non s1 s2)(hb:s.lim≤s.next):Ext Any Non s s2:=h.trans k hb (fun _ _ _=>trivial) fun _ _ h=>h
theorem Ext.thenW {F:Nat→Prop}{s s1 s2:St}{b o n:Nat}(h:Ext Any Non s s1)(k:Ext F (In b o n) s1 s2)(hb:s.lim≤s.next)(hn:s.next≤b):Ext Any Non s s2:=h.trans k hb (fun _ _ _=>trivial) fun y hy hq=>by
 have h1:=hq.1
 have h2:y<s.next:=hy
 omega
theorem Ext.cx' {F G:Nat→Prop}{s s1:St}{c:Ctx}(x:Ext F G (s.cxN c) s1):Ext F G s (s1.cxN s.cx):=⟨x.nxt,x.lim,rfl,x.mem,x.rd,x.wr⟩
section
variable {E:Env}{t:Nat}{s:St}{xo yo:Operand}
end
def W6 (P:Program)(t:TypeId)(l:List (TypeId×Nat)):Bool:=match P.underlying t with
 |some (.struct fs)=>decide (fs.toList.map (fun x=>(x.type,x.offset))=l)
 |_=>false
theorem Bv.struct {P:Program}{N F:Nat}{s:St}{t:TypeId}{us:List Value}{l:List (TypeId×Nat)}(hb:W6 P t l=true)(h:Bv P N s (F+1) t us):us.length=P.cellsOf t∧ ∀x∈l,Bv P N s F x.1 ((us.drop x.2).take (P.cellsOf x.1)):=by
 unfold W6 at hb
 unfold Bv at h
 cases hu:P.underlying t with
 |none=>rw[hu]at hb;cases hb
 |some u=>
  rw[hu]at hb h
  cases u<;>try (cases hb;done)
  have e:=of_decide_eq_true hb
  refine⟨h.1,fun x hx=> ?_⟩
  rw[←e]at hx
  obtain⟨y,hy,rfl⟩:=List.mem_map.1 hx
  exact h.2 y hy
theorem Bv.int' {P:Program}{N F:Nat}{s:St}{t:TypeId}{k:IntKind}{us:List Value}(hu:P.underlying t=some (.int k))(h:Bv P N s (F+1) t us): ∃n,us=[.int k n]∧(Lit.int k n).wf=true:=by
 unfold Bv at h
 rw[hu]at h
 exact h
theorem GN.one {P:Program}{N F:Nat}{s:St}{t:TypeId}{u:Value}(hb:aggT P t=false)(h:GN P N s F t u):Bv P N s F t [u]:=by
 obtain⟨us,h1,⟨h2,_⟩|⟨_,rfl⟩⟩:=h
 ·rw[hb]at h2;cases h2
 ·exact h1
theorem GN.agg {P:Program}{N F:Nat}{s:St}{t:TypeId}{u:Value}(hb:aggT P t=true)(h:GN P N s F t u): ∃us,u= .agg us.toArray∧Bv P N s F t us:=by
 obtain⟨us,h1,⟨_,h2⟩|⟨h2,_⟩⟩:=h
 ·exact⟨us,h2,h1⟩
 ·rw[hb]at h2;cases h2
open Go.RowKit
section
variable {α β:Type}{s:St}{E:Env}{t t2:Nat}
theorem W.appLit (hbd:s.lim≤s.next){sz by' n len b0 o0:Nat}{z l old:List Value}{x:Value}{F:Nat→Prop}{Q:Value→St→Prop}{g:Bool}(ht:appT E t t2=some (sz,by',g,z))(hrow:Row s b0 o0 old)(holdl:old.length=len*sz)(hx:SrcG s sz by' g z x n l F)(hn:0<n)(hlen:0<len)(hs0:0<sz)(hs1:sz<1024)(hb:(len+n)*(by'+1)≤16777216)(hl:l.length=n*sz)(h1:l.all oneCell=true)
  (q: ∀s2 v b,Fresh1 s s2 sz (len+n) (old++l) v b→Ext (fun x=>F x∨In b0 o0 (len*sz) x) Non s s2→Q v s2):W (CS E t t2 (.slice (some ⟨b0,o0,none⟩) len len) x) s Q:=by
 obtain⟨i,i2,e,ie,g1,g2,g3,g4,g5,g6,g7,g8⟩:=JC ht
 obtain⟨hN,s0,e1,m1,n1,x1⟩:=hx ie g5 g6 g8
 subst g5;subst g6
 have hle:len<capU:=by
  have:len≤16777216:=by
   have h2:len*1≤(len+n)*(ie.bytes+1):=Nat.mul_le_mul (by omega) (by omega)
   omega
  unfold capU
  omega
 have hmod:len%capU=len:=Nat.mod_eq_of_lt hle
 have hdiv:len/capU=0:=Nat.div_eq_of_lt hle
 refine W.bind (W.ti g1 (W.bind (W.ti g2 ?_)))
 rw[g3,g7]
 refine W.bind (W.ti g4 (W.bind (W.of (hN s) (W.bind ?_))))
 refine W.of e1 ?_
 show W (M.if (Nat.ble (Nat.add len n) (len%capU)) _ _) s0 Q
 have hz:Nat.ble (Nat.add len n) (len%capU)=false:=by
  cases hq:Nat.ble (Nat.add len n) (len%capU)with
  |false=>rfl
  |true=>
   have h2:=Nat.le_of_ble_eq_true hq
   rw[hmod]at h2
   have h3:Nat.add len n=len+n:=rfl
   omega
 rw[hz]
 show W (grow ie.size ie.bytes (C9 ie.zero) (some ⟨b0,o0,none⟩) len len n l) s0 Q
 unfold grow
 have hb0:s0.lim≤s0.next:=x1.bnd hbd
 have hrow0:Row s0 b0 o0 old:=fun i v e=>(hrow i v e).same m1 n1
 refine W.chk ?_ (W.bind ?_)
 ·rw[h1,hl,hmod]
  simp only[Bool.and_true,Bool.and_eq_true,Bool.or_eq_true]
  refine⟨⟨⟨⟨Nat.ble_eq_true_of_le hb,BU hs0⟩,BU hs1⟩, .inl (BU hlen)⟩,Nat.beq_refl _⟩
 show W (oldL ie.size (some ⟨b0,o0,none⟩) (Bool.rec (motive:=fun _=>Nat) (len%capU) len (Nat.beq (len/capU) 0))) s0 _
 rw[hdiv]
 show W (Am.rdL (len*ie.size) ⟨b0,o0,none⟩) s0 _
 rw[←holdl]
 refine W.rdL hrow0 fun s1 mr nr xr=>W.bind ?_
 rw[holdl]at xr
 have x01:Ext (fun x=>F x∨In b0 o0 (len*ie.size) x) Non s s1:=(x1.weak hbd (fun _ _ h=> .inl h) fun _ _ h=>h).trans xr hbd (fun _ _ h=> .inr h) fun _ _ h=>h
 have m01:s1.mem=s.mem:=mr.trans m1
 have n01:s1.next=s.next:=nr.trans n1
 show W (Df ie.size (some ⟨b0,o0,none⟩) (len%capU) (len/capU)) s1 _
 rw[hdiv]
 show W (M.pure 1) s1 _
 have hlen:(old.take (Nat.mul len ie.size)++l:List Value)=old++l:=by
  rw[List.take_of_length_le (by rw[holdl];exact Nat.le_refl _)]
 have hll:(old++l).length=(len+n)*ie.size:=by rw[List.length_append,holdl,hl,Nat.add_mul]
 refine W.pure (W.bind ?_)
 rw[hlen]
 refine W.newL fun s2 n2 x2 r2=>W.fN (W.fN (W.bind (W.wrC ?_ ?_)))
 ·rw[n2,hll]
  show s1.next+(len+n)*ie.size<_
  omega
 ·show W (Am.fA (⟨s1.next,0,none⟩:Addr) fun a=>Am.fN (Nat.add len n) fun l=>Am.fN _ fun c=>M.pure (.slice (some a) l c)) _ Q
  refine W.fA (W.fN (W.fN (W.pure (q _ _ s1.next ⟨rfl,Nat.le_of_eq n01.symm, ?_,hll, ?_, ?_⟩ ?_))))
  ·intro k v hk
   have hk':=(List.getElem?_eq_some_iff.1 hk).1
   have:=r2 k v hk
   refine⟨this.1, ?_⟩
   show T.get (T.set s2.mem _ _) _=_
   rw[T.get_set,if_neg]
   ·exact this.2
   ·show s1.next+(0+k)≠s1.next+(len+n)*ie.size
    omega
  ·refine⟨flg ie.size 1 (C9 ie.zero),GV hs1, ?_⟩
   show T.get (T.set s2.mem (s1.next+(len+n)*ie.size) _) _=_
   rw[T.get_set]
   exact if_pos rfl
  ·show s1.next+(len+n)*ie.size<s2.next
   rw[n2,hll]
   omega
  ·obtain⟨d1,p1,p2⟩:=x01.rd
   obtain⟨d2,p3,p4⟩:=x2.rd
   obtain⟨d3,p5,p6⟩:=x01.wr
   obtain⟨d4,p7,p8⟩:=x2.wr
   refine⟨?_,x2.lim.trans x01.lim,x2.cx.trans x01.cx,fun y q1 q2=> ?_,⟨d2++d1, ?_, ?_⟩,⟨[], ?_,fun _ h=>by cases h⟩⟩
   ·show s.next≤s2.next
    rw[n2,n01];omega
   ·show T.get (T.set s2.mem _ _) y=_
    rw[T.get_set,if_neg,x2.mem y (by rw[n01];exact q1) id,m01]
    show y≠s1.next+(len+n)*ie.size
    rw[n01];omega
   ·show s2.rd=_
    rw[p3,p1,List.append_assoc]
   ·intro y hy
    rcases List.mem_append.1 hy with hy|hy
    ·exact(p4 y hy).2.elim
    ·exact p2 y hy
   ·show notes _ s2.lim s2.wr=s.wr
    have e1:s2.wr=s.wr:=by
     have h5:d3=[]:=by
      cases d3 with
      |nil=>rfl
      |cons y l=>exact(p6 y (by simp)).2.elim
     have h7:d4=[]:=by
      cases d4 with
      |nil=>rfl
      |cons y l=>exact(p8 y (by simp)).2.elim
     rw[p7,p5,h5,h7];rfl
    unfold notes
    rw[GM,e1]
    show s2.lim≤s1.next+(len+n)*ie.size
    rw[x2.lim,x01.lim,n01]
    omega
end
open Go.RowKit Go.ChangeShapes
noncomputable def zeroT (P:Program)(t:Nat):Value:=((P.info? t).bind (·.zero)).getD .nilFunc
section
variable {H:Type}{enc:TypeId×Value→H}{P:Program}{W W':World}
theorem below_all (hl:laidOutB P=true)(hb:Below W.heap.size W W'){sp:Nat→Bool}: ∀{ts:List TypeId} {vs:List Value} {ds:List (DataW H)} {ps:List MemPlace},(ts.all fun t=>P.readableRec t&&decide (t<P.types.size))=true→DataW.TrodAll enc P W 0 (fun _=>true) true ts vs ds ps→(∀x∈ps,x.block<W.heap.size)→(∀x∈ps,sp x.block=true)→
  DataW.TrodAll enc P W' 0 sp true ts vs ds ps
 |[],_,_,_,_,h,_,_=>by
  obtain⟨rfl,rfl,rfl⟩:=trodAll_nil h
  exact trodAll_mk0
 |t::ts,_,_,_,hr,h,hlt,hsp=>by
  obtain⟨v,vs,d,ds,p,q,rfl,rfl,rfl,h1,h2⟩:=trodAll_cons h
  rw[List.all_cons,Bool.and_eq_true,Bool.and_eq_true]at hr
  refine⟨p,q,WideElems.Trod_stays hl hr.1.1 (of_decide_eq_true hr.1.2) h1 (fun x hx=>hb.same (hlt x (List.mem_append_left _ hx))) (fun x hx=>hsp x (List.mem_append_left _ hx)), ?_,rfl⟩
  exact below_all hl hb hr.2 h2 (fun x hx=>hlt x (List.mem_append_right _ hx)) (fun x hx=>hsp x (List.mem_append_right _ hx))
end
end Go.Proofs.Ytofanlcjeohcjaa.Am
