import Derived.Test.YtofanlcjeohcjaaIFn07
import Derived.Test.YtofanlcjeohcjaaIFn06
import GoSem.ClaimWide
import Derived.ChangeShapes
import Derived.ChangeSlices
import Derived.WideShapes
import Derived.OpenShut
import Derived.Carry
import Derived.ChangeSame
noncomputable section
namespace Go.Proofs.Ytofanlcjeohcjaa.Am
open Go.RowKit
section
variable {P:Program}{t:Nat}
theorem Eh_ {k:IntKind}{d:Nat}{b:Bool}{a:Value}(hu:P.underlying t=some (.int k)):semP P (Instr.checkKey b (d+1) t a)=some ():=by
 unfold Instr.checkKey
 simp only[By,Dr hu,Option.bind_some]
 rfl
theorem BB_ {d e n:Nat}{i:TypeInfo}{b:Bool}(l:List Nat)(hu:P.underlying t=some (.array n e))(hi:P.info? e=some i)(hz:i.size=1)(he:P.underlying e=some (.int .u8))(hl:l.length=n):
  semP P (Instr.checkKey b (d+2) t (.agg (u8l l).toArray))=some ():=by
 rw[show d+2=(d+1)+1 from rfl]
 unfold Instr.checkKey
 simp only[By,Dr hu,Option.bind_some]
 simp only[Std.Legacy.Range.forIn_eq_forIn_range',Std.Legacy.Range.size,Nat.sub_zero,Nat.add_one_sub_one,Nat.div_one]
 have hr: ∀j∈List.range' 0 n,j<n:=fun j hj=>by simpa using hj
 generalize List.range' 0 n=is at hr
 induction is with
 |nil=>rfl
 |cons j is ih=>
  have hj:=hr j (by simp)
  have ih:=ih fun k hk=>hr k (by simp[hk])
  simp only[Cz]at ih
  simp only[List.forIn_cons,By,ME hi,hz,Hv he (Nq l (show j<l.length by rw[hl];exact hj)),Option.bind_some,Eh_ he,Cz]
  exact ih
def idEs:Nat→List (List Nat)→List MapEntry
 |_,[]=>[]
 |k,x::r=>⟨.agg (u8l x).toArray, .agg #[],k⟩::idEs (k+1) r
theorem R9: ∀(l:List (List Nat)) (k:Nat) (x:List Nat),idEs k l++[⟨.agg (u8l x).toArray, .agg #[],k+l.length⟩]=idEs k (l++[x])
 |[],k,x=>rfl
 |y::l,k,x=>by
  show _::(idEs (k+1) l++_)=_::idEs (k+1) (l++[x])
  rw[←R9 l (k+1) x,List.length_cons,show k+(l.length+1)=k+1+l.length by omega]
theorem U5: ∀(l:List (List Nat)) (k j:Nat) (h:j<l.length),(idEs k l)[j]?=some ⟨.agg (u8l l[j]).toArray, .agg #[],k+j⟩
 |y::l,k,0,_=>rfl
 |y::l,k,j+1,h=>by
  show(idEs (k+1) l)[j]?=_
  rw[U5 l (k+1) j (by simpa using h)]
  simp only[List.getElem_cons_succ]
  rw[show k+1+j=k+(j+1) by omega]
theorem Q6 {e n:Nat}{i:TypeInfo}(x:List Nat)(hu:P.underlying t=some (.array n e))(hi:P.info? e=some i)(hz:i.size=1)(he:P.underlying e=some (.int .u8))(hx:x.length=n): ∀(ids:List (List Nat)) (k j:Nat),(∀y∈ids,y.length=n)→
  (semP P (Instr.findAsking t (.agg (u8l x).toArray) (CT (idEs k ids)) j)).map (fun r=>r.map (·.1))=some ((ids.findIdx? fun y=>decide (x=y)).map (· +j))
 |[],k,j,_=>rfl
 |y::ids,k,j,h=>by
  show(semP P (Instr.findAsking t (.agg (u8l x).toArray) (⟨.agg (u8l y).toArray,undef,k⟩::CT (idEs (k+1) ids)) j)).map _=_
  unfold Instr.findAsking
  rw[By]
  have:semP P (Op.equal t (.agg (u8l x).toArray) (.agg (u8l y).toArray))=some (decide (x=y)):=KL 9998 x y hu hi hz he hx (h y (by simp))
  simp only[this,Option.bind_some]
  by_cases hq:x=y
  ·simp only[hq,decide_true,if_true,Cz,List.findIdx?_cons,Option.map_some]
   simp
  ·simp only[hq,decide_false,Bool.false_eq_true,if_false,List.findIdx?_cons]
   rw[Q6 x hu hi hz he hx ids (k+1) (j+1) fun z hz=>h z (by simp[hz])]
   rw[Option.map_map]
   congr 2
   funext z
   simp only[Function.comp]
   omega
theorem FW_ {e n:Nat}{i:TypeInfo}(x:List Nat)(hu:P.underlying t=some (.array n e))(hi:P.info? e=some i)(hz:i.size=1)(he:P.underlying e=some (.int .u8))(hx:x.length=n)(ids:List (List Nat))(h: ∀y∈ids,y.length=n):
  (semP P (Instr.findKey t (.agg (u8l x).toArray) (CT (idEs 0 ids)))).map (fun r=>r.map (·.1))=some (ids.findIdx? fun y=>decide (x=y)):=by
 unfold Instr.findKey
 rw[By,Dr hu]
 simp only[Option.bind_some]
 cases ids with
 |nil=>rfl
 |cons y r=>
  have hn:Instr.findNow (.array n e) (.agg (u8l x).toArray) (CT (idEs 0 (y::r))) 0=none:=rfl
  rw[hn]
  have:=Q6 x hu hi hz he hx (y::r) 0 0 h
  simp only at this ⊢
  rw[this]
  simp
end
section
variable {E:Env}{s:St}{t kt et n l:Nat}{x:List Nat}{ids:List (List Nat)}
theorem T0 (hk:arrB E.P kt=some n)(hx:x.length=n)(h: ∀y∈ids,y.length=n)(b:Bool):Cw E b kt (.agg (u8l x).toArray) (idEs 0 ids) s= .some (ids.findIdx? fun y=>decide (x=y)) s:=by
 obtain⟨e,i,h1,h2,h3,h4,_⟩:=Lb hk
 have hf:=FW_ x h1 h2 h4 h3 hx ids h
 unfold Cw
 rw[G4]
 show M.on (semP E.P (do Instr.checkKey b (9998+2) kt (.agg (u8l x).toArray);Instr.findKey kt (.agg (u8l x).toArray) (CT (idEs 0 ids)))) (fun r=>M.pure (r.map (·.1))) s=_
 rw[By,BB_ x h1 h2 h4 h3 hx]
 simp only[Option.bind_some]
 cases hq:semP E.P (Instr.findKey kt (.agg (u8l x).toArray) (CT (idEs 0 ids)))with
 |none=>rw[hq]at hf;cases hf
 |some r=>
  rw[hq]at hf
  simp only[Option.map_some,Option.some.injEq]at hf
  show M.pure (r.map (·.1)) s=_
  rw[hf]
  rfl
theorem W.look {m:Nat}{Q:Value→St→Prop}(hT: ∀s,mapT E t s= .some (kt,et) s)(hZ: ∀s,zeroOf E et s= .some (.agg #[]) s)(hk:arrB E.P kt=some n)(hx:x.length=n)(h: ∀y∈ids,y.length=n)(ho:Obj s l (.map (idEs 0 ids) m))
  (q:Q (.tuple #[.agg #[], .bool (decide (x∈ids))]) (s.rdN l)):W (EL E t true (.map (some l)) (.agg (u8l x).toArray)) s Q:=by
 refine W.bind ⟨_,_,hT s, ?_⟩
 show W (M.bind (Cc l) fun p=>EP E kt et (.agg (u8l x).toArray) true p.1) s Q
 refine W.bind (W.bind (W.rdC ho.2 ho.1 (W.pure ?_)))
 show W (EP E kt et (.agg (u8l x).toArray) true (idEs 0 ids)) (s.rdN l) Q
 unfold EP
 refine W.bind ⟨_,_,T0 hk hx h _, ?_⟩
 cases hq:ids.findIdx? fun y=>decide (x=y)with
 |none=>
  have hn:x∉ids:=fun hm=>by
   have:=List.findIdx?_eq_none_iff.1 hq x hm
   simp at this
  rw[decide_eq_false hn]at q
  exact W.bind ⟨_,_,hZ _,W.pure q⟩
 |some j=>
  obtain⟨hj,hp,_⟩:=List.findIdx?_eq_some_iff_getElem.1 hq
  have e:x=ids[j]:=of_decide_eq_true hp
  have hm:x∈ids:=by rw[e];exact List.getElem_mem hj
  rw[decide_eq_true hm]at q
  show W (M.on (idEs 0 ids)[j]? fun e=>Dj true e.val true) (s.rdN l) Q
  rw[U5 ids 0 j hj]
  exact W.pure q
theorem W.mapUp {Q:Value→St→Prop}(hb:s.lim≤s.next)(hT: ∀s,mapT E t s= .some (kt,et) s)(hk:arrB E.P kt=some n)(hx:x.length=n)(h: ∀y∈ids,y.length=n)(hn:x∉ids)(ho:Obj s l (.map (idEs 0 ids) ids.length))
  (q: ∀s1,s1.next=s.next→Ext (fun y=>y=l) (fun y=>y=l) s s1→Obj s1 l (.map (idEs 0 (ids++[x])) (ids++[x]).length)→Q undef s1):W (DB E t (.map (some l)) (.agg (u8l x).toArray) (.agg #[])) s Q:=by
 refine W.bind ⟨_,_,hT s, ?_⟩
 show W (M.bind (Cc l) fun p=>M.bind (putE E kt (.agg (u8l x).toArray) (.agg #[]) l p) fun _=>M.pure undef) s Q
 refine W.bind (W.bind (W.rdC ho.2 ho.1 (W.pure ?_)))
 refine W.bind ?_
 show W (putE E kt (.agg (u8l x).toArray) (.agg #[]) l (idEs 0 ids,ids.length)) (s.rdN l) _
 unfold putE
 refine W.bind ⟨_,_,T0 hk hx h _, ?_⟩
 have hq:(ids.findIdx? fun y=>decide (x=y))=none:=List.findIdx?_eq_none_iff.2 fun y hy=>decide_eq_false fun e=>hn (by rw[e];exact hy)
 rw[hq]
 have hl:l<(s.rdN l).next:=ho.1
 refine W.wrC hl (W.pure (q _ rfl ?_ ?_))
 ·exact(Ext.rdN (F:=fun y=>y=l) (G:=fun y=>y=l) s l fun _=>rfl).trans (Ext.wrN (F:=fun y=>y=l) (G:=fun y=>y=l) (s.rdN l) l _ rfl) hb (fun _ _ h=>h) fun _ _ h=>h
 ·refine⟨ho.1, ?_⟩
  show T.get (T.set s.mem l _) l=_
  rw[T.get_set,if_pos rfl]
  have:=R9 ids 0 x
  rw[Nat.zero_add]at this
  rw[this,List.length_append]
  rfl
end
theorem Rel.ofOld {w:World}{r:Inj}{mem:T Cell}(hk:r.known.sure w)(hd: ∀b b' d,r.blk b=some (b',d)→b'<w.heap.size)
  (ho: ∀loc c,T.get mem loc=some c→ ∃b v,c= .O (.old b v)∧ ∃b' d v',b≤loc∧r.blk b=some (b',d)∧w.cell? ⟨b',loc-b+d,none⟩=some v'∧VR r v v'):Rel w r mem w where
 below:= .refl _ _
 dom:=fun b b' d e=>⟨Nat.le_refl _,hd b b' d e⟩
 cell:=fun l b v e=>by obtain⟨_,_,e2,_⟩:=ho _ _ e;cases e2
 sep:=fun l1 l2 b1 v1 b2 v2 b' d1 d2 e=>by obtain⟨_,_,e2,_⟩:=ho _ _ e;cases e2
 obj:=fun l o e ht=>by obtain⟨_,_,e2,_⟩:=ho _ _ e;cases e2;cases ht
 sepO:=fun l1 l2 o1 o2 b' d1 d2 e _ ht=>by obtain⟨_,_,e2,_⟩:=ho _ _ e;cases e2;cases ht
 tok:=fun t sz e=>by obtain⟨_,_,e2,_⟩:=ho _ _ e;cases e2
 sepT:=fun t1 t2 s1 s2 k1 k2 e=>by obtain⟨_,_,e2,_⟩:=ho _ _ e;cases e2
 known:=hk
 szs:=fun l n e=>by obtain⟨_,_,e2,_⟩:=ho _ _ e;cases e2
 olds:={
  old:=fun l b v e=>by obtain⟨_,_,e2,h⟩:=ho _ _ e;cases e2;exact h
  newC:=fun l b v b' d e=>by obtain⟨_,_,e2,_⟩:=ho _ _ e;cases e2
  newO:=fun l o b' d e ht=>by obtain⟨_,_,e2,_⟩:=ho _ _ e;cases e2;cases ht
  newS:=fun l n b' d e=>by obtain⟨_,_,e2,_⟩:=ho _ _ e;cases e2}
theorem Ls_ {E:Env}(he:EnvOK E){fuel f:Nat}{args:List Value}{args':Array Value}{v:Value}{s0:St}{r:Inj}(ho:E.orc.get f=none)(hx:E.ext.get f=none)(h:W (A2 E (runF E fuel) f args) s0 fun u _=>u=v)(hp:plain v=true){w:World}(ha:VRs r args args'.toList)(hr:Rel w r s0.mem w)(hb:Bnd s0)
  (hf: ∀b,s0.next≤b→r.blk b=none∧r.ext b=none):Calls E.P f args' w fun e w'=>e= .returned v∧Below w.heap.size w w':=by
 intro cs
 obtain⟨_,s',h,rfl⟩:=h
 unfold A2 at h
 rw[ho,hx]at h
 obtain⟨s2,e1,rfl⟩:=Ev (o:= .inl _) (show within cxN (M.bind (M.bind (Ch E f args .normal) (runF E fuel)) fstV) s0=rOf (.inl _) s' from h)
 obtain⟨af,s1,o,e2,e3,e4⟩:=GP (Ia _ _ _) e1
 obtain⟨_,hF,rfl⟩:=JT (r:=r) (base:=([],cs)) (cx:=cxN) he e2 ha (cs:=cs) ⟨⟨rfl,rfl⟩,rfl, .nil⟩
 obtain⟨w',r',k1,k2,cs',k3,k4⟩:=(M3 he fuel).ok e3 hF hr hb (fun b h1 _=>hf b h1)
 cases o with
 |inr c=>cases e4
 |inl p=>
  cases e4
  obtain⟨v',q1,q2,q3⟩:=k4
  obtain⟨fr',x1,x2,x3⟩:=q3 rfl rfl
  have hcs:cs'=cs:=by
   rcases k3 with k3|⟨_,_,_,_,_,k,_⟩
   ·exact k3.2
   ·cases k
  subst hcs
  exact⟨.returned v',w',fr',⟨by rw[q1.eq_of_plain hp],k1.rel.below⟩,x3,x1,x2⟩
theorem VRs.plains {r:Inj}: ∀{l:List Value},(∀v∈l,plain v=true)→VRs r l l
 |[],_=> .nil
 |v::l,h=> .cons (.of_plain (h v (by simp))) (VRs.plains fun u hu=>h u (by simp[hu]))
def layT (b:Nat):List Value→Nat→T Cell→T Cell
 |[],_,t=>t
 |v::l,i,t=>layT b l (i+1) (T.set t i (.O (.old b v)))
theorem T4 (b:Nat): ∀(l:List Value) (i:Nat) (t:T Cell) (j:Nat),T.get (layT b l i t) j=if i≤j∧j<i+l.length then(l[j-i]?).map (fun v=> .O (.old b v))else T.get t j
 |[],i,t,j=>by
  rw[if_neg (by simp only[List.length_nil];omega)]
  rfl
 |v::l,i,t,j=>by
  show T.get (layT b l (i+1) (T.set t i (.O (.old b v)))) j=_
  rw[T4 b l (i+1),T.get_set]
  simp only[List.length_cons]
  by_cases h1:j=i
  ·subst h1
   rw[if_neg (by omega),if_pos rfl,if_pos (by omega),Nat.sub_self]
   rfl
  ·rw[if_neg h1]
   by_cases h2:i+1≤j∧j<i+1+l.length
   ·rw[if_pos h2,if_pos (by omega),show j-i=(j-(i+1))+1 by omega]
    rfl
   ·rw[if_neg h2,if_neg (by omega)]
open Go.RowKit Go.ChangeShapes Go.WideShapes
structure OldSt (w:World)(m:T Cell)(nx:Nat)(r:Inj):Prop where
 ho: ∀loc c,T.get m loc=some c→loc<nx∧ ∃b v,c= .O (.old b v)∧ ∃b' d v',b≤loc∧r.blk b=some (b',d)∧w.cell? ⟨b',loc-b+d,none⟩=some v'∧VR r v v'
 hd: ∀b b' d,r.blk b=some (b',d)→b<nx∧b'<w.heap.size
 hx: ∀b,r.ext b=none
 hk:r.known= .no
structure Grow (m:T Cell)(nx:Nat)(r:Inj)(m':T Cell)(nx':Nat)(r':Inj):Prop where
 le:r.le r'
 nle:nx≤nx'
 mem: ∀l,l<nx→T.get m' l=T.get m l
theorem Grow.refl (m:T Cell)(nx:Nat)(r:Inj):Grow m nx r m nx r:=⟨Inj.le_refl r,Nat.le_refl _,fun _ _=>rfl⟩
theorem Grow.trans {m m' m'':T Cell}{nx nx' nx'':Nat}{r r' r'':Inj}(h:Grow m nx r m' nx' r')(k:Grow m' nx' r' m'' nx'' r''):Grow m nx r m'' nx'' r'':=
 ⟨Inj.le_trans h.le k.le,Nat.le_trans h.nle k.nle,fun l hl=>(k.mem l (Nat.lt_of_lt_of_le hl h.nle)).trans (h.mem l hl)⟩
def stO (m:T Cell)(nx:Nat):St:=⟨m,nx,0,[],[], .no⟩
theorem Grow.row {m m':T Cell}{nx nx':Nat}{r r':Inj}(g:Grow m nx r m' nx' r'){b o:Nat}{l:List Value}(h:Row (stO m nx) b o l):Row (stO m' nx') b o l:=fun i v e=>by
 have hl:b+(o+i)<nx:=(h i v e).1
 refine⟨Nat.lt_of_lt_of_le hl g.nle, ?_⟩
 show T.get m' (b+(o+i))=_∨T.get m' (b+(o+i))=_
 rw[g.mem _ hl]
 exact(h i v e).2
def Bd (P:Program)(N:Nat)(s:St):Nat→TypeId→List Value→Prop
 |0,_,_=>False
 |f+1,t,us=>match P.underlying t with
  |some .bool=> ∃b,us=[.bool b]
  |some (.int k)=> ∃n,us=[.int k n]∧(Lit.int k n).wf=true
  |some .string=> ∃x:ByteArray,us=[.string x]∧x.size≤maxLen∧x.size≤N
  |some (.slice e)=>us=[.slice none 0 0]∨us=[.slice (some ⟨0,0,none⟩) 0 (capU*P.cellsOf e)]∨ ∃b n c,us=[.slice (some ⟨b,0,none⟩) n c]∧0<n∧n≤c∧c≤maxLen∧n≤N∧ ∀i,i<n→ ∃es,es.length=P.cellsOf e∧Row s b (i*P.cellsOf e) es∧Bd P N s f e es
  |some (.struct fs)=>us.length=P.cellsOf t∧ ∀x∈fs.toList,Bd P N s f x.type ((us.drop x.offset).take (P.cellsOf x.type))
  |some (.array n e)=>us.length=P.cellsOf t∧ ∀i,i<n→Bd P N s f e ((us.drop (i*P.cellsOf e)).take (P.cellsOf e))
  |_=>False
theorem Bd.mono {P:Program}{N:Nat}{s s':St}(h: ∀b o l,Row s b o l→Row s' b o l): ∀(f:Nat) (t:TypeId) (us:List Value),Bd P N s f t us→Bd P N s' f t us
 |0,_,_,k=>k
 |f+1,t,us,k=>by
  unfold Bd at k ⊢
  cases hu:P.underlying t with
  |none=>rw[hu]at k;exact k
  |some u=>
   rw[hu]at k
   cases u<;>try exact k
   ·rename_i e
    rcases k with k|k|⟨b,n,c,k1,k2,k3,k4,k6,k5⟩
    ·exact .inl k
    ·exact .inr (.inl k)
    ·refine .inr (.inr ⟨b,n,c,k1,k2,k3,k4,k6,fun i hi=> ?_⟩)
     obtain⟨es,e1,e2,e3⟩:=k5 i hi
     exact⟨es,e1,h _ _ _ e2,Bd.mono h f _ _ e3⟩
   ·exact⟨k.1,fun x hx=>Bd.mono h f _ _ (k.2 x hx)⟩
   ·exact⟨k.1,fun i hi=>Bd.mono h f _ _ (k.2 i hi)⟩
def Ea (P:Program):List Field→Nat→Nat→Bool
 |[],o,z=>Nat.beq o z
 |x::l,o,z=>Nat.beq x.offset o&&Ea P l (o+P.cellsOf x.type) z
def C7 (P:Program):Nat→TypeId→Bool
 |0,_=>false
 |f+1,t=>match P.underlying t with
  |some .bool|some (.int _)|some .string=>true
  |some (.slice e)=>Nat.blt 0 (P.cellsOf e)&&C7 P f e
  |some (.struct fs)=>Ea P fs.toList 0 (P.cellsOf t)&&fs.toList.all fun x=>C7 P f x.type
  |some (.array n e)=>Nat.beq (n*P.cellsOf e) (P.cellsOf t)&&C7 P f e
  |_=>false
def Lay (w:World)(cs:List Value)(H:St→List Value→Prop):Prop:= ∀m nx r,OldSt w m nx r→ ∃m' nx' r' us,OldSt w m' nx' r'∧Grow m nx r m' nx' r'∧VRs r' us cs∧H (stO m' nx') us
theorem Lay.plain {w:World}{cs:List Value}{H:St→List Value→Prop}(h: ∀v∈cs,plain v=true)(k: ∀s,H s cs):Lay w cs H:=fun m nx r ho=>⟨m,nx,r,cs,ho, .refl _ _ _,VRs.plains h,k _⟩
theorem Nu {w:World}{cs:List Value}{k:Nat}{H:St→List Value→Prop}(mono: ∀(s s':St) us,(∀b o l,Row s b o l→Row s' b o l)→H s us→H s' us): ∀n,n*k≤cs.length→(∀i,i<n→Lay w ((cs.drop (i*k)).take k) H)→Lay w (cs.take (n*k)) fun s us=> ∀i,i<n→H s ((us.drop (i*k)).take k)
 |0,_,_=>fun m nx r ho=>⟨m,nx,r,[],ho, .refl _ _ _,by rw[Nat.zero_mul];exact VRs.nil,fun i hi=>absurd hi (Nat.not_lt_zero i)⟩
 |n+1,hl,h=>fun m nx r ho=>by
  have hnk:(n+1)*k=n*k+k:=Nat.succ_mul n k
  obtain⟨m1,nx1,r1,us1,ho1,g1,v1,h1⟩:=Nu mono n (by omega) (fun i hi=>h i (by omega)) m nx r ho
  obtain⟨m2,nx2,r2,us2,ho2,g2,v2,h2⟩:=h n (by omega) m1 nx1 r1 ho1
  have l1:us1.length=n*k:=by rw[v1.1,List.length_take];omega
  have l2:us2.length=k:=by rw[v2.1,List.length_take,List.length_drop];omega
  refine⟨m2,nx2,r2,us1++us2,ho2,g1.trans g2, ?_,fun i hi=> ?_⟩
  ·have e:cs.take ((n+1)*k)=cs.take (n*k)++(cs.drop (n*k)).take k:=by
    rw[hnk,List.take_add]
   rw[e]
   exact(v1.mono g2.le).append v2
  ·rcases Nat.lt_or_ge i n with hin|hin
   ·have hik:i*k+k≤n*k:=by
     have:=Nat.mul_le_mul_right k (show i+1≤n by omega)
     rw[Nat.succ_mul]at this
     exact this
    have e:((us1++us2).drop (i*k)).take k=(us1.drop (i*k)).take k:=by
     rw[List.drop_append_of_le_length (by omega),List.take_append_of_le_length (by rw[List.length_drop];omega)]
    rw[e]
    exact mono _ _ _ (fun b o l q=>g2.row q) (h1 i hin)
   ·have:i=n:=by omega
    subst this
    have e:((us1++us2).drop (i*k)).take k=us2:=by
     rw[List.drop_left' l1,List.take_of_length_le (by omega)]
    rw[e]
    exact h2
theorem Qu {P:Program}: ∀{l:List Field} {o z:Nat},Ea P l o z=true→o≤z
 |[],o,z,h=>Nat.le_of_eq (Nat.eq_of_beq_eq_true h)
 |x::l,o,z,h=>by
  have h':(Nat.beq x.offset o&&Ea P l (o+P.cellsOf x.type) z)=true:=h
  rw[Bool.and_eq_true]at h'
  have:=Qu h'.2
  omega
theorem Rb {P:Program}: ∀{l:List Field} {o z:Nat},Ea P l o z=true→ ∀x∈l,o≤x.offset
 |[],_,_,_,x,hx=>by cases hx
 |y::l,o,z,h,x,hx=>by
  have h':(Nat.beq y.offset o&&Ea P l (o+P.cellsOf y.type) z)=true:=h
  rw[Bool.and_eq_true]at h'
  rcases List.mem_cons.1 hx with rfl|hx
  ·exact Nat.le_of_eq (Nat.eq_of_beq_eq_true h'.1).symm
  ·have:=Rb h'.2 x hx
   omega
theorem OS {P:Program}{N:Nat}{w:World}{cs:List Value}{F:Nat}: ∀(l:List Field) (o:Nat),Ea P l o cs.length=true→(∀x∈l,Lay w ((cs.drop x.offset).take (P.cellsOf x.type)) fun s us=>Bd P N s F x.type us)→
  Lay w (cs.drop o) fun s us=> ∀x∈l,Bd P N s F x.type ((us.drop (x.offset-o)).take (P.cellsOf x.type))
 |[],o,ht,_=>fun m nx r ho=>by
  have:o=cs.length:=Nat.eq_of_beq_eq_true ht
  exact⟨m,nx,r,[],ho, .refl _ _ _,by rw[this,List.drop_length];exact VRs.nil,fun x hx=>by cases hx⟩
 |x::l,o,ht,h=>fun m nx r ho=>by
  have ht':(Nat.beq x.offset o&&Ea P l (o+P.cellsOf x.type) cs.length)=true:=ht
  rw[Bool.and_eq_true]at ht'
  have ho':x.offset=o:=Nat.eq_of_beq_eq_true ht'.1
  have hz:=Qu ht'.2
  have hge:=Rb ht'.2
  obtain⟨m1,nx1,r1,us1,ho1,g1,v1,h1⟩:=h x (by simp) m nx r ho
  obtain⟨m2,nx2,r2,us2,ho2,g2,v2,h2⟩:=OS l (o+P.cellsOf x.type) ht'.2 (fun y hy=>h y (by simp[hy])) m1 nx1 r1 ho1
  rw[ho']at v1
  have l1:us1.length=P.cellsOf x.type:=by rw[v1.1,List.length_take,List.length_drop];omega
  refine⟨m2,nx2,r2,us1++us2,ho2,g1.trans g2, ?_,fun y hy=> ?_⟩
  ·have e:cs.drop o=(cs.drop o).take (P.cellsOf x.type)++cs.drop (o+P.cellsOf x.type):=by
    rw[←List.drop_drop,List.take_append_drop]
   rw[e]
   exact(v1.mono g2.le).append v2
  ·rcases List.mem_cons.1 hy with rfl|hy
   ·have e:((us1++us2).drop (y.offset-o)).take (P.cellsOf y.type)=us1:=by
     rw[ho',Nat.sub_self,List.drop_zero,List.take_left' l1]
    rw[e]
    exact Bd.mono (fun b o l q=>g2.row q) _ _ _ h1
   ·have hoy:=hge y hy
    have e:(us1++us2).drop (y.offset-o)=us2.drop (y.offset-(o+P.cellsOf x.type)):=by
     rw[List.drop_append,List.drop_of_length_le (by omega),List.nil_append,l1]
     congr 1
     omega
    rw[e]
    exact h2 y hy
theorem Ut {α β:Type}{f:α→Option β}: ∀{xs:List α} {l:List β},xs.mapM f=some l→l.length=xs.length∧ ∀(i:Nat) (x:α),xs[i]?=some x→f x=l[i]?
 |[],l,h=>by
  have:l=[]:=by simpa using h.symm
  subst this
  exact⟨rfl,fun i x e=>by simp at e⟩
 |x::xs,l,h=>by
  rw[List.mapM_cons]at h
  cases hf:f x with
  |none=>rw[hf]at h;cases h
  |some y=>
   rw[hf]at h
   cases hx:xs.mapM f with
   |none=>rw[hx]at h;cases h
   |some ys=>
    rw[hx]at h
    cases h
    obtain⟨h1,h2⟩:=Ut hx
    refine⟨by simp[h1],fun i z e=> ?_⟩
    cases i with
    |zero=>
     have:x=z:=by simpa using e
     subst this
     exact hf
    |succ i=>exact h2 i z (by simpa using e)
theorem N3 {w:World}{base k:Nat}{a:Addr}{l:List Value}(h:w.cells? base a k=some l):l.length=k∧ ∀j,j<k→w.cell? (a.add j)=l[j]?:=by
 unfold World.cells? at h
 split at h
 ·obtain⟨h1,h2⟩:=Ut h
  rw[List.length_range]at h1
  exact⟨h1,fun j hj=>h2 j j (by simp[hj])⟩
 ·cases h
theorem XB {w:World}{a:Addr}{v:Value}(h:w.cell? a=some v):a.spot=none∧a.block<w.heap.size:=by
 unfold World.cell? at h
 cases hq:w.heap[a.block]? with
 |none=>simp only[hq]at h;cases h
 |some c=>
  refine⟨?_,(Array.getElem?_eq_some_iff.1 hq).1⟩
  cases hsp:a.spot with
  |none=>rfl
  |some x=>cases c<;>simp[hq,hsp]at h
theorem NO (b o n:Nat):(⟨b,o,none⟩:Addr).add n=⟨b,o+n,none⟩:=by
 unfold Addr.add
 split
 ·rename_i h;rw[h];rfl
 ·rfl
theorem Px {a:Addr}{n:Nat}(hs:a.spot=none):a.add n=⟨a.block,a.off+n,none⟩:=by
 obtain⟨b,o,s⟩:=a
 cases hs
 exact NO b o n
mutual
def lensOk {H:Type}(N:Nat):DataW H→Prop
 | .lit (.string l)=>l.length≤N
 | .slice es _=>es.length≤N∧Ey N es
 | .agg ps=>Ey N ps
 |_=>True
def Ey {H:Type}(N:Nat):List (DataW H)→Prop
 |[]=>True
 |d::r=>lensOk N d∧Ey N r
end
theorem HQ {H:Type}{N:Nat}: ∀{l:List (DataW H)},Ey N l→ ∀d∈l,lensOk N d
 |[],_,d,hd=>by cases hd
 |x::l,h,d,hd=>by
  rcases List.mem_cons.1 hd with rfl|hd
  ·exact h.1
  ·exact HQ h.2 d hd
theorem Kq {H:Type}{enc:TypeId×Value→H}{P:Program}{N:Nat}{w:World}{b0:Nat}{sp:Nat→Bool}{held:Bool}: ∀(F f:Nat) (t:TypeId) (cs:List Value) (y:DataW H×List MemPlace),C7 P F t=true→(maxLen≤N∨lensOk N y.1)→DataW.trod enc P w b0 sp held f t cs=some y→Lay w cs fun s us=>Bd P N s F t us
 |0,_,_,_,_,hf,_,_=>by cases hf
 |F+1,f,t,cs,y,hf,hN,h=>by
  unfold C7 at hf
  cases hu:P.underlying t with
  |none=>rw[hu]at hf;cases hf
  |some u=>
   rw[hu]at hf
   cases u<;>try (cases hf;done)
   case bool=>
    obtain⟨b,rfl,_⟩:=DataW.trod_bool hu h
    refine Lay.plain (fun v hv=>by rw[List.mem_singleton.1 hv];rfl) fun s=> ?_
    unfold Bd
    rw[hu]
    exact⟨b,rfl⟩
   case int k=>
    obtain⟨n,rfl,_,hw⟩:=DataW.trod_int hu h
    refine Lay.plain (fun v hv=>by rw[List.mem_singleton.1 hv];rfl) fun s=> ?_
    unfold Bd
    rw[hu]
    exact⟨n,rfl,hw⟩
   case string=>
    obtain⟨x,rfl,rfl,hs⟩:=DataW.trod_string hu h
    refine Lay.plain (fun v hv=>by rw[List.mem_singleton.1 hv];rfl) fun s=> ?_
    unfold Bd
    rw[hu]
    exact⟨x,rfl,hs,by
     rcases hN with hN|hN
     ·omega
     ·have:x.data.toList.length≤N:=hN
      simpa using this⟩
   case struct fs=>
    rw[Bool.and_eq_true]at hf
    obtain⟨xs,n,_,rfl,hl,_,hx⟩:=DataW.trod_struct hu h
    have hall: ∀x∈fs.toList,Lay w ((cs.drop x.offset).take (P.cellsOf x.type)) fun s us=>Bd P N s F x.type us:=fun x hxm=>by
     obtain⟨i,hi⟩:=List.getElem?_of_mem hxm
     have hi':fs[i]?=some x:=by rw[←Array.getElem?_toList];exact hi
     have hd:=hx i x hi'
     have hfl:C7 P F x.type=true:=List.all_eq_true.1 hf.2 x hxm
     cases hz:DataW.trod enc P w b0 sp held n x.type ((cs.drop x.offset).take (P.cellsOf x.type))with
     |none=>
      rw[hz]at hd
      have h1:=(Array.getElem?_eq_some_iff.1 hi').1
      have h2:=List.getElem?_eq_none_iff.1 hd.symm
      omega
     |some z=>
      rw[hz]at hd
      exact Kq F n _ _ z hfl (hN.imp id fun q=>HQ q _ (List.mem_map.2 ⟨z,List.mem_of_getElem? hd.symm,rfl⟩)) hz
    intro m nx r ho
    obtain⟨m',nx',r',us,k1,k2,k3,k4⟩:=OS (F:=F) fs.toList 0 (by rw[hl];exact hf.1) hall m nx r ho
    rw[List.drop_zero]at k3
    refine⟨m',nx',r',us,k1,k2,k3, ?_⟩
    unfold Bd
    rw[hu]
    exact⟨by rw[k3.1,hl],fun x hx=>by have:=k4 x hx;rwa [Nat.sub_zero]at this⟩
   case array n e=>
    rw[Bool.and_eq_true]at hf
    have hsz:n*P.cellsOf e=P.cellsOf t:=Nat.eq_of_beq_eq_true hf.1
    obtain⟨xs,m1,_,rfl,hl,hxl,hx⟩:=DataW.trod_array hu h
    intro m nx r ho
    obtain⟨m',nx',r',us,k1,k2,k3,k4⟩:=Nu (w:=w) (cs:=cs) (k:=P.cellsOf e) (H:=fun s us=>Bd P N s F e us) (fun s s' us hr hh=>Bd.mono hr _ _ _ hh) n (by rw[hsz,hl];exact Nat.le_refl _) (fun i hi=>by
     have hd:=hx i hi
     cases hz:DataW.trod enc P w b0 sp held m1 e ((cs.drop (i*P.cellsOf e)).take (P.cellsOf e))with
     |none=>
      rw[hz]at hd
      have h2:=List.getElem?_eq_none_iff.1 hd.symm
      omega
     |some z=>
      rw[hz]at hd
      exact Kq F m1 _ _ z hf.2 (hN.imp id fun q=>HQ q _ (List.mem_map.2 ⟨z,List.mem_of_getElem? hd.symm,rfl⟩)) hz) m nx r ho
    rw[hsz,←hl,List.take_length]at k3
    refine⟨m',nx',r',us,k1,k2,k3, ?_⟩
    unfold Bd
    rw[hu]
    exact⟨by rw[k3.1,hl],k4⟩
   case slice e=>
    rw[Bool.and_eq_true]at hf
    have hk:0<P.cellsOf e:=BC hf.1
    rcases DataW.trod_slice hu h with⟨rfl,_⟩|⟨a,len,cap,elems,rest,n,_,rfl,rfl,_,hlc,hcm,hel,hx,_,_⟩
    ·refine fun m nx r ho=>⟨m,nx,r,[.slice none 0 0],ho, .refl _ _ _, .cons .slNil .nil, ?_⟩
     unfold Bd
     rw[hu]
     exact .inl rfl
    ·by_cases h0:len=0
     ·subst h0
      refine fun m nx r ho=>⟨m,nx,r,[.slice (some ⟨0,0,none⟩) 0 (capU*P.cellsOf e)],ho, .refl _ _ _, .cons (.slEnd (by rw[Nat.mul_div_cancel_left _ (by unfold capU;decide)];omega) (Nat.mul_mod_right _ _)) .nil, ?_⟩
      unfold Bd
      rw[hu]
      exact .inr (.inl rfl)
     ·have hlN:len≤N:=by
       rcases hN with hN|hN
       ·omega
       ·have:=hN.1
        rw[List.length_map,hel]at this
        exact this
      have cells: ∀i,i<len→ ∃l z,w.cells? b0 (a.add (i*P.cellsOf e)) (P.cellsOf e)=some l∧DataW.trod enc P w b0 sp held n e l=some z∧z∈elems:=fun i hi=>by
       have:=hx i hi
       rw[List.getElem?_eq_getElem (by omega),Option.bind_eq_some_iff]at this
       obtain⟨l,h1,h2⟩:=this
       exact⟨l,_,h1,h2,List.getElem_mem _⟩
      have hspot:a.spot=none∧a.block<w.heap.size:=by
       obtain⟨l,z,h1,_⟩:=cells 0 (by omega)
       obtain⟨q1,q2⟩:=N3 h1
       have:=q2 0 hk
       rw[List.getElem?_eq_getElem (by omega)]at this
       rw[Nat.zero_mul]at this
       exact XB this
      have each: ∀j,∃v:Value,j<len*P.cellsOf e→w.cell? ⟨a.block,a.off+j,none⟩=some v:=fun j=>by
       by_cases hj:j<len*P.cellsOf e
       ·have hi:j/P.cellsOf e<len:=by rw[Nat.div_lt_iff_lt_mul hk];exact hj
        obtain⟨l,z,h1,_⟩:=cells _ hi
        obtain⟨q1,q2⟩:=N3 h1
        have hm:j%P.cellsOf e<P.cellsOf e:=Nat.mod_lt _ hk
        have:=q2 _ hm
        rw[List.getElem?_eq_getElem (by omega),Px hspot.1,NO]at this
        refine⟨l[j%P.cellsOf e]'(by omega),fun _=> ?_⟩
        rw[←this]
        have hdm:=Nat.div_add_mod j (P.cellsOf e)
        rw[Nat.mul_comm]at hdm
        congr 2
        omega
       ·exact⟨undef,fun h=>absurd h hj⟩
      obtain⟨g,hg⟩:=Classical.axiomOfChoice each
      obtain⟨cs,hcs⟩: ∃cs:List Value,cs=(List.range (len*P.cellsOf e)).map g:=⟨_,rfl⟩
      have hcl:cs.length=len*P.cellsOf e:=by rw[hcs];simp
      have hcg: ∀j v,cs[j]?=some v→w.cell? ⟨a.block,a.off+j,none⟩=some v:=fun j v e=>by
       rw[hcs,List.getElem?_map,Option.map_eq_some_iff]at e
       obtain⟨j',e1,e2⟩:=e
       have hj:=(List.getElem?_eq_some_iff.1 e1).1
       rw[List.length_range]at hj
       rw[List.getElem?_range hj]at e1
       cases e1
       rw[←e2]
       exact hg _ hj
      intro m nx r ho
      obtain⟨m',nx',r',us,k1,k2,k3,k4⟩:=Nu (w:=w) (cs:=cs) (k:=P.cellsOf e) (H:=fun s us=>Bd P N s F e us) (fun s s' us hr hh=>Bd.mono hr _ _ _ hh) len (by omega) (fun i hi=>by
       obtain⟨l,z,h1,h2,h3⟩:=cells i hi
       obtain⟨q1,q2⟩:=N3 h1
       have el:(cs.drop (i*P.cellsOf e)).take (P.cellsOf e)=l:=by
        apply List.ext_getElem?
        intro j
        by_cases hj:j<P.cellsOf e
        ·have hjj:i*P.cellsOf e+j<cs.length:=by
          have:=Nat.mul_le_mul_right (P.cellsOf e) (show i+1≤len by omega)
          rw[Nat.succ_mul]at this
          omega
         rw[List.getElem?_take,if_pos hj,List.getElem?_drop,List.getElem?_eq_getElem hjj,←q2 j hj,Px hspot.1,NO]
         have:=hcg _ _ (List.getElem?_eq_getElem hjj)
         rw[←Nat.add_assoc]at this
         exact this.symm
        ·rw[List.getElem?_take,if_neg hj,List.getElem?_eq_none (by omega)]
       rw[el]
       exact Kq F n _ _ z hf.2 (hN.imp id fun q=>HQ q.2 _ (List.mem_map.2 ⟨z,h3,rfl⟩)) h2) m nx r ho
      rw[←hcl,List.take_length]at k3
      have hul:us.length=len*P.cellsOf e:=by rw[k3.1,hcl]
      have hpos:0<us.length:=by rw[hul];exact Nat.mul_pos (by omega) hk
      obtain⟨r2,hr2⟩: ∃r2:Inj,r2=⟨fun b=>if b=nx' then some (a.block,a.off)else r'.blk b,r'.ext,r'.known⟩:=⟨_,rfl⟩
      have hb2: ∀b,r2.blk b=if b=nx' then some (a.block,a.off)else r'.blk b:=fun b=>by rw[hr2]
      have hle:r'.le r2:=⟨fun b x e=>by
       rw[hb2,if_neg]
       ·exact e
       ·intro hb
        have:=(k1.hd b x.1 x.2 e).1
        omega,fun t x e=>by rw[hr2];exact e,by rw[hr2]⟩
      have hget: ∀j,T.get (layT nx' us nx' m') j=if nx'≤j∧j<nx'+us.length then(us[j-nx']?).map (fun v=> .O (.old nx' v))else T.get m' j:=fun j=>T4 _ _ _ _ _
      have hgrow:Grow m' nx' r' (layT nx' us nx' m') (nx'+us.length+1) r2:=⟨hle,by omega,fun l hl=>by rw[hget,if_neg (by omega)]⟩
      refine⟨layT nx' us nx' m',nx'+us.length+1,r2,[.slice (some ⟨nx',0,none⟩) len cap],⟨fun loc c e=> ?_,fun b b' d e=> ?_,fun b=>by rw[hr2];exact k1.hx b,by rw[hr2];exact k1.hk⟩,k2.trans hgrow, ?_, ?_⟩
      ·rw[hget]at e
       split at e
       ·rename_i hin
        rw[Option.map_eq_some_iff]at e
        obtain⟨v,e1,rfl⟩:=e
        obtain⟨v',e2,e3⟩:=k3.get e1
        refine⟨by omega,nx',v,rfl,a.block,a.off,v',hin.1,by rw[hb2,if_pos rfl], ?_,e3.mono hle⟩
        have:=hcg _ _ e2
        rwa [Nat.add_comm a.off]at this
       ·obtain⟨h1,b,v,rfl,b',d,v',h2,h3,h4,h5⟩:=k1.ho loc c e
        exact⟨by omega,b,v,rfl,b',d,v',h2,hle.1 _ _ h3,h4,h5.mono hle⟩
      ·rw[hb2]at e
       split at e
       ·rename_i hb
        cases e
        exact⟨by omega,hspot.2⟩
       ·have:=k1.hd b b' d e
        exact⟨by omega,this.2⟩
      ·refine .cons ?_ .nil
       have hcu:cap<capU:=by
        have:cap≤9223372036854775807:=hcm
        unfold capU
        omega
       have:=VR.sl (r:=r2) (b:=nx') (o:=0) (b':=a.block) (d:=a.off) (l:=len) (c:=cap) (c':=cap) (by rw[hb2,if_pos rfl]) (.inl ⟨Nat.div_eq_of_lt hcu,rfl⟩) (by rw[Nat.mod_eq_of_lt hcu];exact hlc)
       rw[Nat.zero_add]at this
       obtain⟨b,o,s⟩:=a
       have hs:s=none:=hspot.1
       subst hs
       exact this
      ·unfold Bd
       rw[hu]
       refine .inr (.inr ⟨nx',len,cap,rfl,by omega,hlc,hcm,hlN,fun i hi=>⟨(us.drop (i*P.cellsOf e)).take (P.cellsOf e), ?_,fun j v ej=> ?_,Bd.mono (fun b o l q=>hgrow.row q) _ _ _ (k4 i hi)⟩⟩)
       ·have:=Nat.mul_le_mul_right (P.cellsOf e) (show i+1≤len by omega)
        rw[Nat.succ_mul]at this
        rw[List.length_take,List.length_drop]
        omega
       ·have hj:=(List.getElem?_eq_some_iff.1 ej).1
        rw[List.length_take]at hj
        rw[List.getElem?_take,if_pos (by omega),List.getElem?_drop]at ej
        have hjl:=(List.getElem?_eq_some_iff.1 ej).1
        refine⟨?_, .inr ?_⟩
        ·show nx'+(i*P.cellsOf e+j)<nx'+us.length+1
         omega
        ·show T.get (layT nx' us nx' m') (nx'+(i*P.cellsOf e+j))=_
         rw[hget,if_pos (by omega),Nat.add_sub_cancel_left,ej]
         rfl
def aggT (P:Program)(t:TypeId):Bool:=match P.underlying t with
 |some (.struct _)|some (.array _ _)=>true
 |_=>false
def Gt (P:Program)(N:Nat)(s:St)(F:Nat)(t:TypeId)(u:Value):Prop:= ∃us,Bd P N s F t us∧((aggT P t=true∧u= .agg us.toArray)∨(aggT P t=false∧us=[u]))
theorem Wa {P:Program}{w:World}{rc:Reach}{base F:Nat}{t:TypeId}{v:Value}(hf:C7 P F t=true)(h:Value.okWide P w rc base t v):(aggT P t=true∧v= .agg v.cells)∨(aggT P t=false∧v.cells= #[v]):=by
 cases F with
 |zero=>cases hf
 |succ F=>
  unfold C7 at hf
  unfold aggT
  cases hu:P.underlying t with
  |none=>rw[hu]at hf;cases hf
  |some u=>
   rw[hu]at hf
   unfold Value.okWide at h
   rw[hu]at h
   cases u<;>try (cases hf;done)
   case struct fs=>
    obtain⟨cs,rfl,_⟩:=h
    exact .inl ⟨rfl,rfl⟩
   case array n e=>
    obtain⟨cs,rfl,_⟩:=h
    exact .inl ⟨rfl,rfl⟩
   all_goals
    refine .inr ⟨rfl, ?_⟩
    simp only at h
    unfold Cell.okWide Cell.ok at h
    rw[hu]at h
    cases v<;>first|rfl|(simp at h)
theorem QB {H:Type}{enc:TypeId×Value→H}{P:Program}{w:World}{b0 base F N:Nat}{sp:Nat→Bool}{held:Bool}: ∀(ts:List TypeId) (vs:List Value) (ds:List (DataW H)) (ps:List MemPlace),DataW.TrodAll enc P w b0 sp held ts vs ds ps→(∀(j:Nat) t v,ts[j]?=some t→vs[j]?=some v→Value.okWide P w .any base t v)→ts.all (C7 P F)=true→(maxLen≤N∨ ∀d∈ds,lensOk N d)→
  ∀m nx r,OldSt w m nx r→ ∃m' nx' r' us,OldSt w m' nx' r'∧Grow m nx r m' nx' r'∧VRs r' us vs∧us.length=ts.length∧ ∀(j:Nat) t u,ts[j]?=some t→us[j]?=some u→Gt P N (stO m' nx') F t u
 |[],[],_,_,_,_,_,_=>fun m nx r ho=>⟨m,nx,r,[],ho, .refl _ _ _, .nil,rfl,fun j t u e=>by simp at e⟩
 |[],_::_,ds,_,h,_,_,_=>by cases ds<;>exact h.elim
 |_::_,[],ds,_,h,_,_,_=>by cases ds<;>exact h.elim
 |t::ts,v::vs,[],_,h,_,_,_=>h.elim
 |t::ts,v::vs,d::ds,_,⟨p,q,⟨fuel,h1⟩,h2,_⟩,hv,hf,hN=>fun m nx r ho=>by
  rw[List.all_cons,Bool.and_eq_true]at hf
  obtain⟨m1,nx1,r1,us,o1,g1,v1,k1⟩:=Kq (N:=N) F fuel t _ _ hf.1 (hN.imp id fun z=>z d (by simp)) h1 m nx r ho
  obtain⟨m2,nx2,r2,us2,o2,g2,v2,l2,k2⟩:=QB ts vs ds q h2 (fun j t v e1 e2=>hv (j+1) t v e1 e2) hf.2 (hN.imp id fun z d' hd=>z d' (by simp[hd])) m1 nx1 r1 o1
  have k1':=Bd.mono (fun b o l z=>g2.row z) _ _ _ k1
  rcases Wa hf.1 (hv 0 t v rfl rfl)with⟨ha,hc⟩|⟨ha,hc⟩
  ·refine⟨m2,nx2,r2, .agg us.toArray::us2,o2,g1.trans g2, .cons ?_ v2,by simp[l2],fun j t' u e1 e2=> ?_⟩
   ·rw[hc]
    have:=(v1.mono g2.le).agg
    simpa using this
   ·cases j with
    |zero=>
     cases e1
     cases e2
     exact⟨us,k1', .inl ⟨ha,rfl⟩⟩
    |succ j=>exact k2 j t' u e1 e2
  ·rw[hc]at v1
   have hl:us.length=1:=v1.1
   obtain⟨u0,rfl⟩: ∃u0,us=[u0]:=by
    match us,hl with
    |[x],_=>exact⟨x,rfl⟩
   obtain⟨v',l',e0,e1,_⟩:=v1.inv
   have hv':v=v':=by
    have:[v]=v'::l':=e0
    cases this
    rfl
   subst hv'
   refine⟨m2,nx2,r2,u0::us2,o2,g1.trans g2, .cons (e1.mono g2.le) v2,by simp[l2],fun j t' u e1 e2=> ?_⟩
   cases j with
   |zero=>
    cases e1
    cases e2
    exact⟨[u0],k1', .inr ⟨ha,rfl⟩⟩
   |succ j=>exact k2 j t' u e1 e2
theorem Er_ {H:Type}{enc:TypeId×Value→H}{E:Env}(he:EnvOK E){fuel f F N base:Nat}{args:Array Value}{v:Value}{ts:List TypeId}{sp:Nat→Bool}{held:Bool}{ds:List (DataW H)}{ps:List MemPlace}{w:World}(ho:E.orc.get f=none)(hx:E.ext.get f=none)(hp:plain v=true)
  (hA:DataW.TrodAll enc E.P w 0 sp held ts args.toList ds ps) (hv: ∀(j:Nat) t v,ts[j]?=some t→args.toList[j]?=some v→Value.okWide E.P w .any base t v) (hf:ts.all (C7 E.P F)=true) (hN:maxLen≤N∨ ∀d∈ds,lensOk N d)
  (run: ∀m nx us,us.length=ts.length→(∀(j:Nat) t u,ts[j]?=some t→us[j]?=some u→Gt E.P N (stO m nx) F t u)→W (A2 E (runF E fuel) f us) (stO m nx) fun u _=>u=v):
  Calls E.P f args w fun e w'=>e= .returned v∧Below w.heap.size w w':=by
 have h0:OldSt w .E 0 ⟨fun _=>none,fun _=>none, .no⟩:=⟨fun loc c e=>(by cases e),fun b b' d e=>(by cases e),fun _=>rfl,rfl⟩
 obtain⟨m,nx,r,us,o1,_,v1,l1,k1⟩:=QB ts args.toList ds ps hA hv hf hN .E 0 _ h0
 refine Ls_ (r:=r) (s0:=stO m nx) he ho hx (run m nx us l1 k1) hp v1 (Rel.ofOld (by rw[o1.hk];exact Know.no_sure w) (fun b b' d e=>(o1.hd b b' d e).2) fun loc c e=>(o1.ho loc c e).2) (Nat.zero_le _) fun b hb=>⟨?_,o1.hx b⟩
 cases hq:r.blk b with
 |none=>rfl
 |some x=>
  have:=(o1.hd b x.1 x.2 hq).1
  have hb':nx≤b:=hb
  omega
theorem IC {α:Type}{n:Nat}{p:Nat→α→Prop}(h: ∀i,i<n→ ∃x,p i x): ∃l:List α,l.length=n∧ ∀i x,l[i]?=some x→p i x:=by
 induction n with
 |zero=>exact⟨[],rfl,fun i x e=>by simp at e⟩
 |succ n ih=>
  obtain⟨l,h1,h2⟩:=ih fun i hi=>h i (by omega)
  obtain⟨x,hx⟩:=h n (by omega)
  refine⟨l++[x],by simp[h1],fun i y e=> ?_⟩
  rcases Nat.lt_or_ge i n with hi|hi
  ·rw[List.getElem?_append_left (by omega)]at e
   exact h2 i y e
  ·rw[List.getElem?_append_right (by omega),h1]at e
   have:i=n:=by
    have:=(List.getElem?_eq_some_iff.1 e).1
    simp at this
    omega
   subst this
   rw[Nat.sub_self]at e
   cases e
   exact hx
theorem GY_ {k:Nat}(hk:k<1024):B3 (capU*k) k=true:=by
 unfold B3
 have hd:Nat.div (capU*k) capU=k:=Nat.mul_div_cancel_left k (by unfold capU;decide)
 have hm:Nat.mod k 1024=k:=Nat.mod_eq_of_lt hk
 rw[hd,hm,Nat.beq_refl]
 cases Nat.beq k 0<;>rfl
section
variable {P:Program}{s:St}{F N:Nat}{t e:TypeId}{us:List Value}
def ElS (s:St)(k:Nat)(v:Value)(es:List (List Value)):Prop:=(v= .slice none 0 0∧es=[])∨ ∃b c,v= .slice (some ⟨b,0,none⟩) es.length c∧es.length≤c%capU∧B3 c k=true∧ ∀i x,es[i]?=some x→Row s b (i*k) x
theorem Bd.slice (ht:P.underlying t=some (.slice e))(hk:P.cellsOf e<1024)(h:Bd P N s (F+1) t us): ∃v es,us=[v]∧ElS s (P.cellsOf e) v es∧es.length≤9223372036854775807∧es.length≤N∧ ∀x∈es,x.length=P.cellsOf e∧Bd P N s F e x:=by
 unfold Bd at h
 rw[ht]at h
 rcases h with rfl|rfl|⟨b,n,c,rfl,h1,h2,h3,h5,h4⟩
 ·exact⟨_,[],rfl, .inl ⟨rfl,rfl⟩,by simp,by simp,fun x hx=>by cases hx⟩
 ·exact⟨_,[],rfl, .inr ⟨0,_,rfl,Nat.zero_le _,GY_ hk,fun i x e=>by simp at e⟩,by simp,by simp,fun x hx=>by cases hx⟩
 ·obtain⟨l,l1,l2⟩:=IC h4
  have h3':c≤9223372036854775807:=h3
  have hcu:c<capU:=by unfold capU;omega
  refine⟨_,l,rfl, .inr ⟨b,c,by rw[l1],by rw[l1,Nat.mod_eq_of_lt hcu];exact h2,Vm hcu,fun i x e=>(l2 i x e).2.1⟩,by omega,by omega,fun x hx=> ?_⟩
  obtain⟨i,hi⟩:=List.getElem?_of_mem hx
  exact⟨(l2 i x hi).1,(l2 i x hi).2.2⟩
end
abbrev Part:Type:=Option (Nat×Nat×Nat×List Nat)
def Part.l (p:Part):List Nat:=match p with|none=>[]|some (_,_,_,l)=>l
def Part.v (p:Part)(pos:Nat):Value:=match p with
 |none=> .slice none 0 0
 |some (_,_,c,l)=>if l=[]then .slice (some ⟨0,0,none⟩) 0 capU else .slice (some ⟨pos,0,none⟩) l.length c
def Part.blk (p:Part):Option (Nat×Nat):=match p with
 |none=>none
 |some (b,o,_,l)=>if l=[]then none else some (b,o)
open Go.RowKit Go.ChangeShapes
def zeroT (P:Program)(t:Nat):Value:=((P.info? t).bind (·.zero)).getD .nilFunc
section
variable {H:Type}{enc:TypeId×Value→H}{P:Program}{W W':World}
theorem below_all (hl:laidOutB P=true)(hb:Below W.heap.size W W'){sp:Nat→Bool}: ∀{ts:List TypeId} {vs:List Value} {ds:List (DataW H)} {ps:List MemPlace},(ts.all fun t=>P.readableRec t&&decide (t<P.types.size))=true→DataW.TrodAll enc P W 0 (fun _=>true) true ts vs ds ps→(∀x∈ps,x.block<W.heap.size)→(∀x∈ps,sp x.block=true)→
  DataW.TrodAll enc P W' 0 sp true ts vs ds ps
 |[],_,_,_,_,h,_,_=>by
  obtain⟨rfl,rfl,rfl⟩:=trodAll_nil h
  exact trodAll_mk0
 |t::ts,_,_,_,hr,h,hlt,hsp=>by
  obtain⟨v,vs,d,ds,p,q,rfl,rfl,rfl,h1,h2⟩:=trodAll_cons h
  rw[List.all_cons,Bool.and_eq_true,Bool.and_eq_true]at hr
  refine⟨p,q,WideElems.Trod_stays hl hr.1.1 (of_decide_eq_true hr.1.2) h1 (fun x hx=>hb.same (hlt x (List.mem_append_left _ hx))) (fun x hx=>hsp x (List.mem_append_left _ hx)), ?_,rfl⟩
  exact below_all hl hb hr.2 h2 (fun x hx=>hlt x (List.mem_append_right _ hx)) (fun x hx=>hsp x (List.mem_append_right _ hx))
end
end Go.Proofs.Ytofanlcjeohcjaa.Am
end
