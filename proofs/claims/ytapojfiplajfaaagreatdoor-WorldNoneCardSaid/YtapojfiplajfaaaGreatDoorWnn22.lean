/- Appends to a slice that another append has made. -/
import Derived.Test.YtapojfiplajfaaaGreatDoorWnn21
import Derived.ChangeKeysEq
import Derived.Laws.Strings
import Derived.Test.YtapojfiplajfaaaGreatDoorWnn09
import GoSem.ClaimWide
import Derived.ChangeShapes
import Derived.ChangeSlices
import Derived.WideShapes
import Derived.OpenShut
import Derived.Carry
import Derived.ChangeSame
namespace Go.Proofs.YtapojfiplajfaaaGreatDoor.Am
open Go.RowKit
section
variable {α β:Type}{s:St}{E:Env}{t t2:Nat}
theorem Ext.delC {F G:Nat→Prop}(s:St)(l:Nat)(hG:G l):Ext F G s ⟨T.del s.mem l,s.next,s.lim,s.rd,notes l s.lim s.wr,s.cx⟩:=by
 obtain⟨d,e,q⟩:=notes_ext l s.lim s.wr
 refine⟨Nat.le_refl _,rfl,rfl,fun x _ hx=> ?_,⟨[],rfl,fun _ h=>by cases h⟩,⟨d,e,fun x hx=>⟨(q x hx).1,by rw[(q x hx).2];exact hG⟩⟩⟩
 show T.get (T.del s.mem l) x=_
 rw[T.get_del,if_neg]
 intro h
 exact hx (by rw[h];exact hG)
/-- A slice that an append has made,and whose room nobody has asked for since. -/
structure Marked (s:St)(sz n:Nat)(l:List Value)(v:Value)(b:Nat):Prop where
 val:v= .slice (some ⟨b,0,none⟩) n (capU*((b+n*sz)*1024+sz)+n)
 own:OwnRow s b 0 l
 len:l.length=n*sz
 tok: ∃q,q%1024=sz∧T.get s.mem (b+n*sz)=some (.O (.tok false q))
 lt:b+n*sz<s.next
theorem Marked.ext {F G:Nat→Prop}{s s':St}{sz n:Nat}{l:List Value}{v:Value}{b:Nat}(h:Marked s sz n l v b)(e:Ext F G s s')(hG: ∀x,In b 0 (n*sz+1) x→ ¬G x):Marked s' sz n l v b:=
 ⟨h.val,h.own.ext e fun i hi=>hG _ ⟨by omega,by rw[h.len]at hi;omega⟩,h.len,let ⟨q,h1,h2⟩:=h.tok;⟨q,h1,by rw[e.mem _ h.lt (hG _ ⟨by omega,by omega⟩)];exact h2⟩,Nat.lt_of_lt_of_le h.lt e.nxt⟩
theorem Marked.same {s s':St}{sz n:Nat}{l:List Value}{v:Value}{b:Nat}(h:Marked s sz n l v b)(hm:s'.mem=s.mem)(hn:s'.next=s.next):Marked s' sz n l v b:=
 ⟨h.val,fun i v e=>(h.own i v e).same hm hn,h.len,by rw[hm];exact h.tok,by rw[hn];exact h.lt⟩
end
end Go.Proofs.YtapojfiplajfaaaGreatDoor.Am
/- Appends to what is nothing or an append's:one rule. -/
namespace Go.Proofs.YtapojfiplajfaaaGreatDoor.Am
open Go.RowKit
section
variable {s s':St}{E:Env}{t t2:Nat}
/-- Nothing,or a slice that an append has made. -/
def MkS (s:St)(sz n:Nat)(l:List Value)(v:Value)(b:Nat):Prop:=(v= .slice none 0 0∧n=0∧l=[])∨(Marked s sz n l v b∧0<n)
def MkF (sz n b:Nat)(x:Nat):Prop:=0<n∧In b 0 (n*sz+1) x
theorem MkS.ext {F G:Nat→Prop}{sz n:Nat}{l:List Value}{v:Value}{b:Nat}(h:MkS s sz n l v b)(e:Ext F G s s')(hG: ∀x,MkF sz n b x→ ¬G x):MkS s' sz n l v b:=by
 rcases h with h|⟨h,h0⟩
 ·exact .inl h
 ·exact .inr ⟨h.ext e fun x hx=>hG x ⟨h0,hx⟩,h0⟩
theorem MkS.ext0 {F:Nat→Prop}{sz n:Nat}{l:List Value}{v:Value}{b:Nat}(h:MkS s sz n l v b)(e:Ext F Non s s'):MkS s' sz n l v b:=h.ext e fun _ _=>id
theorem MkS.same {sz n:Nat}{l:List Value}{v:Value}{b:Nat}(h:MkS s sz n l v b)(hm:s'.mem=s.mem)(hn:s'.next=s.next):MkS s' sz n l v b:=by
 rcases h with h|⟨h,h0⟩
 ·exact .inl h
 ·exact .inr ⟨h.same hm hn,h0⟩
theorem MkS.lt {sz n:Nat}{l:List Value}{v:Value}{b:Nat}(h:MkS s sz n l v b): ∀x,MkF sz n b x→x<s.next:=by
 intro x hx
 rcases h with⟨_,h0,_⟩|⟨h,_⟩
 ·have:=hx.1;omega
 ·have h1:=h.lt
  have h2:x<b+0+(n*sz+1):=hx.2.2
  omega
theorem MkS.sl {sz n:Nat}{l:List Value}{v:Value}{b:Nat}(h:MkS s sz n l v b): ∃p c,v= .slice p n c:=by
 rcases h with⟨rfl,rfl,_⟩|⟨h,_⟩
 ·exact⟨_,_,rfl⟩
 ·exact⟨_,_,h.val⟩
theorem MkS.len {sz n:Nat}{l:List Value}{v:Value}{b:Nat}(h:MkS s sz n l v b){z:Nat}(ht:slN E t=some z)(Q:Value→St→Prop):W (aBuiltin E .len [t] [v]) s' Q=Q (.int .i64 (n:Nat)) s':=by
 obtain⟨p,c,rfl⟩:=h.sl
 exact W_lenSl ht Q
end
end Go.Proofs.YtapojfiplajfaaaGreatDoor.Am
/- Numbers of 32 bits held against each other;appends to what is empty or an append's. -/
namespace Go.Proofs.YtapojfiplajfaaaGreatDoor.Am
open Go.RowKit
section
variable {s s':St}{E:Env}{t t2:Nat}{xo yo:Operand}
/-- Empty,at a place,or a slice that an append has made. -/
def EmS (s:St)(sz n:Nat)(l:List Value)(v:Value)(b:Nat):Prop:=(v= .slice (some ⟨b,0,none⟩) 0 0∧n=0∧l=[])∨(Marked s sz n l v b∧0<n)
theorem EmS.same {sz n:Nat}{l:List Value}{v:Value}{b:Nat}(h:EmS s sz n l v b)(hm:s'.mem=s.mem)(hn:s'.next=s.next):EmS s' sz n l v b:=by
 rcases h with h|⟨h,h0⟩
 ·exact .inl h
 ·exact .inr ⟨h.same hm hn,h0⟩
theorem EmS.row {sz n:Nat}{l:List Value}{v:Value}{b:Nat}(h:EmS s sz n l v b): ∃c,v= .slice (some ⟨b,0,none⟩) n c∧Row s b 0 l:=by
 rcases h with⟨rfl,rfl,rfl⟩|⟨h,_⟩
 ·exact⟨_,rfl,fun i u e=>by simp at e⟩
 ·exact⟨_,h.val,h.own.row⟩
end
end Go.Proofs.YtapojfiplajfaaaGreatDoor.Am
/- Arrays of bytes held against each other. -/
namespace Go.Proofs.YtapojfiplajfaaaGreatDoor.Am
open Go.RowKit
section
variable {P:Program}{E:Env}{s:St}{t:Nat}
/-! ### Texts -/
theorem isStrT_inv (h:isStrT E t=true): ∃i,T.get E.ty t=some i∧i.u= .string:=by
 unfold isStrT at h
 split at h
 ·rename_i i hi
  split at h
  ·rename_i hs
   exact⟨i,hi,hs⟩
  ·cases h
 ·cases h
theorem W_lenS (h:isStrT E t=true)(a:ByteArray)(Q:Value→St→Prop):W (aBuiltin E .len [t] [.string a]) s Q=Q (.int .i64 (a.size:Nat)) s:=by
 obtain⟨i,h1,h2⟩:=isStrT_inv h
 refine W_run ?_
 show aLen E t (.string a) s=_
 unfold aLen
 rw[bind_run (show ti E t s= .some i s by unfold ti;rw[h1];rfl),h2]
 show pN a.size s=_
 unfold pN
 rw[fN_eq]
 rfl
end
end Go.Proofs.YtapojfiplajfaaaGreatDoor.Am
/- From what is said of all states of the evaluator to contracts:arguments that lay there ahead of the call. -/
namespace Go.Proofs.YtapojfiplajfaaaGreatDoor.Am
open Go.RowKit
/-- A memory of nothing but what lay there ahead of the call. -/
theorem Rel.ofOld {w:World}{r:Inj}{mem:T Cell}(hk:r.known.sure w)(hd: ∀b b' d,r.blk b=some (b',d)→b'<w.heap.size)
  (ho: ∀loc c,T.get mem loc=some c→ ∃b v,c= .O (.old b v)∧ ∃b' d v',b≤loc∧r.blk b=some (b',d)∧w.cell? ⟨b',loc-b+d,none⟩=some v'∧VR r v v'):Rel w r mem w where
 below:= .refl _ _
 dom:=fun b b' d e=>⟨Nat.le_refl _,hd b b' d e⟩
 cell:=fun l b v e=>by obtain⟨_,_,e2,_⟩:=ho _ _ e;cases e2
 sep:=fun l1 l2 b1 v1 b2 v2 b' d1 d2 e=>by obtain⟨_,_,e2,_⟩:=ho _ _ e;cases e2
 obj:=fun l o e ht=>by obtain⟨_,_,e2,_⟩:=ho _ _ e;cases e2;cases ht
 sepO:=fun l1 l2 o1 o2 b' d1 d2 e _ ht=>by obtain⟨_,_,e2,_⟩:=ho _ _ e;cases e2;cases ht
 tok:=fun t sz e=>by obtain⟨_,_,e2,_⟩:=ho _ _ e;cases e2
 sepT:=fun t1 t2 s1 s2 k1 k2 e=>by obtain⟨_,_,e2,_⟩:=ho _ _ e;cases e2
 known:=hk
 szs:=fun l n e=>by obtain⟨_,_,e2,_⟩:=ho _ _ e;cases e2
 olds:={
  old:=fun l b v e=>by obtain⟨_,_,e2,h⟩:=ho _ _ e;cases e2;exact h
  newC:=fun l b v b' d e=>by obtain⟨_,_,e2,_⟩:=ho _ _ e;cases e2
  newO:=fun l o b' d e ht=>by obtain⟨_,_,e2,_⟩:=ho _ _ e;cases e2;cases ht
  newS:=fun l n b' d e=>by obtain⟨_,_,e2,_⟩:=ho _ _ e;cases e2}
/-- A call of given arguments,from any world that has them:it returns what is said,if that has no address in it;nothing that was there is touched. -/
theorem calls_sym {E:Env}(he:EnvOK E){fuel f:Nat}{args:List Value}{args':Array Value}{v:Value}{s0:St}{r:Inj}(ho:E.orc.get f=none)(hx:E.ext.get f=none)(h:W (callW E (runF E fuel) f args) s0 fun u _=>u=v)(hp:plain v=true){w:World}(ha:VRs r args args'.toList)(hr:Rel w r s0.mem w)(hb:Bnd s0)
  (hf: ∀b,s0.next≤b→r.blk b=none∧r.ext b=none):Calls E.P f args' w fun e w'=>e= .returned v∧Below w.heap.size w w':=by
 intro cs
 obtain⟨_,s',h,rfl⟩:=h
 unfold callW at h
 rw[ho,hx]at h
 obtain⟨s2,e1,rfl⟩:=within_rOf (o:= .inl _) (show within cxN (M.bind (M.bind (enterF E f args .normal) (runF E fuel)) fstV) s0=rOf (.inl _) s' from h)
 obtain⟨af,s1,o,e2,e3,e4⟩:=fst_rOf (np_enterF _ _ _) e1
 obtain⟨_,hF,rfl⟩:=enter_ok (r:=r) (base:=([],cs)) (cx:=cxN) he e2 ha (cs:=cs) ⟨⟨rfl,rfl⟩,rfl, .nil⟩
 obtain⟨w',r',k1,k2,cs',k3,k4⟩:=(runF_ok he fuel).ok e3 hF hr hb (fun b h1 _=>hf b h1)
 cases o with
 |inr c=>cases e4
 |inl p=>
  cases e4
  obtain⟨v',q1,q2,q3⟩:=k4
  obtain⟨fr',x1,x2,x3⟩:=q3 rfl rfl
  have hcs:cs'=cs:=by
   rcases k3 with k3|⟨_,_,_,_,_,k,_⟩
   ·exact k3.2
   ·cases k
  subst hcs
  exact⟨.returned v',w',fr',⟨by rw[q1.eq_of_plain hp],k1.rel.below⟩,x3,x1,x2⟩
/-- .. of arguments that have no address in them. -/
theorem VRs.plains {r:Inj}: ∀{l:List Value},(∀v∈l,plain v=true)→VRs r l l
 |[],_=> .nil
 |v::l,h=> .cons (.of_plain (h v (by simp))) (VRs.plains fun u hu=>h u (by simp[hu]))
/-! ### What arguments of these types are -/
/-! ### A row of bytes that lay there -/
noncomputable def layOT (b:Nat):List Value→Nat→T Cell→T Cell
 |[],_,t=>t
 |v::l,i,t=>layOT b l (i+1) (T.set t i (.O (.old b v)))
theorem layOT_get (b:Nat): ∀(l:List Value) (i:Nat) (t:T Cell) (j:Nat),T.get (layOT b l i t) j=if i≤j∧j<i+l.length then(l[j-i]?).map (fun v=> .O (.old b v))else T.get t j
 |[],i,t,j=>by
  rw[if_neg (by simp only[List.length_nil];omega)]
  rfl
 |v::l,i,t,j=>by
  show T.get (layOT b l (i+1) (T.set t i (.O (.old b v)))) j=_
  rw[layOT_get b l (i+1),T.get_set]
  simp only[List.length_cons]
  by_cases h1:j=i
  ·subst h1
   rw[if_neg (by omega),if_pos rfl,if_pos (by omega),Nat.sub_self]
   rfl
  ·rw[if_neg h1]
   by_cases h2:i+1≤j∧j<i+1+l.length
   ·rw[if_pos h2,if_pos (by omega),show j-i=(j-(i+1))+1 by omega]
    rfl
   ·rw[if_neg h2,if_neg (by omega)]
end Go.Proofs.YtapojfiplajfaaaGreatDoor.Am
/- Arguments that are slices of bytes:what they are,as the evaluator has them. -/
namespace Go.Proofs.YtapojfiplajfaaaGreatDoor.Am
open Go.RowKit Go.ChangeShapes Go.WideShapes
end Go.Proofs.YtapojfiplajfaaaGreatDoor.Am
/- Arguments of any plain type (numbers,truth values,texts,slices,structs,arrays of such),laid into the evaluator's memory. -/
namespace Go.Proofs.YtapojfiplajfaaaGreatDoor.Am
open Go.RowKit Go.ChangeShapes Go.WideShapes
/-- A memory of nothing but old cells,up to a place. -/
structure OldSt (w:World)(m:T Cell)(nx:Nat)(r:Inj):Prop where
 ho: ∀loc c,T.get m loc=some c→loc<nx∧ ∃b v,c= .O (.old b v)∧ ∃b' d v',b≤loc∧r.blk b=some (b',d)∧w.cell? ⟨b',loc-b+d,none⟩=some v'∧VR r v v'
 hd: ∀b b' d,r.blk b=some (b',d)→b<nx∧b'<w.heap.size
 hx: ∀b,r.ext b=none
 hk:r.known= .no
structure Grow (m:T Cell)(nx:Nat)(r:Inj)(m':T Cell)(nx':Nat)(r':Inj):Prop where
 le:r.le r'
 nle:nx≤nx'
 mem: ∀l,l<nx→T.get m' l=T.get m l
theorem Grow.refl (m:T Cell)(nx:Nat)(r:Inj):Grow m nx r m nx r:=⟨Inj.le_refl r,Nat.le_refl _,fun _ _=>rfl⟩
theorem Grow.trans {m m' m'':T Cell}{nx nx' nx'':Nat}{r r' r'':Inj}(h:Grow m nx r m' nx' r')(k:Grow m' nx' r' m'' nx'' r''):Grow m nx r m'' nx'' r'':=
 ⟨Inj.le_trans h.le k.le,Nat.le_trans h.nle k.nle,fun l hl=>(k.mem l (Nat.lt_of_lt_of_le hl h.nle)).trans (h.mem l hl)⟩
noncomputable def stO (m:T Cell)(nx:Nat):St:=⟨m,nx,0,[],[], .no⟩
theorem Grow.row {m m':T Cell}{nx nx':Nat}{r r':Inj}(g:Grow m nx r m' nx' r'){b o:Nat}{l:List Value}(h:Row (stO m nx) b o l):Row (stO m' nx') b o l:=fun i v e=>by
 have hl:b+(o+i)<nx:=(h i v e).1
 refine⟨Nat.lt_of_lt_of_le hl g.nle, ?_⟩
 show T.get m' (b+(o+i))=_∨T.get m' (b+(o+i))=_
 rw[g.mem _ hl]
 exact(h i v e).2
/-- What cells of a type are,as the evaluator has them. -/
def HoldsT (P:Program)(N:Nat)(s:St):Nat→TypeId→List Value→Prop
 |0,_,_=>False
 |f+1,t,us=>match P.underlying t with
  |some .bool=> ∃b,us=[.bool b]
  |some (.int k)=> ∃n,us=[.int k n]∧(Lit.int k n).wf=true
  |some .string=> ∃x:ByteArray,us=[.string x]∧x.size≤maxLen∧x.size≤N
  |some (.slice e)=>us=[.slice none 0 0]∨us=[.slice (some ⟨0,0,none⟩) 0 (capU*P.cellsOf e)]∨ ∃b n c,us=[.slice (some ⟨b,0,none⟩) n c]∧0<n∧n≤c∧c≤maxLen∧n≤N∧ ∀i,i<n→ ∃es,es.length=P.cellsOf e∧Row s b (i*P.cellsOf e) es∧HoldsT P N s f e es
  |some (.struct fs)=>us.length=P.cellsOf t∧ ∀x∈fs.toList,HoldsT P N s f x.type ((us.drop x.offset).take (P.cellsOf x.type))
  |some (.array n e)=>us.length=P.cellsOf t∧ ∀i,i<n→HoldsT P N s f e ((us.drop (i*P.cellsOf e)).take (P.cellsOf e))
  |_=>False
theorem HoldsT.mono {P:Program}{N:Nat}{s s':St}(h: ∀b o l,Row s b o l→Row s' b o l): ∀(f:Nat) (t:TypeId) (us:List Value),HoldsT P N s f t us→HoldsT P N s' f t us
 |0,_,_,k=>k
 |f+1,t,us,k=>by
  unfold HoldsT at k ⊢
  cases hu:P.underlying t with
  |none=>rw[hu]at k;exact k
  |some u=>
   rw[hu]at k
   cases u<;>try exact k
   ·rename_i e
    rcases k with k|k|⟨b,n,c,k1,k2,k3,k4,k6,k5⟩
    ·exact .inl k
    ·exact .inr (.inl k)
    ·refine .inr (.inr ⟨b,n,c,k1,k2,k3,k4,k6,fun i hi=> ?_⟩)
     obtain⟨es,e1,e2,e3⟩:=k5 i hi
     exact⟨es,e1,h _ _ _ e2,HoldsT.mono h f _ _ e3⟩
   ·exact⟨k.1,fun x hx=>HoldsT.mono h f _ _ (k.2 x hx)⟩
   ·exact⟨k.1,fun i hi=>HoldsT.mono h f _ _ (k.2 i hi)⟩
/-- Are there only such types in it,each part behind the other? -/
def tilesT (P:Program):List Field→Nat→Nat→Bool
 |[],o,z=>Nat.beq o z
 |x::l,o,z=>Nat.beq x.offset o&&tilesT P l (o+P.cellsOf x.type) z
def flatT (P:Program):Nat→TypeId→Bool
 |0,_=>false
 |f+1,t=>match P.underlying t with
  |some .bool|some (.int _)|some .string=>true
  |some (.slice e)=>(Nat.blt 0 (P.cellsOf e)&&Nat.blt (P.cellsOf e) 1024)&&flatT P f e
  |some (.struct fs)=>tilesT P fs.toList 0 (P.cellsOf t)&&fs.toList.all fun x=>flatT P f x.type
  |some (.array n e)=>Nat.beq (n*P.cellsOf e) (P.cellsOf t)&&flatT P f e
  |_=>false
/-- Cells that can be laid,behind whatever lies there. -/
def Lay (w:World)(cs:List Value)(H:St→List Value→Prop):Prop:= ∀m nx r,OldSt w m nx r→ ∃m' nx' r' us,OldSt w m' nx' r'∧Grow m nx r m' nx' r'∧VRs r' us cs∧H (stO m' nx') us
theorem Lay.plain {w:World}{cs:List Value}{H:St→List Value→Prop}(h: ∀v∈cs,plain v=true)(k: ∀s,H s cs):Lay w cs H:=fun m nx r ho=>⟨m,nx,r,cs,ho, .refl _ _ _,VRs.plains h,k _⟩
/-- So many parts of one size. -/
theorem lay_n {w:World}{cs:List Value}{k:Nat}{H:St→List Value→Prop}(mono: ∀(s s':St) us,(∀b o l,Row s b o l→Row s' b o l)→H s us→H s' us): ∀n,n*k≤cs.length→(∀i,i<n→Lay w ((cs.drop (i*k)).take k) H)→Lay w (cs.take (n*k)) fun s us=> ∀i,i<n→H s ((us.drop (i*k)).take k)
 |0,_,_=>fun m nx r ho=>⟨m,nx,r,[],ho, .refl _ _ _,by rw[Nat.zero_mul];exact VRs.nil,fun i hi=>absurd hi (Nat.not_lt_zero i)⟩
 |n+1,hl,h=>fun m nx r ho=>by
  have hnk:(n+1)*k=n*k+k:=Nat.succ_mul n k
  obtain⟨m1,nx1,r1,us1,ho1,g1,v1,h1⟩:=lay_n mono n (by omega) (fun i hi=>h i (by omega)) m nx r ho
  obtain⟨m2,nx2,r2,us2,ho2,g2,v2,h2⟩:=h n (by omega) m1 nx1 r1 ho1
  have l1:us1.length=n*k:=by rw[v1.1,List.length_take];omega
  have l2:us2.length=k:=by rw[v2.1,List.length_take,List.length_drop];omega
  refine⟨m2,nx2,r2,us1++us2,ho2,g1.trans g2, ?_,fun i hi=> ?_⟩
  ·have e:cs.take ((n+1)*k)=cs.take (n*k)++(cs.drop (n*k)).take k:=by
    rw[hnk,List.take_add]
   rw[e]
   exact(v1.mono g2.le).append v2
  ·rcases Nat.lt_or_ge i n with hin|hin
   ·have hik:i*k+k≤n*k:=by
     have:=Nat.mul_le_mul_right k (show i+1≤n by omega)
     rw[Nat.succ_mul]at this
     exact this
    have e:((us1++us2).drop (i*k)).take k=(us1.drop (i*k)).take k:=by
     rw[List.drop_append_of_le_length (by omega),List.take_append_of_le_length (by rw[List.length_drop];omega)]
    rw[e]
    exact mono _ _ _ (fun b o l q=>g2.row q) (h1 i hin)
   ·have:i=n:=by omega
    subst this
    have e:((us1++us2).drop (i*k)).take k=us2:=by
     rw[List.drop_left' l1,List.take_of_length_le (by omega)]
    rw[e]
    exact h2
theorem tilesT_le {P:Program}: ∀{l:List Field} {o z:Nat},tilesT P l o z=true→o≤z
 |[],o,z,h=>Nat.le_of_eq (Nat.eq_of_beq_eq_true h)
 |x::l,o,z,h=>by
  have h':(Nat.beq x.offset o&&tilesT P l (o+P.cellsOf x.type) z)=true:=h
  rw[Bool.and_eq_true]at h'
  have:=tilesT_le h'.2
  omega
theorem tilesT_ge {P:Program}: ∀{l:List Field} {o z:Nat},tilesT P l o z=true→ ∀x∈l,o≤x.offset
 |[],_,_,_,x,hx=>by cases hx
 |y::l,o,z,h,x,hx=>by
  have h':(Nat.beq y.offset o&&tilesT P l (o+P.cellsOf y.type) z)=true:=h
  rw[Bool.and_eq_true]at h'
  rcases List.mem_cons.1 hx with rfl|hx
  ·exact Nat.le_of_eq (Nat.eq_of_beq_eq_true h'.1).symm
  ·have:=tilesT_ge h'.2 x hx
   omega
/-- The fields of a struct. -/
theorem lay_fields {P:Program}{N:Nat}{w:World}{cs:List Value}{F:Nat}: ∀(l:List Field) (o:Nat),tilesT P l o cs.length=true→(∀x∈l,Lay w ((cs.drop x.offset).take (P.cellsOf x.type)) fun s us=>HoldsT P N s F x.type us)→
  Lay w (cs.drop o) fun s us=> ∀x∈l,HoldsT P N s F x.type ((us.drop (x.offset-o)).take (P.cellsOf x.type))
 |[],o,ht,_=>fun m nx r ho=>by
  have:o=cs.length:=Nat.eq_of_beq_eq_true ht
  exact⟨m,nx,r,[],ho, .refl _ _ _,by rw[this,List.drop_length];exact VRs.nil,fun x hx=>by cases hx⟩
 |x::l,o,ht,h=>fun m nx r ho=>by
  have ht':(Nat.beq x.offset o&&tilesT P l (o+P.cellsOf x.type) cs.length)=true:=ht
  rw[Bool.and_eq_true]at ht'
  have ho':x.offset=o:=Nat.eq_of_beq_eq_true ht'.1
  have hz:=tilesT_le ht'.2
  have hge:=tilesT_ge ht'.2
  obtain⟨m1,nx1,r1,us1,ho1,g1,v1,h1⟩:=h x (by simp) m nx r ho
  obtain⟨m2,nx2,r2,us2,ho2,g2,v2,h2⟩:=lay_fields l (o+P.cellsOf x.type) ht'.2 (fun y hy=>h y (by simp[hy])) m1 nx1 r1 ho1
  rw[ho']at v1
  have l1:us1.length=P.cellsOf x.type:=by rw[v1.1,List.length_take,List.length_drop];omega
  refine⟨m2,nx2,r2,us1++us2,ho2,g1.trans g2, ?_,fun y hy=> ?_⟩
  ·have e:cs.drop o=(cs.drop o).take (P.cellsOf x.type)++cs.drop (o+P.cellsOf x.type):=by
    rw[←List.drop_drop,List.take_append_drop]
   rw[e]
   exact(v1.mono g2.le).append v2
  ·rcases List.mem_cons.1 hy with rfl|hy
   ·have e:((us1++us2).drop (y.offset-o)).take (P.cellsOf y.type)=us1:=by
     rw[ho',Nat.sub_self,List.drop_zero,List.take_left' l1]
    rw[e]
    exact HoldsT.mono (fun b o l q=>g2.row q) _ _ _ h1
   ·have hoy:=hge y hy
    have e:(us1++us2).drop (y.offset-o)=us2.drop (y.offset-(o+P.cellsOf x.type)):=by
     rw[List.drop_append,List.drop_of_length_le (by omega),List.nil_append,l1]
     congr 1
     omega
    rw[e]
    exact h2 y hy
theorem mapM_some_at {α β:Type}{f:α→Option β}: ∀{xs:List α} {l:List β},xs.mapM f=some l→l.length=xs.length∧ ∀(i:Nat) (x:α),xs[i]?=some x→f x=l[i]?
 |[],l,h=>by
  have:l=[]:=by simpa using h.symm
  subst this
  exact⟨rfl,fun i x e=>by simp at e⟩
 |x::xs,l,h=>by
  rw[List.mapM_cons]at h
  cases hf:f x with
  |none=>rw[hf]at h;cases h
  |some y=>
   rw[hf]at h
   cases hx:xs.mapM f with
   |none=>rw[hx]at h;cases h
   |some ys=>
    rw[hx]at h
    cases h
    obtain⟨h1,h2⟩:=mapM_some_at hx
    refine⟨by simp[h1],fun i z e=> ?_⟩
    cases i with
    |zero=>
     have:x=z:=by simpa using e
     subst this
     exact hf
    |succ i=>exact h2 i z (by simpa using e)
theorem cells_at {w:World}{base k:Nat}{a:Addr}{l:List Value}(h:w.cells? base a k=some l):l.length=k∧ ∀j,j<k→w.cell? (a.add j)=l[j]?:=by
 unfold World.cells? at h
 split at h
 ·obtain⟨h1,h2⟩:=mapM_some_at h
  rw[List.length_range]at h1
  exact⟨h1,fun j hj=>h2 j j (by simp[hj])⟩
 ·cases h
theorem cell_spot {w:World}{a:Addr}{v:Value}(h:w.cell? a=some v):a.spot=none∧a.block<w.heap.size:=by
 unfold World.cell? at h
 cases hq:w.heap[a.block]? with
 |none=>simp only[hq]at h;cases h
 |some c=>
  refine⟨?_,(Array.getElem?_eq_some_iff.1 hq).1⟩
  cases hsp:a.spot with
  |none=>rfl
  |some x=>cases c<;>simp[hq,hsp]at h
theorem add_none (b o n:Nat):(⟨b,o,none⟩:Addr).add n=⟨b,o+n,none⟩:=by
 unfold Addr.add
 split
 ·rename_i h;rw[h];rfl
 ·rfl
theorem spot_add {a:Addr}{n:Nat}(hs:a.spot=none):a.add n=⟨a.block,a.off+n,none⟩:=by
 obtain⟨b,o,s⟩:=a
 cases hs
 exact add_none b o n
mutual
/-- No text,no slice longer than so much. -/
def lensOk {H:Type}(N:Nat):DataW H→Prop
 | .lit (.string l)=>l.length≤N
 | .slice es _=>es.length≤N∧lensAll N es
 | .agg ps=>lensAll N ps
 |_=>True
def lensAll {H:Type}(N:Nat):List (DataW H)→Prop
 |[]=>True
 |d::r=>lensOk N d∧lensAll N r
end
theorem lensAll_mem {H:Type}{N:Nat}: ∀{l:List (DataW H)},lensAll N l→ ∀d∈l,lensOk N d
 |[],_,d,hd=>by cases hd
 |x::l,h,d,hd=>by
  rcases List.mem_cons.1 hd with rfl|hd
  ·exact h.1
  ·exact lensAll_mem h.2 d hd
/-- The cells of a type,laid. -/
theorem lay_trod {H:Type}{enc:TypeId×Value→H}{P:Program}{N:Nat}{w:World}{b0:Nat}{sp:Nat→Bool}{held:Bool}: ∀(F f:Nat) (t:TypeId) (cs:List Value) (y:DataW H×List MemPlace),flatT P F t=true→(maxLen≤N∨lensOk N y.1)→DataW.trod enc P w b0 sp held f t cs=some y→Lay w cs fun s us=>HoldsT P N s F t us
 |0,_,_,_,_,hf,_,_=>by cases hf
 |F+1,f,t,cs,y,hf,hN,h=>by
  unfold flatT at hf
  cases hu:P.underlying t with
  |none=>rw[hu]at hf;cases hf
  |some u=>
   rw[hu]at hf
   cases u<;>try (cases hf;done)
   case bool=>
    obtain⟨b,rfl,_⟩:=DataW.trod_bool hu h
    refine Lay.plain (fun v hv=>by rw[List.mem_singleton.1 hv];rfl) fun s=> ?_
    unfold HoldsT
    rw[hu]
    exact⟨b,rfl⟩
   case int k=>
    obtain⟨n,rfl,_,hw⟩:=DataW.trod_int hu h
    refine Lay.plain (fun v hv=>by rw[List.mem_singleton.1 hv];rfl) fun s=> ?_
    unfold HoldsT
    rw[hu]
    exact⟨n,rfl,hw⟩
   case string=>
    obtain⟨x,rfl,rfl,hs⟩:=DataW.trod_string hu h
    refine Lay.plain (fun v hv=>by rw[List.mem_singleton.1 hv];rfl) fun s=> ?_
    unfold HoldsT
    rw[hu]
    exact⟨x,rfl,hs,by
     rcases hN with hN|hN
     ·omega
     ·have:x.data.toList.length≤N:=hN
      simpa using this⟩
   case struct fs=>
    rw[Bool.and_eq_true]at hf
    obtain⟨xs,n,_,rfl,hl,_,hx⟩:=DataW.trod_struct hu h
    have hall: ∀x∈fs.toList,Lay w ((cs.drop x.offset).take (P.cellsOf x.type)) fun s us=>HoldsT P N s F x.type us:=fun x hxm=>by
     obtain⟨i,hi⟩:=List.getElem?_of_mem hxm
     have hi':fs[i]?=some x:=by rw[←Array.getElem?_toList];exact hi
     have hd:=hx i x hi'
     have hfl:flatT P F x.type=true:=List.all_eq_true.1 hf.2 x hxm
     cases hz:DataW.trod enc P w b0 sp held n x.type ((cs.drop x.offset).take (P.cellsOf x.type))with
     |none=>
      rw[hz]at hd
      have h1:=(Array.getElem?_eq_some_iff.1 hi').1
      have h2:=List.getElem?_eq_none_iff.1 hd.symm
      omega
     |some z=>
      rw[hz]at hd
      exact lay_trod F n _ _ z hfl (hN.imp id fun q=>lensAll_mem q _ (List.mem_map.2 ⟨z,List.mem_of_getElem? hd.symm,rfl⟩)) hz
    intro m nx r ho
    obtain⟨m',nx',r',us,k1,k2,k3,k4⟩:=lay_fields (F:=F) fs.toList 0 (by rw[hl];exact hf.1) hall m nx r ho
    rw[List.drop_zero]at k3
    refine⟨m',nx',r',us,k1,k2,k3, ?_⟩
    unfold HoldsT
    rw[hu]
    exact⟨by rw[k3.1,hl],fun x hx=>by have:=k4 x hx;rwa [Nat.sub_zero]at this⟩
   case array n e=>
    rw[Bool.and_eq_true]at hf
    have hsz:n*P.cellsOf e=P.cellsOf t:=Nat.eq_of_beq_eq_true hf.1
    obtain⟨xs,m1,_,rfl,hl,hxl,hx⟩:=DataW.trod_array hu h
    intro m nx r ho
    obtain⟨m',nx',r',us,k1,k2,k3,k4⟩:=lay_n (w:=w) (cs:=cs) (k:=P.cellsOf e) (H:=fun s us=>HoldsT P N s F e us) (fun s s' us hr hh=>HoldsT.mono hr _ _ _ hh) n (by rw[hsz,hl];exact Nat.le_refl _) (fun i hi=>by
     have hd:=hx i hi
     cases hz:DataW.trod enc P w b0 sp held m1 e ((cs.drop (i*P.cellsOf e)).take (P.cellsOf e))with
     |none=>
      rw[hz]at hd
      have h2:=List.getElem?_eq_none_iff.1 hd.symm
      omega
     |some z=>
      rw[hz]at hd
      exact lay_trod F m1 _ _ z hf.2 (hN.imp id fun q=>lensAll_mem q _ (List.mem_map.2 ⟨z,List.mem_of_getElem? hd.symm,rfl⟩)) hz) m nx r ho
    rw[hsz,←hl,List.take_length]at k3
    refine⟨m',nx',r',us,k1,k2,k3, ?_⟩
    unfold HoldsT
    rw[hu]
    exact⟨by rw[k3.1,hl],k4⟩
   case slice e=>
    rw[Bool.and_eq_true]at hf
    have hq:=hf.1
    rw[Bool.and_eq_true]at hq
    have hk:0<P.cellsOf e:=blt_lt hq.1
    have hk2:P.cellsOf e<1024:=blt_lt hq.2
    rcases DataW.trod_slice hu h with⟨rfl,_⟩|⟨a,len,cap,elems,rest,n,_,rfl,rfl,_,hlc,hcm,hel,hx,_,_⟩
    ·refine fun m nx r ho=>⟨m,nx,r,[.slice none 0 0],ho, .refl _ _ _, .cons .slNil .nil, ?_⟩
     unfold HoldsT
     rw[hu]
     exact .inl rfl
    ·by_cases h0:len=0
     ·subst h0
      refine fun m nx r ho=>⟨m,nx,r,[.slice (some ⟨0,0,none⟩) 0 (capU*P.cellsOf e)],ho, .refl _ _ _, .cons (.slEnd (by rw[Nat.mul_div_cancel_left _ (by unfold capU;decide)];omega) (Nat.mul_mod_right _ _) (fun h=>absurd (by rw[Nat.mul_div_cancel_left _ (by unfold capU;decide),Nat.div_eq_of_lt hk2]) h)) .nil, ?_⟩
      unfold HoldsT
      rw[hu]
      exact .inr (.inl rfl)
     ·have hlN:len≤N:=by
       rcases hN with hN|hN
       ·omega
       ·have:=hN.1
        rw[List.length_map,hel]at this
        exact this
      have cells: ∀i,i<len→ ∃l z,w.cells? b0 (a.add (i*P.cellsOf e)) (P.cellsOf e)=some l∧DataW.trod enc P w b0 sp held n e l=some z∧z∈elems:=fun i hi=>by
       have:=hx i hi
       rw[List.getElem?_eq_getElem (by omega),Option.bind_eq_some_iff]at this
       obtain⟨l,h1,h2⟩:=this
       exact⟨l,_,h1,h2,List.getElem_mem _⟩
      have hspot:a.spot=none∧a.block<w.heap.size:=by
       obtain⟨l,z,h1,_⟩:=cells 0 (by omega)
       obtain⟨q1,q2⟩:=cells_at h1
       have:=q2 0 hk
       rw[List.getElem?_eq_getElem (by omega)]at this
       rw[Nat.zero_mul]at this
       exact cell_spot this
      have each: ∀j,∃v:Value,j<len*P.cellsOf e→w.cell? ⟨a.block,a.off+j,none⟩=some v:=fun j=>by
       by_cases hj:j<len*P.cellsOf e
       ·have hi:j/P.cellsOf e<len:=by rw[Nat.div_lt_iff_lt_mul hk];exact hj
        obtain⟨l,z,h1,_⟩:=cells _ hi
        obtain⟨q1,q2⟩:=cells_at h1
        have hm:j%P.cellsOf e<P.cellsOf e:=Nat.mod_lt _ hk
        have:=q2 _ hm
        rw[List.getElem?_eq_getElem (by omega),spot_add hspot.1,add_none]at this
        refine⟨l[j%P.cellsOf e]'(by omega),fun _=> ?_⟩
        rw[←this]
        have hdm:=Nat.div_add_mod j (P.cellsOf e)
        rw[Nat.mul_comm]at hdm
        congr 2
        omega
       ·exact⟨undef,fun h=>absurd h hj⟩
      obtain⟨g,hg⟩:=Classical.axiomOfChoice each
      obtain⟨cs,hcs⟩: ∃cs:List Value,cs=(List.range (len*P.cellsOf e)).map g:=⟨_,rfl⟩
      have hcl:cs.length=len*P.cellsOf e:=by rw[hcs];simp
      have hcg: ∀j v,cs[j]?=some v→w.cell? ⟨a.block,a.off+j,none⟩=some v:=fun j v e=>by
       rw[hcs,List.getElem?_map,Option.map_eq_some_iff]at e
       obtain⟨j',e1,e2⟩:=e
       have hj:=(List.getElem?_eq_some_iff.1 e1).1
       rw[List.length_range]at hj
       rw[List.getElem?_range hj]at e1
       cases e1
       rw[←e2]
       exact hg _ hj
      intro m nx r ho
      obtain⟨m',nx',r',us,k1,k2,k3,k4⟩:=lay_n (w:=w) (cs:=cs) (k:=P.cellsOf e) (H:=fun s us=>HoldsT P N s F e us) (fun s s' us hr hh=>HoldsT.mono hr _ _ _ hh) len (by omega) (fun i hi=>by
       obtain⟨l,z,h1,h2,h3⟩:=cells i hi
       obtain⟨q1,q2⟩:=cells_at h1
       have el:(cs.drop (i*P.cellsOf e)).take (P.cellsOf e)=l:=by
        apply List.ext_getElem?
        intro j
        by_cases hj:j<P.cellsOf e
        ·have hjj:i*P.cellsOf e+j<cs.length:=by
          have:=Nat.mul_le_mul_right (P.cellsOf e) (show i+1≤len by omega)
          rw[Nat.succ_mul]at this
          omega
         rw[List.getElem?_take,if_pos hj,List.getElem?_drop,List.getElem?_eq_getElem hjj,←q2 j hj,spot_add hspot.1,add_none]
         have:=hcg _ _ (List.getElem?_eq_getElem hjj)
         rw[←Nat.add_assoc]at this
         exact this.symm
        ·rw[List.getElem?_take,if_neg hj,List.getElem?_eq_none (by omega)]
       rw[el]
       exact lay_trod F n _ _ z hf.2 (hN.imp id fun q=>lensAll_mem q.2 _ (List.mem_map.2 ⟨z,h3,rfl⟩)) h2) m nx r ho
      rw[←hcl,List.take_length]at k3
      have hul:us.length=len*P.cellsOf e:=by rw[k3.1,hcl]
      have hpos:0<us.length:=by rw[hul];exact Nat.mul_pos (by omega) hk
      obtain⟨r2,hr2⟩: ∃r2:Inj,r2=⟨fun b=>if b=nx' then some (a.block,a.off)else r'.blk b,r'.ext,r'.known⟩:=⟨_,rfl⟩
      have hb2: ∀b,r2.blk b=if b=nx' then some (a.block,a.off)else r'.blk b:=fun b=>by rw[hr2]
      have hle:r'.le r2:=⟨fun b x e=>by
       rw[hb2,if_neg]
       ·exact e
       ·intro hb
        have:=(k1.hd b x.1 x.2 e).1
        omega,fun t x e=>by rw[hr2];exact e,by rw[hr2]⟩
      have hget: ∀j,T.get (layOT nx' us nx' m') j=if nx'≤j∧j<nx'+us.length then(us[j-nx']?).map (fun v=> .O (.old nx' v))else T.get m' j:=fun j=>layOT_get _ _ _ _ _
      have hgrow:Grow m' nx' r' (layOT nx' us nx' m') (nx'+us.length+1) r2:=⟨hle,by omega,fun l hl=>by rw[hget,if_neg (by omega)]⟩
      refine⟨layOT nx' us nx' m',nx'+us.length+1,r2,[.slice (some ⟨nx',0,none⟩) len cap],⟨fun loc c e=> ?_,fun b b' d e=> ?_,fun b=>by rw[hr2];exact k1.hx b,by rw[hr2];exact k1.hk⟩,k2.trans hgrow, ?_, ?_⟩
      ·rw[hget]at e
       split at e
       ·rename_i hin
        rw[Option.map_eq_some_iff]at e
        obtain⟨v,e1,rfl⟩:=e
        obtain⟨v',e2,e3⟩:=k3.get e1
        refine⟨by omega,nx',v,rfl,a.block,a.off,v',hin.1,by rw[hb2,if_pos rfl], ?_,e3.mono hle⟩
        have:=hcg _ _ e2
        rwa [Nat.add_comm a.off]at this
       ·obtain⟨h1,b,v,rfl,b',d,v',h2,h3,h4,h5⟩:=k1.ho loc c e
        exact⟨by omega,b,v,rfl,b',d,v',h2,hle.1 _ _ h3,h4,h5.mono hle⟩
      ·rw[hb2]at e
       split at e
       ·rename_i hb
        cases e
        exact⟨by omega,hspot.2⟩
       ·have:=k1.hd b b' d e
        exact⟨by omega,this.2⟩
      ·refine .cons ?_ .nil
       have hcu:cap<capU:=by
        have:cap≤9223372036854775807:=hcm
        unfold capU
        omega
       have:=VR.sl (r:=r2) (b:=nx') (o:=0) (b':=a.block) (d:=a.off) (l:=len) (c:=cap) (c':=cap) (by rw[hb2,if_pos rfl]) (.inl ⟨Nat.div_eq_of_lt hcu,rfl⟩) (by rw[Nat.mod_eq_of_lt hcu];exact hlc)
       rw[Nat.zero_add]at this
       obtain⟨b,o,s⟩:=a
       have hs:s=none:=hspot.1
       subst hs
       exact this
      ·unfold HoldsT
       rw[hu]
       refine .inr (.inr ⟨nx',len,cap,rfl,by omega,hlc,hcm,hlN,fun i hi=>⟨(us.drop (i*P.cellsOf e)).take (P.cellsOf e), ?_,fun j v ej=> ?_,HoldsT.mono (fun b o l q=>hgrow.row q) _ _ _ (k4 i hi)⟩⟩)
       ·have:=Nat.mul_le_mul_right (P.cellsOf e) (show i+1≤len by omega)
        rw[Nat.succ_mul]at this
        rw[List.length_take,List.length_drop]
        omega
       ·have hj:=(List.getElem?_eq_some_iff.1 ej).1
        rw[List.length_take]at hj
        rw[List.getElem?_take,if_pos (by omega),List.getElem?_drop]at ej
        have hjl:=(List.getElem?_eq_some_iff.1 ej).1
        refine⟨?_, .inr ?_⟩
        ·show nx'+(i*P.cellsOf e+j)<nx'+us.length+1
         omega
        ·show T.get (layOT nx' us nx' m') (nx'+(i*P.cellsOf e+j))=_
         rw[hget,if_pos (by omega),Nat.add_sub_cancel_left,ej]
         rfl
end Go.Proofs.YtapojfiplajfaaaGreatDoor.Am
/- The contract of a call whose arguments are of plain types;what slices among them are. -/
namespace Go.Proofs.YtapojfiplajfaaaGreatDoor.Am
open Go.RowKit Go.ChangeShapes Go.WideShapes
def aggT (P:Program)(t:TypeId):Bool:=match P.underlying t with
 |some (.struct _)|some (.array _ _)=>true
 |_=>false
/-- What an argument of a type is,as the evaluator has it. -/
def HoldsA (P:Program)(N:Nat)(s:St)(F:Nat)(t:TypeId)(u:Value):Prop:= ∃us,HoldsT P N s F t us∧((aggT P t=true∧u= .agg us.toArray)∨(aggT P t=false∧us=[u]))
theorem cells_of_ok {P:Program}{w:World}{rc:Reach}{base F:Nat}{t:TypeId}{v:Value}(hf:flatT P F t=true)(h:Value.okWide P w rc base t v):(aggT P t=true∧v= .agg v.cells)∨(aggT P t=false∧v.cells= #[v]):=by
 cases F with
 |zero=>cases hf
 |succ F=>
  unfold flatT at hf
  unfold aggT
  cases hu:P.underlying t with
  |none=>rw[hu]at hf;cases hf
  |some u=>
   rw[hu]at hf
   unfold Value.okWide at h
   rw[hu]at h
   cases u<;>try (cases hf;done)
   case struct fs=>
    obtain⟨cs,rfl,_⟩:=h
    exact .inl ⟨rfl,rfl⟩
   case array n e=>
    obtain⟨cs,rfl,_⟩:=h
    exact .inl ⟨rfl,rfl⟩
   all_goals
    refine .inr ⟨rfl, ?_⟩
    simp only at h
    unfold Cell.okWide Cell.ok at h
    rw[hu]at h
    cases v<;>first|rfl|(simp at h)
theorem lay_args {H:Type}{enc:TypeId×Value→H}{P:Program}{w:World}{b0 base F N:Nat}{sp:Nat→Bool}{held:Bool}: ∀(ts:List TypeId) (vs:List Value) (ds:List (DataW H)) (ps:List MemPlace),DataW.TrodAll enc P w b0 sp held ts vs ds ps→(∀(j:Nat) t v,ts[j]?=some t→vs[j]?=some v→Value.okWide P w .any base t v)→ts.all (flatT P F)=true→(maxLen≤N∨ ∀d∈ds,lensOk N d)→
  ∀m nx r,OldSt w m nx r→ ∃m' nx' r' us,OldSt w m' nx' r'∧Grow m nx r m' nx' r'∧VRs r' us vs∧us.length=ts.length∧ ∀(j:Nat) t u,ts[j]?=some t→us[j]?=some u→HoldsA P N (stO m' nx') F t u
 |[],[],_,_,_,_,_,_=>fun m nx r ho=>⟨m,nx,r,[],ho, .refl _ _ _, .nil,rfl,fun j t u e=>by simp at e⟩
 |[],_::_,ds,_,h,_,_,_=>by cases ds<;>exact h.elim
 |_::_,[],ds,_,h,_,_,_=>by cases ds<;>exact h.elim
 |t::ts,v::vs,[],_,h,_,_,_=>h.elim
 |t::ts,v::vs,d::ds,_,⟨p,q,⟨fuel,h1⟩,h2,_⟩,hv,hf,hN=>fun m nx r ho=>by
  rw[List.all_cons,Bool.and_eq_true]at hf
  obtain⟨m1,nx1,r1,us,o1,g1,v1,k1⟩:=lay_trod (N:=N) F fuel t _ _ hf.1 (hN.imp id fun z=>z d (by simp)) h1 m nx r ho
  obtain⟨m2,nx2,r2,us2,o2,g2,v2,l2,k2⟩:=lay_args ts vs ds q h2 (fun j t v e1 e2=>hv (j+1) t v e1 e2) hf.2 (hN.imp id fun z d' hd=>z d' (by simp[hd])) m1 nx1 r1 o1
  have k1':=HoldsT.mono (fun b o l z=>g2.row z) _ _ _ k1
  rcases cells_of_ok hf.1 (hv 0 t v rfl rfl)with⟨ha,hc⟩|⟨ha,hc⟩
  ·refine⟨m2,nx2,r2, .agg us.toArray::us2,o2,g1.trans g2, .cons ?_ v2,by simp[l2],fun j t' u e1 e2=> ?_⟩
   ·rw[hc]
    have:=(v1.mono g2.le).agg
    simpa using this
   ·cases j with
    |zero=>
     cases e1
     cases e2
     exact⟨us,k1', .inl ⟨ha,rfl⟩⟩
    |succ j=>exact k2 j t' u e1 e2
  ·rw[hc]at v1
   have hl:us.length=1:=v1.1
   obtain⟨u0,rfl⟩: ∃u0,us=[u0]:=by
    match us,hl with
    |[x],_=>exact⟨x,rfl⟩
   obtain⟨v',l',e0,e1,_⟩:=v1.inv
   have hv':v=v':=by
    have:[v]=v'::l':=e0
    cases this
    rfl
   subst hv'
   refine⟨m2,nx2,r2,u0::us2,o2,g1.trans g2, .cons (e1.mono g2.le) v2,by simp[l2],fun j t' u e1 e2=> ?_⟩
   cases j with
   |zero=>
    cases e1
    cases e2
    exact⟨[u0],k1', .inr ⟨ha,rfl⟩⟩
   |succ j=>exact k2 j t' u e1 e2
/-- A call of plain arguments,from any world. -/
theorem calls_args {H:Type}{enc:TypeId×Value→H}{E:Env}(he:EnvOK E){fuel f F N base:Nat}{args:Array Value}{v:Value}{ts:List TypeId}{sp:Nat→Bool}{held:Bool}{ds:List (DataW H)}{ps:List MemPlace}{w:World}(ho:E.orc.get f=none)(hx:E.ext.get f=none)(hp:plain v=true)
  (hA:DataW.TrodAll enc E.P w 0 sp held ts args.toList ds ps) (hv: ∀(j:Nat) t v,ts[j]?=some t→args.toList[j]?=some v→Value.okWide E.P w .any base t v) (hf:ts.all (flatT E.P F)=true) (hN:maxLen≤N∨ ∀d∈ds,lensOk N d)
  (run: ∀m nx us,us.length=ts.length→(∀(j:Nat) t u,ts[j]?=some t→us[j]?=some u→HoldsA E.P N (stO m nx) F t u)→W (callW E (runF E fuel) f us) (stO m nx) fun u _=>u=v):
  Calls E.P f args w fun e w'=>e= .returned v∧Below w.heap.size w w':=by
 have h0:OldSt w .E 0 ⟨fun _=>none,fun _=>none, .no⟩:=⟨fun loc c e=>(by cases e),fun b b' d e=>(by cases e),fun _=>rfl,rfl⟩
 obtain⟨m,nx,r,us,o1,_,v1,l1,k1⟩:=lay_args ts args.toList ds ps hA hv hf hN .E 0 _ h0
 refine calls_sym (r:=r) (s0:=stO m nx) he ho hx (run m nx us l1 k1) hp v1 (Rel.ofOld (by rw[o1.hk];exact Know.no_sure w) (fun b b' d e=>(o1.hd b b' d e).2) fun loc c e=>(o1.ho loc c e).2) (Nat.zero_le _) fun b hb=>⟨?_,o1.hx b⟩
 cases hq:r.blk b with
 |none=>rfl
 |some x=>
  have:=(o1.hd b x.1 x.2 hq).1
  have hb':nx≤b:=hb
  omega
/-! ### What is held -/
theorem all_list {α:Type}{n:Nat}{p:Nat→α→Prop}(h: ∀i,i<n→ ∃x,p i x): ∃l:List α,l.length=n∧ ∀i x,l[i]?=some x→p i x:=by
 induction n with
 |zero=>exact⟨[],rfl,fun i x e=>by simp at e⟩
 |succ n ih=>
  obtain⟨l,h1,h2⟩:=ih fun i hi=>h i (by omega)
  obtain⟨x,hx⟩:=h n (by omega)
  refine⟨l++[x],by simp[h1],fun i y e=> ?_⟩
  rcases Nat.lt_or_ge i n with hi|hi
  ·rw[List.getElem?_append_left (by omega)]at e
   exact h2 i y e
  ·rw[List.getElem?_append_right (by omega),h1]at e
   have:i=n:=by
    have:=(List.getElem?_eq_some_iff.1 e).1
    simp at this
    omega
   subst this
   rw[Nat.sub_self]at e
   cases e
   exact hx
theorem sizeOk_mul {k:Nat}(hk:k<1024):sizeOk (capU*k) k=true:=by
 unfold sizeOk
 have hd:Nat.div (capU*k) capU=k:=Nat.mul_div_cancel_left k (by unfold capU;decide)
 have hm:Nat.mod k 1024=k:=Nat.mod_eq_of_lt hk
 rw[hd,hm,Nat.beq_refl]
 cases Nat.beq k 0<;>rfl
section
variable {P:Program}{s:St}{F N:Nat}{t e:TypeId}{us:List Value}
/-- A slice's elements,each of so many cells. -/
def ElS (s:St)(k:Nat)(v:Value)(es:List (List Value)):Prop:=(v= .slice none 0 0∧es=[])∨ ∃b c,v= .slice (some ⟨b,0,none⟩) es.length c∧es.length≤c%capU∧sizeOk c k=true∧ ∀i x,es[i]?=some x→Row s b (i*k) x
theorem HoldsT.slice (ht:P.underlying t=some (.slice e))(hk:P.cellsOf e<1024)(h:HoldsT P N s (F+1) t us): ∃v es,us=[v]∧ElS s (P.cellsOf e) v es∧es.length≤9223372036854775807∧es.length≤N∧ ∀x∈es,x.length=P.cellsOf e∧HoldsT P N s F e x:=by
 unfold HoldsT at h
 rw[ht]at h
 rcases h with rfl|rfl|⟨b,n,c,rfl,h1,h2,h3,h5,h4⟩
 ·exact⟨_,[],rfl, .inl ⟨rfl,rfl⟩,by simp,by simp,fun x hx=>by cases hx⟩
 ·exact⟨_,[],rfl, .inr ⟨0,_,rfl,Nat.zero_le _,sizeOk_mul hk,fun i x e=>by simp at e⟩,by simp,by simp,fun x hx=>by cases hx⟩
 ·obtain⟨l,l1,l2⟩:=all_list h4
  have h3':c≤9223372036854775807:=h3
  have hcu:c<capU:=by unfold capU;omega
  refine⟨_,l,rfl, .inr ⟨b,c,by rw[l1],by rw[l1,Nat.mod_eq_of_lt hcu];exact h2,sizeOk_exact hcu,fun i x e=>(l2 i x e).2.1⟩,by omega,by omega,fun x hx=> ?_⟩
  obtain⟨i,hi⟩:=List.getElem?_of_mem hx
  exact⟨(l2 i x hi).1,(l2 i x hi).2.2⟩
end
end Go.Proofs.YtapojfiplajfaaaGreatDoor.Am
/- Arguments that read behind the call as before. -/
namespace Go.Proofs.YtapojfiplajfaaaGreatDoor.Am
open Go.RowKit Go.ChangeShapes
/-- A type's zero. -/
noncomputable def zeroT (P:Program)(t:Nat):Value:=((P.info? t).bind (·.zero)).getD .nilFunc
section
variable {H:Type}{enc:TypeId×Value→H}{P:Program}{W W':World}
/-- Arguments read behind the call as they did before it. -/
theorem below_all (hl:laidOutB P=true)(hb:Below W.heap.size W W'){sp:Nat→Bool}: ∀{ts:List TypeId} {vs:List Value} {ds:List (DataW H)} {ps:List MemPlace},(ts.all fun t=>P.readableRec t&&decide (t<P.types.size))=true→DataW.TrodAll enc P W 0 (fun _=>true) true ts vs ds ps→(∀x∈ps,x.block<W.heap.size)→(∀x∈ps,sp x.block=true)→
  DataW.TrodAll enc P W' 0 sp true ts vs ds ps
 |[],_,_,_,_,h,_,_=>by
  obtain⟨rfl,rfl,rfl⟩:=trodAll_nil h
  exact trodAll_mk0
 |t::ts,_,_,_,hr,h,hlt,hsp=>by
  obtain⟨v,vs,d,ds,p,q,rfl,rfl,rfl,h1,h2⟩:=trodAll_cons h
  rw[List.all_cons,Bool.and_eq_true,Bool.and_eq_true]at hr
  refine⟨p,q,WideElems.Trod_stays hl hr.1.1 (of_decide_eq_true hr.1.2) h1 (fun x hx=>hb.same (hlt x (List.mem_append_left _ hx))) (fun x hx=>hsp x (List.mem_append_left _ hx)), ?_,rfl⟩
  exact below_all hl hb hr.2 h2 (fun x hx=>hlt x (List.mem_append_right _ hx)) (fun x hx=>hsp x (List.mem_append_right _ hx))
end
end Go.Proofs.YtapojfiplajfaaaGreatDoor.Am
