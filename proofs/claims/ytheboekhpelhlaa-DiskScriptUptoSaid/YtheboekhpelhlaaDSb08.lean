import Derived.Test.YtheboekhpelhlaaDSb07
import Derived.ChangeKeysEq
import Derived.Laws.Strings
namespace Go.Proofs.Ytheboekhpelhlaa.Am
open Go.RowKit Go.ChangeShapes Go.WideShapes
def aggT (P:Program)(t:TypeId):Bool:=match P.underlying t with
 |some (.struct _)|some (.array _ _)=>true
 |_=>false
def JW (P:Program)(N:Nat)(s:St)(F:Nat)(t:TypeId)(u:Value):Prop:= ∃us,Ax P N s F t us/\((aggT P t=true/\u= .agg us.toArray)\/(aggT P t=false/\us=[u]))
theorem Aqz_ {P:Program}{w:World}{rc:Reach}{base F:Nat}{t:TypeId}{v:Value}(hf:Do P F t=true)(h:Value.okWide P w rc base t v):(aggT P t=true/\v= .agg v.cells)\/(aggT P t=false/\v.cells= #[v]):=by
 cases F with
 |zero=>cases hf
 |succ F=>
  unfold Do at hf
  unfold aggT
  cases hu:P.underlying t with
  |none=>rw[hu]at hf;cases hf
  |some u=>
   rw[hu]at hf
   unfold Value.okWide at h
   rw[hu]at h
   cases u<;>try (cases hf;done)
   case struct fs=>
    obtain⟨cs,rfl,_⟩:=h
    exact .inl ⟨rfl,rfl⟩
   case array n e=>
    obtain⟨cs,rfl,_⟩:=h
    exact .inl ⟨rfl,rfl⟩
   all_goals
    refine .inr ⟨rfl, ?_⟩
    simp only at h
    unfold Cell.okWide Cell.ok at h
    rw[hu]at h
    cases v<;>first|rfl|(simp at h)
theorem IM_ {H:Type}{enc:TypeId×Value->H}{P:Program}{w:World}{b0 base F N:Nat}{sp:Nat->Bool}{held:Bool}: ∀(ts:List TypeId) (vs:List Value) (ds:List (DataW H)) (ps:List MemPlace),DataW.TrodAll enc P w b0 sp held ts vs ds ps->(∀(j:Nat) t v,ts[j]?=some t->vs[j]?=some v->Value.okWide P w .any base t v)->ts.all (Do P F)=true->(maxLen<=N\/ ∀d∈ds,lensOk N d)->
  ∀m nx r,OldSt w m nx r-> ∃m' nx' r' us,OldSt w m' nx' r'/\Grow m nx r m' nx' r'/\VRs r' us vs/\us.length=ts.length/\ ∀(j:Nat) t u,ts[j]?=some t->us[j]?=some u->JW P N (stO m' nx') F t u
 |[],[],_,_,_,_,_,_=>λm nx r ho=>⟨m,nx,r,[],ho, .refl _ _ _, .nil,rfl,λj t u e=>by simp at e⟩
 |[],_::_,ds,_,h,_,_,_=>by cases ds<;>exact h.elim
 |_::_,[],ds,_,h,_,_,_=>by cases ds<;>exact h.elim
 |t::ts,v::vs,[],_,h,_,_,_=>h.elim
 |t::ts,v::vs,d::ds,_,⟨p,q,⟨fuel,h1⟩,h2,_⟩,hv,hf,hN=>λm nx r ho=>by
  rw[List.all_cons,Bool.and_eq_true]at hf
  obtain⟨m1,nx1,r1,us,o1,g1,v1,k1⟩:=KW (N:=N) F fuel t _ _ hf.1 (hN.imp id λz=>z d am) h1 m nx r ho
  obtain⟨m2,nx2,r2,us2,o2,g2,v2,l2,k2⟩:=IM_ ts vs ds q h2 (λj t v e1 e2=>hv (j+1) t v e1 e2) hf.2 (hN.imp id λz d' hd=>z d' (by simp[hd])) m1 nx1 r1 o1
  have k1':=Ax.mono (λb o l z=>g2.row z) _ _ _ k1
  rcases Aqz_ hf.1 (hv 0 t v rfl rfl)with⟨ha,hc⟩|⟨ha,hc⟩
  ·refine⟨m2,nx2,r2, .agg us.toArray::us2,o2,g1.trans g2, .cons ?_ v2,by simp[l2],λj t' u e1 e2=> ?_⟩
   ·rw[hc]
    have:=(v1.mono g2.le).agg
    simpa using this
   ·cases j with
    |zero=>
     cases e1
     cases e2
     exact⟨us,k1', .inl ⟨ha,rfl⟩⟩
    |succ j=>exact k2 j t' u e1 e2
  ·rw[hc]at v1
   have hl:us.length=1:=v1.1
   obtain⟨u0,rfl⟩: ∃u0,us=[u0]:=by
    match us,hl with
    |[x],_=>exact⟨x,rfl⟩
   obtain⟨v',l',e0,e1,_⟩:=v1.inv
   have hv':v=v':=by
    have:[v]=v'::l':=e0
    cases this
    rfl
   subst hv'
   refine⟨m2,nx2,r2,u0::us2,o2,g1.trans g2, .cons (e1.mono g2.le) v2,by simp[l2],λj t' u e1 e2=> ?_⟩
   cases j with
   |zero=>
    cases e1
    cases e2
    exact⟨[u0],k1', .inr ⟨ha,rfl⟩⟩
   |succ j=>exact k2 j t' u e1 e2
theorem Ahv_ {H:Type}{enc:TypeId×Value->H}{E:Env}(he:EnvOK E){fuel f F N base:Nat}{args:Array Value}{v:Value}{ts:List TypeId}{sp:Nat->Bool}{held:Bool}{ds:List (DataW H)}{ps:List MemPlace}{w:World}(ho:E.orc.get f=none)(hx:E.ext.get f=none)(hp:plain v=true)
  (hA:DataW.TrodAll enc E.P w 0 sp held ts args.toList ds ps) (hv: ∀(j:Nat) t v,ts[j]?=some t->args.toList[j]?=some v->Value.okWide E.P w .any base t v) (hf:ts.all (Do E.P F)=true) (hN:maxLen<=N\/ ∀d∈ds,lensOk N d)
  (run: ∀m nx us,us.length=ts.length->(∀(j:Nat) t u,ts[j]?=some t->us[j]?=some u->JW E.P N (stO m nx) F t u)->W (Ac E (runF E fuel) f us) (stO m nx) λu _=>u=v):
  Calls E.P f args w λe w'=>e= .returned v/\Below w.heap.size w w':=by
 have h0:OldSt w .E 0 ⟨λ_=>none,λ_=>none, .no⟩:=⟨λloc c e=>(by cases e),λb b' d e=>(by cases e),λ_=>rfl,rfl⟩
 obtain⟨m,nx,r,us,o1,_,v1,l1,k1⟩:=IM_ ts args.toList ds ps hA hv hf hN .E 0 _ h0
 refine Ym_ (r:=r) (s0:=stO m nx) he ho hx (run m nx us l1 k1) hp v1 (Rel.ofOld (by rw[o1.hk];exact Know.no_sure w) (λb b' d e=>(o1.hd b b' d e).2) λloc c e=>(o1.ho loc c e).2) (Nat.zero_le _) λb hb=>⟨?_,o1.hx b⟩
 cases hq:r.blk b with
 |none=>rfl
 |some x=>
  have:=(o1.hd b x.1 x.2 hq).1
  have hb':nx<=b:=hb
  omega
theorem KZ {α:Type}{n:Nat}{p:Nat->α->Prop}(h: ∀i,i<n-> ∃x,p i x): ∃l:List α,l.length=n/\ ∀i x,l[i]?=some x->p i x:=by
 induction n with
 |zero=>exact⟨[],rfl,λi x e=>by simp at e⟩
 |succ n ih=>
  obtain⟨l,h1,h2⟩:=ih λi hi=>h i J
  obtain⟨x,hx⟩:=h n J
  refine⟨l++[x],by simp[h1],λi y e=> ?_⟩
  rcases Nat.lt_or_ge i n with hi|hi
  ·rw[List.getElem?_append_left J]at e
   exact h2 i y e
  ·rw[List.getElem?_append_right J,h1]at e
   have:i=n:=by
    have:=(List.getElem?_eq_some_iff.1 e).1
    simp at this
    omega
   subst this
   rw[Nat.sub_self]at e
   cases e
   exact hx
theorem AqG_ {k:Nat}(hk:k<1024):Bu (capU*k) k=true:=by
 unfold Bu
 have hd:Nat.div (capU*k) capU=k:=Nat.mul_div_cancel_left k (by unfold capU;decide)
 have hm:Nat.mod k 1024=k:=Nat.mod_eq_of_lt hk
 rw[hd,hm,Nat.beq_refl]
 cases Nat.beq k 0<;>rfl
section
variable {P:Program}{s:St}{F N:Nat}{t e:TypeId}{us:List Value}
def ElS (s:St)(k:Nat)(v:Value)(es:List (List Value)):Prop:=(v= .slice none 0 0/\es=[])\/ ∃b c,v= .slice (some ⟨b,0,none⟩) es.length c/\es.length<=c%capU/\Bu c k=true/\ ∀i x,es[i]?=some x->Row s b (i*k) x
theorem Ax.slice (ht:P.underlying t=some (.slice e))(hk:P.cellsOf e<1024)(h:Ax P N s (F+1) t us): ∃v es,us=[v]/\ElS s (P.cellsOf e) v es/\es.length<=9223372036854775807/\es.length<=N/\ ∀x∈es,x.length=P.cellsOf e/\Ax P N s F e x:=by
 unfold Ax at h
 rw[ht]at h
 rcases h with rfl|rfl|⟨b,n,c,rfl,h1,h2,h3,h5,h4⟩
 ·exact⟨_,[],rfl, .inl ⟨rfl,rfl⟩,am,am,λx hx=>by cases hx⟩
 ·exact⟨_,[],rfl, .inr ⟨0,_,rfl,Nat.zero_le _,AqG_ hk,λi x e=>by simp at e⟩,am,am,λx hx=>by cases hx⟩
 ·obtain⟨l,l1,l2⟩:=KZ h4
  have h3':c<=9223372036854775807:=h3
  have hcu:c<capU:=by unfold capU;omega
  refine⟨_,l,rfl, .inr ⟨b,c,by rw[l1],by rw[l1,Nat.mod_eq_of_lt hcu];exact h2,Eg hcu,λi x e=>(l2 i x e).2.1⟩,J,J,λx hx=> ?_⟩
  obtain⟨i,hi⟩:=List.getElem?_of_mem hx
  exact⟨(l2 i x hi).1,(l2 i x hi).2.2⟩
end
open Go.RowKit
section
variable {E:Env}{s:St}{t:Nat}
noncomputable def buildN (E:Env)(t:Nat)(ps:List (Nat×Value)):Option (List Value):=
 match T.get E.ty t with
 |some i=>(match i.u with
  | .struct fs=>CY (H8 E fs) ps i.zero
  | .array _ e=>(match T.get E.ty e with
   |some ie=>CY (λk=>some (k*ie.size,ie.size)) ps i.zero
   |none=>none)
  |_=>none)
 |none=>none
theorem Ii {ps:List (Nat×Value)}{r:List Value}(h:buildN E t ps=some r)(Q:Value->St->Prop):W (Cz E t ps) s Q=Q (.agg r.toArray) s:=by
 unfold buildN at h
 split at h
 ·rename_i i hi
  split at h
  ·rename_i fs hu
   refine As ?_
   unfold Cz
   rw[AO (show ti E t s= .some i s by unfold ti;rw[hi];rfl)]
   rw[hu]
   simp only[h]
   rfl
  ·rename_i e hu
   split at h
   ·rename_i ie he
    refine As ?_
    unfold Cz
    rw[AO (show ti E t s= .some i s by unfold ti;rw[hi];rfl)]
    rw[hu]
    simp only
    rw[AO (show ti E _ s= .some ie s by unfold ti;rw[he];rfl),h]
    rfl
   ·cases h
  ·cases h
 ·cases h
end
section
variable {E:Env}{s:St}{t:Nat}
theorem AqK_ (m n:Nat)(hn:m*n<=9223372036854775807)(xo yo:Operand):Cl.get (aBin E .mul t xo yo) (.int .i64 (m:Nat)) (.int .i64 (n:Nat)) s= .some (.int .i64 (m*n:Nat)) s:=by
 show int3 mulK (AJ E .mul t xo yo) (.int .i64 (.ofNat m)) (.int .i64 (.ofNat n)) s=_
 show Option.rec (motive:=λ_=>R Value) _ (λv=> .some v s) (mulK .i64 .i64 m n)=_
 have:mulK .i64 .i64 m n=some (.int .i64 (m*n:Nat)):=by
  unfold mulK B0 fitI
  rw[Nat.beq_refl]
  show(Bool.rec (motive:=λ_=>Option Value) _ (mkI .i64 (m*n)) (Nat.ble (m*n) (mxOf .i64)):Option Value)=_
  rw[Nat.ble_eq_true_of_le (show m*n<=mxOf .i64 from hn)]
  show mkI .i64 (m*n)=_
  unfold mkI
  rw[Ar]
  rfl
 rw[this]
theorem AbW_ {m n:Nat}{xo yo:Operand}(hn:m*n<=9223372036854775807)(Q:Value->St->Prop):W (Cl.get (aBin E .mul t xo yo) (.int .i64 (m:Nat)) (.int .i64 (n:Nat))) s Q=Q (.int .i64 (m*n:Nat)) s:=As (AqK_ m n hn xo yo)
theorem AgF_ {n:Nat}{xo yo:Operand}(hn:8*n<=9223372036854775807)(Q:Value->St->Prop):W (Cl.get (aBin E .mul t xo yo) (.int .i64 8) (.int .i64 (n:Nat))) s Q=Q (.int .i64 (8*n:Nat)) s:=AbW_ (m:=8) hn Q
end
section
variable {E:Env}{s:St}{t:Nat}
end
section
variable {E:Env}{s:St}{t:Nat}
theorem AfI_ {m:Nat}(h:m<=9223372036854775807):fitI .i64 m=some (.int .i64 (m:Nat)):=by
 unfold fitI
 rw[Nat.ble_eq_true_of_le (show m<=mxOf .i64 from h)]
 show mkI .i64 m=_
 unfold mkI
 rw[Ar]
 rfl
end
section
variable {α β:Type}{s:St}{E:Env}{t t2:Nat}
theorem Ext.delC {F G:Nat->Prop}(s:St)(l:Nat)(hG:G l):Ext F G s ⟨aY s.mem l,s.next,s.lim,s.rd,notes l s.lim s.wr,s.cx⟩:=by
 obtain⟨d,e,q⟩:=Hc l s.lim s.wr
 refine⟨Nat.le_refl _,rfl,rfl,λx _ hx=> ?_,⟨[],rfl,λ_ h=>by cases h⟩,⟨d,e,λx hx=>⟨(q x hx).1,by rw[(q x hx).2];exact hG⟩⟩⟩
 show T.get (aY s.mem l) x=_
 rw[aW,if_neg]
 intro h
 exact hx (by rw[h];exact hG)
theorem LM: ∀(n l:Nat) (s:St),s.lim<=s.next->l+n<=s.next-> ∃s',Cg n l s= .some () s'/\s'.next=s.next/\Ext Non (λx=>l<=x/\x<l+n) s s'
 |0,_,s,_,_=>⟨s,rfl,rfl,Ext.refl s⟩
 |n+1,l,s,hb,h=>by
  have x1:Ext Non (λx=>l<=x/\x<l+(n+1)) s ⟨aY s.mem l,s.next,s.lim,s.rd,notes l s.lim s.wr,s.cx⟩:=Ext.delC s l ⟨Nat.le_refl _,J⟩
  obtain⟨s2,e2,n2,x2⟩:=LM n (l+1) ⟨aY s.mem l,s.next,s.lim,s.rd,notes l s.lim s.wr,s.cx⟩ hb (by show l+1+n<=s.next;omega)
  refine⟨s2, ?_,n2,x1.trans x2 hb (λ_ _ h=>h) λx _ h=>⟨by have:=h.1;omega,by have:=h.2;omega⟩⟩
  show M.bind (Am.delC l) (λ_=>Cg n (l+1)) s=_
  have e1:Am.delC l s= .some () ⟨aY s.mem l,s.next,s.lim,s.rd,notes l s.lim s.wr,s.cx⟩:=by
   obtain⟨mem,next,lim,rd,wr,cx⟩:=s
   show Bool.rec (motive:=λ_=>R Unit) .none (R.some () (St.mk (aY mem l) next lim rd (notes l lim wr) cx)) (Nat.blt l next)=_
   rw[Bz (show l<next from Nat.lt_of_lt_of_le J h)]
  rw[AO e1]
  exact e2
structure Marked (s:St)(sz n:Nat)(l:List Value)(v:Value)(b:Nat):Prop where
 val:v= .slice (some ⟨b,0,none⟩) n (capU*((b+n*sz)*1024+sz)+n)
 own:Ai s b 0 l
 len:l.length=n*sz
 tok: ∃q,q%1024=sz/\T.get s.mem (b+n*sz)=some (.O (.tok false q))
 lt:b+n*sz<s.next
theorem Fresh1.marked {s s':St}{sz n:Nat}{l:List Value}{v:Value}{b:Nat}(h:Fresh1 s s' sz n l v b):Marked s' sz n l v b:=⟨h.val,h.own,h.len,h.tok,h.lt⟩
theorem Marked.ext {F G:Nat->Prop}{s s':St}{sz n:Nat}{l:List Value}{v:Value}{b:Nat}(h:Marked s sz n l v b)(e:Ext F G s s')(hG: ∀x,In b 0 (n*sz+1) x-> ¬G x):Marked s' sz n l v b:=
 ⟨h.val,h.own.ext e λi hi=>hG _ ⟨J,by rw[h.len]at hi;omega⟩,h.len,let ⟨q,h1,h2⟩:=h.tok;⟨q,h1,by rw[e.mem _ h.lt (hG _ ⟨J,J⟩)];exact h2⟩,Nat.lt_of_lt_of_le h.lt e.nxt⟩
theorem Marked.same {s s':St}{sz n:Nat}{l:List Value}{v:Value}{b:Nat}(h:Marked s sz n l v b)(hm:s'.mem=s.mem)(hn:s'.next=s.next):Marked s' sz n l v b:=
 ⟨h.val,λi v e=>(h.own i v e).same hm hn,h.len,by rw[hm];exact h.tok,by rw[hn];exact h.lt⟩
theorem W.appMark (hbd:s.lim<=s.next){sz by' n len b:Nat}{z l old:List Value}{v x:Value}{F:Nat->Prop}{Q:Value->St->Prop}{g:Bool}(ht:appT E t t2=some (sz,by',g,z))(hm:Marked s sz len old v b)(hx:SrcG s sz by' g z x n l F)(hn:0<n)(hlen:0<len)(hs0:0<sz)(hs1:sz<1024)
  (hb:(len+n)*(by'+1)<=16777216) (hl:l.length=n*sz) (h1:l.all oneCell=true)
  (q: ∀s2 v2 b2,Fresh1 s s2 sz (len+n) (old++l) v2 b2->Ext (λx=>F x\/In b 0 (len*sz+1) x) (In b 0 (len*sz+1)) s s2->Q v2 s2):W (BV E t t2 v x) s Q:=by
 obtain⟨i,i2,e,ie,g1,g2,g3,g4,g5,g6,g7,g8⟩:=IW ht
 obtain⟨hN,s1,e1,m1,n1,x1⟩:=hx ie g5 g6 g8
 subst g5;subst g6
 rw[hm.val]
 have hle:len<capU:=by
  have:len<=16777216:=by
   have h2:len*1<=(len+n)*(ie.bytes+1):=Nat.mul_le_mul J J
   omega
  unfold capU
  omega
 have hmod:(capU*((b+len*ie.size)*1024+ie.size)+len)%capU=len:=by
  rw[Nat.mul_add_mod,Nat.mod_eq_of_lt hle]
 have hdiv:(capU*((b+len*ie.size)*1024+ie.size)+len)/capU=(b+len*ie.size)*1024+ie.size:=by
  rw[Nat.mul_add_div al,Nat.div_eq_of_lt hle,Nat.add_zero]
 generalize hc:capU*((b+len*ie.size)*1024+ie.size)+len=c at *
 refine W.bind (W.ti g1 (W.bind (W.ti g2 ?_)))
 rw[g3,g7]
 refine W.bind (W.ti g4 (W.bind (a7 (hN s) (W.bind ?_))))
 refine a7 e1 ?_
 show W (aT (Nat.ble (Nat.add len n) (c%capU)) _ _) s1 Q
 have hz:Nat.ble (Nat.add len n) (c%capU)=false:=by
  cases hq:Nat.ble (Nat.add len n) (c%capU)with
  |false=>rfl
  |true=>
   have h2:=Nat.le_of_ble_eq_true hq
   rw[hmod]at h2
   have h3:Nat.add len n=len+n:=rfl
   omega
 rw[hz]
 show W (grow ie.size ie.bytes (Di ie.zero) (some ⟨b,0,none⟩) len c n l) s1 Q
 unfold grow
 have hm1:Marked s1 ie.size len old v b:=hm.same m1 n1
 have hb1:s1.lim<=s1.next:=x1.bnd hbd
 refine W.chk ?_ (W.bind ?_)
 ·rw[h1,hl,hmod]
  simp only[Bool.and_true,Bool.and_eq_true,Bool.or_eq_true]
  refine⟨⟨⟨⟨Nat.ble_eq_true_of_le hb,Bz hs0⟩,Bz hs1⟩, .inl (Bz hlen)⟩,Nat.beq_refl _⟩
 ·show W (oldL ie.size (some ⟨b,0,none⟩) (Bool.rec (motive:=λ_=>Nat) (c%capU) len (Nat.beq (c/capU) 0))) s1 _
  rw[hmod,hdiv]
  have hb0:Nat.beq ((b+len*ie.size)*1024+ie.size) 0=false:=by
   cases hq:Nat.beq ((b+len*ie.size)*1024+ie.size) 0 with
   |false=>rfl
   |true=>have:=Nat.eq_of_beq_eq_true hq;omega
  rw[hb0]
  show W (Am.rdL (len*ie.size) ⟨b,0,none⟩) s1 _
  rw[<-hm1.len]
  refine W.rdL hm1.own.row λs2 m2 n2 x2=>W.bind ?_
  have hm2:Marked s2 ie.size len old v b:=hm1.same m2 n2
  have hb2:s2.lim<=s2.next:=x2.bnd hb1
  show W (Dc ie.size (some ⟨b,0,none⟩) (c%capU) (c/capU)) s2 _
  rw[hmod,hdiv]
  unfold Dc
  show W (aT (Nat.beq ((b+len*ie.size)*1024+ie.size) 0) _ _) s2 _
  rw[hb0]
  have hd1:((b+len*ie.size)*1024+ie.size)/1024=b+len*ie.size:=J
  have hd2:((b+len*ie.size)*1024+ie.size)%1024=ie.size:=J
  show W (M.bind (Am.rdC (((b+len*ie.size)*1024+ie.size)/1024)) _) s2 _
  rw[hd1]
  obtain⟨qo,hqo,htok⟩:=hm2.tok
  refine W.bind (W.rdC htok hm2.lt ?_)
  show W (M.chk (Nat.beq (qo%1024) ie.size&&Nat.beq (((b+len*ie.size)*1024+ie.size)%1024) ie.size) (M.bind (Am.wrC (((b+len*ie.size)*1024+ie.size)/1024) (.O (.tok true ie.size))) λ_=>M.bind (FM ie.size (some ⟨b,0,none⟩) len) λ_=>Am.fN (qo/1024) λf=>M.pure f)) _ _
  rw[hd2,hd1,hqo]
  refine W.chk (by rw[Nat.beq_refl];rfl) (W.bind (W.wrC hm2.lt ?_))
  refine W.bind ?_
  show W (Cg (len*ie.size) (b+0)) _ _
  generalize hs3:((s2.rdN (b+len*ie.size)).wrN (b+len*ie.size) (.O (.tok true ie.size)))=s3
  have x3:Ext (In b 0 (len*ie.size+1)) (In b 0 (len*ie.size+1)) s2 s3:=by
   rw[<-hs3]
   have a1:Ext (In b 0 (len*ie.size+1)) (In b 0 (len*ie.size+1)) s2 (s2.rdN (b+len*ie.size)):=Ext.rdN s2 _ λ_=>⟨J,J⟩
   exact a1.trans (Ext.wrN (F:=In b 0 (len*ie.size+1)) (s2.rdN (b+len*ie.size)) _ _ ⟨J,J⟩) hb2 (λ_ _ h=>h) λ_ _ h=>h
  have n3:s3.next=s2.next:=by rw[<-hs3];rfl
  have hb3:s3.lim<=s3.next:=x3.bnd hb2
  obtain⟨s4,e4,n4,x4⟩:=LM (len*ie.size) (b+0) s3 hb3 (by have:=hm2.lt;omega)
  refine a7 e4 (W.fN (W.pure (W.bind (W.newL λs5 n5 x5 r5=>W.fN (W.fN (W.bind (W.wrC ?_ ?_)))))))
  ·rw[n5]
   simp only[Nat.add_eq,Nat.mul_eq,List.length_append,List.length_take,hm.len,hl,Nat.min_self]
   rw[Nat.add_mul]
   omega
  ·show W (Am.fA (⟨s4.next,0,none⟩:Addr) λa=>Am.fN (Nat.add len n) λl=>Am.fN _ λc=>M.pure (.slice (some a) l c)) _ Q
   have htake:old.take (Nat.mul len ie.size)=old:=List.take_of_length_le (by rw[hm.len];exact Nat.le_refl _)
   rw[htake]at n5 r5
   have hadd:Nat.add len n=len+n:=rfl
   have hmul:Nat.mul (len+n) ie.size=(len+n)*ie.size:=rfl
   have hal:(old++l).length=(len+n)*ie.size:=by rw[List.length_append,hm.len,hl,Nat.add_mul]
   have nn:s.next<=s4.next:=by rw[n4,n3,n2,n1];exact Nat.le_refl _
   have xall:Ext (λx=>F x\/In b 0 (len*ie.size+1) x) (In b 0 (len*ie.size+1)) s s5:=by
    have y1:Ext (λx=>F x\/In b 0 (len*ie.size+1) x) (In b 0 (len*ie.size+1)) s s1:=x1.weak hbd (λ_ _ h=> .inl h) λ_ _ h=>h.elim
    have y2:=y1.trans x2 hbd (λx _ h=> .inr ⟨h.1,by have:=h.2;rw[hm.len]at this;omega⟩) λ_ _ h=>h.elim
    have y3:=y2.trans x3 hbd (λx _ h=> .inr h) λ_ _ h=>h
    have y4:=y3.trans x4 hbd (λ_ _ h=>h.elim) λx _ h=>⟨by have:=h.1;omega,by have:=h.2;omega⟩
    exact y4.trans x5 hbd (λ_ _ h=>h.elim) λ_ _ h=>h.elim
   have hb5:s5.lim<=s5.next:=xall.bnd hbd
   refine W.fA (W.fN (W.fN (W.pure (q _ _ s4.next ⟨?_,nn, ?_,hal, ?_, ?_⟩ ?_))))
   ·rfl
   ·intro k v hk
    have hk':=(List.getElem?_eq_some_iff.1 hk).1
    have:=r5 k v hk
    refine⟨this.1, ?_⟩
    show T.get (T.set s5.mem _ _) _=_
    rw[T.get_set,if_neg]
    ·exact this.2
    ·rw[hadd,hmul]
     show s4.next+(0+k)≠s4.next+(len+n)*ie.size
     omega
   ·refine⟨flg ie.size (qo/1024) (Di ie.zero),Io hs1, ?_⟩
    show T.get (T.set s5.mem (Nat.add s4.next (Nat.mul (Nat.add len n) ie.size)) _) _=_
    rw[hadd,hmul,T.get_set]
    exact if_pos rfl
   ·show s4.next+(len+n)*ie.size<s5.next
    rw[n5,hal]
    omega
   ·refine xall.trans (Ext.wrN (F:=Non) (G:=λx=>s4.next<=x) s5 _ _ ?_) hbd (λ_ _ h=>h.elim) λx hx h=> ?_
    ·show s4.next<=s4.next+Nat.mul (Nat.add len n) ie.size
     omega
    ·omega
end
section
variable {s s':St}{E:Env}{t t2:Nat}
def MkS (s:St)(sz n:Nat)(l:List Value)(v:Value)(b:Nat):Prop:=(v= .slice none 0 0/\n=0/\l=[])\/(Marked s sz n l v b/\0<n)
def MkF (sz n b:Nat)(x:Nat):Prop:=0<n/\In b 0 (n*sz+1) x
theorem MkS.ext {F G:Nat->Prop}{sz n:Nat}{l:List Value}{v:Value}{b:Nat}(h:MkS s sz n l v b)(e:Ext F G s s')(hG: ∀x,MkF sz n b x-> ¬G x):MkS s' sz n l v b:=by
 rcases h with h|⟨h,h0⟩
 ·exact .inl h
 ·exact .inr ⟨h.ext e λx hx=>hG x ⟨h0,hx⟩,h0⟩
theorem MkS.ext0 {F:Nat->Prop}{sz n:Nat}{l:List Value}{v:Value}{b:Nat}(h:MkS s sz n l v b)(e:Ext F Non s s'):MkS s' sz n l v b:=h.ext e λ_ _=>id
theorem MkS.same {sz n:Nat}{l:List Value}{v:Value}{b:Nat}(h:MkS s sz n l v b)(hm:s'.mem=s.mem)(hn:s'.next=s.next):MkS s' sz n l v b:=by
 rcases h with h|⟨h,h0⟩
 ·exact .inl h
 ·exact .inr ⟨h.same hm hn,h0⟩
theorem MkS.lt {sz n:Nat}{l:List Value}{v:Value}{b:Nat}(h:MkS s sz n l v b): ∀x,MkF sz n b x->x<s.next:=by
 intro x hx
 rcases h with⟨_,h0,_⟩|⟨h,_⟩
 ·have:=hx.1;omega
 ·have h1:=h.lt
  have h2:x<b+0+(n*sz+1):=hx.2.2
  omega
theorem MkS.sl {sz n:Nat}{l:List Value}{v:Value}{b:Nat}(h:MkS s sz n l v b): ∃p c,v= .slice p n c:=by
 rcases h with⟨rfl,rfl,_⟩|⟨h,_⟩
 ·exact⟨_,_,rfl⟩
 ·exact⟨_,_,h.val⟩
theorem MkS.len {sz n:Nat}{l:List Value}{v:Value}{b:Nat}(h:MkS s sz n l v b){z:Nat}(ht:slN E t=some z)(Q:Value->St->Prop):W (AH E .len [t] [v]) s' Q=Q (.int .i64 (n:Nat)) s':=by
 obtain⟨p,c,rfl⟩:=h.sl
 exact Bt ht Q
theorem W.appU (hbd:s.lim<=s.next){sz by' n len b:Nat}{z l old:List Value}{v x:Value}{F:Nat->Prop}{Q:Value->St->Prop}{g:Bool}(ht:appT E t t2=some (sz,by',g,z))(hm:MkS s sz len old v b)(hx:SrcG s sz by' g z x n l F)(hn:0<n)(hs0:0<sz)(hs1:sz<1024)
  (hb:(len+n)*(by'+1)<=16777216) (hl:l.length=n*sz) (h1:l.all oneCell=true)
  (q: ∀s2 v2 b2,s.next<=b2->MkS s2 sz (len+n) (old++l) v2 b2->Ext (λx=>F x\/MkF sz len b x) (MkF sz len b) s s2->Q v2 s2):W (BV E t t2 v x) s Q:=by
 rcases hm with⟨rfl,rfl,rfl⟩|⟨hm,h0⟩
 ·rw[Nat.zero_add]at hb
  refine W.appNil hbd ht hx hn hs0 hs1 hb hl h1 λs2 v2 b2 hf xf=> ?_
  refine q s2 v2 b2 hf.new (.inr ⟨?_,J⟩) (xf.weak hbd (λ_ _ h=> .inl h) λ_ _ h=>h.elim)
  rw[Nat.zero_add]
  exact hf.marked
 ·refine W.appMark hbd ht hm hx hn h0 hs0 hs1 hb hl h1 λs2 v2 b2 hf xf=> ?_
  exact q s2 v2 b2 hf.new (.inr ⟨hf.marked,J⟩) (xf.weak hbd (λ_ _ h=>h.elim .inl λh=> .inr ⟨h0,h⟩) λ_ _ h=>⟨h0,h⟩)
end
section
variable {s s':St}{E:Env}{t t2:Nat}{xo yo:Operand}
def EmS (s:St)(sz n:Nat)(l:List Value)(v:Value)(b:Nat):Prop:=(v= .slice (some ⟨b,0,none⟩) 0 0/\n=0/\l=[])\/(Marked s sz n l v b/\0<n)
theorem EmS.same {sz n:Nat}{l:List Value}{v:Value}{b:Nat}(h:EmS s sz n l v b)(hm:s'.mem=s.mem)(hn:s'.next=s.next):EmS s' sz n l v b:=by
 rcases h with h|⟨h,h0⟩
 ·exact .inl h
 ·exact .inr ⟨h.same hm hn,h0⟩
theorem EmS.row {sz n:Nat}{l:List Value}{v:Value}{b:Nat}(h:EmS s sz n l v b): ∃c,v= .slice (some ⟨b,0,none⟩) n c/\Row s b 0 l:=by
 rcases h with⟨rfl,rfl,rfl⟩|⟨h,_⟩
 ·exact⟨_,rfl,λi u e=>by simp at e⟩
 ·exact⟨_,h.val,h.own.row⟩
theorem W.appE (hbd:s.lim<=s.next){sz by' n len b:Nat}{z l old:List Value}{v x:Value}{F:Nat->Prop}{Q:Value->St->Prop}{g:Bool}(ht:appT E t t2=some (sz,by',g,z))(hm:EmS s sz len old v b)(hx:SrcG s sz by' g z x n l F)(hs0:0<sz)(hs1:sz<1024)
  (hb:(len+n)*(by'+1)<=16777216) (hl:l.length=n*sz) (h1:l.all oneCell=true)
  (q: ∀s2 v2 b2,(b2=b\/s.next<=b2)->EmS s2 sz (len+n) (old++l) v2 b2->Ext (λx=>F x\/MkF sz len b x) (MkF sz len b) s s2->Q v2 s2):W (BV E t t2 v x) s Q:=by
 by_cases hn:n=0
 ·subst hn
  have hl0:l=[]:=List.eq_nil_of_length_eq_zero (by rw[hl,Nat.zero_mul])
  subst hl0
  have hno: ∀(o:Nat) x,In b o (0*sz) x->False:=λo x h=>by
   have h1:=h.1
   have h2:=h.2
   rw[Nat.zero_mul]at h2
   omega
  have hle: ∀c,v= .slice (some ⟨b,0,none⟩) len c->len<=c%capU:=λc hc=>by
   rcases hm with⟨e,rfl,_⟩|⟨hm,_⟩
   ·exact Nat.zero_le _
   ·have e:=hm.val
    rw[e]at hc
    have h2:len<capU:=by
     have:len*1<=(len+0)*(by'+1):=Nat.mul_le_mul J J
     unfold capU
     omega
    injection hc with _ _ hc
    rw[<-hc,Nat.mul_add_mod,Nat.mod_eq_of_lt h2]
    exact Nat.le_refl _
  obtain⟨c,rfl,_⟩:=hm.row
  refine W.appIn ht hx (by have:=hle c rfl;omega) hl h1 (λi hi=>by rw[Nat.zero_mul]at hi;omega) λs2 n2 x2 _=> ?_
  have x3:Ext (λx=>F x\/MkF sz len b x) (MkF sz len b) s s2:=x2.weak hbd (λy _ h=>h.elim .inl λh=>(hno _ y h).elim) λy _ h=>(hno _ y h).elim
  refine q s2 _ b (.inl rfl) ?_ x3
  rw[List.append_nil,Nat.add_zero]
  have x4:Ext (λx=>F x\/MkF sz len b x) Non s s2:=x2.weak hbd (λy _ h=>h.elim .inl λh=>(hno _ y h).elim) λy _ h=>hno _ y h
  rcases hm with hm|⟨hm,h0⟩
  ·exact .inl hm
  ·exact .inr ⟨hm.ext x4 λ_ _=>id,h0⟩
 ·have hn0:0<n:=J
  rcases hm with⟨rfl,rfl,rfl⟩|⟨hm,h0⟩
  ·rw[Nat.zero_add]at hb
   refine W.appEmp hbd ht hx hn0 hs0 hs1 hb hl h1 λs2 v2 b2 hf xf=> ?_
   refine q s2 v2 b2 (.inr hf.new) (.inr ⟨?_,J⟩) (xf.weak hbd (λ_ _ h=> .inl h) λ_ _ h=>h.elim)
   rw[Nat.zero_add]
   exact hf.marked
  ·refine W.appMark hbd ht hm hx hn0 h0 hs0 hs1 hb hl h1 λs2 v2 b2 hf xf=> ?_
   exact q s2 v2 b2 (.inr hf.new) (.inr ⟨hf.marked,J⟩) (xf.weak hbd (λ_ _ h=>h.elim .inl λh=> .inr ⟨h0,h⟩) λ_ _ h=>⟨h0,h⟩)
end
section
variable {P:Program}{E:Env}{s:St}{t:Nat}
theorem PE {op:BinOp}{xo yo:Operand}{a b:ByteArray}{v:Value}(hc: ∀s,Cl.get (aBin E op t xo yo) (.string a) (.string b) s=AJ E op t xo yo (.string a) (.string b) s)(hg:semP E.P (eqGuard op t xo yo (.string a) (.string b))=some ())(hb:semP E.P (binOp op t (.string a) (.string b))=some v)(hv: ∀s:St,pV v s= .some v s):
  Cl.get (aBin E op t xo yo) (.string a) (.string b) s= .some v s:=by
 rw[hc]
 unfold AJ
 show M.on (semP E.P (do eqGuard op t xo yo (.string a) (.string b);binOp op t (.string a) (.string b))) pV s=_
 rw[Dj,hg]
 show M.on (semP E.P (binOp op t (.string a) (.string b))) pV s=_
 rw[hb]
 exact hv s
theorem IV {xo yo:Operand}(a b:ByteArray)(Q:Value->St->Prop):W (Cl.get (aBin E .eql t xo yo) (.string a) (.string b)) s Q=Q (.bool (a.data.toList==b.data.toList)) s:=
 As (PE (λ_=>rfl) rfl (by rw[<-ByteArray.toList_eq,<-ByteArray.toList_eq];rfl) λ_=>rfl)
theorem Ke {xo yo:Operand}(a b:ByteArray)(Q:Value->St->Prop):W (Cl.get (aBin E .neq t xo yo) (.string a) (.string b)) s Q=Q (.bool (!(a.data.toList==b.data.toList))) s:=
 As (PE (λ_=>rfl) rfl (by rw[<-ByteArray.toList_eq,<-ByteArray.toList_eq];rfl) λ_=>rfl)
theorem Jy (h:D3 E t=true): ∃i,T.get E.ty t=some i/\i.u= .string:=by
 unfold D3 at h
 split at h
 ·rename_i i hi
  split at h
  ·rename_i hs
   exact⟨i,hi,hs⟩
  ·cases h
 ·cases h
theorem CA (h:D3 E t=true)(a:ByteArray)(Q:Value->St->Prop):W (AH E .len [t] [.string a]) s Q=Q (.int .i64 (a.size:Nat)) s:=by
 obtain⟨i,h1,h2⟩:=Jy h
 refine As ?_
 show aLen E t (.string a) s=_
 unfold aLen
 rw[AO (show ti E t s= .some i s by unfold ti;rw[h1];rfl),h2]
 show pN a.size s=_
 unfold pN
 rw[Ar]
 rfl
theorem Cv {kd:IntKind}{k:Nat}{a:ByteArray}{b:UInt8}(h:D3 E t=true)(hb:a.data.toList[k]?=some b)(Q:Value->St->Prop):W (kIdx E t (.string a) (.int kd (k:Nat))) s Q=Q (.int .u8 (b.toNat:Nat)) s:=by
 obtain⟨i,h1,h2⟩:=Jy h
 refine As ?_
 unfold kIdx
 rw[AO (show ti E t s= .some i s by unfold ti;rw[h1];rfl),AO (show asN (.int kd (k:Nat)) s= .some k s from rfl)]
 unfold idxV
 rw[h2]
 show M.on (a.data.toList[k]?) _ s=_
 rw[hb]
 rfl
theorem Z5 {a:ByteArray}{lo hi:Option Value}{l h:Nat}(ht:D3 E t=true)(hlo:bndV lo 0=some l)(hhi:bndV hi a.size=some h)(hl:l<=h)(hc:h<=a.size)(Q:Value->St->Prop):W (AZ E t (.string a) lo hi) s Q=Q (.string (a.extract l h)) s:=by
 obtain⟨i,h1,h2⟩:=Jy ht
 refine As ?_
 unfold AZ
 rw[AO (show ti E t s= .some i s by unfold ti;rw[h1];rfl),h2]
 show EM a lo hi s=_
 unfold EM
 rw[AO (Ht hhi hc),AO (Ht hlo hl)]
 rfl
end
theorem FP (l:List Value):cellsOf (.agg l.toArray)=l:=rfl
abbrev Any:Nat->Prop:=λ_=>True
theorem Ext.any {F G:Nat->Prop}{s s1:St}(h:Ext F G s s1)(hb:s.lim<=s.next):Ext Any G s s1:=h.weak hb (λ_ _ _=>trivial) λ_ _ h=>h
theorem Ext.then0 {F:Nat->Prop}{s s1 s2:St}(h:Ext Any Non s s1)(k:Ext F Non s1 s2)(hb:s.lim<=s.next):Ext Any Non s s2:=h.trans k hb (λ_ _ _=>trivial) λ_ _ h=>h
theorem Ext.thenRd {s s1:St}(h:Ext Any Non s s1)(hb:s.lim<=s.next)(l:Nat):Ext Any Non s (s1.rdN l):=h.then0 (Ext.rdN (F:=Any) s1 l λ_=>trivial) hb
theorem Ext.thenW {F:Nat->Prop}{s s1 s2:St}{b o n:Nat}(h:Ext Any Non s s1)(k:Ext F (In b o n) s1 s2)(hb:s.lim<=s.next)(hn:s.next<=b):Ext Any Non s s2:=h.trans k hb (λ_ _ _=>trivial) λy hy hq=>by
 have h1:=hq.1
 have h2:y<s.next:=hy
 omega
theorem Ext.cx' {F G:Nat->Prop}{s s1:St}{c:Ctx}(x:Ext F G (s.cxN c) s1):Ext F G s (s1.cxN s.cx):=⟨x.nxt,x.lim,rfl,x.mem,x.rd,x.wr⟩
section
variable {E:Env}{t:Nat}{s:St}{xo yo:Operand}
end
def PG (P:Program)(t:TypeId)(l:List (TypeId×Nat)):Bool:=match P.underlying t with
 |some (.struct fs)=>decide (fs.toList.map (λx=>(x.type,x.offset))=l)
 |_=>false
theorem Ax.struct {P:Program}{N F:Nat}{s:St}{t:TypeId}{us:List Value}{l:List (TypeId×Nat)}(hb:PG P t l=true)(h:Ax P N s (F+1) t us):us.length=P.cellsOf t/\ ∀x∈l,Ax P N s F x.1 ((us.drop x.2).take (P.cellsOf x.1)):=by
 unfold PG at hb
 unfold Ax at h
 cases hu:P.underlying t with
 |none=>rw[hu]at hb;cases hb
 |some u=>
  rw[hu]at hb h
  cases u<;>try (cases hb;done)
  have e:=of_decide_eq_true hb
  refine⟨h.1,λx hx=> ?_⟩
  rw[<-e]at hx
  obtain⟨y,hy,rfl⟩:=List.mem_map.1 hx
  exact h.2 y hy
theorem Ax.int' {P:Program}{N F:Nat}{s:St}{t:TypeId}{k:IntKind}{us:List Value}(hu:P.underlying t=some (.int k))(h:Ax P N s (F+1) t us): ∃n,us=[.int k n]/\(Lit.int k n).wf=true:=by
 unfold Ax at h
 rw[hu]at h
 exact h
theorem JW.one {P:Program}{N F:Nat}{s:St}{t:TypeId}{u:Value}(hb:aggT P t=false)(h:JW P N s F t u):Ax P N s F t [u]:=by
 obtain⟨us,h1,⟨h2,_⟩|⟨_,rfl⟩⟩:=h
 ·rw[hb]at h2;cases h2
 ·exact h1
section
variable {E:Env}{s:St}{t:Nat}
def Obj (s:St)(l:Nat)(o:AObj):Prop:=l<s.next/\T.get s.mem l=some (.O o)
theorem Obj.ext {F G:Nat->Prop}{s s':St}{l:Nat}{o:AObj}(h:Obj s l o)(e:Ext F G s s')(hG: ¬G l):Obj s' l o:=⟨Nat.lt_of_lt_of_le h.1 e.nxt,by rw[e.mem _ h.1 hG];exact h.2⟩
theorem Obj.same {s s':St}{l:Nat}{o:AObj}(h:Obj s l o)(hm:s'.mem=s.mem)(hn:s'.next=s.next):Obj s' l o:=by
 unfold Obj at *
 rw[hm,hn]
 exact h
theorem W.newO {o:AObj}{Q:Nat->St->Prop}(q: ∀s1,s1.next=s.next+1->Ext Non Non s s1->Obj s1 s.next o->Q s.next s1):W (newO o) s Q:=by
 obtain⟨mem,next,lim,rd,wr,cx⟩:=s
 refine⟨next,⟨T.set mem next (.O o),next+1,lim,rd,wr,cx⟩, ?_,q _ rfl ⟨by simp only;omega,rfl,rfl,λl hl _=> ?_,⟨[],rfl,λ_ h=>by cases h⟩,⟨[],rfl,λ_ h=>by cases h⟩⟩ ⟨by simp only;omega, ?_⟩⟩
 ·show Am.fN next (λb=>Am.fN (Nat.succ b) λn=>R.some b (St.mk (T.set mem b (.O o)) n lim rd wr cx))=_
  rw[Ar,Ar]
 ·simp only at hl ⊢
  rw[T.get_set,if_neg J]
 ·simp only
  rw[T.get_set,if_pos rfl]
