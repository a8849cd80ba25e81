/- Runs of the evaluator said of all states:rules. -/
import Derived.Test.YtapojfiplajfaaaGreatDoorWnn09
namespace Go.Proofs.YtapojfiplajfaaaGreatDoor.Am
section
variable {α β:Type}{s:St}
/-- It ends,without a panic,and so. -/
def W (m:M α)(s:St)(Q:α→St→Prop):Prop:= ∃a s',m s= .some a s'∧Q a s'
theorem W.mono {m:M α}{Q R:α→St→Prop}(h:W m s Q)(k: ∀a s',Q a s'→R a s'):W m s R:=let ⟨a,s',e,q⟩:=h;⟨a,s',e,k a s' q⟩
theorem W.of {m:M α}{Q:α→St→Prop}{a:α}{s':St}(e:m s= .some a s')(q:Q a s'):W m s Q:=⟨a,s',e,q⟩
theorem W.pure {a:α}{Q:α→St→Prop}(q:Q a s):W (M.pure a) s Q:=⟨a,s,rfl,q⟩
theorem bind_run {m:M α}{f:α→M β}{a:α}{s1:St}(e:m s= .some a s1):M.bind m f s=f a s1:=by
 unfold M.bind
 rw[e]
theorem W.bind {m:M α}{f:α→M β}{Q:β→St→Prop}(h:W m s fun a s1=>W (f a) s1 Q):W (M.bind m f) s Q:=by
 obtain⟨a,s1,e,b,s2,e2,q⟩:=h
 refine⟨b,s2, ?_,q⟩
 unfold M.bind
 rw[e]
 exact e2
theorem W.chk {b:Bool}{m:M α}{Q:α→St→Prop}(hb:b=true)(h:W m s Q):W (M.chk b m) s Q:=by subst hb;exact h
theorem W.on {x:Option α}{a:α}{f:α→M β}{Q:β→St→Prop}(e:x=some a)(h:W (f a) s Q):W (M.on x f) s Q:=by subst e;exact h
theorem W.ofOpt {x:Option α}{a:α}{Q:α→St→Prop}(e:x=some a)(q:Q a s):W (M.ofOpt x) s Q:=by subst e;exact W.pure q
theorem W.cast {m n:M α}{Q:α→St→Prop}(e:m s=n s)(h:W n s Q):W m s Q:=let ⟨a,s',e',q⟩:=h;⟨a,s',e.trans e',q⟩
theorem W.np {m:M α}{Q:α→St→Prop}(h:W m s Q):W (noP m) s Q:=by
 obtain⟨a,s1,e,q⟩:=h
 exact⟨a,s1,by unfold noP;rw[e],q⟩
theorem blt_t {a b:Nat}(h:a<b):Nat.blt a b=true:=by simpa using h
theorem blt_f {a b:Nat}(h:b≤a):Nat.blt a b=false:=by
 cases e:Nat.blt a b with
 |false=>rfl
 |true=>exact absurd (blt_lt e) (Nat.not_lt_of_le h)
/-! ### States -/
noncomputable def St.rdN (s:St)(l:Nat):St:=⟨s.mem,s.next,s.lim,notes l s.lim s.rd,s.wr,s.cx⟩
noncomputable def St.wrN (s:St)(l:Nat)(c:Cell):St:=⟨T.set s.mem l c,s.next,s.lim,s.rd,notes l s.lim s.wr,s.cx⟩
noncomputable def St.cxN (s:St)(c:Ctx):St:=⟨s.mem,s.next,s.lim,s.rd,s.wr,c⟩
theorem notes_ext (l lim:Nat)(r:List Nat): ∃d,notes l lim r=d++r∧ ∀x∈d,x<lim∧x=l:=by
 rcases Nat.lt_or_ge l lim with h|h
 ·exact⟨[l],by unfold notes;rw[blt_t h];rfl,fun x hx=>by
  have:x=l:=by simpa using hx
  exact⟨by omega,this⟩⟩
 ·exact⟨[],by unfold notes;rw[blt_f h];rfl,fun x hx=>by cases hx⟩
/-- What may have been read (F),and turned (G),of what lay there;all else is as it was. -/
structure Ext (F G:Nat→Prop)(s s':St):Prop where
 nxt:s.next≤s'.next
 lim:s'.lim=s.lim
 cx:s'.cx=s.cx
 mem: ∀l,l<s.next→ ¬G l→T.get s'.mem l=T.get s.mem l
 rd: ∃d,s'.rd=d++s.rd∧ ∀l∈d,l<s.lim∧F l
 wr: ∃d,s'.wr=d++s.wr∧ ∀l∈d,l<s.lim∧G l
abbrev Non:Nat→Prop:=fun _=>False
theorem Ext.refl {F G:Nat→Prop}(s:St):Ext F G s s:=⟨Nat.le_refl _,rfl,rfl,fun _ _ _=>rfl,⟨[],rfl,fun _ h=>by cases h⟩,⟨[],rfl,fun _ h=>by cases h⟩⟩
theorem Ext.trans {F G F' G':Nat→Prop}{s s1 s2:St}(h:Ext F G s s1)(k:Ext F' G' s1 s2)(hb:s.lim≤s.next)(hF: ∀l,l<s.lim→F' l→F l)(hG: ∀l,l<s.next→G' l→G l):Ext F G s s2:=by
 refine⟨Nat.le_trans h.nxt k.nxt,k.lim.trans h.lim,k.cx.trans h.cx,fun l hl hg=> ?_, ?_, ?_⟩
 ·rw[k.mem l (Nat.lt_of_lt_of_le hl h.nxt) fun x=>hg (hG l hl x)]
  exact h.mem l hl hg
 ·obtain⟨d1,e1,q1⟩:=h.rd
  obtain⟨d2,e2,q2⟩:=k.rd
  refine⟨d2++d1,by rw[e2,e1,List.append_assoc],fun l hl=> ?_⟩
  rcases List.mem_append.1 hl with hl|hl
  ·have:=q2 l hl
   rw[h.lim]at this
   exact⟨this.1,hF l this.1 this.2⟩
  ·exact q1 l hl
 ·obtain⟨d1,e1,q1⟩:=h.wr
  obtain⟨d2,e2,q2⟩:=k.wr
  refine⟨d2++d1,by rw[e2,e1,List.append_assoc],fun l hl=> ?_⟩
  rcases List.mem_append.1 hl with hl|hl
  ·have:=q2 l hl
   rw[h.lim]at this
   exact⟨this.1,hG l (Nat.lt_of_lt_of_le this.1 hb) this.2⟩
  ·exact q1 l hl
theorem Ext.weak {F G F' G':Nat→Prop}{s s1:St}(k:Ext F' G' s s1)(hb:s.lim≤s.next)(hF: ∀l,l<s.lim→F' l→F l)(hG: ∀l,l<s.next→G' l→G l):Ext F G s s1:=(Ext.refl s).trans k hb hF hG
theorem Ext.rdN {F G:Nat→Prop}(s:St)(l:Nat)(hF:l<s.lim→F l):Ext F G s (s.rdN l):=by
 obtain⟨d,e,q⟩:=notes_ext l s.lim s.rd
 exact⟨Nat.le_refl _,rfl,rfl,fun _ _ _=>rfl,⟨d,e,fun x hx=>⟨(q x hx).1,by have:=q x hx;rw[this.2];exact hF (by rw[←this.2];exact this.1)⟩⟩,⟨[],rfl,fun _ h=>by cases h⟩⟩
theorem Ext.wrN {F G:Nat→Prop}(s:St)(l:Nat)(c:Cell)(hG:G l):Ext F G s (s.wrN l c):=by
 obtain⟨d,e,q⟩:=notes_ext l s.lim s.wr
 refine⟨Nat.le_refl _,rfl,rfl,fun x _ hx=> ?_,⟨[],rfl,fun _ h=>by cases h⟩,⟨d,e,fun x hx=>⟨(q x hx).1,by rw[(q x hx).2];exact hG⟩⟩⟩
 show T.get (T.set s.mem l c) x=_
 rw[T.get_set,if_neg]
 intro h
 exact hx (by rw[h];exact hG)
theorem Ext.bnd {F G:Nat→Prop}{s s':St}(h:Ext F G s s')(hb:s.lim≤s.next):s'.lim≤s'.next:=by rw[h.lim];exact Nat.le_trans hb h.nxt
/-- What lies at a place:of the call's own,or of what lay there ahead of it. -/
def At (s:St)(b o:Nat)(v:Value):Prop:=b+o<s.next∧(T.get s.mem (b+o)=some (.C b v)∨T.get s.mem (b+o)=some (.O (.old b v)))
def Own (s:St)(b o:Nat)(v:Value):Prop:=b+o<s.next∧T.get s.mem (b+o)=some (.C b v)
theorem Own.at' {b o:Nat}{v:Value}(h:Own s b o v):At s b o v:=⟨h.1, .inl h.2⟩
theorem At.ext {F G:Nat→Prop}{s s':St}{b o:Nat}{v:Value}(h:At s b o v)(e:Ext F G s s')(hG: ¬G (b+o)):At s' b o v:=
 ⟨Nat.lt_of_lt_of_le h.1 e.nxt,by rw[e.mem _ h.1 hG];exact h.2⟩
theorem Own.ext {F G:Nat→Prop}{s s':St}{b o:Nat}{v:Value}(h:Own s b o v)(e:Ext F G s s')(hG: ¬G (b+o)):Own s' b o v:=
 ⟨Nat.lt_of_lt_of_le h.1 e.nxt,by rw[e.mem _ h.1 hG];exact h.2⟩
theorem At.same {s s':St}{b o:Nat}{v:Value}(h:At s b o v)(hm:s'.mem=s.mem)(hn:s'.next=s.next):At s' b o v:=by
 unfold At at *
 rw[hm,hn]
 exact h
theorem Own.same {s s':St}{b o:Nat}{v:Value}(h:Own s b o v)(hm:s'.mem=s.mem)(hn:s'.next=s.next):Own s' b o v:=by
 unfold Own at *
 rw[hm,hn]
 exact h
/-- Values in a row,from a place on. -/
def Row (s:St)(b o:Nat)(l:List Value):Prop:= ∀i v,l[i]?=some v→At s b (o+i) v
def OwnRow (s:St)(b o:Nat)(l:List Value):Prop:= ∀i v,l[i]?=some v→Own s b (o+i) v
theorem OwnRow.row {b o:Nat}{l:List Value}(h:OwnRow s b o l):Row s b o l:=fun i v e=>(h i v e).at'
theorem Row.ext {F G:Nat→Prop}{s s':St}{b o:Nat}{l:List Value}(h:Row s b o l)(e:Ext F G s s')(hG: ∀i,i<l.length→ ¬G (b+(o+i))):Row s' b o l:=fun i v q=>(h i v q).ext e (hG i (List.getElem?_eq_some_iff.1 q).1)
theorem OwnRow.ext {F G:Nat→Prop}{s s':St}{b o:Nat}{l:List Value}(h:OwnRow s b o l)(e:Ext F G s s')(hG: ∀i,i<l.length→ ¬G (b+(o+i))):OwnRow s' b o l:=fun i v q=>(h i v q).ext e (hG i (List.getElem?_eq_some_iff.1 q).1)
theorem Row.ext0 {F:Nat→Prop}{s s':St}{b o:Nat}{l:List Value}(h:Row s b o l)(e:Ext F Non s s'):Row s' b o l:=h.ext e fun _ _=>id
theorem OwnRow.ext0 {F:Nat→Prop}{s s':St}{b o:Nat}{l:List Value}(h:OwnRow s b o l)(e:Ext F Non s s'):OwnRow s' b o l:=h.ext e fun _ _=>id
theorem At.ext0 {F:Nat→Prop}{s s':St}{b o:Nat}{v:Value}(h:At s b o v)(e:Ext F Non s s'):At s' b o v:=h.ext e id
theorem Own.ext0 {F:Nat→Prop}{s s':St}{b o:Nat}{v:Value}(h:Own s b o v)(e:Ext F Non s s'):Own s' b o v:=h.ext e id
theorem Row.tail {b o:Nat}{v:Value}{l:List Value}(h:Row s b o (v::l)):Row s b (o+1) l:=fun i x e=>by
 have:=h (i+1) x (by simpa using e)
 rw[show o+1+i=o+(i+1) by omega]
 exact this
/-! ### Touches of memory -/
theorem W.rdC {l:Nat}{c:Cell}{Q:Cell→St→Prop}(h:T.get s.mem l=some c)(hl:l<s.next)(q:Q c (s.rdN l)):W (rdC l) s Q:=by
 obtain⟨mem,next,lim,rd,wr,cx⟩:=s
 refine⟨c,_, ?_,q⟩
 unfold Am.rdC
 simp only at h hl ⊢
 rw[blt_t hl,h]
 rfl
theorem W.wrC {l:Nat}{c:Cell}{Q:Unit→St→Prop}(hl:l<s.next)(q:Q () (s.wrN l c)):W (wrC l c) s Q:=by
 obtain⟨mem,next,lim,rd,wr,cx⟩:=s
 refine⟨(),_, ?_,q⟩
 unfold Am.wrC
 simp only at hl ⊢
 obtain⟨v,a,b,e⟩:=T.set_N mem l c
 rw[blt_t hl]
 show T.rec (motive:=fun _=>R Unit) .none (fun a b d _ _=>R.some () (St.mk (.N a b d) next lim rd (notes l lim wr) cx)) (T.set mem l c)=R.some () (St.mk (T.set mem l c) next lim rd (notes l lim wr) cx)
 rw[e]
theorem beq_t (a:Nat):Nat.beq a a=true:=Nat.beq_refl a
theorem W.rdV {b o:Nat}{v:Value}{Q:Value→St→Prop}(h:At s b o v)(q:Q v (s.rdN (b+o))):W (rdV ⟨b,o,none⟩) s Q:=by
 refine W.bind ?_
 rcases h with⟨h1,h2|h2⟩
 ·refine W.rdC h2 h1 (W.ofOpt (a:=v) ?_ q)
  show Bool.rec (motive:=fun _=>Option Value) none (some v) (Nat.beq b b)=_
  rw[beq_t]
 ·refine W.rdC h2 h1 (W.ofOpt (a:=v) ?_ q)
  show Bool.rec (motive:=fun _=>Option Value) none (some v) (Nat.beq b b)=_
  rw[beq_t]
theorem W.wrV {b o:Nat}{u v:Value}{Q:Unit→St→Prop}(h:Own s b o u)(hv:oneCell v=true)(q:Q () ((s.rdN (b+o)).wrN (b+o) (.C b v))):W (wrV ⟨b,o,none⟩ v) s Q:=by
 refine W.bind (W.rdC h.2 h.1 (W.chk ?_ (W.wrC h.1 q)))
 show(Nat.beq b b&&oneCell v)=true
 rw[beq_t,hv]
 rfl
theorem W.fA {γ:Type}{a:Addr}{K:Addr→M γ}{Q:γ→St→Prop}(h:W (K a) s Q):W (fA a K) s Q:=by rw[fA_eq];exact h
theorem W.fN {γ:Type}{n:Nat}{K:Nat→M γ}{Q:γ→St→Prop}(h:W (K n) s Q):W (fN n K) s Q:=by rw[fN_eq];exact h
theorem W.rdL: ∀{l:List Value} {s:St} {b o:Nat} {Q:List Value→St→Prop},Row s b o l→
  (∀s1,s1.mem=s.mem→s1.next=s.next→Ext (fun x=>b+o≤x∧x<b+o+l.length) Non s s1→Q l s1)→W (rdL l.length ⟨b,o,none⟩) s Q
 |[],s,b,o,Q,_,q=>W.pure (q s rfl rfl (Ext.refl s))
 |v::l,s,b,o,Q,h,q=>by
  have hv:=h 0 v rfl
  show W (Am.fA (⟨b,o,none⟩:Addr) fun a=>M.bind (Am.rdV a) fun v=>M.bind (Am.rdL l.length ⟨a.block,Nat.succ a.off,a.spot⟩) fun l=>M.pure (v::l)) s Q
  refine W.fA (W.bind (W.rdV hv (W.bind (W.rdL (l:=l) (s:=s.rdN (b+(o+0))) (b:=b) (o:=o+1) (fun i x e=>(h.tail i x e).same rfl rfl) fun s1 h1 h2 h3=>W.pure (q s1 h1 h2 ?_)))))
  have e0:Ext (fun x=>b+o≤x∧x<b+o+(v::l).length) Non s (s.rdN (b+(o+0))):=Ext.rdN s _ fun _=>by simp
  obtain⟨d1,p1,p2⟩:=e0.rd
  obtain⟨d2,p3,p4⟩:=h3.rd
  obtain⟨d3,p5,p6⟩:=h3.wr
  refine⟨Nat.le_of_eq h2.symm,h3.lim,h3.cx,fun x _ _=>by rw[h1];rfl,⟨d2++d1,by rw[p3,p1,List.append_assoc],fun x hx=> ?_⟩,⟨d3,p5,p6⟩⟩
  rcases List.mem_append.1 hx with hx|hx
  ·have:=p4 x hx
   simp only[List.length_cons]
   exact⟨this.1,by omega,by omega⟩
  ·exact p2 x hx
end
end Go.Proofs.YtapojfiplajfaaaGreatDoor.Am
/- Runs of the evaluator said of all states:rows written,blocks made,frames,calls. -/
namespace Go.Proofs.YtapojfiplajfaaaGreatDoor.Am
section
variable {α β:Type}{s:St}
/-- In a row,from a place on. -/
abbrev In (b o n:Nat):Nat→Prop:=fun x=>b+o≤x∧x<b+o+n
theorem wrLs: ∀{l:List Value} {s:St} {b o:Nat},(∀i,i<l.length→ ∃u,Own s b (o+i) u)→l.all oneCell=true→
  ∃s1,wrL l ⟨b,o,none⟩ s= .some () s1∧s1.next=s.next∧Ext (In b o l.length) (In b o l.length) s s1∧OwnRow s1 b o l
 |[],s,b,o,_,_=>⟨s,rfl,rfl,Ext.refl s,fun i v e=>by simp at e⟩
 |v::l,s,b,o,h,h1=>by
  rw[List.all_cons,Bool.and_eq_true]at h1
  obtain⟨u,hu⟩:=h 0 (by simp)
  obtain⟨a,s1,e1,rfl⟩: ∃a s1,wrV ⟨b,o,none⟩ v s= .some a s1∧s1=(s.rdN (b+o)).wrN (b+o) (.C b v):=W.wrV hu h1.1 rfl
  have x1:Ext (In b o (l.length+1)) (In b o (l.length+1)) s ((s.rdN (b+o)).wrN (b+o) (.C b v)):=by
   have a1:Ext (In b o (l.length+1)) (In b o (l.length+1)) s (s.rdN (b+o)):=Ext.rdN s _ fun _=>⟨Nat.le_refl _,by omega⟩
   have a2:Ext (In b o (l.length+1)) (In b o (l.length+1)) (s.rdN (b+o)) ((s.rdN (b+o)).wrN (b+o) (.C b v)):=Ext.wrN _ _ _ ⟨Nat.le_refl _,by omega⟩
   obtain⟨d1,p1,p2⟩:=a1.rd
   obtain⟨d2,p3,p4⟩:=a2.wr
   exact⟨Nat.le_refl _,rfl,rfl,fun x q1 q2=>a2.mem x q1 q2,⟨d1,p1,p2⟩,⟨d2,p3,p4⟩⟩
  have own: ∀i w,i≠0→Own s b (o+i) w→Own ((s.rdN (b+o)).wrN (b+o) (.C b v)) b (o+i) w:=fun i w hi hw=>⟨hw.1,by
   show T.get (T.set s.mem (b+o) (.C b v)) (b+(o+i))=_
   rw[T.get_set,if_neg (by omega)]
   exact hw.2⟩
  obtain⟨s2,e2,n2,x2,r2⟩:=wrLs (l:=l) (s:=(s.rdN (b+o)).wrN (b+o) (.C b v)) (b:=b) (o:=o+1) (fun i hi=>by
   obtain⟨w,hw⟩:=h (i+1) (by simpa using hi)
   rw[show o+1+i=o+(i+1) by omega]
   exact⟨w,own _ _ (by omega) hw⟩) h1.2
  have e3:wrL (v::l) ⟨b,o,none⟩ s= .some () s2:=by
   show Am.fA (⟨b,o,none⟩:Addr) (fun a=>M.bind (wrV a v) fun _=>wrL l ⟨a.block,Nat.succ a.off,a.spot⟩) s=_
   rw[fA_eq]
   unfold M.bind
   rw[e1]
   exact e2
  refine⟨s2,e3,n2, ?_,fun i w e=> ?_⟩
  ·obtain⟨d1,p1,p2⟩:=x1.rd
   obtain⟨d2,p3,p4⟩:=x2.rd
   obtain⟨d3,p5,p6⟩:=x1.wr
   obtain⟨d4,p7,p8⟩:=x2.wr
   have sub: ∀x,In b (o+1) l.length x→In b o (l.length+1) x:=fun x hx=>⟨by have:=hx.1;omega,by have:=hx.2;omega⟩
   refine⟨Nat.le_of_eq n2.symm,x2.lim,x2.cx,fun x q1 q2=>(x2.mem x q1 fun y=>q2 (sub x y)).trans (x1.mem x q1 q2),⟨d2++d1,by rw[p3,p1,List.append_assoc],fun x hx=> ?_⟩,⟨d4++d3,by rw[p7,p5,List.append_assoc],fun x hx=> ?_⟩⟩
   ·rcases List.mem_append.1 hx with hx|hx
    ·exact⟨(p4 x hx).1,sub x (p4 x hx).2⟩
    ·exact p2 x hx
   ·rcases List.mem_append.1 hx with hx|hx
    ·exact⟨(p8 x hx).1,sub x (p8 x hx).2⟩
    ·exact p6 x hx
  ·cases i with
   |zero=>
    have:v=w:=by simpa using e
    subst this
    have o1:Own ((s.rdN (b+o)).wrN (b+o) (.C b v)) b o v:=⟨hu.1,by
     show T.get (T.set s.mem (b+o) (.C b v)) (b+o)=_
     rw[T.get_set,if_pos rfl]⟩
    exact o1.ext x2 fun y=>by have:=y.1;omega
   |succ i=>
    rw[show o+(i+1)=o+1+i by omega]
    exact r2 i w (by simpa using e)
theorem W.wrL {l:List Value}{b o:Nat}{Q:Unit→St→Prop}(h: ∀i,i<l.length→ ∃u,Own s b (o+i) u)(h1:l.all oneCell=true)
  (q: ∀s1,s1.next=s.next→Ext (In b o l.length) (In b o l.length) s s1→OwnRow s1 b o l→Q () s1):W (wrL l ⟨b,o,none⟩) s Q:=by
 obtain⟨s1,e,h2,h3,h4⟩:=wrLs h h1
 exact⟨(),s1,e,q s1 h2 h3 h4⟩
theorem layL_in: ∀(vs:List Value) (b loc:Nat) (t:T Cell) (l:Nat),T.get (layL b vs loc t) l=if loc≤l∧l<loc+vs.length then(vs[l-loc]?).map (Cell.C b)else T.get t l
 |[],b,loc,t,l=>by
  rw[if_neg (by simp)]
  rfl
 |v::vs,b,loc,t,l=>by
  have e:layL b (v::vs) loc t=layL b vs (loc+1) (T.set t loc (.C b v)):=by
   show Am.fN loc (fun loc=>layL b vs (Nat.succ loc) (T.set t loc (.C b v)))=_
   rw[fN_eq]
  rw[e,layL_in vs b (loc+1),T.get_set]
  simp only[List.length_cons]
  by_cases h1:l=loc
  ·subst h1
   rw[if_neg (by omega),if_pos rfl,if_pos (by omega),Nat.sub_self]
   rfl
  ·by_cases h2:loc+1≤l∧l<loc+1+vs.length
   ·rw[if_pos h2,if_pos (by omega),show l-loc=(l-(loc+1))+1 by omega]
    rfl
   ·rw[if_neg h2,if_neg h1,if_neg (by omega)]
/-- A new block. -/
theorem newLs (vs:List Value)(s:St): ∃s1,newL vs s= .some s.next s1∧s1.next=s.next+vs.length+1∧Ext Non Non s s1∧OwnRow s1 s.next 0 vs:=by
 obtain⟨mem,next,lim,rd,wr,cx⟩:=s
 refine⟨⟨layL next vs next mem,next+vs.length+1,lim,rd,wr,cx⟩, ?_,rfl,⟨by simp only;omega,rfl,rfl,fun l hl _=> ?_,⟨[],rfl,fun _ h=>by cases h⟩,⟨[],rfl,fun _ h=>by cases h⟩⟩,fun i v e=> ?_⟩
 ·show Am.fN next (fun b=>Am.fN (Nat.succ (Nat.add b vs.length)) fun n=>R.some b (St.mk (layL b vs b mem) n lim rd wr cx))=_
  rw[fN_eq,fN_eq]
  rfl
 ·simp only at hl ⊢
  rw[layL_in,if_neg (by omega)]
 ·have hi:=(List.getElem?_eq_some_iff.1 e).1
  refine⟨by simp only;omega, ?_⟩
  simp only
  rw[layL_in,if_pos (by omega),show next+(0+i)-next=i by omega,e]
  rfl
theorem W.newL {vs:List Value}{Q:Nat→St→Prop}(q: ∀s1,s1.next=s.next+vs.length+1→Ext Non Non s s1→OwnRow s1 s.next 0 vs→Q s.next s1):W (newL vs) s Q:=by
 obtain⟨s1,e,h1,h2,h3⟩:=newLs vs s
 exact⟨_,s1,e,q s1 h1 h2 h3⟩
/-! ### Frames -/
theorem W.run {E:Env}{n:Nat}{af:AF}{Q:Value×FrameMode→St→Prop}(h:W (stepA E (callW E (runF E n)) (roundW (runF E n)) (deferW E (runF E n)) af) s fun p s1=>W (stepR (runF E n) p) s1 Q):W (runF E (n+1) af) s Q:=
 W.bind (m:=stepA E (callW E (runF E n)) (roundW (runF E n)) (deferW E (runF E n)) af) (f:=stepR (runF E n)) h
/-- A step at a piece of code. -/
theorem W.code {E:Env}{n f nt g:Nat}{tm:T Value}{todo k:List Item}{c:Code}{ki:CallKind}{ro:Option Nat}{Q:Value×FrameMode→St→Prop}(ht:skim 64 todo= .code c::k)
  (h:W (codeF E (callW E (runF E n)) (roundW (runF E n)) ⟨f,nt,g,tm, .code c::k, .run,ki,ro⟩ k c) s fun p s1=>W (stepR (runF E n) p) s1 Q):W (runF E (n+1) ⟨f,nt,g,tm,todo, .run,ki,ro⟩) s Q:=by
 refine W.run ?_
 show W (noP (runItems E (callW E (runF E n)) (roundW (runF E n)) ⟨f,nt,g,tm,skim 64 todo, .run,ki,ro⟩ (skim 64 todo))) s _
 rw[ht]
 exact W.np h
/-- On to what is to be done next. -/
theorem W.go {E:Env}{n:Nat}{af:AF}{Q:Value×FrameMode→St→Prop}(h:W (runF E n af) s Q):W (stepR (runF E n) (.go af)) s Q:=h
/-- Its values,one by one. -/
def Tm (tm:T Value)(l:List (Nat×Value)):Prop:= ∀p∈l,T.get tm p.1=some p.2
theorem resL_run {E:Env}{tm:T Value}: ∀{rs:List Nat} {vs:List Value} {s:St},rs.map (T.get tm)=vs.map some→resL E tm (rs.map .tmp) s= .some vs s
 |[],[],_,_=>rfl
 |[],_::_,_,h=>by simp at h
 |_::_,[],_,h=>by simp at h
 |r::rs,v::vs,s,h=>by
  simp only[List.map_cons,List.cons.injEq]at h
  show M.bind (resV E tm (.tmp r)) (fun v=>M.bind (resL E tm (rs.map .tmp)) fun l=>M.pure (v::l)) s=_
  have e1:resV E tm (.tmp r) s= .some v s:=by
   show M.ofOpt (tm.get r) s=_
   rw[h.1]
   rfl
  rw[bind_run e1,bind_run (resL_run h.2)]
  rfl
/-- The end of a frame that no deferred call keeps. -/
theorem W.ret {E:Env}{n f nt g:Nat}{tm:T Value}{todo:List Item}{ki:CallKind}{fn:Func}{rs:List Nat}{vs:List Value}{up:Option FrameMode}{Q:Value×FrameMode→St→Prop}(ht:(∃k,skim 64 todo= .code .ret::k)∨skim 64 todo=[])
  (hf:E.fn.get f=some fn) (hr:fn.results.toList=rs.map .tmp) (hv:rs.map (T.get tm)=vs.map some) (hc:s.cx= .cx up (some [])) (q:Q (tupV vs,up.getD .run) s):W (runF E (n+2) ⟨f,nt,g,tm,todo, .run,ki,none⟩) s Q:=by
 have h1:W (runF E (n+1) ⟨f,nt,g,tm,skim 64 todo, .returning,ki,none⟩) s Q:=by
  refine W.run ?_
  show W (unwindF E (deferW E (runF E n)) ⟨f,nt,g,tm,skim 64 todo, .returning,ki,none⟩) s _
  refine W.bind (W.of (a:=s.cx) (s':=s) (by obtain⟨mem,next,lim,rd,wr,cx⟩:=s;rfl) ?_)
  rw[hc]
  show W (outF E ⟨f,nt,g,tm,skim 64 todo, .returning,ki,none⟩ up) s _
  refine W.on hf (W.bind (W.of (a:=tupV vs) (s':=s) ?_ (W.pure (W.pure q))))
  show M.bind (resL E tm fn.results.toList) (fun l=>M.pure (tupV l)) s=_
  rw[hr,bind_run (resL_run hv)]
  rfl
 rcases ht with⟨k,ht⟩|ht
 ·refine W.code ht ?_
  rw[ht]at h1
  exact W.pure h1
 ·refine W.run ?_
  show W (noP (runItems E (callW E (runF E (n+1))) (roundW (runF E (n+1))) ⟨f,nt,g,tm,skim 64 todo, .run,ki,none⟩ (skim 64 todo))) s _
  rw[ht]at h1 ⊢
  exact W.np (W.pure h1)
/-! ### Calls -/
theorem W.within {c:Ctx}{m:M α}{Q:α→St→Prop}(h:W m (s.cxN c) fun a s1=>Q a (s1.cxN s.cx)):W (within c m) s Q:=by
 obtain⟨a,s1,e,q⟩:=h
 obtain⟨mem,next,lim,rd,wr,cx⟩:=s
 obtain⟨mem1,next1,lim1,rd1,wr1,cx1⟩:=s1
 refine⟨a,_, ?_,q⟩
 have e':m ⟨mem,next,lim,rd,wr,c⟩= .some a ⟨mem1,next1,lim1,rd1,wr1,cx1⟩:=e
 unfold Am.within
 simp only[e']
 rfl
theorem W.call {E:Env}{ih:AF→M (Value×FrameMode)}{f nt g:Nat}{fn:Func}{body:Code}{args:List Value}{Q:Value→St→Prop}(ho:E.orc.get f=none)(hx:E.ext.get f=none)(hf:E.fn.get f=some fn)(hb:fn.body=some body)
  (hn:fn.ntmps=nt) (hg:globOf fn=g) (ha:args.length≤nt) (h:W (ih ⟨f,nt,g,argsT g args 0 .E,[.code body], .run, .normal,none⟩) (s.cxN cxN) fun p s1=>Q p.1 (s1.cxN s.cx)):W (callW E ih f args) s Q:=by
 unfold callW
 rw[ho,hx]
 refine W.within (W.bind (W.bind ?_))
 have e:enterF E f args .normal (s.cxN cxN)= .some ⟨f,nt,g,argsT g args 0 .E,[.code body], .run, .normal,none⟩ (s.cxN cxN):=by
  unfold enterF
  rw[hf]
  show M.on fn.body (fun c=>M.chk (Nat.ble args.length fn.ntmps) (Am.fN fn.ntmps fun n=>Am.fN (globOf fn) fun g=>M.pure (⟨f,n,g,argsT g args 0 .E,[.code c], .run, .normal,none⟩:AF))) _=_
  rw[hb]
  show M.chk (Nat.ble args.length fn.ntmps) (Am.fN fn.ntmps fun n=>Am.fN (globOf fn) fun g=>M.pure (⟨f,n,g,argsT g args 0 .E,[.code body], .run, .normal,none⟩:AF)) _=_
  rw[show Nat.ble args.length fn.ntmps=true from Nat.ble_eq_true_of_le (by rw[hn];exact ha),fN_eq,fN_eq,hn,hg]
  rfl
 exact W.of e (h.mono fun p s1 q=>W.pure q)
end
end Go.Proofs.YtapojfiplajfaaaGreatDoor.Am
/- Runs of the evaluator said of all states:numbers,regions that draw their order. -/
namespace Go.Proofs.YtapojfiplajfaaaGreatDoor.Am
section
variable {α β:Type}{s:St}
/-! ### Numbers -/
theorem wrap64_id {n:Int}(h1: -9223372036854775808≤n)(h2:n≤9223372036854775807):wrap64 n=n:=by
 rw[wrap64_eq]
 have e:IntKind.i64.wrap n=if n%18446744073709551616≥9223372036854775808 then n%18446744073709551616-18446744073709551616 else n%18446744073709551616:=by
  unfold IntKind.wrap
  simp[IntKind.bits,IntKind.signed]
 rw[e]
 by_cases h:n%18446744073709551616≥9223372036854775808
 ·rw[if_pos h];omega
 ·rw[if_neg h];omega
theorem rI_eq (n:Int)(s:St):rI n s= .some (.int .i64 (wrap64 n)) s:=by unfold rI;rw[fI_eq]
theorem rB_eq (b:Bool)(s:St):rB b s= .some (.bool b) s:=by cases b<;>rfl
theorem i64_2 (f:Int→Int→St→R Value)(slow:Value→Value→M Value)(a b:Int):int2 f slow (.int .i64 a) (.int .i64 b) s=f a b s:=rfl
theorem i64_add (slow:Value→Value→M Value)(a b:Int):int2 (fun a b s=>rI (addI a b) s) slow (.int .i64 a) (.int .i64 b) s= .some (.int .i64 (wrap64 (a+b))) s:=by rw[i64_2,rI_eq,addI_eq]
theorem i64_lss (slow:Value→Value→M Value)(a b:Int):int2 (fun a b s=>rB (ltI a b) s) slow (.int .i64 a) (.int .i64 b) s= .some (.bool (decide (a<b))) s:=by rw[i64_2,rB_eq,ltI_eq]
theorem i64_gtr (slow:Value→Value→M Value)(a b:Int):int2 (fun a b s=>rB (ltI b a) s) slow (.int .i64 a) (.int .i64 b) s= .some (.bool (decide (b<a))) s:=by rw[i64_2,rB_eq,ltI_eq]
theorem i64_leq (slow:Value→Value→M Value)(a b:Int):int2 (fun a b s=>rB (!ltI b a) s) slow (.int .i64 a) (.int .i64 b) s= .some (.bool (decide (a≤b))) s:=by
 rw[i64_2,rB_eq,ltI_eq]
 congr 2
 by_cases h:b<a
 ·simp[h]
 ·simp[h];omega
theorem i64_eql (slow:Value→Value→M Value)(a b:Int):int2 (fun a b s=>rB (eqI a b) s) slow (.int .i64 a) (.int .i64 b) s= .some (.bool (decide (a=b))) s:=by rw[i64_2,rB_eq,eqI_eq]
theorem i64_neq (slow:Value→Value→M Value)(a b:Int):int2 (fun a b s=>rB (!eqI a b) s) slow (.int .i64 a) (.int .i64 b) s= .some (.bool (!decide (a=b))) s:=by rw[i64_2,rB_eq,eqI_eq]
/-! ### Regions that draw their order -/
/-- What a region keeps in a slot. -/
noncomputable def setF {γ:Type}(d:Nat)(v:Value)(tm:T Value)(K:T Value→M γ):M γ:=fun s=>T.rec (motive:=fun _=>R γ) .none (fun a b c _ _=>K (.N a b c) s) (T.set tm d v)
noncomputable def setT {γ:Type}(d:Nat)(v:Value)(tm:T Value)(K:T Value→M γ):M γ:=T.rec (motive:=fun _=>M γ) M.fail (fun a b c _ _=>K (.N a b c)) (T.set tm d v)
theorem W.setF {γ:Type}{d:Nat}{v:Value}{tm:T Value}{K:T Value→M γ}{Q:γ→St→Prop}(h:W (K (T.set tm d v)) s Q):W (setF d v tm K) s Q:=by
 obtain⟨x,a,b,e⟩:=T.set_N tm d v
 unfold Am.setF
 rw[e]at h ⊢
 exact h
theorem W.setT {γ:Type}{d:Nat}{v:Value}{tm:T Value}{K:T Value→M γ}{Q:γ→St→Prop}(h:W (K (T.set tm d v)) s Q):W (setT d v tm K) s Q:=by
 obtain⟨x,a,b,e⟩:=T.set_N tm d v
 unfold Am.setT
 rw[e]at h ⊢
 exact h
noncomputable def drawW (m:M ((Rho×T Value)×List OpLog))(bef:List Nat):M (Rho×T Value):=fun s=>St.rec (motive:=fun _=>R (Rho×T Value)) (fun mem next lim rd wr cx=>
 R.rec (motive:=fun _=>R (Rho×T Value)) .none (fun p s=>Prod.rec (motive:=fun _=>R (Rho×T Value)) (fun q l=>St.rec (motive:=fun _=>R (Rho×T Value)) (fun mem' next' _ _ _ _=>
  Bool.rec (motive:=fun _=>R (Rho×T Value)) .none (.some q (St.mk mem' next' lim (rdsL lim l rd) (wrsL lim l wr) cx)) (apartM next l.reverse bef)) s) p) (fun _ _=> .none)
  (m (St.mk mem next (nat_lit 0) [] [] .no))) s
noncomputable def dSt (mem:T Cell)(next:Nat):St:=⟨mem,next,0,[],[], .no⟩
noncomputable def oSt (mem:T Cell)(next:Nat):St:=⟨mem,next,next,[],[], .no⟩
theorem W.draw {m:M ((Rho×T Value)×List OpLog)}{bef:List Nat}{Q:Rho×T Value→St→Prop}
  (h:W m (dSt s.mem s.next) fun p s1=>apartM s.next p.2.reverse bef=true∧Q p.1 ⟨s1.mem,s1.next,s.lim,rdsL s.lim p.2 s.rd,wrsL s.lim p.2 s.wr,s.cx⟩):W (drawW m bef) s Q:=by
 obtain⟨⟨q,l⟩,s1,e,ha,hq⟩:=h
 obtain⟨mem,next,lim,rd,wr,cx⟩:=s
 obtain⟨mem1,next1,lim1,rd1,wr1,cx1⟩:=s1
 refine⟨q,_, ?_,hq⟩
 have e':m ⟨mem,next,0,[],[], .no⟩= .some (q,l) ⟨mem1,next1,lim1,rd1,wr1,cx1⟩:=e
 have ha':apartM next l.reverse bef=true:=ha
 unfold drawW
 simp only[e',ha']
/-- An operation of such a region that turns nothing. -/
theorem W.dop {m:M α}{f:α×OpLog→M β}{mem:T Cell}{next:Nat}{Q:β→St→Prop}
  (h:W m (oSt mem next) fun v s1=> ∃F,Ext F Non (oSt mem next) s1∧ ∀rd,(∀x∈rd,x<next∧F x)→W (f (v,⟨next,s1.next,rd,[]⟩)) (dSt s1.mem s1.next) Q):W (M.bind (apartO m) f) (dSt mem next) Q:=by
 obtain⟨a,s1,e,F,x,q⟩:=h
 obtain⟨mem1,next1,lim1,rd1,wr1,cx1⟩:=s1
 have hcx:cx1= .no:=x.cx
 obtain⟨d1,p1,p2⟩:=x.rd
 obtain⟨d2,p3,p4⟩:=x.wr
 have e1:rd1=d1:=by simpa [oSt]using p1
 have e2:wr1=[]:=by
  have:wr1=d2:=by simpa [oSt]using p3
  rw[this]
  cases d2 with
  |nil=>rfl
  |cons y l=>exact(p4 y (by simp)).2.elim
 subst hcx
 subst e2
 refine W.bind (W.of (a:=(a,⟨next,next1,rd1,[]⟩)) (s':=dSt mem1 next1) ?_ (q rd1 fun y hy=>p2 y (by rw[←e1];exact hy)))
 have e':m ⟨mem,next,next,[],[], .no⟩= .some a ⟨mem1,next1,lim1,rd1,[], .no⟩:=e
 show Am.apartO m ⟨mem,next,0,[],[], .no⟩=_
 unfold Am.apartO
 simp only[e']
 rfl
theorem newsL_of (n0:Nat)(l acc:List Nat): ∀x,x∈newsL n0 l acc→(x∈l∧n0≤x)∨x∈acc:=by
 induction l with
 |nil=>exact fun x h=> .inr h
 |cons a l ih=>
  intro x h
  have h':x∈Bool.rec (motive:=fun _=>List Nat) (newsL n0 l acc) (a::newsL n0 l acc) (Nat.ble n0 a):=h
  cases e:Nat.ble n0 a with
  |false=>
   rw[e]at h'
   rcases ih x h' with⟨h1,h2⟩|h1
   ·exact .inl ⟨by simp[h1],h2⟩
   ·exact .inr h1
  |true=>
   rw[e]at h'
   rcases List.mem_cons.1 h' with rfl|h'
   ·exact .inl ⟨by simp,Nat.le_of_ble_eq_true e⟩
   ·rcases ih x h' with⟨h1,h2⟩|h1
    ·exact .inl ⟨by simp[h1],h2⟩
    ·exact .inr h1
theorem hitsI_no' (lo hi:Nat)(l:List Nat)(h: ∀x∈l,¬(lo≤x∧x<hi)):hitsI lo hi l=false:=by
 induction l with
 |nil=>rfl
 |cons a l ih=>
  have i:=ih fun x hx=>h x (by simp[hx])
  show Bool.rec (motive:=fun _=>Bool) (hitsI lo hi l) (Bool.rec (motive:=fun _=>Bool) (hitsI lo hi l) true (Nat.blt a hi)) (Nat.ble lo a)=false
  cases e1:Nat.ble lo a with
  |false=>exact i
  |true=>
   cases e2:Nat.blt a hi with
   |false=>exact i
   |true=>exact absurd ⟨Nat.le_of_ble_eq_true e1,blt_lt e2⟩ (h a (by simp))
theorem freshJ_ok (bj:Nat)(news:List Nat): ∀(acc:List OpLog) (i:Nat),(∀k a,acc[k]?=some a→bj.testBit (i+k)=true∨ ∀x∈news,¬(a.lo≤x∧x<a.hi))→freshJ bj news acc i=true
 |[],_,_=>rfl
 |a::acc,i,h=>by
  show((bj.testBit i|| !hitsI a.lo a.hi news)&&freshJ bj news acc (Nat.succ i))=true
  rw[Bool.and_eq_true]
  constructor
  ·rcases h 0 a rfl with h|h
   ·rw[Nat.add_zero]at h;rw[h];rfl
   ·rw[hitsI_no' _ _ _ h];simp
  ·refine freshJ_ok bj news acc (i+1) fun k b hk=> ?_
   have:=h (k+1) b (by simpa using hk)
   rwa [show i+(k+1)=i+1+k by omega]at this
theorem freshL_ok (n0:Nat)(all:List OpLog): ∀(l:List OpLog) (bef:List Nat) (j:Nat),l.length≤bef.length→(∀(k:Nat) (m:OpLog) (b:Nat),l[k]?=some m→bef[k]?=some b→m.wr=[]∧ ∀(i:Nat) (a:OpLog),i<j+k→all[i]?=some a→b.testBit i=true∨ ∀x∈m.rd,n0≤x→ ¬(a.lo≤x∧x<a.hi))→freshL n0 all l bef j=true
 |[],_,_,_,_=>rfl
 |_::_,[],_,h,_=>by simp at h
 |m::l,b::bef,j,hl,h=>by
  show(freshN b (newsL n0 m.rd (newsL n0 m.wr [])) (all.take j)&&freshL n0 all l bef (Nat.succ j))=true
  rw[Bool.and_eq_true]
  obtain⟨h1,h2⟩:=h 0 m b rfl rfl
  constructor
  ·have hn: ∀x,x∈newsL n0 m.rd (newsL n0 m.wr [])→x∈m.rd∧n0≤x:=fun x hx=>by
    rw[h1]at hx
    rcases newsL_of _ _ _ x hx with h|h
    ·exact h
    ·cases h
   have hj:freshJ b (newsL n0 m.rd (newsL n0 m.wr [])) (all.take j) 0=true:=by
    refine freshJ_ok _ _ _ _ fun k a hk=> ?_
    rw[List.getElem?_take]at hk
    split at hk
    ·rename_i hkj
     rw[Nat.zero_add]
     rcases h2 k a (by omega) hk with q|q
     ·exact .inl q
     ·exact .inr fun x hx=>q x (hn x hx).1 (hn x hx).2
    ·cases hk
   unfold freshN
   generalize newsL n0 m.rd (newsL n0 m.wr [])=z at hj
   cases z with
   |nil=>rfl
   |cons x z=>exact hj
  ·refine freshL_ok n0 all l bef (j+1) (by simpa using hl) fun k m b e1 e2=> ?_
   obtain⟨h3,h4⟩:=h (k+1) m b (by simpa using e1) (by simpa using e2)
   exact⟨h3,fun i a hi=>h4 i a (by omega)⟩
/-- Operations of which none turns anything,and each reads of what is new but what it is ordered behind. -/
theorem apartM_ok {n0:Nat}{l:List OpLog}{bef:List Nat}(hl:l.length≤bef.length)(h: ∀(k:Nat) (m:OpLog) (b:Nat),l[k]?=some m→bef[k]?=some b→m.wr=[]∧ ∀(i:Nat) (a:OpLog),i<k→l[i]?=some a→b.testBit i=true∨ ∀x∈m.rd,n0≤x→ ¬(a.lo≤x∧x<a.hi))(hw: ∀m∈l,m.wr=[]):apartM n0 l bef=true:=by
 unfold apartM
 rw[Bool.and_eq_true]
 refine⟨freshL_ok n0 l l bef 0 hl fun k m b e1 e2=> ?_, ?_⟩
 ·obtain⟨h1,h2⟩:=h k m b e1 e2
  exact⟨h1,fun i a hi=>h2 i a (by omega)⟩
 ·rw[Bool.or_eq_true]
  left
  unfold allQuiet
  rw[List.all_eq_true]
  intro m hm
  rw[hw m hm]
  rfl
theorem addL_ext (lim:Nat)(l base:List Nat): ∃d,addL lim l base=d++base∧ ∀x∈d,x<lim∧x∈l:=by
 induction l with
 |nil=>exact⟨[],rfl,fun _ h=>by cases h⟩
 |cons a l ih=>
  obtain⟨d,e,q⟩:=ih
  obtain⟨d2,e2,q2⟩:=notes_ext a lim (addL lim l base)
  refine⟨d2++d, ?_,fun x hx=> ?_⟩
  ·show notes a lim (addL lim l base)=_
   rw[e2,e,List.append_assoc]
  ·rcases List.mem_append.1 hx with hx|hx
   ·exact⟨(q2 x hx).1,by simp[(q2 x hx).2]⟩
   ·exact⟨(q x hx).1,by simp[(q x hx).2]⟩
theorem rdsL_ext (lim:Nat)(l:List OpLog)(base:List Nat): ∃d,rdsL lim l base=d++base∧ ∀x∈d,x<lim∧ ∃m∈l,x∈m.rd:=by
 induction l with
 |nil=>exact⟨[],rfl,fun _ h=>by cases h⟩
 |cons m l ih=>
  obtain⟨d,e,q⟩:=ih
  obtain⟨d2,e2,q2⟩:=addL_ext lim m.rd (rdsL lim l base)
  refine⟨d2++d, ?_,fun x hx=> ?_⟩
  ·show addL lim m.rd (rdsL lim l base)=_
   rw[e2,e,List.append_assoc]
  ·rcases List.mem_append.1 hx with hx|hx
   ·exact⟨(q2 x hx).1,m,by simp,(q2 x hx).2⟩
   ·obtain⟨h1,m',h2,h3⟩:=q x hx
    exact⟨h1,m',by simp[h2],h3⟩
theorem wrsL_nil (lim:Nat)(l:List OpLog)(base:List Nat)(h: ∀m∈l,m.wr=[]):wrsL lim l base=base:=by
 induction l with
 |nil=>rfl
 |cons m l ih=>
  show addL lim m.wr (wrsL lim l base)=base
  rw[h m (by simp),ih fun x hx=>h x (by simp[hx])]
  rfl
/-- Behind such a region. -/
theorem Ext.draw {F:Nat→Prop}{mem':T Cell}{next':Nat}{l:List OpLog}(h1:s.next≤next')(h2: ∀x,x<s.next→T.get mem' x=T.get s.mem x)(hw: ∀m∈l,m.wr=[])(hr: ∀m∈l,∀x∈m.rd,x<s.lim→F x):
  Ext F Non s ⟨mem',next',s.lim,rdsL s.lim l s.rd,wrsL s.lim l s.wr,s.cx⟩:=by
 obtain⟨d,e,q⟩:=rdsL_ext s.lim l s.rd
 exact⟨h1,rfl,rfl,fun x hx _=>h2 x hx,⟨d,e,fun x hx=>by obtain⟨a,m,b,c⟩:=q x hx;exact⟨a,hr m b x c a⟩⟩,⟨[],wrsL_nil _ _ _ hw,fun _ h=>by cases h⟩⟩
end
end Go.Proofs.YtapojfiplajfaaaGreatDoor.Am
/- Runs of the evaluator said of all states:regions and branches,by what they come to. -/
namespace Go.Proofs.YtapojfiplajfaaaGreatDoor.Am
section
variable {α β:Type}{s:St}
noncomputable def oS (x:Option α)(f:α→M β):M β:=fun s=>Option.rec (motive:=fun _=>R β) .none (fun a=>f a s) x
theorem W.oS {x:Option α}{a:α}{f:α→M β}{Q:β→St→Prop}(e:x=some a)(h:W (f a) s Q):W (oS x f) s Q:=by subst e;exact h
noncomputable def seqO (l:List (Option Value)):Option (List Value):=List.rec (motive:=fun _=>Option (List Value)) (some []) (fun x _ ih=>onO x fun v=>onO ih fun l=>some (v::l)) l
noncomputable def seqP (l:List (Nat×Option Value)):Option (List (Nat×Value)):=List.rec (motive:=fun _=>Option (List (Nat×Value))) (some []) (fun x _ ih=>onO x.2 fun v=>onO ih fun l=>some ((x.1,v)::l)) l
noncomputable def Cl.get {γ:Type}(c:Cl γ):γ:=Cl.rec (motive:=fun _=>γ) (fun f=>f) c
noncomputable def hdC (l:List Item):Code:=match l with| .code c::_=>c|_=> .skip
noncomputable def dsC (c:Code):List Nat:=match c with| .region _ ops _=>dstL ops.toList|_=>[]
noncomputable def brT (l:List Item):List Item:=match l with| .code (.cond _ a _)::k=> .code a::k|_=>[]
noncomputable def brF (l:List Item):List Item:=match l with| .code (.cond _ _ b)::k=> .code b::k|_=>[]
noncomputable def condX (l:List Item):Option Nat:=match l with| .code (.cond (.tmp t) _ _)::_=>some t|_=>none
theorem W.reg {E:Env}{n f nt g:Nat}{tm:T Value}{T P:List Item}{ki:CallKind}{ro:Option Nat}{nice:Env→CallT→CallT→Am.T Value→M (Am.T Value)}{Q:Value×FrameMode→St→Prop}(ht:skim 64 T=P)(hP:P= .code (hdC P)::P.tail)
  (he: ∀(E:Env) (call round:CallT) (td k:List Item) (ki:CallKind) (ro:Option Nat) (tm:Am.T Value) (s:St),codeF E call round ⟨f,nt,g,tm,td, .run,ki,ro⟩ k (hdC P) s=regF call round ⟨f,nt,g,tm,td, .run,ki,ro⟩ (dsC (hdC P)) (fun call round _ tm=>nice E call round tm) k s)
  (hn:0<n) (h:W (nice E (callW E (runF E (n-1))) (roundW (runF E (n-1))) tm) s fun tm s1=>W (runF E (n-1) ⟨f,nt,g,tm,P.tail, .run,ki,ro⟩) s1 Q):W (runF E n ⟨f,nt,g,tm,T, .run,ki,ro⟩) s Q:=by
 obtain⟨m,rfl⟩: ∃m,n=m+1:=⟨n-1,by omega⟩
 rw[hP]at ht
 refine W.code ht (W.cast (he E _ _ _ _ _ _ _ _) ?_)
 rw[Nat.add_sub_cancel]at h
 obtain⟨tm',s1,e,hq⟩:=h
 refine⟨.go ⟨f,nt,g,tm',P.tail, .run,ki,ro⟩,s1, ?_,hq⟩
 unfold regF
 simp only[e]
 rfl
theorem W.cond {E:Env}{n f nt g t:Nat}{tm:T Value}{T P:List Item}{ki:CallKind}{ro:Option Nat}{v:Bool}{Q:Value×FrameMode→St→Prop}(ht:skim 64 T=P)(hx:condX P=some t)(hv:Am.T.get tm t=some (.bool v))(hn:0<n)
  (h1:v=true→W (runF E (n-1) ⟨f,nt,g,tm,brT P, .run,ki,ro⟩) s Q) (h2:v=false→W (runF E (n-1) ⟨f,nt,g,tm,brF P, .run,ki,ro⟩) s Q):W (runF E n ⟨f,nt,g,tm,T, .run,ki,ro⟩) s Q:=by
 obtain⟨m,rfl⟩: ∃m,n=m+1:=⟨n-1,by omega⟩
 rw[Nat.add_sub_cancel]at h1 h2
 unfold condX at hx
 split at hx
 ·rename_i t' a b k
  cases hx
  refine W.code ht ?_
  show W (M.on (Am.T.get tm t) (condF ⟨f,nt,g,tm, .code (.cond (.tmp t) a b)::k, .run,ki,ro⟩ a b k)) s _
  refine W.on hv ?_
  cases v with
  |true=>exact W.pure (h1 rfl)
  |false=>exact W.pure (h2 rfl)
 ·cases hx
/-- What a region comes to. -/
structure RegEq (f nt g:Nat)(P:List Item)(nice:Env→CallT→CallT→T Value→M (T Value)):Prop where
 hd:P= .code (hdC P)::P.tail
 eq: ∀(E:Env) (call round:CallT) (td k:List Item) (ki:CallKind) (ro:Option Nat) (tm:T Value) (s:St),codeF E call round ⟨f,nt,g,tm,td, .run,ki,ro⟩ k (hdC P) s=regF call round ⟨f,nt,g,tm,td, .run,ki,ro⟩ (dsC (hdC P)) (fun call round _ tm=>nice E call round tm) k s
theorem RegEq.w {E:Env}{n f nt g:Nat}{tm:T Value}{T P:List Item}{ki:CallKind}{ro:Option Nat}{nice:Env→CallT→CallT→Am.T Value→M (Am.T Value)}{Q:Value×FrameMode→St→Prop}(q:RegEq f nt g P nice)(ht:skim 64 T=P)(hn:0<n)
 (h:W (nice E (callW E (runF E (n-1))) (roundW (runF E (n-1))) tm) s fun tm s1=>W (runF E (n-1) ⟨f,nt,g,tm,P.tail, .run,ki,ro⟩) s1 Q):W (runF E n ⟨f,nt,g,tm,T, .run,ki,ro⟩) s Q:=W.reg ht q.hd q.eq hn h
noncomputable def befC (c:Code):List Nat:=match c with| .region _ ops _=>(Region.before ops).toList|_=>[]
/-- What of a region that draws stands behind all the rest. -/
noncomputable def lastOps (E:Env)(g n:Nat)(c:Code):List COp:=match c with
 | .region _ ops _=>(match compOps E g n ops.toList ops.toList []with|some l=>dropC l (manyD l.length (Region.before ops).toList)|none=>[])
 |_=>[]
theorem W.regD {E:Env}{n f nt g:Nat}{tm:T Value}{T P:List Item}{ki:CallKind}{ro:Option Nat}{nice:Env→CallT→CallT→Am.T Value→M ((Rho×Am.T Value)×List OpLog)}{Q:Value×FrameMode→St→Prop}(ht:skim 64 T=P)(hP:P= .code (hdC P)::P.tail)
  (he: ∀(E:Env) (call round:CallT) (td k:List Item) (ki:CallKind) (ro:Option Nat) (tm:Am.T Value) (s:St),codeF E call round ⟨f,nt,g,tm,td, .run,ki,ro⟩ k (hdC P) s=M.bind (drawW (nice E call round tm) (befC (hdC P))) (endE call round ⟨f,nt,g,tm,td, .run,ki,ro⟩ (lastOps E g nt (hdC P)) (dsC (hdC P)) k) s)
  (hn:0<n) {bef:List Nat} (hb:befC (hdC P)=bef) (h:W (nice E (callW E (runF E (n-1))) (roundW (runF E (n-1))) tm) (dSt s.mem s.next) fun p s1=>apartM s.next p.2.reverse bef=true∧
   W (opsIn (callW E (runF E (n-1))) (roundW (runF E (n-1))) (lastOps E g nt (hdC P)) p.1.1 p.1.2) ⟨s1.mem,s1.next,s.lim,rdsL s.lim p.2 s.rd,wrsL s.lim p.2 s.wr,s.cx⟩ fun tm s1=>W (runF E (n-1) ⟨f,nt,g,tm,P.tail, .run,ki,ro⟩) s1 Q):W (runF E n ⟨f,nt,g,tm,T, .run,ki,ro⟩) s Q:=by
 obtain⟨m,rfl⟩: ∃m,n=m+1:=⟨n-1,by omega⟩
 rw[hP]at ht
 rw[Nat.add_sub_cancel]at h
 refine W.code ht (W.cast (he E _ _ _ _ _ _ _ _) (W.bind (W.draw ?_)))
 rw[hb]
 refine h.mono fun p s1 q=>⟨q.1, ?_⟩
 obtain⟨tm',s2,e,hq⟩:=q.2
 refine⟨.go ⟨f,nt,g,tm',P.tail, .run,ki,ro⟩,s2, ?_,hq⟩
 unfold endE
 simp only[e]
 rfl
structure DrawEq (f nt g:Nat)(P:List Item)(bef:List Nat)(nice:Env→CallT→CallT→T Value→M ((Rho×T Value)×List OpLog)):Prop where
 hd:P= .code (hdC P)::P.tail
 bef:befC (hdC P)=bef
 eq: ∀(E:Env) (call round:CallT) (td k:List Item) (ki:CallKind) (ro:Option Nat) (tm:T Value) (s:St),codeF E call round ⟨f,nt,g,tm,td, .run,ki,ro⟩ k (hdC P) s=M.bind (drawW (nice E call round tm) (befC (hdC P))) (endE call round ⟨f,nt,g,tm,td, .run,ki,ro⟩ (lastOps E g nt (hdC P)) (dsC (hdC P)) k) s
theorem DrawEq.w {E:Env}{n f nt g:Nat}{tm:T Value}{T P:List Item}{ki:CallKind}{ro:Option Nat}{bef:List Nat}{nice:Env→CallT→CallT→Am.T Value→M ((Rho×Am.T Value)×List OpLog)}{Q:Value×FrameMode→St→Prop}(q:DrawEq f nt g P bef nice)(ht:skim 64 T=P)(hn:0<n)
 (h:W (nice E (callW E (runF E (n-1))) (roundW (runF E (n-1))) tm) (dSt s.mem s.next) fun p s1=>apartM s.next p.2.reverse bef=true∧
  W (opsIn (callW E (runF E (n-1))) (roundW (runF E (n-1))) (lastOps E g nt (hdC P)) p.1.1 p.1.2) ⟨s1.mem,s1.next,s.lim,rdsL s.lim p.2 s.rd,wrsL s.lim p.2 s.wr,s.cx⟩ fun tm s1=>W (runF E (n-1) ⟨f,nt,g,tm,P.tail, .run,ki,ro⟩) s1 Q):W (runF E n ⟨f,nt,g,tm,T, .run,ki,ro⟩) s Q:=W.regD ht q.hd q.eq hn q.bef h
/-- A move. -/
noncomputable def mv {γ:Type}(x:Option Value)(K:Value→M γ):M γ:=M.bind (oS x fun a=>M.pure a) K
end
end Go.Proofs.YtapojfiplajfaaaGreatDoor.Am
/- Runs of the evaluator said of all states:the rules as equations,for simp. -/
namespace Go.Proofs.YtapojfiplajfaaaGreatDoor.Am
section
variable {α β:Type}{s:St}
theorem W_run {m:M α}{Q:α→St→Prop}{a:α}{s':St}(e:m s= .some a s'):W m s Q=Q a s':=propext ⟨fun⟨b,s1,e1,q⟩=>by rw[e]at e1;cases e1;exact q,fun q=>⟨a,s',e,q⟩⟩
theorem W_bind (m:M α)(f:α→M β)(Q:β→St→Prop):W (M.bind m f) s Q=W m s fun a s1=>W (f a) s1 Q:=propext ⟨fun⟨b,s2,e,q⟩=>by
 obtain⟨a,s1,e1,e2⟩:=bind_some e
 exact⟨a,s1,e1,b,s2,e2,q⟩,W.bind⟩
theorem W_pure (a:α)(Q:α→St→Prop):W (M.pure a) s Q=Q a s:=W_run rfl
theorem W_mv {γ:Type}(a:Value)(K:Value→M γ)(Q:γ→St→Prop):W (mv (some a) K) s Q=W (K a) s Q:=(W_bind _ _ _).trans (W_pure a _)
theorem W_oS (a:α)(f:α→M β)(Q:β→St→Prop):W (oS (some a) f) s Q=W (f a) s Q:=propext Iff.rfl
theorem W_on (a:α)(f:α→M β)(Q:β→St→Prop):W (M.on (some a) f) s Q=W (f a) s Q:=propext Iff.rfl
theorem W_chk (m:M α)(Q:α→St→Prop):W (M.chk true m) s Q=W m s Q:=propext Iff.rfl
theorem W_ifT (x y:M α)(Q:α→St→Prop):W (M.if true x y) s Q=W x s Q:=propext Iff.rfl
theorem W_ifF (x y:M α)(Q:α→St→Prop):W (M.if false x y) s Q=W y s Q:=propext Iff.rfl
theorem W_setF {γ:Type}(d:Nat)(v:Value)(tm:T Value)(K:T Value→M γ)(Q:γ→St→Prop):W (setF d v tm K) s Q=W (K (T.set tm d v)) s Q:=by
 obtain⟨x,a,b,e⟩:=T.set_N tm d v
 unfold setF
 rw[e]
theorem W_setT {γ:Type}(d:Nat)(v:Value)(tm:T Value)(K:T Value→M γ)(Q:γ→St→Prop):W (setT d v tm K) s Q=W (K (T.set tm d v)) s Q:=by
 obtain⟨x,a,b,e⟩:=T.set_N tm d v
 unfold setT
 rw[e]
/-- A frame's end. -/
theorem W.end' {E:Env}{n f nt g:Nat}{tm:T Value}{todo P:List Item}{ki:CallKind}{fn:Func}{rs:List Nat}{vs:List Value}{up:Option FrameMode}{Q:Value×FrameMode→St→Prop}(ht:skim 64 todo=P)(hP:(∃k,P= .code .ret::k)∨P=[])(hn:2≤n)
  (hf:E.fn.get f=some fn) (hr:fn.results.toList=rs.map .tmp) (hc:s.cx= .cx up (some [])) (hv:rs.map (Am.T.get tm)=vs.map some) (q:Q (tupV vs,up.getD .run) s):W (runF E n ⟨f,nt,g,tm,todo, .run,ki,none⟩) s Q:=by
 obtain⟨m,rfl⟩: ∃m,n=m+2:=⟨n-2,by omega⟩
 subst ht
 exact W.ret hP hf hr hv hc q
theorem isK_bool (b:Bool):isK (.bool b)=true:=rfl
theorem isB_tt:isB (.bool true) true=true:=rfl
theorem isB_tf:isB (.bool true) false=false:=rfl
theorem isB_ft:isB (.bool false) true=false:=rfl
theorem isB_ff:isB (.bool false) false=true:=rfl
theorem seqO_nil:seqO []=some []:=rfl
theorem seqO_cons (v:Value)(l:List (Option Value)):seqO (some v::l)=onO (seqO l) fun l=>some (v::l):=rfl
theorem seqP_nil:seqP []=some []:=rfl
theorem seqP_cons (k:Nat)(v:Value)(l:List (Nat×Option Value)):seqP ((k,some v)::l)=onO (seqP l) fun l=>some ((k,v)::l):=rfl
theorem onO_some' {γ:Type}(a:α)(K:α→Option γ):onO (some a) K=K a:=rfl
theorem W_pick (c:Bool)(a b:Value)(Q:Value→St→Prop):W (kPick (.bool c) a b) s Q=Q (if c then a else b) s:=by
 refine W_run ?_
 cases c<;>rfl
section
variable {E:Env}{t:Nat}{xo yo:Operand}{Q:Value→St→Prop}
theorem W_add64 (a b:Int):W (Cl.get (aBin E .add t xo yo) (.int .i64 a) (.int .i64 b)) s Q=Q (.int .i64 (wrap64 (a+b))) s:=W_run (i64_add _ a b)
theorem W_lss64 (a b:Int):W (Cl.get (aBin E .lss t xo yo) (.int .i64 a) (.int .i64 b)) s Q=Q (.bool (decide (a<b))) s:=W_run (i64_lss _ a b)
theorem W_gtr64 (a b:Int):W (Cl.get (aBin E .gtr t xo yo) (.int .i64 a) (.int .i64 b)) s Q=Q (.bool (decide (b<a))) s:=W_run (i64_gtr _ a b)
theorem W_leq64 (a b:Int):W (Cl.get (aBin E .leq t xo yo) (.int .i64 a) (.int .i64 b)) s Q=Q (.bool (decide (a≤b))) s:=W_run (i64_leq _ a b)
theorem W_eql64 (a b:Int):W (Cl.get (aBin E .eql t xo yo) (.int .i64 a) (.int .i64 b)) s Q=Q (.bool (decide (a=b))) s:=W_run (i64_eql _ a b)
theorem W_neq64 (a b:Int):W (Cl.get (aBin E .neq t xo yo) (.int .i64 a) (.int .i64 b)) s Q=Q (.bool (!decide (a=b))) s:=W_run (i64_neq _ a b)
end
end
end Go.Proofs.YtapojfiplajfaaaGreatDoor.Am
/- Runs of the evaluator said of all states:operations on memory,on rows,on numbers. -/
namespace Go.Proofs.YtapojfiplajfaaaGreatDoor.Am
/-! ### Types,as far as operations ask -/
noncomputable def tyS (E:Env)(t:Nat):Option (Nat×Bool):=match T.get E.ty t with|some i=>some (i.size,i.agg)|none=>none
noncomputable def slN (E:Env)(t:Nat):Option Nat:=match T.get E.ty t with
 |some i=>(match i.u with| .slice e=>(match T.get E.ty e with|some ie=>some ie.size|none=>none)|_=>none)
 |none=>none
noncomputable def fldN (E:Env)(t f:Nat):Option (Nat×Nat×Bool):=match T.get E.ty t with
 |some i=>(match i.u with| .struct fs=>(match fs.toList[f]? with|some fd=>(match T.get E.ty fd.type with|some fi=>some (fd.offset,fi.size,fi.agg)|none=>none)|none=>none)|_=>none)
 |none=>none
noncomputable def zeroL (E:Env)(t:Nat):Option (List Value):=match T.get E.ty t with|some i=>some i.zero|none=>none
section
variable {α β:Type}{s:St}{E:Env}{t:Nat}
theorem tyS_inv {n:Nat}{g:Bool}(h:tyS E t=some (n,g)): ∃i,T.get E.ty t=some i∧i.size=n∧i.agg=g:=by
 unfold tyS at h
 split at h
 ·rename_i i e
  cases h
  exact⟨i,e,rfl,rfl⟩
 ·cases h
theorem slN_inv {n:Nat}(h:slN E t=some n): ∃i e ie,T.get E.ty t=some i∧i.u= .slice e∧T.get E.ty e=some ie∧ie.size=n:=by
 unfold slN at h
 split at h
 ·rename_i i e
  split at h
  ·rename_i e2 q
   split at h
   ·rename_i ie q2
    cases h
    exact⟨i,e2,ie,e,q,q2,rfl⟩
   ·cases h
  ·cases h
 ·cases h
theorem fldN_inv {f off sz:Nat}{g:Bool}(h:fldN E t f=some (off,sz,g)): ∃i fs fd fi,T.get E.ty t=some i∧i.u= .struct fs∧fs.toList[f]?=some fd∧T.get E.ty fd.type=some fi∧fd.offset=off∧fi.size=sz∧fi.agg=g:=by
 unfold fldN at h
 split at h
 ·rename_i i e
  split at h
  ·rename_i fs q
   split at h
   ·rename_i fd q2
    split at h
    ·rename_i fi q3
     cases h
     exact⟨i,fs,fd,fi,e,q,q2,q3,rfl,rfl,rfl⟩
    ·cases h
   ·cases h
  ·cases h
 ·cases h
theorem W.ti {i:TI}{Q:TI→St→Prop}(h:T.get E.ty t=some i)(q:Q i s):W (ti E t) s Q:=W.ofOpt h q
/-! ### Loads and stores -/
theorem W.load1 {b o:Nat}{v:Value}{Q:Value→St→Prop}(ht:tyS E t=some (1,false))(h:At s b o v)(q:Q v (s.rdN (b+o))):W (kLoad E t (.pointer (some ⟨b,o,none⟩))) s Q:=by
 obtain⟨i,h1,h2,h3⟩:=tyS_inv ht
 refine W.bind (W.pure (W.bind (W.ti h1 ?_)))
 show W (M.if i.agg _ _) s Q
 rw[h3]
 exact W.rdV h q
theorem W.loadA {b o n:Nat}{l:List Value}{Q:Value→St→Prop}(ht:tyS E t=some (n,true))(h:Row s b o l)(hl:l.length=n)
  (q: ∀s1,s1.mem=s.mem→s1.next=s.next→Ext (In b o n) Non s s1→Q (.agg l.toArray) s1):W (kLoad E t (.pointer (some ⟨b,o,none⟩))) s Q:=by
 obtain⟨i,h1,h2,h3⟩:=tyS_inv ht
 subst hl
 refine W.bind (W.pure (W.bind (W.ti h1 ?_)))
 show W (M.if i.agg (M.bind (Am.rdL i.size ⟨b,o,none⟩) fun l=>M.pure (Value.agg l.toArray)) _) s Q
 rw[h3,h2]
 exact W.bind (W.rdL h fun s1 e1 e2 e3=>W.pure (q s1 e1 e2 e3))
theorem W.store {b o n:Nat}{g:Bool}{v:Value}{Q:Value→St→Prop}(ht:tyS E t=some (n,g))(hl:(cellsOf v).length=n)(h1:(cellsOf v).all oneCell=true)(h: ∀i,i<n→ ∃u,Own s b (o+i) u)
  (q: ∀s1,s1.next=s.next→Ext (In b o n) (In b o n) s s1→OwnRow s1 b o (cellsOf v)→Q undef s1):W (kStore E t (.pointer (some ⟨b,o,none⟩)) v) s Q:=by
 obtain⟨i,g1,g2,g3⟩:=tyS_inv ht
 subst hl
 refine W.bind (W.pure (W.bind (W.bind (W.ti g1 (W.chk ?_ (W.wrL h h1 fun s1 e1 e2 e3=>W.pure (q s1 e1 e2 e3)))))))
 rw[g2]
 exact Nat.beq_refl _
theorem W.alloc {z:List Value}{Q:Value→St→Prop}(ht:zeroL E t=some z)(q: ∀s1,s1.next=s.next+z.length+1→Ext Non Non s s1→OwnRow s1 s.next 0 z→Q (.pointer (some ⟨s.next,0,none⟩)) s1):W (kAlloc E t) s Q:=by
 unfold zeroL at ht
 split at ht
 ·rename_i i e
  cases ht
  exact W.bind (W.ti e (W.bind (W.newL fun s1 e1 e2 e3=>W.pure (q s1 e1 e2 e3))))
 ·cases ht
theorem W.box {v:Value}{Q:Value→St→Prop}(q: ∀s1,s1.next=s.next+(cellsOf v).length+1→Ext Non Non s s1→OwnRow s1 s.next 0 (cellsOf v)→Q (.pointer (some ⟨s.next,0,none⟩)) s1):W (kBox v) s Q:=
 W.bind (W.newL fun s1 e1 e2 e3=>W.pure (q s1 e1 e2 e3))
theorem W_fld {f off sz b o:Nat}{g:Bool}(h:fldN E t f=some (off,sz,g))(h0:0<sz)(Q:Value→St→Prop):W (kFld E t (.pointer (some ⟨b,o,none⟩)) f) s Q=Q (.pointer (some ⟨b,o+off,none⟩)) s:=by
 obtain⟨i,fs,fd,fi,h1,h2,h3,h4,h5,h6,h7⟩:=fldN_inv h
 subst h5;subst h6
 refine W_run ?_
 unfold kFld
 rw[bind_run (show ti E t s= .some i s by unfold ti;rw[h1];rfl),bind_run (show asA (.pointer (some ⟨b,o,none⟩)) s= .some ⟨b,o,none⟩ s from rfl)]
 rw[bind_run (show fldOf E i.u f s= .some (fd.offset,fi,fd.type) s by unfold fldOf;rw[h2];simp only[h3];exact bind_run (show ti E fd.type s= .some fi s by unfold ti;rw[h4];rfl))]
 show M.chk (Nat.blt 0 fi.size) (ptrA (addA ⟨b,o,none⟩ fd.offset)) s=_
 rw[blt_t h0]
 show ptrA ⟨b,o+fd.offset,none⟩ s=_
 unfold ptrA
 rw[fA_eq]
 rfl
theorem W_idxSl {sz b o n c k:Nat}{kd:IntKind}(h:slN E t=some sz)(hk:k<n)(Q:Value→St→Prop):W (kIdxA E t (.slice (some ⟨b,o,none⟩) n c) (.int kd (k:Nat))) s Q=Q (.pointer (some ⟨b,o+k*sz,none⟩)) s:=by
 obtain⟨i,e,ie,h1,h2,h3,h4⟩:=slN_inv h
 subst h4
 refine W_run ?_
 unfold kIdxA
 rw[bind_run (show ti E t s= .some i s by unfold ti;rw[h1];rfl),bind_run (show asN (.int kd (k:Nat)) s= .some k s from rfl)]
 unfold idxN
 rw[h2]
 simp only
 rw[bind_run (show ti E e s= .some ie s by unfold ti;rw[h3];rfl)]
 rw[blt_t hk]
 show ptrA ⟨b,o+k*ie.size,none⟩ s=_
 unfold ptrA
 rw[fA_eq]
 rfl
theorem W_nil (a:Addr)(Q:Value→St→Prop):W (kNil (.pointer (some a))) s Q=Q (.pointer (some a)) s:=W_run rfl
theorem W_lenSl {sz n c:Nat}{p:Option Addr}(h:slN E t=some sz)(Q:Value→St→Prop):W (aBuiltin E .len [t] [.slice p n c]) s Q=Q (.int .i64 (n:Nat)) s:=by
 obtain⟨i,e,ie,h1,h2,h3,h4⟩:=slN_inv h
 refine W_run ?_
 show aLen E t (.slice p n c) s=_
 unfold aLen
 rw[bind_run (show ti E t s= .some i s by unfold ti;rw[h1];rfl)]
 rw[h2]
 show pN n s=_
 unfold pN
 rw[fN_eq]
 rfl
theorem W_ext {k:Nat}{vs:Array Value}{v:Value}(h:vs.toList[k]?=some v)(Q:Value→St→Prop):W (kExt k (.tuple vs)) s Q=Q v s:=W_run (by show M.ofOpt (vs.toList[k]?) s=_;rw[h];rfl)
theorem W_callV {call round:CallT}{f:Nat}{l:List Value}(Q:Value→St→Prop):W (callV call round (.func (.func f) #[] #[]) l) s Q=W (call f l) s Q:=by
 show W (call f ([]++(l++[]))) s Q=_
 rw[List.append_nil,List.nil_append]
theorem W.orc {ih:AF→M (Value×FrameMode)}{f:Nat}{m:List Value→M Value}{args:List Value}{Q:Value→St→Prop}(ho:E.orc.get f=some m)(h:W (m args) s Q):W (callW E ih f args) s Q:=by
 unfold callW
 rw[ho]
 exact h
end
end Go.Proofs.YtapojfiplajfaaaGreatDoor.Am
/- Runs of the evaluator said of all states:rows of bytes,texts. -/
namespace Go.Proofs.YtapojfiplajfaaaGreatDoor.Am
section
variable {α β:Type}{s:St}{E:Env}{t:Nat}
/-- A byte. -/
abbrev u8 (n:Nat):Value:= .int .u8 (n:Int)
abbrev u8l (l:List Nat):List Value:=l.map fun n:Nat=>Value.int .u8 (n:Int)
theorem u8l_length (l:List Nat):(u8l l).length=l.length:=by simp
/-- A slice that reads as these bytes. -/
def Bs (s:St)(v:Value)(l:List Nat):Prop:=
 (v= .slice none 0 0∧l=[])∨ ∃b o c,v= .slice (some ⟨b,o,none⟩) l.length c∧l.length≤c%capU∧sizeOk c 1=true∧Row s b o (u8l l)
/-- Where it lies. -/
def BsF (v:Value):Nat→Prop:=match v with
 | .slice (some ⟨b,o,_⟩) n _=>In b o n
 |_=>Non
theorem Bs.ext {F G:Nat→Prop}{s s':St}{v:Value}{l:List Nat}(h:Bs s v l)(e:Ext F G s s')(hG: ∀x,BsF v x→ ¬G x):Bs s' v l:=by
 rcases h with h|⟨b,o,c,rfl,h1,h2,h3⟩
 ·exact .inl h
 ·refine .inr ⟨b,o,c,rfl,h1,h2,h3.ext e fun i hi=>hG _ ?_⟩
  rw[u8l_length]at hi
  exact⟨by omega,by omega⟩
theorem Bs.ext0 {F:Nat→Prop}{s s':St}{v:Value}{l:List Nat}(h:Bs s v l)(e:Ext F Non s s'):Bs s' v l:=h.ext e fun _ _=>id
theorem Bs.same {s s':St}{v:Value}{l:List Nat}(h:Bs s v l)(hm:s'.mem=s.mem)(hn:s'.next=s.next):Bs s' v l:=by
 rcases h with h|⟨b,o,c,h0,h1,h2,h3⟩
 ·exact .inl h
 ·exact .inr ⟨b,o,c,h0,h1,h2,fun i v e=>(h3 i v e).same hm hn⟩
/-- It is a slice of so many elements. -/
theorem Bs.sl {v:Value}{l:List Nat}(h:Bs s v l): ∃p c,v= .slice p l.length c:=by
 rcases h with⟨rfl,rfl⟩|⟨b,o,c,rfl,_⟩
 ·exact⟨_,_,rfl⟩
 ·exact⟨_,_,rfl⟩
theorem Bs.len {v:Value}{l:List Nat}{sz:Nat}(h:Bs s v l)(ht:slN E t=some sz)(Q:Value→St→Prop):W (aBuiltin E .len [t] [v]) s Q=Q (.int .i64 (l.length:Nat)) s:=by
 obtain⟨p,c,rfl⟩:=h.sl
 exact W_lenSl ht Q
theorem Row.at {b o:Nat}{l:List Nat}(h:Row s b o (u8l l)){k x:Nat}(hk:l[k]?=some x):At s b (o+k) (u8 x):=h k _ (by rw[List.getElem?_map,hk];rfl)
theorem Row.take {b o n:Nat}{l:List Value}(h:Row s b o l):Row s b o (l.take n):=fun i v e=>by
 rw[List.getElem?_take]at e
 split at e
 ·exact h i v e
 ·cases e
theorem Row.drop {b o n:Nat}{l:List Value}(h:Row s b o l):Row s b (o+n) (l.drop n):=fun i v e=>by
 rw[List.getElem?_drop]at e
 have:=h _ v e
 rw[show o+n+i=o+(n+i) by omega]
 exact this
theorem OwnRow.take {b o n:Nat}{l:List Value}(h:OwnRow s b o l):OwnRow s b o (l.take n):=fun i v e=>by
 rw[List.getElem?_take]at e
 split at e
 ·exact h i v e
 ·cases e
theorem OwnRow.drop {b o n:Nat}{l:List Value}(h:OwnRow s b o l):OwnRow s b (o+n) (l.drop n):=fun i v e=>by
 rw[List.getElem?_drop]at e
 have:=h _ v e
 rw[show o+n+i=o+(n+i) by omega]
 exact this
noncomputable def isStrT (E:Env)(t:Nat):Bool:=match T.get E.ty t with|some i=>(match i.u with| .string=>true|_=>false)|none=>false
end
end Go.Proofs.YtapojfiplajfaaaGreatDoor.Am
/- Runs of the evaluator said of all states:slices made,cut,appended to,copied. -/
namespace Go.Proofs.YtapojfiplajfaaaGreatDoor.Am
/-- Of a slice's type:its element's cells,bytes,zero. -/
noncomputable def elT (E:Env)(t:Nat):Option (Nat×Nat×List Value):=match T.get E.ty t with
 |some i=>(match i.u with| .slice e=>(match T.get E.ty e with|some ie=>some (ie.size,ie.bytes,ie.zero)|none=>none)|_=>none)
 |none=>none
section
variable {α β:Type}{s:St}{E:Env}{t t2:Nat}
theorem elT_inv {sz by':Nat}{z:List Value}(h:elT E t=some (sz,by',z)): ∃i e ie,T.get E.ty t=some i∧i.u= .slice e∧T.get E.ty e=some ie∧ie.size=sz∧ie.bytes=by'∧ie.zero=z:=by
 unfold elT at h
 split at h
 ·rename_i i h1
  split at h
  ·rename_i e hu
   split at h
   ·rename_i ie he
    cases h
    exact⟨i,e,ie,h1,hu,he,rfl,rfl,rfl⟩
   ·cases h
  ·cases h
 ·cases h
/-- What is read of a source. -/
def Src (s:St)(sz:Nat)(x:Value)(n:Nat)(l:List Value)(F:Nat→Prop):Prop:=
 (∃p c,x= .slice p n c)∧ ∃s1,srcL sz x n s= .some l s1∧s1.mem=s.mem∧s1.next=s.next∧Ext F Non s s1
/-- What is appended:elements of a source,or so many zeros. -/
def SrcG (s:St)(sz by':Nat)(g:Bool)(z:List Value)(x:Value)(n:Nat)(l:List Value)(F:Nat→Prop):Prop:=
 ∀ie:TI,ie.size=sz→ie.bytes=by'→ie.zero=z→(∀s':St,appN g ie.bytes x s'= .some n s')∧ ∃s1,appL g ie x n s= .some l s1∧s1.mem=s.mem∧s1.next=s.next∧Ext F Non s s1
theorem Src.g {sz by' n:Nat}{z l:List Value}{x:Value}{F:Nat→Prop}(h:Src s sz x n l F):SrcG s sz by' false z x n l F:=fun ie h1 _ _=>by
 obtain⟨⟨p,c,rfl⟩,s1,e,m1,n1,x1⟩:=h
 subst h1
 exact⟨fun _=>rfl,s1,e,m1,n1,x1⟩
/-- What an append lays anew:a block of its own,with a mark of its room. -/
structure Fresh1 (s s':St)(sz n:Nat)(l:List Value)(v:Value)(b:Nat):Prop where
 val:v= .slice (some ⟨b,0,none⟩) n (capU*((b+n*sz)*1024+sz)+n)
 new:s.next≤b
 own:OwnRow s' b 0 l
 len:l.length=n*sz
 tok: ∃q,q%1024=sz∧T.get s'.mem (b+n*sz)=some (.O (.tok false q))
 lt:b+n*sz<s'.next
end
end Go.Proofs.YtapojfiplajfaaaGreatDoor.Am
/- Runs of the evaluator said of all states:slices cut,built,made,copied. -/
namespace Go.Proofs.YtapojfiplajfaaaGreatDoor.Am
section
variable {α β:Type}{s:St}{E:Env}{t t2:Nat}
theorem sizeOk_exact {c sz:Nat}(h:c<capU):sizeOk c sz=true:=by
 unfold sizeOk
 show Bool.rec (motive:=fun _=>Bool) (Nat.beq (Nat.mod (c/capU) 1024) sz) true (Nat.beq (c/capU) 0)=true
 rw[Nat.div_eq_of_lt h]
 rfl
/-- A literal of elements,all told. -/
theorem W.buildS (hbd:s.lim≤s.next){sz by' len:Nat}{z r:List Value}{ps:List (Nat×Value)}{Q:Value→St→Prop}(ht:elT E t=some (sz,by',z))(h1:len*sz≤16777216)(hr:fillAll (fun k=>some (k*sz,sz)) ps (rep len z)=some r)(h2:len<capU)
  (q: ∀s2,s2.next=s.next+r.length+1→Ext Non Non s s2→OwnRow s2 s.next 0 r→Q (.slice (some ⟨s.next,0,none⟩) len len) s2):W (aBuildS E t len ps) s Q:=by
 obtain⟨i,e,ie,g1,g2,g3,g4,g5,g6⟩:=elT_inv ht
 subst g4;subst g6
 refine W.bind (W.ti g1 ?_)
 rw[g2]
 refine W.bind (W.ti g3 (W.chk ?_ (W.bind (W.ofOpt hr (W.bind (W.newL fun s2 n2 x2 r2=>W.bind (W.wrC ?_ (W.pure (q _ n2 ?_ ?_)))))))))
 ·rw[Bool.and_eq_true]
  exact⟨Nat.ble_eq_true_of_le h1,blt_t h2⟩
 ·show s.next+r.length<s2.next
  omega
 ·obtain⟨d2,p3,p4⟩:=x2.rd
  obtain⟨d4,p7,p8⟩:=x2.wr
  refine⟨x2.nxt,x2.lim,x2.cx,fun y q1 q2=> ?_,⟨d2,p3,p4⟩,⟨d4, ?_,p8⟩⟩
  ·show T.get (T.set s2.mem _ _) y=_
   rw[T.get_set,if_neg,x2.mem y q1 q2]
   show y≠s.next+r.length
   omega
  ·show notes _ s2.lim s2.wr=_
   unfold notes
   rw[blt_f]
   ·exact p7
   ·show s2.lim≤s.next+r.length
    rw[x2.lim];omega
 ·intro k v hk
  have hk':=(List.getElem?_eq_some_iff.1 hk).1
  have:=r2 k v hk
  refine⟨this.1, ?_⟩
  show T.get (T.set s2.mem _ _) _=_
  rw[T.get_set,if_neg]
  ·exact this.2
  ·show s.next+(0+k)≠s.next+r.length
   omega
theorem W.mkSl {sz by' l c:Nat}{k1 k2:IntKind}{z:List Value}{Q:Value→St→Prop}(ht:elT E t=some (sz,by',z))(h1:l≤c)(h2:c*(by'+1)≤16777216)
  (q: ∀s2,s2.next=s.next+(rep c z).length+1→Ext Non Non s s2→OwnRow s2 s.next 0 (rep c z)→Q (.slice (some ⟨s.next,0,none⟩) l c) s2):W (kMkSl E t (.int k1 (l:Nat)) (.int k2 (c:Nat))) s Q:=by
 obtain⟨i,e,ie,g1,g2,g3,g4,g5,g6⟩:=elT_inv ht
 subst g5;subst g6
 refine W.bind (W.ti g1 (W.bind (W.pure (W.bind (W.pure ?_)))))
 unfold Am.mkSl
 rw[g2]
 refine W.bind (W.ti g3 (W.chk ?_ (W.bind (W.newL fun s2 n2 x2 r2=>W.pure (q _ n2 x2 r2)))))
 rw[Bool.and_eq_true]
 exact⟨Nat.ble_eq_true_of_le h1,Nat.ble_eq_true_of_le h2⟩
theorem W.copy {sz by' b o n c m k:Nat}{z l:List Value}{p:Option Addr}{c2:Nat}{F:Nat→Prop}{Q:Value→St→Prop}(ht:elT E t=some (sz,by',z))(hk:k=Nat.min n m)
  (hx: ∃s1,srcL sz (.slice p m c2) k s= .some l s1∧s1.mem=s.mem∧s1.next=s.next∧Ext F Non s s1) (hl:l.length=k*sz) (h1:l.all oneCell=true) (own: ∀i,i<k*sz→ ∃u,Own s b (o+i) u)
  (q: ∀s2,s2.next=s.next→Ext (fun x=>F x∨In b o (k*sz) x) (In b o (k*sz)) s s2→OwnRow s2 b o l→Q (.int .i64 (k:Nat)) s2):W (aBuiltin E .copy [t,t2] [.slice (some ⟨b,o,none⟩) n c, .slice p m c2]) s Q:=by
 obtain⟨i,e,ie,g1,g2,g3,g4,g5,g6⟩:=elT_inv ht
 obtain⟨s1,e1,m1,n1,x1⟩:=hx
 subst g4
 show W (aCopy E t (some ⟨b,o,none⟩) n (.slice p m c2)) s Q
 refine W.bind (W.ti g1 ?_)
 rw[g2]
 refine W.bind (W.ti g3 (W.bind (W.pure ?_)))
 refine W.fN ?_
 rw[←hk]
 refine W.bind (W.of e1 ?_)
 have own1: ∀i,i<l.length→ ∃u,Own s1 b (o+i) u:=fun i hi=>by
  obtain⟨u,hu⟩:=own i (by rw[←hl];exact hi)
  exact⟨u,hu.same m1 n1⟩
 refine W.bind (m:=Am.wrL l ⟨b,o,none⟩) (W.wrL own1 h1 fun s2 n2 x2 r2=> ?_)
 show W (Am.fN k fun n=>M.pure (.int .i64 (.ofNat n))) s2 Q
 refine W.fN (W.pure (q s2 (n2.trans n1) ?_ r2))
 rw[hl]at x2
 obtain⟨d1,p1,p2⟩:=x1.rd
 obtain⟨d2,p3,p4⟩:=x2.rd
 obtain⟨d3,p5,p6⟩:=x1.wr
 obtain⟨d4,p7,p8⟩:=x2.wr
 refine⟨Nat.le_of_eq (n2.trans n1).symm,x2.lim.trans x1.lim,x2.cx.trans x1.cx,fun y q1 q2=>by rw[x2.mem y (by rw[n1];exact q1) q2,m1],⟨d2++d1,by rw[p3,p1,List.append_assoc],fun y hy=> ?_⟩,⟨d4++d3,by rw[p7,p5,List.append_assoc],fun y hy=> ?_⟩⟩
 ·rcases List.mem_append.1 hy with hy|hy
  ·have:=p4 y hy
   rw[x1.lim]at this
   exact⟨this.1, .inr this.2⟩
  ·exact⟨(p2 y hy).1, .inl (p2 y hy).2⟩
 ·rcases List.mem_append.1 hy with hy|hy
  ·have:=p8 y hy
   rw[x1.lim]at this
   exact this
  ·exact(p6 y hy).2.elim
/-- On,where what is turned is new. -/
theorem Ext.step {F F' G':Nat→Prop}{s s1 s2:St}(h:Ext F Non s s1)(k:Ext F' G' s1 s2)(hb:s.lim≤s.next)(hF: ∀l,l<s.lim→F' l→F l)(hG: ∀l,G' l→s.next≤l):Ext F Non s s2:=
 h.trans k hb hF fun l hl hg=>absurd (hG l hg) (Nat.not_le_of_lt hl)
theorem OwnRow.append {b o:Nat}{l l':List Value}(h:OwnRow s b o l)(k:OwnRow s b (o+l.length) l'):OwnRow s b o (l++l'):=fun i v e=>by
 by_cases hi:i<l.length
 ·rw[List.getElem?_append_left hi]at e
  exact h i v e
 ·rw[List.getElem?_append_right (by omega)]at e
  have:=k _ v e
  rw[show o+l.length+(i-l.length)=o+i by omega]at this
  exact this
/-- So many places of one's own. -/
def Owned (s:St)(b o n:Nat):Prop:= ∀j,j<n→ ∃u,Own s b (o+j) u
theorem Owned.ext {F:Nat→Prop}{b o n a:Nat}{l:List Value}{s2:St}(h:Owned s b o n)(e:Ext F (In b a l.length) s s2)(k:OwnRow s2 b a l):Owned s2 b o n:=fun j hj=>by
 by_cases hq:In b a l.length (b+(o+j))
 ·obtain⟨h1,h2⟩:=hq
  have hi:o+j-a<l.length:=by omega
  refine⟨l[o+j-a], ?_⟩
  have:=k (o+j-a) (l[o+j-a]) (List.getElem?_eq_getElem hi)
  rw[show a+(o+j-a)=o+j by omega]at this
  exact this
 ·obtain⟨u,hu⟩:=h j hj
  exact⟨u,hu.ext e hq⟩
theorem wrap_u8 (n:Nat):IntKind.u8.wrap (n:Int)=((n%256:Nat):Int):=by
 have e:IntKind.u8.wrap (n:Int)=(n:Int)%256:=by unfold IntKind.wrap;simp[IntKind.bits,IntKind.signed]
 rw[e]
 omega
/-! Within a region that draws -/
theorem oS_some {γ:Type}(a:α)(f:α→M γ):oS (some a) f=f a:=rfl
theorem run_of_W {m:M α}{v:α}(h: ∀(s:St) (Q:α→St→Prop),W m s Q=Q v s)(s:St):m s= .some v s:=by
 have:W m s fun a s'=>a=v∧s'=s:=by rw[h];exact⟨rfl,rfl⟩
 obtain⟨a,s',e,rfl,rfl⟩:=this
 exact e
/-- An operation that leaves all as it is. -/
theorem W_dq {γ:Type}{m:M α}{v:α}{f:α×OpLog→M γ}{mem:T Cell}{next:Nat}{Q:γ→St→Prop}(h: ∀(s:St) (Q:α→St→Prop),W m s Q=Q v s):W (M.bind (apartO m) f) (dSt mem next) Q=W (f (v,⟨next,next,[],[]⟩)) (dSt mem next) Q:=by
 rw[W_bind]
 refine W_run ?_
 show Am.apartO m ⟨mem,next,0,[],[], .no⟩=_
 unfold Am.apartO
 have e:=run_of_W h ⟨mem,next,next,[],[], .no⟩
 simp only[e]
 rfl
theorem W_dpure {γ:Type}(v:α)(f:α×OpLog→M γ)(mem:T Cell)(next:Nat)(Q:γ→St→Prop):W (M.bind (apartO (M.pure v)) f) (dSt mem next) Q=W (f (v,⟨next,next,[],[]⟩)) (dSt mem next) Q:=W_dq fun _ _=>W_pure _ _
/-- A load. -/
theorem W.dload {γ:Type}{b o:Nat}{v:Value}{f:Value×OpLog→M γ}{mem:T Cell}{next:Nat}{Q:γ→St→Prop}(ht:tyS E t=some (1,false))(h:At (dSt mem next) b o v)
  (k: ∀rd:List Nat,(∀x∈rd,x=b+o)→W (f (v,⟨next,next,rd,[]⟩)) (dSt mem next) Q):W (M.bind (apartO (kLoad E t (.pointer (some ⟨b,o,none⟩)))) f) (dSt mem next) Q:=by
 refine W.dop (W.load1 ht (h.same rfl rfl) ⟨fun x=>x=b+o,Ext.rdN _ _ fun _=>rfl,fun rd hr=>k rd fun x hx=>(hr x hx).2⟩)
/-- Operations that make nothing and turn nothing. -/
theorem apartM_q {n0:Nat}{l:List OpLog}{bef:List Nat}(hl:l.length≤bef.length)(h: ∀m∈l,m.wr=[]∧m.lo=m.hi):apartM n0 l bef=true:=
 apartM_ok hl (fun k m b e1 _=>⟨(h m (List.mem_of_getElem? e1)).1,fun i a _ e3=> .inr fun x _ _ hx=>by have:=(h a (List.mem_of_getElem? e3)).2;omega⟩) fun m hm=>(h m hm).1
noncomputable def ptrT (E:Env)(t:Nat):Bool:=match T.get E.ty t with|some i=>(match i.u with| .pointer _=>true|_=>false)|none=>false
theorem eqNilP {a:Addr}{xo yo:Operand}(h:ptrT E t=true):Cl.get (aBin E .eql t xo yo) (.pointer (some a)) (.pointer none) s= .some (.bool false) s:=by
 unfold ptrT at h
 split at h
 ·rename_i i hi
  split at h
  ·rename_i e hu
   show refEq E .eql t (.pointer (some a)) (.pointer none) s=_
   unfold refEq
   rw[bind_run (show ti E t s= .some i s by unfold ti;rw[hi];rfl),hu]
   rfl
  ·cases h
 ·cases h
theorem W_eqNilP {a:Addr}{xo yo:Operand}(h:ptrT E t=true)(Q:Value→St→Prop):W (Cl.get (aBin E .eql t xo yo) (.pointer (some a)) (.pointer none)) s Q=Q (.bool false) s:=W_run (eqNilP h)
theorem capU_gt {n:Nat}(h:n≤1073741824):n<capU:=by unfold capU;omega
end
end Go.Proofs.YtapojfiplajfaaaGreatDoor.Am
/- Results that lie in cells;structs and arrays built. -/
namespace Go.Proofs.YtapojfiplajfaaaGreatDoor.Am
open Go.RowKit
section
variable {E:Env}{s:St}{t:Nat}
/-- A struct,an array of given parts. -/
noncomputable def buildN (E:Env)(t:Nat)(ps:List (Nat×Value)):Option (List Value):=
 match T.get E.ty t with
 |some i=>(match i.u with
  | .struct fs=>fillAll (placeS E fs) ps i.zero
  | .array _ e=>(match T.get E.ty e with
   |some ie=>fillAll (fun k=>some (k*ie.size,ie.size)) ps i.zero
   |none=>none)
  |_=>none)
 |none=>none
theorem W_build {ps:List (Nat×Value)}{r:List Value}(h:buildN E t ps=some r)(Q:Value→St→Prop):W (aBuild E t ps) s Q=Q (.agg r.toArray) s:=by
 unfold buildN at h
 split at h
 ·rename_i i hi
  split at h
  ·rename_i fs hu
   refine W_run ?_
   unfold aBuild
   rw[bind_run (show ti E t s= .some i s by unfold ti;rw[hi];rfl)]
   rw[hu]
   simp only[h]
   rfl
  ·rename_i e hu
   split at h
   ·rename_i ie he
    refine W_run ?_
    unfold aBuild
    rw[bind_run (show ti E t s= .some i s by unfold ti;rw[hi];rfl)]
    rw[hu]
    simp only
    rw[bind_run (show ti E _ s= .some ie s by unfold ti;rw[he];rfl),h]
    rfl
   ·cases h
  ·cases h
 ·cases h
end
end Go.Proofs.YtapojfiplajfaaaGreatDoor.Am
/- Products;elements of an array that is a value. -/
namespace Go.Proofs.YtapojfiplajfaaaGreatDoor.Am
open Go.RowKit
section
variable {E:Env}{s:St}{t:Nat}
end
end Go.Proofs.YtapojfiplajfaaaGreatDoor.Am
/- Ends of frames with results of both kinds. -/
namespace Go.Proofs.YtapojfiplajfaaaGreatDoor.Am
open Go.RowKit
section
variable {E:Env}{s:St}{t:Nat}
end
end Go.Proofs.YtapojfiplajfaaaGreatDoor.Am
/- A range over a function:the loop,its rounds,its end;the end of a frame that had one. -/
namespace Go.Proofs.YtapojfiplajfaaaGreatDoor.Am
open Go.RowKit
section
variable {E:Env}{s:St}{t:Nat}
/-- A place that holds something that is no value. -/
def Obj (s:St)(l:Nat)(o:AObj):Prop:=l<s.next∧T.get s.mem l=some (.O o)
theorem Obj.ext {F G:Nat→Prop}{s s':St}{l:Nat}{o:AObj}(h:Obj s l o)(e:Ext F G s s')(hG: ¬G l):Obj s' l o:=⟨Nat.lt_of_lt_of_le h.1 e.nxt,by rw[e.mem _ h.1 hG];exact h.2⟩
theorem Obj.same {s s':St}{l:Nat}{o:AObj}(h:Obj s l o)(hm:s'.mem=s.mem)(hn:s'.next=s.next):Obj s' l o:=by
 unfold Obj at *
 rw[hm,hn]
 exact h
theorem W.newO {o:AObj}{Q:Nat→St→Prop}(q: ∀s1,s1.next=s.next+1→Ext Non Non s s1→Obj s1 s.next o→Q s.next s1):W (newO o) s Q:=by
 obtain⟨mem,next,lim,rd,wr,cx⟩:=s
 refine⟨next,⟨T.set mem next (.O o),next+1,lim,rd,wr,cx⟩, ?_,q _ rfl ⟨by simp only;omega,rfl,rfl,fun l hl _=> ?_,⟨[],rfl,fun _ h=>by cases h⟩,⟨[],rfl,fun _ h=>by cases h⟩⟩ ⟨by simp only;omega, ?_⟩⟩
 ·show Am.fN next (fun b=>Am.fN (Nat.succ b) fun n=>R.some b (St.mk (T.set mem b (.O o)) n lim rd wr cx))=_
  rw[fN_eq,fN_eq]
 ·simp only at hl ⊢
  rw[T.get_set,if_neg (by omega)]
 ·simp only
  rw[T.get_set,if_pos rfl]
theorem W.getCx {Q:Ctx→St→Prop}(q:Q s.cx s):W getCx s Q:=by
 obtain⟨mem,next,lim,rd,wr,cx⟩:=s
 exact⟨cx,_,rfl,q⟩
theorem W.putCx {c:Ctx}{Q:Unit→St→Prop}(q:Q () (s.cxN c)):W (putCx c) s Q:=by
 obtain⟨mem,next,lim,rd,wr,cx⟩:=s
 exact⟨(),_,rfl,q⟩
abbrev collD (d:Nat):Deferred:={target:= .collected d,args:= #[]}
noncomputable def rfP (l:List Item):Option (Nat×List Nat×Code×Code):=match l with| .code (.rangeFunc (.tmp t) ps as bd)::_=>some (t,ps.toList,as,bd)|_=>none
theorem rfP_inv {P:List Item}{t:Nat}{ps:List Nat}{as bd:Code}(h:rfP P=some (t,ps,as,bd)): ∃pa:Array Nat,P= .code (.rangeFunc (.tmp t) pa as bd)::P.tail∧pa.toList=ps:=by
 unfold rfP at h
 split at h
 ·cases h
  exact⟨_,rfl,rfl⟩
 ·cases h
/-- A range over a function,from which no round goes away. -/
theorem W.rangeFunc {n f nt g f2:Nat}{tm:T Value}{T P:List Item}{ki:CallKind}{first cap:Array Value}{up:Option FrameMode}{dfs:List Deferred}{ps:List Nat}{as bd:Code}{Q:Value×FrameMode→St→Prop}(ht:skim 64 T=P)(hP:rfP P=some (t,ps,as,bd))(hv:Am.T.get tm t=some (.func (.func f2) first cap))(hx:E.ext.get f2=none)
  (hc:s.cx= .cx up (some dfs)) (hn:0<n)
  (h: ∀s1,s1.next=s.next+2→Ext Non Non s s1→Obj s1 s.next (.deferred (some []))→Obj s1 (s.next+1) (.loop .ready none f nt g tm ps as bd s.next)→
   W (callW E (runF E (n-1)) f2 (first.toList++(.func (.yield (s.next+1)) #[] #[]::cap.toList))) (s1.cxN (.cx up (some (collD s.next::dfs)))) fun _ s2=>Obj s2 (s.next+1) (.loop .ready none f nt g tm ps as bd s.next)∧
    W (runF E (n-1) ⟨f,nt,g,tm,P.tail, .run,ki,none⟩) ((s2.rdN (s.next+1)).wrN (s.next+1) (.O (.loop .exhausted none f nt g tm ps as bd s.next))) Q):W (runF E n ⟨f,nt,g,tm,T, .run,ki,none⟩) s Q:=by
 obtain⟨m,rfl⟩: ∃m,n=m+1:=⟨n-1,by omega⟩
 rw[Nat.add_sub_cancel]at h
 obtain⟨pa,hP2,rfl⟩:=rfP_inv hP
 rw[hP2]at ht
 refine W.code ht ?_
 show W (M.on (Am.T.get tm t) fun fv=>rangeF E (callW E (runF E m)) ⟨f,nt,g,tm, .code (.rangeFunc (.tmp t) pa as bd)::P.tail, .run,ki,none⟩ fv pa as bd P.tail) s _
 refine W.on hv (W.bind (W.bind (W.newO fun sa na xa oa=>W.bind (W.getCx ?_))))
 have hca:sa.cx= .cx up (some dfs):=by rw[xa.cx];exact hc
 rw[hca]
 refine W.bind (W.putCx (W.pure (W.bind (W.newO fun sb nb xb ob=> ?_))))
 have hb:W (callW E (runF E m) f2 (first.toList++(.func (.yield (s.next+1)) #[] #[]::cap.toList))) sb fun _ s2=>Obj s2 (s.next+1) (.loop .ready none f nt g tm pa.toList as bd s.next)∧
    W (runF E m ⟨f,nt,g,tm,P.tail, .run,ki,none⟩) ((s2.rdN (s.next+1)).wrN (s.next+1) (.O (.loop .exhausted none f nt g tm pa.toList as bd s.next))) Q:=by
  have hn1:(sa.cxN (.cx up (some (collD s.next::dfs)))).next=s.next+1:=na
  rw[hn1]at ob nb
  have hcb:sb.cx= .cx up (some (collD s.next::dfs)):=xb.cx
  have x:Ext Non Non s (sb.cxN s.cx):=by
   refine⟨?_, ?_,rfl,fun l hl hg=> ?_, ?_, ?_⟩
   ·show s.next≤sb.next
    omega
   ·exact xb.lim.trans xa.lim
   ·exact(xb.mem l (show l<sa.next by omega) hg).trans (xa.mem l hl hg)
   ·obtain⟨d1,p1,p2⟩:=xa.rd
    obtain⟨d2,p3,p4⟩:=xb.rd
    refine⟨d2++d1, ?_,fun l hl=> ?_⟩
    ·rw[List.append_assoc,←p1];exact p3
    ·rcases List.mem_append.1 hl with hl|hl
     ·exact(p4 l hl).2.elim
     ·exact(p2 l hl).2.elim
   ·obtain⟨d1,p1,p2⟩:=xa.wr
    obtain⟨d2,p3,p4⟩:=xb.wr
    refine⟨d2++d1, ?_,fun l hl=> ?_⟩
    ·rw[List.append_assoc,←p1];exact p3
    ·rcases List.mem_append.1 hl with hl|hl
     ·exact(p4 l hl).2.elim
     ·exact(p2 l hl).2.elim
  have:=h (sb.cxN s.cx) (by show sb.next=_;omega) x (by
   have h1:Obj (sa.cxN (.cx up (some (collD s.next::dfs)))) s.next (.deferred (some [])):=oa.same rfl rfl
   exact(h1.ext xb id).same rfl rfl) (ob.same rfl rfl)
  rw[show(sb.cxN s.cx).cxN (.cx up (some (collD s.next::dfs)))=sb by
   rw[←hcb];rfl]at this
  exact this
 have hn1:(sa.cxN (.cx up (some (collD s.next::dfs)))).next=s.next+1:=na
 rw[hn1]
 refine W.bind (W.np ?_)
 show W (M.chk (E.ext.get f2).isNone (callW E (runF E m) f2 (first.toList++(.func (.yield (s.next+1)) #[] #[]::cap.toList)))) sb _
 refine W.chk (by rw[hx];rfl) (hb.mono fun _ s2 q=> ?_)
 obtain⟨q1,q2⟩:=q
 show W (M.bind (Am.rdC (s.next+1)) _) s2 _
 refine W.bind (W.rdC q1.2 q1.1 ?_)
 exact W.bind (W.wrC q1.1 (W.pure q2))
theorem W.yield {call round:CallT}{l:Nat}{args:List Value}{Q:Value→St→Prop}(h:W (round l args) s Q):W (callV call round (.func (.yield l) #[] #[]) args) s Q:=h
/-- A round. -/
theorem W.round {n l f nt g d:Nat}{tm:T Value}{ps:List Nat}{as bd:Code}{st:LoopState}{pe:Option Code}{args:List Value}{Q:Value→St→Prop}(hO:Obj s l (.loop st pe f nt g tm ps as bd d))(ha:args.length=ps.length)(hps:ps.all (fun p=>Nat.blt p nt)=true)
  (h:W (runF E n ⟨f,nt,g,setPs g ps args tm,[.code as, .beginRound, .code bd], .run, .normal,some l⟩) ((s.rdN l).cxN cxR) fun p s1=>Q p.1 (s1.cxN s.cx)):W (roundW (runF E n) l args) s Q:=by
 refine W.np (W.within (W.bind (W.bind ?_)))
 refine W.bind (W.rdC (s:=s.cxN cxR) hO.2 hO.1 ?_)
 show W (M.chk (Nat.beq args.length ps.length&&ps.all fun p=>Nat.blt p nt) _) _ _
 refine W.chk (by rw[ha,hps,Nat.beq_refl];rfl) (W.pure ?_)
 exact h.mono fun p s1 q=>W.pure q
theorem W.begR {n l f nt g f' nt' g' d:Nat}{tm tm':T Value}{T k:List Item}{ki:CallKind}{ps:List Nat}{as bd:Code}{pe:Option Code}{Q:Value×FrameMode→St→Prop}(ht:skim 64 T= .beginRound::k)(hO:Obj s l (.loop .ready pe f' nt' g' tm' ps as bd d))(hn:0<n)
  (h:W (runF E (n-1) ⟨f,nt,g,tm,k, .run,ki,some l⟩) ((s.rdN l).wrN l (.O (.loop .busy pe f' nt' g' tm' ps as bd d))) Q):W (runF E n ⟨f,nt,g,tm,T, .run,ki,some l⟩) s Q:=by
 obtain⟨m,rfl⟩: ∃m,n=m+1:=⟨n-1,by omega⟩
 rw[Nat.add_sub_cancel]at h
 refine W.run ?_
 show W (noP (runItems E (callW E (runF E m)) (roundW (runF E m)) ⟨f,nt,g,tm,skim 64 T, .run,ki,some l⟩ (skim 64 T))) s _
 rw[ht]
 refine W.np ?_
 show W (M.bind (Am.rdC l) _) s _
 exact W.bind (W.rdC hO.2 hO.1 (W.bind (W.wrC hO.1 (W.pure h))))
/-- A round's end:on with the next one. -/
theorem W.endR {n l f nt g f' nt' g' d:Nat}{tm tm':T Value}{T:List Item}{ki:CallKind}{ps:List Nat}{as bd:Code}{st:LoopState}{pe:Option Code}{Q:Value×FrameMode→St→Prop}(ht:skim 64 T=[])(hO:Obj s l (.loop st pe f' nt' g' tm' ps as bd d))(hn:0<n)
  (q:Q (.bool true, .run) ((s.rdN l).wrN l (.O (.loop .ready none f' nt' g' tm' ps as bd d)))):W (runF E n ⟨f,nt,g,tm,T, .run,ki,some l⟩) s Q:=by
 obtain⟨m,rfl⟩: ∃m,n=m+1:=⟨n-1,by omega⟩
 refine W.run ?_
 show W (noP (runItems E (callW E (runF E m)) (roundW (runF E m)) ⟨f,nt,g,tm,skim 64 T, .run,ki,some l⟩ (skim 64 T))) s _
 rw[ht]
 refine W.np ?_
 show W (M.bind (Am.rdC l) _) s _
 exact W.bind (W.rdC hO.2 hO.1 (W.bind (W.wrC hO.1 (W.pure (W.pure q)))))
end
end Go.Proofs.YtapojfiplajfaaaGreatDoor.Am
/- Shifts to the left, 'or' of bits. -/
namespace Go.Proofs.YtapojfiplajfaaaGreatDoor.Am
open Go.RowKit
section
variable {E:Env}{s:St}{t:Nat}
end
end Go.Proofs.YtapojfiplajfaaaGreatDoor.Am
