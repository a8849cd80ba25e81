import Derived.Test.YtofanlcjeohcjaaIMg27
namespace Go.Proofs.Ytofanlcjeohcjaa.Am
open Go.RowKit
def HF (f g:FdI):Prop:=g.num=f.num/\g.l=f.l
theorem Ace_ {f g:FdI}{p q:PkI}(h:HF f g)(hk:q.key=p.key):hitP g q=hitP f p:=by
 unfold PkI.key at hk
 simp only[Prod.mk.injEq]at hk
 unfold hitP
 rw[h.1,h.2,hk.1,hk.2.1]
theorem SH {f g:FdI}(h:HF f g): ∀(ps qs:List PkI),qs.map PkI.key=ps.map PkI.key->(qs.find? (hitP g)).map PkI.key=(ps.find? (hitP f)).map PkI.key
 |[],[],_=>rfl
 |[],_::_,e=>by simp at e
 |_::_,[],e=>by simp at e
 |p::ps,q::qs,e=>by
  rw[List.map_cons,List.map_cons,List.cons.injEq]at e
  rw[List.find?_cons,List.find?_cons,Ace_ h e.1]
  cases hitP f p with
  |true=>show some q.key=some p.key;rw[e.1]
  |false=>exact SH h ps qs e.2
theorem JK (ps:List PkI)(last:Int)(f:FdI)(fs:List FdI):Ay ps last (f::fs)=if f.num<=last\/999999<f.num then Ay ps last fs else
  match (ps.find? (hitP f)).map PkI.key with
  |some k=>(k::(Ay ps f.num fs).1,(Ay ps f.num fs).2)
  |none=>((f.num,(f.l.length:Int),(A6 f.l).1.map toI)::(Ay ps f.num fs).1,f.num::(Ay ps f.num fs).2):=by
 show(if f.num<=last\/999999<f.num then Ay ps last fs else match ps.find? (hitP f)with|some p=>_|none=>_)=_
 cases ps.find? (hitP f)<;>rfl
theorem TW {ps qs:List PkI}(hk:qs.map PkI.key=ps.map PkI.key): ∀(fs gs:List FdI) (last:Int),gs.length=fs.length->(∀i (h:i<fs.length) (h':i<gs.length),HF fs[i] gs[i])->Ay qs last gs=Ay ps last fs
 |[],[],_,_,_=>rfl
 |[],_::_,_,e,_=>by simp at e
 |_::_,[],_,e,_=>by simp at e
 |f::fs,g::gs,last,e,h=>by
  have h0:HF f g:=h 0 (by simp) (by simp)
  have ih: ∀last,Ay qs last gs=Ay ps last fs:=λlast=>TW hk fs gs last (by simpa using e) λi hi hi'=>h (i+1) (by simp;omega) (by simp;omega)
  rw[JK,JK,SH h0 ps qs hk,h0.1,h0.2,ih,ih]
theorem MV (ps:List PkI): ∀(fs:List FdI) (last:Int),(Ay ps last fs).1.length<=fs.length/\(Ay ps last fs).2.length<=fs.length
 |[],_=>⟨Nat.le_refl _,Nat.le_refl _⟩
 |f::fs,last=>by
  have h1:=MV ps fs last
  have h2:=MV ps fs f.num
  rw[JK,List.length_cons]
  split
  ·omega
  ·split
   ·simp only[List.length_cons];omega
   ·simp only[List.length_cons];omega
theorem N1 {ps:List PkI}{B:Nat}(hp: ∀p∈ps,p.hs.length<=B): ∀(fs:List FdI) (last:Int),(∀f∈fs,f.l.length<=B)-> ∀k∈(Ay ps last fs).1,k.2.2.length<=B
 |[],_,_,k,hk=>by cases hk
 |f::fs,last,hf,k,hk=>by
  have h1:=N1 hp fs last (λg hg=>hf g (by simp[hg]))
  have h2:=N1 hp fs f.num (λg hg=>hf g (by simp[hg]))
  rw[JK]at hk
  split at hk
  ·exact h1 k hk
  ·split at hk
   ·rename_i k' he
    rcases List.mem_cons.1 hk with rfl|hk
    ·obtain⟨p,e1,rfl⟩:=Option.map_eq_some_iff.1 he
     exact hp p (List.mem_of_find?_eq_some e1)
    ·exact h2 k hk
   ·rcases List.mem_cons.1 hk with rfl|hk
    ·show((A6 f.l).1.map toI).length<=B
     rw[List.length_map]
     have:=UP_ f.l
     have:=hf f (by simp)
     omega
    ·exact h2 k hk
def LnA (s:St)(n1:Nat)(f g:FdI):Prop:=HF f g/\ ∃L,n1<=L/\g.v= .slice (some ⟨L,0,none⟩) f.l.length (f.l.length+3)/\Aa s L 0 (u8l (Db f.l))
theorem LnA.ext0 {F:Nat->Prop}{s s':St}{n1:Nat}{f g:FdI}(h:LnA s n1 f g)(e:Ext F Non s s'):LnA s' n1 f g:=
 let ⟨h1,L,h2,h3,h4⟩:=h
 ⟨h1,L,h2,h3,Aa.ext0 h4 e⟩
theorem LnA.bs {s:St}{n1:Nat}{f g:FdI}(h:LnA s n1 f g)(hl:f.l.length<=100000):Bs s g.v g.l:=by
 obtain⟨⟨_,h1⟩,L,_,h3,h4⟩:=h
 have hU:f.l.length+3<capU:=Az (by omega)
 rw[h1,h3]
 exact .inr ⟨L,0,f.l.length+3,rfl,by rw[Nat.mod_eq_of_lt hU];omega,D4 hU,λi u e=>(h4 i u (by
  unfold Db u8l
  rw[List.map_append,List.getElem?_append_left (List.getElem?_eq_some_iff.1 e).1]
  exact e)).at'⟩
structure LnI (s:St)(b n1 i:Nat)(fs ls:List FdI):Prop where
 row:Aa s b 0 (fdCs ls)
 len:ls.length=fs.length
 lo: ∀j (h:j<fs.length) (h':j<ls.length),j<i->LnA s n1 fs[j] ls[j]
 hi: ∀j (h:j<fs.length) (h':j<ls.length),i<=j->ls[j]=fs[j]
theorem LnI.ext0 {F:Nat->Prop}{s s':St}{b n1 i:Nat}{fs ls:List FdI}(h:LnI s b n1 i fs ls)(e:Ext F Non s s'):LnI s' b n1 i fs ls:=
 ⟨Aa.ext0 h.row e,h.len,λj h1 h2 h3=>(h.lo j h1 h2 h3).ext0 e,h.hi⟩
theorem AdN_ {F G:Nat->Prop}{s s1:St}{b i:Nat}{os:List FdI}{p:FdI}(hi:i<os.length)(hr:Aa s b 0 (fdCs os))(x:Ext F G s s1)(hG: ∀y,G y->y=b+(i*2+1))(hn:p.num=os[i].num)(ho:Own s1 b (i*2+1) p.v):Aa s1 b 0 (fdCs (os.set i p)):=by
 intro q u e
 have hq:=(List.getElem?_eq_some_iff.1 e).1
 rw[Is,List.length_set]at hq
 have hj:q/2<os.length:=by omega
 have hr3:q%2<2:=Nat.mod_lt _ (by decide)
 have eq:q=q/2*2+q%2:=by omega
 rw[eq]at e ⊢
 rw[G5 (by rw[List.length_set];exact hj) hr3]at e
 generalize q/2=j at *
 generalize q%2=r at *
 rw[Nat.zero_add]
 by_cases c:j=i
 ·subst c
  rw[List.getElem_set_self]at e
  match r,hr3,e with
  |0,_,e=>
   have:(fdCs os)[j*2+0]?=some u:=by
    rw[G5 hi (by decide),<-e]
    show some _=some _
    rw[hn]
   have:=hr _ _ this
   rw[Nat.zero_add]at this
   exact this.ext x λh=>by have:=hG _ h;omega
  |1,_,e=>
   cases e
   exact ho
 ·rw[List.getElem_set_ne (by omega)]at e
  have:(fdCs os)[j*2+r]?=some u:=by rw[G5 hj hr3];exact e
  have:=hr _ _ this
  rw[Nat.zero_add]at this
  exact this.ext x λh=>by have:=hG _ h;omega
section
variable {b n1 C:Nat}{vf:Value}{fs:List FdI}{s0:St}{Q:Value×FrameMode->St->Prop}
theorem Xk_ (hb0:s0.lim<=s0.next)(hf:FdR s0 vf fs)(hfs:fs.length<=1000)(hzf: ∀f∈fs,f.l.length<=6000)(hbn:s0.next<=b)(hbl:0<fs.length->b+fs.length*2<=n1):
  ∀(m i n:Nat) (ls:List FdI) (tm:T Value) (s:St) (td:List Item),i+m=fs.length->10*m+100<=n->skim 64 td=KN->Ext Any Non s0 s->LnI s b n1 i fs ls->n1<=s.next->
  T.get tm 1=some vf->T.get tm 6=some (.slice (some ⟨b,0,none⟩) fs.length C)->T.get tm 7=some (.int .i64 (i:Nat))->
  (∀n' tm' s1 td' ls,n<=n'+10*m+5->skim 64 td'=Rx->Ext Any Non s0 s1->LnI s1 b n1 fs.length fs ls->(∀k,k≠7->k<13->T.get tm' k=T.get tm k)->W (runF envS n' ⟨12,I9,BJ,tm',td', .run, .normal,none⟩) s1 Q)->
  W (runF envS n ⟨12,I9,BJ,tm,td, .run, .normal,none⟩) s Q:=by
 intro m
 induction m with
 |zero=>
  intro i n ls tm s td hi hn hT hx hI hn1 h1 h6 h7 q
  refine MM_.u ?_ hT
  simp only[Mo,RR,SS,Ak,h6,h7,AP Dj]
  refine aH Xd ?_
  have hi':i=fs.length:=by omega
  subst hi'
  exact q _ _ s _ ls (by omega) rfl hx hI λk hk hk2=>by simp[T.get_set];omega
 |succ m ih=>
  intro i n ls tm s td hi hn hT hx hI hn1 h1 h6 h7 q
  have hil:i<fs.length:=by omega
  have hbl:=hbl (by omega)
  have hio:i<ls.length:=by rw[hI.len];exact hil
  have hb:=hx.bnd hb0
  obtain⟨bf,of,cf,ev,gf,gB,gby⟩:=(hf.ext0 hx).at hil
  have hzi:=hzf _ (List.getElem_mem hil)
  have hli:ls[i]=fs[i]:=hI.hi i hil hio (Nat.le_refl _)
  refine MM_.u ?_ hT
  simp only[Mo,RR,SS,Ak,h6,h7,AP Dj]
  refine aI Xd ?_
  refine Xf_.u ?_
  simp only[Z8,RR,SS,Nat.reduceEqDiff, ↓reduceIte,h1,ev,h6,h7,AL Dj hil,Au DX (by decide)]
  refine aB BW (gf 1 _ rfl) ?_
  have y1:=hx.thenRd hb0 (bf+(of+i*2+1))
  have x1:Ext Any Non s (s.rdN (bf+(of+i*2+1))):=(Ext.refl (F:=Any) (G:=Non) s).thenRd hb _
  have e1:(s.rdN (bf+(of+i*2+1))).next=s.next:=rfl
  generalize s.rdN (bf+(of+i*2+1))=s1 at *
  refine CW_ (y1.bnd hb0) (gB.ext0 x1) (by omega) (by omega) λs2 x2 o2 l2=> ?_
  have y2:=y1.then0 x2 hb0
  have x12:=x1.then0 x2 hb
  have h2:Own s2 b (0+i*2+1) fs[i].v:=by
   have:=(hI.ext0 x12).row (i*2+1) fs[i].v (by rw[G5 hio (by decide),hli];rfl)
   rwa [show 0+i*2+1=0+(i*2+1) by omega]
  refine aL BW rfl h2 λs3 n3 x3 o3=> ?_
  have y3:=y2.thenW x3 hb0 hbn
  refine Aiw_.u ?_
  have ei:=eiW (i:=i) (by omega)
  simp only[WI,RR,SS,Nat.reduceEqDiff, ↓reduceIte,Aw,h7,ei]
  have hone: ∀y,In b (0+i*2+1) 1 y->y=b+(i*2+1):=λy hy=>by have h1:=hy.1;have h2:=hy.2;omega
  have hi2:i*2+2<=fs.length*2:=by omega
  have far: ∀L,n1<=L-> ∀k,¬In b (0+i*2+1) 1 (L+(0+k)):=λL hL k h=>by
   have:=hone _ h
   omega
  have hI3:LnI s3 b n1 (i+1) fs (ls.set i ⟨fs[i].num, .slice (some ⟨s1.next,0,none⟩) fs[i].l.length (fs[i].l.length+3),fs[i].l⟩):=by
   refine⟨AdN_ hio (hI.ext0 x12).row x3 hone (by rw[hli]) (by rwa [show 0+i*2+1=i*2+1 by omega]at o3),by rw[List.length_set];exact hI.len,λj h h' hj=> ?_,λj h h' hj=> ?_⟩
   ·rw[List.length_set]at h'
    by_cases c:j=i
    ·subst c
     rw[List.getElem_set_self]
     exact⟨⟨rfl,rfl⟩,s1.next,by omega,rfl,λk u e=>(o2 k u e).ext x3 (far _ (by omega) k)⟩
    ·rw[List.getElem_set_ne (by omega)]
     obtain⟨g1,L,g2,g3,g4⟩:=(hI.lo j h h' (by omega)).ext0 x12
     exact⟨g1,L,g2,g3,λk u e=>(g4 k u e).ext x3 (far _ g2 k)⟩
   ·rw[List.length_set]at h'
    rw[List.getElem_set_ne (by omega)]
    exact hI.hi j h h' (by omega)
  refine ih (i+1) _ _ _ s3 _ (by omega) (by omega) Aje_ y3 hI3 (by have:=x12.nxt;have:=x3.nxt;omega) (by simp[T.get_set,h1,ev]) (by simp[T.get_set,h6]) (by simp[T.get_set]) λn' tm' s4 td' ls' hn' hT' x4 hI4 hk=>q n' tm' s4 td' ls' (by omega) hT' x4 hI4 λk h7' h13=> ?_
  rw[hk k h7' h13]
  have:k≠29:=by omega
  simp[T.get_set,h7',this]
end
theorem Pq_ {fs:List FdI}(h: ∀f∈fs,oneCell f.v=true):(fdCs fs).all oneCell=true:=by
 induction fs with
 |nil=>rfl
 |cons f l ih=>
  show(fdC f++fdCs l).all oneCell=true
  rw[List.all_append,Zv_ (h f (by simp)),ih λx hx=>h x (by simp[hx])]
  rfl
theorem FdR.src {s:St}{v:Value}{fs:List FdI}(h:FdR s v fs): ∃F,Src s 2 v fs.length (fdCs fs) F:=by
 rcases h.row with⟨rfl,rfl⟩|⟨b,o,c,rfl,hv⟩
 ·exact⟨_,Lk⟩
 ·exact⟨_,Ej hv (Is fs)⟩
theorem LnI.fd {s:St}{b n1 c:Nat}{fs ls:List FdI}(h:LnI s b n1 fs.length fs ls)(hz: ∀f∈fs,f.l.length<=6000)(hby: ∀f∈fs,Byt f.l):FdR s (.slice (some ⟨b,0,none⟩) fs.length c) ls/\ ∀g∈ls,g.l.length<=6000:=by
 have hall: ∀g∈ls,∃f∈fs,LnA s n1 f g:=λg hg=>by
  obtain⟨i,hi⟩:=List.getElem?_of_mem hg
  obtain⟨h1,h2⟩:=List.getElem?_eq_some_iff.1 hi
  have h3:i<fs.length:=by rw[<-h.len];exact h1
  have:=h.lo i h3 h1 h3
  rw[h2]at this
  exact⟨fs[i],List.getElem_mem h3,this⟩
 refine⟨⟨.inr ⟨b,0,c,by rw[h.len],h.row.row⟩,λg hg=> ?_,λg hg=> ?_⟩,λg hg=> ?_⟩
 ·obtain⟨f,hf,hl⟩:=hall g hg
  exact hl.bs (by have:=hz f hf;omega)
 ·obtain⟨f,hf,hl⟩:=hall g hg
  rw[hl.1.2];exact hby f hf
 ·obtain⟨f,hf,hl⟩:=hall g hg
  rw[hl.1.2];exact hz f hf
section
variable {b n1 C:Nat}{vf:Value}{fs ls:List FdI}{s0:St}{Q:Value×FrameMode->St->Prop}
theorem Or_ (hb0:s0.lim<=s0.next)(hf:FdR s0 vf fs)(hfs:fs.length<=1000)(hzf: ∀f∈fs,f.l.length<=6000)(hI:LnI s0 b n1 fs.length fs ls):
  ∀(m i n:Nat) (tm:T Value) (s:St) (td:List Item),i+m=fs.length->10*m+300<=n->skim 64 td=Ka->Ext Any Non s0 s->
  T.get tm 1=some vf->T.get tm 6=some (.slice (some ⟨b,0,none⟩) fs.length C)->T.get tm 13=some (.int .i64 (i:Nat))->
  (∀n' tm' s1 td',n<=n'+10*m+5->skim 64 td'=NU->Ext Any Non s0 s1->(∀k,k<13->T.get tm' k=T.get tm k)->W (runF envS n' ⟨12,I9,BJ,tm',td', .run, .normal,none⟩) s1 Q)->
  W (runF envS n ⟨12,I9,BJ,tm,td, .run, .normal,none⟩) s Q:=by
 intro m
 induction m with
 |zero=>
  intro i n tm s td hi hn hT hx h1 h6 h13 q
  refine XW.u ?_ hT
  simp only[Pj,RR,SS,Ak,h6,h13,AP Dj]
  refine aH Wh ?_
  exact q _ _ s _ (by omega) rfl hx λk hk=>by
   have:k≠67:=by omega
   simp[T.get_set,this]
 |succ m ih=>
  intro i n tm s td hi hn hT hx h1 h6 h13 q
  have hil:i<fs.length:=by omega
  have hb:=hx.bnd hb0
  have hI':=hI.ext0 hx
  have hio:i<ls.length:=by rw[hI.len];exact hil
  obtain⟨bf,of,cf,ev,gf,gB,gby⟩:=(hf.ext0 hx).at hil
  have hzi:=hzf _ (List.getElem_mem hil)
  obtain⟨_,L,hL1,hLv,hLo⟩:=hI'.lo i hil hio hil
  have l1:At (dSt s.mem s.next) b (0+i*2+1) ls[i].v:=by
   have:=hI'.row (i*2+1) ls[i].v (by rw[G5 hio (by decide)];rfl)
   rw[show 0+i*2+1=0+(i*2+1) by omega]
   exact this.at'.same rfl rfl
  have f1:At (dSt s.mem s.next) bf (of+i*2+1) fs[i].v:=(gf 1 _ rfl).same rfl rfl
  refine XW.u ?_ hT
  simp only[Pj,RR,SS,Ak,h6,h13,AP Dj]
  refine aI Wh ?_
  refine PH_.u ?_
  simp only[YE,RR,T.get_set,Nat.reduceEqDiff, ↓reduceIte,h1,h6,h13,ev,AJ,Cw,B5,B8,BU,DW,Ag]
  rw[W_dq λs Q=>AL (s:=s) Dj hil Q]
  try simp only[AJ]
  rw[W_dq λs Q=>Au (s:=s) DX (by decide) Q]
  try simp only[AJ]
  refine aC BW l1 λrd4 hr4=> ?_
  try simp only[Ag]
  rw[W_dq λs Q=>AL (s:=s) Dj hil Q]
  try simp only[AJ]
  rw[W_dq λs Q=>Au (s:=s) DX (by decide) Q]
  try simp only[AJ]
  refine aC BW f1 λrd9 hr9=> ?_
  try simp only[AJ]
  rw[hLv]
  refine aU (AfU_ (s:=oSt s.mem s.next) (b:=fs[i].l) (Nat.le_refl _) (gB.same rfl rfl) (by omega) (λj u e=>(hLo j u e).at'.same rfl rfl) (by omega) λs2 x2=>⟨_,x2,λrd10 hr10=> ?_⟩)
  rw[AK]
  have n2:s.next<=s2.next:=x2.nxt
  refine⟨D3 ?_, ?_⟩
  ·simp only[List.reverse_cons,List.reverse_nil,List.nil_append,List.cons_append,allP,CF,List.take,DB]
   simp+contextual
  ·refine aJ (UJ_ ..) ?_
   simp only[SS,D5,Bool.not_true]
   generalize hs3:(⟨(dSt s2.mem s2.next).mem,(dSt s2.mem s2.next).next,s.lim,_,_,s.cx⟩:St)=s3
   have x3:Ext Any Non s s3:=by
    rw[<-hs3]
    exact Ext.draw (F:=Any) (by show s.next<=s2.next;omega) (λx hx=>x2.mem x hx id) (by simp) λ_ _ _ _ _=>trivial
   refine aH Acv_ ?_
   refine AdK_.u ?_
   have ei:=eiW (i:=i) (by omega)
   simp only[V9,RR,SS,Nat.reduceEqDiff, ↓reduceIte,Aw,h13,ei]
   refine ih (i+1) _ _ s3 _ (by omega) (by omega) Qf_ (hx.then0 x3 hb0) (by simp[T.get_set,h1,ev]) (by simp[T.get_set,h6]) (by simp[T.get_set]) λn' tm' s4 td' hn' hT' x4 hk=>q n' tm' s4 td' (by omega) hT' x4 λk h13=> ?_
   rw[hk k h13]
   have a1:k≠67:=by omega
   have a2:k≠81:=by omega
   have a3:k≠13:=by omega
   simp[T.get_set,a1,a2,a3]
end
theorem NP_ {vp vf:Value}{ps:List PkI}{fs:List FdI}{s:St}{n:Nat}(hb:s.lim<=s.next)(hp:PkR s vp ps)(hf:FdR s vf fs)(hzp: ∀p∈ps,p.hs.length<=1048576)(hfs:fs.length<=9223372036854775807)(hzf: ∀f∈fs,f.l.length<=1048576)(hn:80000000<=n):
  W (Ab envS (runF envS n) 12 [vp,vf]) s λu _=>u= .bool true:=by
 refine AlQ_ λtm h0 h1=> ?_
 have hp0:PkR (s.cxN cxN) vp ps:=hp.same rfl rfl
 have hf0:FdR (s.cxN cxN) vf fs:=hf.same rfl rfl
 refine AiY_.u ?_
 simp only[LE_,RR,SS]
 refine Abl_.u ?_
 simp only[Js_,RR,SS,Nat.reduceEqDiff,reduceCtorEq, ↓reduceIte,h0,h1]
 refine OW_ (s:=s.cxN cxN) (k:=60) (m:=300) hb hp0 hzp (by omega) (by omega) λs1 x1=> ?_
 cases hbig:bigP ps 60 300 with
 |true=>
  try simp only[AK,Cs,EN,E1,Dr,CO, ↓reduceIte]
  refine aI MJ ?_
  refine ZV.u ?_
  simp only[Q7,RR,SS]
  refine W.orc Qd (W.pure ?_)
  exact aF (rs:=[4]) (vs:=[.bool true]) rfl (.inl Gl_) (by omega) LY Qj x1.cx (by simp[T.get_set]) rfl
 |false=>
  try simp only[SS,reduceCtorEq, ↓reduceIte]
  refine VQ_ (x1.bnd (s:=s.cxN cxN) hb) (hf0.ext0 x1) hfs hzf (by omega) λs2 x2=> ?_
  have y2:=x1.then0 x2 hb
  cases hbf:bigF fs with
  |true=>
   refine aI MJ ?_
   refine ZV.u ?_
   simp only[Q7,RR,SS]
   refine W.orc Qd (W.pure ?_)
   exact aF (rs:=[4]) (vs:=[.bool true]) rfl (.inl Gl_) (by omega) LY Qj y2.cx (by simp[T.get_set]) rfl
  |false=>
   obtain⟨hl30,htot⟩:=Ado_ hbf
   have hz6: ∀f∈fs,f.l.length<=6000:=λf h=>by have:=Yp_ h;omega
   have hps:ps.length<=60:=by
    unfold bigP at hbig
    rw[Bool.or_eq_false_iff]at hbig
    have:=of_decide_eq_false hbig.1
    omega
   have htp:BD ps<=300:=by
    unfold bigP at hbig
    rw[Bool.or_eq_false_iff]at hbig
    have:=of_decide_eq_false hbig.2
    rw[List.take_of_length_le (by omega)]at this
    omega
   have hz3: ∀p∈ps,p.hs.length<=300:=λp hp=>by
    obtain⟨i,hi⟩:=List.getElem?_of_mem hp
    obtain⟨h1,h2⟩:=List.getElem?_eq_some_iff.1 hi
    have:=PV_ h1
    rw[h2]at this
    omega
   refine aH MJ ?_
   refine OR_.u ?_
   simp only[GV_,RR,SS,Nat.reduceEqDiff,reduceCtorEq, ↓reduceIte,h0,h1]
   refine Amn_ (y2.bnd hb) (hp0.ext0 y2) (λp hp=>by have:=hz3 p hp;omega) (by omega) (by omega) λs3 vin osn x3 hin hk=> ?_
   have y3:=y2.then0 x3 hb
   refine aK (y3.bnd hb) (r:=[]) AkB_ (by decide) rfl (Az (by decide)) λs4 n4 x4 _=> ?_
   have n4':s4.next=s3.next+1:=n4
   have y4:=y3.then0 (x4.any (y3.bnd hb)) hb
   obtain⟨F,hsrc⟩:=(hf0.ext0 y4).src
   rw[CC]
   refine W.appE (s:=s4) (y4.bnd hb) Aep_ (len:=0) (old:=[]) (b:=s3.next) (.inl ⟨rfl,rfl,rfl⟩) hsrc.g (by decide) (by decide) (by omega) (Is fs) (Pq_ λf h=>(hf0.bs f h).one) λs5 vl bl hbl el x5=> ?_
   have x5':Ext Any Non s4 s5:=x5.weak (y4.bnd hb) (λ_ _ _=>trivial) λy _ h=>absurd h.1 (by omega)
   have y5:=y4.then0 x5' hb
   rw[List.nil_append,Nat.zero_add]at el
   obtain⟨c2,evl,rvl⟩:=el.row
   have own:Aa s5 bl 0 (fdCs fs):=by
    rcases el with⟨_,h0,h1⟩|⟨h,_⟩
    ·rw[h1];exact λi u e=>by simp at e
    ·exact h.own
   have hbl':s3.next<=bl:=by rcases hbl with h|h<;>omega
   have hlc:0<fs.length->bl+fs.length*2<=s5.next:=λh0=>by
    rcases el with⟨_,h1,_⟩|⟨h,_⟩
    ·omega
    ·have:=h.lt
     omega
   subst evl
   have hb3:=y3.bnd hb
   have z5:Ext Any Non s3 s5:=(x4.any hb3).then0 x5' hb3
   have hb5:=y5.bnd hb
   have hf5:=hf0.ext0 y5
   refine AjF_.u ?_
   simp only[IP_,RR,SS]
   refine Xk_ (s0:=s3) (b:=bl) (n1:=s5.next) (C:=c2) hb3 (hf0.ext0 y3) (by omega) hz6 hbl' hlc fs.length 0 _ fs _ s5 _ (by omega) (by omega) rfl z5 ⟨own,rfl,λj _ _ h=>absurd h (Nat.not_lt_zero _),λj _ _ _=>rfl⟩ (Nat.le_refl _) (by simp[T.get_set,h1]) (by simp[T.get_set]) (by simp[T.get_set]) λn6 tm6 s6 td6 ls hn6 hT6 z6 hI hk6=> ?_
   have y6:=y3.then0 z6 hb
   have hb6:=y6.bnd hb
   have g0:T.get tm6 0=some vp:=by rw[hk6 0 (by decide) (by decide)];simp[T.get_set,h0]
   have g1:T.get tm6 1=some vf:=by rw[hk6 1 (by decide) (by decide)];simp[T.get_set,h1]
   have g5:T.get tm6 5=some vin:=by rw[hk6 5 (by decide) (by decide)];simp[T.get_set]
   have g6:T.get tm6 6=some (.slice (some ⟨bl,0,none⟩) fs.length c2):=by rw[hk6 6 (by decide) (by decide)];simp[T.get_set]
   obtain⟨hls,hlz⟩:=hI.fd (c:=c2) hz6 hf0.byt
   have hol:osn.length=ps.length:=by
    have:=congrArg List.length hk
    simpa using this
   have hzo: ∀p∈osn,p.hs.length<=300:=λp hp=>by
    obtain⟨i,hi⟩:=List.getElem?_of_mem hp
    obtain⟨h1,h2⟩:=List.getElem?_eq_some_iff.1 hi
    have e:osn[i].key=(ps[i]'(by omega)).key:=by
     have:=List.getElem_of_eq hk (i:=i) (by simpa using h1)
     simpa using this
    have e2:osn[i].hs=(ps[i]'(by omega)).hs:=congrArg (λk=>k.2.2) e
    rw[<-h2,e2]
    exact hz3 _ (List.getElem_mem _)
   refine VG_.u ?_ hT6
   simp only[Cc_,RR,SS,g5,g6]
   have hin6:=hin.ext0 z6
   refine Ahj_ hb6 hin6 hls (by omega) (λp hp=>by have:=hzo p hp;omega) (by rw[hI.len];omega) (λg hg=>by have:=hlz g hg;omega) (by omega) λs7 xs sc vx vs bx x7 hx hkx hs hsc hw=> ?_
   have hb7:=x7.bnd hb6
   rw[AX (k:=0) rfl,AX (k:=1) rfl]
   have hms:Ay osn 0 ls=Ay ps 0 fs:=TW hk fs ls 0 hI.len λi h h'=>(hI.lo i h h' h).1
   rw[hms]at hkx hsc
   have y7:=y6.then0 x7 hb
   refine Xp_.u ?_
   simp only[Xl,RR,SS,Nat.reduceEqDiff,reduceCtorEq, ↓reduceIte,g0,g1]
   refine AbB_ hb7 (hp0.ext0 y7) (hf0.ext0 y7) (by omega) (λp hp=>by have:=hz3 p hp;omega) (by omega) (λf hf=>by have:=hz6 f hf;omega) (by omega) λs8 ys tc vy vt x8 hy hky ht htc=> ?_
   have hb8:=x8.bnd hb7
   rw[AX (k:=0) rfl,AX (k:=1) rfl]
   have hlen:=MV ps fs 0
   have hxl:xs.length<=30:=by
    have:=congrArg List.length hkx
    rw[List.length_map]at this
    omega
   have hscl:sc.length<=30:=by rw[hsc];omega
   have hxz: ∀p∈xs,p.hs.length<=6000:=λp hp=>N1 (B:=6000) (λp hp=>by have:=hz3 p hp;omega) fs 0 hz6 p.key (by rw[<-hkx];exact List.mem_map_of_mem hp)
   have est:sc=tc:=hsc.trans htc.symm
   subst est
   refine Akf_.u ?_
   simp only[WU,RR,SS,Nat.reduceEqDiff, ↓reduceIte]
   refine Xc (N:=6000) hb8 (hx.ext0 x8) hy (hkx.trans hky.symm) hxz (by decide) (by omega) (by omega) λs9 x9=> ?_
   have hb9:=x9.bnd hb8
   try simp only[SS, ↓reduceIte]
   refine Afu_ hb9 ((hs.ext0 x8).ext0 x9) (ht.ext0 x9) (by omega) (by omega) λs10 x10=> ?_
   have z10:=(x8.then0 x9 hb7).then0 x10 hb7
   have hb10:=z10.bnd hb7
   refine Vm_.u ?_
   simp only[Wx,RR,SS,Nat.reduceEqDiff, ↓reduceIte]
   refine Add_ (M:=6000) hb10 (hx.ext0 z10) (hw.ext0 z10) hxz (by decide) (by omega) (by omega) λs11 x11=> ?_
   have w11:Ext Any Non s6 s11:=(x7.then0 z10 hb6).trans x11 hb6 (λ_ _ _=>trivial) λy hy h=>by omega
   refine Aeq_.u ?_
   simp only[S9,RR,SS]
   refine Or_ (s0:=s6) (b:=bl) (C:=c2) hb6 (hf0.ext0 y6) (by omega) hz6 hI fs.length 0 _ _ s11 _ (by omega) (by omega) rfl w11 (by simp[T.get_set,g1]) (by simp[T.get_set,g6]) (by simp[T.get_set]) λn12 tm12 s12 td12 hn12 hT12 w12 hk12=> ?_
   have k0:T.get tm12 0=some vp:=by rw[hk12 0 (by decide)];simp[T.get_set,g0]
   have k5:T.get tm12 5=some vin:=by rw[hk12 5 (by decide)];simp[T.get_set,g5]
   have k12:T.get tm12 12=some (.bool true):=by rw[hk12 12 (by decide)];simp[T.get_set]
   refine Aau_.u ?_ hT12
   simp only[Cf_,RR,SS, ↓reduceIte,k0,k5,k12]
   have hb12:=w12.bnd hb6
   refine Xc (N:=300) hb12 (hin6.ext0 w12) ((hp0.ext0 y6).ext0 w12) hk hzo (by decide) (by omega) (by omega) λs13 x13=> ?_
   try simp only[SS, ↓reduceIte]
   refine W.orc Qd (W.pure ?_)
   exact aF (rs:=[4]) (vs:=[.bool true]) rfl (.inl Pj_) (by omega) LY Qj ((y6.then0 w12 hb).then0 x13 hb).cx (by simp[T.get_set]) rfl
theorem Tw_:envS.P=Try.prog:=by kernel_rfl
theorem Adb_:Try.prog.underlying 22=some (.slice 5):=by kernel_rfl
theorem Nh_:Try.prog.underlying 5=some (.int .u8):=by kernel_rfl
theorem H5:Try.prog.underlying 3=some (.int .i64):=by kernel_rfl
theorem GW_:Try.prog.cellsOf 5=1:=by kernel_rfl
open Go.RowKit Go.ChangeShapes Go.WideShapes
theorem UT_ {H:Type}(d:DataW H):1<=Rows.uptoBulk d:=by
 unfold Rows.uptoBulk
 split<;>omega
theorem Bz_ {H:Type}: ∀l:List (DataW H),l.length<=Rows.uptoBulkAll l
 |[]=>Nat.zero_le _
 |d::l=>by
  unfold Rows.uptoBulkAll
  have:=UT_ d
  have:=Bz_ l
  rw[List.length_cons]
  omega
mutual
theorem QQ_ {H:Type}{N:Nat}: ∀d:DataW H,Rows.uptoBulk d<=N->lensOk N d
 | .lit (.string l),h=>by
  unfold Rows.uptoBulk at h
  unfold lensOk
  omega
 | .lit (.bool _),_=>by unfold lensOk;trivial
 | .lit (.int _ _),_=>by unfold lensOk;trivial
 | .lit (.float _ _),_=>by unfold lensOk;trivial
 | .lit .nil,_=>by unfold lensOk;trivial
 | .nil,_=>by unfold lensOk;trivial
 | .ptr _,_=>by unfold lensOk;trivial
 | .slice es sp,h=>by
  unfold Rows.uptoBulk at h
  have:=Bz_ es
  unfold lensOk
  exact⟨by omega,L0 es (by omega)⟩
 | .agg ps,h=>by
  unfold Rows.uptoBulk at h
  unfold lensOk
  exact L0 ps (by omega)
 | .iface _ _,_=>by unfold lensOk;trivial
 | .map _,_=>by unfold lensOk;trivial
 | .held _,_=>by unfold lensOk;trivial
theorem L0 {H:Type}{N:Nat}: ∀l:List (DataW H),Rows.uptoBulkAll l<=N->FO N l
 |[],_=>by unfold FO;trivial
 |d::l,h=>by
  unfold Rows.uptoBulkAll at h
  unfold FO
  exact⟨QQ_ d (by omega),L0 l (by omega)⟩
end
theorem lens_small {H:Type}{ds:List (DataW H)}(h:Rows.uptoSmall H ds=true): ∀d∈ds,lensOk 1048576 d:=
 II (L0 ds (of_decide_eq_true h))
theorem Aad_ {P:Program}{N F:Nat}{s:St}{t e:TypeId}{us:List Value}(ht:P.underlying t=some (.slice e))(he:P.underlying e=some (.int .u8))(hc:P.cellsOf e=1)(h:As P N s (F+2) t us): ∃v l,us=[v]/\Bs s v l/\Byt l/\l.length<=N:=by
 obtain⟨v,es,rfl,hE,_,hN,ha⟩:=As.slice ht (by rw[hc];decide) h
 have h1: ∀i,i<es.length-> ∃n:Nat,n<256/\es[i]?=some [.int .u8 (n:Nat)]:=λi hi=>by
  obtain⟨_,hx⟩:=ha _ (List.getElem_mem hi)
  obtain⟨n,e1,e2⟩:=hx.int' he
  have h2:(0:Int)<=n/\n<=255:=by
   have e3:(decide ((0:Int)<=n)&&decide (n<=(255:Int)))=true:=e2
   rw[Bool.and_eq_true]at e3
   exact⟨of_decide_eq_true e3.1,of_decide_eq_true e3.2⟩
  exact⟨n.toNat,by omega,by rw[List.getElem?_eq_getElem hi,e1,Int.toNat_of_nonneg h2.1]⟩
 obtain⟨l,hl,hp⟩:=GG h1
 refine⟨v,l,rfl, ?_,λx hx=> ?_,by omega⟩
 ·rcases hE with⟨rfl,rfl⟩|⟨b,c,rfl,hc1,hc2,hr⟩
  ·exact .inl ⟨rfl,List.eq_nil_of_length_eq_zero hl⟩
  ·rw[hc]at hc2 hr
   refine .inr ⟨b,0,c,by rw[hl],by rw[hl];exact hc1,hc2,λi x e=> ?_⟩
   obtain⟨n,e1,rfl⟩: ∃n,l[i]?=some n/\Value.int .u8 (n:Nat)=x:=by
    rw[List.getElem?_map]at e
    exact Option.map_eq_some_iff.1 e
   have:=hr i _ (hp i n e1).2 0 _ rfl
   rw[Nat.mul_one]at this
   rw[Nat.zero_add]
   exact this
 ·obtain⟨i,hi⟩:=List.getElem?_of_mem hx
  exact(hp i x hi).1
theorem Vd_:Try.prog.underlying 75=some (.slice 78):=by kernel_rfl
theorem AeI_:IM Try.prog 78 [(3,0),(22,1)]=true:=by kernel_rfl
theorem ML:Try.prog.cellsOf 78=2:=by kernel_rfl
theorem Rm_:Try.prog.cellsOf 78<1024:=by rw[ML];decide
theorem Qt:Try.prog.cellsOf 3=1:=by kernel_rfl
theorem Afc_:Try.prog.cellsOf 22=1:=by kernel_rfl
theorem En_ {s:St}{b:Nat}: ∀(fs:List FdI) (o:Nat),(∀i f,fs[i]?=some f->Row s b (o+i*2) (fdC f))->Row s b o (fdCs fs)
 |[],_,_=>λi v e=>by simp[fdCs]at e
 |f::fs,o,h=>λi v e=>by
  have e':(fdC f++fdCs fs)[i]?=some v:=e
  rcases Nat.lt_or_ge i 2 with hi|hi
  ·rw[List.getElem?_append_left (by exact hi)]at e'
   have:=h 0 f rfl i v e'
   rwa [Nat.zero_mul]at this
  ·rw[List.getElem?_append_right (by exact hi)]at e'
   have:=En_ fs (o+2) (λj g e1=>by
    have:=h (j+1) g e1
    rwa [show o+(j+1)*2=o+2+j*2 by omega]at this) (i-2) v e'
   rwa [show o+2+(i-2)=o+i by omega]at this
attribute [local irreducible] As
theorem OS_ {N F:Nat}{s:St}{us:List Value}(h:As Try.prog N s (F+4) 75 us): ∃v fs,us=[v]/\FdR s v fs/\fs.length<=N/\ ∀f∈fs,f.l.length<=N:=by
 obtain⟨v,es,rfl,hE,_,hN,ha⟩:=As.slice (P:=Try.prog) (F:=F+3) (t:=75) (e:=78) Vd_ Rm_ h
 rw[ML]at hE
 have h1: ∀i,i<es.length-> ∃f:FdI,es[i]?=some (fdC f)/\Bs s f.v f.l/\Byt f.l/\f.l.length<=N:=λi hi=>by
  obtain⟨hx2,hx⟩:=ha _ (List.getElem_mem hi)
  rw[ML]at hx2
  obtain⟨_,hx⟩:=hx.struct AeI_
  have k1:=hx (3,0) (by simp)
  have k2:=hx (22,1) (by simp)
  simp only[Qt,Afc_]at k1 k2
  obtain⟨n,e1,_⟩:=k1.int' H5
  obtain⟨w,l,e2,k3,k4,k5⟩:=Aad_ Adb_ Nh_ GW_ k2
  refine⟨⟨n,w,l⟩, ?_,k3,k4,k5⟩
  rw[List.getElem?_eq_getElem hi]
  generalize es[i]=x at e1 e2 hx2
  match x,hx2,e1,e2 with
  |[a,b],_,e1,e2=>
   cases e1
   cases e2
   rfl
 obtain⟨fs,hl,hp⟩:=GG h1
 have hm: ∀f∈fs,Bs s f.v f.l/\Byt f.l/\f.l.length<=N:=λf hf=>by
  obtain⟨i,hi⟩:=List.getElem?_of_mem hf
  exact(hp i f hi).2
 refine⟨v,fs,rfl,⟨?_,λf hf=>(hm f hf).1,λf hf=>(hm f hf).2.1⟩,by omega,λf hf=>(hm f hf).2.2⟩
 rcases hE with⟨rfl,rfl⟩|⟨b,c,rfl,_,_,hr⟩
 ·exact .inl ⟨rfl,List.eq_nil_of_length_eq_zero hl⟩
 ·exact .inr ⟨b,0,c,by rw[hl],En_ fs 0 λi f e=>by rw[Nat.zero_add];exact hr i _ (hp i f e).1⟩
theorem Abn_:aggT Try.prog 75=false:=by kernel_rfl
theorem As.array' {P:Program}{N F n:Nat}{s:St}{t e:TypeId}{us:List Value}(hu:P.underlying t=some (.array n e))(h:As P N s (F+1) t us):us.length=P.cellsOf t/\ ∀i,i<n->As P N s F e ((us.drop (i*P.cellsOf e)).take (P.cellsOf e)):=by
 unfold As at h
 rw[hu]at h
 exact h
theorem AlP_:Try.prog.underlying 26=some (.array 16 5):=by kernel_rfl
theorem Lj_:Try.prog.cellsOf 26=16:=by kernel_rfl
theorem Akm_:Try.prog.underlying 36=some (.slice 35):=by kernel_rfl
theorem Ph_:IM Try.prog 35 [(26,0),(3,16),(3,17)]=true:=by kernel_rfl
theorem RB:Try.prog.cellsOf 35=18:=by kernel_rfl
theorem ZU_:Try.prog.cellsOf 35<1024:=by rw[RB];decide
theorem Oc_:Try.prog.cellsOf 36=1:=by kernel_rfl
theorem WI_:Try.prog.underlying 55=some (.slice 85):=by kernel_rfl
theorem Qb_:IM Try.prog 85 [(3,0),(3,1),(36,2)]=true:=by kernel_rfl
theorem OY:Try.prog.cellsOf 85=3:=by kernel_rfl
theorem QO_:Try.prog.cellsOf 85<1024:=by rw[OY];decide
theorem Aez_ {us:List Value}{l:List Nat}(hl:l.length=us.length)(h: ∀(i n:Nat),l[i]?=some n->us[i]?=some (Value.int .u8 (n:Nat))):us=u8l l:=by
 apply List.ext_getElem?
 intro i
 unfold u8l
 rw[List.getElem?_map]
 cases hq:l[i]? with
 |none=>
  have:=List.getElem?_eq_none_iff.1 hq
  rw[Option.map_none]
  exact List.getElem?_eq_none_iff.2 (by omega)
 |some n=>rw[h i n hq,Option.map_some]
theorem AeK_ {N F:Nat}{s:St}{us:List Value}(h:As Try.prog N s (F+2) 26 us): ∃id,us=u8l id/\id.length=16:=by
 obtain⟨h1,h2⟩:=h.array' AlP_
 rw[Lj_]at h1
 rw[GW_]at h2
 obtain⟨id,hl,hp⟩:=GG (n:=16) (p:=λi (x:Nat)=>us[i]?=some (Value.int .u8 (x:Nat))) λi hi=>by
  obtain⟨n,e1,e2⟩:=(h2 i hi).int' Nh_
  have h3:(0:Int)<=n/\n<=255:=by
   have e3:(decide ((0:Int)<=n)&&decide (n<=(255:Int)))=true:=e2
   rw[Bool.and_eq_true]at e3
   exact⟨of_decide_eq_true e3.1,of_decide_eq_true e3.2⟩
  refine⟨n.toNat, ?_⟩
  rw[Nat.mul_one]at e1
  have:((us.drop i).take 1)[0]?=some (.int .u8 n):=by rw[e1];rfl
  rw[List.getElem?_take,if_pos (by decide),List.getElem?_drop,Nat.add_zero]at this
  rw[this,Int.toNat_of_nonneg h3.1]
 exact⟨id,Aez_ (by omega) hp,hl⟩
theorem Gr_ {s:St}{b:Nat}: ∀(hs:List HdI) (o:Nat),(∀h∈hs,h.1.length=16)->(∀i h,hs[i]?=some h->Row s b (o+i*18) (AM h))->Row s b o (Bw hs)
 |[],_,_,_=>λi v e=>by simp[Bw]at e
 |h::hs,o,h16,hr=>λi v e=>by
  have e':(AM h++Bw hs)[i]?=some v:=e
  have hl:(AM h).length=18:=Iv (h16 h (by simp))
  rcases Nat.lt_or_ge i 18 with hi|hi
  ·rw[List.getElem?_append_left (by omega)]at e'
   have:=hr 0 h rfl i v e'
   rwa [Nat.zero_mul]at this
  ·rw[List.getElem?_append_right (by omega),hl]at e'
   have:=Gr_ hs (o+18) (λx hx=>h16 x (by simp[hx])) (λj g e1=>by
    have:=hr (j+1) g e1
    rwa [show o+(j+1)*18=o+18+j*18 by omega]at this) (i-18) v e'
   rwa [show o+18+(i-18)=o+i by omega]at this
theorem Vl {s:St}{b:Nat}: ∀(ps:List PkI) (o:Nat),(∀i p,ps[i]?=some p->Row s b (o+i*3) (pkC p))->Row s b o (pkCs ps)
 |[],_,_=>λi v e=>by simp[pkCs]at e
 |p::ps,o,hr=>λi v e=>by
  have e':(pkC p++pkCs ps)[i]?=some v:=e
  rcases Nat.lt_or_ge i 3 with hi|hi
  ·rw[List.getElem?_append_left (by exact hi)]at e'
   have:=hr 0 p rfl i v e'
   rwa [Nat.zero_mul]at this
  ·rw[List.getElem?_append_right (by exact hi)]at e'
   have:=Vl ps (o+3) (λj g e1=>by
    have:=hr (j+1) g e1
    rwa [show o+(j+1)*3=o+3+j*3 by omega]at this) (i-3) v e'
   rwa [show o+3+(i-3)=o+i by omega]at this
theorem Act_ {N F:Nat}{s:St}{us:List Value}(h:As Try.prog N s (F+4) 36 us): ∃v hs,us=[v]/\HiR s v hs/\(∀h∈hs,h.1.length=16)/\hs.length<=N:=by
 obtain⟨v,es,rfl,hE,_,hN,ha⟩:=As.slice (P:=Try.prog) (F:=F+3) (t:=36) (e:=35) Akm_ ZU_ h
 rw[RB]at hE
 have h1: ∀i,i<es.length-> ∃g:HdI,es[i]?=some (AM g)/\g.1.length=16:=λi hi=>by
  obtain⟨hx2,hx⟩:=ha _ (List.getElem_mem hi)
  rw[RB]at hx2
  obtain⟨_,hx⟩:=hx.struct Ph_
  have k1:=hx (26,0) (by simp)
  have k2:=hx (3,16) (by simp)
  have k3:=hx (3,17) (by simp)
  simp only[Qt,Lj_]at k1 k2 k3
  obtain⟨id,e1,hid⟩:=AeK_ k1
  obtain⟨a,e2,_⟩:=k2.int' H5
  obtain⟨z,e3,_⟩:=k3.int' H5
  refine⟨(id,a,z), ?_,hid⟩
  rw[List.getElem?_eq_getElem hi]
  generalize es[i]=x at e1 e2 e3 hx2
  congr 1
  rw[List.drop_zero]at e1
  have d1:x=x.take 16++x.drop 16:=(List.take_append_drop 16 x).symm
  have d2:x.drop 16=(x.drop 16).take 1++(x.drop 16).drop 1:=(List.take_append_drop 1 _).symm
  have d3:(x.drop 16).drop 1=(x.drop 17).take 1:=by
   rw[List.drop_drop]
   exact(List.take_of_length_le (by rw[List.length_drop];omega)).symm
  rw[d1,d2,d3,e1,e2,e3]
  rfl
 obtain⟨hs,hl,hp⟩:=GG h1
 have h16: ∀h∈hs,h.1.length=16:=λg hg=>by
  obtain⟨i,hi⟩:=List.getElem?_of_mem hg
  exact(hp i g hi).2
 refine⟨v,hs,rfl, ?_,h16,by omega⟩
 rcases hE with⟨rfl,rfl⟩|⟨b,c,rfl,_,_,hr⟩
 ·exact .inl ⟨rfl,List.eq_nil_of_length_eq_zero hl⟩
 ·exact .inr ⟨b,0,c,by rw[hl],Gr_ hs 0 h16 λi g e=>by rw[Nat.zero_add];exact hr i _ (hp i g e).1⟩
theorem RH_ {N F:Nat}{s:St}{us:List Value}(h:As Try.prog N s (F+6) 55 us): ∃v ps,us=[v]/\PkR s v ps/\ps.length<=N/\ ∀p∈ps,p.hs.length<=N:=by
 obtain⟨v,es,rfl,hE,_,hN,ha⟩:=As.slice (P:=Try.prog) (F:=F+5) (t:=55) (e:=85) WI_ QO_ h
 rw[OY]at hE
 have h1: ∀i,i<es.length-> ∃p:PkI,es[i]?=some (pkC p)/\HiR s p.v p.hs/\(∀h∈p.hs,h.1.length=16)/\p.hs.length<=N:=λi hi=>by
  obtain⟨hx2,hx⟩:=ha _ (List.getElem_mem hi)
  rw[OY]at hx2
  obtain⟨_,hx⟩:=hx.struct Qb_
  have k1:=hx (3,0) (by simp)
  have k2:=hx (3,1) (by simp)
  have k3:=hx (36,2) (by simp)
  simp only[Qt,Oc_]at k1 k2 k3
  obtain⟨n,e1,_⟩:=k1.int' H5
  obtain⟨z,e2,_⟩:=k2.int' H5
  obtain⟨w,hs,e3,g1,g2,g3⟩:=Act_ k3
  refine⟨⟨n,z,w,hs⟩, ?_,g1,g2,g3⟩
  rw[List.getElem?_eq_getElem hi]
  generalize es[i]=x at e1 e2 e3 hx2
  match x,hx2,e1,e2,e3 with
  |[a,b,c],_,e1,e2,e3=>
   cases e1
   cases e2
   cases e3
   rfl
 obtain⟨ps,hl,hp⟩:=GG h1
 have hm: ∀p∈ps,HiR s p.v p.hs/\(∀h∈p.hs,h.1.length=16)/\p.hs.length<=N:=λp hq=>by
  obtain⟨i,hi⟩:=List.getElem?_of_mem hq
  exact(hp i p hi).2
 refine⟨v,ps,rfl,⟨?_,λp hq=>(hm p hq).1,λp hq=>(hm p hq).2.1⟩,by omega,λp hq=>(hm p hq).2.2⟩
 rcases hE with⟨rfl,rfl⟩|⟨b,c,rfl,_,_,hr⟩
 ·exact .inl ⟨rfl,List.eq_nil_of_length_eq_zero hl⟩
 ·exact .inr ⟨b,0,c,by rw[hl],Vl ps 0 λi p e=>by rw[Nat.zero_add];exact hr i _ (hp i p e).1⟩
theorem Av_:Try.f12.params.toList=[55,75]:=by kernel_rfl
theorem AfF_:envS.orc.get 12=none:=by kernel_rfl
theorem Sr_:envS.ext.get 12=none:=by kernel_rfl
theorem Acj_:[55,75].all (DH Try.prog 8)=true:=by kernel_rfl
theorem ZZ_:aggT Try.prog 55=false:=by kernel_rfl
set_option maxRecDepth 1000000 in
theorem walkMerges {H:Type}{enc:TypeId×Value->H}{w:World}{base:Nat}{args:Array Value}{ds:List (DataW H)}{ps:List MemPlace}(hN: ∀d∈ds,lensOk 1048576 d)(hA:DataW.TrodAll enc Try.prog w 0 (λ_=>true) true Try.f12.params.toList args.toList ds ps)
  (hv: ∀(j:Nat) t v,Try.f12.params[j]?=some t->args[j]?=some v->Value.okWide Try.prog w .any base t v):Calls Try.prog 12 args w λe w'=>e= .returned (.bool true)/\Below w.heap.size w w':=by
 have hv': ∀(j:Nat) t v,[55,75][j]?=some t->args.toList[j]?=some v->Value.okWide Try.prog w .any base t v:=λj t v e1 e2=>by
  rw[<-Av_]at e1
  rw[Array.getElem?_toList]at e1 e2
  exact hv j t v e1 e2
 rw[Av_]at hA
 have hE:envS.P=Try.prog:=Tw_
 have h:=OU_ (E:=envS) (fuel:=90000000) (f:=12) (F:=8) (N:=1048576) (v:= .bool true) (ts:=[55,75]) AjR_ AfF_ Sr_ rfl (by rw[hE];exact hA) (by rw[hE];exact hv') (by rw[hE];exact Acj_) (.inr hN) (λm nx us hus hu=>by
  rw[hE]at hu
  match us,hus,hu with
  |[u0,u1],_,hu=>
   have k0:=(hu 0 _ u0 rfl rfl).one ZZ_
   have k1:=(hu 1 _ u1 rfl rfl).one Abn_
   obtain⟨v,ps,e0,hp,hpl,hpz⟩:=RH_ (F:=2) k0
   obtain⟨w,fs,e1,hf,hfl,hfz⟩:=OS_ (F:=4) k1
   cases e0
   cases e1
   exact NP_ (Nat.zero_le _) hp hf hpz (by omega) hfz (by omega))
 rw[hE]at h
 exact h
