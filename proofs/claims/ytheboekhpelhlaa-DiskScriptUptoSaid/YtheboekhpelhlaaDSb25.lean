import Derived.Test.YtheboekhpelhlaaDSb24
namespace Go.Proofs.Ytheboekhpelhlaa.Am
open Go.RowKit
theorem CF_ (a b:ByteArray):(a==b)=(a.data==b.data):=by
 cases a;cases b;rfl
theorem HW (a:ByteArray):(a==a)=true:=by
 rw[CF_];simp
structure RF where
 name:ByteArray
 b:List Nat
 safe:Nat
def prF (f:FileS):RF:=⟨f.name,f.sb++f.lb,f.sb.length⟩
def nmL (a:ByteArray):List UInt8:=a.data.toList
theorem MY {a b:ByteArray}(h:nmL a=nmL b):a=b:=by
 apply ByteArray.ext
 unfold nmL at h
 exact Array.toList_inj.1 h
theorem EQ (a b:ByteArray):(a==b)=true↔a=b:=by
 rw[CF_]
 constructor
 ·intro h
  exact ByteArray.ext (beq_iff_eq.1 h)
 ·rintro rfl
  simp
theorem AcO_ (a b:ByteArray):(a==b)=(b==a):=by
 rw[Bool.eq_iff_iff,EQ,EQ]
 exact eq_comm
def ltN (a b:ByteArray):Prop:=leB (nmL a) (nmL b)=true/\a≠b
theorem OK {a b:List UInt8}(h1:leB a b=true)(h2:leB b a=true):a=b:=by
 simp only[leB,decide_eq_true_eq]at *
 exact List.le_antisymm h1 h2
theorem Aeq_ {a b c:ByteArray}(h1:ltN a b)(h2:ltN b c):ltN a c:=⟨MG _ _ _ h1.1 h2.1,λe=>by
 subst e
 exact h1.2 (MY (OK h1.1 h2.1))⟩
theorem Aqk_ (a b:ByteArray):ltN a b\/a=b\/ltN b a:=by
 by_cases e:a=b
 ·exact .inr (.inl e)
 ·have:=RO (nmL a) (nmL b)
  rw[Bool.or_eq_true]at this
  rcases this with h|h
  ·exact .inl ⟨h,e⟩
  ·exact .inr (.inr ⟨h,λq=>e q.symm⟩)
structure Rl (fs:List FileS)(wl:List RF):Prop where
 perm:(fs.map prF).Perm wl
 sort:wl.Pairwise λx y=>ltN x.name y.name
def atW (wl:List RF)(a:ByteArray):Option Nat:=wl.findIdx? λf=>f.name==a
theorem Fe {α:Type}: ∀{l:List α} {i:Nat} (h:i<l.length),l.Perm (l[i]::l.eraseIdx i)
 |x::l,0,_=> .refl _
 |x::l,i+1,h=>((Fe (l:=l) (i:=i) (by simpa using h)).cons x).trans (.swap _ _ _)
theorem Eu {α β:Type}(f:α->β): ∀(l:List α) (i:Nat),(l.eraseIdx i).map f=(l.map f).eraseIdx i
 |[],_=>rfl
 |x::l,0=>rfl
 |x::l,i+1=>by
  show f x::(l.eraseIdx i).map f=f x::(l.map f).eraseIdx i
  rw[Eu f l i]
theorem JQ {α:Type}: ∀{l:List α} {i:Nat} (h:i<l.length) (y:α),(l.set i y).Perm (y::l.eraseIdx i)
 |x::l,0,_,y=> .refl _
 |x::l,i+1,h,y=>((JQ (l:=l) (i:=i) (by simpa using h) y).cons x).trans (.swap _ _ _)
section
variable {fs:List FileS}{wl:List RF}{a:ByteArray}
theorem Rl.len (h:Rl fs wl):wl.length=fs.length:=by
 have:=h.perm.length_eq
 simpa using this.symm
theorem Rl.uniq (h:Rl fs wl){i j:Nat}(hi:i<wl.length)(hj:j<wl.length)(e:wl[i].name=wl[j].name):i=j:=by
 rcases Nat.lt_trichotomy i j with c|c|c
 ·exact absurd e (List.pairwise_iff_getElem.1 h.sort i j hi hj c).2
 ·exact c
 ·exact absurd e.symm (List.pairwise_iff_getElem.1 h.sort j i hj hi c).2
theorem CO {i:Nat}(h:atW wl a=some i): ∃hi:i<wl.length,wl[i].name=a:=by
 obtain⟨hi,h1,_⟩:=List.findIdx?_eq_some_iff_getElem.1 h
 exact⟨hi,(EQ _ _).1 h1⟩
theorem HD {j:Nat}(h:An fs a=some j): ∃hj:j<fs.length,fs[j].name=a:=by
 unfold An at h
 obtain⟨hj,h1,_⟩:=List.findIdx?_eq_some_iff_getElem.1 h
 have hj':j<fs.length:=by simpa using hj
 refine⟨hj', ?_⟩
 rw[List.getElem_map]at h1
 exact((EQ _ _).1 h1).symm
theorem Rl.find (h:Rl fs wl)(a:ByteArray):(An fs a=none/\atW wl a=none)\/ ∃(j i:Nat) (hj:j<fs.length) (hi:i<wl.length),An fs a=some j/\atW wl a=some i/\wl[i]=prF fs[j]/\fs[j].name=a:=by
 cases hl:An fs a with
 |none=>
  refine .inl ⟨rfl, ?_⟩
  unfold atW
  rw[List.findIdx?_eq_none_iff]
  intro f hf
  obtain⟨g,hg,rfl⟩:=List.mem_map.1 (h.perm.mem_iff.2 hf)
  unfold An at hl
  have:=List.findIdx?_eq_none_iff.1 hl g.name (List.mem_map_of_mem hg)
  rw[AcO_]
  exact this
 |some j=>
  obtain⟨hj,hn⟩:=HD hl
  have hm:prF fs[j]∈wl:=h.perm.mem_iff.1 (List.mem_map_of_mem (List.getElem_mem hj))
  obtain⟨i',hi',e'⟩:=List.getElem_of_mem hm
  cases hw:atW wl a with
  |none=>
   unfold atW at hw
   have:=List.findIdx?_eq_none_iff.1 hw _ hm
   rw[show(prF fs[j]).name=a from hn,HW]at this
   cases this
  |some i=>
   obtain⟨hi,hin⟩:=CO hw
   have e:i=i':=h.uniq hi hi' (by rw[hin,e'];exact hn.symm)
   subst e
   exact .inr ⟨j,i,hj,hi,rfl,rfl,e',hn⟩
theorem Rl.set (h:Rl fs wl){j i:Nat}{g:FileS}(hj:j<fs.length)(hi:i<wl.length)(e:wl[i]=prF fs[j])(hn:g.name=fs[j].name):Rl (fs.set j g) (wl.set i (prF g)):=by
 refine⟨?_, ?_⟩
 ·rw[List.map_set]
  have p1:=Fe (l:=fs.map prF) (i:=j) (by simpa using hj)
  have p2:=Fe (l:=wl) hi
  rw[e]at p2
  rw[List.getElem_map]at p1
  have p3:((fs.map prF).eraseIdx j).Perm (wl.eraseIdx i):=((p1.symm.trans h.perm).trans p2).cons_inv
  exact((JQ (by simpa using hj) _).trans (p3.cons _)).trans (JQ hi _).symm
 ·rw[List.pairwise_iff_getElem]
  intro x y hx hy hxy
  have hnm:(prF g).name=wl[i].name:=by rw[e];exact hn
  have nm: ∀z (hz:z<(wl.set i (prF g)).length),(wl.set i (prF g))[z].name=(wl[z]'(by simpa using hz)).name:=λz hz=>by
   rw[List.getElem_set]
   split
   ·rename_i c
    subst c
    exact hnm
   ·rfl
  rw[nm,nm]
  exact List.pairwise_iff_getElem.1 h.sort x y (by simpa using hx) (by simpa using hy) hxy
theorem Rl.erase (h:Rl fs wl){j i:Nat}(hj:j<fs.length)(hi:i<wl.length)(e:wl[i]=prF fs[j]):Rl (fs.eraseIdx j) (wl.eraseIdx i):=by
 refine⟨?_,h.sort.sublist (List.eraseIdx_sublist wl i)⟩
 rw[Eu]
 have p1:=Fe (l:=fs.map prF) (i:=j) (by simpa using hj)
 have p2:=Fe (l:=wl) hi
 rw[e]at p2
 rw[List.getElem_map]at p1
 exact((p1.symm.trans h.perm).trans p2).cons_inv
def ltT (a b:ByteArray):Bool:=Cq (nmL a) (nmL b)&& !(a==b)
theorem MP_ (a b:ByteArray):ltT a b=true↔ltN a b:=by
 unfold ltT ltN
 rw[Bool.and_eq_true,FU,Bool.not_eq_true']
 constructor
 ·rintro ⟨h1,h2⟩
  exact⟨h1,λe=>by rw[(EQ _ _).2 e]at h2;cases h2⟩
 ·rintro ⟨h1,h2⟩
  exact⟨h1,Bool.eq_false_iff.2 λe=>h2 ((EQ _ _).1 e)⟩
def insW:List RF->RF->List RF
 |[],f=>[f]
 |g::l,f=>if ltT g.name f.name then g::insW l f else f::g::l
def A9:List RF->ByteArray->Nat
 |[],_=>0
 |g::l,a=>if ltT g.name a then A9 l a+1 else 0
theorem NJ_: ∀(l:List RF) (a:ByteArray),A9 l a<=l.length
 |[],_=>Nat.le_refl _
 |g::l,a=>by
  unfold A9
  split
  ·have:=NJ_ l a
   simp
   omega
  ·exact Nat.zero_le _
theorem Lg: ∀(l:List RF) (f:RF),insW l f=l.take (A9 l f.name)++f::l.drop (A9 l f.name)
 |[],f=>rfl
 |g::l,f=>by
  unfold insW A9
  split
  ·rw[Lg l f]
   rfl
  ·rfl
theorem G5: ∀(l:List RF) (f:RF),(insW l f).Perm (f::l)
 |[],f=> .refl _
 |g::l,f=>by
  unfold insW
  split
  ·exact((G5 l f).cons g).trans (.swap _ _ _)
  ·exact .refl _
theorem Gy_: ∀(l:List RF) (f:RF),l.Pairwise (λx y=>ltN x.name y.name)->(∀g∈l,g.name≠f.name)->(insW l f).Pairwise λx y=>ltN x.name y.name
 |[],f,_,_=>List.pairwise_singleton _ _
 |g::l,f,h,hn=>by
  obtain⟨h1,h2⟩:=List.pairwise_cons.1 h
  unfold insW
  split
  ·rename_i c
   refine List.pairwise_cons.2 ⟨λz hz=> ?_,Gy_ l f h2 λx hx=>hn x (by simp[hx])⟩
   rcases List.mem_cons.1 ((G5 l f).mem_iff.1 hz)with rfl|hz
   ·exact(MP_ _ _).1 c
   ·exact h1 z hz
  ·rename_i c
   have hfg:ltN f.name g.name:=by
    rcases Aqk_ f.name g.name with h|h|h
    ·exact h
    ·exact absurd h.symm (hn g am)
    ·exact absurd ((MP_ _ _).2 h) c
   refine List.pairwise_cons.2 ⟨λz hz=> ?_,h⟩
   rcases List.mem_cons.1 hz with rfl|hz
   ·exact hfg
   ·exact Aeq_ hfg (h1 z hz)
theorem Rl.add (h:Rl fs wl){g:FileS}(hn:An fs g.name=none):Rl (fs++[g]) (insW wl (prF g)):=by
 have hw:atW wl g.name=none:=by
  rcases h.find g.name with⟨_,h2⟩|⟨j,i,hj,hi,h1,_⟩
  ·exact h2
  ·rw[h1]at hn
   cases hn
 refine⟨?_,Gy_ wl (prF g) h.sort λf hf e=> ?_⟩
 ·rw[List.map_append]
  refine(List.perm_append_comm (l₁:=fs.map prF) (l₂:=[prF g])).trans ?_
  exact(h.perm.cons (prF g)).trans (G5 wl (prF g)).symm
 ·unfold atW at hw
  have:=List.findIdx?_eq_none_iff.1 hw f hf
  rw[e,show(prF g).name=g.name from rfl,HW]at this
  cases this
theorem Rl.nil:Rl [] []:=⟨.refl _,List.Pairwise.nil⟩
theorem Rl.used (h:Rl fs wl):(fs.map λf=>f.sb.length+f.lb.length).sum=(wl.map λf=>f.b.length).sum:=by
 have p:=(h.perm.map λf=>f.b.length).sum_nat
 rw[List.map_map]at p
 rw[<-p]
 congr 1
 refine List.map_congr_left λf _=> ?_
 show _=(f.sb++f.lb).length
 rw[List.length_append]
theorem Rl.names (h:Rl fs wl):((fs.map FileS.name).map nmL).Perm ((wl.map RF.name).map nmL):=by
 have p:=h.perm.map λf=>nmL f.name
 rw[List.map_map]at p
 rw[List.map_map,List.map_map]
 exact p
theorem Rl.sorted (h:Rl fs wl):Ga ((fs.map FileS.name).map nmL)=(wl.map RF.name).map nmL:=by
 refine List.Perm.eq_of_pairwise (le:=λa b=>leB a b=true) (λa b _ _ h1 h2=>OK h1 h2) (SE _) ?_ ((Pv _).trans h.names)
 rw[List.map_map,List.pairwise_map]
 exact h.sort.imp λq=>q.1
theorem Rl.dist (h:Rl fs wl):((fs.map FileS.name).map nmL).Nodup:=by
 rw[h.names.nodup_iff,List.map_map]
 unfold List.Nodup
 rw[List.pairwise_map]
 exact h.sort.imp λq e=>q.2 (MY e)
end
section
variable {n D M:Nat}{s:St}{k:DkS}{col:Nat->Nat}{a:ByteArray}{Q:Value->St->Prop}
end
theorem Hz_ (m:Nat):buildN envS 56 [(0, .bool true),(1, .map (some m))]=some [.bool true, .map (some m), .int .i64 0, .int .i64 0, .bool false, .int .i64 0, .bool false]:=X
noncomputable def newC (N:Nat):Nat->Nat:=λx=>if x<N then 1000 else if x=N then 1 else 0
section
variable {D n:Nat}{s:St}{Q:Value->St->Prop}
theorem HG_ {r0:Int}{room:Nat}(hb:s.lim<=s.next)(h0:Own s D 0 (.bool true))(h2:Own s D 2 (.int .i64 r0))(hr:room<=16777216)(hn:60<=n)(q: ∀s1,s1.next=s.next->Ext Any (λy=>y=D+2) s s1->Own s1 D 2 (.int .i64 (room:Nat))->Q (.int .i64 0) s1):W (Ac envS (runF envS n) 21 [.pointer (some ⟨D,0,none⟩), .int .i64 (room:Nat)]) s Q:=by
 have hb0:(s.cxN cxN).lim<=(s.cxN cxN).next:=hb
 refine QR_ λtm t0 t1=> ?_
 refine Dd_.u ?_
 simp only[NX,RR,SS]
 refine PY_.u ?_
 simp only[MP,RR,SS,reduceCtorEq, ↓reduceIte,t0]
 refine CR hb0 (h0.same rfl rfl) J λs1 m1 n1 x1=> ?_
 refine aG Hh_ ?_
 refine Li_.u ?_
 have e1:decide (((room:Nat):Int)<0)=false:=decide_eq_false J
 have e2:decide ((16777216:Int)<((room:Nat):Int))=false:=decide_eq_false J
 simp only[Kr,RR,SS,Nat.reduceEqDiff,reduceCtorEq, ↓reduceIte,Ap,Ck,t1,e1,e2]
 refine aG MB_ ?_
 refine Ajc_.u ?_
 simp only[Ef_,RR,SS,Nat.reduceEqDiff,reduceCtorEq, ↓reduceIte,t0,t1,Ab VI al]
 have g2:Own s1 D 2 (.int .i64 r0):=(h2.same (s':=s.cxN cxN) rfl rfl).same m1 n1
 refine aI Bv rfl g2 λs2 n2 x2 o2=> ?_
 have y2:Ext Any (λy=>y=D+2) (s.cxN cxN) s2:=(x1.gw hb0 λ_ _ h=>h.elim).on x2 hb0 λy _ hq=>by have h1:=hq.1;have h2:=hq.2;omega
 refine AoW_.u ?_
 simp only[S2,RR,SS]
 refine aB (rs:=[4]) (vs:=[.int .i64 0]) rfl (.inl Aiz_) J L0 Yd y2.cx Y ?_
 exact q _ (n2.trans n1) y2.cx' (o2.same rfl rfl)
theorem AqT_ {room:Nat}(hb:s.lim<=s.next)(hr:room<=16777216)(hn:100<=n)(q: ∀s1,Ext Any Non s s1->DkI s1 (newC s.next) (s.next+1) s.next ⟨[],0,room,0,false,0,false⟩->Q (.tuple #[.pointer (some ⟨s.next+1,0,none⟩), .int .i64 0]) s1):W (Ac envS (runF envS n) 6 [.int .i64 (room:Nat)]) s Q:=by
 have hb0:(s.cxN cxN).lim<=(s.cxN cxN).next:=hb
 refine OI_ λtm t0=> ?_
 refine Xs.u ?_
 simp only[Mj,RR,SS]
 refine Ep_.u ?_
 simp only[Qk,RR,SS]
 unfold DQ
 refine W.bind (W.newO λs1 n1 x1 o1=> ?_)
 have ea:(s.cxN cxN).next=s.next:=rfl
 rw[ea]at o1 n1 ⊢
 have y1:Ext Any Non (s.cxN cxN) s1:=x1.weak hb0 (λ_ _ _=>trivial) λ_ _ h=>h
 simp only[AI,Ii (Hz_ s.next)]
 refine W.box λs2 n2 x2 r2=> ?_
 rw[FP]at n2 r2
 have n2':s2.next=s1.next+8:=n2
 rw[n1]at r2 n2' ⊢
 have y2:=y1.on x2 hb0 λ_ _ h=>h
 refine Az_.u ?_
 simp only[PA,RR,SS,reduceCtorEq, ↓reduceIte,t0]
 refine HG_ (y2.bnd hb0) (r2 0 _ rfl) (r2 2 _ rfl) hr J λs3 n3 x3 o3=> ?_
 have y3:Ext Any Non (s.cxN cxN) s3:=y2.on x3 hb0 λy hy h=>by have:y<s.next:=hy;omega
 refine Oh_.u ?_
 simp only[NW,RR,SS, ↓reduceIte,Cr,decide_true,Bool.not_true]
 refine aG ZZ ?_
 refine AbZ_.u ?_
 simp only[OK_,RR,SS,Nat.reduceEqDiff, ↓reduceIte]
 refine aB (rs:=[2,3]) (vs:=[.pointer (some ⟨s.next+1,0,none⟩), .int .i64 0]) rfl (.inl AnN_) J M7 Ac_ y3.cx Y ?_
 refine q _ y3.cx' ?_
 have k: ∀i u,i≠2->Own s2 (s.next+1) i u->Own (s3.cxN s.cx) (s.next+1) i u:=λi u hi h=>(h.ext x3 λhq=>J).same rfl rfl
 have oM:Obj (s3.cxN s.cx) s.next (.map [] 0):=((Obj.ext (Obj.ext o1 x2 id) x3 λhq=>J)).same rfl rfl
 exact⟨k 0 _ al (r2 0 _ rfl),k 1 _ al (r2 1 _ rfl),o3.same rfl rfl,k 3 _ al (r2 3 _ rfl),k 4 _ al (r2 4 _ rfl),k 5 _ al (r2 5 _ rfl),k 6 _ al (r2 6 _ rfl),λx h1 h2=>by unfold newC;rw[if_neg J,if_neg J],oM,by unfold newC;rw[if_neg J,if_pos rfl],rfl,λi hi=>absurd hi (Nat.not_lt_zero i)⟩
end
section
variable {s:St}
theorem W.rowM {vs:List Value}{Q:Value->St->Prop}(hb:s.lim<=s.next)(hz:vs.length<capU)(q: ∀s1 v,MkS s1 1 vs.length vs v s.next->Ext Any Non s s1->Q v s1):W (Am.rowM vs) s Q:=by
 cases vs with
 |nil=>exact W.pure (q s _ (.inl ⟨rfl,rfl,rfl⟩) (Ext.refl _))
 |cons x l=>
  show W (Am.fN (x::l).length λn=>Am.rowN (x::l) n) s Q
  rw[Ar]
  generalize hvs:x::l=vs at *
  have h0:0<vs.length:=by rw[<-hvs];simp
  unfold Am.rowN
  refine W.chk (Bz hz) (W.bind (W.newL λs1 n1 x1 r1=> ?_))
  have e1:Nat.add s.next (Nat.mul vs.length 1)=s.next+vs.length:=by
   show s.next+vs.length*1=_
   omega
  rw[e1]
  refine W.bind (W.wrC J ?_)
  unfold Am.pSl
  show W (Am.fA ⟨s.next,0,none⟩ λa=>Am.fN _ λl=>Am.fN _ λc=>M.pure (.slice (some a) l c)) _ Q
  rw[CH,Ar,Ar]
  have hval:Value.slice (some ⟨s.next,0,none⟩) vs.length (Nat.add (Nat.mul capU (Nat.add (Nat.mul (s.next+vs.length) 1024) 1)) vs.length)= .slice (some ⟨s.next,0,none⟩) vs.length (capU*((s.next+vs.length*1)*1024+1)+vs.length):=by
   rw[Nat.mul_one]
   generalize capU=c
   rfl
  rw[hval]
  refine W.pure (q _ _ (.inr ⟨⟨rfl, ?_, ?_, ?_, ?_⟩,h0⟩) ?_)
  ·exact r1.ext (Ext.wrN (F:=Any) (G:=λy=>y=s.next+vs.length) s1 _ _ rfl) λi hi h=>J
  ·omega
  ·refine⟨1,rfl, ?_⟩
   show T.get (T.set s1.mem (s.next+vs.length) _) (s.next+vs.length*1)=_
   rw[Nat.mul_one,T.get_set,if_pos rfl]
  ·show s.next+vs.length*1<s1.next
   omega
  ·exact(x1.weak (G':=Non) hb (λ_ _ _=>trivial) λ_ _ h=>h).on (Ext.wrN (F:=Any) (G:=λy=>y=s.next+vs.length) s1 _ _ rfl) hb λy hy h=>J
theorem GP_: ∀fs:List FileS,F6 (fs.map FileS.ent)=some ((fs.map FileS.name).map (·.data.toList))
 |[]=>rfl
 |f::fs=>by
  show(match QL f.ent.key,F6 (fs.map FileS.ent)with|some k,some ks=>some (k::ks)|_,_=>none)=_
  rw[GP_ fs]
  rfl
theorem XU_ (l:List ByteArray):(l.map (·.data.toList)).map encStr=l.map Value.string:=by
 rw[List.map_map]
 refine List.map_congr_left λa _=> ?_
 show encStr a.data.toList=Value.string a
 unfold encStr
 congr
theorem W.keysQ {Q:Value->St->Prop}{l:Nat}(q: ∀s1,s1.next=s.next+2->Ext Non Non s s1->Own s1 s.next 0 (.map (some l))->Q (.func (.func 74) #[] #[.chan (some s.next)]) s1):W (keysM 74 [.map (some l)]) s Q:=by
 show W (M.bind (Am.newL [.map (some l)]) λb=>M.pure (.func (.func 74) #[] #[.chan (some b)])) s Q
 exact W.bind (W.newL λs1 n1 x1 r1=>W.pure (q s1 n1 x1 (r1 0 _ rfl)))
end
section
variable {n:Nat}{s:St}{a:ByteArray}{Q:Value->St->Prop}
end
theorem MkS.lenq {E:Env}{s s':St}{t z sz n:Nat}{l:List Value}{v:Value}{b:Nat}(h:MkS s sz n l v b)(ht:slN E t=some z)(Q:Value->St->Prop):W (AH E .len [t] [v]) s' Q=Q (.int .i64 (n:Nat)) s':=h.len ht Q
section
variable {D M n:Nat}{k:DkS}{ks:List Int}{kv:Value}{col:Nat->Nat}{s:St}{a:ByteArray}{Q:Value->St->Prop}
theorem AlB_ (hb:s.lim<=s.next)(hI:DkI s col D M k)(hn:100<=n)(q: ∀s1,Ext Any Non s s1->Q (.bool (!k.out)) s1):W (Ac envS (runF envS n) 37 [.pointer (some ⟨D,0,none⟩)]) s Q:=by
 have hb0:(s.cxN cxN).lim<=(s.cxN cxN).next:=hb
 have hI0:DkI (s.cxN cxN) col D M k:=hI.same rfl rfl
 refine Aln_ λtm t0=> ?_
 refine Aeb_.u ?_
 simp only[HS_,RR,SS]
 refine AhF_.u ?_
 simp only[Ab_,RR,SS,reduceCtorEq, ↓reduceIte,t0]
 refine CR hb0 hI0.d0 J λs1 m1 n1 x1=> ?_
 have hI1:=hI0.same m1 n1
 simp only[SS, ↓reduceIte,A5,Bool.not_false,Ab Lw al]
 refine aA BB hI1.d6.at' ?_
 have y1:=x1.thenRd hb0 (D+(0+6))
 simp only[A5]
 refine aB (rs:=[2]) (vs:=[.bool (!k.out)]) rfl (.inl Aea_) J Kt_ AfZ_ y1.cx Y ?_
 exact q _ y1.cx'
theorem AiN_ {m:Nat}(hb:s.lim<=s.next)(hI:DkI s col D M k)(hn:100<=n)(q: ∀s1,DkI s1 col D M {k with fused:=true,left:=(m:Nat)}->Ext Any (λx=>col x<1000) s s1->s1.next=s.next->Q (.int .i64 0) s1):W (Ac envS (runF envS n) 25 [.pointer (some ⟨D,0,none⟩), .int .i64 (m:Nat)]) s Q:=by
 have hb0:(s.cxN cxN).lim<=(s.cxN cxN).next:=hb
 have hI0:DkI (s.cxN cxN) col D M k:=hI.same rfl rfl
 refine Ov_ λtm t0 t1=> ?_
 refine AG_.u ?_
 simp only[PW,RR,SS]
 refine PJ_.u ?_
 simp only[PJ,RR,SS,reduceCtorEq, ↓reduceIte,t0]
 refine CR hb0 hI0.d0 J λs1 m1 n1 x1=> ?_
 have hI1:=hI0.same m1 n1
 have n1':s1.next=s.next:=n1
 refine aG Op_ ?_
 refine BC_.u ?_
 have e1:decide (((m:Nat):Int)<0)=false:=decide_eq_false J
 simp only[Q9,RR,SS,Nat.reduceEqDiff, ↓reduceIte,Ap,t1,e1]
 refine aG Jc_ ?_
 have hk0: ∀x,D<=x->x<D+7->col x<1000:=λx h1 h2=>by rw[hI.kd x h1 h2];decide
 refine Aku_.u ?_
 simp only[Pk_,RR,SS,Nat.reduceEqDiff,reduceCtorEq, ↓reduceIte,t0,t1,Ab IP al]
 refine aI BB rfl hI1.d4 λs5 n5 x5 o5=> ?_
 have z5:Ext Any (λy=>y=D+4) s1 s5:=x5.weak (x1.bnd hb0) (λ_ _ _=>trivial) λy _ hq=>by have h1:=hq.1;have h2:=hq.2;omega
 have hI5:=hI1.own (st:=k.steps) (fu:=true) (le:=k.left) (ou:=k.out) z5 (λy _ h=>J) (hI1.d3.ext z5 λh=>J) o5 (hI1.d5.ext z5 λh=>J) (hI1.d6.ext z5 λh=>J)
 simp only[Ab JO al]
 have y5:=(x1.gw (G':=λx=>col x<1000) hb0 λ_ _ h=>h.elim).on z5 hb0 λy hy h=>hk0 y J J
 refine aI Bv rfl hI5.d5 λs6 n6 x6 o6=> ?_
 have z6:Ext Any (λy=>y=D+5) s5 s6:=x6.weak (y5.bnd hb0) (λ_ _ _=>trivial) λy _ hq=>by have h1:=hq.1;have h2:=hq.2;omega
 have hI6:=hI5.own (st:=k.steps) (fu:=true) (le:=(m:Nat)) (ou:=k.out) z6 (λy _ h=>J) (hI5.d3.ext z6 λh=>J) (hI5.d4.ext z6 λh=>J) o6 (hI5.d6.ext z6 λh=>J)
 have y6:=y5.on z6 hb0 λy hy h=>hk0 y J J
 refine Xu_.u ?_
 simp only[UV,RR,SS]
 refine aB (rs:=[4]) (vs:=[.int .i64 0]) rfl (.inl Aos_) J NR Dl_ y6.cx Y ?_
 exact q _ (hI6.same rfl rfl) y6.cx' (by show s6.next=s.next;omega)
theorem LR_ {j:Nat}(hb:s.lim<=s.next)(hI:DkI s col D M k)(hj:j<k.fs.length)(hl:An k.fs a=some j)(hn:100<=n)(q: ∀s1,Ext Any Non s s1->Q (.int .i64 (k.fs[j].lb.length:Nat)) s1):W (Ac envS (runF envS n) 15 [.pointer (some ⟨D,0,none⟩), .string a]) s Q:=by
 have hb0:(s.cxN cxN).lim<=(s.cxN cxN).next:=hb
 have hI0:DkI (s.cxN cxN) col D M k:=hI.same rfl rfl
 have hv:AG k.fs a= .pointer (some ⟨k.fs[j].blk,0,none⟩):=by
  unfold AG
  rw[hl]
  simp only[List.getElem?_eq_getElem hj]
 refine Cd_ λtm t0 t1=> ?_
 refine Js_.u ?_
 simp only[SJ,RR,SS]
 refine MV_.u ?_
 simp only[Rk,RR,SS,Nat.reduceEqDiff,reduceCtorEq, ↓reduceIte,t0]
 refine CR hb0 hI0.d0 J λs1 m1 n1 x1=> ?_
 have hI1:=hI0.same m1 n1
 simp only[SS,reduceCtorEq, ↓reduceIte,t1,Ab B4 al]
 refine aA B7 hI1.d1.at' ?_
 have y1:=x1.thenRd hb0 (D+(0+1))
 refine DE (fs:=k.fs) (mx:=k.mx) (hI1.om.same rfl rfl) ?_
 have y2:=y1.thenRd hb0 M
 have hI2:DkI ((s1.rdN (D+(0+1))).rdN M) col D M k:=hI1.same rfl rfl
 generalize (s1.rdN (D+(0+1))).rdN M=s2 at *
 rw[hv]
 simp only[C5 ED]
 refine aG XA ?_
 refine Uu_.u ?_
 simp only[Z2,RR,SS,Nat.reduceEqDiff,reduceCtorEq, ↓reduceIte,t0,t1,Ab B4 al]
 refine aA B7 hI2.d1.at' ?_
 have y3:=y2.thenRd hb0 (D+(0+1))
 refine DE (fs:=k.fs) (mx:=k.mx) (hI2.om.same rfl rfl) ?_
 have y4:=y3.thenRd hb0 M
 have hI4:DkI ((s2.rdN (D+(0+1))).rdN M) col D M k:=hI2.same rfl rfl
 generalize (s2.rdN (D+(0+1))).rdN M=s4 at *
 rw[hv]
 have g:=hI4.fl j hj
 simp only[AD,Ab CS al]
 refine aA A2 g.o1.at' ?_
 have y5:=y4.thenRd hb0 (k.fs[j].blk+(0+1))
 simp only[MkS.lenq g.ml BH]
 refine aB (rs:=[4]) (vs:=[.int .i64 (k.fs[j].lb.length:Nat)]) rfl (.inl AbP_) J SF Sh_ y5.cx Y ?_
 exact q _ y5.cx'
end
def hasB (a p:ByteArray):Bool:=decide (p.size<=a.size)&&((a.extract 0 p.size).data.toList==p.data.toList)
def HasP (a p:ByteArray):Prop:=hasB a p=true
section
variable {n:Nat}{s:St}{a p:ByteArray}{Q:Value->St->Prop}
theorem AdP_ (hn:10<=n)(q: ∀s1,s1.mem=s.mem->s1.next=s.next->Ext Any Non s s1->Q (.bool (hasB a p)) s1):W (Ac envS (runF envS n) 76 [.string a, .string p]) s Q:=by
 refine Acx_ λtm h0 h1=> ?_
 refine AiZ_.u ?_
 simp only[QC_,RR,SS]
 refine AkL_.u ?_
 have fin: ∀(b:Bool) (n':Nat) (tm':T Value) (td:List Item),2<=n'->skim 64 td=Oh->T.get tm' 4=some (.bool b)->b=hasB a p->W (runF envS n' ⟨76,AhL_,Jj,tm',td, .run, .normal,none⟩) (s.cxN cxN) λp s1=>Q p.1 (s1.cxN s.cx):=by
  intro b n' tm' td hn' hT g hb
  refine aB (rs:=[4]) (vs:=[.bool b]) hT (.inl ZX_) J NG_ AjE_ rfl (by simp[g]) ?_
  rw[hb]
  exact q _ rfl rfl (Ext.refl (F:=Any) (G:=Non) s)
 by_cases hle:p.size<=a.size
 ·have e0:decide (((p.size:Nat):Int)<=((a.size:Nat):Int))=true:=decide_eq_true J
  simp only[Mq,RR,SS,Nat.reduceEqDiff,reduceCtorEq, ↓reduceIte,B9,h0,h1,CA A8,e0]
  rw[Z5 (l:=0) (h:=p.size) A8 rfl rfl (Nat.zero_le _) hle]
  simp only[IV]
  exact fin _ _ _ _ J rfl (by rw[T.get_set,if_pos rfl]) (by unfold hasB;rw[decide_eq_true hle,Bool.true_and])
 ·have e0:decide (((p.size:Nat):Int)<=((a.size:Nat):Int))=false:=decide_eq_false J
  simp only[Mq,RR,SS,Nat.reduceEqDiff,reduceCtorEq, ↓reduceIte,B9,h0,h1,CA A8,e0,Bool.false_eq_true]
  exact fin _ _ _ _ J rfl (by rw[T.get_set,if_pos rfl]) (by unfold hasB;rw[decide_eq_false hle,Bool.false_and])
theorem Yz_ (hn:30<=n)(q: ∀s1,s1.mem=s.mem->s1.next=s.next->Ext Any Non s s1->Q (.bool (hasB a p)) s1):W (Ac envS (runF envS n) 65 [.string a, .string p]) s Q:=by
 refine AdD_ λtm h0 h1=> ?_
 refine Ut_.u ?_
 simp only[QY_,RR,SS]
 refine Ajq_.u ?_
 simp only[MI_,RR,SS,Nat.reduceEqDiff,reduceCtorEq, ↓reduceIte,h0,h1]
 refine AdP_ J λs1 m1 n1 x1=> ?_
 refine aB (rs:=[4]) (vs:=[.bool (hasB a p)]) rfl (.inl Ua_) J PI_ Zr_ x1.cx Y ?_
 exact q _ m1 n1 x1.cx'
end
theorem BP:slN envS 66=some 1:=X
theorem DE_:envS.orc.get 62=some (keysM 74):=X
theorem Pj_:envS.orc.get 61=some (sortedM 74):=X
def NmR (s:St)(v:Value)(l:List ByteArray)(b:Nat):Prop:=MkS s 1 l.length (l.map Value.string) v b
theorem NmR.at {s:St}{v:Value}{l:List ByteArray}{b i:Nat}(h:NmR s v l b)(hi:i<l.length): ∃c,v= .slice (some ⟨b,0,none⟩) l.length c/\Own s b (0+i*1) (.string l[i]):=by
 rcases h with⟨_,h0,_⟩|⟨h,h0⟩
 ·omega
 ·refine⟨_,h.val, ?_⟩
  rw[Nat.mul_one,Nat.zero_add]
  have h1:=h.own i (.string l[i]) (by simp[hi])
  rwa [Nat.zero_add]at h1
section
variable {n P:Nat}{s:St}{a p:ByteArray}{Q:Value->St->Prop}
theorem NH (hb:s.lim<=s.next)(hP:Own s P 0 (.string p))(hn:100<=n)(q: ∀s1,s1.mem=s.mem->s1.next=s.next->Ext Any Non s s1->Q (.bool (!hasB a p)) s1):W (Ac envS (runF envS n) 64 [.string a, .pointer (some ⟨P,0,none⟩)]) s Q:=by
 have hb0:(s.cxN cxN).lim<=(s.cxN cxN).next:=hb
 refine AfB_ λtm h0 h1=> ?_
 refine ZK_.u ?_
 simp only[Wf,RR,SS]
 refine Aot_.u ?_
 simp only[Hi_,RR,SS,Nat.reduceEqDiff,reduceCtorEq, ↓reduceIte,h0,h1]
 refine aA AQ (hP.same (s':=s.cxN cxN) rfl rfl).at' ?_
 have y1:=(Ext.refl (F:=Any) (G:=Non) (s.cxN cxN)).thenRd hb0 (P+0)
 refine Yz_ J λs1 m1 n1 x1=> ?_
 have y2:=y1.on x1 hb0 λ_ _ h=>h
 simp only[A5]
 refine aB (rs:=[3]) (vs:=[.bool (!hasB a p)]) rfl (.inl Agv_) J Ki_ Als_ y2.cx Y ?_
 exact q _ m1 n1 y2.cx'
theorem Acv_ (hb:s.lim<=s.next)(hp:HasP a p)(hP:Own s P 0 (.string p))(hn:100<=n)(q: ∀s1,s1.mem=s.mem->s1.next=s.next->Ext Any Non s s1->Q (.bool false) s1):W (Ac envS (runF envS n) 64 [.string a, .pointer (some ⟨P,0,none⟩)]) s Q:=
 NH hb hP hn λs1 m1 n1 x1=>by
  have e:hasB a p=true:=hp
  rw[e]
  exact q s1 m1 n1 x1
theorem TM_ {p:ByteArray}{l:List ByteArray}{v:Value}{b:Nat}{Q:Value×FrameMode->St->Prop}{s0:St}(hb0:s0.lim<=s0.next)(hl:l.length<=300)(hr:NmR s0 v l b)(hp: ∀a∈l,HasP a p)(hP:Own s0 P 0 (.string p))(hcx:s0.cx=cxN)(q: ∀s1,s1.mem=s0.mem->s1.next=s0.next->Ext Any Non s0 s1->Q (.int .i64 (-1), .run) s1):
  ∀(k i n:Nat) (tm:T Value) (s:St) (td:List Item),i+k=l.length->10*k+200<=n->skim 64 td=Ix->Ext Any Non s0 s->s.mem=s0.mem->s.next=s0.next->
  T.get tm 0=some v->T.get tm 1=some (.func (.func 64) #[] #[.pointer (some ⟨P,0,none⟩)])->T.get tm 7=some (.int .i64 (l.length:Nat))->T.get tm 8=some (.int .i64 (i:Nat))->
  W (runF envS n ⟨75,Ui,Dk,tm,td, .run, .normal,none⟩) s Q:=by
 intro k
 induction k with
 |zero=>
  intro i n tm s td hi hn hT hx hm hnx h0 h1 h7 h8
  refine Lq.u ?_ hT
  simp only[HI,RR,SS,Ap,h7,h8]
  refine aG J0 ?_
  refine EC_.u ?_
  simp only[NN,RR,SS]
  refine aB (rs:=[4]) (vs:=[.int .i64 (-1)]) rfl (.inl Aq_) J Jh PX (hx.cx.trans hcx) Y ?_
  exact q s hm hnx hx
 |succ k ih=>
  intro i n tm s td hi hn hT hx hm hnx h0 h1 h7 h8
  have hil:i<l.length:=J
  obtain⟨c,rfl,ho⟩:=NmR.at hr hil
  refine Lq.u ?_ hT
  simp only[HI,RR,SS,Ap,h7,h8]
  refine aJ J0 ?_
  refine JA_.u ?_
  simp only[QZ,RR,SS,Nat.reduceEqDiff, ↓reduceIte,h8]
  refine Y8.u ?_
  simp only[PP,RR,SS,Nat.reduceEqDiff,reduceCtorEq, ↓reduceIte,h0,h1,AA BP hil]
  refine aA AQ (ho.same hm hnx).at' ?_
  have y1:=hx.thenRd hb0 (b+(0+i*1))
  try simp only[Kp]
  refine Acv_ (P:=P) (y1.bnd hb0) (hp _ (List.getElem_mem hil)) ((hP.same hm hnx).same rfl rfl) J λs2 m2 n2 x2=> ?_
  have y2:=y1.on x2 hb0 λ_ _ h=>h
  refine aG Q6 ?_
  refine OQ_.u ?_
  have ei:=eiW (i:=i) J
  simp only[QY,RR,SS,Nat.reduceEqDiff, ↓reduceIte,AY,h8,ei]
  exact ih (i+1) _ _ _ _ J J Yh y2 (m2.trans hm) (n2.trans hnx) (an h0) (an h1) (an h7) Y
theorem Ara_ {l:List ByteArray}{v:Value}{b:Nat}(hb:s.lim<=s.next)(hl:l.length<=300)(hr:NmR s v l b)(hp: ∀a∈l,HasP a p)(hP:Own s P 0 (.string p))(hn:10*l.length+300<=n)(q: ∀s1,s1.mem=s.mem->s1.next=s.next->Ext Any Non s s1->Q v s1):W (Ac envS (runF envS n) 63 [v, .func (.func 64) #[] #[.pointer (some ⟨P,0,none⟩)]]) s Q:=by
 have hb0:(s.cxN cxN).lim<=(s.cxN cxN).next:=hb
 refine Vy λtm h0 h1=> ?_
 refine EG_.u ?_
 simp only[NT,RR,SS]
 refine HK_.u ?_
 simp only[PS,RR,SS,Nat.reduceEqDiff,reduceCtorEq, ↓reduceIte,h0,h1]
 refine Ok_ λtm2 g0 g1=> ?_
 refine Sp_.u ?_
 simp only[Oo,RR,SS]
 refine ZG.u ?_
 simp only[RU,RR,SS,reduceCtorEq, ↓reduceIte,g0,MkS.lenq hr BP]
 refine TM_ (P:=P) (s0:=(s.cxN cxN).cxN cxN) hb hl (MkS.same hr rfl rfl) hp (hP.same rfl rfl) rfl (λs1 m1 n1 x1=> ?_) l.length 0 _ _ _ _ J J rfl (Ext.refl _) rfl rfl (an g0) (an g1) Y Y
 show W _ (s1.cxN cxN) _
 try simp only[SS]
 refine Pr.u ?_
 simp only[Kb,RR,SS, ↓reduceIte,BJ,decide_true]
 refine aJ Qe ?_
 refine Bn_.u ?_
 simp only[N8,RR,SS,reduceCtorEq, ↓reduceIte,h0]
 refine aB (rs:=[4]) (vs:=[v]) rfl (.inl ZI) J KV PZ rfl Y ?_
 exact q _ m1 n1 ⟨x1.nxt,x1.lim,rfl,x1.mem,x1.rd,x1.wr⟩
end
structure NmsTo (l l':List ByteArray):Prop where
 dist:Fl (l.map (·.data.toList))=true
 short:Fc (l.map (·.data.toList)) 1000000=true
 sort:Ga (l.map (·.data.toList))=l'.map (·.data.toList)
 len:l.length<=300
 len':l'.length=l.length
section
variable {n P:Nat}{s:St}{a p:ByteArray}{Q:Value->St->Prop}
theorem W.sortedP {Q:Value->St->Prop}{l b m:Nat}{fs:List FileS}(hb:s.lim<=s.next)(h0:Own s b 0 (.map (some l)))(ho:Obj s l (.map (fs.map FileS.ent) m))(hbo:AT (fs.map FileS.ent) 0 m=true){l':List ByteArray}(hN:NmsTo (fs.map FileS.name) l')(q: ∀s1 v,MkS s1 1 fs.length (l'.map Value.string) v s.next->Ext Any Non s s1->Q v s1):W (sortedM 74 [.func (.func 74) #[] #[.chan (some b)]]) s Q:=by
 show W (M.chk (Nat.beq 72 72&&(#[]:Array Value).isEmpty) (M.bind (Am.rdV ⟨b,0,none⟩) λx=>match x with
   | .map (some l)=>M.bind (Am.mapAt l) sortKs
   |_=>aC)) s Q
 refine W.chk al (W.bind (W.rdV h0.at' ?_))
 have ho1:Obj (s.rdN (b+0)) l (.map (fs.map FileS.ent) m):=ho.same rfl rfl
 refine W.bind (W.bind (W.rdC ho1.2 ho1.1 (W.pure ?_)))
 show W (M.on (F6 (fs.map FileS.ent)) λks=>M.chk (AT (fs.map FileS.ent) 0 m&&Fl ks&&Fc ks 1000000&&Nat.ble ks.length 1000000) (Am.rowM ((Ga ks).map encStr))) ((s.rdN (b+0)).rdN l) Q
 refine W.on (GP_ fs) (W.chk ?_ ?_)
 ·have hl:=hN.len
  rw[hbo,hN.dist,hN.short,Nat.ble_eq_true_of_le (show((fs.map FileS.name).map (·.data.toList)).length<=1000000 by simp at hl ⊢;omega)]
  rfl
 ·rw[hN.sort,XU_]
  have y:=((Ext.refl (F:=Any) (G:=Non) s).thenRd hb (b+0)).thenRd hb l
  have hl:=hN.len
  refine W.rowM (s:=(s.rdN (b+0)).rdN l) hb (Nat.lt_of_le_of_lt (show _<=1000000 by have hl2:=hN.len';simp at hl hl2 ⊢;omega) al) λs1 v mk x1=> ?_
  refine q s1 v ?_ (y.on x1 hb λ_ _ h=>h)
  rw[show(l'.map Value.string).length=fs.length by have:=hN.len';simpa using this]at mk
  exact mk
theorem Arb_ {D M:Nat}{k:DkS}{col:Nat->Nat}(hb:s.lim<=s.next)(hI:DkI s col D M k){l':List ByteArray}(hN:NmsTo (k.fs.map FileS.name) l')(hp: ∀a∈l',HasP a p)(hn:10*k.fs.length+500<=n)(q: ∀s1 v b,s.next<=b->NmR s1 v l' b->Ext Any Non s s1->Q v s1):W (Ac envS (runF envS n) 41 [.pointer (some ⟨D,0,none⟩), .string p]) s Q:=by
 have hb0:(s.cxN cxN).lim<=(s.cxN cxN).next:=hb
 have hI0:DkI (s.cxN cxN) col D M k:=hI.same rfl rfl
 have hlen:k.fs.length<=300:=by have:=hN.len;simpa using this
 refine WV λtm t0 t1=> ?_
 refine Kn_.u ?_
 simp only[NA,RR,SS,t1]
 refine W.box λs1 n1 x1 o1=> ?_
 have ea:(s.cxN cxN).next=s.next:=rfl
 rw[CK (show oneCell (.string p)=true from rfl)]at n1 o1
 rw[ea]at o1 n1 ⊢
 have n1':s1.next=s.next+2:=n1
 have y1:Ext Any Non (s.cxN cxN) s1:=x1.weak hb0 (λ_ _ _=>trivial) λ_ _ h=>h
 have hI1:=hI0.ext0 x1 hlen
 have oP:Own s1 s.next 0 (.string p):=o1 0 _ rfl
 refine Ck_.u ?_
 simp only[Q3,RR,SS,reduceCtorEq, ↓reduceIte,t0]
 refine CR (y1.bnd hb0) hI1.d0 J λs2 m2 n2 x2=> ?_
 have y2:=y1.on x2 hb0 λ_ _ h=>h
 have hI2:=hI1.same m2 n2
 have oP2:=oP.same m2 n2
 refine aG Pf_ ?_
 refine TV.u ?_
 simp only[Oq,RR,SS,reduceCtorEq, ↓reduceIte,t0,Ab B4 al]
 refine aA B7 hI2.d1.at' ?_
 have y3:=y2.thenRd hb0 (D+(0+1))
 have hI3:DkI (s2.rdN (D+(0+1))) col D M k:=hI2.same rfl rfl
 have oP3:Own (s2.rdN (D+(0+1))) s.next 0 (.string p):=oP2.same rfl rfl
 have n3:(s2.rdN (D+(0+1))).next=s.next+2:=n2.trans n1'
 generalize s2.rdN (D+(0+1))=s3 at *
 refine W.orc DE_ (W.keysQ λs4 n4 x4 o4=> ?_)
 have y4:=y3.on x4 hb0 λ_ _ h=>h
 have hI4:=hI3.ext0 x4 hlen
 have oP4:=oP3.ext0 x4
 rw[n3]at o4 n4 ⊢
 refine W.orc Pj_ (W.sortedP (y4.bnd hb0) o4 hI4.om hI4.bo hN λs5 v mk x5=> ?_)
 have y5:=y4.on x5 hb0 λ_ _ h=>h
 have oP5:=oP4.ext0 x5
 refine FA_.u ?_
 simp only[Mu,RR,SS,Nat.reduceEqDiff, ↓reduceIte]
 have hll:l'.length=k.fs.length:=by have:=hN.len';simpa using this
 have hr:NmR s5 v l' s4.next:=by
  unfold NmR
  rw[hll]
  exact mk
 refine Ara_ (P:=s.next) (y5.bnd hb0) J hr hp oP5 J λs6 m6 n6 x6=> ?_
 have y6:=y5.on x6 hb0 λ_ _ h=>h
 refine aB (rs:=[4]) (vs:=[v]) rfl (.inl Aj_) J RB HU_ y6.cx Y ?_
 exact q _ v s4.next J (MkS.same (MkS.same hr m6 n6) rfl rfl) y6.cx'
end
section
variable {E:Env}{s:St}{t:Nat}{xo yo:Operand}
theorem AdC_ (m n:Nat)(hn:1<=n):Cl.get (aBin E .rem t xo yo) (.int .i64 (.negSucc m)) (.int .i64 (n:Nat)) s= .some (.int .i64 ((Int.negSucc m).tmod (n:Nat))) s:=by
 show AJ E .rem t xo yo (.int .i64 (.negSucc m)) (.int .i64 (n:Nat)) s=_
 show M.on (semP E.P (do eqGuard .rem t xo yo (.int .i64 (.negSucc m)) (.int .i64 (n:Nat));binOp .rem t (.int .i64 (.negSucc m)) (.int .i64 (n:Nat)))) pV s=_
 have e:semP E.P (do eqGuard .rem t xo yo (.int .i64 (.negSucc m)) (.int .i64 (n:Nat));binOp .rem t (.int .i64 (.negSucc m)) (.int .i64 (n:Nat)))=some (.int .i64 ((Int.negSucc m).tmod (n:Nat))):=by
  show semP E.P (Op.intDiv .rem .i64 (.negSucc m) (n:Nat))=_
  unfold Op.intDiv
  rw[if_neg J]
  rfl
 rw[e]
 generalize (Int.negSucc m).tmod (n:Nat)=y
 have hp: ∀y:Int,pV (.int .i64 y) s= .some (.int .i64 y) s:=λy=>by
  cases y with
  |ofNat k=>first|rfl|(cases k<;>rfl)
  |negSucc k=>first|rfl|(cases k<;>rfl)
 exact hp y
theorem CK_ {x:Int}{n:Nat}(hn:1<=n)(Q:Value->St->Prop):W (Cl.get (aBin E .rem t xo yo) (.int .i64 x) (.int .i64 (n:Nat))) s Q=Q (.int .i64 (x.tmod (n:Nat))) s:=by
 cases x with
 |ofNat m=>exact As (ZO m n hn xo yo)
 |negSucc m=>exact As (AdC_ m n hn)
theorem Fv_ {k:Nat}(hk:k<8)(Q:Value->St->Prop):W (Cl.get (aBin E .shl t xo yo) (.int .u8 1) (.int .i64 (k:Nat))) s Q=Q (.int .u8 (2^k:Nat)) s:=by
 refine As ?_
 match k,hk with
 |0,_=>rfl
 |1,_=>rfl
 |2,_=>rfl
 |3,_=>rfl
 |4,_=>rfl
 |5,_=>rfl
 |6,_=>rfl
 |7,_=>rfl
theorem NR_ {m n:Nat}(h:m^^^n<256)(Q:Value->St->Prop):W (Cl.get (aBin E .xor t xo yo) (.int .u8 (m:Nat)) (.int .u8 (n:Nat))) s Q=Q (.int .u8 (m^^^n:Nat)) s:=by
 refine As ?_
 show int3 xorK (AJ E .xor t xo yo) (.int .u8 (.ofNat m)) (.int .u8 (.ofNat n)) s=_
 show Option.rec (motive:=λ_=>R Value) _ (λv=> .some v s) (xorK .u8 .u8 m n)=_
 have e:xorK .u8 .u8 m n=some (.int .u8 (m^^^n:Nat)):=by
  unfold xorK B0
  rw[Nat.beq_refl]
  show fitI .u8 (m^^^n)=_
  unfold fitI
  rw[Nat.ble_eq_true_of_le (show m^^^n<=mxOf .u8 by show m^^^n<=255;omega)]
  show mkI .u8 (m^^^n)=_
  unfold mkI
  rw[Ar]
  rfl
 rw[e]
