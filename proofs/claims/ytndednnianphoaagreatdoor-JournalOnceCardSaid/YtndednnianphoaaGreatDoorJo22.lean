import Derived.Test.YtndednnianphoaaGreatDoorJo21
namespace Go.Proofs.YtndednnianphoaaGreatDoor.Am
open Go.RowKit
theorem JS:fldN envS 68 0=some (0,1,false):=by kernel_rfl
theorem O6:fldN envS 68 1=some (1,1,false):=by kernel_rfl
theorem Jx:fldN envS 68 2=some (2,1,false):=by kernel_rfl
theorem Ky:fldN envS 68 3=some (3,1,false):=by kernel_rfl
theorem Ln:fldN envS 68 4=some (4,1,false):=by kernel_rfl
theorem JU:fldN envS 90 0=some (0,1,false):=by kernel_rfl
theorem P6:fldN envS 90 1=some (1,1,false):=by kernel_rfl
theorem L9:ptrT envS 26=true:=by kernel_rfl
theorem Fy:hasT envS 3=true:=by kernel_rfl
structure JnS where
 file:ByteArray
 ses:Nat
 com:Nat
 gone:Bool
structure JnI (s:St)(J D:Nat)(j:JnS):Prop where
 o0:Own s J 0 (.pointer (some ⟨D,0,none⟩))
 o1:Own s J 1 (.string j.file)
 o2:Own s J 2 (.int .i64 (j.ses:Nat))
 o3:Own s J 3 (.int .i64 (j.com:Nat))
 o4:Own s J 4 (.bool j.gone)
theorem JnI.ext {F G:Nat->Prop}{s s':St}{J D:Nat}{j:JnS}(h:JnI s J D j)(x:Ext F G s s')(hG: ∀y,y<s.next->G y->y<J\/J+5<=y):JnI s' J D j:=by
 have c: ∀o,o<5->J+o<s.next-> ¬G (J+o):=λo ho hn g=>by have:=hG _ hn g;omega
 exact⟨h.o0.ext x (c 0 (by decide) h.o0.1),h.o1.ext x (c 1 (by decide) h.o1.1),h.o2.ext x (c 2 (by decide) h.o2.1),h.o3.ext x (c 3 (by decide) h.o3.1),h.o4.ext x (c 4 (by decide) h.o4.1)⟩
theorem JnI.same {s s':St}{J D:Nat}{j:JnS}(h:JnI s J D j)(hm:s'.mem=s.mem)(hn:s'.next=s.next):JnI s' J D j:=
 ⟨h.o0.same hm hn,h.o1.same hm hn,h.o2.same hm hn,h.o3.same hm hn,h.o4.same hm hn⟩
theorem JnI.ext0 {F:Nat->Prop}{s s':St}{J D:Nat}{j:JnS}(h:JnI s J D j)(x:Ext F Non s s'):JnI s' J D j:=h.ext x λ_ _ g=>g.elim
section
variable {n D M J:Nat}{s:St}{k:DkS}{col:Nat->Nat}{j:JnS}{Q:Value->St->Prop}
theorem If (hb:s.lim<=s.next)(h0:Own s J 0 (.pointer (some ⟨D,0,none⟩)))(hn:20<=n)(q: ∀s1,s1.mem=s.mem->s1.next=s.next->Ext Any Non s s1->Q (.bool false) s1):W (Ab envS (runF envS n) 30 [.pointer (some ⟨J,0,none⟩)]) s Q:=by
 refine IW_ λtm h=> ?_
 refine Pg_.u ?_
 simp only[SN,RR,SS]
 refine LA_.u ?_
 simp only[WP,RR,SS,reduceCtorEq, ↓reduceIte,h,Dj L9,Ai JS (by decide)]
 refine aB B4 (h0.same (s':=s.cxN cxN) rfl rfl).at' ?_
 simp only[Dj GG_]
 refine aC (rs:=[2]) (vs:=[.bool false]) rfl (.inl JZ_) (by omega) DU_ YA_ rfl (by simp[T.get_set]) ?_
 exact q _ rfl rfl ((Ext.refl (F:=Any) (G:=Non) (s.cxN cxN)).thenRd hb _).cx'
theorem Xh (hb:s.lim<=s.next)(hI:DkI s col D M k)(hJ:JnI s J D j)(hg:j.gone=false)(hn:200<=n)(q: ∀s1,Ext Any Non s s1->Q (.bool k.out) s1):W (Ab envS (runF envS n) 27 [.pointer (some ⟨J,0,none⟩)]) s Q:=by
 have hb0:(s.cxN cxN).lim<=(s.cxN cxN).next:=hb
 have hI0:DkI (s.cxN cxN) col D M k:=hI.same rfl rfl
 have hJ0:JnI (s.cxN cxN) J D j:=hJ.same rfl rfl
 refine VT λtm t0=> ?_
 refine TH.u ?_
 simp only[Qb,RR,SS]
 refine Bq_.u ?_
 simp only[Lu,RR,SS,reduceCtorEq, ↓reduceIte,t0]
 refine If hb0 hJ0.o0 (by omega) λs1 m1 n1 x1=> ?_
 have hI1:=hI0.same m1 n1
 have hJ1:=hJ0.same m1 n1
 simp only[SS, ↓reduceIte,BN,Bool.not_false,Ai Ln (by decide)]
 refine aB Bx hJ1.o4.at' ?_
 have y2:=x1.thenRd hb0 (J+(0+4))
 have hI2:DkI (s1.rdN (J+(0+4))) col D M k:=hI1.same rfl rfl
 have hJ2:JnI (s1.rdN (J+(0+4))) J D j:=hJ1.same rfl rfl
 generalize s1.rdN (J+(0+4))=s2 at *
 rw[hg]
 simp only[SS,reduceCtorEq, ↓reduceIte,Ai JS (by decide)]
 refine aB B4 hJ2.o0.at' ?_
 have y3:=y2.thenRd hb0 (J+(0+0))
 have hI3:DkI (s2.rdN (J+(0+0))) col D M k:=hI2.same rfl rfl
 generalize s2.rdN (J+(0+0))=s3 at *
 refine DR_ (y3.bnd hb0) hI3 (by omega) λs4 x4=> ?_
 have y4:=y3.on x4 hb0 λ_ _ h=>h
 simp only[BN,Bool.not_not]
 refine aC (rs:=[2]) (vs:=[.bool k.out]) rfl (.inl YZ) (by omega) OW RK y4.cx (by simp[T.get_set]) ?_
 exact q _ y4.cx'
theorem OA {r:Nat×Nat}(hbd:s.lim<=s.next)(hr:BC r)(hn:200<=n)(q: ∀s1 w nb,Ext Any Non s s1->MkG s1 w (recJ r) nb->s.next<=nb->Q w s1):W (Ab envS (runF envS n) 44 [.agg #[.int .i64 (r.1:Nat), .int .i64 (r.2:Nat)]]) s Q:=by
 obtain⟨r1,r2,r3⟩:=hr
 have hbd0:(s.cxN cxN).lim<=(s.cxN cxN).next:=hbd
 refine ML_ λtm t0=> ?_
 refine Wh_.u ?_
 simp only[Aw_,RR,SS,t0]
 refine W.box λs1 n1 x1 o1=> ?_
 have ea:(s.cxN cxN).next=s.next:=rfl
 rw[ea]at o1 n1 ⊢
 have y1:Ext Any Non (s.cxN cxN) s1:=x1.weak hbd0 (λ_ _ _=>trivial) λ_ _ h=>h
 have c0:Own s1 s.next 0 (.int .i64 (r.1:Nat)):=o1 0 _ rfl
 have c1:Own s1 s.next 1 (.int .i64 (r.2:Nat)):=o1 1 _ rfl
 refine Qn_.u ?_
 simp only[Ua,RR,SS,Nat.reduceEqDiff, ↓reduceIte,Ai JU (by decide)]
 refine aB Au c0.at' ?_
 have y2:=y1.thenRd hbd0 (s.next+(0+0))
 have c1:Own (s1.rdN (s.next+(0+0))) s.next 1 (.int .i64 (r.2:Nat)):=c1.same rfl rfl
 generalize s1.rdN (s.next+(0+0))=s2 at *
 simp only[DW Fy GZ,wrap_u8,Ai P6 (by decide)]
 refine aB Au c1.at' ?_
 have y3:=y2.thenRd hbd0 (s.next+(0+1))
 have c1:Own (s2.rdN (s.next+(0+1))) s.next 1 (.int .i64 (r.2:Nat)):=c1.same rfl rfl
 generalize s2.rdN (s.next+(0+1))=s3 at *
 simp only[Ib_ (k:= .i64) (by decide),DW Fy GZ,wrap_u8]
 refine aB Au c1.at' ?_
 have y4:=y3.thenRd hbd0 (s.next+(0+1))
 have c1:Own (s3.rdN (s.next+(0+1))) s.next 1 (.int .i64 (r.2:Nat)):=c1.same rfl rfl
 generalize s3.rdN (s.next+(0+1))=s4 at *
 simp only[FL_ (k:= .i64) (by decide),DW Fy GZ,wrap_u8]
 refine aB Au c1.at' ?_
 have y5:=y4.thenRd hbd0 (s.next+(0+1))
 have c1:Own (s4.rdN (s.next+(0+1))) s.next 1 (.int .i64 (r.2:Nat)):=c1.same rfl rfl
 generalize s4.rdN (s.next+(0+1))=s5 at *
 simp only[Ye (k:= .i64) (by decide),DW Fy GZ,wrap_u8]
 refine aB Au c1.at' ?_
 have y6:=y5.thenRd hbd0 (s.next+(0+1))
 generalize s5.rdN (s.next+(0+1))=s6 at *
 simp only[DW Fy GZ,wrap_u8]
 have e0:r.1%256=r.1:=by omega
 have e1:r.2>>>24%256=0:=by rw[Nat.shiftRight_eq_div_pow];omega
 have e2:r.2>>>16%256=0:=by rw[Nat.shiftRight_eq_div_pow];omega
 have e3:r.2>>>8%256=0:=by rw[Nat.shiftRight_eq_div_pow];omega
 have e4:r.2%256=r.2:=by omega
 rw[e0,e1,e2,e3,e4]
 refine aQ (y6.bnd hbd0) (r:=u8l [r.1,0,0,0,r.2]) Lz (by decide) rfl (BW (by decide)) λs7 n7 x7 o7=> ?_
 have y7:=y6.on x7 hbd0 λ_ _ h=>h
 have hB:Bs s7 (.slice (some ⟨s6.next,0,none⟩) 5 5) [r.1,0,0,0,r.2]:=An.bn o7 (BW (by simp))
 have hby:Byt [r.1,0,0,0,r.2]:=λx hx=>by
  simp only[List.mem_cons,List.not_mem_nil,or_false]at hx
  omega
 refine XJ (y7.bnd hbd0) (by omega) (hB.resolve_left λh=>by cases h.2) hby (by simp) λs8 w nb x8 mk hnb=> ?_
 have y8:=y7.on x8 hbd0 λ_ _ h=>h
 refine aC (rs:=[2]) (vs:=[w]) rfl (.inl Vi_) (by omega) UW Kt_ y8.cx (by simp[T.get_set]) ?_
 exact q _ w nb y8.cx' (MkG.same mk rfl rfl) (by have:=y7.nxt;have e:(s.cxN cxN).next=s.next:=rfl;omega)
end
theorem QX_ (a b:ByteArray):(a==b)=(a.data==b.data):=by
 cases a;cases b;rfl
theorem Ja (a:ByteArray):(a==a)=true:=by
 rw[QX_];simp
theorem VI_ {fs:List FileS}{j:Nat}{g:FileS}(hj:j<fs.length)(hg:g.name=fs[j].name):(fs.set j g).map FileS.name=fs.map FileS.name:=by
 rw[List.map_set,hg]
 have e:fs[j].name=(fs.map FileS.name)[j]'(by simpa using hj):=by simp
 rw[e,List.set_getElem_self]
theorem QU {fs:List FileS}{j:Nat}{g:FileS}{a:ByteArray}(hj:j<fs.length)(hg:g.name=fs[j].name):Az (fs.set j g) a=Az fs a:=by
 unfold Az
 rw[VI_ hj hg]
theorem TB {fs:List FileS}{g:FileS}{a:ByteArray}(h:Az fs a=none)(hg:(a==g.name)=true):Az (fs++[g]) a=some fs.length:=by
 unfold Az at h ⊢
 rw[List.map_append,List.findIdx?_append,h]
 show([g.name].findIdx? λb=>a==b).map (· +(fs.map FileS.name).length)=_
 rw[List.findIdx?_cons,hg,List.length_map]
 simp
structure Safe (f:FileS)(a:ByteArray)(l:List Nat):Prop where
 name:f.name=a
 sb:f.sb=l
 lb:f.lb=[]
theorem Yp_ {k:DkS}{a:ByteArray}{blk b:Nat}{v:Value}{l m:List Nat}{j:Nat}(h:Az k.fs a=some j)(hj:j<k.fs.length)(hf:Safe k.fs[j] a m):
  Az (As k a blk v b l) a=some j/\ ∃hj':j<(As k a blk v b l).length,∀v' b',Safe ((As k a blk v b l)[j].kept v' b' ((As k a blk v b l)[j].sb++(As k a blk v b l)[j].lb)) a (m++l)/\
   (As k a blk v b l).set j ((As k a blk v b l)[j].kept v' b' ((As k a blk v b l)[j].sb++(As k a blk v b l)[j].lb))=k.fs.set j ((As k a blk v b l)[j].kept v' b' ((As k a blk v b l)[j].sb++(As k a blk v b l)[j].lb)):=by
 have e:As k a blk v b l=k.fs.set j {k.fs[j]with lv:=v,lbk:=b,lb:=k.fs[j].lb++l}:=by
  unfold As
  rw[h]
  simp only
  rw[List.getElem?_eq_getElem hj]
 refine⟨by rw[e,QU (g:={k.fs[j]with lv:=v,lbk:=b,lb:=k.fs[j].lb++l}) hj rfl];exact h,by rw[e,List.length_set];exact hj,λv' b'=> ?_⟩
 have hg: ∀h',(As k a blk v b l)[j]'h'={k.fs[j]with lv:=v,lbk:=b,lb:=k.fs[j].lb++l}:=λh'=>by
  simp only[e,List.getElem_set_self]
 rw[hg]
 refine⟨⟨hf.name, ?_,rfl⟩, ?_⟩
 ·show k.fs[j].sb++(k.fs[j].lb++l)=_
  rw[hf.sb,hf.lb]
  rfl
 ·rw[e,List.set_set]
theorem XT_ {k:DkS}{a:ByteArray}{blk b:Nat}{v:Value}{l:List Nat}(h:Az k.fs a=none)(ha:(a==a)=true):
  Az (As k a blk v b l) a=some k.fs.length/\ ∃hj':k.fs.length<(As k a blk v b l).length,∀v' b',Safe ((As k a blk v b l)[k.fs.length].kept v' b' ((As k a blk v b l)[k.fs.length].sb++(As k a blk v b l)[k.fs.length].lb)) a l/\
   (As k a blk v b l).set k.fs.length ((As k a blk v b l)[k.fs.length].kept v' b' ((As k a blk v b l)[k.fs.length].sb++(As k a blk v b l)[k.fs.length].lb))=k.fs++[(As k a blk v b l)[k.fs.length].kept v' b' ((As k a blk v b l)[k.fs.length].sb++(As k a blk v b l)[k.fs.length].lb)]:=by
 have e:As k a blk v b l=k.fs++[⟨a,k.mx,blk, .slice none 0 0,0,[],v,b,l⟩]:=by
  unfold As
  rw[h]
 refine⟨by rw[e];exact TB h ha,by rw[e];simp,λv' b'=> ?_⟩
 have hg: ∀h',(As k a blk v b l)[k.fs.length]'h'=⟨a,k.mx,blk, .slice none 0 0,0,[],v,b,l⟩:=λh'=>by
  simp only[e,List.getElem_concat_length]
 rw[hg]
 refine⟨⟨rfl, ?_,rfl⟩, ?_⟩
 ·show []++l=l
  rfl
 ·rw[e,List.set_append]
  simp
def Wp {α:Type}(m:M α)(s:St)(P:List PanicEntry->St->Prop):Prop:= ∃c s',m s= .pan c s'/\P c s'
section
variable {α β:Type}{s:St}{P:List PanicEntry->St->Prop}
theorem Wp.mono {m:M α}{P':List PanicEntry->St->Prop}(h:Wp m s P)(k: ∀c s',P c s'->P' c s'):Wp m s P':=let ⟨c,s',e,q⟩:=h;⟨c,s',e,k c s' q⟩
theorem Wp.bind1 {m:M α}{f:α->M β}(h:Wp m s P):Wp (M.bind m f) s P:=by
 obtain⟨c,s',e,q⟩:=h
 refine⟨c,s', ?_,q⟩
 unfold M.bind
 rw[e]
theorem Wp.bind {m:M α}{f:α->M β}(h:W m s λa s1=>Wp (f a) s1 P):Wp (M.bind m f) s P:=by
 obtain⟨a,s1,e,c,s2,e2,q⟩:=h
 refine⟨c,s2, ?_,q⟩
 unfold M.bind
 rw[e]
 exact e2
theorem Wp.chk {b:Bool}{m:M α}(hb:b=true)(h:Wp m s P):Wp (M.chk b m) s P:=by subst hb;exact h
theorem Wp.on {x:Option α}{a:α}{f:α->M β}(e:x=some a)(h:Wp (f a) s P):Wp (M.on x f) s P:=by subst e;exact h
theorem Wp.panic {t:Nat}{x:Value}(q:P [{v:= .iface t x,recovered:=false}] s):Wp (Jz (.iface t x)) s P:=⟨_,_,rfl,q⟩
theorem Wp.cast {m m':M α}(e:m s=m' s)(h:Wp m' s P):Wp m s P:=by
 obtain⟨c,s',e',q⟩:=h
 exact⟨c,s',e.trans e',q⟩
end
noncomputable def delDs (ds:List Nat)(tm:T Value):T Value:=List.rec (motive:=λ_=>T Value) tm (λd _ t=>T.del t d) ds
theorem RegEq.p {E:Env}{n f nt g:Nat}{s:St}{tm:T Value}{T P:List Item}{ki:CallKind}{nice:Env->Ah->Ah->Am.T Value->M (Am.T Value)}{Q:Value×FrameMode->St->Prop}(q:RegEq f nt g P nice)(ht:skim 64 T=P)(hn:0<n)
  (h:Wp (nice E (Ab E (runF E (n-1))) (A9 (runF E (n-1))) tm) s λc s1=>W (runF E (n-1) ⟨f,nt,g,delDs (dsC (hdC P)) tm,P, .panicking c,ki,none⟩) s1 Q):W (runF E n ⟨f,nt,g,tm,T, .run,ki,none⟩) s Q:=by
 obtain⟨m,rfl⟩: ∃m,n=m+1:=⟨n-1,by omega⟩
 rw[Nat.add_sub_cancel]at h
 obtain⟨c,s1,e,hq⟩:=h
 have ht':=ht
 rw[q.hd]at ht'
 refine W.code ht' (W.cast (q.eq E _ _ _ _ _ _ _ _) ⟨.go ⟨f,nt,g,delDs (dsC (hdC P)) tm, .code (hdC P)::P.tail, .panicking c,ki,none⟩,s1, ?_, ?_⟩)
 ·unfold regF
  simp only[e]
  rfl
 ·rw[<-q.hd]
  exact hq
section
variable {E:Env}{n f nt g:Nat}{s:St}{tm:T Value}{T P:List Item}{ki:CallKind}{R:List PanicEntry->St->Prop}
theorem Wp.run {fr:AF}(h:W (DS E (Ab E (runF E n)) (A9 (runF E n)) (CZ E (runF E n)) fr) s λp s1=>Wp (DO (runF E n) p) s1 R):Wp (runF E (n+1) fr) s R:=Wp.bind h
theorem Wp.code {k:List Item}{c:Code}{todo:List Item}{ro:Option Nat}(ht:skim 64 todo= .code c::k)
  (h:W (codeF E (Ab E (runF E n)) (A9 (runF E n)) ⟨f,nt,g,tm, .code c::k, .run,ki,ro⟩ k c) s λp s1=>Wp (DO (runF E n) p) s1 R):Wp (runF E (n+1) ⟨f,nt,g,tm,todo, .run,ki,ro⟩) s R:=by
 refine Wp.run ?_
 show W (noP (Fs E (Ab E (runF E n)) (A9 (runF E n)) ⟨f,nt,g,tm,skim 64 todo, .run,ki,ro⟩ (skim 64 todo))) s _
 rw[ht]
 exact W.np h
theorem Wp.cond {t:Nat}{ro:Option Nat}{v:Bool}(ht:skim 64 T=P)(hx:Ak P=some t)(hv:Am.T.get tm t=some (.bool v))(hn:0<n)
  (h1:v=true->Wp (runF E (n-1) ⟨f,nt,g,tm,brT P, .run,ki,ro⟩) s R) (h2:v=false->Wp (runF E (n-1) ⟨f,nt,g,tm,brF P, .run,ki,ro⟩) s R):Wp (runF E n ⟨f,nt,g,tm,T, .run,ki,ro⟩) s R:=by
 obtain⟨m,rfl⟩: ∃m,n=m+1:=⟨n-1,by omega⟩
 rw[Nat.add_sub_cancel]at h1 h2
 unfold Ak at hx
 split at hx
 ·rename_i t' a b k
  cases hx
  refine Wp.code ht ?_
  show W (M.on (Am.T.get tm t) (GK ⟨f,nt,g,tm, .code (.cond (.tmp t) a b)::k, .run,ki,ro⟩ a b k)) s _
  refine W.on hv ?_
  cases v with
  |true=>exact W.pure (h1 rfl)
  |false=>exact W.pure (h2 rfl)
 ·cases hx
theorem Wp.within {α:Type}{c:Ctx}{m:M α}(h:Wp m (s.cxN c) λa s1=>R a (s1.cxN s.cx)):Wp (within c m) s R:=by
 obtain⟨a,s1,e,q⟩:=h
 obtain⟨mem,next,lim,rd,wr,cx⟩:=s
 obtain⟨mem1,next1,lim1,rd1,wr1,cx1⟩:=s1
 refine⟨a,_, ?_,q⟩
 have e':m ⟨mem,next,lim,rd,wr,c⟩= .pan a ⟨mem1,next1,lim1,rd1,wr1,cx1⟩:=e
 unfold Am.within
 simp only[e']
 rfl
theorem Wp.call {ih:AF->M (Value×FrameMode)}{fn:Func}{body:Code}{args:List Value}(ho:E.orc.get f=none)(hx:E.ext.get f=none)(hf:E.fn.get f=some fn)(hb:fn.body=some body)
  (hn:fn.ntmps=nt) (hg:Ar fn=g) (ha:args.length<=nt) (h:Wp (ih ⟨f,nt,g,Cd g args 0 .E,[.code body], .run, .normal,none⟩) (s.cxN cxN) λc s1=>R c (s1.cxN s.cx)):Wp (Ab E ih f args) s R:=by
 unfold Ab
 rw[ho,hx]
 refine Wp.within (Wp.bind1 (Wp.bind ?_))
 have e:BA E f args .normal (s.cxN cxN)= .some ⟨f,nt,g,Cd g args 0 .E,[.code body], .run, .normal,none⟩ (s.cxN cxN):=by
  unfold BA
  rw[hf]
  show M.on fn.body (λc=>M.chk (Nat.ble args.length fn.ntmps) (Am.fN fn.ntmps λn=>Am.fN (Ar fn) λg=>M.pure (⟨f,n,g,Cd g args 0 .E,[.code c], .run, .normal,none⟩:AF))) _=_
  rw[hb]
  show M.chk (Nat.ble args.length fn.ntmps) (Am.fN fn.ntmps λn=>Am.fN (Ar fn) λg=>M.pure (⟨f,n,g,Cd g args 0 .E,[.code body], .run, .normal,none⟩:AF)) _=_
  rw[show Nat.ble args.length fn.ntmps=true from Nat.ble_eq_true_of_le (by rw[hn];exact ha),Ao,Ao,hn,hg]
  rfl
 exact⟨_,_,e,h⟩
theorem W.recover {Q:Value->St->Prop}{v:Value}{older:List PanicEntry}{d:List Deferred}(hcx:s.cx= .cx (some (.panicking ({v,recovered:=false,goexit:=false}::older))) (some d))(q:Q v (s.cxN (.cx (some (.panicking ({v,recovered:=true}::older))) (some d)))):W GE s Q:=by
 obtain⟨mem,next,lim,rd,wr,cx⟩:=s
 have hcx':cx= .cx (some (.panicking ({v,recovered:=false,goexit:=false}::older))) (some d):=hcx
 subst hcx'
 exact⟨v,_,rfl,q⟩
end
section
variable {α β:Type}{s:St}
theorem Wp.draw {γ:Type}{m:M ((Rho×T Value)×List OpLog)}{bef:List Nat}{K:Rho×T Value->M γ}{R:List PanicEntry->St->Prop}(h:W (GQ m bef) s λp s1=>Wp (K p) s1 R):Wp (M.bind (GQ m bef) K) s R:=Wp.bind h
theorem W.defer {f:Nat}{first cap:Array Value}{args:List Value}{up:Option FrameMode}{d:List Deferred}{Q:Value->St->Prop}(hcx:s.cx= .cx up (some d))(q:Q undef (s.cxN (.cx up (some ({target:= .fn (.func f) cap,args:=first++args.toArray}::d))))):W (Gj (.func (.func f) first cap) args) s Q:=by
 obtain⟨mem,next,lim,rd,wr,cx⟩:=s
 have hcx':cx= .cx up (some d):=hcx
 subst hcx'
 exact⟨undef,_,rfl,q⟩
variable {E:Env}{n f nt g:Nat}{tm:T Value}{T P:List Item}{ki:CallKind}{R:List PanicEntry->St->Prop}
theorem Wp.left {c:List PanicEntry}{up:Option FrameMode}(hn:0<n)(hcx:s.cx= .cx up (some []))(hq:R c s):Wp (runF E n ⟨f,nt,g,tm,T, .panicking c,ki,none⟩) s R:=by
 obtain⟨m,rfl⟩: ∃m,n=m+1:=⟨n-1,by omega⟩
 refine⟨c,s, ?_,hq⟩
 obtain⟨mem,next,lim,rd,wr,cx⟩:=s
 have hcx':cx= .cx up (some []):=hcx
 subst hcx'
 rfl
theorem DrawEq.p {bef:List Nat}{nice:Env->Ah->Ah->Am.T Value->M ((Rho×Am.T Value)×List OpLog)}{Q:Value×FrameMode->St->Prop}(q:DrawEq f nt g P bef nice)(ht:skim 64 T=P)(hn:0<n)
  (h:W (nice E (Ab E (runF E (n-1))) (A9 (runF E (n-1))) tm) (dSt s.mem s.next) λp s1=>Bt s.next p.2.reverse bef=true/\
   Wp (AH (Ab E (runF E (n-1))) (A9 (runF E (n-1))) (Bg E g nt (hdC P)) p.1.1 p.1.2) ⟨s1.mem,s1.next,s.lim,rdsL s.lim p.2 s.rd,wrsL s.lim p.2 s.wr,s.cx⟩ λc s1=>W (runF E (n-1) ⟨f,nt,g,delDs (dsC (hdC P)) tm,P, .panicking c,ki,none⟩) s1 Q):W (runF E n ⟨f,nt,g,tm,T, .run,ki,none⟩) s Q:=by
 obtain⟨m,rfl⟩: ∃m,n=m+1:=⟨n-1,by omega⟩
 rw[Nat.add_sub_cancel]at h
 have ht':=ht
 rw[q.hd]at ht'
 refine W.code ht' (W.cast (q.eq E _ _ _ _ _ _ _ _) (W.bind (W.draw ?_)))
 rw[q.bef]
 refine h.mono λp s1 qq=>⟨qq.1, ?_⟩
 obtain⟨c,s2,e,hq⟩:=qq.2
 refine⟨.go ⟨f,nt,g,delDs (dsC (hdC P)) tm, .code (hdC P)::P.tail, .panicking c,ki,none⟩,s2, ?_, ?_⟩
 ·unfold endE
  simp only[e]
  rfl
 ·rw[<-q.hd]
  exact hq
end
section
variable {α β:Type}{s:St}{R:List PanicEntry->St->Prop}
def Wx (m:M α)(s:St)(Q:α->St->Prop)(R:List PanicEntry->St->Prop):Prop:=W m s Q\/Wp m s R
theorem Wx.mono {m:M α}{Q Q':α->St->Prop}{R':List PanicEntry->St->Prop}(h:Wx m s Q R)(k: ∀a s',Q a s'->Q' a s')(k': ∀c s',R c s'->R' c s'):Wx m s Q' R':=h.elim (λh=> .inl (h.mono k)) λh=> .inr (h.mono k')
theorem Wx.cast {m m':M α}{Q:α->St->Prop}(e:m s=m' s)(h:Wx m' s Q R):Wx m s Q R:=h.elim (λh=> .inl (h.cast e)) λh=> .inr (h.cast e)
theorem Wx.panic {t:Nat}{x:Value}{Q:Value->St->Prop}(q:R [{v:= .iface t x,recovered:=false}] s):Wx (Jz (.iface t x)) s Q R:= .inr (Wp.panic q)
variable {E:Env}{n f nt g:Nat}{tm:T Value}{T P:List Item}{ki:CallKind}{Q:Value×FrameMode->St->Prop}
theorem Wx.cond {t:Nat}{v:Bool}(ht:skim 64 T=P)(hx:Ak P=some t)(hv:Am.T.get tm t=some (.bool v))(hn:0<n)
  (h1:v=true->Wx (runF E (n-1) ⟨f,nt,g,tm,brT P, .run,ki,none⟩) s Q R) (h2:v=false->Wx (runF E (n-1) ⟨f,nt,g,tm,brF P, .run,ki,none⟩) s Q R):Wx (runF E n ⟨f,nt,g,tm,T, .run,ki,none⟩) s Q R:=by
 cases v with
 |true=>exact(h1 rfl).elim (λh=> .inl (W.cond ht hx hv hn (λ_=>h) λh=>by cases h)) λh=> .inr (Wp.cond ht hx hv hn (λ_=>h) λh=>by cases h)
 |false=>exact(h2 rfl).elim (λh=> .inl (W.cond ht hx hv hn (λh=>by cases h) λ_=>h)) λh=> .inr (Wp.cond ht hx hv hn (λh=>by cases h) λ_=>h)
theorem Wx.call {fn:Func}{body:Code}{args:List Value}{Q:Value->St->Prop}(ho:E.orc.get f=none)(hx:E.ext.get f=none)(hf:E.fn.get f=some fn)(hb:fn.body=some body)
  (hn:fn.ntmps=nt) (hg:Ar fn=g) (ha:args.length<=nt) {ih:AF->M (Value×FrameMode)} (h:Wx (ih ⟨f,nt,g,Cd g args 0 .E,[.code body], .run, .normal,none⟩) (s.cxN cxN) (λp s1=>Q p.1 (s1.cxN s.cx)) λc s1=>R c (s1.cxN s.cx)):Wx (Ab E ih f args) s Q R:=
 h.elim (λh=> .inl (W.call ho hx hf hb hn hg ha h)) λh=> .inr (Wp.call ho hx hf hb hn hg ha h)
end
section
variable {α β:Type}{s:St}{E:Env}{t:Nat}{xo yo:Operand}{R:List PanicEntry->St->Prop}
theorem Wx.of {m:M α}{Q:α->St->Prop}(h:W m s Q):Wx m s Q R:= .inl h
theorem C4 {γ:Type}{a:Addr}{f:Value×OpLog->M γ}{mem:T Cell}{next:Nat}{Q:γ->St->Prop}:W (M.bind (apartO (kNil (.pointer (some a)))) f) (dSt mem next) Q=W (f (.pointer (some a),⟨next,next,[],[]⟩)) (dSt mem next) Q:=W_dq λ_ Q=>Bu a Q
theorem DE {γ:Type}{fd off sz b o:Nat}{g:Bool}(h:fldN E t fd=some (off,sz,g))(h0:0<sz){f:Value×OpLog->M γ}{mem:T Cell}{next:Nat}{Q:γ->St->Prop}:W (M.bind (apartO (kFld E t (.pointer (some ⟨b,o,none⟩)) fd)) f) (dSt mem next) Q=W (f (.pointer (some ⟨b,o+off,none⟩),⟨next,next,[],[]⟩)) (dSt mem next) Q:=W_dq λ_ Q=>Ai h h0 Q
theorem Ext.drawR (s:St)(l:List OpLog)(hw: ∀m∈l,m.wr=[]):Ext (λ_=>True) Non s ⟨s.mem,s.next,s.lim,rdsL s.lim l s.rd,wrsL s.lim l s.wr,s.cx⟩:=
 aL (Nat.le_refl _) (λ_ _ _=>rfl) (λm hm x hx _=>by rw[hw m hm]at hx;cases hx) λ_ _ _ _ _=>trivial
variable {n f nt g:Nat}{tm:T Value}{T P:List Item}{ki:CallKind}{Q:Value×FrameMode->St->Prop}
theorem DrawEq.wr {bef:List Nat}{nice:Env->Ah->Ah->Am.T Value->M ((Rho×Am.T Value)×List OpLog)}{ro:Option Nat}(q:DrawEq f nt g P bef nice)(ht:skim 64 T=P)(hn:0<n)
  (h:W (nice E (Ab E (runF E (n-1))) (A9 (runF E (n-1))) tm) (dSt s.mem s.next) λp s1=>s1=dSt s.mem s.next/\p.2.length<=bef.length/\(∀m∈p.2,m.wr=[]/\m.lo=m.hi)/\
   ∀s',s'.mem=s.mem->s'.next=s.next->Ext (λ_=>True) Non s s'->W (AH (Ab E (runF E (n-1))) (A9 (runF E (n-1))) (Bg E g nt (hdC P)) p.1.1 p.1.2) s' λtm s1=>W (runF E (n-1) ⟨f,nt,g,tm,P.tail, .run,ki,ro⟩) s1 Q):W (runF E n ⟨f,nt,g,tm,T, .run,ki,ro⟩) s Q:=by
 refine q.w ht hn (h.mono λp s1 hh=> ?_)
 obtain⟨rfl,h1,h2,h3⟩:=hh
 exact⟨Df (by rw[List.length_reverse];exact h1) λm hm=>h2 m (List.mem_reverse.1 hm),h3 _ rfl rfl (Ext.drawR s p.2 λm hm=>(h2 m hm).1)⟩
end
section
variable {s:St}{E:Env}{t:Nat}{xo yo:Operand}
end
theorem FX_ {fs:List FileS}{j d:Nat}{g:FileS}(hj:j<fs.length)(hg:g.sb.length+g.lb.length=fs[j].sb.length+fs[j].lb.length+d):((fs.set j g).map λf=>f.sb.length+f.lb.length).sum=(fs.map λf=>f.sb.length+f.lb.length).sum+d:=by
 induction fs generalizing j with
 |nil=>cases hj
 |cons f fs ih=>
  cases j with
  |zero=>
   show(g.sb.length+g.lb.length)+_=(f.sb.length+f.lb.length)+_+d
   have hg:g.sb.length+g.lb.length=f.sb.length+f.lb.length+d:=hg
   omega
  |succ j=>
   have:=ih (j:=j) (by simpa using hj) (by simpa using hg)
   rw[List.set_cons_succ,List.map_cons,List.map_cons,List.sum_cons,List.sum_cons,this]
   omega
theorem Qy_ (k:DkS)(a:ByteArray)(blk b:Nat)(v:Value)(l:List Nat):((As k a blk v b l).map λf=>f.sb.length+f.lb.length).sum=k.used+l.length:=by
 unfold As DkS.used
 split
 ·rename_i j hj
  have h:=Fo hj
  rw[List.getElem?_eq_getElem h]
  exact FX_ h (by show k.fs[j].sb.length+(k.fs[j].lb++l).length=k.fs[j].sb.length+k.fs[j].lb.length+l.length;rw[List.length_append];omega)
 ·rw[List.map_append,List.sum_append]
  simp
theorem Ut_ (k:DkS)(a:ByteArray)(blk b:Nat)(v:Value)(l:List Nat):(As k a blk v b l).length<=k.fs.length+1:=by
 unfold As
 split
 ·split<;>simp
 ·simp
def SG (k:DkS)(a:ByteArray)(l:List Nat)(fs:List FileS):Prop:=
 (∀i m (hi:i<k.fs.length),Az k.fs a=some i->Safe k.fs[i] a m-> ∃g,Safe g a (m++l)/\fs=k.fs.set i g)/\(Az k.fs a=none-> ∃g,Safe g a l/\fs=k.fs++[g])
section
variable {n D M J:Nat}{s:St}{k:DkS}{col:Nat->Nat}{j:JnS}{bv:Value}{l:List Nat}{Q:Value->St->Prop}
def Mj (k:DkS)(a:ByteArray)(l:List Nat)(fs:List FileS):Prop:=
 (∀i m (hi:i<k.fs.length),Az k.fs a=some i->Safe k.fs[i] a m-> ∃g:FileS,g.name=a/\g.sb=m/\g.lb=l/\fs=k.fs.set i g)/\(Az k.fs a=none-> ∃g:FileS,g.name=a/\g.sb=[]/\g.lb=l/\fs=k.fs++[g])
theorem Ra_ {k:DkS}{a:ByteArray}{blk b:Nat}{v:Value}{l:List Nat}:Mj k a l (As k a blk v b l):=by
 refine⟨λi m hi hl hs=>⟨{k.fs[i]with lv:=v,lbk:=b,lb:=k.fs[i].lb++l},hs.name,hs.sb, ?_, ?_⟩,λhl=>⟨⟨a,k.mx,blk, .slice none 0 0,0,[],v,b,l⟩,rfl,rfl,rfl, ?_⟩⟩
 ·show k.fs[i].lb++l=l
  rw[hs.lb]
  rfl
 ·unfold As
  rw[hl]
  simp only
  rw[List.getElem?_eq_getElem hi]
 ·unfold As
  rw[hl]
theorem BA_ (hb:s.lim<=s.next)(hI:DkI s col D M k)(hJ:JnI s J D j)(hlen:k.fs.length<=290)(ha:NmOk j.file)(hB:Bs s bv l)(hBc: ∀x,BsF bv x->x<s.next/\1000<=col x)(hJc: ∀x,J<=x->x<J+5->1000<=col x)
  (hz:k.used+l.length<=900000) (hroom:((k.used+l.length:Nat):Int)<=k.room) (ho:k.out=false) (hn:900<=n)
  (qf:k.fused=true-> ∀s1 col' fs' mx' st' le',After s s1 col col' D M ⟨fs',mx',k.room,st',true,le',true⟩->(fs'=k.fs\/Mj k j.file l fs')->fs'.length<=k.fs.length+1->(fs'.map λf=>f.sb.length+f.lb.length).sum<=k.used+l.length->Q (.int .i64 10) s1)
  (q: ∀s1 col' fs' mx' st' le',After s s1 col col' D M ⟨fs',mx',k.room,st',k.fused,le',false⟩->SG k j.file l fs'->fs'.length<=k.fs.length+1->(fs'.map λf=>f.sb.length+f.lb.length).sum=k.used+l.length->Q (.int .i64 0) s1):
  W (Ab envS (runF envS n) 42 [.pointer (some ⟨J,0,none⟩),bv]) s Q:=by
 have hb0:(s.cxN cxN).lim<=(s.cxN cxN).next:=hb
 refine Om_ λtm t0 t1=> ?_
 refine Ace_.u ?_
 simp only[Zl,RR,SS]
 refine NS_.u ?_
 simp only[SJ,RR,T.get_set,Nat.reduceEqDiff, ↓reduceIte,t0,t1,Af,A6,C4,DE JS (by decide)]
 refine aE B4 (hJ.o0.same (s':=dSt s.mem s.next) rfl rfl).at' λrd1 hr1=> ?_
 simp only[A6,C4,DE O6 (by decide)]
 refine aE CH (hJ.o1.same (s':=dSt s.mem s.next) rfl rfl).at' λrd2 hr2=> ?_
 simp only[A6,B2,Cb,BQ,C6,Eg]
 refine bA ?_
 have hIo:DkI (oSt s.mem s.next) col D M k:=hI.same rfl rfl
 refine VM_ (s:=oSt s.mem s.next) (Nat.le_refl _) hIo (by omega) ha (hB.same rfl rfl) hBc (by omega) (by omega) (λh=> ?_) (λ_ h=> ?_) (λ_ _ h s1 col1 hA=> ?_) λ_ _ _ s1 col1 blk v b hA=> ?_
 ·rw[ho]at h;cases h
 ·omega
 ·refine⟨_,_,hA.ext,λrd3 wr3 hr3 hw3=> ?_⟩
  rw[AY]
  refine⟨C7 ?_, ?_⟩
  ·simp only[List.reverse_cons,List.reverse_nil,List.nil_append,List.cons_append,allP,B6,List.take,Cz]
   have lts: ∀x,s.next<=x-> ¬x<s.next:=λx h=>by omega
   simp+contextual [lts]
   repeat' first
    |exact .inl rfl
    |apply And.intro
  refine W.cast (Vr ..) ?_
  simp only[SS]
  generalize hsF:(⟨(dSt s1.mem s1.next).mem,(dSt s1.mem s1.next).next,_,_,_,_⟩:St)=sF
  have mF:sF.mem=s1.mem:=by rw[<-hsF];rfl
  have nF:sF.next=s1.next:=by rw[<-hsF];rfl
  have nn:s.next<=s1.next:=hA.ext.nxt
  have xF:Ext Any (λx=>col x<1000) (s.cxN cxN) sF:=by
   rw[<-hsF]
   refine aL (s:=s.cxN cxN) nn (λx hx hg=>hA.ext.mem x hx hg) ?_ λ_ _ _ _ _=>trivial
   simp only[List.mem_cons,List.not_mem_nil,or_false]
   rintro m (rfl|rfl|rfl|rfl|rfl|rfl|rfl|rfl|rfl|rfl) x hx hl<;>first|(cases hx;done)|exact(hw3 x hx).2
  refine CY_.u ?_
  simp only[NV,RR,SS, ↓reduceIte,AL]
  refine aK Vu ?_
  refine Add_.u ?_
  simp only[DZ_,RR,SS,Nat.reduceEqDiff, ↓reduceIte]
  refine aC (rs:=[4]) (vs:=[.int .i64 10]) rfl (.inl YE_) (by omega) IP MX xF.cx (by simp[T.get_set]) ?_
  have hfu:=h.1
  have e1:(⟨k.fs,k.mx,k.room,k.steps,true,k.left,true⟩:DkS)={k with out:=true}:=by rw[<-hfu]
  refine qf hfu _ col1 k.fs k.mx k.steps k.left ⟨?_,hA.agree,xF.cx'⟩ (.inl rfl) (by omega) (by show k.used<=_;omega)
  rw[e1]
  exact hA.inv.same (s':=sF.cxN s.cx) mF nF
 refine⟨_,_,hA.ext,λrd3 wr3 hr3 hw3=> ?_⟩
 rw[AY]
 refine⟨C7 ?_, ?_⟩
 ·simp only[List.reverse_cons,List.reverse_nil,List.nil_append,List.cons_append,allP,B6,List.take,Cz]
  have lts: ∀x,s.next<=x-> ¬x<s.next:=λx h=>by omega
  simp+contextual [lts]
  repeat' first
   |exact .inl rfl
   |apply And.intro
 refine W.cast (Vr ..) ?_
 simp only[SS]
 generalize hsF:(⟨(dSt s1.mem s1.next).mem,(dSt s1.mem s1.next).next,_,_,_,_⟩:St)=sF
 have mF:sF.mem=s1.mem:=by rw[<-hsF];rfl
 have nF:sF.next=s1.next:=by rw[<-hsF];rfl
 have nn:s.next<=s1.next:=hA.ext.nxt
 have xF:Ext Any (λx=>col x<1000) (s.cxN cxN) sF:=by
  rw[<-hsF]
  refine aL (s:=s.cxN cxN) nn (λx hx hg=>hA.ext.mem x hx hg) ?_ λ_ _ _ _ _=>trivial
  simp only[List.mem_cons,List.not_mem_nil,or_false]
  rintro m (rfl|rfl|rfl|rfl|rfl|rfl|rfl|rfl|rfl|rfl) x hx hl<;>first|(cases hx;done)|exact(hw3 x hx).2
 have hIF:DkI sF col1 D M _:=hA.inv.same mF nF
 have hJF:JnI sF J D j:=(hJ.same (s':=s.cxN cxN) rfl rfl).ext xF λy hy hg=>by
  rcases Nat.lt_or_ge y J with h|h
  ·exact .inl h
  ·rcases Nat.lt_or_ge y (J+5)with h2|h2
   ·have:=hJc y h h2
    omega
   ·exact .inr h2
 have hbF:sF.lim<=sF.next:=xF.bnd hb0
 refine CY_.u ?_
 simp only[NV,RR,SS, ↓reduceIte,AL]
 refine aH Vu ?_
 refine Ne_.u ?_
 simp only[Gg_,RR,T.get_set,Nat.reduceEqDiff, ↓reduceIte,t0,Af,A6,C4,DE JS (by decide)]
 refine aE B4 (hJF.o0.same (s':=dSt sF.mem sF.next) rfl rfl).at' λrd4 hr4=> ?_
 simp only[A6,C4,DE O6 (by decide)]
 refine aE CH (hJF.o1.same (s':=dSt sF.mem sF.next) rfl rfl).at' λrd5 hr5=> ?_
 simp only[B2,Cb,BQ,C6,Eg]
 refine bA ?_
 have hlF:=Ut_ k j.file blk b v l
 have huF:=Qy_ k j.file blk b v l
 refine Vh_ (s:=oSt sF.mem sF.next) (Nat.le_refl _) (hIF.same rfl rfl) (by show(As k j.file blk v b l).length<=300;omega) (by show((As k j.file blk v b l).map λf=>f.sb.length+f.lb.length).sum<=4000000;omega) (by omega) (λh=> ?_) (λ_ h=> ?_) (λ_ i hi h s2 col2 hA2=> ?_) λ_ i hi hil _ s2 col2 v2 b2 hA2=> ?_
 ·exact absurd (show k.out=true from h) (by rw[ho];decide)
 ·exfalso
  cases hl:Az k.fs j.file with
  |none=>
   have e:As k j.file blk v b l=k.fs++[⟨j.file,k.mx,blk, .slice none 0 0,0,[],v,b,l⟩]:=by unfold As;rw[hl]
   have:=TB (g:=⟨j.file,k.mx,blk, .slice none 0 0,0,[],v,b,l⟩) hl (Ja _)
   rw[<-e]at this
   rw[show Az (As k j.file blk v b l) j.file=none from h]at this
   cases this
  |some i=>
   have hi:=Fo hl
   have e:As k j.file blk v b l=k.fs.set i {k.fs[i]with lv:=v,lbk:=b,lb:=k.fs[i].lb++l}:=by
    unfold As
    rw[hl]
    simp only
    rw[List.getElem?_eq_getElem hi]
   have:=QU (g:={k.fs[i]with lv:=v,lbk:=b,lb:=k.fs[i].lb++l}) (a:=j.file) hi rfl
   rw[<-e,show Az (As k j.file blk v b l) j.file=none from h,hl]at this
   cases this
 ·refine⟨_,_,hA2.ext,λrd6 wr6 hr6 hw6=> ?_⟩
  rw[AY]
  refine⟨C7 ?_, ?_⟩
  ·simp only[List.reverse_cons,List.reverse_nil,List.nil_append,List.cons_append,allP,B6,List.take,Cz]
   have lts: ∀x,sF.next<=x-> ¬x<sF.next:=λx h=>by omega
   simp+contextual [lts]
   repeat' first
    |exact .inl rfl
    |apply And.intro
  refine W.cast (RA ..) ?_
  simp only[SS]
  generalize hsG:(⟨(dSt s2.mem s2.next).mem,(dSt s2.mem s2.next).next,_,_,_,_⟩:St)=sG
  have mG:sG.mem=s2.mem:=by rw[<-hsG];rfl
  have nG:sG.next=s2.next:=by rw[<-hsG];rfl
  have nn2:sF.next<=s2.next:=hA2.ext.nxt
  have xG:Ext Any (λx=>col1 x<1000) sF sG:=by
   rw[<-hsG]
   refine aL (s:=sF) nn2 (λx hx hg=>hA2.ext.mem x hx hg) ?_ λ_ _ _ _ _=>trivial
   simp only[List.mem_cons,List.not_mem_nil,or_false]
   rintro m (rfl|rfl|rfl|rfl|rfl|rfl|rfl|rfl|rfl) x hx hl<;>first|(cases hx;done)|exact(hw6 x hx).2
  have yG:Ext Any (λx=>col x<1000) (s.cxN cxN) sG:=xF.on xG hb0 λx hx hg=>by rw[<-hA.agree x hx];exact hg
  refine aC (rs:=[4]) (vs:=[.int .i64 10]) rfl (.inl Yl) (by omega) IP MX yG.cx (by simp[T.get_set]) ?_
  have hfu:k.fused=true:=h.1
  refine qf hfu _ col2 (As k j.file blk v b l) (D3 k j.file) (wrap64 (k.steps+1)) (if k.fused then wrap64 (k.left-1)else k.left) ⟨?_,λx hx=> ?_,yG.cx'⟩ (.inr Ra_) hlF (Nat.le_of_eq huF)
  ·have h2:=hA2.inv.same (s':=sG.cxN s.cx) mG nG
   rw[hfu]at h2 ⊢
   exact h2
  ·rw[hA2.agree x (by show x<sF.next;have e:(s.cxN cxN).next=s.next:=rfl;omega),hA.agree x hx]
 refine⟨_,_,hA2.ext,λrd6 wr6 hr6 hw6=> ?_⟩
 rw[AY]
 refine⟨C7 ?_, ?_⟩
 ·simp only[List.reverse_cons,List.reverse_nil,List.nil_append,List.cons_append,allP,B6,List.take,Cz]
  have lts: ∀x,sF.next<=x-> ¬x<sF.next:=λx h=>by omega
  simp+contextual [lts]
  repeat' first
   |exact .inl rfl
   |apply And.intro
 refine W.cast (RA ..) ?_
 simp only[SS]
 generalize hsG:(⟨(dSt s2.mem s2.next).mem,(dSt s2.mem s2.next).next,_,_,_,_⟩:St)=sG
 have mG:sG.mem=s2.mem:=by rw[<-hsG];rfl
 have nG:sG.next=s2.next:=by rw[<-hsG];rfl
 have nn2:sF.next<=s2.next:=hA2.ext.nxt
 have xG:Ext Any (λx=>col1 x<1000) sF sG:=by
  rw[<-hsG]
  refine aL (s:=sF) nn2 (λx hx hg=>hA2.ext.mem x hx hg) ?_ λ_ _ _ _ _=>trivial
  simp only[List.mem_cons,List.not_mem_nil,or_false]
  rintro m (rfl|rfl|rfl|rfl|rfl|rfl|rfl|rfl|rfl) x hx hl<;>first|(cases hx;done)|exact(hw6 x hx).2
 have yG:Ext Any (λx=>col x<1000) (s.cxN cxN) sG:=xF.on xG hb0 λx hx hg=>by rw[<-hA.agree x hx];exact hg
 refine aC (rs:=[4]) (vs:=[.int .i64 0]) rfl (.inl Yl) (by omega) IP MX yG.cx (by simp[T.get_set]) ?_
 refine q _ col2 ((As k j.file blk v b l).set i (((As k j.file blk v b l)[i]'hil).kept v2 b2 (((As k j.file blk v b l)[i]'hil).sb++((As k j.file blk v b l)[i]'hil).lb))) (D3 k j.file) (wrap64 (wrap64 (k.steps+1)+1)) _ ⟨by have h:=hA2.inv.same (s':=sG.cxN s.cx) mG nG;simp only[ho]at h;exact h,λx hx=> ?_,yG.cx'⟩ ⟨λi' m hi' hl hs=> ?_,λhl=> ?_⟩ (by rw[List.length_set];exact hlF) ?_
 ·rw[hA2.agree x (by show x<sF.next;have e:(s.cxN cxN).next=s.next:=rfl;omega),hA.agree x hx]
 ·obtain⟨h1,hj',h2⟩:=Yp_ (blk:=blk) (b:=b) (v:=v) (l:=l) hl hi' hs
  rw[show Az (As k j.file blk v b l) j.file=some i from hi]at h1
  cases h1
  obtain⟨h3,h4⟩:=h2 v2 b2
  exact⟨_,h3,h4⟩
 ·obtain⟨h1,hj',h2⟩:=XT_ (blk:=blk) (b:=b) (v:=v) (l:=l) hl (Ja _)
  rw[show Az (As k j.file blk v b l) j.file=some i from hi]at h1
  cases h1
  obtain⟨h3,h4⟩:=h2 v2 b2
  exact⟨_,h3,h4⟩
 ·rw[FX_ (d:=0) hil (by show(_++_:List Nat).length+0=_;rw[List.length_append]),huF]
  rfl
end
theorem JQ (x y:Int):E2 envS 90 [(0, .int .i64 x),(1, .int .i64 y)]=some [.int .i64 x, .int .i64 y]:=by kernel_rfl
structure JrI (s:St)(col:Nat->Nat)(D M J:Nat)(fl:ByteArray)(R:List (Nat×Nat))(a b:Nat)(u:Bool)(k:DkS)(g:FileS):Prop where
 dk:DkI s col D M k
 fs:k.fs=[g]
 room:k.room=1048576
 fu:k.fused=u
 ou:k.out=false
 safe:Safe g fl (Aq R)
 jn:JnI s J D ⟨fl,a,b,false⟩
 jc: ∀x,J<=x->x<J+5->1000<=col x
def JrA (s:St)(col:Nat->Nat)(D M J:Nat)(fl:ByteArray)(R:List (Nat×Nat))(a b:Nat)(u:Bool):Prop:= ∃k g,JrI s col D M J fl R a b u k g
structure JrB (s:St)(col:Nat->Nat)(D M J:Nat)(fl:ByteArray)(R:List (Nat×Nat))(r:Nat×Nat)(a b:Nat)(k:DkS)(g:FileS):Prop where
 dk:DkI s col D M k
 fs:k.fs=[g]
 room:k.room=1048576
 ou:k.out=true
 nm:g.name=fl
 sb:g.sb=Aq R
 lb:g.lb=[]\/g.lb=recJ r
 jn:JnI s J D ⟨fl,a,b,true⟩
 jc: ∀x,J<=x->x<J+5->1000<=col x
theorem Sv {k:DkS}{g:FileS}{fl:ByteArray}{m:List Nat}(h:k.fs=[g])(hs:Safe g fl m):k.used=m.length:=by
 unfold DkS.used
 rw[h]
 show(g.sb.length+g.lb.length)+0=_
 rw[hs.sb,hs.lb]
 simp
theorem WV {k:DkS}{g:FileS}{fl:ByteArray}{m:List Nat}(h:k.fs=[g])(hs:Safe g fl m):Az k.fs fl=some 0:=by
 unfold Az
 rw[h]
 show([g.name].findIdx? λb=>fl==b)=some 0
 rw[hs.name,List.findIdx?_cons,Ja]
 rfl
theorem MkG.ltB {s:St}{v:Value}{l:List Nat}{b:Nat}(h:MkG s v l b): ∀x,BsF v x->b<=x/\x<s.next:=λx hx=>by
 rw[h.val]at hx
 have h1:b+0<=x:=hx.1
 have h2:x<b+0+l.length:=hx.2
 have:=h.lt
 exact⟨by omega,by omega⟩
section
variable {n D M J:Nat}{s:St}{col:Nat->Nat}{fl:ByteArray}{R:List (Nat×Nat)}{a b:Nat}{u:Bool}{Q:Value->St->Prop}
theorem RX {o m kd:Nat}(hb:s.lim<=s.next)(h:JrA s col D M J fl R a b u)(hnm:NmOk fl)(ho:(o=2/\m=a/\kd=1)\/(o=3/\m=b/\kd=2))(hm2:m+1<256)(hR:R.length<=300)(hn:2000<=n)
  (qf:u=true-> ∀s1 col' k' g',(∀x,x<s.next->col' x=col x)->Ext Any (λx=>col x<1000\/x=J+4) s s1->JrB s1 col' D M J fl R (kd,m+1) a b k' g'->Q (.tuple #[.int .i64 0, .int .i64 10]) s1)
  (q: ∀s1 col',(∀x,x<s.next->col' x=col x)->Ext Any (λx=>col x<1000\/x=J+o) s s1->JrA s1 col' D M J fl (R++[(kd,m+1)]) (if kd=1 then m+1 else a) (if kd=1 then b else m+1) u->Q (.tuple #[.int .i64 (m+1:Nat), .int .i64 0]) s1):
  W (Ab envS (runF envS n) 31 [.pointer (some ⟨J,0,none⟩), .int .i64 (kd:Nat), .pointer (some ⟨J,o,none⟩)]) s Q:=by
 obtain⟨k,g,hI⟩:=h
 have hb0:(s.cxN cxN).lim<=(s.cxN cxN).next:=hb
 have ea:(s.cxN cxN).next=s.next:=rfl
 have hlen1:k.fs.length<=290:=by rw[hI.fs];show 1<=290;decide
 have hm: ∀{s':St},JnI s' J D ⟨fl,a,b,false⟩->Own s' J o (.int .i64 (m:Nat)):=λhj=>by
  rcases ho with⟨rfl,rfl,_⟩|⟨rfl,rfl,_⟩
  ·exact hj.o2
  ·exact hj.o3
 have ho2:2<=o/\o<=3:=by omega
 have hrk:BC (kd,m+1):=⟨by show 1<=kd;omega,by show kd<=2;omega,hm2⟩
 refine AbY_ λtm t0 t1 t2=> ?_
 refine Acc_.u ?_
 simp only[Ue,RR,SS]
 refine Lp_.u ?_
 simp only[CL_,RR,SS,reduceCtorEq, ↓reduceIte,t0]
 have hD0:DkI (s.cxN cxN) (Av col s.next 1000) D M k:=(hI.dk.col λx hx=>AG hx).same rfl rfl
 have hJ0:JnI (s.cxN cxN) J D ⟨fl,a,b,false⟩:=hI.jn.same rfl rfl
 refine Xh hb0 hD0 hJ0 rfl (by omega) λs1 x1=> ?_
 have hD1:=hD0.ext0 x1 (by omega)
 have hJ1:=hJ0.ext0 x1
 refine aH US_ ?_ rfl (by simp[T.get_set,hI.ou])
 refine JA_.u ?_
 simp only[US,RR,SS,Nat.reduceEqDiff, ↓reduceIte,t2]
 refine aB Au (hm hJ1).at' ?_
 have y2:=x1.thenRd hb0 (J+o)
 have hD2:DkI (s1.rdN (J+o)) (Av col s.next 1000) D M k:=hD1.same rfl rfl
 have hJ2:JnI (s1.rdN (J+o)) J D ⟨fl,a,b,false⟩:=hJ1.same rfl rfl
 generalize s1.rdN (J+o)=s2 at *
 simp only[A0]
 refine aH ZS_ ?_
 refine Abg_.u ?_
 simp only[QR,RR,SS,Nat.reduceEqDiff,reduceCtorEq, ↓reduceIte,t0,t1,t2]
 refine aB Au (hm hJ2).at' ?_
 have y3:=y2.thenRd hb0 (J+o)
 have hD3:DkI (s2.rdN (J+o)) (Av col s.next 1000) D M k:=hD2.same rfl rfl
 have hJ3:JnI (s2.rdN (J+o)) J D ⟨fl,a,b,false⟩:=hJ2.same rfl rfl
 generalize s2.rdN (J+o)=s3 at *
 have ei:wrap64 (((m:Nat):Int)+1)=((m+1:Nat):Int):=by
  rw[Bc (by omega) (by omega)];simp
 simp only[AO,ei,Ek (JQ _ _)]
 refine OA (r:=(kd,m+1)) (y3.bnd hb0) hrk (by omega) λs4 w nb x4 mk hnb=> ?_
 have y4:=y3.on x4 hb0 λ_ _ h=>h
 have hD4:=hD3.ext0 x4 (by omega)
 have hJ4:JnI s4 J D ⟨fl,a,b,false⟩:=hJ3.ext0 x4
 have n04:s.next<=s4.next:=y4.nxt
 have hused:=Sv hI.fs hI.safe
 have hrl:(Aq R).length=9*R.length:=Et R
 have hrc:(recJ (kd,m+1)).length=9:=B7 _
 have nb3:s.next<=nb:=Nat.le_trans y3.nxt hnb
 have hpc: ∀x,J<=x->x<J+5->1000<=Av col s.next 1000 x:=λx h1 h2=>by
  by_cases h:x<s.next
  ·rw[AG h];exact hI.jc x h1 h2
  ·rw[Ch (by omega)];exact Nat.le_refl _
 have hJl:J+4<s.next:=hI.jn.o4.1
 have hk0:0<k.fs.length:=by rw[hI.fs];show 0<1;decide
 have hg0:k.fs[0]=g:=by
  have e:k.fs[0]?=some g:=by rw[hI.fs];rfl
  rw[List.getElem?_eq_getElem hk0]at e
  exact Option.some.inj e
 have hJk: ∀{G:Nat->Prop} {s':St},Ext Any G s4 s'->(∀x,G x->Av col s.next 1000 x<1000)->JnI s' J D ⟨fl,a,b,false⟩:=λx hG=>hJ4.ext x λy hy hg=>by
  rcases Nat.lt_or_ge y J with h|h
  ·exact .inl h
  ·rcases Nat.lt_or_ge y (J+5)with h2|h2
   ·have h3:=hpc y h h2
    have:=hG y hg
    omega
   ·exact .inr h2
 refine BA_ (y4.bnd hb0) hD4 hJ4 hlen1 hnm (mk.bn (by omega)).bs (λx hx=> ?_) hpc (by rw[hrc,hused,hrl];omega) (by rw[hI.room,hrc,hused,hrl];omega) hI.ou (by omega) (λhuf s5 col5 fs' mx' st' le' hA hL hfl0 _=> ?_) λs5 col5 fs' mx' st' le' hA hL _ hu=> ?_
 ·obtain⟨h1,h2⟩:=mk.ltB x hx
  exact⟨h2,by rw[Ch (by omega)];exact Nat.le_refl _⟩
 ·obtain⟨g',hf',hnm',hsb',hlb'⟩: ∃g':FileS,fs'=[g']/\g'.name=fl/\g'.sb=Aq R/\(g'.lb=[]\/g'.lb=recJ (kd,m+1)):=by
   rcases hL with hL|hL
   ·exact⟨g,by rw[hL,hI.fs],hI.safe.name,hI.safe.sb, .inl hI.safe.lb⟩
   ·obtain⟨g',h1,h2,h3,h4⟩:=hL.1 0 (Aq R) hk0 (WV hI.fs hI.safe) (by rw[hg0];exact hI.safe)
    exact⟨g',by rw[h4,hI.fs];rfl,h1,h2, .inr h3⟩
  have y5:Ext Any (λx=>col x<1000\/x=J+4) (s.cxN cxN) s5:=(y4.gw hb0 λ_ _ h=>h.elim).on hA.ext hb0 λx hx hg=> .inl (by rw[<-AG (col:=col) (n:=s.next) (c:=1000) hx];exact hg)
  have hJ5:JnI s5 J D ⟨fl,a,b,false⟩:=hJk hA.ext λ_ h=>h
  have hD5:=hA.inv
  have c5: ∀x,J<=x->x<J+5->1000<=col5 x:=λx h1 h2=>by
   rw[hA.agree x (by omega)]
   exact hpc x h1 h2
  refine Ct_.u ?_
  simp only[LM,RR,SS, ↓reduceIte,AL]
  refine aK R7 ?_
  refine Rh_.u ?_
  simp only[WF,RR,SS,reduceCtorEq, ↓reduceIte,t0,Ai Ln (by decide)]
  refine aG Bx rfl hJ5.o4 λs6 n6 x6 o6=> ?_
  have y6:=y5.on x6 hb0 λx _ hg=> .inr (by have h1:=hg.1;have h2:=hg.2;omega)
  have hD6:=hD5.ext x6 (by show fs'.length<=300;rw[hf'];show 1<=300;decide) λy hy hg=>c5 y (by have h1:=hg.1;omega) (by have h2:=hg.2;omega)
  have hJ6:JnI s6 J D ⟨fl,a,b,true⟩:=⟨hJ5.o0.ext x6 λhg=>by have h1:=hg.1;omega,hJ5.o1.ext x6 λhg=>by have h1:=hg.1;omega,hJ5.o2.ext x6 λhg=>by have h1:=hg.1;omega,hJ5.o3.ext x6 λhg=>by have h1:=hg.1;omega,o6⟩
  refine YG_.u ?_
  simp only[HD_,RR,SS,Nat.reduceEqDiff, ↓reduceIte]
  refine aC (rs:=[6,7]) (vs:=[.int .i64 0, .int .i64 10]) rfl (.inl Wc_) (by omega) Li Ax_ y6.cx (by simp[T.get_set]) ?_
  refine qf (by rw[<-hI.fu];exact huf) _ col5 ⟨fs',mx',k.room,st',true,le',true⟩ g' (λx hx=> ?_) y6.cx' ⟨hD6.same rfl rfl,hf',hI.room,rfl,hnm',hsb',hlb',hJ6.same rfl rfl,c5⟩
  rw[hA.agree x (by omega),AG hx]
 have y5:Ext Any (λx=>col x<1000\/x=J+o) (s.cxN cxN) s5:=(y4.gw hb0 λ_ _ h=>h.elim).on hA.ext hb0 λx hx hg=> .inl (by rw[<-AG (col:=col) (n:=s.next) (c:=1000) hx];exact hg)
 have hJ5:JnI s5 J D ⟨fl,a,b,false⟩:=hJ4.ext hA.ext λy hy hg=>by
  rcases Nat.lt_or_ge y J with h|h
  ·exact .inl h
  ·rcases Nat.lt_or_ge y (J+5)with h2|h2
   ·have:=hpc y h h2
    omega
   ·exact .inr h2
 obtain⟨g',hs',hf'⟩:=hL.1 0 (Aq R) hk0 (WV hI.fs hI.safe) (by rw[hg0];exact hI.safe)
 have hf':fs'=[g']:=by rw[hf',hI.fs];rfl
 have hD5:=hA.inv
 have hfl:(⟨fs',mx',k.room,st',k.fused,le',false⟩:DkS).fs.length<=300:=by show fs'.length<=300;rw[hf'];show 1<=300;decide
 refine Ct_.u ?_
 simp only[LM,RR,SS, ↓reduceIte,AL]
 refine aH R7 ?_
 refine SY_.u ?_
 simp only[Us,RR,SS,Nat.reduceEqDiff, ↓reduceIte,t2]
 refine aB Au (hm hJ5).at' ?_
 have y6:=y5.on (Ext.rdN (F:=Any) (G:=Non) s5 (J+o) λ_=>trivial) hb0 λ_ _ h=>h.elim
 have hD6:DkI (s5.rdN (J+o)) col5 D M ⟨fs',mx',k.room,st',k.fused,le',false⟩:=hD5.same rfl rfl
 have hJ6:JnI (s5.rdN (J+o)) J D ⟨fl,a,b,false⟩:=hJ5.same rfl rfl
 generalize s5.rdN (J+o)=s6 at *
 simp only[AO,ei]
 refine aG Au rfl (hm hJ6) λs7 n7 x7 o7=> ?_
 have y7:=y6.on x7 hb0 λx _ hg=> .inr (by have h1:=hg.1;have h2:=hg.2;omega)
 have c5: ∀x,J<=x->x<J+5->1000<=col5 x:=λx h1 h2=>by
  rw[hA.agree x (by omega)]
  exact hpc x h1 h2
 have hD7:=hD6.ext x7 hfl λy hy hg=>c5 y (by have h1:=hg.1;omega) (by have h2:=hg.2;omega)
 have w0:=hJ6.o0.ext x7 λhg=>by have h1:=hg.1;omega
 have w1:=hJ6.o1.ext x7 λhg=>by have h1:=hg.1;omega
 have w4:=hJ6.o4.ext x7 λhg=>by have h1:=hg.2;omega
 have hJ7:JnI s7 J D ⟨fl,if kd=1 then m+1 else a,if kd=1 then b else m+1,false⟩:=by
  rcases ho with⟨rfl,rfl,rfl⟩|⟨rfl,rfl,rfl⟩
  ·exact⟨w0,w1,o7,hJ6.o3.ext x7 λhg=>by have h1:=hg.2;omega,w4⟩
  ·exact⟨w0,w1,hJ6.o2.ext x7 λhg=>by have h1:=hg.1;omega,o7,w4⟩
 refine Vt_.u ?_
 simp only[Vk,RR,SS,Nat.reduceEqDiff, ↓reduceIte,t2]
 refine aB Au o7.at' ?_
 have y8:=y7.on (Ext.rdN (F:=Any) (G:=Non) s7 (J+o) λ_=>trivial) hb0 λ_ _ h=>h.elim
 have hD8:DkI (s7.rdN (J+o)) col5 D M ⟨fs',mx',k.room,st',k.fused,le',false⟩:=hD7.same rfl rfl
 have hJ8:JnI (s7.rdN (J+o)) J D _:=hJ7.same rfl rfl
 generalize s7.rdN (J+o)=s8 at *
 refine aC (rs:=[6,7]) (vs:=[.int .i64 (m+1:Nat), .int .i64 0]) rfl (.inl WI_) (by omega) Li Ax_ y8.cx (by simp[T.get_set]) ?_
 refine q _ col5 (λx hx=> ?_) y8.cx' ⟨⟨fs',mx',k.room,st',k.fused,le',false⟩,g',hD8.same rfl rfl,hf',hI.room,hI.fu,rfl, ?_,hJ8.same rfl rfl,c5⟩
 ·rw[hA.agree x (by omega),AG hx]
 ·rw[SW,BN_]
  exact hs'
end
section
variable {n D M J:Nat}{s:St}{col:Nat->Nat}{fl:ByteArray}{R:List (Nat×Nat)}{a b:Nat}{u:Bool}{Q:Value->St->Prop}
theorem Zl_ (hb:s.lim<=s.next)(h:JrA s col D M J fl R a b u)(hnm:NmOk fl)(hm2:a+1<256)(hR:R.length<=300)(hn:2500<=n)
  (qf:u=true-> ∀s1 col' k' g',(∀x,x<s.next->col' x=col x)->Ext Any (λx=>col x<1000\/x=J+4) s s1->JrB s1 col' D M J fl R (1,a+1) a b k' g'->Q (.tuple #[.int .i64 0, .int .i64 10]) s1)
  (q: ∀s1 col',(∀x,x<s.next->col' x=col x)->Ext Any (λx=>col x<1000\/x=J+2) s s1->JrA s1 col' D M J fl (R++[(1,a+1)]) (a+1) b u->Q (.tuple #[.int .i64 (a+1:Nat), .int .i64 0]) s1):
  W (Ab envS (runF envS n) 8 [.pointer (some ⟨J,0,none⟩)]) s Q:=by
 have hb0:(s.cxN cxN).lim<=(s.cxN cxN).next:=hb
 obtain⟨k,g,hI⟩:=h
 refine Ph_ λtm t0=> ?_
 refine Qp_.u ?_
 simp only[Q7,RR,SS]
 refine Sa_.u ?_
 simp only[XM,RR,SS,reduceCtorEq, ↓reduceIte,t0]
 have hJ0:JnI (s.cxN cxN) J D ⟨fl,a,b,false⟩:=hI.jn.same rfl rfl
 refine If hb0 hJ0.o0 (by omega) λs1 m1 n1 x1=> ?_
 refine aH Rm_ ?_
 refine Kc_.u ?_
 simp only[Vq,RR,SS,reduceCtorEq, ↓reduceIte,t0,Ai Jx (by decide)]
 have h1:JrA s1 col D M J fl R a b u:=⟨k,g,(hI.dk.same (s':=s.cxN cxN) rfl rfl).same m1 n1,hI.fs,hI.room,hI.fu,hI.ou,hI.safe,hJ0.same m1 n1,hI.jc⟩
 refine RX (o:=2) (m:=a) (kd:=1) (x1.bnd hb0) h1 hnm (.inl ⟨rfl,rfl,rfl⟩) hm2 hR (by omega) (λhu s2 col2 k' g' hag x2 h2=> ?_) λs2 col2 hag x2 h2=> ?_
 ·have y2:Ext Any (λx=>col x<1000\/x=J+4) (s.cxN cxN) s2:=(x1.gw hb0 λ_ _ h=>h.elim).on x2 hb0 λ_ _ h=>h
  have e1:s1.next=s.next:=n1
  rw[AP (k:=0) rfl]
  rw[AP (k:=1) rfl]
  refine aC (rs:=[2,3]) (vs:=[.int .i64 0, .int .i64 10]) rfl (.inl Ym) (by omega) K2 ZP y2.cx (by simp[T.get_set]) ?_
  exact qf hu _ col2 k' g' (λx hx=>hag x (by omega)) y2.cx' ⟨h2.dk.same rfl rfl,h2.fs,h2.room,h2.ou,h2.nm,h2.sb,h2.lb,h2.jn.same rfl rfl,h2.jc⟩
 have y2:Ext Any (λx=>col x<1000\/x=J+2) (s.cxN cxN) s2:=(x1.gw hb0 λ_ _ h=>h.elim).on x2 hb0 λ_ _ h=>h
 have e1:s1.next=s.next:=n1
 rw[AP (k:=0) rfl]
 rw[AP (k:=1) rfl]
 refine aC (rs:=[2,3]) (vs:=[.int .i64 (a+1:Nat), .int .i64 0]) rfl (.inl Ym) (by omega) K2 ZP y2.cx (by simp[T.get_set]) ?_
 obtain⟨k',g',hI'⟩:=h2
 exact q _ col2 (λx hx=>hag x (by omega)) y2.cx' ⟨k',g',hI'.dk.same rfl rfl,hI'.fs,hI'.room,hI'.fu,hI'.ou,hI'.safe,hI'.jn.same rfl rfl,hI'.jc⟩
theorem Adf_ (hb:s.lim<=s.next)(h:JrA s col D M J fl R a b u)(hnm:NmOk fl)(hm2:b+1<256)(hR:R.length<=300)(hn:2500<=n)
  (qf:u=true-> ∀s1 col' k' g',(∀x,x<s.next->col' x=col x)->Ext Any (λx=>col x<1000\/x=J+4) s s1->JrB s1 col' D M J fl R (2,b+1) a b k' g'->Q (.tuple #[.int .i64 0, .int .i64 10]) s1)
  (q: ∀s1 col',(∀x,x<s.next->col' x=col x)->Ext Any (λx=>col x<1000\/x=J+3) s s1->JrA s1 col' D M J fl (R++[(2,b+1)]) a (b+1) u->Q (.tuple #[.int .i64 (b+1:Nat), .int .i64 0]) s1):
  W (Ab envS (runF envS n) 9 [.pointer (some ⟨J,0,none⟩)]) s Q:=by
 have hb0:(s.cxN cxN).lim<=(s.cxN cxN).next:=hb
 obtain⟨k,g,hI⟩:=h
 refine WM_ λtm t0=> ?_
 refine YW_.u ?_
 simp only[Bl_,RR,SS]
 refine Mc_.u ?_
 simp only[YM,RR,SS,reduceCtorEq, ↓reduceIte,t0]
 have hJ0:JnI (s.cxN cxN) J D ⟨fl,a,b,false⟩:=hI.jn.same rfl rfl
 refine If hb0 hJ0.o0 (by omega) λs1 m1 n1 x1=> ?_
 refine aH Jh_ ?_
 refine Pi_.u ?_
 simp only[ZE,RR,SS,reduceCtorEq, ↓reduceIte,t0,Ai Ky (by decide)]
 have h1:JrA s1 col D M J fl R a b u:=⟨k,g,(hI.dk.same (s':=s.cxN cxN) rfl rfl).same m1 n1,hI.fs,hI.room,hI.fu,hI.ou,hI.safe,hJ0.same m1 n1,hI.jc⟩
 refine RX (o:=3) (m:=b) (kd:=2) (x1.bnd hb0) h1 hnm (.inr ⟨rfl,rfl,rfl⟩) hm2 hR (by omega) (λhu s2 col2 k' g' hag x2 h2=> ?_) λs2 col2 hag x2 h2=> ?_
 ·have y2:Ext Any (λx=>col x<1000\/x=J+4) (s.cxN cxN) s2:=(x1.gw hb0 λ_ _ h=>h.elim).on x2 hb0 λ_ _ h=>h
  have e1:s1.next=s.next:=n1
  rw[AP (k:=0) rfl]
  rw[AP (k:=1) rfl]
  refine aC (rs:=[2,3]) (vs:=[.int .i64 0, .int .i64 10]) rfl (.inl Y5) (by omega) Np V2 y2.cx (by simp[T.get_set]) ?_
  exact qf hu _ col2 k' g' (λx hx=>hag x (by omega)) y2.cx' ⟨h2.dk.same rfl rfl,h2.fs,h2.room,h2.ou,h2.nm,h2.sb,h2.lb,h2.jn.same rfl rfl,h2.jc⟩
 have y2:Ext Any (λx=>col x<1000\/x=J+3) (s.cxN cxN) s2:=(x1.gw hb0 λ_ _ h=>h.elim).on x2 hb0 λ_ _ h=>h
 have e1:s1.next=s.next:=n1
 rw[AP (k:=0) rfl]
 rw[AP (k:=1) rfl]
 refine aC (rs:=[2,3]) (vs:=[.int .i64 (b+1:Nat), .int .i64 0]) rfl (.inl Y5) (by omega) Np V2 y2.cx (by simp[T.get_set]) ?_
 obtain⟨k',g',hI'⟩:=h2
 exact q _ col2 (λx hx=>hag x (by omega)) y2.cx' ⟨k',g',hI'.dk.same rfl rfl,hI'.fs,hI'.room,hI'.fu,hI'.ou,hI'.safe,hI'.jn.same rfl rfl,hI'.jc⟩
end
section
variable {E:Env}{s:St}{t:Nat}{xo yo:Operand}
theorem VA_ (m n:Nat)(h:m|||n<=9223372036854775807):Cl.get (aBin E .or t xo yo) (.int .i64 (m:Nat)) (.int .i64 (n:Nat)) s= .some (.int .i64 (m|||n:Nat)) s:=by
 show int3 orK (AS E .or t xo yo) (.int .i64 (.ofNat m)) (.int .i64 (.ofNat n)) s=_
 show Option.rec (motive:=λ_=>R Value) _ (λv=> .some v s) (orK .i64 .i64 m n)=_
 have:orK .i64 .i64 m n=some (.int .i64 (m|||n:Nat)):=by
  unfold orK Cg
  rw[Nat.beq_refl]
  exact Zn h
 rw[this]
theorem AcD_ {m n:Nat}(h:m|||n<=9223372036854775807)(Q:Value->St->Prop):W (Cl.get (aBin E .or t xo yo) (.int .i64 (m:Nat)) (.int .i64 (n:Nat))) s Q=Q (.int .i64 (m|||n:Nat)) s:=AJ (VA_ m n h)
theorem LK_ {kk:IntKind}(m n:Nat)(hn:n<=64)(h:m<<<n<=9223372036854775807):Cl.get (aBin E .shl t xo yo) (.int .i64 (m:Nat)) (.int kk (n:Nat)) s= .some (.int .i64 (m<<<n:Nat)) s:=by
 show int3 shlK (AS E .shl t xo yo) (.int .i64 (.ofNat m)) (.int kk (.ofNat n)) s=_
 show Option.rec (motive:=λ_=>R Value) _ (λv=> .some v s) (shlK .i64 kk m n)=_
 have:shlK .i64 kk m n=some (.int .i64 (m<<<n:Nat)):=by
  unfold shlK sOpt
  rw[Nat.ble_eq_true_of_le (show n<=btOf .i64 from hn)]
  exact Zn h
 rw[this]
theorem OP_ {kk:IntKind}{m n:Nat}(hn:n<=64)(h:m<<<n<=9223372036854775807)(Q:Value->St->Prop):W (Cl.get (aBin E .shl t xo yo) (.int .i64 (m:Nat)) (.int kk (n:Nat))) s Q=Q (.int .i64 (m<<<n:Nat)) s:=AJ (LK_ m n hn h)
end
section
variable {n D M J:Nat}{s:St}{col:Nat->Nat}{fl:ByteArray}{R:List (Nat×Nat)}{a b:Nat}{u:Bool}{Q:Value->St->Prop}
theorem Ud_ (hb:s.lim<=s.next)(h:JrA s col D M J fl R a b u)(hn:500<=n)(q: ∀s1,Ext Any Non s s1->Q (.tuple #[.int .i64 (a:Nat), .int .i64 (b:Nat)]) s1):
  W (Ab envS (runF envS n) 10 [.pointer (some ⟨J,0,none⟩)]) s Q:=by
 have hb0:(s.cxN cxN).lim<=(s.cxN cxN).next:=hb
 obtain⟨k,g,hI⟩:=h
 refine LC_ λtm t0=> ?_
 refine UT_.u ?_
 simp only[Ig_,RR,SS]
 refine AcL_.u ?_
 simp only[Tn,RR,SS,reduceCtorEq, ↓reduceIte,t0]
 have hJ0:JnI (s.cxN cxN) J D ⟨fl,a,b,false⟩:=hI.jn.same rfl rfl
 have hD0:DkI (s.cxN cxN) col D M k:=hI.dk.same rfl rfl
 refine If hb0 hJ0.o0 (by omega) λs1 m1 n1 x1=> ?_
 try simp only[SS,reduceCtorEq, ↓reduceIte]
 refine Xh (x1.bnd hb0) (hD0.same m1 n1) (hJ0.same m1 n1) rfl (by omega) λs2 x2=> ?_
 have y2:=x1.on x2 hb0 λ_ _ h=>h
 have hJ2:=(hJ0.same m1 n1).ext0 x2
 refine aH YD_ ?_ rfl (by simp[T.get_set,hI.ou])
 refine Od_.u ?_
 simp only[AK_,RR,T.get_set,Nat.reduceEqDiff, ↓reduceIte,t0,Af,A6,C4,DE Jx (by decide)]
 refine aE Au (hJ2.o2.same (s':=dSt s2.mem s2.next) rfl rfl).at' λrd1 hr1=> ?_
 simp only[A6,C4,DE Ky (by decide)]
 refine aE Au (hJ2.o3.same (s':=dSt s2.mem s2.next) rfl rfl).at' λrd2 hr2=> ?_
 simp only[A6,Gv,AY]
 refine⟨Df (by simp) (by simp), ?_⟩
 refine W.cast (Mu_ ..) ?_
 simp only[SS]
 generalize hsF:(⟨(dSt s2.mem s2.next).mem,(dSt s2.mem s2.next).next,s2.lim,_,_,s2.cx⟩:St)=sF
 have xF:Ext Any Non s2 sF:=by
  rw[<-hsF]
  exact Ext.draw (F:=Any) (Nat.le_refl _) (λ_ _=>rfl) (by simp) λ_ _ _ _ _=>trivial
 have yF:=y2.on xF hb0 λ_ _ h=>h
 refine aC (rs:=[2,3]) (vs:=[.int .i64 (a:Nat), .int .i64 (b:Nat)]) rfl (.inl AbN_) (by omega) Gn_ Kj_ yF.cx (by simp[T.get_set]) ?_
 exact q _ yF.cx'
end
section
variable {s:St}
theorem W.rowM {vs:List Value}{Q:Value->St->Prop}(hb:s.lim<=s.next)(hz:vs.length<capU)(q: ∀s1 v,MkS s1 1 vs.length vs v s.next->Ext Any Non s s1->Q v s1):W (Am.rowM vs) s Q:=by
 cases vs with
 |nil=>exact W.pure (q s _ (.inl ⟨rfl,rfl,rfl⟩) (Ext.refl _))
 |cons x l=>
  show W (Am.fN (x::l).length λn=>Am.rowN (x::l) n) s Q
  rw[Ao]
  generalize hvs:x::l=vs at *
  have h0:0<vs.length:=by rw[<-hvs];simp
  unfold Am.rowN
  refine W.chk (Bv hz) (W.bind (W.newL λs1 n1 x1 r1=> ?_))
  have e1:Nat.add s.next (Nat.mul vs.length 1)=s.next+vs.length:=by
   show s.next+vs.length*1=_
   omega
  rw[e1]
  refine W.bind (W.wrC (by omega) ?_)
  unfold Am.pSl
  show W (Am.fA ⟨s.next,0,none⟩ λa=>Am.fN _ λl=>Am.fN _ λc=>M.pure (.slice (some a) l c)) _ Q
  rw[Cq,Ao,Ao]
  have hval:Value.slice (some ⟨s.next,0,none⟩) vs.length (Nat.add (Nat.mul capU (Nat.add (Nat.mul (s.next+vs.length) 1024) 1)) vs.length)= .slice (some ⟨s.next,0,none⟩) vs.length (capU*((s.next+vs.length*1)*1024+1)+vs.length):=by
   rw[Nat.mul_one]
   generalize capU=c
   rfl
  rw[hval]
  refine W.pure (q _ _ (.inr ⟨⟨rfl, ?_, ?_, ?_, ?_⟩,h0⟩) ?_)
  ·exact r1.ext (Ext.wrN (F:=Any) (G:=λy=>y=s.next+vs.length) s1 _ _ rfl) λi hi h=>by omega
  ·omega
  ·refine⟨1,rfl, ?_⟩
   show T.get (T.set s1.mem (s.next+vs.length) _) (s.next+vs.length*1)=_
   rw[Nat.mul_one,T.get_set,if_pos rfl]
  ·show s.next+vs.length*1<s1.next
   omega
  ·exact(x1.weak (G':=Non) hb (λ_ _ _=>trivial) λ_ _ h=>h).on (Ext.wrN (F:=Any) (G:=λy=>y=s.next+vs.length) s1 _ _ rfl) hb λy hy h=>by omega
structure NmsOk (l:List ByteArray):Prop where
 dist:EJ (l.map (·.data.toList))=true
 short:EA (l.map (·.data.toList)) 1000000=true
 sort:Ey (l.map (·.data.toList))=l.map (·.data.toList)
 len:l.length<=300
theorem ZV: ∀fs:List FileS,Fp (fs.map FileS.ent)=some ((fs.map FileS.name).map (·.data.toList))
 |[]=>rfl
 |f::fs=>by
  show(match OH f.ent.key,Fp (fs.map FileS.ent)with|some k,some ks=>some (k::ks)|_,_=>none)=_
  rw[ZV fs]
  rfl
theorem MG_ (l:List ByteArray):(l.map (·.data.toList)).map encStr=l.map Value.string:=by
 rw[List.map_map]
 refine List.map_congr_left λa _=> ?_
 show encStr a.data.toList=Value.string a
 unfold encStr
 congr
theorem W.keysQ {Q:Value->St->Prop}{l:Nat}(q: ∀s1,s1.next=s.next+2->Ext Non Non s s1->Own s1 s.next 0 (.map (some l))->Q (.func (.func 69) #[] #[.chan (some s.next)]) s1):W (keysM 69 [.map (some l)]) s Q:=by
 show W (M.bind (Am.newL [.map (some l)]) λb=>M.pure (.func (.func 69) #[] #[.chan (some b)])) s Q
 exact W.bind (W.newL λs1 n1 x1 r1=>W.pure (q s1 n1 x1 (r1 0 _ rfl)))
end
section
variable {n:Nat}{s:St}{a:ByteArray}{Q:Value->St->Prop}
end
def HasP (a p:ByteArray):Prop:=valR (callF envC 1000 51 [.string a, .string p] st0)=some (.bool true)
theorem Jl_:envS.orc.get 51=some (pureM envC 1000 51):=by kernel_rfl
theorem IN:slN envS 41=some 1:=by kernel_rfl
theorem Sd_:envS.orc.get 48=some (keysM 69):=by kernel_rfl
theorem AaK_:envS.orc.get 47=some (sortedM 69):=by kernel_rfl
def NmR (s:St)(v:Value)(l:List ByteArray)(b:Nat):Prop:=MkS s 1 l.length (l.map Value.string) v b
theorem NmR.at {s:St}{v:Value}{l:List ByteArray}{b i:Nat}(h:NmR s v l b)(hi:i<l.length): ∃c,v= .slice (some ⟨b,0,none⟩) l.length c/\Own s b (0+i*1) (.string l[i]):=by
 rcases h with⟨_,h0,_⟩|⟨h,h0⟩
 ·omega
 ·refine⟨_,h.val, ?_⟩
  rw[Nat.mul_one,Nat.zero_add]
  have h1:=h.own i (.string l[i]) (by simp[hi])
  rwa [Nat.zero_add]at h1
section
variable {n P:Nat}{s:St}{a p:ByteArray}{Q:Value->St->Prop}
theorem QR_ (hb:s.lim<=s.next)(hp:HasP a p)(hP:Own s P 0 (.string p))(hn:100<=n)(q: ∀s1,s1.mem=s.mem->s1.next=s.next->Ext Any Non s s1->Q (.bool false) s1):W (Ab envS (runF envS n) 50 [.string a, .pointer (some ⟨P,0,none⟩)]) s Q:=by
 have hb0:(s.cxN cxN).lim<=(s.cxN cxN).next:=hb
 refine TU_ λtm h0 h1=> ?_
 refine On_.u ?_
 simp only[SM,RR,SS]
 refine AaT_.u ?_
 simp only[Z3,RR,SS,Nat.reduceEqDiff,reduceCtorEq, ↓reduceIte,h0,h1]
 refine aB CH (hP.same (s':=s.cxN cxN) rfl rfl).at' ?_
 have y1:=(Ext.refl (F:=Any) (G:=Non) (s.cxN cxN)).thenRd hb0 (P+0)
 refine W.orc Jl_ (W.pureM rfl hp rfl ?_)
 simp only[BN,Bool.not_true]
 refine aC (rs:=[3]) (vs:=[.bool false]) rfl (.inl UF_) (by omega) BU_ Yw_ rfl (by simp[T.get_set]) ?_
 exact q _ rfl rfl y1.cx'
theorem Jm_ {p:ByteArray}{l:List ByteArray}{v:Value}{b:Nat}{Q:Value×FrameMode->St->Prop}{s0:St}(hb0:s0.lim<=s0.next)(hl:l.length<=300)(hr:NmR s0 v l b)(hp: ∀a∈l,HasP a p)(hP:Own s0 P 0 (.string p))(hcx:s0.cx=cxN)(q: ∀s1,s1.mem=s0.mem->s1.next=s0.next->Ext Any Non s0 s1->Q (.int .i64 (-1), .run) s1):
  ∀(k i n:Nat) (tm:T Value) (s:St) (td:List Item),i+k=l.length->10*k+200<=n->skim 64 td=Kb->Ext Any Non s0 s->s.mem=s0.mem->s.next=s0.next->
  T.get tm 0=some v->T.get tm 1=some (.func (.func 50) #[] #[.pointer (some ⟨P,0,none⟩)])->T.get tm 7=some (.int .i64 (l.length:Nat))->T.get tm 8=some (.int .i64 (i:Nat))->
  W (runF envS n ⟨70,Jz_,DR,tm,td, .run, .normal,none⟩) s Q:=by
 intro k
 induction k with
 |zero=>
  intro i n tm s td hi hn hT hx hm hnx h0 h1 h7 h8
  refine FS_.u ?_ hT
  simp only[Lm,RR,SS,AC,h7,h8]
  refine aH W0 ?_
  refine ST_.u ?_
  simp only[UG,RR,SS]
  refine aC (rs:=[4]) (vs:=[.int .i64 (-1)]) rfl (.inl Pb_) (by omega) Q1 Uy_ (hx.cx.trans hcx) (by simp[T.get_set]) ?_
  exact q s hm hnx hx
 |succ k ih=>
  intro i n tm s td hi hn hT hx hm hnx h0 h1 h7 h8
  have hil:i<l.length:=by omega
  obtain⟨c,rfl,ho⟩:=NmR.at hr hil
  refine FS_.u ?_ hT
  simp only[Lm,RR,SS,AC,h7,h8]
  refine aK W0 ?_
  refine WV_.u ?_
  simp only[Dd_,RR,SS,Nat.reduceEqDiff, ↓reduceIte,h8]
  refine NK_.u ?_
  simp only[Zc,RR,SS,Nat.reduceEqDiff,reduceCtorEq, ↓reduceIte,h0,h1,By IN hil]
  refine aB CH (ho.same hm hnx).at' ?_
  have y1:=hx.thenRd hb0 (b+(0+i*1))
  try simp only[ZF]
  refine QR_ (P:=P) (y1.bnd hb0) (hp _ (List.getElem_mem hil)) ((hP.same hm hnx).same rfl rfl) (by omega) λs2 m2 n2 x2=> ?_
  have y2:=y1.on x2 hb0 λ_ _ h=>h
  refine aH Yl_ ?_
  refine Aat_.u ?_
  have ei:=eiW (i:=i) (by omega)
  simp only[CZ_,RR,SS,Nat.reduceEqDiff, ↓reduceIte,AO,h8,ei]
  exact ih (i+1) _ _ _ _ (by omega) (by omega) MV_ y2 (m2.trans hm) (n2.trans hnx) (by simp[T.get_set,h0]) (by simp[T.get_set,h1]) (by simp[T.get_set,h7]) (by simp[T.get_set])
theorem AcK_ {l:List ByteArray}{v:Value}{b:Nat}(hb:s.lim<=s.next)(hl:l.length<=300)(hr:NmR s v l b)(hp: ∀a∈l,HasP a p)(hP:Own s P 0 (.string p))(hn:10*l.length+300<=n)(q: ∀s1,s1.mem=s.mem->s1.next=s.next->Ext Any Non s s1->Q v s1):W (Ab envS (runF envS n) 49 [v, .func (.func 50) #[] #[.pointer (some ⟨P,0,none⟩)]]) s Q:=by
 have hb0:(s.cxN cxN).lim<=(s.cxN cxN).next:=hb
 refine Kq_ λtm h0 h1=> ?_
 refine SV_.u ?_
 simp only[UX,RR,SS]
 refine VD_.u ?_
 simp only[Zh,RR,SS,Nat.reduceEqDiff,reduceCtorEq, ↓reduceIte,h0,h1]
 refine ZK_ λtm2 g0 g1=> ?_
 refine AcV_.u ?_
 simp only[VX,RR,SS]
 refine Oq_.u ?_
 simp only[FE_,RR,SS,reduceCtorEq, ↓reduceIte,g0,MkS.lenq hr IN]
 refine Jm_ (P:=P) (s0:=(s.cxN cxN).cxN cxN) hb hl (MkS.same hr rfl rfl) hp (hP.same rfl rfl) rfl (λs1 m1 n1 x1=> ?_) l.length 0 _ _ _ _ (by omega) (by omega) rfl (Ext.refl _) rfl rfl (by simp[T.get_set,g0]) (by simp[T.get_set,g1]) (by simp[T.get_set]) (by simp[T.get_set])
 show W _ (s1.cxN cxN) _
 try simp only[SS]
 refine SD_.u ?_
 simp only[YJ,RR,SS, ↓reduceIte,A0,decide_true]
 refine aK Vj_ ?_
 refine PO_.u ?_
 simp only[Vo,RR,SS,reduceCtorEq, ↓reduceIte,h0]
 refine aC (rs:=[4]) (vs:=[v]) rfl (.inl Ot_) (by omega) Ds_ UB_ rfl (by simp[T.get_set]) ?_
 exact q _ m1 n1 ⟨x1.nxt,x1.lim,rfl,x1.mem,x1.rd,x1.wr⟩
end
def digL (k:Nat):List UInt8:=if k<10 then [UInt8.ofNat (48+k)]else [UInt8.ofNat (48+k/10),UInt8.ofNat (48+k%10)]
def preL:List UInt8:=[106,111,117,114,110,97,108,46]
def digJ (k:Nat):ByteArray:=⟨(digL k).toArray⟩
def preJ:ByteArray:=⟨preL.toArray⟩
def nmJ (k:Nat):ByteArray:=⟨(preL++digL k).toArray⟩
theorem BF {α:Type}{f g:Nat->α}{n:Nat}(h:(List.range n).map f=(List.range n).map g){k:Nat}(hk:k<n):f k=g k:=by
 have:=congrArg (λl=>l[k]?) h
 simp only[List.getElem?_map,List.getElem?_range hk,Option.map_some,Option.some.injEq]at this
 exact this
theorem Lv_:((List.range 40).map λk:Nat=>valR (callF envC 1000 39 [.int .i64 (k:Nat)] st0))=(List.range 40).map λk=>some (.string (digJ k)):=by kernel_rfl
theorem Tx_:((List.range 40).map λk:Nat=>(valR (callF envC 1000 61 [.string (digJ k)] st0)).map λv=>(v,plain v))=(List.range 40).map λk:Nat=>some (.tuple #[.int .i64 (k:Nat), .nilIface],true):=by kernel_rfl
theorem Rb_:((List.range 40).map λk:Nat=>valR (callF envC 1000 60 [.string (nmJ k), .string preJ] st0))=(List.range 40).map λk=>some (.string (digJ k)):=by kernel_rfl
theorem Lq_:((List.range 40).map λk:Nat=>valR (callF envC 1000 51 [.string (nmJ k), .string preJ] st0))=(List.range 40).map λ_=>some (.bool true):=by kernel_rfl
theorem TL_:((List.range 40).map λk:Nat=>valR (callF envC 1000 51 [.string (nmJ k), .string ⟨#[]⟩] st0))=(List.range 40).map λ_=>some (.bool true):=by kernel_rfl
theorem Yf_:((List.range 40).map λk:Nat=>valR (callF envC 1000 33 [.string (nmJ k)] st0))=(List.range 40).map λ_=>some (.bool true):=by kernel_rfl
theorem YN {k:Nat}(h:k<40):NmOk (nmJ k):=BF Yf_ h
theorem Xt_ {k:Nat}(h:k<40):HasP (nmJ k) preJ:=BF Lq_ h
theorem Ue_ {k:Nat}(h:k<40):HasP (nmJ k) ⟨#[]⟩:=BF TL_ h
theorem Qd_:envS.orc.get 39=some (pureM envC 1000 39):=by kernel_rfl
theorem PC_:envS.orc.get 61=some (pureM envC 1000 61):=by kernel_rfl
theorem Vd_:envS.orc.get 60=some (pureM envC 1000 60):=by kernel_rfl
theorem W.itoa {n k:Nat}{s:St}{Q:Value->St->Prop}(h:k<40)(q:Q (.string (digJ k)) s):W (Ab envS (runF envS n) 39 [.int .i64 (k:Nat)]) s Q:=
 W.orc Qd_ (W.pureM rfl (BF Lv_ h) rfl q)
theorem W.trim {n k:Nat}{s:St}{Q:Value->St->Prop}(h:k<40)(q:Q (.string (digJ k)) s):W (Ab envS (runF envS n) 60 [.string (nmJ k), .string preJ]) s Q:=
 W.orc Vd_ (W.pureM rfl (BF Rb_ h) rfl q)
theorem W.atoi {n k:Nat}{s:St}{Q:Value->St->Prop}(h:k<40)(q:Q (.tuple #[.int .i64 (k:Nat), .nilIface]) s):W (Ab envS (runF envS n) 61 [.string (digJ k)]) s Q:=by
 have e:=BF Tx_ h
 obtain⟨v,e1,e2⟩:=Option.map_eq_some_iff.1 e
 simp only[Prod.mk.injEq]at e2
 obtain⟨rfl,e3⟩:=e2
 exact W.orc PC_ (W.pureM rfl e1 e3 q)
theorem CF:slN envS 63=some 1:=by kernel_rfl
theorem XD:intK envS 113=some .u64:=by kernel_rfl
theorem Vw:JC_=[]:=by kernel_rfl
theorem Ug:YI_=[]:=by kernel_rfl
theorem Re (m:Nat)(mem:T Cell)(next lim:Nat)(rd wr:List Nat)(cx:Ctx):Ab envS (runF envS (m+30)) 79 [.int .u64 0] ⟨mem,next,lim,rd,wr,cx⟩= .some (.int .i64 0) ⟨mem,next,lim,rd,wr,cx⟩:=by kernel_rfl
theorem XL (m:Nat)(mem:T Cell)(next lim:Nat)(rd wr:List Nat)(cx:Ctx):Ab envS (runF envS (m+30)) 79 [.int .u64 1] ⟨mem,next,lim,rd,wr,cx⟩= .some (.int .i64 1) ⟨mem,next,lim,rd,wr,cx⟩:=by kernel_rfl
section
variable {n:Nat}{s:St}{Q:Value->St->Prop}
theorem W.len01 {k:Nat}(hk:k<=1)(hn:30<=n)(q:Q (.int .i64 (k:Nat)) s):W (Ab envS (runF envS n) 79 [.int .u64 (k:Nat)]) s Q:=by
 obtain⟨m,rfl⟩: ∃m,n=m+30:=⟨n-30,by omega⟩
 obtain⟨mem,next,lim,rd,wr,cx⟩:=s
 have h:k=0\/k=1:=by omega
 rcases h with rfl|rfl
 ·exact W.of (Re m mem next lim rd wr cx) q
 ·exact W.of (XL m mem next lim rd wr cx) q
theorem Qf_ {v:Value}{k:Nat}(hk:k<=1)(hn:20<=n)(q:Q (.tuple #[]) s):W (Ab envS (runF envS n) 90 [v, .int .i64 0, .int .i64 (k:Nat)]) s Q:=by
 refine W9 λtm t0 t1 t2=> ?_
 have e1:wrap64 ((0:Int)+1)=1:=by decide
 refine Ga_.u ?_
 simp only[L8,RR,SS,AO,t1,e1]
 refine OU.u ?_
 simp only[Ko,RR,SS,Nat.reduceEqDiff, ↓reduceIte,AC,t2]
 refine aH OS ?_
 refine aC (rs:=[]) (vs:=[]) rfl (.inr Vw) (by omega) Pw SZ rfl rfl ?_
 exact q
theorem Nw_ {v:Value}{k b:Nat}{l:List Value}(hk:k<=1)(hr:MkS s 1 k l v b)(hn:100<=n)(q:Q (.tuple #[]) s):W (Ab envS (runF envS n) 62 [v]) s Q:=by
 refine Ei_ λtm t0=> ?_
 refine T8.u ?_
 simp only[No,RR,SS,t0,MkS.lenq hr CF]
 refine Um.u ?_
 have ew:IntKind.u64.wrap ((k:Nat):Int)=((k:Nat):Int):=by rw[IntKind.wrap_u64];omega
 simp only[Nn,RR,SS,reduceCtorEq, ↓reduceIte,t0,DW Fy XD,ew]
 refine W.len01 hk (by omega) ?_
 refine AI_ λtmp p0 p1 p2 p3=> ?_
 refine Gi_.u ?_
 simp only[M7,RR,SS]
 refine HU_.u ?_
 simp only[PX,RR,SS]
 refine Ux.u ?_
 have es:wrap64 (((k:Nat):Int)-0)=((k:Nat):Int):=by rw[Bc (by omega) (by omega)];omega
 simp only[Lp,RR,SS,Nat.reduceEqDiff, ↓reduceIte,Bq,p1,p2,es]
 refine WJ.u ?_
 simp only[Oc,RR,SS, ↓reduceIte,BZ]
 refine aK Rk ?_
 refine QO.u ?_
 simp only[Lg,RR,SS,Nat.reduceEqDiff,reduceCtorEq, ↓reduceIte,p0,p1,p2]
 refine Qf_ hk (by omega) ?_
 refine aC (rs:=[]) (vs:=[]) rfl (.inl XT) (by omega) My ZU rfl rfl ?_
 refine aC (rs:=[]) (vs:=[]) rfl (.inr Ug) (by omega) LK QX rfl rfl ?_
 exact q
end
theorem Hr_:slN envS 41=some 1:=by kernel_rfl
theorem Gk_:elT envS 63=some (1,8,[.int .i64 0]):=by kernel_rfl
theorem AaN_:appT envS 63 63=some (1,8,false,[.int .i64 0]):=by kernel_rfl
theorem YL_ (n:Int):CK (λk=>some (k*1,1)) [(0, .int .i64 n)] (rep 1 [.int .i64 0])=some [.int .i64 n]:=rfl
theorem Lx_ (k:Nat)(s:St):Cl.get (aBin envS .eql 108 (.tmp k) (.const .nilIface)) .nilIface .nilIface s= .some (.bool true) s:=by kernel_rfl
theorem Ok_ (k:Nat){s:St}(Q:Value->St->Prop):W (Cl.get (aBin envS .eql 108 (.tmp k) (.const .nilIface)) .nilIface .nilIface) s Q=Q (.bool true) s:=AJ (Lx_ k s)
section
variable {n D M:Nat}{s:St}{col:Nat->Nat}{k:DkS}{Q:Value->St->Prop}
