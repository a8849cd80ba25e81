import Derived.Test.YtndednnianphoaaGreatDoorJf19
import Derived.Test.YtndednnianphoaaGreatDoorJf20
import Derived.Test.YtndednnianphoaaGreatDoorJf21
import Derived.Test.YtndednnianphoaaGreatDoorJf07
import Derived.Test.YtndednnianphoaaGreatDoorJf08
import Derived.Test.YtndednnianphoaaGreatDoorJf18
import Derived.Test.YtndednnianphoaaGreatDoorJf15
namespace Go.Proofs.YtndednnianphoaaGreatDoor.Am
open Go.RowKit
theorem MG:fldN envS 68 0=some (0,1,false):=by kernel_rfl
theorem S2:fldN envS 68 1=some (1,1,false):=by kernel_rfl
theorem LD:fldN envS 68 2=some (2,1,false):=by kernel_rfl
theorem N9:fldN envS 68 3=some (3,1,false):=by kernel_rfl
theorem VX:fldN envS 68 4=some (4,1,false):=by kernel_rfl
theorem MI:fldN envS 90 0=some (0,1,false):=by kernel_rfl
theorem Uj:fldN envS 90 1=some (1,1,false):=by kernel_rfl
theorem PX:ptrT envS 26=true:=by kernel_rfl
theorem Hi:hasT envS 3=true:=by kernel_rfl
structure JnS where
 file:ByteArray
 ses:Nat
 com:Nat
 gone:Bool
structure JnI (s:St)(J D:Nat)(j:JnS):Prop where
 o0:Own s J 0 (.pointer (some ⟨D,0,none⟩))
 o1:Own s J 1 (.string j.file)
 o2:Own s J 2 (.int .i64 (j.ses:Nat))
 o3:Own s J 3 (.int .i64 (j.com:Nat))
 o4:Own s J 4 (.bool j.gone)
theorem JnI.ext {F G:Nat→Prop}{s s':St}{J D:Nat}{j:JnS}(h:JnI s J D j)(x:Ext F G s s')(hG: ∀y,y<s.next→G y→y<J∨J+5≤y):JnI s' J D j:=by
 have c: ∀o,o<5→J+o<s.next→ ¬G (J+o):=fun o ho hn g=>by have:=hG _ hn g;omega
 exact⟨h.o0.ext x (c 0 (by decide) h.o0.1),h.o1.ext x (c 1 (by decide) h.o1.1),h.o2.ext x (c 2 (by decide) h.o2.1),h.o3.ext x (c 3 (by decide) h.o3.1),h.o4.ext x (c 4 (by decide) h.o4.1)⟩
theorem JnI.same {s s':St}{J D:Nat}{j:JnS}(h:JnI s J D j)(hm:s'.mem=s.mem)(hn:s'.next=s.next):JnI s' J D j:=
 ⟨h.o0.same hm hn,h.o1.same hm hn,h.o2.same hm hn,h.o3.same hm hn,h.o4.same hm hn⟩
theorem JnI.ext0 {F:Nat→Prop}{s s':St}{J D:Nat}{j:JnS}(h:JnI s J D j)(x:Ext F Non s s'):JnI s' J D j:=h.ext x fun _ _ g=>g.elim
section
variable {n D M J:Nat}{s:St}{k:DkS}{col:Nat→Nat}{j:JnS}{Q:Value→St→Prop}
theorem NF (hb:s.lim≤s.next)(h0:Own s J 0 (.pointer (some ⟨D,0,none⟩)))(hn:20≤n)(q: ∀s1,s1.mem=s.mem→s1.next=s.next→Ext Any Non s s1→Q (.bool false) s1):W (Ay envS (runF envS n) 30 [.pointer (some ⟨J,0,none⟩)]) s Q:=by
 refine HN_ fun tm h=> ?_
 refine PK_.w rfl (by omega) ?_
 simp only[V5,Aa,W_mv,Ab]
 refine KZ_.w TG_ (by omega) ?_
 simp only[Ci_,Ac,W_oS,W_on,Aa,W_mv,Ab,T.get_set,reduceIte,Ak,Ao,Aj,An,Al,Ai,reduceCtorEq, ↓reduceIte,h,C8 PX,Bg MG (by decide)]
 refine W.load1 Cs (h0.same (s':=s.cxN cxN) rfl rfl).at' ?_
 simp only[C8 FX_]
 refine W.end' (rs:=[2]) (vs:=[.bool false]) Te_ (.inl Jn_) (by omega) Ee_ AaU_ rfl (by simp[T.get_set]) ?_
 exact q _ rfl rfl ((Ext.refl (F:=Any) (G:=Non) (s.cxN cxN)).thenRd hb _).cx'
theorem Ze (hb:s.lim≤s.next)(hI:DkI s col D M k)(hJ:JnI s J D j)(hg:j.gone=false)(hn:200≤n)(q: ∀s1,Ext Any Non s s1→Q (.bool k.out) s1):W (Ay envS (runF envS n) 27 [.pointer (some ⟨J,0,none⟩)]) s Q:=by
 have hb0:(s.cxN cxN).lim≤(s.cxN cxN).next:=hb
 have hI0:DkI (s.cxN cxN) col D M k:=hI.same rfl rfl
 have hJ0:JnI (s.cxN cxN) J D j:=hJ.same rfl rfl
 refine PE_ fun tm t0=> ?_
 refine LC_.w rfl (by omega) ?_
 simp only[Hd_,Aa,W_mv,Ab]
 refine YB_.w AdP_ (by omega) ?_
 simp only[V4,Ac,W_oS,W_on,Aa,W_mv,Ab,T.get_set,Ag,Af,Ae,Ah,reduceIte,reduceCtorEq, ↓reduceIte,t0]
 refine NF hb0 hJ0.o0 (by omega) fun s1 m1 n1 x1=> ?_
 have hI1:=hI0.same m1 n1
 have hJ1:=hJ0.same m1 n1
 simp only[W_oS,W_on,Aa,reduceIte,Ak,As,Aj,An,Al,Ai, ↓reduceIte,CM,Bool.not_false,Bg VX (by decide)]
 refine W.load1 DH hJ1.o4.at' ?_
 have y2:=x1.thenRd hb0 (J+(0+4))
 have hI2:DkI (s1.rdN (J+(0+4))) col D M k:=hI1.same rfl rfl
 have hJ2:JnI (s1.rdN (J+(0+4))) J D j:=hJ1.same rfl rfl
 generalize s1.rdN (J+(0+4))=s2 at *
 rw[hg]
 simp only[W_oS,W_on,Aa,Ah,reduceIte,Ak,Ao,Aj,An,Al,Ai,reduceCtorEq, ↓reduceIte,Bg MG (by decide)]
 refine W.load1 Cs hJ2.o0.at' ?_
 have y3:=y2.thenRd hb0 (J+(0+0))
 have hI3:DkI (s2.rdN (J+(0+0))) col D M k:=hI2.same rfl rfl
 generalize s2.rdN (J+(0+0))=s3 at *
 try simp only[Ac,W_oS,W_on,Aa,W_mv,Ab,Ap,T.get_set,Ag,Af,Ar,Aq,Ae,Ah,reduceIte,Ak,As,Av,Aw,Ao,Aj,An,Au,Al,Ai,Nat.reduceEqDiff,reduceCtorEq, ↓reduceIte]
 refine AaZ_ (y3.bnd hb0) hI3 (by omega) fun s4 x4=> ?_
 have y4:=y3.on x4 hb0 fun _ _ h=>h
 simp only[CM,Bool.not_not]
 refine W.end' (rs:=[2]) (vs:=[.bool k.out]) IJ_ (.inl UJ_) (by omega) Dx_ IW_ y4.cx (by simp[T.get_set]) ?_
 exact q _ y4.cx'
theorem Su {r:Nat×Nat}(hbd:s.lim≤s.next)(hr:CO r)(hn:200≤n)(q: ∀s1 w nb,Ext Any Non s s1→MkG s1 w (recJ r) nb→s.next≤nb→Q w s1):W (Ay envS (runF envS n) 44 [.agg #[.int .i64 (r.1:Nat), .int .i64 (r.2:Nat)]]) s Q:=by
 obtain⟨r1,r2,r3⟩:=hr
 have hbd0:(s.cxN cxN).lim≤(s.cxN cxN).next:=hbd
 refine MG_ fun tm t0=> ?_
 refine XV_.w rfl (by omega) ?_
 simp only[BM_,Ac,W_oS,Aa,W_mv,Ab,t0]
 refine W.box fun s1 n1 x1 o1=> ?_
 have ea:(s.cxN cxN).next=s.next:=rfl
 rw[ea]at o1 n1 ⊢
 have y1:Ext Any Non (s.cxN cxN) s1:=x1.weak hbd0 (fun _ _ _=>trivial) fun _ _ h=>h
 have c0:Own s1 s.next 0 (.int .i64 (r.1:Nat)):=o1 0 _ rfl
 have c1:Own s1 s.next 1 (.int .i64 (r.2:Nat)):=o1 1 _ rfl
 try simp only[Ac,W_oS,W_on,Aa,W_mv,Ab,Ap,T.get_set,Ag,Af,Ar,Aq,Ae,Ah,reduceIte,Ak,As,Av,Aw,Ao,Aj,An,Au,Al,Ai,Nat.reduceEqDiff,reduceCtorEq, ↓reduceIte]
 refine QX_.w JC_ (by omega) ?_
 simp only[W5,Ac,W_oS,W_on,Aa,W_mv,Ab,T.get_set,Ag,Af,Ar,Aq,Ae,Ah,reduceIte,Nat.reduceEqDiff, ↓reduceIte,Bg MI (by decide)]
 refine W.load1 BN c0.at' ?_
 have y2:=y1.thenRd hbd0 (s.next+(0+0))
 have c1:Own (s1.rdN (s.next+(0+0))) s.next 1 (.int .i64 (r.2:Nat)):=c1.same rfl rfl
 generalize s1.rdN (s.next+(0+0))=s2 at *
 simp only[EP Hi HJ,wrap_u8,Bg Uj (by decide)]
 refine W.load1 BN c1.at' ?_
 have y3:=y2.thenRd hbd0 (s.next+(0+1))
 have c1:Own (s2.rdN (s.next+(0+1))) s.next 1 (.int .i64 (r.2:Nat)):=c1.same rfl rfl
 generalize s2.rdN (s.next+(0+1))=s3 at *
 simp only[GY_ (k:= .i64) (by decide),EP Hi HJ,wrap_u8]
 refine W.load1 BN c1.at' ?_
 have y4:=y3.thenRd hbd0 (s.next+(0+1))
 have c1:Own (s3.rdN (s.next+(0+1))) s.next 1 (.int .i64 (r.2:Nat)):=c1.same rfl rfl
 generalize s3.rdN (s.next+(0+1))=s4 at *
 simp only[Fq_ (k:= .i64) (by decide),EP Hi HJ,wrap_u8]
 refine W.load1 BN c1.at' ?_
 have y5:=y4.thenRd hbd0 (s.next+(0+1))
 have c1:Own (s4.rdN (s.next+(0+1))) s.next 1 (.int .i64 (r.2:Nat)):=c1.same rfl rfl
 generalize s4.rdN (s.next+(0+1))=s5 at *
 simp only[ZO (k:= .i64) (by decide),EP Hi HJ,wrap_u8]
 refine W.load1 BN c1.at' ?_
 have y6:=y5.thenRd hbd0 (s.next+(0+1))
 generalize s5.rdN (s.next+(0+1))=s6 at *
 simp only[EP Hi HJ,wrap_u8]
 have e0:r.1%256=r.1:=by omega
 have e1:r.2>>>24%256=0:=by rw[Nat.shiftRight_eq_div_pow];omega
 have e2:r.2>>>16%256=0:=by rw[Nat.shiftRight_eq_div_pow];omega
 have e3:r.2>>>8%256=0:=by rw[Nat.shiftRight_eq_div_pow];omega
 have e4:r.2%256=r.2:=by omega
 rw[e0,e1,e2,e3,e4]
 refine W.buildS (y6.bnd hbd0) (r:=u8l [r.1,0,0,0,r.2]) Px (by decide) rfl (Cp (by decide)) fun s7 n7 x7 o7=> ?_
 have y7:=y6.on x7 hbd0 fun _ _ h=>h
 have hB:Bs s7 (.slice (some ⟨s6.next,0,none⟩) 5 5) [r.1,0,0,0,r.2]:=Bc.bn o7 (Cp (by simp))
 have hby:Byt [r.1,0,0,0,r.2]:=fun x hx=>by
  simp only[List.mem_cons,List.not_mem_nil,or_false]at hx
  omega
 try simp only[Ac,W_oS,W_on,Aa,W_mv,Ab,Ap,T.get_set,Ag,Af,Ar,Aq,Ae,Ah,reduceIte,Ak,As,Av,Aw,Ao,Aj,An,Au,Al,Ai,Nat.reduceEqDiff,reduceCtorEq, ↓reduceIte]
 refine Zw (y7.bnd hbd0) (by omega) (hB.resolve_left fun h=>by cases h.2) hby (by simp) fun s8 w nb x8 mk hnb=> ?_
 have y8:=y7.on x8 hbd0 fun _ _ h=>h
 try simp only[Ac,W_oS,W_on,Aa,W_mv,Ab,Ap,T.get_set,Ag,Af,Ar,Aq,Ae,Ah,reduceIte,Ak,As,Av,Aw,Ao,Aj,An,Au,Al,Ai,Nat.reduceEqDiff,reduceCtorEq, ↓reduceIte]
 refine W.end' (rs:=[2]) (vs:=[w]) Iw_ (.inl WM_) (by omega) XC JM_ y8.cx (by simp[T.get_set]) ?_
 exact q _ w nb y8.cx' (MkG.same mk rfl rfl) (by have:=y7.nxt;have e:(s.cxN cxN).next=s.next:=rfl;omega)
end
theorem RO_ (a b:ByteArray):(a==b)=(a.data==b.data):=by
 cases a;cases b;rfl
theorem KD (a:ByteArray):(a==a)=true:=by
 rw[RO_];simp
theorem Xq_ {fs:List FileS}{j:Nat}{g:FileS}(hj:j<fs.length)(hg:g.name=fs[j].name):(fs.set j g).map FileS.name=fs.map FileS.name:=by
 rw[List.map_set,hg]
 have e:fs[j].name=(fs.map FileS.name)[j]'(by simpa using hj):=by simp
 rw[e,List.set_getElem_self]
theorem UU {fs:List FileS}{j:Nat}{g:FileS}{a:ByteArray}(hj:j<fs.length)(hg:g.name=fs[j].name):Bh (fs.set j g) a=Bh fs a:=by
 unfold Bh
 rw[Xq_ hj hg]
theorem WI {fs:List FileS}{g:FileS}{a:ByteArray}(h:Bh fs a=none)(hg:(a==g.name)=true):Bh (fs++[g]) a=some fs.length:=by
 unfold Bh at h ⊢
 rw[List.map_append,List.findIdx?_append,h]
 show([g.name].findIdx? fun b=>a==b).map (· +(fs.map FileS.name).length)=_
 rw[List.findIdx?_cons,hg,List.length_map]
 simp
structure Safe (f:FileS)(a:ByteArray)(l:List Nat):Prop where
 name:f.name=a
 sb:f.sb=l
 lb:f.lb=[]
theorem AaL_ {k:DkS}{a:ByteArray}{blk b:Nat}{v:Value}{l m:List Nat}{j:Nat}(h:Bh k.fs a=some j)(hj:j<k.fs.length)(hf:Safe k.fs[j] a m):
  Bh (A9 k a blk v b l) a=some j∧ ∃hj':j<(A9 k a blk v b l).length,∀v' b',Safe ((A9 k a blk v b l)[j].kept v' b' ((A9 k a blk v b l)[j].sb++(A9 k a blk v b l)[j].lb)) a (m++l)∧
   (A9 k a blk v b l).set j ((A9 k a blk v b l)[j].kept v' b' ((A9 k a blk v b l)[j].sb++(A9 k a blk v b l)[j].lb))=k.fs.set j ((A9 k a blk v b l)[j].kept v' b' ((A9 k a blk v b l)[j].sb++(A9 k a blk v b l)[j].lb)):=by
 have e:A9 k a blk v b l=k.fs.set j {k.fs[j]with lv:=v,lbk:=b,lb:=k.fs[j].lb++l}:=by
  unfold A9
  rw[h]
  simp only
  rw[List.getElem?_eq_getElem hj]
 refine⟨by rw[e,UU (g:={k.fs[j]with lv:=v,lbk:=b,lb:=k.fs[j].lb++l}) hj rfl];exact h,by rw[e,List.length_set];exact hj,fun v' b'=> ?_⟩
 have hg: ∀h',(A9 k a blk v b l)[j]'h'={k.fs[j]with lv:=v,lbk:=b,lb:=k.fs[j].lb++l}:=fun h'=>by
  simp only[e,List.getElem_set_self]
 rw[hg]
 refine⟨⟨hf.name, ?_,rfl⟩, ?_⟩
 ·show k.fs[j].sb++(k.fs[j].lb++l)=_
  rw[hf.sb,hf.lb]
  rfl
 ·rw[e,List.set_set]
theorem Aak_ {k:DkS}{a:ByteArray}{blk b:Nat}{v:Value}{l:List Nat}(h:Bh k.fs a=none)(ha:(a==a)=true):
  Bh (A9 k a blk v b l) a=some k.fs.length∧ ∃hj':k.fs.length<(A9 k a blk v b l).length,∀v' b',Safe ((A9 k a blk v b l)[k.fs.length].kept v' b' ((A9 k a blk v b l)[k.fs.length].sb++(A9 k a blk v b l)[k.fs.length].lb)) a l∧
   (A9 k a blk v b l).set k.fs.length ((A9 k a blk v b l)[k.fs.length].kept v' b' ((A9 k a blk v b l)[k.fs.length].sb++(A9 k a blk v b l)[k.fs.length].lb))=k.fs++[(A9 k a blk v b l)[k.fs.length].kept v' b' ((A9 k a blk v b l)[k.fs.length].sb++(A9 k a blk v b l)[k.fs.length].lb)]:=by
 have e:A9 k a blk v b l=k.fs++[⟨a,k.mx,blk, .slice none 0 0,0,[],v,b,l⟩]:=by
  unfold A9
  rw[h]
 refine⟨by rw[e];exact WI h ha,by rw[e];simp,fun v' b'=> ?_⟩
 have hg: ∀h',(A9 k a blk v b l)[k.fs.length]'h'=⟨a,k.mx,blk, .slice none 0 0,0,[],v,b,l⟩:=fun h'=>by
  simp only[e,List.getElem_concat_length]
 rw[hg]
 refine⟨⟨rfl, ?_,rfl⟩, ?_⟩
 ·show []++l=l
  rfl
 ·rw[e,List.set_append]
  simp
def Wp {α:Type}(m:M α)(s:St)(P:List PanicEntry→St→Prop):Prop:= ∃c s',m s= .pan c s'∧P c s'
section
variable {α β:Type}{s:St}{P:List PanicEntry→St→Prop}
theorem Wp.mono {m:M α}{P':List PanicEntry→St→Prop}(h:Wp m s P)(k: ∀c s',P c s'→P' c s'):Wp m s P':=let ⟨c,s',e,q⟩:=h;⟨c,s',e,k c s' q⟩
theorem Wp.bind1 {m:M α}{f:α→M β}(h:Wp m s P):Wp (M.bind m f) s P:=by
 obtain⟨c,s',e,q⟩:=h
 refine⟨c,s', ?_,q⟩
 unfold M.bind
 rw[e]
theorem Wp.bind {m:M α}{f:α→M β}(h:W m s fun a s1=>Wp (f a) s1 P):Wp (M.bind m f) s P:=by
 obtain⟨a,s1,e,c,s2,e2,q⟩:=h
 refine⟨c,s2, ?_,q⟩
 unfold M.bind
 rw[e]
 exact e2
theorem Wp.chk {b:Bool}{m:M α}(hb:b=true)(h:Wp m s P):Wp (M.chk b m) s P:=by subst hb;exact h
theorem Wp.on {x:Option α}{a:α}{f:α→M β}(e:x=some a)(h:Wp (f a) s P):Wp (M.on x f) s P:=by subst e;exact h
theorem Wp.panic {t:Nat}{x:Value}(q:P [{v:= .iface t x,recovered:=false}] s):Wp (LK (.iface t x)) s P:=⟨_,_,rfl,q⟩
theorem Wp.cast {m m':M α}(e:m s=m' s)(h:Wp m' s P):Wp m s P:=by
 obtain⟨c,s',e',q⟩:=h
 exact⟨c,s',e.trans e',q⟩
end
noncomputable def delDs (ds:List Nat)(tm:T Value):T Value:=List.rec (motive:=fun _=>T Value) tm (fun d _ t=>T.del t d) ds
theorem RegEq.p {E:Env}{n f nt g:Nat}{s:St}{tm:T Value}{T P:List Item}{ki:CallKind}{nice:Env→Ad→Ad→Am.T Value→M (Am.T Value)}{Q:Value×FrameMode→St→Prop}(q:RegEq f nt g P nice)(ht:skim 64 T=P)(hn:0<n)
  (h:Wp (nice E (Ay E (runF E (n-1))) (BR (runF E (n-1))) tm) s fun c s1=>W (runF E (n-1) ⟨f,nt,g,delDs (dsC (hdC P)) tm,P, .panicking c,ki,none⟩) s1 Q):W (runF E n ⟨f,nt,g,tm,T, .run,ki,none⟩) s Q:=by
 obtain⟨m,rfl⟩: ∃m,n=m+1:=⟨n-1,by omega⟩
 rw[Nat.add_sub_cancel]at h
 obtain⟨c,s1,e,hq⟩:=h
 have ht':=ht
 rw[q.hd]at ht'
 refine W.code ht' (W.cast (q.eq E _ _ _ _ _ _ _ _) ⟨.go ⟨f,nt,g,delDs (dsC (hdC P)) tm, .code (hdC P)::P.tail, .panicking c,ki,none⟩,s1, ?_, ?_⟩)
 ·unfold regF
  simp only[e]
  rfl
 ·rw[←q.hd]
  exact hq
section
variable {E:Env}{n f nt g:Nat}{s:St}{tm:T Value}{T P:List Item}{ki:CallKind}{R:List PanicEntry→St→Prop}
theorem Wp.run {fr:AF}(h:W (Ea E (Ay E (runF E n)) (BR (runF E n)) (Di E (runF E n)) fr) s fun p s1=>Wp (D4 (runF E n) p) s1 R):Wp (runF E (n+1) fr) s R:=Wp.bind h
theorem Wp.code {k:List Item}{c:Code}{todo:List Item}{ro:Option Nat}(ht:skim 64 todo= .code c::k)
  (h:W (codeF E (Ay E (runF E n)) (BR (runF E n)) ⟨f,nt,g,tm, .code c::k, .run,ki,ro⟩ k c) s fun p s1=>Wp (D4 (runF E n) p) s1 R):Wp (runF E (n+1) ⟨f,nt,g,tm,todo, .run,ki,ro⟩) s R:=by
 refine Wp.run ?_
 show W (noP (Fw E (Ay E (runF E n)) (BR (runF E n)) ⟨f,nt,g,tm,skim 64 todo, .run,ki,ro⟩ (skim 64 todo))) s _
 rw[ht]
 exact W.np h
theorem Wp.cond {t:Nat}{ro:Option Nat}{v:Bool}(ht:skim 64 T=P)(hx:A4 P=some t)(hv:Am.T.get tm t=some (.bool v))(hn:0<n)
  (h1:v=true→Wp (runF E (n-1) ⟨f,nt,g,tm,brT P, .run,ki,ro⟩) s R) (h2:v=false→Wp (runF E (n-1) ⟨f,nt,g,tm,brF P, .run,ki,ro⟩) s R):Wp (runF E n ⟨f,nt,g,tm,T, .run,ki,ro⟩) s R:=by
 obtain⟨m,rfl⟩: ∃m,n=m+1:=⟨n-1,by omega⟩
 rw[Nat.add_sub_cancel]at h1 h2
 unfold A4 at hx
 split at hx
 ·rename_i t' a b k
  cases hx
  refine Wp.code ht ?_
  show W (M.on (Am.T.get tm t) (Hh ⟨f,nt,g,tm, .code (.cond (.tmp t) a b)::k, .run,ki,ro⟩ a b k)) s _
  refine W.on hv ?_
  cases v with
  |true=>exact W.pure (h1 rfl)
  |false=>exact W.pure (h2 rfl)
 ·cases hx
theorem Wp.within {α:Type}{c:Ctx}{m:M α}(h:Wp m (s.cxN c) fun a s1=>R a (s1.cxN s.cx)):Wp (within c m) s R:=by
 obtain⟨a,s1,e,q⟩:=h
 obtain⟨mem,next,lim,rd,wr,cx⟩:=s
 obtain⟨mem1,next1,lim1,rd1,wr1,cx1⟩:=s1
 refine⟨a,_, ?_,q⟩
 have e':m ⟨mem,next,lim,rd,wr,c⟩= .pan a ⟨mem1,next1,lim1,rd1,wr1,cx1⟩:=e
 unfold Am.within
 simp only[e']
 rfl
theorem Wp.call {ih:AF→M (Value×FrameMode)}{fn:Func}{body:Code}{args:List Value}(ho:E.orc.get f=none)(hx:E.ext.get f=none)(hf:E.fn.get f=some fn)(hb:fn.body=some body)
  (hn:fn.ntmps=nt) (hg:A8 fn=g) (ha:args.length≤nt) (h:Wp (ih ⟨f,nt,g,CL g args 0 .E,[.code body], .run, .normal,none⟩) (s.cxN cxN) fun c s1=>R c (s1.cxN s.cx)):Wp (Ay E ih f args) s R:=by
 unfold Ay
 rw[ho,hx]
 refine Wp.within (Wp.bind1 (Wp.bind ?_))
 have e:B6 E f args .normal (s.cxN cxN)= .some ⟨f,nt,g,CL g args 0 .E,[.code body], .run, .normal,none⟩ (s.cxN cxN):=by
  unfold B6
  rw[hf]
  show M.on fn.body (fun c=>M.chk (Nat.ble args.length fn.ntmps) (Am.fN fn.ntmps fun n=>Am.fN (A8 fn) fun g=>M.pure (⟨f,n,g,CL g args 0 .E,[.code c], .run, .normal,none⟩:AF))) _=_
  rw[hb]
  show M.chk (Nat.ble args.length fn.ntmps) (Am.fN fn.ntmps fun n=>Am.fN (A8 fn) fun g=>M.pure (⟨f,n,g,CL g args 0 .E,[.code body], .run, .normal,none⟩:AF)) _=_
  rw[show Nat.ble args.length fn.ntmps=true from Nat.ble_eq_true_of_le (by rw[hn];exact ha),A6,A6,hn,hg]
  rfl
 exact⟨_,_,e,h⟩
theorem W.recover {Q:Value→St→Prop}{v:Value}{older:List PanicEntry}{d:List Deferred}(hcx:s.cx= .cx (some (.panicking ({v,recovered:=false,goexit:=false}::older))) (some d))(q:Q v (s.cxN (.cx (some (.panicking ({v,recovered:=true}::older))) (some d)))):W G7 s Q:=by
 obtain⟨mem,next,lim,rd,wr,cx⟩:=s
 have hcx':cx= .cx (some (.panicking ({v,recovered:=false,goexit:=false}::older))) (some d):=hcx
 subst hcx'
 exact⟨v,_,rfl,q⟩
end
section
variable {α β:Type}{s:St}
theorem Wp.draw {γ:Type}{m:M ((Rho×T Value)×List OpLog)}{bef:List Nat}{K:Rho×T Value→M γ}{R:List PanicEntry→St→Prop}(h:W (Ht m bef) s fun p s1=>Wp (K p) s1 R):Wp (M.bind (Ht m bef) K) s R:=Wp.bind h
theorem W.defer {f:Nat}{first cap:Array Value}{args:List Value}{up:Option FrameMode}{d:List Deferred}{Q:Value→St→Prop}(hcx:s.cx= .cx up (some d))(q:Q undef (s.cxN (.cx up (some ({target:= .fn (.func f) cap,args:=first++args.toArray}::d))))):W (GF (.func (.func f) first cap) args) s Q:=by
 obtain⟨mem,next,lim,rd,wr,cx⟩:=s
 have hcx':cx= .cx up (some d):=hcx
 subst hcx'
 exact⟨undef,_,rfl,q⟩
variable {E:Env}{n f nt g:Nat}{tm:T Value}{T P:List Item}{ki:CallKind}{R:List PanicEntry→St→Prop}
theorem Wp.left {c:List PanicEntry}{up:Option FrameMode}(hn:0<n)(hcx:s.cx= .cx up (some []))(hq:R c s):Wp (runF E n ⟨f,nt,g,tm,T, .panicking c,ki,none⟩) s R:=by
 obtain⟨m,rfl⟩: ∃m,n=m+1:=⟨n-1,by omega⟩
 refine⟨c,s, ?_,hq⟩
 obtain⟨mem,next,lim,rd,wr,cx⟩:=s
 have hcx':cx= .cx up (some []):=hcx
 subst hcx'
 rfl
theorem DrawEq.p {bef:List Nat}{nice:Env→Ad→Ad→Am.T Value→M ((Rho×Am.T Value)×List OpLog)}{Q:Value×FrameMode→St→Prop}(q:DrawEq f nt g P bef nice)(ht:skim 64 T=P)(hn:0<n)
  (h:W (nice E (Ay E (runF E (n-1))) (BR (runF E (n-1))) tm) (dSt s.mem s.next) fun p s1=>B2 s.next p.2.reverse bef=true∧
   Wp (Br (Ay E (runF E (n-1))) (BR (runF E (n-1))) (BY E g nt (hdC P)) p.1.1 p.1.2) ⟨s1.mem,s1.next,s.lim,rdsL s.lim p.2 s.rd,wrsL s.lim p.2 s.wr,s.cx⟩ fun c s1=>W (runF E (n-1) ⟨f,nt,g,delDs (dsC (hdC P)) tm,P, .panicking c,ki,none⟩) s1 Q):W (runF E n ⟨f,nt,g,tm,T, .run,ki,none⟩) s Q:=by
 obtain⟨m,rfl⟩: ∃m,n=m+1:=⟨n-1,by omega⟩
 rw[Nat.add_sub_cancel]at h
 have ht':=ht
 rw[q.hd]at ht'
 refine W.code ht' (W.cast (q.eq E _ _ _ _ _ _ _ _) (W.bind (W.draw ?_)))
 rw[q.bef]
 refine h.mono fun p s1 qq=>⟨qq.1, ?_⟩
 obtain⟨c,s2,e,hq⟩:=qq.2
 refine⟨.go ⟨f,nt,g,delDs (dsC (hdC P)) tm, .code (hdC P)::P.tail, .panicking c,ki,none⟩,s2, ?_, ?_⟩
 ·unfold endE
  simp only[e]
  rfl
 ·rw[←q.hd]
  exact hq
theorem W.outR {E:Env}{n f nt g:Nat}{tm:Am.T Value}{todo:List Item}{ki:CallKind}{fn:Func}{rs:List ResultVar}{up:Option FrameMode}{Q:Value×FrameMode→St→Prop}(hn:0<n)(hf:E.fn.get f=some fn)(hr:fn.results.toList=rs)(hc:s.cx= .cx up (some []))
  (q:W (resL E tm rs) s fun l s1=>Q (tupV l,up.getD .run) s1):W (runF E n ⟨f,nt,g,tm,todo, .returning,ki,none⟩) s Q:=by
 obtain⟨m,rfl⟩: ∃m,n=m+1:=⟨n-1,by omega⟩
 refine W.run ?_
 show W (C9 E (Di E (runF E m)) ⟨f,nt,g,tm,todo, .returning,ki,none⟩) s _
 refine W.bind (W.of (a:=s.cx) (s':=s) (by obtain⟨mem,next,lim,rd,wr,cx⟩:=s;rfl) ?_)
 rw[hc]
 show W (outF E ⟨f,nt,g,tm,todo, .returning,ki,none⟩ up) s _
 subst hr
 refine W.on hf (W.bind (W.bind ?_))
 exact W.mono q fun l s1 hq=>W.pure (W.pure (W.pure hq))
end
section
variable {α β:Type}{s:St}{R:List PanicEntry→St→Prop}
def Wx (m:M α)(s:St)(Q:α→St→Prop)(R:List PanicEntry→St→Prop):Prop:=W m s Q∨Wp m s R
theorem Wx.mono {m:M α}{Q Q':α→St→Prop}{R':List PanicEntry→St→Prop}(h:Wx m s Q R)(k: ∀a s',Q a s'→Q' a s')(k': ∀c s',R c s'→R' c s'):Wx m s Q' R':=h.elim (fun h=> .inl (h.mono k)) fun h=> .inr (h.mono k')
theorem Wx.cast {m m':M α}{Q:α→St→Prop}(e:m s=m' s)(h:Wx m' s Q R):Wx m s Q R:=h.elim (fun h=> .inl (h.cast e)) fun h=> .inr (h.cast e)
theorem Wx.panic {t:Nat}{x:Value}{Q:Value→St→Prop}(q:R [{v:= .iface t x,recovered:=false}] s):Wx (LK (.iface t x)) s Q R:= .inr (Wp.panic q)
variable {E:Env}{n f nt g:Nat}{tm:T Value}{T P:List Item}{ki:CallKind}{Q:Value×FrameMode→St→Prop}
theorem Wx.cond {t:Nat}{v:Bool}(ht:skim 64 T=P)(hx:A4 P=some t)(hv:Am.T.get tm t=some (.bool v))(hn:0<n)
  (h1:v=true→Wx (runF E (n-1) ⟨f,nt,g,tm,brT P, .run,ki,none⟩) s Q R) (h2:v=false→Wx (runF E (n-1) ⟨f,nt,g,tm,brF P, .run,ki,none⟩) s Q R):Wx (runF E n ⟨f,nt,g,tm,T, .run,ki,none⟩) s Q R:=by
 cases v with
 |true=>exact(h1 rfl).elim (fun h=> .inl (W.cond ht hx hv hn (fun _=>h) fun h=>by cases h)) fun h=> .inr (Wp.cond ht hx hv hn (fun _=>h) fun h=>by cases h)
 |false=>exact(h2 rfl).elim (fun h=> .inl (W.cond ht hx hv hn (fun h=>by cases h) fun _=>h)) fun h=> .inr (Wp.cond ht hx hv hn (fun h=>by cases h) fun _=>h)
theorem Wx.call {fn:Func}{body:Code}{args:List Value}{Q:Value→St→Prop}(ho:E.orc.get f=none)(hx:E.ext.get f=none)(hf:E.fn.get f=some fn)(hb:fn.body=some body)
  (hn:fn.ntmps=nt) (hg:A8 fn=g) (ha:args.length≤nt) {ih:AF→M (Value×FrameMode)} (h:Wx (ih ⟨f,nt,g,CL g args 0 .E,[.code body], .run, .normal,none⟩) (s.cxN cxN) (fun p s1=>Q p.1 (s1.cxN s.cx)) fun c s1=>R c (s1.cxN s.cx)):Wx (Ay E ih f args) s Q R:=
 h.elim (fun h=> .inl (W.call ho hx hf hb hn hg ha h)) fun h=> .inr (Wp.call ho hx hf hb hn hg ha h)
end
section
variable {α β:Type}{s:St}{E:Env}{t:Nat}{xo yo:Operand}{R:List PanicEntry→St→Prop}
theorem Wx.of {m:M α}{Q:α→St→Prop}(h:W m s Q):Wx m s Q R:= .inl h
theorem Dn {γ:Type}{a:Addr}{f:Value×OpLog→M γ}{mem:T Cell}{next:Nat}{Q:γ→St→Prop}:W (M.bind (apartO (kNil (.pointer (some a)))) f) (dSt mem next) Q=W (f (.pointer (some a),⟨next,next,[],[]⟩)) (dSt mem next) Q:=W_dq fun _ Q=>Ai a Q
theorem DV {γ:Type}{fd off sz b o:Nat}{g:Bool}(h:fldN E t fd=some (off,sz,g))(h0:0<sz){f:Value×OpLog→M γ}{mem:T Cell}{next:Nat}{Q:γ→St→Prop}:W (M.bind (apartO (kFld E t (.pointer (some ⟨b,o,none⟩)) fd)) f) (dSt mem next) Q=W (f (.pointer (some ⟨b,o+off,none⟩),⟨next,next,[],[]⟩)) (dSt mem next) Q:=W_dq fun _ Q=>Bg h h0 Q
theorem Ext.drawR (s:St)(l:List OpLog)(hw: ∀m∈l,m.wr=[]):Ext (fun _=>True) Non s ⟨s.mem,s.next,s.lim,rdsL s.lim l s.rd,wrsL s.lim l s.wr,s.cx⟩:=
 Ext.drawG (Nat.le_refl _) (fun _ _ _=>rfl) (fun m hm x hx _=>by rw[hw m hm]at hx;cases hx) fun _ _ _ _ _=>trivial
variable {n f nt g:Nat}{tm:T Value}{T P:List Item}{ki:CallKind}{Q:Value×FrameMode→St→Prop}
theorem DrawEq.wr {bef:List Nat}{nice:Env→Ad→Ad→Am.T Value→M ((Rho×Am.T Value)×List OpLog)}{ro:Option Nat}(q:DrawEq f nt g P bef nice)(ht:skim 64 T=P)(hn:0<n)
  (h:W (nice E (Ay E (runF E (n-1))) (BR (runF E (n-1))) tm) (dSt s.mem s.next) fun p s1=>s1=dSt s.mem s.next∧p.2.length≤bef.length∧(∀m∈p.2,m.wr=[]∧m.lo=m.hi)∧
   ∀s',s'.mem=s.mem→s'.next=s.next→Ext (fun _=>True) Non s s'→W (Br (Ay E (runF E (n-1))) (BR (runF E (n-1))) (BY E g nt (hdC P)) p.1.1 p.1.2) s' fun tm s1=>W (runF E (n-1) ⟨f,nt,g,tm,P.tail, .run,ki,ro⟩) s1 Q):W (runF E n ⟨f,nt,g,tm,T, .run,ki,ro⟩) s Q:=by
 refine q.w ht hn (h.mono fun p s1 hh=> ?_)
 obtain⟨rfl,h1,h2,h3⟩:=hh
 exact⟨Ed (by rw[List.length_reverse];exact h1) fun m hm=>h2 m (List.mem_reverse.1 hm),h3 _ rfl rfl (Ext.drawR s p.2 fun m hm=>(h2 m hm).1)⟩
end
section
variable {s:St}{E:Env}{t:Nat}{xo yo:Operand}
end
theorem Ft_ {fs:List FileS}{j d:Nat}{g:FileS}(hj:j<fs.length)(hg:g.sb.length+g.lb.length=fs[j].sb.length+fs[j].lb.length+d):((fs.set j g).map fun f=>f.sb.length+f.lb.length).sum=(fs.map fun f=>f.sb.length+f.lb.length).sum+d:=by
 induction fs generalizing j with
 |nil=>cases hj
 |cons f fs ih=>
  cases j with
  |zero=>
   show(g.sb.length+g.lb.length)+_=(f.sb.length+f.lb.length)+_+d
   have hg:g.sb.length+g.lb.length=f.sb.length+f.lb.length+d:=hg
   omega
  |succ j=>
   have:=ih (j:=j) (by simpa using hj) (by simpa using hg)
   rw[List.set_cons_succ,List.map_cons,List.map_cons,List.sum_cons,List.sum_cons,this]
   omega
theorem Rk_ (k:DkS)(a:ByteArray)(blk b:Nat)(v:Value)(l:List Nat):((A9 k a blk v b l).map fun f=>f.sb.length+f.lb.length).sum=k.used+l.length:=by
 unfold A9 DkS.used
 split
 ·rename_i j hj
  have h:=Fp hj
  rw[List.getElem?_eq_getElem h]
  exact Ft_ h (by show k.fs[j].sb.length+(k.fs[j].lb++l).length=k.fs[j].sb.length+k.fs[j].lb.length+l.length;rw[List.length_append];omega)
 ·rw[List.map_append,List.sum_append]
  simp
theorem VO_ (k:DkS)(a:ByteArray)(blk b:Nat)(v:Value)(l:List Nat):(A9 k a blk v b l).length≤k.fs.length+1:=by
 unfold A9
 split
 ·split<;>simp
 ·simp
def VZ (k:DkS)(a:ByteArray)(l:List Nat)(fs:List FileS):Prop:=
 (∀i m (hi:i<k.fs.length),Bh k.fs a=some i→Safe k.fs[i] a m→ ∃g,Safe g a (m++l)∧fs=k.fs.set i g)∧(Bh k.fs a=none→ ∃g,Safe g a l∧fs=k.fs++[g])
section
variable {n D M J:Nat}{s:St}{k:DkS}{col:Nat→Nat}{j:JnS}{bv:Value}{l:List Nat}{Q:Value→St→Prop}
def Qa (k:DkS)(a:ByteArray)(l:List Nat)(fs:List FileS):Prop:=
 (∀i m (hi:i<k.fs.length),Bh k.fs a=some i→Safe k.fs[i] a m→ ∃g:FileS,g.name=a∧g.sb=m∧g.lb=l∧fs=k.fs.set i g)∧(Bh k.fs a=none→ ∃g:FileS,g.name=a∧g.sb=[]∧g.lb=l∧fs=k.fs++[g])
theorem RR_ {k:DkS}{a:ByteArray}{blk b:Nat}{v:Value}{l:List Nat}:Qa k a l (A9 k a blk v b l):=by
 refine⟨fun i m hi hl hs=>⟨{k.fs[i]with lv:=v,lbk:=b,lb:=k.fs[i].lb++l},hs.name,hs.sb, ?_, ?_⟩,fun hl=>⟨⟨a,k.mx,blk, .slice none 0 0,0,[],v,b,l⟩,rfl,rfl,rfl, ?_⟩⟩
 ·show k.fs[i].lb++l=l
  rw[hs.lb]
  rfl
 ·unfold A9
  rw[hl]
  simp only
  rw[List.getElem?_eq_getElem hi]
 ·unfold A9
  rw[hl]
theorem Cw_ (hb:s.lim≤s.next)(hI:DkI s col D M k)(hJ:JnI s J D j)(hlen:k.fs.length≤290)(ha:NmOk j.file)(hB:Bs s bv l)(hBc: ∀x,BsF bv x→x<s.next∧1000≤col x)(hJc: ∀x,J≤x→x<J+5→1000≤col x)
  (hz:k.used+l.length≤900000) (hroom:((k.used+l.length:Nat):Int)≤k.room) (ho:k.out=false) (hn:900≤n)
  (qf:k.fused=true→ ∀s1 col' fs' mx' st' le',After s s1 col col' D M ⟨fs',mx',k.room,st',true,le',true⟩→(fs'=k.fs∨Qa k j.file l fs')→fs'.length≤k.fs.length+1→(fs'.map fun f=>f.sb.length+f.lb.length).sum≤k.used+l.length→Q (.int .i64 10) s1)
  (q: ∀s1 col' fs' mx' st' le',After s s1 col col' D M ⟨fs',mx',k.room,st',k.fused,le',false⟩→VZ k j.file l fs'→fs'.length≤k.fs.length+1→(fs'.map fun f=>f.sb.length+f.lb.length).sum=k.used+l.length→Q (.int .i64 0) s1):
  W (Ay envS (runF envS n) 42 [.pointer (some ⟨J,0,none⟩),bv]) s Q:=by
 have hb0:(s.cxN cxN).lim≤(s.cxN cxN).next:=hb
 refine OG_ fun tm t0 t1=> ?_
 refine Afo_.w rfl (by omega) ?_
 simp only[AJ_,Aa,W_mv,Ab]
 refine Oh_.w Le_ (by omega) ?_
 simp only[V1,T.get_set,Nat.reduceEqDiff, ↓reduceIte,t0,t1,AY,B9,Dn,DV MG (by decide)]
 refine W.dload Cs (hJ.o0.same (s':=dSt s.mem s.next) rfl rfl).at' fun rd1 hr1=> ?_
 simp only[B9,Dn,DV S2 (by decide)]
 refine W.dload CN (hJ.o1.same (s':=dSt s.mem s.next) rfl rfl).at' fun rd2 hr2=> ?_
 simp only[B9,Ag,Af,Ae,D7,Fa]
 refine W.dopG ?_
 have hIo:DkI (oSt s.mem s.next) col D M k:=hI.same rfl rfl
 refine Xv_ (s:=oSt s.mem s.next) (Nat.le_refl _) hIo (by omega) ha (hB.same rfl rfl) hBc (by omega) (by omega) (fun h=> ?_) (fun _ h=> ?_) (fun _ _ h s1 col1 hA=> ?_) fun _ _ _ s1 col1 blk v b hA=> ?_
 ·rw[ho]at h;cases h
 ·omega
 ·refine⟨_,_,hA.ext,fun rd3 wr3 hr3 hw3=> ?_⟩
  rw[Aa]
  refine⟨D9 ?_, ?_⟩
  ·simp only[List.reverse_cons,List.reverse_nil,List.nil_append,List.cons_append,allP,CJ,List.take,DA]
   have lts: ∀x,s.next≤x→ ¬x<s.next:=fun x h=>by omega
   simp+contextual [lts]
   repeat' first
    |exact .inl rfl
    |apply And.intro
  refine W.cast (XY ..) ?_
  simp only[Ac,W_oS,Aa,Ap]
  generalize hsF:(⟨(dSt s1.mem s1.next).mem,(dSt s1.mem s1.next).next,_,_,_,_⟩:St)=sF
  have mF:sF.mem=s1.mem:=by rw[←hsF];rfl
  have nF:sF.next=s1.next:=by rw[←hsF];rfl
  have nn:s.next≤s1.next:=hA.ext.nxt
  have xF:Ext Any (fun x=>col x<1000) (s.cxN cxN) sF:=by
   rw[←hsF]
   refine Ext.drawG (s:=s.cxN cxN) nn (fun x hx hg=>hA.ext.mem x hx hg) ?_ fun _ _ _ _ _=>trivial
   simp only[List.mem_cons,List.not_mem_nil,or_false]
   rintro m (rfl|rfl|rfl|rfl|rfl|rfl|rfl|rfl|rfl|rfl) x hx hl<;>first|(cases hx;done)|exact(hw3 x hx).2
  refine Dy_.w FL_ (by omega) ?_
  simp only[RU,Ac,W_oS,Aa,W_mv,Ab,T.get_set,reduceIte, ↓reduceIte,Bt]
  refine W.cond (v:=true) CX_ X2 (by simp[T.get_set]) (by omega) (fun _=> ?_) fun h=>by cases h
  refine Agz_.w AfS_ (by omega) ?_
  simp only[Ej_,Aa,W_mv,Ab,T.get_set,reduceIte,Nat.reduceEqDiff, ↓reduceIte]
  refine W.end' (rs:=[4]) (vs:=[.int .i64 10]) Jf_ (.inl Abg_) (by omega) Lq QQ xF.cx (by simp[T.get_set]) ?_
  have hfu:=h.1
  have e1:(⟨k.fs,k.mx,k.room,k.steps,true,k.left,true⟩:DkS)={k with out:=true}:=by rw[←hfu]
  refine qf hfu _ col1 k.fs k.mx k.steps k.left ⟨?_,hA.agree,xF.cx'⟩ (.inl rfl) (by omega) (by show k.used≤_;omega)
  rw[e1]
  exact hA.inv.same (s':=sF.cxN s.cx) mF nF
 refine⟨_,_,hA.ext,fun rd3 wr3 hr3 hw3=> ?_⟩
 rw[Aa]
 refine⟨D9 ?_, ?_⟩
 ·simp only[List.reverse_cons,List.reverse_nil,List.nil_append,List.cons_append,allP,CJ,List.take,DA]
  have lts: ∀x,s.next≤x→ ¬x<s.next:=fun x h=>by omega
  simp+contextual [lts]
  repeat' first
   |exact .inl rfl
   |apply And.intro
 refine W.cast (XY ..) ?_
 simp only[Ac,W_oS,Aa,Ap]
 generalize hsF:(⟨(dSt s1.mem s1.next).mem,(dSt s1.mem s1.next).next,_,_,_,_⟩:St)=sF
 have mF:sF.mem=s1.mem:=by rw[←hsF];rfl
 have nF:sF.next=s1.next:=by rw[←hsF];rfl
 have nn:s.next≤s1.next:=hA.ext.nxt
 have xF:Ext Any (fun x=>col x<1000) (s.cxN cxN) sF:=by
  rw[←hsF]
  refine Ext.drawG (s:=s.cxN cxN) nn (fun x hx hg=>hA.ext.mem x hx hg) ?_ fun _ _ _ _ _=>trivial
  simp only[List.mem_cons,List.not_mem_nil,or_false]
  rintro m (rfl|rfl|rfl|rfl|rfl|rfl|rfl|rfl|rfl|rfl) x hx hl<;>first|(cases hx;done)|exact(hw3 x hx).2
 have hIF:DkI sF col1 D M _:=hA.inv.same mF nF
 have hJF:JnI sF J D j:=(hJ.same (s':=s.cxN cxN) rfl rfl).ext xF fun y hy hg=>by
  rcases Nat.lt_or_ge y J with h|h
  ·exact .inl h
  ·rcases Nat.lt_or_ge y (J+5)with h2|h2
   ·have:=hJc y h h2
    omega
   ·exact .inr h2
 have hbF:sF.lim≤sF.next:=xF.bnd hb0
 refine Dy_.w FL_ (by omega) ?_
 simp only[RU,Ac,W_oS,Aa,W_mv,Ab,T.get_set,reduceIte, ↓reduceIte,Bt]
 refine W.cond (v:=false) CX_ X2 (by simp[T.get_set]) (by omega) (fun h=>by cases h) fun _=> ?_
 refine Ni_.w Vr_ (by omega) ?_
 simp only[FD_,T.get_set,Nat.reduceEqDiff, ↓reduceIte,t0,AY,B9,Dn,DV MG (by decide)]
 refine W.dload Cs (hJF.o0.same (s':=dSt sF.mem sF.next) rfl rfl).at' fun rd4 hr4=> ?_
 simp only[B9,Dn,DV S2 (by decide)]
 refine W.dload CN (hJF.o1.same (s':=dSt sF.mem sF.next) rfl rfl).at' fun rd5 hr5=> ?_
 simp only[Ag,Af,Ae,D7,Fa]
 refine W.dopG ?_
 have hlF:=VO_ k j.file blk b v l
 have huF:=Rk_ k j.file blk b v l
 refine WK_ (s:=oSt sF.mem sF.next) (Nat.le_refl _) (hIF.same rfl rfl) (by show(A9 k j.file blk v b l).length≤300;omega) (by show((A9 k j.file blk v b l).map fun f=>f.sb.length+f.lb.length).sum≤4000000;omega) (by omega) (fun h=> ?_) (fun _ h=> ?_) (fun _ i hi h s2 col2 hA2=> ?_) fun _ i hi hil _ s2 col2 v2 b2 hA2=> ?_
 ·exact absurd (show k.out=true from h) (by rw[ho];decide)
 ·exfalso
  cases hl:Bh k.fs j.file with
  |none=>
   have e:A9 k j.file blk v b l=k.fs++[⟨j.file,k.mx,blk, .slice none 0 0,0,[],v,b,l⟩]:=by unfold A9;rw[hl]
   have:=WI (g:=⟨j.file,k.mx,blk, .slice none 0 0,0,[],v,b,l⟩) hl (KD _)
   rw[←e]at this
   rw[show Bh (A9 k j.file blk v b l) j.file=none from h]at this
   cases this
  |some i=>
   have hi:=Fp hl
   have e:A9 k j.file blk v b l=k.fs.set i {k.fs[i]with lv:=v,lbk:=b,lb:=k.fs[i].lb++l}:=by
    unfold A9
    rw[hl]
    simp only
    rw[List.getElem?_eq_getElem hi]
   have:=UU (g:={k.fs[i]with lv:=v,lbk:=b,lb:=k.fs[i].lb++l}) (a:=j.file) hi rfl
   rw[←e,show Bh (A9 k j.file blk v b l) j.file=none from h,hl]at this
   cases this
 ·refine⟨_,_,hA2.ext,fun rd6 wr6 hr6 hw6=> ?_⟩
  rw[Aa]
  refine⟨D9 ?_, ?_⟩
  ·simp only[List.reverse_cons,List.reverse_nil,List.nil_append,List.cons_append,allP,CJ,List.take,DA]
   have lts: ∀x,sF.next≤x→ ¬x<sF.next:=fun x h=>by omega
   simp+contextual [lts]
   repeat' first
    |exact .inl rfl
    |apply And.intro
  refine W.cast (Vo ..) ?_
  simp only[Ac,W_oS,Aa,Ap]
  generalize hsG:(⟨(dSt s2.mem s2.next).mem,(dSt s2.mem s2.next).next,_,_,_,_⟩:St)=sG
  have mG:sG.mem=s2.mem:=by rw[←hsG];rfl
  have nG:sG.next=s2.next:=by rw[←hsG];rfl
  have nn2:sF.next≤s2.next:=hA2.ext.nxt
  have xG:Ext Any (fun x=>col1 x<1000) sF sG:=by
   rw[←hsG]
   refine Ext.drawG (s:=sF) nn2 (fun x hx hg=>hA2.ext.mem x hx hg) ?_ fun _ _ _ _ _=>trivial
   simp only[List.mem_cons,List.not_mem_nil,or_false]
   rintro m (rfl|rfl|rfl|rfl|rfl|rfl|rfl|rfl|rfl) x hx hl<;>first|(cases hx;done)|exact(hw6 x hx).2
  have yG:Ext Any (fun x=>col x<1000) (s.cxN cxN) sG:=xF.on xG hb0 fun x hx hg=>by rw[←hA.agree x hx];exact hg
  refine W.end' (rs:=[4]) (vs:=[.int .i64 10]) AQ_ (.inl ZU) (by omega) Lq QQ yG.cx (by simp[T.get_set]) ?_
  have hfu:k.fused=true:=h.1
  refine qf hfu _ col2 (A9 k j.file blk v b l) (Ej k j.file) (wrap64 (k.steps+1)) (if k.fused then wrap64 (k.left-1)else k.left) ⟨?_,fun x hx=> ?_,yG.cx'⟩ (.inr RR_) hlF (Nat.le_of_eq huF)
  ·have h2:=hA2.inv.same (s':=sG.cxN s.cx) mG nG
   rw[hfu]at h2 ⊢
   exact h2
  ·rw[hA2.agree x (by show x<sF.next;have e:(s.cxN cxN).next=s.next:=rfl;omega),hA.agree x hx]
 refine⟨_,_,hA2.ext,fun rd6 wr6 hr6 hw6=> ?_⟩
 rw[Aa]
 refine⟨D9 ?_, ?_⟩
 ·simp only[List.reverse_cons,List.reverse_nil,List.nil_append,List.cons_append,allP,CJ,List.take,DA]
  have lts: ∀x,sF.next≤x→ ¬x<sF.next:=fun x h=>by omega
  simp+contextual [lts]
  repeat' first
   |exact .inl rfl
   |apply And.intro
 refine W.cast (Vo ..) ?_
 simp only[Ac,W_oS,Aa,Ap]
 generalize hsG:(⟨(dSt s2.mem s2.next).mem,(dSt s2.mem s2.next).next,_,_,_,_⟩:St)=sG
 have mG:sG.mem=s2.mem:=by rw[←hsG];rfl
 have nG:sG.next=s2.next:=by rw[←hsG];rfl
 have nn2:sF.next≤s2.next:=hA2.ext.nxt
 have xG:Ext Any (fun x=>col1 x<1000) sF sG:=by
  rw[←hsG]
  refine Ext.drawG (s:=sF) nn2 (fun x hx hg=>hA2.ext.mem x hx hg) ?_ fun _ _ _ _ _=>trivial
  simp only[List.mem_cons,List.not_mem_nil,or_false]
  rintro m (rfl|rfl|rfl|rfl|rfl|rfl|rfl|rfl|rfl) x hx hl<;>first|(cases hx;done)|exact(hw6 x hx).2
 have yG:Ext Any (fun x=>col x<1000) (s.cxN cxN) sG:=xF.on xG hb0 fun x hx hg=>by rw[←hA.agree x hx];exact hg
 refine W.end' (rs:=[4]) (vs:=[.int .i64 0]) AQ_ (.inl ZU) (by omega) Lq QQ yG.cx (by simp[T.get_set]) ?_
 refine q _ col2 ((A9 k j.file blk v b l).set i (((A9 k j.file blk v b l)[i]'hil).kept v2 b2 (((A9 k j.file blk v b l)[i]'hil).sb++((A9 k j.file blk v b l)[i]'hil).lb))) (Ej k j.file) (wrap64 (wrap64 (k.steps+1)+1)) _ ⟨by have h:=hA2.inv.same (s':=sG.cxN s.cx) mG nG;simp only[ho]at h;exact h,fun x hx=> ?_,yG.cx'⟩ ⟨fun i' m hi' hl hs=> ?_,fun hl=> ?_⟩ (by rw[List.length_set];exact hlF) ?_
 ·rw[hA2.agree x (by show x<sF.next;have e:(s.cxN cxN).next=s.next:=rfl;omega),hA.agree x hx]
 ·obtain⟨h1,hj',h2⟩:=AaL_ (blk:=blk) (b:=b) (v:=v) (l:=l) hl hi' hs
  rw[show Bh (A9 k j.file blk v b l) j.file=some i from hi]at h1
  cases h1
  obtain⟨h3,h4⟩:=h2 v2 b2
  exact⟨_,h3,h4⟩
 ·obtain⟨h1,hj',h2⟩:=Aak_ (blk:=blk) (b:=b) (v:=v) (l:=l) hl (KD _)
  rw[show Bh (A9 k j.file blk v b l) j.file=some i from hi]at h1
  cases h1
  obtain⟨h3,h4⟩:=h2 v2 b2
  exact⟨_,h3,h4⟩
 ·rw[Ft_ (d:=0) hil (by show(_++_:List Nat).length+0=_;rw[List.length_append]),huF]
  rfl
end
theorem ME (x y:Int):F4 envS 90 [(0, .int .i64 x),(1, .int .i64 y)]=some [.int .i64 x, .int .i64 y]:=by kernel_rfl
structure JrI (s:St)(col:Nat→Nat)(D M J:Nat)(fl:ByteArray)(R:List (Nat×Nat))(a b:Nat)(u:Bool)(k:DkS)(g:FileS):Prop where
 dk:DkI s col D M k
 fs:k.fs=[g]
 room:k.room=1048576
 fu:k.fused=u
 ou:k.out=false
 safe:Safe g fl (A7 R)
 jn:JnI s J D ⟨fl,a,b,false⟩
 jc: ∀x,J≤x→x<J+5→1000≤col x
def JrA (s:St)(col:Nat→Nat)(D M J:Nat)(fl:ByteArray)(R:List (Nat×Nat))(a b:Nat)(u:Bool):Prop:= ∃k g,JrI s col D M J fl R a b u k g
structure JrB (s:St)(col:Nat→Nat)(D M J:Nat)(fl:ByteArray)(R:List (Nat×Nat))(r:Nat×Nat)(a b:Nat)(k:DkS)(g:FileS):Prop where
 dk:DkI s col D M k
 fs:k.fs=[g]
 room:k.room=1048576
 ou:k.out=true
 nm:g.name=fl
 sb:g.sb=A7 R
 lb:g.lb=[]∨g.lb=recJ r
 jn:JnI s J D ⟨fl,a,b,true⟩
 jc: ∀x,J≤x→x<J+5→1000≤col x
theorem Pp {k:DkS}{g:FileS}{fl:ByteArray}{m:List Nat}(h:k.fs=[g])(hs:Safe g fl m):k.used=m.length:=by
 unfold DkS.used
 rw[h]
 show(g.sb.length+g.lb.length)+0=_
 rw[hs.sb,hs.lb]
 simp
theorem QO {k:DkS}{g:FileS}{fl:ByteArray}{m:List Nat}(h:k.fs=[g])(hs:Safe g fl m):Bh k.fs fl=some 0:=by
 unfold Bh
 rw[h]
 show([g.name].findIdx? fun b=>fl==b)=some 0
 rw[hs.name,List.findIdx?_cons,KD]
 rfl
theorem MkG.ltB {s:St}{v:Value}{l:List Nat}{b:Nat}(h:MkG s v l b): ∀x,BsF v x→b≤x∧x<s.next:=fun x hx=>by
 rw[h.val]at hx
 have h1:b+0≤x:=hx.1
 have h2:x<b+0+l.length:=hx.2
 have:=h.lt
 exact⟨by omega,by omega⟩
section
variable {n D M J:Nat}{s:St}{col:Nat→Nat}{fl:ByteArray}{R:List (Nat×Nat)}{a b:Nat}{u:Bool}{Q:Value→St→Prop}
theorem Vz {o m kd:Nat}(hb:s.lim≤s.next)(h:JrA s col D M J fl R a b u)(hnm:NmOk fl)(ho:(o=2∧m=a∧kd=1)∨(o=3∧m=b∧kd=2))(hm2:m+1<256)(hR:R.length≤300)(hn:2000≤n)
  (qf:u=true→ ∀s1 col' k' g',(∀x,x<s.next→col' x=col x)→Ext Any (fun x=>col x<1000∨x=J+4) s s1→JrB s1 col' D M J fl R (kd,m+1) a b k' g'→Q (.tuple #[.int .i64 0, .int .i64 10]) s1)
  (q: ∀s1 col',(∀x,x<s.next→col' x=col x)→Ext Any (fun x=>col x<1000∨x=J+o) s s1→JrA s1 col' D M J fl (R++[(kd,m+1)]) (if kd=1 then m+1 else a) (if kd=1 then b else m+1) u→Q (.tuple #[.int .i64 (m+1:Nat), .int .i64 0]) s1):
  W (Ay envS (runF envS n) 31 [.pointer (some ⟨J,0,none⟩), .int .i64 (kd:Nat), .pointer (some ⟨J,o,none⟩)]) s Q:=by
 obtain⟨k,g,hI⟩:=h
 have hb0:(s.cxN cxN).lim≤(s.cxN cxN).next:=hb
 have ea:(s.cxN cxN).next=s.next:=rfl
 have hlen1:k.fs.length≤290:=by rw[hI.fs];show 1≤290;decide
 have hm: ∀{s':St},JnI s' J D ⟨fl,a,b,false⟩→Own s' J o (.int .i64 (m:Nat)):=fun hj=>by
  rcases ho with⟨rfl,rfl,_⟩|⟨rfl,rfl,_⟩
  ·exact hj.o2
  ·exact hj.o3
 have ho2:2≤o∧o≤3:=by omega
 have hrk:CO (kd,m+1):=⟨by show 1≤kd;omega,by show kd≤2;omega,hm2⟩
 refine Afj_ fun tm t0 t1 t2=> ?_
 refine Afm_.w rfl (by omega) ?_
 simp only[W7,Aa,W_mv,Ab]
 refine KO_.w OT_ (by omega) ?_
 simp only[Ds_,Ac,W_on,Aa,W_mv,Ab,T.get_set,Ag,Af,Ae,Ah,reduceIte,reduceCtorEq, ↓reduceIte,t0]
 have hD0:DkI (s.cxN cxN) (Bq col s.next 1000) D M k:=(hI.dk.col fun x hx=>BH hx).same rfl rfl
 have hJ0:JnI (s.cxN cxN) J D ⟨fl,a,b,false⟩:=hI.jn.same rfl rfl
 refine Ze hb0 hD0 hJ0 rfl (by omega) fun s1 x1=> ?_
 try simp only[Ac,W_oS,W_on,Aa,W_mv,Ab,Ap,T.get_set,Ag,Af,Ar,Aq,Ae,Ah,reduceIte,Ak,As,Av,Aw,Ao,Aj,An,Au,Al,Ai,Nat.reduceEqDiff,reduceCtorEq, ↓reduceIte]
 have hD1:=hD0.ext0 x1 (by omega)
 have hJ1:=hJ0.ext0 x1
 refine W.cond (v:=false) Jd_ Wp_ (by simp[T.get_set,hI.ou]) (by omega) (fun h=>by cases h) fun _=> ?_
 refine Iy_.w AcT_ (by omega) ?_
 simp only[Xz,Ac,W_oS,Aa,W_mv,Ab,T.get_set,reduceIte,Ai,Nat.reduceEqDiff, ↓reduceIte,t2]
 refine W.load1 BN (hm hJ1).at' ?_
 have y2:=x1.thenRd hb0 (J+o)
 have hD2:DkI (s1.rdN (J+o)) (Bq col s.next 1000) D M k:=hD1.same rfl rfl
 have hJ2:JnI (s1.rdN (J+o)) J D ⟨fl,a,b,false⟩:=hJ1.same rfl rfl
 generalize s1.rdN (J+o)=s2 at *
 simp only[BW]
 refine W.cond (v:=false) RZ_ AcI_ (by simp[T.get_set];omega) (by omega) (fun h=>by cases h) fun _=> ?_
 refine Aei_.w Pd_ (by omega) ?_
 simp only[UT,Ac,W_oS,W_on,Aa,W_mv,Ab,T.get_set,Ag,Af,Ar,Aq,Ae,Ah,reduceIte,Ai,Nat.reduceEqDiff,reduceCtorEq, ↓reduceIte,t0,t1,t2]
 refine W.load1 BN (hm hJ2).at' ?_
 have y3:=y2.thenRd hb0 (J+o)
 have hD3:DkI (s2.rdN (J+o)) (Bq col s.next 1000) D M k:=hD2.same rfl rfl
 have hJ3:JnI (s2.rdN (J+o)) J D ⟨fl,a,b,false⟩:=hJ2.same rfl rfl
 generalize s2.rdN (J+o)=s3 at *
 have ei:wrap64 (((m:Nat):Int)+1)=((m+1:Nat):Int):=by
  rw[BZ (by omega) (by omega)];simp
 simp only[BB,ei,Ff (ME _ _)]
 refine Su (r:=(kd,m+1)) (y3.bnd hb0) hrk (by omega) fun s4 w nb x4 mk hnb=> ?_
 have y4:=y3.on x4 hb0 fun _ _ h=>h
 have hD4:=hD3.ext0 x4 (by omega)
 have hJ4:JnI s4 J D ⟨fl,a,b,false⟩:=hJ3.ext0 x4
 have n04:s.next≤s4.next:=y4.nxt
 have hused:=Pp hI.fs hI.safe
 have hrl:(A7 R).length=9*R.length:=IE R
 have hrc:(recJ (kd,m+1)).length=9:=Cx _
 have nb3:s.next≤nb:=Nat.le_trans y3.nxt hnb
 have hpc: ∀x,J≤x→x<J+5→1000≤Bq col s.next 1000 x:=fun x h1 h2=>by
  by_cases h:x<s.next
  ·rw[BH h];exact hI.jc x h1 h2
  ·rw[DQ (by omega)];exact Nat.le_refl _
 have hJl:J+4<s.next:=hI.jn.o4.1
 try simp only[Ac,W_oS,W_on,Aa,W_mv,Ab,Ap,T.get_set,Ag,Af,Ar,Aq,Ae,Ah,reduceIte,Ak,As,Av,Aw,Ao,Aj,An,Au,Al,Ai,Nat.reduceEqDiff,reduceCtorEq, ↓reduceIte]
 have hk0:0<k.fs.length:=by rw[hI.fs];show 0<1;decide
 have hg0:k.fs[0]=g:=by
  have e:k.fs[0]?=some g:=by rw[hI.fs];rfl
  rw[List.getElem?_eq_getElem hk0]at e
  exact Option.some.inj e
 have hJk: ∀{G:Nat→Prop} {s':St},Ext Any G s4 s'→(∀x,G x→Bq col s.next 1000 x<1000)→JnI s' J D ⟨fl,a,b,false⟩:=fun x hG=>hJ4.ext x fun y hy hg=>by
  rcases Nat.lt_or_ge y J with h|h
  ·exact .inl h
  ·rcases Nat.lt_or_ge y (J+5)with h2|h2
   ·have h3:=hpc y h h2
    have:=hG y hg
    omega
   ·exact .inr h2
 refine Cw_ (y4.bnd hb0) hD4 hJ4 hlen1 hnm (mk.bn (by omega)).bs (fun x hx=> ?_) hpc (by rw[hrc,hused,hrl];omega) (by rw[hI.room,hrc,hused,hrl];omega) hI.ou (by omega) (fun huf s5 col5 fs' mx' st' le' hA hL hfl0 _=> ?_) fun s5 col5 fs' mx' st' le' hA hL _ hu=> ?_
 ·obtain⟨h1,h2⟩:=mk.ltB x hx
  exact⟨h2,by rw[DQ (by omega)];exact Nat.le_refl _⟩
 ·obtain⟨g',hf',hnm',hsb',hlb'⟩: ∃g':FileS,fs'=[g']∧g'.name=fl∧g'.sb=A7 R∧(g'.lb=[]∨g'.lb=recJ (kd,m+1)):=by
   rcases hL with hL|hL
   ·exact⟨g,by rw[hL,hI.fs],hI.safe.name,hI.safe.sb, .inl hI.safe.lb⟩
   ·obtain⟨g',h1,h2,h3,h4⟩:=hL.1 0 (A7 R) hk0 (QO hI.fs hI.safe) (by rw[hg0];exact hI.safe)
    exact⟨g',by rw[h4,hI.fs];rfl,h1,h2, .inr h3⟩
  have y5:Ext Any (fun x=>col x<1000∨x=J+4) (s.cxN cxN) s5:=(y4.gw hb0 fun _ _ h=>h.elim).on hA.ext hb0 fun x hx hg=> .inl (by rw[←BH (col:=col) (n:=s.next) (c:=1000) hx];exact hg)
  have hJ5:JnI s5 J D ⟨fl,a,b,false⟩:=hJk hA.ext fun _ h=>h
  have hD5:=hA.inv
  have c5: ∀x,J≤x→x<J+5→1000≤col5 x:=fun x h1 h2=>by
   rw[hA.agree x (by omega)]
   exact hpc x h1 h2
  try simp only[Ac,W_oS,W_on,Aa,W_mv,Ab,Ap,T.get_set,Ag,Af,Ar,Aq,Ae,Ah,reduceIte,Ak,As,Av,Aw,Ao,Aj,An,Au,Al,Ai,Nat.reduceEqDiff,reduceCtorEq, ↓reduceIte]
  refine Df_.w Dd_ (by omega) ?_
  simp only[PF,Ac,W_oS,Aa,W_mv,Ab,T.get_set,reduceIte, ↓reduceIte,Bt]
  refine W.cond (v:=true) Xd VF (by simp[T.get_set]) (by omega) (fun _=> ?_) fun h=>by cases h
  refine Sa_.w WE_ (by omega) ?_
  simp only[YS,Ac,W_oS,Aa,W_mv,T.get_set,reduceIte,Ai,reduceCtorEq, ↓reduceIte,t0,Bg VX (by decide)]
  refine W.store1 DH rfl hJ5.o4 fun s6 n6 x6 o6=> ?_
  have y6:=y5.on x6 hb0 fun x _ hg=> .inr (by have h1:=hg.1;have h2:=hg.2;omega)
  have hD6:=hD5.ext x6 (by show fs'.length≤300;rw[hf'];show 1≤300;decide) fun y hy hg=>c5 y (by have h1:=hg.1;omega) (by have h2:=hg.2;omega)
  have hJ6:JnI s6 J D ⟨fl,a,b,true⟩:=⟨hJ5.o0.ext x6 fun hg=>by have h1:=hg.1;omega,hJ5.o1.ext x6 fun hg=>by have h1:=hg.1;omega,hJ5.o2.ext x6 fun hg=>by have h1:=hg.1;omega,hJ5.o3.ext x6 fun hg=>by have h1:=hg.1;omega,o6⟩
  try simp only[Ac,W_oS,W_on,Aa,W_mv,Ab,Ap,T.get_set,Ag,Af,Ar,Aq,Ae,Ah,reduceIte,Ak,As,Av,Aw,Ao,Aj,An,Au,Al,Ai,Nat.reduceEqDiff,reduceCtorEq, ↓reduceIte]
  refine Abi_.w Mn_ (by omega) ?_
  simp only[GG_,Aa,W_mv,Ab,T.get_set,reduceIte,Nat.reduceEqDiff, ↓reduceIte]
  refine W.end' (rs:=[6,7]) (vs:=[.int .i64 0, .int .i64 10]) Nz_ (.inl XQ_) (by omega) Pj BN_ y6.cx (by simp[T.get_set]) ?_
  refine qf (by rw[←hI.fu];exact huf) _ col5 ⟨fs',mx',k.room,st',true,le',true⟩ g' (fun x hx=> ?_) y6.cx' ⟨hD6.same rfl rfl,hf',hI.room,rfl,hnm',hsb',hlb',hJ6.same rfl rfl,c5⟩
  rw[hA.agree x (by omega),BH hx]
 have y5:Ext Any (fun x=>col x<1000∨x=J+o) (s.cxN cxN) s5:=(y4.gw hb0 fun _ _ h=>h.elim).on hA.ext hb0 fun x hx hg=> .inl (by rw[←BH (col:=col) (n:=s.next) (c:=1000) hx];exact hg)
 have hJ5:JnI s5 J D ⟨fl,a,b,false⟩:=hJ4.ext hA.ext fun y hy hg=>by
  rcases Nat.lt_or_ge y J with h|h
  ·exact .inl h
  ·rcases Nat.lt_or_ge y (J+5)with h2|h2
   ·have:=hpc y h h2
    omega
   ·exact .inr h2
 obtain⟨g',hs',hf'⟩:=hL.1 0 (A7 R) hk0 (QO hI.fs hI.safe) (by rw[hg0];exact hI.safe)
 have hf':fs'=[g']:=by rw[hf',hI.fs];rfl
 have hD5:=hA.inv
 have hfl:(⟨fs',mx',k.room,st',k.fused,le',false⟩:DkS).fs.length≤300:=by show fs'.length≤300;rw[hf'];show 1≤300;decide
 try simp only[Ac,W_oS,W_on,Aa,W_mv,Ab,Ap,T.get_set,Ag,Af,Ar,Aq,Ae,Ah,reduceIte,Ak,As,Av,Aw,Ao,Aj,An,Au,Al,Ai,Nat.reduceEqDiff,reduceCtorEq, ↓reduceIte]
 refine Df_.w Dd_ (by omega) ?_
 simp only[PF,Ac,W_oS,Aa,W_mv,Ab,T.get_set,reduceIte, ↓reduceIte,Bt]
 refine W.cond (v:=false) Xd VF (by simp[T.get_set]) (by omega) (fun h=>by cases h) fun _=> ?_
 refine Uj_.w Pm_ (by omega) ?_
 simp only[Xg,Ac,W_oS,Aa,W_mv,T.get_set,reduceIte,Ai,Nat.reduceEqDiff, ↓reduceIte,t2]
 refine W.load1 BN (hm hJ5).at' ?_
 have y6:=y5.on (Ext.rdN (F:=Any) (G:=Non) s5 (J+o) fun _=>trivial) hb0 fun _ _ h=>h.elim
 have hD6:DkI (s5.rdN (J+o)) col5 D M ⟨fs',mx',k.room,st',k.fused,le',false⟩:=hD5.same rfl rfl
 have hJ6:JnI (s5.rdN (J+o)) J D ⟨fl,a,b,false⟩:=hJ5.same rfl rfl
 generalize s5.rdN (J+o)=s6 at *
 simp only[BB,ei]
 refine W.store1 BN rfl (hm hJ6) fun s7 n7 x7 o7=> ?_
 have y7:=y6.on x7 hb0 fun x _ hg=> .inr (by have h1:=hg.1;have h2:=hg.2;omega)
 have c5: ∀x,J≤x→x<J+5→1000≤col5 x:=fun x h1 h2=>by
  rw[hA.agree x (by omega)]
  exact hpc x h1 h2
 have hD7:=hD6.ext x7 hfl fun y hy hg=>c5 y (by have h1:=hg.1;omega) (by have h2:=hg.2;omega)
 have w0:=hJ6.o0.ext x7 fun hg=>by have h1:=hg.1;omega
 have w1:=hJ6.o1.ext x7 fun hg=>by have h1:=hg.1;omega
 have w4:=hJ6.o4.ext x7 fun hg=>by have h1:=hg.2;omega
 have hJ7:JnI s7 J D ⟨fl,if kd=1 then m+1 else a,if kd=1 then b else m+1,false⟩:=by
  rcases ho with⟨rfl,rfl,rfl⟩|⟨rfl,rfl,rfl⟩
  ·exact⟨w0,w1,o7,hJ6.o3.ext x7 fun hg=>by have h1:=hg.2;omega,w4⟩
  ·exact⟨w0,w1,hJ6.o2.ext x7 fun hg=>by have h1:=hg.1;omega,o7,w4⟩
 try simp only[Ac,W_oS,W_on,Aa,W_mv,Ab,Ap,T.get_set,Ag,Af,Ar,Aq,Ae,Ah,reduceIte,Ak,As,Av,Aw,Ao,Aj,An,Au,Al,Ai,Nat.reduceEqDiff,reduceCtorEq, ↓reduceIte]
 refine Xa_.w Acl_ (by omega) ?_
 simp only[XS,Ac,W_oS,Aa,W_mv,Ab,T.get_set,reduceIte,Ai,Nat.reduceEqDiff, ↓reduceIte,t2]
 refine W.load1 BN o7.at' ?_
 have y8:=y7.on (Ext.rdN (F:=Any) (G:=Non) s7 (J+o) fun _=>trivial) hb0 fun _ _ h=>h.elim
 have hD8:DkI (s7.rdN (J+o)) col5 D M ⟨fs',mx',k.room,st',k.fused,le',false⟩:=hD7.same rfl rfl
 have hJ8:JnI (s7.rdN (J+o)) J D _:=hJ7.same rfl rfl
 generalize s7.rdN (J+o)=s8 at *
 try simp only[Ac,W_oS,W_on,Aa,W_mv,Ab,Ap,T.get_set,Ag,Af,Ar,Aq,Ae,Ah,reduceIte,Ak,As,Av,Aw,Ao,Aj,An,Au,Al,Ai,Nat.reduceEqDiff,reduceCtorEq, ↓reduceIte]
 refine W.end' (rs:=[6,7]) (vs:=[.int .i64 (m+1:Nat), .int .i64 0]) Uo_ (.inl Yw_) (by omega) Pj BN_ y8.cx (by simp[T.get_set]) ?_
 refine q _ col5 (fun x hx=> ?_) y8.cx' ⟨⟨fs',mx',k.room,st',k.fused,le',false⟩,g',hD8.same rfl rfl,hf',hI.room,hI.fu,rfl, ?_,hJ8.same rfl rfl,c5⟩
 ·rw[hA.agree x (by omega),BH hx]
 ·rw[KD_,CG_]
  exact hs'
end
section
variable {n D M J:Nat}{s:St}{col:Nat→Nat}{fl:ByteArray}{R:List (Nat×Nat)}{a b:Nat}{u:Bool}{Q:Value→St→Prop}
theorem AbT_ (hb:s.lim≤s.next)(h:JrA s col D M J fl R a b u)(hnm:NmOk fl)(hm2:a+1<256)(hR:R.length≤300)(hn:2500≤n)
  (qf:u=true→ ∀s1 col' k' g',(∀x,x<s.next→col' x=col x)→Ext Any (fun x=>col x<1000∨x=J+4) s s1→JrB s1 col' D M J fl R (1,a+1) a b k' g'→Q (.tuple #[.int .i64 0, .int .i64 10]) s1)
  (q: ∀s1 col',(∀x,x<s.next→col' x=col x)→Ext Any (fun x=>col x<1000∨x=J+2) s s1→JrA s1 col' D M J fl (R++[(1,a+1)]) (a+1) b u→Q (.tuple #[.int .i64 (a+1:Nat), .int .i64 0]) s1):
  W (Ay envS (runF envS n) 8 [.pointer (some ⟨J,0,none⟩)]) s Q:=by
 have hb0:(s.cxN cxN).lim≤(s.cxN cxN).next:=hb
 obtain⟨k,g,hI⟩:=h
 refine PM_ fun tm t0=> ?_
 refine QZ_.w rfl (by omega) ?_
 simp only[U5,Aa,W_mv,Ab]
 refine ST_.w Rh_ (by omega) ?_
 simp only[Zy,Ac,W_on,Aa,W_mv,Ab,T.get_set,Ag,Af,Ae,Ah,reduceIte,reduceCtorEq, ↓reduceIte,t0]
 have hJ0:JnI (s.cxN cxN) J D ⟨fl,a,b,false⟩:=hI.jn.same rfl rfl
 refine NF hb0 hJ0.o0 (by omega) fun s1 m1 n1 x1=> ?_
 try simp only[Ac,W_oS,W_on,Aa,W_mv,Ab,Ap,T.get_set,Ag,Af,Ar,Aq,Ae,Ah,reduceIte,Ak,As,Av,Aw,Ao,Aj,An,Au,Al,Ai,Nat.reduceEqDiff,reduceCtorEq, ↓reduceIte]
 refine W.cond (v:=false) Vi_ Se_ (by simp[T.get_set]) (by omega) (fun h=>by cases h) fun _=> ?_
 refine Jq_.w TC_ (by omega) ?_
 simp only[XX,Ac,W_oS,W_on,Aa,W_mv,Ab,T.get_set,Ag,Af,Ae,Ah,reduceIte,Ai,reduceCtorEq, ↓reduceIte,t0,Bg LD (by decide)]
 have h1:JrA s1 col D M J fl R a b u:=⟨k,g,(hI.dk.same (s':=s.cxN cxN) rfl rfl).same m1 n1,hI.fs,hI.room,hI.fu,hI.ou,hI.safe,hJ0.same m1 n1,hI.jc⟩
 refine Vz (o:=2) (m:=a) (kd:=1) (x1.bnd hb0) h1 hnm (.inl ⟨rfl,rfl,rfl⟩) hm2 hR (by omega) (fun hu s2 col2 k' g' hag x2 h2=> ?_) fun s2 col2 hag x2 h2=> ?_
 ·have y2:Ext Any (fun x=>col x<1000∨x=J+4) (s.cxN cxN) s2:=(x1.gw hb0 fun _ _ h=>h.elim).on x2 hb0 fun _ _ h=>h
  have e1:s1.next=s.next:=n1
  try simp only[Ac,W_oS,W_on,Aa,W_mv,Ab,Ap,T.get_set,Ag,Af,Ar,Aq,Ae,Ah,reduceIte,Ak,As,Av,Aw,Ao,Aj,An,Au,Al,Ai,Nat.reduceEqDiff,reduceCtorEq, ↓reduceIte]
  rw[Bv (k:=0) rfl]
  try simp only[Ac,W_oS,W_on,Aa,W_mv,Ab,Ap,T.get_set,Ag,Af,Ar,Aq,Ae,Ah,reduceIte,Ak,As,Av,Aw,Ao,Aj,An,Au,Al,Ai,Nat.reduceEqDiff,reduceCtorEq, ↓reduceIte]
  rw[Bv (k:=1) rfl]
  try simp only[Ac,W_oS,W_on,Aa,W_mv,Ab,Ap,T.get_set,Ag,Af,Ar,Aq,Ae,Ah,reduceIte,Ak,As,Av,Aw,Ao,Aj,An,Au,Al,Ai,Nat.reduceEqDiff,reduceCtorEq, ↓reduceIte]
  refine W.end' (rs:=[2,3]) (vs:=[.int .i64 0, .int .i64 10]) BB_ (.inl ZV) (by omega) O4 Bh_ y2.cx (by simp[T.get_set]) ?_
  exact qf hu _ col2 k' g' (fun x hx=>hag x (by omega)) y2.cx' ⟨h2.dk.same rfl rfl,h2.fs,h2.room,h2.ou,h2.nm,h2.sb,h2.lb,h2.jn.same rfl rfl,h2.jc⟩
 have y2:Ext Any (fun x=>col x<1000∨x=J+2) (s.cxN cxN) s2:=(x1.gw hb0 fun _ _ h=>h.elim).on x2 hb0 fun _ _ h=>h
 have e1:s1.next=s.next:=n1
 try simp only[Ac,W_oS,W_on,Aa,W_mv,Ab,Ap,T.get_set,Ag,Af,Ar,Aq,Ae,Ah,reduceIte,Ak,As,Av,Aw,Ao,Aj,An,Au,Al,Ai,Nat.reduceEqDiff,reduceCtorEq, ↓reduceIte]
 rw[Bv (k:=0) rfl]
 try simp only[Ac,W_oS,W_on,Aa,W_mv,Ab,Ap,T.get_set,Ag,Af,Ar,Aq,Ae,Ah,reduceIte,Ak,As,Av,Aw,Ao,Aj,An,Au,Al,Ai,Nat.reduceEqDiff,reduceCtorEq, ↓reduceIte]
 rw[Bv (k:=1) rfl]
 try simp only[Ac,W_oS,W_on,Aa,W_mv,Ab,Ap,T.get_set,Ag,Af,Ar,Aq,Ae,Ah,reduceIte,Ak,As,Av,Aw,Ao,Aj,An,Au,Al,Ai,Nat.reduceEqDiff,reduceCtorEq, ↓reduceIte]
 refine W.end' (rs:=[2,3]) (vs:=[.int .i64 (a+1:Nat), .int .i64 0]) BB_ (.inl ZV) (by omega) O4 Bh_ y2.cx (by simp[T.get_set]) ?_
 obtain⟨k',g',hI'⟩:=h2
 exact q _ col2 (fun x hx=>hag x (by omega)) y2.cx' ⟨k',g',hI'.dk.same rfl rfl,hI'.fs,hI'.room,hI'.fu,hI'.ou,hI'.safe,hI'.jn.same rfl rfl,hI'.jc⟩
theorem AgB_ (hb:s.lim≤s.next)(h:JrA s col D M J fl R a b u)(hnm:NmOk fl)(hm2:b+1<256)(hR:R.length≤300)(hn:2500≤n)
  (qf:u=true→ ∀s1 col' k' g',(∀x,x<s.next→col' x=col x)→Ext Any (fun x=>col x<1000∨x=J+4) s s1→JrB s1 col' D M J fl R (2,b+1) a b k' g'→Q (.tuple #[.int .i64 0, .int .i64 10]) s1)
  (q: ∀s1 col',(∀x,x<s.next→col' x=col x)→Ext Any (fun x=>col x<1000∨x=J+3) s s1→JrA s1 col' D M J fl (R++[(2,b+1)]) a (b+1) u→Q (.tuple #[.int .i64 (b+1:Nat), .int .i64 0]) s1):
  W (Ay envS (runF envS n) 9 [.pointer (some ⟨J,0,none⟩)]) s Q:=by
 have hb0:(s.cxN cxN).lim≤(s.cxN cxN).next:=hb
 obtain⟨k,g,hI⟩:=h
 refine Yz_ fun tm t0=> ?_
 refine AbC_.w rfl (by omega) ?_
 simp only[Cp_,Aa,W_mv,Ab]
 refine LO_.w IV_ (by omega) ?_
 simp only[Ae_,Ac,W_on,Aa,W_mv,Ab,T.get_set,Ag,Af,Ae,Ah,reduceIte,reduceCtorEq, ↓reduceIte,t0]
 have hJ0:JnI (s.cxN cxN) J D ⟨fl,a,b,false⟩:=hI.jn.same rfl rfl
 refine NF hb0 hJ0.o0 (by omega) fun s1 m1 n1 x1=> ?_
 try simp only[Ac,W_oS,W_on,Aa,W_mv,Ab,Ap,T.get_set,Ag,Af,Ar,Aq,Ae,Ah,reduceIte,Ak,As,Av,Aw,Ao,Aj,An,Au,Al,Ai,Nat.reduceEqDiff,reduceCtorEq, ↓reduceIte]
 refine W.cond (v:=false) AaW_ Ia_ (by simp[T.get_set]) (by omega) (fun h=>by cases h) fun _=> ?_
 refine PN_.w WV_ (by omega) ?_
 simp only[Ba_,Ac,W_oS,W_on,Aa,W_mv,Ab,T.get_set,Ag,Af,Ae,Ah,reduceIte,Ai,reduceCtorEq, ↓reduceIte,t0,Bg N9 (by decide)]
 have h1:JrA s1 col D M J fl R a b u:=⟨k,g,(hI.dk.same (s':=s.cxN cxN) rfl rfl).same m1 n1,hI.fs,hI.room,hI.fu,hI.ou,hI.safe,hJ0.same m1 n1,hI.jc⟩
 refine Vz (o:=3) (m:=b) (kd:=2) (x1.bnd hb0) h1 hnm (.inr ⟨rfl,rfl,rfl⟩) hm2 hR (by omega) (fun hu s2 col2 k' g' hag x2 h2=> ?_) fun s2 col2 hag x2 h2=> ?_
 ·have y2:Ext Any (fun x=>col x<1000∨x=J+4) (s.cxN cxN) s2:=(x1.gw hb0 fun _ _ h=>h.elim).on x2 hb0 fun _ _ h=>h
  have e1:s1.next=s.next:=n1
  try simp only[Ac,W_oS,W_on,Aa,W_mv,Ab,Ap,T.get_set,Ag,Af,Ar,Aq,Ae,Ah,reduceIte,Ak,As,Av,Aw,Ao,Aj,An,Au,Al,Ai,Nat.reduceEqDiff,reduceCtorEq, ↓reduceIte]
  rw[Bv (k:=0) rfl]
  try simp only[Ac,W_oS,W_on,Aa,W_mv,Ab,Ap,T.get_set,Ag,Af,Ar,Aq,Ae,Ah,reduceIte,Ak,As,Av,Aw,Ao,Aj,An,Au,Al,Ai,Nat.reduceEqDiff,reduceCtorEq, ↓reduceIte]
  rw[Bv (k:=1) rfl]
  try simp only[Ac,W_oS,W_on,Aa,W_mv,Ab,Ap,T.get_set,Ag,Af,Ar,Aq,Ae,Ah,reduceIte,Ak,As,Av,Aw,Ao,Aj,An,Au,Al,Ai,Nat.reduceEqDiff,reduceCtorEq, ↓reduceIte]
  refine W.end' (rs:=[2,3]) (vs:=[.int .i64 0, .int .i64 10]) Z2 (.inl Ax_) (by omega) Rm Yz y2.cx (by simp[T.get_set]) ?_
  exact qf hu _ col2 k' g' (fun x hx=>hag x (by omega)) y2.cx' ⟨h2.dk.same rfl rfl,h2.fs,h2.room,h2.ou,h2.nm,h2.sb,h2.lb,h2.jn.same rfl rfl,h2.jc⟩
 have y2:Ext Any (fun x=>col x<1000∨x=J+3) (s.cxN cxN) s2:=(x1.gw hb0 fun _ _ h=>h.elim).on x2 hb0 fun _ _ h=>h
 have e1:s1.next=s.next:=n1
 try simp only[Ac,W_oS,W_on,Aa,W_mv,Ab,Ap,T.get_set,Ag,Af,Ar,Aq,Ae,Ah,reduceIte,Ak,As,Av,Aw,Ao,Aj,An,Au,Al,Ai,Nat.reduceEqDiff,reduceCtorEq, ↓reduceIte]
 rw[Bv (k:=0) rfl]
 try simp only[Ac,W_oS,W_on,Aa,W_mv,Ab,Ap,T.get_set,Ag,Af,Ar,Aq,Ae,Ah,reduceIte,Ak,As,Av,Aw,Ao,Aj,An,Au,Al,Ai,Nat.reduceEqDiff,reduceCtorEq, ↓reduceIte]
 rw[Bv (k:=1) rfl]
 try simp only[Ac,W_oS,W_on,Aa,W_mv,Ab,Ap,T.get_set,Ag,Af,Ar,Aq,Ae,Ah,reduceIte,Ak,As,Av,Aw,Ao,Aj,An,Au,Al,Ai,Nat.reduceEqDiff,reduceCtorEq, ↓reduceIte]
 refine W.end' (rs:=[2,3]) (vs:=[.int .i64 (b+1:Nat), .int .i64 0]) Z2 (.inl Ax_) (by omega) Rm Yz y2.cx (by simp[T.get_set]) ?_
 obtain⟨k',g',hI'⟩:=h2
 exact q _ col2 (fun x hx=>hag x (by omega)) y2.cx' ⟨k',g',hI'.dk.same rfl rfl,hI'.fs,hI'.room,hI'.fu,hI'.ou,hI'.safe,hI'.jn.same rfl rfl,hI'.jc⟩
end
section
variable {E:Env}{s:St}{t:Nat}{xo yo:Operand}
theorem Xh_ (m n:Nat)(h:m|||n≤9223372036854775807):Cl.get (aBin E .or t xo yo) (.int .i64 (m:Nat)) (.int .i64 (n:Nat)) s= .some (.int .i64 (m|||n:Nat)) s:=by
 show int3 orK (Bu E .or t xo yo) (.int .i64 (.ofNat m)) (.int .i64 (.ofNat n)) s=_
 show Option.rec (motive:=fun _=>R Value) _ (fun v=> .some v s) (orK .i64 .i64 m n)=_
 have:orK .i64 .i64 m n=some (.int .i64 (m|||n:Nat)):=by
  unfold orK Cz
  rw[Nat.beq_refl]
  exact AM_ h
 rw[this]
theorem AfX_ {m n:Nat}(h:m|||n≤9223372036854775807)(Q:Value→St→Prop):W (Cl.get (aBin E .or t xo yo) (.int .i64 (m:Nat)) (.int .i64 (n:Nat))) s Q=Q (.int .i64 (m|||n:Nat)) s:=Bp (Xh_ m n h)
theorem Lo_ {kk:IntKind}(m n:Nat)(hn:n≤64)(h:m<<<n≤9223372036854775807):Cl.get (aBin E .shl t xo yo) (.int .i64 (m:Nat)) (.int kk (n:Nat)) s= .some (.int .i64 (m<<<n:Nat)) s:=by
 show int3 shlK (Bu E .shl t xo yo) (.int .i64 (.ofNat m)) (.int kk (.ofNat n)) s=_
 show Option.rec (motive:=fun _=>R Value) _ (fun v=> .some v s) (shlK .i64 kk m n)=_
 have:shlK .i64 kk m n=some (.int .i64 (m<<<n:Nat)):=by
  unfold shlK sOpt
  rw[Nat.ble_eq_true_of_le (show n≤btOf .i64 from hn)]
  exact AM_ h
 rw[this]
theorem Pt_ {kk:IntKind}{m n:Nat}(hn:n≤64)(h:m<<<n≤9223372036854775807)(Q:Value→St→Prop):W (Cl.get (aBin E .shl t xo yo) (.int .i64 (m:Nat)) (.int kk (n:Nat))) s Q=Q (.int .i64 (m<<<n:Nat)) s:=Bp (Lo_ m n hn h)
end
section
variable {n D M J:Nat}{s:St}{col:Nat→Nat}{fl:ByteArray}{R:List (Nat×Nat)}{a b:Nat}{u:Bool}{Q:Value→St→Prop}
theorem Vw_ (hb:s.lim≤s.next)(h:JrA s col D M J fl R a b u)(hn:500≤n)(q: ∀s1,Ext Any Non s s1→Q (.tuple #[.int .i64 (a:Nat), .int .i64 (b:Nat)]) s1):
  W (Ay envS (runF envS n) 10 [.pointer (some ⟨J,0,none⟩)]) s Q:=by
 have hb0:(s.cxN cxN).lim≤(s.cxN cxN).next:=hb
 obtain⟨k,g,hI⟩:=h
 refine Lb_ fun tm t0=> ?_
 refine Wq_.w rfl (by omega) ?_
 simp only[Hb_,Aa,W_mv,Ab]
 refine Agg_.w Abs_ (by omega) ?_
 simp only[Ww,Ac,W_on,Aa,W_mv,Ab,T.get_set,Ag,Af,Ae,Ah,reduceIte,reduceCtorEq, ↓reduceIte,t0]
 have hJ0:JnI (s.cxN cxN) J D ⟨fl,a,b,false⟩:=hI.jn.same rfl rfl
 have hD0:DkI (s.cxN cxN) col D M k:=hI.dk.same rfl rfl
 refine NF hb0 hJ0.o0 (by omega) fun s1 m1 n1 x1=> ?_
 try simp only[W_oS,W_on,Aa,Ah,reduceIte,Ak,Ao,Aj,An,Al,reduceCtorEq, ↓reduceIte]
 refine Ze (x1.bnd hb0) (hD0.same m1 n1) (hJ0.same m1 n1) rfl (by omega) fun s2 x2=> ?_
 have y2:=x1.on x2 hb0 fun _ _ h=>h
 have hJ2:=(hJ0.same m1 n1).ext0 x2
 try simp only[Ac,W_oS,W_on,Aa,W_mv,Ab,Ap,T.get_set,Ag,Af,Ar,Aq,Ae,Ah,reduceIte,Ak,As,Av,Aw,Ao,Aj,An,Au,Al,Ai,Nat.reduceEqDiff,reduceCtorEq, ↓reduceIte]
 refine W.cond (v:=false) AbP_ Abf_ (by simp[T.get_set,hI.ou]) (by omega) (fun h=>by cases h) fun _=> ?_
 refine Ov_.w Hy_ (by omega) ?_
 simp only[BY_,T.get_set,Nat.reduceEqDiff, ↓reduceIte,t0,AY,B9,Dn,DV LD (by decide)]
 refine W.dload BN (hJ2.o2.same (s':=dSt s2.mem s2.next) rfl rfl).at' fun rd1 hr1=> ?_
 simp only[B9,Dn,DV N9 (by decide)]
 refine W.dload BN (hJ2.o3.same (s':=dSt s2.mem s2.next) rfl rfl).at' fun rd2 hr2=> ?_
 simp only[B9,Ap,Aa]
 refine⟨Ed (by simp) (by simp), ?_⟩
 refine W.cast (Mi_ ..) ?_
 simp only[Ac,W_oS,Aa,Ap]
 generalize hsF:(⟨(dSt s2.mem s2.next).mem,(dSt s2.mem s2.next).next,s2.lim,_,_,s2.cx⟩:St)=sF
 have xF:Ext Any Non s2 sF:=by
  rw[←hsF]
  exact Ext.draw (F:=Any) (Nat.le_refl _) (fun _ _=>rfl) (by simp) fun _ _ _ _ _=>trivial
 have yF:=y2.on xF hb0 fun _ _ h=>h
 refine W.end' (rs:=[2,3]) (vs:=[.int .i64 (a:Nat), .int .i64 (b:Nat)]) Om_ (.inl AeZ_) (by omega) FG_ Jy_ yF.cx (by simp[T.get_set]) ?_
 exact q _ yF.cx'
end
section
variable {s:St}
theorem W.rowM {vs:List Value}{Q:Value→St→Prop}(hb:s.lim≤s.next)(hz:vs.length<capU)(q: ∀s1 v,MkS s1 1 vs.length vs v s.next→Ext Any Non s s1→Q v s1):W (Am.rowM vs) s Q:=by
 cases vs with
 |nil=>exact W.pure (q s _ (.inl ⟨rfl,rfl,rfl⟩) (Ext.refl _))
 |cons x l=>
  show W (Am.fN (x::l).length fun n=>Am.rowN (x::l) n) s Q
  rw[A6]
  generalize hvs:x::l=vs at *
  have h0:0<vs.length:=by rw[←hvs];simp
  unfold Am.rowN
  refine W.chk (B1 hz) (W.bind (W.newL fun s1 n1 x1 r1=> ?_))
  have e1:Nat.add s.next (Nat.mul vs.length 1)=s.next+vs.length:=by
   show s.next+vs.length*1=_
   omega
  rw[e1]
  refine W.bind (W.wrC (by omega) ?_)
  unfold Am.pSl
  show W (Am.fA ⟨s.next,0,none⟩ fun a=>Am.fN _ fun l=>Am.fN _ fun c=>M.pure (.slice (some a) l c)) _ Q
  rw[CK,A6,A6]
  have hval:Value.slice (some ⟨s.next,0,none⟩) vs.length (Nat.add (Nat.mul capU (Nat.add (Nat.mul (s.next+vs.length) 1024) 1)) vs.length)= .slice (some ⟨s.next,0,none⟩) vs.length (capU*((s.next+vs.length*1)*1024+1)+vs.length):=by
   rw[Nat.mul_one]
   generalize capU=c
   rfl
  rw[hval]
  refine W.pure (q _ _ (.inr ⟨⟨rfl, ?_, ?_, ?_, ?_⟩,h0⟩) ?_)
  ·exact r1.ext (Ext.wrN (F:=Any) (G:=fun y=>y=s.next+vs.length) s1 _ _ rfl) fun i hi h=>by omega
  ·omega
  ·refine⟨1,rfl, ?_⟩
   show T.get (T.set s1.mem (s.next+vs.length) _) (s.next+vs.length*1)=_
   rw[Nat.mul_one,T.get_set,if_pos rfl]
  ·show s.next+vs.length*1<s1.next
   omega
  ·exact(x1.weak (G':=Non) hb (fun _ _ _=>trivial) fun _ _ h=>h).on (Ext.wrN (F:=Any) (G:=fun y=>y=s.next+vs.length) s1 _ _ rfl) hb fun y hy h=>by omega
structure NmsOk (l:List ByteArray):Prop where
 dist:FG (l.map (·.data.toList))=true
 short:Fv (l.map (·.data.toList)) 1000000=true
 sort:Fs (l.map (·.data.toList))=l.map (·.data.toList)
 len:l.length≤300
theorem Bj_: ∀fs:List FileS,Fq (fs.map FileS.ent)=some ((fs.map FileS.name).map (·.data.toList))
 |[]=>rfl
 |f::fs=>by
  show(match SG f.ent.key,Fq (fs.map FileS.ent)with|some k,some ks=>some (k::ks)|_,_=>none)=_
  rw[Bj_ fs]
  rfl
theorem MB_ (l:List ByteArray):(l.map (·.data.toList)).map encStr=l.map Value.string:=by
 rw[List.map_map]
 refine List.map_congr_left fun a _=> ?_
 show encStr a.data.toList=Value.string a
 unfold encStr
 congr
theorem W.keysQ {Q:Value→St→Prop}{l:Nat}(q: ∀s1,s1.next=s.next+2→Ext Non Non s s1→Own s1 s.next 0 (.map (some l))→Q (.func (.func 69) #[] #[.chan (some s.next)]) s1):W (keysM 69 [.map (some l)]) s Q:=by
 show W (M.bind (Am.newL [.map (some l)]) fun b=>M.pure (.func (.func 69) #[] #[.chan (some b)])) s Q
 exact W.bind (W.newL fun s1 n1 x1 r1=>W.pure (q s1 n1 x1 (r1 0 _ rfl)))
theorem W.sortedQ {Q:Value→St→Prop}{l b m:Nat}{fs:List FileS}(hb:s.lim≤s.next)(h0:Own s b 0 (.map (some l)))(ho:Obj s l (.map (fs.map FileS.ent) m))(hbo:BT (fs.map FileS.ent) 0 m=true)(hN:NmsOk (fs.map FileS.name))(q: ∀s1 v,MkS s1 1 fs.length ((fs.map FileS.name).map Value.string) v s.next→Ext Any Non s s1→Q v s1):W (sortedM 69 [.func (.func 69) #[] #[.chan (some b)]]) s Q:=by
 show W (M.chk (Nat.beq 72 72&&(#[]:Array Value).isEmpty) (M.bind (Am.rdV ⟨b,0,none⟩) fun x=>match x with
   | .map (some l)=>M.bind (Am.mapAt l) sortKs
   |_=>M.fail)) s Q
 refine W.chk (by decide) (W.bind (W.rdV h0.at' ?_))
 have ho1:Obj (s.rdN (b+0)) l (.map (fs.map FileS.ent) m):=ho.same rfl rfl
 refine W.bind (W.bind (W.rdC ho1.2 ho1.1 (W.pure ?_)))
 show W (M.on (Fq (fs.map FileS.ent)) fun ks=>M.chk (BT (fs.map FileS.ent) 0 m&&FG ks&&Fv ks 1000000&&Nat.ble ks.length 1000000) (Am.rowM ((Fs ks).map encStr))) ((s.rdN (b+0)).rdN l) Q
 refine W.on (Bj_ fs) (W.chk ?_ ?_)
 ·have hl:=hN.len
  rw[hbo,hN.dist,hN.short,Nat.ble_eq_true_of_le (show((fs.map FileS.name).map (·.data.toList)).length≤1000000 by simp at hl ⊢;omega)]
  rfl
 ·rw[hN.sort,MB_]
  have y:=((Ext.refl (F:=Any) (G:=Non) s).thenRd hb (b+0)).thenRd hb l
  have hl:=hN.len
  refine W.rowM (s:=(s.rdN (b+0)).rdN l) hb (Nat.lt_of_le_of_lt (show _≤1000000 by simp at hl ⊢;omega) (by decide)) fun s1 v mk x1=> ?_
  refine q s1 v ?_ (y.on x1 hb fun _ _ h=>h)
  rw[show((fs.map FileS.name).map Value.string).length=fs.length by simp]at mk
  exact mk
end
section
variable {n:Nat}{s:St}{a:ByteArray}{Q:Value→St→Prop}
end
def HasP (a p:ByteArray):Prop:=valR (callF envC 1000 51 [.string a, .string p] st0)=some (.bool true)
theorem Ih_:envS.orc.get 51=some (pureM envC 1000 51):=by kernel_rfl
theorem VB:slN envS 41=some 1:=by kernel_rfl
theorem SX_:envS.orc.get 48=some (keysM 69):=by kernel_rfl
theorem AdF_:envS.orc.get 47=some (sortedM 69):=by kernel_rfl
def NmR (s:St)(v:Value)(l:List ByteArray)(b:Nat):Prop:=MkS s 1 l.length (l.map Value.string) v b
theorem NmR.at {s:St}{v:Value}{l:List ByteArray}{b i:Nat}(h:NmR s v l b)(hi:i<l.length): ∃c,v= .slice (some ⟨b,0,none⟩) l.length c∧Own s b (0+i*1) (.string l[i]):=by
 rcases h with⟨_,h0,_⟩|⟨h,h0⟩
 ·omega
 ·refine⟨_,h.val, ?_⟩
  rw[Nat.mul_one,Nat.zero_add]
  have h1:=h.own i (.string l[i]) (by simp[hi])
  rwa [Nat.zero_add]at h1
section
variable {n P:Nat}{s:St}{a p:ByteArray}{Q:Value→St→Prop}
theorem RG_ (hb:s.lim≤s.next)(hp:HasP a p)(hP:Own s P 0 (.string p))(hn:100≤n)(q: ∀s1,s1.mem=s.mem→s1.next=s.next→Ext Any Non s s1→Q (.bool false) s1):W (Ay envS (runF envS n) 50 [.string a, .pointer (some ⟨P,0,none⟩)]) s Q:=by
 have hb0:(s.cxN cxN).lim≤(s.cxN cxN).next:=hb
 refine Vm_ fun tm h0 h1=> ?_
 refine OH_.w rfl (by omega) ?_
 simp only[V3,Aa,W_mv,Ab]
 refine AdQ_.w Abl_ (by omega) ?_
 simp only[Bp_,Ac,W_oS,W_on,Aa,W_mv,Ab,T.get_set,Ag,Af,Ae,Ah,reduceIte,Nat.reduceEqDiff,reduceCtorEq, ↓reduceIte,h0,h1]
 refine W.load1 CN (hP.same (s':=s.cxN cxN) rfl rfl).at' ?_
 have y1:=(Ext.refl (F:=Any) (G:=Non) (s.cxN cxN)).thenRd hb0 (P+0)
 try simp only[Ac,W_oS,W_on,Aa,W_mv,Ab,Ap,T.get_set,Ag,Af,Ar,Aq,Ae,Ah,reduceIte,Ak,As,Av,Aw,Ao,Aj,An,Au,Al,Ai,Nat.reduceEqDiff,reduceCtorEq, ↓reduceIte]
 refine W.orc Ih_ (W.pureM rfl hp rfl ?_)
 simp only[CM,Bool.not_true]
 refine W.end' (rs:=[3]) (vs:=[.bool false]) AdT_ (.inl Wa_) (by omega) CK_ AaR_ rfl (by simp[T.get_set]) ?_
 exact q _ rfl rfl y1.cx'
theorem Ij_ {p:ByteArray}{l:List ByteArray}{v:Value}{b:Nat}{Q:Value×FrameMode→St→Prop}{s0:St}(hb0:s0.lim≤s0.next)(hl:l.length≤300)(hr:NmR s0 v l b)(hp: ∀a∈l,HasP a p)(hP:Own s0 P 0 (.string p))(hcx:s0.cx=cxN)(q: ∀s1,s1.mem=s0.mem→s1.next=s0.next→Ext Any Non s0 s1→Q (.int .i64 (-1), .run) s1):
  ∀(k i n:Nat) (tm:T Value) (s:St) (td:List Item),i+k=l.length→10*k+200≤n→skim 64 td=GZ→Ext Any Non s0 s→s.mem=s0.mem→s.next=s0.next→
  T.get tm 0=some v→T.get tm 1=some (.func (.func 50) #[] #[.pointer (some ⟨P,0,none⟩)])→T.get tm 7=some (.int .i64 (l.length:Nat))→T.get tm 8=some (.int .i64 (i:Nat))→
  W (runF envS n ⟨70,Ix_,D8,tm,td, .run, .normal,none⟩) s Q:=by
 intro k
 induction k with
 |zero=>
  intro i n tm s td hi hn hT hx hm hnx h0 h1 h7 h8
  refine Fs_.w hT (by omega) ?_
  simp only[Po,Ac,W_oS,Aa,Ab,Bk,h7,h8]
  refine W.cond (v:=false) Gb_ Y5 (by simp[T.get_set];omega) (by omega) (fun h=>by cases h) fun _=> ?_
  refine Ud_.w RI_ (by omega) ?_
  simp only[Xo,Aa,W_mv,Ab]
  refine W.end' (rs:=[4]) (vs:=[.int .i64 (-1)]) HW_ (.inl PF_) (by omega) UY VS_ (hx.cx.trans hcx) (by simp[T.get_set]) ?_
  exact q s hm hnx hx
 |succ k ih=>
  intro i n tm s td hi hn hT hx hm hnx h0 h1 h7 h8
  have hil:i<l.length:=by omega
  obtain⟨c,rfl,ho⟩:=NmR.at hr hil
  refine Fs_.w hT (by omega) ?_
  simp only[Po,Ac,W_oS,Aa,Ab,Bk,h7,h8]
  refine W.cond (v:=true) Gb_ Y5 (by simp[T.get_set];omega) (by omega) (fun _=> ?_) fun h=>by cases h
  refine YJ_.w Lp_ (by omega) ?_
  simp only[DC_,Aa,W_mv,Ab,T.get_set,reduceIte,Nat.reduceEqDiff, ↓reduceIte,h8]
  refine NX_.w Xm_ (by omega) ?_
  simp only[AD_,Ac,W_oS,W_on,Aa,W_mv,Ab,T.get_set,Ag,Af,Ae,reduceIte,Nat.reduceEqDiff,reduceCtorEq, ↓reduceIte,h0,h1,C7 VB hil]
  refine W.load1 CN (ho.same hm hnx).at' ?_
  have y1:=hx.thenRd hb0 (b+(0+i*1))
  try simp only[Bb_]
  refine RG_ (P:=P) (y1.bnd hb0) (hp _ (List.getElem_mem hil)) ((hP.same hm hnx).same rfl rfl) (by omega) fun s2 m2 n2 x2=> ?_
  have y2:=y1.on x2 hb0 fun _ _ h=>h
  try simp only[Ac,W_oS,W_on,Aa,W_mv,Ab,Ap,T.get_set,Ag,Af,Ar,Aq,Ae,Ah,reduceIte,Ak,As,Av,Aw,Ao,Aj,An,Au,Al,Ai,Nat.reduceEqDiff,reduceCtorEq, ↓reduceIte]
  refine W.cond (v:=false) Afh_ AaG_ (by simp[T.get_set]) (by omega) (fun h=>by cases h) fun _=> ?_
  refine Adm_.w Ro_ (by omega) ?_
  have ei:wrap64 ((i:Nat)+1:Int)=((i+1:Nat):Int):=by
   rw[BZ (by omega) (by omega)];simp
  simp only[Dz_,Ac,W_oS,Aa,W_mv,Ab,T.get_set,reduceIte,Nat.reduceEqDiff, ↓reduceIte,BB,h8,ei]
  exact ih (i+1) _ _ _ _ (by omega) (by omega) MW_ y2 (m2.trans hm) (n2.trans hnx) (by simp[T.get_set,h0]) (by simp[T.get_set,h1]) (by simp[T.get_set,h7]) (by simp[T.get_set])
theorem Agf_ {l:List ByteArray}{v:Value}{b:Nat}(hb:s.lim≤s.next)(hl:l.length≤300)(hr:NmR s v l b)(hp: ∀a∈l,HasP a p)(hP:Own s P 0 (.string p))(hn:10*l.length+300≤n)(q: ∀s1,s1.mem=s.mem→s1.next=s.next→Ext Any Non s s1→Q v s1):W (Ay envS (runF envS n) 49 [v, .func (.func 50) #[] #[.pointer (some ⟨P,0,none⟩)]]) s Q:=by
 have hb0:(s.cxN cxN).lim≤(s.cxN cxN).next:=hb
 refine JK_ fun tm h0 h1=> ?_
 refine Uh_.w rfl (by omega) ?_
 simp only[XD,Aa,W_mv,Ab]
 refine Xk_.w TH_ (by omega) ?_
 simp only[AH_,Ac,W_on,Aa,W_mv,Ab,T.get_set,Ag,Af,Ae,Ah,reduceIte,Nat.reduceEqDiff,reduceCtorEq, ↓reduceIte,h0,h1]
 refine AcA_ fun tm2 g0 g1=> ?_
 refine Agp_.w rfl (by omega) ?_
 simp only[Yv,Aa,W_mv,Ab]
 refine OK_.w Agh_ (by omega) ?_
 simp only[Fi_,Ac,W_oS,Aa,W_mv,Ab,T.get_set,Ag,Af,Ae,reduceIte,reduceCtorEq, ↓reduceIte,g0,MkS.lenq hr VB]
 refine Ij_ (P:=P) (s0:=(s.cxN cxN).cxN cxN) hb hl (MkS.same hr rfl rfl) hp (hP.same rfl rfl) rfl (fun s1 m1 n1 x1=> ?_) l.length 0 _ _ _ _ (by omega) (by omega) Ko_ (Ext.refl _) rfl rfl (by simp[T.get_set,g0]) (by simp[T.get_set,g1]) (by simp[T.get_set]) (by simp[T.get_set])
 show W _ (s1.cxN cxN) _
 try simp only[Ac]
 refine TF_.w Aeq_ (by omega) ?_
 simp only[Ac_,Ac,W_oS,Aa,W_mv,Ab,T.get_set,reduceIte, ↓reduceIte,BW,decide_true]
 refine W.cond (v:=true) Ug_ WN_ (by simp[T.get_set]) (by omega) (fun _=> ?_) fun h=>by cases h
 refine Qs_.w HS_ (by omega) ?_
 simp only[XV,Aa,W_mv,Ab,T.get_set,reduceIte,reduceCtorEq, ↓reduceIte,h0]
 refine W.end' (rs:=[4]) (vs:=[v]) QH_ (.inl ON_) (by omega) DK_ VV_ rfl (by simp[T.get_set]) ?_
 exact q _ m1 n1 ⟨x1.nxt,x1.lim,rfl,x1.mem,x1.rd,x1.wr⟩
theorem Uo {D M:Nat}{k:DkS}{col:Nat→Nat}(hb:s.lim≤s.next)(hI:DkI s col D M k)(hN:NmsOk (k.fs.map FileS.name))(hp: ∀a∈k.fs.map FileS.name,HasP a p)(hn:10*k.fs.length+500≤n)(q: ∀s1 v b,s.next≤b→NmR s1 v (k.fs.map FileS.name) b→Ext Any Non s s1→Q v s1):W (Ay envS (runF envS n) 18 [.pointer (some ⟨D,0,none⟩), .string p]) s Q:=by
 have hb0:(s.cxN cxN).lim≤(s.cxN cxN).next:=hb
 have hI0:DkI (s.cxN cxN) col D M k:=hI.same rfl rfl
 have hlen:k.fs.length≤300:=by have:=hN.len;simpa using this
 refine KT_ fun tm t0 t1=> ?_
 refine Zd_.w rfl (by omega) ?_
 simp only[W4,Ac,W_oS,Aa,W_mv,Ab,t1]
 refine W.box fun s1 n1 x1 o1=> ?_
 have ea:(s.cxN cxN).next=s.next:=rfl
 rw[DK (show oneCell (.string p)=true from rfl)]at n1 o1
 rw[ea]at o1 n1 ⊢
 have n1':s1.next=s.next+2:=n1
 have y1:Ext Any Non (s.cxN cxN) s1:=x1.weak hb0 (fun _ _ _=>trivial) fun _ _ h=>h
 have hI1:=hI0.ext0 x1 hlen
 have oP:Own s1 s.next 0 (.string p):=o1 0 _ rfl
 try simp only[Ac,W_oS,W_on,Aa,W_mv,Ab,Ap,T.get_set,Ag,Af,Ar,Aq,Ae,Ah,reduceIte,Ak,As,Av,Aw,Ao,Aj,An,Au,Al,Ai,Nat.reduceEqDiff,reduceCtorEq, ↓reduceIte]
 refine Rp_.w OX_ (by omega) ?_
 simp only[DN_,Ac,W_on,Aa,W_mv,Ab,T.get_set,Ag,Af,Ae,Ah,reduceIte,reduceCtorEq, ↓reduceIte,t0]
 refine I8 (y1.bnd hb0) hI1.d0 (by omega) fun s2 m2 n2 x2=> ?_
 have y2:=y1.on x2 hb0 fun _ _ h=>h
 have hI2:=hI1.same m2 n2
 have oP2:=oP.same m2 n2
 try simp only[Ac,W_oS,W_on,Aa,W_mv,Ab,Ap,T.get_set,Ag,Af,Ar,Aq,Ae,Ah,reduceIte,Ak,As,Av,Aw,Ao,Aj,An,Au,Al,Ai,Nat.reduceEqDiff,reduceCtorEq, ↓reduceIte]
 refine W.cond (v:=false) PA_ Ady_ (by simp[T.get_set]) (by omega) (fun h=>by cases h) fun _=> ?_
 refine Ik_.w Ke_ (by omega) ?_
 simp only[Yw,Ac,W_oS,W_on,Aa,W_mv,Ab,T.get_set,Ag,Af,Ae,Ah,reduceIte,Ai,reduceCtorEq, ↓reduceIte,t0,Bg DE (by decide)]
 refine W.load1 DI hI2.d1.at' ?_
 have y3:=y2.thenRd hb0 (D+(0+1))
 have hI3:DkI (s2.rdN (D+(0+1))) col D M k:=hI2.same rfl rfl
 have oP3:Own (s2.rdN (D+(0+1))) s.next 0 (.string p):=oP2.same rfl rfl
 have n3:(s2.rdN (D+(0+1))).next=s.next+2:=n2.trans n1'
 generalize s2.rdN (D+(0+1))=s3 at *
 try simp only[Ac,W_oS,W_on,Aa,W_mv,Ab,Ap,T.get_set,Ag,Af,Ar,Aq,Ae,Ah,reduceIte,Ak,As,Av,Aw,Ao,Aj,An,Au,Al,Ai,Nat.reduceEqDiff,reduceCtorEq, ↓reduceIte]
 refine W.orc SX_ (W.keysQ fun s4 n4 x4 o4=> ?_)
 have y4:=y3.on x4 hb0 fun _ _ h=>h
 have hI4:=hI3.ext0 x4 hlen
 have oP4:=oP3.ext0 x4
 rw[n3]at o4 n4 ⊢
 try simp only[Ac,W_oS,W_on,Aa,W_mv,Ab,Ap,T.get_set,Ag,Af,Ar,Aq,Ae,Ah,reduceIte,Ak,As,Av,Aw,Ao,Aj,An,Au,Al,Ai,Nat.reduceEqDiff,reduceCtorEq, ↓reduceIte]
 refine W.orc AdF_ (W.sortedQ (y4.bnd hb0) o4 hI4.om hI4.bo hN fun s5 v mk x5=> ?_)
 have y5:=y4.on x5 hb0 fun _ _ h=>h
 have oP5:=oP4.ext0 x5
 try simp only[Ac,W_oS,W_on,Aa,W_mv,Ab,Ap,T.get_set,Ag,Af,Ar,Aq,Ae,Ah,reduceIte,Ak,As,Av,Aw,Ao,Aj,An,Au,Al,Ai,Nat.reduceEqDiff,reduceCtorEq, ↓reduceIte]
 refine Vb_.w Kc_ (by omega) ?_
 simp only[Vk,Ac,W_oS,W_on,Aa,W_mv,Ab,T.get_set,Ag,Af,Ae,Ah,reduceIte,Nat.reduceEqDiff, ↓reduceIte]
 have hr:NmR s5 v (k.fs.map FileS.name) s4.next:=by
  unfold NmR
  rw[List.length_map]
  exact mk
 refine Agf_ (P:=s.next) (y5.bnd hb0) hN.len hr hp oP5 (by simp;omega) fun s6 m6 n6 x6=> ?_
 have y6:=y5.on x6 hb0 fun _ _ h=>h
 try simp only[Ac,W_oS,W_on,Aa,W_mv,Ab,Ap,T.get_set,Ag,Af,Ar,Aq,Ae,Ah,reduceIte,Ak,As,Av,Aw,Ao,Aj,An,Au,Al,Ai,Nat.reduceEqDiff,reduceCtorEq, ↓reduceIte]
 refine W.end' (rs:=[4]) (vs:=[v]) Mu_ (.inl Pv_) (by omega) EO_ Xr_ y6.cx (by simp[T.get_set]) ?_
 exact q _ v s4.next (by omega) (MkS.same (MkS.same hr m6 n6) rfl rfl) y6.cx'
end
def digL (k:Nat):List UInt8:=if k<10 then [UInt8.ofNat (48+k)]else [UInt8.ofNat (48+k/10),UInt8.ofNat (48+k%10)]
def preL:List UInt8:=[106,111,117,114,110,97,108,46]
def digJ (k:Nat):ByteArray:=⟨(digL k).toArray⟩
def preJ:ByteArray:=⟨preL.toArray⟩
def nmJ (k:Nat):ByteArray:=⟨(preL++digL k).toArray⟩
theorem C1 {α:Type}{f g:Nat→α}{n:Nat}(h:(List.range n).map f=(List.range n).map g){k:Nat}(hk:k<n):f k=g k:=by
 have:=congrArg (fun l=>l[k]?) h
 simp only[List.getElem?_map,List.getElem?_range hk,Option.map_some,Option.some.injEq]at this
 exact this
theorem KU_:((List.range 40).map fun k:Nat=>valR (callF envC 1000 39 [.int .i64 (k:Nat)] st0))=(List.range 40).map fun k=>some (.string (digJ k)):=by kernel_rfl
theorem UM_:((List.range 40).map fun k:Nat=>(valR (callF envC 1000 61 [.string (digJ k)] st0)).map fun v=>(v,plain v))=(List.range 40).map fun k:Nat=>some (.tuple #[.int .i64 (k:Nat), .nilIface],true):=by kernel_rfl
theorem RS_:((List.range 40).map fun k:Nat=>valR (callF envC 1000 60 [.string (nmJ k), .string preJ] st0))=(List.range 40).map fun k=>some (.string (digJ k)):=by kernel_rfl
theorem KQ_:((List.range 40).map fun k:Nat=>valR (callF envC 1000 51 [.string (nmJ k), .string preJ] st0))=(List.range 40).map fun _=>some (.bool true):=by kernel_rfl
theorem Va_:((List.range 40).map fun k:Nat=>valR (callF envC 1000 51 [.string (nmJ k), .string ⟨#[]⟩] st0))=(List.range 40).map fun _=>some (.bool true):=by kernel_rfl
theorem Aaz_:((List.range 40).map fun k:Nat=>valR (callF envC 1000 33 [.string (nmJ k)] st0))=(List.range 40).map fun _=>some (.bool true):=by kernel_rfl
theorem Rv {k:Nat}(h:k<40):NmOk (nmJ k):=C1 Aaz_ h
theorem Zx_ {k:Nat}(h:k<40):HasP (nmJ k) preJ:=C1 KQ_ h
theorem Vx_ {k:Nat}(h:k<40):HasP (nmJ k) ⟨#[]⟩:=C1 Va_ h
theorem QJ_:envS.orc.get 39=some (pureM envC 1000 39):=by kernel_rfl
theorem Qh_:envS.orc.get 61=some (pureM envC 1000 61):=by kernel_rfl
theorem WF_:envS.orc.get 60=some (pureM envC 1000 60):=by kernel_rfl
theorem W.itoa {n k:Nat}{s:St}{Q:Value→St→Prop}(h:k<40)(q:Q (.string (digJ k)) s):W (Ay envS (runF envS n) 39 [.int .i64 (k:Nat)]) s Q:=
 W.orc QJ_ (W.pureM rfl (C1 KU_ h) rfl q)
theorem W.trim {n k:Nat}{s:St}{Q:Value→St→Prop}(h:k<40)(q:Q (.string (digJ k)) s):W (Ay envS (runF envS n) 60 [.string (nmJ k), .string preJ]) s Q:=
 W.orc WF_ (W.pureM rfl (C1 RS_ h) rfl q)
theorem W.atoi {n k:Nat}{s:St}{Q:Value→St→Prop}(h:k<40)(q:Q (.tuple #[.int .i64 (k:Nat), .nilIface]) s):W (Ay envS (runF envS n) 61 [.string (digJ k)]) s Q:=by
 have e:=C1 UM_ h
 obtain⟨v,e1,e2⟩:=Option.map_eq_some_iff.1 e
 simp only[Prod.mk.injEq]at e2
 obtain⟨rfl,e3⟩:=e2
 exact W.orc Qh_ (W.pureM rfl e1 e3 q)
theorem Iw:slN envS 63=some 1:=by kernel_rfl
theorem Sv_:intK envS 113=some .u64:=by kernel_rfl
theorem OS_:Vc=[]:=by kernel_rfl
theorem MU_:Ei_=[]:=by kernel_rfl
theorem Iu_ (m:Nat)(mem:T Cell)(next lim:Nat)(rd wr:List Nat)(cx:Ctx):Ay envS (runF envS (m+30)) 79 [.int .u64 0] ⟨mem,next,lim,rd,wr,cx⟩= .some (.int .i64 0) ⟨mem,next,lim,rd,wr,cx⟩:=by kernel_rfl
theorem SF_ (m:Nat)(mem:T Cell)(next lim:Nat)(rd wr:List Nat)(cx:Ctx):Ay envS (runF envS (m+30)) 79 [.int .u64 1] ⟨mem,next,lim,rd,wr,cx⟩= .some (.int .i64 1) ⟨mem,next,lim,rd,wr,cx⟩:=by kernel_rfl
section
variable {n:Nat}{s:St}{Q:Value→St→Prop}
theorem W.len01 {k:Nat}(hk:k≤1)(hn:30≤n)(q:Q (.int .i64 (k:Nat)) s):W (Ay envS (runF envS n) 79 [.int .u64 (k:Nat)]) s Q:=by
 obtain⟨m,rfl⟩: ∃m,n=m+30:=⟨n-30,by omega⟩
 obtain⟨mem,next,lim,rd,wr,cx⟩:=s
 have h:k=0∨k=1:=by omega
 rcases h with rfl|rfl
 ·exact W.of (Iu_ m mem next lim rd wr cx) q
 ·exact W.of (SF_ m mem next lim rd wr cx) q
theorem QL_ {v:Value}{k:Nat}(hk:k≤1)(hn:20≤n)(q:Q (.tuple #[]) s):W (Ay envS (runF envS n) 90 [v, .int .i64 0, .int .i64 (k:Nat)]) s Q:=by
 refine RM_ fun tm t0 t1 t2=> ?_
 have e1:wrap64 ((0:Int)+1)=1:=by decide
 refine AdO_.w rfl (by omega) ?_
 simp only[W8,Ac,W_oS,Aa,W_mv,Ab,BB,t1,e1]
 refine ZW_.w Ul_ (by omega) ?_
 simp only[EY_,Ac,W_oS,Aa,W_mv,Ab,T.get_set,reduceIte,Nat.reduceEqDiff, ↓reduceIte,Bk,t2]
 refine W.cond (v:=false) WJ_ ZI_ (by simp[T.get_set];omega) (by omega) (fun h=>by cases h) fun _=> ?_
 refine W.end' (rs:=[]) (vs:=[]) Os_ (.inr OS_) (by omega) Fj_ KG_ rfl rfl ?_
 exact q
theorem Xt {v:Value}{k b:Nat}{l:List Value}(hk:k≤1)(hr:MkS s 1 k l v b)(hn:100≤n)(q:Q (.tuple #[]) s):W (Ay envS (runF envS n) 62 [v]) s Q:=by
 refine Abw_ fun tm t0=> ?_
 refine MI_.w rfl (by omega) ?_
 simp only[ZQ,Ac,W_oS,Aa,W_mv,Ab,Ag,Af,Ae,t0,MkS.lenq hr Iw]
 refine Na_.w PP_ (by omega) ?_
 have ew:IntKind.u64.wrap ((k:Nat):Int)=((k:Nat):Int):=by rw[IntKind.wrap_u64];omega
 simp only[ZM,Ac,W_oS,W_on,Aa,W_mv,T.get_set,Ag,Af,Ae,Ah,reduceIte,reduceCtorEq, ↓reduceIte,t0,EP Hi Sv_,ew]
 refine W.len01 hk (by omega) ?_
 try simp only[Ac,W_oS,W_on,Aa,W_mv,Ab,Ap,T.get_set,Ag,Af,Ar,Aq,Ae,Ah,reduceIte,Ak,As,Av,Aw,Ao,Aj,An,Au,Al,Ai,Nat.reduceEqDiff,reduceCtorEq, ↓reduceIte]
 refine XI_ fun tmp p0 p1 p2 p3=> ?_
 refine AdZ_.w rfl (by omega) ?_
 simp only[Zp,Aa,W_mv,Ab]
 refine AfT_.w NZ_ (by omega) ?_
 simp only[Gt_,Aa,W_mv,Ab]
 refine No_.w AcG_ (by omega) ?_
 have es:wrap64 (((k:Nat):Int)-0)=((k:Nat):Int):=by rw[BZ (by omega) (by omega)];omega
 simp only[V2,Ac,W_oS,Aa,W_mv,Ab,T.get_set,reduceIte,Nat.reduceEqDiff, ↓reduceIte,Cc,p1,p2,es]
 refine QT_.w AeD_ (by omega) ?_
 simp only[BT_,Ac,W_oS,Aa,W_mv,Ab,T.get_set,reduceIte, ↓reduceIte,Co]
 refine W.cond (v:=true) KP_ IC_ (by simp[T.get_set];omega) (by omega) (fun _=> ?_) fun h=>by cases h
 refine HU_.w Abp_ (by omega) ?_
 simp only[VE,Ac,W_on,Aa,W_mv,T.get_set,Ag,Af,Ae,Ah,reduceIte,Nat.reduceEqDiff,reduceCtorEq, ↓reduceIte,p0,p1,p2]
 refine QL_ hk (by omega) ?_
 try simp only[Ac,W_oS,W_on,Aa,W_mv,Ab,Ap,T.get_set,Ag,Af,Ar,Aq,Ae,Ah,reduceIte,Ak,As,Av,Aw,Ao,Aj,An,Au,Al,Ai,Nat.reduceEqDiff,reduceCtorEq, ↓reduceIte]
 refine W.end' (rs:=[]) (vs:=[]) Js_ (.inl SZ_) (by omega) Yi Wo_ rfl rfl ?_
 try simp only[Ac,W_oS,W_on,Aa,W_mv,Ab,Ap,T.get_set,Ag,Af,Ar,Aq,Ae,Ah,reduceIte,Ak,As,Av,Aw,Ao,Aj,An,Au,Al,Ai,Nat.reduceEqDiff,reduceCtorEq, ↓reduceIte]
 refine W.end' (rs:=[]) (vs:=[]) HD_ (.inr MU_) (by omega) Ws Id_ rfl rfl ?_
 exact q
end
theorem Hz:slN envS 41=some 1:=by kernel_rfl
theorem Aeb_:elT envS 63=some (1,8,[.int .i64 0]):=by kernel_rfl
theorem AdL_:appT envS 63 63=some (1,8,false,[.int .i64 0]):=by kernel_rfl
theorem Abo_ (n:Int):Do (fun k=>some (k*1,1)) [(0, .int .i64 n)] (rep 1 [.int .i64 0])=some [.int .i64 n]:=rfl
theorem KW_ (k:Nat)(s:St):Cl.get (aBin envS .eql 108 (.tmp k) (.const .nilIface)) .nilIface .nilIface s= .some (.bool true) s:=by kernel_rfl
theorem OE_ (k:Nat){s:St}(Q:Value→St→Prop):W (Cl.get (aBin envS .eql 108 (.tmp k) (.const .nilIface)) .nilIface .nilIface) s Q=Q (.bool true) s:=Bp (KW_ k s)
theorem Un {E:Env}{s:St}{t sz b o m c:Nat}(h:slN E t=some sz)(hk:0<m)(Q:Value→St→Prop):W (BD E t (.slice (some ⟨b,o,none⟩) m c) (.int .i64 0)) s Q=Q (.pointer (some ⟨b,o+0*sz,none⟩)) s:=C7 (k:=0) h hk Q
theorem nms1:((List.range 40).map fun i:Nat=>FG ([nmJ i].map (·.data.toList)))=(List.range 40).map fun _=>true:=by kernel_rfl
theorem nms2:((List.range 40).map fun i:Nat=>Fv ([nmJ i].map (·.data.toList)) 1000000)=(List.range 40).map fun _=>true:=by kernel_rfl
theorem nms3:((List.range 40).map fun i:Nat=>Fs ([nmJ i].map (·.data.toList)))=(List.range 40).map fun i=>[nmJ i].map (·.data.toList):=by kernel_rfl
theorem Eb_ {i:Nat}(h:i<40):NmsOk [nmJ i]:=⟨C1 nms1 h,C1 nms2 h,C1 nms3 h,by simp⟩
theorem Acn_:NmsOk []:=⟨by kernel_rfl,by kernel_rfl,by kernel_rfl,by decide⟩
section
variable {n D M:Nat}{s:St}{col:Nat→Nat}{k:DkS}{Q:Value→St→Prop}
theorem OL_ (hb:s.lim≤s.next)(hI:DkI s col D M k)(h0:k.fs=[])(hn:1000≤n)(q: ∀s1,Ext Any Non s s1→Q (.slice none 0 0) s1):W (Ay envS (runF envS n) 38 [.pointer (some ⟨D,0,none⟩)]) s Q:=by
 have hb0:(s.cxN cxN).lim≤(s.cxN cxN).next:=hb
 have hl0:k.fs.length=0:=by rw[h0];rfl
 refine YA fun tm t0=> ?_
 refine Zt.w rfl (by omega) ?_
 simp only[OT,Aa,W_mv,Ab]
 refine Gv_.w X6 (by omega) ?_
 simp only[SU,Aa,W_mv,Ab]
 refine Xw.w Aw_ (by omega) ?_
 simp only[Ub,Ac,W_oS,W_on,Aa,W_mv,Ab,T.get_set,Ag,Af,Ae,Ah,reduceIte,reduceCtorEq, ↓reduceIte,t0]
 refine Uo (p:=preJ) hb0 (hI.same (s':=s.cxN cxN) rfl rfl) (by rw[h0];exact Acn_) (by rw[h0];intro a ha;cases ha) (by omega) fun s1 v b hb1 hr x1=> ?_
 rw[h0]at hr
 have hr:MkS s1 1 0 [] v b:=hr
 simp only[MkS.lenq hr Hz]
 refine Sk.w BE_ (by omega) ?_
 simp only[Mt,Ac,W_oS,Aa,Ab,T.get_set,reduceIte,Nat.reduceEqDiff, ↓reduceIte,Bk]
 refine W.cond (v:=false) RR RP (by simp[T.get_set]) (by omega) (fun h=>by cases h) fun _=> ?_
 refine Za.w XI (by omega) ?_
 simp only[Qe,Ac,W_on,Aa,W_mv,T.get_set,Ag,Af,Ae,Ah,reduceIte,Nat.reduceEqDiff, ↓reduceIte]
 refine Xt (k:=0) (l:=[]) (b:=0) (by omega) (.inl ⟨rfl,rfl,rfl⟩) (by omega) ?_
 try simp only[Ac,W_oS,W_on,Aa,W_mv,Ab,Ap,T.get_set,Ag,Af,Ar,Aq,Ae,Ah,reduceIte,Ak,As,Av,Aw,Ao,Aj,An,Au,Al,Ai,Nat.reduceEqDiff,reduceCtorEq, ↓reduceIte]
 refine EP_.w Am_ (by omega) ?_
 simp only[Rt,Aa,W_mv,Ab,T.get_set,reduceIte,Nat.reduceEqDiff, ↓reduceIte]
 refine W.end' (rs:=[2]) (vs:=[.slice none 0 0]) Du_ (.inl Yt) (by omega) Rl GM_ x1.cx (by simp[T.get_set]) ?_
 exact q _ x1.cx'
theorem AeJ_ {g:FileS}{i:Nat}(hb:s.lim≤s.next)(hI:DkI s col D M k)(h1:k.fs=[g])(hg:g.name=nmJ i)(hi:i<40)(hi1:1≤i)(hn:1000≤n)(q: ∀s1 v b,s.next≤b→MkS s1 1 1 [.int .i64 (i:Nat)] v b→Ext Any Non s s1→Q v s1):W (Ay envS (runF envS n) 38 [.pointer (some ⟨D,0,none⟩)]) s Q:=by
 have hb0:(s.cxN cxN).lim≤(s.cxN cxN).next:=hb
 have ea:(s.cxN cxN).next=s.next:=rfl
 have hl0:k.fs.length=1:=by rw[h1];rfl
 have hnm:k.fs.map FileS.name=[nmJ i]:=by rw[h1];show [g.name]=_;rw[hg]
 refine YA fun tm t0=> ?_
 refine Zt.w rfl (by omega) ?_
 simp only[OT,Aa,W_mv,Ab]
 refine Gv_.w X6 (by omega) ?_
 simp only[SU,Aa,W_mv,Ab]
 refine Xw.w Aw_ (by omega) ?_
 simp only[Ub,Ac,W_oS,W_on,Aa,W_mv,Ab,T.get_set,Ag,Af,Ae,Ah,reduceIte,reduceCtorEq, ↓reduceIte,t0]
 refine Uo (p:=preJ) hb0 (hI.same (s':=s.cxN cxN) rfl rfl) (by rw[hnm];exact Eb_ hi) (by rw[hnm];intro a ha;rw[List.mem_singleton.1 ha];exact Zx_ hi) (by omega) fun s1 v b hb1 hr x1=> ?_
 rw[hnm]at hr
 have hr':MkS s1 1 1 [Value.string (nmJ i)] v b:=hr
 obtain⟨c,rfl,ho⟩:=NmR.at hr (i:=0) (by simp)
 simp only[MkS.lenq hr' Hz]
 refine Sk.w BE_ (by omega) ?_
 simp only[Mt,Ac,W_oS,Aa,Ab,T.get_set,reduceIte,Nat.reduceEqDiff, ↓reduceIte,Bk]
 refine W.cond (v:=true) RR RP (by simp[T.get_set]) (by omega) (fun _=> ?_) fun h=>by cases h
 refine Xd_.w VY_ (by omega) ?_
 simp only[Vt,Ac,W_oS,Aa,W_mv,Ab,T.get_set,reduceIte,Nat.reduceEqDiff, ↓reduceIte,Un Hz (show 0<[nmJ i].length by simp)]
 refine W.load1 CN ho.at' ?_
 have y1:=x1.thenRd hb0 (b+(0+0*1))
 generalize s1.rdN (b+(0+0*1))=s2 at *
 try simp only[Ac,W_oS,W_on,Aa,W_mv,Ab,Ap,T.get_set,Ag,Af,Ar,Aq,Ae,Ah,reduceIte,Ak,As,Av,Aw,Ao,Aj,An,Au,Al,Ai,Nat.reduceEqDiff,reduceCtorEq, ↓reduceIte]
 refine Nn_.w Tq_ (by omega) ?_
 simp only[ES_,Ac,W_on,Aa,W_mv,Ab,T.get_set,Ag,Af,Ae,Ah,reduceIte, ↓reduceIte]
 refine W.trim hi ?_
 try simp only[Ac,W_oS,W_on,Aa,W_mv,Ab,Ap,T.get_set,Ag,Af,Ar,Aq,Ae,Ah,reduceIte,Ak,As,Av,Aw,Ao,Aj,An,Au,Al,Ai,Nat.reduceEqDiff,reduceCtorEq, ↓reduceIte]
 refine Aai_.w PY_ (by omega) ?_
 simp only[BS_,Ac,W_oS,W_on,Aa,W_mv,Ab,T.get_set,Ag,Af,Ae,Ah,reduceIte, ↓reduceIte]
 refine W.atoi hi ?_
 try simp only[Ac,W_oS,W_on,Aa,W_mv,Ab,Ap,T.get_set,Ag,Af,Ar,Aq,Ae,Ah,reduceIte,Ak,As,Av,Aw,Ao,Aj,An,Au,Al,Ai,Nat.reduceEqDiff,reduceCtorEq, ↓reduceIte]
 rw[Bv (k:=0) rfl]
 try simp only[Ac,W_oS,W_on,Aa,W_mv,Ab,Ap,T.get_set,Ag,Af,Ar,Aq,Ae,Ah,reduceIte,Ak,As,Av,Aw,Ao,Aj,An,Au,Al,Ai,Nat.reduceEqDiff,reduceCtorEq, ↓reduceIte]
 rw[Bv (k:=1) rfl]
 try simp only[Ac,W_oS,W_on,Aa,W_mv,Ab,Ap,T.get_set,Ag,Af,Ar,Aq,Ae,Ah,reduceIte,Ak,As,Av,Aw,Ao,Aj,An,Au,Al,Ai,Nat.reduceEqDiff,reduceCtorEq, ↓reduceIte]
 refine In_.w AeT_ (by omega) ?_
 have d1:decide (((i:Nat):Int)≥1)=true:=decide_eq_true (by omega)
 have d2:decide (((i:Nat):Int)≤2147483647)=true:=decide_eq_true (by omega)
 simp only[Zu,Ac,W_oS,W_on,Aa,W_mv,Ab,T.get_set,Ag,Af,Ae,Ah,reduceIte,Ak,As,Aj,An,Al,Nat.reduceEqDiff, ↓reduceIte,Co,Cg,OE_,d1,d2]
 refine W.itoa hi ?_
 simp only[Adv_,beq_self_eq_true]
 refine W.cond (v:=true) Uk_ Uy_ (by simp[T.get_set]) (by omega) (fun _=> ?_) fun h=>by cases h
 refine Aaj_.w Ms_ (by omega) ?_
 simp only[GT_,Ac,W_oS,Aa,W_mv,Ab,T.get_set,Ag,Af,Ar,Aq,Ae,reduceIte,Nat.reduceEqDiff, ↓reduceIte]
 refine W.buildS (y1.bnd hb0) (r:=[.int .i64 (i:Nat)]) Aeb_ (by decide) (Abo_ _) (Cp (by decide)) fun s3 n3 x3 r3=> ?_
 have y3:=y1.on x3 hb0 fun _ _ h=>h
 try simp only[Ac,W_oS,W_on,Aa,W_mv,Ab,Ap,T.get_set,Ag,Af,Ar,Aq,Ae,Ah,reduceIte,Ak,As,Av,Aw,Ao,Aj,An,Au,Al,Ai,Nat.reduceEqDiff,reduceCtorEq, ↓reduceIte]
 rw[IM]
 refine W.appU (s:=s3) (old:=[]) (len:=0) (b:=0) (y3.bnd hb0) AdL_ (.inl ⟨rfl,rfl,rfl⟩) (ZC (n:=1) (c:=1) (Bc.row r3) rfl).g (by decide) (by decide) (by decide) (by omega) rfl rfl fun s4 v4 b4 hb4 mk4 x4=> ?_
 have y4:Ext Any Non (s.cxN cxN) s4:=y3.on x4 hb0 fun x hx h=>by
  have h1:=h.1
  have h2:=h.2
  omega
 try simp only[Ac,W_oS,W_on,Aa,W_mv,Ab,Ap,T.get_set,Ag,Af,Ar,Aq,Ae,Ah,reduceIte,Ak,As,Av,Aw,Ao,Aj,An,Au,Al,Ai,Nat.reduceEqDiff,reduceCtorEq, ↓reduceIte]
 refine Ob_.w Acm_ (by omega) ?_
 have e1:wrap64 ((0:Int)+1)=1:=by decide
 simp only[Wz,Ac,W_oS,Aa,W_mv,Ab,T.get_set,reduceIte,Nat.reduceEqDiff, ↓reduceIte,BB,e1]
 refine Sk.w Ie_ (by omega) ?_
 simp only[Mt,Ac,W_oS,Aa,Ab,T.get_set,reduceIte,Nat.reduceEqDiff, ↓reduceIte,Bk]
 refine W.cond (v:=false) RR RP (by simp[T.get_set]) (by omega) (fun h=>by cases h) fun _=> ?_
 refine Za.w XI (by omega) ?_
 simp only[Qe,Ac,W_on,Aa,W_mv,T.get_set,Ag,Af,Ae,Ah,reduceIte,Nat.reduceEqDiff, ↓reduceIte]
 have mk4':MkS s4 1 1 [.int .i64 (i:Nat)] v4 b4:=mk4
 refine Xt (k:=1) (by omega) mk4' (by omega) ?_
 try simp only[Ac,W_oS,W_on,Aa,W_mv,Ab,Ap,T.get_set,Ag,Af,Ar,Aq,Ae,Ah,reduceIte,Ak,As,Av,Aw,Ao,Aj,An,Au,Al,Ai,Nat.reduceEqDiff,reduceCtorEq, ↓reduceIte]
 refine EP_.w Am_ (by omega) ?_
 simp only[Rt,Aa,W_mv,Ab,T.get_set,reduceIte,Nat.reduceEqDiff, ↓reduceIte]
 refine W.end' (rs:=[2]) (vs:=[v4]) Du_ (.inl Yt) (by omega) Rl GM_ y4.cx (by simp[T.get_set]) ?_
 exact q _ v4 b4 (by have:=y3.nxt;omega) (mk4'.same rfl rfl) y4.cx'
end
end Go.Proofs.YtndednnianphoaaGreatDoor.Am
