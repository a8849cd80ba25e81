import Derived.Test.YtheboekhpelhlaaDSb13
namespace Go.Proofs.Ytheboekhpelhlaa.Am
open Go.RowKit
section
variable {P:Program}{t:Nat}
theorem Vr (a:ByteArray): ∀(es:List MapEntry) (ns:List ByteArray) (i:Nat),es.map (·.key)=ns.map Value.string-> ∃r,Instr.findNow .string (.string a) (C9 es) i=some r/\r.map (·.1)=(ns.findIdx? λb=>a==b).map (i+ ·)
 |[],[],i,_=>⟨none,rfl,rfl⟩
 |[],_::_,i,h=>by cases h
 |_::_,[],i,h=>by cases h
 |e::es,n::ns,i,h=>by
  simp only[List.map_cons,List.cons.injEq]at h
  obtain⟨h1,h2⟩:=h
  obtain⟨r,h3,h4⟩:=Vr a es ns (i+1) h2
  have hs:Instr.sameNow .string (.string a) e.key=some (a==n):=by rw[h1];rfl
  have hu:Instr.findNow .string (.string a) (C9 (e::es)) i=(match Instr.sameNow .string (.string a) e.key with
   |some true=>some (some (i,undef))
   |some false=>Instr.findNow .string (.string a) (C9 es) (i+1)
   |none=>none):=rfl
  rw[hu,hs]
  cases hq:a==n with
  |true=>exact⟨some (i,undef),rfl,by rw[List.findIdx?_cons,hq];rfl⟩
  |false=>
   refine⟨r,h3, ?_⟩
   rw[h4,List.findIdx?_cons,hq]
   simp only[Bool.false_eq_true,if_false,Option.map_map]
   congr 1
   funext x
   simp only[Function.comp]
   omega
theorem Agf_ {d:Nat}{b:Bool}{a:Value}(hu:P.underlying t=some .string):semP P (Instr.checkKey b (d+1) t a)=some ():=by
 unfold Instr.checkKey
 simp only[Dj,Lu hu,Option.bind_some]
 rfl
end
section
variable {E:Env}{s:St}{t kt et l m:Nat}{a:ByteArray}{es:List MapEntry}{ns:List ByteArray}
theorem Iw (hk:E.P.underlying kt=some .string)(he:es.map (·.key)=ns.map Value.string)(b:Bool):Cx E b kt (.string a) es s= .some (ns.findIdx? λx=>a==x) s:=by
 obtain⟨r,h1,h2⟩:=Vr a es ns 0 he
 have hf:semP E.P (Instr.findKey kt (.string a) (C9 es))=some r:=by
  unfold Instr.findKey
  rw[Dj,Lu hk]
  simp only[Option.bind_some,h1]
  rfl
 have h3:r.map (·.1)=ns.findIdx? λx=>a==x:=by
  rw[h2]
  cases ns.findIdx? λx=>a==x<;>simp
 unfold Cx
 show M.on (semP E.P (do Instr.checkKey b (9999+1) kt (.string a);Instr.findKey kt (.string a) (C9 es))) (λr=>M.pure (r.map (·.1))) s=_
 rw[Dj,Agf_ hk]
 simp only[Option.bind_some]
 rw[hf]
 show M.pure (r.map (·.1)) s=_
 rw[h3]
 rfl
theorem W.lookS1 {j:Nat}{e:MapEntry}{Q:Value->St->Prop}(hT: ∀s,mapT E t s= .some (kt,et) s)(hk:E.P.underlying kt=some .string)(he:es.map (·.key)=ns.map Value.string)(hj:(ns.findIdx? λx=>a==x)=some j)(hej:es[j]?=some e)(ho:Obj s l (.map es m))(q:Q e.val (s.rdN l)):W (B6 E t false (.map (some l)) (.string a)) s Q:=by
 refine W.bind ⟨_,_,hT s, ?_⟩
 show W (M.bind (mapAt l) λp=>DK E kt et (.string a) false p.1) s Q
 refine W.bind (W.bind (W.rdC ho.2 ho.1 (W.pure ?_)))
 show W (DK E kt et (.string a) false es) (s.rdN l) Q
 unfold DK
 refine W.bind ⟨_,_,Iw hk he _, ?_⟩
 rw[hj]
 show W (M.on es[j]? λe=>DM false e.val true) (s.rdN l) Q
 rw[hej]
 exact W.pure q
theorem W.lookS0 {z:Value}{Q:Value->St->Prop}(hT: ∀s,mapT E t s= .some (kt,et) s)(hZ: ∀s,zeroOf E et s= .some z s)(hk:E.P.underlying kt=some .string)(he:es.map (·.key)=ns.map Value.string)(hj:(ns.findIdx? λx=>a==x)=none)(ho:Obj s l (.map es m))(q:Q z (s.rdN l)):W (B6 E t false (.map (some l)) (.string a)) s Q:=by
 refine W.bind ⟨_,_,hT s, ?_⟩
 show W (M.bind (mapAt l) λp=>DK E kt et (.string a) false p.1) s Q
 refine W.bind (W.bind (W.rdC ho.2 ho.1 (W.pure ?_)))
 show W (DK E kt et (.string a) false es) (s.rdN l) Q
 unfold DK
 refine W.bind ⟨_,_,Iw hk he _, ?_⟩
 rw[hj]
 exact W.bind ⟨_,_,hZ _,W.pure q⟩
theorem Ext.wrO {s:St}(l:Nat)(c:Cell):Ext Any (λx=>x=l) s ((s.rdN l).wrN l c):=by
 obtain⟨d1,p1,p2⟩:=(Ext.rdN (F:=Any) (G:=Non) s l λ_=>trivial).rd
 obtain⟨d2,p3,p4⟩:=(Ext.wrN (F:=Any) (G:=λx=>x=l) (s.rdN l) l c rfl).wr
 exact⟨Nat.le_refl _,rfl,rfl,λx h1 h2=>(Ext.wrN (F:=Any) (G:=λx=>x=l) (s.rdN l) l c rfl).mem x h1 h2,⟨d1,p1,p2⟩,⟨d2,p3,p4⟩⟩
theorem Obj.wrO {s:St}{l:Nat}{o o':AObj}(h:Obj s l o):Obj ((s.rdN l).wrN l (.O o')) l o':=⟨h.1,by
 show T.get (T.set s.mem l _) l=_
 rw[T.get_set,if_pos rfl]⟩
theorem W.mapUpS0 {x:Value}{Q:Value->St->Prop}(hT: ∀s,mapT E t s= .some (kt,et) s)(hk:E.P.underlying kt=some .string)(he:es.map (·.key)=ns.map Value.string)(hj:(ns.findIdx? λx=>a==x)=none)(ho:Obj s l (.map es m))
  (q: ∀s1,s1.next=s.next->Ext Any (λy=>y=l) s s1->Obj s1 l (.map (es++[⟨.string a,x,m⟩]) (m+1))->Q undef s1):W (Eb E t (.map (some l)) (.string a) x) s Q:=by
 refine W.bind ⟨_,_,hT s, ?_⟩
 show W (M.bind (mapAt l) λp=>M.bind (putE E kt (.string a) x l p) λ_=>M.pure undef) s Q
 refine W.bind (W.bind (W.rdC ho.2 ho.1 (W.pure ?_)))
 refine W.bind ?_
 show W (putE E kt (.string a) x l (es,m)) (s.rdN l) _
 unfold putE
 refine W.bind ⟨_,_,Iw hk he _, ?_⟩
 rw[hj]
 have hl:l<(s.rdN l).next:=ho.1
 exact W.wrC hl (W.pure (q _ rfl (Ext.wrO l _) (Obj.wrO ho)))
theorem W.delS {j:Nat}{Q:Value->St->Prop}(hT: ∀s,mapT E t s= .some (kt,et) s)(hk:E.P.underlying kt=some .string)(he:es.map (·.key)=ns.map Value.string)(hj:(ns.findIdx? λx=>a==x)=some j)(ho:Obj s l (.map es m))
  (q: ∀s1,s1.next=s.next->Ext Any (λy=>y=l) s s1->Obj s1 l (.map (es.eraseIdx j) m)->Q undef s1):W (kDel E t (.map (some l)) (.string a)) s Q:=by
 refine W.bind ⟨_,_,hT s, ?_⟩
 show W (M.bind (mapAt l) λp=>M.bind (Cx E p.1.isEmpty kt (.string a) p.1) λr=>(match r with
  |some j=>M.bind (Am.wrC l (.O (.map (p.1.eraseIdx j) p.2))) λ_=>M.pure undef
  |none=>M.bind (Am.wrC l (.O (.map p.1 p.2))) λ_=>M.pure undef)) s Q
 refine W.bind (W.bind (W.rdC ho.2 ho.1 (W.pure ?_)))
 refine W.bind ⟨_,_,Iw hk he _, ?_⟩
 rw[hj]
 have hl:l<(s.rdN l).next:=ho.1
 exact W.bind (W.wrC hl (W.pure (q _ rfl (Ext.wrO l _) (Obj.wrO ho))))
noncomputable def mapU (E:Env)(t:Nat):Bool:=match T.get E.ty t with|some i=>(match i.u with| .map _ _=>true|_=>false)|none=>false
theorem W.lenM {Q:Value->St->Prop}(h:mapU E t=true)(ho:Obj s l (.map es m))(q:Q (.int .i64 (es.length:Nat)) (s.rdN l)):W (AH E .len [t] [.map (some l)]) s Q:=by
 unfold mapU at h
 split at h
 ·rename_i i hi
  split at h
  ·rename_i k e hu
   show W (aLen E t (.map (some l))) s Q
   unfold aLen
   refine W.bind (W.ti hi ?_)
   rw[hu]
   show W (EF (.map (some l))) s Q
   unfold EF
   refine W.bind (W.bind (W.rdC ho.2 ho.1 (W.pure ?_)))
   show W (pN es.length) (s.rdN l) Q
   exact W.fN (W.pure q)
  ·cases h
 ·cases h
end
section
variable {E:Env}{s:St}
def FL (s:St)(e:MapEntry)(n:Nat):Prop:= ∃b p1 n1 c1 p2 n2 c2,e.val= .pointer (some ⟨b,0,none⟩)/\At s b 0 (.slice p1 n1 c1)/\At s b 1 (.slice p2 n2 c2)/\n=n1+n2
theorem FL.same {s s':St}{e:MapEntry}{n:Nat}(h:FL s e n)(hm:s'.mem=s.mem)(hn:s'.next=s.next):FL s' e n:=by
 obtain⟨b,p1,n1,c1,p2,n2,c2,e1,a1,a2,e2⟩:=h
 exact⟨b,p1,n1,c1,p2,n2,c2,e1,a1.same hm hn,a2.same hm hn,e2⟩
theorem W.filesLen: ∀{es:List MapEntry} {ns:List Nat} {s:St} {Q:Int->St->Prop},es.length=ns.length->(∀(i:Nat) (e:MapEntry) (n:Nat),es[i]?=some e->ns[i]?=some n->FL s e n)->s.lim<=s.next->
  (∀s1,s1.mem=s.mem->s1.next=s.next->Ext Any Non s s1->Q (Int.ofNat ns.sum) s1)->W (Am.filesLen es) s Q
 |[],[],s,Q,_,_,_,q=>W.pure (q s rfl rfl (Ext.refl s))
 |[],_::_,_,_,h,_,_,_=>by cases h
 |_::_,[],_,_,h,_,_,_=>by cases h
 |e::es,n::ns,s,Q,hl,h,hb,q=>by
  obtain⟨b,p1,n1,c1,p2,n2,c2,e1,a1,a2,e2⟩:=h 0 e n rfl rfl
  show W (M.bind (Am.fileLen e.val) λn=>M.bind (Am.filesLen es) λk=>fI (n+k) λi=>M.pure i) s Q
  refine W.bind ?_
  rw[e1]
  show W (M.bind (Am.rdV ⟨b,0,none⟩) λx=>M.bind (Am.rdV ⟨b,0+1,none⟩) λy=>match x,y with
   | .slice _ n _, .slice _ k _=>fI (Int.ofNat n+Int.ofNat k) λi=>M.pure i
   |_,_=>aC) s _
  refine W.bind (W.rdV a1 (W.bind (W.rdV (a2.same rfl rfl) ?_)))
  show W (fI (Int.ofNat n1+Int.ofNat n2) λi=>M.pure i) _ _
  rw[Cd]
  refine W.pure ?_
  have x1:Ext Any Non s ((s.rdN (b+0)).rdN (b+(0+1))):=(Ext.rdN (F:=Any) (G:=Non) s _ λ_=>trivial).trans (Ext.rdN (F:=Any) (G:=Non) _ _ λ_=>trivial) hb (λ_ _ _=>trivial) λ_ _ h=>h
  refine W.bind (W.filesLen (by simpa using hl) (λi e n h1 h2=>(h (i+1) e n (by simpa using h1) (by simpa using h2)).same rfl rfl) (x1.bnd hb) λs1 m1 n1' y1=> ?_)
  rw[Cd]
  refine W.pure ?_
  have:=q s1 m1 n1' (x1.trans y1 hb (λ_ _ _=>trivial) λ_ _ h=>h)
  rw[List.sum_cons,e2]at this
  exact this
theorem W.used {D l m:Nat}{es:List MapEntry}{ns:List Nat}{Q:Value->St->Prop}(hb:s.lim<=s.next)(h0:At s D 0 (.bool true))(h1:At s D 1 (.map (some l)))(ho:Obj s l (.map es m))(hbo:AT es 0 m=true)(hl:es.length=ns.length)(h: ∀(i:Nat) (e:MapEntry) (n:Nat),es[i]?=some e->ns[i]?=some n->FL s e n)
  (q: ∀s1,s1.mem=s.mem->s1.next=s.next->Ext Any Non s s1->Q (.int .i64 (wrap64 (ns.sum:Nat))) s1):W (usedM [.pointer (some ⟨D,0,none⟩)]) s Q:=by
 show W (M.bind (Am.rdV ⟨D,0,none⟩) λx=>match x with
  | .bool true=>M.bind (Am.rdV ⟨D,0+1,none⟩) λy=>match y with
   | .map (some l)=>M.bind (Am.mapAt l) λp=>M.chk (AT p.1 0 p.2) (M.bind (Am.filesLen p.1) λn=>fI (wrap64 n) λn=>M.pure (.int .i64 n))
   |_=>aC
  |_=>aC) s Q
 refine W.bind (W.rdV h0 (W.bind (W.rdV (h1.same rfl rfl) ?_)))
 have ho':Obj ((s.rdN (D+0)).rdN (D+(0+1))) l (.map es m):=ho.same rfl rfl
 refine W.bind (W.bind (W.rdC ho'.2 ho'.1 (W.pure (W.chk hbo ?_))))
 have x1:Ext Any Non s (((s.rdN (D+0)).rdN (D+(0+1))).rdN l):=((Ext.rdN (F:=Any) (G:=Non) s _ λ_=>trivial).trans (Ext.rdN (F:=Any) (G:=Non) _ _ λ_=>trivial) hb (λ_ _ _=>trivial) λ_ _ h=>h).trans (Ext.rdN (F:=Any) (G:=Non) _ _ λ_=>trivial) hb (λ_ _ _=>trivial) λ_ _ h=>h
 refine W.bind (W.filesLen hl (λi e n h1 h2=>(h i e n h1 h2).same rfl rfl) (x1.bnd hb) λs1 m1 n1 y1=> ?_)
 rw[Cd]
 exact W.pure (q s1 m1 n1 (x1.trans y1 hb (λ_ _ _=>trivial) λ_ _ h=>h))
end
structure FileS where
 name:ByteArray
 born:Nat
 blk:Nat
 sv:Value
 sbk:Nat
 sb:List Nat
 lv:Value
 lbk:Nat
 lb:List Nat
def FileS.ent (f:FileS):MapEntry:=⟨.string f.name, .pointer (some ⟨f.blk,0,none⟩),f.born⟩
def FileS.all (f:FileS):List Nat:=f.sb++f.lb
structure FileI (s:St)(col:Nat->Nat)(c:Nat)(f:FileS):Prop where
 o0:Own s f.blk 0 f.sv
 o1:Own s f.blk 1 f.lv
 k: ∀x,f.blk<=x->x<f.blk+2->col x=c
 ms:MkS s 1 f.sb.length (u8l f.sb) f.sv f.sbk
 ks: ∀x,MkF 1 f.sb.length f.sbk x->col x=c+1
 ml:MkS s 1 f.lb.length (u8l f.lb) f.lv f.lbk
 kl: ∀x,MkF 1 f.lb.length f.lbk x->col x=c+2
theorem FileI.ext {F G:Nat->Prop}{s s':St}{col:Nat->Nat}{c:Nat}{f:FileS}(h:FileI s col c f)(x:Ext F G s s')(hG: ∀y,y<s.next->G y->col y≠c/\col y≠c+1/\col y≠c+2):FileI s' col c f:=by
 have b0:=h.o0.1
 have b1:=h.o1.1
 exact⟨h.o0.ext x λg=>(hG _ b0 g).1 (h.k _ J J),h.o1.ext x λg=>(hG _ b1 g).1 (h.k _ J J),h.k,h.ms.ext x λy hy g=>(hG y (h.ms.lt y hy) g).2.1 (h.ks y hy),h.ks,h.ml.ext x λy hy g=>(hG y (h.ml.lt y hy) g).2.2 (h.kl y hy),h.kl⟩
theorem FileI.col {s:St}{col col':Nat->Nat}{c:Nat}{f:FileS}(h:FileI s col c f)(e: ∀x,x<s.next->col' x=col x):FileI s col' c f:=by
 have b0:=h.o0.1
 have b1:=h.o1.1
 exact⟨h.o0,h.o1,λx h1 h2=>(e x J).trans (h.k x h1 h2),h.ms,λx hx=>(e x (h.ms.lt x hx)).trans (h.ks x hx),h.ml,λx hx=>(e x (h.ml.lt x hx)).trans (h.kl x hx)⟩
theorem FileI.same {s s':St}{col:Nat->Nat}{c:Nat}{f:FileS}(h:FileI s col c f)(hm:s'.mem=s.mem)(hn:s'.next=s.next):FileI s' col c f:=
 ⟨h.o0.same hm hn,h.o1.same hm hn,h.k,h.ms.same hm hn,h.ks,h.ml.same hm hn,h.kl⟩
structure DkS where
 fs:List FileS
 mx:Nat
 room:Int
 steps:Int
 fused:Bool
 left:Int
 out:Bool
structure DkI (s:St)(col:Nat->Nat)(D M:Nat)(k:DkS):Prop where
 d0:Own s D 0 (.bool true)
 d1:Own s D 1 (.map (some M))
 d2:Own s D 2 (.int .i64 k.room)
 d3:Own s D 3 (.int .i64 k.steps)
 d4:Own s D 4 (.bool k.fused)
 d5:Own s D 5 (.int .i64 k.left)
 d6:Own s D 6 (.bool k.out)
 kd: ∀x,D<=x->x<D+7->col x=0
 om:Obj s M (.map (k.fs.map FileS.ent) k.mx)
 km:col M=1
 bo:AT (k.fs.map FileS.ent) 0 k.mx=true
 fl: ∀i (h:i<k.fs.length),FileI s col (2+3*i) k.fs[i]
theorem DkI.ext {F G:Nat->Prop}{s s':St}{col:Nat->Nat}{D M:Nat}{k:DkS}(h:DkI s col D M k)(x:Ext F G s s')(hl:k.fs.length<=300)(hG: ∀y,y<s.next->G y->1000<=col y):DkI s' col D M k:=by
 have c: ∀o,o<7->D+o<s.next-> ¬G (D+o):=λo ho hn g=>by
  have h1:=hG _ hn g
  have h2:=h.kd (D+o) J J
  omega
 exact⟨h.d0.ext x (c 0 al h.d0.1),h.d1.ext x (c 1 al h.d1.1),h.d2.ext x (c 2 al h.d2.1),h.d3.ext x (c 3 al h.d3.1),h.d4.ext x (c 4 al h.d4.1),h.d5.ext x (c 5 al h.d5.1),h.d6.ext x (c 6 al h.d6.1),h.kd,h.om.ext x λg=>by
  have h1:=hG _ h.om.1 g
  have h2:=h.km
  omega,h.km,h.bo,λi hi=>(h.fl i hi).ext x λy hy g=>by
  have h1:=hG y hy g
  omega⟩
theorem DkI.col {s:St}{col col':Nat->Nat}{D M:Nat}{k:DkS}(h:DkI s col D M k)(e: ∀x,x<s.next->col' x=col x):DkI s col' D M k:=by
 have b6:=h.d6.1
 exact⟨h.d0,h.d1,h.d2,h.d3,h.d4,h.d5,h.d6,λx h1 h2=>(e x J).trans (h.kd x h1 h2),h.om,(e M h.om.1).trans h.km,h.bo,λi hi=>(h.fl i hi).col e⟩
theorem DkI.same {s s':St}{col:Nat->Nat}{D M:Nat}{k:DkS}(h:DkI s col D M k)(hm:s'.mem=s.mem)(hn:s'.next=s.next):DkI s' col D M k:=
 ⟨h.d0.same hm hn,h.d1.same hm hn,h.d2.same hm hn,h.d3.same hm hn,h.d4.same hm hn,h.d5.same hm hn,h.d6.same hm hn,h.kd,h.om.same hm hn,h.km,h.bo,λi hi=>(h.fl i hi).same hm hn⟩
theorem DkI.ext0 {F:Nat->Prop}{s s':St}{col:Nat->Nat}{D M:Nat}{k:DkS}(h:DkI s col D M k)(x:Ext F Non s s')(hl:k.fs.length<=300):DkI s' col D M k:=h.ext x hl λ_ _ g=>g.elim
noncomputable def paint (col:Nat->Nat)(n c:Nat):Nat->Nat:=λx=>if x<n then col x else c
theorem AX {col:Nat->Nat}{n c x:Nat}(h:x<n):paint col n c x=col x:=by unfold paint;rw[if_pos h]
theorem C2 {col:Nat->Nat}{n c x:Nat}(h:n<=x):paint col n c x=c:=by unfold paint;rw[if_neg J]
