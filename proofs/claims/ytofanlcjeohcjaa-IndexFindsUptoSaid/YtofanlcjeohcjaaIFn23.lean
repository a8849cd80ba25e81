import Derived.Test.YtofanlcjeohcjaaIFn22
import Derived.Test.YtofanlcjeohcjaaIFn07
import Derived.Test.YtofanlcjeohcjaaIFn14
import Derived.KernelRfl
import Derived.Test.YtofanlcjeohcjaaIFn20
namespace Go.Proofs.Ytofanlcjeohcjaa.Am
open Go.RowKit
section
variable {E:Env}{s s':St}{t:Nat}{xo yo:Operand}
theorem MkS.bs {l:List Nat}{v:Value}{b:Nat}(h:MkS s 1 l.length (u8l l) v b)(hn:l.length<capU):Bs s v l:=by
 rcases h with⟨rfl,h0,_⟩|⟨h,_⟩
 ·exact .inl ⟨rfl,List.eq_nil_of_length_eq_zero h0⟩
 ·refine .inr ⟨b,0,_,h.val, ?_,Pm hn (by decide),fun i u e=>(h.own i u e).at'⟩
  rw[Nat.mul_add_mod,Nat.mod_eq_of_lt hn]
  exact Nat.le_refl _
theorem MkS.put {l:List Nat}{k x:Nat}{v:Value}{b:Nat}{G:Nat→Prop}(h:MkS s 1 l.length (u8l l) v b)(hk:k<l.length)(hn:s'.next=s.next)(e:Ext G (In b k 1) s s')(ho:Own s' b k (.int .u8 (x:Nat))):MkS s' 1 (l.set k x).length (u8l (l.set k x)) v b:=by
 rw[List.length_set]
 rcases h with⟨_,h0,_⟩|⟨h,h0⟩
 ·omega
 ·refine .inr ⟨⟨h.val,fun i u hi=> ?_, ?_, ?_,by rw[hn];exact h.lt⟩,h0⟩
  ·by_cases hik:i=k
   ·subst hik
    unfold u8l at hi
    rw[List.getElem?_map,List.getElem?_set_self hk]at hi
    have:u= .int .u8 (x:Nat):=by injection hi with hi;exact hi.symm
    subst this
    rwa [Nat.zero_add]
   ·have hi':(u8l l)[i]?=some u:=by
     unfold u8l at hi ⊢
     rw[List.getElem?_map,List.getElem?_set_ne (fun q=>hik q.symm)]at hi
     rw[List.getElem?_map]
     exact hi
    exact(h.own i u hi').ext e fun q=>by
     have h1:=In1.1 q
     omega
  ·rw[Bp,List.length_set,Nat.mul_one]
  ·have hlt:b+l.length*1<s.next:=h.lt
   rw[e.mem _ hlt fun q=>by have h1:=In1.1 q;omega]
   exact h.tok
theorem MkS.get {l:List Nat}{k:Nat}{v:Value}{b:Nat}(h:MkS s 1 l.length (u8l l) v b)(hk:k<l.length): ∃c,v= .slice (some ⟨b,0,none⟩) l.length c∧Own s b k (.int .u8 (l.getD k 0:Nat)):=by
 rcases h with⟨_,h0,_⟩|⟨h,h0⟩
 ·omega
 ·refine⟨_,h.val, ?_⟩
  have:=h.own k (.int .u8 (l.getD k 0:Nat)) (by
   unfold u8l
   rw[List.getElem?_map,List.getElem?_eq_getElem hk,List.getD_eq_getElem?_getD,List.getElem?_eq_getElem hk]
   rfl)
  rwa [Nat.zero_add]at this
theorem MkS.hat {hs:List Hd}{n i:Nat}{v:Value}{b:Nat}(h:MkS s 18 n (BX hs) v b)(hn:n=hs.length)(h16: ∀h∈hs,h.1.length=16)(hi:i<hs.length): ∃c,v= .slice (some ⟨b,0,none⟩) n c∧(n<capU→c%capU=n∧B3 c 18=true)∧Row s b (0+i*18) (Da hs[i])∧ ∀w,w≤hs.length→Row s b 0 (BX (hs.take w)):=by
 rcases h with⟨_,h0,_⟩|⟨h,h0⟩
 ·omega
 ·refine⟨_,h.val,fun hc=>⟨by rw[Nat.mul_add_mod,Nat.mod_eq_of_lt hc],Pm hc (by decide)⟩,fun j u e=> ?_,fun w hw j u e=> ?_⟩
  ·have hj:j<18:=by
    have:=(List.getElem?_eq_some_iff.1 e).1
    rwa [KP (h16 _ (List.getElem_mem hi))]at this
   have:=(h.own (i*18+j) u (by rw[RU h16 hi hj];exact e)).at'
   rwa [show 0+(i*18+j)=0+i*18+j by omega]at this
  ·refine(h.own j u ?_).at'
   have es:hs=hs.take w++hs.drop w:=(List.take_append_drop w hs).symm
   rw[es,UI,List.getElem?_append_left (List.getElem?_eq_some_iff.1 e).1]
   exact e
end
theorem EA:fldN envS 35 0=some (0,16,true):=by kernel_rfl
section
variable {parts:List (Value×List Nat)}{b o c:Nat}
end
theorem Ext.on {G F' G':Nat→Prop}{s s1 s2:St}(h:Ext Any G s s1)(k:Ext F' G' s1 s2)(hb:s.lim≤s.next)(hG: ∀x,x<s.next→G' x→G x):Ext Any G s s2:=h.trans k hb (fun _ _ _=>trivial) hG
theorem Ext.wr1 {s:St}(l:Nat)(c:Cell):Ext Any (fun x=>x=l) s ((s.rdN l).wrN l c):=by
 obtain⟨d1,p1,p2⟩:=(Ext.rdN (F:=Any) (G:=Non) s l fun _=>trivial).rd
 obtain⟨d2,p3,p4⟩:=(Ext.wrN (F:=Any) (G:=fun x=>x=l) (s.rdN l) l c rfl).wr
 exact⟨Nat.le_refl _,rfl,rfl,fun x h1 h2=>(Ext.wrN (F:=Any) (G:=fun x=>x=l) (s.rdN l) l c rfl).mem x h1 h2,⟨d1,p1,p2⟩,⟨d2,p3,p4⟩⟩
theorem Obj.wr {s:St}{l:Nat}{o o':AObj}(h:Obj s l o):Obj ((s.rdN l).wrN l (.O o')) l o':=⟨h.1,by
 show T.get (T.set s.mem l _) l=_
 rw[T.get_set,if_pos rfl]⟩
structure FnT (C:Nat)(tm:T Value):Prop where
 t3:T.get tm 3=some (.pointer (some ⟨C,0,none⟩))
 t4:T.get tm 4=some (.pointer (some ⟨C+17,0,none⟩))
 t5:T.get tm 5=some (.pointer (some ⟨C+19,0,none⟩))
 t6:T.get tm 6=some (.pointer (some ⟨C+38,0,none⟩))
theorem FnT.set {C k:Nat}{v:Value}{tm:T Value}(h:FnT C tm)(hk:7≤k):FnT C (T.set tm k v):=
 ⟨by rw[T.get_set,if_neg (by omega)];exact h.t3,by rw[T.get_set,if_neg (by omega)];exact h.t4,by rw[T.get_set,if_neg (by omega)];exact h.t5,by rw[T.get_set,if_neg (by omega)];exact h.t6⟩
def FnG (C:Nat)(x:Nat):Prop:=C+17≤x∧x<C+40
structure FnO (s:St)(C:Nat)(id:List Nat):Prop where
 hid:AI s C 0 (u8l id)
 o4: ∃u,Own s (C+17) 0 u
 o5:Ez s (C+19) 0 18
 o6: ∃u,Own s (C+38) 0 u
theorem FnO.ext {F G:Nat→Prop}{s s':St}{C:Nat}{id:List Nat}(h:FnO s C id)(h16:id.length=16)(x:Ext F G s s')(hG: ∀y,C≤y→y<C+40→ ¬G y):FnO s' C id:=by
 refine⟨h.hid.ext x fun i hi=>hG _ (by omega) (by rw[Bp]at hi;omega), ?_,fun j hj=> ?_, ?_⟩
 ·obtain⟨u,hu⟩:=h.o4
  exact⟨u,hu.ext x (hG _ (by omega) (by omega))⟩
 ·obtain⟨u,hu⟩:=h.o5 j hj
  exact⟨u,hu.ext x (hG _ (by omega) (by omega))⟩
 ·obtain⟨u,hu⟩:=h.o6
  exact⟨u,hu.ext x (hG _ (by omega) (by omega))⟩
theorem FnO.same {s s':St}{C:Nat}{id:List Nat}(h:FnO s C id)(hm:s'.mem=s.mem)(hn:s'.next=s.next):FnO s' C id:=by
 refine⟨fun i u e=>(h.hid i u e).same hm hn, ?_,fun j hj=> ?_, ?_⟩
 ·obtain⟨u,hu⟩:=h.o4
  exact⟨u,hu.same hm hn⟩
 ·obtain⟨u,hu⟩:=h.o5 j hj
  exact⟨u,hu.same hm hn⟩
 ·obtain⟨u,hu⟩:=h.o6
  exact⟨u,hu.same hm hn⟩
structure FnV (s:St)(C:Nat)(n:Int)(h:HdI)(b:Bool):Prop where
 v4:Own s (C+17) 0 (.int .i64 n)
 v5:AI s (C+19) 0 (AP h)
 v6:Own s (C+38) 0 (.bool b)
theorem FnV.ext {F G:Nat→Prop}{s s':St}{C:Nat}{n:Int}{h:HdI}{b:Bool}(v:FnV s C n h b)(h16:h.1.length=16)(x:Ext F G s s')(hG: ∀y,C≤y→y<C+40→ ¬G y):FnV s' C n h b:=
 ⟨v.v4.ext x (hG _ (by omega) (by omega)),v.v5.ext x fun i hi=>hG _ (by omega) (by rw[Cg h16]at hi;omega),v.v6.ext x (hG _ (by omega) (by omega))⟩
theorem FnV.same {s s':St}{C:Nat}{n:Int}{h:HdI}{b:Bool}(v:FnV s C n h b)(hm:s'.mem=s.mem)(hn:s'.next=s.next):FnV s' C n h b:=
 ⟨v.v4.same hm hn,fun i u e=>(v.v5 i u e).same hm hn,v.v6.same hm hn⟩
abbrev LH (s:St)(l:Nat)(st:LoopState)(pe:Option Code)(tm:T Value)(d:Nat):Prop:=Obj s l (.loop st pe 50 BV Bh tm [18,19] CB CF d)
abbrev LP (s:St)(l:Nat)(st:LoopState)(pe:Option Code)(tm:T Value)(d:Nat):Prop:=Obj s l (.loop st pe 50 BV Bh tm [13,14] CN CK d)
theorem ES_ (a b:Value)(tm:T Value):EZ Bh [18,19] [a,b] tm=T.set (putG Bh 18 a tm) 19 b:=by
 have h:Nat.testBit Bh 19=true:=by kernel_rfl
 show putG Bh 19 b (putG Bh 18 a tm)=_
 unfold putG
 rw[h]
theorem Ib_ (a b:Value)(tm:T Value):EZ Bh [13,14] [a,b] tm=T.set (putG Bh 13 a tm) 14 b:=by
 have h:Nat.testBit Bh 14=true:=by kernel_rfl
 show putG Bh 14 b (putG Bh 13 a tm)=_
 unfold putG
 rw[h]
theorem DL {g k j:Nat}{v:Value}{tm:T Value}(h:j≠k):T.get (putG g k v tm) j=T.get tm j:=by
 unfold putG
 cases Nat.testBit g k with
 |false=>rfl
 |true=>exact T.get_set_other tm k v h
theorem FnT.put {C k g:Nat}{v:Value}{tm:T Value}(h:FnT C tm)(hk:7≤k):FnT C (putG g k v tm):=
 ⟨by rw[DL (by omega)];exact h.t3,by rw[DL (by omega)];exact h.t4,by rw[DL (by omega)];exact h.t5,by rw[DL (by omega)];exact h.t6⟩
theorem XV:skim 64 [.code CB, .beginRound, .code CF]=Hk:=by rw[←Xz];exact IU_
theorem Ig_:skim 64 [.code CN, .beginRound, .code CK]=Hi:=by rw[←Xp];exact BX_
theorem QZ:Mp=[]:=by kernel_rfl
theorem Ia_ {C l d n pc:Nat}{tm0:T Value}{id:List Nat}{h:HdI}{p:PkI}{i:Int}{s:St}{Q:Value→St→Prop}(hb:s.lim≤s.next)(hO:FnO s C id)(hL:LH s l .ready none tm0 d)(hT:FnT C tm0)(h8:T.get tm0 8=some (.pointer (some ⟨pc,0,none⟩)))(hp:AI s pc 0 (pkC p))(hid:id.length=16)(h16:h.1.length=16)(hlC:C+40≤l)(hpc:C+40≤pc)(hpl:pc+3≤l)(hn:100≤n)
  (q1:h.1≠id→ ∀s1,Ext Any (fun x=>x=l) s s1→LH s1 l .ready none tm0 d→Q (.bool true) s1)
  (q2:h.1=id→ ∀s1,Ext Any (fun x=>x=l∨FnG C x) s s1→LH s1 l .done (some .ret) tm0 d→FnV s1 C p.num h true→Q (.bool false) s1):
  W (BR (runF envS n) l [.int .i64 i, .agg (AP h).toArray]) s Q:=by
 have hll:=hL.1
 have hIl:(u8l id).length=16:=by rw[Bp];exact hid
 have hHl:(AP h).length=18:=Cg h16
 refine W.round hL rfl (by rfl) ?_
 rw[ES_]
 have x0:Ext Any (fun x=>x=l) (s.cxN cxR) ((s.rdN l).cxN cxR):=(Ext.rdN (F:=Any) (G:=fun x=>x=l) (s.cxN cxR) l fun _=>trivial)
 have hL0:LH ((s.rdN l).cxN cxR) l .ready none tm0 d:=hL.same rfl rfl
 have hO0:FnO ((s.rdN l).cxN cxR) C id:=hO.same rfl rfl
 have hp0:AI ((s.rdN l).cxN cxR) pc 0 (pkC p):=fun j u e=>(hp j u e).same rfl rfl
 have hn0:((s.rdN l).cxN cxR).next=s.next:=rfl
 generalize (s.rdN l).cxN cxR=s0 at *
 have hb0:(s.cxN cxR).lim≤(s.cxN cxR).next:=hb
 refine KO_.w XV (by omega) ?_
 simp only[S7,Ac,W_oS,W_on,Aa,W_mv,Ab,Ag,T.get_set,Ae,Ad,Ak,Al,Af,Au,reduceIte,Ai,Aq,Av,As,Ah,Ap,Ao,Ar,Aj,An,Nat.reduceEqDiff,reduceCtorEq, ↓reduceIte]
 refine W.alloc Ew fun s1 n1 x1 o1=> ?_
 try simp only[Ac,W_oS,W_on,Aa,W_mv,Ab,Ag,T.get_set,Ae,Ad,Ak,Al,Af,Au,reduceIte,Ai,Aq,Av,As,Ah,Ap,Ao,Ar,Aj,An,Nat.reduceEqDiff,reduceCtorEq, ↓reduceIte]
 have n1':s1.next=s.next+19:=by rw[n1,hn0];rfl
 rw[hn0]at o1
 have y1:=x0.on x1 hb0 fun _ _ h=>h.elim
 refine W.store B1 (v:= .agg (AP h).toArray) hHl (De h) (fun j hj=>by rw[hn0];exact(AI.owned o1) j (by simpa using hj)) fun s2 n2 x2 o2=> ?_
 rw[Cx]at o2
 rw[hn0]at x2 o2 ⊢
 have y2:=y1.on x2 hb0 fun x hx hq=>by
  have h1:x<s.next:=hx
  have h2:=hq.1
  omega
 have old2: ∀(b o:Nat) (u:Value),b+o<s.next→Own s0 b o u→Own s2 b o u:=fun b o u h1 hu=>(hu.ext0 x1).ext x2 fun hq=>by have:=hq.1;omega
 have hL2:LH s2 l .ready none tm0 d:=(hL0.ext x1 fun h=>h).ext x2 fun hq=>by have:=hq.1;omega
 have hO2:FnO s2 C id:=(hO0.ext hid x1 fun _ _ _ h=>h).ext hid x2 fun y h1 h2 hq=>by have:=hq.1;omega
 have hp2:AI s2 pc 0 (pkC p):=fun j u e=>old2 _ _ _ (by have:=(hp0 j u e).1;omega) (hp0 j u e)
 try simp only[Ac,W_oS,W_on,Aa,W_mv,Ab,Ag,T.get_set,Ae,Ad,Ak,Al,Af,Au,reduceIte,Ai,Aq,Av,As,Ah,Ap,Ao,Ar,Aj,An,Nat.reduceEqDiff,reduceCtorEq, ↓reduceIte]
 refine W.begR (k:=Gb.tail) (ZY.trans HC_) hL2 (by omega) ?_
 have z3:=Ext.wr1 (s:=s2) l (.O (.loop .busy none 50 BV Bh tm0 [18,19] CB CF d))
 have hL3:LH ((s2.rdN l).wrN l (.O (.loop .busy none 50 BV Bh tm0 [18,19] CB CF d))) l .busy none tm0 d:=Obj.wr hL2
 generalize (s2.rdN l).wrN l (.O (.loop .busy none 50 BV Bh tm0 [18,19] CB CF d))=s3 at *
 have y3:=y2.on z3 hb0 fun _ _ h=>h
 have hO3:FnO s3 C id:=hO2.ext hid z3 fun y h1 h2 hq=>by omega
 have hp3:AI s3 pc 0 (pkC p):=hp2.ext z3 fun i hi hq=>by
  have:i<3:=hi
  omega
 have o3:AI s3 s.next 0 (AP h):=o2.ext z3 fun i hi hq=>by omega
 refine Yn.w Yc (by omega) ?_
 have g3:T.get (T.set (T.set (putG Bh 18 (.int .i64 i) tm0) 19 (.agg (AP h).toArray)) 10 (.pointer (some ⟨s.next,0,none⟩))) 3=some (.pointer (some ⟨C,0,none⟩)):=by
  simp only[T.get_set,Nat.reduceEqDiff,reduceIte]
  rw[DL (by decide)]
  exact hT.t3
 have g4:T.get (T.set (T.set (putG Bh 18 (.int .i64 i) tm0) 19 (.agg (AP h).toArray)) 10 (.pointer (some ⟨s.next,0,none⟩))) 4=some (.pointer (some ⟨C+17,0,none⟩)):=by
  simp only[T.get_set,Nat.reduceEqDiff,reduceIte]
  rw[DL (by decide)]
  exact hT.t4
 have g5:T.get (T.set (T.set (putG Bh 18 (.int .i64 i) tm0) 19 (.agg (AP h).toArray)) 10 (.pointer (some ⟨s.next,0,none⟩))) 5=some (.pointer (some ⟨C+19,0,none⟩)):=by
  simp only[T.get_set,Nat.reduceEqDiff,reduceIte]
  rw[DL (by decide)]
  exact hT.t5
 have g6:T.get (T.set (T.set (putG Bh 18 (.int .i64 i) tm0) 19 (.agg (AP h).toArray)) 10 (.pointer (some ⟨s.next,0,none⟩))) 6=some (.pointer (some ⟨C+38,0,none⟩)):=by
  simp only[T.get_set,Nat.reduceEqDiff,reduceIte]
  rw[DL (by decide)]
  exact hT.t6
 have g8:T.get (T.set (T.set (putG Bh 18 (.int .i64 i) tm0) 19 (.agg (AP h).toArray)) 10 (.pointer (some ⟨s.next,0,none⟩))) 8=some (.pointer (some ⟨pc,0,none⟩)):=by
  simp only[T.get_set,Nat.reduceEqDiff,reduceIte]
  rw[DL (by decide)]
  exact h8
 have g10:T.get (T.set (T.set (putG Bh 18 (.int .i64 i) tm0) 19 (.agg (AP h).toArray)) 10 (.pointer (some ⟨s.next,0,none⟩))) 10=some (.pointer (some ⟨s.next,0,none⟩)):=by
  simp only[T.get_set,Nat.reduceEqDiff,reduceIte]
 generalize T.set (T.set (putG Bh 18 (.int .i64 i) tm0) 19 (.agg (AP h).toArray)) 10 (.pointer (some ⟨s.next,0,none⟩))=tm at *
 have oid:AI s3 s.next (0+0) (u8l h.1):=fun j u e=>by
  have hj:=(List.getElem?_eq_some_iff.1 e).1
  have:=o3 j u (by
   unfold AP
   rw[List.getElem?_append_left hj]
   exact e)
  exact this
 simp only[Sy,Ac,W_oS,W_on,Aa,W_mv,Ab,Ag,T.get_set,Ae,Ad,Ak,Al,Af,Au,reduceIte,Ai,Aq,Av,As,Ah,Ap,Ao,Ar,Aj,An,Nat.reduceEqDiff,reduceCtorEq, ↓reduceIte,g3,g10,BE EA (by decide:0<16)]
 refine W.loadA Cu oid.row (by rw[Bp];exact h16) fun s4 m4 n4 x4=> ?_
 have y4:=y3.on x4 hb0 fun _ _ h=>h.elim
 try simp only[Ac,W_oS,W_on,Aa,W_mv,Ab,Ag,T.get_set,Ae,Ad,Ak,Al,Af,Au,reduceIte,Ai,Aq,Av,As,Ah,Ap,Ao,Ar,Aj,An,Nat.reduceEqDiff,reduceCtorEq, ↓reduceIte]
 refine W.loadA Cu (fun j u e=>((hO3.hid j u e).same m4 n4).at') hIl fun s5 m5 n5 x5=> ?_
 have y5:=y4.on x5 hb0 fun _ _ h=>h.elim
 have m35:s5.mem=s3.mem:=m5.trans m4
 have n35:s5.next=s3.next:=n5.trans n4
 try simp only[Ac,W_oS,W_on,Aa,W_mv,Ab,Ag,T.get_set,Ae,Ad,Ak,Al,Af,Au,reduceIte,Ai,Aq,Av,As,Ah,Ap,Ao,Ar,Aj,An,Nat.reduceEqDiff,reduceCtorEq, ↓reduceIte]
 rw[Ls FJ h16 hid]
 have hL5:LH s5 l .busy none tm0 d:=hL3.same m35 n35
 by_cases c:h.1=id
 ·refine W.cond (v:=true) Rt Tg (by simp[T.get_set];exact c) (by omega) (fun _=> ?_) fun h=>by cases h
  have hO5:FnO s5 C id:=hO3.same m35 n35
  obtain⟨u4,o4⟩:=hO5.o4
  obtain⟨u6,o6⟩:=hO5.o6
  have o5:=hO5.o5
  have pnum:At (dSt s5.mem s5.next) pc (0+0) (.int .i64 p.num):=(((hp3 0 _ rfl).same m35 n35).same (s':=dSt s5.mem s5.next) rfl rfl).at'
  have hrow:Row (dSt s5.mem s5.next) s.next 0 (AP h):=fun j u e=>(((o3 j u e).same m35 n35).same (s':=dSt s5.mem s5.next) rfl rfl).at'
  refine JM_.w VT (by omega) ?_
  simp only[Uu,T.get_set,Nat.reduceEqDiff,reduceIte,g4,g5,g6,g8,g10,Dd]
  rw[W_dq fun s Q=>BE (s:=s) Kb (by decide) Q]
  refine W.dload DI pnum fun rd1 hr1=> ?_
  refine W.dloadA B1 hrow hHl fun mem2 rd2 em hr2=> ?_
  subst em
  refine W.dopG (W.store1 (s:=oSt s5.mem s5.next) DI rfl (o4.same rfl rfl) fun s6 n6 x6 w6=>⟨In (C+17) 0 1,In (C+17) 0 1,x6,fun rd3 wr3 hr3 hw3=> ?_⟩)
  have n6':s6.next=s5.next:=n6
  have q5:Ez s6 (C+19) 0 18:=fun j hj=>by
   obtain⟨u,hu⟩:=o5 j hj
   exact⟨u,(hu.same (s':=oSt s5.mem s5.next) rfl rfl).ext x6 fun hq=>by have:=In1.1 hq;omega⟩
  refine W.dopG (W.store (s:=oSt s6.mem s6.next) B1 (v:= .agg (AP h).toArray) hHl (De h) (fun j hj=>by
   obtain⟨u,hu⟩:=q5 j hj
   exact⟨u,hu.same rfl rfl⟩) fun s7 n7 x7 w7=>⟨In (C+19) 0 18,In (C+19) 0 18,x7,fun rd4 wr4 hr4 hw4=> ?_⟩)
  rw[Cx]at w7
  have n7':s7.next=s6.next:=n7
  rw[Aa]
  have hCn:C+40≤s5.next:=by
   have:=hL5.1
   omega
  have hsn:s.next≥C+40:=by omega
  refine⟨Lw ?_, ?_⟩
  ·simp only[List.reverse_cons,List.reverse_nil,List.nil_append,List.cons_append,allP,EI,List.take,Kv,n6',n7']
   have e1: ∀x,x∈rd1→pc≤x:=fun x h=>by have:=hr1 x h;omega
   have e2: ∀x,x∈rd2→s.next≤x:=fun x h=>by have:=(hr2 x h).1;omega
   have e3: ∀x,x∈rd3→x=C+17:=fun x h=>In1.1 (hr3 x h).2
   have w3: ∀x,x∈wr3→x=C+17:=fun x h=>In1.1 (hw3 x h).2
   have e4: ∀x,x∈rd4→C+19≤x∧x<C+37:=fun x h=>by have h1:=(hr4 x h).2.1;have h2:=(hr4 x h).2.2;omega
   have w4: ∀x,x∈wr4→C+19≤x∧x<C+37:=fun x h=>by have h1:=(hw4 x h).2.1;have h2:=(hw4 x h).2.2;omega
   have nn: ∀x,s5.next≤x→ ¬x<s5.next:=fun x h=>by omega
   have d1: ∀x,x∈wr3→ ¬x∈rd1:=fun x h1 h2=>by have:=w3 x h1;have:=e1 x h2;omega
   have d2: ∀x,x∈wr3→ ¬x∈rd2:=fun x h1 h2=>by have:=w3 x h1;have:=e2 x h2;omega
   have d3: ∀x,x∈wr4→ ¬x∈rd1:=fun x h1 h2=>by have:=w4 x h1;have:=e1 x h2;omega
   have d4: ∀x,x∈wr4→ ¬x∈rd2:=fun x h1 h2=>by have:=w4 x h1;have:=e2 x h2;omega
   have d5: ∀x,x∈wr4→ ¬x∈rd3:=fun x h1 h2=>by have:=w4 x h1;have:=e3 x h2;omega
   have d6: ∀x,x∈wr3→ ¬x∈rd4:=fun x h1 h2=>by have:=w3 x h1;have:=e4 x h2;omega
   have d7: ∀x,x∈wr3→ ¬x∈wr4:=fun x h1 h2=>by have:=w3 x h1;have:=w4 x h2;omega
   have d8: ∀x,x∈wr4→ ¬x∈wr3:=fun x h1 h2=>d7 x h2 h1
   simp+contextual [nn,d1,d2,d3,d4,d5,d6,d7,d8]
  ·refine W.cast (Jt_ _ _ _ _ _ _ _ _) ?_
   simp only[T.get_set,Nat.reduceEqDiff,reduceIte,g6,Dd]
   generalize hs':(⟨(dSt s7.mem s7.next).mem,(dSt s7.mem s7.next).next,s5.lim,_,_,s5.cx⟩:St)=s8
   have x8:Ext Any (FnG C) s5 s8:=by
    rw[←hs']
    refine Ext.drawG (by show s5.next≤s7.next;omega) (fun x hx hg=> ?_) ?_ fun _ _ _ _ _=>trivial
    ·unfold FnG at hg
     exact(x7.mem x (by show x<s6.next;omega) fun hq=>hg ⟨by have:=hq.1;omega,by have:=hq.2;omega⟩).trans (x6.mem x hx fun hq=>hg ⟨by have:=hq.1;omega,by have:=hq.2;omega⟩)
    ·simp only[List.mem_cons,List.not_mem_nil,or_false]
     rintro m (rfl|rfl|rfl|rfl|rfl) x hx _<;>first|(cases hx;done)|skip
     ·have:=(hw4 x hx).2;exact⟨by have:=this.1;omega,by have:=this.2;omega⟩
     ·have:=(hw3 x hx).2;exact⟨by have:=this.1;omega,by have:=this.2;omega⟩
   have m8:s8.mem=s7.mem:=by rw[←hs'];rfl
   have n8:s8.next=s7.next:=by rw[←hs'];rfl
   have v5:AI s8 (C+19) 0 (AP h):=fun j u e=>(w7 j u e).same m8 n8
   have v4:Own s8 (C+17) 0 (.int .i64 p.num):=(((w6.same (s':=oSt s6.mem s6.next) rfl rfl).ext x7 fun hq=>by have:=hq.1;omega).same m8 n8)
   have v6:Own s8 (C+38) 0 u6:=((((o6.same (s':=oSt s5.mem s5.next) rfl rfl).ext x6 fun hq=>by have:=In1.1 hq;omega).same (s':=oSt s6.mem s6.next) rfl rfl).ext x7 fun hq=>by have:=hq.2;omega).same m8 n8
   have hL8:LH s8 l .busy none tm0 d:=hL5.ext x8 fun hq=>by unfold FnG at hq;omega
   have xz:Ext Any (fun x=>x=l∨FnG C x) (s.cxN cxR) s5:=y5.weak hb0 (fun _ _ h=>h) fun _ _ h=> .inl h
   have y8:=xz.on x8 hb0 fun _ _ h=> .inr h
   refine W.bind (W.store1 LV rfl v6 fun s9 n9 x9 w9=>W.pure ?_)
   have y9:=y8.on x9 hb0 fun x _ h=> .inr (by unfold FnG;have:=In1.1 h;omega)
   have hL9:LH s9 l .busy none tm0 d:=hL8.ext x9 fun hq=>by have:=In1.1 hq;omega
   have f4:Own s9 (C+17) 0 (.int .i64 p.num):=v4.ext x9 fun hq=>by have:=In1.1 hq;omega
   have f5:AI s9 (C+19) 0 (AP h):=v5.ext x9 fun i hi hq=>by have:=In1.1 hq;omega
   obtain⟨kk,hk⟩:=IL_
   refine W.retR (k:=kk) (Ja_.trans hk) hL9 (by omega) ?_
   have z9:=Ext.wr1 (s:=s9) l (.O (.loop .done (some .ret) 50 BV Bh tm0 [18,19] CB CF d))
   have hV:FnV s9 C p.num h true:=⟨f4,f5,w9⟩
   exact q2 c _ ((y9.on z9 hb0 fun _ _ h=> .inl h).cx') ((Obj.wr hL9).same rfl rfl) ((hV.ext h16 z9 fun y h1 h2 hq=>by omega).same rfl rfl)
 ·refine W.cond (v:=false) Rt Tg (by simp[T.get_set];exact c) (by omega) (fun h=>by cases h) fun _=> ?_
  refine W.endR (X0.trans QZ) hL5 (by omega) ?_
  have z6:=Ext.wr1 (s:=s5) l (.O (.loop .ready none 50 BV Bh tm0 [18,19] CB CF d))
  exact q1 c _ ((y5.on z6 hb0 fun _ _ h=>h).cx') ((Obj.wr hL5).same rfl rfl)
def BI (hs:List HdI)(id:List Nat):Option HdI:=hs.reverse.find? fun h=>decide (h.1=id)
theorem QA {hs:List HdI}{id:List Nat}{k:Nat}(hk:k<hs.length):BI (hs.take (k+1)) id=if hs[k].1=id then some hs[k]else BI (hs.take k) id:=by
 unfold BI
 rw[List.take_succ_eq_append_getElem hk,List.reverse_append,List.reverse_cons,List.reverse_nil,List.nil_append,List.singleton_append,List.find?_cons]
 by_cases c:hs[k].1=id
 ·simp[c]
 ·simp[c]
theorem MX {hs:List HdI}{id:List Nat}{h:HdI}(e:BI hs id=some h):h∈hs∧h.1=id:=by
 unfold BI at e
 have h1:=List.mem_of_find?_eq_some e
 have h2:=List.find?_some e
 exact⟨List.mem_reverse.1 h1,of_decide_eq_true h2⟩
section
variable {C l d pc B:Nat}{tm0:T Value}{id:List Nat}{p:PkI}{v:Value}{hs:List HdI}{s0:St}{Q:Value×FrameMode→St→Prop}
theorem Fu_ (hb0:s0.lim≤s0.next)(hO:FnO s0 C id)(hT:FnT C tm0)(h8:T.get tm0 8=some (.pointer (some ⟨pc,0,none⟩)))(hp:AI s0 pc 0 (pkC p))(hid:id.length=16)(h16: ∀h∈hs,h.1.length=16)(hlC:C+40≤l)(hpc:C+40≤pc)(hpl:pc+3≤l)(hB:Own s0 B 0 v)(hBl:B<l)(hv:HiR s0 v hs)(hvl: ∀x,HiF v x→x≠l)(hcx:s0.cx=cxN)
  (q1:BI hs id=none→ ∀s1,Ext Any (fun x=>x=l) s0 s1→LH s1 l .ready none tm0 d→Q (.tuple #[], .run) s1)
  (q2: ∀h,BI hs id=some h→ ∀s1,Ext Any (fun x=>x=l∨FnG C x) s0 s1→LH s1 l .done (some .ret) tm0 d→FnV s1 C p.num h true→Q (.tuple #[], .run) s1):
  ∀(k n:Nat) (j:Int) (tm:T Value) (s:St) (td:List Item),k≤hs.length→8*k+220≤n→skim 64 td=Fp→Ext Any (fun x=>x=l) s0 s→LH s l .ready none tm0 d→BI hs id=BI (hs.take k) id→j=(k:Int)-1→hs.length≤1000000000→
  T.get tm 0=some (.func (.yield l) #[] #[])→T.get tm 1=some (.pointer (some ⟨B,0,none⟩))→T.get tm 3=some (.int .i64 j)→
  W (runF envS n ⟨129,Hn_,Fi,tm,td, .run, .normal,none⟩) s Q:=by
 intro k
 induction k with
 |zero=>
  intro n j tm s td hk hn hTd hx hL hla hj hz h0 h1 h3
  subst hj
  refine TA.w hTd (by omega) ?_
  simp only[Lk,Ac,W_oS,W_on,Aa,W_mv,Ab,Ag,T.get_set,Ae,Ad,Ak,Al,Af,Au,reduceIte,Ai,Aq,Av,As,Ah,Ap,Ao,Ar,Aj,An,Nat.reduceEqDiff,reduceCtorEq, ↓reduceIte,A8,Bb,A5,A9,Be,Ba,Bc,A6,h3]
  refine W.cond (v:=false) Sp Ol (by simp[T.get_set]) (by omega) (fun h=>by cases h) fun _=> ?_
  refine W.end' (rs:=[]) (vs:=[]) IJ_ (.inr (by kernel_rfl)) (by omega) Oe P0 (hx.cx.trans hcx) rfl ?_
  exact q1 (by rw[hla];rfl) s hx hL
 |succ k ih=>
  intro n j tm s td hk hn hTd hx hL hla hj hz h0 h1 h3
  obtain rfl:j=((k:Nat):Int):=by omega
  have hkl:k<hs.length:=by omega
  have hb:=hx.bnd hb0
  have hv1:HiR s v hs:=hv.ext h16 hx fun x h1 h2=>hvl x h1 h2
  have hB1:Own s B 0 v:=hB.ext hx fun hq=>by omega
  have hm:=h16 _ (List.getElem_mem hkl)
  obtain⟨b,o,c,ev,gr,gf⟩:=hv1.at h16 hkl
  rw[QA hkl]at hla
  refine TA.w hTd (by omega) ?_
  simp only[Lk,Ac,W_oS,W_on,Aa,W_mv,Ab,Ag,T.get_set,Ae,Ad,Ak,Al,Af,Au,reduceIte,Ai,Aq,Av,As,Ah,Ap,Ao,Ar,Aj,An,Nat.reduceEqDiff,reduceCtorEq, ↓reduceIte,A8,Bb,A5,A9,Be,Ba,Bc,A6,h3]
  refine W.cond (v:=true) Sp Ol (by simp[T.get_set]) (by omega) (fun _=> ?_) fun h=>by cases h
  refine Dt_.w Lg_ (by omega) ?_
  simp only[Pg,Ac,W_oS,W_on,Aa,W_mv,Ab,Ag,T.get_set,Ae,Ad,Ak,Al,Af,Au,reduceIte,Ai,Aq,Av,As,Ah,Ap,Ao,Ar,Aj,An,Nat.reduceEqDiff,reduceCtorEq, ↓reduceIte,h0,h1,h3]
  refine W.load1 Cm hB1.at' ?_
  simp only[Ac,W_oS,W_on,Aa,W_mv,Ab,Ag,T.get_set,Ae,Ad,Ak,Al,Af,Au,reduceIte,Ai,Aq,Av,As,Ah,Ap,Ao,Ar,Aj,An,Nat.reduceEqDiff,reduceCtorEq, ↓reduceIte,ev,Bx CM hkl]
  refine W.loadA B1 (fun j u e=>(gr j u e).same rfl rfl) (Cg hm) fun s1 m1 n1 x1=> ?_
  have m1':s1.mem=s.mem:=m1
  have n1':s1.next=s.next:=n1
  have y1:Ext Any (fun x=>x=l) s0 s1:=((hx.on (Ext.rdN (F:=Any) (G:=Non) s (B+0) fun _=>trivial) hb0 fun _ _ h=>h.elim).on x1 hb0 fun _ _ h=>h.elim)
  have hO1:FnO s1 C id:=hO.ext hid y1 fun y h1 h2 hq=>by omega
  have hp1:AI s1 pc 0 (pkC p):=hp.ext y1 fun i hi hq=>by
   have:i<3:=hi
   omega
  try simp only[Ac,W_oS,W_on,Aa,W_mv,Ab,Ag,T.get_set,Ae,Ad,Ak,Al,Af,Au,reduceIte,Ai,Aq,Av,As,Ah,Ap,Ao,Ar,Aj,An,Nat.reduceEqDiff,reduceCtorEq, ↓reduceIte]
  refine W.yield (Ia_ (p:=p) (d:=d) (y1.bnd hb0) hO1 (hL.same m1' n1') hT h8 hp1 hid hm hlC hpc hpl (by omega) (fun hne s2 x2 hL2=> ?_) fun heq s2 x2 hL2 hV2=> ?_)
  ·rw[if_neg hne]at hla
   rw[D7]
   simp only[Bool.not_true]
   refine W.cond (v:=false) RD PM (by simp[T.get_set]) (by omega) (fun h=>by cases h) fun _=> ?_
   refine Lq_.w Cs_ (by omega) ?_
   have ej:wrap64 (((k:Nat):Int)-1)=((k:Nat):Int)-1:=B5 (by omega) (by omega)
   simp only[Vg,Ac,W_oS,W_on,Aa,W_mv,Ab,Ag,T.get_set,Ae,Ad,Ak,Al,Af,Au,reduceIte,Ai,Aq,Av,As,Ah,Ap,Ao,Ar,Aj,An,Nat.reduceEqDiff,reduceCtorEq, ↓reduceIte,A8,Bb,A5,A9,Be,Ba,Bc,A6,h3,ej]
   exact ih _ _ _ _ _ (by omega) (by omega) Fp_ (y1.on x2 hb0 fun _ _ h=>h) hL2 hla rfl hz (by simp[T.get_set,h0]) (by simp[T.get_set,h1]) (by simp[T.get_set])
  ·rw[if_pos heq]at hla
   rw[D7]
   simp only[Bool.not_false]
   have y2:Ext Any (fun x=>x=l∨FnG C x) s0 s2:=(y1.weak hb0 (fun _ _ h=>h) fun _ _ h=> .inl h).on x2 hb0 fun _ _ h=>h
   refine W.cond (v:=true) RD PM (by simp[T.get_set]) (by omega) (fun _=> ?_) fun h=>by cases h
   refine W.end' (rs:=[]) (vs:=[]) DF_ (.inl GA_) (by omega) Oe P0 (y2.cx.trans hcx) rfl ?_
   exact q2 _ hla s2 y2 hL2 hV2
end
theorem JU_ {C l d pc B n:Nat}{tm0:T Value}{id:List Nat}{p:PkI}{v:Value}{hs:List HdI}{s:St}{Q:Value→St→Prop}(hb:s.lim≤s.next)(hO:FnO s C id)(hL:LH s l .ready none tm0 d)(hT:FnT C tm0)(h8:T.get tm0 8=some (.pointer (some ⟨pc,0,none⟩)))(hp:AI s pc 0 (pkC p))(hid:id.length=16)(h16: ∀h∈hs,h.1.length=16)(hlC:C+40≤l)(hpc:C+40≤pc)(hpl:pc+3≤l)(hB:Own s B 0 v)(hBl:B<l)(hv:HiR s v hs)(hvl: ∀x,HiF v x→x≠l)(hz:hs.length≤1000000000)(hn:8*hs.length+300≤n)
  (q1:BI hs id=none→ ∀w s1,Ext Any (fun x=>x=l) s s1→LH s1 l .ready none tm0 d→Q w s1)
  (q2: ∀h,BI hs id=some h→ ∀w s1,Ext Any (fun x=>x=l∨FnG C x) s s1→LH s1 l .done (some .ret) tm0 d→FnV s1 C p.num h true→Q w s1):
  W (A2 envS (runF envS n) 129 [.func (.yield l) #[] #[], .pointer (some ⟨B,0,none⟩)]) s Q:=by
 refine ZD fun tm h0 h1=> ?_
 refine GK_.w rfl (by omega) ?_
 simp only[Vh,Ac,W_oS,W_on,Aa,W_mv,Ab,Ag,T.get_set,Ae,Ad,Ak,Al,Af,Au,reduceIte,Ai,Aq,Av,As,Ah,Ap,Ao,Ar,Aj,An,Nat.reduceEqDiff,reduceCtorEq, ↓reduceIte,h1]
 refine W.load1 Cm (hB.same (s':=s.cxN cxN) rfl rfl).at' ?_
 try simp only[Ac,W_oS,W_on,Aa,W_mv,Ab,Ag,T.get_set,Ae,Ad,Ak,Al,Af,Au,reduceIte,Ai,Aq,Av,As,Ah,Ap,Ao,Ar,Aj,An,Nat.reduceEqDiff,reduceCtorEq, ↓reduceIte]
 rw[hv.len]
 have ej:wrap64 (((hs.length:Nat):Int)-1)=((hs.length:Nat):Int)-1:=B5 (by omega) (by omega)
 simp only[Ac,W_oS,W_on,Aa,W_mv,Ab,Ag,T.get_set,Ae,Ad,Ak,Al,Af,Au,reduceIte,Ai,Aq,Av,As,Ah,Ap,Ao,Ar,Aj,An,Nat.reduceEqDiff,reduceCtorEq, ↓reduceIte,A8,Bb,A5,A9,Be,Ba,Bc,A6,ej]
 have xr:Ext Any (fun x=>x=l) (s.cxN cxN) ((s.cxN cxN).rdN (B+0)):=Ext.rdN (F:=Any) (G:=fun x=>x=l) (s.cxN cxN) (B+0) fun _=>trivial
 refine Fu_ (s0:=s.cxN cxN) (C:=C) (l:=l) (d:=d) (pc:=pc) (B:=B) (tm0:=tm0) (p:=p) (v:=v) (hs:=hs) hb (hO.same rfl rfl) hT h8 (fun j u e=>(hp j u e).same rfl rfl) hid h16 hlC hpc hpl (hB.same rfl rfl) hBl (hv.same rfl rfl) hvl rfl (fun hl s1 x1 hL1=> ?_) (fun h hl s1 x1 hL1 hV1=> ?_) hs.length _ _ _ _ _ (Nat.le_refl _) (by omega) Fs_ xr (hL.same rfl rfl) (by rw[List.take_length]) rfl hz (by simp[T.get_set,h0]) (by simp[T.get_set,h1]) (by simp[T.get_set])
 ·exact q1 hl _ _ x1.cx' (hL1.same rfl rfl)
 ·exact q2 h hl _ _ x1.cx' (hL1.same rfl rfl) (hV1.same rfl rfl)
theorem Eb_ {n:Nat}{v:Value}{s:St}{Q:Value→St→Prop}(hv:oneCell v=true)(hn:20≤n)(q: ∀s1,Ext Non Non s s1→s1.next=s.next+2→Own s1 s.next 0 v→Q (.func (.func 129) #[] #[.pointer (some ⟨s.next,0,none⟩)]) s1):W (A2 envS (runF envS n) 100 [v]) s Q:=by
 refine FV_ fun tm h0=> ?_
 refine Lm_.w rfl (by omega) ?_
 simp only[Rs,Ac,W_oS,W_on,Aa,W_mv,Ab,Ag,T.get_set,Ae,Ad,Ak,Al,Af,Au,reduceIte,Ai,Aq,Av,As,Ah,Ap,Ao,Ar,Aj,An,Nat.reduceEqDiff,reduceCtorEq, ↓reduceIte,h0]
 refine W.box fun sa na xa oa=> ?_
 rw[G3 hv]at na oa
 try simp only[Ac,W_oS,W_on,Aa,W_mv,Ab,Ag,T.get_set,Ae,Ad,Ak,Al,Af,Au,reduceIte,Ai,Aq,Av,As,Ah,Ap,Ao,Ar,Aj,An,Nat.reduceEqDiff,reduceCtorEq, ↓reduceIte]
 refine Bm_.w Wb (by omega) ?_
 simp only[TT,Ac,W_oS,W_on,Aa,W_mv,Ab,Ag,T.get_set,Ae,Ad,Ak,Al,Af,Au,reduceIte,Ai,Aq,Av,As,Ah,Ap,Ao,Ar,Aj,An,Nat.reduceEqDiff,reduceCtorEq, ↓reduceIte]
 refine W.end' (rs:=[2]) (vs:=[.func (.func 129) #[] #[.pointer (some ⟨s.next,0,none⟩)]]) Iz_ (.inl Fr_) (by omega) Sj Ix_ xa.cx (by simp[T.get_set];rfl) ?_
 exact q _ xa.cx' na ((oa 0 v rfl).same rfl rfl)
end Go.Proofs.Ytofanlcjeohcjaa.Am
