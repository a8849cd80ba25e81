import Derived.Test.YtjfhmacppabehaaIDk19
namespace Go.Proofs.Ytjfhmacppabehaa.Am
open Go.RowKit
theorem MkS.lenq {E:Env}{s s':St}{t z sz n:Nat}{l:List Value}{v:Value}{b:Nat}(h:MkS s sz n l v b)(ht:slN E t=some z)(Q:Value→St→Prop):W (A6 E .len [t] [v]) s' Q=Q (.int .i64 (n:Nat)) s':=h.len ht Q
section
variable {B n:Nat}{s:St}{Q:Value→St→Prop}
end
section
variable {n D M:Nat}{s:St}{k:DkS}{col:Nat→Nat}{a:ByteArray}{bit:Int}{Q:Value→St→Prop}
end
section
variable {s:St}
theorem W.rowM {vs:List Value}{Q:Value→St→Prop}(hb:s.lim≤s.next)(hz:vs.length<capU)(q: ∀s1 v,MkS s1 1 vs.length vs v s.next→Ext Any Non s s1→Q v s1):W (Am.rowM vs) s Q:=by
 cases vs with
 |nil=>exact W.pure (q s _ (.inl ⟨rfl,rfl,rfl⟩) (Ext.refl _))
 |cons x l=>
  show W (Am.fN (x::l).length fun n=>Am.rowN (x::l) n) s Q
  rw[A4]
  generalize hvs:x::l=vs at *
  have h0:0<vs.length:=by rw[←hvs];simp
  unfold Am.rowN
  refine W.chk (BS hz) (W.bind (W.newL fun s1 n1 x1 r1=> ?_))
  have e1:Nat.add s.next (Nat.mul vs.length 1)=s.next+vs.length:=by
   show s.next+vs.length*1=_
   omega
  rw[e1]
  refine W.bind (W.wrC (by omega) ?_)
  unfold Am.pSl
  show W (Am.fA ⟨s.next,0,none⟩ fun a=>Am.fN _ fun l=>Am.fN _ fun c=>M.pure (.slice (some a) l c)) _ Q
  rw[Ct,A4,A4]
  have hval:Value.slice (some ⟨s.next,0,none⟩) vs.length (Nat.add (Nat.mul capU (Nat.add (Nat.mul (s.next+vs.length) 1024) 1)) vs.length)= .slice (some ⟨s.next,0,none⟩) vs.length (capU*((s.next+vs.length*1)*1024+1)+vs.length):=by
   rw[Nat.mul_one]
   generalize capU=c
   rfl
  rw[hval]
  refine W.pure (q _ _ (.inr ⟨⟨rfl, ?_, ?_, ?_, ?_⟩,h0⟩) ?_)
  ·exact r1.ext (Ext.wrN (F:=Any) (G:=fun y=>y=s.next+vs.length) s1 _ _ rfl) fun i hi h=>by omega
  ·omega
  ·show T.get (T.set s1.mem (s.next+vs.length) _) (s.next+vs.length*1)=_
   rw[Nat.mul_one,T.get_set,if_pos rfl]
  ·show s.next+vs.length*1<s1.next
   omega
  ·exact(x1.weak (G':=Non) hb (fun _ _ _=>trivial) fun _ _ h=>h).on (Ext.wrN (F:=Any) (G:=fun y=>y=s.next+vs.length) s1 _ _ rfl) hb fun y hy h=>by omega
structure NmsOk (l:List ByteArray):Prop where
 dist:F7 (l.map (·.data.toList))=true
 short:FV (l.map (·.data.toList)) 1000000=true
 sort:FW (l.map (·.data.toList))=l.map (·.data.toList)
 len:l.length≤300
theorem R4: ∀fs:List FileS,EJ (fs.map FileS.ent)=some ((fs.map FileS.name).map (·.data.toList))
 |[]=>rfl
 |f::fs=>by
  show(match NS f.ent.key,EJ (fs.map FileS.ent)with|some k,some ks=>some (k::ks)|_,_=>none)=_
  rw[R4 fs]
  rfl
theorem Kc_ (l:List ByteArray):(l.map (·.data.toList)).map encStr=l.map Value.string:=by
 rw[List.map_map]
 refine List.map_congr_left fun a _=> ?_
 show encStr a.data.toList=Value.string a
 unfold encStr
 congr
theorem W.keysQ {Q:Value→St→Prop}{l:Nat}(q: ∀s1,s1.next=s.next+2→Ext Non Non s s1→Own s1 s.next 0 (.map (some l))→Q (.func (.func 72) #[] #[.chan (some s.next)]) s1):W (keysM 72 [.map (some l)]) s Q:=by
 show W (M.bind (Am.newL [.map (some l)]) fun b=>M.pure (.func (.func 72) #[] #[.chan (some b)])) s Q
 exact W.bind (W.newL fun s1 n1 x1 r1=>W.pure (q s1 n1 x1 (r1 0 _ rfl)))
theorem W.sortedQ {Q:Value→St→Prop}{l b m:Nat}{fs:List FileS}(hb:s.lim≤s.next)(h0:Own s b 0 (.map (some l)))(ho:Obj s l (.map (fs.map FileS.ent) m))(hbo:BL (fs.map FileS.ent) 0 m=true)(hN:NmsOk (fs.map FileS.name))(q: ∀s1 v,MkS s1 1 fs.length ((fs.map FileS.name).map Value.string) v s.next→Ext Any Non s s1→Q v s1):W (sortedM 72 [.func (.func 72) #[] #[.chan (some b)]]) s Q:=by
 show W (M.chk (Nat.beq 72 72&&(#[]:Array Value).isEmpty) (M.bind (Am.rdV ⟨b,0,none⟩) fun x=>match x with
   | .map (some l)=>M.bind (Am.mapAt l) sortKs
   |_=>M.fail)) s Q
 refine W.chk (by decide) (W.bind (W.rdV h0.at' ?_))
 have ho1:Obj (s.rdN (b+0)) l (.map (fs.map FileS.ent) m):=ho.same rfl rfl
 refine W.bind (W.bind (W.rdC ho1.2 ho1.1 (W.pure ?_)))
 show W (M.on (EJ (fs.map FileS.ent)) fun ks=>M.chk (BL (fs.map FileS.ent) 0 m&&F7 ks&&FV ks 1000000&&Nat.ble ks.length 1000000) (Am.rowM ((FW ks).map encStr))) ((s.rdN (b+0)).rdN l) Q
 refine W.on (R4 fs) (W.chk ?_ ?_)
 ·have hl:=hN.len
  rw[hbo,hN.dist,hN.short,Nat.ble_eq_true_of_le (show((fs.map FileS.name).map (·.data.toList)).length≤1000000 by simp at hl ⊢;omega)]
  rfl
 ·rw[hN.sort,Kc_]
  have y:=((Ext.refl (F:=Any) (G:=Non) s).thenRd hb (b+0)).thenRd hb l
  have hl:=hN.len
  refine W.rowM (s:=(s.rdN (b+0)).rdN l) hb (Nat.lt_of_le_of_lt (show _≤1000000 by simp at hl ⊢;omega) (by decide)) fun s1 v mk x1=> ?_
  refine q s1 v ?_ (y.on x1 hb fun _ _ h=>h)
  rw[show((fs.map FileS.name).map Value.string).length=fs.length by simp]at mk
  exact mk
end
theorem DO_ (a:ByteArray):(a.extract 0 0).data.toList=[]:=by
 cases a
 simp[ByteArray.extract,ByteArray.copySlice]
theorem CX_ (a:ByteArray){s:St}(Q:Value→St→Prop):W (BR envS 9 (.string a) none (some (.int .i64 ((0:Nat):Int)))) s Q=Q (.string (a.extract 0 0)) s:=by
 have: ∀s,BR envS 9 (.string a) none (some (.int .i64 ((0:Nat):Int))) s= .some (.string (a.extract 0 0)) s:=fun s=>by kernel_rfl
 exact Br (this s)
section
variable {n:Nat}{s:St}{a:ByteArray}{Q:Value→St→Prop}
theorem RV_ (hn:60≤n)(q:Q (.bool true) s):W (Av envS (runF envS n) 46 [.string a, .string ⟨#[]⟩]) s Q:=by
 refine RJ_ fun tm h0 h1=> ?_
 refine Bt_.w rfl (by omega) ?_
 simp only[Ut,Aa,W_mv,Ab]
 refine CO_.w RW_ (by omega) ?_
 simp only[TR,Ad,W_on,Aa,W_mv,Ab,T.get_set,Ah,Af,Ag,Al,reduceIte,Nat.reduceEqDiff,reduceCtorEq, ↓reduceIte,h0,h1]
 refine Ax_ fun tm2 g0 g1=> ?_
 refine DT_.w rfl (by omega) ?_
 simp only[V8,Aa,W_mv,Ab]
 refine JX_.w MM_ (by omega) ?_
 have e1:decide ((((⟨#[]⟩:ByteArray).size:Nat):Int)≤((a.size:Nat):Int))=true:=decide_eq_true (by show(0:Int)≤_;omega)
 have e2:(⟨#[]⟩:ByteArray).size=0:=rfl
 simp only[RF,Ad,W_oS,W_on,Aa,W_mv,Ab,T.get_set,Ah,Af,Ag,reduceIte,Aq,Ay,Ao,Ar,Ap,Nat.reduceEqDiff,reduceCtorEq, ↓reduceIte,C7,g0,g1,SD Ji,e1]
 rw[e2,CX_]
 have e3:((a.extract 0 0).data.toList==(⟨#[]⟩:ByteArray).data.toList)=true:=by rw[DO_];rfl
 simp only[Ud,e3]
 refine W.end' (rs:=[4]) (vs:=[.bool true]) AC_ (.inl HY_) (by omega) R0 KF_ rfl (by simp[T.get_set]) ?_
 show W _ _ _
 try simp only[OX]
 refine W.end' (rs:=[4]) (vs:=[.bool true]) AU_ (.inl Cs_) (by omega) SY Cp_ rfl (by simp[T.get_set]) ?_
 exact q
end
theorem IZ:slN envS 30=some 1:=by kernel_rfl
theorem Ii_:envS.orc.get 43=some (keysM 72):=by kernel_rfl
theorem Cn_:envS.orc.get 42=some (sortedM 72):=by kernel_rfl
def NmR (s:St)(v:Value)(l:List ByteArray)(b:Nat):Prop:=MkS s 1 l.length (l.map Value.string) v b
theorem NmR.at {s:St}{v:Value}{l:List ByteArray}{b i:Nat}(h:NmR s v l b)(hi:i<l.length): ∃c,v= .slice (some ⟨b,0,none⟩) l.length c∧Own s b (0+i*1) (.string l[i]):=by
 rcases h with⟨_,h0,_⟩|⟨h,h0⟩
 ·omega
 ·refine⟨_,h.val, ?_⟩
  rw[Nat.mul_one,Nat.zero_add]
  have h1:=h.own i (.string l[i]) (by simp[hi])
  rwa [Nat.zero_add]at h1
section
variable {n P:Nat}{s:St}{a:ByteArray}{Q:Value→St→Prop}
theorem Bg_ (hb:s.lim≤s.next)(hP:Own s P 0 (.string ⟨#[]⟩))(hn:100≤n)(q: ∀s1,s1.mem=s.mem→s1.next=s.next→Ext Any Non s s1→Q (.bool false) s1):W (Av envS (runF envS n) 45 [.string a, .pointer (some ⟨P,0,none⟩)]) s Q:=by
 have hb0:(s.cxN cxN).lim≤(s.cxN cxN).next:=hb
 refine IU_ fun tm h0 h1=> ?_
 refine Gx_.w rfl (by omega) ?_
 simp only[Sz,Aa,W_mv,Ab]
 refine Gn_.w KI_ (by omega) ?_
 simp only[W5,Ad,W_oS,W_on,Aa,W_mv,Ab,T.get_set,Ah,Af,Ag,Al,reduceIte,Nat.reduceEqDiff,reduceCtorEq, ↓reduceIte,h0,h1]
 refine W.load1 E7 (hP.same (s':=s.cxN cxN) rfl rfl).at' ?_
 have y1:=(Ext.refl (F:=Any) (G:=Non) (s.cxN cxN)).thenRd hb0 (P+0)
 try simp only[Ad,W_oS,W_on,Aa,W_mv,Ab,AJ,T.get_set,Ah,Af,AH,AG,Ag,Al,reduceIte,Aq,Ay,AM,AD,AB,Ao,Ar,AC,Ap,An,Nat.reduceEqDiff,reduceCtorEq, ↓reduceIte]
 refine RV_ (by omega) ?_
 simp only[CI,Bool.not_true]
 refine W.end' (rs:=[3]) (vs:=[.bool false]) HA_ (.inl AA_) (by omega) QF Al_ rfl (by simp[T.get_set]) ?_
 exact q _ rfl rfl y1.cx'
theorem AY_ {l:List ByteArray}{v:Value}{b:Nat}{Q:Value×FrameMode→St→Prop}{s0:St}(hb0:s0.lim≤s0.next)(hl:l.length≤300)(hr:NmR s0 v l b)(hP:Own s0 P 0 (.string ⟨#[]⟩))(hcx:s0.cx=cxN)(q: ∀s1,s1.mem=s0.mem→s1.next=s0.next→Ext Any Non s0 s1→Q (.int .i64 (-1), .run) s1):
  ∀(k i n:Nat) (tm:T Value) (s:St) (td:List Item),i+k=l.length→10*k+200≤n→skim 64 td=Fu→Ext Any Non s0 s→s.mem=s0.mem→s.next=s0.next→
  T.get tm 0=some v→T.get tm 1=some (.func (.func 45) #[] #[.pointer (some ⟨P,0,none⟩)])→T.get tm 7=some (.int .i64 (l.length:Nat))→T.get tm 8=some (.int .i64 (i:Nat))→
  W (runF envS n ⟨73,FW_,Dz,tm,td, .run, .normal,none⟩) s Q:=by
 intro k
 induction k with
 |zero=>
  intro i n tm s td hi hn hT hx hm hnx h0 h1 h7 h8
  refine RV.w hT (by omega) ?_
  simp only[No,Ad,W_oS,Aa,Ab,BE,h7,h8]
  refine W.cond (v:=false) WP TL (by simp[T.get_set];omega) (by omega) (fun h=>by cases h) fun _=> ?_
  refine RH_.w PY_ (by omega) ?_
  simp only[QU,Aa,W_mv,Ab]
  refine W.end' (rs:=[4]) (vs:=[.int .i64 (-1)]) OX_ (.inl Nn_) (by omega) W3 JV_ (hx.cx.trans hcx) (by simp[T.get_set]) ?_
  exact q s hm hnx hx
 |succ k ih=>
  intro i n tm s td hi hn hT hx hm hnx h0 h1 h7 h8
  have hil:i<l.length:=by omega
  obtain⟨c,rfl,ho⟩:=NmR.at hr hil
  refine RV.w hT (by omega) ?_
  simp only[No,Ad,W_oS,Aa,Ab,BE,h7,h8]
  refine W.cond (v:=true) WP TL (by simp[T.get_set];omega) (by omega) (fun _=> ?_) fun h=>by cases h
  refine Rq_.w Hj_ (by omega) ?_
  simp only[VZ,Aa,W_mv,Ab,T.get_set,reduceIte,Nat.reduceEqDiff, ↓reduceIte,h8]
  refine ZK.w KP_ (by omega) ?_
  simp only[XF,Ad,W_oS,W_on,Aa,W_mv,Ab,T.get_set,Ah,Af,Ag,reduceIte,Nat.reduceEqDiff,reduceCtorEq, ↓reduceIte,h0,h1,Cf IZ hil]
  refine W.load1 E7 (ho.same hm hnx).at' ?_
  have y1:=hx.thenRd hb0 (b+(0+i*1))
  try simp only[WD]
  refine Bg_ (P:=P) (y1.bnd hb0) ((hP.same hm hnx).same rfl rfl) (by omega) fun s2 m2 n2 x2=> ?_
  have y2:=y1.on x2 hb0 fun _ _ h=>h
  try simp only[Ad,W_oS,W_on,Aa,W_mv,Ab,AJ,T.get_set,Ah,Af,AH,AG,Ag,Al,reduceIte,Aq,Ay,AM,AD,AB,Ao,Ar,AC,Ap,An,Nat.reduceEqDiff,reduceCtorEq, ↓reduceIte]
  refine W.cond (v:=false) CF_ Op_ (by simp[T.get_set]) (by omega) (fun h=>by cases h) fun _=> ?_
  refine Hh_.w Sf_ (by omega) ?_
  have ei:wrap64 ((i:Nat)+1:Int)=((i+1:Nat):Int):=by
   rw[BO (by omega) (by omega)];simp
  simp only[XK,Ad,W_oS,Aa,W_mv,Ab,T.get_set,reduceIte,Nat.reduceEqDiff, ↓reduceIte,BU,h8,ei]
  exact ih (i+1) _ _ _ _ (by omega) (by omega) ZQ y2 (m2.trans hm) (n2.trans hnx) (by simp[T.get_set,h0]) (by simp[T.get_set,h1]) (by simp[T.get_set,h7]) (by simp[T.get_set])
theorem Kb_ {l:List ByteArray}{v:Value}{b:Nat}(hb:s.lim≤s.next)(hl:l.length≤300)(hr:NmR s v l b)(hP:Own s P 0 (.string ⟨#[]⟩))(hn:10*l.length+300≤n)(q: ∀s1,s1.mem=s.mem→s1.next=s.next→Ext Any Non s s1→Q v s1):W (Av envS (runF envS n) 44 [v, .func (.func 45) #[] #[.pointer (some ⟨P,0,none⟩)]]) s Q:=by
 have hb0:(s.cxN cxN).lim≤(s.cxN cxN).next:=hb
 refine FO_ fun tm h0 h1=> ?_
 refine CT_.w rfl (by omega) ?_
 simp only[XO,Aa,W_mv,Ab]
 refine Eq_.w Ol_ (by omega) ?_
 simp only[QY,Ad,W_on,Aa,W_mv,Ab,T.get_set,Ah,Af,Ag,Al,reduceIte,Nat.reduceEqDiff,reduceCtorEq, ↓reduceIte,h0,h1]
 refine Ff_ fun tm2 g0 g1=> ?_
 refine Nw_.w rfl (by omega) ?_
 simp only[Ty,Aa,W_mv,Ab]
 refine Cw_.w KA_ (by omega) ?_
 simp only[Ta,Ad,W_oS,Aa,W_mv,Ab,T.get_set,Ah,Af,Ag,reduceIte,reduceCtorEq, ↓reduceIte,g0,MkS.lenq hr IZ]
 refine AY_ (P:=P) (s0:=(s.cxN cxN).cxN cxN) hb hl (MkS.same hr rfl rfl) (hP.same rfl rfl) rfl (fun s1 m1 n1 x1=> ?_) l.length 0 _ _ _ _ (by omega) (by omega) LS_ (Ext.refl _) rfl rfl (by simp[T.get_set,g0]) (by simp[T.get_set,g1]) (by simp[T.get_set]) (by simp[T.get_set])
 show W _ (s1.cxN cxN) _
 try simp only[Ad]
 refine PB_.w Aw_ (by omega) ?_
 simp only[TP,Ad,W_oS,Aa,W_mv,Ab,T.get_set,reduceIte, ↓reduceIte,Cj,decide_true]
 refine W.cond (v:=true) MW_ Qr_ (by simp[T.get_set]) (by omega) (fun _=> ?_) fun h=>by cases h
 refine De_.w JC_ (by omega) ?_
 simp only[YX,Aa,W_mv,Ab,T.get_set,reduceIte,reduceCtorEq, ↓reduceIte,h0]
 refine W.end' (rs:=[4]) (vs:=[v]) JN_ (.inl Ai_) (by omega) WI Bw_ rfl (by simp[T.get_set]) ?_
 exact q _ m1 n1 ⟨x1.nxt,x1.lim,rfl,x1.mem,x1.rd,x1.wr⟩
theorem Sg_ {D M:Nat}{k:DkS}{col:Nat→Nat}(hb:s.lim≤s.next)(hI:DkI s col D M k)(hN:NmsOk (k.fs.map FileS.name))(hn:10*k.fs.length+500≤n)(q: ∀s1 v b,s.next≤b→NmR s1 v (k.fs.map FileS.name) b→Ext Any Non s s1→Q v s1):W (Av envS (runF envS n) 11 [.pointer (some ⟨D,0,none⟩), .string ⟨#[]⟩]) s Q:=by
 have hb0:(s.cxN cxN).lim≤(s.cxN cxN).next:=hb
 have hI0:DkI (s.cxN cxN) col D M k:=hI.same rfl rfl
 have hlen:k.fs.length≤300:=by have:=hN.len;simpa using this
 refine Me_ fun tm t0 t1=> ?_
 refine Cb_.w rfl (by omega) ?_
 simp only[YT,Ad,W_oS,Aa,W_mv,Ab,t1]
 refine W.box fun s1 n1 x1 o1=> ?_
 have ea:(s.cxN cxN).next=s.next:=rfl
 rw[EX (show oneCell (.string ⟨#[]⟩)=true from rfl)]at n1 o1
 rw[ea]at o1 n1 ⊢
 have n1':s1.next=s.next+2:=n1
 have y1:Ext Any Non (s.cxN cxN) s1:=x1.weak hb0 (fun _ _ _=>trivial) fun _ _ h=>h
 have hI1:=hI0.ext0 x1 hlen
 have oP:Own s1 s.next 0 (.string ⟨#[]⟩):=o1 0 _ rfl
 try simp only[Ad,W_oS,W_on,Aa,W_mv,Ab,AJ,T.get_set,Ah,Af,AH,AG,Ag,Al,reduceIte,Aq,Ay,AM,AD,AB,Ao,Ar,AC,Ap,An,Nat.reduceEqDiff,reduceCtorEq, ↓reduceIte]
 refine RG_.w Jb_ (by omega) ?_
 simp only[WA,Ad,W_on,Aa,W_mv,Ab,T.get_set,Ah,Af,Ag,Al,reduceIte,reduceCtorEq, ↓reduceIte,t0]
 refine EW (y1.bnd hb0) hI1.d0 (by omega) fun s2 m2 n2 x2=> ?_
 have y2:=y1.on x2 hb0 fun _ _ h=>h
 have hI2:=hI1.same m2 n2
 have oP2:=oP.same m2 n2
 try simp only[Ad,W_oS,W_on,Aa,W_mv,Ab,AJ,T.get_set,Ah,Af,AH,AG,Ag,Al,reduceIte,Aq,Ay,AM,AD,AB,Ao,Ar,AC,Ap,An,Nat.reduceEqDiff,reduceCtorEq, ↓reduceIte]
 refine W.cond (v:=false) Gu_ Gd_ (by simp[T.get_set]) (by omega) (fun h=>by cases h) fun _=> ?_
 refine Jl_.w DR_ (by omega) ?_
 simp only[Yo,Ad,W_oS,W_on,Aa,W_mv,Ab,T.get_set,Ah,Af,Ag,Al,reduceIte,An,reduceCtorEq, ↓reduceIte,t0,Bb Dk (by decide)]
 refine W.load1 Du hI2.d1.at' ?_
 have y3:=y2.thenRd hb0 (D+(0+1))
 have hI3:DkI (s2.rdN (D+(0+1))) col D M k:=hI2.same rfl rfl
 have oP3:Own (s2.rdN (D+(0+1))) s.next 0 (.string ⟨#[]⟩):=oP2.same rfl rfl
 have n3:(s2.rdN (D+(0+1))).next=s.next+2:=n2.trans n1'
 generalize s2.rdN (D+(0+1))=s3 at *
 try simp only[Ad,W_oS,W_on,Aa,W_mv,Ab,AJ,T.get_set,Ah,Af,AH,AG,Ag,Al,reduceIte,Aq,Ay,AM,AD,AB,Ao,Ar,AC,Ap,An,Nat.reduceEqDiff,reduceCtorEq, ↓reduceIte]
 refine W.orc Ii_ (W.keysQ fun s4 n4 x4 o4=> ?_)
 have y4:=y3.on x4 hb0 fun _ _ h=>h
 have hI4:=hI3.ext0 x4 hlen
 have oP4:=oP3.ext0 x4
 rw[n3]at o4 n4 ⊢
 try simp only[Ad,W_oS,W_on,Aa,W_mv,Ab,AJ,T.get_set,Ah,Af,AH,AG,Ag,Al,reduceIte,Aq,Ay,AM,AD,AB,Ao,Ar,AC,Ap,An,Nat.reduceEqDiff,reduceCtorEq, ↓reduceIte]
 refine W.orc Cn_ (W.sortedQ (y4.bnd hb0) o4 hI4.om hI4.bo hN fun s5 v mk x5=> ?_)
 have y5:=y4.on x5 hb0 fun _ _ h=>h
 have oP5:=oP4.ext0 x5
 try simp only[Ad,W_oS,W_on,Aa,W_mv,Ab,AJ,T.get_set,Ah,Af,AH,AG,Ag,Al,reduceIte,Aq,Ay,AM,AD,AB,Ao,Ar,AC,Ap,An,Nat.reduceEqDiff,reduceCtorEq, ↓reduceIte]
 refine MQ_.w Qw_ (by omega) ?_
 simp only[YP,Ad,W_oS,W_on,Aa,W_mv,Ab,T.get_set,Ah,Af,Ag,Al,reduceIte,Nat.reduceEqDiff, ↓reduceIte]
 have hr:NmR s5 v (k.fs.map FileS.name) s4.next:=by
  unfold NmR
  rw[List.length_map]
  exact mk
 refine Kb_ (P:=s.next) (y5.bnd hb0) hN.len hr oP5 (by simp;omega) fun s6 m6 n6 x6=> ?_
 have y6:=y5.on x6 hb0 fun _ _ h=>h
 try simp only[Ad,W_oS,W_on,Aa,W_mv,Ab,AJ,T.get_set,Ah,Af,AH,AG,Ag,Al,reduceIte,Aq,Ay,AM,AD,AB,Ao,Ar,AC,Ap,An,Nat.reduceEqDiff,reduceCtorEq, ↓reduceIte]
 refine W.end' (rs:=[4]) (vs:=[v]) EE_ (.inl AW_) (by omega) XR Hn_ y6.cx (by simp[T.get_set]) ?_
 exact q _ v s4.next (by omega) (MkS.same (MkS.same hr m6 n6) rfl rfl) y6.cx'
end
theorem MkS.pre {s:St}{m:List Nat}{v:Value}{b kk:Nat}(h:MkS s 1 m.length (u8l m) v b)(hk:kk≤m.length)(hz:m.length<capU): ∃v',(∀(s':St) (Q:Value→St→Prop),W (BR envS 26 v none (some (.int .i64 (kk:Nat)))) s' Q=Q v' s')∧Bs s v' (m.take kk)∧ ∀x,BsF v' x→MkF 1 m.length b x:=by
 rcases h with⟨rfl,h0,_⟩|⟨h,h0⟩
 ·have hm:m=[]:=List.eq_nil_of_length_eq_zero h0
  subst hm
  have:kk=0:=by simpa using hk
  subst this
  exact⟨.slice none 0 0,fun s' Q=>Ur (lo:=none) (hi:=some (.int .i64 ((0:Nat):Int))) CT rfl rfl Q, .inl ⟨rfl,rfl⟩,fun x hx=>hx.elim⟩
 ·have e:=h.val
  have hc:(capU*((b+m.length*1)*1024+1)+m.length)%capU=m.length:=LW hz
  have hok:BQ (capU*((b+m.length*1)*1024+1)+m.length) 1=true:=ID hz (by decide)
  generalize capU*((b+m.length*1)*1024+1)+m.length=C at *
  obtain⟨o',e1,e2,e3,e4,e5⟩:=Bs.sub' (b:=b) (o:=0) (c:=C) (i:=0) (j:=kk) (l:=m) (Nat.zero_le _) hk (by omega) hok (fun i u hu=>(h.own i u hu).at')
  rw[List.drop_zero]at e1 e2 e4 e5
  refine⟨_,fun s' Q=> ?_, .inr ⟨b,o',C-0,e1,e2,e3,e4⟩,fun x hx=> ?_⟩
  ·rw[e]
   exact QL (l:=0) (h:=kk) (lo:=none) (hi:=some (.int .i64 (kk:Nat))) CT rfl rfl (Nat.zero_le _) (by omega) hok Q
  ·rw[e1]at hx
   have h1:b+o'≤x:=hx.1
   have h2:x<b+o'+(m.take kk).length:=hx.2
   rw[List.length_take]at h2
   refine⟨h0,by omega, ?_⟩
   rcases e5 with e5|e5
   ·omega
   ·rw[List.length_take]at e5
    omega
section
variable {n D M j kk:Nat}{s:St}{k:DkS}{col:Nat→Nat}{tm:T Value}{td:List Item}{Q:Value×FrameMode→St→Prop}
theorem KB_ (hb0:s.lim≤s.next)(hI0:DkI s col D M k)(hj:j<k.fs.length)(t7:T.get tm 7=some (.pointer (some ⟨k.fs[j].blk,0,none⟩)))(t8:T.get tm 8=some (.int .i64 (kk:Nat)))(hkk:kk≤k.fs[j].lb.length)(hused:k.fs[j].sb.length+k.fs[j].lb.length≤1000000)(hlen:k.fs.length≤300)(hT:skim 64 td=D5)(hn:20≤n)
  (q: ∀td' s1 v b,skim 64 td'=KS→DkI s1 (paint col s.next (2+3*j+1)) D M {k with fs:=k.fs.set j (k.fs[j].kept v b (k.fs[j].sb++k.fs[j].lb.take kk))}→Ext Any (fun x=>col x<1000) s s1→W (runF envS (n-1) ⟨18,HO,BM,tm,td', .run, .normal,none⟩) s1 Q):
  W (runF envS n ⟨18,HO,BM,tm,td, .run, .normal,none⟩) s Q:=by
 have g:=hI0.fl j hj
 have k0:=g.k k.fs[j].blk (Nat.le_refl _) (by omega)
 have k1:=g.k (k.fs[j].blk+1) (by omega) (by omega)
 obtain⟨lv',hsl,hbl,hbf⟩:=g.ml.pre hkk (Nat.lt_of_le_of_lt (show _≤1000000 by omega) (by decide))
 have hkl:(k.fs[j].lb.take kk).length≤k.fs[j].lb.length:=by rw[List.length_take];omega
 refine EL_.w hT (by omega) ?_
 simp only[QZ,t7,t8,A8,FN]
 rw[W_dq fun s Q=>An (s:=s) _ Q]
 dsimp only
 try simp only[A8]
 rw[W_dq fun s Q=>Bb (s:=s) G1 (by decide) Q]
 dsimp only
 try simp only[A8]
 refine W.dload BV ((g.o0.same (s':=dSt s.mem s.next) rfl rfl).at') fun rd5 hr5=> ?_
 try simp only[FN]
 rw[W_dq fun s Q=>An (s:=s) _ Q]
 dsimp only
 try simp only[A8]
 rw[W_dq fun s Q=>Bb (s:=s) Dy (by decide) Q]
 dsimp only
 try simp only[A8]
 refine W.dload BV ((g.o1.same (s':=dSt s.mem s.next) rfl rfl).at') fun rd9 hr9=> ?_
 try simp only[FN,Ld,Ag]
 rw[W_dq fun s Q=>hsl s Q]
 dsimp only
 try simp only[A8,Ah,Af,Ag]
 refine W.dopG ?_
 rw[Hp]
 refine W.appV (s:=oSt s.mem s.next) (Nat.le_refl _) Hq (g.ms.same rfl rfl) (hbl.same (s':=oSt s.mem s.next) rfl rfl).src.g (by decide) (by decide) (by omega) (by rw[Cb,Nat.mul_one]) (Er _) fun s2 v2 b2 hb2 mk2 x2=>⟨_,_,x2,fun rd10 wr10 hr10 hw10=> ?_⟩
 have n2:s.next≤s2.next:=x2.nxt
 try simp only[A8]
 rw[W_dq fun s Q=>An (s:=s) _ Q]
 dsimp only
 try simp only[A8]
 rw[W_dq fun s Q=>Bb (s:=s) G1 (by decide) Q]
 dsimp only
 try simp only[A8]
 refine W.dopG ?_
 have o0:Own (oSt s2.mem s2.next) k.fs[j].blk 0 k.fs[j].sv:=((g.o0.same (s':=oSt s.mem s.next) rfl rfl).ext x2 fun h=>by have h1:=g.ks _ h;rw[Nat.add_zero,k0]at h1;omega).same rfl rfl
 have o1:Own (oSt s2.mem s2.next) k.fs[j].blk 1 k.fs[j].lv:=((g.o1.same (s':=oSt s.mem s.next) rfl rfl).ext x2 fun h=>by have h1:=g.ks _ h;rw[k1]at h1;omega).same rfl rfl
 refine W.store1 BV mk2.one o0 fun s3 n3 x3 o3=>⟨_,_,x3,fun rd13 wr13 hr13 hw13=> ?_⟩
 have n3':s3.next=s2.next:=n3
 try simp only[A8]
 rw[W_dq fun s Q=>An (s:=s) _ Q]
 dsimp only
 try simp only[A8]
 rw[W_dq fun s Q=>Bb (s:=s) Dy (by decide) Q,Aa]
 refine⟨Hh ?_, ?_⟩
 ·simp only[List.reverse_cons,List.reverse_nil,List.nil_append,List.cons_append,allP,Dv,List.take,Gp]
  have lts: ∀x,s.next≤x→ ¬x<s.next:=fun x h=>by omega
  simp+contextual [lts]
  repeat' first
   |exact .inl rfl
   |apply And.intro
 ·refine W.cast (Bx_ _ _ _ _ _ _ _ _ _ _ _ _ _ _ _ _ _ _ _ _ _ _) ?_
  simp only[Ad,W_oS,Aa]
  generalize hs':(⟨(dSt s3.mem s3.next).mem,(dSt s3.mem s3.next).next,s.lim,_,_,s.cx⟩:St)=s7
  have m7:s7.mem=s3.mem:=by rw[←hs'];rfl
  have n7:s7.next=s3.next:=by rw[←hs'];rfl
  have x7:Ext Any (fun x=>x=k.fs[j].blk∨x=k.fs[j].blk+1∨MkF 1 k.fs[j].sb.length k.fs[j].sbk x) s s7:=by
   rw[←hs']
   refine Ext.drawG (by show s.next≤s3.next;omega) (fun x hx hg=> ?_) ?_ fun _ _ _ _ _=>trivial
   ·have e1:T.get s3.mem x=T.get s2.mem x:=x3.mem x (by show x<s2.next;omega) fun h=>hg (.inl (by have h1:=h.1;have h2:=h.2;omega))
    exact e1.trans (x2.mem x hx fun h=>hg (.inr (.inr h)))
   ·simp only[List.mem_cons,List.not_mem_nil,or_false]
    rintro m (rfl|rfl|rfl|rfl|rfl|rfl|rfl|rfl|rfl|rfl|rfl|rfl|rfl|rfl|rfl|rfl|rfl|rfl) x hx hxl<;>first|(cases hx;done)|exact .inr (.inr (hw10 x hx).2)|exact .inl (by have h4:=(hw13 x hx).2;have h1:=h4.1;have h2:=h4.2;omega)
  have o17:Own s7 k.fs[j].blk 1 k.fs[j].lv:=(o1.ext x3 fun h=>by have h1:=h.1;have h2:=h.2;omega).same m7 n7
  refine W.store1 BV rfl o17 fun s8 n8 x8 o8=> ?_
  try simp only[Ad,W_oS,W_on,Aa,W_mv,Ab,AJ,T.get_set,Ah,Af,AH,AG,Ag,Al,reduceIte,Aq,Ay,AM,AD,AB,Ao,Ar,AC,Ap,An,Nat.reduceEqDiff,reduceCtorEq, ↓reduceIte]
  have y8:Ext Any (fun x=>x=k.fs[j].blk∨x=k.fs[j].blk+1∨MkF 1 k.fs[j].sb.length k.fs[j].sbk x) s s8:=x7.on x8 hb0 fun y _ hq=> .inr (.inl (by have h1:=hq.1;have h2:=hq.2;omega))
  have hnb: ∀x,MkF 1 (k.fs[j].sb.length+(k.fs[j].lb.take kk).length) b2 x→x≠k.fs[j].blk∧x≠k.fs[j].blk+1:=fun x hx=>by
   rcases hb2 with h|h
   ·rw[h.1,h.2,Nat.add_zero]at hx
    have h1:=g.ks x hx
    exact⟨fun h2=>by rw[h2]at h1;omega,fun h2=>by rw[h2]at h1;omega⟩
   ·have h3:=hx.2.1
    have h4:=g.o1.1
    have h6:s.next≤b2:=h
    exact⟨by omega,by omega⟩
  have mk8:MkS s8 1 (k.fs[j].sb++k.fs[j].lb.take kk).length (u8l (k.fs[j].sb++k.fs[j].lb.take kk)) v2 b2:=by
   rw[Lu,List.length_append]
   have mk3:=(mk2.same (s':=oSt s2.mem s2.next) rfl rfl).ext x3 fun x hx h=>(hnb x hx).1 (by have h1:=h.1;have h2:=h.2;omega)
   exact(mk3.same m7 n7).ext x8 fun x hx h=>(hnb x hx).2 (by have h1:=h.1;have h2:=h.2;omega)
  have o08:Own s8 k.fs[j].blk 0 v2:=(Own.same o3 m7 n7).ext x8 fun h=>by have h1:=h.1;have h2:=h.2;omega
  have hf:=g.kept y8 o08 o8 mk8 (hb2.imp (fun h=>⟨h.1,by rw[List.length_append,h.2,Nat.add_zero]⟩) fun h=>h)
  have hD:=hI0.file (col':=paint col s.next (2+3*j+1)) hj y8 (fun y hy h=>by
   rcases h with rfl|rfl|h
   ·omega
   ·omega
   ·have:=g.ks y h
    omega) (fun y hy=>BD hy) hf (FileS.kept_ent ..)
  refine q _ _ v2 b2 DC_ hD (y8.gw hb0 fun y hy h=> ?_)
  rcases h with rfl|rfl|h
  ·omega
  ·omega
  ·have:=g.ks y h
   omega
end
theorem Oy:slN envS 49=some 1:=by kernel_rfl
theorem FE_:tyS envS 3=some (1,false):=by kernel_rfl
theorem Ext.rdG {G:Nat→Prop}{s s':St}(h:Ext Any G s s')(hb:s.lim≤s.next)(x:Nat):Ext Any G s (s'.rdN x):=h.on (Ext.rdN (F:=Any) (G:=Non) s' x fun _=>trivial) hb fun _ _ h=>h.elim
def KsF (v:Value):Nat→Prop:=match v with
 | .slice (some a) n _=>In a.block a.off n
 |_=>fun _=>False
def KsR (s:St)(v:Value)(ks:List Int):Prop:=(v= .slice none 0 0∧ks=[])∨ ∃b o c,v= .slice (some ⟨b,o,none⟩) ks.length c∧Bd s b o (ks.map (Value.int .i64))
theorem KsR.ext {F G:Nat→Prop}{s s':St}{v:Value}{ks:List Int}(h:KsR s v ks)(e:Ext F G s s')(hG: ∀x,KsF v x→ ¬G x):KsR s' v ks:=by
 rcases h with h|⟨b,o,c,rfl,h⟩
 ·exact .inl h
 ·exact .inr ⟨b,o,c,rfl,h.ext e fun i hi=>hG _ (show In b o ks.length _ from⟨by omega,by rw[List.length_map]at hi;omega⟩)⟩
theorem KsR.ext0 {F:Nat→Prop}{s s':St}{v:Value}{ks:List Int}(h:KsR s v ks)(e:Ext F Non s s'):KsR s' v ks:=h.ext e fun _ _=>id
theorem KsR.same {s s':St}{v:Value}{ks:List Int}(h:KsR s v ks)(hm:s'.mem=s.mem)(hn:s'.next=s.next):KsR s' v ks:=by
 rcases h with h|⟨b,o,c,rfl,h⟩
 ·exact .inl h
 ·exact .inr ⟨b,o,c,rfl,fun i u e=>(h i u e).same hm hn⟩
theorem KsR.len {s s':St}{v:Value}{ks:List Int}{Q:Value→St→Prop}(h:KsR s v ks):W (A6 envS .len [49] [v]) s' Q=Q (.int .i64 (ks.length:Nat)) s':=by
 rcases h with⟨rfl,rfl⟩|⟨b,o,c,rfl,h⟩
 ·exact B7 (n:=0) Oy Q
 ·exact B7 Oy Q
theorem KsR.at {s:St}{v:Value}{ks:List Int}{i:Nat}(h:KsR s v ks)(hi:i<ks.length): ∃b o c,v= .slice (some ⟨b,o,none⟩) ks.length c∧Own s b (o+i*1) (.int .i64 ks[i]):=by
 rcases h with⟨rfl,rfl⟩|⟨b,o,c,rfl,h⟩
 ·cases hi
 ·exact⟨b,o,c,rfl,by rw[Nat.mul_one];exact h i _ (by simp[hi])⟩
def CO (ks:List Int)(i L:Nat):Nat:=if h:i<ks.length then(ks[i]%((L+1:Nat):Int)).toNat else 0
theorem GD_ (ks:List Int)(i L:Nat):CO ks i L≤L:=by
 unfold CO
 split
 ·have h1:=Int.emod_lt_of_pos ks[i] (b:=((L+1:Nat):Int)) (by omega)
  have h2:=Int.emod_nonneg ks[i] (b:=((L+1:Nat):Int)) (by omega)
  omega
 ·exact Nat.zero_le _
theorem PL_ {x:Int}{m:Nat}(hm:1≤m):(x.tmod (m:Nat)+(m:Nat)).tmod (m:Nat)=x%(m:Nat):=by
 have b2: -(m:Nat)<x.tmod (m:Nat):=by
  have:=Int.lt_tmod_of_pos x (b:=(m:Nat)) (by omega)
  omega
 have e:x=x.tmod (m:Nat)+(m:Nat)*x.tdiv (m:Nat):=(Int.tmod_add_mul_tdiv x (m:Nat)).symm
 rw[Int.tmod_eq_emod_of_nonneg (by omega),Int.add_emod_right]
 conv=>rhs;rw[e]
 rw[Int.add_mul_emod_self_left]
def CrF (ks:List Int)(fs fs':List FileS)(i:Nat):Prop:=fs'.length=fs.length∧ ∀t (h:t<fs.length) (h':t<fs'.length),(t<i→ ∃v b,fs'[t]=fs[t].kept v b (fs[t].sb++fs[t].lb.take (CO ks t fs[t].lb.length)))∧(i≤t→fs'[t]=fs[t])
theorem CrF.names {ks:List Int}{fs fs':List FileS}{i:Nat}(h:CrF ks fs fs' i):fs'.map FileS.name=fs.map FileS.name:=by
 apply List.ext_getElem
 ·simp[h.1]
 ·intro t h1 h2
  rw[List.getElem_map,List.getElem_map]
  rw[List.length_map]at h1 h2
  rcases Nat.lt_or_ge t i with q|q
  ·obtain⟨v,b,e⟩:=(h.2 t h2 h1).1 q
   rw[e]
   rfl
  ·rw[(h.2 t h2 h1).2 q]
theorem CrF.succ {ks:List Int}{fs fs':List FileS}{i b:Nat}{v:Value}(h:CrF ks fs fs' i)(hi:i<fs.length)(hi':i<fs'.length):CrF ks fs (fs'.set i (fs'[i].kept v b (fs'[i].sb++fs'[i].lb.take (CO ks i fs'[i].lb.length)))) (i+1):=by
 have ei:=(h.2 i hi hi').2 (Nat.le_refl _)
 refine⟨by rw[List.length_set];exact h.1,fun t h1 h2=>⟨fun q=> ?_,fun q=> ?_⟩⟩
 ·rw[List.length_set]at h2
  by_cases c:t=i
  ·subst c
   exact⟨v,b,by rw[List.getElem_set_self,ei]⟩
  ·rw[List.getElem_set_ne (by omega)]
   exact(h.2 t h1 h2).1 (by omega)
 ·rw[List.length_set]at h2
  rw[List.getElem_set_ne (by omega)]
  exact(h.2 t h1 h2).2 (by omega)
theorem CrF.zero (ks:List Int)(fs:List FileS):CrF ks fs fs 0:=⟨rfl,fun _ _ _=>⟨fun h=>absurd h (Nat.not_lt_zero _),fun _=>rfl⟩⟩
section
variable {D M:Nat}{k:DkS}{ks:List Int}{kv v:Value}{bN:Nat}{col0:Nat→Nat}{s0:St}
theorem Rz_ {Q:Value×FrameMode→St→Prop}(hb0:s0.lim≤s0.next)(hlen:k.fs.length≤300)(hz:k.used≤1000000)(hlk: ∀i (h:i<k.fs.length),BB k.fs k.fs[i].name=some i)
  (hv0:NmR s0 v (k.fs.map FileS.name) bN) (hk0:KsR s0 kv ks) (hcv: ∀x,MkF 1 k.fs.length bN x→1000≤col0 x) (hck: ∀x,KsF kv x→1000≤col0 x∧x<s0.next)
  (q: ∀n' tm' td' s1 col' fs',100≤n'→skim 64 td'=HB→T.get tm' 0=some (.pointer (some ⟨D,0,none⟩))→DkI s1 col' D M {k with fs:=fs'}→CrF ks k.fs fs' k.fs.length→(∀x,x<s0.next→col' x=col0 x)→Ext Any (fun x=>col0 x<1000) s0 s1→W (runF envS n' ⟨18,HO,BM,tm',td', .run, .normal,none⟩) s1 Q):
  ∀(m i n:Nat) (tm:T Value) (s:St) (td:List Item) (col':Nat→Nat) (fs':List FileS),i+m=k.fs.length→20*m+200≤n→skim 64 td=FE→Ext Any (fun x=>col0 x<1000) s0 s→DkI s col' D M {k with fs:=fs'}→CrF ks k.fs fs' i→(∀x,x<s0.next→col' x=col0 x)→
  T.get tm 0=some (.pointer (some ⟨D,0,none⟩))→T.get tm 1=some kv→T.get tm 13=some v→T.get tm 14=some (.int .i64 (k.fs.length:Nat))→T.get tm 15=some (.int .i64 (i:Nat))→
  W (runF envS n ⟨18,HO,BM,tm,td, .run, .normal,none⟩) s Q:=by
 intro m
 induction m with
 |zero=>
  intro i n tm s td col' fs' hi hn hT hx hI hC hag h0 h1 h13 h14 h15
  refine Wt.w hT (by omega) ?_
  simp only[OS,Ad,W_oS,Aa,Ab,BE,h14,h15]
  refine W.cond (v:=false) Q8 SN (by simp[T.get_set];omega) (by omega) (fun h=>by cases h) fun _=> ?_
  have e:i=k.fs.length:=by omega
  subst e
  exact q _ _ _ _ _ _ (by omega) Ny_ (by simp[T.get_set,h0]) hI hC hag hx
 |succ m ih=>
  intro i n tm s td col' fs' hi hn hT hx hI hC hag h0 h1 h13 h14 h15
  have hil:i<k.fs.length:=by omega
  have hil':i<fs'.length:=by rw[hC.1];exact hil
  have ei:=(hC.2 i hil hil').2 (Nat.le_refl _)
  have hnl:(k.fs.map FileS.name).length=k.fs.length:=by simp
  have hv:NmR s v (k.fs.map FileS.name) bN:=MkS.ext hv0 hx fun x hxx hg=>by
   rw[hnl]at hxx
   have:=hcv x hxx
   omega
  have hk:KsR s kv ks:=hk0.ext hx fun x hxx hg=>by have:=(hck x hxx).1;omega
  obtain⟨c,ev,ho⟩:=NmR.at hv (i:=i) (by simpa using hil)
  rw[hnl]at ev
  rw[List.getElem_map]at ho
  refine Wt.w hT (by omega) ?_
  simp only[OS,Ad,W_oS,Aa,Ab,BE,h14,h15]
  refine W.cond (v:=true) Q8 SN (by simp[T.get_set];omega) (by omega) (fun _=> ?_) fun h=>by cases h
  refine IF_.w OU_ (by omega) ?_
  simp only[X1,Ad,W_oS,Aa,W_mv,Ab,T.get_set,reduceIte,Nat.reduceEqDiff, ↓reduceIte,h13,h15,ev,Cf IZ hil]
  refine W.load1 E7 ho.at' ?_
  have x1:=hx.rdG hb0 (bN+(0+i*1))
  try simp only[Ad,W_oS,W_on,Aa,W_mv,Ab,AJ,T.get_set,Ah,Af,AH,AG,Ag,Al,reduceIte,Aq,Ay,AM,AD,AB,Ao,Ar,AC,Ap,An,Nat.reduceEqDiff,reduceCtorEq, ↓reduceIte]
  refine Oc_.w Ao_ (by omega) ?_
  simp only[XC,Ad,W_oS,Aa,W_mv,Ab,T.get_set,reduceIte,An,reduceCtorEq, ↓reduceIte,h0,Bb Dk (by decide)]
  refine W.load1 Du (hI.d1.same (s':=s.rdN (bN+(0+i*1))) rfl rfl).at' ?_
  have x2:=x1.rdG hb0 (D+(0+1))
  try simp only[Ad,W_oS,W_on,Aa,W_mv,Ab,AJ,T.get_set,Ah,Af,AH,AG,Ag,Al,reduceIte,Aq,Ay,AM,AD,AB,Ao,Ar,AC,Ap,An,Nat.reduceEqDiff,reduceCtorEq, ↓reduceIte]
  refine Gw (fs:=fs') (mx:=k.mx) (hI.om.same rfl rfl) ?_
  have x3:=x2.rdG hb0 M
  have hI3:DkI (((s.rdN (bN+(0+i*1))).rdN (D+(0+1))).rdN M) col' D M {k with fs:=fs'}:=hI.same rfl rfl
  have hk3:KsR (((s.rdN (bN+(0+i*1))).rdN (D+(0+1))).rdN M) kv ks:=hk.same rfl rfl
  generalize ((s.rdN (bN+(0+i*1))).rdN (D+(0+1))).rdN M=s3 at *
  have hlj:BB fs' k.fs[i].name=some i:=by
   unfold BB
   rw[hC.names]
   exact hlk i hil
  have hlv:Bx fs' k.fs[i].name= .pointer (some ⟨fs'[i].blk,0,none⟩):=by
   unfold Bx
   rw[hlj]
   simp only[List.getElem?_eq_getElem hil']
  rw[hlv]
  try simp only[Ad,W_oS,W_on,Aa,W_mv,Ab,AJ,T.get_set,Ah,Af,AH,AG,Ag,Al,reduceIte,Aq,Ay,AM,AD,AB,Ao,Ar,AC,Ap,An,Nat.reduceEqDiff,reduceCtorEq, ↓reduceIte]
  have hus:=DkS.used_at hil
  have hus':fs'[i].sb.length+fs'[i].lb.length≤1000000:=by rw[ei];omega
  have g:=hI3.fl i hil'
  have fin: ∀(n':Nat) (tm':T Value) (td':List Item) (s':St),n≤n'+12→skim 64 td'=D5→Ext Any (fun x=>col0 x<1000) s0 s'→DkI s' col' D M {k with fs:=fs'}→T.get tm' 0=some (.pointer (some ⟨D,0,none⟩))→T.get tm' 1=some kv→T.get tm' 13=some v→T.get tm' 14=some (.int .i64 (k.fs.length:Nat))→T.get tm' 15=some (.int .i64 (i:Nat))→T.get tm' 7=some (.pointer (some ⟨fs'[i].blk,0,none⟩))→T.get tm' 8=some (.int .i64 (CO ks i fs'[i].lb.length:Nat))→
    W (runF envS n' ⟨18,HO,BM,tm',td', .run, .normal,none⟩) s' Q:=by
   intro n' tm' td' s' hn' hT' x' hI' g0 g1 g13 g14 g15 g7 g8
   refine KB_ (j:=i) (kk:=CO ks i fs'[i].lb.length) (k:={k with fs:=fs'}) (x'.bnd hb0) hI' hil' g7 g8 (GD_ ..) hus' (by show fs'.length≤300;rw[hC.1];exact hlen) hT' (by omega) fun td2 s2 v2 b2 hT2 hI2 x2=> ?_
   refine AO_.w hT2 (by omega) ?_
   have ei':wrap64 ((i:Nat)+1:Int)=((i+1:Nat):Int):=by
    rw[BO (by omega) (by omega)];simp
   simp only[Qn,Ad,W_oS,Aa,W_mv,Ab,BU,g15,ei']
   have hn0:=x'.nxt
   exact ih (i+1) _ _ _ _ _ _ (by omega) (by omega) HP_ (x'.on x2 hb0 fun y hy h=>by rw[hag y hy]at h;exact h) hI2 (hC.succ hil hil') (fun x hx=>(BD (by omega)).trans (hag x hx)) (by simp[T.get_set,g0]) (by simp[T.get_set,g1]) (by simp[T.get_set,g13]) (by simp[T.get_set,g14]) (by simp[T.get_set])
  refine Ot_.w Kf_ (by omega) ?_
  simp only[YS,Ad,W_oS,Aa,W_mv,Ab,T.get_set,Ah,Af,Ag,reduceIte,Nat.reduceEqDiff, ↓reduceIte,BE,h1,hk3.len]
  by_cases hki:i<ks.length
  ·refine W.cond (v:=true) Rm Yu (by simp[T.get_set];omega) (by omega) (fun _=> ?_) fun h=>by cases h
   refine HX_.w Bb_ (by omega) ?_
   simp only[Up,Ad,W_oS,Aa,W_mv,Ab,T.get_set,Ah,Af,Ag,reduceIte,An,Nat.reduceEqDiff, ↓reduceIte,Bb Dy (by decide)]
   refine W.load1 BV g.o1.at' ?_
   have x4:=x3.rdG hb0 (fs'[i].blk+(0+1))
   have eo:wrap64 (((fs'[i].lb.length:Nat):Int)+1)=((fs'[i].lb.length+1:Nat):Int):=by
    rw[BO (by omega) (by omega)];simp
   simp only[BU,MkS.lenq g.ml Ea,eo]
   obtain⟨kb,ko,kc,ekv,hko⟩:=hk3.at hki
   refine ZR.w Nc_ (by omega) ?_
   simp only[Xi,Ad,W_oS,Aa,W_mv,Ab,T.get_set,reduceIte,Nat.reduceEqDiff, ↓reduceIte,h1,ekv,Cf Oy hki]
   refine W.load1 FE_ (hko.same (s':=s3.rdN (fs'[i].blk+(0+1))) rfl rfl).at' ?_
   have x5:=x4.rdG hb0 (kb+(ko+i*1))
   have b1:(ks[i]).tmod ((fs'[i].lb.length+1:Nat):Int)<((fs'[i].lb.length+1:Nat):Int):=Int.tmod_lt_of_pos _ (by omega)
   have b2: -((fs'[i].lb.length+1:Nat):Int)<(ks[i]).tmod ((fs'[i].lb.length+1:Nat):Int):=by
    have:=Int.lt_tmod_of_pos ks[i] (b:=((fs'[i].lb.length+1:Nat):Int)) (by omega)
    omega
   have ew:wrap64 ((ks[i]).tmod ((fs'[i].lb.length+1:Nat):Int)+((fs'[i].lb.length+1:Nat):Int))=(ks[i]).tmod ((fs'[i].lb.length+1:Nat):Int)+((fs'[i].lb.length+1:Nat):Int):=BO (by omega) (by omega)
   have ek:ks[i]%((fs'[i].lb.length+1:Nat):Int)=((CO ks i fs'[i].lb.length:Nat):Int):=by
    unfold CO
    rw[dif_pos hki]
    have h2:=Int.emod_nonneg ks[i] (b:=((fs'[i].lb.length+1:Nat):Int)) (by omega)
    omega
   simp only[BU,Rq (n:=fs'[i].lb.length+1) (by omega),ew,PL_ (m:=fs'[i].lb.length+1) (by omega),ek]
   exact fin _ _ _ _ (by omega) BY_ x5 (hI3.same rfl rfl) (by simp[T.get_set,h0]) (by simp[T.get_set,h1,ekv]) (by simp[T.get_set,h13,ev]) (by simp[T.get_set,h14]) (by simp[T.get_set,h15]) (by simp[T.get_set]) (by simp[T.get_set])
  ·refine W.cond (v:=false) Rm Yu (by simp[T.get_set];omega) (by omega) (fun h=>by cases h) fun _=> ?_
   have ek:CO ks i fs'[i].lb.length=0:=by unfold CO;rw[dif_neg hki]
   exact fin _ _ _ _ (by omega) PW_ x3 hI3 (by simp[T.get_set,h0]) (by simp[T.get_set,h1]) (by simp[T.get_set,h13,ev]) (by simp[T.get_set,h14]) (by simp[T.get_set,h15]) (by simp[T.get_set]) (by rw[ek];simp[T.get_set])
end
section
variable {D M n:Nat}{k:DkS}{ks:List Int}{kv:Value}{col:Nat→Nat}{s:St}{a:ByteArray}{Q:Value→St→Prop}
theorem Kl_ (hb:s.lim≤s.next)(hI:DkI s col D M k)(hN:NmsOk (k.fs.map FileS.name))(hlk: ∀i (h:i<k.fs.length),BB k.fs k.fs[i].name=some i)(hz:k.used≤1000000)(hk:KsR s kv ks)(hck: ∀x,KsF kv x→1000≤col x∧x<s.next)(hn:40*k.fs.length+800≤n)
  (q: ∀s1 col' fs',After s s1 col col' D M {k with fs:=fs',fused:=false,left:=0,out:=false}→CrF ks k.fs fs' k.fs.length→Q (.int .i64 0) s1):
  W (Av envS (runF envS n) 18 [.pointer (some ⟨D,0,none⟩),kv]) s Q:=by
 have hb0:(s.cxN cxN).lim≤(s.cxN cxN).next:=hb
 have hlen:k.fs.length≤300:=by have:=hN.len;simpa using this
 have hnl:(k.fs.map FileS.name).length=k.fs.length:=by simp
 have hI0:DkI (s.cxN cxN) (paint col s.next 1000) D M k:=(hI.col fun x hx=>BD hx).same rfl rfl
 have hag: ∀x,x<s.next→paint col s.next 1000 x=col x:=fun x hx=>BD hx
 have hnew: ∀x,s.next≤x→paint col s.next 1000 x=1000:=fun x hx=>Dc hx
 have hDlt:D+6<s.next:=hI.d6.1
 generalize hcol1:paint col s.next 1000=col1 at *
 refine RN_ fun tm t0 t1=> ?_
 refine Kt_.w rfl (by omega) ?_
 simp only[TW,Aa,W_mv,Ab]
 refine Ke_.w LK_ (by omega) ?_
 simp only[Sq,Ad,W_on,Aa,W_mv,Ab,T.get_set,Ah,Af,Ag,Al,reduceIte,reduceCtorEq, ↓reduceIte,t0]
 refine EW hb0 hI0.d0 (by omega) fun s1 m1 n1 x1=> ?_
 have hI1:=hI0.same m1 n1
 have n1':s1.next=s.next:=n1
 try simp only[Ad,W_oS,W_on,Aa,W_mv,Ab,AJ,T.get_set,Ah,Af,AH,AG,Ag,Al,reduceIte,Aq,Ay,AM,AD,AB,Ao,Ar,AC,Ap,An,Nat.reduceEqDiff,reduceCtorEq, ↓reduceIte]
 refine W.cond (v:=false) EG_ CY_ (by simp[T.get_set]) (by omega) (fun h=>by cases h) fun _=> ?_
 refine HR_.w KT_ (by omega) ?_
 simp only[YL,Ad,W_oS,W_on,Aa,W_mv,Ab,T.get_set,Ah,Af,Ag,Al,reduceIte,reduceCtorEq, ↓reduceIte,t0]
 refine Sg_ (x1.bnd hb0) hI1 hN (by omega) fun s2 v bN hbN hr x2=> ?_
 have y2:=x1.on x2 hb0 fun _ _ h=>h
 have hI2:=hI1.ext0 x2 hlen
 have hn2:s.next≤s2.next:=y2.nxt
 simp only[MkS.lenq hr IZ]
 rw[hnl]
 have hks2:KsR s2 kv ks:=KsR.ext0 (hk.same (s':=s.cxN cxN) rfl rfl) y2
 refine Rz_ (k:=k) (ks:=ks) (col0:=col1) (D:=D) (M:=M) (v:=v) (bN:=bN) (kv:=kv) (y2.bnd hb0) hlen hz hlk hr hks2 (fun x hx=>by rw[hnew x (by have:=hx.2.1;omega)];exact Nat.le_refl _) (fun x hx=>by have h1:=hck x hx;rw[hag x h1.2];omega) (fun n' tm' td' s3 col' fs' hn' hT' h0 hI3 hC hag3 x3=> ?_) k.fs.length 0 _ _ _ _ col1 k.fs (by omega) (by omega) BT_ (Ext.refl _) hI2 (CrF.zero ..) (fun _ _=>rfl) (by simp[T.get_set,t0]) (by simp[T.get_set,t1]) (by simp[T.get_set]) (by simp[T.get_set]) (by simp[T.get_set])
 have y3:=(y2.gw (G':=fun x=>col1 x<1000) hb0 fun _ _ h=>h.elim).on x3 hb0 fun y hy h=>h
 have hk0: ∀x,D≤x→x<D+7→col1 x<1000:=fun x h1 h2=>by rw[hI0.kd x h1 h2];decide
 refine Ep_.w hT' (by omega) ?_
 simp only[QB,Ad,W_oS,Aa,W_mv,An,h0,Bb LB (by decide)]
 refine W.store1 Ca rfl hI3.d6 fun s4 n4 x4 o4=> ?_
 have z4:Ext Any (fun y=>y=D+6) s3 s4:=x4.weak (y3.bnd hb0) (fun _ _ _=>trivial) fun y _ hq=>by have h1:=hq.1;have h2:=hq.2;omega
 have hI4:=hI3.own (st:=k.steps) (fu:=k.fused) (le:=k.left) (ou:=false) z4 (fun y _ h=>by omega) (hI3.d3.ext z4 fun h=>by omega) (hI3.d4.ext z4 fun h=>by omega) (hI3.d5.ext z4 fun h=>by omega) o4
 simp only[Bb HN (by decide)]
 refine W.store1 Ca rfl hI4.d4 fun s5 n5 x5 o5=> ?_
 have y4:=y3.on z4 hb0 fun y hy h=>hk0 y (by omega) (by omega)
 have z5:Ext Any (fun y=>y=D+4) s4 s5:=x5.weak (y4.bnd hb0) (fun _ _ _=>trivial) fun y _ hq=>by have h1:=hq.1;have h2:=hq.2;omega
 have hI5:=hI4.own (st:=k.steps) (fu:=false) (le:=k.left) (ou:=false) z5 (fun y _ h=>by omega) (hI4.d3.ext z5 fun h=>by omega) o5 (hI4.d5.ext z5 fun h=>by omega) (hI4.d6.ext z5 fun h=>by omega)
 simp only[Bb Ki (by decide)]
 refine W.store1 Ev rfl hI5.d5 fun s6 n6 x6 o6=> ?_
 have y5:=y4.on z5 hb0 fun y hy h=>hk0 y (by omega) (by omega)
 have z6:Ext Any (fun y=>y=D+5) s5 s6:=x6.weak (y5.bnd hb0) (fun _ _ _=>trivial) fun y _ hq=>by have h1:=hq.1;have h2:=hq.2;omega
 have hI6:=hI5.own (st:=k.steps) (fu:=false) (le:=0) (ou:=false) z6 (fun y _ h=>by omega) (hI5.d3.ext z6 fun h=>by omega) (hI5.d4.ext z6 fun h=>by omega) o6 (hI5.d6.ext z6 fun h=>by omega)
 have y6:=y5.on z6 hb0 fun y hy h=>hk0 y (by omega) (by omega)
 try simp only[Ad,W_oS,W_on,Aa,W_mv,Ab,AJ,T.get_set,Ah,Af,AH,AG,Ag,Al,reduceIte,Aq,Ay,AM,AD,AB,Ao,Ar,AC,Ap,An,Nat.reduceEqDiff,reduceCtorEq, ↓reduceIte]
 refine LH_.w Eo_ (by omega) ?_
 simp only[Uq,Aa,W_mv,Ab]
 refine W.end' (rs:=[4]) (vs:=[.int .i64 0]) IQ_ (.inl DM_) (by omega) Rb DA_ y6.cx (by simp[T.get_set]) ?_
 exact q _ col' fs' ⟨hI6.same rfl rfl,fun x hx=>(hag3 x (by omega)).trans (hag x hx),(y6.gw hb0 fun y hy h=>by rw[←hag y hy];exact h).cx'⟩ hC
theorem N1 (hb:s.lim≤s.next)(hI:DkI s col D M k)(hn:100≤n)(q: ∀s1,Ext Any Non s s1→Q (.bool (!k.out)) s1):W (Av envS (runF envS n) 34 [.pointer (some ⟨D,0,none⟩)]) s Q:=by
 have hb0:(s.cxN cxN).lim≤(s.cxN cxN).next:=hb
 have hI0:DkI (s.cxN cxN) col D M k:=hI.same rfl rfl
 refine Cc_ fun tm t0=> ?_
 refine DX_.w rfl (by omega) ?_
 simp only[Ue,Aa,W_mv,Ab]
 refine EA_.w PS_ (by omega) ?_
 simp only[R6,Ad,W_oS,W_on,Aa,W_mv,Ab,T.get_set,Ah,Af,Ag,Al,reduceIte,reduceCtorEq, ↓reduceIte,t0]
 refine EW hb0 hI0.d0 (by omega) fun s1 m1 n1 x1=> ?_
 have hI1:=hI0.same m1 n1
 simp only[W_oS,Aa,reduceIte,Aq,Ay,Ao,Ar,Ap,An, ↓reduceIte,CI,Bool.not_false,Bb LB (by decide)]
 refine W.load1 Ca hI1.d6.at' ?_
 have y1:=x1.thenRd hb0 (D+(0+6))
 simp only[CI]
 refine W.end' (rs:=[2]) (vs:=[.bool (!k.out)]) MJ_ (.inl DK_) (by omega) YW Py_ y1.cx (by simp[T.get_set]) ?_
 exact q _ y1.cx'
theorem Fy_ {m:Nat}(hb:s.lim≤s.next)(hI:DkI s col D M k)(hn:100≤n)(q: ∀s1,DkI s1 col D M {k with fused:=true,left:=(m:Nat)}→Ext Any (fun x=>col x<1000) s s1→s1.next=s.next→Q (.int .i64 0) s1):W (Av envS (runF envS n) 33 [.pointer (some ⟨D,0,none⟩), .int .i64 (m:Nat)]) s Q:=by
 have hb0:(s.cxN cxN).lim≤(s.cxN cxN).next:=hb
 have hI0:DkI (s.cxN cxN) col D M k:=hI.same rfl rfl
 refine Co_ fun tm t0 t1=> ?_
 refine At_.w rfl (by omega) ?_
 simp only[X2,Aa,W_mv,Ab]
 refine Zb.w Zf (by omega) ?_
 simp only[RZ,Ad,W_on,Aa,W_mv,Ab,T.get_set,Ah,Af,Ag,Al,reduceIte,reduceCtorEq, ↓reduceIte,t0]
 refine EW hb0 hI0.d0 (by omega) fun s1 m1 n1 x1=> ?_
 have hI1:=hI0.same m1 n1
 have n1':s1.next=s.next:=n1
 try simp only[Ad,W_oS,W_on,Aa,W_mv,Ab,AJ,T.get_set,Ah,Af,AH,AG,Ag,Al,reduceIte,Aq,Ay,AM,AD,AB,Ao,Ar,AC,Ap,An,Nat.reduceEqDiff,reduceCtorEq, ↓reduceIte]
 refine W.cond (v:=false) Kq_ Zq (by simp[T.get_set]) (by omega) (fun h=>by cases h) fun _=> ?_
 refine Fv_.w Fo_ (by omega) ?_
 have e1:decide (((m:Nat):Int)<0)=false:=decide_eq_false (by omega)
 simp only[YR,Ad,W_oS,Aa,W_mv,Ab,T.get_set,reduceIte,Nat.reduceEqDiff, ↓reduceIte,BE,t1,e1]
 refine W.cond (v:=false) QD_ BW_ (by simp[T.get_set]) (by omega) (fun h=>by cases h) fun _=> ?_
 have hk0: ∀x,D≤x→x<D+7→col x<1000:=fun x h1 h2=>by rw[hI.kd x h1 h2];decide
 refine GN_.w KG_ (by omega) ?_
 simp only[TQ,Ad,W_oS,Aa,W_mv,T.get_set,reduceIte,An,Nat.reduceEqDiff,reduceCtorEq, ↓reduceIte,t0,t1,Bb HN (by decide)]
 refine W.store1 Ca rfl hI1.d4 fun s5 n5 x5 o5=> ?_
 have z5:Ext Any (fun y=>y=D+4) s1 s5:=x5.weak (x1.bnd hb0) (fun _ _ _=>trivial) fun y _ hq=>by have h1:=hq.1;have h2:=hq.2;omega
 have hI5:=hI1.own (st:=k.steps) (fu:=true) (le:=k.left) (ou:=k.out) z5 (fun y _ h=>by omega) (hI1.d3.ext z5 fun h=>by omega) o5 (hI1.d5.ext z5 fun h=>by omega) (hI1.d6.ext z5 fun h=>by omega)
 simp only[Bb Ki (by decide)]
 have y5:=(x1.gw (G':=fun x=>col x<1000) hb0 fun _ _ h=>h.elim).on z5 hb0 fun y hy h=>hk0 y (by omega) (by omega)
 refine W.store1 Ev rfl hI5.d5 fun s6 n6 x6 o6=> ?_
 have z6:Ext Any (fun y=>y=D+5) s5 s6:=x6.weak (y5.bnd hb0) (fun _ _ _=>trivial) fun y _ hq=>by have h1:=hq.1;have h2:=hq.2;omega
 have hI6:=hI5.own (st:=k.steps) (fu:=true) (le:=(m:Nat)) (ou:=k.out) z6 (fun y _ h=>by omega) (hI5.d3.ext z6 fun h=>by omega) (hI5.d4.ext z6 fun h=>by omega) o6 (hI5.d6.ext z6 fun h=>by omega)
 have y6:=y5.on z6 hb0 fun y hy h=>hk0 y (by omega) (by omega)
 try simp only[Ad,W_oS,W_on,Aa,W_mv,Ab,AJ,T.get_set,Ah,Af,AH,AG,Ag,Al,reduceIte,Aq,Ay,AM,AD,AB,Ao,Ar,AC,Ap,An,Nat.reduceEqDiff,reduceCtorEq, ↓reduceIte]
 refine Bi_.w DQ_ (by omega) ?_
 simp only[Te,Aa,W_mv,Ab]
 refine W.end' (rs:=[4]) (vs:=[.int .i64 0]) Dm_ (.inl KX_) (by omega) UT NU_ y6.cx (by simp[T.get_set]) ?_
 exact q _ (hI6.same rfl rfl) y6.cx' (by show s6.next=s.next;omega)
theorem Td {j:Nat}(hb:s.lim≤s.next)(hI:DkI s col D M k)(hj:j<k.fs.length)(hl:BB k.fs a=some j)(hn:100≤n)(q: ∀s1,Ext Any Non s s1→Q (.int .i64 (k.fs[j].lb.length:Nat)) s1):W (Av envS (runF envS n) 30 [.pointer (some ⟨D,0,none⟩), .string a]) s Q:=by
 have hb0:(s.cxN cxN).lim≤(s.cxN cxN).next:=hb
 have hI0:DkI (s.cxN cxN) col D M k:=hI.same rfl rfl
 have hv:Bx k.fs a= .pointer (some ⟨k.fs[j].blk,0,none⟩):=by
  unfold Bx
  rw[hl]
  simp only[List.getElem?_eq_getElem hj]
 refine RB_ fun tm t0 t1=> ?_
 refine MG_.w rfl (by omega) ?_
 simp only[WE,Aa,W_mv,Ab]
 refine AJ_.w Fr_ (by omega) ?_
 simp only[RU,Ad,W_on,Aa,W_mv,Ab,T.get_set,Ah,Af,Ag,Al,reduceIte,Nat.reduceEqDiff,reduceCtorEq, ↓reduceIte,t0]
 refine EW hb0 hI0.d0 (by omega) fun s1 m1 n1 x1=> ?_
 have hI1:=hI0.same m1 n1
 simp only[W_oS,Aa,reduceIte,Aq,AB,Ao,Ar,Ap,An,reduceCtorEq, ↓reduceIte,t1,Bb Dk (by decide)]
 refine W.load1 Du hI1.d1.at' ?_
 have y1:=x1.thenRd hb0 (D+(0+1))
 try simp only[Ad,W_oS,W_on,Aa,W_mv,Ab,AJ,T.get_set,Ah,Af,AH,AG,Ag,Al,reduceIte,Aq,Ay,AM,AD,AB,Ao,Ar,AC,Ap,An,Nat.reduceEqDiff,reduceCtorEq, ↓reduceIte]
 refine Gw (fs:=k.fs) (mx:=k.mx) (hI1.om.same rfl rfl) ?_
 have y2:=y1.thenRd hb0 M
 have hI2:DkI ((s1.rdN (D+(0+1))).rdN M) col D M k:=hI1.same rfl rfl
 generalize (s1.rdN (D+(0+1))).rdN M=s2 at *
 rw[hv]
 simp only[EZ HV]
 refine W.cond (v:=false) EI_ Pj_ (by simp[T.get_set]) (by omega) (fun h=>by cases h) fun _=> ?_
 refine FT_.w FL_ (by omega) ?_
 simp only[U2,Ad,W_oS,Aa,W_mv,Ab,T.get_set,Ah,Af,Ag,reduceIte,An,Nat.reduceEqDiff,reduceCtorEq, ↓reduceIte,t0,t1,Bb Dk (by decide)]
 refine W.load1 Du hI2.d1.at' ?_
 have y3:=y2.thenRd hb0 (D+(0+1))
 try simp only[Ad,W_oS,W_on,Aa,W_mv,Ab,AJ,T.get_set,Ah,Af,AH,AG,Ag,Al,reduceIte,Aq,Ay,AM,AD,AB,Ao,Ar,AC,Ap,An,Nat.reduceEqDiff,reduceCtorEq, ↓reduceIte]
 refine Gw (fs:=k.fs) (mx:=k.mx) (hI2.om.same rfl rfl) ?_
 have y4:=y3.thenRd hb0 M
 have hI4:DkI ((s2.rdN (D+(0+1))).rdN M) col D M k:=hI2.same rfl rfl
 generalize (s2.rdN (D+(0+1))).rdN M=s4 at *
 rw[hv]
 have g:=hI4.fl j hj
 simp only[An,Bb Dy (by decide)]
 refine W.load1 BV g.o1.at' ?_
 have y5:=y4.thenRd hb0 (k.fs[j].blk+(0+1))
 simp only[MkS.lenq g.ml Ea]
 refine W.end' (rs:=[4]) (vs:=[.int .i64 (k.fs[j].lb.length:Nat)]) JG_ (.inl NY_) (by omega) Ys FX_ y5.cx (by simp[T.get_set]) ?_
 exact q _ y5.cx'
end
structure Held (s:St)(col:Nat→Nat)(v:Value)(l:List Nat):Prop where
 bs:Bs s v l
 lt: ∀x,BsF v x→x<s.next
 co: ∀x,BsF v x→1000≤col x
theorem Held.gw {s s1:St}{col:Nat→Nat}{v:Value}{l:List Nat}(h:Held s col v l)(x:Ext Any (fun x=>col x<1000) s s1):Held s1 col v l:=
 ⟨h.bs.ext x fun y hy g=>by have:=h.co y hy;omega,fun y hy=>Nat.lt_of_lt_of_le (h.lt y hy) x.nxt,h.co⟩
theorem Held.ext0 {s s1:St}{col:Nat→Nat}{v:Value}{l:List Nat}(h:Held s col v l)(x:Ext Any Non s s1):Held s1 col v l:=
 ⟨h.bs.ext0 x,fun y hy=>Nat.lt_of_lt_of_le (h.lt y hy) x.nxt,h.co⟩
theorem Held.after {s s1:St}{col col':Nat→Nat}{v:Value}{l:List Nat}{D M:Nat}{k:DkS}(h:Held s col v l)(x:After s s1 col col' D M k):Held s1 col' v l:=
 ⟨h.bs.ext x.ext fun y hy g=>by have:=h.co y hy;omega,fun y hy=>Nat.lt_of_lt_of_le (h.lt y hy) x.ext.nxt,fun y hy=>by rw[x.agree y (h.lt y hy)];exact h.co y hy⟩
theorem Held.col {s:St}{col col':Nat→Nat}{v:Value}{l:List Nat}(h:Held s col v l)(e: ∀x,x<s.next→col' x=col x):Held s col' v l:=⟨h.bs,h.lt,fun y hy=>by rw[e y (h.lt y hy)];exact h.co y hy⟩
theorem Held.same {s s1:St}{col:Nat→Nat}{v:Value}{l:List Nat}(h:Held s col v l)(hm:s1.mem=s.mem)(hn:s1.next=s.next):Held s1 col v l:=⟨h.bs.same hm hn,fun y hy=>by rw[hn];exact h.lt y hy,h.co⟩
section
variable {n D M mx:Nat}{s:St}{room st le:Int}{fu:Bool}{f g:FileS}{col:Nat→Nat}{bv:Value}{l:List Nat}{Q:Value→St→Prop}
end
abbrev nmF:ByteArray:=⟨#[102]⟩
theorem Is_:NmsOk [nmF]:=⟨by kernel_rfl,by kernel_rfl,by kernel_rfl,by decide⟩
theorem Dq {f:FileS}(hf:f.name=nmF):BB [f] nmF=some 0:=by
 unfold BB
 simp only[List.map,hf]
 rfl
section
variable {n D M mx:Nat}{s:St}{room st le:Int}{fu ou:Bool}{f:FileS}{col:Nat→Nat}{bv:Value}{l:List Nat}{Q:Value→St→Prop}
theorem FV_ (hb:s.lim≤s.next)(hI:DkI s col D M ⟨[],mx,room,st,false,le,false⟩)(hz:0≤room)(hn:400≤n)
  (q: ∀s1 col' f mx' st',After s s1 col col' D M ⟨[f],mx',room,st',false,le,false⟩→f.name=nmF→f.sb=[]→f.lb=[]→Q (.int .i64 0) s1):W (Av envS (runF envS n) 9 [.pointer (some ⟨D,0,none⟩), .string nmF, .slice none 0 0]) s Q:=by
 refine Wm (a:=nmF) (l:=[]) hb hI (by simp) nm_f (Bs.nil0 s) (fun x hx=>hx.elim) (by show 0+0≤_;omega) hn (fun h=>by cases h) (fun _ h=> ?_) (fun _ _ h=>by cases h.1) fun _ _ _ s1 col' blk v b hA=> ?_
 ·have h':room<((0+0:Nat):Int):=h
  omega
 ·exact q s1 col' ⟨nmF,mx,blk, .slice none 0 0,0,[],v,b,[]⟩ (mx+1) (wrap64 (st+1)) hA rfl rfl rfl
theorem IM_ (hb:s.lim≤s.next)(hI:DkI s col D M ⟨[f],mx,room,st,fu,le,ou⟩)(hf:f.name=nmF)(hB:Held s col bv l)(hz:((f.sb.length+f.lb.length+l.length:Nat):Int)≤room)(hl:f.sb.length+f.lb.length+l.length≤3000)(hn:400≤n)
  (qo:ou=true→ ∀s1 col',After s s1 col col' D M ⟨[f],mx,room,st,fu,le,ou⟩→Q (.int .i64 10) s1)
  (qb:ou=false→(fu=true∧le=0)→ ∀s1 col',After s s1 col col' D M ⟨[f],mx,room,st,fu,le,true⟩→Q (.int .i64 10) s1)
  (qa:ou=false→ ¬(fu=true∧le=0)→ ∀s1 col' f' st',After s s1 col col' D M ⟨[f'],mx,room,st',fu,if fu then wrap64 (le-1)else le,ou⟩→f'.name=nmF→f'.sb=f.sb→f'.lb=f.lb++l→Q (.int .i64 0) s1):
  W (Av envS (runF envS n) 9 [.pointer (some ⟨D,0,none⟩), .string nmF,bv]) s Q:=by
 have hu: ∀x,DkS.used ⟨[f],mx,room,st,fu,le,x⟩=f.sb.length+f.lb.length+0:=fun _=>rfl
 refine Wm (a:=nmF) hb hI (by simp) nm_f hB.bs (fun x hx=>⟨hB.lt x hx,hB.co x hx⟩) (by rw[hu];omega) hn qo (fun _ h=> ?_) (fun h1 _ h=>qb h1 h) fun h1 _ h s1 col' blk v b hA=> ?_
 ·have h':room<((DkS.used ⟨[f],mx,room,st,fu,le,ou⟩+l.length:Nat):Int):=h
  rw[hu]at h'
  omega
 ·have e1:DN ⟨[f],mx,room,st,fu,le,ou⟩ nmF blk v b l=[{f with lv:=v,lbk:=b,lb:=f.lb++l}]:=by
   unfold DN
   simp only[Dq hf]
   rfl
  have e2:Ei ⟨[f],mx,room,st,fu,le,ou⟩ nmF=mx:=by
   unfold Ei
   simp only[Dq hf]
  rw[e1,e2]at hA
  exact qa h1 h s1 col' {f with lv:=v,lbk:=b,lb:=f.lb++l} (wrap64 (st+1)) hA hf rfl rfl
theorem Do_ (hb:s.lim≤s.next)(hI:DkI s col D M ⟨[f],mx,room,st,fu,le,ou⟩)(hf:f.name=nmF)(hl:f.sb.length+f.lb.length≤3000)(hn:400≤n)
  (qo:ou=true→ ∀s1 col',After s s1 col col' D M ⟨[f],mx,room,st,fu,le,ou⟩→Q (.int .i64 10) s1)
  (qb:ou=false→(fu=true∧le=0)→ ∀s1 col',After s s1 col col' D M ⟨[f],mx,room,st,fu,le,true⟩→Q (.int .i64 10) s1)
  (qa:ou=false→ ¬(fu=true∧le=0)→ ∀s1 col' f' st',After s s1 col col' D M ⟨[f'],mx,room,st',fu,if fu then wrap64 (le-1)else le,ou⟩→f'.name=nmF→f'.sb=f.sb++f.lb→f'.lb=[]→Q (.int .i64 0) s1):
  W (Av envS (runF envS n) 14 [.pointer (some ⟨D,0,none⟩), .string nmF]) s Q:=by
 refine HH_ (a:=nmF) hb hI (by simp) (by show f.sb.length+f.lb.length+0≤_;omega) (by omega) qo (fun _ h=> ?_) (fun h1 j _ h=>qb h1 h) fun h1 j hj hlt h s1 col' v b hA=> ?_
 ·have h':BB [f] nmF=none:=h
  rw[Dq hf]at h'
  cases h'
 ·have h':BB [f] nmF=some j:=hj
  rw[Dq hf]at h'
  cases h'
  exact qa h1 h s1 col' (f.kept v b (f.sb++f.lb)) (wrap64 (st+1)) hA hf rfl rfl
theorem Qw {kb:Nat}{x:Int}(hb:s.lim≤s.next)(hI:DkI s col D M ⟨[f],mx,room,st,fu,le,ou⟩)(hf:f.name=nmF)(hl:f.sb.length+f.lb.length≤3000)(hk:Own s kb 0 (.int .i64 x))(hkc:1000≤col kb)(hn:1000≤n)
  (q: ∀s1 col' f',After s s1 col col' D M ⟨[f'],mx,room,st,false,0,false⟩→f'.name=nmF→f'.sb=f.sb++f.lb.take (x%((f.lb.length+1:Nat):Int)).toNat→f'.lb=[]→Q (.int .i64 0) s1):W (Av envS (runF envS n) 18 [.pointer (some ⟨D,0,none⟩), .slice (some ⟨kb,0,none⟩) 1 1]) s Q:=by
 refine Kl_ (ks:=[x]) hb hI ?_ ?_ (by show f.sb.length+f.lb.length+0≤_;omega) (.inr ⟨kb,0,1,rfl,fun i u e=> ?_⟩) (fun y hy=> ?_) (by show 40*1+800≤n;omega) fun s1 col' fs' hA hC=> ?_
 ·show NmsOk [f.name]
  rw[hf]
  exact Is_
 ·intro i hi
  match i,hi with
  |0,_=>
   show BB [f] f.name=some 0
   rw[hf]
   exact Dq hf
  |i+1,hi=>exact absurd hi (by show ¬i+1<1;omega)
 ·match i,e with
  |0,e=>
   cases e
   exact hk
  |i+1,e=>simp at e
 ·have h1:kb+0≤y:=hy.1
  have h2:y<kb+0+1:=hy.2
  have:y=kb:=by omega
  subst this
  exact⟨hkc,hk.1⟩
 ·obtain⟨h1,h2⟩:=hC
  have h1':fs'.length=1:=h1
  match fs',h1' with
  |[y],_=>
   obtain⟨v,b,e⟩:=(h2 0 (by show 0<1;omega) (by show 0<1;omega)).1 (by show 0<1;omega)
   have ey:y=f.kept v b (f.sb++f.lb.take (CO [x] 0 f.lb.length)):=e
   refine q s1 col' y hA (by rw[ey];exact hf) ?_ (by rw[ey];rfl)
   rw[ey]
   rfl
end
structure PcI where
 v:Value
 l:List Nat
 y:Bool
theorem Held.mv {s s1:St}{col col':Nat→Nat}{v:Value}{l:List Nat}(h:Held s col v l)(x:Ext Any (fun x=>col x<1000) s s1)(e: ∀x,x<s.next→col' x=col x):Held s1 col' v l:=
 ⟨h.bs.ext x fun y hy g=>by have:=h.co y hy;omega,fun y hy=>Nat.lt_of_lt_of_le (h.lt y hy) x.nxt,fun y hy=>by rw[e y (h.lt y hy)];exact h.co y hy⟩
structure PcS (N0:Nat)(s:St)(col:Nat→Nat)(v:Value)(ps:List PcI):Prop where
 nx:N0≤s.next
 rows:(v= .slice none 0 0∧ps=[])∨ ∃b o c,v= .slice (some ⟨b,o,none⟩) ps.length c∧(∀(i:Nat) (p:PcI),ps[i]?=some p→Row s b (o+i*2) [p.v, .bool p.y])∧ ∀x,In b o (ps.length*2) x→x<N0∧1000≤col x
 bs: ∀p∈ps,Held s col p.v p.l∧ ∀x,BsF p.v x→x<N0
theorem PcS.mvG {N0:Nat}{G:Nat→Prop}{s s1:St}{col col':Nat→Nat}{v:Value}{ps:List PcI}(h:PcS N0 s col v ps)(x:Ext Any G s s1)(e: ∀x,x<s.next→col' x=col x)(hG: ∀y,y<N0→1000≤col y→ ¬G y):PcS N0 s1 col' v ps:=by
 have h0:=h.nx
 refine⟨Nat.le_trans h.nx x.nxt, ?_,fun p hp=> ?_⟩
 ·rcases h.rows with h|⟨b,o,c,rfl,h1,h2⟩
  ·exact .inl h
  ·refine .inr ⟨b,o,c,rfl,fun i p hi=>(h1 i p hi).ext x fun t ht=> ?_,fun y hy=>⟨(h2 y hy).1,by rw[e y (Nat.lt_of_lt_of_le (h2 y hy).1 h0)];exact(h2 y hy).2⟩⟩
   have hl:=(List.getElem?_eq_some_iff.1 hi).1
   have ht':t<2:=ht
   have h3:=h2 (b+(o+i*2+t)) ⟨by omega,by omega⟩
   exact hG _ h3.1 h3.2
 ·obtain⟨g1,g2⟩:=h.bs p hp
  exact⟨⟨g1.bs.ext x fun y hy=>hG y (g2 y hy) (g1.co y hy),fun y hy=>Nat.lt_of_lt_of_le (g1.lt y hy) x.nxt,fun y hy=>by rw[e y (g1.lt y hy)];exact g1.co y hy⟩,g2⟩
theorem PcS.mv {N0:Nat}{s s1:St}{col col':Nat→Nat}{v:Value}{ps:List PcI}(h:PcS N0 s col v ps)(x:Ext Any (fun x=>col x<1000) s s1)(e: ∀x,x<s.next→col' x=col x):PcS N0 s1 col' v ps:=h.mvG x e fun y _ h1 g=>by omega
theorem PcS.ext0 {N0:Nat}{s s1:St}{col:Nat→Nat}{v:Value}{ps:List PcI}(h:PcS N0 s col v ps)(x:Ext Any Non s s1):PcS N0 s1 col v ps:=h.mvG x (fun _ _=>rfl) fun _ _ _ g=>g
theorem PcS.same {N0:Nat}{s s1:St}{col:Nat→Nat}{v:Value}{ps:List PcI}(h:PcS N0 s col v ps)(hm:s1.mem=s.mem)(hn:s1.next=s.next):PcS N0 s1 col v ps:=by
 refine⟨by rw[hn];exact h.nx, ?_,fun p hp=>⟨(h.bs p hp).1.same hm hn,(h.bs p hp).2⟩⟩
 rcases h.rows with h|⟨b,o,c,rfl,h1,h2⟩
 ·exact .inl h
 ·exact .inr ⟨b,o,c,rfl,fun i p hi t u e=>(h1 i p hi t u e).same hm hn,h2⟩
theorem C6:slN envS 60=some 2:=by kernel_rfl
theorem Nj:fldN envS 62 0=some (0,1,false):=by kernel_rfl
theorem Hg:fldN envS 62 1=some (1,1,false):=by kernel_rfl
theorem PcS.len {N0:Nat}{s s':St}{col:Nat→Nat}{v:Value}{ps:List PcI}{Q:Value→St→Prop}(h:PcS N0 s col v ps):W (A6 envS .len [60] [v]) s' Q=Q (.int .i64 (ps.length:Nat)) s':=by
 rcases h.rows with⟨rfl,rfl⟩|⟨b,o,c,rfl,_⟩
 ·exact B7 (n:=0) C6 Q
 ·exact B7 C6 Q
theorem PcS.at {N0:Nat}{s:St}{col:Nat→Nat}{v:Value}{ps:List PcI}{i:Nat}(h:PcS N0 s col v ps)(hi:i<ps.length): ∃b o c,v= .slice (some ⟨b,o,none⟩) ps.length c∧At s b (o+i*2+0) ps[i].v∧At s b (o+i*2+1) (.bool ps[i].y):=by
 rcases h.rows with⟨rfl,rfl⟩|⟨b,o,c,rfl,h1,_⟩
 ·cases hi
 ·have hr:=h1 i ps[i] (List.getElem?_eq_getElem hi)
  exact⟨b,o,c,rfl,hr 0 _ rfl,hr 1 _ rfl⟩
theorem PE_ {E:Env}{t:Nat}{s:St}{a:Addr}{xo yo:Operand}(h:ptrT E t=true):Cl.get (aBin E .neq t xo yo) (.pointer (some a)) (.pointer none) s= .some (.bool true) s:=by
 unfold ptrT at h
 split at h
 ·rename_i i hi
  split at h
  ·rename_i e hu
   show Dp E .neq t (.pointer (some a)) (.pointer none) s=_
   unfold Dp
   rw[Bv (show ti E t s= .some i s by unfold ti;rw[hi];rfl),hu]
   rfl
  ·cases h
 ·cases h
theorem Ik_ {E:Env}{t:Nat}{s:St}{a:Addr}{xo yo:Operand}(h:ptrT E t=true)(Q:Value→St→Prop):W (Cl.get (aBin E .neq t xo yo) (.pointer (some a)) (.pointer none)) s Q=Q (.bool true) s:=Br (PE_ h)
def sumP (ps:List PcI):Nat:=(ps.map fun p=>p.l.length).sum
theorem Jm {ps:List PcI}{i:Nat}(h:i<ps.length):sumP (ps.take (i+1))=sumP (ps.take i)+ps[i].l.length:=by
 unfold sumP
 rw[List.take_add_one,List.getElem?_eq_getElem h,List.map_append,List.sum_append]
 rfl
theorem RS_ {ps:List PcI}{i:Nat}:sumP (ps.take i)≤sumP ps:=by
 have:sumP ps=sumP (ps.take i)+sumP (ps.drop i):=by
  unfold sumP
  rw[←List.sum_append,←List.map_append,List.take_append_drop]
 omega
section
variable {N0:Nat}{col:Nat→Nat}{v:Value}{ps:List PcI}{s0:St}{z1 z2:Value}
theorem Lb_ {Q:Value×FrameMode→St→Prop}(hb0:s0.lim≤s0.next)(hP:PcS N0 s0 col v ps)(hN: ∀p∈ps,p.l.length≤1048576)
  (q: ∀n' tm' s1 td',8000≤n'→skim 64 td'=Ha→Ext Any Non s0 s1→T.get tm' 0=some v→T.get tm' 1=some z1→T.get tm' 2=some z2→T.get tm' 7=some (.bool true)→T.get tm' 8=some (.int .i64 (sumP (ps.take 61):Nat))→W (runF envS n' ⟨6,Da,Bg,tm',td', .run, .normal,none⟩) s1 Q):
  ∀(m i n:Nat) (tm:T Value) (s:St) (td:List Item),i+m=min ps.length 61→sumP (ps.take i)≤i*1048576→10*m+8100≤n→skim 64 td=Gr→Ext Any Non s0 s→s.mem=s0.mem→s.next=s0.next→T.get tm 0=some v→T.get tm 1=some z1→T.get tm 2=some z2→T.get tm 7=some (.bool true)→T.get tm 8=some (.int .i64 (sumP (ps.take i):Nat))→T.get tm 9=some (.int .i64 (i:Nat))→
  W (runF envS n ⟨6,Da,Bg,tm,td, .run, .normal,none⟩) s Q:=by
 intro m
 induction m with
 |zero=>
  intro i n tm s td hi hs hn hT hx hm hnx h0 h1 h2 h7 h8 h9
  refine XB.w hT (by omega) ?_
  have et:sumP (ps.take i)=sumP (ps.take 61):=by
   rcases Nat.lt_or_ge ps.length 61 with h|h
   ·rw[List.take_of_length_le (by omega),List.take_of_length_le (by omega)]
   ·rw[show i=61 by omega]
  by_cases hl:i<ps.length
  ·have e1:decide (((i:Nat):Int)<((ps.length:Nat):Int))=true:=decide_eq_true (by omega)
   have e2:decide (((i:Nat):Int)<61)=false:=decide_eq_false (by omega)
   simp only[I3,Ad,W_oS,W_on,Aa,W_mv,Ab,Ah,Af,Ag,reduceIte,Aq,Ay,Ao,Ar,Ap, ↓reduceIte,BE,h0,h9,PcS.len hP,e1,e2]
   refine W.cond (v:=false) OW Od (by simp[T.get_set]) (by omega) (fun h=>by cases h) fun _=> ?_
   exact q _ _ _ _ (by omega) VL hx (by simp[T.get_set,h0]) (by simp[T.get_set,h1]) (by simp[T.get_set,h2]) (by simp[T.get_set,h7]) (by simp[T.get_set,h8,et])
  ·have e1:decide (((i:Nat):Int)<((ps.length:Nat):Int))=false:=decide_eq_false (by omega)
   simp only[I3,Ad,W_oS,W_on,Aa,W_mv,Ab,Ah,Af,Ag,reduceIte,Aq,AD,Ao,AC,Ap,reduceCtorEq, ↓reduceIte,BE,h0,h9,PcS.len hP,e1]
   refine W.cond (v:=false) OW Od (by simp[T.get_set]) (by omega) (fun h=>by cases h) fun _=> ?_
   exact q _ _ _ _ (by omega) VL hx (by simp[T.get_set,h0]) (by simp[T.get_set,h1]) (by simp[T.get_set,h2]) (by simp[T.get_set,h7]) (by simp[T.get_set,h8,et])
 |succ m ih=>
  intro i n tm s td hi hs hn hT hx hm hnx h0 h1 h2 h7 h8 h9
  have hil:i<ps.length:=by omega
  obtain⟨b,o,c,ev,hv,_⟩:=(hP.same hm hnx).at hil
  have hB:=(hP.bs ps[i] (List.getElem_mem hil)).1.same hm hnx
  have hl:=hN ps[i] (List.getElem_mem hil)
  have e1:decide (((i:Nat):Int)<((ps.length:Nat):Int))=true:=decide_eq_true (by omega)
  have e2:decide (((i:Nat):Int)<61)=true:=decide_eq_true (by omega)
  refine XB.w hT (by omega) ?_
  simp only[I3,Ad,W_oS,W_on,Aa,W_mv,Ab,Ah,Af,Ag,reduceIte,Aq,Ay,Ao,Ar,Ap, ↓reduceIte,BE,h0,h9,PcS.len hP,e1,e2]
  refine W.cond (v:=true) OW Od (by simp[T.get_set]) (by omega) (fun _=> ?_) fun h=>by cases h
  refine IC_.w Eh_ (by omega) ?_
  simp only[Sf,Ad,W_oS,Aa,W_mv,Ab,T.get_set,Ah,Af,Ag,reduceIte,Nat.reduceEqDiff,reduceCtorEq, ↓reduceIte,h0,h8,h9,ev,Cf C6 hil,Bb Nj (by decide)]
  refine W.load1 BV hv ?_
  have x1:=hx.thenRd hb0 (b+(o+i*2+0))
  have es:wrap64 (((sumP (ps.take i):Nat):Int)+((ps[i].l.length:Nat):Int))=((sumP (ps.take (i+1)):Nat):Int):=by
   rw[Jm hil,BO (by omega) (by omega)];omega
  simp only[BU,Bs.lenq hB.bs Ea,es]
  refine II_.w CU_ (by omega) ?_
  have ei:wrap64 ((i:Nat)+1:Int)=((i+1:Nat):Int):=by
   rw[BO (by omega) (by omega)];simp
  simp only[SF,Ad,W_oS,Aa,W_mv,Ab,T.get_set,reduceIte,Nat.reduceEqDiff, ↓reduceIte,BU,h9,ei]
  exact ih (i+1) _ _ _ _ (by omega) (by rw[Jm hil];omega) (by omega) GC_ x1 hm hnx (by simp[T.get_set,h0,ev]) (by simp[T.get_set,h1]) (by simp[T.get_set,h2]) (by simp[T.get_set,h7]) (by simp[T.get_set]) (by simp[T.get_set])
end
section
variable {D M n i:Nat}{s:St}{k:DkS}{col:Nat→Nat}{tm:T Value}{td:List Item}{fuse:Int}{Q:Value×FrameMode→St→Prop}
theorem OV {out:Bool}(hb0:s.lim≤s.next)(hI:DkI s col D M k)(hk:k.out=out)(ho:out=(decide (0≤fuse)&&decide (fuse≤(i:Nat))))(t1:T.get tm 1=some (.int .i64 fuse))(t10:T.get tm 10=some (.pointer (some ⟨D,0,none⟩)))(t13:T.get tm 13=some (.int .i64 (i:Nat)))(t14:T.get tm 14=some (.int .i64 (if out then 10 else 0)))(hT:skim 64 td=Ek)(hn:300≤n)
  (q: ∀n' tm' s1 td',n≤n'+10→skim 64 td'=G3→Ext Any Non s s1→(∀t,t≤14→T.get tm' t=T.get tm t)→W (runF envS n' ⟨6,Da,Bg,tm',td', .run, .normal,none⟩) s1 Q):
  W (runF envS n ⟨6,Da,Bg,tm,td, .run, .normal,none⟩) s Q:=by
 refine Ls_.w hT (by omega) ?_
 have e15: ∀(Q':T Value→St→Prop),Q' (T.set tm 15 (.bool out)) s→W (HT envS (Av envS (runF envS (n-1))) (BZ (runF envS (n-1))) tm) s Q':=by
  intro Q' hq
  by_cases h1:0≤fuse
  ·have e1:decide ((0:Int)≤fuse)=true:=decide_eq_true h1
   by_cases h2:fuse≤(i:Nat)
   ·have e2:decide (fuse≤((i:Nat):Int))=true:=decide_eq_true h2
    rw[e1,e2]at ho
    subst ho
    simp only[HT,Ad,W_oS,W_on,Aa,W_mv,Ab,reduceIte,Aq,Ay,Ao,Ar,Ap, ↓reduceIte,C7,t1,t13,e1,e2]
    exact hq
   ·have e2:decide (fuse≤((i:Nat):Int))=false:=decide_eq_false h2
    rw[e1,e2]at ho
    subst ho
    simp only[HT,Ad,W_oS,W_on,Aa,W_mv,Ab,reduceIte,Aq,Ay,Ao,Ar,Ap, ↓reduceIte,C7,t1,t13,e1,e2]
    exact hq
  ·have e1:decide ((0:Int)≤fuse)=false:=decide_eq_false h1
   rw[e1]at ho
   subst ho
   simp only[HT,Ad,W_oS,W_on,Aa,W_mv,Ab,reduceIte,Aq,AD,Ao,AC,Ap,reduceCtorEq, ↓reduceIte,C7,t1,t13,e1]
   exact hq
 refine e15 _ ?_
 refine Fh_.w Ex_ (by omega) ?_
 have d1:decide ((10:Int)=0)=false:=rfl
 have d2:decide ((0:Int)=10)=false:=rfl
 have b1:(!(true==true))=false:=rfl
 have b2:(!(false==false))=false:=rfl
 have b3:(!true==true)=false:=rfl
 have b4:(!false==false)=false:=rfl
 cases out with
 |true=>
  simp only[N5,Ad,W_oS,W_on,Aa,W_mv,Ab,T.get_set,Ah,Af,Ag,Al,reduceIte,Aq,Ay,AB,Ao,Ar,Ap,Nat.reduceEqDiff,reduceCtorEq, ↓reduceIte,Cj,B0,t10,t14,decide_true,WM HL,b1,d1,CI,Bool.not_true,Bool.not_false]
  refine N1 hb0 hI (by omega) fun s1 x1=> ?_
  rw[hk]
  simp only[O1 HL]
  refine W.cond (v:=false) RQ Su (by simp[T.get_set]) (by omega) (fun h=>by cases h) fun _=> ?_
  exact q _ _ _ _ (by omega) RI x1 fun t ht=>by rw[T.get_set,if_neg (by omega),T.get_set,if_neg (by omega)]
 |false=>
  simp only[N5,Ad,W_oS,W_on,Aa,W_mv,Ab,T.get_set,Ah,Af,Ag,Al,reduceIte,Aq,AD,AB,Ao,Ar,AC,Ap,Nat.reduceEqDiff,reduceCtorEq, ↓reduceIte,Cj,B0,t10,t14,decide_true,WM HL,b2,d2,Bool.not_true]
  refine N1 hb0 hI (by omega) fun s1 x1=> ?_
  rw[hk]
  simp only[O1 HL]
  refine W.cond (v:=false) RQ Su (by simp[T.get_set]) (by omega) (fun h=>by cases h) fun _=> ?_
  exact q _ _ _ _ (by omega) RI x1 fun t ht=>by rw[T.get_set,if_neg (by omega),T.get_set,if_neg (by omega)]
end
def FuR (fuse:Int)(i:Nat)(fu:Bool)(le:Int)(ou:Bool):Prop:=(fuse<0∧fu=false∧ou=false)∨ ∃F:Nat,fuse=(F:Nat)∧((i≤F∧fu=true∧le=((F-i:Nat):Int)∧ou=false)∨(F<i∧ou=true))
theorem FuR.stop1 {fuse le:Int}{i:Nat}{fu ou:Bool}(h:FuR fuse i fu le ou)(ho:ou=true):FuR fuse (i+1) fu le true∧true=(decide (0≤fuse)&&decide (fuse≤(i:Nat))):=by
 subst ho
 rcases h with⟨_,_,h⟩|⟨F,rfl,⟨_,_,_,h⟩|⟨h,_⟩⟩
 ·cases h
 ·cases h
 ·refine⟨.inr ⟨F,rfl, .inr ⟨by omega,rfl⟩⟩, ?_⟩
  rw[decide_eq_true (by omega),decide_eq_true (by omega)]
  rfl
theorem FuR.stop2 {fuse le:Int}{i:Nat}{fu ou:Bool}(h:FuR fuse i fu le ou)(ho:ou=false)(hc:fu=true∧le=0):FuR fuse (i+1) fu le true∧true=(decide (0≤fuse)&&decide (fuse≤(i:Nat))):=by
 obtain⟨c1,c2⟩:=hc
 rcases h with⟨_,h,_⟩|⟨F,rfl,⟨h1,h2,h3,_⟩|⟨_,h⟩⟩
 ·rw[h]at c1;cases c1
 ·refine⟨.inr ⟨F,rfl, .inr ⟨by omega,rfl⟩⟩, ?_⟩
  rw[decide_eq_true (by omega),decide_eq_true (by omega)]
  rfl
 ·rw[h]at ho;cases ho
theorem FuR.go {fuse le:Int}{i:Nat}{fu ou:Bool}(h:FuR fuse i fu le ou)(ho:ou=false)(hc: ¬(fu=true∧le=0))(hz:fuse≤9223372036854775807):FuR fuse (i+1) fu (if fu then wrap64 (le-1)else le) false∧false=(decide (0≤fuse)&&decide (fuse≤(i:Nat))):=by
 rcases h with⟨h1,h2,_⟩|⟨F,rfl,⟨h1,h2,h3,_⟩|⟨_,h⟩⟩
 ·subst h2
  refine⟨.inl ⟨h1,rfl,rfl⟩, ?_⟩
  rw[decide_eq_false (show ¬0≤fuse by omega)]
  rfl
 ·subst h2
  have hi:i<F:=by
   rcases Nat.lt_or_ge i F with q|q
   ·exact q
   ·exact absurd ⟨rfl,by omega⟩ hc
  refine⟨.inr ⟨F,rfl, .inl ⟨by omega,rfl, ?_,rfl⟩⟩, ?_⟩
  ·rw[if_pos rfl,BO (by omega) (by omega)]
   omega
  ·rw[decide_eq_false (show ¬((F:Nat):Int)≤(i:Nat) by omega),Bool.and_false]
 ·rw[h]at ho;cases ho
structure KpS (N0 D M:Nat)(v:Value)(ps:List PcI)(fuse keep:Int)(i:Nat)(s:St)(tm:T Value)(col:Nat→Nat)(f:FileS)(mx:Nat)(st:Int)(fu:Bool)(le:Int)(ou:Bool)(av:Value)(ab:Nat)(sv:Value):Prop where
 cx:s.cx=cxN
 bd:s.lim≤s.next
 inv:DkI s col D M ⟨[f],mx,3000,st,fu,le,ou⟩
 nm:f.name=nmF
 lq:f.sb.length+f.lb.length≤sumP (ps.take i)
 ms:MkS s 1 (f.sb++f.lb).length (u8l (f.sb++f.lb)) av ab
 mc: ∀x,MkF 1 (f.sb++f.lb).length ab x→N0≤x∧1000≤col x
 sl: ∀(s':St) (Q:Value→St→Prop),W (A6 envS .len [26] [sv]) s' Q=Q (.int .i64 (f.sb.length:Nat)) s'
 pc:PcS N0 s col v ps
 fr:FuR fuse i fu le ou
 t0:T.get tm 0=some v
 t1:T.get tm 1=some (.int .i64 fuse)
 t2:T.get tm 2=some (.int .i64 keep)
 t7:T.get tm 7=some (.bool true)
 t10:T.get tm 10=some (.pointer (some ⟨D,0,none⟩))
 t11:T.get tm 11=some av
 t12:T.get tm 12=some sv
 t13:T.get tm 13=some (.int .i64 (i:Nat))
structure KpB (N0:Nat)(v:Value)(ps:List PcI)(s:St)(col:Nat→Nat)(l:List Nat)(av:Value)(ab:Nat):Prop where
 cx:s.cx=cxN
 bd:s.lim≤s.next
 ms:MkS s 1 l.length (u8l l) av ab
 mc: ∀x,MkF 1 l.length ab x→N0≤x∧1000≤col x
 pc:PcS N0 s col v ps
theorem KpB.ext0 {N0:Nat}{v:Value}{ps:List PcI}{s s1:St}{col:Nat→Nat}{l:List Nat}{av:Value}{ab:Nat}(h:KpB N0 v ps s col l av ab)(x:Ext Any Non s s1):KpB N0 v ps s1 col l av ab:=⟨x.cx.trans h.cx,x.bnd h.bd,h.ms.ext0 x,h.mc,h.pc.ext0 x⟩
theorem KpB.after {N0 D M:Nat}{v:Value}{ps:List PcI}{s s1:St}{col col':Nat→Nat}{l:List Nat}{av:Value}{ab:Nat}{k:DkS}(h:KpB N0 v ps s col l av ab)(A:After s s1 col col' D M k):KpB N0 v ps s1 col' l av ab:=
 ⟨A.ext.cx.trans h.cx,A.ext.bnd h.bd,h.ms.ext A.ext fun x hx g=>by have:=(h.mc x hx).2;omega,fun x hx=>⟨(h.mc x hx).1,by rw[A.agree x (h.ms.lt x hx)];exact(h.mc x hx).2⟩,h.pc.mv A.ext A.agree⟩
section
variable {N0 D M:Nat}{v:Value}{ps:List PcI}{fuse keep:Int}
theorem RI_ {Q:Value×FrameMode→St→Prop}(htot:sumP ps≤3000)(hfz:fuse≤9223372036854775807)(hlen:ps.length≤60)
  (q: ∀n' tm' s1 td' col f mx st fu le ou av ab sv,3000≤n'→skim 64 td'=Gx→KpS N0 D M v ps fuse keep ps.length s1 tm' col f mx st fu le ou av ab sv→W (runF envS n' ⟨6,Da,Bg,tm',td', .run, .normal,none⟩) s1 Q):
  ∀(m i n:Nat) (tm:T Value) (s:St) (td:List Item) (col:Nat→Nat) (f:FileS) (mx:Nat) (st:Int) (fu:Bool) (le:Int) (ou:Bool) (av:Value) (ab:Nat) (sv:Value),i+m=ps.length→60*m+3100≤n→skim 64 td=FM→KpS N0 D M v ps fuse keep i s tm col f mx st fu le ou av ab sv→
  W (runF envS n ⟨6,Da,Bg,tm,td, .run, .normal,none⟩) s Q:=by
 intro m
 induction m with
 |zero=>
  intro i n tm s td col f mx st fu le ou av ab sv hi hn hT hK
  refine Wo.w hT (by omega) ?_
  have e1:decide (((i:Nat):Int)<((ps.length:Nat):Int))=false:=decide_eq_false (by omega)
  simp only[Nq,Ad,W_oS,Aa,W_mv,Ab,Ah,Af,Ag,BE,hK.t0,hK.t13,PcS.len hK.pc,e1]
  refine W.cond (v:=false) XJ SZ (by simp[T.get_set]) (by omega) (fun h=>by cases h) fun _=> ?_
  have e:i=ps.length:=by omega
  subst e
  exact q _ _ _ _ _ _ _ _ _ _ _ _ _ _ (by omega) Fw_ ⟨hK.cx,hK.bd,hK.inv,hK.nm,hK.lq,hK.ms,hK.mc,hK.sl,hK.pc,hK.fr,by simp[T.get_set,hK.t0],by simp[T.get_set,hK.t1],by simp[T.get_set,hK.t2],by simp[T.get_set,hK.t7],by simp[T.get_set,hK.t10],by simp[T.get_set,hK.t11],by simp[T.get_set,hK.t12],by simp[T.get_set,hK.t13]⟩
 |succ m ih=>
  intro i n tm s td col f mx st fu le ou av ab sv hi hn hT hK
  have hil:i<ps.length:=by omega
  have hsz:f.sb.length+f.lb.length+ps[i].l.length≤3000:=by
   have h1:=hK.lq
   have h2:=Jm hil
   have h3:=RS_ (ps:=ps) (i:=i+1)
   omega
  have hle1:f.sb.length+f.lb.length+ps[i].l.length≤sumP (ps.take (i+1)):=by
   rw[Jm hil]
   have:=hK.lq
   omega
  have ei:wrap64 ((i:Nat)+1:Int)=((i+1:Nat):Int):=by
   rw[BO (by omega) (by omega)];simp
  have d1:decide ((10:Int)=0)=false:=rfl
  have hKB:KpB N0 v ps s col (f.sb++f.lb) av ab:=⟨hK.cx,hK.bd,hK.ms,hK.mc,hK.pc⟩
  have stop: ∀(n':Nat) (tm':T Value) (s1:St) (td':List Item) (col':Nat→Nat),n≤n'+20→skim 64 td'=Ek→DkI s1 col' D M ⟨[f],mx,3000,st,fu,le,true⟩→KpB N0 v ps s1 col' (f.sb++f.lb) av ab→FuR fuse (i+1) fu le true→true=(decide (0≤fuse)&&decide (fuse≤(i:Nat)))→(∀t,t≤13→T.get tm' t=T.get tm t)→T.get tm' 14=some (.int .i64 10)→W (runF envS n' ⟨6,Da,Bg,tm',td', .run, .normal,none⟩) s1 Q:=by
   intro n' tm' s1 td' col' hn' hT' hI' hB' hF' ho' ht' h14
   refine OV (i:=i) (fuse:=fuse) (out:=true) hB'.bd hI' rfl ho' (by rw[ht' 1 (by omega)];exact hK.t1) (by rw[ht' 10 (by omega)];exact hK.t10) (by rw[ht' 13 (by omega)];exact hK.t13) (by rw[h14];rfl) hT' (by omega) fun n2 tm2 s2 td2 hn2 hT2 x2 ht2=> ?_
   have hB2:=hB'.ext0 x2
   have hI2:=hI'.ext0 x2 (by simp)
   have g: ∀t,t≤13→T.get tm2 t=T.get tm t:=fun t ht=>(ht2 t (by omega)).trans (ht' t ht)
   refine O7.w hT2 (by omega) ?_
   simp only[JM,Ad,W_oS,W_on,Aa,W_mv,Ab,reduceIte,Aq,AD,Ao,AC,Ap,reduceCtorEq, ↓reduceIte,Cj,ht2 14 (by omega),h14,d1]
   refine W.cond (v:=false) M4 ME (by simp[T.get_set]) (by omega) (fun h=>by cases h) fun _=> ?_
   refine OQ.w QT (by omega) ?_
   simp only[IM,Ad,W_oS,W_on,Aa,W_mv,Ab,T.get_set,reduceIte,Aq,AD,Ao,AC,Ap,Nat.reduceEqDiff,reduceCtorEq, ↓reduceIte,Cj,ht2 14 (by omega),h14,d1]
   refine W.cond (v:=false) Ma Ql (by simp[T.get_set]) (by omega) (fun h=>by cases h) fun _=> ?_
   refine Px.w XG (by omega) ?_
   simp only[LC,Ad,W_oS,Aa,W_mv,Ab,T.get_set,reduceIte,Nat.reduceEqDiff, ↓reduceIte,BU,g 13 (by omega),hK.t13,ei]
   exact ih (i+1) _ _ _ _ _ _ _ _ _ _ _ _ _ _ (by omega) (by omega) Mn ⟨hB2.cx,hB2.bd,hI2,hK.nm,by omega,hB2.ms,hB2.mc,hK.sl,hB2.pc,hF',by simp[T.get_set,g,hK.t0],by simp[T.get_set,g,hK.t1],by simp[T.get_set,g,hK.t2],by simp[T.get_set,g,hK.t7],by simp[T.get_set,g,hK.t10],by simp[T.get_set,g,hK.t11],by simp[T.get_set,g,hK.t12],by simp[T.get_set]⟩
  obtain⟨b,o,c,ev,hpv,hpy⟩:=hK.pc.at hil
  refine Wo.w hT (by omega) ?_
  have e1:decide (((i:Nat):Int)<((ps.length:Nat):Int))=true:=decide_eq_true (by omega)
  simp only[Nq,Ad,W_oS,Aa,W_mv,Ab,Ah,Af,Ag,BE,hK.t0,hK.t13,PcS.len hK.pc,e1]
  refine W.cond (v:=true) XJ SZ (by simp[T.get_set]) (by omega) (fun _=> ?_) fun h=>by cases h
  refine Gj_.w Es_ (by omega) ?_
  simp only[WY,Aa,W_mv,Ab]
  refine PZ_.w Pk_ (by omega) ?_
  simp only[Sw,Ad,W_oS,Aa,W_mv,Ab,T.get_set,reduceIte,Nat.reduceEqDiff,reduceCtorEq, ↓reduceIte,hK.t0,hK.t13,ev,Cf C6 hil,Bb Hg (by decide)]
  refine W.load1 Ca hpy ?_
  have x1:=(Ext.refl (F:=Any) (G:=Non) s).thenRd hK.bd (b+(o+i*2+1))
  have hB1:=hKB.ext0 x1
  have hI1:=hK.inv.ext0 x1 (by simp)
  generalize s.rdN (b+(o+i*2+1))=s1 at *
  try simp only[Ad,W_oS,W_on,Aa,W_mv,Ab,AJ,T.get_set,Ah,Af,AH,AG,Ag,Al,reduceIte,Aq,Ay,AM,AD,AB,Ao,Ar,AC,Ap,An,Nat.reduceEqDiff,reduceCtorEq, ↓reduceIte]
  cases hy:ps[i].y with
  |true=>
   refine W.cond (v:=true) X7 Vz (by simp[T.get_set]) (by omega) (fun _=> ?_) fun h=>by cases h
   refine GT_.w RF_ (by omega) ?_
   simp only[Xx,Ad,W_on,Aa,W_mv,Ab,T.get_set,Ah,Af,Ag,Al,reduceIte,Nat.reduceEqDiff, ↓reduceIte,hK.t10]
   refine Do_ hB1.bd hI1 hK.nm (by omega) (by omega) (fun ho s2 col2 A=> ?_) (fun ho hc s2 col2 A=> ?_) fun ho hc s2 col2 f2 st2 A nm2 sb2 lb2=> ?_
   ·try simp only[Ad,W_oS,W_on,Aa,W_mv,Ab,AJ,T.get_set,Ah,Af,AH,AG,Ag,Al,reduceIte,Aq,Ay,AM,AD,AB,Ao,Ar,AC,Ap,An,Nat.reduceEqDiff,reduceCtorEq, ↓reduceIte]
    exact stop _ _ _ _ _ (by omega) M2 (by have h:=A.inv;rw[ho]at h;exact h) (hB1.after A) (hK.fr.stop1 ho).1 (hK.fr.stop1 ho).2 (fun t ht=>by(repeat rw[T.get_set,if_neg (by omega)])) (by simp[T.get_set])
   ·try simp only[Ad,W_oS,W_on,Aa,W_mv,Ab,AJ,T.get_set,Ah,Af,AH,AG,Ag,Al,reduceIte,Aq,Ay,AM,AD,AB,Ao,Ar,AC,Ap,An,Nat.reduceEqDiff,reduceCtorEq, ↓reduceIte]
    exact stop _ _ _ _ _ (by omega) M2 A.inv (hB1.after A) (hK.fr.stop2 ho hc).1 (hK.fr.stop2 ho hc).2 (fun t ht=>by(repeat rw[T.get_set,if_neg (by omega)])) (by simp[T.get_set])
   ·try simp only[Ad,W_oS,W_on,Aa,W_mv,Ab,AJ,T.get_set,Ah,Af,AH,AG,Ag,Al,reduceIte,Aq,Ay,AM,AD,AB,Ao,Ar,AC,Ap,An,Nat.reduceEqDiff,reduceCtorEq, ↓reduceIte]
    have hB2:=hB1.after A
    have hF2:=hK.fr.go ho hc hfz
    refine OV (i:=i) (fuse:=fuse) (out:=false) hB2.bd A.inv ho hF2.2 (by simp[T.get_set,hK.t1]) (by simp[T.get_set,hK.t10]) (by simp[T.get_set,hK.t13]) (by simp[T.get_set]) M2 (by omega) fun n3 tm3 s3 td3 hn3 hT3 x3 ht3=> ?_
    have hB3:=hB2.ext0 x3
    have hI3:=A.inv.ext0 x3 (by simp)
    have g: ∀t,t≤13→T.get tm3 t=T.get tm t:=fun t ht=>(ht3 t (by omega)).trans (by(repeat rw[T.get_set,if_neg (by omega)]))
    have g14:T.get tm3 14=some (.int .i64 0):=(ht3 14 (by omega)).trans (by simp[T.get_set])
    refine O7.w hT3 (by omega) ?_
    obtain⟨b3,o3,c3,ev3,_,hpy3⟩:=hB3.pc.at hil
    rw[hy]at hpy3
    simp only[JM,Ad,W_oS,W_on,Aa,W_mv,Ab,reduceIte,Aq,Ay,Ao,Ar,Ap, ↓reduceIte,Cj,g14,g 0 (by omega),g 13 (by omega),hK.t0,hK.t13,decide_true,ev3,Cf C6 hil,Bb Hg (by decide)]
    refine W.load1 Ca hpy3 ?_
    have x4:=(Ext.refl (F:=Any) (G:=Non) s3).thenRd hB3.bd (b3+(o3+i*2+1))
    have hB4:=hB3.ext0 x4
    have hI4:=hI3.ext0 x4 (by simp)
    generalize s3.rdN (b3+(o3+i*2+1))=s4 at *
    try simp only[Ad,W_oS,W_on,Aa,W_mv,Ab,AJ,T.get_set,Ah,Af,AH,AG,Ag,Al,reduceIte,Aq,Ay,AM,AD,AB,Ao,Ar,AC,Ap,An,Nat.reduceEqDiff,reduceCtorEq, ↓reduceIte,BU,E2,BE,Ds,Ng,C7,Cj,B0]
    refine W.cond (v:=true) M4 ME (by simp[T.get_set]) (by omega) (fun _=> ?_) fun h=>by cases h
    refine Az_.w Pv_ (by omega) ?_
    simp only[Tl,Ad,W_on,Aa,W_mv,Ab,T.get_set,Ah,Af,Ag,Al,reduceIte,Nat.reduceEqDiff, ↓reduceIte,g 11 (by omega),hK.t11]
    refine MK_ hB4.bd (hB4.ms.bs (Nat.lt_of_le_of_lt (show _≤5000 by rw[List.length_append];omega) (by decide))) (by rw[List.length_append];omega) (by omega) fun s5 sv5 sb5 _ mk5 x5=> ?_
    have hB5:=hB4.ext0 x5
    have hI5:=hI4.ext0 x5 (by simp)
    try simp only[Ad,W_oS,W_on,Aa,W_mv,Ab,AJ,T.get_set,Ah,Af,AH,AG,Ag,Al,reduceIte,Aq,Ay,AM,AD,AB,Ao,Ar,AC,Ap,An,Nat.reduceEqDiff,reduceCtorEq, ↓reduceIte]
    refine OQ.w ZM (by omega) ?_
    obtain⟨b5,o5,c5,ev5,_,hpy5⟩:=hB5.pc.at hil
    rw[hy]at hpy5
    have ev35:=ev3.symm.trans ev5
    simp only[IM,Ad,W_oS,W_on,Aa,W_mv,Ab,T.get_set,reduceIte,Aq,Ay,Ao,Ar,Ap,Nat.reduceEqDiff,reduceCtorEq, ↓reduceIte,Cj,g14,g 0 (by omega),g 13 (by omega),hK.t0,hK.t13,decide_true,ev5,Cf C6 hil,Bb Hg (by decide)]
    refine W.load1 Ca hpy5 ?_
    have x6:=(Ext.refl (F:=Any) (G:=Non) s5).thenRd hB5.bd (b5+(o5+i*2+1))
    have hB6:=hB5.ext0 x6
    have hI6:=hI5.ext0 x6 (by simp)
    generalize s5.rdN (b5+(o5+i*2+1))=s6 at *
    simp only[CI,Bool.not_true]
    refine W.cond (v:=false) Ma Ql (by simp[T.get_set]) (by omega) (fun h=>by cases h) fun _=> ?_
    refine Px.w XG (by omega) ?_
    simp only[LC,Ad,W_oS,Aa,W_mv,Ab,T.get_set,reduceIte,Nat.reduceEqDiff, ↓reduceIte,BU,g 13 (by omega),hK.t13,ei]
    have ef:f2.sb++f2.lb=f.sb++f.lb:=by rw[sb2,lb2,List.append_nil]
    have el:f2.sb.length=(f.sb++f.lb).length:=by rw[sb2]
    have el2:f2.lb.length=0:=by rw[lb2];rfl
    have hsl5: ∀(s':St) (Q:Value→St→Prop),W (A6 envS .len [26] [sv5]) s' Q=Q (.int .i64 (f2.sb.length:Nat)) s':=fun s' Q=>by
     rw[el]
     obtain⟨c,e,_⟩:=mk5.row
     rw[e]
     exact B7 Ea Q
    have gv:T.get tm3 0=some v:=(g 0 (by omega)).trans hK.t0
    exact ih (i+1) _ _ _ _ _ _ _ _ _ _ _ _ _ _ (by omega) (by omega) Mn ⟨hB6.cx,hB6.bd,hI6,nm2,by rw[List.length_append]at el;omega,by rw[ef];exact hB6.ms,by rw[ef];exact hB6.mc,hsl5,hB6.pc,by rw[ho];exact hF2.1,by simp[T.get_set,gv],by simp[T.get_set,g,hK.t1],by simp[T.get_set,g,hK.t2],by simp[T.get_set,g,hK.t7],by simp[T.get_set,g,hK.t10],by simp[T.get_set,g,hK.t11],by simp[T.get_set],by simp[T.get_set]⟩
  |false=>
   refine W.cond (v:=false) X7 Vz (by simp[T.get_set]) (by omega) (fun h=>by cases h) fun _=> ?_
   refine HS_.w Jq_ (by omega) ?_
   obtain⟨b2,o2,c2,ev2,hpv2,_⟩:=hB1.pc.at hil
   simp only[SJ,Ad,W_oS,W_on,Aa,W_mv,Ab,T.get_set,Ah,Af,Ag,Al,reduceIte,Nat.reduceEqDiff,reduceCtorEq, ↓reduceIte,hK.t0,hK.t10,hK.t13,ev2,Cf C6 hil,Bb Nj (by decide)]
   refine W.load1 BV hpv2 ?_
   have x1':=(Ext.refl (F:=Any) (G:=Non) s1).thenRd hB1.bd (b2+(o2+i*2+0))
   have hB1':=hB1.ext0 x1'
   have hI1':=hI1.ext0 x1' (by simp)
   generalize s1.rdN (b2+(o2+i*2+0))=s1' at *
   try simp only[Ad,W_oS,W_on,Aa,W_mv,Ab,AJ,T.get_set,Ah,Af,AH,AG,Ag,Al,reduceIte,Aq,Ay,AM,AD,AB,Ao,Ar,AC,Ap,An,Nat.reduceEqDiff,reduceCtorEq, ↓reduceIte]
   refine IM_ (l:=ps[i].l) hB1'.bd hI1' hK.nm (hB1'.pc.bs ps[i] (List.getElem_mem hil)).1 (by omega) (by omega) (by omega) (fun ho s2 col2 A=> ?_) (fun ho hc s2 col2 A=> ?_) fun ho hc s2 col2 f2 st2 A nm2 sb2 lb2=> ?_
   ·try simp only[Ad,W_oS,W_on,Aa,W_mv,Ab,AJ,T.get_set,Ah,Af,AH,AG,Ag,Al,reduceIte,Aq,Ay,AM,AD,AB,Ao,Ar,AC,Ap,An,Nat.reduceEqDiff,reduceCtorEq, ↓reduceIte]
    exact stop _ _ _ _ _ (by omega) NZ (by have h:=A.inv;rw[ho]at h;exact h) (hB1'.after A) (hK.fr.stop1 ho).1 (hK.fr.stop1 ho).2 (fun t ht=>by(repeat rw[T.get_set,if_neg (by omega)])) (by simp[T.get_set])
   ·try simp only[Ad,W_oS,W_on,Aa,W_mv,Ab,AJ,T.get_set,Ah,Af,AH,AG,Ag,Al,reduceIte,Aq,Ay,AM,AD,AB,Ao,Ar,AC,Ap,An,Nat.reduceEqDiff,reduceCtorEq, ↓reduceIte]
    exact stop _ _ _ _ _ (by omega) NZ A.inv (hB1'.after A) (hK.fr.stop2 ho hc).1 (hK.fr.stop2 ho hc).2 (fun t ht=>by(repeat rw[T.get_set,if_neg (by omega)])) (by simp[T.get_set])
   ·try simp only[Ad,W_oS,W_on,Aa,W_mv,Ab,AJ,T.get_set,Ah,Af,AH,AG,Ag,Al,reduceIte,Aq,Ay,AM,AD,AB,Ao,Ar,AC,Ap,An,Nat.reduceEqDiff,reduceCtorEq, ↓reduceIte]
    have hB2:=hB1'.after A
    have hF2:=hK.fr.go ho hc hfz
    refine OV (i:=i) (fuse:=fuse) (out:=false) hB2.bd A.inv ho hF2.2 (by simp[T.get_set,hK.t1]) (by simp[T.get_set,hK.t10]) (by simp[T.get_set,hK.t13]) (by simp[T.get_set]) NZ (by omega) fun n3 tm3 s3 td3 hn3 hT3 x3 ht3=> ?_
    have hB3:=hB2.ext0 x3
    have hI3:=A.inv.ext0 x3 (by simp)
    have g: ∀t,t≤13→T.get tm3 t=T.get tm t:=fun t ht=>(ht3 t (by omega)).trans (by(repeat rw[T.get_set,if_neg (by omega)]))
    have g14:T.get tm3 14=some (.int .i64 0):=(ht3 14 (by omega)).trans (by simp[T.get_set])
    refine O7.w hT3 (by omega) ?_
    obtain⟨b3,o3,c3,ev3,_,hpy3⟩:=hB3.pc.at hil
    rw[hy]at hpy3
    simp only[JM,Ad,W_oS,W_on,Aa,W_mv,Ab,reduceIte,Aq,Ay,Ao,Ar,Ap, ↓reduceIte,Cj,g14,g 0 (by omega),g 13 (by omega),hK.t0,hK.t13,decide_true,ev3,Cf C6 hil,Bb Hg (by decide)]
    refine W.load1 Ca hpy3 ?_
    have x4:=(Ext.refl (F:=Any) (G:=Non) s3).thenRd hB3.bd (b3+(o3+i*2+1))
    have hB4:=hB3.ext0 x4
    have hI4:=hI3.ext0 x4 (by simp)
    generalize s3.rdN (b3+(o3+i*2+1))=s4 at *
    try simp only[Ad,W_oS,W_on,Aa,W_mv,Ab,AJ,T.get_set,Ah,Af,AH,AG,Ag,Al,reduceIte,Aq,Ay,AM,AD,AB,Ao,Ar,AC,Ap,An,Nat.reduceEqDiff,reduceCtorEq, ↓reduceIte,BU,E2,BE,Ds,Ng,C7,Cj,B0]
    refine W.cond (v:=false) M4 ME (by simp[T.get_set]) (by omega) (fun h=>by cases h) fun _=> ?_
    refine OQ.w QT (by omega) ?_
    obtain⟨b5,o5,c5,ev5,_,hpy5⟩:=hB4.pc.at hil
    rw[hy]at hpy5
    simp only[IM,Ad,W_oS,W_on,Aa,W_mv,Ab,T.get_set,reduceIte,Aq,Ay,Ao,Ar,Ap,Nat.reduceEqDiff,reduceCtorEq, ↓reduceIte,Cj,g14,g 0 (by omega),g 13 (by omega),hK.t0,hK.t13,decide_true,ev5,Cf C6 hil,Bb Hg (by decide)]
    refine W.load1 Ca hpy5 ?_
    have x6:=(Ext.refl (F:=Any) (G:=Non) s4).thenRd hB4.bd (b5+(o5+i*2+1))
    have hB6:=hB4.ext0 x6
    have hI6:=hI4.ext0 x6 (by simp)
    generalize s4.rdN (b5+(o5+i*2+1))=s6 at *
    simp only[CI,Bool.not_false]
    refine W.cond (v:=true) Ma Ql (by simp[T.get_set]) (by omega) (fun _=> ?_) fun h=>by cases h
    refine KE_.w My_ (by omega) ?_
    obtain⟨b7,o7,c7,ev7,hpv7,_⟩:=hB6.pc.at hil
    simp only[Xr,Ad,W_oS,Aa,W_mv,Ab,T.get_set,Ah,Af,Ag,reduceIte,Nat.reduceEqDiff,reduceCtorEq, ↓reduceIte,g 0 (by omega),g 11 (by omega),g 13 (by omega),hK.t0,hK.t11,hK.t13,ev7,Cf C6 hil,Bb Nj (by decide)]
    refine W.load1 BV hpv7 ?_
    have x7:=(Ext.refl (F:=Any) (G:=Non) s6).thenRd hB6.bd (b7+(o7+i*2+0))
    have hB7:=hB6.ext0 x7
    have hI7:=hI6.ext0 x7 (by simp)
    generalize s6.rdN (b7+(o7+i*2+0))=s7 at *
    simp only[Hp]
    have hp7:=(hB7.pc.bs ps[i] (List.getElem_mem hil)).1
    refine W.appV hB7.bd Hq hB7.ms hp7.bs.src.g (by decide) (by decide) (by rw[List.length_append];omega) (by rw[Cb,Nat.mul_one]) (Er _) fun s8 v8 b8 hb8 mk8 x8=> ?_
    have hag: ∀x,x<s7.next→paint col2 s7.next 1000 x=col2 x:=fun x hx=>BD hx
    have hnw: ∀x,s7.next≤x→paint col2 s7.next 1000 x=1000:=fun x hx=>Dc hx
    have y8:Ext Any (MkF 1 (f.sb++f.lb).length ab) s7 s8:=x8.weak hB7.bd (fun _ _ _=>trivial) fun _ _ h=>h
    have hI8:=(hI7.col hag).ext y8 (by simp) fun y hy g=>by rw[hag y hy];exact(hB7.mc y g).2
    have hP8:PcS N0 s8 (paint col2 s7.next 1000) v ps:=hB7.pc.mvG y8 hag fun y h1 _ g=>by have:=(hB7.mc y g).1;omega
    have hn7:=hB7.pc.nx
    have hmc8: ∀x,MkF 1 ((f.sb++f.lb).length+ps[i].l.length) b8 x→N0≤x∧1000≤paint col2 s7.next 1000 x:=fun x hx=>by
     rcases hb8 with h|h
     ·rw[h.1,h.2,Nat.add_zero]at hx
      rw[hag x (hB7.ms.lt x hx)]
      exact hB7.mc x hx
     ·have h1:=hx.2.1
      rw[hnw x (by omega)]
      exact⟨by omega,Nat.le_refl _⟩
    try simp only[Ad,W_oS,W_on,Aa,W_mv,Ab,AJ,T.get_set,Ah,Af,AH,AG,Ag,Al,reduceIte,Aq,Ay,AM,AD,AB,Ao,Ar,AC,Ap,An,Nat.reduceEqDiff,reduceCtorEq, ↓reduceIte]
    refine Px.w ZH (by omega) ?_
    simp only[LC,Ad,W_oS,Aa,W_mv,Ab,T.get_set,reduceIte,Nat.reduceEqDiff, ↓reduceIte,BU,g 13 (by omega),hK.t13,ei]
    have ef:f2.sb++f2.lb=(f.sb++f.lb)++ps[i].l:=by rw[sb2,lb2,List.append_assoc]
    have el:f2.lb.length=f.lb.length+ps[i].l.length:=by rw[lb2,List.length_append]
    have el2:f2.sb.length=f.sb.length:=by rw[sb2]
    have gv:T.get tm3 0=some v:=(g 0 (by omega)).trans hK.t0
    exact ih (i+1) _ _ _ _ _ _ _ _ _ _ _ _ _ _ (by omega) (by omega) Mn ⟨x8.cx.trans hB7.cx,x8.bnd hB7.bd,hI8,nm2,by omega,by rw[ef,Lu,List.length_append];exact mk8,by rw[ef,List.length_append];exact hmc8,by rw[el2];exact hK.sl,hP8,by rw[ho];exact hF2.1,by simp[T.get_set,gv],by simp[T.get_set,g,hK.t1],by simp[T.get_set,g,hK.t2],by simp[T.get_set,g,hK.t7],by simp[T.get_set,g,hK.t10],by simp[T.get_set],by simp[T.get_set,g,hK.t12],by simp[T.get_set]⟩
end
end Go.Proofs.Ytjfhmacppabehaa.Am
