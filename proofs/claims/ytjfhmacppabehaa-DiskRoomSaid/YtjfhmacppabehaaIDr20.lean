import Derived.Test.YtjfhmacppabehaaIDr19
namespace Go.Proofs.Ytjfhmacppabehaa.Am
open Go.RowKit
theorem MkS.lenq {E:Env}{s s':St}{t z sz n:Nat}{l:List Value}{v:Value}{b:Nat}(h:MkS s sz n l v b)(ht:slN E t=some z)(Q:Value→St→Prop):W (A6 E .len [t] [v]) s' Q=Q (.int .i64 (n:Nat)) s':=h.len ht Q
section
variable {B n:Nat}{s:St}{Q:Value→St→Prop}
end
section
variable {n D M:Nat}{s:St}{k:DkS}{col:Nat→Nat}{a:ByteArray}{bit:Int}{Q:Value→St→Prop}
end
section
variable {s:St}
theorem W.rowM {vs:List Value}{Q:Value→St→Prop}(hb:s.lim≤s.next)(hz:vs.length<capU)(q: ∀s1 v,MkS s1 1 vs.length vs v s.next→Ext Any Non s s1→Q v s1):W (Am.rowM vs) s Q:=by
 cases vs with
 |nil=>exact W.pure (q s _ (.inl ⟨rfl,rfl,rfl⟩) (Ext.refl _))
 |cons x l=>
  show W (Am.fN (x::l).length fun n=>Am.rowN (x::l) n) s Q
  rw[A1]
  generalize hvs:x::l=vs at *
  have h0:0<vs.length:=by rw[←hvs];simp
  unfold Am.rowN
  refine W.chk (BI hz) (W.bind (W.newL fun s1 n1 x1 r1=> ?_))
  have e1:Nat.add s.next (Nat.mul vs.length 1)=s.next+vs.length:=by
   show s.next+vs.length*1=_
   omega
  rw[e1]
  refine W.bind (W.wrC (by omega) ?_)
  unfold Am.pSl
  show W (Am.fA ⟨s.next,0,none⟩ fun a=>Am.fN _ fun l=>Am.fN _ fun c=>M.pure (.slice (some a) l c)) _ Q
  rw[Cc,A1,A1]
  have hval:Value.slice (some ⟨s.next,0,none⟩) vs.length (Nat.add (Nat.mul capU (Nat.add (Nat.mul (s.next+vs.length) 1024) 1)) vs.length)= .slice (some ⟨s.next,0,none⟩) vs.length (capU*((s.next+vs.length*1)*1024+1)+vs.length):=by
   rw[Nat.mul_one]
   generalize capU=c
   rfl
  rw[hval]
  refine W.pure (q _ _ (.inr ⟨⟨rfl, ?_, ?_, ?_, ?_⟩,h0⟩) ?_)
  ·exact r1.ext (Ext.wrN (F:=Any) (G:=fun y=>y=s.next+vs.length) s1 _ _ rfl) fun i hi h=>by omega
  ·omega
  ·show T.get (T.set s1.mem (s.next+vs.length) _) (s.next+vs.length*1)=_
   rw[Nat.mul_one,T.get_set,if_pos rfl]
  ·show s.next+vs.length*1<s1.next
   omega
  ·exact(x1.weak (G':=Non) hb (fun _ _ _=>trivial) fun _ _ h=>h).on (Ext.wrN (F:=Any) (G:=fun y=>y=s.next+vs.length) s1 _ _ rfl) hb fun y hy h=>by omega
structure NmsOk (l:List ByteArray):Prop where
 dist:El (l.map (·.data.toList))=true
 short:En (l.map (·.data.toList)) 1000000=true
 sort:EA (l.map (·.data.toList))=l.map (·.data.toList)
 len:l.length≤300
theorem Vc: ∀fs:List FileS,ED (fs.map FileS.ent)=some ((fs.map FileS.name).map (·.data.toList))
 |[]=>rfl
 |f::fs=>by
  show(match Ma f.ent.key,ED (fs.map FileS.ent)with|some k,some ks=>some (k::ks)|_,_=>none)=_
  rw[Vc fs]
  rfl
theorem Xk (l:List ByteArray):(l.map (·.data.toList)).map encStr=l.map Value.string:=by
 rw[List.map_map]
 refine List.map_congr_left fun a _=> ?_
 show encStr a.data.toList=Value.string a
 unfold encStr
 congr
theorem W.keysQ {Q:Value→St→Prop}{l:Nat}(q: ∀s1,s1.next=s.next+2→Ext Non Non s s1→Own s1 s.next 0 (.map (some l))→Q (.func (.func 72) #[] #[.chan (some s.next)]) s1):W (keysM 72 [.map (some l)]) s Q:=by
 show W (M.bind (Am.newL [.map (some l)]) fun b=>M.pure (.func (.func 72) #[] #[.chan (some b)])) s Q
 exact W.bind (W.newL fun s1 n1 x1 r1=>W.pure (q s1 n1 x1 (r1 0 _ rfl)))
theorem W.sortedQ {Q:Value→St→Prop}{l b m:Nat}{fs:List FileS}(hb:s.lim≤s.next)(h0:Own s b 0 (.map (some l)))(ho:Obj s l (.map (fs.map FileS.ent) m))(hbo:Bx (fs.map FileS.ent) 0 m=true)(hN:NmsOk (fs.map FileS.name))(q: ∀s1 v,MkS s1 1 fs.length ((fs.map FileS.name).map Value.string) v s.next→Ext Any Non s s1→Q v s1):W (sortedM 72 [.func (.func 72) #[] #[.chan (some b)]]) s Q:=by
 show W (M.chk (Nat.beq 72 72&&(#[]:Array Value).isEmpty) (M.bind (Am.rdV ⟨b,0,none⟩) fun x=>match x with
   | .map (some l)=>M.bind (Am.mapAt l) sortKs
   |_=>M.fail)) s Q
 refine W.chk (by decide) (W.bind (W.rdV h0.at' ?_))
 have ho1:Obj (s.rdN (b+0)) l (.map (fs.map FileS.ent) m):=ho.same rfl rfl
 refine W.bind (W.bind (W.rdC ho1.2 ho1.1 (W.pure ?_)))
 show W (M.on (ED (fs.map FileS.ent)) fun ks=>M.chk (Bx (fs.map FileS.ent) 0 m&&El ks&&En ks 1000000&&Nat.ble ks.length 1000000) (Am.rowM ((EA ks).map encStr))) ((s.rdN (b+0)).rdN l) Q
 refine W.on (Vc fs) (W.chk ?_ ?_)
 ·have hl:=hN.len
  rw[hbo,hN.dist,hN.short,Nat.ble_eq_true_of_le (show((fs.map FileS.name).map (·.data.toList)).length≤1000000 by simp at hl ⊢;omega)]
  rfl
 ·rw[hN.sort,Xk]
  have y:=((Ext.refl (F:=Any) (G:=Non) s).thenRd hb (b+0)).thenRd hb l
  have hl:=hN.len
  refine W.rowM (s:=(s.rdN (b+0)).rdN l) hb (Nat.lt_of_le_of_lt (show _≤1000000 by simp at hl ⊢;omega) (by decide)) fun s1 v mk x1=> ?_
  refine q s1 v ?_ (y.on x1 hb fun _ _ h=>h)
  rw[show((fs.map FileS.name).map Value.string).length=fs.length by simp]at mk
  exact mk
end
theorem FQ_ (a:ByteArray):(a.extract 0 0).data.toList=[]:=by
 cases a
 simp[ByteArray.extract,ByteArray.copySlice]
theorem Aa_ (a:ByteArray){s:St}(Q:Value→St→Prop):W (BK envS 9 (.string a) none (some (.int .i64 ((0:Nat):Int)))) s Q=Q (.string (a.extract 0 0)) s:=by
 have: ∀s,BK envS 9 (.string a) none (some (.int .i64 ((0:Nat):Int))) s= .some (.string (a.extract 0 0)) s:=fun s=>by kernel_rfl
 exact Bp (this s)
section
variable {n:Nat}{s:St}{a:ByteArray}{Q:Value→St→Prop}
theorem Co_ (hn:60≤n)(q:Q (.bool true) s):W (As envS (runF envS n) 46 [.string a, .string ⟨#[]⟩]) s Q:=by
 refine GK_ fun tm h0 h1=> ?_
 refine KK_.w rfl (by omega) ?_
 simp only[Tr,Aa,W_mv,Ab]
 refine FG_.w Ai_ (by omega) ?_
 simp only[Qh,Ad,W_on,Aa,W_mv,Ab,T.get_set,Ak,Aj,Ai,Av,reduceIte,Nat.reduceEqDiff,reduceCtorEq, ↓reduceIte,h0,h1]
 refine IE_ fun tm2 g0 g1=> ?_
 refine HH_.w rfl (by omega) ?_
 simp only[QO,Aa,W_mv,Ab]
 refine HN_.w LN_ (by omega) ?_
 have e1:decide ((((⟨#[]⟩:ByteArray).size:Nat):Int)≤((a.size:Nat):Int))=true:=decide_eq_true (by show(0:Int)≤_;omega)
 have e2:(⟨#[]⟩:ByteArray).size=0:=rfl
 simp only[RI,Ad,W_oS,W_on,Aa,W_mv,Ab,T.get_set,Ak,Aj,Ai,reduceIte,AP,AW,AQ,AS,AO,Nat.reduceEqDiff,reduceCtorEq, ↓reduceIte,Ls,g0,g1,Sk Oz,e1]
 rw[e2,Aa_]
 have e3:((a.extract 0 0).data.toList==(⟨#[]⟩:ByteArray).data.toList)=true:=by rw[FQ_];rfl
 simp only[ZA,e3]
 refine W.end' (rs:=[4]) (vs:=[.bool true]) Gv_ (.inl Mx_) (by omega) U1 Jj_ rfl (by simp[T.get_set]) ?_
 show W _ _ _
 try simp only[MO]
 refine W.end' (rs:=[4]) (vs:=[.bool true]) Kh_ (.inl Wn) (by omega) Vh AL_ rfl (by simp[T.get_set]) ?_
 exact q
end
theorem E5:slN envS 30=some 1:=by kernel_rfl
theorem Ye:envS.orc.get 43=some (keysM 72):=by kernel_rfl
theorem Bi_:envS.orc.get 42=some (sortedM 72):=by kernel_rfl
def NmR (s:St)(v:Value)(l:List ByteArray)(b:Nat):Prop:=MkS s 1 l.length (l.map Value.string) v b
theorem NmR.at {s:St}{v:Value}{l:List ByteArray}{b i:Nat}(h:NmR s v l b)(hi:i<l.length): ∃c,v= .slice (some ⟨b,0,none⟩) l.length c∧Own s b (0+i*1) (.string l[i]):=by
 rcases h with⟨_,h0,_⟩|⟨h,h0⟩
 ·omega
 ·refine⟨_,h.val, ?_⟩
  rw[Nat.mul_one,Nat.zero_add]
  have h1:=h.own i (.string l[i]) (by simp[hi])
  rwa [Nat.zero_add]at h1
section
variable {n P:Nat}{s:St}{a:ByteArray}{Q:Value→St→Prop}
theorem Bu_ (hb:s.lim≤s.next)(hP:Own s P 0 (.string ⟨#[]⟩))(hn:100≤n)(q: ∀s1,s1.mem=s.mem→s1.next=s.next→Ext Any Non s s1→Q (.bool false) s1):W (As envS (runF envS n) 45 [.string a, .pointer (some ⟨P,0,none⟩)]) s Q:=by
 have hb0:(s.cxN cxN).lim≤(s.cxN cxN).next:=hb
 refine Md_ fun tm h0 h1=> ?_
 refine GF_.w rfl (by omega) ?_
 simp only[Sp,Aa,W_mv,Ab]
 refine BK_.w Jn_ (by omega) ?_
 simp only[S5,Ad,W_oS,W_on,Aa,W_mv,Ab,T.get_set,Ak,Aj,Ai,Av,reduceIte,Nat.reduceEqDiff,reduceCtorEq, ↓reduceIte,h0,h1]
 refine W.load1 Dc (hP.same (s':=s.cxN cxN) rfl rfl).at' ?_
 have y1:=(Ext.refl (F:=Any) (G:=Non) (s.cxN cxN)).thenRd hb0 (P+0)
 try simp only[Ad,W_oS,W_on,Aa,W_mv,Ab,AV,T.get_set,Ak,Aj,A0,AZ,Ai,Av,reduceIte,AP,AW,A2,AY,AT,AQ,AS,AX,AO,AN,Nat.reduceEqDiff,reduceCtorEq, ↓reduceIte]
 refine Co_ (by omega) ?_
 simp only[JO,Bool.not_true]
 refine W.end' (rs:=[3]) (vs:=[.bool false]) Gl_ (.inl DR_) (by omega) Pt Ij_ rfl (by simp[T.get_set]) ?_
 exact q _ rfl rfl y1.cx'
theorem BJ_ {l:List ByteArray}{v:Value}{b:Nat}{Q:Value×FrameMode→St→Prop}{s0:St}(hb0:s0.lim≤s0.next)(hl:l.length≤300)(hr:NmR s0 v l b)(hP:Own s0 P 0 (.string ⟨#[]⟩))(hcx:s0.cx=cxN)(q: ∀s1,s1.mem=s0.mem→s1.next=s0.next→Ext Any Non s0 s1→Q (.int .i64 (-1), .run) s1):
  ∀(k i n:Nat) (tm:T Value) (s:St) (td:List Item),i+k=l.length→10*k+200≤n→skim 64 td=FG→Ext Any Non s0 s→s.mem=s0.mem→s.next=s0.next→
  T.get tm 0=some v→T.get tm 1=some (.func (.func 45) #[] #[.pointer (some ⟨P,0,none⟩)])→T.get tm 7=some (.int .i64 (l.length:Nat))→T.get tm 8=some (.int .i64 (i:Nat))→
  W (runF envS n ⟨73,Yd,Dw,tm,td, .run, .normal,none⟩) s Q:=by
 intro k
 induction k with
 |zero=>
  intro i n tm s td hi hn hT hx hm hnx h0 h1 h7 h8
  refine Tx.w hT (by omega) ?_
  simp only[OB,Ad,W_oS,Aa,Ab,BN,h7,h8]
  refine W.cond (v:=false) TJ QC (by simp[T.get_set];omega) (by omega) (fun h=>by cases h) fun _=> ?_
  refine Fb_.w AI_ (by omega) ?_
  simp only[SO,Aa,W_mv,Ab]
  refine W.end' (rs:=[4]) (vs:=[.int .i64 (-1)]) Ka_ (.inl CP_) (by omega) Qo YC (hx.cx.trans hcx) (by simp[T.get_set]) ?_
  exact q s hm hnx hx
 |succ k ih=>
  intro i n tm s td hi hn hT hx hm hnx h0 h1 h7 h8
  have hil:i<l.length:=by omega
  obtain⟨c,rfl,ho⟩:=NmR.at hr hil
  refine Tx.w hT (by omega) ?_
  simp only[OB,Ad,W_oS,Aa,Ab,BN,h7,h8]
  refine W.cond (v:=true) TJ QC (by simp[T.get_set];omega) (by omega) (fun _=> ?_) fun h=>by cases h
  refine Mu_.w Lv_ (by omega) ?_
  simp only[RC,Aa,W_mv,Ab,T.get_set,reduceIte,Nat.reduceEqDiff, ↓reduceIte,h8]
  refine Mb_.w Yn (by omega) ?_
  simp only[TZ,Ad,W_oS,W_on,Aa,W_mv,Ab,T.get_set,Ak,Aj,Ai,reduceIte,Nat.reduceEqDiff,reduceCtorEq, ↓reduceIte,h0,h1,CL E5 hil]
  refine W.load1 Dc (ho.same hm hnx).at' ?_
  have y1:=hx.thenRd hb0 (b+(0+i*1))
  try simp only[Wb]
  refine Bu_ (P:=P) (y1.bnd hb0) ((hP.same hm hnx).same rfl rfl) (by omega) fun s2 m2 n2 x2=> ?_
  have y2:=y1.on x2 hb0 fun _ _ h=>h
  try simp only[Ad,W_oS,W_on,Aa,W_mv,Ab,AV,T.get_set,Ak,Aj,A0,AZ,Ai,Av,reduceIte,AP,AW,A2,AY,AT,AQ,AS,AX,AO,AN,Nat.reduceEqDiff,reduceCtorEq, ↓reduceIte]
  refine W.cond (v:=false) HJ_ Y5 (by simp[T.get_set]) (by omega) (fun h=>by cases h) fun _=> ?_
  refine KN_.w Y2 (by omega) ?_
  have ei:wrap64 ((i:Nat)+1:Int)=((i+1:Nat):Int):=by
   rw[Cb (by omega) (by omega)];simp
  simp only[RO,Ad,W_oS,Aa,W_mv,Ab,T.get_set,reduceIte,Nat.reduceEqDiff, ↓reduceIte,CP,h8,ei]
  exact ih (i+1) _ _ _ _ (by omega) (by omega) Cv_ y2 (m2.trans hm) (n2.trans hnx) (by simp[T.get_set,h0]) (by simp[T.get_set,h1]) (by simp[T.get_set,h7]) (by simp[T.get_set])
theorem Ca_ {l:List ByteArray}{v:Value}{b:Nat}(hb:s.lim≤s.next)(hl:l.length≤300)(hr:NmR s v l b)(hP:Own s P 0 (.string ⟨#[]⟩))(hn:10*l.length+300≤n)(q: ∀s1,s1.mem=s.mem→s1.next=s.next→Ext Any Non s s1→Q v s1):W (As envS (runF envS n) 44 [v, .func (.func 45) #[] #[.pointer (some ⟨P,0,none⟩)]]) s Q:=by
 have hb0:(s.cxN cxN).lim≤(s.cxN cxN).next:=hb
 refine WX fun tm h0 h1=> ?_
 refine Kj_.w rfl (by omega) ?_
 simp only[Pc,Aa,W_mv,Ab]
 refine Br_.w FW_ (by omega) ?_
 simp only[Si,Ad,W_on,Aa,W_mv,Ab,T.get_set,Ak,Aj,Ai,Av,reduceIte,Nat.reduceEqDiff,reduceCtorEq, ↓reduceIte,h0,h1]
 refine Db_ fun tm2 g0 g1=> ?_
 refine HB_.w rfl (by omega) ?_
 simp only[SB,Aa,W_mv,Ab]
 refine WD.w BE_ (by omega) ?_
 simp only[P2,Ad,W_oS,Aa,W_mv,Ab,T.get_set,Ak,Aj,Ai,reduceIte,reduceCtorEq, ↓reduceIte,g0,MkS.lenq hr E5]
 refine BJ_ (P:=P) (s0:=(s.cxN cxN).cxN cxN) hb hl (MkS.same hr rfl rfl) (hP.same rfl rfl) rfl (fun s1 m1 n1 x1=> ?_) l.length 0 _ _ _ _ (by omega) (by omega) Hy_ (Ext.refl _) rfl rfl (by simp[T.get_set,g0]) (by simp[T.get_set,g1]) (by simp[T.get_set]) (by simp[T.get_set])
 show W _ (s1.cxN cxN) _
 try simp only[Ad]
 refine Gn_.w JY_ (by omega) ?_
 simp only[Vz,Ad,W_oS,Aa,W_mv,Ab,T.get_set,reduceIte, ↓reduceIte,DH,decide_true]
 refine W.cond (v:=true) YK CR_ (by simp[T.get_set]) (by omega) (fun _=> ?_) fun h=>by cases h
 refine Ao_.w Fh_ (by omega) ?_
 simp only[V6,Aa,W_mv,Ab,T.get_set,reduceIte,reduceCtorEq, ↓reduceIte,h0]
 refine W.end' (rs:=[4]) (vs:=[v]) Eh_ (.inl Zv) (by omega) QY Hx_ rfl (by simp[T.get_set]) ?_
 exact q _ m1 n1 ⟨x1.nxt,x1.lim,rfl,x1.mem,x1.rd,x1.wr⟩
theorem AV_ {D M:Nat}{k:DkS}{col:Nat→Nat}(hb:s.lim≤s.next)(hI:DkI s col D M k)(hN:NmsOk (k.fs.map FileS.name))(hn:10*k.fs.length+500≤n)(q: ∀s1 v b,s.next≤b→NmR s1 v (k.fs.map FileS.name) b→Ext Any Non s s1→Q v s1):W (As envS (runF envS n) 11 [.pointer (some ⟨D,0,none⟩), .string ⟨#[]⟩]) s Q:=by
 have hb0:(s.cxN cxN).lim≤(s.cxN cxN).next:=hb
 have hI0:DkI (s.cxN cxN) col D M k:=hI.same rfl rfl
 have hlen:k.fs.length≤300:=by have:=hN.len;simpa using this
 refine X0 fun tm t0 t1=> ?_
 refine Iv_.w rfl (by omega) ?_
 simp only[RM,Ad,W_oS,Aa,W_mv,Ab,t1]
 refine W.box fun s1 n1 x1 o1=> ?_
 have ea:(s.cxN cxN).next=s.next:=rfl
 rw[Du (show oneCell (.string ⟨#[]⟩)=true from rfl)]at n1 o1
 rw[ea]at o1 n1 ⊢
 have n1':s1.next=s.next+2:=n1
 have y1:Ext Any Non (s.cxN cxN) s1:=x1.weak hb0 (fun _ _ _=>trivial) fun _ _ h=>h
 have hI1:=hI0.ext0 x1 hlen
 have oP:Own s1 s.next 0 (.string ⟨#[]⟩):=o1 0 _ rfl
 try simp only[Ad,W_oS,W_on,Aa,W_mv,Ab,AV,T.get_set,Ak,Aj,A0,AZ,Ai,Av,reduceIte,AP,AW,A2,AY,AT,AQ,AS,AX,AO,AN,Nat.reduceEqDiff,reduceCtorEq, ↓reduceIte]
 refine Xf.w Lg_ (by omega) ?_
 simp only[Qr,Ad,W_on,Aa,W_mv,Ab,T.get_set,Ak,Aj,Ai,Av,reduceIte,reduceCtorEq, ↓reduceIte,t0]
 refine L9 (y1.bnd hb0) hI1.d0 (by omega) fun s2 m2 n2 x2=> ?_
 have y2:=y1.on x2 hb0 fun _ _ h=>h
 have hI2:=hI1.same m2 n2
 have oP2:=oP.same m2 n2
 try simp only[Ad,W_oS,W_on,Aa,W_mv,Ab,AV,T.get_set,Ak,Aj,A0,AZ,Ai,Av,reduceIte,AP,AW,A2,AY,AT,AQ,AS,AX,AO,AN,Nat.reduceEqDiff,reduceCtorEq, ↓reduceIte]
 refine W.cond (v:=false) My_ Jp_ (by simp[T.get_set]) (by omega) (fun h=>by cases h) fun _=> ?_
 refine W5.w Ix_ (by omega) ?_
 simp only[VY,Ad,W_oS,W_on,Aa,W_mv,Ab,T.get_set,Ak,Aj,Ai,Av,reduceIte,AN,reduceCtorEq, ↓reduceIte,t0,Bz Et (by decide)]
 refine W.load1 EK hI2.d1.at' ?_
 have y3:=y2.thenRd hb0 (D+(0+1))
 have hI3:DkI (s2.rdN (D+(0+1))) col D M k:=hI2.same rfl rfl
 have oP3:Own (s2.rdN (D+(0+1))) s.next 0 (.string ⟨#[]⟩):=oP2.same rfl rfl
 have n3:(s2.rdN (D+(0+1))).next=s.next+2:=n2.trans n1'
 generalize s2.rdN (D+(0+1))=s3 at *
 try simp only[Ad,W_oS,W_on,Aa,W_mv,Ab,AV,T.get_set,Ak,Aj,A0,AZ,Ai,Av,reduceIte,AP,AW,A2,AY,AT,AQ,AS,AX,AO,AN,Nat.reduceEqDiff,reduceCtorEq, ↓reduceIte]
 refine W.orc Ye (W.keysQ fun s4 n4 x4 o4=> ?_)
 have y4:=y3.on x4 hb0 fun _ _ h=>h
 have hI4:=hI3.ext0 x4 hlen
 have oP4:=oP3.ext0 x4
 rw[n3]at o4 n4 ⊢
 try simp only[Ad,W_oS,W_on,Aa,W_mv,Ab,AV,T.get_set,Ak,Aj,A0,AZ,Ai,Av,reduceIte,AP,AW,A2,AY,AT,AQ,AS,AX,AO,AN,Nat.reduceEqDiff,reduceCtorEq, ↓reduceIte]
 refine W.orc Bi_ (W.sortedQ (y4.bnd hb0) o4 hI4.om hI4.bo hN fun s5 v mk x5=> ?_)
 have y5:=y4.on x5 hb0 fun _ _ h=>h
 have oP5:=oP4.ext0 x5
 try simp only[Ad,W_oS,W_on,Aa,W_mv,Ab,AV,T.get_set,Ak,Aj,A0,AZ,Ai,Av,reduceIte,AP,AW,A2,AY,AT,AQ,AS,AX,AO,AN,Nat.reduceEqDiff,reduceCtorEq, ↓reduceIte]
 refine ZR.w Go_ (by omega) ?_
 simp only[VX,Ad,W_oS,W_on,Aa,W_mv,Ab,T.get_set,Ak,Aj,Ai,Av,reduceIte,Nat.reduceEqDiff, ↓reduceIte]
 have hr:NmR s5 v (k.fs.map FileS.name) s4.next:=by
  unfold NmR
  rw[List.length_map]
  exact mk
 refine Ca_ (P:=s.next) (y5.bnd hb0) hN.len hr oP5 (by simp;omega) fun s6 m6 n6 x6=> ?_
 have y6:=y5.on x6 hb0 fun _ _ h=>h
 try simp only[Ad,W_oS,W_on,Aa,W_mv,Ab,AV,T.get_set,Ak,Aj,A0,AZ,Ai,Av,reduceIte,AP,AW,A2,AY,AT,AQ,AS,AX,AO,AN,Nat.reduceEqDiff,reduceCtorEq, ↓reduceIte]
 refine W.end' (rs:=[4]) (vs:=[v]) BW_ (.inl Ik_) (by omega) PV ZQ y6.cx (by simp[T.get_set]) ?_
 exact q _ v s4.next (by omega) (MkS.same (MkS.same hr m6 n6) rfl rfl) y6.cx'
end
theorem MkS.pre {s:St}{m:List Nat}{v:Value}{b kk:Nat}(h:MkS s 1 m.length (u8l m) v b)(hk:kk≤m.length)(hz:m.length<capU): ∃v',(∀(s':St) (Q:Value→St→Prop),W (BK envS 26 v none (some (.int .i64 (kk:Nat)))) s' Q=Q v' s')∧Bs s v' (m.take kk)∧ ∀x,BsF v' x→MkF 1 m.length b x:=by
 rcases h with⟨rfl,h0,_⟩|⟨h,h0⟩
 ·have hm:m=[]:=List.eq_nil_of_length_eq_zero h0
  subst hm
  have:kk=0:=by simpa using hk
  subst this
  exact⟨.slice none 0 0,fun s' Q=>Su (lo:=none) (hi:=some (.int .i64 ((0:Nat):Int))) CM rfl rfl Q, .inl ⟨rfl,rfl⟩,fun x hx=>hx.elim⟩
 ·have e:=h.val
  have hc:(capU*((b+m.length*1)*1024+1)+m.length)%capU=m.length:=MS hz
  have hok:BM (capU*((b+m.length*1)*1024+1)+m.length) 1=true:=Kv hz (by decide)
  generalize capU*((b+m.length*1)*1024+1)+m.length=C at *
  obtain⟨o',e1,e2,e3,e4,e5⟩:=Bs.sub' (b:=b) (o:=0) (c:=C) (i:=0) (j:=kk) (l:=m) (Nat.zero_le _) hk (by omega) hok (fun i u hu=>(h.own i u hu).at')
  rw[List.drop_zero]at e1 e2 e4 e5
  refine⟨_,fun s' Q=> ?_, .inr ⟨b,o',C-0,e1,e2,e3,e4⟩,fun x hx=> ?_⟩
  ·rw[e]
   exact UK (l:=0) (h:=kk) (lo:=none) (hi:=some (.int .i64 (kk:Nat))) CM rfl rfl (Nat.zero_le _) (by omega) hok Q
  ·rw[e1]at hx
   have h1:b+o'≤x:=hx.1
   have h2:x<b+o'+(m.take kk).length:=hx.2
   rw[List.length_take]at h2
   refine⟨h0,by omega, ?_⟩
   rcases e5 with e5|e5
   ·omega
   ·rw[List.length_take]at e5
    omega
section
variable {n D M j kk:Nat}{s:St}{k:DkS}{col:Nat→Nat}{tm:T Value}{td:List Item}{Q:Value×FrameMode→St→Prop}
end
theorem VT:slN envS 49=some 1:=by kernel_rfl
def KsF (v:Value):Nat→Prop:=match v with
 | .slice (some a) n _=>In a.block a.off n
 |_=>fun _=>False
def KsR (s:St)(v:Value)(ks:List Int):Prop:=(v= .slice none 0 0∧ks=[])∨ ∃b o c,v= .slice (some ⟨b,o,none⟩) ks.length c∧A7 s b o (ks.map (Value.int .i64))
theorem KsR.ext {F G:Nat→Prop}{s s':St}{v:Value}{ks:List Int}(h:KsR s v ks)(e:Ext F G s s')(hG: ∀x,KsF v x→ ¬G x):KsR s' v ks:=by
 rcases h with h|⟨b,o,c,rfl,h⟩
 ·exact .inl h
 ·exact .inr ⟨b,o,c,rfl,h.ext e fun i hi=>hG _ (show In b o ks.length _ from⟨by omega,by rw[List.length_map]at hi;omega⟩)⟩
theorem KsR.ext0 {F:Nat→Prop}{s s':St}{v:Value}{ks:List Int}(h:KsR s v ks)(e:Ext F Non s s'):KsR s' v ks:=h.ext e fun _ _=>id
theorem KsR.same {s s':St}{v:Value}{ks:List Int}(h:KsR s v ks)(hm:s'.mem=s.mem)(hn:s'.next=s.next):KsR s' v ks:=by
 rcases h with h|⟨b,o,c,rfl,h⟩
 ·exact .inl h
 ·exact .inr ⟨b,o,c,rfl,fun i u e=>(h i u e).same hm hn⟩
theorem KsR.len {s s':St}{v:Value}{ks:List Int}{Q:Value→St→Prop}(h:KsR s v ks):W (A6 envS .len [49] [v]) s' Q=Q (.int .i64 (ks.length:Nat)) s':=by
 rcases h with⟨rfl,rfl⟩|⟨b,o,c,rfl,h⟩
 ·exact B8 (n:=0) VT Q
 ·exact B8 VT Q
theorem KsR.at {s:St}{v:Value}{ks:List Int}{i:Nat}(h:KsR s v ks)(hi:i<ks.length): ∃b o c,v= .slice (some ⟨b,o,none⟩) ks.length c∧Own s b (o+i*1) (.int .i64 ks[i]):=by
 rcases h with⟨rfl,rfl⟩|⟨b,o,c,rfl,h⟩
 ·cases hi
 ·exact⟨b,o,c,rfl,by rw[Nat.mul_one];exact h i _ (by simp[hi])⟩
def Sg (ks:List Int)(i L:Nat):Nat:=if h:i<ks.length then(ks[i]%((L+1:Nat):Int)).toNat else 0
def CrF (ks:List Int)(fs fs':List FileS)(i:Nat):Prop:=fs'.length=fs.length∧ ∀t (h:t<fs.length) (h':t<fs'.length),(t<i→ ∃v b,fs'[t]=fs[t].kept v b (fs[t].sb++fs[t].lb.take (Sg ks t fs[t].lb.length)))∧(i≤t→fs'[t]=fs[t])
theorem CrF.succ {ks:List Int}{fs fs':List FileS}{i b:Nat}{v:Value}(h:CrF ks fs fs' i)(hi:i<fs.length)(hi':i<fs'.length):CrF ks fs (fs'.set i (fs'[i].kept v b (fs'[i].sb++fs'[i].lb.take (Sg ks i fs'[i].lb.length)))) (i+1):=by
 have ei:=(h.2 i hi hi').2 (Nat.le_refl _)
 refine⟨by rw[List.length_set];exact h.1,fun t h1 h2=>⟨fun q=> ?_,fun q=> ?_⟩⟩
 ·rw[List.length_set]at h2
  by_cases c:t=i
  ·subst c
   exact⟨v,b,by rw[List.getElem_set_self,ei]⟩
  ·rw[List.getElem_set_ne (by omega)]
   exact(h.2 t h1 h2).1 (by omega)
 ·rw[List.length_set]at h2
  rw[List.getElem_set_ne (by omega)]
  exact(h.2 t h1 h2).2 (by omega)
theorem CrF.zero (ks:List Int)(fs:List FileS):CrF ks fs fs 0:=⟨rfl,fun _ _ _=>⟨fun h=>absurd h (Nat.not_lt_zero _),fun _=>rfl⟩⟩
section
variable {D M:Nat}{k:DkS}{ks:List Int}{kv v:Value}{bN:Nat}{col0:Nat→Nat}{s0:St}
end
section
variable {D M n:Nat}{k:DkS}{ks:List Int}{kv:Value}{col:Nat→Nat}{s:St}{a:ByteArray}{Q:Value→St→Prop}
end
structure Held (s:St)(col:Nat→Nat)(v:Value)(l:List Nat):Prop where
 bs:Bs s v l
 lt: ∀x,BsF v x→x<s.next
 co: ∀x,BsF v x→1000≤col x
theorem Held.gw {s s1:St}{col:Nat→Nat}{v:Value}{l:List Nat}(h:Held s col v l)(x:Ext Any (fun x=>col x<1000) s s1):Held s1 col v l:=
 ⟨h.bs.ext x fun y hy g=>by have:=h.co y hy;omega,fun y hy=>Nat.lt_of_lt_of_le (h.lt y hy) x.nxt,h.co⟩
theorem Held.ext0 {s s1:St}{col:Nat→Nat}{v:Value}{l:List Nat}(h:Held s col v l)(x:Ext Any Non s s1):Held s1 col v l:=
 ⟨h.bs.ext0 x,fun y hy=>Nat.lt_of_lt_of_le (h.lt y hy) x.nxt,h.co⟩
theorem Held.after {s s1:St}{col col':Nat→Nat}{v:Value}{l:List Nat}{D M:Nat}{k:DkS}(h:Held s col v l)(x:After s s1 col col' D M k):Held s1 col' v l:=
 ⟨h.bs.ext x.ext fun y hy g=>by have:=h.co y hy;omega,fun y hy=>Nat.lt_of_lt_of_le (h.lt y hy) x.ext.nxt,fun y hy=>by rw[x.agree y (h.lt y hy)];exact h.co y hy⟩
theorem Held.col {s:St}{col col':Nat→Nat}{v:Value}{l:List Nat}(h:Held s col v l)(e: ∀x,x<s.next→col' x=col x):Held s col' v l:=⟨h.bs,h.lt,fun y hy=>by rw[e y (h.lt y hy)];exact h.co y hy⟩
theorem Held.same {s s1:St}{col:Nat→Nat}{v:Value}{l:List Nat}(h:Held s col v l)(hm:s1.mem=s.mem)(hn:s1.next=s.next):Held s1 col v l:=⟨h.bs.same hm hn,fun y hy=>by rw[hn];exact h.lt y hy,h.co⟩
section
variable {n D M mx:Nat}{s:St}{room st le:Int}{fu:Bool}{f g:FileS}{col:Nat→Nat}{bv:Value}{l:List Nat}{Q:Value→St→Prop}
end
noncomputable def shiftC (col:Nat→Nat):Nat→Nat:=fun x=>if col x<2 then col x else if col x<5 then 999 else if col x<1000 then col x-3 else col x
theorem Xs {col:Nat→Nat}{x:Nat}(h:1000≤col x):shiftC col x=col x:=by
 unfold shiftC
 rw[if_neg (by omega),if_neg (by omega),if_neg (by omega)]
theorem Nr {col:Nat→Nat}{x c:Nat}(h:col x=c)(hc:c<2):shiftC col x=c:=by
 unfold shiftC
 rw[if_pos (by omega),h]
theorem Li {col:Nat→Nat}{x c:Nat}(h:col x=c+3)(h1:2≤c)(h2:c<990):shiftC col x=c:=by
 unfold shiftC
 rw[if_neg (by omega),if_neg (by omega),if_pos (by omega),h]
 omega
theorem KA_: ∀{es:List MapEntry} {lo lo' n:Nat},Bx es lo n=true→lo'≤lo→Bx es lo' n=true
 |[],_,_,_,_,_=>rfl
 |x::es,lo,lo',n,h,hl=>by
  unfold Bx at h ⊢
  rw[Bool.and_eq_true,Bool.and_eq_true]at h ⊢
  refine⟨⟨?_,h.1.2⟩,h.2⟩
  have:lo≤x.born:=Nat.le_of_ble_eq_true h.1.1
  exact Nat.ble_eq_true_of_le (by omega)
theorem FileI.recol {s:St}{col col':Nat→Nat}{c c':Nat}{f:FileS}(h:FileI s col c f)(e0: ∀x,col x=c→col' x=c')(e1: ∀x,col x=c+1→col' x=c'+1)(e2: ∀x,col x=c+2→col' x=c'+2):FileI s col' c' f:=
 ⟨h.o0,h.o1,fun x h1 h2=>e0 x (h.k x h1 h2),h.ms,fun x hx=>e1 x (h.ks x hx),h.ml,fun x hx=>e2 x (h.kl x hx)⟩
theorem DkI.pop {s s':St}{F:Nat→Prop}{col:Nat→Nat}{D M mx:Nat}{room st le:Int}{fu ou:Bool}{f:FileS}{fs:List FileS}(h:DkI s col D M ⟨f::fs,mx,room,st,fu,le,ou⟩)(hlen:fs.length≤300)(x:Ext F (fun y=>y=M) s s')(hM:Obj s' M (.map (fs.map FileS.ent) mx)):DkI s' (shiftC col) D M ⟨fs,mx,room,st,fu,le,ou⟩:=by
 have c: ∀o,o<7→ ¬D+o=M:=fun o ho e=>by
  have h2:=h.kd (D+o) (by omega) (by omega)
  have h3:=h.km
  rw[e,h3]at h2
  omega
 refine⟨h.d0.ext x (c 0 (by decide)),h.d1.ext x (c 1 (by decide)),h.d2.ext x (c 2 (by decide)),h.d3.ext x (c 3 (by decide)),h.d4.ext x (c 4 (by decide)),h.d5.ext x (c 5 (by decide)),h.d6.ext x (c 6 (by decide)),fun y h1 h2=>Nr (h.kd y h1 h2) (by decide),hM,Nr h.km (by decide), ?_,fun i hi=> ?_⟩
 ·have hb:Bx (f.ent::fs.map FileS.ent) 0 mx=true:=h.bo
  unfold Bx at hb
  rw[Bool.and_eq_true]at hb
  exact KA_ hb.2 (Nat.zero_le _)
 ·have hi':i<fs.length:=hi
  have g:FileI s col (2+3*(i+1)) fs[i]:=h.fl (i+1) (by show i+1<fs.length+1;omega)
  have g':=g.recol (col':=shiftC col) (c':=2+3*i) (fun x hx=>Li (by omega) (by omega) (by omega)) (fun x hx=>Li (by omega) (by omega) (by omega)) fun x hx=>Li (by omega) (by omega) (by omega)
  refine g'.ext x fun y hy q=> ?_
  have h3:=Nr h.km (show 1<2 by decide)
  rw[q,h3]
  omega
theorem Ec_:SZ=[]:=by kernel_rfl
section
variable {n D M C mx:Nat}{s:St}{col:Nat→Nat}{a:ByteArray}{room st le:Int}{fu ou:Bool}{f:FileS}{fs:List FileS}{Q:Value→St→Prop}
theorem Fg_ {E:Env}{t1 t2:Nat}{m k:Value}{s:St}(Q:Value→St→Prop):W (A6 E .delete [t1,t2] [m,k]) s Q=W (kDel E t1 m k) s Q:=rfl
theorem Iu_ (hb:s.lim≤s.next)(hI:DkI s col D M ⟨f::fs,mx,room,st,fu,le,ou⟩)(hlen:fs.length≤300)(hf:BL (f::fs) a=some 0)(hC:Own s C 0 (.pointer (some ⟨D,0,none⟩)))(hC2:Own s (C+2) 0 (.string a))(hn:20≤n)
  (q: ∀s1,DkI s1 (shiftC col) D M ⟨fs,mx,room,st,fu,le,ou⟩→Ext Any (fun x=>col x<1000) s s1→s1.next=s.next→Q (.tuple #[]) s1):
  W (As envS (runF envS n) 48 [.pointer (some ⟨C,0,none⟩), .pointer (some ⟨C+2,0,none⟩)]) s Q:=by
 have hb0:(s.cxN cxN).lim≤(s.cxN cxN).next:=hb
 have hI0:DkI (s.cxN cxN) col D M ⟨f::fs,mx,room,st,fu,le,ou⟩:=hI.same rfl rfl
 have hC0:Own (s.cxN cxN) C 0 (.pointer (some ⟨D,0,none⟩)):=hC.same rfl rfl
 have hC20:Own (s.cxN cxN) (C+2) 0 (.string a):=hC2.same rfl rfl
 have hn0:(s.cxN cxN).next=s.next:=rfl
 have hcx:(s.cxN cxN).cx=cxN:=rfl
 refine LY_ fun tm t0 t1=> ?_
 refine Mr_.w rfl (by omega) ?_
 generalize hs0:s.cxN cxN=s0 at *
 simp only[Qe,t0,t1,Ba]
 refine W.dload Cy ((hC0.same (s':=dSt s0.mem s0.next) rfl rfl).at') fun rd0 hr0=> ?_
 try simp only[Ba]
 rw[W_dq fun s Q=>AN (s:=s) _ Q]
 dsimp only
 try simp only[Ba]
 rw[W_dq fun s Q=>Bz (s:=s) Et (by decide) Q]
 dsimp only
 try simp only[Ba]
 refine W.dload EK ((hI0.d1.same (s':=dSt s0.mem s0.next) rfl rfl).at') fun rd3 hr3=> ?_
 refine W.dload Dc ((hC20.same (s':=dSt s0.mem s0.next) rfl rfl).at') fun rd4 hr4=> ?_
 rw[Aa]
 refine⟨IV (by simp) (by simp), ?_⟩
 refine W.cast (Bl_ _ _ _ _ _ _ _ _ _ _) ?_
 simp only[Ad,W_oS,Aa,Ak,Aj,Ai,Fg_]
 generalize hs':(⟨(dSt s0.mem s0.next).mem,(dSt s0.mem s0.next).next,s0.lim,_,_,s0.cx⟩:St)=s1
 have m1:s1.mem=s0.mem:=by rw[←hs'];rfl
 have n1:s1.next=s0.next:=by rw[←hs'];rfl
 have x1:Ext Any Non s0 s1:=by
  rw[←hs']
  exact Ext.draw (F:=Any) (Nat.le_refl _) (fun _ _=>rfl) (by simp) fun _ _ _ _ _=>trivial
 have hI1:=hI0.same m1 n1
 refine W.delS (j:=0) (a:=a) J2 IK (H8 (f::fs)) hf hI1.om fun s2 n2 x2 o2=> ?_
 try simp only[Ad,W_oS,W_on,Aa,W_mv,Ab,AV,T.get_set,Ak,Aj,A0,AZ,Ai,Av,reduceIte,AP,AW,A2,AY,AT,AQ,AS,AX,AO,AN,Nat.reduceEqDiff,reduceCtorEq, ↓reduceIte]
 have hI2:=hI1.pop hlen x2 o2
 have y2:Ext Any (fun x=>col x<1000) s0 s2:=(x1.gw (hs0 ▸ hb0) fun _ _ h=>h.elim).on x2 (hs0 ▸ hb0) fun y _ h=>by rw[h,hI0.km];decide
 refine W.end' (rs:=[]) (vs:=[]) DB_ (.inr Ec_) (by omega) Vl LD_ (y2.cx.trans hcx) rfl ?_
 rw[←hs0]at y2
 exact q _ (hI2.same rfl rfl) y2.cx' (by show s2.next=s.next;omega)
theorem ZY (hb:s.lim≤s.next)(hI:DkI s col D M ⟨f::fs,mx,room,st,false,le,false⟩)(hlen:fs.length≤290)(hf:BL (f::fs) a=some 0)(hn:200≤n)
  (q: ∀s1 col' st',DkI s1 col' D M ⟨fs,mx,room,st',false,le,false⟩→(∀x,x<s.next→1000≤col x→col' x=col x)→Ext Any (fun x=>col x<1000) s s1→Q (.int .i64 0) s1):
  W (As envS (runF envS n) 13 [.pointer (some ⟨D,0,none⟩), .string a]) s Q:=by
 have hb0:(s.cxN cxN).lim≤(s.cxN cxN).next:=hb
 have hlen':(f::fs).length≤300:=by show fs.length+1≤300;omega
 have hI0:DkI (s.cxN cxN) (paint col s.next 1000) D M ⟨f::fs,mx,room,st,false,le,false⟩:=(hI.col fun x hx=>BJ hx).same rfl rfl
 have hag: ∀x,x<s.next→paint col s.next 1000 x=col x:=fun x hx=>BJ hx
 have hnew: ∀x,s.next≤x→paint col s.next 1000 x=1000:=fun x hx=>Dx hx
 have hDlt:D+6<s.next:=hI.d6.1
 generalize hcol1:paint col s.next 1000=col1 at *
 refine Hl_ fun tm t0 t1=> ?_
 refine Dc_.w rfl (by omega) ?_
 simp only[RD,Ad,W_oS,Aa,W_mv,Ab,T.get_set,reduceIte,Nat.reduceEqDiff, ↓reduceIte,t0]
 refine W.box fun sa na xa oa=> ?_
 have ea:(s.cxN cxN).next=s.next:=rfl
 rw[Du (show oneCell (.pointer (some ⟨D,0,none⟩))=true from rfl)]at na oa
 rw[ea]at oa na ⊢
 have na':sa.next=s.next+2:=na
 simp only[W_oS,t1]
 refine W.box fun sb nb xb ob=> ?_
 rw[Du (show oneCell (.string a)=true from rfl)]at nb ob
 rw[na']at ob nb ⊢
 have nb':sb.next=s.next+4:=nb
 try simp only[Ad,W_oS,W_on,Aa,W_mv,Ab,AV,T.get_set,Ak,Aj,A0,AZ,Ai,Av,reduceIte,AP,AW,A2,AY,AT,AQ,AS,AX,AO,AN,Nat.reduceEqDiff,reduceCtorEq, ↓reduceIte]
 have yc:=((Ext.refl (F:=Any) (G:=Non) (s.cxN cxN)).on xa hb0 fun _ _ h=>h).on xb hb0 fun _ _ h=>h
 have c0:Own sb s.next 0 (.pointer (some ⟨D,0,none⟩)):=(oa 0 _ rfl).ext0 xb
 have c2:Own sb (s.next+2) 0 (.string a):=ob 0 _ rfl
 have hIc:=hI0.ext0 yc hlen'
 refine Fy_.w IB_ (by omega) ?_
 simp only[Vs,Ad,W_oS,W_on,Aa,W_mv,Ab,T.get_set,Ak,Aj,Ai,Av,reduceIte,Nat.reduceEqDiff, ↓reduceIte]
 refine W.load1 Cy c0.at' ?_
 have yd:=yc.thenRd hb0 (s.next+0)
 try simp only[Ad,W_oS,W_on,Aa,W_mv,Ab,AV,T.get_set,Ak,Aj,A0,AZ,Ai,Av,reduceIte,AP,AW,A2,AY,AT,AQ,AS,AX,AO,AN,Nat.reduceEqDiff,reduceCtorEq, ↓reduceIte]
 refine OE (o:=false) (yd.bnd hb0) (hIc.d0.same rfl rfl) (hIc.d6.same rfl rfl) (by omega) fun s1 m1 n1 x1=> ?_
 have y1:=yd.on x1 hb0 fun _ _ h=>h
 have m1':s1.mem=sb.mem:=m1
 have n1'':s1.next=sb.next:=n1
 have n1':s1.next=s.next+4:=by omega
 have hI1:=hIc.same m1' n1''
 have d0:=c0.same m1' n1''
 have d2:=c2.same m1' n1''
 try simp only[reduceIte,reduceCtorEq, ↓reduceIte]
 refine Mo_.w YA (by omega) ?_
 simp only[Wj,Ad,W_oS,Aa,W_mv,Ab,T.get_set,reduceIte, ↓reduceIte,Cd,decide_true,Bool.not_true]
 refine W.cond (v:=false) DW_ DQ_ (by simp[T.get_set]) (by omega) (fun h=>by cases h) fun _=> ?_
 refine Zu.w BB_ (by omega) ?_
 simp only[To,T.get_set,Nat.reduceEqDiff,reduceIte,Ba]
 refine W.dload Cy ((d0.same (s':=dSt s1.mem s1.next) rfl rfl).at') fun rd0 hr0=> ?_
 try simp only[Ba]
 rw[W_dq fun s Q=>AN (s:=s) _ Q]
 dsimp only
 try simp only[Ba]
 rw[W_dq fun s Q=>Bz (s:=s) Et (by decide) Q]
 dsimp only
 try simp only[Ba]
 refine W.dload EK ((hI1.d1.same (s':=dSt s1.mem s1.next) rfl rfl).at') fun rd3 hr3=> ?_
 refine W.dload Dc ((d2.same (s':=dSt s1.mem s1.next) rfl rfl).at') fun rd4 hr4=> ?_
 try simp only[Ba]
 refine W.dop (Oc (s:=oSt s1.mem s1.next) (fs:=f::fs) (mx:=mx) (hI1.om.same rfl rfl) ⟨Any,Ext.rdN (F:=Any) (G:=Non) _ M fun _=>trivial,fun rd5 hr5=> ?_⟩)
 show W _ (dSt s1.mem s1.next) _
 rw[Aa]
 refine⟨IV (by simp) (by simp;rfl), ?_⟩
 refine W.cast (Ht_ _ _ _ _ _ _ _ _ _ _ _) ?_
 have hv:BG (f::fs) a= .pointer (some ⟨f.blk,0,none⟩):=by
  unfold BG
  rw[hf]
  rfl
 rw[hv]
 simp only[Ad,W_oS,Aa,AV,Fp JX]
 generalize hs':(⟨(dSt s1.mem s1.next).mem,(dSt s1.mem s1.next).next,s1.lim,_,_,s1.cx⟩:St)=s3
 have m3:s3.mem=s1.mem:=by rw[←hs'];rfl
 have n3:s3.next=s1.next:=by rw[←hs'];rfl
 have x3:Ext Any Non s1 s3:=by
  rw[←hs']
  exact Ext.draw (F:=Any) (Nat.le_refl _) (fun _ _=>rfl) (by simp) fun _ _ _ _ _=>trivial
 have y3:=y1.on x3 hb0 fun _ _ h=>h
 have hI3:=hI1.same m3 n3
 have e0:=d0.same m3 n3
 have e2:=d2.same m3 n3
 refine W.cond (v:=false) Fd_ YU (by simp[T.get_set]) (by omega) (fun h=>by cases h) fun _=> ?_
 refine Bg_.w EJ_ (by omega) ?_
 simp only[Tc,Ad,W_oS,W_on,Aa,W_mv,Ab,T.get_set,Ak,Aj,Ai,Av,reduceIte,Nat.reduceEqDiff, ↓reduceIte]
 refine W.load1 Cy e0.at' ?_
 have y8:=y3.thenRd hb0 (s.next+0)
 have hI8:DkI (s3.rdN (s.next+0)) col1 D M ⟨f::fs,mx,room,st,false,le,false⟩:=hI3.same rfl rfl
 have u0:Own (s3.rdN (s.next+0)) s.next 0 (.pointer (some ⟨D,0,none⟩)):=e0.same rfl rfl
 have u2:Own (s3.rdN (s.next+0)) (s.next+2) 0 (.string a):=e2.same rfl rfl
 have n8:(s3.rdN (s.next+0)).next=s.next+4:=n3.trans n1'
 generalize s3.rdN (s.next+0)=s8 at *
 try simp only[Ad,W_oS,W_on,Aa,W_mv,Ab,AV,T.get_set,Ak,Aj,A0,AZ,Ai,Av,reduceIte,AP,AW,A2,AY,AT,AQ,AS,AX,AO,AN,Nat.reduceEqDiff,reduceCtorEq, ↓reduceIte]
 have hD0:=hI8.kd
 refine TR (f2:=48) (y8.bnd hb0) hI8.d3 hI8.d4 hI8.d5 hI8.d6 (by omega) (fun hf s9 n9 x9 o9=>by cases hf.1) fun _ n9 s9 hn9 hcx9 hnx9 x9 o93 o95=> ?_
 have hd:Ext Any (fun y=>y=D+3∨y=D+5) s8 (s9.cxN s8.cx):=x9
 have hI9':=hI8.own (st:=wrap64 (st+1)) (fu:=false) (le:=le) (ou:=false) hd (fun y _ h=>by omega) (o93.same rfl rfl) (hI8.d4.ext hd fun h=>by omega) (o95.same rfl rfl) (hI8.d6.ext hd fun h=>by omega)
 have hI9:=hI9'.same (s':=s9) rfl rfl
 have v0:=(u0.ext hd fun h=>by omega).same (s':=s9) rfl rfl
 have v2:=(u2.ext hd fun h=>by omega).same (s':=s9) rfl rfl
 have y9:Ext Any (fun x=>col1 x<1000) (s.cxN cxN) (s9.cxN s8.cx):=(y8.gw hb0 fun _ _ h=>h.elim).on hd hb0 fun y _ h=>by rw[hD0 y (by omega) (by omega)];decide
 have y9':Ext Any (fun x=>col1 x<1000) (s.cxN cxN) s9:=⟨y9.nxt,y9.lim,hcx9,y9.mem,y9.rd,y9.wr⟩
 show W (As envS (runF envS n9) 48 [.pointer (some ⟨s.next,0,none⟩), .pointer (some ⟨s.next+2,0,none⟩)]) s9 _
 refine Iu_ (C:=s.next) (y9'.bnd hb0) hI9 (by omega) hf v0 v2 (by omega) fun s10 hI10 x10 n10=> ?_
 refine⟨x10.cx.trans hcx9, ?_⟩
 have y10:=y9'.on x10 hb0 fun y hy h=>h
 have e8:s8.cx=cxN:=y8.cx
 rw[e8]
 try simp only[Ad,W_oS,W_on,Aa,W_mv,Ab,AV,T.get_set,Ak,Aj,A0,AZ,Ai,Av,reduceIte,AP,AW,A2,AY,AT,AQ,AS,AX,AO,AN,Nat.reduceEqDiff,reduceCtorEq, ↓reduceIte]
 refine W.end' (rs:=[4]) (vs:=[.int .i64 0]) EP_ (.inl BG_) (by omega) Uu Jq_ rfl (by simp[T.get_set]) ?_
 exact q _ (shiftC col1) _ (hI10.same rfl rfl) (fun x hx hc=>by rw[Xs (by rw[hag x hx];exact hc),hag x hx]) (y10.gw hb0 fun y hy h=>by rw[←hag y hy];exact h).cx'
end
theorem QH (a b:ByteArray):(a==b)=(a.data==b.data):=by
 cases a;cases b;rfl
theorem HT_ {a b:ByteArray}(h:(a==b)=true):a=b:=by
 rw[QH]at h
 have:a.data=b.data:=by simpa using h
 cases a;cases b;simp_all
theorem Jf_ (a:ByteArray):(a==a)=true:=by
 rw[QH];simp
def letN (i:Nat):ByteArray:=⟨#[UInt8.ofNat (97+i)]⟩
theorem AT_: ∀(i:Nat),i<20→NmOk (letN i)
 |0,_=>⟨rfl,rfl,97,by kernel_rfl,fun _ _ _ _ _ _ _=>by kernel_rfl⟩
 |1,_=>⟨rfl,rfl,98,by kernel_rfl,fun _ _ _ _ _ _ _=>by kernel_rfl⟩
 |2,_=>⟨rfl,rfl,99,by kernel_rfl,fun _ _ _ _ _ _ _=>by kernel_rfl⟩
 |3,_=>⟨rfl,rfl,100,by kernel_rfl,fun _ _ _ _ _ _ _=>by kernel_rfl⟩
 |4,_=>⟨rfl,rfl,101,by kernel_rfl,fun _ _ _ _ _ _ _=>by kernel_rfl⟩
 |5,_=>⟨rfl,rfl,102,by kernel_rfl,fun _ _ _ _ _ _ _=>by kernel_rfl⟩
 |6,_=>⟨rfl,rfl,103,by kernel_rfl,fun _ _ _ _ _ _ _=>by kernel_rfl⟩
 |7,_=>⟨rfl,rfl,104,by kernel_rfl,fun _ _ _ _ _ _ _=>by kernel_rfl⟩
 |8,_=>⟨rfl,rfl,105,by kernel_rfl,fun _ _ _ _ _ _ _=>by kernel_rfl⟩
 |9,_=>⟨rfl,rfl,106,by kernel_rfl,fun _ _ _ _ _ _ _=>by kernel_rfl⟩
 |10,_=>⟨rfl,rfl,107,by kernel_rfl,fun _ _ _ _ _ _ _=>by kernel_rfl⟩
 |11,_=>⟨rfl,rfl,108,by kernel_rfl,fun _ _ _ _ _ _ _=>by kernel_rfl⟩
 |12,_=>⟨rfl,rfl,109,by kernel_rfl,fun _ _ _ _ _ _ _=>by kernel_rfl⟩
 |13,_=>⟨rfl,rfl,110,by kernel_rfl,fun _ _ _ _ _ _ _=>by kernel_rfl⟩
 |14,_=>⟨rfl,rfl,111,by kernel_rfl,fun _ _ _ _ _ _ _=>by kernel_rfl⟩
 |15,_=>⟨rfl,rfl,112,by kernel_rfl,fun _ _ _ _ _ _ _=>by kernel_rfl⟩
 |16,_=>⟨rfl,rfl,113,by kernel_rfl,fun _ _ _ _ _ _ _=>by kernel_rfl⟩
 |17,_=>⟨rfl,rfl,114,by kernel_rfl,fun _ _ _ _ _ _ _=>by kernel_rfl⟩
 |18,_=>⟨rfl,rfl,115,by kernel_rfl,fun _ _ _ _ _ _ _=>by kernel_rfl⟩
 |19,_=>⟨rfl,rfl,116,by kernel_rfl,fun _ _ _ _ _ _ _=>by kernel_rfl⟩
 |i+20,h=>absurd h (by omega)
abbrev Jl:ByteArray:=⟨#[97,98,99,100,101,102,103,104,105,106,107,108,109,110,111,112,113,114,115,116]⟩
theorem nm_z:NmOk ⟨#[122]⟩:=⟨rfl,rfl,122,by kernel_rfl,fun _ _ _ _ _ _ _=>by kernel_rfl⟩
theorem Ug {i:Nat}(h:i<20):(UInt8.ofNat (97+i)).toNat=97+i:=by
 rw[UInt8.toNat_ofNat']
 omega
theorem EU {i j:Nat}(hi:i<20)(hj:j<20):Cp (letN i).data.toList (letN j).data.toList=decide (i≤j):=by
 show(Nat.blt (UInt8.ofNat (97+i)).toNat (UInt8.ofNat (97+j)).toNat||(Nat.beq (UInt8.ofNat (97+i)).toNat (UInt8.ofNat (97+j)).toNat&&Cp [] []))=_
 rw[Ug hi,Ug hj]
 rcases Nat.lt_trichotomy i j with h|h|h
 ·rw[BI (by omega),decide_eq_true (by omega)]
  rfl
 ·subst h
  rw[Nat.beq_refl,decide_eq_true (Nat.le_refl _)]
  show(_||(true&&true))=true
  simp
 ·rw[Gc (by omega),decide_eq_false (by omega)]
  have:Nat.beq (97+i) (97+j)=false:=by
   cases hb:Nat.beq (97+i) (97+j)with
   |false=>rfl
   |true=>have:=Nat.eq_of_beq_eq_true hb;omega
  rw[this]
  rfl
theorem BS_ {i j:Nat}(hi:i<20)(hj:j<20)(h:(letN i==letN j)=true):i=j:=by
 have h1:letN i=letN j:=HT_ h
 have h2:(letN i).data.toList=(letN j).data.toList:=by rw[h1]
 have e1:=EU hi hj
 have e2:=EU hj hi
 have e3:=EU hi hi
 rw[h2]at e1 e3
 rw[h2]at e2
 have e4:=EU hj hj
 rw[e4]at e1 e2
 have g1:=of_decide_eq_true (e1.symm.trans (decide_eq_true (Nat.le_refl j)))
 have g2:=of_decide_eq_true (e2.symm.trans (decide_eq_true (Nat.le_refl j)))
 omega
theorem Fq_ {is:List Nat}(hp:is.Pairwise (· < ·))(hb: ∀i∈is,i<20)(hl:is.length≤300):NmsOk (is.map letN):=by
 have e:(is.map letN).map (·.data.toList)=is.map fun i=>(letN i).data.toList:=by rw[List.map_map];rfl
 refine⟨?_, ?_, ?_,by rw[List.length_map];exact hl⟩
 ·rw[e]
  clear hl e
  induction is with
  |nil=>rfl
  |cons i is ih=>
   rw[List.pairwise_cons]at hp
   show(!memB _ (is.map _)&&El (is.map _))=true
   rw[ih hp.2 fun j hj=>hb j (by simp[hj]),Bool.and_true,Bool.not_eq_true']
   have hm: ∀l:List Nat,(∀j∈l,i<j∧j<20)→memB (letN i).data.toList (l.map fun i=>(letN i).data.toList)=false:=by
    intro l
    induction l with
    |nil=>intro _;rfl
    |cons j l ih2=>
     intro h
     have hj:=h j (by simp)
     show((Cp (letN j).data.toList (letN i).data.toList&&_)||memB _ (l.map _))=false
     rw[EU hj.2 (hb i (by simp)),decide_eq_false (by omega),ih2 fun x hx=>h x (by simp[hx])]
     rfl
   exact hm is fun j hj=>⟨hp.1 j hj,hb j (by simp[hj])⟩
 ·rw[e]
  clear hp hl e
  induction is with
  |nil=>rfl
  |cons i is ih=>
   show(Nat.ble 1 1000000&&En (is.map _) 1000000)=true
   rw[ih fun j hj=>hb j (by simp[hj])]
   rfl
 ·rw[e]
  clear hl e
  induction is with
  |nil=>rfl
  |cons i is ih=>
   rw[List.pairwise_cons]at hp
   show insB _ (EA (is.map _))=_
   rw[ih hp.2 fun j hj=>hb j (by simp[hj])]
   cases is with
   |nil=>rfl
   |cons j is=>
    have hij:=hp.1 j (by simp)
    show(if Cp (letN i).data.toList (letN j).data.toList then _ else _)=_
    rw[EU (hb i (by simp)) (hb j (by simp)),decide_eq_true (by omega),if_pos rfl]
    rfl
theorem WE {fs:List FileS}{is:List Nat}{i:Nat}(hn:fs.map FileS.name=is.map letN)(hi:i<20)(hb: ∀j∈is,j<i):BL fs (letN i)=none:=by
 unfold BL
 rw[hn,List.findIdx?_eq_none_iff]
 intro x hx
 obtain⟨j,hj,rfl⟩:=List.mem_map.1 hx
 have hji:=hb j hj
 cases h:(letN i==letN j)with
 |false=>rfl
 |true=>have:=BS_ hi (by omega) h;omega
theorem Ob (f:FileS)(fs:List FileS):BL (f::fs) f.name=some 0:=by
 unfold BL
 show((f.name::fs.map FileS.name).findIdx? fun b=>f.name==b)=some 0
 rw[List.findIdx?_cons,Jf_]
 rfl
theorem JV_: ∀(i:Nat),i<20→ ∀s:St,BK envS 9 (.string Jl) (some (.int .i64 (i:Nat))) (some (.int .i64 ((i+1:Nat):Int))) s= .some (.string (letN i)) s
 |0,_=>fun s=>by kernel_rfl
 |1,_=>fun s=>by kernel_rfl
 |2,_=>fun s=>by kernel_rfl
 |3,_=>fun s=>by kernel_rfl
 |4,_=>fun s=>by kernel_rfl
 |5,_=>fun s=>by kernel_rfl
 |6,_=>fun s=>by kernel_rfl
 |7,_=>fun s=>by kernel_rfl
 |8,_=>fun s=>by kernel_rfl
 |9,_=>fun s=>by kernel_rfl
 |10,_=>fun s=>by kernel_rfl
 |11,_=>fun s=>by kernel_rfl
 |12,_=>fun s=>by kernel_rfl
 |13,_=>fun s=>by kernel_rfl
 |14,_=>fun s=>by kernel_rfl
 |15,_=>fun s=>by kernel_rfl
 |16,_=>fun s=>by kernel_rfl
 |17,_=>fun s=>by kernel_rfl
 |18,_=>fun s=>by kernel_rfl
 |19,_=>fun s=>by kernel_rfl
 |i+20,h=>absurd h (by omega)
theorem AQ_ {i:Nat}(h:i<20){s:St}(Q:Value→St→Prop):W (BK envS 9 (.string Jl) (some (.int .i64 (i:Nat))) (some (.int .i64 ((i+1:Nat):Int)))) s Q=Q (.string (letN i)) s:=Bp (JV_ i h s)
def Bc (fs:List FileS):Nat:=(fs.map fun f=>f.sb.length+f.lb.length).sum
theorem CA_ (fs:List FileS)(f:FileS):Bc (fs++[f])=Bc fs+(f.sb.length+f.lb.length):=by
 unfold Bc
 rw[List.map_append,List.sum_append]
 simp
structure PaS (s:St)(col:Nat→Nat)(v:Value)(ps:List (Value×List Nat)):Prop where
 rows:(v= .slice none 0 0∧ps=[])∨ ∃b o c,v= .slice (some ⟨b,o,none⟩) ps.length c∧Row s b o (ps.map (·.1))∧ ∀x,In b o ps.length x→x<s.next∧1000≤col x
 bs: ∀p∈ps,Held s col p.1 p.2
theorem PaS.mv {s s1:St}{col col':Nat→Nat}{v:Value}{ps:List (Value×List Nat)}(h:PaS s col v ps)(x:Ext Any (fun x=>col x<1000) s s1)(e: ∀x,x<s.next→col' x=col x):PaS s1 col' v ps:=by
 refine⟨?_,fun p hp=>⟨(h.bs p hp).bs.ext x fun y hy g=>by have:=(h.bs p hp).co y hy;omega,fun y hy=>Nat.lt_of_lt_of_le ((h.bs p hp).lt y hy) x.nxt,fun y hy=>by rw[e y ((h.bs p hp).lt y hy)];exact(h.bs p hp).co y hy⟩⟩
 rcases h.rows with h|⟨b,o,c,rfl,h1,h2⟩
 ·exact .inl h
 ·refine .inr ⟨b,o,c,rfl,h1.ext x fun t ht g=> ?_,fun y hy=>⟨Nat.lt_of_lt_of_le (h2 y hy).1 x.nxt,by rw[e y (h2 y hy).1];exact(h2 y hy).2⟩⟩
  rw[List.length_map]at ht
  have:=(h2 (b+(o+t)) ⟨by omega,by omega⟩).2
  omega
theorem PaS.ext0 {s s1:St}{col:Nat→Nat}{v:Value}{ps:List (Value×List Nat)}(h:PaS s col v ps)(x:Ext Any Non s s1)(hb:s.lim≤s.next):PaS s1 col v ps:=h.mv (x.gw hb fun _ _ g=>g.elim) fun _ _=>rfl
theorem PaS.same {s s1:St}{col:Nat→Nat}{v:Value}{ps:List (Value×List Nat)}(h:PaS s col v ps)(hm:s1.mem=s.mem)(hn:s1.next=s.next):PaS s1 col v ps:=by
 refine⟨?_,fun p hp=>(h.bs p hp).same hm hn⟩
 rcases h.rows with h|⟨b,o,c,rfl,h1,h2⟩
 ·exact .inl h
 ·exact .inr ⟨b,o,c,rfl,fun t u e=>(h1 t u e).same hm hn,fun y hy=>⟨by rw[hn];exact(h2 y hy).1,(h2 y hy).2⟩⟩
theorem PaS.len {s s':St}{col:Nat→Nat}{v:Value}{ps:List (Value×List Nat)}{Q:Value→St→Prop}(h:PaS s col v ps):W (A6 envS .len [22] [v]) s' Q=Q (.int .i64 (ps.length:Nat)) s':=by
 rcases h.rows with⟨rfl,rfl⟩|⟨b,o,c,rfl,_⟩
 ·exact B8 (n:=0) B7 Q
 ·exact B8 B7 Q
theorem PaS.at {s:St}{col:Nat→Nat}{v:Value}{ps:List (Value×List Nat)}{i:Nat}(h:PaS s col v ps)(hi:i<ps.length): ∃b o c,v= .slice (some ⟨b,o,none⟩) ps.length c∧At s b (o+i*1) ps[i].1:=by
 rcases h.rows with⟨rfl,rfl⟩|⟨b,o,c,rfl,h1,_⟩
 ·cases hi
 ·exact⟨b,o,c,rfl,by rw[Nat.mul_one];exact h1 i _ (by simp[hi])⟩
theorem P7 {D M n:Nat}{k:DkS}{col:Nat→Nat}{s:St}{Q:Value→St→Prop}(hb:s.lim≤s.next)(hI:DkI s col D M k)(hz:k.used≤5000000)(q: ∀s1,s1.mem=s.mem→s1.next=s.next→Ext Any Non s s1→Q (.int .i64 (k.used:Nat)) s1):W (As envS (runF envS n) 10 [.pointer (some ⟨D,0,none⟩)]) s Q:=by
 refine W.orc SN (W.used hb hI.d0.at' hI.d1.at' hI.om hI.bo (ns:=k.fs.map fun f=>f.sb.length+f.lb.length) (by simp) (fun i e n h1 h2=>hI.lens i e n h1 h2) fun s1 m1 n1 x1=> ?_)
 have e:wrap64 (((k.fs.map fun f=>f.sb.length+f.lb.length).sum:Nat):Int)=((k.used:Nat):Int):=by
  show wrap64 ((k.used:Nat):Int)=_
  exact Cb (by omega) (by omega)
 rw[e]
 exact q s1 m1 n1 x1
theorem UG: ∀(is:List Nat) (lo i:Nat),is.Pairwise (· < ·)→(∀j∈is,lo≤j∧j<i)→is.length≤i-lo
 |[],_,_,_,_=>Nat.zero_le _
 |a::l,lo,i,hp,hb=>by
  rw[List.pairwise_cons]at hp
  have h0:=hb a (by simp)
  have h1:=UG l (a+1) i hp.2 fun j hj=>⟨hp.1 j hj,(hb j (by simp[hj])).2⟩
  show l.length+1≤i-lo
  omega
theorem Ij {is:List Nat}{i:Nat}(hp:is.Pairwise (· < ·))(hb: ∀j∈is,j<i):is.length≤i:=by
 have:=UG is 0 i hp fun j hj=>⟨Nat.zero_le _,hb j hj⟩
 omega
structure RmS (D M room:Nat)(v:Value)(ps:List (Value×List Nat))(i:Nat)(s:St)(tm:T Value)(col:Nat→Nat)(fs:List FileS)(mx:Nat)(st le:Int)(is:List Nat):Prop where
 cx:s.cx=cxN
 bd:s.lim≤s.next
 inv:DkI s col D M ⟨fs,mx,room,st,false,le,false⟩
 nm:fs.map FileS.name=is.map letN
 inc:is.Pairwise (· < ·)
 lt: ∀j∈is,j<i
 us:Bc fs≤room
 pa:PaS s col v ps
 t0:T.get tm 0=some (.int .i64 (room:Nat))
 t1:T.get tm 1=some v
 t5:T.get tm 5=some (.bool true)
 t6:T.get tm 6=some (.pointer (some ⟨D,0,none⟩))
 t7:T.get tm 7=some (.int .i64 (Bc fs:Nat))
 t8:T.get tm 8=some (.string Jl)
 t9:T.get tm 9=some (.int .i64 (i:Nat))
section
variable {D M room:Nat}{v:Value}{ps:List (Value×List Nat)}
theorem Ag_ (hroom:room≤3000)(hps:ps.length≤20)
  (q: ∀n' tm' s1 td' col fs mx st le is,5000≤n'→skim 64 td'=Gn→RmS D M room v ps ps.length s1 tm' col fs mx st le is→W (runF envS n' ⟨3,GB,Bk,tm',td', .run, .normal,none⟩) s1 fun p _=>p.1= .bool true):
  ∀(m i n:Nat) (tm:T Value) (s:St) (td:List Item) (col:Nat→Nat) (fs:List FileS) (mx:Nat) (st le:Int) (is:List Nat),i+m=ps.length→40*m+5100≤n→skim 64 td=FN→RmS D M room v ps i s tm col fs mx st le is→
  W (runF envS n ⟨3,GB,Bk,tm,td, .run, .normal,none⟩) s fun p _=>p.1= .bool true:=by
 intro m
 induction m with
 |zero=>
  intro i n tm s td col fs mx st le is hi hn hT hK
  refine Qd.w hT (by omega) ?_
  have e1:decide (((i:Nat):Int)<((ps.length:Nat):Int))=false:=decide_eq_false (by omega)
  simp only[Ox,Ad,W_oS,Aa,W_mv,Ab,Ak,Aj,Ai,BN,hK.t1,hK.t9,PaS.len hK.pa,e1]
  refine W.cond (v:=false) Rf SP (by simp[T.get_set]) (by omega) (fun h=>by cases h) fun _=> ?_
  have e:i=ps.length:=by omega
  subst e
  exact q _ _ _ _ _ _ _ _ _ _ (by omega) JT_ ⟨hK.cx,hK.bd,hK.inv,hK.nm,hK.inc,hK.lt,hK.us,hK.pa,by simp[T.get_set,hK.t0],by simp[T.get_set,hK.t1],by simp[T.get_set,hK.t5],by simp[T.get_set,hK.t6],by simp[T.get_set,hK.t7],by simp[T.get_set,hK.t8],by simp[T.get_set,hK.t9]⟩
 |succ m ih=>
  intro i n tm s td col fs mx st le is hi hn hT hK
  have hil:i<ps.length:=by omega
  obtain⟨b,o,c,ev,hpv⟩:=hK.pa.at hil
  have hH:=hK.pa.bs ps[i] (List.getElem_mem hil)
  refine Qd.w hT (by omega) ?_
  have e1:decide (((i:Nat):Int)<((ps.length:Nat):Int))=true:=decide_eq_true (by omega)
  simp only[Ox,Ad,W_oS,Aa,W_mv,Ab,Ak,Aj,Ai,BN,hK.t1,hK.t9,PaS.len hK.pa,e1]
  refine W.cond (v:=true) Rf SP (by simp[T.get_set]) (by omega) (fun _=> ?_) fun h=>by cases h
  refine Dx_.w JR_ (by omega) ?_
  simp only[VM,Ad,W_oS,Aa,W_mv,Ab,T.get_set,Ak,Aj,Ai,reduceIte,Nat.reduceEqDiff, ↓reduceIte,hK.t1,hK.t9,ev,CL B7 hil]
  refine W.load1 Cx hpv ?_
  have x1:=(Ext.refl (F:=Any) (G:=Non) s).thenRd hK.bd (b+(o+i*1))
  have hI1:DkI (s.rdN (b+(o+i*1))) col D M ⟨fs,mx,room,st,false,le,false⟩:=hK.inv.same rfl rfl
  have hP1:=hK.pa.ext0 x1 hK.bd
  have b1:=x1.bnd hK.bd
  generalize s.rdN (b+(o+i*1))=s1 at *
  by_cases hbig:300<ps[i].2.length
  ·have e2:decide ((300:Int)<((ps[i].2.length:Nat):Int))=true:=decide_eq_true (by omega)
   simp only[CU,Bs.lenq hH.bs EB,e2]
   refine W.cond (v:=true) Qw Pu (by simp[T.get_set]) (by omega) (fun _=> ?_) fun h=>by cases h
   refine Bx_.w AJ_ (by omega) ?_
   simp only[PS,Aa,W_mv,Ab,T.get_set,reduceIte,Nat.reduceEqDiff, ↓reduceIte,hK.t5]
   exact W.end' (rs:=[4]) (vs:=[.bool true]) XC (.inl Kr_) (by omega) Ih K4 (x1.cx.trans hK.cx) (by simp[T.get_set]) rfl
  have e2:decide ((300:Int)<((ps[i].2.length:Nat):Int))=false:=decide_eq_false (by omega)
  simp only[CU,Bs.lenq hH.bs EB,e2]
  refine W.cond (v:=false) Qw Pu (by simp[T.get_set]) (by omega) (fun h=>by cases h) fun _=> ?_
  refine Ho_.w It_ (by omega) ?_
  have hi20:i<20:=by omega
  have ei:wrap64 ((i:Nat)+1:Int)=((i+1:Nat):Int):=by
   rw[Cb (by omega) (by omega)];simp
  obtain⟨b2,o2,c2,ev2,hpv2⟩:=hP1.at hil
  have hH1:=hP1.bs ps[i] (List.getElem_mem hil)
  have hlen:fs.length≤300:=by
   have h1:fs.length=is.length:=by
    have:=congrArg List.length hK.nm
    simpa using this
   have h2:is.length≤i:=Ij hK.inc hK.lt
   omega
  have hno:BL fs (letN i)=none:=WE hK.nm hi20 hK.lt
  have hus:=hK.us
  simp only[Tn,T.get_set,Nat.reduceEqDiff,reduceIte,hK.t1,hK.t6,hK.t8,hK.t9,Ba,FO,Ai,Ak,Aj,KS,GT,ev2]
  rw[W_dq fun s Q=>CP (s:=s) (Q:=Q) _ _]
  dsimp only
  rw[ei]
  try simp only[Ba,FO,Ai]
  rw[W_dq fun s Q=>AQ_ hi20 (s:=s) Q]
  dsimp only
  try simp only[GT]
  rw[W_dq fun s Q=>CL (s:=s) B7 hil Q]
  dsimp only
  try simp only[Ba,FO,Ai]
  refine W.dload Cx (hpv2.same (s':=dSt s1.mem s1.next) rfl rfl) fun rd9 hr9=> ?_
  try simp only[Ba]
  have hap: ∀n',400≤n'→W (As envS (runF envS n') 9 [.pointer (some ⟨D,0,none⟩), .string (letN i),ps[i].1]) (oSt s1.mem s1.next) fun u s2=> ∃(e:Int) (col2:Nat→Nat) (fs2:List FileS) (mx2:Nat) (st2:Int) (is2:List Nat),u= .int .i64 e∧After (oSt s1.mem s1.next) s2 col col2 D M ⟨fs2,mx2,room,st2,false,le,false⟩∧fs2.map FileS.name=is2.map letN∧is2.Pairwise (· < ·)∧(∀j∈is2,j<i+1)∧Bc fs2≤room∧((e=0∧Bc fs2=Bc fs+ps[i].2.length∧Bc fs+ps[i].2.length≤room)∨(e=8∧Bc fs2=Bc fs∧room<Bc fs+ps[i].2.length)):=by
   intro n' hn'
   have hu:DkS.used ⟨fs,mx,room,st,false,le,false⟩=Bc fs:=rfl
   refine P6 (a:=letN i) (l:=ps[i].2) (Nat.le_refl _) (hI1.same rfl rfl) hlen (AT_ i hi20) (hH1.bs.same rfl rfl) (fun x hx=>⟨hH1.lt x hx,hH1.co x hx⟩) (by rw[hu];omega) hn' (fun h=>by cases h) (fun _ h s2 col2 A=> ?_) (fun _ _ h=>by cases h.1) fun _ h _ s2 col2 blk w wb A=> ?_
   ·have h':((room:Nat):Int)<((Bc fs+ps[i].2.length:Nat):Int):=h
    exact⟨8,col2,fs,mx,st,is,rfl,A,hK.nm,hK.inc,fun j hj=>Nat.lt_succ_of_lt (hK.lt j hj),hK.us, .inr ⟨rfl,rfl,by omega⟩⟩
   ·have h':((Bc fs+ps[i].2.length:Nat):Int)≤((room:Nat):Int):=h
    have e1:DG ⟨fs,mx,room,st,false,le,false⟩ (letN i) blk w wb ps[i].2=fs++[⟨letN i,mx,blk, .slice none 0 0,0,[],w,wb,ps[i].2⟩]:=by
     unfold DG
     simp only[hno]
    have e2:DR ⟨fs,mx,room,st,false,le,false⟩ (letN i)=mx+1:=by
     unfold DR
     simp only[hno]
    rw[e1,e2]at A
    have e3:Bc (fs++[⟨letN i,mx,blk, .slice none 0 0,0,[],w,wb,ps[i].2⟩])=Bc fs+ps[i].2.length:=by
     rw[CA_]
     show Bc fs+(0+ps[i].2.length)=Bc fs+ps[i].2.length
     rw[Nat.zero_add]
    refine⟨0,col2,_,_,_,is++[i],rfl,A,by rw[List.map_append,List.map_append,hK.nm];rfl, ?_,fun j hj=> ?_,by rw[e3];omega, .inl ⟨rfl,e3,by omega⟩⟩
    ·rw[List.pairwise_append]
     exact⟨hK.inc,by simp,fun x hx y hy=>by
      simp only[List.mem_cons,List.not_mem_nil,or_false]at hy
      rw[hy]
      exact hK.lt x hx⟩
    ·rcases List.mem_append.1 hj with h|h
     ·exact Nat.lt_succ_of_lt (hK.lt j h)
     ·have h':j=i:=by simpa using h
      rw[h']
      exact Nat.lt_succ_self _
  refine W.dopG (W.mono (hap _ (by omega)) fun u s2 hu2=> ?_)
  obtain⟨e,col2,fs2,mx2,st2,is2,rfl,A,nm2,inc2,lt2,us2,hcase⟩:=hu2
  refine⟨_,_,A.ext,fun rd10 wr10 hr10 hw10=> ?_⟩
  have n2:s1.next≤s2.next:=A.ext.nxt
  dsimp only
  rw[Aa]
  refine⟨HA ?_, ?_⟩
  ·simp only[List.reverse_cons,List.reverse_nil,List.nil_append,List.cons_append,allP,DA,List.take,GJ]
   have lts: ∀x,s1.next≤x→ ¬x<s1.next:=fun x h=>by omega
   simp+contextual [lts]
   repeat' first
    |exact .inl rfl
    |apply And.intro
  ·refine W.cast (Fs_ _ _ _ _ _ _ _ _ _ _ _ _ _ _ _ _) ?_
   simp only[Ad,W_oS,Aa,AV]
   generalize hs':(⟨(dSt s2.mem s2.next).mem,(dSt s2.mem s2.next).next,s1.lim,_,_,s1.cx⟩:St)=s3
   have m3:s3.mem=s2.mem:=by rw[←hs'];rfl
   have n3:s3.next=s2.next:=by rw[←hs'];rfl
   have x3:Ext Any (fun x=>col x<1000) s1 s3:=by
    rw[←hs']
    refine Ext.drawG (by show s1.next≤s2.next;omega) (fun x hx hg=>A.ext.mem x hx hg) ?_ fun _ _ _ _ _=>trivial
    simp only[List.mem_cons,List.not_mem_nil,or_false]
    rintro m (rfl|rfl|rfl|rfl|rfl|rfl|rfl|rfl|rfl|rfl|rfl) x hx hxl<;>first|(cases hx;done)|exact(hw10 x hx).2
   have hI3:DkI s3 col2 D M ⟨fs2,mx2,room,st2,false,le,false⟩:=A.inv.same m3 n3
   have hP3:PaS s3 col2 v ps:=hP1.mv x3 A.agree
   have b3:=x3.bnd b1
   have hcx3:s3.cx=cxN:=x3.cx.trans (x1.cx.trans hK.cx)
   have hus2:Bc fs2≤3000:=by omega
   have fin: ∀(n':Nat) (tm':T Value) (s':St) (td':List Item),n≤n'+25→skim 64 td'=FP→Ext Any Non s3 s'→T.get tm' 0=some (.int .i64 (room:Nat))→T.get tm' 1=some v→T.get tm' 5=some (.bool true)→T.get tm' 6=some (.pointer (some ⟨D,0,none⟩))→T.get tm' 7=some (.int .i64 (Bc fs2:Nat))→T.get tm' 8=some (.string Jl)→T.get tm' 9=some (.int .i64 (i:Nat))→W (runF envS n' ⟨3,GB,Bk,tm',td', .run, .normal,none⟩) s' fun p _=>p.1= .bool true:=by
    intro n' tm' s' td' hn' hT' x' g0 g1 g5 g6 g7 g8 g9
    refine Iy_.w hT' (by omega) ?_
    simp only[Tz,Ad,W_on,W_mv,Ak,Aj,Ai,Av,g6]
    have hu2:DkS.used ⟨fs2,mx2,room,st2,false,le,false⟩=Bc fs2:=rfl
    refine P7 (x'.bnd b3) (hI3.ext0 x' (by
     show fs2.length≤300
     have h1:fs2.length=is2.length:=by
      have:=congrArg List.length nm2
      simpa using this
     have h2:is2.length≤i+1:=Ij inc2 lt2
     omega)) (by rw[hu2];omega) fun s5 m5 n5 x5=> ?_
    rw[hu2]
    have x35:=x'.on x5 b3 fun _ _ h=>h
    simp only[Ad,W_oS,Aa,W_mv,Ab,Cd,g7,decide_true,Bool.not_true]
    refine W.cond (v:=false) Cj_ Fv_ (by simp[T.get_set]) (by omega) (fun h=>by cases h) fun _=> ?_
    refine LK_.w Di_ (by omega) ?_
    simp only[T8,Ad,W_oS,Aa,W_mv,Ab,T.get_set,reduceIte,Nat.reduceEqDiff, ↓reduceIte,CP,g9,ei]
    exact ih (i+1) _ _ _ _ col2 fs2 mx2 st2 le is2 (by omega) (by omega) Z2 ⟨x35.cx.trans hcx3,x35.bnd b3,hI3.ext0 x35 (by
     show fs2.length≤300
     have h1:fs2.length=is2.length:=by
      have:=congrArg List.length nm2
      simpa using this
     have h2:is2.length≤i+1:=Ij inc2 lt2
     omega),nm2,inc2,lt2,us2,hP3.ext0 x35 b3,by simp[T.get_set,g0],by simp[T.get_set,g1],by simp[T.get_set,g5],by simp[T.get_set,g6],by simp[T.get_set,g7],by simp[T.get_set,g8],by simp[T.get_set]⟩
   have d1:decide ((8:Int)=0)=false:=rfl
   have b1':(!(true==true))=false:=rfl
   have b2':(!(false==false))=false:=rfl
   obtain⟨b4,o4,c4,ev4,hpv4⟩:=hP3.at hil
   have hH3:=hP3.bs ps[i] (List.getElem_mem hil)
   have es:wrap64 (((Bc fs:Nat):Int)+((ps[i].2.length:Nat):Int))=((Bc fs+ps[i].2.length:Nat):Int):=by
    rw[Cb (by omega) (by omega)];omega
   refine Wq.w BX_ (by omega) ?_
   rcases hcase with⟨rfl,hu1,hu2⟩|⟨rfl,hu1,hu2⟩
   ·have e4:decide (((Bc fs+ps[i].2.length:Nat):Int)≤((room:Nat):Int))=true:=decide_eq_true (by omega)
    simp only[Lc,Ad,W_oS,W_on,Aa,W_mv,Ab,T.get_set,Ak,Aj,Ai,reduceIte,Nat.reduceEqDiff,reduceCtorEq, ↓reduceIte,DH,hK.t0,hK.t1,hK.t7,hK.t9,decide_true,ev4,CL B7 hil]
    refine W.load1 Cx hpv4 ?_
    have x4:=(Ext.refl (F:=Any) (G:=Non) s3).thenRd b3 (b4+(o4+i*1))
    simp only[W_oS,W_on,Aa,reduceIte,AP,AY,AT,AQ,AS,AX,AO,reduceCtorEq, ↓reduceIte,CP,OF,Cd,Bs.lenq hH3.bs EB,es,e4,UD MM,b1',decide_true,Bool.not_true]
    refine W.cond (v:=false) SW Rp (by simp[T.get_set]) (by omega) (fun h=>by cases h) fun _=> ?_
    refine R6.w ST (by omega) ?_
    simp only[NU,Ad,W_oS,Aa,W_mv,Ab,T.get_set,reduceIte,Nat.reduceEqDiff, ↓reduceIte,DH,decide_true]
    refine W.cond (v:=true) Sn Wg (by simp[T.get_set]) (by omega) (fun _=> ?_) fun h=>by cases h
    refine Hb_.w AY_ (by omega) ?_
    simp only[RZ,Ad,W_oS,Aa,W_mv,Ab,T.get_set,Ak,Aj,Ai,reduceIte,Nat.reduceEqDiff, ↓reduceIte,hK.t1,hK.t7,hK.t9,ev4,CL B7 hil]
    refine W.load1 Cx (hpv4.same (s':=s3.rdN (b4+(o4+i*1))) rfl rfl) ?_
    have x5:=x4.thenRd b3 (b4+(o4+i*1))
    simp only[CP,Bs.lenq hH3.bs EB,es]
    exact fin _ _ _ _ (by omega) DU_ x5 (by simp[T.get_set,hK.t0]) (by simp[T.get_set,hK.t1,ev4]) (by simp[T.get_set,hK.t5]) (by simp[T.get_set,hK.t6]) (by rw[hu1];simp[T.get_set]) (by simp[T.get_set,hK.t8]) (by simp[T.get_set,hK.t9])
   ·have e4:decide (((Bc fs+ps[i].2.length:Nat):Int)≤((room:Nat):Int))=false:=decide_eq_false (by omega)
    simp only[Lc,Ad,W_oS,W_on,Aa,W_mv,Ab,T.get_set,Ak,Aj,Ai,reduceIte,Nat.reduceEqDiff,reduceCtorEq, ↓reduceIte,DH,hK.t0,hK.t1,hK.t7,hK.t9,d1,ev4,CL B7 hil]
    refine W.load1 Cx hpv4 ?_
    have x4:=(Ext.refl (F:=Any) (G:=Non) s3).thenRd b3 (b4+(o4+i*1))
    simp only[W_oS,W_on,Aa,reduceIte,AP,AW,AT,AQ,AS,AO,reduceCtorEq, ↓reduceIte,CP,OF,Cd,Bs.lenq hH3.bs EB,es,e4,UD MM,b2',d1,decide_true,Bool.not_true,Bool.not_false]
    refine W.cond (v:=false) SW Rp (by simp[T.get_set]) (by omega) (fun h=>by cases h) fun _=> ?_
    refine R6.w ST (by omega) ?_
    simp only[NU,Ad,W_oS,Aa,W_mv,Ab,T.get_set,reduceIte,Nat.reduceEqDiff, ↓reduceIte,DH,d1]
    refine W.cond (v:=false) Sn Wg (by simp[T.get_set]) (by omega) (fun h=>by cases h) fun _=> ?_
    exact fin _ _ _ _ (by omega) X3 x4 (by simp[T.get_set,hK.t0]) (by simp[T.get_set,hK.t1,ev4]) (by simp[T.get_set,hK.t5]) (by simp[T.get_set,hK.t6]) (by rw[hu1];simp[T.get_set,hK.t7]) (by simp[T.get_set,hK.t8]) (by simp[T.get_set,hK.t9])
end
end Go.Proofs.Ytjfhmacppabehaa.Am
