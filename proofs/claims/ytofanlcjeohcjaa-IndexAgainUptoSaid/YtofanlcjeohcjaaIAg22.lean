import Derived.Test.YtofanlcjeohcjaaIAg21
import Derived.Test.YtofanlcjeohcjaaIAg20
namespace Go.Proofs.Ytofanlcjeohcjaa.Am
open Go.RowKit
def Et:List (List Nat)→List Nat
 |[]=>[]
 |b::l=>recB b++Et l
def Rc:Nat→List (List Nat)→List Nat
 |_,[]=>[]
 |k,b::l=>(k+(recB b).length)::Rc (k+(recB b).length) l
def RK:Nat→List (List Nat)→List Hd
 |_,[]=>[]
 |k,b::l=>(idB b,k,b.length)::RK (k+(recB b).length) l
def Vo (l:List Nat):List Value:=l.map fun n=> .int .i64 (n:Nat)
section
variable {parts:List (Value×List Nat)}{b o c:Nat}
def chs (parts:List (Value×List Nat))(i:Nat):List (List Nat):=(parts.take i).map (·.2)
structure AlI (s0:St)(parts:List (Value×List Nat))(b o c i:Nat)(tm:T Value)(s:St)(vb ve vh:Value)(b1 b2 b3:Nat):Prop where
 t0:T.get tm 0=some (.slice (some ⟨b,o,none⟩) parts.length c)
 t6:T.get tm 6=some vb
 t7:T.get tm 7=some ve
 t8:T.get tm 8=some vh
 t11:T.get tm 11=some (.int .i64 (i:Nat))
 mb:MkS s 1 (Et (chs parts i)).length (u8l (Et (chs parts i))) vb b1
 me:MkS s 1 i (Vo (Rc 0 (chs parts i))) ve b2
 mh:MkS s 18 i (B0 (RK 0 (chs parts i))) vh b3
 n1:s0.next≤b1
 n2:s0.next≤b2
 n3:s0.next≤b3
 d12: ∀x,MkF 1 (Et (chs parts i)).length b1 x→ ¬MkF 1 i b2 x
 d13: ∀x,MkF 1 (Et (chs parts i)).length b1 x→ ¬MkF 18 i b3 x
 d23: ∀x,MkF 1 i b2 x→ ¬MkF 18 i b3 x
 sm: ∀p∈parts.take i,1≤p.2.length∧p.2.length≤1024
end
section
variable {parts:List (Value×List Nat)}{b o c:Nat}
end
section
variable {parts:List (Value×List Nat)}{b o c:Nat}
structure AlR (s0:St)(parts:List (Value×List Nat))(s:St)(vb ve vh:Value)(b1 b2 b3:Nat):Prop where
 mb:MkS s 1 (Et (parts.map (·.2))).length (u8l (Et (parts.map (·.2)))) vb b1
 me:MkS s 1 parts.length (Vo (Rc 0 (parts.map (·.2)))) ve b2
 mh:MkS s 18 parts.length (B0 (RK 0 (parts.map (·.2)))) vh b3
 n1:s0.next≤b1
 n2:s0.next≤b2
 n3:s0.next≤b3
 d12: ∀x,MkF 1 (Et (parts.map (·.2))).length b1 x→ ¬MkF 1 parts.length b2 x
 d13: ∀x,MkF 1 (Et (parts.map (·.2))).length b1 x→ ¬MkF 18 parts.length b3 x
 d23: ∀x,MkF 1 parts.length b2 x→ ¬MkF 18 parts.length b3 x
 sm: ∀p∈parts,1≤p.2.length∧p.2.length≤1024
 le:parts.length≤20
 tt:tot parts≤4000
end
section
variable {E:Env}{s:St}{t:Nat}{xo yo:Operand}
theorem ZN_ (m n:Nat)(hn:1≤n):Cl.get (aBin E .rem t xo yo) (.int .i64 (.negSucc m)) (.int .i64 (n:Nat)) s= .some (.int .i64 ((Int.negSucc m).tmod (n:Nat))) s:=by
 show Bz E .rem t xo yo (.int .i64 (.negSucc m)) (.int .i64 (n:Nat)) s=_
 show M.on (semP E.P (do eqGuard .rem t xo yo (.int .i64 (.negSucc m)) (.int .i64 (n:Nat));binOp .rem t (.int .i64 (.negSucc m)) (.int .i64 (n:Nat)))) pV s=_
 have e:semP E.P (do eqGuard .rem t xo yo (.int .i64 (.negSucc m)) (.int .i64 (n:Nat));binOp .rem t (.int .i64 (.negSucc m)) (.int .i64 (n:Nat)))=some (.int .i64 ((Int.negSucc m).tmod (n:Nat))):=by
  show semP E.P (Op.intDiv .rem .i64 (.negSucc m) (n:Nat))=_
  unfold Op.intDiv
  rw[if_neg (by omega)]
  rfl
 rw[e]
 generalize (Int.negSucc m).tmod (n:Nat)=y
 have hp: ∀y:Int,pV (.int .i64 y) s= .some (.int .i64 y) s:=fun y=>by
  cases y with
  |ofNat k=>first|rfl|(cases k<;>rfl)
  |negSucc k=>first|rfl|(cases k<;>rfl)
 exact hp y
theorem Abv_ {x:Int}{n:Nat}(hn:1≤n)(Q:Value→St→Prop):W (Cl.get (aBin E .rem t xo yo) (.int .i64 x) (.int .i64 (n:Nat))) s Q=Q (.int .i64 (x.tmod (n:Nat))) s:=by
 cases x with
 |ofNat m=>exact BB (YI m n hn xo yo)
 |negSucc m=>exact BB (ZN_ m n hn)
end
theorem LD_ {n m:Nat}{x:Int}{s:St}{Q:Value→St→Prop}(hm:1≤m)(hm2:m≤1000000)(hn:20≤n)(q: ∀r:Nat,r<m→Q (.int .i64 (r:Nat)) s):W (AJ envS (runF envS n) 33 [.int .i64 x, .int .i64 (m:Nat)]) s Q:=by
 refine Ko_ fun tm h0 h1=> ?_
 refine NB_.w rfl (by omega) ?_
 simp -implicitDefEqProofs only[YN,Aa,W_mv,Ab]
 refine HW_.w Lw_ (by omega) ?_
 simp -implicitDefEqProofs only[Yu,Ac,W_oS,Aa,W_mv,Ab,T.get_set,reduceIte,Nat.reduceEqDiff, ↓reduceIte,AC,h1]
 refine W.cond (v:=false) Ia_ Abo_ (by simp[T.get_set];omega) (by omega) (fun h=>by cases h) fun _=> ?_
 refine Uv_.w Afd_ (by omega) ?_
 simp -implicitDefEqProofs only[Y5,Ac,W_oS,Aa,W_mv,Ab,T.get_set,reduceIte,Nat.reduceEqDiff,reduceCtorEq, ↓reduceIte,h0,h1,Abv_ hm]
 have b1:x.tmod (m:Nat)<(m:Nat):=Int.tmod_lt_of_pos x (by omega)
 have b2: -(m:Nat)<x.tmod (m:Nat):=by
  have:=Int.lt_tmod_of_pos x (b:=(m:Nat)) (by omega)
  omega
 generalize x.tmod (m:Nat)=y at *
 refine Nk_.w AfL_ (by omega) ?_
 simp -implicitDefEqProofs only[W3,Ac,W_oS,Aa,W_mv,Ab,T.get_set,reduceIte, ↓reduceIte,AC]
 have fin: ∀(n1:Nat) (tm1:T Value) (td:List Item) (r:Nat),10≤n1→r<m→skim 64 td=GV→T.get tm1 0=some (.int .i64 (r:Nat))→W (runF envS n1 ⟨33,QH_,ES,tm1,td, .run, .normal,none⟩) (s.cxN cxN) fun p s1=>Q p.1 (s1.cxN s.cx):=fun n1 tm1 td r hn1 hr hT g0=>by
  refine GD_.w hT (by omega) ?_
  simp -implicitDefEqProofs only[EE_,Aa,W_mv,Ab,g0]
  refine W.end' (rs:=[4]) (vs:=[.int .i64 (r:Nat)]) Nv_ (.inl Abq_) (by omega) Eu_ Rs_ rfl (by simp[T.get_set]) ?_
  exact q r hr
 by_cases hy:y<0
 ·refine W.cond (v:=true) Dq_ AO_ (by simp[T.get_set];exact hy) (by omega) (fun _=> ?_) fun h=>by cases h
  refine Abg_.w AeX_ (by omega) ?_
  simp -implicitDefEqProofs only[Yi,Ac,W_oS,Aa,W_mv,Ab,T.get_set,reduceIte,Nat.reduceEqDiff,reduceCtorEq, ↓reduceIte,AD,h1]
  obtain⟨r,hr⟩: ∃r:Nat,y+(m:Nat)=(r:Nat):=⟨(y+(m:Nat)).toNat,by omega⟩
  rw[Bq (by omega) (by omega),hr]
  exact fin _ _ _ r (by omega) (by omega) UD_ (by simp[T.get_set])
 ·refine W.cond (v:=false) Dq_ AO_ (by simp[T.get_set];omega) (by omega) (fun h=>by cases h) fun _=> ?_
  obtain⟨r,hr⟩: ∃r:Nat,y=(r:Nat):=⟨y.toNat,by omega⟩
  subst hr
  exact fin _ _ _ r (by omega) (by omega) Kl_ (by simp[T.get_set])
theorem MJ_:envS.orc.get 35=some (Io (.bool true)):=by kernel_rfl
theorem Uc_:elT envS 75=some (2,32,[.int .i64 0, .slice none 0 0]):=by kernel_rfl
theorem WX_:appT envS 75 75=some (2,32,false,[.int .i64 0, .slice none 0 0]):=by kernel_rfl
theorem Yd_ (f:FdI):Dg (fun k=>some (k*2,2)) [(0, .agg (fdC f).toArray)] (rep 1 [.int .i64 0, .slice none 0 0])=some (fdC f):=rfl
theorem Hw_ {f:FdI}(h:oneCell f.v=true):(fdC f).all oneCell=true:=by
 unfold fdC
 simp[oneCell]at h ⊢
 exact h
theorem Ur_ {s0 s:St}{rs:List FdI}{vr:Value}{br:Nat}{f:FdI}{Q:Value→St→Prop}(hb0:s0.lim≤s0.next)(hx:Ext Any Non s0 s)(mk:MkS s 2 rs.length (fdCs rs) vr br)(hn:s0.next≤br)(hv:oneCell f.v=true)(hle:rs.length≤100000)
  (q: ∀s2 v2 b2,Ext Any Non s0 s2→MkS s2 2 (rs++[f]).length (fdCs (rs++[f])) v2 b2→s0.next≤b2→Q v2 s2):
  W (B7 envS 75 1 [(0, .agg (fdC f).toArray)]) s fun v s1=>W (A7 envS .append [75,75] [vr,v]) s1 Q:=by
 have hb:=hx.bnd hb0
 refine W.buildS hb (r:=fdC f) Uc_ (by decide) (Yd_ f) (BY (by decide)) fun s1 n1 x1 r1=> ?_
 have hb1:=x1.bnd hb
 have n1':s1.next=s.next+3:=n1
 rw[Em]
 have hn0:s0.next≤s.next:=hx.nxt
 refine W.appU (s:=s1) hb1 WX_ (mk.ext0 x1) (Gr (n:=1) (c:=1) (Ay.row r1) rfl).g (by decide) (by decide) (by decide) (by omega) rfl (Hw_ hv) fun s2 v2 b2 hb2 mk2 x2=> ?_
 have x12:Ext Any (MkF 2 rs.length br) s s2:=(x1.weak hb (fun _ _ h=>h.elim) fun _ _ h=>h.elim).trans x2 hb (fun _ _ _=>trivial) fun _ _ h=>h
 have x02:Ext Any Non s0 s2:=hx.trans x12 hb0 (fun _ _ _=>trivial) fun y hy hq=>by
  have h1:=hq.2.1
  omega
 have hl:(rs++[f]).length=rs.length+1:=by simp
 refine q s2 v2 b2 x02 ?_ (by omega)
 rw[hl,Ex_]
 show MkS s2 2 (rs.length+1) (fdCs rs++(fdC f++[])) v2 b2
 rw[List.append_nil]
 exact mk2
theorem MkS.fd {s:St}{rs:List FdI}{vr:Value}{br:Nat}(mk:MkS s 2 rs.length (fdCs rs) vr br)(hB: ∀f∈rs,Bs s f.v f.l)(hby: ∀f∈rs,Byt f.l):FdR s vr rs:=by
 refine⟨?_,hB,hby⟩
 rcases mk with⟨rfl,h0,_⟩|⟨hm,_⟩
 ·exact .inl ⟨rfl,List.eq_nil_of_length_eq_zero h0⟩
 ·exact .inr ⟨br,0,_,hm.val,hm.own.row⟩
section
variable {vf vx:Value}{fs:List FdI}{xs:List PkI}{Q:Value×FrameMode→St→Prop}{s0:St}
def Cu (gone:Int)(l:List FdI):List FdI:=l.filter fun f=> !decide (f.num=gone)
theorem Vt_ {gone:Int}(hb0:s0.lim≤s0.next)(hf:FdR s0 vf fs)(hfs:fs.length≤1000):
  ∀(m i n:Nat) (vr:Value) (br:Nat) (tm:T Value) (s:St) (td:List Item),i+m=fs.length→10*m+20≤n→skim 64 td=GP→Ext Any Non s0 s→MkS s 2 (Cu gone (fs.take i)).length (fdCs (Cu gone (fs.take i))) vr br→s0.next≤br→
  T.get tm 0=some vf→T.get tm 5=some (.bool true)→T.get tm 6=some vx→T.get tm 17=some (.int .i64 gone)→T.get tm 18=some vr→T.get tm 19=some (.int .i64 (i:Nat))→
  (∀(n1:Nat) (tm1:T Value) (s1:St) (td1:List Item) (vr1:Value),n-(10*m+10)≤n1→skim 64 td1=Jb→Ext Any Non s0 s1→FdR s1 vr1 (Cu gone fs)→T.get tm1 5=some (.bool true)→T.get tm1 6=some vx→T.get tm1 17=some (.int .i64 gone)→T.get tm1 18=some vr1→W (runF envS n1 ⟨14,EF,Bu,tm1,td1, .run, .normal,none⟩) s1 Q)→
  W (runF envS n ⟨14,EF,Bu,tm,td, .run, .normal,none⟩) s Q:=by
 intro m
 induction m with
 |zero=>
  intro i n vr br tm s td hi hn hT hx mk hbr h0 h5 h6 h17 h18 h19 q
  rw[List.take_of_length_le (show fs.length≤i by omega)]at mk
  refine Vw.w hT (by omega) ?_
  simp only[Ro,Ac,W_oS,W_on,Aa,W_mv,Ab,Ap,T.get_set,Af,Ae,Ao,Al,Ad,Ai,reduceIte,Ah,Av,As,Au,Ak,Aq,Ar,Aw,Aj,An,Nat.reduceEqDiff,reduceCtorEq, ↓reduceIte,AD,AL,AC,AK,AT,AP,AQ,AM,h0,h19]
  rw[hf.len]
  try simp only[Ac,W_oS,W_on,Aa,W_mv,Ab,Ap,T.get_set,Af,Ae,Ao,Al,Ad,Ai,reduceIte,Ah,Av,As,Au,Ak,Aq,Ar,Aw,Aj,An,Nat.reduceEqDiff,reduceCtorEq, ↓reduceIte,AD,AL,AC,AK,AT,AP,AQ,AM]
  refine W.cond (v:=false) FX_ Ee_ (by simp[T.get_set];omega) (by omega) (fun h=>by cases h) fun _=> ?_
  exact q _ _ s _ vr (by omega) Ph_ hx (mk.fd (fun f hf'=>(hf.bs f ((List.mem_filter.1 hf').1)).ext0 hx) fun f hf'=>hf.byt f ((List.mem_filter.1 hf').1)) (by simp[T.get_set,h5]) (by simp[T.get_set,h6]) (by simp[T.get_set,h17]) (by simp[T.get_set,h18])
 |succ m ih=>
  intro i n vr br tm s td hi hn hT hx mk hbr h0 h5 h6 h17 h18 h19 q
  have hil:i<fs.length:=by omega
  have hb:=hx.bnd hb0
  obtain⟨b,o,c,ev,ga,gB,_⟩:=(hf.ext0 hx).at hil
  have htk:fs.take (i+1)=fs.take i++[fs[i]]:=List.take_succ_eq_append_getElem hil
  obtain⟨f,hfi⟩: ∃f,fs[i]=f:=⟨_,rfl⟩
  rw[hfi]at ga gB htk
  have g0:At s b (o+i*2+0) (.int .i64 f.num):=ga 0 _ rfl
  have hlen:(Cu gone (fs.take i)).length≤1000:=by
   have:=List.length_filter_le (fun f=> !decide (f.num=gone)) (fs.take i)
   rw[List.length_take]at this
   unfold Cu
   omega
  have next: ∀(n':Nat) (vr':Value) (br':Nat) (tm':T Value) (s':St) (td':List Item),n≤n'+6→skim 64 td'=JS→Ext Any Non s0 s'→MkS s' 2 (Cu gone (fs.take (i+1))).length (fdCs (Cu gone (fs.take (i+1)))) vr' br'→s0.next≤br'→
    T.get tm' 0=some vf→T.get tm' 5=some (.bool true)→T.get tm' 6=some vx→T.get tm' 17=some (.int .i64 gone)→T.get tm' 18=some vr'→T.get tm' 19=some (.int .i64 (i:Nat))→
    W (runF envS n' ⟨14,EF,Bu,tm',td', .run, .normal,none⟩) s' Q:=by
   intro n' vr' br' tm' s' td' hn' hT' x' mk' hbr' g0 g5 g6 g17 g18 g19
   refine WO_.w hT' (by omega) ?_
   have ei:wrap64 ((i:Nat)+1:Int)=((i+1:Nat):Int):=by
    rw[Bq (by omega) (by omega)];simp
   simp only[Ek_,Ac,W_oS,W_on,Aa,W_mv,Ab,Ap,T.get_set,Af,Ae,Ao,Al,Ad,Ai,reduceIte,Ah,Av,As,Au,Ak,Aq,Ar,Aw,Aj,An,Nat.reduceEqDiff,reduceCtorEq, ↓reduceIte,AD,AL,AC,AK,AT,AP,AQ,AM,g19,ei]
   exact ih (i+1) _ vr' br' _ _ _ (by omega) (by omega) OV_ x' mk' hbr' (by simp[T.get_set,g0]) (by simp[T.get_set,g5]) (by simp[T.get_set,g6]) (by simp[T.get_set,g17]) (by simp[T.get_set,g18]) (by simp[T.get_set]) fun n1 tm1 s1 td1 vr1 a1=>q n1 tm1 s1 td1 vr1 (by omega)
  refine Vw.w hT (by omega) ?_
  simp only[Ro,Ac,W_oS,W_on,Aa,W_mv,Ab,Ap,T.get_set,Af,Ae,Ao,Al,Ad,Ai,reduceIte,Ah,Av,As,Au,Ak,Aq,Ar,Aw,Aj,An,Nat.reduceEqDiff,reduceCtorEq, ↓reduceIte,AD,AL,AC,AK,AT,AP,AQ,AM,h0,h19]
  rw[hf.len]
  try simp only[Ac,W_oS,W_on,Aa,W_mv,Ab,Ap,T.get_set,Af,Ae,Ao,Al,Ad,Ai,reduceIte,Ah,Av,As,Au,Ak,Aq,Ar,Aw,Aj,An,Nat.reduceEqDiff,reduceCtorEq, ↓reduceIte,AD,AL,AC,AK,AT,AP,AQ,AM]
  refine W.cond (v:=true) FX_ Ee_ (by simp[T.get_set];omega) (by omega) (fun _=> ?_) fun h=>by cases h
  refine Sk_.w TM_ (by omega) ?_
  simp only[UG,Ac,W_oS,W_on,Aa,W_mv,Ab,Ap,T.get_set,Af,Ae,Ao,Al,Ad,Ai,reduceIte,Ah,Av,As,Au,Ak,Aq,Ar,Aw,Aj,An,Nat.reduceEqDiff,reduceCtorEq, ↓reduceIte,h0,ev,h19,BC DC hil,Be Eb (by decide)]
  refine W.load1 Bl g0 ?_
  have y1:=hx.thenRd hb0 (b+(o+i*2+0))
  simp only[Ac,W_oS,W_on,Aa,W_mv,Ab,Ap,T.get_set,Af,Ae,Ao,Al,Ad,Ai,reduceIte,Ah,Av,As,Au,Ak,Aq,Ar,Aw,Aj,An,Nat.reduceEqDiff,reduceCtorEq, ↓reduceIte,AD,AL,AC,AK,AT,AP,AQ,AM,h17]
  have mk1:MkS (s.rdN (b+(o+i*2+0))) 2 (Cu gone (fs.take i)).length (fdCs (Cu gone (fs.take i))) vr br:=mk.same rfl rfl
  by_cases hg:f.num=gone
  ·have e1:Cu gone (fs.take (i+1))=Cu gone (fs.take i):=by
    unfold Cu
    rw[htk,List.filter_append]
    simp[hg]
   refine W.cond (v:=false) VV Ub (by simp[T.get_set,hg]) (by omega) (fun h=>by cases h) fun _=> ?_
   exact next _ vr br _ _ _ (by omega) Afl_ y1 (by rw[e1];exact mk1) hbr (by simp[T.get_set,h0,ev]) (by simp[T.get_set,h5]) (by simp[T.get_set,h6]) (by simp[T.get_set,h17]) (by simp[T.get_set,h18]) (by simp[T.get_set,h19])
  ·have e1:Cu gone (fs.take (i+1))=Cu gone (fs.take i)++[f]:=by
    unfold Cu
    rw[htk,List.filter_append]
    simp[hg]
   refine W.cond (v:=true) VV Ub (by simp[T.get_set,hg]) (by omega) (fun _=> ?_) fun h=>by cases h
   refine Mr_.w OL_ (by omega) ?_
   simp only[AC_,Ac,W_oS,W_on,Aa,W_mv,Ab,Ap,T.get_set,Af,Ae,Ao,Al,Ad,Ai,reduceIte,Ah,Av,As,Au,Ak,Aq,Ar,Aw,Aj,An,Nat.reduceEqDiff,reduceCtorEq, ↓reduceIte,h0,ev,h18,h19,BC DC hil]
   refine W.loadA T6 (fun j u e=>(ga j u e).same rfl rfl) rfl fun s2 m2 n2 x2=> ?_
   have y2:=y1.then0 x2 hb0
   try simp only[Ac,W_oS,W_on,Aa,W_mv,Ab,Ap,T.get_set,Af,Ae,Ao,Al,Ad,Ai,reduceIte,Ah,Av,As,Au,Ak,Aq,Ar,Aw,Aj,An,Nat.reduceEqDiff,reduceCtorEq, ↓reduceIte]
   refine Ur_ (f:=f) hb0 y2 (mk1.ext0 x2) hbr gB.one (by omega) fun s3 v3 b3 y3 mk3 hb3=> ?_
   try simp only[Ac,W_oS,W_on,Aa,W_mv,Ab,Ap,T.get_set,Af,Ae,Ao,Al,Ad,Ai,reduceIte,Ah,Av,As,Au,Ak,Aq,Ar,Aw,Aj,An,Nat.reduceEqDiff,reduceCtorEq, ↓reduceIte]
   exact next _ v3 b3 _ _ _ (by omega) Vq_ y3 (by rw[e1];exact mk3) hb3 (by simp[T.get_set,h0,ev]) (by simp[T.get_set,h5]) (by simp[T.get_set,h6]) (by simp[T.get_set,h17]) (by simp[T.get_set]) (by simp[T.get_set,h19])
theorem Ye_ {gone:Int}{vz:Value}{zs:List PkI}(hb0:s0.lim≤s0.next)(hz:PkR s0 vz zs)(hzl:zs.length≤1000000)(hng: ∀z∈zs,z.num≠gone)(hcx:s0.cx=cxN)(q: ∀s1,Q (.bool true, .run) s1):
  ∀(m i n:Nat) (tm:T Value) (s:St) (td:List Item),i+m=zs.length→10*m+20≤n→skim 64 td=Hi→Ext Any Non s0 s→
  T.get tm 5=some (.bool true)→T.get tm 17=some (.int .i64 gone)→T.get tm 20=some vz→T.get tm 22=some (.int .i64 (i:Nat))→
  W (runF envS n ⟨14,EF,Bu,tm,td, .run, .normal,none⟩) s Q:=by
 intro m
 induction m with
 |zero=>
  intro i n tm s td hi hn hT hx h5 h17 h20 h22
  refine UM.w hT (by omega) ?_
  simp only[Tw,Ac,W_oS,W_on,Aa,W_mv,Ab,Ap,T.get_set,Af,Ae,Ao,Al,Ad,Ai,reduceIte,Ah,Av,As,Au,Ak,Aq,Ar,Aw,Aj,An,Nat.reduceEqDiff,reduceCtorEq, ↓reduceIte,AD,AL,AC,AK,AT,AP,AQ,AM,h20,h22]
  rw[hz.len]
  try simp only[Ac,W_oS,W_on,Aa,W_mv,Ab,Ap,T.get_set,Af,Ae,Ao,Al,Ad,Ai,reduceIte,Ah,Av,As,Au,Ak,Aq,Ar,Aw,Aj,An,Nat.reduceEqDiff,reduceCtorEq, ↓reduceIte,AD,AL,AC,AK,AT,AP,AQ,AM]
  refine W.cond (v:=false) WZ Eg_ (by simp[T.get_set];omega) (by omega) (fun h=>by cases h) fun _=> ?_
  refine Adl_.w Vb_ (by omega) ?_
  simp only[Dh_,Ac,W_oS,W_on,Aa,W_mv,Ab,Ap,T.get_set,Af,Ae,Ao,Al,Ad,Ai,reduceIte,Ah,Av,As,Au,Ak,Aq,Ar,Aw,Aj,An,Nat.reduceEqDiff,reduceCtorEq, ↓reduceIte,h5]
  refine W.end' (rs:=[4]) (vs:=[.bool true]) AdY_ (.inl QK_) (by omega) Mu TF (hx.cx.trans hcx) (by simp[T.get_set]) ?_
  exact q s
 |succ m ih=>
  intro i n tm s td hi hn hT hx h5 h17 h20 h22
  have hil:i<zs.length:=by omega
  obtain⟨b,o,c,ev,ga,_,_,_,_⟩:=(hz.ext0 hx).at hil
  have hne:=hng _ (List.getElem_mem hil)
  refine UM.w hT (by omega) ?_
  simp only[Tw,Ac,W_oS,W_on,Aa,W_mv,Ab,Ap,T.get_set,Af,Ae,Ao,Al,Ad,Ai,reduceIte,Ah,Av,As,Au,Ak,Aq,Ar,Aw,Aj,An,Nat.reduceEqDiff,reduceCtorEq, ↓reduceIte,AD,AL,AC,AK,AT,AP,AQ,AM,h20,h22]
  rw[hz.len]
  try simp only[Ac,W_oS,W_on,Aa,W_mv,Ab,Ap,T.get_set,Af,Ae,Ao,Al,Ad,Ai,reduceIte,Ah,Av,As,Au,Ak,Aq,Ar,Aw,Aj,An,Nat.reduceEqDiff,reduceCtorEq, ↓reduceIte,AD,AL,AC,AK,AT,AP,AQ,AM]
  refine W.cond (v:=true) WZ Eg_ (by simp[T.get_set];omega) (by omega) (fun _=> ?_) fun h=>by cases h
  refine Mj_.w Pb_ (by omega) ?_
  simp only[Ul,Ac,W_oS,W_on,Aa,W_mv,Ab,Ap,T.get_set,Af,Ae,Ao,Al,Ad,Ai,reduceIte,Ah,Av,As,Au,Ak,Aq,Ar,Aw,Aj,An,Nat.reduceEqDiff,reduceCtorEq, ↓reduceIte,h20,ev,h22,BC Ch hil,Be DU (by decide)]
  refine W.load1 Bl (ga 0 _ rfl) ?_
  have y1:=hx.thenRd hb0 (b+(o+i*3+0))
  simp only[Ac,W_oS,W_on,Aa,W_mv,Ab,Ap,T.get_set,Af,Ae,Ao,Al,Ad,Ai,reduceIte,Ah,Av,As,Au,Ak,Aq,Ar,Aw,Aj,An,Nat.reduceEqDiff,reduceCtorEq, ↓reduceIte,AD,AL,AC,AK,AT,AP,AQ,AM,h17]
  refine W.cond (v:=false) Hc_ AeR_ (by simp[T.get_set,hne]) (by omega) (fun h=>by cases h) fun _=> ?_
  refine HG_.w Zr_ (by omega) ?_
  have ei:wrap64 ((i:Nat)+1:Int)=((i+1:Nat):Int):=by
   rw[Bq (by omega) (by omega)];simp
  simp only[UW,Ac,W_oS,W_on,Aa,W_mv,Ab,Ap,T.get_set,Af,Ae,Ao,Al,Ad,Ai,reduceIte,Ah,Av,As,Au,Ak,Aq,Ar,Aw,Aj,An,Nat.reduceEqDiff,reduceCtorEq, ↓reduceIte,AD,AL,AC,AK,AT,AP,AQ,AM,h22,ei]
  exact ih (i+1) _ _ _ _ (by omega) (by omega) SX_ y1 (by simp[T.get_set,h5]) (by simp[T.get_set,h17]) (by simp[T.get_set,h20,ev]) (by simp[T.get_set])
end
theorem Ip_ {n:Nat}{vf:Value}{fs:List FdI}{y:Int}{s:St}(hb:s.lim≤s.next)(hf:FdR s vf fs)(hfs:fs.length≤9223372036854775807)(hzf: ∀f∈fs,f.l.length≤1048576)(hn:80000000≤n):
  W (AJ envS (runF envS n) 14 [vf, .int .i64 y]) s fun u _=>u= .bool true:=by
 refine Ady_ fun tm h0 h1=> ?_
 have hf0:FdR (s.cxN cxN) vf fs:=hf.same rfl rfl
 refine LT_.w rfl (by omega) ?_
 simp only[Ur,Ac,W_oS,W_on,Aa,W_mv,Ab,Ap,T.get_set,Af,Ae,Ao,Al,Ad,Ai,reduceIte,Ah,Av,As,Au,Ak,Aq,Ar,Aw,Aj,An,Nat.reduceEqDiff,reduceCtorEq, ↓reduceIte]
 refine NS_.w OG_ (by omega) ?_
 simp only[Fg_,Ac,W_oS,W_on,Aa,W_mv,Ab,Ap,T.get_set,Af,Ae,Ao,Al,Ad,Ai,reduceIte,Ah,Av,As,Au,Ak,Aq,Ar,Aw,Aj,An,Nat.reduceEqDiff,reduceCtorEq, ↓reduceIte]
 refine W.orc MJ_ (W.pure ?_)
 refine IY_.w Mp_ (by omega) ?_
 simp only[Zn,Ac,W_oS,W_on,Aa,W_mv,Ab,Ap,T.get_set,Af,Ae,Ao,Al,Ad,Ai,reduceIte,Ah,Av,As,Au,Ak,Aq,Ar,Aw,Aj,An,Nat.reduceEqDiff,reduceCtorEq, ↓reduceIte,h0]
 refine Agc_ (s:=s.cxN cxN) hb hf0 hfs hzf (by omega) fun s1 x1=> ?_
 have x1':=x1
 try simp only[Ac,W_oS,W_on,Aa,W_mv,Ab,Ap,T.get_set,Af,Ae,Ao,Al,Ad,Ai,reduceIte,Ah,Av,As,Au,Ak,Aq,Ar,Aw,Aj,An,Nat.reduceEqDiff,reduceCtorEq, ↓reduceIte]
 cases hbig:bigF fs with
 |true=>
  refine W.cond (v:=true) EN_ AT_ (by simp[T.get_set]) (by omega) (fun _=> ?_) fun h=>by cases h
  refine Rp_.w Se_ (by omega) ?_
  simp only[Dx_,Ac,W_oS,W_on,Aa,W_mv,Ab,Ap,T.get_set,Af,Ae,Ao,Al,Ad,Ai,reduceIte,Ah,Av,As,Au,Ak,Aq,Ar,Aw,Aj,An,Nat.reduceEqDiff,reduceCtorEq, ↓reduceIte]
  exact W.end' (rs:=[4]) (vs:=[.bool true]) RI_ (.inl Xv_) (by omega) Mu TF x1.cx (by simp[T.get_set]) rfl
 |false=>
  obtain⟨hl30,htot⟩:=AfB_ hbig
  have hz6: ∀f∈fs,f.l.length≤6000:=fun f h=>by have:=Qk_ h;omega
  refine W.cond (v:=false) EN_ AT_ (by simp[T.get_set]) (by omega) (fun h=>by cases h) fun _=> ?_
  refine RQ_.w Rt_ (by omega) ?_
  simp only[Dn_,Ac,W_oS,W_on,Aa,W_mv,Ab,Ap,T.get_set,Af,Ae,Ao,Al,Ad,Ai,reduceIte,Ah,Av,As,Au,Ak,Aq,Ar,Aw,Aj,An,Nat.reduceEqDiff,reduceCtorEq, ↓reduceIte,h0]
  have hnil:PkR s1 (.slice none 0 0) []:=⟨.inl ⟨rfl,rfl⟩,fun p hp=>(by cases hp),fun p hp=>(by cases hp)⟩
  refine Rn (x1.bnd hb) hnil (hf0.ext0 x1) (by simp) (fun p hp=>by cases hp) (by omega) (fun f h=>by have:=hz6 f h;omega) (by omega) fun s2 xs sc vx vs x2 hx hkx hs hsc=> ?_
  have xa2:=x1.then0 x2 hb
  have hb2:=xa2.bnd (s:=s.cxN cxN) hb
  have hf2:=hf0.ext0 xa2
  rw[B2 (k:=0) rfl,B2 (k:=1) rfl]
  try simp only[Ac,W_oS,W_on,Aa,W_mv,Ab,Ap,T.get_set,Af,Ae,Ao,Al,Ad,Ai,reduceIte,Ah,Av,As,Au,Ak,Aq,Ar,Aw,Aj,An,Nat.reduceEqDiff,reduceCtorEq, ↓reduceIte]
  obtain⟨htx,hlx⟩:=FS fs 0 xs hkx
  have hKl:(Bd [] 0 fs).1.length=xs.length:=by rw[←hkx,List.length_map]
  refine Oo_.w Sj_ (by omega) ?_
  simp only[CA_,Ac,W_oS,W_on,Aa,W_mv,Ab,Ap,T.get_set,Af,Ae,Ao,Al,Ad,Ai,reduceIte,Ah,Av,As,Au,Ak,Aq,Ar,Aw,Aj,An,Nat.reduceEqDiff,reduceCtorEq, ↓reduceIte]
  refine Us_.w Vd_ (by omega) ?_
  simp only[FR_,Ac,W_oS,W_on,Aa,W_mv,Ab,Ap,T.get_set,Af,Ae,Ao,Al,Ad,Ai,reduceIte,Ah,Av,As,Au,Ak,Aq,Ar,Aw,Aj,An,Nat.reduceEqDiff,reduceCtorEq, ↓reduceIte]
  refine ZD_ (s0:=s2) (K:=(Bd [] 0 fs).1) hb2 hx hs hf2 hkx (fun f h=>by have:=hz6 f h;omega) (by omega) (by omega) fs.length 0 _ 0 0 _ s2 _ (by omega) (by omega) Qn_ (Ext.refl _) (by rw[List.drop_zero,List.drop_zero]) (by rw[List.drop_zero,List.drop_zero];exact hsc) (Nat.zero_le _) (by simp[T.get_set,h0]) (by simp[T.get_set]) (by simp[T.get_set]) (by simp[T.get_set]) (by simp[T.get_set]) (by simp[T.get_set]) (by simp[T.get_set]) fun n3 tm3 s3 td3 hn3 hT3 x3 g0 g1 g5 g6 g7 g9=> ?_
  have g1':T.get tm3 1=some (.int .i64 y):=by rw[g1];simp[T.get_set,h1]
  have hb3:=x3.bnd hb2
  have hx3:=hx.ext0 x3
  have hsub: ∀p∈xs,p.hs.length≤400000:=fun p hp=>by
   obtain⟨i,hi⟩:=List.getElem?_of_mem hp
   have hi':=(List.getElem?_eq_some_iff.1 hi).1
   have:=Jh hi'
   rw[(List.getElem?_eq_some_iff.1 hi).2]at this
   omega
  refine Tq_.w hT3 (by omega) ?_
  simp only[FJ_,Ac,W_oS,W_on,Aa,W_mv,Ab,Ap,T.get_set,Af,Ae,Ao,Al,Ad,Ai,reduceIte,Ah,Av,As,Au,Ak,Aq,Ar,Aw,Aj,An,Nat.reduceEqDiff,reduceCtorEq, ↓reduceIte,g0,g6]
  refine Rn hb3 hx3 (hf2.ext0 x3) (by omega) hsub (by omega) (fun f h=>by have:=hz6 f h;omega) (by omega) fun s4 ys tc vy vt x4 hy hky ht htc=> ?_
  have hag:Bd xs 0 fs=((Bd [] 0 fs).1,[]):=Pa fs 0 [] xs (fun p hp=>by cases hp) hkx
  rw[hag]at hky htc
  subst htc
  rw[B2 (k:=0) rfl,B2 (k:=1) rfl]
  try simp only[Ac,W_oS,W_on,Aa,W_mv,Ab,Ap,T.get_set,Af,Ae,Ao,Al,Ad,Ai,reduceIte,Ah,Av,As,Au,Ak,Aq,Ar,Aw,Aj,An,Nat.reduceEqDiff,reduceCtorEq, ↓reduceIte]
  have hx4:=hx3.ext0 x4
  have xa4:=x3.then0 x4 hb2
  have hb4:=x4.bnd hb3
  refine Uq_.w Nd_ (by omega) ?_
  have eqn:(!decide True)=false:=rfl
  simp only[Xj,Ac,W_oS,W_on,Aa,W_mv,Ab,Ap,T.get_set,Af,Ae,Ao,Al,Ad,Ai,reduceIte,Ah,Av,As,Au,Ak,Aq,Ar,Aw,Aj,An,Nat.reduceEqDiff,reduceCtorEq, ↓reduceIte,AD,AL,AC,AK,AT,AP,AQ,AM,g6,g7,g9]
  rw[hx.len,hKl]
  simp only[Ac,W_oS,W_on,Aa,W_mv,Ab,Ap,T.get_set,Af,Ae,Ao,Al,Ad,Ai,reduceIte,Ah,Av,As,Au,Ak,Aq,Ar,Aw,Aj,An,Nat.reduceEqDiff,reduceCtorEq, ↓reduceIte,AD,AL,AC,AK,AT,AP,AQ,AM,eqn,g7]
  rw[IntR.len hs,show sc.length=xs.length by
   rw[hsc,←hKl]
   have: ∀(l:List FdI) (e:Int),(Bd [] e l).2.length=(Bd [] e l).1.length:=by
    intro l
    induction l with
    |nil=>intro e;rfl
    |cons f l ih=>
     intro e
     by_cases h:f.num≤e∨999999<f.num
     ·rw[Eg h];exact ih e
     ·rw[Hu h]
      simp[ih]
   exact this fs 0]
  simp only[Ac,W_oS,W_on,Aa,W_mv,Ab,Ap,T.get_set,Af,Ae,Ao,Al,Ad,Ai,reduceIte,Ah,Av,As,Au,Ak,Aq,Ar,Aw,Aj,An,Nat.reduceEqDiff,reduceCtorEq, ↓reduceIte,AD,AL,AC,AK,AT,AP,AQ,AM,eqn,g6]
  refine AfY_ hb4 hx4 (by omega) (by omega) (by omega) fun s5 x5=> ?_
  rw[Uj_ hkx hl30 htot (fun f h=>by have:=hz6 f h;omega)]
  simp only[Ac,W_oS,W_on,Aa,W_mv,Ab,Ap,T.get_set,Af,Ae,Ao,Al,Ad,Ai,reduceIte,Ah,Av,As,Au,Ak,Aq,Ar,Aw,Aj,An,Nat.reduceEqDiff,reduceCtorEq, ↓reduceIte,AD,AL,AC,AK,AT,AP,AQ,AM,eqn]
  have hb5:=x5.bnd hb4
  have hyl:=(FS fs 0 ys hky).2
  refine Kk_ (N:=6000) hb5 (hy.ext0 x5) (hx4.ext0 x5) (by rw[hky,hkx]) (fun p hp=> ?_) (by omega) ?_ (by omega) fun s6 x6=> ?_
  ·obtain⟨i,hi⟩:=List.getElem?_of_mem hp
   have hi':=(List.getElem?_eq_some_iff.1 hi).1
   have h1:=Jh hi'
   rw[(List.getElem?_eq_some_iff.1 hi).2]at h1
   have h2:=(FS fs 0 ys hky).1
   omega
  ·have:=(FS fs 0 ys hky).2
   omega
  have xa6:=(xa4.then0 x5 hb2).then0 x6 hb2
  have hb6:=xa6.bnd hb2
  simp only[Ac,W_oS,W_on,Aa,W_mv,Ab,Ap,T.get_set,Af,Ae,Ao,Al,Ad,Ai,reduceIte,Ah,Av,As,Au,Ak,Aq,Ar,Aw,Aj,An,Nat.reduceEqDiff,reduceCtorEq, ↓reduceIte,AD,AL,AC,AK,AT,AP,AQ,AM,DO,Bool.not_true]
  rw[IntR.len ht]
  simp only[List.length_nil,Ac,W_oS,W_on,Aa,W_mv,Ab,Ap,T.get_set,Af,Ae,Ao,Al,Ad,Ai,reduceIte,Ah,Av,As,Au,Ak,Aq,Ar,Aw,Aj,An,Nat.reduceEqDiff,reduceCtorEq, ↓reduceIte,AD,AL,AC,AK,AT,AP,AQ,AM]
  have e00:(!decide (((0:Nat):Int)=0))=false:=rfl
  try simp only[e00]
  refine W.cond (v:=false) ZB_ Hy_ (by simp[T.get_set]) (by omega) (fun h=>by cases h) fun _=> ?_
  refine LZ_.w YZ_ (by omega) ?_
  simp only[FU_,Ac,W_oS,W_on,Aa,W_mv,Ab,Ap,T.get_set,Af,Ae,Ao,Al,Ad,Ai,reduceIte,Ah,Av,As,Au,Ak,Aq,Ar,Aw,Aj,An,Nat.reduceEqDiff,reduceCtorEq, ↓reduceIte,AD,AL,AC,AK,AT,AP,AQ,AM,g6]
  rw[hx.len]
  simp only[Ac,W_oS,W_on,Aa,W_mv,Ab,Ap,T.get_set,Af,Ae,Ao,Al,Ad,Ai,reduceIte,Ah,Av,As,Au,Ak,Aq,Ar,Aw,Aj,An,Nat.reduceEqDiff,reduceCtorEq, ↓reduceIte,AD,AL,AC,AK,AT,AP,AQ,AM]
  by_cases hz0:xs.length=0
  ·refine W.cond (v:=true) Ak_ W8 (by simp[T.get_set,hz0]) (by omega) (fun _=> ?_) fun h=>by cases h
   refine OS_.w TH_ (by omega) ?_
   simp only[Wd,Ac,W_oS,W_on,Aa,W_mv,Ab,Ap,T.get_set,Af,Ae,Ao,Al,Ad,Ai,reduceIte,Ah,Av,As,Au,Ak,Aq,Ar,Aw,Aj,An,Nat.reduceEqDiff,reduceCtorEq, ↓reduceIte,g5]
   exact W.end' (rs:=[4]) (vs:=[.bool true]) Qg_ (.inl If_) (by omega) Mu TF (xa6.cx.trans xa2.cx) (by simp[T.get_set]) rfl
  ·refine W.cond (v:=false) Ak_ W8 (by simpa [T.get_set]using hz0) (by omega) (fun h=>by cases h) fun _=> ?_
   refine Rf_.w Qy_ (by omega) ?_
   simp only[Vb,Ac,W_oS,W_on,Aa,W_mv,Ab,Ap,T.get_set,Af,Ae,Ao,Al,Ad,Ai,reduceIte,Ah,Av,As,Au,Ak,Aq,Ar,Aw,Aj,An,Nat.reduceEqDiff,reduceCtorEq, ↓reduceIte,AD,AL,AC,AK,AT,AP,AQ,AM,g6,g1']
   rw[hx.len]
   try simp only[Ac,W_oS,W_on,Aa,W_mv,Ab,Ap,T.get_set,Af,Ae,Ao,Al,Ad,Ai,reduceIte,Ah,Av,As,Au,Ak,Aq,Ar,Aw,Aj,An,Nat.reduceEqDiff,reduceCtorEq, ↓reduceIte]
   refine LD_ (m:=xs.length) (by omega) (by omega) (by omega) fun r hr=> ?_
   obtain⟨bx,ox,cx,ex,gx,_,_,_,_⟩:=(hx.ext0 xa6).at hr
   simp only[Ac,W_oS,W_on,Aa,W_mv,Ab,Ap,T.get_set,Af,Ae,Ao,Al,Ad,Ai,reduceIte,Ah,Av,As,Au,Ak,Aq,Ar,Aw,Aj,An,Nat.reduceEqDiff,reduceCtorEq, ↓reduceIte,ex,BC Ch hr,Be DU (by decide)]
   refine W.load1 Bl (gx 0 _ rfl) ?_
   have xa7:=xa6.thenRd hb2 (bx+(ox+r*3+0))
   generalize hs7:s6.rdN (bx+(ox+r*3+0))=s7 at *
   have hb7:=xa7.bnd hb2
   obtain⟨gone,hgone⟩: ∃g,xs[r].num=g:=⟨_,rfl⟩
   rw[hgone]
   try simp only[Ac,W_oS,W_on,Aa,W_mv,Ab,Ap,T.get_set,Af,Ae,Ao,Al,Ad,Ai,reduceIte,Ah,Av,As,Au,Ak,Aq,Ar,Aw,Aj,An,Nat.reduceEqDiff,reduceCtorEq, ↓reduceIte]
   refine Agf_.w XC_ (by omega) ?_
   simp only[Wk,Ac,W_oS,W_on,Aa,W_mv,Ab,Ap,T.get_set,Af,Ae,Ao,Al,Ad,Ai,reduceIte,Ah,Av,As,Au,Ak,Aq,Ar,Aw,Aj,An,Nat.reduceEqDiff,reduceCtorEq, ↓reduceIte]
   refine Yz_.w MH_ (by omega) ?_
   simp only[CT_,Ac,W_oS,W_on,Aa,W_mv,Ab,Ap,T.get_set,Af,Ae,Ao,Al,Ad,Ai,reduceIte,Ah,Av,As,Au,Ak,Aq,Ar,Aw,Aj,An,Nat.reduceEqDiff,reduceCtorEq, ↓reduceIte]
   refine Vt_ (s0:=s7) (vx:=vx) (gone:=gone) hb7 (hf2.ext0 xa7) (by omega) fs.length 0 _ (.slice none 0 0) s7.next _ s7 _ (by omega) (by omega) ZH_ (Ext.refl _) (.inl ⟨rfl,rfl,rfl⟩) (Nat.le_refl _) (by simp[T.get_set,g0]) (by simp[T.get_set,g5]) (by simp[T.get_set,g6,ex]) (by simp[T.get_set]) (by simp[T.get_set]) (by simp[T.get_set]) fun n8 tm8 s8 td8 vr hn8 hT8 x8 hfr k5 k6 k17 k18=> ?_
   have xa8:=xa7.then0 x8 hb2
   have hb8:=xa8.bnd hb2
   have hrl:(Cu gone fs).length≤fs.length:=List.length_filter_le _ _
   refine Yj_.w hT8 (by omega) ?_
   simp only[Y8,Ac,W_oS,W_on,Aa,W_mv,Ab,Ap,T.get_set,Af,Ae,Ao,Al,Ad,Ai,reduceIte,Ah,Av,As,Au,Ak,Aq,Ar,Aw,Aj,An,Nat.reduceEqDiff,reduceCtorEq, ↓reduceIte,k6,k18]
   refine Rn hb8 (hx.ext0 xa8) hfr (by omega) hsub (by omega) (fun f h=>by have:=hz6 f ((List.mem_filter.1 h).1);omega) (by omega) fun s9 zs uc vz vu x9 hzr hkz _ _=> ?_
   have xa9:=xa8.then0 x9 hb2
   have hb9:=xa9.bnd hb2
   rw[B2 (k:=0) rfl,B2 (k:=1) rfl]
   try simp only[Ac,W_oS,W_on,Aa,W_mv,Ab,Ap,T.get_set,Af,Ae,Ao,Al,Ad,Ai,reduceIte,Ah,Av,As,Au,Ak,Aq,Ar,Aw,Aj,An,Nat.reduceEqDiff,reduceCtorEq, ↓reduceIte]
   refine YG_.w Afa_ (by omega) ?_
   simp only[BX_,Ac,W_oS,W_on,Aa,W_mv,Ab,Ap,T.get_set,Af,Ae,Ao,Al,Ad,Ai,reduceIte,Ah,Av,As,Au,Ak,Aq,Ar,Aw,Aj,An,Nat.reduceEqDiff,reduceCtorEq, ↓reduceIte]
   have hzl:zs.length≤1000000:=by
    have: ∀(l:List FdI) (e:Int),(Bd xs e l).1.length≤l.length:=by
     intro l
     induction l with
     |nil=>intro e;exact Nat.le_refl _
     |cons f l ih=>
      intro e
      by_cases h:f.num≤e∨999999<f.num
      ·rw[Eg h]
       have:=ih e
       simp only[List.length_cons]
       omega
      ·have hun:Bd xs e (f::l)=(match xs.find? (hitP f)with
         |some p=>(p.key::(Bd xs f.num l).1,(Bd xs f.num l).2)
         |none=>((f.num,(f.l.length:Int),(BV f.l).1.map toI)::(Bd xs f.num l).1,f.num::(Bd xs f.num l).2)):=by
        show(if f.num≤e∨999999<f.num then Bd xs e l else _)=_
        rw[if_neg h]
        rfl
       have:=ih f.num
       rw[hun]
       cases xs.find? (hitP f)<;>simp only[List.length_cons]<;>omega
    have h1:=this (Cu gone fs) 0
    rw[←hkz,List.length_map]at h1
    omega
   refine Ye_ (s0:=s9) (gone:=gone) hb9 hzr hzl (fun z hz hg=> ?_) (xa9.cx.trans xa2.cx) (fun _=>rfl) zs.length 0 _ _ s9 _ (by omega) (by omega) Afp_ (Ext.refl _) (by simp[T.get_set,k5]) (by simp[T.get_set,k17]) (by simp[T.get_set]) (by simp[T.get_set])
   have hm:z.key∈(Bd xs 0 (Cu gone fs)).1:=by rw[←hkz];exact List.mem_map_of_mem hz
   obtain⟨f,hf',e⟩:=Ms _ _ _ _ hm
   have h2:(!decide (f.num=gone))=true:=(List.mem_filter.1 hf').2
   have h3:z.num=f.num:=e
   rw[←h3,hg]at h2
   simp at h2
structure RecAt (t:List Nat)(k:Nat)(b:List Nat):Prop where
 n:BA t k=b.length
 ok:Dm t k=true
 len:k+26+b.length≤t.length
 rok:CT t k=true
 good:Cz t k b.length=true
 id:CU t k b.length=idB b
 body:C1 t k b.length=b
section
variable {E:Env}{s s':St}{t:Nat}{xo yo:Operand}
theorem MkS.bs {l:List Nat}{v:Value}{b:Nat}(h:MkS s 1 l.length (u8l l) v b)(hn:l.length<capU):Bs s v l:=by
 rcases h with⟨rfl,h0,_⟩|⟨h,_⟩
 ·exact .inl ⟨rfl,List.eq_nil_of_length_eq_zero h0⟩
 ·refine .inr ⟨b,0,_,h.val, ?_,Jl hn (by decide),fun i u e=>(h.own i u e).at'⟩
  rw[Nat.mul_add_mod,Nat.mod_eq_of_lt hn]
  exact Nat.le_refl _
theorem MkS.put {l:List Nat}{k x:Nat}{v:Value}{b:Nat}{G:Nat→Prop}(h:MkS s 1 l.length (u8l l) v b)(hk:k<l.length)(hn:s'.next=s.next)(e:Ext G (In b k 1) s s')(ho:Own s' b k (.int .u8 (x:Nat))):MkS s' 1 (l.set k x).length (u8l (l.set k x)) v b:=by
 rw[List.length_set]
 rcases h with⟨_,h0,_⟩|⟨h,h0⟩
 ·omega
 ·refine .inr ⟨⟨h.val,fun i u hi=> ?_, ?_, ?_,by rw[hn];exact h.lt⟩,h0⟩
  ·by_cases hik:i=k
   ·subst hik
    unfold u8l at hi
    rw[List.getElem?_map,List.getElem?_set_self hk]at hi
    have:u= .int .u8 (x:Nat):=by injection hi with hi;exact hi.symm
    subst this
    rwa [Nat.zero_add]
   ·have hi':(u8l l)[i]?=some u:=by
     unfold u8l at hi ⊢
     rw[List.getElem?_map,List.getElem?_set_ne (fun q=>hik q.symm)]at hi
     rw[List.getElem?_map]
     exact hi
    exact(h.own i u hi').ext e fun q=>by
     have h1:=In1.1 q
     omega
  ·rw[By,List.length_set,Nat.mul_one]
  ·have hlt:b+l.length*1<s.next:=h.lt
   rw[e.mem _ hlt fun q=>by have h1:=In1.1 q;omega]
   exact h.tok
theorem MkS.get {l:List Nat}{k:Nat}{v:Value}{b:Nat}(h:MkS s 1 l.length (u8l l) v b)(hk:k<l.length): ∃c,v= .slice (some ⟨b,0,none⟩) l.length c∧Own s b k (.int .u8 (l.getD k 0:Nat)):=by
 rcases h with⟨_,h0,_⟩|⟨h,h0⟩
 ·omega
 ·refine⟨_,h.val, ?_⟩
  have:=h.own k (.int .u8 (l.getD k 0:Nat)) (by
   unfold u8l
   rw[List.getElem?_map,List.getElem?_eq_getElem hk,List.getD_eq_getElem?_getD,List.getElem?_eq_getElem hk]
   rfl)
  rwa [Nat.zero_add]at this
theorem MkS.hat {hs:List Hd}{n i:Nat}{v:Value}{b:Nat}(h:MkS s 18 n (B0 hs) v b)(hn:n=hs.length)(h16: ∀h∈hs,h.1.length=16)(hi:i<hs.length): ∃c,v= .slice (some ⟨b,0,none⟩) n c∧(n<capU→c%capU=n∧Cq c 18=true)∧Row s b (0+i*18) (BS hs[i])∧ ∀w,w≤hs.length→Row s b 0 (B0 (hs.take w)):=by
 rcases h with⟨_,h0,_⟩|⟨h,h0⟩
 ·omega
 ·refine⟨_,h.val,fun hc=>⟨by rw[Nat.mul_add_mod,Nat.mod_eq_of_lt hc],Jl hc (by decide)⟩,fun j u e=> ?_,fun w hw j u e=> ?_⟩
  ·have hj:j<18:=by
    have:=(List.getElem?_eq_some_iff.1 e).1
    rwa [Fv (h16 _ (List.getElem_mem hi))]at this
   have:=(h.own (i*18+j) u (by rw[Eo_ h16 hi hj];exact e)).at'
   rwa [show 0+(i*18+j)=0+i*18+j by omega]at this
  ·refine(h.own j u ?_).at'
   have es:hs=hs.take w++hs.drop w:=(List.take_append_drop w hs).symm
   rw[es,CO_,List.getElem?_append_left (List.getElem?_eq_some_iff.1 e).1]
   exact e
end
end Go.Proofs.Ytofanlcjeohcjaa.Am
