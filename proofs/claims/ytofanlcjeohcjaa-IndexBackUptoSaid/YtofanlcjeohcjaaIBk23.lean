import Derived.Test.YtofanlcjeohcjaaIBk22
import Derived.Test.YtofanlcjeohcjaaIBk21
import Derived.Test.YtofanlcjeohcjaaIBk15
import Derived.Test.YtofanlcjeohcjaaIBk07
import Derived.KernelRfl
import Derived.Test.YtofanlcjeohcjaaIBk20
namespace Go.Proofs.Ytofanlcjeohcjaa.Am
open Go.RowKit
theorem Wx.p {α:Type}{m:M α}{s:St}{R:List PanicEntry->St->Prop}(h:Wx m s (λ_ _=>False) R):Wp m s R:=h.elim (λ⟨_,_,_,f⟩=>f.elim) id
theorem W.leaveD' {E:Env}{n f nt g:Nat}{tm:T Value}{ki:CallKind}{s:St}{Q:Value×FrameMode->St->Prop}{mo md:FrameMode}{todo:List Item}{d:Deferred}{ds:List Deferred}{up:Option FrameMode}{df:Nat}{cap:Array Value}{fn:Func}{body:Code}{dn dg:Nat}(h0:0<n)(hmo:mo≠ .run)(hcx:s.cx= .cx up (some (d::ds)))(hd:d.target= .fn (.func df) cap)
  (hf:E.fn.get df=some fn) (hb:fn.body=some body) (hn:fn.ntmps=dn) (hg:Ba fn=dg) (ha:(d.args.toList++cap.toList).length<=dn)
  (h:W (runF E (n-1) ⟨df,dn,dg,B9 dg (d.args.toList++cap.toList) 0 .E,[.code body], .run, .deferred,none⟩) (s.cxN (.cx (some mo) (some []))) λp s1=>EB p.2=md/\md≠ .run/\W (runF E (n-1) ⟨f,nt,g,tm,todo,md,ki,none⟩) (s1.cxN (.cx up (some ds))) Q):
  W (runF E n ⟨f,nt,g,tm,todo,mo,ki,none⟩) s Q:=by
 obtain⟨m,rfl⟩: ∃m,n=m+1:=⟨n-1,by omega⟩
 rw[Nat.add_sub_cancel]at h
 exact W.leaveD hmo hcx hd hf hb hn hg ha h
theorem W.defer' {s:St}{f:Nat}{first cap:Array Value}{args:List Value}{up:Option FrameMode}{d:List Deferred}{Q:Value->St->Prop}(hcx:s.cx= .cx up (some d))(q: ∀s1,s1=s.cxN (.cx up (some ({target:= .fn (.func f) cap,args:=first++args.toArray}::d)))->Q undef s1):W (Ft (.func (.func f) first cap) args) s Q:=W.defer hcx (q _ rfl)
theorem Qq_ {s:St}{call round:Ad}{f:Nat}{cap:Array Value}{l:List Value}(Q:Value->St->Prop):W (AW call round (.func (.func f) #[] cap) l) s Q=W (call f (l++cap.toList)) s Q:=by
 show W (call f ([]++(l++cap.toList))) s Q=_
 rw[List.nil_append]
abbrev RdG (R:Nat):Nat->Prop:=λx=>x=R+2\/x=R+3\/x=R+4
theorem Ext.cxs {F G:Nat->Prop}{s s':St}(h:Ext F G s s')(c c':Ctx):Ext F G (s.cxN c) (s'.cxN c):=⟨h.nxt,h.lim,rfl,h.mem,h.rd,h.wr⟩
section
variable {R n f2:Nat}{cap:Array Value}{s:St}{Q:Value->St->Prop}{e at0:Int}
theorem SY (hb:s.lim<=s.next)(h0:Own s R 0 (.bool true))(h3:Own s R 3 (.int .i64 e))(he:e≠0)(hn:100<=n)(q: ∀u s1,Ext Any Non s s1->Q u s1):W (Ay envS (runF envS n) 118 [.pointer (some ⟨R,0,none⟩), .func (.func f2) #[] cap]) s Q:=by
 have hb0:(s.cxN cxN).lim<=(s.cxN cxN).next:=hb
 refine YD λtm k0 k1=> ?_
 refine Is_.w rfl (by omega) ?_
 simp only[Sc,Ac,W_oS,Aa,Ab,k0]
 refine W.box λs1 n1 x1 o1=> ?_
 have y1:Ext Any Non (s.cxN cxN) s1:=x1.any hb0
 have o1':Own s1 s.next 0 (.pointer (some ⟨R,0,none⟩)):=o1 0 _ rfl
 refine Bf_.w AU_ (by omega) ?_
 simp only[Rb,Ac,W_oS,W_on,Aa,Ab,aA,Ag,Af,Ae,Ah,↓reduceIte]
 refine aD Dq o1'.at' ?_
 have y2:=y1.thenRd hb0 ((s.cxN cxN).next+(0+0))
 have h0':Own s1 R 0 (.bool true):=(h0.same (s':=s.cxN cxN) rfl rfl).ext0 y1
 have h3':Own s1 R 3 (.int .i64 e):=(h3.same (s':=s.cxN cxN) rfl rfl).ext0 y1
 refine Ho_ (y2.bnd hb0) (h0'.same rfl rfl) (h3'.same rfl rfl) (by omega) λs3 m3 n3 x3=> ?_
 have y3:=y2.then0 x3 hb0
 refine W.cond (v:=true) WB Cx_ (by simp[aA,he]) (by omega) (λ_=> ?_) λh=>by cases h
 exact W.endG AfA_ (.inl Afu_) (by omega) Ot Ve y3.cx (aM (q _ _ y3.cx'))
theorem Q2 {G:Nat->Prop}{Φ Ψ:St->Prop}(hb:s.lim<=s.next)(h0:Own s R 0 (.bool true))(h2:Own s R 2 (.int .i64 at0))(h3:Own s R 3 (.int .i64 0))(h4: ∃u,Own s R 4 u)(hG: ∀x,G x->x<s.next/\x≠R+3/\x≠R+4)(hn:100<=n)
  (run: ∀n' s2,n<=n'+20->s2.lim<=s2.next->Ext Any Non (s.cxN cxN) (s2.cxN cxN)->Wx (Ay envS (runF envS n') f2 cap.toList) s2 (λ_ s3=>Ext Any G s2 s3/\Φ s3) λc s3=> ∃e pos,c=Ed e pos/\e≠0/\Ext Any G s2 s3/\(∃u,Own s3 R 2 u)/\Ψ s3)
  (q1: ∀u s3 s4,Φ s3->s4.mem=s3.mem->s4.next=s3.next->Ext Any G s s4->Q u s4)
  (q2: ∀u s3 s4 e pos,e≠0->Ψ s3->Ext Any (RdG R) (s3.cxN cxN) (s4.cxN cxN)->Ext Any (λx=>G x\/RdG R x) s s4->Own s4 R 2 (.int .i64 at0)->Own s4 R 3 (.int .i64 e)->Own s4 R 4 (.int .i64 pos)->Q u s4):
  W (Ay envS (runF envS n) 118 [.pointer (some ⟨R,0,none⟩), .func (.func f2) #[] cap]) s Q:=by
 have hb0:(s.cxN cxN).lim<=(s.cxN cxN).next:=hb
 refine YD λtm k0 k1=> ?_
 refine Is_.w rfl (by omega) ?_
 simp only[Sc,Ac,W_oS,Aa,Ab,k0]
 refine W.box λs1 n1 x1 o1=> ?_
 have y1:Ext Any Non (s.cxN cxN) s1:=x1.any hb0
 have n1':s1.next=s.next+2:=n1
 have o1':Own s1 s.next 0 (.pointer (some ⟨R,0,none⟩)):=o1 0 _ rfl
 refine Bf_.w AU_ (by omega) ?_
 simp only[Rb,Ac,W_oS,W_on,Aa,Ab,aA,Ag,Af,Ae,Ah,↓reduceIte]
 refine aD Dq o1'.at' ?_
 have y2:=y1.thenRd hb0 ((s.cxN cxN).next+(0+0))
 have h0':Own s1 R 0 (.bool true):=(h0.same (s':=s.cxN cxN) rfl rfl).ext0 y1
 have h3':Own s1 R 3 (.int .i64 0):=(h3.same (s':=s.cxN cxN) rfl rfl).ext0 y1
 have h2':Own s1 R 2 (.int .i64 at0):=(h2.same (s':=s.cxN cxN) rfl rfl).ext0 y1
 refine Ho_ (y2.bnd hb0) (h0'.same rfl rfl) (h3'.same rfl rfl) (by omega) λs3 m3 n3 x3=> ?_
 have y3:=y2.then0 x3 hb0
 have n3':s3.next=s.next+2:=by rw[n3];exact n1'
 have o3:Own s3 s.next 0 (.pointer (some ⟨R,0,none⟩)):=(o1'.same (s':=s1.rdN ((s.cxN cxN).next+(0+0))) rfl rfl).same m3 n3
 have h23:Own s3 R 2 (.int .i64 at0):=(h2'.same (s':=s1.rdN ((s.cxN cxN).next+(0+0))) rfl rfl).same m3 n3
 try simp only[Ac]
 refine W.cond (v:=false) WB Cx_ (by simp[aA]) (by omega) (λh=>by cases h) λ_=> ?_
 refine Adr_.w ZB_ (by omega) ?_
 simp only[Y5,Ac,W_oS,Aa,Ab,aA,Nat.reduceEqDiff, ↓reduceIte]
 refine aD Dq o3.at' ?_
 have y4:=y3.thenRd hb0 ((s.cxN cxN).next+(0+0))
 simp only[Ao,A8 Dh (by decide)]
 refine aD Be (h23.same rfl rfl).at' ?_
 have y5:=y4.thenRd hb0 (R+(0+2))
 refine W.alloc Rz λs6 n6 x6 o6=> ?_
 have y6:=y5.then0 x6 hb0
 have n6':s6.next=s3.next+2:=n6
 have o6':Own s6 s3.next 0 (.int .i64 0):=o6 0 _ rfl
 refine aI (b:=s3.next) (o:=0) Be rfl o6' λs7 n7 x7 o7=> ?_
 have y7:Ext Any Non (s.cxN cxN) s7:=y6.trans x7 hb0 (λ_ _ _=>trivial) λy hy h=>by
  have h1:=h.1
  have h2:=y3.nxt
  omega
 have hb7:=y7.bnd hb0
 have n7':s7.next=s.next+4:=by omega
 have oA:Own s7 s3.next 0 (.int .i64 at0):=o7
 have oB:Own s7 s.next 0 (.pointer (some ⟨R,0,none⟩)):=by
  refine((((o3.same (s':=s3.rdN ((s.cxN cxN).next+(0+0))) rfl rfl).same (s':=(s3.rdN ((s.cxN cxN).next+(0+0))).rdN (R+(0+2))) rfl rfl).ext0 x6).ext x7 λh=> ?_)
  have h1:=h.1
  omega
 refine LL_.w Yn_ (by omega) ?_
 simp only[Zp,Ac,W_oS,W_on,Aa,aA,Ag,Af,Ae,Nat.reduceEqDiff, ↓reduceIte]
 refine W.defer' y7.cx λs8 hs8=> ?_
 have c8:s8.cx= .cx none (some [{target:= .fn (.func 136) [.pointer (some ⟨s3.next,0,none⟩), .pointer (some ⟨s.next,0,none⟩)].toArray,args:=[].toArray++[].toArray}]):=by rw[hs8];rfl
 have m8:s8.mem=s7.mem:=by rw[hs8];rfl
 have n8:s8.next=s7.next:=by rw[hs8];rfl
 have b8:s8.lim<=s8.next:=by rw[hs8];exact hb7
 have y8:Ext Any Non (s.cxN cxN) (s8.cxN cxN):=by
  have:s8.cxN cxN=s7.cxN cxN:=by rw[hs8];rfl
  rw[this]
  exact y7.cxs cxN cxN
 have oA8:=oA.same m8 n8
 have oB8:=oB.same m8 n8
 have hRb: ∀k u,Own s R k u->R+k<s.next:=λk u h=>h.1
 have r2:=hRb 2 _ h2
 have r3:=hRb 3 _ h3
 obtain⟨u4,h4⟩:=h4
 have r4:=hRb 4 _ h4
 have s3n:s3.next=s.next+2:=n3'
 have hbody:Try.f136.body=some PQ:=by kernel_rfl
 rcases run (n-1-1-1-1-1-1) s8 (by omega) b8 y8 with hw|hp
 ·refine IF_.w ZG (by omega) ?_
  simp only[QA,Ac,W_on,Aa,W_mv,aA,Af,Nat.reduceEqDiff, ↓reduceIte,k1]
  rw[Qq_]
  refine hw.mono λu s9 h=> ?_
  obtain⟨x9,hΦ⟩:=h
  have c9:s9.cx=s8.cx:=x9.cx
  have y9:Ext Any G (s.cxN cxN) (s9.cxN cxN):=(y8.weak hb0 (λ_ _ h=>h) λ_ _ h=>h.elim).trans (x9.cxs cxN cxN) hb0 (λ_ _ _=>trivial) λ_ _ h=>h
  refine W.toR XU_ (.inr (by kernel_rfl)) (by omega) ?_
  refine W.leaveD' (md:= .returning) (by omega) (by simp) (c9.trans c8) rfl MF hbody rfl rfl (by simp) ?_
  refine Akg_ (y9.bnd hb0) rfl rfl (by omega) ⟨rfl,by simp, ?_⟩
  refine W.outR (by omega) Ot Ve rfl (aM ?_)
  exact q1 _ s9 _ hΦ rfl rfl (y9.cxs s.cx s.cx)
 ·refine IF_.p ZG (by omega) (Wx.p ?_)
  simp only[QA,BH,BU,BK,Ca,aA,Af,Nat.reduceEqDiff, ↓reduceIte,k1]
  rw[AgV_]
  refine .inr (hp.mono λc s9 h=> ?_)
  obtain⟨e,pos,rfl,he,x9,h29,hΨ⟩:=h
  have c9:s9.cx=s8.cx:=x9.cx
  have y9:Ext Any G (s.cxN cxN) (s9.cxN cxN):=(y8.weak hb0 (λ_ _ h=>h) λ_ _ h=>h.elim).trans (x9.cxs cxN cxN) hb0 (λ_ _ _=>trivial) λ_ _ h=>h
  have oA9:Own s9 s3.next 0 (.int .i64 at0):=oA8.ext x9 λh=>by have:=(hG _ h).1;omega
  have oB9:Own s9 s.next 0 (.pointer (some ⟨R,0,none⟩)):=oB8.ext x9 λh=>by have:=(hG _ h).1;omega
  have h39:Own s9 R 3 (.int .i64 0):=((h3.same (s':=s.cxN cxN) rfl rfl).ext y9 λh=>(hG _ h).2.1 rfl).same rfl rfl
  have h49:Own s9 R 4 u4:=((h4.same (s':=s.cxN cxN) rfl rfl).ext y9 λh=>(hG _ h).2.2 rfl).same rfl rfl
  obtain⟨u2,h29⟩:=h29
  refine W.leaveD' (md:= .returning) (by omega) (by simp) (c9.trans c8) rfl MF hbody rfl rfl (by simp) ?_
  refine Nk_ (s:=s9.cxN _) (e:=e) (pos:=pos) (at0:=at0) (y9.bnd hb0) rfl (oA9.same rfl rfl) (oB9.same rfl rfl) (by omega) (by omega) ⟨u2,h29.same rfl rfl⟩ ⟨_,h39.same rfl rfl⟩ ⟨_,h49.same rfl rfl⟩ (by omega) λs10 x10 g2 g3 g4=>⟨rfl,by simp, ?_⟩
  refine W.outR (by omega) Ot Ve rfl (aM ?_)
  have y10:Ext Any (λx=>G x\/RdG R x) (s.cxN cxN) (s10.cxN cxN):=(y9.weak hb0 (λ_ _ h=>h) λ_ _ h=> .inl h).trans x10 hb0 (λ_ _ _=>trivial) λ_ _ h=> .inr h
  exact q2 _ s9 _ e pos he hΨ x10 (y10.cxs s.cx s.cx) (g2.same rfl rfl) (g3.same rfl rfl) (g4.same rfl rfl)
end
section
variable {parts:List (Value×List Nat)}{b o c:Nat}
end
section
variable {parts:List (Value×List Nat)}{b o c:Nat}
structure AlR (s0:St)(parts:List (Value×List Nat))(s:St)(vb ve vh:Value)(b1 b2 b3:Nat):Prop where
 mb:MkS s 1 (Eu (parts.map (·.2))).length (u8l (Eu (parts.map (·.2)))) vb b1
 me:MkS s 1 parts.length (Je_ (Sj 0 (parts.map (·.2)))) ve b2
 mh:MkS s 18 parts.length (Cj (RX 0 (parts.map (·.2)))) vh b3
 n1:s0.next<=b1
 n2:s0.next<=b2
 n3:s0.next<=b3
 d12: ∀x,MkF 1 (Eu (parts.map (·.2))).length b1 x-> ¬MkF 1 parts.length b2 x
 d13: ∀x,MkF 1 (Eu (parts.map (·.2))).length b1 x-> ¬MkF 18 parts.length b3 x
 d23: ∀x,MkF 1 parts.length b2 x-> ¬MkF 18 parts.length b3 x
 sm: ∀p∈parts,1<=p.2.length/\p.2.length<=1024
 le:parts.length<=20
 tt:tot parts<=4000
end
section
variable {E:Env}{s:St}{t:Nat}{xo yo:Operand}
theorem Py_ (m n:Nat)(hn:1<=n):Cl.get (aBin E .rem t xo yo) (.int .i64 (.negSucc m)) (.int .i64 (n:Nat)) s= .some (.int .i64 ((Int.negSucc m).tmod (n:Nat))) s:=by
 show Bi E .rem t xo yo (.int .i64 (.negSucc m)) (.int .i64 (n:Nat)) s=_
 show M.on (semP E.P (do eqGuard .rem t xo yo (.int .i64 (.negSucc m)) (.int .i64 (n:Nat));binOp .rem t (.int .i64 (.negSucc m)) (.int .i64 (n:Nat)))) pV s=_
 have e:semP E.P (do eqGuard .rem t xo yo (.int .i64 (.negSucc m)) (.int .i64 (n:Nat));binOp .rem t (.int .i64 (.negSucc m)) (.int .i64 (n:Nat)))=some (.int .i64 ((Int.negSucc m).tmod (n:Nat))):=by
  show semP E.P (Op.intDiv .rem .i64 (.negSucc m) (n:Nat))=_
  unfold Op.intDiv
  rw[if_neg (by omega)]
  rfl
 rw[e]
 generalize (Int.negSucc m).tmod (n:Nat)=y
 have hp: ∀y:Int,pV (.int .i64 y) s= .some (.int .i64 y) s:=λy=>by
  cases y with
  |ofNat k=>first|rfl|(cases k<;>rfl)
  |negSucc k=>first|rfl|(cases k<;>rfl)
 exact hp y
theorem AcM_ {x:Int}{n:Nat}(hn:1<=n)(Q:Value->St->Prop):W (Cl.get (aBin E .rem t xo yo) (.int .i64 x) (.int .i64 (n:Nat))) s Q=Q (.int .i64 (x.tmod (n:Nat))) s:=by
 cases x with
 |ofNat m=>exact Bd (AY_ m n hn xo yo)
 |negSucc m=>exact Bd (Py_ m n hn)
theorem Aku_ {k:Nat}(hk:k<8)(Q:Value->St->Prop):W (Cl.get (aBin E .shl t xo yo) (.int .u8 1) (.int .i64 (k:Nat))) s Q=Q (.int .u8 (2^k:Nat)) s:=by
 refine Bd ?_
 match k,hk with
 |0,_=>rfl
 |1,_=>rfl
 |2,_=>rfl
 |3,_=>rfl
 |4,_=>rfl
 |5,_=>rfl
 |6,_=>rfl
 |7,_=>rfl
theorem AjI_ {m n:Nat}(h:m^^^n<256)(Q:Value->St->Prop):W (Cl.get (aBin E .xor t xo yo) (.int .u8 (m:Nat)) (.int .u8 (n:Nat))) s Q=Q (.int .u8 (m^^^n:Nat)) s:=by
 refine Bd ?_
 show int3 xorK (Bi E .xor t xo yo) (.int .u8 (.ofNat m)) (.int .u8 (.ofNat n)) s=_
 show Option.rec (motive:=λ_=>R Value) _ (λv=> .some v s) (xorK .u8 .u8 m n)=_
 have e:xorK .u8 .u8 m n=some (.int .u8 (m^^^n:Nat)):=by
  unfold xorK Cb
  rw[Nat.beq_refl]
  show fitI .u8 (m^^^n)=_
  unfold fitI
  rw[Nat.ble_eq_true_of_le (show m^^^n<=mxOf .u8 by show m^^^n<=255;omega)]
  show mkI .u8 (m^^^n)=_
  unfold mkI
  rw[AY]
  rfl
 rw[e]
end
theorem Jq_ {n m:Nat}{x:Int}{s:St}{Q:Value->St->Prop}(hm:1<=m)(hm2:m<=1000000)(hn:20<=n)(q: ∀r:Nat,r<m->Q (.int .i64 (r:Nat)) s):W (Ay envS (runF envS n) 33 [.int .i64 x, .int .i64 (m:Nat)]) s Q:=by
 refine AeH_ λtm h0 h1=> ?_
 refine Aar_.w rfl (by omega) ?_
 simp -implicitDefEqProofs only[Ya,Aa,W_mv,Ab]
 refine NA_.w Abx_ (by omega) ?_
 simp -implicitDefEqProofs only[WF,Ac,W_oS,Aa,W_mv,Ab,aA,Nat.reduceEqDiff, ↓reduceIte,Bg,h1]
 refine W.cond (v:=false) NW_ Abg_ (by simp[aA];omega) (by omega) (λh=>by cases h) λ_=> ?_
 refine AcJ_.w Yi_ (by omega) ?_
 simp -implicitDefEqProofs only[Iq_,Ac,W_oS,Aa,W_mv,Ab,aA,Nat.reduceEqDiff,reduceCtorEq, ↓reduceIte,h0,h1,AcM_ hm]
 have b1:x.tmod (m:Nat)<(m:Nat):=Int.tmod_lt_of_pos x (by omega)
 have b2: -(m:Nat)<x.tmod (m:Nat):=by
  have:=Int.lt_tmod_of_pos x (b:=(m:Nat)) (by omega)
  omega
 generalize x.tmod (m:Nat)=y at *
 refine YX_.w XM_ (by omega) ?_
 simp -implicitDefEqProofs only[Bt_,Ac,W_oS,Aa,W_mv,Ab,aA,↓reduceIte,Bg]
 have fin: ∀(n1:Nat) (tm1:T Value) (td:List Item) (r:Nat),10<=n1->r<m->skim 64 td=Ix->T.get tm1 0=some (.int .i64 (r:Nat))->W (runF envS n1 ⟨33,ZQ_,E3,tm1,td, .run, .normal,none⟩) (s.cxN cxN) λp s1=>Q p.1 (s1.cxN s.cx):=λn1 tm1 td r hn1 hr hT g0=>by
  refine Kt_.w hT (by omega) ?_
  simp -implicitDefEqProofs only[Az_,Aa,W_mv,Ab,g0]
  refine aG (rs:=[4]) (vs:=[.int .i64 (r:Nat)]) AiZ_ (.inl Alk_) (by omega) WG AeE_ rfl (by simp[aA]) ?_
  exact q r hr
 by_cases hy:y<0
 ·refine W.cond (v:=true) Wu XW (by simp[aA];exact hy) (by omega) (λ_=> ?_) λh=>by cases h
  refine PQ_.w Agd_ (by omega) ?_
  simp -implicitDefEqProofs only[W6,Ac,W_oS,Aa,W_mv,Ab,aA,Nat.reduceEqDiff,reduceCtorEq, ↓reduceIte,BG,h1]
  obtain⟨r,hr⟩: ∃r:Nat,y+(m:Nat)=(r:Nat):=⟨(y+(m:Nat)).toNat,by omega⟩
  rw[Bq (by omega) (by omega),hr]
  exact fin _ _ _ r (by omega) (by omega) Xc_ (by simp[aA])
 ·refine W.cond (v:=false) Wu XW (by simp[aA];omega) (by omega) (λh=>by cases h) λ_=> ?_
  obtain⟨r,hr⟩: ∃r:Nat,y=(r:Nat):=⟨y.toNat,by omega⟩
  subst hr
  exact fin _ _ _ r (by omega) (by omega) AjK_ (by simp[aA])
section
variable {E:Env}{s s':St}{t:Nat}{xo yo:Operand}
theorem AhU_ (m n:Nat)(hn:1<=n)(hm:m<=9223372036854775807):Cl.get (aBin E .quo t xo yo) (.int .i64 (m:Nat)) (.int .i64 (n:Nat)) s= .some (.int .i64 (m/n:Nat)) s:=by
 show int3 quoK (Bi E .quo t xo yo) (.int .i64 (.ofNat m)) (.int .i64 (.ofNat n)) s=_
 show Option.rec (motive:=λ_=>R Value) _ (λv=> .some v s) (quoK .i64 .i64 m n)=_
 have:quoK .i64 .i64 m n=some (.int .i64 (m/n:Nat)):=by
  unfold quoK Cb
  rw[Nat.beq_refl,Nat.ble_eq_true_of_le hn]
  exact Pw (Nat.le_trans (Nat.div_le_self m n) hm)
 rw[this]
theorem Xv {m:Nat}(hm:m<=9223372036854775807)(Q:Value->St->Prop):W (Cl.get (aBin E .quo t xo yo) (.int .i64 (m:Nat)) (.int .i64 8)) s Q=Q (.int .i64 (m/8:Nat)) s:=Bd (AhU_ m 8 (by decide) hm)
theorem Om_ {m:Nat}(Q:Value->St->Prop):W (Cl.get (aBin E .rem t xo yo) (.int .i64 (m:Nat)) (.int .i64 8)) s Q=Q (.int .i64 (m%8:Nat)) s:=AeO_ (n:=8) (by decide) Q
theorem MkS.bs {l:List Nat}{v:Value}{b:Nat}(h:MkS s 1 l.length (u8l l) v b)(hn:l.length<capU):Bs s v l:=by
 rcases h with⟨rfl,h0,_⟩|⟨h,_⟩
 ·exact .inl ⟨rfl,List.eq_nil_of_length_eq_zero h0⟩
 ·refine .inr ⟨b,0,_,h.val, ?_,Hz hn (by decide),λi u e=>(h.own i u e).at'⟩
  rw[Nat.mul_add_mod,Nat.mod_eq_of_lt hn]
  exact Nat.le_refl _
theorem MkS.bsF {n:Nat}{l:List Value}{v:Value}{b:Nat}(h:MkS s 1 n l v b): ∀x,BsF v x->MkF 1 n b x:=by
 intro x hx
 rcases h with⟨rfl,_,_⟩|⟨h,h0⟩
 ·exact hx.elim
 ·rw[h.val]at hx
  have h1:b+0<=x:=hx.1
  have h2:x<b+0+n:=hx.2
  exact⟨h0,by omega,by omega⟩
theorem MkS.put {l:List Nat}{k x:Nat}{v:Value}{b:Nat}{G:Nat->Prop}(h:MkS s 1 l.length (u8l l) v b)(hk:k<l.length)(hn:s'.next=s.next)(e:Ext G (In b k 1) s s')(ho:Own s' b k (.int .u8 (x:Nat))):MkS s' 1 (l.set k x).length (u8l (l.set k x)) v b:=by
 rw[List.length_set]
 rcases h with⟨_,h0,_⟩|⟨h,h0⟩
 ·omega
 ·refine .inr ⟨⟨h.val,λi u hi=> ?_, ?_, ?_,by rw[hn];exact h.lt⟩,h0⟩
  ·by_cases hik:i=k
   ·subst hik
    unfold u8l at hi
    rw[List.getElem?_map,List.getElem?_set_self hk]at hi
    have:u= .int .u8 (x:Nat):=by injection hi with hi;exact hi.symm
    subst this
    rwa [Nat.zero_add]
   ·have hi':(u8l l)[i]?=some u:=by
     unfold u8l at hi ⊢
     rw[List.getElem?_map,List.getElem?_set_ne (λq=>hik q.symm)]at hi
     rw[List.getElem?_map]
     exact hi
    exact(h.own i u hi').ext e λq=>by
     have h1:=In1.1 q
     omega
  ·rw[Bu,List.length_set,Nat.mul_one]
  ·have hlt:b+l.length*1<s.next:=h.lt
   rw[e.mem _ hlt λq=>by have h1:=In1.1 q;omega]
   exact h.tok
theorem MkS.get {l:List Nat}{k:Nat}{v:Value}{b:Nat}(h:MkS s 1 l.length (u8l l) v b)(hk:k<l.length): ∃c,v= .slice (some ⟨b,0,none⟩) l.length c/\Own s b k (.int .u8 (l.getD k 0:Nat)):=by
 rcases h with⟨_,h0,_⟩|⟨h,h0⟩
 ·omega
 ·refine⟨_,h.val, ?_⟩
  have:=h.own k (.int .u8 (l.getD k 0:Nat)) (by
   unfold u8l
   rw[List.getElem?_map,List.getElem?_eq_getElem hk,List.getD_eq_getElem?_getD,List.getElem?_eq_getElem hk]
   rfl)
  rwa [Nat.zero_add]at this
end
section
variable {parts:List (Value×List Nat)}{b o c:Nat}
end
end Go.Proofs.Ytofanlcjeohcjaa.Am
