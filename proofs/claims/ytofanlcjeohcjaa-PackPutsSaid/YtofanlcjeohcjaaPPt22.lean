import Derived.Test.YtofanlcjeohcjaaPPt20
import Derived.Test.YtofanlcjeohcjaaPPt21
import Derived.Test.YtofanlcjeohcjaaPPt09
import Derived.Test.YtofanlcjeohcjaaPPt17
import Derived.Test.YtofanlcjeohcjaaPPt08
namespace Go.Proofs.Ytofanlcjeohcjaa.Am
open Go.RowKit
theorem If:D9 envS 179=some (List.replicate 64 (.int .u32 0)):=by kernel_rfl
theorem FG:tyS envS 179=some (64,true):=by kernel_rfl
theorem CN:arrN envS 179=some (64,1):=by kernel_rfl
theorem BG:tyS envS 51=some (1,false):=by kernel_rfl
def w32 (l:List Nat):List Value:=l.map fun n=> .int .u32 (n:Nat)
theorem B1 (l:List Nat):(w32 l).length=l.length:=List.length_map ..
theorem Du {l:List Nat}{i:Nat}(h:i<l.length):(w32 l)[i]?=some (.int .u32 (l.getD i 0:Nat)):=by
 unfold w32
 rw[List.getElem?_map,List.getElem?_eq_getElem h,List.getD_eq_getElem?_getD,List.getElem?_eq_getElem h]
 rfl
theorem Ah.set {F:Nat→Prop}{s s':St}{b o i:Nat}{l:List Value}{v:Value}(h:Ah s b o l)(e:Ext F (In b (o+i) 1) s s')(k:Own s' b (o+i) v):Ah s' b o (l.set i v):=fun j u hj=>by
 rw[List.getElem?_set]at hj
 by_cases hij:i=j
 ·subst hij
  rw[if_pos rfl]at hj
  split at hj
  ·cases hj
   exact k
  ·cases hj
 ·rw[if_neg hij]at hj
  exact(h j u hj).ext e fun hx=>hij (by have h1:=hx.1;have h2:=hx.2;omega)
theorem PR (l:List Nat)(i x:Nat):(w32 l).set i (.int .u32 (x:Nat))=w32 (l.set i x):=by
 unfold w32
 rw[List.map_set]
section
variable {E:Env}{t:Nat}{xo yo:Operand}{γ:Type}{f:Value×OpLog→M γ}{mem:T Cell}{next:Nat}{Q:γ→St→Prop}
theorem Kx {c:Nat}:W (M.bind (apartO (Bu envS 5 51 (.int .u8 (c:Nat)))) f) (dSt mem next) Q=W (f (.int .u32 (c%4294967296:Nat),⟨next,next,[],[]⟩)) (dSt mem next) Q:=by
 rw[W_dq fun s Q=>Da (s:=s) WI YM Q,wrap_u32]
theorem KN {i:Nat}(h:4*i≤9223372036854775807):W (M.bind (apartO (Cl.get (aBin E .mul t xo yo) (.int .i64 4) (.int .i64 (i:Nat)))) f) (dSt mem next) Q=W (f (.int .i64 (4*i:Nat),⟨next,next,[],[]⟩)) (dSt mem next) Q:=W_dq fun _ Q=>Zb h Q
theorem K6 {b o c k len:Nat}{kd:IntKind}(hk:k<len):W (M.bind (apartO (A9 envS 22 (.slice (some ⟨b,o,none⟩) len c) (.int kd (k:Nat)))) f) (dSt mem next) Q=W (f (.pointer (some ⟨b,o+k*1,none⟩),⟨next,next,[],[]⟩)) (dSt mem next) Q:=W_dq fun _ Q=>GO BA hk Q
theorem Bl {call:Aa}{round:Aa}{i:Int}{n x:Nat}(k:Nat)(e:i=(k:Nat))(hk:k≤32)(hc:call=AJ envS (runF envS n))(hx:x<4294967296)(hn:10≤n):W (M.bind (apartO (Bi call round (.func (.func 148) #[] #[]) [.int .u32 (x:Nat), .int .i64 i])) f) (dSt mem next) Q=W (f (.int .u32 (rot x k:Nat),⟨next,next,[],[]⟩)) (dSt mem next) Q:=by
 subst e;subst hc
 refine W_dq fun s Q=> ?_
 rw[Ak]
 exact By (Kz_ hk hx hn s)
end
theorem On_ {a b c d:Nat}(ha:a<256)(hb:b<256)(hc:c<256)(hd:d<256):(((a%4294967296)<<<24%4294967296|||(b%4294967296)<<<16%4294967296)%4294967296|||(c%4294967296)<<<8%4294967296)%4294967296|||d%4294967296=Sha.be a b c d:=by
 unfold Sha.be
 rw[Nat.mod_eq_of_lt (show a<4294967296 by omega),Nat.mod_eq_of_lt (show b<4294967296 by omega),Nat.mod_eq_of_lt (show c<4294967296 by omega),Nat.mod_eq_of_lt (show d<4294967296 by omega),Nat.shiftLeft_eq,Nat.shiftLeft_eq,Nat.shiftLeft_eq,
  Nat.mod_eq_of_lt (show a*2^24<4294967296 by omega),Nat.mod_eq_of_lt (show b*2^16<4294967296 by omega),Nat.mod_eq_of_lt (show c*2^8<4294967296 by omega),Nat.mod_eq_of_lt (Sha.or_lt (show a*2^24<4294967296 by omega) (show b*2^16<4294967296 by omega)),Nat.mod_eq_of_lt (Sha.or_lt (Sha.or_lt (show a*2^24<4294967296 by omega) (show b*2^16<4294967296 by omega)) (show c*2^8<4294967296 by omega))]
section
variable {b o cc B C:Nat}{l:List Nat}{Q:Value×FrameMode→St→Prop}{s0:St}
theorem FX_ (hb0:s0.lim≤s0.next)(hBl:s0.lim≤B)(hrow:Row s0 b o (u8l l))(hdis: ∀x,In b o 64 x→ ¬In B 0 64 x)(hl64:l.length=64)(hby:Byt l): ∀(k i n:Nat) (tm:T Value) (s:St) (td:List Item) (ws:List Nat),i+k=16→6*k+30≤n→skim 64 td=FT→Ext (In b o 64) (In B 0 64) s0 s→Ah s B 0 (w32 ws)→ws.length=64→(∀j,j<i→ws.getD j 0=Sha.sch (fun j=>l.getD j 0) j)→
  T.get tm 0=some (.slice (some ⟨b,o,none⟩) 64 cc)→T.get tm 2=some (.pointer (some ⟨C,0,none⟩))→T.get tm 3=some (.pointer (some ⟨B,0,none⟩))→T.get tm 4=some (.int .i64 (i:Nat))→
  (∀n' tm' s1 td' ws',n≤n'+6*k+10→skim 64 td'=H3→Ext (In b o 64) (In B 0 64) s0 s1→Ah s1 B 0 (w32 ws')→ws'.length=64→(∀j,j<16→ws'.getD j 0=Sha.sch (fun j=>l.getD j 0) j)→T.get tm' 2=some (.pointer (some ⟨C,0,none⟩))→T.get tm' 3=some (.pointer (some ⟨B,0,none⟩))→W (runF envS n' ⟨146,KZ,Ci,tm',td', .run, .normal,none⟩) s1 Q)→
  W (runF envS n ⟨146,KZ,Ci,tm,td, .run, .normal,none⟩) s Q:=by
 intro k
 induction k with
 |zero=>
  intro i n tm s td ws hi hn hT hx ho hw hws h0 h2 h3 h4 q
  refine WX.w hT (by omega) ?_
  simp only[QN,Ac,W_oS,W_on,Ab,W_mv,Ad,As,T.get_set,Ag,Af,Aq,Ap,Ae,Ak,reduceIte,An,Ar,Ay,AA,Av,Aw,Ax,Az,Au,Ao,Nat.reduceEqDiff,reduceCtorEq, ↓reduceIte,A7,Bd,A8,Bc,Bm,Bj,Bg,Bk,h4]
  refine W.cond (v:=false) Us U6 (by simp[T.get_set];omega) (by omega) (fun h=>by cases h) fun _=> ?_
  obtain rfl:i=16:=by omega
  exact q _ _ _ _ ws (by omega) Vx_ hx ho hw hws (by simp[T.get_set,h2]) (by simp[T.get_set,h3])
 |succ k ih=>
  intro i n tm s td ws hi hn hT hx ho hw hws h0 h2 h3 h4 q
  refine WX.w hT (by omega) ?_
  simp only[QN,Ac,W_oS,W_on,Ab,W_mv,Ad,As,T.get_set,Ag,Af,Aq,Ap,Ae,Ak,reduceIte,An,Ar,Ay,AA,Av,Aw,Ax,Az,Au,Ao,Nat.reduceEqDiff,reduceCtorEq, ↓reduceIte,A7,Bd,A8,Bc,Bm,Bj,Bg,Bk,h4]
  refine W.cond (v:=true) Us U6 (by simp[T.get_set];omega) (by omega) (fun _=> ?_) fun h=>by cases h
  have hat: ∀j,j<64→At s b (o+j*1) (.int .u8 (l.getD j 0:Nat)):=fun j hj=>by
   have h1:At s0 b (o+j) (.int .u8 (l.getD j 0:Nat)):=hrow j _ (by unfold u8l;rw[List.getElem?_map,List.getD_eq_getElem?_getD,List.getElem?_eq_getElem (by omega)];rfl)
   rw[Nat.mul_one]
   exact h1.ext hx (hdis _ ⟨by omega,by omega⟩)
  have hc: ∀j,l.getD j 0<256:=fun j=>by
   rw[List.getD_eq_getElem?_getD]
   cases h:l[j]? with
   |none=>exact(by decide:0<256)
   |some x=>exact hby x (List.mem_of_getElem? h)
  obtain⟨F,hF⟩: ∃F:Nat→Prop,F=In b o 64:=⟨_,rfl⟩
  have w1:wrap64 (((4*i:Nat):Int)+1)=((4*i+1:Nat):Int):=by rw[BB (by omega) (by omega)];simp
  have w2:wrap64 (((4*i:Nat):Int)+2)=((4*i+2:Nat):Int):=by rw[BB (by omega) (by omega)];simp
  have w3:wrap64 (((4*i:Nat):Int)+3)=((4*i+3:Nat):Int):=by rw[BB (by omega) (by omega)];simp
  refine Qr_.rd (F:=F) OU_ (by omega) ?_
  simp only[Al_,T.get_set,Nat.reduceEqDiff, ↓reduceIte,h0,h3,h4,Bq,Bh,KN (show 4*i≤9223372036854775807 by omega),K6 (show 4*i<64 by omega)]
  refine W.dload DO ((hat (4*i) (by omega)).same rfl rfl) fun rd0 hr0=> ?_
  simp only[Bq,Bh,Kx,K5 (i:=24) 24 rfl (by decide),KN (show 4*i≤9223372036854775807 by omega),K8,w1,K6 (show 4*i+1<64 by omega)]
  refine W.dload DO ((hat (4*i+1) (by omega)).same rfl rfl) fun rd1 hr1=> ?_
  simp only[Bq,Bh,Kx,K5 (i:=16) 16 rfl (by decide),JO,KN (show 4*i≤9223372036854775807 by omega),K8,w2,K6 (show 4*i+2<64 by omega)]
  refine W.dload DO ((hat (4*i+2) (by omega)).same rfl rfl) fun rd2 hr2=> ?_
  simp only[Bq,Bh,Kx,K5 (i:=8) 8 rfl (by decide),JO,KN (show 4*i≤9223372036854775807 by omega),K8,w3,K6 (show 4*i+3<64 by omega)]
  refine W.dload DO ((hat (4*i+3) (by omega)).same rfl rfl) fun rd3 hr3=> ?_
  simp only[Bq,Bh,Kx,JO,Aj (i:=((i:Nat):Int)) (k:=i) rfl CN (show i<64 by omega)]
  have l0: ∀x∈rd0,F x:=fun x hx=>by rw[hF,hr0 x hx];exact⟨by omega,by omega⟩
  have l1: ∀x∈rd1,F x:=fun x hx=>by rw[hF,hr1 x hx];exact⟨by omega,by omega⟩
  have l2: ∀x∈rd2,F x:=fun x hx=>by rw[hF,hr2 x hx];exact⟨by omega,by omega⟩
  have l3: ∀x∈rd3,F x:=fun x hx=>by rw[hF,hr3 x hx];exact⟨by omega,by omega⟩
  rw[On_ (hc _) (hc _) (hc _) (hc _),Nat.mod_eq_of_lt (Sha.be_lt (hc _) (hc _) (hc _) (hc _)),←Sha.sch_lo (B:=fun j=>l.getD j 0) (show i<16 by omega),Ab]
  refine⟨rfl,by simp, ?_,fun s' m' n' x'=> ?_⟩
  ·dsimp only
   simp only[List.forall_mem_cons]
   repeat' apply And.intro
   all_goals first|trivial|assumption|(intro x hx;cases hx)
  refine W.cast (Ni_ ..) ?_
  simp only[Ac,W_oS,W_on,Ab,W_mv,Ad,As,T.get_set,Ag,Af,Aq,Ap,Ae,Ak,reduceIte,An,Ar,Ay,AA,Av,Aw,Ax,Az,Au,Ao,Nat.reduceEqDiff,reduceCtorEq, ↓reduceIte]
  have hb':s.lim≤s.next:=hx.bnd hb0
  have hx':Ext (In b o 64) (In B 0 64) s0 s':=hx.trans x' hb0 (fun y _ h=>by rw[hF]at h;exact h) fun _ _ h=>h.elim
  have ho':Ah s' B 0 (w32 ws):=fun j v e=>(ho j v e).ext x' id
  have hown:=ho' i _ (Du (show i<ws.length by omega))
  refine W.store1 (o:=0+i*1) BG rfl (by rw[Nat.mul_one];exact hown) fun s2 n2 x2 o2=> ?_
  rw[Nat.mul_one]at x2 o2
  have ho2:Ah s2 B 0 (w32 (ws.set i (Sha.sch (fun j=>l.getD j 0) i))):=by
   rw[←PR]
   exact ho'.set x2 o2
  have hx2:Ext (In b o 64) (In B 0 64) s0 s2:=hx'.trans x2 hb0 (fun y hy h=>by have h1:B+(0+i)≤y:=h.1;omega) fun y _ h=>by
   have h1:B+(0+i)≤y:=h.1
   have h2:y<B+(0+i)+1:=h.2
   exact⟨by omega,by omega⟩
  refine EL_.w VN_ (by omega) ?_
  have ei:wrap64 ((i:Nat)+1:Int)=((i+1:Nat):Int):=by
   rw[BB (by omega) (by omega)];simp
  simp only[SC,Ac,W_oS,W_on,Ab,W_mv,Ad,As,T.get_set,Ag,Af,Aq,Ap,Ae,Ak,reduceIte,An,Ar,Ay,AA,Av,Aw,Ax,Az,Au,Ao,Nat.reduceEqDiff,reduceCtorEq, ↓reduceIte,A7,Bd,A8,Bc,Bm,Bj,Bg,Bk,h4,ei]
  refine ih (i+1) _ _ _ _ (ws.set i (Sha.sch (fun j=>l.getD j 0) i)) (by omega) (by omega) AU_ hx2 ho2 (by rw[List.length_set];exact hw) (fun j hj=> ?_) (by simp[T.get_set,h0]) (by simp[T.get_set,h2]) (by simp[T.get_set,h3]) (by simp[T.get_set]) fun n' tm' s3 td' ws' e=>q n' tm' s3 td' ws' (by omega)
  rw[List.getD_eq_getElem?_getD,List.getElem?_set]
  by_cases hij:i=j
  ·subst hij
   rw[if_pos rfl,if_pos (by omega)]
   rfl
  ·rw[if_neg hij,←List.getD_eq_getElem?_getD]
   exact hws j (by omega)
end
theorem LX_ (s:St):Bu envS 22 9 (.slice none 0 0) s= .some (.string (txt [])) s:=by kernel_rfl
theorem W.strA {v:Value}{l:List Nat}{s:St}{Q:Value→St→Prop}(h:Bs s v l)(q: ∀s1,s1.mem=s.mem→s1.next=s.next→Ext (BsF v) Non s s1→Q (.string (txt l)) s1):W (Bu envS 22 9 v) s Q:=by
 rcases h with⟨rfl,rfl⟩|⟨b,o,c,rfl,h1,h2,h3⟩
 ·exact W.of (LX_ s) (q s rfl rfl (Ext.refl _))
 ·exact W.str (.inr ⟨b,o,c,rfl,h1,h2,h3⟩) (.inr ⟨b,o,c,rfl⟩) Le_ VW_ q
theorem Vb {va vb:Value}{l:List Nat}{n:Nat}{s:St}{Q:Value→St→Prop}(hbd:s.lim≤s.next)(ha:Bs s va l)(hb:Bs s vb l)(hn:20≤n)
  (q: ∀s1,Ext (fun x=>BsF va x∨BsF vb x) Non s s1→s1.mem=s.mem→s1.next=s.next→Q (.bool true) s1):W (AJ envS (runF envS n) 19 [va,vb]) s Q:=by
 refine OW_ fun tm h0 h1=> ?_
 have ha':Bs (s.cxN cxN) va l:=ha.same rfl rfl
 have hb':Bs (s.cxN cxN) vb l:=hb.same rfl rfl
 refine GH_.w rfl (by omega) ?_
 simp only[Zu,Ac,W_oS,W_on,Ab,W_mv,Ad,As,T.get_set,Ag,Af,Aq,Ap,Ae,Ak,reduceIte,An,Ar,Ay,AA,Av,Aw,Ax,Az,Au,Ao,Nat.reduceEqDiff,reduceCtorEq, ↓reduceIte]
 refine OI_.w FG_ (by omega) ?_
 simp only[Uq,Ac,W_oS,W_on,Ab,W_mv,Ad,As,T.get_set,Ag,Af,Aq,Ap,Ae,Ak,reduceIte,An,Ar,Ay,AA,Av,Aw,Ax,Az,Au,Ao,Nat.reduceEqDiff,reduceCtorEq, ↓reduceIte,h0,h1]
 refine W.strA ha' fun sa ma na xa=> ?_
 try simp only[Ac,W_oS,W_on,Ab,W_mv,Ad,As,T.get_set,Ag,Af,Aq,Ap,Ae,Ak,reduceIte,An,Ar,Ay,AA,Av,Aw,Ax,Az,Au,Ao,Nat.reduceEqDiff,reduceCtorEq, ↓reduceIte]
 refine W.strA (hb'.same ma na) fun sb mb nb xb=> ?_
 have hx:Ext (fun x=>BsF va x∨BsF vb x) Non (s.cxN cxN) sb:=(xa.weak hbd (fun _ _ h=> .inl h) fun _ _ h=>h).step xb hbd (fun _ _ h=> .inr h) fun _ h=>h.elim
 simp only[Ac,W_oS,W_on,Ab,W_mv,Ad,As,T.get_set,Ag,Af,Aq,Ap,Ae,Ak,reduceIte,An,Ar,Ay,AA,Av,Aw,Ax,Az,Au,Ao,Nat.reduceEqDiff,reduceCtorEq, ↓reduceIte,Ss_,beq_self_eq_true]
 refine W.end' (rs:=[4]) (vs:=[.bool true]) Jy_ (.inl Tp_) (by omega) ZE OR_ hx.cx (by simp[T.get_set]) ?_
 exact q _ hx.cx' (mb.trans ma) (nb.trans na)
theorem KY_ {v:Value}{l:List Nat}{nb n:Nat}{s:St}{Q:Value→St→Prop}(hbd:s.lim≤s.next)(h:MkG s v l nb)(h0:0<l.length)(hl:l.length≤16777216)
  (q: ∀s1,Ext (In nb 0 (l.length+1)) (In nb 0 (l.length+1)) s s1→Q (.tuple #[]) s1):W (AJ envS (runF envS n) 22 [v]) s Q:=by
 refine W.orc (m:=En) (by kernel_rfl) ?_
 rw[h.val]
 show W (F3 ⟨nb,0,none⟩ l.length (capU*((nb+l.length)*1024+1)+l.length)) s Q
 have hlt:l.length<capU:=Bt (by omega)
 obtain⟨hd,hm⟩:=enc (q:=(nb+l.length)*1024+1) hlt
 obtain⟨hd2,hm2⟩:=enc2 (m:=nb+l.length) (sz:=1) (by decide)
 unfold F3
 refine W.chk ?_ (W.bind ?_)
 ·show(Nat.blt 0 l.length&&Nat.ble l.length 16777216&&Nat.beq ((capU*((nb+l.length)*1024+1)+l.length)%capU) l.length&&Nat.beq ((capU*((nb+l.length)*1024+1)+l.length)/capU%1024) 1)=true
  rw[hm,hd,hm2,BU h0,Nat.ble_eq_true_of_le hl,Nat.beq_refl]
  rfl
 have hr:Row s nb 0 (u8l l):=h.own.row
 have hle:(u8l l).length=l.length:=Be l
 rw[←hle]
 refine W.rdL hr fun s1 m1 n1 x1=>W.chk ?_ (W.bind ?_)
 ·rw[List.all_eq_true]
  intro x hx
  obtain⟨y,_,rfl⟩:=List.mem_map.1 hx
  rfl
 rw[hle]at x1 ⊢
 show W (Am.rdC ((capU*((nb+l.length)*1024+1)+l.length)/capU/1024)) s1 _
 rw[hd,hd2]
 refine W.rdC (c:= .O (.tok false 1025)) (by rw[m1];exact h.tok) (by rw[n1];exact h.lt) ?_
 show W (M.chk (Nat.beq 1025 1025) (M.bind (Am.wrC ((capU*((nb+l.length)*1024+1)+l.length)/capU/1024) (.O (.tok true 1))) fun _=>M.bind (CO l.length (Nat.add nb 0)) fun _=>M.pure (.tuple #[]))) _ Q
 rw[hd,hd2]
 refine W.chk rfl (W.bind (W.wrC (by show nb+l.length<s1.next;rw[n1];exact h.lt) (W.bind ?_)))
 generalize hs3:((s1.rdN (nb+l.length)).wrN (nb+l.length) (.O (.tok true 1)))=s3
 have xa:Ext (In nb 0 (l.length+1)) (In nb 0 (l.length+1)) s s1:=x1.weak hbd (fun y _ h=>⟨h.1,by have:=h.2;omega⟩) fun _ _ h=>h.elim
 have hn1:s1.next=s.next:=n1
 have x3:Ext (In nb 0 (l.length+1)) (In nb 0 (l.length+1)) s s3:=by
  rw[←hs3]
  refine(xa.trans (Ext.rdN (F:=In nb 0 (l.length+1)) (G:=Non) s1 _ fun _=>⟨by omega,by omega⟩) hbd (fun _ _ h=>h) fun _ _ h=>h.elim).trans (Ext.wrN (F:=In nb 0 (l.length+1)) _ _ _ (⟨by omega,by omega⟩:In nb 0 (l.length+1) (nb+l.length))) hbd (fun _ _ h=>h) fun _ _ h=>h
 have n3:s3.next=s.next:=by rw[←hs3];exact hn1
 have hll:=h.lt
 obtain⟨s4,e4,n4,x4⟩:=Qo l.length (nb+0) s3 (x3.bnd hbd) (by omega)
 refine W.of e4 (W.pure (q s4 (x3.trans x4 hbd (fun _ _ h=>h.elim) fun y _ h=>⟨h.1,by have:=h.2;omega⟩)))
def CF (b:List Nat):List Nat:=b++[160+b.length%90,160+(b.length+1)%90,160+(b.length+2)%90]
theorem IW (b:List Nat):(CF b).length=b.length+3:=by simp[CF]
def J7 (l:List Nat)(i:Nat):Nat→List Nat
 |0=>l
 |k+1=>J7 (l.set i (160+i%90)) (i+1) k
theorem Lz_ (b:List Nat):J7 (b++[0,0,0]) b.length 3=CF b:=by
 simp only[J7,CF]
 rw[List.set_append_right _ _ (by omega),List.set_append_right _ _ (by omega),List.set_append_right _ _ (by omega)]
 simp[show b.length+1+1-b.length=2 by omega]
theorem MO_:hasT envS 3=true:=by kernel_rfl
theorem La_ {E:Env}{t:Nat}{s:St}{xo yo:Operand}{m:Nat}(Q:Value→St→Prop):W (Cl.get (aBin E .rem t xo yo) (.int .i64 (m:Nat)) (.int .i64 90)) s Q=Q (.int .i64 (m%90:Nat)) s:=KF (n:=90) (by decide) Q
theorem QV_ {L N:Nat}{s0:St}{w:Value}{Q:Value×FrameMode→St→Prop}(hb0:s0.lim≤s0.next)(hL:s0.next≤L)(hN:N≤1000000): ∀(k i n:Nat) (l:List Nat) (tm:T Value) (s:St) (td:List Item),i+k=N→l.length=N→5*k+10≤n→skim 64 td=FI→Ext Any Non s0 s→Ah s L 0 (u8l l)→
  T.get tm 0=some w→T.get tm 3=some (.slice (some ⟨L,0,none⟩) N N)→T.get tm 4=some (.int .i64 (i:Nat))→
  (∀n' tm' s1 td',5≤n'→skim 64 td'=Jn→Ext Any Non s0 s1→Ah s1 L 0 (u8l (J7 l i k))→T.get tm' 0=some w→T.get tm' 3=some (.slice (some ⟨L,0,none⟩) N N)→W (runF envS n' ⟨16,WC,DL,tm',td', .run, .normal,none⟩) s1 Q)→
  W (runF envS n ⟨16,WC,DL,tm,td, .run, .normal,none⟩) s Q:=by
 intro k
 induction k with
 |zero=>
  intro i n l tm s td hi hl hn hT hx ho h0 h3 h4 q
  refine RO.w hT (by omega) ?_
  simp only[QV,Ac,W_oS,W_on,Ab,W_mv,Ad,As,T.get_set,Ag,Af,Aq,Ap,Ae,Ak,reduceIte,An,Ar,Ay,AA,Av,Aw,Ax,Az,Au,Ao,Nat.reduceEqDiff,reduceCtorEq, ↓reduceIte,A7,Bd,A8,Bc,Bm,Bj,Bg,Bk,h3,h4,Ch BA]
  refine W.cond (v:=false) Aq_ VL (by simp[T.get_set];omega) (by omega) (fun h=>by cases h) fun _=> ?_
  exact q _ _ _ _ (by omega) Je_ hx ho (by simp[T.get_set,h0]) (by simp[T.get_set,h3])
 |succ k ih=>
  intro i n l tm s td hi hl hn hT hx ho h0 h3 h4 q
  refine RO.w hT (by omega) ?_
  simp only[QV,Ac,W_oS,W_on,Ab,W_mv,Ad,As,T.get_set,Ag,Af,Aq,Ap,Ae,Ak,reduceIte,An,Ar,Ay,AA,Av,Aw,Ax,Az,Au,Ao,Nat.reduceEqDiff,reduceCtorEq, ↓reduceIte,A7,Bd,A8,Bc,Bm,Bj,Bg,Bk,h3,h4,Ch BA]
  refine W.cond (v:=true) Aq_ VL (by simp[T.get_set];omega) (by omega) (fun _=> ?_) fun h=>by cases h
  refine PC_.w OP_ (by omega) ?_
  have e1:wrap64 ((160:Int)+((i%90:Nat):Int))=((160+i%90:Nat):Int):=by
   rw[BB (by omega) (by omega)];simp
  simp only[XL,Ac,W_oS,W_on,Ab,W_mv,Ad,As,T.get_set,Ag,Af,Aq,Ap,Ae,Ak,reduceIte,An,Ar,Ay,AA,Av,Aw,Ax,Az,Au,Ao,Nat.reduceEqDiff,reduceCtorEq, ↓reduceIte,A7,Bd,A8,Bc,Bm,Bj,Bg,Bk,h3,h4,La_,e1,Da MO_ Dp,wrap_u8,GO BA (show i<N by omega)]
  have e2:(160+i%90)%256=160+i%90:=by omega
  rw[e2]
  have hO:Own s L (0+i*1) (u8 l[i]):=by
   rw[Nat.mul_one]
   exact ho i _ (by rw[List.getElem?_map,List.getElem?_eq_getElem (by omega)];rfl)
  refine W.store1 DO rfl hO fun s1 n1 x1 o1=> ?_
  have ho1:Ah s1 L 0 (u8l (l.set i (160+i%90))):=by
   have:=Ah.set (o:=0) (i:=i) ho (by rw[Nat.mul_one]at x1;exact x1) (by rw[Nat.mul_one]at o1;exact o1)
   unfold u8l
   rw[List.map_set]
   exact this
  refine PR_.w Dn_ (by omega) ?_
  have e3:wrap64 ((i:Nat)+1:Int)=((i+1:Nat):Int):=by
   rw[BB (by omega) (by omega)];simp
  simp only[TP,Ac,W_oS,W_on,Ab,W_mv,Ad,As,T.get_set,Ag,Af,Aq,Ap,Ae,Ak,reduceIte,An,Ar,Ay,AA,Av,Aw,Ax,Az,Au,Ao,Nat.reduceEqDiff,reduceCtorEq, ↓reduceIte,A7,Bd,A8,Bc,Bm,Bj,Bg,Bk,h4,e3]
  exact ih (i+1) _ _ _ _ _ (by omega) (by rw[List.length_set];exact hl) (by omega) Lg_ (hx.thenW x1 hb0 hL) ho1 (by simp[T.get_set,h0]) (by simp[T.get_set,h3]) (by simp[T.get_set]) fun n' tm' s2 td'=>q n' tm' s2 td'
theorem XK {v:Value}{b:List Nat}{n:Nat}{s:St}{Q:Value→St→Prop}(hbd:s.lim≤s.next)(hb:Bs s v b)(hz:b.length≤100000)(hn:60≤n)
  (q: ∀s1,Ext Any Non s s1→Ah s1 s.next 0 (u8l (CF b))→s.next+b.length+3≤s1.next→Q (.slice (some ⟨s.next,0,none⟩) b.length (b.length+3)) s1):W (AJ envS (runF envS n) 16 [v]) s Q:=by
 refine Ff_ fun tm h0=> ?_
 have hb0:(s.cxN cxN).lim≤(s.cxN cxN).next:=hbd
 have hb':Bs (s.cxN cxN) v b:=hb.same rfl rfl
 refine Pz_.w rfl (by omega) ?_
 simp only[Z3,Ac,W_oS,W_on,Ab,W_mv,Ad,As,T.get_set,Ag,Af,Aq,Ap,Ae,Ak,reduceIte,An,Ar,Ay,AA,Av,Aw,Ax,Az,Au,Ao,Nat.reduceEqDiff,reduceCtorEq, ↓reduceIte]
 refine LU_.w Ed_ (by omega) ?_
 simp only[Xc,Ac,W_oS,W_on,Ab,W_mv,Ad,As,T.get_set,Ag,Af,Aq,Ap,Ae,Ak,reduceIte,An,Ar,Ay,AA,Av,Aw,Ax,Az,Au,Ao,Nat.reduceEqDiff,reduceCtorEq, ↓reduceIte,A7,Bd,A8,Bc,Bm,Bj,Bg,Bk,h0]
 rw[hb'.len BA]
 have e1:wrap64 (((b.length:Nat):Int)+3)=((b.length+3:Nat):Int):=by
  rw[BB (by omega) (by omega)];simp
 simp only[Ac,W_oS,W_on,Ab,W_mv,Ad,As,T.get_set,Ag,Af,Aq,Ap,Ae,Ak,reduceIte,An,Ar,Ay,AA,Av,Aw,Ax,Az,Au,Ao,Nat.reduceEqDiff,reduceCtorEq, ↓reduceIte,A7,Bd,A8,Bc,Bm,Bj,Bg,Bk,e1]
 refine W.mkSl CK (Nat.le_refl _) (by omega) fun sa na xa oa=> ?_
 rw[GU]at oa na
 rw[List.length_replicate]at na
 have na':sa.next=s.next+(b.length+3)+1:=na
 have oa':Ah sa s.next 0 (List.replicate (b.length+3) (.int .u8 0)):=oa
 have y1:Ext Any Non (s.cxN cxN) sa:=(Ext.refl _).then0 xa hb0
 refine LE_.w Ji_ (by omega) ?_
 simp only[Zq,Ac,W_oS,W_on,Ab,W_mv,Ad,As,T.get_set,Ag,Af,Aq,Ap,Ae,Ak,reduceIte,An,Ar,Ay,AA,Av,Aw,Ax,Az,Au,Ao,Nat.reduceEqDiff,reduceCtorEq, ↓reduceIte,A7,Bd,A8,Bc,Bm,Bj,Bg,Bk,h0]
 have hsrc:=(hb'.ext0 xa).src
 obtain⟨p,c,rfl⟩:=hb.sl
 refine W.copy (k:=b.length) (l:=u8l b) CK (by show b.length=min (b.length+3) b.length;omega) hsrc.2 (by rw[Be,Nat.mul_one]) (BY _) (fun i hi=> ?_) fun sb nb xb ob=> ?_
 ·exact⟨_,oa' i (.int .u8 0) (by rw[List.getElem?_replicate,if_pos (by omega)])⟩
 have nb':sb.next=sa.next:=nb
 have hob:Ah sb s.next 0 (u8l (b++[0,0,0])):=by
  unfold u8l
  rw[List.map_append]
  refine Ah.append ob fun i u e=> ?_
  have hi:i<3:=(List.getElem?_eq_some_iff.1 e).1
  have hu:u= .int .u8 0:=by
   match i,hi,e with
   |0,_,e=>cases e;rfl
   |1,_,e=>cases e;rfl
   |2,_,e=>cases e;rfl
  subst hu
  rw[List.length_map]
  refine Own.ext (s:=sa) ?_ xb fun h=>by have h2:_<s.next+0+b.length*1:=h.2;omega
  have:=oa' (b.length+i) (.int .u8 0) (by rw[List.getElem?_replicate,if_pos (by omega)])
  rwa [show 0+b.length+i=0+(b.length+i) by omega]
 have y2:Ext Any Non (s.cxN cxN) sb:=y1.trans xb hb0 (fun _ _ _=>trivial) fun y hy h=>by
  have h1:s.next+0≤y:=h.1
  have h2:y<s.next:=hy
  omega
 refine Cy_.w Ww_ (by omega) ?_
 simp only[RG,Ac,W_oS,W_on,Ab,W_mv,Ad,As,T.get_set,Ag,Af,Aq,Ap,Ae,Ak,reduceIte,An,Ar,Ay,AA,Av,Aw,Ax,Az,Au,Ao,Nat.reduceEqDiff,reduceCtorEq, ↓reduceIte,A7,Bd,A8,Bc,Bm,Bj,Bg,Bk,h0,Ch BA]
 refine QV_ (L:=s.next) (N:=b.length+3) (w:= .slice p b.length c) (s0:=s.cxN cxN) hb0 (Nat.le_refl _) (by omega) 3 b.length _ (b++[0,0,0]) _ sb _ (by omega) (by simp) (by omega) JT_ y2 hob (by simp[T.get_set,h0]) (by simp[T.get_set]) (by simp[T.get_set]) fun n1 tm1 s1 td1 hn1 hT1 y3 ho g0 g3=> ?_
 refine PJ_.w hT1 (by omega) ?_
 simp only[Zo,Ac,W_oS,W_on,Ab,W_mv,Ad,As,T.get_set,Ag,Af,Aq,Ap,Ae,Ak,reduceIte,An,Ar,Ay,AA,Av,Aw,Ax,Az,Au,Ao,Nat.reduceEqDiff,reduceCtorEq, ↓reduceIte,A7,Bd,A8,Bc,Bm,Bj,Bg,Bk,g0,g3,Ch BA]
 rw[IG (l:=0) (h:=b.length) BA rfl rfl (Nat.zero_le _) (by rw[Nat.mod_eq_of_lt (Bt (by omega))];omega) (D3 (Bt (by omega)))]
 try simp only[Ac,W_oS,W_on,Ab,W_mv,Ad,As,T.get_set,Ag,Af,Aq,Ap,Ae,Ak,reduceIte,An,Ar,Ay,AA,Av,Aw,Ax,Az,Au,Ao,Nat.reduceEqDiff,reduceCtorEq, ↓reduceIte]
 rw[if_pos (by rw[Nat.mod_eq_of_lt (Bt (by omega))];omega)]
 refine W.end' (rs:=[2]) (vs:=[.slice (some ⟨s.next,0,none⟩) b.length (b.length+3)]) LQ_ (.inl VR_) (by omega) T2 Kq_ y3.cx (by simp[T.get_set]) ?_
 rw[Lz_]at ho
 refine q _ y3.cx' (fun i u e=>(ho i u e).same rfl rfl) ?_
 have hl:(u8l (CF b)).length=b.length+3:=by rw[Be,IW]
 have:=(ho (b.length+2) _ (List.getElem?_eq_getElem (by rw[hl];omega))).1
 show s.next+b.length+3≤s1.next
 omega
theorem Hz_ {E:Env}{t:Nat}{s:St}{sz n c:Nat}{a:Addr}(h:slN E t=some sz)(hc:c<capU)(Q:Value→St→Prop):W (A6 E .cap [t] [.slice (some a) n c]) s Q=Q (.int .i64 (c:Nat)) s:=by
 obtain⟨i,e,ie,h1,h2,h3,h4⟩:=Hb h
 refine By ?_
 show aCap E t (.slice (some a) n c) s=_
 unfold aCap
 rw[Bw (show ti E t s= .some i s by unfold ti;rw[h1];rfl)]
 simp only[h2]
 rw[BU hc]
 show pN c s=_
 unfold pN
 rw[AY]
 rfl
theorem DA_ {v:Value}{b:List Nat}{L n:Nat}{s:St}{Q:Value→St→Prop}(hbd:s.lim≤s.next)(hb:Bs s v b)(hz:b.length≤100000)(hL:Row s L 0 (u8l (CF b)))(hn:100≤n)
  (q: ∀s1,Ext Any Non s s1→Q (.bool true) s1):W (AJ envS (runF envS n) 23 [.slice (some ⟨L,0,none⟩) b.length (b.length+3),v]) s Q:=by
 refine Wj_ fun tm h0 h1=> ?_
 have hb0:(s.cxN cxN).lim≤(s.cxN cxN).next:=hbd
 refine UK_.w rfl (by omega) ?_
 simp only[Wf,Ac,W_oS,W_on,Ab,W_mv,Ad,As,T.get_set,Ag,Af,Aq,Ap,Ae,Ak,reduceIte,An,Ar,Ay,AA,Av,Aw,Ax,Az,Au,Ao,Nat.reduceEqDiff,reduceCtorEq, ↓reduceIte]
 refine Vn_.w Rz_ (by omega) ?_
 have hU:b.length+3<capU:=Bt (by omega)
 have hmod:(b.length+3)%capU=b.length+3:=Nat.mod_eq_of_lt hU
 have e1:wrap64 (((b.length:Nat):Int)+3)=((b.length+3:Nat):Int):=by
  rw[BB (by omega) (by omega)];simp
 have hlen: ∀(s:St) (Q:Value→St→Prop),W (A6 envS .len [22] [v]) s Q=Q (.int .i64 (b.length:Nat)) s:=fun s Q=>by
  obtain⟨p,c,rfl⟩:=hb.sl
  exact Ch BA Q
 simp only[ZZ,T.get_set,Nat.reduceEqDiff, ↓reduceIte,h0,h1,Bq,BL,Ag,Af,Ae,XS,Bh]
 rw[W_dq fun s Q=>Ch BA Q]
 simp only[Bh]
 rw[W_dq hlen]
 simp only[Bh]
 rw[W_dq fun s Q=>Bg _ _]
 simp only[decide_true,An,Ar,Nn_,if_t,Bh]
 rw[W_dq fun s Q=>Hz_ BA hU Q]
 simp only[Bh]
 rw[W_dq fun s Q=>IG (s:=s) (l:=0) (h:=b.length+3) BA rfl rfl (Nat.zero_le _) (by rw[hmod];exact Nat.le_refl _) (D3 hU) Q]
 rw[if_pos (by rw[hmod];omega)]
 simp only[Bh]
 refine W.dop (XK (s:=oSt s.mem s.next) (Nat.le_refl _) (hb.same rfl rfl) hz (by omega) fun s1 x1 o1 l1=>⟨_,x1,fun rd1 hr1=> ?_⟩)
 simp only[Bh]
 rw[W_dq hlen]
 simp only[Bh]
 rw[W_dq fun s Q=>A7 (s:=s) _ _,e1]
 rw[W_dq fun s Q=>IG (s:=s) (l:=0) (h:=b.length+3) BA rfl rfl (Nat.zero_le _) (by rw[hmod];exact Nat.le_refl _) (D3 hU) Q]
 rw[if_pos (by rw[hmod];omega)]
 have o1':Ah s1 s.next 0 (u8l (CF b)):=o1
 have hsub: ∀(s2:St) (B:Nat),Row s2 B 0 (u8l (CF b))→Bs s2 (.slice (some ⟨B,0+0*1,none⟩) (b.length+3-0) (b.length+3-0)) (CF b):=fun s2 B h=> .inr ⟨B,0,b.length+3,by rw[IW,Nat.zero_mul,Nat.sub_zero],by rw[hmod,IW];exact Nat.le_refl _,D3 hU,h⟩
 refine W.dop (Vb (s:=oSt s1.mem s1.next) (Nat.le_refl _) (hsub _ L fun i u e=>((((hL i u e).same (s':=oSt s.mem s.next) rfl rfl).ext0 x1).same rfl rfl)) (hsub _ s.next fun i u e=>((o1' i u e).same (s':=oSt s1.mem s1.next) rfl rfl).at') (by omega) fun s2 x2 m2 n2=>⟨_,x2,fun rd2 hr2=> ?_⟩)
 rw[W_dq fun s Q=>Au (s:=s) _ _ _ _]
 simp only[reduceIte,Bh,As,Ab]
 have hn1:s.next≤s1.next:=x1.nxt
 have hn2:s2.next=s1.next:=n2
 refine⟨Nc ?_, ?_⟩
 ·simp only[List.reverse_cons,List.reverse_nil,List.nil_append,List.cons_append,allP,EL,List.take,Jj]
  simp+contextual [hn2]
  exact .inl rfl
 ·refine W.cast (SU_ ..) ?_
  simp only[Ac,W_oS,W_on,Ab,W_mv,Ad,As,T.get_set,Ag,Af,Aq,Ap,Ae,Ak,reduceIte,An,Ar,Ay,AA,Av,Aw,Ax,Az,Au,Ao,Nat.reduceEqDiff,reduceCtorEq, ↓reduceIte]
  generalize hs3:(⟨(dSt s2.mem s2.next).mem,(dSt s2.mem s2.next).next,(s.cxN cxN).lim,_,_,(s.cxN cxN).cx⟩:St)=s3
  have hx:Ext Any Non (s.cxN cxN) s3:=by
   rw[←hs3]
   refine Ext.draw (by show s.next≤s2.next;omega) (fun x hx=> ?_) ?_ fun _ _ _ _ _=>trivial
   ·have e2:T.get s1.mem x=T.get s.mem x:=x1.mem x hx id
    have e3:T.get s2.mem x=T.get s1.mem x:=x2.mem x (by show x<s1.next;exact Nat.lt_of_lt_of_le hx hn1) id
    exact e3.trans e2
   ·simp
  refine W.end' (rs:=[4]) (vs:=[.bool true]) Ug_ (.inl En_) (by omega) XG TS_ hx.cx (by simp[T.get_set]) ?_
  exact q _ hx.cx'
def blk (x:List Nat)(q:Nat):List Nat:=(x.take (64*q+64)).drop (64*q)
def CT (x:List Nat):Nat→Sha.St8
 |0=>De
 |q+1=>Sha.next (CT x q) fun j=>(blk x q).getD j 0
theorem Hk_ {x y:List Nat}{q:Nat}(h:64*q+64≤x.length):blk (x++y) q=blk x q:=by
 unfold blk
 rw[List.take_append_of_le_length h]
theorem PX {x y:List Nat}: ∀{q:Nat},64*q≤x.length→CT (x++y) q=CT x q
 |0,_=>rfl
 |q+1,h=>by
  unfold CT
  rw[PX (q:=q) (by omega),Hk_ (by omega)]
theorem FD_ (x:List Nat): ∀q,(CT x q).Ok
 |0=>Xv
 |q+1=>Sha.plus_ok _ _
structure Told8 (d:DS)(x:List Nat):Prop where
 n:d.n=x.length
 len:d.w.length=64
 st:d.st=CT x (x.length/64)
 w:d.w.take (x.length%64)=x.drop (64*(x.length/64))
theorem Told8.new:Told8 DS.new []:=⟨rfl,by simp[DS.new],rfl,rfl⟩
theorem Told8.step {d:DS}{x b:List Nat}(h:Told8 d x):Told8 (d.step b) (x++b.take (d.k b)):=by
 obtain⟨hn,hl,hs,hw⟩:=h
 have hm:x.length%64<64:=Nat.mod_lt _ (by decide)
 have hq:x.length=64*(x.length/64)+x.length%64:=by omega
 generalize hqe:x.length/64=q at *
 generalize hme:x.length%64=m at *
 have hdm:d.n%64=m:=by rw[hn,hme]
 have hk:d.k b=Nat.min (64-m) b.length:=by unfold DS.k;rw[hdm]
 have hk1:d.k b≤64-m:=by rw[hk];exact Nat.min_le_left _ _
 have hk2:d.k b≤b.length:=by rw[hk];exact Nat.min_le_right _ _
 have hkc:d.k b=64-m∨d.k b=b.length:=by
  rw[hk]
  rcases Nat.le_total (64-m) b.length with h|h
  ·exact .inl (Nat.min_eq_left h)
  ·exact .inr (Nat.min_eq_right h)
 have htl:(b.take (d.k b)).length=d.k b:=by rw[List.length_take];omega
 have hxl:(x++b.take (d.k b)).length=64*q+(m+d.k b):=by rw[List.length_append,htl];omega
 have hdl:(d.w.take m).length=m:=by rw[List.length_take];omega
 have hdrop:(x++b.take (d.k b)).drop (64*q)=d.w.take m++b.take (d.k b):=by
  rw[List.drop_append_of_le_length (by omega),hw]
 have hw':d.w' b=d.w.take m++(b.take (d.k b)++d.w.drop (m+d.k b)):=by unfold DS.w';rw[hdm]
 have hwl:(d.w' b).length=64:=by
  rw[hw',List.length_append,List.length_append,hdl,htl,List.length_drop]
  omega
 refine⟨?_,hwl, ?_, ?_⟩
 ·show d.n+d.k b=_
  rw[hxl,hn]
  omega
 ·show(if d.n%64+d.k b=64 then Sha.next d.st (fun j=>(d.w' b).getD j 0)else d.st)=_
  rw[hdm,hxl]
  by_cases he:m+d.k b=64
  ·rw[if_pos he,he,show(64*q+64)/64=q+1 by omega]
   show _=Sha.next (CT (x++b.take (d.k b)) q) fun j=>(blk (x++b.take (d.k b)) q).getD j 0
   have e1:blk (x++b.take (d.k b)) q=d.w' b:=by
    unfold blk
    rw[List.take_of_length_le (by rw[hxl,he];exact Nat.le_refl _),hdrop,hw',he,List.drop_of_length_le (by rw[hl];exact Nat.le_refl _),List.append_nil]
   rw[e1,PX (by omega),hs]
  ·rw[if_neg he,show(64*q+(m+d.k b))/64=q by omega,PX (by omega),hs]
 ·rw[hxl]
  show(d.w' b).take _=_
  by_cases he:m+d.k b=64
  ·rw[he,show(64*q+64)%64=0 by omega,show(64*q+64)/64=q+1 by omega,List.take_zero,List.drop_of_length_le (by rw[hxl];omega)]
  ·rw[show(64*q+(m+d.k b))%64=m+d.k b by omega,show(64*q+(m+d.k b))/64=q by omega,hdrop,hw',←List.append_assoc,List.take_append_of_le_length (by rw[List.length_append,hdl,htl];exact Nat.le_refl _)]
   exact List.take_of_length_le (by rw[List.length_append,hdl,htl];exact Nat.le_refl _)
theorem Told8.write: ∀(f:Nat) {d:DS} {x b:List Nat},b.length≤f→Told8 d x→Told8 (DS.write f d b) (x++b)
 |0,d,x,b,hf,h=>by
  obtain rfl:b=[]:=List.eq_nil_of_length_eq_zero (by omega)
  rw[List.append_nil]
  exact h
 |f+1,d,x,b,hf,h=>by
  unfold DS.write
  by_cases hb:b.length=0
  ·obtain rfl:b=[]:=List.eq_nil_of_length_eq_zero hb
   rw[if_pos (show([]:List Nat).length=0 from rfl),List.append_nil]
   exact h
  ·rw[if_neg hb]
   have hk0:0<d.k b:=by
    have hm:d.n%64<64:=Nat.mod_lt _ (by decide)
    unfold DS.k
    exact Nat.lt_min.2 ⟨by omega,by omega⟩
   have:=Told8.write f (b:=b.drop (d.k b)) (by rw[List.length_drop];omega) (h.step (b:=b))
   rw[List.append_assoc,List.take_append_drop]at this
   exact this
def padB (n:Nat):List Nat:=128::List.replicate ((119-n%64)%64) 0++tl8 (8*n) 8
def Dj (b:List Nat):List Nat:=b++padB b.length
theorem To_ (n:Nat):(padB n).length=(119-n%64)%64+9:=by
 unfold padB
 rw[List.length_append,List.length_cons,List.length_replicate,Oq]
theorem Zp (b:List Nat):(Dj b).length=64*((b.length+72)/64):=by
 unfold Dj
 rw[List.length_append,To_]
 omega
theorem Jq_ (n:Nat):Byt (padB n):=fun x hx=>by
 rcases List.mem_append.1 hx with hx|hx
 ·rcases List.mem_cons.1 hx with rfl|hx
  ·decide
  ·rw[List.mem_replicate]at hx;omega
 ·exact OH _ _ x hx
theorem OE_ {b:List Nat}(h:Byt b):Byt (Dj b):=fun x hx=>by
 rcases List.mem_append.1 hx with hx|hx
 ·exact h x hx
 ·exact Jq_ _ x hx
theorem RI_ (b:List Nat):sumB b=outs (st8L (CT (Dj b) ((b.length+72)/64))):=by
 unfold sumB DS.sum DS.fin
 have h1:Told8 (DS.write b.length DS.new b) b:=Told8.write b.length (Nat.le_refl _) Told8.new
 generalize DS.write b.length DS.new b=d at *
 have hp:d.pad=padB b.length:=by
  unfold DS.pad DS.pad0 padB
  rw[h1.n]
 have h2:Told8 (DS.write d.pad.length d d.pad) (b++d.pad):=Told8.write _ (Nat.le_refl _) h1
 rw[h2.st,hp]
 have e:(b++padB b.length).length/64=(b.length+72)/64:=by
  have:=Zp b
  unfold Dj at this
  rw[this]
  omega
 rw[e]
 rfl
theorem xm32 {a b:Nat}(ha:a<4294967296)(hb:b<4294967296):(a^^^b)%4294967296=a^^^b:=Nat.mod_eq_of_lt (Sha.xor_lt ha hb)
theorem HX_ {x:Nat}(hx:x<4294967296):((rot x 7^^^rot x 18)%4294967296^^^x>>>3)%4294967296=Sha.s0 x:=by
 have h3:x>>>3<4294967296:=MI hx 3
 rw[xm32 (Bz x 7 hx) (Bz x 18 hx),xm32 (Sha.xor_lt (Bz x 7 hx) (Bz x 18 hx)) h3,Nat.shiftRight_eq_div_pow]
 rfl
theorem Tl_ {x:Nat}(hx:x<4294967296):((rot x 17^^^rot x 19)%4294967296^^^x>>>10)%4294967296=Sha.s1 x:=by
 have h3:x>>>10<4294967296:=MI hx 10
 rw[xm32 (Bz x 17 hx) (Bz x 19 hx),xm32 (Sha.xor_lt (Bz x 17 hx) (Bz x 19 hx)) h3,Nat.shiftRight_eq_div_pow]
 rfl
def schL (f:Nat→Nat):List Nat:=(List.range 64).map (Sha.sch f)
theorem KR_ {f:Nat→Nat}{ws:List Nat}(hl:ws.length=64)(h: ∀j,j<64→ws.getD j 0=Sha.sch f j):ws=schL f:=by
 apply List.ext_getElem?
 intro j
 unfold schL
 rw[List.getElem?_map]
 by_cases hj:j<64
 ·have:=h j hj
  rw[List.getD_eq_getElem?_getD,List.getElem?_eq_getElem (by omega)]at this
  rw[List.getElem?_eq_getElem (by omega),List.getElem?_range hj]
  exact congrArg some this
 ·rw[List.getElem?_eq_none (by omega),List.getElem?_eq_none (by simp;omega)]
  rfl
section
variable {B C:Nat}{f:Nat→Nat}{Q:Value×FrameMode→St→Prop}{s0:St}
theorem Gw_ (hb0:s0.lim≤s0.next)(hBl:s0.lim≤B)(hf: ∀j,f j<256): ∀(k i n:Nat) (tm:T Value) (s:St) (td:List Item) (ws:List Nat),i+k=64→16≤i→8*k+30≤n→skim 64 td=HJ→Ext Non (In B 0 64) s0 s→Ah s B 0 (w32 ws)→ws.length=64→(∀j,j<i→ws.getD j 0=Sha.sch f j)→
  T.get tm 2=some (.pointer (some ⟨C,0,none⟩))→T.get tm 3=some (.pointer (some ⟨B,0,none⟩))→T.get tm 5=some (.int .i64 (i:Nat))→
  (∀n' tm' s1 td',n≤n'+8*k+10→skim 64 td'=H4→Ext Non (In B 0 64) s0 s1→Ah s1 B 0 (w32 (schL f))→T.get tm' 2=some (.pointer (some ⟨C,0,none⟩))→T.get tm' 3=some (.pointer (some ⟨B,0,none⟩))→W (runF envS n' ⟨146,KZ,Ci,tm',td', .run, .normal,none⟩) s1 Q)→
  W (runF envS n ⟨146,KZ,Ci,tm,td, .run, .normal,none⟩) s Q:=by
 intro k
 induction k with
 |zero=>
  intro i n tm s td ws hi hi16 hn hT hx ho hw hws h2 h3 h5 q
  refine Vq.w hT (by omega) ?_
  simp only[PN,Ac,W_oS,W_on,Ab,W_mv,Ad,As,T.get_set,Ag,Af,Aq,Ap,Ae,Ak,reduceIte,An,Ar,Ay,AA,Av,Aw,Ax,Az,Au,Ao,Nat.reduceEqDiff,reduceCtorEq, ↓reduceIte,A7,Bd,A8,Bc,Bm,Bj,Bg,Bk,h5]
  refine W.cond (v:=false) Xe TW (by simp[T.get_set];omega) (by omega) (fun h=>by cases h) fun _=> ?_
  obtain rfl:i=64:=by omega
  rw[KR_ hw hws]at ho
  exact q _ _ _ _ (by omega) OK_ hx ho (by simp[T.get_set,h2]) (by simp[T.get_set,h3])
 |succ k ih=>
  intro i n tm s td ws hi hi16 hn hT hx ho hw hws h2 h3 h5 q
  refine Vq.w hT (by omega) ?_
  simp only[PN,Ac,W_oS,W_on,Ab,W_mv,Ad,As,T.get_set,Ag,Af,Aq,Ap,Ae,Ak,reduceIte,An,Ar,Ay,AA,Av,Aw,Ax,Az,Au,Ao,Nat.reduceEqDiff,reduceCtorEq, ↓reduceIte,A7,Bd,A8,Bc,Bm,Bj,Bg,Bk,h5]
  refine W.cond (v:=true) Xe TW (by simp[T.get_set];omega) (by omega) (fun _=> ?_) fun h=>by cases h
  have hb:s.lim≤s.next:=hx.bnd hb0
  have hat: ∀{s':St} (j:Nat),Ah s' B 0 (w32 ws)→j<i→At (dSt s'.mem s'.next) B (0+j*1) (.int .u32 (Sha.sch f j:Nat)):=fun{s'} j ho hj=>by
   have h1:=ho j _ (Du (show j<ws.length by omega))
   rw[hws j hj]at h1
   rw[Nat.mul_one]
   exact h1.at'.same rfl rfl
  obtain⟨F,hF⟩: ∃F:Nat→Prop,F=In B 0 64:=⟨_,rfl⟩
  have w15:wrap64 ((i:Nat)-15:Int)=((i-15:Nat):Int):=by rw[BB (by omega) (by omega)];omega
  have w2:wrap64 ((i:Nat)-2:Int)=((i-2:Nat):Int):=by rw[BB (by omega) (by omega)];omega
  have w16:wrap64 ((i:Nat)-16:Int)=((i-16:Nat):Int):=by rw[BB (by omega) (by omega)];omega
  have w7:wrap64 ((i:Nat)-7:Int)=((i-7:Nat):Int):=by rw[BB (by omega) (by omega)];omega
  have hwk: ∀{F':Nat→Prop} {s':St},Ext F Non s s'→Ext Non (In B 0 64) s0 s':=fun x'=>hx.trans x' hb0 (fun y hy h=>by rw[hF]at h;have h1:=h.1;omega) fun _ _ h=>h.elim
  refine IX_.rd (F:=F) Ih_ (by omega) ?_
  simp only[U0,T.get_set,Nat.reduceEqDiff, ↓reduceIte,h3,h5,Bq,Bh,Gf,w15,Aj (i:=((i-15:Nat):Int)) (k:=i-15) rfl CN (show i-15<64 by omega)]
  refine W.dload BG (hat (i-15) ho (by omega)) fun rd0 hr0=> ?_
  simp only[T.get_set,Nat.reduceEqDiff, ↓reduceIte,h3,h5,Bq,Bh,Gf,w2,Aj (i:=((i-2:Nat):Int)) (k:=i-2) rfl CN (show i-2<64 by omega)]
  refine W.dload BG (hat (i-2) ho (by omega)) fun rd1 hr1=> ?_
  simp only[Bq,Bh,As]
  rw[Ab]
  have l0: ∀x∈rd0,F x:=fun x hx=>by rw[hF,hr0 x hx];exact⟨by omega,by omega⟩
  have l1: ∀x∈rd1,F x:=fun x hx=>by rw[hF,hr1 x hx];exact⟨by omega,by omega⟩
  refine⟨rfl,by simp, ?_,fun s' m' n' x'=> ?_⟩
  ·dsimp only
   simp only[List.forall_mem_cons]
   repeat' apply And.intro
   all_goals first|trivial|assumption|(intro x hx;cases hx)
  refine W.cast (Gt_ ..) ?_
  simp only[Ac,W_oS,W_on,Ab,W_mv,Ad,As,T.get_set,Ag,Af,Aq,Ap,Ae,Ak,reduceIte,An,Ar,Ay,AA,Av,Aw,Ax,Az,Au,Ao,Nat.reduceEqDiff,reduceCtorEq, ↓reduceIte]
  have hX:Sha.sch f (i-15)<4294967296:=Sha.sch_lt hf _
  have hY:Sha.sch f (i-2)<4294967296:=Sha.sch_lt hf _
  have hsch:=Sha.sch_hi (B:=f) hi16
  generalize hxe:Sha.sch f (i-15)=X at *
  generalize hye:Sha.sch f (i-2)=Y at *
  have ho':Ah s' B 0 (w32 ws):=fun j v e=>(ho j v e).ext x' id
  have hx':Ext Non (In B 0 64) s0 s':=hwk (F':=F) x'
  have hb':s'.lim≤s'.next:=hx'.bnd hb0
  have hat16:At (dSt s'.mem s'.next) B (0+(i-16)*1) (.int .u32 (Sha.sch f (i-16):Nat)):=by
   have h1:=ho' (i-16) _ (Du (show i-16<ws.length by omega))
   rw[hws (i-16) (by omega)]at h1
   rw[Nat.mul_one]
   exact h1.at'.same rfl rfl
  have hat7:At (dSt s'.mem s'.next) B (0+(i-7)*1) (.int .u32 (Sha.sch f (i-7):Nat)):=by
   have h1:=ho' (i-7) _ (Du (show i-7<ws.length by omega))
   rw[hws (i-7) (by omega)]at h1
   rw[Nat.mul_one]
   exact h1.at'.same rfl rfl
  refine Es_.rd (F:=F) CH_ (by omega) ?_
  simp only[RM,T.get_set,Nat.reduceEqDiff, ↓reduceIte,h3,h5,Bq,Bh,Gf,w16,Aj (i:=((i-16:Nat):Int)) (k:=i-16) rfl CN (show i-16<64 by omega)]
  refine W.dload BG hat16 fun rd2 hr2=> ?_
  simp only[Bq,BL,Ag,Af,Ae,Bh,Gf,w7,Bl (i:=7) (n:=n-1-1-1-1) 7 rfl (by decide) rfl hX (by omega),Bl (i:=18) (n:=n-1-1-1-1) 18 rfl (by decide) rfl hX (by omega),B3,Ph (i:=3) 3 rfl (by decide),BZ,Aj (i:=((i-7:Nat):Int)) (k:=i-7) rfl CN (show i-7<64 by omega)]
  refine W.dload BG hat7 fun rd3 hr3=> ?_
  simp only[Bq,BL,Ag,Af,Ae,Bh,Bl (i:=17) (n:=n-1-1-1-1) 17 rfl (by decide) rfl hY (by omega),Bl (i:=19) (n:=n-1-1-1-1) 19 rfl (by decide) rfl hY (by omega),B3,Ph (i:=10) 10 rfl (by decide),BZ,Aj (i:=((i:Nat):Int)) (k:=i) rfl CN (show i<64 by omega)]
  rw[HX_ hX,Tl_ hY,←hsch,Ab]
  have l2: ∀x∈rd2,F x:=fun x hx=>by rw[hF,hr2 x hx];exact⟨by omega,by omega⟩
  have l3: ∀x∈rd3,F x:=fun x hx=>by rw[hF,hr3 x hx];exact⟨by omega,by omega⟩
  refine⟨rfl,by simp, ?_,fun s2 m2 n2 x2=> ?_⟩
  ·dsimp only
   simp only[List.forall_mem_cons]
   repeat' apply And.intro
   all_goals first|trivial|assumption|(intro x hx;cases hx)
  refine W.cast (BG_ ..) ?_
  simp only[Ac,W_oS,W_on,Ab,W_mv,Ad,As,T.get_set,Ag,Af,Aq,Ap,Ae,Ak,reduceIte,An,Ar,Ay,AA,Av,Aw,Ax,Az,Au,Ao,Nat.reduceEqDiff,reduceCtorEq, ↓reduceIte]
  have hx2:Ext Non (In B 0 64) s0 s2:=hx'.trans x2 hb0 (fun y hy h=>by rw[hF]at h;have h1:=h.1;omega) fun _ _ h=>h.elim
  have ho2:Ah s2 B 0 (w32 ws):=fun j v e=>(ho' j v e).ext x2 id
  have hown:=ho2 i _ (Du (show i<ws.length by omega))
  refine W.store1 (o:=0+i*1) BG rfl (by rw[Nat.mul_one];exact hown) fun s3 n3 x3 o3=> ?_
  rw[Nat.mul_one]at x3 o3
  have ho3:Ah s3 B 0 (w32 (ws.set i (Sha.sch f i))):=by
   rw[←PR]
   exact ho2.set x3 o3
  have hx3:Ext Non (In B 0 64) s0 s3:=hx2.trans x3 hb0 (fun y hy h=>by have h1:B+(0+i)≤y:=h.1;omega) fun y _ h=>by
   have h1:B+(0+i)≤y:=h.1
   have h2:y<B+(0+i)+1:=h.2
   exact⟨by omega,by omega⟩
  refine Oi_.w TI_ (by omega) ?_
  have ei:wrap64 ((i:Nat)+1:Int)=((i+1:Nat):Int):=by
   rw[BB (by omega) (by omega)];simp
  simp only[Vi,Ac,W_oS,W_on,Ab,W_mv,Ad,As,T.get_set,Ag,Af,Aq,Ap,Ae,Ak,reduceIte,An,Ar,Ay,AA,Av,Aw,Ax,Az,Au,Ao,Nat.reduceEqDiff,reduceCtorEq, ↓reduceIte,A7,Bd,A8,Bc,Bm,Bj,Bg,Bk,h5,ei]
  refine ih (i+1) _ _ _ _ (ws.set i (Sha.sch f i)) (by omega) (by omega) (by omega) Re_ hx3 ho3 (by rw[List.length_set];exact hw) (fun j hj=> ?_) (by simp[T.get_set,h2]) (by simp[T.get_set,h3]) (by simp[T.get_set]) fun n' tm' s3 td' e=>q n' tm' s3 td' (by omega)
  rw[List.getD_eq_getElem?_getD,List.getElem?_set]
  by_cases hij:i=j
  ·subst hij
   rw[if_pos rfl,if_pos (by omega)]
   rfl
  ·rw[if_neg hij,←List.getD_eq_getElem?_getD]
   exact hws j (by omega)
end
theorem BS (l:List Nat):cellsOf (.agg (w32 l).toArray)=w32 l:=by
 show(w32 l).toArray.toList=_
 exact List.toList_toArray ..
theorem Ef (l:List Nat):(w32 l).all oneCell=true:=by
 rw[List.all_eq_true]
 intro x hx
 obtain⟨n,_,rfl⟩:=List.mem_map.1 hx
 rfl
theorem Ri_ (n:Nat):List.replicate n (.int .u32 0)=w32 (List.replicate n 0):=by
 unfold w32
 rw[List.map_replicate]
 rfl
theorem Ft (f:Nat→Nat):(schL f).length=64:=by unfold schL;rw[List.length_map,List.length_range]
theorem Db_ {n:Nat}{s:St}{v:Value}{l:List Nat}{Q:Value→St→Prop}(hbd:s.lim≤s.next)(hn:700≤n)(h:Bn s v l)(hlt: ∀x,BsF v x→x<s.next)(hl64:l.length=64)(hby:Byt l)
  (q: ∀s1,Ext (BsF v) Non s s1→Q (.agg (w32 (schL fun j=>l.getD j 0)).toArray) s1):W (AJ envS (runF envS n) 146 [v]) s Q:=by
 refine Nw_ fun tm h0=> ?_
 obtain⟨b,o,cc,rfl,h1,h2,h3⟩:=h
 rw[hl64]at h0
 have hlt': ∀x,In b o 64 x→x<s.next:=fun x hx=>hlt x (by show In b o l.length x;rw[hl64];exact hx)
 refine EJ_.w rfl (by omega) ?_
 simp only[TL,Ac,W_oS,W_on,Ab,W_mv,Ad,As,T.get_set,Ag,Af,Aq,Ap,Ae,Ak,reduceIte,An,Ar,Ay,AA,Av,Aw,Ax,Az,Au,Ao,Nat.reduceEqDiff,reduceCtorEq, ↓reduceIte]
 refine W.alloc If fun s1 n1 x1 o1=> ?_
 have n1':s1.next=s.next+65:=n1
 have hb1:s1.lim≤s1.next:=x1.bnd hbd
 refine Fm_.w UR_ (by omega) ?_
 simp only[Ym,Ac,W_oS,W_on,Ab,W_mv,Ad,As,T.get_set,Ag,Af,Aq,Ap,Ae,Ak,reduceIte,An,Ar,Ay,AA,Av,Aw,Ax,Az,Au,Ao,Nat.reduceEqDiff,reduceCtorEq, ↓reduceIte]
 refine W.alloc If fun s2 n2 x2 o2=> ?_
 have n2':s2.next=s1.next+65:=n2
 have hb2:s2.lim≤s2.next:=x2.bnd hb1
 have hx2:Ext Non Non (s.cxN cxN) s2:=x1.step x2 hbd (fun _ _ h=>h.elim) fun _ h=>h.elim
 have hlim:s2.lim≤s.next:=by have:=hx2.lim;rw[this];exact hbd
 refine QO_.w Hn_ (by omega) ?_
 simp only[YY,Ac,W_oS,W_on,Ab,W_mv,Ad,As,T.get_set,Ag,Af,Aq,Ap,Ae,Ak,reduceIte,An,Ar,Ay,AA,Av,Aw,Ax,Az,Au,Ao,Nat.reduceEqDiff,reduceCtorEq, ↓reduceIte]
 rw[Ri_]at o2
 refine FX_ (C:=s.next) (B:=s1.next) (cc:=cc) (s0:=s2) hb2 (by omega) (fun i v e=>((h3 i v e).same (s':=s.cxN cxN) rfl rfl).ext hx2 id) (fun x hx h=>by have h4:=hlt' x hx;have h5:s1.next+0≤x:=h.1;omega) hl64 hby 16 0 _ _ _ _ (List.replicate 64 0) (by omega) (by omega) Ox_ (Ext.refl _) o2 (by simp) (fun j hj=>absurd hj (by omega)) (by simp[T.get_set,h0]) (by simp[T.get_set]) (by simp[T.get_set]) (by simp[T.get_set]) fun n3 tm3 s3 td3 ws hn3 hT3 hx3 ho3 hws3 hw3 g2 g3=> ?_
 refine Uq_.w hT3 (by omega) ?_
 simp only[Vh,Ac,W_oS,W_on,Ab,W_mv,Ad,As,T.get_set,Ag,Af,Aq,Ap,Ae,Ak,reduceIte,An,Ar,Ay,AA,Av,Aw,Ax,Az,Au,Ao,Nat.reduceEqDiff,reduceCtorEq, ↓reduceIte]
 have hf: ∀j,l.getD j 0<256:=fun j=>by
  rw[List.getD_eq_getElem?_getD]
  cases h:l[j]? with
  |none=>exact(by decide:0<256)
  |some x=>exact hby x (List.mem_of_getElem? h)
 refine Gw_ (C:=s.next) (B:=s1.next) (f:=fun j=>l.getD j 0) (s0:=s3) (hx3.bnd hb2) (by rw[hx3.lim];omega) hf 48 16 _ _ _ _ ws (by omega) (by omega) (by omega) Tg_ (Ext.refl _) ho3 hws3 hw3 (by simp[T.get_set,g2]) (by simp[T.get_set,g3]) (by simp[T.get_set]) fun n4 tm4 s4 td4 hn4 hT4 hx4 ho4 k2 k3=> ?_
 have hx34:Ext (In b o 64) (In s1.next 0 64) s2 s4:=hx3.trans hx4 hb2 (fun _ _ h=>h.elim) fun _ _ h=>h
 have hx4':Ext (In b o 64) Non (s.cxN cxN) s4:=(hx2.weak hbd (fun _ _ h=>h.elim) fun _ _ h=>h).step hx34 hbd (fun _ _ h=>h) fun y h=>by
  have h5:s1.next+0≤y:=h.1
  show s.next≤y
  omega
 have hb4:s4.lim≤s4.next:=hx4'.bnd hbd
 have hoC:Bb s4 s.next 0 64:=((Ah.owned o1).ext1 x2 fun _ _ h=>h).ext1 hx34 fun x h h'=>by
  have h5:s1.next+0≤x:=h'.1
  have h6:x<s.next+0+64:=h.2
  omega
 refine Dw_.w hT4 (by omega) ?_
 simp only[U2,Ac,W_oS,W_on,Ab,W_mv,Ad,As,T.get_set,Ag,Af,Aq,Ap,Ae,Ak,reduceIte,An,Ar,Ay,AA,Av,Aw,Ax,Az,Au,Ao,Nat.reduceEqDiff,reduceCtorEq, ↓reduceIte,k2,k3]
 refine W.loadA FG ho4.row (by rw[B1,Ft]) fun s5 m5 n5 x5=> ?_
 have hx5:Ext (In b o 64) Non (s.cxN cxN) s5:=hx4'.step x5 hbd (fun y hy h=>by
  have h5:s1.next+0≤y:=h.1
  have h6:y<s.lim:=hy
  omega) fun _ h=>h.elim
 refine W.store FG (by rw[BS,B1,Ft]) (by rw[BS];exact Ef _) (fun i hi=>let ⟨u,hu⟩:=hoC i hi;⟨u,hu.ext x5 id⟩) fun s6 n6 x6 o6=> ?_
 rw[BS]at o6
 have hx6:Ext (In b o 64) Non (s.cxN cxN) s6:=hx5.step x6 hbd (fun y hy h=>by
  have h5:s.next+0≤y:=h.1
  have h6:y<s.lim:=hy
  omega) fun y h=>by
   have h5:s.next+0≤y:=h.1
   show s.next≤y
   omega
 refine W.endC (r:=2) VK_ (.inl Dy_) (by omega) Az_ Wo_ hx6.cx (by simp[T.get_set,k2];rfl) ?_
 refine W.loadA FG o6.row (by rw[B1,Ft]) fun s7 m7 n7 x7=> ?_
 have hx7:Ext (In b o 64) Non (s.cxN cxN) s7:=hx6.step x7 hbd (fun y hy h=>by
  have h5:s.next+0≤y:=h.1
  have h6:y<s.lim:=hy
  omega) fun _ h=>h.elim
 exact q _ ((hx7.weak hbd (fun y _ h=>by show In b o l.length y;rw[hl64];exact h) fun _ _ h=>h).cx')
theorem Ml_ {n:Nat}{s:St}{Q:Value→St→Prop}(hbd:s.lim≤s.next)(hn:10≤n)(q: ∀s1,Ext Non Non s s1→Q (.agg (w32 Sha.ks).toArray) s1):W (AJ envS (runF envS n) 147 []) s Q:=by
 refine UP_ fun tm=> ?_
 refine NB_.w rfl (by omega) ?_
 simp only[SY,Ac,W_oS,W_on,Ab,W_mv,Ad,As,T.get_set,Ag,Af,Aq,Ap,Ae,Ak,reduceIte,An,Ar,Ay,AA,Av,Aw,Ax,Az,Au,Ao,Nat.reduceEqDiff,reduceCtorEq, ↓reduceIte]
 refine W.alloc If fun s1 n1 x1 o1=> ?_
 have hb1:s1.lim≤s1.next:=x1.bnd hbd
 refine QI_.w Pw_ (by omega) ?_
 unfold Zn
 refine W.bind (W.of (a:= .agg (w32 Sha.ks).toArray) (s':=s1) (by kernel_rfl) ?_)
 simp only[Ac,W_oS,W_on,Ab,W_mv,Ad,As,T.get_set,Ag,Af,Aq,Ap,Ae,Ak,reduceIte,An,Ar,Ay,AA,Av,Aw,Ax,Az,Au,Ao,Nat.reduceEqDiff,reduceCtorEq, ↓reduceIte]
 refine W.store FG (by rw[BS,B1];rfl) (by rw[BS];exact Ef _) (fun i hi=>Ah.owned o1 i hi) fun s6 n6 x6 o6=> ?_
 rw[BS]at o6
 have hx6:Ext Non Non (s.cxN cxN) s6:=x1.step x6 hbd (fun y hy h=>by
  have h5:s.next+0≤y:=h.1
  have h6:y<s.lim:=hy
  omega) fun y h=>by
   have h5:s.next+0≤y:=h.1
   show s.next≤y
   omega
 refine W.endC (r:=0) Dz_ (.inl OZ_) (by omega) XI EQ_ hx6.cx (by simp[T.get_set];rfl) ?_
 refine W.loadA FG o6.row (by rw[B1];rfl) fun s7 m7 n7 x7=> ?_
 have hx7:Ext Non Non (s.cxN cxN) s7:=hx6.step x7 hbd (fun y hy h=>by
  have h5:s.next+0≤y:=h.1
  have h6:y<s.lim:=hy
  omega) fun _ h=>h.elim
 exact q _ hx7.cx'
theorem NS:D9 envS 161=some (List.replicate 8 (.int .u32 0)):=by kernel_rfl
theorem Em:tyS envS 161=some (8,true):=by kernel_rfl
theorem Al:arrN envS 161=some (8,1):=by kernel_rfl
theorem UO_ (a b c d e f g h:Nat):EC envS 161 [(0, .int .u32 (a:Nat)),(1, .int .u32 (b:Nat)),(2, .int .u32 (c:Nat)),(3, .int .u32 (d:Nat)),(4, .int .u32 (e:Nat)),(5, .int .u32 (f:Nat)),(6, .int .u32 (g:Nat)),(7, .int .u32 (h:Nat))]=some (w32 [a,b,c,d,e,f,g,h]):=by kernel_rfl
theorem Di {E:Env}{t sz b o len k:Nat}{i:Int}{kd:IntKind}{s:St}(e:i=(k:Nat))(h:arrN E t=some (len,sz))(hk:k<len)(Q:Value→St→Prop):W (A9 E t (.pointer (some ⟨b,o,none⟩)) (.int kd i)) s Q=Q (.pointer (some ⟨b,o+k*sz,none⟩)) s:=by
 subst e
 exact Ue h hk Q
theorem am32 {a b:Nat}(ha:a<4294967296):(a&&&b)%4294967296=a&&&b:=Nat.mod_eq_of_lt (Nat.lt_of_le_of_lt Nat.and_le_left ha)
theorem E5 {a b:Nat}(ha:a<4294967296):a&&&b<4294967296:=Nat.lt_of_le_of_lt Nat.and_le_left ha
theorem LS_ {st:Sha.St8}(hok:st.Ok)(k w:Nat):((((st.h+((rot st.e 6^^^rot st.e 11)%4294967296^^^rot st.e 25)%4294967296)%4294967296+((st.e&&&st.f)%4294967296^^^((4294967295^^^st.e)%4294967296&&&st.g)%4294967296)%4294967296)%4294967296+k)%4294967296+w)%4294967296=Sha.t1 st k w:=by
 have he:=hok.e
 have hn:4294967295^^^st.e<4294967296:=Sha.xor_lt (by decide) he
 rw[xm32 (Bz _ 6 he) (Bz _ 11 he),xm32 (Sha.xor_lt (Bz _ 6 he) (Bz _ 11 he)) (Bz _ 25 he),am32 he,Nat.mod_eq_of_lt hn,am32 hn,xm32 (E5 he) (E5 hn)]
 rfl
theorem IY_ {st:Sha.St8}(hok:st.Ok):(((rot st.a 2^^^rot st.a 13)%4294967296^^^rot st.a 22)%4294967296+(((st.a&&&st.b)%4294967296^^^(st.a&&&st.c)%4294967296)%4294967296^^^(st.b&&&st.c)%4294967296)%4294967296)%4294967296=Sha.t2 st:=by
 have ha:=hok.a
 have hb:=hok.b
 rw[xm32 (Bz _ 2 ha) (Bz _ 13 ha),xm32 (Sha.xor_lt (Bz _ 2 ha) (Bz _ 13 ha)) (Bz _ 22 ha),am32 ha,am32 ha,am32 hb,xm32 (E5 ha) (E5 ha),xm32 (Sha.xor_lt (E5 ha) (E5 ha)) (E5 hb)]
 rfl
section
variable {V C B:Nat}{a2 a4:Value}{f:Nat→Nat}{st:Sha.St8}{Q:Value×FrameMode→St→Prop}{s0:St}
theorem Pd_ (hb0:s0.lim≤s0.next)(hV:s0.lim≤V)(hC:s0.lim≤C)(hB:s0.lim≤B)(hVC:V+8≤C∨C+64≤V)(hVB:V+8≤B∨B+64≤V)(hst:st.Ok)(hw:Ah s0 B 0 (w32 (schL f)))(hk:Ah s0 C 0 (w32 Sha.ks)): ∀(k i n:Nat) (tm:T Value) (s:St) (td:List Item),i+k=64→8*k+60≤n→skim 64 td=GX→Ext Non (In V 0 8) s0 s→Ah s V 0 (w32 (st8L (Sha.rnds Sha.K (Sha.sch f) st i)))→
  T.get tm 2=some a2→T.get tm 4=some a4→T.get tm 5=some (.pointer (some ⟨B,0,none⟩))→T.get tm 6=some (.pointer (some ⟨C,0,none⟩))→T.get tm 7=some (.pointer (some ⟨V,0,none⟩))→T.get tm 8=some (.int .i64 (i:Nat))→
  (∀n' tm' s1 td',n≤n'+8*k+10→skim 64 td'=I6→Ext Non (In V 0 8) s0 s1→Ah s1 V 0 (w32 (st8L (Sha.rnds Sha.K (Sha.sch f) st 64)))→T.get tm' 2=some a2→T.get tm' 4=some a4→T.get tm' 7=some (.pointer (some ⟨V,0,none⟩))→W (runF envS n' ⟨132,K4,B9,tm',td', .run, .normal,none⟩) s1 Q)→
  W (runF envS n ⟨132,K4,B9,tm,td, .run, .normal,none⟩) s Q:=by
 intro k
 induction k with
 |zero=>
  intro i n tm s td hi hn hT hx ho h2 h4 h5 h6 h7 h8 q
  refine Ae_.w hT (by omega) ?_
  simp only[NV,Ac,W_oS,W_on,Ab,W_mv,Ad,As,T.get_set,Ag,Af,Aq,Ap,Ae,Ak,reduceIte,An,Ar,Ay,AA,Av,Aw,Ax,Az,Au,Ao,Nat.reduceEqDiff,reduceCtorEq, ↓reduceIte,A7,Bd,A8,Bc,Bm,Bj,Bg,Bk,h8]
  refine W.cond (v:=false) Y9 S3 (by simp[T.get_set];omega) (by omega) (fun h=>by cases h) fun _=> ?_
  obtain rfl:i=64:=by omega
  exact q _ _ _ _ (by omega) TL_ hx ho (by simp[T.get_set,h2]) (by simp[T.get_set,h4]) (by simp[T.get_set,h7])
 |succ k ih=>
  intro i n tm s td hi hn hT hx ho h2 h4 h5 h6 h7 h8 q
  have hok:(Sha.rnds Sha.K (Sha.sch f) st i).Ok:=Sha.rnds_ok hst i
  have hnext:Sha.rnds Sha.K (Sha.sch f) st (i+1)=Sha.rnd (Sha.rnds Sha.K (Sha.sch f) st i) (Sha.K i) (Sha.sch f i):=rfl
  have hb:s.lim≤s.next:=hx.bnd hb0
  have hlimV:s.lim≤V:=by rw[hx.lim];exact hV
  generalize hS:Sha.rnds Sha.K (Sha.sch f) st i=S at *
  have gk:At s C (0+i*1) (.int .u32 (Sha.K i:Nat)):=by
   have h1:=hk i _ (Du (show i<Sha.ks.length by rw[Sha.ks_len];omega))
   rw[Nat.mul_one]
   exact h1.at'.ext hx fun h=>by have h3:=h.1;have h4:=h.2;omega
  have gw:At s B (0+i*1) (.int .u32 (Sha.sch f i:Nat)):=by
   have h1:=hw i _ (Du (show i<(schL f).length by rw[Ft];omega))
   have e:(schL f).getD i 0=Sha.sch f i:=by
    unfold schL
    rw[List.getD_eq_getElem?_getD,List.getElem?_map,List.getElem?_range (by omega)]
    rfl
   rw[e]at h1
   rw[Nat.mul_one]
   exact h1.at'.ext hx fun h=>by have h3:=h.1;have h4:=h.2;omega
  have ga:At s V (0+0*1) (.int .u32 (S.a:Nat)):=(ho 0 _ rfl).at'
  have gb:At s V (0+1*1) (.int .u32 (S.b:Nat)):=(ho 1 _ rfl).at'
  have gc:At s V (0+2*1) (.int .u32 (S.c:Nat)):=(ho 2 _ rfl).at'
  have gd:At s V (0+3*1) (.int .u32 (S.d:Nat)):=(ho 3 _ rfl).at'
  have ge:At s V (0+4*1) (.int .u32 (S.e:Nat)):=(ho 4 _ rfl).at'
  have gf:At s V (0+5*1) (.int .u32 (S.f:Nat)):=(ho 5 _ rfl).at'
  have gg:At s V (0+6*1) (.int .u32 (S.g:Nat)):=(ho 6 _ rfl).at'
  have gh:At s V (0+7*1) (.int .u32 (S.h:Nat)):=(ho 7 _ rfl).at'
  obtain⟨F,hF⟩: ∃F:Nat→Prop,F=fun x=>V≤x∨C≤x∨B≤x:=⟨_,rfl⟩
  have hFl: ∀x,x<s0.lim→F x→False:=fun x h1 h2=>by rw[hF]at h2;rcases h2 with h2|h2|h2<;>omega
  refine Ae_.w hT (by omega) ?_
  simp only[NV,Ac,W_oS,W_on,Ab,W_mv,Ad,As,T.get_set,Ag,Af,Aq,Ap,Ae,Ak,reduceIte,An,Ar,Ay,AA,Av,Aw,Ax,Az,Au,Ao,Nat.reduceEqDiff,reduceCtorEq, ↓reduceIte,A7,Bd,A8,Bc,Bm,Bj,Bg,Bk,h8]
  refine W.cond (v:=true) Y9 S3 (by simp[T.get_set];omega) (by omega) (fun _=> ?_) fun h=>by cases h
  refine Ut_.rd (F:=F) VQ_ (by omega) ?_
  simp only[Th,T.get_set,Nat.reduceEqDiff, ↓reduceIte,h7,h8,h6,h5,Bq,BL,Ag,Af,Ae,Bh,B3,BZ,Cf,Ce,Aj (i:=0) (k:=0) rfl Al (by decide),Aj (i:=1) (k:=1) rfl Al (by decide),Aj (i:=2) (k:=2) rfl Al (by decide),Aj (i:=3) (k:=3) rfl Al (by decide),Aj (i:=4) (k:=4) rfl Al (by decide),Aj (i:=5) (k:=5) rfl Al (by decide),Aj (i:=6) (k:=6) rfl Al (by decide),Aj (i:=7) (k:=7) rfl Al (by decide)]
  refine W.dload BG (gh.same rfl rfl) fun rd0 hr0=> ?_
  simp only[T.get_set,Nat.reduceEqDiff, ↓reduceIte,h7,h8,h6,h5,Bq,BL,Ag,Af,Ae,Bh,B3,BZ,Cf,Ce,Bl (i:=6) (n:=n-1-1-1) 6 rfl (by decide) rfl hok.e (by omega),Bl (i:=11) (n:=n-1-1-1) 11 rfl (by decide) rfl hok.e (by omega),Bl (i:=25) (n:=n-1-1-1) 25 rfl (by decide) rfl hok.e (by omega),Aj (i:=0) (k:=0) rfl Al (by decide),Aj (i:=1) (k:=1) rfl Al (by decide),Aj (i:=2) (k:=2) rfl Al (by decide),Aj (i:=3) (k:=3) rfl Al (by decide),Aj (i:=4) (k:=4) rfl Al (by decide),Aj (i:=5) (k:=5) rfl Al (by decide),Aj (i:=6) (k:=6) rfl Al (by decide),Aj (i:=7) (k:=7) rfl Al (by decide),Aj (i:=((i:Nat):Int)) (k:=i) rfl CN (show i<64 by omega)]
  refine W.dload BG (ge.same rfl rfl) fun rd1 hr1=> ?_
  simp only[T.get_set,Nat.reduceEqDiff, ↓reduceIte,h7,h8,h6,h5,Bq,BL,Ag,Af,Ae,Bh,B3,BZ,Cf,Ce,Bl (i:=6) (n:=n-1-1-1) 6 rfl (by decide) rfl hok.e (by omega),Bl (i:=11) (n:=n-1-1-1) 11 rfl (by decide) rfl hok.e (by omega),Bl (i:=25) (n:=n-1-1-1) 25 rfl (by decide) rfl hok.e (by omega),Aj (i:=0) (k:=0) rfl Al (by decide),Aj (i:=1) (k:=1) rfl Al (by decide),Aj (i:=2) (k:=2) rfl Al (by decide),Aj (i:=3) (k:=3) rfl Al (by decide),Aj (i:=4) (k:=4) rfl Al (by decide),Aj (i:=5) (k:=5) rfl Al (by decide),Aj (i:=6) (k:=6) rfl Al (by decide),Aj (i:=7) (k:=7) rfl Al (by decide),Aj (i:=((i:Nat):Int)) (k:=i) rfl CN (show i<64 by omega)]
  refine W.dload BG (ge.same rfl rfl) fun rd2 hr2=> ?_
  simp only[T.get_set,Nat.reduceEqDiff, ↓reduceIte,h7,h8,h6,h5,Bq,BL,Ag,Af,Ae,Bh,B3,BZ,Cf,Ce,Bl (i:=6) (n:=n-1-1-1) 6 rfl (by decide) rfl hok.e (by omega),Bl (i:=11) (n:=n-1-1-1) 11 rfl (by decide) rfl hok.e (by omega),Bl (i:=25) (n:=n-1-1-1) 25 rfl (by decide) rfl hok.e (by omega),Aj (i:=0) (k:=0) rfl Al (by decide),Aj (i:=1) (k:=1) rfl Al (by decide),Aj (i:=2) (k:=2) rfl Al (by decide),Aj (i:=3) (k:=3) rfl Al (by decide),Aj (i:=4) (k:=4) rfl Al (by decide),Aj (i:=5) (k:=5) rfl Al (by decide),Aj (i:=6) (k:=6) rfl Al (by decide),Aj (i:=7) (k:=7) rfl Al (by decide),Aj (i:=((i:Nat):Int)) (k:=i) rfl CN (show i<64 by omega)]
  refine W.dload BG (ge.same rfl rfl) fun rd3 hr3=> ?_
  simp only[T.get_set,Nat.reduceEqDiff, ↓reduceIte,h7,h8,h6,h5,Bq,BL,Ag,Af,Ae,Bh,B3,BZ,Cf,Ce,Bl (i:=6) (n:=n-1-1-1) 6 rfl (by decide) rfl hok.e (by omega),Bl (i:=11) (n:=n-1-1-1) 11 rfl (by decide) rfl hok.e (by omega),Bl (i:=25) (n:=n-1-1-1) 25 rfl (by decide) rfl hok.e (by omega),Aj (i:=0) (k:=0) rfl Al (by decide),Aj (i:=1) (k:=1) rfl Al (by decide),Aj (i:=2) (k:=2) rfl Al (by decide),Aj (i:=3) (k:=3) rfl Al (by decide),Aj (i:=4) (k:=4) rfl Al (by decide),Aj (i:=5) (k:=5) rfl Al (by decide),Aj (i:=6) (k:=6) rfl Al (by decide),Aj (i:=7) (k:=7) rfl Al (by decide),Aj (i:=((i:Nat):Int)) (k:=i) rfl CN (show i<64 by omega)]
  refine W.dload BG (ge.same rfl rfl) fun rd4 hr4=> ?_
  simp only[T.get_set,Nat.reduceEqDiff, ↓reduceIte,h7,h8,h6,h5,Bq,BL,Ag,Af,Ae,Bh,B3,BZ,Cf,Ce,Bl (i:=6) (n:=n-1-1-1) 6 rfl (by decide) rfl hok.e (by omega),Bl (i:=11) (n:=n-1-1-1) 11 rfl (by decide) rfl hok.e (by omega),Bl (i:=25) (n:=n-1-1-1) 25 rfl (by decide) rfl hok.e (by omega),Aj (i:=0) (k:=0) rfl Al (by decide),Aj (i:=1) (k:=1) rfl Al (by decide),Aj (i:=2) (k:=2) rfl Al (by decide),Aj (i:=3) (k:=3) rfl Al (by decide),Aj (i:=4) (k:=4) rfl Al (by decide),Aj (i:=5) (k:=5) rfl Al (by decide),Aj (i:=6) (k:=6) rfl Al (by decide),Aj (i:=7) (k:=7) rfl Al (by decide),Aj (i:=((i:Nat):Int)) (k:=i) rfl CN (show i<64 by omega)]
  refine W.dload BG (gf.same rfl rfl) fun rd5 hr5=> ?_
  simp only[T.get_set,Nat.reduceEqDiff, ↓reduceIte,h7,h8,h6,h5,Bq,BL,Ag,Af,Ae,Bh,B3,BZ,Cf,Ce,Bl (i:=6) (n:=n-1-1-1) 6 rfl (by decide) rfl hok.e (by omega),Bl (i:=11) (n:=n-1-1-1) 11 rfl (by decide) rfl hok.e (by omega),Bl (i:=25) (n:=n-1-1-1) 25 rfl (by decide) rfl hok.e (by omega),Aj (i:=0) (k:=0) rfl Al (by decide),Aj (i:=1) (k:=1) rfl Al (by decide),Aj (i:=2) (k:=2) rfl Al (by decide),Aj (i:=3) (k:=3) rfl Al (by decide),Aj (i:=4) (k:=4) rfl Al (by decide),Aj (i:=5) (k:=5) rfl Al (by decide),Aj (i:=6) (k:=6) rfl Al (by decide),Aj (i:=7) (k:=7) rfl Al (by decide),Aj (i:=((i:Nat):Int)) (k:=i) rfl CN (show i<64 by omega)]
  refine W.dload BG (ge.same rfl rfl) fun rd6 hr6=> ?_
  simp only[T.get_set,Nat.reduceEqDiff, ↓reduceIte,h7,h8,h6,h5,Bq,BL,Ag,Af,Ae,Bh,B3,BZ,Cf,Ce,Bl (i:=6) (n:=n-1-1-1) 6 rfl (by decide) rfl hok.e (by omega),Bl (i:=11) (n:=n-1-1-1) 11 rfl (by decide) rfl hok.e (by omega),Bl (i:=25) (n:=n-1-1-1) 25 rfl (by decide) rfl hok.e (by omega),Aj (i:=0) (k:=0) rfl Al (by decide),Aj (i:=1) (k:=1) rfl Al (by decide),Aj (i:=2) (k:=2) rfl Al (by decide),Aj (i:=3) (k:=3) rfl Al (by decide),Aj (i:=4) (k:=4) rfl Al (by decide),Aj (i:=5) (k:=5) rfl Al (by decide),Aj (i:=6) (k:=6) rfl Al (by decide),Aj (i:=7) (k:=7) rfl Al (by decide),Aj (i:=((i:Nat):Int)) (k:=i) rfl CN (show i<64 by omega)]
  refine W.dload BG (gg.same rfl rfl) fun rd7 hr7=> ?_
  simp only[T.get_set,Nat.reduceEqDiff, ↓reduceIte,h7,h8,h6,h5,Bq,BL,Ag,Af,Ae,Bh,B3,BZ,Cf,Ce,Bl (i:=6) (n:=n-1-1-1) 6 rfl (by decide) rfl hok.e (by omega),Bl (i:=11) (n:=n-1-1-1) 11 rfl (by decide) rfl hok.e (by omega),Bl (i:=25) (n:=n-1-1-1) 25 rfl (by decide) rfl hok.e (by omega),Aj (i:=0) (k:=0) rfl Al (by decide),Aj (i:=1) (k:=1) rfl Al (by decide),Aj (i:=2) (k:=2) rfl Al (by decide),Aj (i:=3) (k:=3) rfl Al (by decide),Aj (i:=4) (k:=4) rfl Al (by decide),Aj (i:=5) (k:=5) rfl Al (by decide),Aj (i:=6) (k:=6) rfl Al (by decide),Aj (i:=7) (k:=7) rfl Al (by decide),Aj (i:=((i:Nat):Int)) (k:=i) rfl CN (show i<64 by omega)]
  refine W.dload BG (gk.same rfl rfl) fun rd8 hr8=> ?_
  simp only[T.get_set,Nat.reduceEqDiff, ↓reduceIte,h7,h8,h6,h5,Bq,BL,Ag,Af,Ae,Bh,B3,BZ,Cf,Ce,Aj (i:=((i:Nat):Int)) (k:=i) rfl CN (show i<64 by omega)]
  refine W.dload BG (gw.same rfl rfl) fun rd9 hr9=> ?_
  simp only[Bq,BL,Ag,Af,Ae,Bh,B3,BZ,Cf,Ce]
  rw[LS_ hok,Ab]
  have l0: ∀x∈rd0,F x:=fun x hx=>by rw[hF,hr0 x hx];exact .inl (by omega)
  have l1: ∀x∈rd1,F x:=fun x hx=>by rw[hF,hr1 x hx];exact .inl (by omega)
  have l2: ∀x∈rd2,F x:=fun x hx=>by rw[hF,hr2 x hx];exact .inl (by omega)
  have l3: ∀x∈rd3,F x:=fun x hx=>by rw[hF,hr3 x hx];exact .inl (by omega)
  have l4: ∀x∈rd4,F x:=fun x hx=>by rw[hF,hr4 x hx];exact .inl (by omega)
  have l5: ∀x∈rd5,F x:=fun x hx=>by rw[hF,hr5 x hx];exact .inl (by omega)
  have l6: ∀x∈rd6,F x:=fun x hx=>by rw[hF,hr6 x hx];exact .inl (by omega)
  have l7: ∀x∈rd7,F x:=fun x hx=>by rw[hF,hr7 x hx];exact .inl (by omega)
  have l8: ∀x∈rd8,F x:=fun x hx=>by rw[hF,hr8 x hx];exact .inr (.inl (by omega))
  have l9: ∀x∈rd9,F x:=fun x hx=>by rw[hF,hr9 x hx];exact .inr (.inr (by omega))
  refine⟨rfl,by simp, ?_,fun s1 m1 n1 x1=> ?_⟩
  ·dsimp only
   simp only[List.forall_mem_cons]
   repeat' apply And.intro
   all_goals first|trivial|assumption|(intro x hx;cases hx)
  refine W.cast (EC_ ..) ?_
  simp only[Ac,W_oS,W_on,Ab,W_mv,Ad,As,T.get_set,Ag,Af,Aq,Ap,Ae,Ak,reduceIte,An,Ar,Ay,AA,Av,Aw,Ax,Az,Au,Ao,Nat.reduceEqDiff,reduceCtorEq, ↓reduceIte]
  have hx1:Ext Non (In V 0 8) s0 s1:=hx.trans x1 hb0 (fun y hy h=>hFl y hy h) fun _ _ h=>h.elim
  have ho1:Ah s1 V 0 (w32 (st8L S)):=fun j v e=>(ho j v e).ext x1 id
  have ka:=ga.ext x1 id
  have kb:=gb.ext x1 id
  have kc:=gc.ext x1 id
  have kd:=gd.ext x1 id
  have ke:=ge.ext x1 id
  have kf:=gf.ext x1 id
  have kg:=gg.ext x1 id
  have kh:=gh.ext x1 id
  clear l0 l1 l2 l3 l4 l5 l6 l7 l8 l9
  refine NI_.rd (F:=F) Nl_ (by omega) ?_
  simp only[Wi,T.get_set,Nat.reduceEqDiff, ↓reduceIte,h7,Bq,BL,Ag,Af,Ae,Bh,B3,BZ,Cf,Ce,Aj (i:=0) (k:=0) rfl Al (by decide),Aj (i:=1) (k:=1) rfl Al (by decide),Aj (i:=2) (k:=2) rfl Al (by decide),Aj (i:=3) (k:=3) rfl Al (by decide),Aj (i:=4) (k:=4) rfl Al (by decide),Aj (i:=5) (k:=5) rfl Al (by decide),Aj (i:=6) (k:=6) rfl Al (by decide),Aj (i:=7) (k:=7) rfl Al (by decide)]
  refine W.dload BG (ka.same rfl rfl) fun rd0 hr0=> ?_
  simp only[T.get_set,Nat.reduceEqDiff, ↓reduceIte,h7,Bq,BL,Ag,Af,Ae,Bh,B3,BZ,Cf,Ce,Bl (i:=2) (n:=n-1-1-1-1) 2 rfl (by decide) rfl hok.a (by omega),Bl (i:=13) (n:=n-1-1-1-1) 13 rfl (by decide) rfl hok.a (by omega),Bl (i:=22) (n:=n-1-1-1-1) 22 rfl (by decide) rfl hok.a (by omega),Aj (i:=0) (k:=0) rfl Al (by decide),Aj (i:=1) (k:=1) rfl Al (by decide),Aj (i:=2) (k:=2) rfl Al (by decide),Aj (i:=3) (k:=3) rfl Al (by decide),Aj (i:=4) (k:=4) rfl Al (by decide),Aj (i:=5) (k:=5) rfl Al (by decide),Aj (i:=6) (k:=6) rfl Al (by decide),Aj (i:=7) (k:=7) rfl Al (by decide)]
  refine W.dload BG (ka.same rfl rfl) fun rd1 hr1=> ?_
  simp only[T.get_set,Nat.reduceEqDiff, ↓reduceIte,h7,Bq,BL,Ag,Af,Ae,Bh,B3,BZ,Cf,Ce,Bl (i:=2) (n:=n-1-1-1-1) 2 rfl (by decide) rfl hok.a (by omega),Bl (i:=13) (n:=n-1-1-1-1) 13 rfl (by decide) rfl hok.a (by omega),Bl (i:=22) (n:=n-1-1-1-1) 22 rfl (by decide) rfl hok.a (by omega),Aj (i:=0) (k:=0) rfl Al (by decide),Aj (i:=1) (k:=1) rfl Al (by decide),Aj (i:=2) (k:=2) rfl Al (by decide),Aj (i:=3) (k:=3) rfl Al (by decide),Aj (i:=4) (k:=4) rfl Al (by decide),Aj (i:=5) (k:=5) rfl Al (by decide),Aj (i:=6) (k:=6) rfl Al (by decide),Aj (i:=7) (k:=7) rfl Al (by decide)]
  refine W.dload BG (ka.same rfl rfl) fun rd2 hr2=> ?_
  simp only[T.get_set,Nat.reduceEqDiff, ↓reduceIte,h7,Bq,BL,Ag,Af,Ae,Bh,B3,BZ,Cf,Ce,Bl (i:=2) (n:=n-1-1-1-1) 2 rfl (by decide) rfl hok.a (by omega),Bl (i:=13) (n:=n-1-1-1-1) 13 rfl (by decide) rfl hok.a (by omega),Bl (i:=22) (n:=n-1-1-1-1) 22 rfl (by decide) rfl hok.a (by omega),Aj (i:=0) (k:=0) rfl Al (by decide),Aj (i:=1) (k:=1) rfl Al (by decide),Aj (i:=2) (k:=2) rfl Al (by decide),Aj (i:=3) (k:=3) rfl Al (by decide),Aj (i:=4) (k:=4) rfl Al (by decide),Aj (i:=5) (k:=5) rfl Al (by decide),Aj (i:=6) (k:=6) rfl Al (by decide),Aj (i:=7) (k:=7) rfl Al (by decide)]
  refine W.dload BG (ka.same rfl rfl) fun rd3 hr3=> ?_
  simp only[T.get_set,Nat.reduceEqDiff, ↓reduceIte,h7,Bq,BL,Ag,Af,Ae,Bh,B3,BZ,Cf,Ce,Bl (i:=2) (n:=n-1-1-1-1) 2 rfl (by decide) rfl hok.a (by omega),Bl (i:=13) (n:=n-1-1-1-1) 13 rfl (by decide) rfl hok.a (by omega),Bl (i:=22) (n:=n-1-1-1-1) 22 rfl (by decide) rfl hok.a (by omega),Aj (i:=0) (k:=0) rfl Al (by decide),Aj (i:=1) (k:=1) rfl Al (by decide),Aj (i:=2) (k:=2) rfl Al (by decide),Aj (i:=3) (k:=3) rfl Al (by decide),Aj (i:=4) (k:=4) rfl Al (by decide),Aj (i:=5) (k:=5) rfl Al (by decide),Aj (i:=6) (k:=6) rfl Al (by decide),Aj (i:=7) (k:=7) rfl Al (by decide)]
  refine W.dload BG (kb.same rfl rfl) fun rd4 hr4=> ?_
  simp only[T.get_set,Nat.reduceEqDiff, ↓reduceIte,h7,Bq,BL,Ag,Af,Ae,Bh,B3,BZ,Cf,Ce,Bl (i:=2) (n:=n-1-1-1-1) 2 rfl (by decide) rfl hok.a (by omega),Bl (i:=13) (n:=n-1-1-1-1) 13 rfl (by decide) rfl hok.a (by omega),Bl (i:=22) (n:=n-1-1-1-1) 22 rfl (by decide) rfl hok.a (by omega),Aj (i:=0) (k:=0) rfl Al (by decide),Aj (i:=1) (k:=1) rfl Al (by decide),Aj (i:=2) (k:=2) rfl Al (by decide),Aj (i:=3) (k:=3) rfl Al (by decide),Aj (i:=4) (k:=4) rfl Al (by decide),Aj (i:=5) (k:=5) rfl Al (by decide),Aj (i:=6) (k:=6) rfl Al (by decide),Aj (i:=7) (k:=7) rfl Al (by decide)]
  refine W.dload BG (ka.same rfl rfl) fun rd5 hr5=> ?_
  simp only[T.get_set,Nat.reduceEqDiff, ↓reduceIte,h7,Bq,BL,Ag,Af,Ae,Bh,B3,BZ,Cf,Ce,Bl (i:=2) (n:=n-1-1-1-1) 2 rfl (by decide) rfl hok.a (by omega),Bl (i:=13) (n:=n-1-1-1-1) 13 rfl (by decide) rfl hok.a (by omega),Bl (i:=22) (n:=n-1-1-1-1) 22 rfl (by decide) rfl hok.a (by omega),Aj (i:=0) (k:=0) rfl Al (by decide),Aj (i:=1) (k:=1) rfl Al (by decide),Aj (i:=2) (k:=2) rfl Al (by decide),Aj (i:=3) (k:=3) rfl Al (by decide),Aj (i:=4) (k:=4) rfl Al (by decide),Aj (i:=5) (k:=5) rfl Al (by decide),Aj (i:=6) (k:=6) rfl Al (by decide),Aj (i:=7) (k:=7) rfl Al (by decide)]
  refine W.dload BG (kc.same rfl rfl) fun rd6 hr6=> ?_
  simp only[T.get_set,Nat.reduceEqDiff, ↓reduceIte,h7,Bq,BL,Ag,Af,Ae,Bh,B3,BZ,Cf,Ce,Bl (i:=2) (n:=n-1-1-1-1) 2 rfl (by decide) rfl hok.a (by omega),Bl (i:=13) (n:=n-1-1-1-1) 13 rfl (by decide) rfl hok.a (by omega),Bl (i:=22) (n:=n-1-1-1-1) 22 rfl (by decide) rfl hok.a (by omega),Aj (i:=0) (k:=0) rfl Al (by decide),Aj (i:=1) (k:=1) rfl Al (by decide),Aj (i:=2) (k:=2) rfl Al (by decide),Aj (i:=3) (k:=3) rfl Al (by decide),Aj (i:=4) (k:=4) rfl Al (by decide),Aj (i:=5) (k:=5) rfl Al (by decide),Aj (i:=6) (k:=6) rfl Al (by decide),Aj (i:=7) (k:=7) rfl Al (by decide)]
  refine W.dload BG (kb.same rfl rfl) fun rd7 hr7=> ?_
  simp only[T.get_set,Nat.reduceEqDiff, ↓reduceIte,h7,Bq,BL,Ag,Af,Ae,Bh,B3,BZ,Cf,Ce,Bl (i:=2) (n:=n-1-1-1-1) 2 rfl (by decide) rfl hok.a (by omega),Bl (i:=13) (n:=n-1-1-1-1) 13 rfl (by decide) rfl hok.a (by omega),Bl (i:=22) (n:=n-1-1-1-1) 22 rfl (by decide) rfl hok.a (by omega),Aj (i:=0) (k:=0) rfl Al (by decide),Aj (i:=1) (k:=1) rfl Al (by decide),Aj (i:=2) (k:=2) rfl Al (by decide),Aj (i:=3) (k:=3) rfl Al (by decide),Aj (i:=4) (k:=4) rfl Al (by decide),Aj (i:=5) (k:=5) rfl Al (by decide),Aj (i:=6) (k:=6) rfl Al (by decide),Aj (i:=7) (k:=7) rfl Al (by decide)]
  refine W.dload BG (kc.same rfl rfl) fun rd8 hr8=> ?_
  simp only[T.get_set,Nat.reduceEqDiff, ↓reduceIte,h7,Bq,BL,Ag,Af,Ae,Bh,B3,BZ,Cf,Ce,Bl (i:=2) (n:=n-1-1-1-1) 2 rfl (by decide) rfl hok.a (by omega),Bl (i:=13) (n:=n-1-1-1-1) 13 rfl (by decide) rfl hok.a (by omega),Bl (i:=22) (n:=n-1-1-1-1) 22 rfl (by decide) rfl hok.a (by omega),Aj (i:=0) (k:=0) rfl Al (by decide),Aj (i:=1) (k:=1) rfl Al (by decide),Aj (i:=2) (k:=2) rfl Al (by decide),Aj (i:=3) (k:=3) rfl Al (by decide),Aj (i:=4) (k:=4) rfl Al (by decide),Aj (i:=5) (k:=5) rfl Al (by decide),Aj (i:=6) (k:=6) rfl Al (by decide),Aj (i:=7) (k:=7) rfl Al (by decide)]
  rw[IY_ hok,Ab]
  have l0: ∀x∈rd0,F x:=fun x hx=>by rw[hF,hr0 x hx];exact .inl (by omega)
  have l1: ∀x∈rd1,F x:=fun x hx=>by rw[hF,hr1 x hx];exact .inl (by omega)
  have l2: ∀x∈rd2,F x:=fun x hx=>by rw[hF,hr2 x hx];exact .inl (by omega)
  have l3: ∀x∈rd3,F x:=fun x hx=>by rw[hF,hr3 x hx];exact .inl (by omega)
  have l4: ∀x∈rd4,F x:=fun x hx=>by rw[hF,hr4 x hx];exact .inl (by omega)
  have l5: ∀x∈rd5,F x:=fun x hx=>by rw[hF,hr5 x hx];exact .inl (by omega)
  have l6: ∀x∈rd6,F x:=fun x hx=>by rw[hF,hr6 x hx];exact .inl (by omega)
  have l7: ∀x∈rd7,F x:=fun x hx=>by rw[hF,hr7 x hx];exact .inl (by omega)
  have l8: ∀x∈rd8,F x:=fun x hx=>by rw[hF,hr8 x hx];exact .inl (by omega)
  refine⟨rfl,by simp, ?_,fun s2 m2 n2 x2=> ?_⟩
  ·dsimp only
   simp only[List.forall_mem_cons]
   repeat' apply And.intro
   all_goals first|trivial|assumption|(intro x hx;cases hx)
  refine W.cast (Vm_ ..) ?_
  simp only[Ac,W_oS,W_on,Ab,W_mv,Ad,As,T.get_set,Ag,Af,Aq,Ap,Ae,Ak,reduceIte,An,Ar,Ay,AA,Av,Aw,Ax,Az,Au,Ao,Nat.reduceEqDiff,reduceCtorEq, ↓reduceIte]
  have hx2:Ext Non (In V 0 8) s0 s2:=hx1.trans x2 hb0 (fun y hy h=>hFl y hy h) fun _ _ h=>h.elim
  have ho2:Ah s2 V 0 (w32 (st8L S)):=fun j v e=>(ho1 j v e).ext x2 id
  have ma:=ka.ext x2 id
  have mb:=kb.ext x2 id
  have mc:=kc.ext x2 id
  have md:=kd.ext x2 id
  have me:=ke.ext x2 id
  have mf:=kf.ext x2 id
  have mg:=kg.ext x2 id
  have mh:=kh.ext x2 id
  refine EO_.w LI_ (by omega) ?_
  simp only[WV,Ac,W_oS,W_on,Ab,W_mv,Ad,As,T.get_set,Ag,Af,Aq,Ap,Ae,Ak,reduceIte,An,Ar,Ay,AA,Av,Aw,Ax,Az,Au,Ao,Nat.reduceEqDiff,reduceCtorEq, ↓reduceIte,h7,SV,Di (i:=0) (k:=0) rfl Al (by decide),Di (i:=1) (k:=1) rfl Al (by decide),Di (i:=2) (k:=2) rfl Al (by decide),Di (i:=3) (k:=3) rfl Al (by decide),Di (i:=4) (k:=4) rfl Al (by decide),Di (i:=5) (k:=5) rfl Al (by decide),Di (i:=6) (k:=6) rfl Al (by decide),Di (i:=7) (k:=7) rfl Al (by decide)]
  refine W.load1 BG (ma.same rfl rfl) ?_
  refine W.load1 BG (mb.same rfl rfl) ?_
  refine W.load1 BG (mc.same rfl rfl) ?_
  refine W.load1 BG (md.same rfl rfl) ?_
  rw[SV]
  refine W.load1 BG (me.same rfl rfl) ?_
  refine W.load1 BG (mf.same rfl rfl) ?_
  refine W.load1 BG (mg.same rfl rfl) ?_
  rw[Ej (UO_ _ _ _ _ _ _ _ _)]
  have hrd: ∀(s:St) (j:Nat),s.lim≤V→Ext Non Non s (s.rdN (V+(0+j*1))):=fun s j hl=>Ext.rdN s _ fun h=>by omega
  generalize hs3:(((((((s2.rdN (V+(0+0*1))).rdN (V+(0+1*1))).rdN (V+(0+2*1))).rdN (V+(0+3*1))).rdN (V+(0+4*1))).rdN (V+(0+5*1))).rdN (V+(0+6*1)))=s3
  have hl2:s2.lim≤V:=by rw[hx2.lim];exact hV
  have hb2:s2.lim≤s2.next:=hx2.bnd hb0
  have x3:Ext Non Non s2 s3:=by
   rw[←hs3]
   have tr: ∀{a b c:St},Ext Non Non a b→Ext Non Non b c→a.lim≤a.next→Ext Non Non a c:=fun h k hb=>h.trans k hb (fun _ _ h=>h) fun _ _ h=>h
   exact tr (tr (tr (tr (tr (tr (hrd _ 0 hl2) (hrd _ 1 hl2) hb2) (hrd _ 2 hl2) hb2) (hrd _ 3 hl2) hb2) (hrd _ 4 hl2) hb2) (hrd _ 5 hl2) hb2) (hrd _ 6 hl2) hb2
  have hx3:Ext Non (In V 0 8) s0 s3:=hx2.trans x3 hb0 (fun _ _ h=>h) fun _ _ h=>h.elim
  have ho3:Ah s3 V 0 (w32 (st8L S)):=fun j v e=>(ho2 j v e).ext x3 id
  refine W.store Em (by rw[BS,B1];rfl) (by rw[BS];exact Ef _) (fun i hi=>Ah.owned ho3 i hi) fun s4 n4 x4 o4=> ?_
  rw[BS]at o4
  have hx4:Ext Non (In V 0 8) s0 s4:=hx3.trans x4 hb0 (fun y hy h=>by have h1:V+0≤y:=h.1;omega) fun _ _ h=>h
  refine JC_.w CR_ (by omega) ?_
  have ei:wrap64 ((i:Nat)+1:Int)=((i+1:Nat):Int):=by
   rw[BB (by omega) (by omega)];simp
  simp only[YC,Ac,W_oS,W_on,Ab,W_mv,Ad,As,T.get_set,Ag,Af,Aq,Ap,Ae,Ak,reduceIte,An,Ar,Ay,AA,Av,Aw,Ax,Az,Au,Ao,Nat.reduceEqDiff,reduceCtorEq, ↓reduceIte,A7,Bd,A8,Bc,Bm,Bj,Bg,Bk,h8,ei]
  exact ih (i+1) _ _ _ _ (by omega) (by omega) Bk_ hx4 (by rw[hnext];exact o4) (by simp[T.get_set,h2]) (by simp[T.get_set,h4]) (by simp[T.get_set,h5]) (by simp[T.get_set,h6]) (by simp[T.get_set,h7]) (by simp[T.get_set]) fun n' tm' s5 td' e=>q n' tm' s5 td' (by omega)
end
section
variable {V S R:Nat}{st r:Sha.St8}{Q:Value×FrameMode→St→Prop}{s0:St}
def adL (st r:Sha.St8)(i:Nat):List Nat:=(List.range 8).map fun j=>if j<i then((st8L st).getD j 0+(st8L r).getD j 0)%4294967296 else(st8L st).getD j 0
theorem ZK (st r:Sha.St8)(i:Nat):(adL st r i).length=8:=by unfold adL;rw[List.length_map,List.length_range]
theorem Kw_ (st r:Sha.St8)(i j:Nat)(hj:j<8):(adL st r i).getD j 0=if j<i then((st8L st).getD j 0+(st8L r).getD j 0)%4294967296 else(st8L st).getD j 0:=by
 unfold adL
 rw[List.getD_eq_getElem?_getD,List.getElem?_map,List.getElem?_range hj]
 rfl
theorem Wn_ (st r:Sha.St8):adL st r 0=st8L st:=rfl
theorem Qa_ (st r:Sha.St8):adL st r 8=st8L (Sha.plus st r):=by
 unfold Sha.plus
 rw[Nat.add_comm r.a,Nat.add_comm r.b,Nat.add_comm r.c,Nat.add_comm r.d,Nat.add_comm r.e,Nat.add_comm r.f,Nat.add_comm r.g,Nat.add_comm r.h]
 rfl
theorem Hp_ (st r:Sha.St8)(i:Nat)(hi:i<8):(adL st r i).set i (((st8L st).getD i 0+(st8L r).getD i 0)%4294967296)=adL st r (i+1):=by
 match i,hi with
 |0,_=>rfl
 |1,_=>rfl
 |2,_=>rfl
 |3,_=>rfl
 |4,_=>rfl
 |5,_=>rfl
 |6,_=>rfl
 |7,_=>rfl
theorem Hi_ (hb0:s0.lim≤s0.next)(hV:s0.lim≤V)(hS:s0.lim≤S)(hVS:V+8≤S∨S+8≤V)(hv:Ah s0 V 0 (w32 (st8L r))): ∀(k i n:Nat) (tm:T Value) (s:St) (td:List Item),i+k=8→8*k+40≤n→skim 64 td=GI→Ext Non (In S 0 8) s0 s→Ah s S 0 (w32 (adL st r i))→
  T.get tm 2=some (.pointer (some ⟨S,0,none⟩))→T.get tm 4=some (.pointer (some ⟨R,0,none⟩))→T.get tm 7=some (.pointer (some ⟨V,0,none⟩))→T.get tm 11=some (.int .i64 (i:Nat))→
  (∀n' tm' s1 td',n≤n'+8*k+10→skim 64 td'=IY→Ext Non (In S 0 8) s0 s1→Ah s1 S 0 (w32 (st8L (Sha.plus st r)))→T.get tm' 2=some (.pointer (some ⟨S,0,none⟩))→T.get tm' 4=some (.pointer (some ⟨R,0,none⟩))→W (runF envS n' ⟨132,K4,B9,tm',td', .run, .normal,none⟩) s1 Q)→
  W (runF envS n ⟨132,K4,B9,tm,td, .run, .normal,none⟩) s Q:=by
 intro k
 induction k with
 |zero=>
  intro i n tm s td hi hn hT hx ho h2 h4 h7 h11 q
  refine Uh.w hT (by omega) ?_
  simp only[P8,Ac,W_oS,W_on,Ab,W_mv,Ad,As,T.get_set,Ag,Af,Aq,Ap,Ae,Ak,reduceIte,An,Ar,Ay,AA,Av,Aw,Ax,Az,Au,Ao,Nat.reduceEqDiff,reduceCtorEq, ↓reduceIte,A7,Bd,A8,Bc,Bm,Bj,Bg,Bk,h11]
  refine W.cond (v:=false) RV Zi (by simp[T.get_set];omega) (by omega) (fun h=>by cases h) fun _=> ?_
  obtain rfl:i=8:=by omega
  rw[Qa_]at ho
  exact q _ _ _ _ (by omega) ED_ hx ho (by simp[T.get_set,h2]) (by simp[T.get_set,h4])
 |succ k ih=>
  intro i n tm s td hi hn hT hx ho h2 h4 h7 h11 q
  refine Uh.w hT (by omega) ?_
  simp only[P8,Ac,W_oS,W_on,Ab,W_mv,Ad,As,T.get_set,Ag,Af,Aq,Ap,Ae,Ak,reduceIte,An,Ar,Ay,AA,Av,Aw,Ax,Az,Au,Ao,Nat.reduceEqDiff,reduceCtorEq, ↓reduceIte,A7,Bd,A8,Bc,Bm,Bj,Bg,Bk,h11]
  refine W.cond (v:=true) RV Zi (by simp[T.get_set];omega) (by omega) (fun _=> ?_) fun h=>by cases h
  have hi8:i<8:=by omega
  obtain⟨F,hF⟩: ∃F:Nat→Prop,F=fun x=>V≤x∨S≤x:=⟨_,rfl⟩
  have gs:At s S (0+i*1) (.int .u32 ((st8L st).getD i 0:Nat)):=by
   have h1:=ho i _ (Du (show i<(adL st r i).length by rw[ZK];exact hi8))
   rw[Kw_ st r i i hi8,if_neg (Nat.lt_irrefl i)]at h1
   rw[Nat.mul_one]
   exact h1.at'
  have gv:At s V (0+i*1) (.int .u32 ((st8L r).getD i 0:Nat)):=by
   have h1:=hv i _ (Du (show i<(st8L r).length from hi8))
   rw[Nat.mul_one]
   exact h1.at'.ext hx fun h=>by have h3:=h.1;have h4:=h.2;omega
  refine DR_.rd (F:=F) Sw_ (by omega) ?_
  simp only[XT,T.get_set,Nat.reduceEqDiff, ↓reduceIte,h2,h7,h11,Bq,Bh,Aj (i:=((i:Nat):Int)) (k:=i) rfl Al hi8]
  refine W.dload BG (gs.same rfl rfl) fun rd0 hr0=> ?_
  simp only[T.get_set,Nat.reduceEqDiff, ↓reduceIte,h2,h7,h11,Bq,Bh,Aj (i:=((i:Nat):Int)) (k:=i) rfl Al hi8]
  refine W.dload BG (gv.same rfl rfl) fun rd1 hr1=> ?_
  simp only[Bq,Bh,BZ,Aj (i:=((i:Nat):Int)) (k:=i) rfl Al hi8]
  rw[Ab]
  have l0: ∀x∈rd0,F x:=fun x hx=>by rw[hF,hr0 x hx];exact .inr (by omega)
  have l1: ∀x∈rd1,F x:=fun x hx=>by rw[hF,hr1 x hx];exact .inl (by omega)
  refine⟨rfl,by simp, ?_,fun s1 m1 n1 x1=> ?_⟩
  ·dsimp only
   simp only[List.forall_mem_cons]
   repeat' apply And.intro
   all_goals first|trivial|assumption|(intro x hx;cases hx)
  refine W.cast (Md_ ..) ?_
  simp only[Ac,W_oS,W_on,Ab,W_mv,Ad,As,T.get_set,Ag,Af,Aq,Ap,Ae,Ak,reduceIte,An,Ar,Ay,AA,Av,Aw,Ax,Az,Au,Ao,Nat.reduceEqDiff,reduceCtorEq, ↓reduceIte]
  have hx1:Ext Non (In S 0 8) s0 s1:=hx.trans x1 hb0 (fun y hy h=>by rw[hF]at h;rcases h with h|h<;>omega) fun _ _ h=>h.elim
  have ho1:Ah s1 S 0 (w32 (adL st r i)):=fun j v e=>(ho j v e).ext x1 id
  have hown:=ho1 i _ (Du (show i<(adL st r i).length by rw[ZK];exact hi8))
  refine W.store1 (o:=0+i*1) BG rfl (by rw[Nat.mul_one];exact hown) fun s2 n2 x2 o2=> ?_
  rw[Nat.mul_one]at x2 o2
  have ho2:Ah s2 S 0 (w32 (adL st r (i+1))):=by
   rw[←Hp_ st r i hi8,←PR]
   exact ho1.set x2 o2
  have hx2:Ext Non (In S 0 8) s0 s2:=hx1.trans x2 hb0 (fun y hy h=>by have h1:S+(0+i)≤y:=h.1;omega) fun y _ h=>by
   have h1:S+(0+i)≤y:=h.1
   have h2:y<S+(0+i)+1:=h.2
   exact⟨by omega,by omega⟩
  refine Lu_.w FE_ (by omega) ?_
  have ei:wrap64 ((i:Nat)+1:Int)=((i+1:Nat):Int):=by
   rw[BB (by omega) (by omega)];simp
  simp only[RL,Ac,W_oS,W_on,Ab,W_mv,Ad,As,T.get_set,Ag,Af,Aq,Ap,Ae,Ak,reduceIte,An,Ar,Ay,AA,Av,Aw,Ax,Az,Au,Ao,Nat.reduceEqDiff,reduceCtorEq, ↓reduceIte,A7,Bd,A8,Bc,Bm,Bj,Bg,Bk,h11,ei]
  exact ih (i+1) _ _ _ _ (by omega) (by omega) Mj_ hx2 ho2 (by simp[T.get_set,h2]) (by simp[T.get_set,h4]) (by simp[T.get_set,h7]) (by simp[T.get_set]) fun n' tm' s5 td' e=>q n' tm' s5 td' (by omega)
end
theorem Ig (r:Sha.St8):(st8L r).length=8:=rfl
theorem JO_ {n:Nat}{s:St}{v:Value}{st:Sha.St8}{l:List Nat}{Q:Value→St→Prop}(hbd:s.lim≤s.next)(hn:1500≤n)(h:Bn s v l)(hlt: ∀x,BsF v x→x<s.next)(hl64:l.length=64)(hby:Byt l)(hst:st.Ok)
  (q: ∀s1,Ext (BsF v) Non s s1→Q (.agg (w32 (st8L (Sha.next st fun j=>l.getD j 0))).toArray) s1):W (AJ envS (runF envS n) 132 [.agg (w32 (st8L st)).toArray,v]) s Q:=by
 refine Ix_ fun tm h0 h1=> ?_
 have hf: ∀j,l.getD j 0<256:=fun j=>by
  rw[List.getD_eq_getElem?_getD]
  cases h:l[j]? with
  |none=>exact(by decide:0<256)
  |some x=>exact hby x (List.mem_of_getElem? h)
 have own: ∀{a b:Nat} {y:Nat},In a 0 b y→a≤y:=fun h=>by have:=h.1;omega
 refine Ft_.w rfl (by omega) ?_
 simp only[Sh,Ac,W_oS,W_on,Ab,W_mv,Ad,As,T.get_set,Ag,Af,Aq,Ap,Ae,Ak,reduceIte,An,Ar,Ay,AA,Av,Aw,Ax,Az,Au,Ao,Nat.reduceEqDiff,reduceCtorEq, ↓reduceIte,h0]
 refine W.box fun s1 n1 x1 o1=> ?_
 rw[BS,B1,Ig]at n1
 rw[BS]at o1
 have n1':s1.next=s.next+9:=n1
 refine W.alloc NS fun s2 n2 x2 o2=> ?_
 have n2':s2.next=s1.next+9:=n2
 have hx2:Ext (BsF v) Non (s.cxN cxN) s2:=(x1.weak hbd (fun _ _ h=>h.elim) fun _ _ h=>h).step x2 hbd (fun _ _ h=>h.elim) fun _ h=>h.elim
 have hb2:s2.lim≤s2.next:=hx2.bnd hbd
 have hN2:s.next≤s2.next:=hx2.nxt
 refine Bm_.w FC_ (by omega) ?_
 simp only[V9,Ac,W_oS,W_on,Ab,W_mv,Ad,As,T.get_set,Ag,Af,Aq,Ap,Ae,Ak,reduceIte,An,Ar,Ay,AA,Av,Aw,Ax,Az,Au,Ao,Nat.reduceEqDiff,reduceCtorEq, ↓reduceIte,h1]
 refine Db_ hb2 (by omega) ((h.same (s':=s.cxN cxN) rfl rfl).ext0 hx2) (fun x hx=>Nat.lt_of_lt_of_le (hlt x hx) hN2) hl64 hby fun s3 x3=> ?_
 have hx3:=hx2.step x3 hbd (fun _ _ h=>h) fun _ h=>h.elim
 refine Ml_ (hx3.bnd hbd) (by omega) fun s4 x4=> ?_
 have hx4:=hx3.step x4 hbd (fun _ _ h=>h.elim) fun _ h=>h.elim
 refine W.alloc If fun s5 n5 x5 o5=> ?_
 have n5':s5.next=s4.next+65:=n5
 have hx5:=hx4.step x5 hbd (fun _ _ h=>h.elim) fun _ h=>h.elim
 refine W.alloc If fun s6 n6 x6 o6=> ?_
 have n6':s6.next=s5.next+65:=n6
 have hx6:=hx5.step x6 hbd (fun _ _ h=>h.elim) fun _ h=>h.elim
 have hN4:s2.next≤s4.next:=Nat.le_trans x3.nxt x4.nxt
 refine W.store FG (by rw[BS,B1,Ft]) (by rw[BS];exact Ef _) (fun i hi=>let ⟨u,hu⟩:=Ah.owned o5 i hi;⟨u,hu.ext x6 id⟩) fun s7 n7 x7 o7=> ?_
 rw[BS]at o7
 have hx7:=hx6.step x7 hbd (fun y hy h=>by have h5:=own h;have h6:y<s.lim:=hy;omega) fun y h=>by have h5:=own h;show s.next≤y;omega
 refine W.store FG (by rw[BS,B1];rfl) (by rw[BS];exact Ef _) (fun i hi=>let ⟨u,hu⟩:=Ah.owned o6 i hi;⟨u,hu.ext x7 fun h=>by have h5:=h.1;have h6:=h.2;omega⟩) fun s8 n8 x8 o8=> ?_
 rw[BS]at o8
 have hx8:=hx7.step x8 hbd (fun y hy h=>by have h5:=own h;have h6:y<s.lim:=hy;omega) fun y h=>by have h5:=own h;show s.next≤y;omega
 have o7':Ah s8 s4.next 0 (w32 (schL fun j=>l.getD j 0)):=o7.ext x8 fun i hi h=>by
  rw[B1,Ft]at hi
  have h5:=own h
  omega
 have hoS:Ah s8 s.next 0 (w32 (st8L st)):=by
  refine Ah.ext (G:=fun y=>s2.next≤y) (F:=BsF v) o1 ?_ fun i hi h=> ?_
  ·have a1:Ext (BsF v) (fun y=>s2.next≤y) s1 s2:=x2.weak (x1.bnd hbd) (fun _ _ h=>h.elim) fun _ _ h=>h.elim
   have a2:Ext (BsF v) (fun y=>s2.next≤y) s1 s4:=(a1.trans x3 (x1.bnd hbd) (fun _ _ h=>h) fun _ _ h=>h.elim).trans x4 (x1.bnd hbd) (fun _ _ h=>h.elim) fun _ _ h=>h.elim
   have a3:Ext (BsF v) (fun y=>s2.next≤y) s1 s6:=(a2.trans x5 (x1.bnd hbd) (fun _ _ h=>h.elim) fun _ _ h=>h.elim).trans x6 (x1.bnd hbd) (fun _ _ h=>h.elim) fun _ _ h=>h.elim
   have hl1:s1.lim≤s.next:=by rw[x1.lim];exact hbd
   have a4:=a3.trans x7 (x1.bnd hbd) (fun y hy h=>by have h5:=own h;omega) fun y _ h=>by have h5:=own h;show s2.next≤y;omega
   exact a4.trans x8 (x1.bnd hbd) (fun y hy h=>by have h5:=own h;omega) fun y _ h=>by have h5:=own h;show s2.next≤y;omega
  ·rw[B1,Ig]at hi
   omega
 have hN8:s8.next=s6.next:=by omega
 refine Ue_.w DD_ (by omega) ?_
 simp only[WL,Ac,W_oS,W_on,Ab,W_mv,Ad,As,T.get_set,Ag,Af,Aq,Ap,Ae,Ak,reduceIte,An,Ar,Ay,AA,Av,Aw,Ax,Az,Au,Ao,Nat.reduceEqDiff,reduceCtorEq, ↓reduceIte]
 refine W.loadA Em hoS.row (by rw[B1];rfl) fun s9 m9 n9 x9=> ?_
 have hx9:=hx8.step x9 hbd (fun y hy h=>by have h5:s.next+0≤y:=h.1;have h6:y<s.lim:=hy;omega) fun _ h=>h.elim
 refine W.alloc NS fun s10 n10 x10 o10=> ?_
 have n10':s10.next=s9.next+9:=n10
 have hx10:=hx9.step x10 hbd (fun _ _ h=>h.elim) fun _ h=>h.elim
 refine W.store Em (by rw[BS,B1];rfl) (by rw[BS];exact Ef _) (fun i hi=>Ah.owned o10 i hi) fun s11 n11 x11 o11=> ?_
 rw[BS]at o11
 have hx11:=hx10.step x11 hbd (fun y hy h=>by have h5:=own h;have h6:y<s.lim:=hy;omega) fun y h=>by have h5:=own h;show s.next≤y;omega
 have hb11:s11.lim≤s11.next:=hx11.bnd hbd
 have hl11:s11.lim≤s.next:=by rw[hx11.lim];exact hbd
 have x8_11:Ext (fun y=>s.next≤y) (In s9.next 0 8) s8 s11:=((x9.weak (hx8.bnd hbd) (fun y _ h=>by have h5:s.next+0≤y:=h.1;show s.next≤y;omega) fun _ _ h=>h.elim).trans x10 (hx8.bnd hbd) (fun _ _ h=>h.elim) fun _ _ h=>h.elim).trans x11 (hx8.bnd hbd) (fun y _ h=>by have h5:=own h;show s.next≤y;omega) fun _ _ h=>h
 refine Id_.w Gb_ (by omega) ?_
 simp only[Ac_,Ac,W_oS,W_on,Ab,W_mv,Ad,As,T.get_set,Ag,Af,Aq,Ap,Ae,Ak,reduceIte,An,Ar,Ay,AA,Av,Aw,Ax,Az,Au,Ao,Nat.reduceEqDiff,reduceCtorEq, ↓reduceIte]
 refine Pd_ (V:=s9.next) (C:=s5.next) (B:=s4.next) (f:=fun j=>l.getD j 0) (st:=st) (s0:=s11) (a2:= .pointer (some ⟨s.next,0,none⟩)) (a4:= .pointer (some ⟨s1.next,0,none⟩)) hb11 (by omega) (by omega) (by omega) (.inr (by omega)) (.inr (by omega)) hst (o7'.ext x8_11 fun i hi h=>by
  rw[B1,Ft]at hi
  have h5:=own h
  omega) (o8.ext x8_11 fun i hi h=>by
  rw[B1,Sha.ks_len]at hi
  have h5:=own h
  omega) 64 0 _ _ _ _ (by omega) (by omega) Qm_ (Ext.refl _) o11 (by simp[T.get_set]) (by simp[T.get_set]) (by simp[T.get_set]) (by simp[T.get_set]) (by simp[T.get_set]) (by simp[T.get_set]) fun n12 tm12 s12 td12 hn12 hT12 hx12 ho12 g2 g4 g7=> ?_
 have hx12':=hx11.step hx12 hbd (fun _ _ h=>h.elim) fun y h=>by have h5:=own h;show s.next≤y;omega
 refine NU_.w hT12 (by omega) ?_
 simp only[Xz,Ac,W_oS,W_on,Ab,W_mv,Ad,As,T.get_set,Ag,Af,Aq,Ap,Ae,Ak,reduceIte,An,Ar,Ay,AA,Av,Aw,Ax,Az,Au,Ao,Nat.reduceEqDiff,reduceCtorEq, ↓reduceIte]
 have hoS12:Ah s12 s.next 0 (w32 (st8L st)):=(hoS.ext x8_11 fun i hi h=>by
  rw[B1,Ig]at hi
  have h5:=own h
  omega).ext hx12 fun i hi h=>by
  rw[B1,Ig]at hi
  have h5:=own h
  omega
 refine Hi_ (V:=s9.next) (S:=s.next) (R:=s1.next) (st:=st) (s0:=s12) (hx12'.bnd hbd) (by rw[hx12'.lim];show s.lim≤_;omega) (by rw[hx12'.lim];exact hbd) (.inr (by omega)) ho12 8 0 _ _ _ _ (by omega) (by omega) UW_ (Ext.refl _) (by rw[Wn_];exact hoS12) (by simp[T.get_set,g2]) (by simp[T.get_set,g4]) (by simp[T.get_set,g7]) (by simp[T.get_set]) fun n13 tm13 s13 td13 hn13 hT13 hx13 ho13 k2 k4=> ?_
 have hx13':=hx12'.step hx13 hbd (fun _ _ h=>h.elim) fun y h=>by have h5:=own h;show s.next≤y;omega
 refine EP_.w hT13 (by omega) ?_
 simp only[Y4,Ac,W_oS,W_on,Ab,W_mv,Ad,As,T.get_set,Ag,Af,Aq,Ap,Ae,Ak,reduceIte,An,Ar,Ay,AA,Av,Aw,Ax,Az,Au,Ao,Nat.reduceEqDiff,reduceCtorEq, ↓reduceIte,k2,k4]
 refine W.loadA Em ho13.row (by rw[B1];rfl) fun s14 m14 n14 x14=> ?_
 have hx14:=hx13'.step x14 hbd (fun y hy h=>by have h5:s.next+0≤y:=h.1;have h6:y<s.lim:=hy;omega) fun _ h=>h.elim
 have hoR:Bb s14 s1.next 0 8:=by
  refine Bb.ext1 (F:=fun _=>True) (G:=fun y=>s2.next≤y∨In s.next 0 8 y) (Ah.owned o2) ?_ fun y h h'=> ?_
  ·have hb2':=hb2
   have t: ∀{F G:Nat→Prop} {a b:St},Ext (fun _=>True) (fun y=>s2.next≤y∨In s.next 0 8 y) s2 a→Ext F G a b→(∀y,G y→s2.next≤y∨In s.next 0 8 y)→Ext (fun _=>True) (fun y=>s2.next≤y∨In s.next 0 8 y) s2 b:=fun h k hG=>h.trans k hb2' (fun _ _ _=>trivial) fun y _ h=>hG y h
   have b4:=t (t (Ext.refl s2) x3 fun _ h=>h.elim) x4 fun _ h=>h.elim
   have b6:=t (t b4 x5 fun _ h=>h.elim) x6 fun _ h=>h.elim
   have b8:=t (t b6 x7 fun y h=> .inl (by have:=own h;omega)) x8 fun y h=> .inl (by have:=own h;omega)
   have b11:=t b8 x8_11 fun y h=> .inl (by have:=own h;omega)
   have b13:=t (t b11 hx12 fun y h=> .inl (by have:=own h;omega)) hx13 fun y h=> .inr h
   exact t b13 x14 fun _ h=>h.elim
  ·have h5:=h.1
   have h6:y<s1.next+0+8:=h.2
   rcases h' with h'|h'
   ·omega
   ·have:=h'.2
    omega
 refine W.store Em (by rw[BS,B1];rfl) (by rw[BS];exact Ef _) (fun i hi=>hoR i hi) fun s15 n15 x15 o15=> ?_
 rw[BS]at o15
 have hx15:=hx14.step x15 hbd (fun y hy h=>by have h5:=own h;have h6:y<s.lim:=hy;omega) fun y h=>by have h5:=own h;show s.next≤y;omega
 refine W.endC (r:=4) LR_ (.inl Ty_) (by omega) ZB LL_ hx15.cx (by simp[T.get_set,k4];rfl) ?_
 refine W.loadA Em o15.row (by rw[B1];rfl) fun s16 m16 n16 x16=> ?_
 have hx16:=hx15.step x16 hbd (fun y hy h=>by have h5:s1.next+0≤y:=h.1;have h6:y<s.lim:=hy;omega) fun _ h=>h.elim
 exact q _ hx16.cx'
section
variable {s0:St}{Q:Value×FrameMode→St→Prop}
theorem EmB.len {s s':St}{l:List Nat}{v:Value}{b:Nat}(h:EmB s l v b)(Q:Value→St→Prop):W (A6 envS .len [22] [v]) s' Q=Q (.int .i64 (l.length:Nat)) s':=by
 obtain⟨c,rfl⟩:=h.at
 exact Ch BA Q
theorem W.app1 {F G:Nat→Prop}{s:St}{l:List Nat}{x:Nat}{v:Value}{b:Nat}{Q:Value→St→Prop}(hbd:s.lim≤s.next)(h:EmB s l v b)(hz:l.length+1≤1000000)(hF:s0.next≤b)(hx:Ext F G s0 s)(hb0:s0.lim≤s0.next)
  (q: ∀s2 v2 b2,s0.next≤b2→EmB s2 (l++[x]) v2 b2→Ext F G s0 s2→Q v2 s2):W (BX envS 22 1 [(0, .int .u8 (x:Nat))]) s (fun a s1=>W (A6 envS .append [22,22] [v,a]) s1 Q):=by
 refine W.buildS hbd (r:=u8l [x]) CK (by decide) rfl (Bt (by decide)) fun s1 n1 x1 r1=> ?_
 have hb1:s1.lim≤s1.next:=x1.bnd hbd
 have hB:Bs s1 (.slice (some ⟨s.next,0,none⟩) 1 1) [x]:=Ah.bn r1 (Bt (by simp))
 refine W.appBy hb1 (h.ext0 x1) hB (by simpa using hz) fun s2 v2 b2 hb2 h2 x2=> ?_
 have hN:s0.next≤s.next:=hx.nxt
 refine q s2 v2 b2 ?_ h2 ?_
 ·have:=x1.nxt
  rcases hb2 with rfl|hb2<;>omega
 ·refine(hx.trans x1 hb0 (fun _ _ h=>h.elim) fun _ _ h=>h.elim).trans x2 hb0 (fun y hy h=> ?_) fun y hy h=> ?_
  ·rcases h with h|h
   ·have:s.next+0≤y:=h.1
    omega
   ·have:b+0≤y:=h.2.1
    omega
  ·have:b+0≤y:=h.2.1
   omega
theorem DW_ {v:Value}{F:Nat→Prop}{b:List Nat}(hb0:s0.lim≤s0.next)(hz:b.length≤900000): ∀(k j n:Nat) (tm:T Value) (s:St) (td:List Item) (w:Value) (nb:Nat),j+k=(119-b.length%64)%64→8*k+30≤n→skim 64 td=Hz→Ext F Non s0 s→s0.next≤nb→EmB s (b++(128::List.replicate j 0)) w nb→
  T.get tm 0=some v→T.get tm 3=some w→
  (∀n' tm' s1 td' w nb,n≤n'+8*k+10→skim 64 td'=Jt→Ext F Non s0 s1→s0.next≤nb→EmB s1 (b++(128::List.replicate ((119-b.length%64)%64) 0)) w nb→T.get tm' 0=some v→T.get tm' 3=some w→W (runF envS n' ⟨131,Kt,CJ,tm',td', .run, .normal,none⟩) s1 Q)→
  W (runF envS n ⟨131,Kt,CJ,tm,td, .run, .normal,none⟩) s Q:=by
 intro k
 induction k with
 |zero=>
  intro j n tm s td w nb hj hn hT hx hnb he h0 h3 q
  have hl:(b++(128::List.replicate j 0)).length=b.length+1+j:=by rw[List.length_append,List.length_cons,List.length_replicate];omega
  refine W3.w hT (by omega) ?_
  simp only[NW,Ac,W_oS,W_on,Ab,W_mv,Ad,As,T.get_set,Ag,Af,Aq,Ap,Ae,Ak,reduceIte,An,Ar,Ay,AA,Av,Aw,Ax,Az,Au,Ao,Nat.reduceEqDiff,reduceCtorEq, ↓reduceIte,h3]
  rw[he.len,hl]
  simp only[A7,Bd,A8,Bc,Bm,Bj,Bg,Bk,LE]
  refine W.cond (v:=false) Sz V8 (by simp[T.get_set];omega) (by omega) (fun h=>by cases h) fun _=> ?_
  rw[show j=(119-b.length%64)%64 by omega]at he
  exact q _ _ _ _ w nb (by omega) Wa_ hx hnb he (by simp[T.get_set,h0]) (by simp[T.get_set,h3])
 |succ k ih=>
  intro j n tm s td w nb hj hn hT hx hnb he h0 h3 q
  have hl:(b++(128::List.replicate j 0)).length=b.length+1+j:=by rw[List.length_append,List.length_cons,List.length_replicate];omega
  refine W3.w hT (by omega) ?_
  simp only[NW,Ac,W_oS,W_on,Ab,W_mv,Ad,As,T.get_set,Ag,Af,Aq,Ap,Ae,Ak,reduceIte,An,Ar,Ay,AA,Av,Aw,Ax,Az,Au,Ao,Nat.reduceEqDiff,reduceCtorEq, ↓reduceIte,h3]
  rw[he.len,hl]
  simp only[A7,Bd,A8,Bc,Bm,Bj,Bg,Bk,LE]
  refine W.cond (v:=true) Sz V8 (by simp[T.get_set];omega) (by omega) (fun _=> ?_) fun h=>by cases h
  refine Vs_.w OD_ (by omega) ?_
  simp only[Sd,Ac,W_oS,W_on,Ab,W_mv,Ad,As,T.get_set,Ag,Af,Aq,Ap,Ae,Ak,reduceIte,An,Ar,Ay,AA,Av,Aw,Ax,Az,Au,Ao,Nat.reduceEqDiff,reduceCtorEq, ↓reduceIte,h3]
  refine W.app1 (x:=0) (hx.bnd hb0) he (by rw[hl];omega) hnb hx hb0 fun s2 w2 b2 hb2 h2 x2=> ?_
  have e:b++(128::List.replicate j 0)++[0]=b++(128::List.replicate (j+1) 0):=by
   rw[List.append_assoc,List.cons_append,←List.replicate_succ']
  rw[e]at h2
  exact ih (j+1) _ _ _ _ w2 b2 (by omega) (by omega) BW_ x2 hb2 h2 (by simp[T.get_set,h0]) (by simp[T.get_set]) fun n' tm' s3 td' w nb e=>q n' tm' s3 td' w nb (by omega)
theorem Jn_ {F:Nat→Prop}{N:Nat}(hb0:s0.lim≤s0.next)(hN:N≤100000000): ∀(k n:Nat) (tm:T Value) (s:St) (td:List Item) (w:Value) (nb:Nat) (l:List Nat),k≤8→10*k+30≤n→skim 64 td=GA→Ext F Non s0 s→s0.next≤nb→EmB s l w nb→l.length+k≤1000000→
  T.get tm 3=some w→T.get tm 4=some (.int .i64 (N:Nat))→T.get tm 5=some (.int .i64 ((k:Nat)-1:Int))→
  (∀n' tm' s1 td' w nb,n≤n'+10*k+10→skim 64 td'=H2→Ext F Non s0 s1→s0.next≤nb→EmB s1 (l++tl8 N k) w nb→T.get tm' 3=some w→W (runF envS n' ⟨131,Kt,CJ,tm',td', .run, .normal,none⟩) s1 Q)→
  W (runF envS n ⟨131,Kt,CJ,tm,td, .run, .normal,none⟩) s Q:=by
 intro k
 induction k with
 |zero=>
  intro n tm s td w nb l hk hn hT hx hnb he hl h3 h4 h5 q
  refine Vo.w hT (by omega) ?_
  simp only[Po,Ac,W_oS,W_on,Ab,W_mv,Ad,As,T.get_set,Ag,Af,Aq,Ap,Ae,Ak,reduceIte,An,Ar,Ay,AA,Av,Aw,Ax,Az,Au,Ao,Nat.reduceEqDiff,reduceCtorEq, ↓reduceIte,A7,Bd,A8,Bc,Bm,Bj,Bg,Bk,h5]
  refine W.cond (v:=false) T4 Uy (by simp[T.get_set]) (by omega) (fun h=>by cases h) fun _=> ?_
  refine q _ _ _ _ w nb (by omega) Co_ hx hnb ?_ (by simp[T.get_set,h3])
  rw[show tl8 N 0=[]from rfl,List.append_nil]
  exact he
 |succ k ih=>
  intro n tm s td w nb l hk hn hT hx hnb he hl h3 h4 h5 q
  have ec:(((k+1:Nat):Int)-1)=((k:Nat):Int):=by omega
  rw[ec]at h5
  refine Vo.w hT (by omega) ?_
  simp only[Po,Ac,W_oS,W_on,Ab,W_mv,Ad,As,T.get_set,Ag,Af,Aq,Ap,Ae,Ak,reduceIte,An,Ar,Ay,AA,Av,Aw,Ax,Az,Au,Ao,Nat.reduceEqDiff,reduceCtorEq, ↓reduceIte,A7,Bd,A8,Bc,Bm,Bj,Bg,Bk,h5]
  refine W.cond (v:=true) T4 Uy (by simp[T.get_set]) (by omega) (fun _=> ?_) fun h=>by cases h
  refine DL_.w Ds_ (by omega) ?_
  simp only[Uv,Ac,W_oS,W_on,Ab,W_mv,Ad,As,T.get_set,Ag,Af,Aq,Ap,Ae,Ak,reduceIte,An,Ar,Ay,AA,Av,Aw,Ax,Az,Au,Ao,Nat.reduceEqDiff,reduceCtorEq, ↓reduceIte,h3,h4,h5,Ll (show 8*k≤9223372036854775807 by omega),EO (k:= .i64) (kk:= .i64) (n:=8*k) (show 8*k≤btOf .i64 by show 8*k≤64;omega),Da KG Dp,wrap_u8]
  refine W.app1 (x:=N>>>(8*k)%256) (hx.bnd hb0) he (by omega) hnb hx hb0 fun s2 w2 b2 hb2 h2 x2=> ?_
  refine OT_.w DE_ (by omega) ?_
  have ei:wrap64 ((k:Nat)-1:Int)=((k:Nat)-1:Int):=BB (by omega) (by omega)
  simp only[Xk,Ac,W_oS,W_on,Ab,W_mv,Ad,As,T.get_set,Ag,Af,Aq,Ap,Ae,Ak,reduceIte,An,Ar,Ay,AA,Av,Aw,Ax,Az,Au,Ao,Nat.reduceEqDiff,reduceCtorEq, ↓reduceIte,A7,Bd,A8,Bc,Bm,Bj,Bg,Bk,h5,ei]
  refine ih _ _ _ _ w2 b2 (l++[N>>>(8*k)%256]) (by omega) (by omega) Sm_ x2 hb2 h2 (by rw[List.length_append,List.length_singleton];omega) (by simp[T.get_set]) (by simp[T.get_set,h4]) (by simp[T.get_set]) fun n' tm' s3 td' w nb e h1 h2 h3 h4 h5=>q n' tm' s3 td' w nb (by omega) h1 h2 h3 ?_ h5
  rw[List.append_assoc]at h4
  exact h4
end
theorem NH_ {n:Nat}{s:St}{v:Value}{l:List Nat}{Q:Value→St→Prop}(hbd:s.lim≤s.next)(hn:800≤n)(h:Bs s v l)(hz:l.length≤900000)
  (q: ∀s1 w b,s.next≤b→Ext (BsF v) Non s s1→EmB s1 (Dj l) w b→Q w s1):W (AJ envS (runF envS n) 131 [v]) s Q:=by
 refine AY_ fun tm h0=> ?_
 have hc:Bs (s.cxN cxN) v l:=h.same rfl rfl
 refine Cz_.w rfl (by omega) ?_
 simp only[WJ,Ac,W_oS,W_on,Ab,W_mv,Ad,As,T.get_set,Ag,Af,Aq,Ap,Ae,Ak,reduceIte,An,Ar,Ay,AA,Av,Aw,Ax,Az,Au,Ao,Nat.reduceEqDiff,reduceCtorEq, ↓reduceIte]
 refine AM_.w Su_ (by omega) ?_
 simp only[Vk,Ac,W_oS,W_on,Ab,W_mv,Ad,As,T.get_set,Ag,Af,Aq,Ap,Ae,Ak,reduceIte,An,Ar,Ay,AA,Av,Aw,Ax,Az,Au,Ao,Nat.reduceEqDiff,reduceCtorEq, ↓reduceIte,h0]
 refine W.buildS (s:=s.cxN cxN) hbd (r:=[]) CK (by decide) rfl (Bt (by decide)) fun s2 n2 x2 r2=> ?_
 have hb2:s2.lim≤s2.next:=x2.bnd hbd
 refine W.appBy hb2 EmB.nil (hc.ext0 x2) (by show 0+_≤_;omega) fun s3 w3 b3 hb3 h3 x3=> ?_
 have hnm: ∀y,¬MkF 1 ([]:List Nat).length (s.cxN cxN).next y:=fun y hy=>absurd hy.1 (by simp)
 have x3':Ext (BsF v) Non s2 s3:=x3.weak hb2 (fun y _ hy=>hy.elim id fun hy=>(hnm y hy).elim) fun y _ hy=>hnm y hy
 have hx3:Ext (BsF v) Non (s.cxN cxN) s3:=(x2.weak hbd (fun _ _ h=>h.elim) fun _ _ h=>h).step x3' hbd (fun _ _ h=>h) fun _ h=>h.elim
 have hs3:(s.cxN cxN).next≤b3:=by
  have:s.next≤s2.next:=x2.nxt
  show s.next≤b3
  rcases hb3 with rfl|hb3
  ·exact Nat.le_refl _
  ·omega
 rw[List.nil_append]at h3
 refine Vl_.w Tx_ (by omega) ?_
 simp only[Sw,Ac,W_oS,W_on,Ab,W_mv,Ad,As,T.get_set,Ag,Af,Aq,Ap,Ae,Ak,reduceIte,An,Ar,Ay,AA,Av,Aw,Ax,Az,Au,Ao,Nat.reduceEqDiff,reduceCtorEq, ↓reduceIte]
 refine W.app1 (x:=128) (s0:=s.cxN cxN) (hx3.bnd hbd) h3 (by omega) hs3 hx3 hbd fun s4 w4 b4 hb4 h4 x4=> ?_
 refine DW_ (v:=v) (F:=BsF v) (b:=l) (s0:=s.cxN cxN) hbd hz ((119-l.length%64)%64) 0 _ _ _ _ w4 b4 (by omega) (by omega) DU_ x4 hb4 h4 (by simp[T.get_set,h0]) (by simp[T.get_set]) fun n5 tm5 s5 td5 w5 b5 hn5 hT5 hx5 hb5 h5 g0 g3=> ?_
 refine Fo_.w hT5 (by omega) ?_
 simp only[RQ,Ac,W_oS,W_on,Ab,W_mv,Ad,As,T.get_set,Ag,Af,Aq,Ap,Ae,Ak,reduceIte,An,Ar,Ay,AA,Av,Aw,Ax,Az,Au,Ao,Nat.reduceEqDiff,reduceCtorEq, ↓reduceIte,g0]
 rw[(hc.ext0 hx5).len BA]
 simp only[Ll (show 8*l.length≤9223372036854775807 by omega)]
 refine Ru_.w FY_ (by omega) ?_
 simp only[UK,Ac,W_oS,W_on,Ab,W_mv,Ad,As,T.get_set,Ag,Af,Aq,Ap,Ae,Ak,reduceIte,An,Ar,Ay,AA,Av,Aw,Ax,Az,Au,Ao,Nat.reduceEqDiff,reduceCtorEq, ↓reduceIte]
 refine Jn_ (F:=BsF v) (N:=8*l.length) (s0:=s.cxN cxN) hbd (by omega) 8 _ _ _ _ w5 b5 (l++(128::List.replicate ((119-l.length%64)%64) 0)) (by omega) (by omega) Px_ hx5 hb5 h5 (by rw[List.length_append,List.length_cons,List.length_replicate];omega) (by simp[T.get_set,g3]) (by simp[T.get_set]) (by simp[T.get_set]) fun n6 tm6 s6 td6 w6 b6 hn6 hT6 hx6 hb6 h6 k3=> ?_
 refine Fl_.w hT6 (by omega) ?_
 simp only[RN,Ac,W_oS,W_on,Ab,W_mv,Ad,As,T.get_set,Ag,Af,Aq,Ap,Ae,Ak,reduceIte,An,Ar,Ay,AA,Av,Aw,Ax,Az,Au,Ao,Nat.reduceEqDiff,reduceCtorEq, ↓reduceIte,k3]
 refine W.end' (rs:=[2]) (vs:=[w6]) Nx_ (.inl VU_) (by omega) Sp CY_ hx6.cx (by simp[T.get_set]) ?_
 refine q _ _ b6 hb6 hx6.cx' ?_
 have:=h6.same (s':=s6.cxN s.cx) rfl rfl
 rw[List.append_assoc]at this
 exact this
theorem Ia_:EC envS 161 [(0, .int .u32 1779033703),(1, .int .u32 3144134277),(2, .int .u32 1013904242),(3, .int .u32 2773480762),(4, .int .u32 1359893119),(5, .int .u32 2600822924),(6, .int .u32 528734635),(7, .int .u32 1541459225)]=some (w32 (st8L De)):=by kernel_rfl
theorem Ra_ {x:List Nat}(h:Byt x)(q:Nat):Byt (blk x q):=fun y hy=>h y (List.mem_of_mem_take (List.mem_of_mem_drop hy))
theorem EE_ {x:List Nat}{q:Nat}(h:64*q+64≤x.length):(blk x q).length=64:=by
 unfold blk
 rw[List.length_drop,List.length_take]
 omega
theorem WM (n d:Nat):bndV (some (.int .i64 (n:Nat))) d=some n:=rfl
section
variable {S R:Nat}{w:Value}{X:List Nat}{N:Nat}{Q:Value×FrameMode→St→Prop}{s0:St}
theorem SV_ (hb0:s0.lim≤s0.next)(hSl:s0.lim≤S)(hw:Bn s0 w X)(hwn: ∀x,BsF w x→x<s0.next∧ ¬In S 0 8 x)(hX:X.length=64*N)(hz:X.length≤1000000)(hby:Byt X): ∀(k i n:Nat) (tm:T Value) (s:St) (td:List Item),i+k=N→6*k+2000≤n→skim 64 td=Hu→Ext (BsF w) (In S 0 8) s0 s→Ah s S 0 (w32 (st8L (CT X i)))→
  T.get tm 2=some (.pointer (some ⟨R,0,none⟩))→T.get tm 3=some (.pointer (some ⟨S,0,none⟩))→T.get tm 4=some w→T.get tm 5=some (.int .i64 (64*i:Nat))→
  (∀n' tm' s1 td',n≤n'+6*k+10→skim 64 td'=Jg→Ext (BsF w) (In S 0 8) s0 s1→Ah s1 S 0 (w32 (st8L (CT X N)))→T.get tm' 2=some (.pointer (some ⟨R,0,none⟩))→T.get tm' 3=some (.pointer (some ⟨S,0,none⟩))→W (runF envS n' ⟨107,Mx,Cx,tm',td', .run, .normal,none⟩) s1 Q)→
  W (runF envS n ⟨107,Mx,Cx,tm,td, .run, .normal,none⟩) s Q:=by
 intro k
 induction k with
 |zero=>
  intro i n tm s td hi hn hT hx ho h2 h3 h4 h5 q
  refine W4.w hT (by omega) ?_
  simp only[Qz,Ac,W_oS,W_on,Ab,W_mv,Ad,As,T.get_set,Ag,Af,Aq,Ap,Ae,Ak,reduceIte,An,Ar,Ay,AA,Av,Aw,Ax,Az,Au,Ao,Nat.reduceEqDiff,reduceCtorEq, ↓reduceIte,h4,h5]
  obtain⟨b,o,cc,hwe,_⟩:=hw
  rw[hwe,Ch BA]
  simp only[A7,Bd,A8,Bc,Bm,Bj,Bg,Bk]
  refine W.cond (v:=false) Wt VN (by simp[T.get_set];omega) (by omega) (fun h=>by cases h) fun _=> ?_
  obtain rfl:i=N:=by omega
  exact q _ _ _ _ (by omega) Ck_ hx ho (by simp[T.get_set,h2]) (by simp[T.get_set,h3])
 |succ k ih=>
  intro i n tm s td hi hn hT hx ho h2 h3 h4 h5 q
  have hb:s.lim≤s.next:=hx.bnd hb0
  have hN:=hx.nxt
  refine W4.w hT (by omega) ?_
  simp only[Qz,Ac,W_oS,W_on,Ab,W_mv,Ad,As,T.get_set,Ag,Af,Aq,Ap,Ae,Ak,reduceIte,An,Ar,Ay,AA,Av,Aw,Ax,Az,Au,Ao,Nat.reduceEqDiff,reduceCtorEq, ↓reduceIte,h4,h5]
  have hlen: ∀Q:Value→St→Prop,W (A6 envS .len [22] [w]) s Q=Q (.int .i64 (X.length:Nat)) s:=fun Q=>by
   obtain⟨b,o,cc,hwe,_⟩:=hw
   rw[hwe,Ch BA]
  rw[hlen]
  simp only[A7,Bd,A8,Bc,Bm,Bj,Bg,Bk]
  refine W.cond (v:=true) Wt VN (by simp[T.get_set];omega) (by omega) (fun _=> ?_) fun h=>by cases h
  have hws:Bn s w X:=hw.ext hx fun x hxx=>(hwn x hxx).2
  have w64:wrap64 (((64*i:Nat):Int)+64)=((64*i+64:Nat):Int):=by rw[BB (by omega) (by omega)];simp
  refine Lb_.w Tu_ (by omega) ?_
  simp only[VC,T.get_set,Nat.reduceEqDiff, ↓reduceIte,h3,h4,h5,Bq]
  refine W.dloadA Em (fun j v e=>((ho j v e).same (s':=dSt s.mem s.next) rfl rfl).at') (by rw[B1];rfl) fun mem1 rd1 hm1 hr1=> ?_
  subst hm1
  simp only[Bq,BL,Ae,Bh,K8,w64]
  refine W.dop0 (W.cut (hws.same (s':=oSt s.mem s.next) rfl rfl) BA (i:=64*i) (j:=64*i+64) (WM _ _) (WM _ _) (by omega) (by omega) fun w2 hw2 hF2=>⟨rfl, ?_⟩)
  simp only[BL,Ag,Af,Ae]
  have hk:64*i+64≤X.length:=by omega
  refine W.dop ?_
  rw[Ak]
  refine JO_ (l:=blk X i) (st:=CT X i) (Nat.le_refl _) (by omega) hw2 (fun x hxx=>Nat.lt_of_lt_of_le (hwn x (hF2 x hxx)).1 hN) (EE_ hk) (Ra_ hby i) (FD_ X i) fun s2 x2=>⟨BsF w2,x2,fun rd2 hr2=> ?_⟩
  have hn2:s.next≤s2.next:=x2.nxt
  rw[Ab]
  refine⟨Nc ?_, ?_⟩
  ·simp only[List.reverse_cons,List.reverse_nil,List.nil_append,List.cons_append,allP,EL,List.take,Jj]
   have f1: ∀x,x∈rd1→ ¬s.next≤x:=fun x hx=>Nat.not_le_of_lt (by
    have h1:=hr1 x hx
    have h2:=(ho 7 _ rfl).1
    have h3:x<S+0+8:=h1.2
    omega)
   have f2: ∀x,x∈rd2→ ¬s.next≤x:=fun x hx=>Nat.not_le_of_lt (hr2 x hx).1
   simp+contextual [f1,f2]
  refine W.cast (PS_ ..) ?_
  simp only[Ac,W_oS,W_on,Ab,W_mv,Ad,As,T.get_set,Ag,Af,Aq,Ap,Ae,Ak,reduceIte,An,Ar,Ay,AA,Av,Aw,Ax,Az,Au,Ao,Nat.reduceEqDiff,reduceCtorEq, ↓reduceIte,h3]
  generalize hs3:(⟨(dSt s2.mem s2.next).mem,(dSt s2.mem s2.next).next,s.lim,_,_,s.cx⟩:St)=s3
  have m3:s3.mem=s2.mem:=by rw[←hs3];rfl
  have n3:s3.next=s2.next:=by rw[←hs3];rfl
  have x3:Ext (fun y=>BsF w y∨In S 0 8 y) Non s s3:=by
   rw[←hs3]
   refine Ext.draw (F:=fun y=>BsF w y∨In S 0 8 y) hn2 (fun y hy=>x2.mem y hy id) (by simp) ?_
   simp only[List.mem_cons,List.not_mem_nil,or_false]
   rintro m (rfl|rfl|rfl|rfl|rfl|rfl|rfl) x hx _<;>first|exact .inr (hr1 _ hx)|exact .inl (hF2 _ (hr2 _ hx).2)|cases hx
  have hx3:Ext (BsF w) (In S 0 8) s0 s3:=hx.trans x3 hb0 (fun y hy h=>by
   rcases h with h|h
   ·exact h
   ·have:=h.1
    omega) fun _ _ h=>h.elim
  have ho3:Ah s3 S 0 (w32 (st8L (CT X i))):=ho.ext0 x3
  refine W.store Em (by rw[BS,B1];rfl) (by rw[BS];exact Ef _) (fun i hi=>Ah.owned ho3 i hi) fun s4 n4 x4 o4=> ?_
  rw[BS]at o4
  have hx4:Ext (BsF w) (In S 0 8) s0 s4:=hx3.trans x4 hb0 (fun y hy h=>by have:=h.1;omega) fun _ _ h=>h
  refine Vv_.w Tc_ (by omega) ?_
  simp only[Wu,Ac,W_oS,W_on,Ab,W_mv,Ad,As,T.get_set,Ag,Af,Aq,Ap,Ae,Ak,reduceIte,An,Ar,Ay,AA,Av,Aw,Ax,Az,Au,Ao,Nat.reduceEqDiff,reduceCtorEq, ↓reduceIte,A7,Bd,A8,Bc,Bm,Bj,Bg,Bk,h5,w64]
  exact ih (i+1) _ _ _ _ (by omega) (by omega) Im_ hx4 o4 (by simp[T.get_set,h2]) (by simp[T.get_set,h3]) (by simp[T.get_set,h4]) (by simp[T.get_set];omega) fun n' tm' s5 td' e=>q n' tm' s5 td' (by omega)
end
end Go.Proofs.Ytofanlcjeohcjaa.Am
