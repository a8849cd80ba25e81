import Derived.Test.YtofanlcjeohcjaaMt18
import Derived.Test.YtofanlcjeohcjaaMt13
namespace Go.Proofs.Ytofanlcjeohcjaa.Am
open Go.RowKit
theorem Qa_:elT envS 44=some (1,8,[.int .i64 0]):=by kernel_rfl
theorem Hp_:appT envS 44 44=some (1,8,false,[.int .i64 0]):=by kernel_rfl
def Av:List (List Nat)→List Nat
 |[]=>[]
 |b::l=>recB b++Av l
def CY:Nat→List (List Nat)→List Nat
 |_,[]=>[]
 |k,b::l=>(k+(recB b).length)::CY (k+(recB b).length) l
def Bh:Nat→List (List Nat)→List Hd
 |_,[]=>[]
 |k,b::l=>(idB b,k,b.length)::Bh (k+(recB b).length) l
theorem RX (x:List Nat): ∀l,Av (l++[x])=Av l++recB x
 |[]=>by show recB x++[]=_;rw[List.append_nil];rfl
 |b::l=>by show recB b++Av (l++[x])=(recB b++Av l)++recB x;rw[RX x l,List.append_assoc]
theorem WQ (x:List Nat): ∀(l:List (List Nat)) (k:Nat),CY k (l++[x])=CY k l++[k+(Av l).length+(recB x).length]
 |[],k=>rfl
 |b::l,k=>by
  show(k+(recB b).length)::CY (k+(recB b).length) (l++[x])=(k+(recB b).length)::CY (k+(recB b).length) l++[k+(recB b++Av l).length+(recB x).length]
  rw[WQ x l,List.length_append,List.cons_append,Nat.add_assoc k]
theorem ZX (x:List Nat): ∀(l:List (List Nat)) (k:Nat),Bh k (l++[x])=Bh k l++[(idB x,k+(Av l).length,x.length)]
 |[],k=>rfl
 |b::l,k=>by
  show(idB b,k,b.length)::Bh (k+(recB b).length) (l++[x])=(idB b,k,b.length)::Bh (k+(recB b).length) l++[(idB x,k+(recB b++Av l).length,x.length)]
  rw[ZX x l,List.length_append,List.cons_append,Nat.add_assoc k]
def Fl (l:List Nat):List Value:=l.map fun n=> .int .i64 (n:Nat)
section
variable {parts:List (Value×List Nat)}{b o c:Nat}
def chs (parts:List (Value×List Nat))(i:Nat):List (List Nat):=(parts.take i).map (·.2)
theorem OG {i:Nat}(hi:i<parts.length):chs parts (i+1)=chs parts i++[parts[i].2]:=by
 unfold chs
 rw[List.take_succ_eq_append_getElem hi,List.map_append]
 rfl
structure AlI (s0:St)(parts:List (Value×List Nat))(b o c i:Nat)(tm:T Value)(s:St)(vb ve vh:Value)(b1 b2 b3:Nat):Prop where
 t0:T.get tm 0=some (.slice (some ⟨b,o,none⟩) parts.length c)
 t6:T.get tm 6=some vb
 t7:T.get tm 7=some ve
 t8:T.get tm 8=some vh
 t11:T.get tm 11=some (.int .i64 (i:Nat))
 mb:MkS s 1 (Av (chs parts i)).length (u8l (Av (chs parts i))) vb b1
 me:MkS s 1 i (Fl (CY 0 (chs parts i))) ve b2
 mh:MkS s 18 i (A3 (Bh 0 (chs parts i))) vh b3
 n1:s0.next≤b1
 n2:s0.next≤b2
 n3:s0.next≤b3
 d12: ∀x,MkF 1 (Av (chs parts i)).length b1 x→ ¬MkF 1 i b2 x
 d13: ∀x,MkF 1 (Av (chs parts i)).length b1 x→ ¬MkF 18 i b3 x
 d23: ∀x,MkF 1 i b2 x→ ¬MkF 18 i b3 x
 sm: ∀p∈parts.take i,1≤p.2.length∧p.2.length≤1024
theorem IH_ {id:List Nat}(h:id.length=16)(a b:Nat)(s:St)(Q:Value→St→Prop):W (Cc envS 35 [(0, .agg (u8l id).toArray),(1, .int .i64 (a:Nat)),(2, .int .i64 (b:Nat))]) s Q=Q (.agg (AP (id,a,b)).toArray) s:=D8 (Y9 h a b) Q
theorem Rp_ {F:Nat→Prop}(hF: ∀x,Cy b o parts x→F x){Q:Value×FrameMode→St→Prop}{s0:St}(hb0:s0.lim≤s0.next)(hp:Parts s0 b o parts){i n C:Nat}{tm:T Value}{s:St}{td:List Item}{vb vh:Value}{b1 b3:Nat}(hi:i<parts.length)(hi20:i<21)(hn:20≤n)(hT:skim 64 td=FJ)(hx:Ext F Non s0 s)
  (t0:T.get tm 0=some (.slice (some ⟨b,o,none⟩) parts.length c)) (t6:T.get tm 6=some vb) (t8:T.get tm 8=some vh) (t11:T.get tm 11=some (.int .i64 (i:Nat))) (t13:T.get tm 13=some (.pointer (some ⟨C,0,none⟩)))
  (mb:MkS s 1 (Av (chs parts i)).length (u8l (Av (chs parts i))) vb b1) (mh:MkS s 18 i (A3 (Bh 0 (chs parts i))) vh b3) (hC:s0.next≤C) (oC:Af s C 0 (u8l (idB parts[i].2))) (n3:s0.next≤b3)
  (q: ∀(n1:Nat) (tm1:T Value) (s1:St) (td1:List Item) (vh1:Value) (b31:Nat),n-1≤n1→skim 64 td1=Js→Ext (fun x=>F x∨s0.next≤x) (MkF 18 i b3) s s1→(∀k,k≠8→T.get tm1 k=T.get tm k)→T.get tm1 8=some vh1→s.next≤b31→MkS s1 18 (i+1) (A3 (Bh 0 (chs parts (i+1)))) vh1 b31→W (runF envS n1 ⟨30,DY,Bz,tm1,td1, .run, .normal,none⟩) s1 Q):
  W (runF envS n ⟨30,DY,Bz,tm,td, .run, .normal,none⟩) s Q:=by
 have hb:s.lim≤s.next:=hx.bnd hb0
 have hps:Parts s b o parts:=⟨hp.row.ext0 hx,fun p h=>(hp.bs p h).ext0 hx⟩
 obtain⟨g1,g2⟩:=hps.get hi
 obtain⟨pv,cv,ev⟩:=g2.sl
 rw[ev]at g1
 have hmem:=List.getElem_mem hi
 have hFc: ∀x,x=b+(o+i*1)→F x:=fun x h=>hF _ (.inl ⟨by omega,by omega⟩)
 have hI16:=B3 parts[i].2
 have hIl:(u8l (idB parts[i].2)).length=16:=by rw[A1];exact hI16
 obtain⟨pb,cb,eb⟩:=mb.sl
 refine XF_.w hT (by omega) ?_
 simp -implicitDefEqProofs only[ZH,t0,t6,t8,t11,t13,Cm,Al,Ak,Bg,A7,Aj,Bd]
 refine W.dloadA BR (fun j u e=>((oC j u e).same (s':=dSt s.mem s.next) rfl rfl).at') hIl fun m1 rd1 e1 hr1=> ?_
 subst e1
 simp -implicitDefEqProofs only[Bd,eb]
 rw[W_dq fun s Q=>BX (s:=s) A2 Q]
 simp -implicitDefEqProofs only[Bd]
 rw[W_dq fun s Q=>Cr (s:=s) Ci hi Q]
 refine W.dload C9 (g1.same rfl rfl) fun rd7 hr7=> ?_
 rw[W_dq fun s Q=>BX (s:=s) A2 Q]
 dsimp only
 rw[W_dq (IH_ hI16 _ _)]
 refine W.dop (W.buildS (s:=oSt s.mem s.next) (Nat.le_refl _) (r:=AP (idB parts[i].2,(Av (chs parts i)).length,parts[i].2.length)) OF (by decide) (UY hI16 _ _) (BD (by decide)) fun sa na xa oa=>⟨Non,xa,fun rda hra=> ?_⟩)
 have h18:(AP (idB parts[i].2,(Av (chs parts i)).length,parts[i].2.length)).length=18:=Dk hI16
 have na':sa.next=s.next+19:=by rw[na,h18];rfl
 have hrda:rda=[]:=by
  cases rda with
  |nil=>rfl
  |cons y _=>exact(hra y (by simp)).2.elim
 subst hrda
 dsimp only
 have oa':Af sa s.next 0 (AP (idB parts[i].2,(Av (chs parts i)).length,parts[i].2.length)):=oa
 have mha:MkS (oSt sa.mem sa.next) 18 i (A3 (Bh 0 (chs parts i))) vh b3:=((mh.same (s':=oSt s.mem s.next) rfl rfl).ext0 xa).same rfl rfl
 have hsrc:SrcG (oSt sa.mem sa.next) 18 32 false (List.replicate 16 (.int .u8 0)++[.int .i64 0, .int .i64 0]) (.slice (some ⟨s.next,0,none⟩) 1 1) 1 (AP (idB parts[i].2,(Av (chs parts i)).length,parts[i].2.length)) (In s.next 0 (1*18)):=(FW (fun j u e=>((oa' j u e).same (s':=oSt sa.mem sa.next) rfl rfl).at') (by rw[h18])).g
 refine W.dopG ?_
 rw[DN]
 refine W.appU (s:=oSt sa.mem sa.next) (Nat.le_refl _) Jk mha hsrc (by decide) (by decide) (by decide) (by omega) (by rw[h18]) (IG _) fun sb vh1 b31 hb31 mk1 xb=>⟨_,_,xb,fun rdb wrb hrb hwb=> ?_⟩
 rw[Aa]
 have nb':sa.next≤sb.next:=xb.nxt
 refine⟨Hj ?_, ?_⟩
 ·simp -implicitDefEqProofs only[List.reverse_cons,List.reverse_nil,List.nil_append,List.cons_append,allP,DO,List.take,E7]
  have lts: ∀x,s.next≤x→ ¬x<s.next:=fun x h=>by omega
  simp+contextual [lts]
  repeat' first
   |exact .inl rfl
   |apply And.intro
 ·refine W.cast (Id_ _ _ _ _ _ _ _ _ _ _ _ _ _ _ _ _ _) ?_
  simp -implicitDefEqProofs only[Ad,W_oS,Aa,A4]
  generalize hs':(⟨(dSt sb.mem sb.next).mem,(dSt sb.mem sb.next).next,s.lim,_,_,s.cx⟩:St)=s7
  have hn0:s0.next≤s.next:=hx.nxt
  have hmk: ∀x,MkF 18 i b3 x→s0.next≤x:=fun x h=>by have h1:=h.2.1;omega
  have x7:Ext (fun x=>F x∨s0.next≤x) (MkF 18 i b3) s s7:=by
   rw[←hs']
   refine Ext.drawG (by show s.next≤sb.next;omega) (fun x hx hg=> ?_) ?_ ?_
   ·exact(xb.mem x (by show x<sa.next;omega) hg).trans (xa.mem x hx id)
   ·simp -implicitDefEqProofs only[List.mem_cons,List.not_mem_nil,or_false]
    rintro m (rfl|rfl|rfl|rfl|rfl|rfl|rfl|rfl|rfl|rfl|rfl|rfl) x hx _<;>first|(cases hx;done)|(exact(hwb x hx).2)
   ·simp -implicitDefEqProofs only[List.mem_cons,List.not_mem_nil,or_false]
    rintro m (rfl|rfl|rfl|rfl|rfl|rfl|rfl|rfl|rfl|rfl|rfl|rfl) x hx hl<;>first|(cases hx;done)|(exact .inl (hFc x (hr7 x hx)))|(have h1:=(hr1 x hx).1;exact .inr (by omega))|(exact(hrb x hx).2.elim (fun h=> .inr (by have h1:=h.1;omega)) fun h=> .inr (hmk x h))
  have m7:s7.mem=sb.mem:=by rw[←hs'];rfl
  have n7:s7.next=sb.next:=by rw[←hs'];rfl
  refine q _ _ s7 _ vh1 b31 (Nat.le_refl _) Fp_ x7 (fun k hk=>by rw[T.get_set,if_neg hk]) (by simp[T.get_set]) (by have h1:sa.next≤b31:=hb31;omega) ?_
  rw[OG hi,ZX,O1,Nat.zero_add]
  exact mk1.same m7 n7
end
theorem VH_ (n:Nat)(h:n≤1024):len2 (n>>>8%256) (n%256)=n:=by
 have d: ∀m:Fin 1025,len2 (m.val>>>8%256) (m.val%256)=m.val:=by decide+kernel
 exact d ⟨n,by omega⟩
theorem Qu (p q r:List Nat)(n:Nat)(h:q.length=n):((p++(q++r)).take (p.length+n)).drop p.length=q:=by
 rw[List.drop_take,List.drop_left,show p.length+n-p.length=n by omega,←h,List.take_left]
structure RecAt (t:List Nat)(k:Nat)(b:List Nat):Prop where
 n:Bk t k=b.length
 ok:Cp t k=true
 len:k+26+b.length≤t.length
 rok:Cq t k=true
 good:BZ t k b.length=true
 id:C4 t k b.length=idB b
 body:CD t k b.length=b
theorem SP (p r:List Nat)(n:Nat)(hn:n≤1024):Bk (p++(Bo n++r)) p.length=n∧((p++(Bo n++r)).take (p.length+6)).drop p.length=Bo n:=by
 refine⟨?_,Qu p _ r 6 rfl⟩
 unfold Bk
 have e0:(p++(Bo n++r)).getD p.length 0=n>>>8%256:=by
  rw[List.getD_eq_getElem?_getD,List.getElem?_append_right (Nat.le_refl _),Nat.sub_self]
  rfl
 have e1:(p++(Bo n++r)).getD (p.length+1) 0=n%256:=by
  rw[List.getD_eq_getElem?_getD,List.getElem?_append_right (by omega),show p.length+1-p.length=1 by omega]
  rfl
 rw[e0,e1,VH_ n hn]
theorem YA (x:List Nat):GOk (gput x):=by
 have h:(gput x).length=x.length+4:=ED x
 refine⟨by omega, ?_⟩
 have e:(gput x).take ((gput x).length-4)=x:=by
  rw[h,show x.length+4-4=x.length by omega]
  unfold gput
  exact List.take_left
 rw[e]
theorem Og_ (p r b:List Nat)(h1:1≤b.length)(h2:b.length≤1024):RecAt (p++(recB b++r)) p.length b:=by
 have ht:p++(recB b++r)=p++(Bo b.length++(gput (idB b++b)++r)):=by
  unfold recB
  rw[List.append_assoc]
 obtain⟨e1,e2⟩:=SP p (gput (idB b++b)++r) b.length h2
 rw[←ht]at e1 e2
 have hok:Cp (p++(recB b++r)) p.length=true:=by
  unfold Cp
  rw[e1,e2,decide_eq_true ⟨h1,h2⟩,decide_eq_true rfl]
  rfl
 have hlen:p.length+26+b.length≤(p++(recB b++r)).length:=by
  rw[List.length_append,List.length_append,DH]
  omega
 have hch:CK (p++(recB b++r)) p.length b.length=gput (idB b++b):=by
  unfold CK
  have e:p++(recB b++r)=(p++Bo b.length)++(gput (idB b++b)++r):=by rw[ht,List.append_assoc]
  have hp:(p++Bo b.length).length=p.length+6:=by rw[List.length_append];rfl
  have:=Qu (p++Bo b.length) (gput (idB b++b)) r (b.length+20) (by rw[ED,List.length_append,B3];omega)
  rw[hp]at this
  rw[e,show p.length+26+b.length=p.length+6+(b.length+20) by omega]
  exact this
 have hx:CL (p++(recB b++r)) p.length b.length=idB b++b:=by
  unfold CL
  rw[hch]
  unfold gput
  rw[←show(idB b++b).length=b.length+16 by rw[List.length_append,B3];omega]
  exact List.take_left
 have hi:B0 (p++(recB b++r)) p.length b.length=idB b:=by
  unfold B0
  rw[hx,←B3 b]
  exact List.take_left
 have hc:CD (p++(recB b++r)) p.length b.length=b:=by
  unfold CD
  rw[hx,←B3 b]
  exact List.drop_left
 have hg:GOk (CK (p++(recB b++r)) p.length b.length):=by rw[hch];exact YA _
 refine⟨e1,hok,hlen, ?_, ?_, ?_,hc⟩
 ·unfold Cq
  rw[hok,e1,decide_eq_true hlen,decide_eq_true (by omega)]
  rfl
 ·unfold BZ
  rw[decide_eq_true hg,hi,hc,decide_eq_true rfl]
  rfl
 ·unfold C4
  rw[if_pos hg,hi]
def Fit (l:List (List Nat)):Prop:= ∀b∈l,1≤b.length∧b.length≤1024
theorem Qs: ∀(l:List (List Nat)) (p y:List Nat) (f:Nat) (hs:List Hd) (bad:Nat),Fit l→Cd (p++(Av l++y)) (f+l.length) p.length hs bad=Cd (p++(Av l++y)) f (p.length+(Av l).length) (hs++Bh p.length l) bad
 |[],p,y,f,hs,bad,_=>by simp[Av,Bh]
 |b::l,p,y,f,hs,bad,hf=>by
  obtain⟨h1,h2⟩:=hf b (by simp)
  have ht:p++(Av (b::l)++y)=p++(recB b++(Av l++y)):=by
   show p++((recB b++Av l)++y)=_
   rw[List.append_assoc]
  have ht2:p++(Av (b::l)++y)=(p++recB b)++(Av l++y):=by rw[ht,List.append_assoc]
  have ra:=Og_ p (Av l++y) b h1 h2
  rw[←ht]at ra
  have hp:(p++recB b).length=p.length+26+b.length:=by rw[List.length_append,DH];omega
  have ih:=Qs l (p++recB b) y f (hs++[(idB b,p.length,b.length)]) bad fun x hx=>hf x (by simp[hx])
  have hh:Bh p.length (b::l)=(idB b,p.length,b.length)::Bh (p.length+26+b.length) l:=by
   show(idB b,p.length,b.length)::Bh (p.length+(recB b).length) l=_
   rw[DH]
   congr 2
   omega
  rw[hh]
  rw[←ht2,hp]at ih
  rw[show f+(b::l).length=(f+l.length)+1 by simp;omega,Cd,ra.rok]
  simp -implicitDefEqProofs only[reduceIte]
  rw[ra.n,ra.good,ra.id]
  simp -implicitDefEqProofs only[reduceIte]
  rw[ih,List.append_assoc]
  congr 1
  show p.length+26+b.length+(Av l).length=p.length+(recB b++Av l).length
  rw[List.length_append,DH]
  omega
theorem QT_ (l:List Nat)(f k:Nat)(hs:List Hd)(bad:Nat)(h:Cq l k=false):Cd l f k hs bad=(hs,bad,k,Df l k):=by
 cases f with
 |zero=>rfl
 |succ f=>
  rw[Cd,h]
  rfl
theorem Qq: ∀l:List (List Nat),l.length≤(Av l).length
 |[]=>Nat.le_refl _
 |b::l=>by
  have:=Qq l
  show l.length+1≤(recB b++Av l).length
  rw[List.length_append,DH]
  omega
theorem Vl_ {l:List Nat}{k:Nat}(h:l.length<k+6):Cq l k=false:=by
 unfold Cq
 rw[decide_eq_false (by omega)]
 rfl
def Cx (l:List Nat)(i j:Nat):List Nat:=l.set i (l.getD i 0^^^2^j)
theorem VV_ (l:List Nat)(i j:Nat):(Cx l i j).length=l.length:=by unfold Cx;rw[List.length_set]
theorem Fa_ (p l r:List Nat)(i j:Nat)(hi:i<l.length):Cx (p++(l++r)) (p.length+i) j=p++(Cx l i j++r):=by
 unfold Cx
 have e:(p++(l++r)).getD (p.length+i) 0=l.getD i 0:=by
  rw[List.getD_eq_getElem?_getD,List.getD_eq_getElem?_getD,List.getElem?_append_right (by omega),show p.length+i-p.length=i by omega,List.getElem?_append_left hi]
 rw[e,List.set_append_right _ _ (by omega),show p.length+i-p.length=i by omega,List.set_append_left _ _ hi]
theorem ZF: ∀(l m:List (List Nat)),Av (l++m)=Av l++Av m
 |[],_=>rfl
 |b::l,m=>by show recB b++Av (l++m)=(recB b++Av l)++Av m;rw[ZF l m,List.append_assoc]
theorem MQ: ∀(l m:List (List Nat)) (k:Nat),Bh k (l++m)=Bh k l++Bh (k+(Av l).length) m
 |[],_,_=>rfl
 |b::l,m,k=>by
  show(idB b,k,b.length)::Bh (k+(recB b).length) (l++m)=((idB b,k,b.length)::Bh (k+(recB b).length) l)++Bh (k+(recB b++Av l).length) m
  rw[MQ l m,List.length_append,List.cons_append,Nat.add_assoc k]
theorem Jp: ∀(l:List (List Nat)) (k:Nat),(Bh k l).length=l.length
 |[],_=>rfl
 |b::l,k=>by show(Bh (k+(recB b).length) l).length+1=l.length+1;rw[Jp l]
theorem R9: ∀(l:List (List Nat)) (k:Nat),∀h∈Bh k l,h.1.length=16
 |[],_,h,hh=>by cases hh
 |b::l,k,h,hh=>by
  rcases List.mem_cons.1 hh with rfl|hh
  ·exact B3 b
  ·exact R9 l _ h hh
theorem QS_ {L:List (List Nat)}{w:Nat}(hw:w<L.length):(Bh 0 L)[w]?=some (idB L[w],(Av (L.take w)).length,L[w].length):=by
 have e:L=L.take w++L[w]::L.drop (w+1):=by rw[List.getElem_cons_drop,List.take_append_drop]
 conv=>lhs;rw[e,MQ]
 have hl:(Bh 0 (L.take w)).length=w:=by rw[Jp,List.length_take];omega
 rw[List.getElem?_append_right (by omega),hl,Nat.sub_self,Nat.zero_add]
 rfl
theorem JT_ {L:List (List Nat)}{w:Nat}(hw:w<L.length):(Bh 0 L).take w=Bh 0 (L.take w):=by
 have e:L=L.take w++L.drop w:=(List.take_append_drop w L).symm
 have hl:(Bh 0 (L.take w)).length=w:=by rw[Jp,List.length_take];omega
 conv=>lhs;rw[e,MQ]
 exact List.take_left' hl
theorem BM_ {L:List (List Nat)}{w:Nat}(hw:w<L.length):Av L=Av (L.take w)++(recB L[w]++Av (L.drop (w+1))):=by
 have e:L=L.take w++L[w]::L.drop (w+1):=by rw[List.getElem_cons_drop,List.take_append_drop]
 conv=>lhs;rw[e,ZF]
 rfl
def crc1 (n:Nat):Nat:=if n%2=1 then n/2^^^3988292384 else n/2
def crcN:Nat→Nat→Nat
 |0,n=>n
 |k+1,n=>crcN k (crc1 n)
theorem RU: ∀(k n:Nat),crc8 n k=crcN k n
 |0,n=>rfl
 |k+1,n=>by
  unfold crc8 crcN crc1
  split
  ·exact RU k _
  ·exact RU k _
theorem Ky_ (a b:Nat):crc1 (a^^^b)=crc1 a^^^crc1 b:=by
 have hd:(a^^^b)/2=a/2^^^b/2:=by
  have h:=Nat.shiftRight_xor_distrib (a:=a) (b:=b) (i:=1)
  rw[Nat.shiftRight_eq_div_pow,Nat.shiftRight_eq_div_pow,Nat.shiftRight_eq_div_pow]at h
  exact h
 have hm:(a^^^b)%2=(a%2+b%2)%2:=by
  rw[←Nat.pow_one 2,Nat.xor_mod_two_pow]
  rcases Nat.mod_two_eq_zero_or_one a with h|h<;>rcases Nat.mod_two_eq_zero_or_one b with h'|h'<;>simp[h,h']
 unfold crc1
 rw[hd,hm]
 have e: ∀x y z:Nat,x^^^z^^^(y^^^z)=x^^^y:=fun x y z=>by
  rw[Nat.xor_comm y z,Nat.xor_assoc,←Nat.xor_assoc z z y,Nat.xor_self,Nat.zero_xor]
 rcases Nat.mod_two_eq_zero_or_one a with h|h<;>rcases Nat.mod_two_eq_zero_or_one b with h'|h'<;>rw[h,h']<;>simp -implicitDefEqProofs only[Nat.reduceAdd,Nat.reduceMod,Nat.zero_ne_one,if_true,if_false]
 ·rw[Nat.xor_assoc]
 ·rw[Nat.xor_assoc,Nat.xor_comm (b/2),←Nat.xor_assoc]
 ·rw[e]
theorem IH: ∀(k a b:Nat),crcN k (a^^^b)=crcN k a^^^crcN k b
 |0,_,_=>rfl
 |k+1,a,b=>by
  show crcN k (crc1 (a^^^b))=crcN k (crc1 a)^^^crcN k (crc1 b)
  rw[Ky_,IH k]
theorem Kn: ∀(j k n:Nat),crcN (j+k) n=crcN k (crcN j n)
 |0,k,n=>by rw[Nat.zero_add];rfl
 |j+1,k,n=>by
  rw[Nat.succ_add]
  exact Kn j k _
theorem Jl: ∀(k n:Nat),crcN k (n*2^k)=n
 |0,n=>by rw[Nat.pow_zero,Nat.mul_one];rfl
 |k+1,n=>by
  show crcN k (crc1 (n*2^(k+1)))=n
  have e:n*2^(k+1)=2*(n*2^k):=by rw[Nat.pow_succ];rw[←Nat.mul_assoc,Nat.mul_comm]
  unfold crc1
  rw[e,Nat.mul_mod_right,if_neg (by decide),Nat.mul_div_cancel_left _ (by decide)]
  exact Jl k n
theorem JI_ {n:Nat}(h:n<4294967296):crc1 n<4294967296:=by
 unfold crc1
 split
 ·exact Nat.xor_lt_two_pow (n:=32) (show n/2<2^32 by omega) (by decide)
 ·omega
theorem Ns_ {n:Nat}(h:n<4294967296)(h0:n≠0):crc1 n≠0:=by
 unfold crc1
 split
 ·intro e
  have e2:n/2^^^3988292384^^^3988292384=0^^^3988292384:=by rw[e]
  rw[Nat.xor_assoc,Nat.xor_self,Nat.xor_zero,Nat.zero_xor]at e2
  omega
 ·omega
theorem BS_: ∀(k:Nat) {n:Nat},n<4294967296→n≠0→crcN k n≠0
 |0,_,_,h0=>h0
 |k+1,_,h,h0=>BS_ k (JI_ h) (Ns_ h h0)
def leN:List Nat→Nat
 |[]=>0
 |c::l=>c+256*leN l
theorem LW {a b k:Nat}(h:a<2^k):a^^^b*2^k=a+b*2^k:=by
 apply Nat.eq_of_testBit_eq
 intro i
 rw[Nat.testBit_xor,Nat.add_comm,Nat.mul_comm b,Nat.testBit_two_pow_mul_add _ h,Nat.testBit_two_pow_mul]
 by_cases hi:i<k
 ·rw[if_pos hi]
  simp[show ¬k≤i by omega]
 ·rw[if_neg hi,Nat.testBit_lt_two_pow (Nat.lt_of_lt_of_le h (Nat.pow_le_pow_right (by decide) (by omega)))]
  simp[show k≤i by omega]
theorem T3 (a b k:Nat):(a^^^b)*2^k=a*2^k^^^b*2^k:=by
 apply Nat.eq_of_testBit_eq
 intro q
 rw[Nat.testBit_xor,Nat.mul_comm _ (2^k),Nat.mul_comm a,Nat.mul_comm b,Nat.testBit_two_pow_mul,Nat.testBit_two_pow_mul,Nat.testBit_two_pow_mul,Nat.testBit_xor]
 cases decide (k≤q)<;>simp
theorem Jg {c:Nat}(h:c<256)(l:List Nat):leN (c::l)=c^^^leN l*2^8:=by
 rw[LW (k:=8) h]
 show c+256*leN l=_
 omega
theorem Rk_ (n c:Nat):EJ n c=crcN 8 (n^^^c):=by
 have e:n=n%256^^^n/256*2^8:=by
  rw[LW (k:=8) (Nat.mod_lt _ (by decide))]
  omega
 have e2:n^^^c=(n%256^^^c)^^^n/256*2^8:=by
  conv=>lhs;rw[e]
  rw[Nat.xor_assoc,Nat.xor_comm _ c,←Nat.xor_assoc]
 rw[e2,IH,Jl]
 unfold EJ crcT
 rw[RU]
theorem Yu: ∀(l:List Nat) (n:Nat),Byt l→crcs n l=crcN (8*l.length) (n^^^leN l)
 |[],n,_=>by show n=n^^^0;rw[Nat.xor_zero]
 |c::l,n,h=>by
  have hc:c<256:=h c (by simp)
  have ih:=Yu l (EJ n c) fun x hx=>h x (by simp[hx])
  show crcs (EJ n c) l=_
  rw[ih,Jg hc,←Nat.xor_assoc,List.length_cons,show 8*(l.length+1)=8+8*l.length by omega,Kn,IH 8,Jl,Rk_]
theorem BD_: ∀(l r:List Nat),leN (l++r)=leN l+leN r*2^(8*l.length)
 |[],r=>by show leN r=0+leN r*2^(8*0);omega
 |c::l,r=>by
  show c+256*leN (l++r)=c+256*leN l+leN r*2^(8*(l.length+1))
  have e:256*(leN r*2^(8*l.length))=leN r*2^(8*(l.length+1)):=by
   rw[show 8*(l.length+1)=8*l.length+8 by omega,Nat.pow_add,←Nat.mul_assoc,Nat.mul_comm (2^(8*l.length)),Nat.mul_left_comm,←Nat.mul_assoc]
  rw[BD_ l r,Nat.mul_add,e]
  omega
theorem Z3: ∀{l:List Nat},Byt l→leN l<2^(8*l.length)
 |[],_=>by decide
 |c::l,h=>by
  have h1:c<256:=h c (by simp)
  have h2:=Z3 (l:=l) fun x hx=>h x (by simp[hx])
  have e:2^(8*(l.length+1))=256*2^(8*l.length):=by
   rw[show 8*(l.length+1)=8+8*l.length by omega,Nat.pow_add]
  show c+256*leN l<2^(8*(l.length+1))
  omega
theorem CM_ {n:Nat}(h:n<4294967296):leN (le4 n)=n:=by
 show n%256+256*(n>>>8%256+256*(n>>>16%256+256*(n>>>24%256+256*0)))=n
 rw[Nat.shiftRight_eq_div_pow,Nat.shiftRight_eq_div_pow,Nat.shiftRight_eq_div_pow]
 omega
theorem Zi {l:List Nat}(hb:Byt l)(h:GOk l)(hlt:crcs 4294967295 (l.take (l.length-4))<4294967296):crcN (8*l.length) (4294967295^^^leN l)=crcN 32 4294967295:=by
 obtain⟨h4,h⟩:=h
 generalize hd:l.take (l.length-4)=d at h hlt
 have hdl:d.length=l.length-4:=by rw[←hd,List.length_take];omega
 have hbd:Byt d:=fun x hx=>hb x (by rw[←hd]at hx;exact List.mem_of_mem_take hx)
 have hx:CG 0 d=4294967295^^^crcs 4294967295 d:=by unfold CG;rw[Nat.xor_zero]
 have e1:leN l=leN d^^^(4294967295^^^crcs 4294967295 d)*2^(8*d.length):=by
  rw[←h]
  unfold gput
  rw[BD_,hx,CM_ (Nat.xor_lt_two_pow (n:=32) (by decide) hlt),LW (Z3 hbd)]
 rw[show 8*l.length=8*d.length+32 by omega,Kn,e1,←Nat.xor_assoc,IH (8*d.length),Jl,←Yu d _ hbd,Nat.xor_comm 4294967295,←Nat.xor_assoc,Nat.xor_self,Nat.zero_xor]
theorem Gc_ {l l':List Nat}{m k:Nat}(hb:Byt l)(hb':Byt l')(hlen:l'.length=l.length)(hm:m<4294967296)(h0:m≠0)(he:leN l'=leN l^^^m*2^k)(hk:k≤8*l.length)
  (hlt: ∀d:List Nat,Byt d→crcs 4294967295 d<4294967296) (h:GOk l): ¬GOk l':=by
 intro h'
 have e1:=Zi hb h (hlt _ fun x hx=>hb x (List.mem_of_mem_take hx))
 have e2:=Zi hb' h' (hlt _ fun x hx=>hb' x (List.mem_of_mem_take hx))
 rw[hlen,he,←Nat.xor_assoc,IH,e1,show 8*l.length=k+(8*l.length-k) by omega,Kn,Jl]at e2
 have:=BS_ (8*l.length-k) hm h0
 apply this
 have e3:crcN 32 4294967295^^^(crcN 32 4294967295^^^crcN (8*l.length-k) m)=crcN 32 4294967295^^^crcN 32 4294967295:=by rw[e2]
 rwa [←Nat.xor_assoc,Nat.xor_self,Nat.zero_xor]at e3
theorem Bc_: ∀(l:List Nat) (i j:Nat),Byt l→i<l.length→j<8→leN (Cx l i j)=leN l^^^2^(8*i+j)
 |[],i,j,_,hi,_=>by simp at hi
 |c::l,0,j,h,_,hj=>by
  have hc:c<256:=h c (by simp)
  have hx:c^^^2^j<256:=Nat.xor_lt_two_pow (n:=8) hc (Nat.pow_lt_pow_right (by decide) hj)
  show leN ((c^^^2^j)::l)=_
  rw[Jg hx,Jg hc,Nat.mul_zero,Nat.zero_add,Nat.xor_assoc,Nat.xor_assoc,Nat.xor_comm (2^j)]
 |c::l,i+1,j,h,hi,hj=>by
  have hc:c<256:=h c (by simp)
  have ih:=Bc_ l i j (fun x hx=>h x (by simp[hx])) (by simpa using hi) hj
  have e:Cx (c::l) (i+1) j=c::Cx l i j:=by unfold Cx;simp
  rw[e,Jg hc,Jg hc,ih,Nat.xor_assoc]
  congr 1
  rw[T3,show 8*(i+1)+j=8*i+j+8 by omega,Nat.pow_add 2 (8*i+j) 8]
def BO (l:List Nat)(from' mask:Nat):Nat→List Nat
 |0=>l
 |i+1=>if mask/2^i%2=1 then Cx (BO l from' mask i) ((from'+i)/8) ((from'+i)%8)else BO l from' mask i
theorem LY_ (l:List Nat)(i j:Nat):(Cx l i j).length=l.length:=by unfold Cx;rw[List.length_set]
theorem ES (l:List Nat)(k m:Nat): ∀i,(BO l k m i).length=l.length
 |0=>rfl
 |i+1=>by
  unfold BO
  split
  ·rw[LY_,ES l k m i]
  ·exact ES l k m i
theorem WL_ {l:List Nat}(h:Byt l)(i j:Nat)(hj:j<8):Byt (Cx l i j):=by
 intro x hx
 unfold Cx at hx
 by_cases hi:i<l.length
 ·rcases List.mem_or_eq_of_mem_set hx with hx|hx
  ·exact h x hx
  ·subst hx
   rw[List.getD_eq_getElem?_getD,List.getElem?_eq_getElem hi]
   have h1:l[i]<2^8:=h _ (List.getElem_mem hi)
   have h2:2^j<2^8:=Nat.pow_lt_pow_right (by decide) hj
   exact Nat.xor_lt_two_pow h1 h2
 ·rw[List.set_eq_of_length_le (by omega)]at hx
  exact h x hx
theorem Gw {l:List Nat}(h:Byt l)(k m:Nat): ∀i,Byt (BO l k m i)
 |0=>h
 |i+1=>by
  unfold BO
  split
  ·exact WL_ (Gw h k m i) _ _ (Nat.mod_lt _ (by decide))
  ·exact Gw h k m i
theorem NZ_ (m i:Nat):m%2^(i+1)=if m/2^i%2=1 then m%2^i^^^2^i else m%2^i:=by
 have e:m%2^(i+1)=m%2^i+2^i*(m/2^i%2):=by rw[Nat.pow_succ,Nat.mod_mul]
 have hx:=LW (a:=m%2^i) (b:=1) (k:=i) (Nat.mod_lt _ (Nat.two_pow_pos i))
 rw[Nat.one_mul]at hx
 rw[e]
 split
 ·rename_i h
  rw[h,hx,Nat.mul_one]
 ·rename_i h
  rw[show m/2^i%2=0 by omega]
  omega
theorem V7 {l:List Nat}(h:Byt l)(k m:Nat): ∀i,k+i≤8*l.length→leN (BO l k m i)=leN l^^^(m%2^i)*2^k
 |0,_=>by
  show leN l=_
  rw[Nat.pow_zero,Nat.mod_one,Nat.zero_mul,Nat.xor_zero]
 |i+1,hi=>by
  have ih:=V7 h k m i (by omega)
  unfold BO
  rw[NZ_]
  split
  ·rw[Bc_ _ _ _ (Gw h k m i) (by rw[ES];omega) (Nat.mod_lt _ (by decide)),ih,Nat.xor_assoc]
   congr 1
   rw[T3,show 8*((k+i)/8)+(k+i)%8=i+k by omega,Nat.pow_add]
  ·exact ih
theorem Wi (P l r:List Nat)(p m:Nat): ∀i,p+i≤8*l.length→BO (P++(l++r)) (8*P.length+p) m i=P++(BO l p m i++r)
 |0,_=>rfl
 |i+1,hi=>by
  have ih:=Wi P l r p m i (by omega)
  unfold BO
  rw[ih,show(8*P.length+p+i)/8=P.length+(p+i)/8 by omega,show(8*P.length+p+i)%8=(p+i)%8 by omega]
  split
  ·exact Fa_ _ _ _ _ _ (by rw[ES];omega)
  ·rfl
theorem Os_ {l:List Nat}{p m:Nat}(hb:Byt l)(hg:GOk l)(hm:m<4294967296)(h0:m≠0)(hp:p+32≤8*l.length): ¬GOk (BO l p m 32):=by
 refine Gc_ (m:=m) (k:=p) hb (Gw hb p m 32) (ES l p m 32) hm h0 ?_ (by omega) (fun d hd=>Od d _ (by decide) hd) hg
 rw[V7 hb p m 32 hp,Nat.mod_eq_of_lt (show m<2^32 from hm)]
theorem Ij_ {b:List Nat}(h:Byt b):Byt (gput (idB b++b)):=by
 have hr:=VZ h
 unfold recB at hr
 exact fun x hx=>hr x (List.mem_append_right _ hx)
theorem PW_ {L:List (List Nat)}{w p m:Nat}(hw:w<L.length)(hf:Fit L)(hby: ∀b∈L,Byt b)(hm:m<4294967296)(h0:m≠0)(hp:p+32≤8*(L[w].length+20)):
  CM (BO (Av L) (8*((Av (L.take w)).length+6)+p) m 32) (idB L[w],(Av (L.take w)).length,L[w].length)=false∧
  hitB (BO (Av L) (8*((Av (L.take w)).length+6)+p) m 32) (idB L[w],(Av (L.take w)).length,L[w].length)=false∧
  FM (BO (Av L) (8*((Av (L.take w)).length+6)+p) m 32)=((Bh 0 L).take w++(Bh 0 L).drop (w+1),1,(Av L).length,0):=by
 obtain⟨h1,h2⟩:=hf L[w] (List.getElem_mem hw)
 obtain⟨A,hA⟩: ∃A,Av (L.take w)=A:=⟨_,rfl⟩
 obtain⟨R,hR⟩: ∃R,Av (L.drop (w+1))=R:=⟨_,rfl⟩
 obtain⟨n,hn⟩: ∃n,L[w].length=n:=⟨_,rfl⟩
 obtain⟨G,hG⟩: ∃G,gput (idB L[w]++L[w])=G:=⟨_,rfl⟩
 have hGl:G.length=n+20:=by rw[←hG,ED,List.length_append,B3];omega
 have hGb:Byt G:=by rw[←hG];exact Ij_ (hby _ (List.getElem_mem hw))
 have hGo:GOk G:=by rw[←hG];exact YA _
 have hno:=Os_ hGb hGo hm h0 (p:=p) (by omega)
 obtain⟨G',hG'⟩: ∃G',BO G p m 32=G':=⟨_,rfl⟩
 have hGl':G'.length=n+20:=by rw[←hG',ES,hGl]
 have er:Av L=(A++Bo n)++(G++R):=by
  rw[BM_ hw,hA,hR]
  unfold recB
  rw[hG,hn,List.append_assoc,List.append_assoc]
 have eb:BO (Av L) (8*(A.length+6)+p) m 32=(A++Bo n)++(G'++R):=by
  have hl:(A++Bo n).length=A.length+6:=by rw[List.length_append];rfl
  rw[er,←hl,Wi _ _ _ _ _ _ (by omega),hG']
 rw[hG']at hno
 rw[hA,hn,eb]
 have eb2:(A++Bo n)++(G'++R)=A++(Bo n++(G'++R)):=List.append_assoc _ _ _
 obtain⟨e1,e2⟩:=SP A (G'++R) n (by omega)
 rw[←eb2]at e1 e2
 obtain⟨B,hB⟩: ∃B,(A++Bo n)++(G'++R)=B:=⟨_,rfl⟩
 have hBl:B.length=A.length+(26+n+R.length):=by
  rw[←hB]
  simp -implicitDefEqProofs only[List.length_append,EZ,hGl']
  omega
 rw[hB]at e1 e2 ⊢
 have hok:Cp B A.length=true:=by
  unfold Cp
  rw[e1,e2,decide_eq_true ⟨by omega,by omega⟩,decide_eq_true rfl]
  rfl
 have hch:CK B A.length n=G':=by
  unfold CK
  have hp':(A++Bo n).length=A.length+6:=by rw[List.length_append];rfl
  have:=Qu (A++Bo n) G' R (n+20) hGl'
  rw[hp',hB]at this
  rw[show A.length+26+n=A.length+6+(n+20) by omega]
  exact this
 have hbad:BZ B A.length n=false:=by
  unfold BZ
  rw[hch,decide_eq_false hno]
  rfl
 refine⟨?_, ?_, ?_⟩
 ·unfold CM CE
  dsimp only
  rw[if_pos (by omega),hok,e1,decide_eq_true rfl,decide_eq_true (by omega)]
  rfl
 ·unfold hitB
  dsimp only
  rw[hbad]
  rfl
 ·have hrok:Cq B A.length=true:=by
   unfold Cq
   rw[hok,e1,decide_eq_true (by omega),decide_eq_true (by omega)]
   rfl
  have hft:Fit (L.take w):=fun x hx=>hf x (List.mem_of_mem_take hx)
  have hfd:Fit (L.drop (w+1)):=fun x hx=>hf x (List.mem_of_mem_drop hx)
  have hlt:(L.take w).length=w:=by rw[List.length_take];omega
  have hld:(L.drop (w+1)).length=L.length-(w+1):=List.length_drop
  have hl1:=Qq (L.take w)
  have hl2:=Qq (L.drop (w+1))
  rw[hA]at hl1
  rw[hR]at hl2
  have s1:=Qs (L.take w) [] (Bo n++(G'++R)) ((B.length-L.length)+(L.drop (w+1)).length+1) [] 0 hft
  simp -implicitDefEqProofs only[List.nil_append,List.length_nil,Nat.zero_add]at s1
  rw[hA,←eb2,hB]at s1
  have hBL:L.length≤B.length:=by omega
  rw[show(B.length-L.length)+(L.drop (w+1)).length+1+(L.take w).length=B.length by omega,Cd,hrok]at s1
  simp -implicitDefEqProofs only[reduceIte]at s1
  rw[e1,hbad]at s1
  simp -implicitDefEqProofs only[Bool.false_eq_true,reduceIte]at s1
  have s2:=Qs (L.drop (w+1)) ((A++Bo n)++G') [] (B.length-L.length) (Bh 0 (L.take w)) (0+1) hfd
  have hpl:((A++Bo n)++G').length=A.length+26+n:=by
   simp -implicitDefEqProofs only[List.length_append,EZ,hGl']
   omega
  rw[hR,List.append_nil,List.append_assoc (A++Bo n) G' R,hB,hpl]at s2
  have hns:Cq B (A.length+26+n+R.length)=false:=Vl_ (by omega)
  rw[s2,QT_ _ _ _ _ _ hns]at s1
  show Cd B B.length 0 [] 0=_
  rw[s1,JT_ hw]
  have hdrop:(Bh 0 L).drop (w+1)=Bh (A.length+26+n) (L.drop (w+1)):=by
   have e:L=L.take (w+1)++L.drop (w+1):=(List.take_append_drop (w+1) L).symm
   have hl:(Bh 0 (L.take (w+1))).length=w+1:=by rw[Jp,List.length_take];omega
   conv=>lhs;rw[e,MQ]
   rw[List.drop_left' hl,Nat.zero_add,List.take_succ_eq_append_getElem hw,RX,List.length_append,hA,DH]
   congr 1
   omega
  have hrl:(Av L).length=A.length+26+n+R.length:=by
   rw[er]
   simp -implicitDefEqProofs only[List.length_append,EZ,hGl]
   omega
  rw[hdrop,hrl]
  have hr:Df B (A.length+26+n+R.length)=0:=by
   unfold Df
   rw[if_pos (by omega)]
  rw[hr]
theorem Qd: ∀{l:List (List Nat)},(∀x∈l,x.length≤1024)→(Av l).length≤l.length*1050
 |[],_=>by simp[Av]
 |b::l,h=>by
  have h1:=Qd (l:=l) fun x hx=>h x (by simp[hx])
  have h2:=h b (by simp)
  show(recB b++Av l).length≤(l.length+1)*1050
  rw[List.length_append,DH]
  omega
section
variable {parts:List (Value×List Nat)}{b o c:Nat}
theorem WU_ {F:Nat→Prop}(hF: ∀x,Cy b o parts x→F x){Q:Value×FrameMode→St→Prop}{s0:St}(hb0:s0.lim≤s0.next)(hcx:s0.cx=cxN)(hp:Parts s0 b o parts)(hlt: ∀p∈parts,∀x,BsF p.1 x→x<s0.next)(hby: ∀p∈parts,Byt p.2){i n:Nat}{tm:T Value}{s:St}{td:List Item}{vb ve vh:Value}{b1 b2 b3:Nat}(hi:i<parts.length)(h20:i<21)(hn:60200≤n)(hT:skim 64 td=El)(hx:Ext F Non s0 s)(I:AlI s0 parts b o c i tm s vb ve vh b1 b2 b3)
  (q1:(parts[i].2.length=0∨1024<parts[i].2.length)→ ∀s1,Ext F Non s0 s1→Q (.tuple #[.slice none 0 0, .slice none 0 0, .slice none 0 0, .bool false], .run) s1)
  (q2:1≤parts[i].2.length→parts[i].2.length≤1024→ ∀(n1:Nat) (tm1:T Value) (s1:St) (td1:List Item) (vb1 ve1 vh1:Value) (b11 b21 b31:Nat),n-40≤n1→skim 64 td1=El→Ext F Non s0 s1→T.get tm1 9=T.get tm 9→AlI s0 parts b o c (i+1) tm1 s1 vb1 ve1 vh1 b11 b21 b31→W (runF envS n1 ⟨30,DY,Bz,tm1,td1, .run, .normal,none⟩) s1 Q):
  W (runF envS n ⟨30,DY,Bz,tm,td, .run, .normal,none⟩) s Q:=by
 refine WK_ hF hb0 hcx hp hlt hby hi (by omega) hT hx I.t0 I.t11 q1 fun hz1 hz2 n1 tm1 s1 td1 w C hn1 hT1 x1 hk e12 e13 hC oC hw hwn=> ?_
 have hb:s.lim≤s.next:=hx.bnd hb0
 have hx1:Ext F Non s0 s1:=hx.step x1 hb0 (fun _ _ h=>h) fun _ h=>h.elim
 have hn0:s0.next≤s.next:=hx.nxt
 have hn1':s.next≤s1.next:=x1.nxt
 refine Rp_ hF hb0 hp hi h20 (by omega) hT1 hx1 ((hk 0 (by simp)).trans I.t0) ((hk 6 (by simp)).trans I.t6) ((hk 8 (by simp)).trans I.t8) ((hk 11 (by simp)).trans I.t11) e13 (I.mb.ext0 x1) (I.mh.ext0 x1) (by omega) oC I.n3 fun n2 tm2 s2 td2 vh1 b31 hn2 hT2 x2 hk2 e8 hb31 mh2=> ?_
 have hl3: ∀x,MkF 18 i b3 x→s0.next≤x∧x<s.next:=fun x h=>⟨by have h1:=h.2.1;have:=I.n3;omega,I.mh.lt x h⟩
 have hl1: ∀x,MkF 1 (Av (chs parts i)).length b1 x→s0.next≤x∧x<s.next:=fun x h=>⟨by have h1:=h.2.1;have:=I.n1;omega,I.mb.lt x h⟩
 have hl2: ∀x,MkF 1 i b2 x→s0.next≤x∧x<s.next:=fun x h=>⟨by have h1:=h.2.1;have:=I.n2;omega,I.me.lt x h⟩
 have hn2':s1.next≤s2.next:=x2.nxt
 have hx2:Ext F Non s0 s2:=hx1.step x2 hb0 (fun x hx h=>h.elim id fun h=>by omega) fun x h=>(hl3 x h).1
 have mb2:MkS s2 1 (Av (chs parts i)).length (u8l (Av (chs parts i))) vb b1:=(I.mb.ext0 x1).ext x2 fun x h=>I.d13 x h
 have me2:MkS s2 1 i (Fl (CY 0 (chs parts i))) ve b2:=(I.me.ext0 x1).ext x2 fun x h=>I.d23 x h
 have hw2:Bn s2 w (recB parts[i].2):=hw.ext x2 fun x hx h=>by
  have h1:=hwn x hx
  have h2:=(hl3 x h).2
  omega
 have hrl:=DH parts[i].2
 have hch:(chs parts i).length≤i:=by unfold chs;rw[List.length_map,List.length_take];omega
 have hrs:(Av (chs parts i)).length≤22050:=by
  have h1:(Av (chs parts i)).length≤(chs parts i).length*1050:=Qd fun x hx=>by
   obtain⟨p,hp,rfl⟩:=List.mem_map.1 hx
   exact(I.sm p hp).2
  have h2:(chs parts i).length*1050≤21*1050:=Nat.mul_le_mul_right _ (by omega)
  omega
 have k6:T.get tm2 6=some vb:=(hk2 6 (by decide)).trans ((hk 6 (by simp)).trans I.t6)
 have k12:T.get tm2 12=some w:=(hk2 12 (by decide)).trans e12
 refine Nc_.w hT2 (by omega) ?_
 simp -implicitDefEqProofs only[To,Ad,W_oS,Aa,W_mv,Ac,Al,Ak,Aj,k6,k12,DN]
 refine W.appU (hx2.bnd hb0) Jx mb2 (hw2.bs.src.g) (by omega) (by decide) (by decide) (by omega) (by rw[A1,Nat.mul_one]) (BT _) fun s3 vb1 b11 hb11 mb3 x3=> ?_
 have hn3':s2.next≤s3.next:=x3.nxt
 have hx3:Ext F Non s0 s3:=hx2.step x3 hb0 (fun x hx h=>by
  rcases h with h|h
  ·have:=hwn x h;omega
  ·have:=(hl1 x h).1;omega) fun x h=>(hl1 x h).1
 have eL:Av (chs parts (i+1))=Av (chs parts i)++recB parts[i].2:=by rw[OG hi,RX]
 have eU:u8l (Av (chs parts i))++u8l (recB parts[i].2)=u8l (Av (chs parts (i+1))):=by rw[eL];exact List.map_append.symm
 have eN:(Av (chs parts i)).length+(recB parts[i].2).length=(Av (chs parts (i+1))).length:=by rw[eL,List.length_append]
 rw[eU,eN]at mb3
 try simp -implicitDefEqProofs only[Ad,W_oS,W_on,Aa,W_mv,Ac,A4,T.get_set,Al,Ak,Bg,A7,Aj,AS,reduceIte,AV,Bx,Bi,BC,Bc,A0,A6,Bm,AU,Bl,Nat.reduceEqDiff,reduceCtorEq, ↓reduceIte]
 have k7:T.get tm2 7=some ve:=(hk2 7 (by decide)).trans ((hk 7 (by simp)).trans I.t7)
 refine Xv_.w Vf_ (by omega) ?_
 simp -implicitDefEqProofs only[SW,Ad,W_oS,Aa,W_mv,Ac,T.get_set,Al,Ak,Bg,A7,Aj,reduceIte,Nat.reduceEqDiff, ↓reduceIte,k7]
 rw[mb3.len A2]
 try simp -implicitDefEqProofs only[Ad,W_oS,W_on,Aa,W_mv,Ac,A4,T.get_set,Al,Ak,Bg,A7,Aj,AS,reduceIte,AV,Bx,Bi,BC,Bc,A0,A6,Bm,AU,Bl,Nat.reduceEqDiff,reduceCtorEq, ↓reduceIte]
 have me3:MkS s3 1 i (Fl (CY 0 (chs parts i))) ve b2:=me2.ext x3 fun x h h'=>I.d12 x h' h
 refine W.buildS (hx3.bnd hb0) (r:=[.int .i64 ((Av (chs parts (i+1))).length:Nat)]) Qa_ (by decide) rfl (BD (by decide)) fun s4 n4 x4 o4=> ?_
 have n4':s4.next=s3.next+2:=n4
 have hx4:Ext F Non s0 s4:=hx3.step x4 hb0 (fun _ _ h=>h.elim) fun _ h=>h.elim
 have hsrc:SrcG s4 1 8 false [.int .i64 0] (.slice (some ⟨s3.next,0,none⟩) 1 1) 1 [.int .i64 ((Av (chs parts (i+1))).length:Nat)] (In s3.next 0 (1*1)):=(FW o4.row rfl).g
 try simp -implicitDefEqProofs only[DN]
 refine W.appU (hx4.bnd hb0) Hp_ (me3.ext0 x4) hsrc (by decide) (by decide) (by decide) (by omega) rfl rfl fun s5 ve1 b21 hb21 me5 x5=> ?_
 have hx5:Ext F Non s0 s5:=hx4.step x5 hb0 (fun x hx h=>by
  rcases h with h|h
  ·have:=h.1;have:=hx3.nxt;omega
  ·have:=(hl2 x h).1;omega) fun x h=>(hl2 x h).1
 have hd:CY 0 (chs parts (i+1))=CY 0 (chs parts i)++[(Av (chs parts (i+1))).length]:=by
  rw[eL,List.length_append,OG hi,WQ,Nat.zero_add]
 have eE:Fl (CY 0 (chs parts i))++[.int .i64 ((Av (chs parts (i+1))).length:Nat)]=Fl (CY 0 (chs parts (i+1))):=by
  rw[hd];unfold Fl;rw[List.map_append];rfl
 rw[eE]at me5
 have mb5:MkS s5 1 (Av (chs parts (i+1))).length (u8l (Av (chs parts (i+1)))) vb1 b11:=(mb3.ext0 x4).ext x5 fun x h h'=>by
  have h1:=h.2.1
  have h2:=(hl2 x h').2
  omega
 have mh5:MkS s5 18 (i+1) (A3 (Bh 0 (chs parts (i+1)))) vh1 b31:=((mh2.ext x3 fun x h h'=>by
  have h1:=h.2.1
  have h2:=(hl1 x h').2
  omega).ext0 x4).ext x5 fun x h h'=>by
  have h1:=h.2.1
  have h2:=(hl2 x h').2
  omega
 try simp -implicitDefEqProofs only[Ad,W_oS,W_on,Aa,W_mv,Ac,A4,T.get_set,Al,Ak,Bg,A7,Aj,AS,reduceIte,AV,Bx,Bi,BC,Bc,A0,A6,Bm,AU,Bl,Nat.reduceEqDiff,reduceCtorEq, ↓reduceIte]
 have ei:wrap64 ((i:Nat)+1:Int)=((i+1:Nat):Int):=by
  rw[Bj (by omega) (by omega)];simp
 have k11:T.get tm2 11=some (.int .i64 (i:Nat)):=(hk2 11 (by decide)).trans ((hk 11 (by simp)).trans I.t11)
 have k0:T.get tm2 0=some (.slice (some ⟨b,o,none⟩) parts.length c):=(hk2 0 (by decide)).trans ((hk 0 (by simp)).trans I.t0)
 refine Of_.w Nk_ (by omega) ?_
 simp -implicitDefEqProofs only[ZZ,Ad,W_oS,Aa,W_mv,Ac,T.get_set,reduceIte,Nat.reduceEqDiff, ↓reduceIte,BN,k11,ei]
 refine q2 hz1 hz2 _ _ s5 _ vb1 ve1 vh1 b11 b21 b31 (by omega) OF_ hx5 (by simp[T.get_set,hk2 9 (by decide),hk 9 (by simp)]) ⟨by simp[T.get_set,k0],by simp[T.get_set],by simp[T.get_set],by simp[T.get_set,e8],by simp[T.get_set],mb5,me5,mh5,by omega,by omega,by omega,fun x h h'=> ?_,fun x h h'=> ?_,fun x h h'=> ?_,fun p hp'=> ?_⟩
 ·have h1:=(mb3.ext0 x4).lt x h
  have h2:=h'.2.1
  omega
 ·have h1:=mh2.lt x h'
  have h2:=h.2.1
  omega
 ·have h1:=mh2.lt x h'
  have h2:=h.2.1
  omega
 ·rw[List.take_succ_eq_append_getElem hi]at hp'
  rcases List.mem_append.1 hp' with h|h
  ·exact I.sm p h
  ·rw[List.mem_singleton.1 h];exact⟨hz1,hz2⟩
end
section
variable {parts:List (Value×List Nat)}{b o c:Nat}
structure AlR (s0:St)(parts:List (Value×List Nat))(s:St)(vb ve vh:Value)(b1 b2 b3:Nat):Prop where
 mb:MkS s 1 (Av (parts.map (·.2))).length (u8l (Av (parts.map (·.2)))) vb b1
 me:MkS s 1 parts.length (Fl (CY 0 (parts.map (·.2)))) ve b2
 mh:MkS s 18 parts.length (A3 (Bh 0 (parts.map (·.2)))) vh b3
 n1:s0.next≤b1
 n2:s0.next≤b2
 n3:s0.next≤b3
 d12: ∀x,MkF 1 (Av (parts.map (·.2))).length b1 x→ ¬MkF 1 parts.length b2 x
 d13: ∀x,MkF 1 (Av (parts.map (·.2))).length b1 x→ ¬MkF 18 parts.length b3 x
 d23: ∀x,MkF 1 parts.length b2 x→ ¬MkF 18 parts.length b3 x
 sm: ∀p∈parts,1≤p.2.length∧p.2.length≤1024
 le:parts.length≤20
 tt:tot parts≤4000
theorem Lg_ {F:Nat→Prop}(hF: ∀x,Cy b o parts x→F x){Q:Value×FrameMode→St→Prop}{s0:St}(hb0:s0.lim≤s0.next)(hcx:s0.cx=cxN)(hp:Parts s0 b o parts)(hlt: ∀p∈parts,∀x,BsF p.1 x→x<s0.next)(hby: ∀p∈parts,Byt p.2){z:Int}(hle:parts.length≤20)(hz:Jf parts (min parts.length 21) z)(hz4:z≤4000)
  (q1: ∀s1,Ext F Non s0 s1→Q (.tuple #[.slice none 0 0, .slice none 0 0, .slice none 0 0, .bool false], .run) s1)
  (q2: ∀s1 vb ve vh b1 b2 b3,Ext F Non s0 s1→AlR s0 parts s1 vb ve vh b1 b2 b3→Q (.tuple #[vb,ve,vh, .bool true], .run) s1):
  ∀(k i n:Nat) (tm:T Value) (s:St) (td:List Item) (vb ve vh:Value) (b1 b2 b3:Nat),i+k=parts.length→60300+40*k≤n→skim 64 td=El→Ext F Non s0 s→T.get tm 9=some (.int .i64 z)→AlI s0 parts b o c i tm s vb ve vh b1 b2 b3→
  W (runF envS n ⟨30,DY,Bz,tm,td, .run, .normal,none⟩) s Q:=by
 intro k
 induction k with
 |zero=>
  intro i n tm s td vb ve vh b1 b2 b3 hi hn hT hx h9 I
  have ei:i=parts.length:=by omega
  subst ei
  refine N3.w hT (by omega) ?_
  simp -implicitDefEqProofs only[Nl,Ad,W_oS,Aa,W_mv,Ac,Al,Ak,Aj,BA,I.t0,I.t11,BX Ci]
  refine W.cond (v:=false) Qk QQ (by simp[T.get_set]) (by omega) (fun h=>by cases h) fun _=> ?_
  refine UU.w US (by omega) ?_
  simp -implicitDefEqProofs only[PS,Aa,W_mv,Ac,T.get_set,reduceIte,Nat.reduceEqDiff, ↓reduceIte,I.t6,I.t7,I.t8]
  refine W.end' (rs:=[2,3,4,5]) (vs:=[vb,ve,vh, .bool true]) Tj (.inl AS_) (by omega) Hp Jc (hx.cx.trans hcx) (by simp[T.get_set]) ?_
  have et:parts.take parts.length=parts:=List.take_length
  have ec:chs parts parts.length=parts.map (·.2):=by unfold chs;rw[et]
  have sm:=I.sm
  rw[et]at sm
  have hm:min parts.length 21=parts.length:=by omega
  rw[hm]at hz
  have hz':=hz fun p hp'=>(sm p (by rwa [et]at hp')).2
  rw[et]at hz'
  have mb:=I.mb
  have me:=I.me
  have mh:=I.mh
  have d12:=I.d12
  have d13:=I.d13
  have d23:=I.d23
  rw[ec]at mb me mh d12 d13
  exact q2 s vb ve vh b1 b2 b3 hx ⟨mb,me,mh,I.n1,I.n2,I.n3,d12,d13,d23,sm,hle,by omega⟩
 |succ k ih=>
  intro i n tm s td vb ve vh b1 b2 b3 hi hn hT hx h9 I
  refine WU_ hF hb0 hcx hp hlt hby (by omega) (by omega) (by omega) hT hx I (fun _=>q1) fun _ _ n1 tm1 s1 td1 vb1 ve1 vh1 b11 b21 b31 hn1 hT1 hx1 e9 I1=> ?_
  exact ih (i+1) n1 tm1 s1 td1 vb1 ve1 vh1 b11 b21 b31 (by omega) (by omega) hT1 hx1 (e9.trans h9) I1
theorem Um_ {n:Nat}{s:St}{Q:Value→St→Prop}(hbd:s.lim≤s.next)(hp:Parts s b o parts)(hlt: ∀p∈parts,∀x,BsF p.1 x→x<s.next)(hby: ∀p∈parts,Byt p.2)(hn:62000≤n)
  (q1: ∀s1,Ext (Cy b o parts) Non s s1→Q (.tuple #[.slice none 0 0, .slice none 0 0, .slice none 0 0, .bool false]) s1)
  (q2: ∀s1 vb ve vh b1 b2 b3,Ext (Cy b o parts) Non s s1→AlR s parts s1 vb ve vh b1 b2 b3→Q (.tuple #[vb,ve,vh, .bool true]) s1):
  W (Au envS (runF envS n) 30 [.slice (some ⟨b,o,none⟩) parts.length c]) s Q:=by
 refine Vr fun tm h0=> ?_
 have hp0:Parts (s.cxN cxN) b o parts:=hp.same rfl rfl
 refine Yi.w rfl (by omega) ?_
 simp -implicitDefEqProofs only[PW,Aa,W_mv,Ac]
 refine Bs_.w AT_ (by omega) ?_
 simp -implicitDefEqProofs only[OQ,Aa,W_mv,Ac]
 refine Tv.w Ys (by omega) ?_
 simp -implicitDefEqProofs only[Ra,Aa,W_mv,Ac]
 refine TB.w AF_ (by omega) ?_
 simp -implicitDefEqProofs only[QF,Aa,W_mv,Ac]
 refine VG.w WA (by omega) ?_
 simp -implicitDefEqProofs only[QE,Aa,W_mv,Ac]
 refine Vf.w TM (by omega) ?_
 simp -implicitDefEqProofs only[Ox,Aa,W_mv,Ac]
 refine Rb_ (F:=Cy b o parts) (fun _ h=>h) (s0:=s.cxN cxN) hbd hp0 (min parts.length 21) 0 _ 0 _ _ _ (by omega) (by omega) XI (Ext.refl _) rfl rfl (fun _=>by simp[tot]) (by simp[T.get_set,h0];rfl) (by simp[T.get_set]) (by simp[T.get_set]) (by simp[T.get_set]) (by simp[T.get_set]) (by simp[T.get_set]) fun n1 z tm1 s1 td1 hn1 hT1 hx1 hm1 hnx1 hz g0 g6 g7 g8 g9=> ?_
 have no: ∀(n2:Nat) (tm2:T Value),10≤n2→W (runF envS n2 ⟨30,DY,Bz,tm2,brT Ff, .run, .normal,none⟩) s1 fun p s1=>Q p.1 (s1.cxN s.cx):=fun n2 tm2 hn2=>by
  refine En_.w EG_ (by omega) ?_
  simp -implicitDefEqProofs only[WG,Aa,W_mv,Ac]
  refine W.end' (rs:=[2,3,4,5]) (vs:=[.slice none 0 0, .slice none 0 0, .slice none 0 0, .bool false]) Df_ (.inl Kf_) (by omega) Hp Jc hx1.cx (by simp[T.get_set]) ?_
  exact q1 _ hx1.cx'
 refine UH.w hT1 (by omega) ?_
 simp -implicitDefEqProofs only[Rp,Ad,W_oS,W_on,Aa,W_mv,Ac,Al,Ak,Aj,AV,A0,AU,Dj,g0,g9,BX Ci]
 by_cases h20:20<parts.length
 ·have e1:(decide ((20:Int)<((parts.length:Nat):Int)))=true:=decide_eq_true (by omega)
  simp -implicitDefEqProofs only[e1,Aa,reduceIte,Bi,Bm, ↓reduceIte]
  refine W.cond (v:=true) MN Kf (by simp[T.get_set]) (by omega) (fun _=> ?_) fun h=>by cases h
  exact no _ _ (by omega)
 ·have e1:(decide ((20:Int)<((parts.length:Nat):Int)))=false:=decide_eq_false (by omega)
  simp -implicitDefEqProofs only[e1,W_oS,Aa,reduceIte,Bc,A6,reduceCtorEq, ↓reduceIte,Dj]
  by_cases h4:4000<z
  ·refine W.cond (v:=true) MN Kf (by simp[T.get_set];exact h4) (by omega) (fun _=> ?_) fun h=>by cases h
   exact no _ _ (by omega)
  ·refine W.cond (v:=false) MN Kf (by simp[T.get_set];omega) (by omega) (fun h=>by cases h) fun _=> ?_
   refine Wb.w W9 (by omega) ?_
   simp -implicitDefEqProofs only[OA,Aa,W_mv,Ac]
   refine Lg_ (c:=c) (F:=Cy b o parts) (fun _ h=>h) (s0:=s.cxN cxN) hbd rfl hp0 hlt hby (z:=z) (by omega) hz (by omega) (fun s2 x2=>q1 _ x2.cx') (fun s2 vb ve vh b1 b2 b3 x2 R=>q2 _ vb ve vh b1 b2 b3 x2.cx' ⟨R.mb.same rfl rfl,R.me.same rfl rfl,R.mh.same rfl rfl,R.n1,R.n2,R.n3,R.d12,R.d13,R.d23,R.sm,R.le,R.tt⟩) parts.length 0 _ _ _ _ (.slice none 0 0) (.slice none 0 0) (.slice none 0 0) s.next s.next s.next (by omega) (by omega) Af_ hx1 (by simp[T.get_set,g9]) ⟨by simp[T.get_set,g0],by simp[T.get_set,g6],by simp[T.get_set,g7],by simp[T.get_set,g8],by simp[T.get_set], .inl ⟨rfl,rfl,rfl⟩, .inl ⟨rfl,rfl,rfl⟩, .inl ⟨rfl,rfl,rfl⟩,Nat.le_refl _,Nat.le_refl _,Nat.le_refl _,fun x h _=>by have:=h.1;simp[chs,Av]at this,fun x h _=>by have:=h.1;simp[chs,Av]at this,fun x h _=>by have:=h.1;omega,fun p h=>by simp at h⟩
end
section
variable {E:Env}{s:St}{t:Nat}{xo yo:Operand}
theorem Gj_ (m n:Nat)(hn:1≤n):Cl.get (aBin E .rem t xo yo) (.int .i64 (.negSucc m)) (.int .i64 (n:Nat)) s= .some (.int .i64 ((Int.negSucc m).tmod (n:Nat))) s:=by
 show A8 E .rem t xo yo (.int .i64 (.negSucc m)) (.int .i64 (n:Nat)) s=_
 show M.on (semP E.P (do eqGuard .rem t xo yo (.int .i64 (.negSucc m)) (.int .i64 (n:Nat));binOp .rem t (.int .i64 (.negSucc m)) (.int .i64 (n:Nat)))) pV s=_
 have e:semP E.P (do eqGuard .rem t xo yo (.int .i64 (.negSucc m)) (.int .i64 (n:Nat));binOp .rem t (.int .i64 (.negSucc m)) (.int .i64 (n:Nat)))=some (.int .i64 ((Int.negSucc m).tmod (n:Nat))):=by
  show semP E.P (Op.intDiv .rem .i64 (.negSucc m) (n:Nat))=_
  unfold Op.intDiv
  rw[if_neg (by omega)]
  rfl
 rw[e]
 generalize (Int.negSucc m).tmod (n:Nat)=y
 have hp: ∀y:Int,pV (.int .i64 y) s= .some (.int .i64 y) s:=fun y=>by
  cases y with
  |ofNat k=>first|rfl|(cases k<;>rfl)
  |negSucc k=>first|rfl|(cases k<;>rfl)
 exact hp y
theorem Qb_ {x:Int}{n:Nat}(hn:1≤n)(Q:Value→St→Prop):W (Cl.get (aBin E .rem t xo yo) (.int .i64 x) (.int .i64 (n:Nat))) s Q=Q (.int .i64 (x.tmod (n:Nat))) s:=by
 cases x with
 |ofNat m=>exact Bb (ZW m n hn xo yo)
 |negSucc m=>exact Bb (Gj_ m n hn)
theorem Rt_ {k:Nat}(hk:k<8)(Q:Value→St→Prop):W (Cl.get (aBin E .shl t xo yo) (.int .u8 1) (.int .i64 (k:Nat))) s Q=Q (.int .u8 (2^k:Nat)) s:=by
 refine Bb ?_
 match k,hk with
 |0,_=>rfl
 |1,_=>rfl
 |2,_=>rfl
 |3,_=>rfl
 |4,_=>rfl
 |5,_=>rfl
 |6,_=>rfl
 |7,_=>rfl
theorem MB_ {m n:Nat}(h:m^^^n<256)(Q:Value→St→Prop):W (Cl.get (aBin E .xor t xo yo) (.int .u8 (m:Nat)) (.int .u8 (n:Nat))) s Q=Q (.int .u8 (m^^^n:Nat)) s:=by
 refine Bb ?_
 show int3 xorK (A8 E .xor t xo yo) (.int .u8 (.ofNat m)) (.int .u8 (.ofNat n)) s=_
 show Option.rec (motive:=fun _=>R Value) _ (fun v=> .some v s) (xorK .u8 .u8 m n)=_
 have e:xorK .u8 .u8 m n=some (.int .u8 (m^^^n:Nat)):=by
  unfold xorK Ch
  rw[Nat.beq_refl]
  show fitI .u8 (m^^^n)=_
  unfold fitI
  rw[Nat.ble_eq_true_of_le (show m^^^n≤mxOf .u8 by show m^^^n≤255;omega)]
  show mkI .u8 (m^^^n)=_
  unfold mkI
  rw[AO]
  rfl
 rw[e]
end
theorem Zn {n m:Nat}{x:Int}{s:St}{Q:Value→St→Prop}(hm:1≤m)(hm2:m≤1000000)(hn:20≤n)(q: ∀r:Nat,r<m→Q (.int .i64 (r:Nat)) s):W (Au envS (runF envS n) 33 [.int .i64 x, .int .i64 (m:Nat)]) s Q:=by
 refine HJ_ fun tm h0 h1=> ?_
 refine HW_.w rfl (by omega) ?_
 simp -implicitDefEqProofs only[Tk,Aa,W_mv,Ac]
 refine Uo_.w KL_ (by omega) ?_
 simp -implicitDefEqProofs only[AE_,Ad,W_oS,Aa,W_mv,Ac,T.get_set,reduceIte,Nat.reduceEqDiff, ↓reduceIte,BA,h1]
 refine W.cond (v:=false) WT_ Ez_ (by simp[T.get_set];omega) (by omega) (fun h=>by cases h) fun _=> ?_
 refine HE_.w XB_ (by omega) ?_
 simp -implicitDefEqProofs only[Ww,Ad,W_oS,Aa,W_mv,Ac,T.get_set,reduceIte,Nat.reduceEqDiff,reduceCtorEq, ↓reduceIte,h0,h1,Qb_ hm]
 have b1:x.tmod (m:Nat)<(m:Nat):=Int.tmod_lt_of_pos x (by omega)
 have b2: -(m:Nat)<x.tmod (m:Nat):=by
  have:=Int.lt_tmod_of_pos x (b:=(m:Nat)) (by omega)
  omega
 generalize x.tmod (m:Nat)=y at *
 refine Ff_.w Td_ (by omega) ?_
 simp -implicitDefEqProofs only[Ui,Ad,W_oS,Aa,W_mv,Ac,T.get_set,reduceIte, ↓reduceIte,BA]
 have fin: ∀(n1:Nat) (tm1:T Value) (td:List Item) (r:Nat),10≤n1→r<m→skim 64 td=HQ→T.get tm1 0=some (.int .i64 (r:Nat))→W (runF envS n1 ⟨33,Se_,EN,tm1,td, .run, .normal,none⟩) (s.cxN cxN) fun p s1=>Q p.1 (s1.cxN s.cx):=fun n1 tm1 td r hn1 hr hT g0=>by
  refine PC_.w hT (by omega) ?_
  simp -implicitDefEqProofs only[Yn,Aa,W_mv,Ac,g0]
  refine W.end' (rs:=[4]) (vs:=[.int .i64 (r:Nat)]) Ub_ (.inl Ia_) (by omega) Zq MF_ rfl (by simp[T.get_set]) ?_
  exact q r hr
 by_cases hy:y<0
 ·refine W.cond (v:=true) Tu Cp_ (by simp[T.get_set];exact hy) (by omega) (fun _=> ?_) fun h=>by cases h
  refine Xo_.w OP_ (by omega) ?_
  simp -implicitDefEqProofs only[U5,Ad,W_oS,Aa,W_mv,Ac,T.get_set,reduceIte,Nat.reduceEqDiff,reduceCtorEq, ↓reduceIte,BN,h1]
  obtain⟨r,hr⟩: ∃r:Nat,y+(m:Nat)=(r:Nat):=⟨(y+(m:Nat)).toNat,by omega⟩
  rw[Bj (by omega) (by omega),hr]
  exact fin _ _ _ r (by omega) (by omega) Dg_ (by simp[T.get_set])
 ·refine W.cond (v:=false) Tu Cp_ (by simp[T.get_set];omega) (by omega) (fun h=>by cases h) fun _=> ?_
  obtain⟨r,hr⟩: ∃r:Nat,y=(r:Nat):=⟨y.toNat,by omega⟩
  subst hr
  exact fin _ _ _ r (by omega) (by omega) NO_ (by simp[T.get_set])
section
variable {E:Env}{s s':St}{t:Nat}{xo yo:Operand}
theorem Wn_ (m n:Nat)(hn:1≤n)(hm:m≤9223372036854775807):Cl.get (aBin E .quo t xo yo) (.int .i64 (m:Nat)) (.int .i64 (n:Nat)) s= .some (.int .i64 (m/n:Nat)) s:=by
 show int3 quoK (A8 E .quo t xo yo) (.int .i64 (.ofNat m)) (.int .i64 (.ofNat n)) s=_
 show Option.rec (motive:=fun _=>R Value) _ (fun v=> .some v s) (quoK .i64 .i64 m n)=_
 have:quoK .i64 .i64 m n=some (.int .i64 (m/n:Nat)):=by
  unfold quoK Ch
  rw[Nat.beq_refl,Nat.ble_eq_true_of_le hn]
  exact OJ (Nat.le_trans (Nat.div_le_self m n) hm)
 rw[this]
theorem Ag_ {m:Nat}(hm:m≤9223372036854775807)(Q:Value→St→Prop):W (Cl.get (aBin E .quo t xo yo) (.int .i64 (m:Nat)) (.int .i64 8)) s Q=Q (.int .i64 (m/8:Nat)) s:=Bb (Wn_ m 8 (by decide) hm)
theorem Hs_ {m:Nat}(Q:Value→St→Prop):W (Cl.get (aBin E .rem t xo yo) (.int .i64 (m:Nat)) (.int .i64 8)) s Q=Q (.int .i64 (m%8:Nat)) s:=Y4 (n:=8) (by decide) Q
theorem MkS.bs {l:List Nat}{v:Value}{b:Nat}(h:MkS s 1 l.length (u8l l) v b)(hn:l.length<capU):Bs s v l:=by
 rcases h with⟨rfl,h0,_⟩|⟨h,_⟩
 ·exact .inl ⟨rfl,List.eq_nil_of_length_eq_zero h0⟩
 ·refine .inr ⟨b,0,_,h.val, ?_,Ix hn (by decide),fun i u e=>(h.own i u e).at'⟩
  rw[Nat.mul_add_mod,Nat.mod_eq_of_lt hn]
  exact Nat.le_refl _
theorem MkS.bsF {n:Nat}{l:List Value}{v:Value}{b:Nat}(h:MkS s 1 n l v b): ∀x,BsF v x→MkF 1 n b x:=by
 intro x hx
 rcases h with⟨rfl,_,_⟩|⟨h,h0⟩
 ·exact hx.elim
 ·rw[h.val]at hx
  have h1:b+0≤x:=hx.1
  have h2:x<b+0+n:=hx.2
  exact⟨h0,by omega,by omega⟩
theorem MkS.hsR {hs:List Hd}{n:Nat}{v:Value}{b:Nat}(h:MkS s 18 n (A3 hs) v b)(hn:n=hs.length):HsR s v hs:=by
 subst hn
 rcases h with⟨rfl,h0,_⟩|⟨h,_⟩
 ·exact .inl ⟨rfl,List.eq_nil_of_length_eq_zero h0⟩
 ·exact .inr ⟨b,0,_,h.val,fun i u e=>(h.own i u e).at'⟩
theorem MkS.put {l:List Nat}{k x:Nat}{v:Value}{b:Nat}{G:Nat→Prop}(h:MkS s 1 l.length (u8l l) v b)(hk:k<l.length)(hn:s'.next=s.next)(e:Ext G (In b k 1) s s')(ho:Own s' b k (.int .u8 (x:Nat))):MkS s' 1 (l.set k x).length (u8l (l.set k x)) v b:=by
 rw[List.length_set]
 rcases h with⟨_,h0,_⟩|⟨h,h0⟩
 ·omega
 ·refine .inr ⟨⟨h.val,fun i u hi=> ?_, ?_, ?_,by rw[hn];exact h.lt⟩,h0⟩
  ·by_cases hik:i=k
   ·subst hik
    unfold u8l at hi
    rw[List.getElem?_map,List.getElem?_set_self hk]at hi
    have:u= .int .u8 (x:Nat):=by injection hi with hi;exact hi.symm
    subst this
    rwa [Nat.zero_add]
   ·have hi':(u8l l)[i]?=some u:=by
     unfold u8l at hi ⊢
     rw[List.getElem?_map,List.getElem?_set_ne (fun q=>hik q.symm)]at hi
     rw[List.getElem?_map]
     exact hi
    exact(h.own i u hi').ext e fun q=>by
     have h1:=In1.1 q
     omega
  ·rw[A1,List.length_set,Nat.mul_one]
  ·have hlt:b+l.length*1<s.next:=h.lt
   rw[e.mem _ hlt fun q=>by have h1:=In1.1 q;omega]
   exact h.tok
theorem MkS.get {l:List Nat}{k:Nat}{v:Value}{b:Nat}(h:MkS s 1 l.length (u8l l) v b)(hk:k<l.length): ∃c,v= .slice (some ⟨b,0,none⟩) l.length c∧Own s b k (.int .u8 (l.getD k 0:Nat)):=by
 rcases h with⟨_,h0,_⟩|⟨h,h0⟩
 ·omega
 ·refine⟨_,h.val, ?_⟩
  have:=h.own k (.int .u8 (l.getD k 0:Nat)) (by
   unfold u8l
   rw[List.getElem?_map,List.getElem?_eq_getElem hk,List.getD_eq_getElem?_getD,List.getElem?_eq_getElem hk]
   rfl)
  rwa [Nat.zero_add]at this
theorem MkS.hat {hs:List Hd}{n i:Nat}{v:Value}{b:Nat}(h:MkS s 18 n (A3 hs) v b)(hn:n=hs.length)(h16: ∀h∈hs,h.1.length=16)(hi:i<hs.length): ∃c,v= .slice (some ⟨b,0,none⟩) n c∧(n<capU→c%capU=n∧CB c 18=true)∧Row s b (0+i*18) (AP hs[i])∧ ∀w,w≤hs.length→Row s b 0 (A3 (hs.take w)):=by
 rcases h with⟨_,h0,_⟩|⟨h,h0⟩
 ·omega
 ·refine⟨_,h.val,fun hc=>⟨by rw[Nat.mul_add_mod,Nat.mod_eq_of_lt hc],Ix hc (by decide)⟩,fun j u e=> ?_,fun w hw j u e=> ?_⟩
  ·have hj:j<18:=by
    have:=(List.getElem?_eq_some_iff.1 e).1
    rwa [Dk (h16 _ (List.getElem_mem hi))]at this
   have:=(h.own (i*18+j) u (by rw[XB h16 hi hj];exact e)).at'
   rwa [show 0+(i*18+j)=0+i*18+j by omega]at this
  ·refine(h.own j u ?_).at'
   have es:hs=hs.take w++hs.drop w:=(List.take_append_drop w hs).symm
   rw[es,NS,List.getElem?_append_left (List.getElem?_eq_some_iff.1 e).1]
   exact e
end
end Go.Proofs.Ytofanlcjeohcjaa.Am
