import Derived.Test.YtofanlcjeohcjaaIMg07
import Derived.ChangeKeysEq
import Derived.Laws.Strings
import GoSem.ClaimWide
import Derived.ChangeShapes
import Derived.ChangeSlices
import Derived.WideShapes
import Derived.OpenShut
import Derived.Carry
import Derived.ChangeSame
noncomputable section
namespace Go.Proofs.Ytofanlcjeohcjaa.Am
open Go.RowKit
section
variable {E:Env}{s:St}{t:Nat}
theorem Rb {m:Nat}(h:m<=9223372036854775807):fitI .i64 m=some (.int .i64 (m:Nat)):=by
 unfold fitI
 rw[Nat.ble_eq_true_of_le (show m<=mxOf .i64 from h)]
 show mkI .i64 m=_
 unfold mkI
 rw[Aj]
 rfl
theorem NU_ {kk:IntKind}(m n:Nat)(hn:n<=64)(hm:m<<<n<=9223372036854775807)(xo yo:Operand):Cl.get (aBin E .shl t xo yo) (.int .i64 (m:Nat)) (.int kk (n:Nat)) s= .some (.int .i64 (m<<<n:Nat)) s:=by
 show int3 shlK (AD E .shl t xo yo) (.int .i64 (.ofNat m)) (.int kk (.ofNat n)) s=_
 show Option.rec (motive:=λ_=>R Value) _ (λv=> .some v s) (shlK .i64 kk m n)=_
 have:shlK .i64 kk m n=some (.int .i64 (m<<<n:Nat)):=by
  unfold shlK
  rw[Nat.ble_eq_true_of_le (show n<=btOf .i64 from hn)]
  exact Rb hm
 rw[this]
theorem Ahz_ {kk:IntKind}{m n:Nat}{xo yo:Operand}(hn:n<=64)(hm:m<<<n<=9223372036854775807)(Q:Value->St->Prop):W (Cl.get (aBin E .shl t xo yo) (.int .i64 (m:Nat)) (.int kk (n:Nat))) s Q=Q (.int .i64 (m<<<n:Nat)) s:=AC (NU_ m n hn hm xo yo)
theorem AhD_ {kk:IntKind}{m:Nat}{xo yo:Operand}(hm:m<<<8<=9223372036854775807)(Q:Value->St->Prop):W (Cl.get (aBin E .shl t xo yo) (.int .i64 (m:Nat)) (.int kk 8)) s Q=Q (.int .i64 (m<<<8:Nat)) s:=Ahz_ (n:=8) (by decide) hm Q
theorem AkU_ (m n:Nat)(hm:m|||n<=9223372036854775807)(xo yo:Operand):Cl.get (aBin E .or t xo yo) (.int .i64 (m:Nat)) (.int .i64 (n:Nat)) s= .some (.int .i64 (m|||n:Nat)) s:=by
 show int3 orK (AD E .or t xo yo) (.int .i64 (.ofNat m)) (.int .i64 (.ofNat n)) s=_
 show Option.rec (motive:=λ_=>R Value) _ (λv=> .some v s) (orK .i64 .i64 m n)=_
 have:orK .i64 .i64 m n=some (.int .i64 (m|||n:Nat)):=by
  unfold orK BN
  rw[Nat.beq_refl]
  exact Rb hm
 rw[this]
theorem W_or {m n:Nat}{xo yo:Operand}(hm:m|||n<=9223372036854775807)(Q:Value->St->Prop):W (Cl.get (aBin E .or t xo yo) (.int .i64 (m:Nat)) (.int .i64 (n:Nat))) s Q=Q (.int .i64 (m|||n:Nat)) s:=AC (AkU_ m n hm xo yo)
end
section
variable {P:Program}{E:Env}{s:St}{t:Nat}
theorem Agi_ {i:TypeInfo}(h:P.info? t=some i):semP P (typeInfo t)=some i:=by
 unfold typeInfo program
 show semP P ((match P.info? t with|some i=>pure i|none=>_):Sem TypeInfo)=_
 rw[h]
 rfl
theorem Mi_ {i:TypeInfo}(h:P.info? t=some i):semP P (sizeOf t)=some i.size:=by
 unfold sizeOf
 rw[BS,Agi_ h]
 rfl
theorem J7 {cs:Array Value}{off:Nat}{v:Value}{k:IntKind}(hu:P.underlying t=some (.int k))(h:cs[off]?=some v):semP P (part t cs off)=some v:=by
 unfold part isAgg
 rw[BS,BS,G7 hu]
 simp only[Option.bind_some,Dz,Bool.false_eq_true,if_false,h]
theorem AgT_ {k:IntKind}{d:Nat}{a b:Int}(hu:P.underlying t=some (.int k)):semP P (Op.equalIn (d+1) t (.int .u8 a) (.int .u8 b))=some (a==b):=by
 simp only[Op.equalIn,BS,G7 hu,Option.bind_some,if_true,Dz]
theorem X1 (l:List Nat){j:Nat}(h:j<l.length):(u8l l).toArray[j*1]?=some (.int .u8 (l.getD j 0:Nat)):=by
 rw[Nat.mul_one,List.getElem?_toArray,List.getElem?_map,List.getElem?_eq_getElem h,List.getD_eq_getElem?_getD,List.getElem?_eq_getElem h]
 rfl
theorem Afe_ (l m:List Nat)(h:l.length=m.length):(List.range' 0 l.length).all (λj=>l.getD j 0==m.getD j 0)=decide (l=m):=by
 rw[Bool.eq_iff_iff,List.all_eq_true,decide_eq_true_eq]
 constructor
 ·intro q
  refine List.ext_getElem h λj h1 h2=> ?_
  have:=q j (by simp;exact h1)
  rw[beq_iff_eq,List.getD_eq_getElem?_getD,List.getD_eq_getElem?_getD,List.getElem?_eq_getElem h1,List.getElem?_eq_getElem h2]at this
  exact this
 ·rintro rfl j _
  exact beq_self_eq_true _
theorem Zh (d:Nat){e n:Nat}{i:TypeInfo}(l m:List Nat)(hu:P.underlying t=some (.array n e))(hi:P.info? e=some i)(hz:i.size=1)(he:P.underlying e=some (.int .u8))(hl:l.length=n)(hm:m.length=n):
  semP P (Op.equalIn (d+2) t (.agg (u8l l).toArray) (.agg (u8l m).toArray))=some (decide (l=m)):=by
 rw[<-Afe_ l m (by rw[hl,hm]),hl]
 rw[show d+2=(d+1)+1 from rfl]
 unfold Op.equalIn
 simp only[BS,G7 hu,Option.bind_some,Mi_ hi,hz]
 simp only[Std.Legacy.Range.forIn_eq_forIn_range',Std.Legacy.Range.size,Nat.sub_zero,Nat.add_one_sub_one,Nat.div_one]
 have hr: ∀j∈List.range' 0 n,j<n:=λj hj=>by simpa using hj
 generalize List.range' 0 n=is at hr
 induction is with
 |nil=>rfl
 |cons j is ih=>
  have hj:=hr j (by simp)
  have ih:=ih λk hk=>hr k (by simp[hk])
  simp only[List.forIn_cons,BS,J7 he (X1 l (show j<l.length by rw[hl];exact hj)),J7 he (X1 m (show j<m.length by rw[hm];exact hj)),Option.bind_some,AgT_ he,List.all_cons]
  by_cases hq:l.getD j 0=m.getD j 0
  ·rw[hq]at *
   simp only[beq_self_eq_true,Bool.true_and,Bool.not_true,Bool.false_eq_true,if_false,Dz,Option.bind_some]
   exact ih
  ·have h1:((l.getD j 0:Nat):Int)≠((m.getD j 0:Nat):Int):=λh=>hq (by exact_mod_cast h)
   have h2:(((l.getD j 0:Nat):Int)==((m.getD j 0:Nat):Int))=false:=by simpa using h1
   have h3:(l.getD j 0==m.getD j 0)=false:=by simpa using hq
   rw[h2,h3]
   simp[Dz]
def arrB (P:Program)(t:Nat):Option Nat:=match P.underlying t with
 |some (.array n e)=>(match P.info? e,P.underlying e with
  |some i,some (.int .u8)=>bif Nat.beq i.size 1&& !P.eqGuardType P.depth t then some n else none
  |_,_=>none)
 |_=>none
theorem Abd_ {n:Nat}(h:arrB P t=some n): ∃e i,P.underlying t=some (.array n e)/\P.info? e=some i/\P.underlying e=some (.int .u8)/\i.size=1/\P.eqGuardType P.depth t=false:=by
 unfold arrB at h
 split at h
 ·rename_i n2 e hu
  split at h
  ·rename_i i hi he
   cases hc:(Nat.beq i.size 1&& !P.eqGuardType P.depth t)
   ·rw[hc]at h
    cases h
   ·rw[hc]at h
    cases h
    rw[Bool.and_eq_true]at hc
    exact⟨e,i,hu,hi,he,Nat.eq_of_beq_eq_true hc.1,by simpa using hc.2⟩
  ·cases h
 ·cases h
theorem Hs_ (l:List Nat):plain (.agg (u8l l).toArray)=true:=by
 show(u8l l).toArray.toList.all (AZ 3)=true
 rw[List.all_eq_true]
 intro v hv
 simp only[List.mem_map]at hv
 obtain⟨n,_,rfl⟩:=hv
 rfl
theorem Rd_ {xo yo:Operand}{op:BinOp}{l m:List Nat}(hop:op= .eql\/op= .neq)(hg:P.eqGuardType P.depth t=false):semP P (eqGuard op t xo yo (.agg (u8l l).toArray) (.agg (u8l m).toArray))=some ():=by
 have hp:semP P program=some P:=rfl
 rcases hop with rfl|rfl<;>(unfold eqGuard;simp only[Bool.not_true,Bool.not_false,Bool.false_eq_true,if_false,if_true,BS,hp,Option.bind_some,hg,Dz])
theorem Ads_ {n:Nat}{l m:List Nat}{xo yo:Operand}(h:arrB E.P t=some n)(hl:l.length=n)(hm:m.length=n):
  Cl.get (aBin E .eql t xo yo) (.agg (u8l l).toArray) (.agg (u8l m).toArray) s= .some (.bool (decide (l=m))) s:=by
 obtain⟨e,i,h1,h2,h3,h4,h5⟩:=Abd_ h
 show AD E .eql t xo yo (.agg (u8l l).toArray) (.agg (u8l m).toArray) s=_
 unfold AD
 rw[Hs_,Hs_]
 show M.on (semP E.P (do eqGuard .eql t xo yo (.agg (u8l l).toArray) (.agg (u8l m).toArray);binOp .eql t (.agg (u8l l).toArray) (.agg (u8l m).toArray))) pV s=_
 rw[BS,Rd_ (.inl rfl) h5]
 show M.on (semP E.P (do pure (.bool (<-Op.equalIn (9998+2) t (.agg (u8l l).toArray) (.agg (u8l m).toArray))))) pV s=_
 rw[BS,Zh 9998 l m h1 h2 h4 h3 hl hm]
 rfl
theorem Sc {n:Nat}{l m:List Nat}{xo yo:Operand}(h:arrB E.P t=some n)(hl:l.length=n)(hm:m.length=n)(Q:Value->St->Prop):W (Cl.get (aBin E .eql t xo yo) (.agg (u8l l).toArray) (.agg (u8l m).toArray)) s Q=Q (.bool (decide (l=m))) s:=AC (Ads_ h hl hm)
theorem Vt {op:BinOp}{xo yo:Operand}{a b:ByteArray}{v:Value}(hc: ∀s,Cl.get (aBin E op t xo yo) (.string a) (.string b) s=AD E op t xo yo (.string a) (.string b) s)(hg:semP E.P (eqGuard op t xo yo (.string a) (.string b))=some ())(hb:semP E.P (binOp op t (.string a) (.string b))=some v)(hv: ∀s:St,pV v s= .some v s):
  Cl.get (aBin E op t xo yo) (.string a) (.string b) s= .some v s:=by
 rw[hc]
 unfold AD
 show M.on (semP E.P (do eqGuard op t xo yo (.string a) (.string b);binOp op t (.string a) (.string b))) pV s=_
 rw[BS,hg]
 show M.on (semP E.P (binOp op t (.string a) (.string b))) pV s=_
 rw[hb]
 exact hv s
theorem Up_ {xo yo:Operand}(a b:ByteArray)(Q:Value->St->Prop):W (Cl.get (aBin E .eql t xo yo) (.string a) (.string b)) s Q=Q (.bool (a.data.toList==b.data.toList)) s:=
 AC (Vt (λ_=>rfl) rfl (by rw[<-ByteArray.toList_eq,<-ByteArray.toList_eq];rfl) λ_=>rfl)
theorem FX_ {xo yo:Operand}(a b:ByteArray)(Q:Value->St->Prop):W (Cl.get (aBin E .neq t xo yo) (.string a) (.string b)) s Q=Q (.bool (!(a.data.toList==b.data.toList))) s:=
 AC (Vt (λ_=>rfl) rfl (by rw[<-ByteArray.toList_eq,<-ByteArray.toList_eq];rfl) λ_=>rfl)
end
def DB (n0:Nat)(m a:OpLog):Prop:=(∀x∈m.rd,n0<=x-> ¬(a.lo<=x/\x<a.hi))/\(∀x∈m.wr,n0<=x-> ¬(a.lo<=x/\x<a.hi))/\(∀x∈a.wr,x∉m.rd/\x∉m.wr)/\(∀x∈m.wr,x∉a.rd)
def CF (n0 b:Nat)(m:OpLog):List OpLog->Nat->Prop
 |[],_=>True
 |a::l,i=>(b.testBit i=true\/DB n0 m a)/\CF n0 b m l (i+1)
def allP (n0:Nat)(all:List OpLog):List OpLog->List Nat->Nat->Prop
 |[],_,_=>True
 |m::l,b::bef,j=>CF n0 b m (all.take j) 0/\allP n0 all l bef (j+1)
 |_::_,[],_=>False
theorem Kt_ {x:Nat}: ∀{l:List Nat} {m:Nat},(Cf l m).testBit x=true->x∈l\/m.testBit x=true
 |[],m,h=> .inr h
 |a::l,m,h=>by
  have e:Cf (a::l) m=Cf l (m|||2^a):=by
   show fN (Nat.lor m (Nat.shiftLeft (nat_lit 1) a)) (Cf l)=_
   rw[Aj]
   show Cf l (m|||(1<<<a))=_
   rw[Nat.one_shiftLeft]
  rw[e]at h
  rcases Kt_ h with h|h
  ·exact .inl (by simp[h])
  ·rw[Nat.testBit_or,QG,Bool.or_eq_true]at h
   rcases h with h|h
   ·exact .inr h
   ·have:x=a:=by
     have:=of_decide_eq_true h
     omega
    exact .inl (by simp[this])
theorem HC_ {a b:Nat}(h: ∀x,¬(a.testBit x=true/\b.testBit x=true)):Nat.beq (Nat.land a b) (nat_lit 0)=true:=by
 have e:a&&&b=0:=by
  refine Nat.eq_of_testBit_eq λx=> ?_
  rw[Nat.testBit_and,Nat.zero_testBit]
  cases h1:a.testBit x with
  |false=>rfl
  |true=>
   cases h2:b.testBit x with
   |false=>rfl
   |true=>exact absurd ⟨h1,h2⟩ (h x)
 show Nat.beq (a&&&b) 0=true
 rw[e]
 rfl
theorem GR {x:Nat}{l:List Nat}(h:(Cf l 0).testBit x=true):x∈l:=by
 rcases Kt_ h with h|h
 ·exact h
 ·rw[Nat.zero_testBit]at h;cases h
theorem Amk_ {a m:OpLog}(h1: ∀x∈a.wr,x∉m.rd/\x∉m.wr)(h2: ∀x∈m.wr,x∉a.rd):EB (BH a) (BH m)=true:=by
 unfold EB
 rw[Bool.and_eq_true,Kj,Kj]
 refine⟨HC_ λx ⟨p,q⟩=> ?_,HC_ λx ⟨p,q⟩=>h2 x (GR p) (GR q)⟩
 have q':(Cf m.rd 0|||Cf m.wr 0).testBit x=true:=q
 rw[Nat.testBit_or,Bool.or_eq_true]at q'
 rcases q' with q|q
 ·exact(h1 x (GR p)).1 (GR q)
 ·exact(h1 x (GR p)).2 (GR q)
theorem BE_ {n0 b:Nat}{m:OpLog}(news:List Nat)(hn: ∀x∈news,n0<=x/\(x∈m.rd\/x∈m.wr)): ∀(acc:List OpLog) (i:Nat),CF n0 b m acc i->Eh b news acc i=true
 |[],_,_=>rfl
 |a::acc,i,h=>by
  show((b.testBit i|| !Do a.lo a.hi news)&&Eh b news acc (Nat.succ i))=true
  rw[Bool.and_eq_true]
  refine⟨?_,BE_ news hn acc (i+1) h.2⟩
  rcases h.1 with h|h
  ·rw[h];rfl
  ·rw[Th _ _ _ λx hx=> ?_]
   ·simp
   ·obtain⟨h1,h2⟩:=hn x hx
    rcases h2 with h2|h2
    ·exact h.1 x h2 h1
    ·exact h.2.1 x h2 h1
theorem Kv_ {n0 b:Nat}{m:OpLog}: ∀(acc:List OpLog) (i:Nat),CF n0 b m acc i->Fu b (BH m) (acc.map BH) i=true
 |[],_,_=>rfl
 |a::acc,i,h=>by
  show((b.testBit i||EB (BH a) (BH m))&&Fu b (BH m) (acc.map BH) (Nat.succ i))=true
  rw[Bool.and_eq_true]
  refine⟨?_,Kv_ acc (i+1) h.2⟩
  rcases h.1 with h|h
  ·rw[h];rfl
  ·rw[Amk_ h.2.2.1 h.2.2.2];simp
theorem EP_ {n0:Nat}{all:List OpLog}: ∀(l:List OpLog) (bef:List Nat) (j:Nat),allP n0 all l bef j->FC n0 all l bef j=true
 |[],_,_,_=>rfl
 |_::_,[],_,h=>h.elim
 |m::l,b::bef,j,h=>by
  show(GU b (Bp n0 m.rd (Bp n0 m.wr [])) (all.take j)&&FC n0 all l bef (Nat.succ j))=true
  rw[Bool.and_eq_true]
  refine⟨?_,EP_ l bef (j+1) h.2⟩
  have hn: ∀x∈Bp n0 m.rd (Bp n0 m.wr []),n0<=x/\(x∈m.rd\/x∈m.wr):=λx hx=>by
   rcases NB _ _ _ x hx with h|h
   ·exact⟨h.2, .inl h.1⟩
   ·rcases NB _ _ _ x h with h|h
    ·exact⟨h.2, .inr h.1⟩
    ·cases h
  have hj:=BE_ _ hn _ _ h.1
  unfold GU
  generalize Bp n0 m.rd (Bp n0 m.wr [])=z at hj
  cases z with
  |nil=>rfl
  |cons x z=>exact hj
theorem YR {n0:Nat}{all:List OpLog}: ∀(l:List OpLog) (bef:List Nat) (j:Nat),allP n0 all l bef j->HJ (all.map BH) (l.map BH) bef j=true
 |[],_,_,_=>rfl
 |_::_,[],_,h=>h.elim
 |m::l,b::bef,j,h=>by
  show(Fu b (BH m) ((all.map BH).take j) 0&&HJ (all.map BH) (l.map BH) bef (Nat.succ j))=true
  rw[Bool.and_eq_true,<-List.map_take]
  exact⟨Kv_ _ _ h.1,YR l bef (j+1) h.2⟩
theorem D3 {n0:Nat}{l:List OpLog}{bef:List Nat}(h:allP n0 l l bef 0):Ca n0 l bef=true:=by
 unfold Ca
 rw[EP_ l bef 0 h,Nb,YR l bef 0 h]
 simp
section
variable {α β:Type}{s:St}
theorem W.dopG {m:M α}{f:α×OpLog->M β}{mem:T Cell}{next:Nat}{Q:β->St->Prop}
  (h:W m (oSt mem next) λv s1=> ∃F G,Ext F G (oSt mem next) s1/\ ∀rd wr,(∀x∈rd,x<next/\F x)->(∀x∈wr,x<next/\G x)->W (f (v,⟨next,s1.next,rd,wr⟩)) (dSt s1.mem s1.next) Q):W (M.bind (apartO m) f) (dSt mem next) Q:=by
 obtain⟨a,s1,e,F,G,x,q⟩:=h
 obtain⟨mem1,next1,lim1,rd1,wr1,cx1⟩:=s1
 have hcx:cx1= .no:=x.cx
 obtain⟨d1,p1,p2⟩:=x.rd
 obtain⟨d2,p3,p4⟩:=x.wr
 have e1:rd1=d1:=by simpa [oSt]using p1
 have e2:wr1=d2:=by simpa [oSt]using p3
 subst hcx
 refine W.bind (a8 (a:=(a,⟨next,next1,rd1,wr1⟩)) (s':=dSt mem1 next1) ?_ (q rd1 wr1 (λy hy=>p2 y (by rw[<-e1];exact hy)) λy hy=>p4 y (by rw[<-e2];exact hy)))
 have e':m ⟨mem,next,next,[],[], .no⟩= .some a ⟨mem1,next1,lim1,rd1,wr1, .no⟩:=e
 show Am.apartO m ⟨mem,next,0,[],[], .no⟩=_
 unfold Am.apartO
 simp only[e']
 rfl
theorem Ais_ (lim:Nat)(l:List OpLog)(base:List Nat): ∃d,wrsL lim l base=d++base/\ ∀x∈d,x<lim/\ ∃m∈l,x∈m.wr:=by
 induction l with
 |nil=>exact⟨[],rfl,λ_ h=>by cases h⟩
 |cons m l ih=>
  obtain⟨d,e,q⟩:=ih
  obtain⟨d2,e2,q2⟩:=Jr_ lim m.wr (wrsL lim l base)
  refine⟨d2++d, ?_,λx hx=> ?_⟩
  ·show addL lim m.wr (wrsL lim l base)=_
   rw[e2,e,List.append_assoc]
  ·rcases List.mem_append.1 hx with hx|hx
   ·exact⟨(q2 x hx).1,m,by simp,(q2 x hx).2⟩
   ·obtain⟨h1,m',h2,h3⟩:=q x hx
    exact⟨h1,m',by simp[h2],h3⟩
theorem aP {F G:Nat->Prop}{mem':T Cell}{next':Nat}{l:List OpLog}(h1:s.next<=next')(h2: ∀x,x<s.next-> ¬G x->T.get mem' x=T.get s.mem x)(hw: ∀m∈l,∀x∈m.wr,x<s.lim->G x)(hr: ∀m∈l,∀x∈m.rd,x<s.lim->F x):
  Ext F G s ⟨mem',next',s.lim,rdsL s.lim l s.rd,wrsL s.lim l s.wr,s.cx⟩:=by
 obtain⟨d,e,q⟩:=Gb_ s.lim l s.rd
 obtain⟨d2,e2,q2⟩:=Ais_ s.lim l s.wr
 exact⟨h1,rfl,rfl,λx hx hg=>h2 x hx hg,⟨d,e,λx hx=>by obtain⟨a,m,b,c⟩:=q x hx;exact⟨a,hr m b x c a⟩⟩,⟨d2,e2,λx hx=>by obtain⟨a,m,b,c⟩:=q2 x hx;exact⟨a,hw m b x c a⟩⟩⟩
end
section
variable {α β:Type}{s:St}{E:Env}{t t2:Nat}
theorem Ext.delC {F G:Nat->Prop}(s:St)(l:Nat)(hG:G l):Ext F G s ⟨T.del s.mem l,s.next,s.lim,s.rd,notes l s.lim s.wr,s.cx⟩:=by
 obtain⟨d,e,q⟩:=Gd l s.lim s.wr
 refine⟨Nat.le_refl _,rfl,rfl,λx _ hx=> ?_,⟨[],rfl,λ_ h=>by cases h⟩,⟨d,e,λx hx=>⟨(q x hx).1,by rw[(q x hx).2];exact hG⟩⟩⟩
 show T.get (T.del s.mem l) x=_
 rw[aW,if_neg]
 intro h
 exact hx (by rw[h];exact hG)
theorem Xw: ∀(n l:Nat) (s:St),s.lim<=s.next->l+n<=s.next-> ∃s',CL n l s= .some () s'/\s'.next=s.next/\Ext Non (λx=>l<=x/\x<l+n) s s'
 |0,_,s,_,_=>⟨s,rfl,rfl,Ext.refl s⟩
 |n+1,l,s,hb,h=>by
  have x1:Ext Non (λx=>l<=x/\x<l+(n+1)) s ⟨T.del s.mem l,s.next,s.lim,s.rd,notes l s.lim s.wr,s.cx⟩:=Ext.delC s l ⟨Nat.le_refl _,by omega⟩
  obtain⟨s2,e2,n2,x2⟩:=Xw n (l+1) ⟨T.del s.mem l,s.next,s.lim,s.rd,notes l s.lim s.wr,s.cx⟩ hb (by show l+1+n<=s.next;omega)
  refine⟨s2, ?_,n2,x1.trans x2 hb (λ_ _ h=>h) λx _ h=>⟨by have:=h.1;omega,by have:=h.2;omega⟩⟩
  show M.bind (Am.delC l) (λ_=>CL n (l+1)) s=_
  have e1:Am.delC l s= .some () ⟨T.del s.mem l,s.next,s.lim,s.rd,notes l s.lim s.wr,s.cx⟩:=by
   obtain⟨mem,next,lim,rd,wr,cx⟩:=s
   show Bool.rec (motive:=λ_=>R Unit) .none (R.some () (St.mk (T.del mem l) next lim rd (notes l lim wr) cx)) (Nat.blt l next)=_
   rw[Bq (show l<next from Nat.lt_of_lt_of_le (by omega) h)]
  rw[AG e1]
  exact e2
structure Marked (s:St)(sz n:Nat)(l:List Value)(v:Value)(b:Nat):Prop where
 val:v= .slice (some ⟨b,0,none⟩) n (capU*((b+n*sz)*1024+sz)+n)
 own:Aa s b 0 l
 len:l.length=n*sz
 tok: ∃q,q%1024=sz/\T.get s.mem (b+n*sz)=some (.O (.tok false q))
 lt:b+n*sz<s.next
theorem Fresh1.marked {s s':St}{sz n:Nat}{l:List Value}{v:Value}{b:Nat}(h:Fresh1 s s' sz n l v b):Marked s' sz n l v b:=⟨h.val,h.own,h.len,h.tok,h.lt⟩
theorem Marked.ext {F G:Nat->Prop}{s s':St}{sz n:Nat}{l:List Value}{v:Value}{b:Nat}(h:Marked s sz n l v b)(e:Ext F G s s')(hG: ∀x,In b 0 (n*sz+1) x-> ¬G x):Marked s' sz n l v b:=
 ⟨h.val,h.own.ext e λi hi=>hG _ ⟨by omega,by rw[h.len]at hi;omega⟩,h.len,let ⟨q,h1,h2⟩:=h.tok;⟨q,h1,by rw[e.mem _ h.lt (hG _ ⟨by omega,by omega⟩)];exact h2⟩,Nat.lt_of_lt_of_le h.lt e.nxt⟩
theorem Marked.same {s s':St}{sz n:Nat}{l:List Value}{v:Value}{b:Nat}(h:Marked s sz n l v b)(hm:s'.mem=s.mem)(hn:s'.next=s.next):Marked s' sz n l v b:=
 ⟨h.val,λi v e=>(h.own i v e).same hm hn,h.len,by rw[hm];exact h.tok,by rw[hn];exact h.lt⟩
theorem W.appMark (hbd:s.lim<=s.next){sz by' n len b:Nat}{z l old:List Value}{v x:Value}{F:Nat->Prop}{Q:Value->St->Prop}{g:Bool}(ht:appT E t t2=some (sz,by',g,z))(hm:Marked s sz len old v b)(hx:SrcG s sz by' g z x n l F)(hn:0<n)(hlen:0<len)(hs0:0<sz)(hs1:sz<1024)
  (hb:(len+n)*(by'+1)<=16777216) (hl:l.length=n*sz) (h1:l.all oneCell=true)
  (q: ∀s2 v2 b2,Fresh1 s s2 sz (len+n) (old++l) v2 b2->Ext (λx=>F x\/In b 0 (len*sz+1) x) (In b 0 (len*sz+1)) s s2->Q v2 s2):W (CB E t t2 v x) s Q:=by
 obtain⟨i,i2,e,ie,g1,g2,g3,g4,g5,g6,g7,g8⟩:=Hy ht
 obtain⟨hN,s1,e1,m1,n1,x1⟩:=hx ie g5 g6 g8
 subst g5;subst g6
 rw[hm.val]
 have hle:len<capU:=by
  have:len<=16777216:=by
   have h2:len*1<=(len+n)*(ie.bytes+1):=Nat.mul_le_mul (by omega) (by omega)
   omega
  unfold capU
  omega
 have hmod:(capU*((b+len*ie.size)*1024+ie.size)+len)%capU=len:=by
  rw[Nat.mul_add_mod,Nat.mod_eq_of_lt hle]
 have hdiv:(capU*((b+len*ie.size)*1024+ie.size)+len)/capU=(b+len*ie.size)*1024+ie.size:=by
  rw[Nat.mul_add_div (by decide),Nat.div_eq_of_lt hle,Nat.add_zero]
 generalize hc:capU*((b+len*ie.size)*1024+ie.size)+len=c at *
 refine W.bind (W.ti g1 (W.bind (W.ti g2 ?_)))
 rw[g3,g7]
 refine W.bind (W.ti g4 (W.bind (a8 (hN s) (W.bind ?_))))
 refine a8 e1 ?_
 show W (aT (Nat.ble (Nat.add len n) (c%capU)) _ _) s1 Q
 have hz:Nat.ble (Nat.add len n) (c%capU)=false:=by
  cases hq:Nat.ble (Nat.add len n) (c%capU)with
  |false=>rfl
  |true=>
   have h2:=Nat.le_of_ble_eq_true hq
   rw[hmod]at h2
   have h3:Nat.add len n=len+n:=rfl
   omega
 rw[hz]
 show W (grow ie.size ie.bytes (CW ie.zero) (some ⟨b,0,none⟩) len c n l) s1 Q
 unfold grow
 have hm1:Marked s1 ie.size len old v b:=hm.same m1 n1
 have hb1:s1.lim<=s1.next:=x1.bnd hbd
 refine W.chk ?_ (W.bind ?_)
 ·rw[h1,hl,hmod]
  simp only[Bool.and_true,Bool.and_eq_true,Bool.or_eq_true]
  refine⟨⟨⟨⟨Nat.ble_eq_true_of_le hb,Bq hs0⟩,Bq hs1⟩, .inl (Bq hlen)⟩,Nat.beq_refl _⟩
 ·show W (oldL ie.size (some ⟨b,0,none⟩) (Bool.rec (motive:=λ_=>Nat) (c%capU) len (Nat.beq (c/capU) 0))) s1 _
  rw[hmod,hdiv]
  have hb0:Nat.beq ((b+len*ie.size)*1024+ie.size) 0=false:=by
   cases hq:Nat.beq ((b+len*ie.size)*1024+ie.size) 0 with
   |false=>rfl
   |true=>have:=Nat.eq_of_beq_eq_true hq;omega
  rw[hb0]
  show W (Am.rdL (len*ie.size) ⟨b,0,none⟩) s1 _
  rw[<-hm1.len]
  refine W.rdL hm1.own.row λs2 m2 n2 x2=>W.bind ?_
  have hm2:Marked s2 ie.size len old v b:=hm1.same m2 n2
  have hb2:s2.lim<=s2.next:=x2.bnd hb1
  show W (C3 ie.size (some ⟨b,0,none⟩) (c%capU) (c/capU)) s2 _
  rw[hmod,hdiv]
  unfold C3
  show W (aT (Nat.beq ((b+len*ie.size)*1024+ie.size) 0) _ _) s2 _
  rw[hb0]
  have hd1:((b+len*ie.size)*1024+ie.size)/1024=b+len*ie.size:=by omega
  have hd2:((b+len*ie.size)*1024+ie.size)%1024=ie.size:=by omega
  show W (M.bind (Am.rdC (((b+len*ie.size)*1024+ie.size)/1024)) _) s2 _
  rw[hd1]
  obtain⟨qo,hqo,htok⟩:=hm2.tok
  refine W.bind (W.rdC htok hm2.lt ?_)
  show W (M.chk (Nat.beq (qo%1024) ie.size&&Nat.beq (((b+len*ie.size)*1024+ie.size)%1024) ie.size) (M.bind (Am.wrC (((b+len*ie.size)*1024+ie.size)/1024) (.O (.tok true ie.size))) λ_=>M.bind (Fs ie.size (some ⟨b,0,none⟩) len) λ_=>Am.fN (qo/1024) λf=>M.pure f)) _ _
  rw[hd2,hd1,hqo]
  refine W.chk (by rw[Nat.beq_refl];rfl) (W.bind (W.wrC hm2.lt ?_))
  refine W.bind ?_
  show W (CL (len*ie.size) (b+0)) _ _
  generalize hs3:((s2.rdN (b+len*ie.size)).wrN (b+len*ie.size) (.O (.tok true ie.size)))=s3
  have x3:Ext (In b 0 (len*ie.size+1)) (In b 0 (len*ie.size+1)) s2 s3:=by
   rw[<-hs3]
   have a1:Ext (In b 0 (len*ie.size+1)) (In b 0 (len*ie.size+1)) s2 (s2.rdN (b+len*ie.size)):=Ext.rdN s2 _ λ_=>⟨by omega,by omega⟩
   exact a1.trans (Ext.wrN (F:=In b 0 (len*ie.size+1)) (s2.rdN (b+len*ie.size)) _ _ ⟨by omega,by omega⟩) hb2 (λ_ _ h=>h) λ_ _ h=>h
  have n3:s3.next=s2.next:=by rw[<-hs3];rfl
  have hb3:s3.lim<=s3.next:=x3.bnd hb2
  obtain⟨s4,e4,n4,x4⟩:=Xw (len*ie.size) (b+0) s3 hb3 (by have:=hm2.lt;omega)
  refine a8 e4 (W.fN (W.pure (W.bind (W.newL λs5 n5 x5 r5=>W.fN (W.fN (W.bind (W.wrC ?_ ?_)))))))
  ·rw[n5]
   simp only[Nat.add_eq,Nat.mul_eq,List.length_append,List.length_take,hm.len,hl,Nat.min_self]
   rw[Nat.add_mul]
   omega
  ·show W (Am.fA (⟨s4.next,0,none⟩:Addr) λa=>Am.fN (Nat.add len n) λl=>Am.fN _ λc=>M.pure (.slice (some a) l c)) _ Q
   have htake:old.take (Nat.mul len ie.size)=old:=List.take_of_length_le (by rw[hm.len];exact Nat.le_refl _)
   rw[htake]at n5 r5
   have hadd:Nat.add len n=len+n:=rfl
   have hmul:Nat.mul (len+n) ie.size=(len+n)*ie.size:=rfl
   have hal:(old++l).length=(len+n)*ie.size:=by rw[List.length_append,hm.len,hl,Nat.add_mul]
   have nn:s.next<=s4.next:=by rw[n4,n3,n2,n1];exact Nat.le_refl _
   have xall:Ext (λx=>F x\/In b 0 (len*ie.size+1) x) (In b 0 (len*ie.size+1)) s s5:=by
    have y1:Ext (λx=>F x\/In b 0 (len*ie.size+1) x) (In b 0 (len*ie.size+1)) s s1:=x1.weak hbd (λ_ _ h=> .inl h) λ_ _ h=>h.elim
    have y2:=y1.trans x2 hbd (λx _ h=> .inr ⟨h.1,by have:=h.2;rw[hm.len]at this;omega⟩) λ_ _ h=>h.elim
    have y3:=y2.trans x3 hbd (λx _ h=> .inr h) λ_ _ h=>h
    have y4:=y3.trans x4 hbd (λ_ _ h=>h.elim) λx _ h=>⟨by have:=h.1;omega,by have:=h.2;omega⟩
    exact y4.trans x5 hbd (λ_ _ h=>h.elim) λ_ _ h=>h.elim
   have hb5:s5.lim<=s5.next:=xall.bnd hbd
   refine W.fA (W.fN (W.fN (W.pure (q _ _ s4.next ⟨?_,nn, ?_,hal, ?_, ?_⟩ ?_))))
   ·rfl
   ·intro k v hk
    have hk':=(List.getElem?_eq_some_iff.1 hk).1
    have:=r5 k v hk
    refine⟨this.1, ?_⟩
    show T.get (T.set s5.mem _ _) _=_
    rw[T.get_set,if_neg]
    ·exact this.2
    ·rw[hadd,hmul]
     show s4.next+(0+k)≠s4.next+(len+n)*ie.size
     omega
   ·refine⟨flg ie.size (qo/1024) (CW ie.zero),GN hs1, ?_⟩
    show T.get (T.set s5.mem (Nat.add s4.next (Nat.mul (Nat.add len n) ie.size)) _) _=_
    rw[hadd,hmul,T.get_set]
    exact if_pos rfl
   ·show s4.next+(len+n)*ie.size<s5.next
    rw[n5,hal]
    omega
   ·refine xall.trans (Ext.wrN (F:=Non) (G:=λx=>s4.next<=x) s5 _ _ ?_) hbd (λ_ _ h=>h.elim) λx hx h=> ?_
    ·show s4.next<=s4.next+Nat.mul (Nat.add len n) ie.size
     omega
    ·omega
end
theorem Rel.ofOld {w:World}{r:Inj}{mem:T Cell}(hk:r.known.sure w)(hd: ∀b b' d,r.blk b=some (b',d)->b'<w.heap.size)
  (ho: ∀loc c,T.get mem loc=some c-> ∃b v,c= .O (.old b v)/\ ∃b' d v',b<=loc/\r.blk b=some (b',d)/\w.cell? ⟨b',loc-b+d,none⟩=some v'/\VR r v v'):Rel w r mem w where
 below:= .refl _ _
 dom:=λb b' d e=>⟨Nat.le_refl _,hd b b' d e⟩
 cell:=λl b v e=>by obtain⟨_,_,e2,_⟩:=ho _ _ e;cases e2
 sep:=λl1 l2 b1 v1 b2 v2 b' d1 d2 e=>by obtain⟨_,_,e2,_⟩:=ho _ _ e;cases e2
 obj:=λl o e ht=>by obtain⟨_,_,e2,_⟩:=ho _ _ e;cases e2;cases ht
 sepO:=λl1 l2 o1 o2 b' d1 d2 e _ ht=>by obtain⟨_,_,e2,_⟩:=ho _ _ e;cases e2;cases ht
 tok:=λt sz e=>by obtain⟨_,_,e2,_⟩:=ho _ _ e;cases e2
 sepT:=λt1 t2 s1 s2 k1 k2 e=>by obtain⟨_,_,e2,_⟩:=ho _ _ e;cases e2
 known:=hk
 szs:=λl n e=>by obtain⟨_,_,e2,_⟩:=ho _ _ e;cases e2
 olds:={
  old:=λl b v e=>by obtain⟨_,_,e2,h⟩:=ho _ _ e;cases e2;exact h
  newC:=λl b v b' d e=>by obtain⟨_,_,e2,_⟩:=ho _ _ e;cases e2
  newO:=λl o b' d e ht=>by obtain⟨_,_,e2,_⟩:=ho _ _ e;cases e2;cases ht
  newS:=λl n b' d e=>by obtain⟨_,_,e2,_⟩:=ho _ _ e;cases e2}
theorem Abf_ {E:Env}(he:EnvOK E){fuel f:Nat}{args:List Value}{args':Array Value}{v:Value}{s0:St}{r:Inj}(ho:E.orc.get f=none)(hx:E.ext.get f=none)(h:W (Ab E (runF E fuel) f args) s0 λu _=>u=v)(hp:plain v=true){w:World}(ha:VRs r args args'.toList)(hr:Rel w r s0.mem w)(hb:Bnd s0)
  (hf: ∀b,s0.next<=b->r.blk b=none/\r.ext b=none):Calls E.P f args' w λe w'=>e= .returned v/\Below w.heap.size w w':=by
 intro cs
 obtain⟨_,s',h,rfl⟩:=h
 unfold Ab at h
 rw[ho,hx]at h
 obtain⟨s2,e1,rfl⟩:=F7 (o:= .inl _) (show within cxN (M.bind (M.bind (Ci E f args .normal) (runF E fuel)) fstV) s0=rOf (.inl _) s' from h)
 obtain⟨af,s1,o,e2,e3,e4⟩:=IC (He _ _ _) e1
 obtain⟨_,hF,rfl⟩:=Ke (r:=r) (base:=([],cs)) (cx:=cxN) he e2 ha (cs:=cs) ⟨⟨rfl,rfl⟩,rfl, .nil⟩
 obtain⟨w',r',k1,k2,cs',k3,k4⟩:=(Oc he fuel).ok e3 hF hr hb (λb h1 _=>hf b h1)
 cases o with
 |inr c=>cases e4
 |inl p=>
  cases e4
  obtain⟨v',q1,q2,q3⟩:=k4
  obtain⟨fr',x1,x2,x3⟩:=q3 rfl rfl
  have hcs:cs'=cs:=by
   rcases k3 with k3|⟨_,_,_,_,_,k,_⟩
   ·exact k3.2
   ·cases k
  subst hcs
  exact⟨.returned v',w',fr',⟨by rw[q1.eq_of_plain hp],k1.rel.below⟩,x3,x1,x2⟩
theorem VRs.plains {r:Inj}: ∀{l:List Value},(∀v∈l,plain v=true)->VRs r l l
 |[],_=> .nil
 |v::l,h=> .cons (.of_plain (h v (by simp))) (VRs.plains λu hu=>h u (by simp[hu]))
def layT (b:Nat):List Value->Nat->T Cell->T Cell
 |[],_,t=>t
 |v::l,i,t=>layT b l (i+1) (T.set t i (.O (.old b v)))
theorem YP (b:Nat): ∀(l:List Value) (i:Nat) (t:T Cell) (j:Nat),T.get (layT b l i t) j=if i<=j/\j<i+l.length then(l[j-i]?).map (λv=> .O (.old b v))else T.get t j
 |[],i,t,j=>by
  rw[if_neg (by simp only[List.length_nil];omega)]
  rfl
 |v::l,i,t,j=>by
  show T.get (layT b l (i+1) (T.set t i (.O (.old b v)))) j=_
  rw[YP b l (i+1),T.get_set]
  simp only[List.length_cons]
  by_cases h1:j=i
  ·subst h1
   rw[if_neg (by omega),if_pos rfl,if_pos (by omega),Nat.sub_self]
   rfl
  ·rw[if_neg h1]
   by_cases h2:i+1<=j/\j<i+1+l.length
   ·rw[if_pos h2,if_pos (by omega),show j-i=(j-(i+1))+1 by omega]
    rfl
   ·rw[if_neg h2,if_neg (by omega)]
open Go.RowKit Go.ChangeShapes Go.WideShapes
structure OldSt (w:World)(m:T Cell)(nx:Nat)(r:Inj):Prop where
 ho: ∀loc c,T.get m loc=some c->loc<nx/\ ∃b v,c= .O (.old b v)/\ ∃b' d v',b<=loc/\r.blk b=some (b',d)/\w.cell? ⟨b',loc-b+d,none⟩=some v'/\VR r v v'
 hd: ∀b b' d,r.blk b=some (b',d)->b<nx/\b'<w.heap.size
 hx: ∀b,r.ext b=none
 hk:r.known= .no
structure Grow (m:T Cell)(nx:Nat)(r:Inj)(m':T Cell)(nx':Nat)(r':Inj):Prop where
 le:r.le r'
 nle:nx<=nx'
 mem: ∀l,l<nx->T.get m' l=T.get m l
theorem Grow.refl (m:T Cell)(nx:Nat)(r:Inj):Grow m nx r m nx r:=⟨Inj.le_refl r,Nat.le_refl _,λ_ _=>rfl⟩
theorem Grow.trans {m m' m'':T Cell}{nx nx' nx'':Nat}{r r' r'':Inj}(h:Grow m nx r m' nx' r')(k:Grow m' nx' r' m'' nx'' r''):Grow m nx r m'' nx'' r'':=
 ⟨Inj.le_trans h.le k.le,Nat.le_trans h.nle k.nle,λl hl=>(k.mem l (Nat.lt_of_lt_of_le hl h.nle)).trans (h.mem l hl)⟩
def stO (m:T Cell)(nx:Nat):St:=⟨m,nx,0,[],[], .no⟩
theorem Grow.row {m m':T Cell}{nx nx':Nat}{r r':Inj}(g:Grow m nx r m' nx' r'){b o:Nat}{l:List Value}(h:Row (stO m nx) b o l):Row (stO m' nx') b o l:=λi v e=>by
 have hl:b+(o+i)<nx:=(h i v e).1
 refine⟨Nat.lt_of_lt_of_le hl g.nle, ?_⟩
 show T.get m' (b+(o+i))=_\/T.get m' (b+(o+i))=_
 rw[g.mem _ hl]
 exact(h i v e).2
def As (P:Program)(N:Nat)(s:St):Nat->TypeId->List Value->Prop
 |0,_,_=>False
 |f+1,t,us=>match P.underlying t with
  |some .bool=> ∃b,us=[.bool b]
  |some (.int k)=> ∃n,us=[.int k n]/\(Lit.int k n).wf=true
  |some .string=> ∃x:ByteArray,us=[.string x]/\x.size<=maxLen/\x.size<=N
  |some (.slice e)=>us=[.slice none 0 0]\/us=[.slice (some ⟨0,0,none⟩) 0 (capU*P.cellsOf e)]\/ ∃b n c,us=[.slice (some ⟨b,0,none⟩) n c]/\0<n/\n<=c/\c<=maxLen/\n<=N/\ ∀i,i<n-> ∃es,es.length=P.cellsOf e/\Row s b (i*P.cellsOf e) es/\As P N s f e es
  |some (.struct fs)=>us.length=P.cellsOf t/\ ∀x∈fs.toList,As P N s f x.type ((us.drop x.offset).take (P.cellsOf x.type))
  |some (.array n e)=>us.length=P.cellsOf t/\ ∀i,i<n->As P N s f e ((us.drop (i*P.cellsOf e)).take (P.cellsOf e))
  |_=>False
theorem As.mono {P:Program}{N:Nat}{s s':St}(h: ∀b o l,Row s b o l->Row s' b o l): ∀(f:Nat) (t:TypeId) (us:List Value),As P N s f t us->As P N s' f t us
 |0,_,_,k=>k
 |f+1,t,us,k=>by
  unfold As at k ⊢
  cases hu:P.underlying t with
  |none=>rw[hu]at k;exact k
  |some u=>
   rw[hu]at k
   cases u<;>try exact k
   ·rename_i e
    rcases k with k|k|⟨b,n,c,k1,k2,k3,k4,k6,k5⟩
    ·exact .inl k
    ·exact .inr (.inl k)
    ·refine .inr (.inr ⟨b,n,c,k1,k2,k3,k4,k6,λi hi=> ?_⟩)
     obtain⟨es,e1,e2,e3⟩:=k5 i hi
     exact⟨es,e1,h _ _ _ e2,As.mono h f _ _ e3⟩
   ·exact⟨k.1,λx hx=>As.mono h f _ _ (k.2 x hx)⟩
   ·exact⟨k.1,λi hi=>As.mono h f _ _ (k.2 i hi)⟩
def EP (P:Program):List Field->Nat->Nat->Bool
 |[],o,z=>Nat.beq o z
 |x::l,o,z=>Nat.beq x.offset o&&EP P l (o+P.cellsOf x.type) z
def DH (P:Program):Nat->TypeId->Bool
 |0,_=>false
 |f+1,t=>match P.underlying t with
  |some .bool|some (.int _)|some .string=>true
  |some (.slice e)=>Nat.blt 0 (P.cellsOf e)&&DH P f e
  |some (.struct fs)=>EP P fs.toList 0 (P.cellsOf t)&&fs.toList.all λx=>DH P f x.type
  |some (.array n e)=>Nat.beq (n*P.cellsOf e) (P.cellsOf t)&&DH P f e
  |_=>false
def Lay (w:World)(cs:List Value)(H:St->List Value->Prop):Prop:= ∀m nx r,OldSt w m nx r-> ∃m' nx' r' us,OldSt w m' nx' r'/\Grow m nx r m' nx' r'/\VRs r' us cs/\H (stO m' nx') us
theorem Lay.plain {w:World}{cs:List Value}{H:St->List Value->Prop}(h: ∀v∈cs,plain v=true)(k: ∀s,H s cs):Lay w cs H:=λm nx r ho=>⟨m,nx,r,cs,ho, .refl _ _ _,VRs.plains h,k _⟩
theorem M7 {w:World}{cs:List Value}{k:Nat}{H:St->List Value->Prop}(mono: ∀(s s':St) us,(∀b o l,Row s b o l->Row s' b o l)->H s us->H s' us): ∀n,n*k<=cs.length->(∀i,i<n->Lay w ((cs.drop (i*k)).take k) H)->Lay w (cs.take (n*k)) λs us=> ∀i,i<n->H s ((us.drop (i*k)).take k)
 |0,_,_=>λm nx r ho=>⟨m,nx,r,[],ho, .refl _ _ _,by rw[Nat.zero_mul];exact VRs.nil,λi hi=>absurd hi (Nat.not_lt_zero i)⟩
 |n+1,hl,h=>λm nx r ho=>by
  have hnk:(n+1)*k=n*k+k:=Nat.succ_mul n k
  obtain⟨m1,nx1,r1,us1,ho1,g1,v1,h1⟩:=M7 mono n (by omega) (λi hi=>h i (by omega)) m nx r ho
  obtain⟨m2,nx2,r2,us2,ho2,g2,v2,h2⟩:=h n (by omega) m1 nx1 r1 ho1
  have l1:us1.length=n*k:=by rw[v1.1,List.length_take];omega
  have l2:us2.length=k:=by rw[v2.1,List.length_take,List.length_drop];omega
  refine⟨m2,nx2,r2,us1++us2,ho2,g1.trans g2, ?_,λi hi=> ?_⟩
  ·have e:cs.take ((n+1)*k)=cs.take (n*k)++(cs.drop (n*k)).take k:=by
    rw[hnk,List.take_add]
   rw[e]
   exact(v1.mono g2.le).append v2
  ·rcases Nat.lt_or_ge i n with hin|hin
   ·have hik:i*k+k<=n*k:=by
     have:=Nat.mul_le_mul_right k (show i+1<=n by omega)
     rw[Nat.succ_mul]at this
     exact this
    have e:((us1++us2).drop (i*k)).take k=(us1.drop (i*k)).take k:=by
     rw[List.drop_append_of_le_length (by omega),List.take_append_of_le_length (by rw[List.length_drop];omega)]
    rw[e]
    exact mono _ _ _ (λb o l q=>g2.row q) (h1 i hin)
   ·have:i=n:=by omega
    subst this
    have e:((us1++us2).drop (i*k)).take k=us2:=by
     rw[List.drop_left' l1,List.take_of_length_le (by omega)]
    rw[e]
    exact h2
theorem ZA {P:Program}: ∀{l:List Field} {o z:Nat},EP P l o z=true->o<=z
 |[],o,z,h=>Nat.le_of_eq (Nat.eq_of_beq_eq_true h)
 |x::l,o,z,h=>by
  have h':(Nat.beq x.offset o&&EP P l (o+P.cellsOf x.type) z)=true:=h
  rw[Bool.and_eq_true]at h'
  have:=ZA h'.2
  omega
theorem Xu {P:Program}: ∀{l:List Field} {o z:Nat},EP P l o z=true-> ∀x∈l,o<=x.offset
 |[],_,_,_,x,hx=>by cases hx
 |y::l,o,z,h,x,hx=>by
  have h':(Nat.beq y.offset o&&EP P l (o+P.cellsOf y.type) z)=true:=h
  rw[Bool.and_eq_true]at h'
  rcases List.mem_cons.1 hx with rfl|hx
  ·exact Nat.le_of_eq (Nat.eq_of_beq_eq_true h'.1).symm
  ·have:=Xu h'.2 x hx
   omega
theorem GS_ {P:Program}{N:Nat}{w:World}{cs:List Value}{F:Nat}: ∀(l:List Field) (o:Nat),EP P l o cs.length=true->(∀x∈l,Lay w ((cs.drop x.offset).take (P.cellsOf x.type)) λs us=>As P N s F x.type us)->
  Lay w (cs.drop o) λs us=> ∀x∈l,As P N s F x.type ((us.drop (x.offset-o)).take (P.cellsOf x.type))
 |[],o,ht,_=>λm nx r ho=>by
  have:o=cs.length:=Nat.eq_of_beq_eq_true ht
  exact⟨m,nx,r,[],ho, .refl _ _ _,by rw[this,List.drop_length];exact VRs.nil,λx hx=>by cases hx⟩
 |x::l,o,ht,h=>λm nx r ho=>by
  have ht':(Nat.beq x.offset o&&EP P l (o+P.cellsOf x.type) cs.length)=true:=ht
  rw[Bool.and_eq_true]at ht'
  have ho':x.offset=o:=Nat.eq_of_beq_eq_true ht'.1
  have hz:=ZA ht'.2
  have hge:=Xu ht'.2
  obtain⟨m1,nx1,r1,us1,ho1,g1,v1,h1⟩:=h x (by simp) m nx r ho
  obtain⟨m2,nx2,r2,us2,ho2,g2,v2,h2⟩:=GS_ l (o+P.cellsOf x.type) ht'.2 (λy hy=>h y (by simp[hy])) m1 nx1 r1 ho1
  rw[ho']at v1
  have l1:us1.length=P.cellsOf x.type:=by rw[v1.1,List.length_take,List.length_drop];omega
  refine⟨m2,nx2,r2,us1++us2,ho2,g1.trans g2, ?_,λy hy=> ?_⟩
  ·have e:cs.drop o=(cs.drop o).take (P.cellsOf x.type)++cs.drop (o+P.cellsOf x.type):=by
    rw[<-List.drop_drop,List.take_append_drop]
   rw[e]
   exact(v1.mono g2.le).append v2
  ·rcases List.mem_cons.1 hy with rfl|hy
   ·have e:((us1++us2).drop (y.offset-o)).take (P.cellsOf y.type)=us1:=by
     rw[ho',Nat.sub_self,List.drop_zero,List.take_left' l1]
    rw[e]
    exact As.mono (λb o l q=>g2.row q) _ _ _ h1
   ·have hoy:=hge y hy
    have e:(us1++us2).drop (y.offset-o)=us2.drop (y.offset-(o+P.cellsOf x.type)):=by
     rw[List.drop_append,List.drop_of_length_le (by omega),List.nil_append,l1]
     congr 1
     omega
    rw[e]
    exact h2 y hy
theorem Le_ {α β:Type}{f:α->Option β}: ∀{xs:List α} {l:List β},xs.mapM f=some l->l.length=xs.length/\ ∀(i:Nat) (x:α),xs[i]?=some x->f x=l[i]?
 |[],l,h=>by
  have:l=[]:=by simpa using h.symm
  subst this
  exact⟨rfl,λi x e=>by simp at e⟩
 |x::xs,l,h=>by
  rw[List.mapM_cons]at h
  cases hf:f x with
  |none=>rw[hf]at h;cases h
  |some y=>
   rw[hf]at h
   cases hx:xs.mapM f with
   |none=>rw[hx]at h;cases h
   |some ys=>
    rw[hx]at h
    cases h
    obtain⟨h1,h2⟩:=Le_ hx
    refine⟨by simp[h1],λi z e=> ?_⟩
    cases i with
    |zero=>
     have:x=z:=by simpa using e
     subst this
     exact hf
    |succ i=>exact h2 i z (by simpa using e)
theorem Rv {w:World}{base k:Nat}{a:Addr}{l:List Value}(h:w.cells? base a k=some l):l.length=k/\ ∀j,j<k->w.cell? (a.add j)=l[j]?:=by
 unfold World.cells? at h
 split at h
 ·obtain⟨h1,h2⟩:=Le_ h
  rw[List.length_range]at h1
  exact⟨h1,λj hj=>h2 j j (by simp[hj])⟩
 ·cases h
theorem XX_ {w:World}{a:Addr}{v:Value}(h:w.cell? a=some v):a.spot=none/\a.block<w.heap.size:=by
 unfold World.cell? at h
 cases hq:w.heap[a.block]? with
 |none=>simp only[hq]at h;cases h
 |some c=>
  refine⟨?_,(Array.getElem?_eq_some_iff.1 hq).1⟩
  cases hsp:a.spot with
  |none=>rfl
  |some x=>cases c<;>simp[hq,hsp]at h
theorem M9 (b o n:Nat):(⟨b,o,none⟩:Addr).add n=⟨b,o+n,none⟩:=by
 unfold Addr.add
 split
 ·rename_i h;rw[h];rfl
 ·rfl
theorem TG {a:Addr}{n:Nat}(hs:a.spot=none):a.add n=⟨a.block,a.off+n,none⟩:=by
 obtain⟨b,o,s⟩:=a
 cases hs
 exact M9 b o n
mutual
def lensOk {H:Type}(N:Nat):DataW H->Prop
 | .lit (.string l)=>l.length<=N
 | .slice es _=>es.length<=N/\FO N es
 | .agg ps=>FO N ps
 |_=>True
def FO {H:Type}(N:Nat):List (DataW H)->Prop
 |[]=>True
 |d::r=>lensOk N d/\FO N r
end
theorem II {H:Type}{N:Nat}: ∀{l:List (DataW H)},FO N l-> ∀d∈l,lensOk N d
 |[],_,d,hd=>by cases hd
 |x::l,h,d,hd=>by
  rcases List.mem_cons.1 hd with rfl|hd
  ·exact h.1
  ·exact II h.2 d hd
theorem Kl {H:Type}{enc:TypeId×Value->H}{P:Program}{N:Nat}{w:World}{b0:Nat}{sp:Nat->Bool}{held:Bool}: ∀(F f:Nat) (t:TypeId) (cs:List Value) (y:DataW H×List MemPlace),DH P F t=true->(maxLen<=N\/lensOk N y.1)->DataW.trod enc P w b0 sp held f t cs=some y->Lay w cs λs us=>As P N s F t us
 |0,_,_,_,_,hf,_,_=>by cases hf
 |F+1,f,t,cs,y,hf,hN,h=>by
  unfold DH at hf
  cases hu:P.underlying t with
  |none=>rw[hu]at hf;cases hf
  |some u=>
   rw[hu]at hf
   cases u<;>try (cases hf;done)
   case bool=>
    obtain⟨b,rfl,_⟩:=DataW.trod_bool hu h
    refine Lay.plain (λv hv=>by rw[List.mem_singleton.1 hv];rfl) λs=> ?_
    unfold As
    rw[hu]
    exact⟨b,rfl⟩
   case int k=>
    obtain⟨n,rfl,_,hw⟩:=DataW.trod_int hu h
    refine Lay.plain (λv hv=>by rw[List.mem_singleton.1 hv];rfl) λs=> ?_
    unfold As
    rw[hu]
    exact⟨n,rfl,hw⟩
   case string=>
    obtain⟨x,rfl,rfl,hs⟩:=DataW.trod_string hu h
    refine Lay.plain (λv hv=>by rw[List.mem_singleton.1 hv];rfl) λs=> ?_
    unfold As
    rw[hu]
    exact⟨x,rfl,hs,by
     rcases hN with hN|hN
     ·omega
     ·have:x.data.toList.length<=N:=hN
      simpa using this⟩
   case struct fs=>
    rw[Bool.and_eq_true]at hf
    obtain⟨xs,n,_,rfl,hl,_,hx⟩:=DataW.trod_struct hu h
    have hall: ∀x∈fs.toList,Lay w ((cs.drop x.offset).take (P.cellsOf x.type)) λs us=>As P N s F x.type us:=λx hxm=>by
     obtain⟨i,hi⟩:=List.getElem?_of_mem hxm
     have hi':fs[i]?=some x:=by rw[<-Array.getElem?_toList];exact hi
     have hd:=hx i x hi'
     have hfl:DH P F x.type=true:=List.all_eq_true.1 hf.2 x hxm
     cases hz:DataW.trod enc P w b0 sp held n x.type ((cs.drop x.offset).take (P.cellsOf x.type))with
     |none=>
      rw[hz]at hd
      have h1:=(Array.getElem?_eq_some_iff.1 hi').1
      have h2:=List.getElem?_eq_none_iff.1 hd.symm
      omega
     |some z=>
      rw[hz]at hd
      exact Kl F n _ _ z hfl (hN.imp id λq=>II q _ (List.mem_map.2 ⟨z,List.mem_of_getElem? hd.symm,rfl⟩)) hz
    intro m nx r ho
    obtain⟨m',nx',r',us,k1,k2,k3,k4⟩:=GS_ (F:=F) fs.toList 0 (by rw[hl];exact hf.1) hall m nx r ho
    rw[List.drop_zero]at k3
    refine⟨m',nx',r',us,k1,k2,k3, ?_⟩
    unfold As
    rw[hu]
    exact⟨by rw[k3.1,hl],λx hx=>by have:=k4 x hx;rwa [Nat.sub_zero]at this⟩
   case array n e=>
    rw[Bool.and_eq_true]at hf
    have hsz:n*P.cellsOf e=P.cellsOf t:=Nat.eq_of_beq_eq_true hf.1
    obtain⟨xs,m1,_,rfl,hl,hxl,hx⟩:=DataW.trod_array hu h
    intro m nx r ho
    obtain⟨m',nx',r',us,k1,k2,k3,k4⟩:=M7 (w:=w) (cs:=cs) (k:=P.cellsOf e) (H:=λs us=>As P N s F e us) (λs s' us hr hh=>As.mono hr _ _ _ hh) n (by rw[hsz,hl];exact Nat.le_refl _) (λi hi=>by
     have hd:=hx i hi
     cases hz:DataW.trod enc P w b0 sp held m1 e ((cs.drop (i*P.cellsOf e)).take (P.cellsOf e))with
     |none=>
      rw[hz]at hd
      have h2:=List.getElem?_eq_none_iff.1 hd.symm
      omega
     |some z=>
      rw[hz]at hd
      exact Kl F m1 _ _ z hf.2 (hN.imp id λq=>II q _ (List.mem_map.2 ⟨z,List.mem_of_getElem? hd.symm,rfl⟩)) hz) m nx r ho
    rw[hsz,<-hl,List.take_length]at k3
    refine⟨m',nx',r',us,k1,k2,k3, ?_⟩
    unfold As
    rw[hu]
    exact⟨by rw[k3.1,hl],k4⟩
   case slice e=>
    rw[Bool.and_eq_true]at hf
    have hk:0<P.cellsOf e:=Bo hf.1
    rcases DataW.trod_slice hu h with⟨rfl,_⟩|⟨a,len,cap,elems,rest,n,_,rfl,rfl,_,hlc,hcm,hel,hx,_,_⟩
    ·refine λm nx r ho=>⟨m,nx,r,[.slice none 0 0],ho, .refl _ _ _, .cons .slNil .nil, ?_⟩
     unfold As
     rw[hu]
     exact .inl rfl
    ·by_cases h0:len=0
     ·subst h0
      refine λm nx r ho=>⟨m,nx,r,[.slice (some ⟨0,0,none⟩) 0 (capU*P.cellsOf e)],ho, .refl _ _ _, .cons (.slEnd (by rw[Nat.mul_div_cancel_left _ (by unfold capU;decide)];omega) (Nat.mul_mod_right _ _)) .nil, ?_⟩
      unfold As
      rw[hu]
      exact .inr (.inl rfl)
     ·have hlN:len<=N:=by
       rcases hN with hN|hN
       ·omega
       ·have:=hN.1
        rw[List.length_map,hel]at this
        exact this
      have cells: ∀i,i<len-> ∃l z,w.cells? b0 (a.add (i*P.cellsOf e)) (P.cellsOf e)=some l/\DataW.trod enc P w b0 sp held n e l=some z/\z∈elems:=λi hi=>by
       have:=hx i hi
       rw[List.getElem?_eq_getElem (by omega),Option.bind_eq_some_iff]at this
       obtain⟨l,h1,h2⟩:=this
       exact⟨l,_,h1,h2,List.getElem_mem _⟩
      have hspot:a.spot=none/\a.block<w.heap.size:=by
       obtain⟨l,z,h1,_⟩:=cells 0 (by omega)
       obtain⟨q1,q2⟩:=Rv h1
       have:=q2 0 hk
       rw[List.getElem?_eq_getElem (by omega)]at this
       rw[Nat.zero_mul]at this
       exact XX_ this
      have each: ∀j,∃v:Value,j<len*P.cellsOf e->w.cell? ⟨a.block,a.off+j,none⟩=some v:=λj=>by
       by_cases hj:j<len*P.cellsOf e
       ·have hi:j/P.cellsOf e<len:=by rw[Nat.div_lt_iff_lt_mul hk];exact hj
        obtain⟨l,z,h1,_⟩:=cells _ hi
        obtain⟨q1,q2⟩:=Rv h1
        have hm:j%P.cellsOf e<P.cellsOf e:=Nat.mod_lt _ hk
        have:=q2 _ hm
        rw[List.getElem?_eq_getElem (by omega),TG hspot.1,M9]at this
        refine⟨l[j%P.cellsOf e]'(by omega),λ_=> ?_⟩
        rw[<-this]
        have hdm:=Nat.div_add_mod j (P.cellsOf e)
        rw[Nat.mul_comm]at hdm
        congr 2
        omega
       ·exact⟨undef,λh=>absurd h hj⟩
      obtain⟨g,hg⟩:=Classical.axiomOfChoice each
      obtain⟨cs,hcs⟩: ∃cs:List Value,cs=(List.range (len*P.cellsOf e)).map g:=⟨_,rfl⟩
      have hcl:cs.length=len*P.cellsOf e:=by rw[hcs];simp
      have hcg: ∀j v,cs[j]?=some v->w.cell? ⟨a.block,a.off+j,none⟩=some v:=λj v e=>by
       rw[hcs,List.getElem?_map,Option.map_eq_some_iff]at e
       obtain⟨j',e1,e2⟩:=e
       have hj:=(List.getElem?_eq_some_iff.1 e1).1
       rw[List.length_range]at hj
       rw[List.getElem?_range hj]at e1
       cases e1
       rw[<-e2]
       exact hg _ hj
      intro m nx r ho
      obtain⟨m',nx',r',us,k1,k2,k3,k4⟩:=M7 (w:=w) (cs:=cs) (k:=P.cellsOf e) (H:=λs us=>As P N s F e us) (λs s' us hr hh=>As.mono hr _ _ _ hh) len (by omega) (λi hi=>by
       obtain⟨l,z,h1,h2,h3⟩:=cells i hi
       obtain⟨q1,q2⟩:=Rv h1
       have el:(cs.drop (i*P.cellsOf e)).take (P.cellsOf e)=l:=by
        apply List.ext_getElem?
        intro j
        by_cases hj:j<P.cellsOf e
        ·have hjj:i*P.cellsOf e+j<cs.length:=by
          have:=Nat.mul_le_mul_right (P.cellsOf e) (show i+1<=len by omega)
          rw[Nat.succ_mul]at this
          omega
         rw[List.getElem?_take,if_pos hj,List.getElem?_drop,List.getElem?_eq_getElem hjj,<-q2 j hj,TG hspot.1,M9]
         have:=hcg _ _ (List.getElem?_eq_getElem hjj)
         rw[<-Nat.add_assoc]at this
         exact this.symm
        ·rw[List.getElem?_take,if_neg hj,List.getElem?_eq_none (by omega)]
       rw[el]
       exact Kl F n _ _ z hf.2 (hN.imp id λq=>II q.2 _ (List.mem_map.2 ⟨z,h3,rfl⟩)) h2) m nx r ho
      rw[<-hcl,List.take_length]at k3
      have hul:us.length=len*P.cellsOf e:=by rw[k3.1,hcl]
      have hpos:0<us.length:=by rw[hul];exact Nat.mul_pos (by omega) hk
      obtain⟨r2,hr2⟩: ∃r2:Inj,r2=⟨λb=>if b=nx' then some (a.block,a.off)else r'.blk b,r'.ext,r'.known⟩:=⟨_,rfl⟩
      have hb2: ∀b,r2.blk b=if b=nx' then some (a.block,a.off)else r'.blk b:=λb=>by rw[hr2]
      have hle:r'.le r2:=⟨λb x e=>by
       rw[hb2,if_neg]
       ·exact e
       ·intro hb
        have:=(k1.hd b x.1 x.2 e).1
        omega,λt x e=>by rw[hr2];exact e,by rw[hr2]⟩
      have hget: ∀j,T.get (layT nx' us nx' m') j=if nx'<=j/\j<nx'+us.length then(us[j-nx']?).map (λv=> .O (.old nx' v))else T.get m' j:=λj=>YP _ _ _ _ _
      have hgrow:Grow m' nx' r' (layT nx' us nx' m') (nx'+us.length+1) r2:=⟨hle,by omega,λl hl=>by rw[hget,if_neg (by omega)]⟩
      refine⟨layT nx' us nx' m',nx'+us.length+1,r2,[.slice (some ⟨nx',0,none⟩) len cap],⟨λloc c e=> ?_,λb b' d e=> ?_,λb=>by rw[hr2];exact k1.hx b,by rw[hr2];exact k1.hk⟩,k2.trans hgrow, ?_, ?_⟩
      ·rw[hget]at e
       split at e
       ·rename_i hin
        rw[Option.map_eq_some_iff]at e
        obtain⟨v,e1,rfl⟩:=e
        obtain⟨v',e2,e3⟩:=k3.get e1
        refine⟨by omega,nx',v,rfl,a.block,a.off,v',hin.1,by rw[hb2,if_pos rfl], ?_,e3.mono hle⟩
        have:=hcg _ _ e2
        rwa [Nat.add_comm a.off]at this
       ·obtain⟨h1,b,v,rfl,b',d,v',h2,h3,h4,h5⟩:=k1.ho loc c e
        exact⟨by omega,b,v,rfl,b',d,v',h2,hle.1 _ _ h3,h4,h5.mono hle⟩
      ·rw[hb2]at e
       split at e
       ·rename_i hb
        cases e
        exact⟨by omega,hspot.2⟩
       ·have:=k1.hd b b' d e
        exact⟨by omega,this.2⟩
      ·refine .cons ?_ .nil
       have hcu:cap<capU:=by
        have:cap<=9223372036854775807:=hcm
        unfold capU
        omega
       have:=VR.sl (r:=r2) (b:=nx') (o:=0) (b':=a.block) (d:=a.off) (l:=len) (c:=cap) (c':=cap) (by rw[hb2,if_pos rfl]) (.inl ⟨Nat.div_eq_of_lt hcu,rfl⟩) (by rw[Nat.mod_eq_of_lt hcu];exact hlc)
       rw[Nat.zero_add]at this
       obtain⟨b,o,s⟩:=a
       have hs:s=none:=hspot.1
       subst hs
       exact this
      ·unfold As
       rw[hu]
       refine .inr (.inr ⟨nx',len,cap,rfl,by omega,hlc,hcm,hlN,λi hi=>⟨(us.drop (i*P.cellsOf e)).take (P.cellsOf e), ?_,λj v ej=> ?_,As.mono (λb o l q=>hgrow.row q) _ _ _ (k4 i hi)⟩⟩)
       ·have:=Nat.mul_le_mul_right (P.cellsOf e) (show i+1<=len by omega)
        rw[Nat.succ_mul]at this
        rw[List.length_take,List.length_drop]
        omega
       ·have hj:=(List.getElem?_eq_some_iff.1 ej).1
        rw[List.length_take]at hj
        rw[List.getElem?_take,if_pos (by omega),List.getElem?_drop]at ej
        have hjl:=(List.getElem?_eq_some_iff.1 ej).1
        refine⟨?_, .inr ?_⟩
        ·show nx'+(i*P.cellsOf e+j)<nx'+us.length+1
         omega
        ·show T.get (layT nx' us nx' m') (nx'+(i*P.cellsOf e+j))=_
         rw[hget,if_pos (by omega),Nat.add_sub_cancel_left,ej]
         rfl
def aggT (P:Program)(t:TypeId):Bool:=match P.underlying t with
 |some (.struct _)|some (.array _ _)=>true
 |_=>false
def GI (P:Program)(N:Nat)(s:St)(F:Nat)(t:TypeId)(u:Value):Prop:= ∃us,As P N s F t us/\((aggT P t=true/\u= .agg us.toArray)\/(aggT P t=false/\us=[u]))
theorem VJ_ {P:Program}{w:World}{rc:Reach}{base F:Nat}{t:TypeId}{v:Value}(hf:DH P F t=true)(h:Value.okWide P w rc base t v):(aggT P t=true/\v= .agg v.cells)\/(aggT P t=false/\v.cells= #[v]):=by
 cases F with
 |zero=>cases hf
 |succ F=>
  unfold DH at hf
  unfold aggT
  cases hu:P.underlying t with
  |none=>rw[hu]at hf;cases hf
  |some u=>
   rw[hu]at hf
   unfold Value.okWide at h
   rw[hu]at h
   cases u<;>try (cases hf;done)
   case struct fs=>
    obtain⟨cs,rfl,_⟩:=h
    exact .inl ⟨rfl,rfl⟩
   case array n e=>
    obtain⟨cs,rfl,_⟩:=h
    exact .inl ⟨rfl,rfl⟩
   all_goals
    refine .inr ⟨rfl, ?_⟩
    simp only at h
    unfold Cell.okWide Cell.ok at h
    rw[hu]at h
    cases v<;>first|rfl|(simp at h)
theorem No_ {H:Type}{enc:TypeId×Value->H}{P:Program}{w:World}{b0 base F N:Nat}{sp:Nat->Bool}{held:Bool}: ∀(ts:List TypeId) (vs:List Value) (ds:List (DataW H)) (ps:List MemPlace),DataW.TrodAll enc P w b0 sp held ts vs ds ps->(∀(j:Nat) t v,ts[j]?=some t->vs[j]?=some v->Value.okWide P w .any base t v)->ts.all (DH P F)=true->(maxLen<=N\/ ∀d∈ds,lensOk N d)->
  ∀m nx r,OldSt w m nx r-> ∃m' nx' r' us,OldSt w m' nx' r'/\Grow m nx r m' nx' r'/\VRs r' us vs/\us.length=ts.length/\ ∀(j:Nat) t u,ts[j]?=some t->us[j]?=some u->GI P N (stO m' nx') F t u
 |[],[],_,_,_,_,_,_=>λm nx r ho=>⟨m,nx,r,[],ho, .refl _ _ _, .nil,rfl,λj t u e=>by simp at e⟩
 |[],_::_,ds,_,h,_,_,_=>by cases ds<;>exact h.elim
 |_::_,[],ds,_,h,_,_,_=>by cases ds<;>exact h.elim
 |t::ts,v::vs,[],_,h,_,_,_=>h.elim
 |t::ts,v::vs,d::ds,_,⟨p,q,⟨fuel,h1⟩,h2,_⟩,hv,hf,hN=>λm nx r ho=>by
  rw[List.all_cons,Bool.and_eq_true]at hf
  obtain⟨m1,nx1,r1,us,o1,g1,v1,k1⟩:=Kl (N:=N) F fuel t _ _ hf.1 (hN.imp id λz=>z d (by simp)) h1 m nx r ho
  obtain⟨m2,nx2,r2,us2,o2,g2,v2,l2,k2⟩:=No_ ts vs ds q h2 (λj t v e1 e2=>hv (j+1) t v e1 e2) hf.2 (hN.imp id λz d' hd=>z d' (by simp[hd])) m1 nx1 r1 o1
  have k1':=As.mono (λb o l z=>g2.row z) _ _ _ k1
  rcases VJ_ hf.1 (hv 0 t v rfl rfl)with⟨ha,hc⟩|⟨ha,hc⟩
  ·refine⟨m2,nx2,r2, .agg us.toArray::us2,o2,g1.trans g2, .cons ?_ v2,by simp[l2],λj t' u e1 e2=> ?_⟩
   ·rw[hc]
    have:=(v1.mono g2.le).agg
    simpa using this
   ·cases j with
    |zero=>
     cases e1
     cases e2
     exact⟨us,k1', .inl ⟨ha,rfl⟩⟩
    |succ j=>exact k2 j t' u e1 e2
  ·rw[hc]at v1
   have hl:us.length=1:=v1.1
   obtain⟨u0,rfl⟩: ∃u0,us=[u0]:=by
    match us,hl with
    |[x],_=>exact⟨x,rfl⟩
   obtain⟨v',l',e0,e1,_⟩:=v1.inv
   have hv':v=v':=by
    have:[v]=v'::l':=e0
    cases this
    rfl
   subst hv'
   refine⟨m2,nx2,r2,u0::us2,o2,g1.trans g2, .cons (e1.mono g2.le) v2,by simp[l2],λj t' u e1 e2=> ?_⟩
   cases j with
   |zero=>
    cases e1
    cases e2
    exact⟨[u0],k1', .inr ⟨ha,rfl⟩⟩
   |succ j=>exact k2 j t' u e1 e2
theorem OU_ {H:Type}{enc:TypeId×Value->H}{E:Env}(he:EnvOK E){fuel f F N base:Nat}{args:Array Value}{v:Value}{ts:List TypeId}{sp:Nat->Bool}{held:Bool}{ds:List (DataW H)}{ps:List MemPlace}{w:World}(ho:E.orc.get f=none)(hx:E.ext.get f=none)(hp:plain v=true)
  (hA:DataW.TrodAll enc E.P w 0 sp held ts args.toList ds ps) (hv: ∀(j:Nat) t v,ts[j]?=some t->args.toList[j]?=some v->Value.okWide E.P w .any base t v) (hf:ts.all (DH E.P F)=true) (hN:maxLen<=N\/ ∀d∈ds,lensOk N d)
  (run: ∀m nx us,us.length=ts.length->(∀(j:Nat) t u,ts[j]?=some t->us[j]?=some u->GI E.P N (stO m nx) F t u)->W (Ab E (runF E fuel) f us) (stO m nx) λu _=>u=v):
  Calls E.P f args w λe w'=>e= .returned v/\Below w.heap.size w w':=by
 have h0:OldSt w .E 0 ⟨λ_=>none,λ_=>none, .no⟩:=⟨λloc c e=>(by cases e),λb b' d e=>(by cases e),λ_=>rfl,rfl⟩
 obtain⟨m,nx,r,us,o1,_,v1,l1,k1⟩:=No_ ts args.toList ds ps hA hv hf hN .E 0 _ h0
 refine Abf_ (r:=r) (s0:=stO m nx) he ho hx (run m nx us l1 k1) hp v1 (Rel.ofOld (by rw[o1.hk];exact Know.no_sure w) (λb b' d e=>(o1.hd b b' d e).2) λloc c e=>(o1.ho loc c e).2) (Nat.zero_le _) λb hb=>⟨?_,o1.hx b⟩
 cases hq:r.blk b with
 |none=>rfl
 |some x=>
  have:=(o1.hd b x.1 x.2 hq).1
  have hb':nx<=b:=hb
  omega
theorem GG {α:Type}{n:Nat}{p:Nat->α->Prop}(h: ∀i,i<n-> ∃x,p i x): ∃l:List α,l.length=n/\ ∀i x,l[i]?=some x->p i x:=by
 induction n with
 |zero=>exact⟨[],rfl,λi x e=>by simp at e⟩
 |succ n ih=>
  obtain⟨l,h1,h2⟩:=ih λi hi=>h i (by omega)
  obtain⟨x,hx⟩:=h n (by omega)
  refine⟨l++[x],by simp[h1],λi y e=> ?_⟩
  rcases Nat.lt_or_ge i n with hi|hi
  ·rw[List.getElem?_append_left (by omega)]at e
   exact h2 i y e
  ·rw[List.getElem?_append_right (by omega),h1]at e
   have:i=n:=by
    have:=(List.getElem?_eq_some_iff.1 e).1
    simp at this
    omega
   subst this
   rw[Nat.sub_self]at e
   cases e
   exact hx
theorem WX_ {k:Nat}(hk:k<1024):B4 (capU*k) k=true:=by
 unfold B4
 have hd:Nat.div (capU*k) capU=k:=Nat.mul_div_cancel_left k (by unfold capU;decide)
 have hm:Nat.mod k 1024=k:=Nat.mod_eq_of_lt hk
 rw[hd,hm,Nat.beq_refl]
 cases Nat.beq k 0<;>rfl
section
variable {P:Program}{s:St}{F N:Nat}{t e:TypeId}{us:List Value}
def ElS (s:St)(k:Nat)(v:Value)(es:List (List Value)):Prop:=(v= .slice none 0 0/\es=[])\/ ∃b c,v= .slice (some ⟨b,0,none⟩) es.length c/\es.length<=c%capU/\B4 c k=true/\ ∀i x,es[i]?=some x->Row s b (i*k) x
theorem As.slice (ht:P.underlying t=some (.slice e))(hk:P.cellsOf e<1024)(h:As P N s (F+1) t us): ∃v es,us=[v]/\ElS s (P.cellsOf e) v es/\es.length<=9223372036854775807/\es.length<=N/\ ∀x∈es,x.length=P.cellsOf e/\As P N s F e x:=by
 unfold As at h
 rw[ht]at h
 rcases h with rfl|rfl|⟨b,n,c,rfl,h1,h2,h3,h5,h4⟩
 ·exact⟨_,[],rfl, .inl ⟨rfl,rfl⟩,by simp,by simp,λx hx=>by cases hx⟩
 ·exact⟨_,[],rfl, .inr ⟨0,_,rfl,Nat.zero_le _,WX_ hk,λi x e=>by simp at e⟩,by simp,by simp,λx hx=>by cases hx⟩
 ·obtain⟨l,l1,l2⟩:=GG h4
  have h3':c<=9223372036854775807:=h3
  have hcu:c<capU:=by unfold capU;omega
  refine⟨_,l,rfl, .inr ⟨b,c,by rw[l1],by rw[l1,Nat.mod_eq_of_lt hcu];exact h2,D4 hcu,λi x e=>(l2 i x e).2.1⟩,by omega,by omega,λx hx=> ?_⟩
  obtain⟨i,hi⟩:=List.getElem?_of_mem hx
  exact⟨(l2 i x hi).1,(l2 i x hi).2.2⟩
end
section
variable {s s':St}{E:Env}{t t2:Nat}
def MkS (s:St)(sz n:Nat)(l:List Value)(v:Value)(b:Nat):Prop:=(v= .slice none 0 0/\n=0/\l=[])\/(Marked s sz n l v b/\0<n)
def MkF (sz n b:Nat)(x:Nat):Prop:=0<n/\In b 0 (n*sz+1) x
theorem MkS.ext {F G:Nat->Prop}{sz n:Nat}{l:List Value}{v:Value}{b:Nat}(h:MkS s sz n l v b)(e:Ext F G s s')(hG: ∀x,MkF sz n b x-> ¬G x):MkS s' sz n l v b:=by
 rcases h with h|⟨h,h0⟩
 ·exact .inl h
 ·exact .inr ⟨h.ext e λx hx=>hG x ⟨h0,hx⟩,h0⟩
theorem MkS.ext0 {F:Nat->Prop}{sz n:Nat}{l:List Value}{v:Value}{b:Nat}(h:MkS s sz n l v b)(e:Ext F Non s s'):MkS s' sz n l v b:=h.ext e λ_ _=>id
theorem MkS.same {sz n:Nat}{l:List Value}{v:Value}{b:Nat}(h:MkS s sz n l v b)(hm:s'.mem=s.mem)(hn:s'.next=s.next):MkS s' sz n l v b:=by
 rcases h with h|⟨h,h0⟩
 ·exact .inl h
 ·exact .inr ⟨h.same hm hn,h0⟩
theorem MkS.lt {sz n:Nat}{l:List Value}{v:Value}{b:Nat}(h:MkS s sz n l v b): ∀x,MkF sz n b x->x<s.next:=by
 intro x hx
 rcases h with⟨_,h0,_⟩|⟨h,_⟩
 ·have:=hx.1;omega
 ·have h1:=h.lt
  have h2:x<b+0+(n*sz+1):=hx.2.2
  omega
theorem MkS.sl {sz n:Nat}{l:List Value}{v:Value}{b:Nat}(h:MkS s sz n l v b): ∃p c,v= .slice p n c:=by
 rcases h with⟨rfl,rfl,_⟩|⟨h,_⟩
 ·exact⟨_,_,rfl⟩
 ·exact⟨_,_,h.val⟩
theorem MkS.len {sz n:Nat}{l:List Value}{v:Value}{b:Nat}(h:MkS s sz n l v b){z:Nat}(ht:slN E t=some z)(Q:Value->St->Prop):W (AS E .len [t] [v]) s' Q=Q (.int .i64 (n:Nat)) s':=by
 obtain⟨p,c,rfl⟩:=h.sl
 exact AP ht Q
theorem W.appU (hbd:s.lim<=s.next){sz by' n len b:Nat}{z l old:List Value}{v x:Value}{F:Nat->Prop}{Q:Value->St->Prop}{g:Bool}(ht:appT E t t2=some (sz,by',g,z))(hm:MkS s sz len old v b)(hx:SrcG s sz by' g z x n l F)(hn:0<n)(hs0:0<sz)(hs1:sz<1024)
  (hb:(len+n)*(by'+1)<=16777216) (hl:l.length=n*sz) (h1:l.all oneCell=true)
  (q: ∀s2 v2 b2,s.next<=b2->MkS s2 sz (len+n) (old++l) v2 b2->Ext (λx=>F x\/MkF sz len b x) (MkF sz len b) s s2->Q v2 s2):W (CB E t t2 v x) s Q:=by
 rcases hm with⟨rfl,rfl,rfl⟩|⟨hm,h0⟩
 ·rw[Nat.zero_add]at hb
  refine W.appNil hbd ht hx hn hs0 hs1 hb hl h1 λs2 v2 b2 hf xf=> ?_
  refine q s2 v2 b2 hf.new (.inr ⟨?_,by omega⟩) (xf.weak hbd (λ_ _ h=> .inl h) λ_ _ h=>h.elim)
  rw[Nat.zero_add]
  exact hf.marked
 ·refine W.appMark hbd ht hm hx hn h0 hs0 hs1 hb hl h1 λs2 v2 b2 hf xf=> ?_
  exact q s2 v2 b2 hf.new (.inr ⟨hf.marked,by omega⟩) (xf.weak hbd (λ_ _ h=>h.elim .inl λh=> .inr ⟨h0,h⟩) λ_ _ h=>⟨h0,h⟩)
end
section
variable {s s':St}{E:Env}{t t2:Nat}{xo yo:Operand}
theorem UL_ (m n:Nat)(hn:1<=n):Cl.get (aBin E .rem t xo yo) (.int .u32 (m:Nat)) (.int .u32 (n:Nat)) s= .some (.int .u32 (m%n:Nat)) s:=by
 show int3 remK (AD E .rem t xo yo) (.int .u32 (.ofNat m)) (.int .u32 (.ofNat n)) s=_
 show Option.rec (motive:=λ_=>R Value) _ (λv=> .some v s) (remK .u32 .u32 m n)=_
 have:remK .u32 .u32 m n=some (.int .u32 (m%n:Nat)):=by
  unfold remK BN sOpt
  rw[Nat.beq_refl,Nat.ble_eq_true_of_le hn]
  show mkI .u32 (Nat.mod m n)=_
  unfold mkI
  rw[Aj]
  rfl
 rw[this]
theorem Al_ {m:Nat}(Q:Value->St->Prop):W (Cl.get (aBin E .rem t xo yo) (.int .u32 (m:Nat)) (.int .u32 2)) s Q=Q (.int .u32 (m%2:Nat)) s:=AC (UL_ m 2 (by decide))
def EmS (s:St)(sz n:Nat)(l:List Value)(v:Value)(b:Nat):Prop:=(v= .slice (some ⟨b,0,none⟩) 0 0/\n=0/\l=[])\/(Marked s sz n l v b/\0<n)
theorem EmS.same {sz n:Nat}{l:List Value}{v:Value}{b:Nat}(h:EmS s sz n l v b)(hm:s'.mem=s.mem)(hn:s'.next=s.next):EmS s' sz n l v b:=by
 rcases h with h|⟨h,h0⟩
 ·exact .inl h
 ·exact .inr ⟨h.same hm hn,h0⟩
theorem EmS.row {sz n:Nat}{l:List Value}{v:Value}{b:Nat}(h:EmS s sz n l v b): ∃c,v= .slice (some ⟨b,0,none⟩) n c/\Row s b 0 l:=by
 rcases h with⟨rfl,rfl,rfl⟩|⟨h,_⟩
 ·exact⟨_,rfl,λi u e=>by simp at e⟩
 ·exact⟨_,h.val,h.own.row⟩
theorem W.appE (hbd:s.lim<=s.next){sz by' n len b:Nat}{z l old:List Value}{v x:Value}{F:Nat->Prop}{Q:Value->St->Prop}{g:Bool}(ht:appT E t t2=some (sz,by',g,z))(hm:EmS s sz len old v b)(hx:SrcG s sz by' g z x n l F)(hs0:0<sz)(hs1:sz<1024)
  (hb:(len+n)*(by'+1)<=16777216) (hl:l.length=n*sz) (h1:l.all oneCell=true)
  (q: ∀s2 v2 b2,(b2=b\/s.next<=b2)->EmS s2 sz (len+n) (old++l) v2 b2->Ext (λx=>F x\/MkF sz len b x) (MkF sz len b) s s2->Q v2 s2):W (CB E t t2 v x) s Q:=by
 by_cases hn:n=0
 ·subst hn
  have hl0:l=[]:=List.eq_nil_of_length_eq_zero (by rw[hl,Nat.zero_mul])
  subst hl0
  have hno: ∀(o:Nat) x,In b o (0*sz) x->False:=λo x h=>by
   have h1:=h.1
   have h2:=h.2
   rw[Nat.zero_mul]at h2
   omega
  have hle: ∀c,v= .slice (some ⟨b,0,none⟩) len c->len<=c%capU:=λc hc=>by
   rcases hm with⟨e,rfl,_⟩|⟨hm,_⟩
   ·exact Nat.zero_le _
   ·have e:=hm.val
    rw[e]at hc
    have h2:len<capU:=by
     have:len*1<=(len+0)*(by'+1):=Nat.mul_le_mul (by omega) (by omega)
     unfold capU
     omega
    injection hc with _ _ hc
    rw[<-hc,Nat.mul_add_mod,Nat.mod_eq_of_lt h2]
    exact Nat.le_refl _
  obtain⟨c,rfl,_⟩:=hm.row
  refine W.appIn ht hx (by have:=hle c rfl;omega) hl h1 (λi hi=>by rw[Nat.zero_mul]at hi;omega) λs2 n2 x2 _=> ?_
  have x3:Ext (λx=>F x\/MkF sz len b x) (MkF sz len b) s s2:=x2.weak hbd (λy _ h=>h.elim .inl λh=>(hno _ y h).elim) λy _ h=>(hno _ y h).elim
  refine q s2 _ b (.inl rfl) ?_ x3
  rw[List.append_nil,Nat.add_zero]
  have x4:Ext (λx=>F x\/MkF sz len b x) Non s s2:=x2.weak hbd (λy _ h=>h.elim .inl λh=>(hno _ y h).elim) λy _ h=>hno _ y h
  rcases hm with hm|⟨hm,h0⟩
  ·exact .inl hm
  ·exact .inr ⟨hm.ext x4 λ_ _=>id,h0⟩
 ·have hn0:0<n:=by omega
  rcases hm with⟨rfl,rfl,rfl⟩|⟨hm,h0⟩
  ·rw[Nat.zero_add]at hb
   refine W.appEmp hbd ht hx hn0 hs0 hs1 hb hl h1 λs2 v2 b2 hf xf=> ?_
   refine q s2 v2 b2 (.inr hf.new) (.inr ⟨?_,by omega⟩) (xf.weak hbd (λ_ _ h=> .inl h) λ_ _ h=>h.elim)
   rw[Nat.zero_add]
   exact hf.marked
  ·refine W.appMark hbd ht hm hx hn0 h0 hs0 hs1 hb hl h1 λs2 v2 b2 hf xf=> ?_
   exact q s2 v2 b2 (.inr hf.new) (.inr ⟨hf.marked,by omega⟩) (xf.weak hbd (λ_ _ h=>h.elim .inl λh=> .inr ⟨h0,h⟩) λ_ _ h=>⟨h0,h⟩)
end
theorem C2 (l:List Value):cellsOf (.agg l.toArray)=l:=rfl
abbrev Any:Nat->Prop:=λ_=>True
theorem Ext.any {F G:Nat->Prop}{s s1:St}(h:Ext F G s s1)(hb:s.lim<=s.next):Ext Any G s s1:=h.weak hb (λ_ _ _=>trivial) λ_ _ h=>h
theorem Ext.then0 {F:Nat->Prop}{s s1 s2:St}(h:Ext Any Non s s1)(k:Ext F Non s1 s2)(hb:s.lim<=s.next):Ext Any Non s s2:=h.trans k hb (λ_ _ _=>trivial) λ_ _ h=>h
theorem Ext.thenRd {s s1:St}(h:Ext Any Non s s1)(hb:s.lim<=s.next)(l:Nat):Ext Any Non s (s1.rdN l):=h.then0 (Ext.rdN (F:=Any) s1 l λ_=>trivial) hb
theorem Ext.thenW {F:Nat->Prop}{s s1 s2:St}{b o n:Nat}(h:Ext Any Non s s1)(k:Ext F (In b o n) s1 s2)(hb:s.lim<=s.next)(hn:s.next<=b):Ext Any Non s s2:=h.trans k hb (λ_ _ _=>trivial) λy hy hq=>by
 have h1:=hq.1
 have h2:y<s.next:=hy
 omega
theorem Ext.cx' {F G:Nat->Prop}{s s1:St}{c:Ctx}(x:Ext F G (s.cxN c) s1):Ext F G s (s1.cxN s.cx):=⟨x.nxt,x.lim,rfl,x.mem,x.rd,x.wr⟩
section
variable {E:Env}{t:Nat}{s:St}{xo yo:Operand}
end
def IM (P:Program)(t:TypeId)(l:List (TypeId×Nat)):Bool:=match P.underlying t with
 |some (.struct fs)=>decide (fs.toList.map (λx=>(x.type,x.offset))=l)
 |_=>false
theorem As.struct {P:Program}{N F:Nat}{s:St}{t:TypeId}{us:List Value}{l:List (TypeId×Nat)}(hb:IM P t l=true)(h:As P N s (F+1) t us):us.length=P.cellsOf t/\ ∀x∈l,As P N s F x.1 ((us.drop x.2).take (P.cellsOf x.1)):=by
 unfold IM at hb
 unfold As at h
 cases hu:P.underlying t with
 |none=>rw[hu]at hb;cases hb
 |some u=>
  rw[hu]at hb h
  cases u<;>try (cases hb;done)
  have e:=of_decide_eq_true hb
  refine⟨h.1,λx hx=> ?_⟩
  rw[<-e]at hx
  obtain⟨y,hy,rfl⟩:=List.mem_map.1 hx
  exact h.2 y hy
theorem As.int' {P:Program}{N F:Nat}{s:St}{t:TypeId}{k:IntKind}{us:List Value}(hu:P.underlying t=some (.int k))(h:As P N s (F+1) t us): ∃n,us=[.int k n]/\(Lit.int k n).wf=true:=by
 unfold As at h
 rw[hu]at h
 exact h
theorem GI.one {P:Program}{N F:Nat}{s:St}{t:TypeId}{u:Value}(hb:aggT P t=false)(h:GI P N s F t u):As P N s F t [u]:=by
 obtain⟨us,h1,⟨h2,_⟩|⟨_,rfl⟩⟩:=h
 ·rw[hb]at h2;cases h2
 ·exact h1
theorem GI.agg {P:Program}{N F:Nat}{s:St}{t:TypeId}{u:Value}(hb:aggT P t=true)(h:GI P N s F t u): ∃us,u= .agg us.toArray/\As P N s F t us:=by
 obtain⟨us,h1,⟨_,h2⟩|⟨h2,_⟩⟩:=h
 ·exact⟨us,h2,h1⟩
 ·rw[hb]at h2;cases h2
section
variable {s:St}{E:Env}{t:Nat}{xo yo:Operand}
theorem E9 (r:Nat):fitI .u32 r=some (.int .u32 (r%4294967296:Nat)):=by
 unfold fitI
 by_cases h:r<=4294967295
 ·rw[Nat.ble_eq_true_of_le (show r<=mxOf .u32 from h),Nat.mod_eq_of_lt (by omega)]
  show mkI .u32 r=_
  unfold mkI
  rw[Aj]
  rfl
 ·have e:Nat.ble r (mxOf .u32)=false:=by
   cases hb:Nat.ble r (mxOf .u32)with
   |false=>rfl
   |true=>exact absurd (Nat.le_of_ble_eq_true hb) h
  rw[e]
  show mkI .u32 (Nat.mod r 4294967296)=_
  unfold mkI
  rw[Aj]
  rfl
theorem Xs (m n:Nat):Cl.get (aBin E .add t xo yo) (.int .u32 (m:Nat)) (.int .u32 (n:Nat)) s= .some (.int .u32 ((m+n)%4294967296:Nat)) s:=by
 show int3 addK (AD E .add t xo yo) (.int .u32 (.ofNat m)) (.int .u32 (.ofNat n)) s=_
 show Option.rec (motive:=λ_=>R Value) _ (λv=> .some v s) (addK .u32 .u32 m n)=_
 have:addK .u32 .u32 m n=some (.int .u32 ((m+n)%4294967296:Nat)):=by
  unfold addK BN
  rw[Nat.beq_refl]
  exact E9 _
 rw[this]
theorem Ug {m n:Nat}(Q:Value->St->Prop):W (Cl.get (aBin E .add t xo yo) (.int .u32 (m:Nat)) (.int .u32 (n:Nat))) s Q=Q (.int .u32 ((m+n)%4294967296:Nat)) s:=AC (Xs m n)
theorem AgM_ (m n:Nat)(h:m^^^n<4294967296):Cl.get (aBin E .xor t xo yo) (.int .u32 (m:Nat)) (.int .u32 (n:Nat)) s= .some (.int .u32 (m^^^n:Nat)) s:=by
 show int3 xorK (AD E .xor t xo yo) (.int .u32 (.ofNat m)) (.int .u32 (.ofNat n)) s=_
 show Option.rec (motive:=λ_=>R Value) _ (λv=> .some v s) (xorK .u32 .u32 m n)=_
 have:xorK .u32 .u32 m n=some (.int .u32 (m^^^n:Nat)):=by
  unfold xorK BN
  rw[Nat.beq_refl]
  refine(E9 _).trans ?_
  rw[Nat.mod_eq_of_lt (show Nat.xor m n<4294967296 from h)]
  rfl
 rw[this]
theorem Pr_ {m n:Nat}(h:m^^^n<4294967296)(Q:Value->St->Prop):W (Cl.get (aBin E .xor t xo yo) (.int .u32 (m:Nat)) (.int .u32 (n:Nat))) s Q=Q (.int .u32 (m^^^n:Nat)) s:=AC (AgM_ m n h)
theorem WY_ (kk:IntKind)(m n:Nat)(hn:n<=32):Cl.get (aBin E .shl t xo yo) (.int .u32 (m:Nat)) (.int kk (n:Nat)) s= .some (.int .u32 (m<<<n%4294967296:Nat)) s:=by
 show int3 shlK (AD E .shl t xo yo) (.int .u32 (.ofNat m)) (.int kk (.ofNat n)) s=_
 show Option.rec (motive:=λ_=>R Value) _ (λv=> .some v s) (shlK .u32 kk m n)=_
 have:shlK .u32 kk m n=some (.int .u32 (m<<<n%4294967296:Nat)):=by
  unfold shlK sOpt
  rw[Nat.ble_eq_true_of_le (show n<=btOf .u32 from hn)]
  exact E9 _
 rw[this]
theorem AjJ_ {m n:Nat}(Q:Value->St->Prop):W (Cl.get (aBin E .neq t xo yo) (.int .u32 (m:Nat)) (.int .u32 (n:Nat))) s Q=Q (.bool (!decide (m=n))) s:=AC (neqU .u32 rfl m n xo yo)
theorem Adr_ {m:Nat}(h:m<4294967296):4294967295^^^m<4294967296:=Nat.xor_lt_two_pow (n:=32) (by decide) h
theorem Ry_ (P:Program)(m:Nat)(hm:m<4294967296):kUn P .xor (.int .u32 (m:Nat)) s= .some (.int .u32 (4294967295^^^m:Nat)) s:=by
 show Option.rec (motive:=λ_=>M Value) (CD P .xor (.int .u32 (.ofNat m))) (λx=>M.pure x) (notK .u32 m) s=_
 have:notK .u32 m=some (.int .u32 (4294967295^^^m:Nat)):=by
  unfold notK
  show sOpt true (fitI .u32 (Nat.xor 4294967295 m))=_
  show fitI .u32 (Nat.xor 4294967295 m)=_
  rw[E9,Nat.mod_eq_of_lt (show Nat.xor 4294967295 m<4294967296 from Adr_ hm)]
  rfl
 rw[this]
 rfl
theorem AkK_ {P:Program}{m:Nat}(hm:m<4294967296)(Q:Value->St->Prop):W (kUn P .xor (.int .u32 (m:Nat))) s Q=Q (.int .u32 (4294967295^^^m:Nat)) s:=AC (Ry_ P m hm)
theorem wrap_u32 (n:Nat):IntKind.u32.wrap (n:Int)=((n%4294967296:Nat):Int):=by
 have e:IntKind.u32.wrap (n:Int)=(n:Int)%4294967296:=by unfold IntKind.wrap;simp[IntKind.bits,IntKind.signed]
 rw[e]
 omega
end
section
variable {α β:Type}{s:St}{E:Env}{t:Nat}{xo yo:Operand}
theorem QF_ (m n:Nat):Cl.get (aBin E .xor t xo yo) (.int .u32 (m:Nat)) (.int .u32 (n:Nat)) s= .some (.int .u32 ((m^^^n)%4294967296:Nat)) s:=by
 show int3 xorK (AD E .xor t xo yo) (.int .u32 (.ofNat m)) (.int .u32 (.ofNat n)) s=_
 show Option.rec (motive:=λ_=>R Value) _ (λv=> .some v s) (xorK .u32 .u32 m n)=_
 have:xorK .u32 .u32 m n=some (.int .u32 ((m^^^n)%4294967296:Nat)):=by
  unfold xorK BN
  rw[Nat.beq_refl]
  exact E9 _
 rw[this]
theorem NO_ (m n:Nat):Cl.get (aBin E .or t xo yo) (.int .u32 (m:Nat)) (.int .u32 (n:Nat)) s= .some (.int .u32 ((m|||n)%4294967296:Nat)) s:=by
 show int3 orK (AD E .or t xo yo) (.int .u32 (.ofNat m)) (.int .u32 (.ofNat n)) s=_
 show Option.rec (motive:=λ_=>R Value) _ (λv=> .some v s) (orK .u32 .u32 m n)=_
 have:orK .u32 .u32 m n=some (.int .u32 ((m|||n)%4294967296:Nat)):=by
  unfold orK BN
  rw[Nat.beq_refl]
  exact E9 _
 rw[this]
theorem AcH_ (m n:Nat):Cl.get (aBin E .and t xo yo) (.int .u32 (m:Nat)) (.int .u32 (n:Nat)) s= .some (.int .u32 ((m&&&n)%4294967296:Nat)) s:=by
 show int3 andK (AD E .and t xo yo) (.int .u32 (.ofNat m)) (.int .u32 (.ofNat n)) s=_
 show Option.rec (motive:=λ_=>R Value) _ (λv=> .some v s) (andK .u32 .u32 m n)=_
 have:andK .u32 .u32 m n=some (.int .u32 ((m&&&n)%4294967296:Nat)):=by
  unfold andK BN
  rw[Nat.beq_refl]
  exact E9 _
 rw[this]
theorem VN_ (P:Program)(m:Nat):kUn P .xor (.int .u32 (m:Nat)) s= .some (.int .u32 ((4294967295^^^m)%4294967296:Nat)) s:=by
 show Option.rec (motive:=λ_=>M Value) (CD P .xor (.int .u32 (.ofNat m))) (λx=>M.pure x) (notK .u32 m) s=_
 have:notK .u32 m=some (.int .u32 ((4294967295^^^m)%4294967296:Nat)):=E9 _
 rw[this]
 rfl
theorem Vf_ {kk:IntKind}(m n:Nat)(hn:n<=32):Cl.get (aBin E .shr t xo yo) (.int .u32 (m:Nat)) (.int kk (n:Nat)) s= .some (.int .u32 (m>>>n:Nat)) s:=Ic_ .u32 kk m n (show n<=btOf .u32 from hn) xo yo
section
variable {γ:Type}{f:Value×OpLog->M γ}{mem:T Cell}{next:Nat}{Q:γ->St->Prop}{m n:Nat}{kk:IntKind}
theorem W_dr {m:M Value}{v:Value}(h: ∀s:St,m s= .some v s):W (M.bind (apartO m) f) (dSt mem next) Q=W (f (v,⟨next,next,[],[]⟩)) (dSt mem next) Q:=W_dq λs _=>AC (h s)
theorem Fc:W (M.bind (apartO (Cl.get (aBin E .add t xo yo) (.int .u32 (m:Nat)) (.int .u32 (n:Nat)))) f) (dSt mem next) Q=W (f (.int .u32 ((m+n)%4294967296:Nat),⟨next,next,[],[]⟩)) (dSt mem next) Q:=W_dr λ_=>Xs m n
theorem Eu:W (M.bind (apartO (Cl.get (aBin E .xor t xo yo) (.int .u32 (m:Nat)) (.int .u32 (n:Nat)))) f) (dSt mem next) Q=W (f (.int .u32 ((m^^^n)%4294967296:Nat),⟨next,next,[],[]⟩)) (dSt mem next) Q:=W_dr λ_=>QF_ m n
theorem JM:W (M.bind (apartO (Cl.get (aBin E .or t xo yo) (.int .u32 (m:Nat)) (.int .u32 (n:Nat)))) f) (dSt mem next) Q=W (f (.int .u32 ((m|||n)%4294967296:Nat),⟨next,next,[],[]⟩)) (dSt mem next) Q:=W_dr λ_=>NO_ m n
theorem IJ:W (M.bind (apartO (Cl.get (aBin E .and t xo yo) (.int .u32 (m:Nat)) (.int .u32 (n:Nat)))) f) (dSt mem next) Q=W (f (.int .u32 ((m&&&n)%4294967296:Nat),⟨next,next,[],[]⟩)) (dSt mem next) Q:=W_dr λ_=>AcH_ m n
theorem Aae_ {P:Program}:W (M.bind (apartO (kUn P .xor (.int .u32 (m:Nat)))) f) (dSt mem next) Q=W (f (.int .u32 ((4294967295^^^m)%4294967296:Nat),⟨next,next,[],[]⟩)) (dSt mem next) Q:=W_dr λ_=>VN_ P m
theorem MO {i:Int}(n:Nat)(e:i=(n:Nat))(hn:n<=32):W (M.bind (apartO (Cl.get (aBin E .shr t xo yo) (.int .u32 (m:Nat)) (.int kk i))) f) (dSt mem next) Q=W (f (.int .u32 (m>>>n:Nat),⟨next,next,[],[]⟩)) (dSt mem next) Q:=by
 subst e
 exact W_dr λ_=>Vf_ m n hn
theorem Kb {i:Int}(n:Nat)(e:i=(n:Nat))(hn:n<=32):W (M.bind (apartO (Cl.get (aBin E .shl t xo yo) (.int .u32 (m:Nat)) (.int kk i))) f) (dSt mem next) Q=W (f (.int .u32 (m<<<n%4294967296:Nat),⟨next,next,[],[]⟩)) (dSt mem next) Q:=by
 subst e
 exact W_dr λ_=>WY_ kk m n hn
theorem IN (a b:Int):W (M.bind (apartO (Cl.get (aBin E .sub t xo yo) (.int .i64 a) (.int .i64 b))) f) (dSt mem next) Q=W (f (.int .i64 (wrap64 (a-b)),⟨next,next,[],[]⟩)) (dSt mem next) Q:=W_dq λ_ _=>Cq a b
theorem JO (a b:Int):W (M.bind (apartO (Cl.get (aBin E .add t xo yo) (.int .i64 a) (.int .i64 b))) f) (dSt mem next) Q=W (f (.int .i64 (wrap64 (a+b)),⟨next,next,[],[]⟩)) (dSt mem next) Q:=W_dq λ_ _=>Aw a b
theorem Bm {sz b o len k:Nat}{i:Int}{kd:IntKind}(e:i=(k:Nat))(h:arrN E t=some (len,sz))(hk:k<len):W (M.bind (apartO (BE E t (.pointer (some ⟨b,o,none⟩)) (.int kd i))) f) (dSt mem next) Q=W (f (.pointer (some ⟨b,o+k*sz,none⟩),⟨next,next,[],[]⟩)) (dSt mem next) Q:=by
 subst e
 exact W_dq λ_=>ZO h hk
end
variable {n f nt g:Nat}{tm:T Value}{T P:List Item}{ki:CallKind}{Q:Value×FrameMode->St->Prop}
theorem DrawEq.rd {F:Nat->Prop}{bef:List Nat}{nice:Env->Ac->Ac->Am.T Value->M ((Rho×Am.T Value)×List OpLog)}{ro:Option Nat}(q:DrawEq f nt g P bef nice)(ht:skim 64 T=P)(hn:0<n)
  (h:W (nice E (Ab E (runF E (n-1))) (By (runF E (n-1))) tm) (dSt s.mem s.next) λp s1=>s1=dSt s.mem s.next/\p.2.length<=bef.length/\(∀m∈p.2,(m.wr=[]/\m.lo=m.hi)/\ ∀x∈m.rd,F x)/\
   ∀s',s'.mem=s.mem->s'.next=s.next->Ext F Non s s'->W (AH (Ab E (runF E (n-1))) (By (runF E (n-1))) (A7 E g nt (hdC P)) p.1.1 p.1.2) s' λtm s1=>W (runF E (n-1) ⟨f,nt,g,tm,P.tail, .run,ki,ro⟩) s1 Q):W (runF E n ⟨f,nt,g,tm,T, .run,ki,ro⟩) s Q:=by
 refine q.w ht hn (h.mono λp s1 hh=> ?_)
 obtain⟨rfl,h1,h2,h3⟩:=hh
 exact⟨CI (by rw[List.length_reverse];exact h1) λm hm=>(h2 m (List.mem_reverse.1 hm)).1,h3 _ rfl rfl (Ext.draw (Nat.le_refl _) (λ_ _=>rfl) (λm hm=>(h2 m hm).1.1) λm hm x hx _=>(h2 m hm).2 x hx)⟩
end
section
variable {α β:Type}{s:St}{E:Env}{t t2:Nat}
theorem W.appLit (hbd:s.lim<=s.next){sz by' n len b0 o0:Nat}{z l old:List Value}{x:Value}{F:Nat->Prop}{Q:Value->St->Prop}{g:Bool}(ht:appT E t t2=some (sz,by',g,z))(hrow:Row s b0 o0 old)(holdl:old.length=len*sz)(hx:SrcG s sz by' g z x n l F)(hn:0<n)(hlen:0<len)(hs0:0<sz)(hs1:sz<1024)(hb:(len+n)*(by'+1)<=16777216)(hl:l.length=n*sz)(h1:l.all oneCell=true)
  (q: ∀s2 v b,Fresh1 s s2 sz (len+n) (old++l) v b->Ext (λx=>F x\/In b0 o0 (len*sz) x) Non s s2->Q v s2):W (CB E t t2 (.slice (some ⟨b0,o0,none⟩) len len) x) s Q:=by
 obtain⟨i,i2,e,ie,g1,g2,g3,g4,g5,g6,g7,g8⟩:=Hy ht
 obtain⟨hN,s0,e1,m1,n1,x1⟩:=hx ie g5 g6 g8
 subst g5;subst g6
 have hle:len<capU:=by
  have:len<=16777216:=by
   have h2:len*1<=(len+n)*(ie.bytes+1):=Nat.mul_le_mul (by omega) (by omega)
   omega
  unfold capU
  omega
 have hmod:len%capU=len:=Nat.mod_eq_of_lt hle
 have hdiv:len/capU=0:=Nat.div_eq_of_lt hle
 refine W.bind (W.ti g1 (W.bind (W.ti g2 ?_)))
 rw[g3,g7]
 refine W.bind (W.ti g4 (W.bind (a8 (hN s) (W.bind ?_))))
 refine a8 e1 ?_
 show W (aT (Nat.ble (Nat.add len n) (len%capU)) _ _) s0 Q
 have hz:Nat.ble (Nat.add len n) (len%capU)=false:=by
  cases hq:Nat.ble (Nat.add len n) (len%capU)with
  |false=>rfl
  |true=>
   have h2:=Nat.le_of_ble_eq_true hq
   rw[hmod]at h2
   have h3:Nat.add len n=len+n:=rfl
   omega
 rw[hz]
 show W (grow ie.size ie.bytes (CW ie.zero) (some ⟨b0,o0,none⟩) len len n l) s0 Q
 unfold grow
 have hb0:s0.lim<=s0.next:=x1.bnd hbd
 have hrow0:Row s0 b0 o0 old:=λi v e=>(hrow i v e).same m1 n1
 refine W.chk ?_ (W.bind ?_)
 ·rw[h1,hl,hmod]
  simp only[Bool.and_true,Bool.and_eq_true,Bool.or_eq_true]
  refine⟨⟨⟨⟨Nat.ble_eq_true_of_le hb,Bq hs0⟩,Bq hs1⟩, .inl (Bq hlen)⟩,Nat.beq_refl _⟩
 show W (oldL ie.size (some ⟨b0,o0,none⟩) (Bool.rec (motive:=λ_=>Nat) (len%capU) len (Nat.beq (len/capU) 0))) s0 _
 rw[hdiv]
 show W (Am.rdL (len*ie.size) ⟨b0,o0,none⟩) s0 _
 rw[<-holdl]
 refine W.rdL hrow0 λs1 mr nr xr=>W.bind ?_
 rw[holdl]at xr
 have x01:Ext (λx=>F x\/In b0 o0 (len*ie.size) x) Non s s1:=(x1.weak hbd (λ_ _ h=> .inl h) λ_ _ h=>h).trans xr hbd (λ_ _ h=> .inr h) λ_ _ h=>h
 have m01:s1.mem=s.mem:=mr.trans m1
 have n01:s1.next=s.next:=nr.trans n1
 show W (C3 ie.size (some ⟨b0,o0,none⟩) (len%capU) (len/capU)) s1 _
 rw[hdiv]
 show W (M.pure 1) s1 _
 have hlen:(old.take (Nat.mul len ie.size)++l:List Value)=old++l:=by
  rw[List.take_of_length_le (by rw[holdl];exact Nat.le_refl _)]
 have hll:(old++l).length=(len+n)*ie.size:=by rw[List.length_append,holdl,hl,Nat.add_mul]
 refine W.pure (W.bind ?_)
 rw[hlen]
 refine W.newL λs2 n2 x2 r2=>W.fN (W.fN (W.bind (W.wrC ?_ ?_)))
 ·rw[n2,hll]
  show s1.next+(len+n)*ie.size<_
  omega
 ·show W (Am.fA (⟨s1.next,0,none⟩:Addr) λa=>Am.fN (Nat.add len n) λl=>Am.fN _ λc=>M.pure (.slice (some a) l c)) _ Q
  refine W.fA (W.fN (W.fN (W.pure (q _ _ s1.next ⟨rfl,Nat.le_of_eq n01.symm, ?_,hll, ?_, ?_⟩ ?_))))
  ·intro k v hk
   have hk':=(List.getElem?_eq_some_iff.1 hk).1
   have:=r2 k v hk
   refine⟨this.1, ?_⟩
   show T.get (T.set s2.mem _ _) _=_
   rw[T.get_set,if_neg]
   ·exact this.2
   ·show s1.next+(0+k)≠s1.next+(len+n)*ie.size
    omega
  ·refine⟨flg ie.size 1 (CW ie.zero),GN hs1, ?_⟩
   show T.get (T.set s2.mem (s1.next+(len+n)*ie.size) _) _=_
   rw[T.get_set]
   exact if_pos rfl
  ·show s1.next+(len+n)*ie.size<s2.next
   rw[n2,hll]
   omega
  ·obtain⟨d1,p1,p2⟩:=x01.rd
   obtain⟨d2,p3,p4⟩:=x2.rd
   obtain⟨d3,p5,p6⟩:=x01.wr
   obtain⟨d4,p7,p8⟩:=x2.wr
   refine⟨?_,x2.lim.trans x01.lim,x2.cx.trans x01.cx,λy q1 q2=> ?_,⟨d2++d1, ?_, ?_⟩,⟨[], ?_,λ_ h=>by cases h⟩⟩
   ·show s.next<=s2.next
    rw[n2,n01];omega
   ·show T.get (T.set s2.mem _ _) y=_
    rw[T.get_set,if_neg,x2.mem y (by rw[n01];exact q1) id,m01]
    show y≠s1.next+(len+n)*ie.size
    rw[n01];omega
   ·show s2.rd=_
    rw[p3,p1,List.append_assoc]
   ·intro y hy
    rcases List.mem_append.1 hy with hy|hy
    ·exact(p4 y hy).2.elim
    ·exact p2 y hy
   ·show notes _ s2.lim s2.wr=s.wr
    have e1:s2.wr=s.wr:=by
     have h5:d3=[]:=by
      cases d3 with
      |nil=>rfl
      |cons y l=>exact(p6 y (by simp)).2.elim
     have h7:d4=[]:=by
      cases d4 with
      |nil=>rfl
      |cons y l=>exact(p8 y (by simp)).2.elim
     rw[p7,p5,h5,h7];rfl
    unfold notes
    rw[Gu,e1]
    show s2.lim<=s1.next+(len+n)*ie.size
    rw[x2.lim,x01.lim,n01]
    omega
end
abbrev Part:Type:=Option (Nat×Nat×Nat×List Nat)
def Part.l (p:Part):List Nat:=match p with|none=>[]|some (_,_,_,l)=>l
def Part.v (p:Part)(pos:Nat):Value:=match p with
 |none=> .slice none 0 0
 |some (_,_,c,l)=>if l=[]then .slice (some ⟨0,0,none⟩) 0 capU else .slice (some ⟨pos,0,none⟩) l.length c
def Part.blk (p:Part):Option (Nat×Nat):=match p with
 |none=>none
 |some (b,o,_,l)=>if l=[]then none else some (b,o)
open Go.RowKit Go.ChangeShapes
def zeroT (P:Program)(t:Nat):Value:=((P.info? t).bind (·.zero)).getD .nilFunc
section
variable {H:Type}{enc:TypeId×Value->H}{P:Program}{W W':World}
theorem below_all (hl:laidOutB P=true)(hb:Below W.heap.size W W'){sp:Nat->Bool}: ∀{ts:List TypeId} {vs:List Value} {ds:List (DataW H)} {ps:List MemPlace},(ts.all λt=>P.readableRec t&&decide (t<P.types.size))=true->DataW.TrodAll enc P W 0 (λ_=>true) true ts vs ds ps->(∀x∈ps,x.block<W.heap.size)->(∀x∈ps,sp x.block=true)->
  DataW.TrodAll enc P W' 0 sp true ts vs ds ps
 |[],_,_,_,_,h,_,_=>by
  obtain⟨rfl,rfl,rfl⟩:=trodAll_nil h
  exact trodAll_mk0
 |t::ts,_,_,_,hr,h,hlt,hsp=>by
  obtain⟨v,vs,d,ds,p,q,rfl,rfl,rfl,h1,h2⟩:=trodAll_cons h
  rw[List.all_cons,Bool.and_eq_true,Bool.and_eq_true]at hr
  refine⟨p,q,WideElems.Trod_stays hl hr.1.1 (of_decide_eq_true hr.1.2) h1 (λx hx=>hb.same (hlt x (List.mem_append_left _ hx))) (λx hx=>hsp x (List.mem_append_left _ hx)), ?_,rfl⟩
  exact below_all hl hb hr.2 h2 (λx hx=>hlt x (List.mem_append_right _ hx)) (λx hx=>hsp x (List.mem_append_right _ hx))
