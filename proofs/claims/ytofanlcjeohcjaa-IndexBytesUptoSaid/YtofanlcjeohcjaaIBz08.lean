import Derived.Test.YtofanlcjeohcjaaIBz07
import Derived.ChangeKeysEq
import Derived.Laws.Strings
import GoSem.ClaimWide
import Derived.ChangeShapes
import Derived.ChangeSlices
import Derived.WideShapes
import Derived.OpenShut
noncomputable section
namespace Go.Proofs.Ytofanlcjeohcjaa.Am
open Go.RowKit
section
variable {E:Env}{s:St}{t:Nat}
theorem Hx {m:Nat}(h:m<=9223372036854775807):fitI .i64 m=some (.int .i64 (m:Nat)):=by
 unfold fitI
 rw[Nat.ble_eq_true_of_le (show m<=mxOf .i64 from h)]
 show mkI .i64 m=_
 unfold mkI
 rw[AB]
 rfl
theorem ZR_ {kk:IntKind}(m n:Nat)(hn:n<=64)(hm:m<<<n<=9223372036854775807)(xo yo:Operand):Cl.get (aBin E .shl t xo yo) (.int .i64 (m:Nat)) (.int kk (n:Nat)) s= .some (.int .i64 (m<<<n:Nat)) s:=by
 show int3 shlK (AP E .shl t xo yo) (.int .i64 (.ofNat m)) (.int kk (.ofNat n)) s=_
 show Option.rec (motive:=λ_=>R Value) _ (λv=> .some v s) (shlK .i64 kk m n)=_
 have:shlK .i64 kk m n=some (.int .i64 (m<<<n:Nat)):=by
  unfold shlK
  rw[Nat.ble_eq_true_of_le (show n<=btOf .i64 from hn)]
  exact Hx hm
 rw[this]
theorem Ya_ {kk:IntKind}{m n:Nat}{xo yo:Operand}(hn:n<=64)(hm:m<<<n<=9223372036854775807)(Q:Value->St->Prop):W (Cl.get (aBin E .shl t xo yo) (.int .i64 (m:Nat)) (.int kk (n:Nat))) s Q=Q (.int .i64 (m<<<n:Nat)) s:=AD (ZR_ m n hn hm xo yo)
theorem Amc_ (m n:Nat)(hm:m|||n<=9223372036854775807)(xo yo:Operand):Cl.get (aBin E .or t xo yo) (.int .i64 (m:Nat)) (.int .i64 (n:Nat)) s= .some (.int .i64 (m|||n:Nat)) s:=by
 show int3 orK (AP E .or t xo yo) (.int .i64 (.ofNat m)) (.int .i64 (.ofNat n)) s=_
 show Option.rec (motive:=λ_=>R Value) _ (λv=> .some v s) (orK .i64 .i64 m n)=_
 have:orK .i64 .i64 m n=some (.int .i64 (m|||n:Nat)):=by
  unfold orK BO
  rw[Nat.beq_refl]
  exact Hx hm
 rw[this]
theorem W_or {m n:Nat}{xo yo:Operand}(hm:m|||n<=9223372036854775807)(Q:Value->St->Prop):W (Cl.get (aBin E .or t xo yo) (.int .i64 (m:Nat)) (.int .i64 (n:Nat))) s Q=Q (.int .i64 (m|||n:Nat)) s:=AD (Amc_ m n hm xo yo)
end
section
variable {P:Program}{E:Env}{s:St}{t:Nat}
theorem Apz_ {i:TypeInfo}(h:P.info? t=some i):semP P (typeInfo t)=some i:=by
 unfold typeInfo program
 show semP P ((match P.info? t with|some i=>pure i|none=>_):Sem TypeInfo)=_
 rw[h]
 rfl
theorem PH_ {i:TypeInfo}(h:P.info? t=some i):semP P (sizeOf t)=some i.size:=by
 unfold sizeOf
 rw[Cq,Apz_ h]
 rfl
theorem Jv {cs:Array Value}{off:Nat}{v:Value}{k:IntKind}(hu:P.underlying t=some (.int k))(h:cs[off]?=some v):semP P (part t cs off)=some v:=by
 unfold part isAgg
 rw[Cq,Cq,GH hu]
 simp only[Option.bind_some,Ef,Bool.false_eq_true,if_false,h]
theorem Aan_ {k:IntKind}{d:Nat}{a b:Int}(hu:P.underlying t=some (.int k)):semP P (Op.equalIn (d+1) t (.int .u8 a) (.int .u8 b))=some (a==b):=by
 simp only[Op.equalIn,Cq,GH hu,Option.bind_some,if_true,Ef]
theorem We (l:List Nat){j:Nat}(h:j<l.length):(u8l l).toArray[j*1]?=some (.int .u8 (l.getD j 0:Nat)):=by
 rw[Nat.mul_one,List.getElem?_toArray,List.getElem?_map,List.getElem?_eq_getElem h,List.getD_eq_getElem?_getD,List.getElem?_eq_getElem h]
 rfl
theorem Axw_ (l m:List Nat)(h:l.length=m.length):(List.range' 0 l.length).all (λj=>l.getD j 0==m.getD j 0)=decide (l=m):=by
 rw[Bool.eq_iff_iff,List.all_eq_true,decide_eq_true_eq]
 constructor
 ·intro q
  refine List.ext_getElem h λj h1 h2=> ?_
  have:=q j (by simp;exact h1)
  rw[beq_iff_eq,List.getD_eq_getElem?_getD,List.getD_eq_getElem?_getD,List.getElem?_eq_getElem h1,List.getElem?_eq_getElem h2]at this
  exact this
 ·rintro rfl j _
  exact beq_self_eq_true _
theorem Asr_ (d:Nat){e n:Nat}{i:TypeInfo}(l m:List Nat)(hu:P.underlying t=some (.array n e))(hi:P.info? e=some i)(hz:i.size=1)(he:P.underlying e=some (.int .u8))(hl:l.length=n)(hm:m.length=n):
  semP P (Op.equalIn (d+2) t (.agg (u8l l).toArray) (.agg (u8l m).toArray))=some (decide (l=m)):=by
 rw[<-Axw_ l m (by rw[hl,hm]),hl]
 rw[show d+2=(d+1)+1 from rfl]
 unfold Op.equalIn
 simp only[Cq,GH hu,Option.bind_some,PH_ hi,hz]
 simp only[Std.Legacy.Range.forIn_eq_forIn_range',Std.Legacy.Range.size,Nat.sub_zero,Nat.add_one_sub_one,Nat.div_one]
 have hr: ∀j∈List.range' 0 n,j<n:=λj hj=>by simpa using hj
 generalize List.range' 0 n=is at hr
 induction is with
 |nil=>rfl
 |cons j is ih=>
  have hj:=hr j am
  have ih:=ih λk hk=>hr k (by simp[hk])
  simp only[List.forIn_cons,Cq,Jv he (We l (show j<l.length by rw[hl];exact hj)),Jv he (We m (show j<m.length by rw[hm];exact hj)),Option.bind_some,Aan_ he,List.all_cons]
  by_cases hq:l.getD j 0=m.getD j 0
  ·rw[hq]at *
   simp only[beq_self_eq_true,Bool.true_and,Bool.not_true,Bool.false_eq_true,if_false,Ef,Option.bind_some]
   exact ih
  ·have h1:((l.getD j 0:Nat):Int)≠((m.getD j 0:Nat):Int):=λh=>hq (by exact_mod_cast h)
   have h2:(((l.getD j 0:Nat):Int)==((m.getD j 0:Nat):Int))=false:=by simpa using h1
   have h3:(l.getD j 0==m.getD j 0)=false:=by simpa using hq
   rw[h2,h3]
   simp[Ef]
theorem NG {op:BinOp}{xo yo:Operand}{a b:ByteArray}{v:Value}(hc: ∀s,Cl.get (aBin E op t xo yo) (.string a) (.string b) s=AP E op t xo yo (.string a) (.string b) s)(hg:semP E.P (eqGuard op t xo yo (.string a) (.string b))=some ())(hb:semP E.P (binOp op t (.string a) (.string b))=some v)(hv: ∀s:St,pV v s= .some v s):
  Cl.get (aBin E op t xo yo) (.string a) (.string b) s= .some v s:=by
 rw[hc]
 unfold AP
 show M.on (semP E.P (do eqGuard op t xo yo (.string a) (.string b);binOp op t (.string a) (.string b))) pV s=_
 rw[Cq,hg]
 show M.on (semP E.P (binOp op t (.string a) (.string b))) pV s=_
 rw[hb]
 exact hv s
theorem R5 {xo yo:Operand}(a b:ByteArray)(Q:Value->St->Prop):W (Cl.get (aBin E .eql t xo yo) (.string a) (.string b)) s Q=Q (.bool (a.data.toList==b.data.toList)) s:=
 AD (NG (λ_=>rfl) rfl (by rw[<-ByteArray.toList_eq,<-ByteArray.toList_eq];rfl) λ_=>rfl)
theorem QX_ {xo yo:Operand}(a b:ByteArray)(Q:Value->St->Prop):W (Cl.get (aBin E .neq t xo yo) (.string a) (.string b)) s Q=Q (.bool (!(a.data.toList==b.data.toList))) s:=
 AD (NG (λ_=>rfl) rfl (by rw[<-ByteArray.toList_eq,<-ByteArray.toList_eq];rfl) λ_=>rfl)
theorem NL {xo yo:Operand}{a b:ByteArray}(h:a.size+b.size<=9223372036854775807)(Q:Value->St->Prop):W (Cl.get (aBin E .add t xo yo) (.string a) (.string b)) s Q=Q (.string (a++b)) s:=
 AD (NG (λ_=>rfl) rfl (by
  show semP E.P (if((a.size+b.size:Nat):Int)>IntKind.i64.max then _ else _)=_
  rw[if_neg (by show ¬((a.size+b.size:Nat):Int)>9223372036854775807;omega)]
  rfl) λ_=>rfl)
theorem Nc (h:EE E t=true): ∃i,T.get E.ty t=some i/\i.u= .string:=by
 unfold EE at h
 split at h
 ·rename_i i hi
  split at h
  ·rename_i hs
   exact⟨i,hi,hs⟩
  ·cases h
 ·cases h
theorem Fm (h:EE E t=true)(a:ByteArray)(Q:Value->St->Prop):W (Bg E .len [t] [.string a]) s Q=Q (.int .i64 (a.size:Nat)) s:=by
 obtain⟨i,h1,h2⟩:=Nc h
 refine AD ?_
 show aLen E t (.string a) s=_
 unfold aLen
 rw[AM (show ti E t s= .some i s by unfold ti;rw[h1];rfl),h2]
 show pN a.size s=_
 unfold pN
 rw[AB]
 rfl
theorem IH {kd:IntKind}{k:Nat}{a:ByteArray}{b:UInt8}(h:EE E t=true)(hb:a.data.toList[k]?=some b)(Q:Value->St->Prop):W (kIdx E t (.string a) (.int kd (k:Nat))) s Q=Q (.int .u8 (b.toNat:Nat)) s:=by
 obtain⟨i,h1,h2⟩:=Nc h
 refine AD ?_
 unfold kIdx
 rw[AM (show ti E t s= .some i s by unfold ti;rw[h1];rfl),AM (show asN (.int kd (k:Nat)) s= .some k s from rfl)]
 unfold idxV
 rw[h2]
 show M.on (a.data.toList[k]?) _ s=_
 rw[hb]
 rfl
theorem GD_ {a:ByteArray}{lo hi:Option Value}{l h:Nat}(ht:EE E t=true)(hlo:bndV lo 0=some l)(hhi:bndV hi a.size=some h)(hl:l<=h)(hc:h<=a.size)(Q:Value->St->Prop):W (Be E t (.string a) lo hi) s Q=Q (.string (a.extract l h)) s:=by
 obtain⟨i,h1,h2⟩:=Nc ht
 refine AD ?_
 unfold Be
 rw[AM (show ti E t s= .some i s by unfold ti;rw[h1];rfl),h2]
 show FC a lo hi s=_
 unfold FC
 rw[AM (Fc hhi hc),AM (Fc hlo hl)]
 rfl
end
def Eo (n0:Nat)(m a:OpLog):Prop:=(∀x∈m.rd,n0<=x-> ¬(a.lo<=x/\x<a.hi))/\(∀x∈m.wr,n0<=x-> ¬(a.lo<=x/\x<a.hi))/\(∀x∈a.wr,x∉m.rd/\x∉m.wr)/\(∀x∈m.wr,x∉a.rd)
def Ds (n0 b:Nat)(m:OpLog):List OpLog->Nat->Prop
 |[],_=>True
 |a::l,i=>(b.testBit i=true\/Eo n0 m a)/\Ds n0 b m l (i+1)
def allP (n0:Nat)(all:List OpLog):List OpLog->List Nat->Nat->Prop
 |[],_,_=>True
 |m::l,b::bef,j=>Ds n0 b m (all.take j) 0/\allP n0 all l bef (j+1)
 |_::_,[],_=>False
theorem IM_ {x:Nat}: ∀{l:List Nat} {m:Nat},(Cv l m).testBit x=true->x∈l\/m.testBit x=true
 |[],m,h=> .inr h
 |a::l,m,h=>by
  have e:Cv (a::l) m=Cv l (m|||2^a):=by
   show fN (Nat.lor m (Nat.shiftLeft (nat_lit 1) a)) (Cv l)=_
   rw[AB]
   show Cv l (m|||(1<<<a))=_
   rw[Nat.one_shiftLeft]
  rw[e]at h
  rcases IM_ h with h|h
  ·exact .inl (by simp[h])
  ·rw[Nat.testBit_or,Rf,Bool.or_eq_true]at h
   rcases h with h|h
   ·exact .inr h
   ·have:x=a:=by
     have:=of_decide_eq_true h
     omega
    exact .inl (by simp[this])
theorem Lc_ {a b:Nat}(h: ∀x,¬(a.testBit x=true/\b.testBit x=true)):Nat.beq (Nat.land a b) (nat_lit 0)=true:=by
 have e:a&&&b=0:=by
  refine Nat.eq_of_testBit_eq λx=> ?_
  rw[Nat.testBit_and,Nat.zero_testBit]
  cases h1:a.testBit x with
  |false=>rfl
  |true=>
   cases h2:b.testBit x with
   |false=>rfl
   |true=>exact absurd ⟨h1,h2⟩ (h x)
 show Nat.beq (a&&&b) 0=true
 rw[e]
 rfl
theorem Hf {x:Nat}{l:List Nat}(h:(Cv l 0).testBit x=true):x∈l:=by
 rcases IM_ h with h|h
 ·exact h
 ·rw[Nat.zero_testBit]at h;cases h
theorem AcN_ {a m:OpLog}(h1: ∀x∈a.wr,x∉m.rd/\x∉m.wr)(h2: ∀x∈m.wr,x∉a.rd):Ey (BX a) (BX m)=true:=by
 unfold Ey
 rw[Bool.and_eq_true,IX,IX]
 refine⟨Lc_ λx ⟨p,q⟩=> ?_,Lc_ λx ⟨p,q⟩=>h2 x (Hf p) (Hf q)⟩
 have q':(Cv m.rd 0|||Cv m.wr 0).testBit x=true:=q
 rw[Nat.testBit_or,Bool.or_eq_true]at q'
 rcases q' with q|q
 ·exact(h1 x (Hf p)).1 (Hf q)
 ·exact(h1 x (Hf p)).2 (Hf q)
theorem Ql_ {n0 b:Nat}{m:OpLog}(news:List Nat)(hn: ∀x∈news,n0<=x/\(x∈m.rd\/x∈m.wr)): ∀(acc:List OpLog) (i:Nat),Ds n0 b m acc i->Ew b news acc i=true
 |[],_,_=>rfl
 |a::acc,i,h=>by
  show((b.testBit i|| !DW a.lo a.hi news)&&Ew b news acc (Nat.succ i))=true
  rw[Bool.and_eq_true]
  refine⟨?_,Ql_ news hn acc (i+1) h.2⟩
  rcases h.1 with h|h
  ·rw[h];rfl
  ·rw[Ll_ _ _ _ λx hx=> ?_]
   ·simp
   ·obtain⟨h1,h2⟩:=hn x hx
    rcases h2 with h2|h2
    ·exact h.1 x h2 h1
    ·exact h.2.1 x h2 h1
theorem S5 {n0 b:Nat}{m:OpLog}: ∀(acc:List OpLog) (i:Nat),Ds n0 b m acc i->F1 b (BX m) (acc.map BX) i=true
 |[],_,_=>rfl
 |a::acc,i,h=>by
  show((b.testBit i||Ey (BX a) (BX m))&&F1 b (BX m) (acc.map BX) (Nat.succ i))=true
  rw[Bool.and_eq_true]
  refine⟨?_,S5 acc (i+1) h.2⟩
  rcases h.1 with h|h
  ·rw[h];rfl
  ·rw[AcN_ h.2.2.1 h.2.2.2];simp
theorem YI {n0:Nat}{all:List OpLog}: ∀(l:List OpLog) (bef:List Nat) (j:Nat),allP n0 all l bef j->FY n0 all l bef j=true
 |[],_,_,_=>rfl
 |_::_,[],_,h=>h.elim
 |m::l,b::bef,j,h=>by
  show(Gv b (Bx n0 m.rd (Bx n0 m.wr [])) (all.take j)&&FY n0 all l bef (Nat.succ j))=true
  rw[Bool.and_eq_true]
  refine⟨?_,YI l bef (j+1) h.2⟩
  have hn: ∀x∈Bx n0 m.rd (Bx n0 m.wr []),n0<=x/\(x∈m.rd\/x∈m.wr):=λx hx=>by
   rcases Ov _ _ _ x hx with h|h
   ·exact⟨h.2, .inl h.1⟩
   ·rcases Ov _ _ _ x h with h|h
    ·exact⟨h.2, .inr h.1⟩
    ·cases h
  have hj:=Ql_ _ hn _ _ h.1
  unfold Gv
  generalize Bx n0 m.rd (Bx n0 m.wr [])=z at hj
  cases z with
  |nil=>rfl
  |cons x z=>exact hj
theorem Ge_ {n0:Nat}{all:List OpLog}: ∀(l:List OpLog) (bef:List Nat) (j:Nat),allP n0 all l bef j->HG (all.map BX) (l.map BX) bef j=true
 |[],_,_,_=>rfl
 |_::_,[],_,h=>h.elim
 |m::l,b::bef,j,h=>by
  show(F1 b (BX m) ((all.map BX).take j) 0&&HG (all.map BX) (l.map BX) bef (Nat.succ j))=true
  rw[Bool.and_eq_true,<-List.map_take]
  exact⟨S5 _ _ h.1,Ge_ l bef (j+1) h.2⟩
theorem E8 {n0:Nat}{l:List OpLog}{bef:List Nat}(h:allP n0 l l bef 0):Bz n0 l bef=true:=by
 unfold Bz
 rw[YI l bef 0 h,QD,Ge_ l bef 0 h]
 simp
section
variable {α β:Type}{s:St}
theorem W.dopG {m:M α}{f:α×OpLog->M β}{mem:T Cell}{next:Nat}{Q:β->St->Prop}
  (h:W m (oSt mem next) λv s1=> ∃F G,Ext F G (oSt mem next) s1/\ ∀rd wr,(∀x∈rd,x<next/\F x)->(∀x∈wr,x<next/\G x)->W (f (v,⟨next,s1.next,rd,wr⟩)) (dSt s1.mem s1.next) Q):W (M.bind (apartO m) f) (dSt mem next) Q:=by
 obtain⟨a,s1,e,F,G,x,q⟩:=h
 obtain⟨mem1,next1,lim1,rd1,wr1,cx1⟩:=s1
 have hcx:cx1= .no:=x.cx
 obtain⟨d1,p1,p2⟩:=x.rd
 obtain⟨d2,p3,p4⟩:=x.wr
 have e1:rd1=d1:=by simpa [oSt]using p1
 have e2:wr1=d2:=by simpa [oSt]using p3
 subst hcx
 refine W.bind (W.of (a:=(a,⟨next,next1,rd1,wr1⟩)) (s':=dSt mem1 next1) ?_ (q rd1 wr1 (λy hy=>p2 y (by rw[<-e1];exact hy)) λy hy=>p4 y (by rw[<-e2];exact hy)))
 have e':m ⟨mem,next,next,[],[], .no⟩= .some a ⟨mem1,next1,lim1,rd1,wr1, .no⟩:=e
 show Am.apartO m ⟨mem,next,0,[],[], .no⟩=_
 unfold Am.apartO
 simp only[e']
 rfl
theorem AuQ_ (lim:Nat)(l:List OpLog)(base:List Nat): ∃d,wrsL lim l base=d++base/\ ∀x∈d,x<lim/\ ∃m∈l,x∈m.wr:=by
 induction l with
 |nil=>exact⟨[],rfl,λ_ h=>by cases h⟩
 |cons m l ih=>
  obtain⟨d,e,q⟩:=ih
  obtain⟨d2,e2,q2⟩:=UD_ lim m.wr (wrsL lim l base)
  refine⟨d2++d, ?_,λx hx=> ?_⟩
  ·show addL lim m.wr (wrsL lim l base)=_
   rw[e2,e,List.append_assoc]
  ·rcases List.mem_append.1 hx with hx|hx
   ·exact⟨(q2 x hx).1,m,am,(q2 x hx).2⟩
   ·obtain⟨h1,m',h2,h3⟩:=q x hx
    exact⟨h1,m',by simp[h2],h3⟩
theorem aR {F G:Nat->Prop}{mem':T Cell}{next':Nat}{l:List OpLog}(h1:s.next<=next')(h2: ∀x,x<s.next-> ¬G x->T.get mem' x=T.get s.mem x)(hw: ∀m∈l,∀x∈m.wr,x<s.lim->G x)(hr: ∀m∈l,∀x∈m.rd,x<s.lim->F x):
  Ext F G s ⟨mem',next',s.lim,rdsL s.lim l s.rd,wrsL s.lim l s.wr,s.cx⟩:=by
 obtain⟨d,e,q⟩:=Do_ s.lim l s.rd
 obtain⟨d2,e2,q2⟩:=AuQ_ s.lim l s.wr
 exact⟨h1,rfl,rfl,λx hx hg=>h2 x hx hg,⟨d,e,λx hx=>by obtain⟨a,m,b,c⟩:=q x hx;exact⟨a,hr m b x c a⟩⟩,⟨d2,e2,λx hx=>by obtain⟨a,m,b,c⟩:=q2 x hx;exact⟨a,hw m b x c a⟩⟩⟩
end
section
variable {α β:Type}{s:St}{E:Env}{t t2:Nat}
theorem Ext.delC {F G:Nat->Prop}(s:St)(l:Nat)(hG:G l):Ext F G s ⟨aW s.mem l,s.next,s.lim,s.rd,notes l s.lim s.wr,s.cx⟩:=by
 obtain⟨d,e,q⟩:=Hj l s.lim s.wr
 refine⟨Nat.le_refl _,rfl,rfl,λx _ hx=> ?_,⟨[],rfl,λ_ h=>by cases h⟩,⟨d,e,λx hx=>⟨(q x hx).1,by rw[(q x hx).2];exact hG⟩⟩⟩
 show T.get (aW s.mem l) x=_
 rw[aV,if_neg]
 intro h
 exact hx (by rw[h];exact hG)
theorem NB: ∀(n l:Nat) (s:St),s.lim<=s.next->l+n<=s.next-> ∃s',CR n l s= .some () s'/\s'.next=s.next/\Ext Non (λx=>l<=x/\x<l+n) s s'
 |0,_,s,_,_=>⟨s,rfl,rfl,Ext.refl s⟩
 |n+1,l,s,hb,h=>by
  have x1:Ext Non (λx=>l<=x/\x<l+(n+1)) s ⟨aW s.mem l,s.next,s.lim,s.rd,notes l s.lim s.wr,s.cx⟩:=Ext.delC s l ⟨Nat.le_refl _,J⟩
  obtain⟨s2,e2,n2,x2⟩:=NB n (l+1) ⟨aW s.mem l,s.next,s.lim,s.rd,notes l s.lim s.wr,s.cx⟩ hb (by show l+1+n<=s.next;omega)
  refine⟨s2, ?_,n2,x1.trans x2 hb (λ_ _ h=>h) λx _ h=>⟨by have:=h.1;omega,by have:=h.2;omega⟩⟩
  show M.bind (Am.delC l) (λ_=>CR n (l+1)) s=_
  have e1:Am.delC l s= .some () ⟨aW s.mem l,s.next,s.lim,s.rd,notes l s.lim s.wr,s.cx⟩:=by
   obtain⟨mem,next,lim,rd,wr,cx⟩:=s
   show Bool.rec (motive:=λ_=>R Unit) .none (R.some () (St.mk (aW mem l) next lim rd (notes l lim wr) cx)) (Nat.blt l next)=_
   rw[BT (show l<next from Nat.lt_of_lt_of_le J h)]
  rw[AM e1]
  exact e2
structure Marked (s:St)(sz n:Nat)(l:List Value)(v:Value)(b:Nat):Prop where
 val:v= .slice (some ⟨b,0,none⟩) n (capU*((b+n*sz)*1024+sz)+n)
 own:Aa s b 0 l
 len:l.length=n*sz
 tok: ∃q,q%1024=sz/\T.get s.mem (b+n*sz)=some (.O (.tok false q))
 lt:b+n*sz<s.next
theorem Fresh1.marked {s s':St}{sz n:Nat}{l:List Value}{v:Value}{b:Nat}(h:Fresh1 s s' sz n l v b):Marked s' sz n l v b:=⟨h.val,h.own,h.len,h.tok,h.lt⟩
theorem Marked.ext {F G:Nat->Prop}{s s':St}{sz n:Nat}{l:List Value}{v:Value}{b:Nat}(h:Marked s sz n l v b)(e:Ext F G s s')(hG: ∀x,In b 0 (n*sz+1) x-> ¬G x):Marked s' sz n l v b:=
 ⟨h.val,h.own.ext e λi hi=>hG _ ⟨J,by rw[h.len]at hi;omega⟩,h.len,let ⟨q,h1,h2⟩:=h.tok;⟨q,h1,by rw[e.mem _ h.lt (hG _ ⟨J,J⟩)];exact h2⟩,Nat.lt_of_lt_of_le h.lt e.nxt⟩
theorem Marked.same {s s':St}{sz n:Nat}{l:List Value}{v:Value}{b:Nat}(h:Marked s sz n l v b)(hm:s'.mem=s.mem)(hn:s'.next=s.next):Marked s' sz n l v b:=
 ⟨h.val,λi v e=>(h.own i v e).same hm hn,h.len,by rw[hm];exact h.tok,by rw[hn];exact h.lt⟩
theorem W.appMark (hbd:s.lim<=s.next){sz by' n len b:Nat}{z l old:List Value}{v x:Value}{F:Nat->Prop}{Q:Value->St->Prop}{g:Bool}(ht:appT E t t2=some (sz,by',g,z))(hm:Marked s sz len old v b)(hx:SrcG s sz by' g z x n l F)(hn:0<n)(hlen:0<len)(hs0:0<sz)(hs1:sz<1024)
  (hb:(len+n)*(by'+1)<=16777216) (hl:l.length=n*sz) (h1:l.all oneCell=true)
  (q: ∀s2 v2 b2,Fresh1 s s2 sz (len+n) (old++l) v2 b2->Ext (λx=>F x\/In b 0 (len*sz+1) x) (In b 0 (len*sz+1)) s s2->Q v2 s2):W (CK E t t2 v x) s Q:=by
 obtain⟨i,i2,e,ie,g1,g2,g3,g4,g5,g6,g7,g8⟩:=Ii ht
 obtain⟨hN,s1,e1,m1,n1,x1⟩:=hx ie g5 g6 g8
 subst g5;subst g6
 rw[hm.val]
 have hle:len<capU:=by
  have:len<=16777216:=by
   have h2:len*1<=(len+n)*(ie.bytes+1):=Nat.mul_le_mul J J
   omega
  unfold capU
  omega
 have hmod:(capU*((b+len*ie.size)*1024+ie.size)+len)%capU=len:=by
  rw[Nat.mul_add_mod,Nat.mod_eq_of_lt hle]
 have hdiv:(capU*((b+len*ie.size)*1024+ie.size)+len)/capU=(b+len*ie.size)*1024+ie.size:=by
  rw[Nat.mul_add_div al,Nat.div_eq_of_lt hle,Nat.add_zero]
 generalize hc:capU*((b+len*ie.size)*1024+ie.size)+len=c at *
 refine W.bind (W.ti g1 (W.bind (W.ti g2 ?_)))
 rw[g3,g7]
 refine W.bind (W.ti g4 (W.bind (W.of (hN s) (W.bind ?_))))
 refine W.of e1 ?_
 show W (aO (Nat.ble (Nat.add len n) (c%capU)) _ _) s1 Q
 have hz:Nat.ble (Nat.add len n) (c%capU)=false:=by
  cases hq:Nat.ble (Nat.add len n) (c%capU)with
  |false=>rfl
  |true=>
   have h2:=Nat.le_of_ble_eq_true hq
   rw[hmod]at h2
   have h3:Nat.add len n=len+n:=rfl
   omega
 rw[hz]
 show W (grow ie.size ie.bytes (DL ie.zero) (some ⟨b,0,none⟩) len c n l) s1 Q
 unfold grow
 have hm1:Marked s1 ie.size len old v b:=hm.same m1 n1
 have hb1:s1.lim<=s1.next:=x1.bnd hbd
 refine W.chk ?_ (W.bind ?_)
 ·rw[h1,hl,hmod]
  simp only[Bool.and_true,Bool.and_eq_true,Bool.or_eq_true]
  refine⟨⟨⟨⟨Nat.ble_eq_true_of_le hb,BT hs0⟩,BT hs1⟩, .inl (BT hlen)⟩,Nat.beq_refl _⟩
 ·show W (oldL ie.size (some ⟨b,0,none⟩) (Bool.rec (motive:=λ_=>Nat) (c%capU) len (Nat.beq (c/capU) 0))) s1 _
  rw[hmod,hdiv]
  have hb0:Nat.beq ((b+len*ie.size)*1024+ie.size) 0=false:=by
   cases hq:Nat.beq ((b+len*ie.size)*1024+ie.size) 0 with
   |false=>rfl
   |true=>have:=Nat.eq_of_beq_eq_true hq;omega
  rw[hb0]
  show W (Am.rdL (len*ie.size) ⟨b,0,none⟩) s1 _
  rw[<-hm1.len]
  refine W.rdL hm1.own.row λs2 m2 n2 x2=>W.bind ?_
  have hm2:Marked s2 ie.size len old v b:=hm1.same m2 n2
  have hb2:s2.lim<=s2.next:=x2.bnd hb1
  show W (DK ie.size (some ⟨b,0,none⟩) (c%capU) (c/capU)) s2 _
  rw[hmod,hdiv]
  unfold DK
  show W (aO (Nat.beq ((b+len*ie.size)*1024+ie.size) 0) _ _) s2 _
  rw[hb0]
  have hd1:((b+len*ie.size)*1024+ie.size)/1024=b+len*ie.size:=J
  have hd2:((b+len*ie.size)*1024+ie.size)%1024=ie.size:=J
  show W (M.bind (Am.rdC (((b+len*ie.size)*1024+ie.size)/1024)) _) s2 _
  rw[hd1]
  obtain⟨qo,hqo,htok⟩:=hm2.tok
  refine W.bind (W.rdC htok hm2.lt ?_)
  show W (M.chk (Nat.beq (qo%1024) ie.size&&Nat.beq (((b+len*ie.size)*1024+ie.size)%1024) ie.size) (M.bind (Am.wrC (((b+len*ie.size)*1024+ie.size)/1024) (.O (.tok true ie.size))) λ_=>M.bind (FM ie.size (some ⟨b,0,none⟩) len) λ_=>Am.fN (qo/1024) λf=>M.pure f)) _ _
  rw[hd2,hd1,hqo]
  refine W.chk (by rw[Nat.beq_refl];rfl) (W.bind (W.wrC hm2.lt ?_))
  refine W.bind ?_
  show W (CR (len*ie.size) (b+0)) _ _
  generalize hs3:((s2.rdN (b+len*ie.size)).wrN (b+len*ie.size) (.O (.tok true ie.size)))=s3
  have x3:Ext (In b 0 (len*ie.size+1)) (In b 0 (len*ie.size+1)) s2 s3:=by
   rw[<-hs3]
   have a1:Ext (In b 0 (len*ie.size+1)) (In b 0 (len*ie.size+1)) s2 (s2.rdN (b+len*ie.size)):=Ext.rdN s2 _ λ_=>⟨J,J⟩
   exact a1.trans (Ext.wrN (F:=In b 0 (len*ie.size+1)) (s2.rdN (b+len*ie.size)) _ _ ⟨J,J⟩) hb2 (λ_ _ h=>h) λ_ _ h=>h
  have n3:s3.next=s2.next:=by rw[<-hs3];rfl
  have hb3:s3.lim<=s3.next:=x3.bnd hb2
  obtain⟨s4,e4,n4,x4⟩:=NB (len*ie.size) (b+0) s3 hb3 (by have:=hm2.lt;omega)
  refine W.of e4 (W.fN (W.pure (W.bind (W.newL λs5 n5 x5 r5=>W.fN (W.fN (W.bind (W.wrC ?_ ?_)))))))
  ·rw[n5]
   simp only[Nat.add_eq,Nat.mul_eq,List.length_append,List.length_take,hm.len,hl,Nat.min_self]
   rw[Nat.add_mul]
   omega
  ·show W (Am.fA (⟨s4.next,0,none⟩:Addr) λa=>Am.fN (Nat.add len n) λl=>Am.fN _ λc=>M.pure (.slice (some a) l c)) _ Q
   have htake:old.take (Nat.mul len ie.size)=old:=List.take_of_length_le (by rw[hm.len];exact Nat.le_refl _)
   rw[htake]at n5 r5
   have hadd:Nat.add len n=len+n:=rfl
   have hmul:Nat.mul (len+n) ie.size=(len+n)*ie.size:=rfl
   have hal:(old++l).length=(len+n)*ie.size:=by rw[List.length_append,hm.len,hl,Nat.add_mul]
   have nn:s.next<=s4.next:=by rw[n4,n3,n2,n1];exact Nat.le_refl _
   have xall:Ext (λx=>F x\/In b 0 (len*ie.size+1) x) (In b 0 (len*ie.size+1)) s s5:=by
    have y1:Ext (λx=>F x\/In b 0 (len*ie.size+1) x) (In b 0 (len*ie.size+1)) s s1:=x1.weak hbd (λ_ _ h=> .inl h) λ_ _ h=>h.elim
    have y2:=y1.trans x2 hbd (λx _ h=> .inr ⟨h.1,by have:=h.2;rw[hm.len]at this;omega⟩) λ_ _ h=>h.elim
    have y3:=y2.trans x3 hbd (λx _ h=> .inr h) λ_ _ h=>h
    have y4:=y3.trans x4 hbd (λ_ _ h=>h.elim) λx _ h=>⟨by have:=h.1;omega,by have:=h.2;omega⟩
    exact y4.trans x5 hbd (λ_ _ h=>h.elim) λ_ _ h=>h.elim
   have hb5:s5.lim<=s5.next:=xall.bnd hbd
   refine W.fA (W.fN (W.fN (W.pure (q _ _ s4.next ⟨?_,nn, ?_,hal, ?_, ?_⟩ ?_))))
   ·rfl
   ·intro k v hk
    have hk':=(List.getElem?_eq_some_iff.1 hk).1
    have:=r5 k v hk
    refine⟨this.1, ?_⟩
    show T.get (T.set s5.mem _ _) _=_
    rw[T.get_set,if_neg]
    ·exact this.2
    ·rw[hadd,hmul]
     show s4.next+(0+k)≠s4.next+(len+n)*ie.size
     omega
   ·refine⟨flg ie.size (qo/1024) (DL ie.zero),IC hs1, ?_⟩
    show T.get (T.set s5.mem (Nat.add s4.next (Nat.mul (Nat.add len n) ie.size)) _) _=_
    rw[hadd,hmul,T.get_set]
    exact if_pos rfl
   ·show s4.next+(len+n)*ie.size<s5.next
    rw[n5,hal]
    omega
   ·refine xall.trans (Ext.wrN (F:=Non) (G:=λx=>s4.next<=x) s5 _ _ ?_) hbd (λ_ _ h=>h.elim) λx hx h=> ?_
    ·show s4.next<=s4.next+Nat.mul (Nat.add len n) ie.size
     omega
    ·omega
end
theorem Rel.ofOld {w:World}{r:Inj}{mem:T Cell}(hk:r.known.sure w)(hd: ∀b b' d,r.blk b=some (b',d)->b'<w.heap.size)
  (ho: ∀loc c,T.get mem loc=some c-> ∃b v,c= .O (.old b v)/\ ∃b' d v',b<=loc/\r.blk b=some (b',d)/\w.cell? ⟨b',loc-b+d,none⟩=some v'/\VR r v v'):Rel w r mem w where
 below:= .refl _ _
 dom:=λb b' d e=>⟨Nat.le_refl _,hd b b' d e⟩
 cell:=λl b v e=>by obtain⟨_,_,e2,_⟩:=ho _ _ e;cases e2
 sep:=λl1 l2 b1 v1 b2 v2 b' d1 d2 e=>by obtain⟨_,_,e2,_⟩:=ho _ _ e;cases e2
 obj:=λl o e ht=>by obtain⟨_,_,e2,_⟩:=ho _ _ e;cases e2;cases ht
 sepO:=λl1 l2 o1 o2 b' d1 d2 e _ ht=>by obtain⟨_,_,e2,_⟩:=ho _ _ e;cases e2;cases ht
 tok:=λt sz e=>by obtain⟨_,_,e2,_⟩:=ho _ _ e;cases e2
 sepT:=λt1 t2 s1 s2 k1 k2 e=>by obtain⟨_,_,e2,_⟩:=ho _ _ e;cases e2
 known:=hk
 szs:=λl n e=>by obtain⟨_,_,e2,_⟩:=ho _ _ e;cases e2
 olds:={
  old:=λl b v e=>by obtain⟨_,_,e2,h⟩:=ho _ _ e;cases e2;exact h
  newC:=λl b v b' d e=>by obtain⟨_,_,e2,_⟩:=ho _ _ e;cases e2
  newO:=λl o b' d e ht=>by obtain⟨_,_,e2,_⟩:=ho _ _ e;cases e2;cases ht
  newS:=λl n b' d e=>by obtain⟨_,_,e2,_⟩:=ho _ _ e;cases e2}
theorem AlZ_ {E:Env}(he:EnvOK E){fuel f:Nat}{args:List Value}{args':Array Value}{v:Value}{s0:St}{r:Inj}(ho:E.orc.get f=none)(hx:E.ext.get f=none)(h:W (Ac E (runF E fuel) f args) s0 λu _=>u=v)(hp:plain v=true){w:World}(ha:VRs r args args'.toList)(hr:Rel w r s0.mem w)(hb:Bnd s0)
  (hf: ∀b,s0.next<=b->r.blk b=none/\r.ext b=none):Calls E.P f args' w λe w'=>e= .returned v/\Below w.heap.size w w':=by
 intro cs
 obtain⟨_,s',h,rfl⟩:=h
 unfold Ac at h
 rw[ho,hx]at h
 obtain⟨s2,e1,rfl⟩:=GC (o:= .inl _) (show within cxN (M.bind (M.bind (B8 E f args .normal) (runF E fuel)) fstV) s0=rOf (.inl _) s' from h)
 obtain⟨af,s1,o,e2,e3,e4⟩:=KG (Io _ _ _) e1
 obtain⟨_,hF,rfl⟩:=Lj (r:=r) (base:=([],cs)) (cx:=cxN) he e2 ha (cs:=cs) ⟨⟨rfl,rfl⟩,rfl, .nil⟩
 obtain⟨w',r',k1,k2,cs',k3,k4⟩:=(N2 he fuel).ok e3 hF hr hb (λb h1 _=>hf b h1)
 cases o with
 |inr c=>cases e4
 |inl p=>
  cases e4
  obtain⟨v',q1,q2,q3⟩:=k4
  obtain⟨fr',x1,x2,x3⟩:=q3 rfl rfl
  have hcs:cs'=cs:=by
   rcases k3 with k3|⟨_,_,_,_,_,k,_⟩
   ·exact k3.2
   ·cases k
  subst hcs
  exact⟨.returned v',w',fr',⟨by rw[q1.eq_of_plain hp],k1.rel.below⟩,x3,x1,x2⟩
theorem VRs.plains {r:Inj}: ∀{l:List Value},(∀v∈l,plain v=true)->VRs r l l
 |[],_=> .nil
 |v::l,h=> .cons (.of_plain (h v am)) (VRs.plains λu hu=>h u (by simp[hu]))
def layT (b:Nat):List Value->Nat->T Cell->T Cell
 |[],_,t=>t
 |v::l,i,t=>layT b l (i+1) (T.set t i (.O (.old b v)))
theorem Zq (b:Nat): ∀(l:List Value) (i:Nat) (t:T Cell) (j:Nat),T.get (layT b l i t) j=if i<=j/\j<i+l.length then(l[j-i]?).map (λv=> .O (.old b v))else T.get t j
 |[],i,t,j=>by
  rw[if_neg (by simp only[List.length_nil];omega)]
  rfl
 |v::l,i,t,j=>by
  show T.get (layT b l (i+1) (T.set t i (.O (.old b v)))) j=_
  rw[Zq b l (i+1),T.get_set]
  simp only[List.length_cons]
  by_cases h1:j=i
  ·subst h1
   rw[if_neg J,if_pos rfl,if_pos J,Nat.sub_self]
   rfl
  ·rw[if_neg h1]
   by_cases h2:i+1<=j/\j<i+1+l.length
   ·rw[if_pos h2,if_pos J,show j-i=(j-(i+1))+1 by omega]
    rfl
   ·rw[if_neg h2,if_neg J]
open Go.RowKit Go.ChangeShapes Go.WideShapes
structure OldSt (w:World)(m:T Cell)(nx:Nat)(r:Inj):Prop where
 ho: ∀loc c,T.get m loc=some c->loc<nx/\ ∃b v,c= .O (.old b v)/\ ∃b' d v',b<=loc/\r.blk b=some (b',d)/\w.cell? ⟨b',loc-b+d,none⟩=some v'/\VR r v v'
 hd: ∀b b' d,r.blk b=some (b',d)->b<nx/\b'<w.heap.size
 hx: ∀b,r.ext b=none
 hk:r.known= .no
structure Grow (m:T Cell)(nx:Nat)(r:Inj)(m':T Cell)(nx':Nat)(r':Inj):Prop where
 le:r.le r'
 nle:nx<=nx'
 mem: ∀l,l<nx->T.get m' l=T.get m l
theorem Grow.refl (m:T Cell)(nx:Nat)(r:Inj):Grow m nx r m nx r:=⟨Inj.le_refl r,Nat.le_refl _,λ_ _=>rfl⟩
theorem Grow.trans {m m' m'':T Cell}{nx nx' nx'':Nat}{r r' r'':Inj}(h:Grow m nx r m' nx' r')(k:Grow m' nx' r' m'' nx'' r''):Grow m nx r m'' nx'' r'':=
 ⟨Inj.le_trans h.le k.le,Nat.le_trans h.nle k.nle,λl hl=>(k.mem l (Nat.lt_of_lt_of_le hl h.nle)).trans (h.mem l hl)⟩
def stO (m:T Cell)(nx:Nat):St:=⟨m,nx,0,[],[], .no⟩
theorem Grow.row {m m':T Cell}{nx nx':Nat}{r r':Inj}(g:Grow m nx r m' nx' r'){b o:Nat}{l:List Value}(h:Row (stO m nx) b o l):Row (stO m' nx') b o l:=λi v e=>by
 have hl:b+(o+i)<nx:=(h i v e).1
 refine⟨Nat.lt_of_lt_of_le hl g.nle, ?_⟩
 show T.get m' (b+(o+i))=_\/T.get m' (b+(o+i))=_
 rw[g.mem _ hl]
 exact(h i v e).2
def AI (P:Program)(N:Nat)(s:St):Nat->TypeId->List Value->Prop
 |0,_,_=>False
 |f+1,t,us=>match P.underlying t with
  |some .bool=> ∃b,us=[.bool b]
  |some (.int k)=> ∃n,us=[.int k n]/\(Lit.int k n).wf=true
  |some .string=> ∃x:ByteArray,us=[.string x]/\x.size<=maxLen/\x.size<=N
  |some (.slice e)=>us=[.slice none 0 0]\/us=[.slice (some ⟨0,0,none⟩) 0 (capU*P.cellsOf e)]\/ ∃b n c,us=[.slice (some ⟨b,0,none⟩) n c]/\0<n/\n<=c/\c<=maxLen/\n<=N/\ ∀i,i<n-> ∃es,es.length=P.cellsOf e/\Row s b (i*P.cellsOf e) es/\AI P N s f e es
  |some (.struct fs)=>us.length=P.cellsOf t/\ ∀x∈fs.toList,AI P N s f x.type ((us.drop x.offset).take (P.cellsOf x.type))
  |some (.array n e)=>us.length=P.cellsOf t/\ ∀i,i<n->AI P N s f e ((us.drop (i*P.cellsOf e)).take (P.cellsOf e))
  |_=>False
theorem AI.mono {P:Program}{N:Nat}{s s':St}(h: ∀b o l,Row s b o l->Row s' b o l): ∀(f:Nat) (t:TypeId) (us:List Value),AI P N s f t us->AI P N s' f t us
 |0,_,_,k=>k
 |f+1,t,us,k=>by
  unfold AI at k ⊢
  cases hu:P.underlying t with
  |none=>rw[hu]at k;exact k
  |some u=>
   rw[hu]at k
   cases u<;>try exact k
   ·rename_i e
    rcases k with k|k|⟨b,n,c,k1,k2,k3,k4,k6,k5⟩
    ·exact .inl k
    ·exact .inr (.inl k)
    ·refine .inr (.inr ⟨b,n,c,k1,k2,k3,k4,k6,λi hi=> ?_⟩)
     obtain⟨es,e1,e2,e3⟩:=k5 i hi
     exact⟨es,e1,h _ _ _ e2,AI.mono h f _ _ e3⟩
   ·exact⟨k.1,λx hx=>AI.mono h f _ _ (k.2 x hx)⟩
   ·exact⟨k.1,λi hi=>AI.mono h f _ _ (k.2 i hi)⟩
def Fi (P:Program):List Field->Nat->Nat->Bool
 |[],o,z=>Nat.beq o z
 |x::l,o,z=>Nat.beq x.offset o&&Fi P l (o+P.cellsOf x.type) z
def DO (P:Program):Nat->TypeId->Bool
 |0,_=>false
 |f+1,t=>match P.underlying t with
  |some .bool|some (.int _)|some .string=>true
  |some (.slice e)=>Nat.blt 0 (P.cellsOf e)&&DO P f e
  |some (.struct fs)=>Fi P fs.toList 0 (P.cellsOf t)&&fs.toList.all λx=>DO P f x.type
  |some (.array n e)=>Nat.beq (n*P.cellsOf e) (P.cellsOf t)&&DO P f e
  |_=>false
def Lay (w:World)(cs:List Value)(H:St->List Value->Prop):Prop:= ∀m nx r,OldSt w m nx r-> ∃m' nx' r' us,OldSt w m' nx' r'/\Grow m nx r m' nx' r'/\VRs r' us cs/\H (stO m' nx') us
theorem Lay.plain {w:World}{cs:List Value}{H:St->List Value->Prop}(h: ∀v∈cs,plain v=true)(k: ∀s,H s cs):Lay w cs H:=λm nx r ho=>⟨m,nx,r,cs,ho, .refl _ _ _,VRs.plains h,k _⟩
theorem PV {w:World}{cs:List Value}{k:Nat}{H:St->List Value->Prop}(mono: ∀(s s':St) us,(∀b o l,Row s b o l->Row s' b o l)->H s us->H s' us): ∀n,n*k<=cs.length->(∀i,i<n->Lay w ((cs.drop (i*k)).take k) H)->Lay w (cs.take (n*k)) λs us=> ∀i,i<n->H s ((us.drop (i*k)).take k)
 |0,_,_=>λm nx r ho=>⟨m,nx,r,[],ho, .refl _ _ _,by rw[Nat.zero_mul];exact VRs.nil,λi hi=>absurd hi (Nat.not_lt_zero i)⟩
 |n+1,hl,h=>λm nx r ho=>by
  have hnk:(n+1)*k=n*k+k:=Nat.succ_mul n k
  obtain⟨m1,nx1,r1,us1,ho1,g1,v1,h1⟩:=PV mono n J (λi hi=>h i J) m nx r ho
  obtain⟨m2,nx2,r2,us2,ho2,g2,v2,h2⟩:=h n J m1 nx1 r1 ho1
  have l1:us1.length=n*k:=by rw[v1.1,List.length_take];omega
  have l2:us2.length=k:=by rw[v2.1,List.length_take,List.length_drop];omega
  refine⟨m2,nx2,r2,us1++us2,ho2,g1.trans g2, ?_,λi hi=> ?_⟩
  ·have e:cs.take ((n+1)*k)=cs.take (n*k)++(cs.drop (n*k)).take k:=by
    rw[hnk,List.take_add]
   rw[e]
   exact(v1.mono g2.le).append v2
  ·rcases Nat.lt_or_ge i n with hin|hin
   ·have hik:i*k+k<=n*k:=by
     have:=Nat.mul_le_mul_right k (show i+1<=n by omega)
     rw[Nat.succ_mul]at this
     exact this
    have e:((us1++us2).drop (i*k)).take k=(us1.drop (i*k)).take k:=by
     rw[List.drop_append_of_le_length J,List.take_append_of_le_length (by rw[List.length_drop];omega)]
    rw[e]
    exact mono _ _ _ (λb o l q=>g2.row q) (h1 i hin)
   ·have:i=n:=J
    subst this
    have e:((us1++us2).drop (i*k)).take k=us2:=by
     rw[List.drop_left' l1,List.take_of_length_le J]
    rw[e]
    exact h2
theorem My_ {P:Program}: ∀{l:List Field} {o z:Nat},Fi P l o z=true->o<=z
 |[],o,z,h=>Nat.le_of_eq (Nat.eq_of_beq_eq_true h)
 |x::l,o,z,h=>by
  have h':(Nat.beq x.offset o&&Fi P l (o+P.cellsOf x.type) z)=true:=h
  rw[Bool.and_eq_true]at h'
  have:=My_ h'.2
  omega
theorem De_ {P:Program}: ∀{l:List Field} {o z:Nat},Fi P l o z=true-> ∀x∈l,o<=x.offset
 |[],_,_,_,x,hx=>by cases hx
 |y::l,o,z,h,x,hx=>by
  have h':(Nat.beq y.offset o&&Fi P l (o+P.cellsOf y.type) z)=true:=h
  rw[Bool.and_eq_true]at h'
  rcases List.mem_cons.1 hx with rfl|hx
  ·exact Nat.le_of_eq (Nat.eq_of_beq_eq_true h'.1).symm
  ·have:=De_ h'.2 x hx
   omega
theorem Mc_ {P:Program}{N:Nat}{w:World}{cs:List Value}{F:Nat}: ∀(l:List Field) (o:Nat),Fi P l o cs.length=true->(∀x∈l,Lay w ((cs.drop x.offset).take (P.cellsOf x.type)) λs us=>AI P N s F x.type us)->
  Lay w (cs.drop o) λs us=> ∀x∈l,AI P N s F x.type ((us.drop (x.offset-o)).take (P.cellsOf x.type))
 |[],o,ht,_=>λm nx r ho=>by
  have:o=cs.length:=Nat.eq_of_beq_eq_true ht
  exact⟨m,nx,r,[],ho, .refl _ _ _,by rw[this,List.drop_length];exact VRs.nil,λx hx=>by cases hx⟩
 |x::l,o,ht,h=>λm nx r ho=>by
  have ht':(Nat.beq x.offset o&&Fi P l (o+P.cellsOf x.type) cs.length)=true:=ht
  rw[Bool.and_eq_true]at ht'
  have ho':x.offset=o:=Nat.eq_of_beq_eq_true ht'.1
  have hz:=My_ ht'.2
  have hge:=De_ ht'.2
  obtain⟨m1,nx1,r1,us1,ho1,g1,v1,h1⟩:=h x am m nx r ho
  obtain⟨m2,nx2,r2,us2,ho2,g2,v2,h2⟩:=Mc_ l (o+P.cellsOf x.type) ht'.2 (λy hy=>h y (by simp[hy])) m1 nx1 r1 ho1
  rw[ho']at v1
  have l1:us1.length=P.cellsOf x.type:=by rw[v1.1,List.length_take,List.length_drop];omega
  refine⟨m2,nx2,r2,us1++us2,ho2,g1.trans g2, ?_,λy hy=> ?_⟩
  ·have e:cs.drop o=(cs.drop o).take (P.cellsOf x.type)++cs.drop (o+P.cellsOf x.type):=by
    rw[<-List.drop_drop,List.take_append_drop]
   rw[e]
   exact(v1.mono g2.le).append v2
  ·rcases List.mem_cons.1 hy with rfl|hy
   ·have e:((us1++us2).drop (y.offset-o)).take (P.cellsOf y.type)=us1:=by
     rw[ho',Nat.sub_self,List.drop_zero,List.take_left' l1]
    rw[e]
    exact AI.mono (λb o l q=>g2.row q) _ _ _ h1
   ·have hoy:=hge y hy
    have e:(us1++us2).drop (y.offset-o)=us2.drop (y.offset-(o+P.cellsOf x.type)):=by
     rw[List.drop_append,List.drop_of_length_le J,List.nil_append,l1]
     congr 1
     omega
    rw[e]
    exact h2 y hy
theorem LL_ {α β:Type}{f:α->Option β}: ∀{xs:List α} {l:List β},xs.mapM f=some l->l.length=xs.length/\ ∀(i:Nat) (x:α),xs[i]?=some x->f x=l[i]?
 |[],l,h=>by
  have:l=[]:=by simpa using h.symm
  subst this
  exact⟨rfl,λi x e=>by simp at e⟩
 |x::xs,l,h=>by
  rw[List.mapM_cons]at h
  cases hf:f x with
  |none=>rw[hf]at h;cases h
  |some y=>
   rw[hf]at h
   cases hx:xs.mapM f with
   |none=>rw[hx]at h;cases h
   |some ys=>
    rw[hx]at h
    cases h
    obtain⟨h1,h2⟩:=LL_ hx
    refine⟨by simp[h1],λi z e=> ?_⟩
    cases i with
    |zero=>
     have:x=z:=by simpa using e
     subst this
     exact hf
    |succ i=>exact h2 i z (by simpa using e)
theorem QJ {w:World}{base k:Nat}{a:Addr}{l:List Value}(h:w.cells? base a k=some l):l.length=k/\ ∀j,j<k->w.cell? (a.add j)=l[j]?:=by
 unfold World.cells? at h
 split at h
 ·obtain⟨h1,h2⟩:=LL_ h
  rw[List.length_range]at h1
  exact⟨h1,λj hj=>h2 j j (by simp[hj])⟩
 ·cases h
theorem Aqw_ {w:World}{a:Addr}{v:Value}(h:w.cell? a=some v):a.spot=none/\a.block<w.heap.size:=by
 unfold World.cell? at h
 cases hq:w.heap[a.block]? with
 |none=>simp only[hq]at h;cases h
 |some c=>
  refine⟨?_,(Array.getElem?_eq_some_iff.1 hq).1⟩
  cases hsp:a.spot with
  |none=>rfl
  |some x=>cases c<;>simp[hq,hsp]at h
theorem Oq (b o n:Nat):(⟨b,o,none⟩:Addr).add n=⟨b,o+n,none⟩:=by
 unfold Addr.add
 split
 ·rename_i h;rw[h];rfl
 ·rfl
theorem Qx_ {a:Addr}{n:Nat}(hs:a.spot=none):a.add n=⟨a.block,a.off+n,none⟩:=by
 obtain⟨b,o,s⟩:=a
 cases hs
 exact Oq b o n
mutual
def lensOk {H:Type}(N:Nat):DataW H->Prop
 | .lit (.string l)=>l.length<=N
 | .slice es _=>es.length<=N/\F5 N es
 | .agg ps=>F5 N ps
 |_=>True
def F5 {H:Type}(N:Nat):List (DataW H)->Prop
 |[]=>True
 |d::r=>lensOk N d/\F5 N r
end
theorem Iz {H:Type}{N:Nat}: ∀{l:List (DataW H)},F5 N l-> ∀d∈l,lensOk N d
 |[],_,d,hd=>by cases hd
 |x::l,h,d,hd=>by
  rcases List.mem_cons.1 hd with rfl|hd
  ·exact h.1
  ·exact Iz h.2 d hd
theorem IN {H:Type}{enc:TypeId×Value->H}{P:Program}{N:Nat}{w:World}{b0:Nat}{sp:Nat->Bool}{held:Bool}: ∀(F f:Nat) (t:TypeId) (cs:List Value) (y:DataW H×List MemPlace),DO P F t=true->(maxLen<=N\/lensOk N y.1)->DataW.trod enc P w b0 sp held f t cs=some y->Lay w cs λs us=>AI P N s F t us
 |0,_,_,_,_,hf,_,_=>by cases hf
 |F+1,f,t,cs,y,hf,hN,h=>by
  unfold DO at hf
  cases hu:P.underlying t with
  |none=>rw[hu]at hf;cases hf
  |some u=>
   rw[hu]at hf
   cases u<;>try (cases hf;done)
   case bool=>
    obtain⟨b,rfl,_⟩:=DataW.trod_bool hu h
    refine Lay.plain (λv hv=>by rw[List.mem_singleton.1 hv];rfl) λs=> ?_
    unfold AI
    rw[hu]
    exact⟨b,rfl⟩
   case int k=>
    obtain⟨n,rfl,_,hw⟩:=DataW.trod_int hu h
    refine Lay.plain (λv hv=>by rw[List.mem_singleton.1 hv];rfl) λs=> ?_
    unfold AI
    rw[hu]
    exact⟨n,rfl,hw⟩
   case string=>
    obtain⟨x,rfl,rfl,hs⟩:=DataW.trod_string hu h
    refine Lay.plain (λv hv=>by rw[List.mem_singleton.1 hv];rfl) λs=> ?_
    unfold AI
    rw[hu]
    exact⟨x,rfl,hs,by
     rcases hN with hN|hN
     ·omega
     ·have:x.data.toList.length<=N:=hN
      simpa using this⟩
   case struct fs=>
    rw[Bool.and_eq_true]at hf
    obtain⟨xs,n,_,rfl,hl,_,hx⟩:=DataW.trod_struct hu h
    have hall: ∀x∈fs.toList,Lay w ((cs.drop x.offset).take (P.cellsOf x.type)) λs us=>AI P N s F x.type us:=λx hxm=>by
     obtain⟨i,hi⟩:=List.getElem?_of_mem hxm
     have hi':fs[i]?=some x:=by rw[<-Array.getElem?_toList];exact hi
     have hd:=hx i x hi'
     have hfl:DO P F x.type=true:=List.all_eq_true.1 hf.2 x hxm
     cases hz:DataW.trod enc P w b0 sp held n x.type ((cs.drop x.offset).take (P.cellsOf x.type))with
     |none=>
      rw[hz]at hd
      have h1:=(Array.getElem?_eq_some_iff.1 hi').1
      have h2:=List.getElem?_eq_none_iff.1 hd.symm
      omega
     |some z=>
      rw[hz]at hd
      exact IN F n _ _ z hfl (hN.imp id λq=>Iz q _ (List.mem_map.2 ⟨z,List.mem_of_getElem? hd.symm,rfl⟩)) hz
    intro m nx r ho
    obtain⟨m',nx',r',us,k1,k2,k3,k4⟩:=Mc_ (F:=F) fs.toList 0 (by rw[hl];exact hf.1) hall m nx r ho
    rw[List.drop_zero]at k3
    refine⟨m',nx',r',us,k1,k2,k3, ?_⟩
    unfold AI
    rw[hu]
    exact⟨by rw[k3.1,hl],λx hx=>by have:=k4 x hx;rwa [Nat.sub_zero]at this⟩
   case array n e=>
    rw[Bool.and_eq_true]at hf
    have hsz:n*P.cellsOf e=P.cellsOf t:=Nat.eq_of_beq_eq_true hf.1
    obtain⟨xs,m1,_,rfl,hl,hxl,hx⟩:=DataW.trod_array hu h
    intro m nx r ho
    obtain⟨m',nx',r',us,k1,k2,k3,k4⟩:=PV (w:=w) (cs:=cs) (k:=P.cellsOf e) (H:=λs us=>AI P N s F e us) (λs s' us hr hh=>AI.mono hr _ _ _ hh) n (by rw[hsz,hl];exact Nat.le_refl _) (λi hi=>by
     have hd:=hx i hi
     cases hz:DataW.trod enc P w b0 sp held m1 e ((cs.drop (i*P.cellsOf e)).take (P.cellsOf e))with
     |none=>
      rw[hz]at hd
      have h2:=List.getElem?_eq_none_iff.1 hd.symm
      omega
     |some z=>
      rw[hz]at hd
      exact IN F m1 _ _ z hf.2 (hN.imp id λq=>Iz q _ (List.mem_map.2 ⟨z,List.mem_of_getElem? hd.symm,rfl⟩)) hz) m nx r ho
    rw[hsz,<-hl,List.take_length]at k3
    refine⟨m',nx',r',us,k1,k2,k3, ?_⟩
    unfold AI
    rw[hu]
    exact⟨by rw[k3.1,hl],k4⟩
   case slice e=>
    rw[Bool.and_eq_true]at hf
    have hk:0<P.cellsOf e:=BF hf.1
    rcases DataW.trod_slice hu h with⟨rfl,_⟩|⟨a,len,cap,elems,rest,n,_,rfl,rfl,_,hlc,hcm,hel,hx,_,_⟩
    ·refine λm nx r ho=>⟨m,nx,r,[.slice none 0 0],ho, .refl _ _ _, .cons .slNil .nil, ?_⟩
     unfold AI
     rw[hu]
     exact .inl rfl
    ·by_cases h0:len=0
     ·subst h0
      refine λm nx r ho=>⟨m,nx,r,[.slice (some ⟨0,0,none⟩) 0 (capU*P.cellsOf e)],ho, .refl _ _ _, .cons (.slEnd (by rw[Nat.mul_div_cancel_left _ (by unfold capU;decide)];omega) (Nat.mul_mod_right _ _)) .nil, ?_⟩
      unfold AI
      rw[hu]
      exact .inr (.inl rfl)
     ·have hlN:len<=N:=by
       rcases hN with hN|hN
       ·omega
       ·have:=hN.1
        rw[List.length_map,hel]at this
        exact this
      have cells: ∀i,i<len-> ∃l z,w.cells? b0 (a.add (i*P.cellsOf e)) (P.cellsOf e)=some l/\DataW.trod enc P w b0 sp held n e l=some z/\z∈elems:=λi hi=>by
       have:=hx i hi
       rw[List.getElem?_eq_getElem J,Option.bind_eq_some_iff]at this
       obtain⟨l,h1,h2⟩:=this
       exact⟨l,_,h1,h2,List.getElem_mem _⟩
      have hspot:a.spot=none/\a.block<w.heap.size:=by
       obtain⟨l,z,h1,_⟩:=cells 0 J
       obtain⟨q1,q2⟩:=QJ h1
       have:=q2 0 hk
       rw[List.getElem?_eq_getElem J]at this
       rw[Nat.zero_mul]at this
       exact Aqw_ this
      have each: ∀j,∃v:Value,j<len*P.cellsOf e->w.cell? ⟨a.block,a.off+j,none⟩=some v:=λj=>by
       by_cases hj:j<len*P.cellsOf e
       ·have hi:j/P.cellsOf e<len:=by rw[Nat.div_lt_iff_lt_mul hk];exact hj
        obtain⟨l,z,h1,_⟩:=cells _ hi
        obtain⟨q1,q2⟩:=QJ h1
        have hm:j%P.cellsOf e<P.cellsOf e:=Nat.mod_lt _ hk
        have:=q2 _ hm
        rw[List.getElem?_eq_getElem J,Qx_ hspot.1,Oq]at this
        refine⟨l[j%P.cellsOf e]'J,λ_=> ?_⟩
        rw[<-this]
        have hdm:=Nat.div_add_mod j (P.cellsOf e)
        rw[Nat.mul_comm]at hdm
        congr 2
        omega
       ·exact⟨undef,λh=>absurd h hj⟩
      obtain⟨g,hg⟩:=Classical.axiomOfChoice each
      obtain⟨cs,hcs⟩: ∃cs:List Value,cs=(List.range (len*P.cellsOf e)).map g:=⟨_,rfl⟩
      have hcl:cs.length=len*P.cellsOf e:=by rw[hcs];simp
      have hcg: ∀j v,cs[j]?=some v->w.cell? ⟨a.block,a.off+j,none⟩=some v:=λj v e=>by
       rw[hcs,List.getElem?_map,Option.map_eq_some_iff]at e
       obtain⟨j',e1,e2⟩:=e
       have hj:=(List.getElem?_eq_some_iff.1 e1).1
       rw[List.length_range]at hj
       rw[List.getElem?_range hj]at e1
       cases e1
       rw[<-e2]
       exact hg _ hj
      intro m nx r ho
      obtain⟨m',nx',r',us,k1,k2,k3,k4⟩:=PV (w:=w) (cs:=cs) (k:=P.cellsOf e) (H:=λs us=>AI P N s F e us) (λs s' us hr hh=>AI.mono hr _ _ _ hh) len J (λi hi=>by
       obtain⟨l,z,h1,h2,h3⟩:=cells i hi
       obtain⟨q1,q2⟩:=QJ h1
       have el:(cs.drop (i*P.cellsOf e)).take (P.cellsOf e)=l:=by
        apply List.ext_getElem?
        intro j
        by_cases hj:j<P.cellsOf e
        ·have hjj:i*P.cellsOf e+j<cs.length:=by
          have:=Nat.mul_le_mul_right (P.cellsOf e) (show i+1<=len by omega)
          rw[Nat.succ_mul]at this
          omega
         rw[List.getElem?_take,if_pos hj,List.getElem?_drop,List.getElem?_eq_getElem hjj,<-q2 j hj,Qx_ hspot.1,Oq]
         have:=hcg _ _ (List.getElem?_eq_getElem hjj)
         rw[<-Nat.add_assoc]at this
         exact this.symm
        ·rw[List.getElem?_take,if_neg hj,List.getElem?_eq_none J]
       rw[el]
       exact IN F n _ _ z hf.2 (hN.imp id λq=>Iz q.2 _ (List.mem_map.2 ⟨z,h3,rfl⟩)) h2) m nx r ho
      rw[<-hcl,List.take_length]at k3
      have hul:us.length=len*P.cellsOf e:=by rw[k3.1,hcl]
      have hpos:0<us.length:=by rw[hul];exact Nat.mul_pos J hk
      obtain⟨r2,hr2⟩: ∃r2:Inj,r2=⟨λb=>if b=nx' then some (a.block,a.off)else r'.blk b,r'.ext,r'.known⟩:=⟨_,rfl⟩
      have hb2: ∀b,r2.blk b=if b=nx' then some (a.block,a.off)else r'.blk b:=λb=>by rw[hr2]
      have hle:r'.le r2:=⟨λb x e=>by
       rw[hb2,if_neg]
       ·exact e
       ·intro hb
        have:=(k1.hd b x.1 x.2 e).1
        omega,λt x e=>by rw[hr2];exact e,by rw[hr2]⟩
      have hget: ∀j,T.get (layT nx' us nx' m') j=if nx'<=j/\j<nx'+us.length then(us[j-nx']?).map (λv=> .O (.old nx' v))else T.get m' j:=λj=>Zq _ _ _ _ _
      have hgrow:Grow m' nx' r' (layT nx' us nx' m') (nx'+us.length+1) r2:=⟨hle,J,λl hl=>by rw[hget,if_neg J]⟩
      refine⟨layT nx' us nx' m',nx'+us.length+1,r2,[.slice (some ⟨nx',0,none⟩) len cap],⟨λloc c e=> ?_,λb b' d e=> ?_,λb=>by rw[hr2];exact k1.hx b,by rw[hr2];exact k1.hk⟩,k2.trans hgrow, ?_, ?_⟩
      ·rw[hget]at e
       split at e
       ·rename_i hin
        rw[Option.map_eq_some_iff]at e
        obtain⟨v,e1,rfl⟩:=e
        obtain⟨v',e2,e3⟩:=k3.get e1
        refine⟨J,nx',v,rfl,a.block,a.off,v',hin.1,by rw[hb2,if_pos rfl], ?_,e3.mono hle⟩
        have:=hcg _ _ e2
        rwa [Nat.add_comm a.off]at this
       ·obtain⟨h1,b,v,rfl,b',d,v',h2,h3,h4,h5⟩:=k1.ho loc c e
        exact⟨J,b,v,rfl,b',d,v',h2,hle.1 _ _ h3,h4,h5.mono hle⟩
      ·rw[hb2]at e
       split at e
       ·rename_i hb
        cases e
        exact⟨J,hspot.2⟩
       ·have:=k1.hd b b' d e
        exact⟨J,this.2⟩
      ·refine .cons ?_ .nil
       have hcu:cap<capU:=by
        have:cap<=9223372036854775807:=hcm
        unfold capU
        omega
       have:=VR.sl (r:=r2) (b:=nx') (o:=0) (b':=a.block) (d:=a.off) (l:=len) (c:=cap) (c':=cap) (by rw[hb2,if_pos rfl]) (.inl ⟨Nat.div_eq_of_lt hcu,rfl⟩) (by rw[Nat.mod_eq_of_lt hcu];exact hlc)
       rw[Nat.zero_add]at this
       obtain⟨b,o,s⟩:=a
       have hs:s=none:=hspot.1
       subst hs
       exact this
      ·unfold AI
       rw[hu]
       refine .inr (.inr ⟨nx',len,cap,rfl,J,hlc,hcm,hlN,λi hi=>⟨(us.drop (i*P.cellsOf e)).take (P.cellsOf e), ?_,λj v ej=> ?_,AI.mono (λb o l q=>hgrow.row q) _ _ _ (k4 i hi)⟩⟩)
       ·have:=Nat.mul_le_mul_right (P.cellsOf e) (show i+1<=len by omega)
        rw[Nat.succ_mul]at this
        rw[List.length_take,List.length_drop]
        omega
       ·have hj:=(List.getElem?_eq_some_iff.1 ej).1
        rw[List.length_take]at hj
        rw[List.getElem?_take,if_pos J,List.getElem?_drop]at ej
        have hjl:=(List.getElem?_eq_some_iff.1 ej).1
        refine⟨?_, .inr ?_⟩
        ·show nx'+(i*P.cellsOf e+j)<nx'+us.length+1
         omega
        ·show T.get (layT nx' us nx' m') (nx'+(i*P.cellsOf e+j))=_
         rw[hget,if_pos J,Nat.add_sub_cancel_left,ej]
         rfl
def aggT (P:Program)(t:TypeId):Bool:=match P.underlying t with
 |some (.struct _)|some (.array _ _)=>true
 |_=>false
def Lk (P:Program)(N:Nat)(s:St)(F:Nat)(t:TypeId)(u:Value):Prop:= ∃us,AI P N s F t us/\((aggT P t=true/\u= .agg us.toArray)\/(aggT P t=false/\us=[u]))
theorem AtG_ {P:Program}{w:World}{rc:Reach}{base F:Nat}{t:TypeId}{v:Value}(hf:DO P F t=true)(h:Value.okWide P w rc base t v):(aggT P t=true/\v= .agg v.cells)\/(aggT P t=false/\v.cells= #[v]):=by
 cases F with
 |zero=>cases hf
 |succ F=>
  unfold DO at hf
  unfold aggT
  cases hu:P.underlying t with
  |none=>rw[hu]at hf;cases hf
  |some u=>
   rw[hu]at hf
   unfold Value.okWide at h
   rw[hu]at h
   cases u<;>try (cases hf;done)
   case struct fs=>
    obtain⟨cs,rfl,_⟩:=h
    exact .inl ⟨rfl,rfl⟩
   case array n e=>
    obtain⟨cs,rfl,_⟩:=h
    exact .inl ⟨rfl,rfl⟩
   all_goals
    refine .inr ⟨rfl, ?_⟩
    simp only at h
    unfold Cell.okWide Cell.ok at h
    rw[hu]at h
    cases v<;>first|rfl|(simp at h)
theorem SD {H:Type}{enc:TypeId×Value->H}{P:Program}{w:World}{b0 base F N:Nat}{sp:Nat->Bool}{held:Bool}: ∀(ts:List TypeId) (vs:List Value) (ds:List (DataW H)) (ps:List MemPlace),DataW.TrodAll enc P w b0 sp held ts vs ds ps->(∀(j:Nat) t v,ts[j]?=some t->vs[j]?=some v->Value.okWide P w .any base t v)->ts.all (DO P F)=true->(maxLen<=N\/ ∀d∈ds,lensOk N d)->
  ∀m nx r,OldSt w m nx r-> ∃m' nx' r' us,OldSt w m' nx' r'/\Grow m nx r m' nx' r'/\VRs r' us vs/\us.length=ts.length/\ ∀(j:Nat) t u,ts[j]?=some t->us[j]?=some u->Lk P N (stO m' nx') F t u
 |[],[],_,_,_,_,_,_=>λm nx r ho=>⟨m,nx,r,[],ho, .refl _ _ _, .nil,rfl,λj t u e=>by simp at e⟩
 |[],_::_,ds,_,h,_,_,_=>by cases ds<;>exact h.elim
 |_::_,[],ds,_,h,_,_,_=>by cases ds<;>exact h.elim
 |t::ts,v::vs,[],_,h,_,_,_=>h.elim
 |t::ts,v::vs,d::ds,_,⟨p,q,⟨fuel,h1⟩,h2,_⟩,hv,hf,hN=>λm nx r ho=>by
  rw[List.all_cons,Bool.and_eq_true]at hf
  obtain⟨m1,nx1,r1,us,o1,g1,v1,k1⟩:=IN (N:=N) F fuel t _ _ hf.1 (hN.imp id λz=>z d am) h1 m nx r ho
  obtain⟨m2,nx2,r2,us2,o2,g2,v2,l2,k2⟩:=SD ts vs ds q h2 (λj t v e1 e2=>hv (j+1) t v e1 e2) hf.2 (hN.imp id λz d' hd=>z d' (by simp[hd])) m1 nx1 r1 o1
  have k1':=AI.mono (λb o l z=>g2.row z) _ _ _ k1
  rcases AtG_ hf.1 (hv 0 t v rfl rfl)with⟨ha,hc⟩|⟨ha,hc⟩
  ·refine⟨m2,nx2,r2, .agg us.toArray::us2,o2,g1.trans g2, .cons ?_ v2,by simp[l2],λj t' u e1 e2=> ?_⟩
   ·rw[hc]
    have:=(v1.mono g2.le).agg
    simpa using this
   ·cases j with
    |zero=>
     cases e1
     cases e2
     exact⟨us,k1', .inl ⟨ha,rfl⟩⟩
    |succ j=>exact k2 j t' u e1 e2
  ·rw[hc]at v1
   have hl:us.length=1:=v1.1
   obtain⟨u0,rfl⟩: ∃u0,us=[u0]:=by
    match us,hl with
    |[x],_=>exact⟨x,rfl⟩
   obtain⟨v',l',e0,e1,_⟩:=v1.inv
   have hv':v=v':=by
    have:[v]=v'::l':=e0
    cases this
    rfl
   subst hv'
   refine⟨m2,nx2,r2,u0::us2,o2,g1.trans g2, .cons (e1.mono g2.le) v2,by simp[l2],λj t' u e1 e2=> ?_⟩
   cases j with
   |zero=>
    cases e1
    cases e2
    exact⟨[u0],k1', .inr ⟨ha,rfl⟩⟩
   |succ j=>exact k2 j t' u e1 e2
theorem Abi_ {H:Type}{enc:TypeId×Value->H}{E:Env}(he:EnvOK E){fuel f F N base:Nat}{args:Array Value}{v:Value}{ts:List TypeId}{sp:Nat->Bool}{held:Bool}{ds:List (DataW H)}{ps:List MemPlace}{w:World}(ho:E.orc.get f=none)(hx:E.ext.get f=none)(hp:plain v=true)
  (hA:DataW.TrodAll enc E.P w 0 sp held ts args.toList ds ps) (hv: ∀(j:Nat) t v,ts[j]?=some t->args.toList[j]?=some v->Value.okWide E.P w .any base t v) (hf:ts.all (DO E.P F)=true) (hN:maxLen<=N\/ ∀d∈ds,lensOk N d)
  (run: ∀m nx us,us.length=ts.length->(∀(j:Nat) t u,ts[j]?=some t->us[j]?=some u->Lk E.P N (stO m nx) F t u)->W (Ac E (runF E fuel) f us) (stO m nx) λu _=>u=v):
  Calls E.P f args w λe w'=>e= .returned v/\Below w.heap.size w w':=by
 have h0:OldSt w .E 0 ⟨λ_=>none,λ_=>none, .no⟩:=⟨λloc c e=>(by cases e),λb b' d e=>(by cases e),λ_=>rfl,rfl⟩
 obtain⟨m,nx,r,us,o1,_,v1,l1,k1⟩:=SD ts args.toList ds ps hA hv hf hN .E 0 _ h0
 refine AlZ_ (r:=r) (s0:=stO m nx) he ho hx (run m nx us l1 k1) hp v1 (Rel.ofOld (by rw[o1.hk];exact Know.no_sure w) (λb b' d e=>(o1.hd b b' d e).2) λloc c e=>(o1.ho loc c e).2) (Nat.zero_le _) λb hb=>⟨?_,o1.hx b⟩
 cases hq:r.blk b with
 |none=>rfl
 |some x=>
  have:=(o1.hd b x.1 x.2 hq).1
  have hb':nx<=b:=hb
  omega
theorem H8 {α:Type}{n:Nat}{p:Nat->α->Prop}(h: ∀i,i<n-> ∃x,p i x): ∃l:List α,l.length=n/\ ∀i x,l[i]?=some x->p i x:=by
 induction n with
 |zero=>exact⟨[],rfl,λi x e=>by simp at e⟩
 |succ n ih=>
  obtain⟨l,h1,h2⟩:=ih λi hi=>h i J
  obtain⟨x,hx⟩:=h n J
  refine⟨l++[x],by simp[h1],λi y e=> ?_⟩
  rcases Nat.lt_or_ge i n with hi|hi
  ·rw[List.getElem?_append_left J]at e
   exact h2 i y e
  ·rw[List.getElem?_append_right J,h1]at e
   have:i=n:=by
    have:=(List.getElem?_eq_some_iff.1 e).1
    simp at this
    omega
   subst this
   rw[Nat.sub_self]at e
   cases e
   exact hx
theorem AqU_ {k:Nat}(hk:k<1024):Cc (capU*k) k=true:=by
 unfold Cc
 have hd:Nat.div (capU*k) capU=k:=Nat.mul_div_cancel_left k (by unfold capU;decide)
 have hm:Nat.mod k 1024=k:=Nat.mod_eq_of_lt hk
 rw[hd,hm,Nat.beq_refl]
 cases Nat.beq k 0<;>rfl
section
variable {P:Program}{s:St}{F N:Nat}{t e:TypeId}{us:List Value}
def ElS (s:St)(k:Nat)(v:Value)(es:List (List Value)):Prop:=(v= .slice none 0 0/\es=[])\/ ∃b c,v= .slice (some ⟨b,0,none⟩) es.length c/\es.length<=c%capU/\Cc c k=true/\ ∀i x,es[i]?=some x->Row s b (i*k) x
theorem AI.slice (ht:P.underlying t=some (.slice e))(hk:P.cellsOf e<1024)(h:AI P N s (F+1) t us): ∃v es,us=[v]/\ElS s (P.cellsOf e) v es/\es.length<=9223372036854775807/\es.length<=N/\ ∀x∈es,x.length=P.cellsOf e/\AI P N s F e x:=by
 unfold AI at h
 rw[ht]at h
 rcases h with rfl|rfl|⟨b,n,c,rfl,h1,h2,h3,h5,h4⟩
 ·exact⟨_,[],rfl, .inl ⟨rfl,rfl⟩,am,am,λx hx=>by cases hx⟩
 ·exact⟨_,[],rfl, .inr ⟨0,_,rfl,Nat.zero_le _,AqU_ hk,λi x e=>by simp at e⟩,am,am,λx hx=>by cases hx⟩
 ·obtain⟨l,l1,l2⟩:=H8 h4
  have h3':c<=9223372036854775807:=h3
  have hcu:c<capU:=by unfold capU;omega
  refine⟨_,l,rfl, .inr ⟨b,c,by rw[l1],by rw[l1,Nat.mod_eq_of_lt hcu];exact h2,ER hcu,λi x e=>(l2 i x e).2.1⟩,J,J,λx hx=> ?_⟩
  obtain⟨i,hi⟩:=List.getElem?_of_mem hx
  exact⟨(l2 i x hi).1,(l2 i x hi).2.2⟩
end
section
variable {s s':St}{E:Env}{t t2:Nat}
def MkS (s:St)(sz n:Nat)(l:List Value)(v:Value)(b:Nat):Prop:=(v= .slice none 0 0/\n=0/\l=[])\/(Marked s sz n l v b/\0<n)
def MkF (sz n b:Nat)(x:Nat):Prop:=0<n/\In b 0 (n*sz+1) x
theorem MkS.ext {F G:Nat->Prop}{sz n:Nat}{l:List Value}{v:Value}{b:Nat}(h:MkS s sz n l v b)(e:Ext F G s s')(hG: ∀x,MkF sz n b x-> ¬G x):MkS s' sz n l v b:=by
 rcases h with h|⟨h,h0⟩
 ·exact .inl h
 ·exact .inr ⟨h.ext e λx hx=>hG x ⟨h0,hx⟩,h0⟩
theorem MkS.ext0 {F:Nat->Prop}{sz n:Nat}{l:List Value}{v:Value}{b:Nat}(h:MkS s sz n l v b)(e:Ext F Non s s'):MkS s' sz n l v b:=h.ext e λ_ _=>id
theorem MkS.same {sz n:Nat}{l:List Value}{v:Value}{b:Nat}(h:MkS s sz n l v b)(hm:s'.mem=s.mem)(hn:s'.next=s.next):MkS s' sz n l v b:=by
 rcases h with h|⟨h,h0⟩
 ·exact .inl h
 ·exact .inr ⟨h.same hm hn,h0⟩
theorem MkS.lt {sz n:Nat}{l:List Value}{v:Value}{b:Nat}(h:MkS s sz n l v b): ∀x,MkF sz n b x->x<s.next:=by
 intro x hx
 rcases h with⟨_,h0,_⟩|⟨h,_⟩
 ·have:=hx.1;omega
 ·have h1:=h.lt
  have h2:x<b+0+(n*sz+1):=hx.2.2
  omega
theorem MkS.sl {sz n:Nat}{l:List Value}{v:Value}{b:Nat}(h:MkS s sz n l v b): ∃p c,v= .slice p n c:=by
 rcases h with⟨rfl,rfl,_⟩|⟨h,_⟩
 ·exact⟨_,_,rfl⟩
 ·exact⟨_,_,h.val⟩
theorem bA (hbd:s.lim<=s.next){sz by' n len b:Nat}{z l old:List Value}{v x:Value}{F:Nat->Prop}{Q:Value->St->Prop}{g:Bool}(ht:appT E t t2=some (sz,by',g,z))(hm:MkS s sz len old v b)(hx:SrcG s sz by' g z x n l F)(hn:0<n)(hs0:0<sz)(hs1:sz<1024)
  (hb:(len+n)*(by'+1)<=16777216) (hl:l.length=n*sz) (h1:l.all oneCell=true)
  (q: ∀s2 v2 b2,s.next<=b2->MkS s2 sz (len+n) (old++l) v2 b2->Ext (λx=>F x\/MkF sz len b x) (MkF sz len b) s s2->Q v2 s2):W (CK E t t2 v x) s Q:=by
 rcases hm with⟨rfl,rfl,rfl⟩|⟨hm,h0⟩
 ·rw[Nat.zero_add]at hb
  refine W.appNil hbd ht hx hn hs0 hs1 hb hl h1 λs2 v2 b2 hf xf=> ?_
  refine q s2 v2 b2 hf.new (.inr ⟨?_,J⟩) (xf.weak hbd (λ_ _ h=> .inl h) λ_ _ h=>h.elim)
  rw[Nat.zero_add]
  exact hf.marked
 ·refine W.appMark hbd ht hm hx hn h0 hs0 hs1 hb hl h1 λs2 v2 b2 hf xf=> ?_
  exact q s2 v2 b2 hf.new (.inr ⟨hf.marked,J⟩) (xf.weak hbd (λ_ _ h=>h.elim .inl λh=> .inr ⟨h0,h⟩) λ_ _ h=>⟨h0,h⟩)
end
section
variable {s s':St}{E:Env}{t t2:Nat}{xo yo:Operand}
theorem Aui_ (m n:Nat)(hn:1<=n):Cl.get (aBin E .rem t xo yo) (.int .u32 (m:Nat)) (.int .u32 (n:Nat)) s= .some (.int .u32 (m%n:Nat)) s:=by
 show int3 remK (AP E .rem t xo yo) (.int .u32 (.ofNat m)) (.int .u32 (.ofNat n)) s=_
 show Option.rec (motive:=λ_=>R Value) _ (λv=> .some v s) (remK .u32 .u32 m n)=_
 have:remK .u32 .u32 m n=some (.int .u32 (m%n:Nat)):=by
  unfold remK BO sOpt
  rw[Nat.beq_refl,Nat.ble_eq_true_of_le hn]
  show mkI .u32 (Nat.mod m n)=_
  unfold mkI
  rw[AB]
  rfl
 rw[this]
theorem MB_ {m:Nat}(Q:Value->St->Prop):W (Cl.get (aBin E .rem t xo yo) (.int .u32 (m:Nat)) (.int .u32 2)) s Q=Q (.int .u32 (m%2:Nat)) s:=AD (Aui_ m 2 al)
def EmS (s:St)(sz n:Nat)(l:List Value)(v:Value)(b:Nat):Prop:=(v= .slice (some ⟨b,0,none⟩) 0 0/\n=0/\l=[])\/(Marked s sz n l v b/\0<n)
theorem EmS.same {sz n:Nat}{l:List Value}{v:Value}{b:Nat}(h:EmS s sz n l v b)(hm:s'.mem=s.mem)(hn:s'.next=s.next):EmS s' sz n l v b:=by
 rcases h with h|⟨h,h0⟩
 ·exact .inl h
 ·exact .inr ⟨h.same hm hn,h0⟩
theorem EmS.row {sz n:Nat}{l:List Value}{v:Value}{b:Nat}(h:EmS s sz n l v b): ∃c,v= .slice (some ⟨b,0,none⟩) n c/\Row s b 0 l:=by
 rcases h with⟨rfl,rfl,rfl⟩|⟨h,_⟩
 ·exact⟨_,rfl,λi u e=>by simp at e⟩
 ·exact⟨_,h.val,h.own.row⟩
theorem W.appE (hbd:s.lim<=s.next){sz by' n len b:Nat}{z l old:List Value}{v x:Value}{F:Nat->Prop}{Q:Value->St->Prop}{g:Bool}(ht:appT E t t2=some (sz,by',g,z))(hm:EmS s sz len old v b)(hx:SrcG s sz by' g z x n l F)(hs0:0<sz)(hs1:sz<1024)
  (hb:(len+n)*(by'+1)<=16777216) (hl:l.length=n*sz) (h1:l.all oneCell=true)
  (q: ∀s2 v2 b2,(b2=b\/s.next<=b2)->EmS s2 sz (len+n) (old++l) v2 b2->Ext (λx=>F x\/MkF sz len b x) (MkF sz len b) s s2->Q v2 s2):W (CK E t t2 v x) s Q:=by
 by_cases hn:n=0
 ·subst hn
  have hl0:l=[]:=List.eq_nil_of_length_eq_zero (by rw[hl,Nat.zero_mul])
  subst hl0
  have hno: ∀(o:Nat) x,In b o (0*sz) x->False:=λo x h=>by
   have h1:=h.1
   have h2:=h.2
   rw[Nat.zero_mul]at h2
   omega
  have hle: ∀c,v= .slice (some ⟨b,0,none⟩) len c->len<=c%capU:=λc hc=>by
   rcases hm with⟨e,rfl,_⟩|⟨hm,_⟩
   ·exact Nat.zero_le _
   ·have e:=hm.val
    rw[e]at hc
    have h2:len<capU:=by
     have:len*1<=(len+0)*(by'+1):=Nat.mul_le_mul J J
     unfold capU
     omega
    injection hc with _ _ hc
    rw[<-hc,Nat.mul_add_mod,Nat.mod_eq_of_lt h2]
    exact Nat.le_refl _
  obtain⟨c,rfl,_⟩:=hm.row
  refine W.appIn ht hx (by have:=hle c rfl;omega) hl h1 (λi hi=>by rw[Nat.zero_mul]at hi;omega) λs2 n2 x2 _=> ?_
  have x3:Ext (λx=>F x\/MkF sz len b x) (MkF sz len b) s s2:=x2.weak hbd (λy _ h=>h.elim .inl λh=>(hno _ y h).elim) λy _ h=>(hno _ y h).elim
  refine q s2 _ b (.inl rfl) ?_ x3
  rw[List.append_nil,Nat.add_zero]
  have x4:Ext (λx=>F x\/MkF sz len b x) Non s s2:=x2.weak hbd (λy _ h=>h.elim .inl λh=>(hno _ y h).elim) λy _ h=>hno _ y h
  rcases hm with hm|⟨hm,h0⟩
  ·exact .inl hm
  ·exact .inr ⟨hm.ext x4 λ_ _=>id,h0⟩
 ·have hn0:0<n:=J
  rcases hm with⟨rfl,rfl,rfl⟩|⟨hm,h0⟩
  ·rw[Nat.zero_add]at hb
   refine W.appEmp hbd ht hx hn0 hs0 hs1 hb hl h1 λs2 v2 b2 hf xf=> ?_
   refine q s2 v2 b2 (.inr hf.new) (.inr ⟨?_,J⟩) (xf.weak hbd (λ_ _ h=> .inl h) λ_ _ h=>h.elim)
   rw[Nat.zero_add]
   exact hf.marked
  ·refine W.appMark hbd ht hm hx hn0 h0 hs0 hs1 hb hl h1 λs2 v2 b2 hf xf=> ?_
   exact q s2 v2 b2 (.inr hf.new) (.inr ⟨hf.marked,J⟩) (xf.weak hbd (λ_ _ h=>h.elim .inl λh=> .inr ⟨h0,h⟩) λ_ _ h=>⟨h0,h⟩)
end
theorem BV (l:List Value):cellsOf (.agg l.toArray)=l:=rfl
abbrev Any:Nat->Prop:=λ_=>True
theorem Ext.any {F G:Nat->Prop}{s s1:St}(h:Ext F G s s1)(hb:s.lim<=s.next):Ext Any G s s1:=h.weak hb (λ_ _ _=>trivial) λ_ _ h=>h
theorem Ext.then0 {F:Nat->Prop}{s s1 s2:St}(h:Ext Any Non s s1)(k:Ext F Non s1 s2)(hb:s.lim<=s.next):Ext Any Non s s2:=h.trans k hb (λ_ _ _=>trivial) λ_ _ h=>h
theorem Ext.thenRd {s s1:St}(h:Ext Any Non s s1)(hb:s.lim<=s.next)(l:Nat):Ext Any Non s (s1.rdN l):=h.then0 (Ext.rdN (F:=Any) s1 l λ_=>trivial) hb
theorem Ext.thenW {F:Nat->Prop}{s s1 s2:St}{b o n:Nat}(h:Ext Any Non s s1)(k:Ext F (In b o n) s1 s2)(hb:s.lim<=s.next)(hn:s.next<=b):Ext Any Non s s2:=h.trans k hb (λ_ _ _=>trivial) λy hy hq=>by
 have h1:=hq.1
 have h2:y<s.next:=hy
 omega
theorem Ext.cx' {F G:Nat->Prop}{s s1:St}{c:Ctx}(x:Ext F G (s.cxN c) s1):Ext F G s (s1.cxN s.cx):=⟨x.nxt,x.lim,rfl,x.mem,x.rd,x.wr⟩
section
variable {E:Env}{t:Nat}{s:St}{xo yo:Operand}
end
def Jx (P:Program)(t:TypeId)(l:List (TypeId×Nat)):Bool:=match P.underlying t with
 |some (.struct fs)=>decide (fs.toList.map (λx=>(x.type,x.offset))=l)
 |_=>false
theorem AI.struct {P:Program}{N F:Nat}{s:St}{t:TypeId}{us:List Value}{l:List (TypeId×Nat)}(hb:Jx P t l=true)(h:AI P N s (F+1) t us):us.length=P.cellsOf t/\ ∀x∈l,AI P N s F x.1 ((us.drop x.2).take (P.cellsOf x.1)):=by
 unfold Jx at hb
 unfold AI at h
 cases hu:P.underlying t with
 |none=>rw[hu]at hb;cases hb
 |some u=>
  rw[hu]at hb h
  cases u<;>try (cases hb;done)
  have e:=of_decide_eq_true hb
  refine⟨h.1,λx hx=> ?_⟩
  rw[<-e]at hx
  obtain⟨y,hy,rfl⟩:=List.mem_map.1 hx
  exact h.2 y hy
theorem AI.string' {P:Program}{N F:Nat}{s:St}{t:TypeId}{us:List Value}(hu:P.underlying t=some .string)(h:AI P N s (F+1) t us): ∃x:ByteArray,us=[.string x]:=by
 unfold AI at h
 rw[hu]at h
 obtain⟨x,e,_⟩:=h
 exact⟨x,e⟩
theorem AI.int' {P:Program}{N F:Nat}{s:St}{t:TypeId}{k:IntKind}{us:List Value}(hu:P.underlying t=some (.int k))(h:AI P N s (F+1) t us): ∃n,us=[.int k n]/\(Lit.int k n).wf=true:=by
 unfold AI at h
 rw[hu]at h
 exact h
theorem Lk.one {P:Program}{N F:Nat}{s:St}{t:TypeId}{u:Value}(hb:aggT P t=false)(h:Lk P N s F t u):AI P N s F t [u]:=by
 obtain⟨us,h1,⟨h2,_⟩|⟨_,rfl⟩⟩:=h
 ·rw[hb]at h2;cases h2
 ·exact h1
def Wp {α:Type}(m:M α)(s:St)(P:List PanicEntry->St->Prop):Prop:= ∃c s',m s= .pan c s'/\P c s'
section
variable {α β:Type}{s:St}{P:List PanicEntry->St->Prop}
theorem Wp.mono {m:M α}{P':List PanicEntry->St->Prop}(h:Wp m s P)(k: ∀c s',P c s'->P' c s'):Wp m s P':=let ⟨c,s',e,q⟩:=h;⟨c,s',e,k c s' q⟩
theorem Wp.bind1 {m:M α}{f:α->M β}(h:Wp m s P):Wp (M.bind m f) s P:=by
 obtain⟨c,s',e,q⟩:=h
 refine⟨c,s', ?_,q⟩
 unfold M.bind
 rw[e]
theorem Wp.bind {m:M α}{f:α->M β}(h:W m s λa s1=>Wp (f a) s1 P):Wp (M.bind m f) s P:=by
 obtain⟨a,s1,e,c,s2,e2,q⟩:=h
 refine⟨c,s2, ?_,q⟩
 unfold M.bind
 rw[e]
 exact e2
theorem Wp.panic {t:Nat}{x:Value}(q:P [{v:= .iface t x,recovered:=false}] s):Wp (Ic (.iface t x)) s P:=⟨_,_,rfl,q⟩
theorem Wp.cast {m m':M α}(e:m s=m' s)(h:Wp m' s P):Wp m s P:=by
 obtain⟨c,s',e',q⟩:=h
 exact⟨c,s',e.trans e',q⟩
end
def HM (ds:List Nat)(tm:T Value):T Value:=List.rec (motive:=λ_=>T Value) tm (λd _ t=>aW t d) ds
theorem RegEq.p {E:Env}{n f nt g:Nat}{s:St}{tm:T Value}{T P:List Item}{ki:CallKind}{nice:Env->Ai->Ai->Am.T Value->M (Am.T Value)}{Q:Value×FrameMode->St->Prop}(q:RegEq f nt g P nice)(ht:skim 64 T=P)(hn:0<n)
  (h:Wp (nice E (Ac E (runF E (n-1))) (AS (runF E (n-1))) tm) s λc s1=>W (runF E (n-1) ⟨f,nt,g,HM (dsC (hdC P)) tm,P, .panicking c,ki,none⟩) s1 Q):W (runF E n ⟨f,nt,g,tm,T, .run,ki,none⟩) s Q:=by
 obtain⟨m,rfl⟩: ∃m,n=m+1:=⟨n-1,J⟩
 rw[Nat.add_sub_cancel]at h
 obtain⟨c,s1,e,hq⟩:=h
 have ht':=ht
 rw[q.hd]at ht'
 refine W.code ht' (W.cast (q.eq E _ _ _ _ _ _ _ _) ⟨.go ⟨f,nt,g,HM (dsC (hdC P)) tm, .code (hdC P)::P.tail, .panicking c,ki,none⟩,s1, ?_, ?_⟩)
 ·unfold regF
  simp only[e]
  rfl
 ·rw[<-q.hd]
  exact hq
section
variable {E:Env}{n f nt g:Nat}{s:St}{tm:T Value}{T P:List Item}{ki:CallKind}{R:List PanicEntry->St->Prop}
theorem Wp.run {fr:AF}(h:W (D4 E (Ac E (runF E n)) (AS (runF E n)) (Co E (runF E n)) fr) s λp s1=>Wp (Ff (runF E n) p) s1 R):Wp (runF E (n+1) fr) s R:=Wp.bind h
theorem Wp.code {k:List Item}{c:Code}{todo:List Item}{ro:Option Nat}(ht:skim 64 todo= .code c::k)
  (h:W (codeF E (Ac E (runF E n)) (AS (runF E n)) ⟨f,nt,g,tm, .code c::k, .run,ki,ro⟩ k c) s λp s1=>Wp (Ff (runF E n) p) s1 R):Wp (runF E (n+1) ⟨f,nt,g,tm,todo, .run,ki,ro⟩) s R:=by
 refine Wp.run ?_
 show W (noP (Fd E (Ac E (runF E n)) (AS (runF E n)) ⟨f,nt,g,tm,skim 64 todo, .run,ki,ro⟩ (skim 64 todo))) s _
 rw[ht]
 exact W.np h
theorem RegEq.wp {nice:Env->Ai->Ai->Am.T Value->M (Am.T Value)}{ro:Option Nat}(q:RegEq f nt g P nice)(ht:skim 64 T=P)(hn:0<n)
  (h:W (nice E (Ac E (runF E (n-1))) (AS (runF E (n-1))) tm) s λtm s1=>Wp (runF E (n-1) ⟨f,nt,g,tm,P.tail, .run,ki,ro⟩) s1 R):Wp (runF E n ⟨f,nt,g,tm,T, .run,ki,ro⟩) s R:=by
 obtain⟨m,rfl⟩: ∃m,n=m+1:=⟨n-1,J⟩
 rw[Nat.add_sub_cancel]at h
 rw[q.hd]at ht
 refine Wp.code ht (W.cast (q.eq E _ _ _ _ _ _ _ _) ?_)
 obtain⟨tm',s1,e,hq⟩:=h
 refine⟨.go ⟨f,nt,g,tm',P.tail, .run,ki,ro⟩,s1, ?_,hq⟩
 unfold regF
 simp only[e]
 rfl
theorem RegEq.pp {nice:Env->Ai->Ai->Am.T Value->M (Am.T Value)}{up:Option FrameMode}(q:RegEq f nt g P nice)(ht:skim 64 T=P)(hn:1<n)
  (h:Wp (nice E (Ac E (runF E (n-1))) (AS (runF E (n-1))) tm) s λc s1=>s1.cx= .cx up (some [])/\R c s1):Wp (runF E n ⟨f,nt,g,tm,T, .run,ki,none⟩) s R:=by
 obtain⟨m,rfl⟩: ∃m,n=m+2:=⟨n-2,J⟩
 rw[show m+2-1=m+1 by omega]at h
 obtain⟨c,s1,e,hcx,hq⟩:=h
 have ht':=ht
 rw[q.hd]at ht'
 refine Wp.code ht' (W.cast (q.eq E _ _ _ _ _ _ _ _) ⟨.go ⟨f,nt,g,HM (dsC (hdC P)) tm, .code (hdC P)::P.tail, .panicking c,ki,none⟩,s1, ?_, ?_⟩)
 ·unfold regF
  simp only[e]
  rfl
 ·refine⟨c,s1, ?_,hq⟩
  obtain⟨mem,next,lim,rd,wr,cx⟩:=s1
  have hcx':cx= .cx up (some []):=hcx
  subst hcx'
  rfl
theorem Wp.cond {t:Nat}{ro:Option Nat}{v:Bool}(ht:skim 64 T=P)(hx:Aj P=some t)(hv:Am.T.get tm t=some (.bool v))(hn:0<n)
  (h1:v=true->Wp (runF E (n-1) ⟨f,nt,g,tm,brT P, .run,ki,ro⟩) s R) (h2:v=false->Wp (runF E (n-1) ⟨f,nt,g,tm,brF P, .run,ki,ro⟩) s R):Wp (runF E n ⟨f,nt,g,tm,T, .run,ki,ro⟩) s R:=by
 obtain⟨m,rfl⟩: ∃m,n=m+1:=⟨n-1,J⟩
 rw[Nat.add_sub_cancel]at h1 h2
 unfold Aj at hx
 split at hx
 ·rename_i t' a b k
  cases hx
  refine Wp.code ht ?_
  show W (M.on (Am.T.get tm t) (GT ⟨f,nt,g,tm, .code (.cond (.tmp t) a b)::k, .run,ki,ro⟩ a b k)) s _
  refine W.on hv ?_
  cases v with
  |true=>exact W.pure (h1 rfl)
  |false=>exact W.pure (h2 rfl)
 ·cases hx
theorem Wp.within {α:Type}{c:Ctx}{m:M α}(h:Wp m (s.cxN c) λa s1=>R a (s1.cxN s.cx)):Wp (within c m) s R:=by
 obtain⟨a,s1,e,q⟩:=h
 obtain⟨mem,next,lim,rd,wr,cx⟩:=s
 obtain⟨mem1,next1,lim1,rd1,wr1,cx1⟩:=s1
 refine⟨a,_, ?_,q⟩
 have e':m ⟨mem,next,lim,rd,wr,c⟩= .pan a ⟨mem1,next1,lim1,rd1,wr1,cx1⟩:=e
 unfold Am.within
 simp only[e']
 rfl
theorem Wp.call {ih:AF->M (Value×FrameMode)}{fn:Func}{body:Code}{args:List Value}(ho:E.orc.get f=none)(hx:E.ext.get f=none)(hf:E.fn.get f=some fn)(hb:fn.body=some body)
  (hn:fn.ntmps=nt) (hg:Ao fn=g) (ha:args.length<=nt) (h:Wp (ih ⟨f,nt,g,BM g args 0 .E,[.code body], .run, .normal,none⟩) (s.cxN cxN) λc s1=>R c (s1.cxN s.cx)):Wp (Ac E ih f args) s R:=by
 unfold Ac
 rw[ho,hx]
 refine Wp.within (Wp.bind1 (Wp.bind ?_))
 have e:B8 E f args .normal (s.cxN cxN)= .some ⟨f,nt,g,BM g args 0 .E,[.code body], .run, .normal,none⟩ (s.cxN cxN):=by
  unfold B8
  rw[hf]
  show M.on fn.body (λc=>M.chk (Nat.ble args.length fn.ntmps) (Am.fN fn.ntmps λn=>Am.fN (Ao fn) λg=>M.pure (⟨f,n,g,BM g args 0 .E,[.code c], .run, .normal,none⟩:AF))) _=_
  rw[hb]
  show M.chk (Nat.ble args.length fn.ntmps) (Am.fN fn.ntmps λn=>Am.fN (Ao fn) λg=>M.pure (⟨f,n,g,BM g args 0 .E,[.code body], .run, .normal,none⟩:AF)) _=_
  rw[show Nat.ble args.length fn.ntmps=true from Nat.ble_eq_true_of_le (by rw[hn];exact ha),AB,AB,hn,hg]
  rfl
 exact⟨_,_,e,h⟩
theorem W.leaveD {Q:Value×FrameMode->St->Prop}{mo md:FrameMode}{todo:List Item}{d:Deferred}{ds:List Deferred}{up:Option FrameMode}{df:Nat}{cap:Array Value}{fn:Func}{body:Code}{dn dg:Nat}(hmo:mo≠ .run)(hcx:s.cx= .cx up (some (d::ds)))(hd:d.target= .fn (.func df) cap)
  (hf:E.fn.get df=some fn) (hb:fn.body=some body) (hn:fn.ntmps=dn) (hg:Ao fn=dg) (ha:(d.args.toList++cap.toList).length<=dn)
  (h:W (runF E n ⟨df,dn,dg,BM dg (d.args.toList++cap.toList) 0 .E,[.code body], .run, .deferred,none⟩) (s.cxN (.cx (some mo) (some []))) λp s1=>EI p.2=md/\md≠ .run/\W (runF E n ⟨f,nt,g,tm,todo,md,ki,none⟩) (s1.cxN (.cx up (some ds))) Q):
  W (runF E (n+1) ⟨f,nt,g,tm,todo,mo,ki,none⟩) s Q:=by
 obtain⟨p,s1,e,hm,hr,hq⟩:=h
 refine W.run ?_
 have hs:D4 E (Ac E (runF E n)) (AS (runF E n)) (Co E (runF E n)) ⟨f,nt,g,tm,todo,mo,ki,none⟩ s= .some (.go ⟨f,nt,g,tm,todo,md,ki,none⟩) (s1.cxN (.cx up (some ds))):=by
  have hu:D4 E (Ac E (runF E n)) (AS (runF E n)) (Co E (runF E n)) ⟨f,nt,g,tm,todo,mo,ki,none⟩ s=Dw E (Co E (runF E n)) ⟨f,nt,g,tm,todo,mo,ki,none⟩ s:=by
   cases mo with
   |run=>exact absurd rfl hmo
   |returning=>rfl
   |panicking c=>rfl
  rw[hu]
  obtain⟨mem,next,lim,rd,wr,cx⟩:=s
  obtain⟨mem1,next1,lim1,rd1,wr1,cx1⟩:=s1
  have hcx':cx= .cx up (some (d::ds)):=hcx
  subst hcx'
  have e':runF E n ⟨df,dn,dg,BM dg (d.args.toList++cap.toList) 0 .E,[.code body], .run, .deferred,none⟩ ⟨mem,next,lim,rd,wr, .cx (some mo) (some [])⟩= .some p ⟨mem1,next1,lim1,rd1,wr1,cx1⟩:=e
  have hen: ∀st:St,B8 E df (d.args.toList++cap.toList) .deferred st= .some ⟨df,dn,dg,BM dg (d.args.toList++cap.toList) 0 .E,[.code body], .run, .deferred,none⟩ st:=λst=>by
   unfold B8
   rw[hf]
   show M.on fn.body (λc=>M.chk (Nat.ble (d.args.toList++cap.toList).length fn.ntmps) (Am.fN fn.ntmps λn=>Am.fN (Ao fn) λg=>M.pure (⟨df,n,g,BM g (d.args.toList++cap.toList) 0 .E,[.code c], .run, .deferred,none⟩:AF))) _=_
   rw[hb]
   show M.chk (Nat.ble (d.args.toList++cap.toList).length fn.ntmps) (Am.fN fn.ntmps λn=>Am.fN (Ao fn) λg=>M.pure (⟨df,n,g,BM g (d.args.toList++cap.toList) 0 .E,[.code body], .run, .deferred,none⟩:AF)) _=_
   rw[show Nat.ble (d.args.toList++cap.toList).length fn.ntmps=true from Nat.ble_eq_true_of_le (by rw[hn];exact ha),AB,AB,hn,hg]
   rfl
  have hdc:Co E (runF E n) df (d.args.toList++cap.toList) mo ⟨mem,next,lim,rd,wr, .cx up (some ds)⟩= .some (none,p.2) ⟨mem1,next1,lim1,rd1,wr1, .cx up (some ds)⟩:=by
   unfold Co Am.within
   simp only[AM (hen _),e']
  show noP (M.bind (DT (.cx up (some ds))) λ_=>runD (Co E (runF E n)) ⟨f,nt,g,tm,todo,mo,ki,none⟩ d) ⟨mem,next,lim,rd,wr, .cx up (some (d::ds))⟩=_
  unfold noP
  have hp:(M.bind (DT (.cx up (some ds))) λ_=>runD (Co E (runF E n)) ⟨f,nt,g,tm,todo,mo,ki,none⟩ d) ⟨mem,next,lim,rd,wr, .cx up (some (d::ds))⟩= .some (.go ⟨f,nt,g,tm,todo,md,ki,none⟩) ⟨mem1,next1,lim1,rd1,wr1, .cx up (some ds)⟩:=by
   show runD (Co E (runF E n)) ⟨f,nt,g,tm,todo,mo,ki,none⟩ d ⟨mem,next,lim,rd,wr, .cx up (some ds)⟩=_
   unfold runD
   rw[hd]
   show M.bind (Co E (runF E n) df (d.args.toList++cap.toList) mo) (GN ⟨f,nt,g,tm,todo,mo,ki,none⟩) _=_
   rw[AM hdc]
   unfold GN
   simp only[hm]
   cases md with
   |run=>exact absurd rfl hr
   |returning=>rfl
   |panicking c=>rfl
  simp only[hp]
  rfl
 exact⟨_,_,hs,hq⟩
theorem W.recover {Q:Value->St->Prop}{v:Value}{older:List PanicEntry}{d:List Deferred}(hcx:s.cx= .cx (some (.panicking ({v,recovered:=false,goexit:=false}::older))) (some d))(q:Q v (s.cxN (.cx (some (.panicking ({v,recovered:=true}::older))) (some d)))):W FF s Q:=by
 obtain⟨mem,next,lim,rd,wr,cx⟩:=s
 have hcx':cx= .cx (some (.panicking ({v,recovered:=false,goexit:=false}::older))) (some d):=hcx
 subst hcx'
 exact⟨v,_,rfl,q⟩
theorem W.recover0 {Q:Value->St->Prop}{mo:FrameMode}{d:List Deferred}(hcx:s.cx= .cx (some mo) (some d))(hm:recM mo=none)(q:Q .nilIface s):W FF s Q:=by
 obtain⟨mem,next,lim,rd,wr,cx⟩:=s
 have hcx':cx= .cx (some mo) (some d):=hcx
 subst hcx'
 refine⟨.nilIface,⟨mem,next,lim,rd,wr, .cx (some mo) (some d)⟩, ?_,q⟩
 show(Option.rec (motive:=λ_=>M Value) (M.pure .nilIface) (λp=>M.bind (DT (.cx (some p.2) (some d))) λ_=>M.pure p.1) (recM mo):M Value) _=_
 rw[hm]
 rfl
end
section
variable {α β:Type}{s:St}
theorem W.defer {f:Nat}{first cap:Array Value}{args:List Value}{up:Option FrameMode}{d:List Deferred}{Q:Value->St->Prop}(hcx:s.cx= .cx up (some d))(q:Q undef (s.cxN (.cx up (some ({target:= .fn (.func f) cap,args:=first++args.toArray}::d))))):W (Fx (.func (.func f) first cap) args) s Q:=by
 obtain⟨mem,next,lim,rd,wr,cx⟩:=s
 have hcx':cx= .cx up (some d):=hcx
 subst hcx'
 exact⟨undef,_,rfl,q⟩
variable {E:Env}{n f nt g:Nat}{tm:T Value}{T P:List Item}{ki:CallKind}{R:List PanicEntry->St->Prop}
theorem Wp.left {c:List PanicEntry}{up:Option FrameMode}(hn:0<n)(hcx:s.cx= .cx up (some []))(hq:R c s):Wp (runF E n ⟨f,nt,g,tm,T, .panicking c,ki,none⟩) s R:=by
 obtain⟨m,rfl⟩: ∃m,n=m+1:=⟨n-1,J⟩
 refine⟨c,s, ?_,hq⟩
 obtain⟨mem,next,lim,rd,wr,cx⟩:=s
 have hcx':cx= .cx up (some []):=hcx
 subst hcx'
 rfl
theorem DrawEq.wp {bef:List Nat}{nice:Env->Ai->Ai->Am.T Value->M ((Rho×Am.T Value)×List OpLog)}{ro:Option Nat}(q:DrawEq f nt g P bef nice)(ht:skim 64 T=P)(hn:0<n)
  (h:W (nice E (Ac E (runF E (n-1))) (AS (runF E (n-1))) tm) (dSt s.mem s.next) λp s1=>Bz s.next p.2.reverse bef=true/\
   W (AK (Ac E (runF E (n-1))) (AS (runF E (n-1))) (A5 E g nt (hdC P)) p.1.1 p.1.2) ⟨s1.mem,s1.next,s.lim,rdsL s.lim p.2 s.rd,wrsL s.lim p.2 s.wr,s.cx⟩ λtm s1=>Wp (runF E (n-1) ⟨f,nt,g,tm,P.tail, .run,ki,ro⟩) s1 R):Wp (runF E n ⟨f,nt,g,tm,T, .run,ki,ro⟩) s R:=by
 obtain⟨m,rfl⟩: ∃m,n=m+1:=⟨n-1,J⟩
 rw[q.hd]at ht
 rw[Nat.add_sub_cancel]at h
 refine Wp.code ht (W.cast (q.eq E _ _ _ _ _ _ _ _) (W.bind (W.draw ?_)))
 rw[q.bef]
 refine h.mono λp s1 q=>⟨q.1, ?_⟩
 obtain⟨tm',s2,e,hq⟩:=q.2
 refine⟨.go ⟨f,nt,g,tm',P.tail, .run,ki,ro⟩,s2, ?_,hq⟩
 unfold endE
 simp only[e]
 rfl
theorem DrawEq.pp {bef:List Nat}{nice:Env->Ai->Ai->Am.T Value->M ((Rho×Am.T Value)×List OpLog)}{up:Option FrameMode}(q:DrawEq f nt g P bef nice)(ht:skim 64 T=P)(hn:1<n)
  (h:W (nice E (Ac E (runF E (n-1))) (AS (runF E (n-1))) tm) (dSt s.mem s.next) λp s1=>Bz s.next p.2.reverse bef=true/\
   Wp (AK (Ac E (runF E (n-1))) (AS (runF E (n-1))) (A5 E g nt (hdC P)) p.1.1 p.1.2) ⟨s1.mem,s1.next,s.lim,rdsL s.lim p.2 s.rd,wrsL s.lim p.2 s.wr,s.cx⟩ λc s1=>s1.cx= .cx up (some [])/\R c s1):Wp (runF E n ⟨f,nt,g,tm,T, .run,ki,none⟩) s R:=by
 obtain⟨m,rfl⟩: ∃m,n=m+1:=⟨n-1,J⟩
 rw[Nat.add_sub_cancel]at h
 have ht':=ht
 rw[q.hd]at ht'
 refine Wp.code ht' (W.cast (q.eq E _ _ _ _ _ _ _ _) (W.bind (W.draw ?_)))
 rw[q.bef]
 refine h.mono λp s1 qq=>⟨qq.1, ?_⟩
 obtain⟨c,s2,e,hcx,hq⟩:=qq.2
 refine⟨.go ⟨f,nt,g,HM (dsC (hdC P)) tm, .code (hdC P)::P.tail, .panicking c,ki,none⟩,s2, ?_,Wp.left J hcx hq⟩
 unfold endE
 simp only[e]
 rfl
theorem AmW_ (m:M α)(k:α->M β):Wp (M.bind m k) s R=(Wp m s R\/W m s λa s1=>Wp (k a) s1 R):=propext ⟨λ⟨c,s',e,q⟩=>by
 unfold M.bind at e
 cases hm:m s with
 |none=>rw[hm]at e;cases e
 |pan c1 s1=>rw[hm]at e;cases e;exact .inl ⟨c,s',hm,q⟩
 |some a s1=>rw[hm]at e;exact .inr ⟨a,s1,hm,c,s',e,q⟩,λh=>h.elim Wp.bind1 Wp.bind⟩
theorem W.outR {E:Env}{n f nt g:Nat}{tm:Am.T Value}{todo:List Item}{ki:CallKind}{fn:Func}{rs:List ResultVar}{up:Option FrameMode}{Q:Value×FrameMode->St->Prop}(hn:0<n)(hf:E.fn.get f=some fn)(hr:fn.results.toList=rs)(hc:s.cx= .cx up (some []))
  (q:W (resL E tm rs) s λl s1=>Q (tupV l,up.getD .run) s1):W (runF E n ⟨f,nt,g,tm,todo, .returning,ki,none⟩) s Q:=by
 obtain⟨m,rfl⟩: ∃m,n=m+1:=⟨n-1,J⟩
 refine W.run ?_
 show W (Dw E (Co E (runF E m)) ⟨f,nt,g,tm,todo, .returning,ki,none⟩) s _
 refine W.bind (W.of (a:=s.cx) (s':=s) (by obtain⟨mem,next,lim,rd,wr,cx⟩:=s;rfl) ?_)
 rw[hc]
 show W (outF E ⟨f,nt,g,tm,todo, .returning,ki,none⟩ up) s _
 subst hr
 refine W.on hf (W.bind (W.bind ?_))
 exact W.mono q λl s1 hq=>W.pure (W.pure (W.pure hq))
theorem W.toR {E:Env}{n f nt g:Nat}{tm:Am.T Value}{todo P:List Item}{ki:CallKind}{Q:Value×FrameMode->St->Prop}(ht:skim 64 todo=P)(hP:(∃k,P= .code .ret::k)\/P=[])(hn:0<n)(h:W (runF E (n-1) ⟨f,nt,g,tm,P, .returning,ki,none⟩) s Q):W (runF E n ⟨f,nt,g,tm,todo, .run,ki,none⟩) s Q:=by
 obtain⟨m,rfl⟩: ∃m,n=m+1:=⟨n-1,J⟩
 rw[Nat.add_sub_cancel]at h
 rcases hP with⟨k,rfl⟩|rfl
 ·exact W.code ht (W.pure h)
 ·refine W.run ?_
  show W (noP (Fd E (Ac E (runF E m)) (AS (runF E m)) ⟨f,nt,g,tm,skim 64 todo, .run,ki,none⟩ (skim 64 todo))) s _
  rw[ht]
  exact W.np (W.pure h)
end
section
variable {α β:Type}{s:St}{R:List PanicEntry->St->Prop}
def Wx (m:M α)(s:St)(Q:α->St->Prop)(R:List PanicEntry->St->Prop):Prop:=W m s Q\/Wp m s R
theorem CO (m:M α)(f:α->M β)(Q:β->St->Prop):Wx (M.bind m f) s Q R=Wx m s (λa s1=>Wx (f a) s1 Q R) R:=propext ⟨λh=>by
 rcases h with⟨b,s2,e,q⟩|h
 ·unfold M.bind at e
  cases hm:m s with
  |none=>rw[hm]at e;cases e
  |pan c1 s1=>rw[hm]at e;cases e
  |some a s1=>rw[hm]at e;exact .inl ⟨a,s1,hm, .inl ⟨b,s2,e,q⟩⟩
 ·rw[AmW_]at h
  rcases h with h|⟨a,s1,e,q⟩
  ·exact .inr h
  ·exact .inl ⟨a,s1,e, .inr q⟩,λh=>by
 rcases h with⟨a,s1,e,h|h⟩|h
 ·exact .inl (W.bind ⟨a,s1,e,h⟩)
 ·exact .inr (Wp.bind ⟨a,s1,e,h⟩)
 ·exact .inr (Wp.bind1 h)⟩
theorem CS (a:α)(Q:α->St->Prop):Wx (M.pure a) s Q R=Q a s:=propext ⟨λh=>by
 rcases h.symm with⟨c,s',e,_⟩|h
 ·exact(by cases e)
 ·rwa [AJ]at h,λh=> .inl (by rw[AJ];exact h)⟩
theorem FN (a:α)(f:α->M β)(Q:β->St->Prop):Wx (oS (some a) f) s Q R=Wx (f a) s Q R:=rfl
theorem Dt (a:α)(f:α->M β)(Q:β->St->Prop):Wx (M.on (some a) f) s Q R=Wx (f a) s Q R:=rfl
theorem D9 {γ:Type}(a:Value)(K:Value->M γ)(Q:γ->St->Prop):Wx (mv (some a) K) s Q R=Wx (K a) s Q R:=(CO _ _ _).trans (CS a _)
theorem ArC_ (m:M α)(Q:α->St->Prop):Wx (M.chk true m) s Q R=Wx m s Q R:=rfl
theorem AsF_ (x y:M α)(Q:α->St->Prop):Wx (aO true x y) s Q R=Wx x s Q R:=rfl
theorem Aso_ (x y:M α)(Q:α->St->Prop):Wx (aO false x y) s Q R=Wx y s Q R:=rfl
theorem Wf {γ:Type}(d:Nat)(v:Value)(tm:T Value)(K:T Value->M γ)(Q:γ->St->Prop):Wx (setF d v tm K) s Q R=Wx (K (T.set tm d v)) s Q R:=by
 unfold setF
 obtain⟨v',a,b,e⟩:=aS tm d v
 rw[e]
theorem SV {γ:Type}(d:Nat)(v:Value)(tm:T Value)(K:T Value->M γ)(Q:γ->St->Prop):Wx (setT d v tm K) s Q R=Wx (K (T.set tm d v)) s Q R:=by
 unfold setT
 obtain⟨v',a,b,e⟩:=aS tm d v
 rw[e]
theorem DM {call round:Ai}{f:Nat}{l:List Value}(Q:Value->St->Prop):Wx (Ba call round (.func (.func f) #[] #[]) l) s Q R=Wx (call f l) s Q R:=by
 show Wx (call f ([]++(l++[]))) s Q R=_
 rw[List.nil_append,List.append_nil]
theorem AgX_ {call round:Ai}{f:Nat}{cap:Array Value}{l:List Value}(Q:Value->St->Prop):Wx (Ba call round (.func (.func f) #[] cap) l) s Q R=Wx (call f (l++cap.toList)) s Q R:=by
 show Wx (call f ([]++(l++cap.toList))) s Q R=_
 rw[List.nil_append]
theorem Wx.cast {m m':M α}{Q:α->St->Prop}(e:m s=m' s)(h:Wx m' s Q R):Wx m s Q R:=h.elim (λh=> .inl (h.cast e)) λh=> .inr (h.cast e)
theorem AqG_ {t:Nat}{x:Value}(Q:Value->St->Prop):Wx (Ic (.iface t x)) s Q R=R [{v:= .iface t x,recovered:=false}] s:=propext ⟨λh=>by
 rcases h with⟨a,s',e,_⟩|⟨c,s',e,q⟩
 ·cases e
 ·cases e;exact q,λq=> .inr (Wp.panic q)⟩
variable {E:Env}{n f nt g:Nat}{tm:T Value}{T P:List Item}{ki:CallKind}{Q:Value×FrameMode->St->Prop}
theorem RegEq.wx {nice:Env->Ai->Ai->Am.T Value->M (Am.T Value)}{up:Option FrameMode}(q:RegEq f nt g P nice)(ht:skim 64 T=P)(hn:1<n)
  (h:Wx (nice E (Ac E (runF E (n-1))) (AS (runF E (n-1))) tm) s (λtm s1=>Wx (runF E (n-1) ⟨f,nt,g,tm,P.tail, .run,ki,none⟩) s1 Q R) λc s1=>s1.cx= .cx up (some [])/\R c s1):Wx (runF E n ⟨f,nt,g,tm,T, .run,ki,none⟩) s Q R:=by
 rcases h with⟨tm',s1,e,hq⟩|h
 ·rcases hq with hq|hq
  ·exact .inl (q.w ht J ⟨tm',s1,e,hq⟩)
  ·exact .inr (q.wp ht J ⟨tm',s1,e,hq⟩)
 ·exact .inr (q.pp ht hn h)
theorem RegEq.wi {nice:Env->Ai->Ai->Am.T Value->M (Am.T Value)}(q:RegEq f nt g P nice)(ht:skim 64 T=P)(hn:0<n)
  (h:W (nice E (Ac E (runF E (n-1))) (AS (runF E (n-1))) tm) s λtm s1=>Wx (runF E (n-1) ⟨f,nt,g,tm,P.tail, .run,ki,none⟩) s1 Q R):Wx (runF E n ⟨f,nt,g,tm,T, .run,ki,none⟩) s Q R:=by
 obtain⟨tm',s1,e,hq⟩:=h
 rcases hq with hq|hq
 ·exact .inl (q.w ht hn ⟨tm',s1,e,hq⟩)
 ·exact .inr (q.wp ht hn ⟨tm',s1,e,hq⟩)
theorem Wx.cond {t:Nat}{v:Bool}(ht:skim 64 T=P)(hx:Aj P=some t)(hv:Am.T.get tm t=some (.bool v))(hn:0<n)
  (h1:v=true->Wx (runF E (n-1) ⟨f,nt,g,tm,brT P, .run,ki,none⟩) s Q R) (h2:v=false->Wx (runF E (n-1) ⟨f,nt,g,tm,brF P, .run,ki,none⟩) s Q R):Wx (runF E n ⟨f,nt,g,tm,T, .run,ki,none⟩) s Q R:=by
 cases v with
 |true=>exact(h1 rfl).elim (λh=> .inl (W.cond ht hx hv hn (λ_=>h) λh=>by cases h)) λh=> .inr (Wp.cond ht hx hv hn (λ_=>h) λh=>by cases h)
 |false=>exact(h2 rfl).elim (λh=> .inl (W.cond ht hx hv hn (λh=>by cases h) λ_=>h)) λh=> .inr (Wp.cond ht hx hv hn (λh=>by cases h) λ_=>h)
theorem DrawEq.wx {bef:List Nat}{nice:Env->Ai->Ai->Am.T Value->M ((Rho×Am.T Value)×List OpLog)}{up:Option FrameMode}(q:DrawEq f nt g P bef nice)(ht:skim 64 T=P)(hn:1<n)
  (h:W (nice E (Ac E (runF E (n-1))) (AS (runF E (n-1))) tm) (dSt s.mem s.next) λp s1=>Bz s.next p.2.reverse bef=true/\
   Wx (AK (Ac E (runF E (n-1))) (AS (runF E (n-1))) (A5 E g nt (hdC P)) p.1.1 p.1.2) ⟨s1.mem,s1.next,s.lim,rdsL s.lim p.2 s.rd,wrsL s.lim p.2 s.wr,s.cx⟩ (λtm s1=>Wx (runF E (n-1) ⟨f,nt,g,tm,P.tail, .run,ki,none⟩) s1 Q R) λc s1=>s1.cx= .cx up (some [])/\R c s1):Wx (runF E n ⟨f,nt,g,tm,T, .run,ki,none⟩) s Q R:=by
 obtain⟨p,s1,e,ha,hq⟩:=h
 rcases hq with⟨tm',s2,e2,hq⟩|hq
 ·rcases hq with hq|hq
  ·exact .inl (q.w ht J ⟨p,s1,e,ha,tm',s2,e2,hq⟩)
  ·exact .inr (q.wp ht J ⟨p,s1,e,ha,tm',s2,e2,hq⟩)
 ·exact .inr (q.pp ht hn ⟨p,s1,e,ha,hq⟩)
theorem Wx.call {fn:Func}{body:Code}{args:List Value}{Q:Value->St->Prop}(ho:E.orc.get f=none)(hx:E.ext.get f=none)(hf:E.fn.get f=some fn)(hb:fn.body=some body)
  (hn:fn.ntmps=nt) (hg:Ao fn=g) (ha:args.length<=nt) {ih:AF->M (Value×FrameMode)} (h:Wx (ih ⟨f,nt,g,BM g args 0 .E,[.code body], .run, .normal,none⟩) (s.cxN cxN) (λp s1=>Q p.1 (s1.cxN s.cx)) λc s1=>R c (s1.cxN s.cx)):Wx (Ac E ih f args) s Q R:=
 h.elim (λh=> .inl (W.call ho hx hf hb hn hg ha h)) λh=> .inr (Wp.call ho hx hf hb hn hg ha h)
end
section
variable {α β:Type}{s:St}{E:Env}{t:Nat}{xo yo:Operand}{R:List PanicEntry->St->Prop}
theorem H7 {m:M α}{v:α}(h: ∀Q:α->St->Prop,W m s Q=Q v s)(Q:α->St->Prop):Wx m s Q R=Q v s:=by
 have h1:W m s λa s'=>a=v/\s'=s:=by rw[h];exact⟨rfl,rfl⟩
 obtain⟨a,s',e,rfl,rfl⟩:=h1
 refine propext ⟨λh2=> ?_,λq=> .inl ⟨_,_,e,q⟩⟩
 rcases h2 with⟨b,s2,e2,q⟩|⟨c,s2,e2,_⟩
 ·rw[e]at e2
  cases e2
  exact q
 ·rw[e]at e2
  cases e2
theorem MS (a:Addr)(Q:Value->St->Prop):Wx (kNil (.pointer (some a))) s Q R=Q (.pointer (some a)) s:=H7 (Ga a) Q
theorem MM_ {f off sz b o:Nat}{g:Bool}(h:fldN E t f=some (off,sz,g))(h0:0<sz)(Q:Value->St->Prop):Wx (kFld E t (.pointer (some ⟨b,o,none⟩)) f) s Q R=Q (.pointer (some ⟨b,o+off,none⟩)) s:=H7 (Af h h0) Q
theorem Wx.of {m:M α}{Q:α->St->Prop}(h:W m s Q):Wx m s Q R:= .inl h
theorem Bo {γ:Type}{a:Addr}{f:Value×OpLog->M γ}{mem:T Cell}{next:Nat}{Q:γ->St->Prop}:W (M.bind (apartO (kNil (.pointer (some a)))) f) (dSt mem next) Q=W (f (.pointer (some a),⟨next,next,[],[]⟩)) (dSt mem next) Q:=W_dq λ_ Q=>Ga a Q
theorem Bi {γ:Type}{fd off sz b o:Nat}{g:Bool}(h:fldN E t fd=some (off,sz,g))(h0:0<sz){f:Value×OpLog->M γ}{mem:T Cell}{next:Nat}{Q:γ->St->Prop}:W (M.bind (apartO (kFld E t (.pointer (some ⟨b,o,none⟩)) fd)) f) (dSt mem next) Q=W (f (.pointer (some ⟨b,o+off,none⟩),⟨next,next,[],[]⟩)) (dSt mem next) Q:=W_dq λ_ Q=>Af h h0 Q
theorem Ext.drawR (s:St)(l:List OpLog)(hw: ∀m∈l,m.wr=[]):Ext (λ_=>True) Non s ⟨s.mem,s.next,s.lim,rdsL s.lim l s.rd,wrsL s.lim l s.wr,s.cx⟩:=
 aR (Nat.le_refl _) (λ_ _ _=>rfl) (λm hm x hx _=>by rw[hw m hm]at hx;cases hx) λ_ _ _ _ _=>trivial
variable {n f nt g:Nat}{tm:T Value}{T P:List Item}{ki:CallKind}{Q:Value×FrameMode->St->Prop}
theorem DrawEq.wr {bef:List Nat}{nice:Env->Ai->Ai->Am.T Value->M ((Rho×Am.T Value)×List OpLog)}{ro:Option Nat}(q:DrawEq f nt g P bef nice)(ht:skim 64 T=P)(hn:0<n)
  (h:W (nice E (Ac E (runF E (n-1))) (AS (runF E (n-1))) tm) (dSt s.mem s.next) λp s1=>s1=dSt s.mem s.next/\p.2.length<=bef.length/\(∀m∈p.2,m.wr=[]/\m.lo=m.hi)/\
   ∀s',s'.mem=s.mem->s'.next=s.next->Ext (λ_=>True) Non s s'->W (AK (Ac E (runF E (n-1))) (AS (runF E (n-1))) (A5 E g nt (hdC P)) p.1.1 p.1.2) s' λtm s1=>W (runF E (n-1) ⟨f,nt,g,tm,P.tail, .run,ki,ro⟩) s1 Q):W (runF E n ⟨f,nt,g,tm,T, .run,ki,ro⟩) s Q:=by
 refine q.w ht hn (h.mono λp s1 hh=> ?_)
 obtain⟨rfl,h1,h2,h3⟩:=hh
 exact⟨CX (by rw[List.length_reverse];exact h1) λm hm=>h2 m (List.mem_reverse.1 hm),h3 _ rfl rfl (Ext.drawR s p.2 λm hm=>(h2 m hm).1)⟩
theorem DrawEq.wir {bef:List Nat}{nice:Env->Ai->Ai->Am.T Value->M ((Rho×Am.T Value)×List OpLog)}(q:DrawEq f nt g P bef nice)(ht:skim 64 T=P)(hn:1<n)
  (h:W (nice E (Ac E (runF E (n-1))) (AS (runF E (n-1))) tm) (dSt s.mem s.next) λp s1=>s1=dSt s.mem s.next/\p.2.length<=bef.length/\(∀m∈p.2,m.wr=[]/\m.lo=m.hi)/\
   ∀s',s'.mem=s.mem->s'.next=s.next->Ext (λ_=>True) Non s s'->W (AK (Ac E (runF E (n-1))) (AS (runF E (n-1))) (A5 E g nt (hdC P)) p.1.1 p.1.2) s' λtm s1=>Wx (runF E (n-1) ⟨f,nt,g,tm,P.tail, .run,ki,none⟩) s1 Q R):Wx (runF E n ⟨f,nt,g,tm,T, .run,ki,none⟩) s Q R:=by
 refine q.wx (up:=none) ht hn (h.mono λp s1 hh=> ?_)
 obtain⟨rfl,h1,h2,h3⟩:=hh
 exact⟨CX (by rw[List.length_reverse];exact h1) λm hm=>h2 m (List.mem_reverse.1 hm), .inl (h3 _ rfl rfl (Ext.drawR s p.2 λm hm=>(h2 m hm).1))⟩
end
section
variable {s:St}{E:Env}{t:Nat}{xo yo:Operand}
theorem fit8 {m:Nat}(h:m<256):fitI .u8 m=some (.int .u8 (m:Nat)):=by
 unfold fitI
 rw[Nat.ble_eq_true_of_le (show m<=mxOf .u8 by show m<=255;omega)]
 show mkI .u8 m=_
 unfold mkI
 rw[AB]
 rfl
theorem cmp8 (c:Nat->Nat->Bool)(m n:Nat):cmpK c .u8 .u8 m n=some (.bool (c m n)):=by
 unfold cmpK BO
 rw[Nat.beq_refl]
 show mkB (c m n)=_
 unfold mkB
 cases c m n<;>rfl
theorem Aqy_ (m n:Nat):Cl.get (aBin E .eql t xo yo) (.int .u8 (m:Nat)) (.int .u8 (n:Nat)) s= .some (.bool (decide (m=n))) s:=by
 show int3 (cmpK λm n=>Nat.beq m n) (AP E .eql t xo yo) (.int .u8 (.ofNat m)) (.int .u8 (.ofNat n)) s=_
 show Option.rec (motive:=λ_=>R Value) _ (λv=> .some v s) (cmpK (λm n=>Nat.beq m n) .u8 .u8 m n)=_
 have e:Nat.beq m n=decide (m=n):=by
  by_cases h:m=n
  ·subst h
   rw[Nat.beq_refl,decide_eq_true rfl]
  ·rw[decide_eq_false h]
   cases hb:Nat.beq m n with
   |false=>rfl
   |true=>exact absurd (Nat.eq_of_beq_eq_true hb) h
 rw[cmp8,e]
theorem UF {m:Nat}(Q:Value->St->Prop):W (Cl.get (aBin E .eql t xo yo) (.int .u8 (m:Nat)) (.int .u8 128)) s Q=Q (.bool (decide (m=128))) s:=AD (Aqy_ m 128)
theorem Agd_ (m n:Nat):Cl.get (aBin E .geq t xo yo) (.int .u8 (m:Nat)) (.int .u8 (n:Nat)) s= .some (.bool (decide (n<=m))) s:=by
 show int3 (cmpK λm n=>Nat.ble n m) (AP E .geq t xo yo) (.int .u8 (.ofNat m)) (.int .u8 (.ofNat n)) s=_
 show Option.rec (motive:=λ_=>R Value) _ (λv=> .some v s) (cmpK (λm n=>Nat.ble n m) .u8 .u8 m n)=_
 have e:Nat.ble n m=decide (n<=m):=by
  by_cases h:n<=m
  ·rw[decide_eq_true h]
   exact Nat.ble_eq_true_of_le h
  ·rw[decide_eq_false h]
   cases hb:Nat.ble n m with
   |false=>rfl
   |true=>exact absurd (Nat.le_of_ble_eq_true hb) h
 rw[cmp8,e]
theorem ApA_ {m:Nat}(Q:Value->St->Prop):W (Cl.get (aBin E .geq t xo yo) (.int .u8 (m:Nat)) (.int .u8 128)) s Q=Q (.bool (decide (128<=m))) s:=AD (Agd_ m 128)
theorem WO (m:Nat):m&&&127=m%128:=Nat.and_two_pow_sub_one_eq_mod m 7
theorem Uh {m:Nat}(Q:Value->St->Prop):W (Cl.get (aBin E .and t xo yo) (.int .u8 (m:Nat)) (.int .u8 127)) s Q=Q (.int .u8 (m%128:Nat)) s:=by
 refine AD ?_
 show int3 andK (AP E .and t xo yo) (.int .u8 (.ofNat m)) (.int .u8 (.ofNat 127)) s=_
 show Option.rec (motive:=λ_=>R Value) _ (λv=> .some v s) (andK .u8 .u8 m 127)=_
 have e:andK .u8 .u8 m 127=some (.int .u8 (m%128:Nat)):=by
  unfold andK BO
  rw[Nat.beq_refl]
  show fitI .u8 (m&&&127)=_
  rw[WO]
  exact fit8 J
 rw[e]
theorem AvD_ {m:Nat}(Q:Value->St->Prop):W (Cl.get (aBin E .and t xo yo) (.int .i64 (m:Nat)) (.int .i64 127)) s Q=Q (.int .i64 (m%128:Nat)) s:=by
 refine AD ?_
 show int3 andK (AP E .and t xo yo) (.int .i64 (.ofNat m)) (.int .i64 (.ofNat 127)) s=_
 show Option.rec (motive:=λ_=>R Value) _ (λv=> .some v s) (andK .i64 .i64 m 127)=_
 have e:andK .i64 .i64 m 127=some (.int .i64 (m%128:Nat)):=by
  unfold andK BO
  rw[Nat.beq_refl]
  show fitI .i64 (m&&&127)=_
  rw[WO]
  exact Hx J
 rw[e]
theorem AgF_ {m:Nat}(h:m<128):m|||128=m+128:=by
 have:=Nat.two_pow_add_eq_or_of_lt (i:=7) h 1
 rw[Nat.or_comm]
 rw[show 128|||m=2^7*1|||m from rfl,<-this]
 omega
theorem Aqh_ {m:Nat}(h:m<128)(Q:Value->St->Prop):W (Cl.get (aBin E .or t xo yo) (.int .u8 (m:Nat)) (.int .u8 128)) s Q=Q (.int .u8 (m+128:Nat)) s:=by
 refine AD ?_
 show int3 orK (AP E .or t xo yo) (.int .u8 (.ofNat m)) (.int .u8 (.ofNat 128)) s=_
 show Option.rec (motive:=λ_=>R Value) _ (λv=> .some v s) (orK .u8 .u8 m 128)=_
 have e:orK .u8 .u8 m 128=some (.int .u8 (m+128:Nat)):=by
  unfold orK BO
  rw[Nat.beq_refl]
  show fitI .u8 (m|||128)=_
  rw[AgF_ h]
  exact fit8 J
 rw[e]
theorem AjP_ {m:Nat}(hm:m*128<=9223372036854775807)(Q:Value->St->Prop):W (Cl.get (aBin E .shl t xo yo) (.int .i64 (m:Nat)) (.int .u64 7)) s Q=Q (.int .i64 (m*128:Nat)) s:=by
 have e:m<<<7=m*128:=Nat.shiftLeft_eq m 7
 have:=Ya_ (E:=E) (s:=s) (t:=t) (xo:=xo) (yo:=yo) (kk:= .u64) (m:=m) (n:=7) al (by rw[e];exact hm) Q
 rw[e]at this
 exact this
theorem AcD_ {m c:Nat}(hc:c<128)(hm:m*128+c<=9223372036854775807)(Q:Value->St->Prop):W (Cl.get (aBin E .or t xo yo) (.int .i64 (m*128:Nat)) (.int .i64 (c:Nat))) s Q=Q (.int .i64 (m*128+c:Nat)) s:=by
 have e:m*128|||c=m*128+c:=by
  have:=Nat.two_pow_add_eq_or_of_lt (i:=7) hc m
  rw[show m*128=2^7*m by omega]
  exact this.symm
 have:=W_or (E:=E) (s:=s) (t:=t) (xo:=xo) (yo:=yo) (m:=m*128) (n:=c) (by rw[e];exact hm) Q
 rw[e]at this
 exact this
theorem S3 {m:Nat}(Q:Value->St->Prop):W (Cl.get (aBin E .shr t xo yo) (.int .i64 (m:Nat)) (.int .u64 7)) s Q=Q (.int .i64 (m/128:Nat)) s:=by
 have e:m>>>7=m/128:=Nat.shiftRight_eq_div_pow m 7
 have:=E4 (E:=E) (s:=s) (t:=t) (xo:=xo) (yo:=yo) (k:= .i64) (kk:= .u64) (m:=m) (n:=7) al Q
 rw[e]at this
 exact this
end
def KU (m:M ((Rho×T Value)×List OpLog))(bef:List Nat)(b:Nat):M (Rho×T Value):=λs=>St.rec (motive:=λ_=>R (Rho×T Value)) (λmem next lim rd wr cx=>
 R.rec (motive:=λ_=>R (Rho×T Value)) .none (λp s=>Prod.rec (motive:=λ_=>R (Rho×T Value)) (λq l=>St.rec (motive:=λ_=>R (Rho×T Value)) (λmem' next' _ _ _ _=>
  Bool.rec (motive:=λ_=>R (Rho×T Value)) .none (.some q (St.mk mem' next' lim (rdsL lim l rd) (wrsL lim l wr) cx)) (Bz next l.reverse bef&&Em b l.reverse 0)) s) p) (λ_ _=> .none)
  (m (St.mk mem next (nat_lit 0) [] [] .no))) s
def Qi (E:Env)(g n:Nat)(c:Code)(j:Nat):List COp:=match c with
 | .region _ ops _=>(match B1 E g n ops.toList ops.toList []with|some l=>E9 (Fo l j) 1|none=>[])
 |_=>[]
def Kh {α β:Type}(m:M α)(f:M β)(g:List PanicEntry->M β):M β:=λs=>R.rec (motive:=λ_=>R β) .none (λ_ s2=>f (Cj s s2)) (λc s2=>g c s2) (m s)
section
variable {α β:Type}{s:St}
theorem W.again {m:M α}{f:M β}{g:List PanicEntry->M β}{a:α}{s2:St}{Q:β->St->Prop}(e:m s= .some a s2)(h:W f (Cj s s2) Q):W (Kh m f g) s Q:=by
 obtain⟨b,s3,e3,q⟩:=h
 refine⟨b,s3, ?_,q⟩
 unfold Kh
 rw[e]
 exact e3
theorem W.drawQ {m:M ((Rho×T Value)×List OpLog)}{bef:List Nat}{b:Nat}{Q:Rho×T Value->St->Prop}
  (h:W m (dSt s.mem s.next) λp s1=>Bz s.next p.2.reverse bef=true/\Em b p.2.reverse 0=true/\Q p.1 ⟨s1.mem,s1.next,s.lim,rdsL s.lim p.2 s.rd,wrsL s.lim p.2 s.wr,s.cx⟩):W (KU m bef b) s Q:=by
 obtain⟨⟨q,l⟩,s1,e,ha,hf,hq⟩:=h
 obtain⟨mem,next,lim,rd,wr,cx⟩:=s
 obtain⟨mem1,next1,lim1,rd1,wr1,cx1⟩:=s1
 refine⟨q,_, ?_,hq⟩
 have e':m ⟨mem,next,0,[],[], .no⟩= .some (q,l) ⟨mem1,next1,lim1,rd1,wr1,cx1⟩:=e
 have ha':(Bz next l.reverse bef&&Em b l.reverse 0)=true:=by
  rw[Bool.and_eq_true]
  exact⟨ha,hf⟩
 unfold KU
 simp only[e',ha']
structure DrawXq (f nt g:Nat)(P:List Item)(bef:List Nat)(j b:Nat)(pre nice:Env->Ai->Ai->T Value->M ((Rho×T Value)×List OpLog)):Prop where
 hd:P= .code (hdC P)::P.tail
 bef:befC (hdC P)=bef
 eq: ∀(E:Env) (call round:Ai) (td k:List Item) (ki:CallKind) (ro:Option Nat) (tm:T Value) (s:St),codeF E call round ⟨f,nt,g,tm,td, .run,ki,ro⟩ k (hdC P) s=
  Kh (M.bind (KU (pre E call round tm) (befC (hdC P)) b) λq=>AK call round (Qi E g nt (hdC P) j) q.1 q.2) (M.bind (Ik (nice E call round tm) (befC (hdC P))) (endE call round ⟨f,nt,g,tm,td, .run,ki,ro⟩ (A5 E g nt (hdC P)) (dsC (hdC P)) k))
   (λc=>Option.rec (motive:=λ_=>M Step) (Ft ⟨f,nt,g,tm,td, .run,ki,ro⟩ (dsC (hdC P)) c) (λ_=>aC) ro) s
variable {E:Env}{n f nt g:Nat}{tm:T Value}{T P:List Item}{ki:CallKind}{Q:Value×FrameMode->St->Prop}{R:List PanicEntry->St->Prop}
theorem DrawXq.wx {bef:List Nat}{j b:Nat}{pre nice:Env->Ai->Ai->Am.T Value->M ((Rho×Am.T Value)×List OpLog)}{up:Option FrameMode}(q:DrawXq f nt g P bef j b pre nice)(ht:skim 64 T=P)(hn:1<n)
  (h:Wx (M.bind (KU (pre E (Ac E (runF E (n-1))) (AS (runF E (n-1))) tm) bef b) λq=>AK (Ac E (runF E (n-1))) (AS (runF E (n-1))) (Qi E g nt (hdC P) j) q.1 q.2) s
   (λ_ s2=>W (nice E (Ac E (runF E (n-1))) (AS (runF E (n-1))) tm) (dSt s.mem s2.next) λp s1=>Bz s2.next p.2.reverse bef=true/\
    W (AK (Ac E (runF E (n-1))) (AS (runF E (n-1))) (A5 E g nt (hdC P)) p.1.1 p.1.2) ⟨s1.mem,s1.next,s.lim,rdsL s.lim p.2 s2.rd,wrsL s.lim p.2 s2.wr,s.cx⟩ λtm s1=>Wx (runF E (n-1) ⟨f,nt,g,tm,P.tail, .run,ki,none⟩) s1 Q R)
   λc s2=>s2.cx= .cx up (some [])/\R c s2):Wx (runF E n ⟨f,nt,g,tm,T, .run,ki,none⟩) s Q R:=by
 obtain⟨m,rfl⟩: ∃m,n=m+1:=⟨n-1,J⟩
 rw[Nat.add_sub_cancel]at h
 have ht':=ht
 rw[q.hd]at ht'
 rcases h with⟨a,s2,e,p,s1,e1,ha,tm',s3,e3,hq⟩|⟨c,s2,e,hcx,hq⟩
 ·rw[<-q.bef]at e ha
  have main:W (codeF E (Ac E (runF E m)) (AS (runF E m)) ⟨f,nt,g,tm, .code (hdC P)::P.tail, .run,ki,none⟩ P.tail (hdC P)) s λp s1=>p= .go ⟨f,nt,g,tm',P.tail, .run,ki,none⟩/\s1=s3:=by
   refine W.cast (q.eq E _ _ _ _ _ _ _ _) (W.again e (W.bind (W.draw ?_)))
   refine⟨p,s1,e1,ha, .go ⟨f,nt,g,tm',P.tail, .run,ki,none⟩,s3, ?_,rfl,rfl⟩
   unfold endE
   have e3':AK (Ac E (runF E m)) (AS (runF E m)) (A5 E g nt (hdC P)) p.1.1 p.1.2 ⟨s1.mem,s1.next,(Cj s s2).lim,rdsL (Cj s s2).lim p.2 (Cj s s2).rd,wrsL (Cj s s2).lim p.2 (Cj s s2).wr,(Cj s s2).cx⟩= .some tm' s3:=e3
   simp only[e3']
   rfl
  rcases hq with hq|hq
  ·exact .inl (W.code ht' (main.mono λp s1 hh=>by rw[hh.1,hh.2];exact hq))
  ·exact .inr (Wp.code ht' (main.mono λp s1 hh=>by rw[hh.1,hh.2];exact hq))
 ·rw[<-q.bef]at e
  refine .inr (Wp.code ht' (W.cast (q.eq E _ _ _ _ _ _ _ _) ⟨.go ⟨f,nt,g,HM (dsC (hdC P)) tm, .code (hdC P)::P.tail, .panicking c,ki,none⟩,s2, ?_,Wp.left J hcx hq⟩))
  unfold Kh
  simp only[e]
  rfl
