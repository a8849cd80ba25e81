import Derived.Test.YtofanlcjeohcjaaIBz17
noncomputable section
namespace Go.Proofs.Ytofanlcjeohcjaa.Am
open Go.RowKit
def H1:Nat:=Ao Try.f20
def LX_:Code:=Try.f20.body.getD .skip
theorem Jp:envS.fn.get 20=some Try.f20:=X
theorem AuP_:G1 envS 20 11 H1 LX_:=λh=>
 aK Jp (h _ X)
theorem Pb:Try.f20.results.toList=[.tmp 2]:=X
def WX:List Item:=skim 64 [.code LX_]
def Rk_:=nx WX
def RP:=nx Rk_
def UA_:=bt RP
def CL_:=bf RP
def WP:=nx UA_
def IA_:=nx CL_
def NG_:Rg:=λE u r t=>
 sV 2 (.int .i64 0) t
theorem Ajd_:RegEq 20 11 H1 WX NG_:={}
def DY_:Rg:=λE u r t=>
 mG t 0 λv3=>
 bN E .lss 3 1 (some v3) λv4=>
 mv (some v4) λv5=>
 sK v5 false (pG t 0) λv6=>
 sK v5 false (oS (some v6) λa=>oS (some (.int .i64 1024)) λb=>Cl.get (aBin E .gtr 3 (.tmp 6) (.const (.int .i64 1024))) a b) λv7=>
 ae v5 (.bool true) v7 λv8=>
 ac 8 v8 t
theorem AfM_:RegEq 20 11 H1 Rk_ DY_:={}
theorem O1:Aj RP=some 8:=X
def Sz:Rg:=λE u r t=>
 sV 2 (.int .i64 0) t
theorem ZP:RegEq 20 11 H1 UA_ Sz:={}
def AB_:Rg:=λE u r t=>
 mG t 0 λv9=>
 bN E .add 9 26 (some v9) λv10=>
 sV 2 v10 t
theorem Ady_:RegEq 20 11 H1 CL_ AB_:={}
theorem AJ_: ∃k,WP= .code .ret::k:=⟨WP.tail,X⟩
theorem AwH_: ∃k,IA_= .code .ret::k:=⟨IA_.tail,X⟩
def AV (a:Int):Int:=if a<1\/1024<a then 0 else a+26
theorem PW {n:Nat}{s:St}{Q:Value->St->Prop}(a:Int)(hn:20<=n)(q:Q (.int .i64 (AV a)) s):W (Ac envS (runF envS n) 20 [.int .i64 a]) s Q:=by
 refine AuP_ λtm h0=> ?_
 refine Ajd_.u ?_
 simp -implicitDefEqProofs only[NG_,RR,SS]
 refine AfM_.u ?_
 simp -implicitDefEqProofs only[DY_,RR,SS,reduceCtorEq, ↓reduceIte,Ab,h0]
 by_cases h1:a<1
 ·rw[decide_eq_true h1]
  simp -implicitDefEqProofs only[AJ,CA,Cx, ↓reduceIte]
  refine aH O1 ?_
  refine ZP.u ?_
  simp -implicitDefEqProofs only[Sz,RR,SS]
  refine aB (rs:=[2]) (vs:=[.int .i64 0]) rfl (.inl AJ_) J Jp Pb rfl Y ?_
  have e:AV a=0:=if_pos (.inl h1)
  rw[e]at q
  exact q
 ·rw[decide_eq_false h1]
  simp -implicitDefEqProofs only[SS,reduceCtorEq, ↓reduceIte,Ae]
  by_cases h2:1024<a
  ·refine aH O1 ?_ rfl (an h2)
   refine ZP.u ?_
   simp -implicitDefEqProofs only[Sz,RR,SS]
   refine aB (rs:=[2]) (vs:=[.int .i64 0]) rfl (.inl AJ_) J Jp Pb rfl Y ?_
   have e:AV a=0:=if_pos (.inr h2)
   rw[e]at q
   exact q
  ·refine aE O1 ?_ rfl (an h2)
   refine Ady_.u ?_
   have ea:wrap64 (a+26)=a+26:=AN J J
   simp -implicitDefEqProofs only[AB_,RR,SS,reduceCtorEq, ↓reduceIte,Ad,h0,ea]
   refine aB (rs:=[2]) (vs:=[.int .i64 (a+26)]) rfl (.inl AwH_) J Jp Pb rfl Y ?_
   have e:AV a=a+26:=if_neg λh=>h.elim h1 h2
   rw[e]at q
   exact q
theorem AmT_:hasT envS 5=true:=X
theorem wrap_i64 (n:Nat)(h:n<9223372036854775808):IntKind.i64.wrap ((n:Nat):Int)=((n:Nat):Int):=by
 rw[<-Hp]
 exact AN J J
section
variable {α:Type}
theorem Cb (m:M α):M.chk true m=m:=rfl
theorem if_t (x y:M α):aO true x y=x:=rfl
theorem if_f (x y:M α):aO false x y=y:=rfl
theorem Dn (call round:Ai)(f:Nat)(l:List Value):Ba call round (.func (.func f) #[] #[]) l=call f l:=by
 show call f ([]++(l++[]))=_
 rw[List.append_nil,List.nil_append]
end
theorem G9 {n0:Nat}{l:List OpLog}{bef:List Nat}(hl:l.length<=bef.length)(h: ∀m∈l,m.wr=[]/\ ∀x∈m.rd,x<n0):Bz n0 l bef=true:=
 DH_ hl (λk m b e1 _=>⟨(h m (List.mem_of_getElem? e1)).1,λi a _ _=> .inr λx hx hn=>absurd ((h m (List.mem_of_getElem? e1)).2 x hx) (Nat.not_lt_of_le hn)⟩) λm hm=>(h m hm).1
theorem Bn.lt {s:St}{v:Value}{l:List Nat}(h:Bn s v l): ∀x,BsF v x->x<s.next:=λx hx=>by
 obtain⟨b,o,c,rfl,_,_,h3⟩:=h
 obtain⟨h1,h2⟩:=hx
 have hi:x-(b+o)<(u8l l).length:=by rw[AQ];omega
 have h5:=(h3 (x-(b+o)) _ (List.getElem?_eq_getElem hi)).1
 have h6:b+(o+(x-(b+o)))<s.next:=h5
 omega
theorem CH:tyS envS 35=some (18,true):=X
theorem Ap:tyS envS 3=some (1,false):=X
theorem Fh:tyS envS 4=some (1,false):=X
theorem Bu:tyS envS 36=some (1,false):=X
theorem Mk:elT envS 36=some (18,32,List.replicate 16 (.int .u8 0)++[.int .i64 0, .int .i64 0]):=X
theorem PZ:appT envS 36 36=some (18,32,false,List.replicate 16 (.int .u8 0)++[.int .i64 0, .int .i64 0]):=X
theorem Sd:DZ envS 3=some [.int .i64 0]:=X
abbrev Hd:Type:=List Nat×Nat×Nat
def LM_ (h:Hd):List Value:=u8l h.1++[.int .i64 (h.2.1:Nat), .int .i64 (h.2.2:Nat)]
