import Derived.Test.YtofanlcjeohcjaaIBk16
import Derived.Test.YtofanlcjeohcjaaIBk07
import Derived.Test.YtofanlcjeohcjaaIBk15
import Derived.KernelRfl
noncomputable section
namespace Go.Proofs.Ytofanlcjeohcjaa.Am
open Go.RowKit
def DS.new:DS:=⟨Jo,List.replicate 64 0,0⟩
theorem Adb_:hasT envS 3=true:=by kernel_rfl
def tl8 (N:Nat):Nat->List Nat
 |0=>[]
 |k+1=>(N>>>(8*k))%256::tl8 N k
def be4 (x:Nat):List Nat:=[x>>>24%256,x>>>16%256,x>>>8%256,x%256]
def outs:List Nat->List Nat
 |[]=>[]
 |x::l=>be4 x++outs l
def DS.row (d:DS):List Value:= .bool true::((st8V d.st).toList++(u8l d.w++[.int .i64 (d.n:Nat)]))
theorem AC.cons {s:St}{b o:Nat}{v:Value}{l:List Value}(h:Own s b o v)(k:AC s b (o+1) l):AC s b o (v::l):=λi x e=>by
 cases i with
 |zero=>simp at e;subst e;exact h
 |succ i=>
  have:=k i x (by simpa using e)
  rw[show o+(i+1)=o+1+i by omega]
  exact this
theorem AC.nil {s:St}{b o:Nat}:AC s b o []:=λi x e=>by simp at e
def DS.pad0 (d:DS):List Nat:=128::List.replicate ((119-d.n%64)%64) 0
def DS.pad (d:DS):List Nat:=d.pad0++tl8 (8*d.n) 8
def DS.fin (d:DS):DS:=DS.write d.pad.length d d.pad
def st8L (r:Sha.St8):List Nat:=[r.a,r.b,r.c,r.d,r.e,r.f,r.g,r.h]
def DS.sum (d:DS):List Nat:=outs (st8L d.fin.st)
theorem Dig.ext {F G:Nat->Prop}{s s':St}{D:Nat}{d:DS}(h:Dig s D d)(e:Ext F G s s')(k: ∀x,In D 0 74 x-> ¬G x):Dig s' D d:=
 ⟨h.made.ext e (k _ ⟨by omega,by omega⟩),h.st.ext e λi hi=>k _ ⟨by omega,by rw[AcG_]at hi;omega⟩,h.w.ext e λi hi=>k _ ⟨by omega,by rw[Bu,h.len]at hi;omega⟩,h.n.ext e (k _ ⟨by omega,by omega⟩),h.len,h.byt,h.ok⟩
def sumB (b:List Nat):List Nat:=(DS.write b.length DS.new b).sum
theorem J1:tyS envS 26=some (16,true):=by kernel_rfl
theorem Afx_:D8 envS 26=some (List.replicate 16 (.int .u8 0)):=by kernel_rfl
def idB (b:List Nat):List Nat:=(sumB b).take 16
def I8:Nat:=Ba Try.f20
def Jr_:Code:=Try.f20.body.getD .skip
theorem Li:envS.fn.get 20=some Try.f20:=by kernel_rfl
theorem Aav_ {a0:Value}{n:Nat}{s:St}{Q:Value->St->Prop}(h: ∀tm,T.get tm 0=some a0->W (runF envS n ⟨20,11,I8,tm,[.code Jr_], .run, .normal,none⟩) (s.cxN cxN) λp s1=>Q p.1 (s1.cxN s.cx)):W (Ay envS (runF envS n) 20 [a0]) s Q:=
 W.call (by kernel_rfl) (by kernel_rfl) Li (by kernel_rfl) rfl rfl (by simp) (h _ (by kernel_rfl))
theorem Qf:Try.f20.results.toList=[.tmp 2]:=by kernel_rfl
def Tj:List Item:=skim 64 [.code Jr_]
def M2:List Item:=skim 64 Tj.tail
theorem ZD_:skim 64 Tj.tail=M2:=by kernel_rfl
def G2:List Item:=skim 64 M2.tail
theorem RC:skim 64 M2.tail=G2:=by kernel_rfl
def Lz:List Item:=skim 64 (brT G2)
theorem Bv_:skim 64 (brT G2)=Lz:=by kernel_rfl
def OP:List Item:=skim 64 (brF G2)
theorem AgS_:skim 64 (brF G2)=OP:=by kernel_rfl
def Vs:List Item:=skim 64 Lz.tail
theorem Kd_:skim 64 Lz.tail=Vs:=by kernel_rfl
def SS:List Item:=skim 64 OP.tail
theorem Acd_:skim 64 OP.tail=SS:=by kernel_rfl
def HB_ (E:Env)(call round:Ad)(tm:T Value):M (T Value):=
 mv (some (.int .i64 0)) λv2=>
 setF 2 v2 tm λtm1=>
 M.pure tm1
theorem VM_:RegEq 20 11 I8 Tj HB_:=⟨by kernel_rfl,λ_ _ _ _ _ _ _ _ _=>by kernel_rfl⟩
def EA_ (E:Env)(call round:Ad)(tm:T Value):M (T Value):=
 mv (T.get tm 0) λv3=>
 M.bind (oS (some v3) λa=>oS (some (.int .i64 1)) λb=>Cl.get (aBin E .lss 3 (.tmp 3) (.const (.int .i64 1))) a b) λv4=>
 mv (some v4) λv5=>
 M.bind (M.chk (isK v5) (aC (isB v5 false) (oS (T.get tm 0) λa=>M.pure a) (M.pure undef))) λv6=>
 M.bind (M.chk (isK v5) (aC (isB v5 false) (oS (some v6) λa=>oS (some (.int .i64 1024)) λb=>Cl.get (aBin E .gtr 3 (.tmp 6) (.const (.int .i64 1024))) a b) (M.pure undef))) λv7=>
 M.bind (M.on (some v5) λa=>M.on (some (.bool true)) λb=>M.on (some v7) λc=>Bp a b c) λv8=>
 setF 8 v8 tm λtm1=>
 M.pure tm1
theorem AcD_:RegEq 20 11 I8 M2 EA_:=⟨by kernel_rfl,λ_ _ _ _ _ _ _ _ _=>by kernel_rfl⟩
theorem Su:A5 G2=some 8:=by kernel_rfl
def Th (E:Env)(call round:Ad)(tm:T Value):M (T Value):=
 mv (some (.int .i64 0)) λv2=>
 setF 2 v2 tm λtm1=>
 M.pure tm1
theorem V2:RegEq 20 11 I8 Lz Th:=⟨by kernel_rfl,λ_ _ _ _ _ _ _ _ _=>by kernel_rfl⟩
def Cn_ (E:Env)(call round:Ad)(tm:T Value):M (T Value):=
 mv (T.get tm 0) λv9=>
 M.bind (oS (some v9) λa=>oS (some (.int .i64 26)) λb=>Cl.get (aBin E .add 3 (.tmp 9) (.const (.int .i64 26))) a b) λv10=>
 mv (some v10) λv2=>
 setF 2 v2 tm λtm1=>
 M.pure tm1
theorem AkA_:RegEq 20 11 I8 OP Cn_:=⟨by kernel_rfl,λ_ _ _ _ _ _ _ _ _=>by kernel_rfl⟩
theorem GK_: ∃k,Vs= .code .ret::k:=⟨Vs.tail,by kernel_rfl⟩
theorem Ajb_: ∃k,SS= .code .ret::k:=⟨SS.tail,by kernel_rfl⟩
def Aje_:Nat:=Ba Try.f24
abbrev Akh_:Nat:=33
def AbS_:Code:=Try.f24.body.getD .skip
def Ako_:List Item:=skim 64 [.code AbS_]
def PJ_:List Item:=skim 64 Ako_.tail
def Cz_:List Item:=skim 64 PJ_.tail
def Rd_:Code:=asC Cz_
def TC_:Code:=bdC Cz_
end Go.Proofs.Ytofanlcjeohcjaa.Am
end
