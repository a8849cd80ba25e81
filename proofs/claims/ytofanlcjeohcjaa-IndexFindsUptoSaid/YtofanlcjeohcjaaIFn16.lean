import Derived.Test.YtofanlcjeohcjaaIFn15
import Derived.Test.YtofanlcjeohcjaaIFn07
import Derived.Test.YtofanlcjeohcjaaIFn14
import Derived.KernelRfl
noncomputable section
namespace Go.Proofs.Ytofanlcjeohcjaa.Am
open Go.RowKit
def DS.new:DS:=⟨G6,List.replicate 64 0,0⟩
def tl8 (N:Nat):Nat→List Nat
 |0=>[]
 |k+1=>(N>>>(8*k))%256::tl8 N k
def be4 (x:Nat):List Nat:=[x>>>24%256,x>>>16%256,x>>>8%256,x%256]
def outs:List Nat→List Nat
 |[]=>[]
 |x::l=>be4 x++outs l
def DS.row (d:DS):List Value:= .bool true::((st8V d.st).toList++(u8l d.w++[.int .i64 (d.n:Nat)]))
theorem AI.cons {s:St}{b o:Nat}{v:Value}{l:List Value}(h:Own s b o v)(k:AI s b (o+1) l):AI s b o (v::l):=fun i x e=>by
 cases i with
 |zero=>simp at e;subst e;exact h
 |succ i=>
  have:=k i x (by simpa using e)
  rw[show o+(i+1)=o+1+i by omega]
  exact this
theorem AI.nil {s:St}{b o:Nat}:AI s b o []:=fun i x e=>by simp at e
def DS.pad0 (d:DS):List Nat:=128::List.replicate ((119-d.n%64)%64) 0
def DS.pad (d:DS):List Nat:=d.pad0++tl8 (8*d.n) 8
def DS.fin (d:DS):DS:=DS.write d.pad.length d d.pad
def st8L (r:Sha.St8):List Nat:=[r.a,r.b,r.c,r.d,r.e,r.f,r.g,r.h]
def DS.sum (d:DS):List Nat:=outs (st8L d.fin.st)
theorem Dig.ext {F G:Nat→Prop}{s s':St}{D:Nat}{d:DS}(h:Dig s D d)(e:Ext F G s s')(k: ∀x,In D 0 74 x→ ¬G x):Dig s' D d:=
 ⟨h.made.ext e (k _ ⟨by omega,by omega⟩),h.st.ext e fun i hi=>k _ ⟨by omega,by rw[Dw_]at hi;omega⟩,h.w.ext e fun i hi=>k _ ⟨by omega,by rw[Bp,h.len]at hi;omega⟩,h.n.ext e (k _ ⟨by omega,by omega⟩),h.len,h.byt,h.ok⟩
def sumB (b:List Nat):List Nat:=(DS.write b.length DS.new b).sum
theorem Cu:tyS envS 26=some (16,true):=by kernel_rfl
def idB (b:List Nat):List Nat:=(sumB b).take 16
def DU_:Nat:=BU Try.f24
abbrev Ih_:Nat:=33
def Am_:Code:=Try.f24.body.getD .skip
def IH_:List Item:=skim 64 [.code Am_]
def DX_:List Item:=skim 64 IH_.tail
def Q3:List Item:=skim 64 DX_.tail
def Ym:Code:=asC Q3
def DA_:Code:=bdC Q3
end Go.Proofs.Ytofanlcjeohcjaa.Am
end
