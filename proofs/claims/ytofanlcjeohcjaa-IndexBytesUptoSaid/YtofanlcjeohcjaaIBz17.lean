import Derived.Test.YtofanlcjeohcjaaIBz16
namespace Go.Proofs.Ytofanlcjeohcjaa.Am
open Go.RowKit
theorem MG:hasT envS 3=true:=X
theorem Aa.app_l {s:St}{b o:Nat}{l l':List Value}(h:Aa s b o (l++l')):Aa s b o l:=λi v e=>h i v (by rw[List.getElem?_append_left (List.getElem?_eq_some_iff.1 e).1];exact e)
theorem C4.ext1 {F G:Nat->Prop}{s s':St}{b o n:Nat}(h:C4 s b o n)(e:Ext F G s s')(k: ∀x,In b o n x-> ¬G x):C4 s' b o n:=λj hj=>let ⟨u,hu⟩:=h j hj;⟨u,hu.ext e (k _ ⟨J,J⟩)⟩
theorem EM:tyS envS 26=some (16,true):=X
theorem M4:DZ envS 26=some (List.replicate 16 (.int .u8 0)):=X
