import Derived.Test.YtofanlcjeohcjaaIFn14
import Derived.Test.YtofanlcjeohcjaaIFn07
import Derived.KernelRfl
import Derived.Test.YtofanlcjeohcjaaIFn18
namespace Go.Proofs.Ytofanlcjeohcjaa.Am
open Go.RowKit
theorem Ew:ER envS 35=some (List.replicate 16 (.int .u8 0)++[.int .i64 0, .int .i64 0]):=by kernel_rfl
section
variable {p:PkI}{Q:Value×FrameMode→St→Prop}
end
def Bw (ps:List PkI):Nat:=(ps.map fun p=>p.hs.length).sum
theorem He {ps:List PkI}{i:Nat}(hi:i<ps.length):Bw (ps.take (i+1))=Bw (ps.take i)+ps[i].hs.length:=by
 unfold Bw
 rw[List.take_succ_eq_append_getElem hi,List.map_append,List.sum_append]
 simp
theorem NR {ps:List PkI}(i:Nat):Bw (ps.take i)≤Bw ps:=by
 have e:Bw ps=Bw (ps.take i)+Bw (ps.drop i):=by
  unfold Bw
  rw[←List.sum_append,←List.map_append,List.take_append_drop]
 omega
theorem Qz {ps:List PkI}{i:Nat}(hi:i<ps.length):ps[i].hs.length≤Bw ps:=by
 have h1:=He hi
 have h2:=NR (ps:=ps) (i+1)
 omega
section
variable {v:Value}{ps:List PkI}{Q:Value×FrameMode→St→Prop}{s0:St}
end
end Go.Proofs.Ytofanlcjeohcjaa.Am
