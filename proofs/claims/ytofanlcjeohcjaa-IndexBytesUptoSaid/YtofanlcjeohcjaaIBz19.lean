import Derived.Test.YtofanlcjeohcjaaIBz18
namespace Go.Proofs.Ytofanlcjeohcjaa.Am
open Go.RowKit
theorem CR_ {id:List Nat}(h:id.length=16)(a b:Nat):DY (λk=>some (k*18,18)) [(0, .agg (LM_ (id,a,b)).toArray)] (rep 1 (List.replicate 16 (.int .u8 0)++[.int .i64 0, .int .i64 0]))=some (LM_ (id,a,b)):=by
 match id,h with
 |[x0,x1,x2,x3,x4,x5,x6,x7,x8,x9,x10,x11,x12,x13,x14,x15],_=>rfl
theorem Bs.one {s:St}{v:Value}{l:List Nat}(h:Bs s v l):oneCell v=true:=by
 obtain⟨p,c,rfl⟩:=h.sl
 cases p<;>rfl
theorem EA:fldN envS 35 1=some (16,1,false):=X
theorem FU:fldN envS 35 2=some (17,1,false):=X
section
variable {P:Program}{E:Env}{s:St}{t:Nat}
def Gb (P:Program)(t:Nat):Bool:=match P.underlying t with
 |some (.struct fs)=>(match fs.toList with
  | [f0, f1, f2] => f0.name != "_" && f1.name != "_" && f2.name != "_" && Nat.beq f0.offset 0 && Nat.beq f1.offset 16 && Nat.beq f2.offset 17 && !P.stoodInHeld t && !P.eqGuardType P.depth t &&
   (match P.underlying f0.type,P.info? f0.type,P.underlying f1.type,P.underlying f2.type with
   |some (.array 16 e),some i0,some (.int .i64),some (.int .i64)=>Nat.beq i0.size 16&&(match P.underlying e,P.info? e with|some (.int .u8),some i=>Nat.beq i.size 1|_,_=>false)
   |_,_,_,_=>false)
  |_=>false)
 |_=>false
theorem Aov_ {cs:Array Value}{off e:Nat}{i:TypeInfo}(hu:P.underlying t=some (.array 16 e))(hi:P.info? t=some i)(hz:i.size=16):semP P (part t cs off)=some (.agg (cs.extract off (off+16))):=by
 unfold part isAgg
 rw[Cq,Cq,GH hu]
 simp -implicitDefEqProofs only[Option.bind_some,Ef,if_true,Cq,PH_ hi,hz]
theorem V2 {d:Nat}{a:Int}(hu:P.underlying t=some (.int .i64)):semP P (Op.equalIn (d+1) t (.int .i64 a) (.int .i64 a))=some true:=by
 simp -implicitDefEqProofs only[Op.equalIn,Cq,GH hu,Option.bind_some,if_true,Ef,beq_self_eq_true]
theorem Auk_ {xo yo:Operand}{cs cs':Array Value}(hg:P.eqGuardType P.depth t=false):semP P (eqGuard .neq t xo yo (.agg cs) (.agg cs'))=some ():=by
 have hp:semP P program=some P:=rfl
 unfold eqGuard
 simp -implicitDefEqProofs only[Bool.not_true,Bool.not_false,Bool.false_eq_true,if_false,if_true,Cq,hp,Option.bind_some,hg,Ef]
theorem AuA_ (h:Gb P t=true):P.eqGuardType P.depth t=false:=by
 unfold Gb at h
 split at h
 ·split at h
  ·simp -implicitDefEqProofs only[Bool.and_eq_true,bne_iff_ne,ne_eq,Bool.not_eq_true']at h
   exact h.1.2
  ·cases h
 ·cases h
end
theorem Zj_:Gb envS.P 35=true:=X
