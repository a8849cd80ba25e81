/- The Go law DiskScript answers true,from every world:the evaluator's run of it,checked by the kernel. Condition:what it reads is of bulk at most 1048576. -/
import Derived.ChangeCalls
import Derived.Test.YtheboekhpelhlaaDSb32
import Derived.ProofKit
import Derived.JoinedCond
namespace Go.Proofs.Ytheboekhpelhlaa.diskScript
open Go Go.ChangeShapes Go.WideShapes Go.ChangeAt Go.RowKit
theorem own:ownKnob Try.prog.godebug=none:=X
set_option maxRecDepth 1000000 in
theorem walk {H:Type}{enc:TypeId×Value->H}{w:World}{base:Nat}{args:Array Value}{ds:List (DataW H)}{ps:List MemPlace}(hN: ∀d∈ds,Am.lensOk 1048576 d)(hA:DataW.TrodAll enc Try.prog w 0 (λ_=>true) true Try.f3.params.toList args.toList ds ps)
  (hv: ∀(j:Nat) t v,Try.f3.params[j]?=some t->args[j]?=some v->Value.okWide Try.prog w .any base t v):Calls Try.prog 3 args w λe w'=>e= .returned (.bool true)/\Below w.heap.size w w':=
 Am.walkScript hN hA hv
theorem laid:laidOutB Try.prog=true:=X
theorem AaO_:(Try.f3.params.toList.all λt=>Try.prog.readableRec t&&decide (t<Try.prog.types.size))=true:=X
/-- Of what lay there nothing has turned:the row's last step. -/
theorem Abb_ {H:Type}{enc:TypeId×Value->H}{P:Program}{f:Func}{s:ChangeSpec}{apart fresh handsOn again:Bool}{W W':World}{args:Array Value}{v:Value}{ds gs:List (DataW H)}{before pa pv:List MemPlace}
  (hW:DataW.Whole enc P f.params.toList s.vars apart W args.toList ds gs before)
  (hr: ∀(b:Nat) (sp:Nat->Bool) (hd:Bool),DataW.TrodAll enc P W' b sp hd f.resultTypes.toList (v.resultList f.resultTypes.size) (s.fn H (ds++gs)).results [])
  (ha: ∀sp:Nat->Bool,(∀p∈before,sp p.block=true)->DataW.TrodAll enc P W' 0 sp true f.params.toList args.toList (s.fn H (ds++gs)).args pa)
  (hv: ∀sp:Nat->Bool,(∀p∈before,sp p.block=true)->DataW.TrodVars enc P W' sp s.vars (s.fn H (ds++gs)).vars pv)
  (hps:before=pa++pv) (hb:Below W.heap.size W W')
  (hok: ∀(j:Nat) (t:TypeId) (r:Value),f.resultTypes[j]?=some t->(v.resultList f.resultTypes.size)[j]?=some r->Value.okWide P W' .any 0 t r):
  s.post enc P f apart fresh handsOn again W args v W':=by
 have lt: ∀p∈before,p.block<W.heap.size:=λp hp=>hW.lt p hp
 have lo: ∀p∈before,(λb=>decide (b<W.heap.size)) p.block=true:=λp hp=>by simpa using lt p hp
 refine⟨ds,gs,before,[],pa,pv,hW,hr _ _ _,ha _ lo,hv _ lo,World.keptBut_mono (λp hp=>⟨hp, ?_⟩) (hb.frame (· ∈before)),λ_=> ?_⟩
 ·rw[hps,List.mem_append]at hp
  exact Or.inr hp
 ·obtain⟨_,_,_,_,_,hz,hn⟩:=hW
  refine⟨hok,_,_,([]++pa)++pv,⟨[]++pa,pv,trodAll_append (ha _ (λ_ _=>rfl)) (hr _ _ _),hv _ (λ_ _=>rfl),rfl, ?_, ?_⟩, ?_⟩
  ·intro b off hp
   have hin:MemPlace.cell b off∈before:=by rw[hps];simpa using hp
   rw[hb.frozen (lt _ hin)]
   exact hz b off hin
  ·intro h
   have:=hn h
   rw[hps]at this
   simpa using this
  ·intro p hp _
   rw[hps]
   simpa using hp
set_option maxRecDepth 100000 in
theorem Ait_ (os:Os)(started:os.Started)(H:Type)(enc:TypeId×Value->H)(F0:Stop.Interp):
  ReturnsInHanded {} Try.checked os 3 .any ((Rows.OpenSpec.upto Rows.diskScriptSpec).pre6 enc Try.prog Try.f3 Rows.diskScriptUptoRow.domain false) (((Rows.OpenSpec.upto Rows.diskScriptSpec).at F0).post enc Try.prog Try.f3 false true false false):=by
 refine returnsInHanded_of_cond (C:=Try.checked) (s:=(Rows.OpenSpec.upto Rows.diskScriptSpec)) (k:=Rows.uptoSmall) rfl own started X Try.func3
  (OpenSpec.witness (enc:=enc) (C:=Try.checked) (s:=(Rows.OpenSpec.upto Rows.diskScriptSpec)) (k:=Rows.uptoSmall) rfl false ⟨#[],(Try.f3.params.map (Am.zeroT Try.prog)),[]⟩ 8 X X X (x:=([.lit (.int .i64 0), .nil, .lit (.string [])],[],[])) X X X) ?_
 intro W base args ds gs before hval0 hW hcnd hk _
 have hN: ∀d∈ds,Am.lensOk 1048576 d:=λd hd=>Am.lens_small hk d (List.mem_append_left _ hd)
 clear hk
 have hW':=hW
 obtain⟨p,q,hA0,hV,rfl,hfz,hnd⟩:=hW
 have hA:DataW.TrodAll enc Try.prog W 0 (λ_=>true) true Try.f3.params.toList args.toList ds p:=hA0
 have hval: ∀(j:Nat) t v,Try.f3.params[j]?=some t->args[j]?=some v->Value.okWide Try.prog W .any base t v:=hval0
 have hlen:=(trodAll_length hA).1
 obtain⟨rfl,rfl⟩:=trodVars_none hV
 simp only[List.append_nil]at hW'
 have hds: ∃d0 d1 d2,ds=[d0,d1,d2]:=by
  have h:=hA
  rw[Try.params3]at h
  obtain⟨_,_,_,d0,d1,d2,_,_,_,_,e,_,_,_,_⟩:=trodAll_three h
  exact⟨_,_,_,e⟩
 obtain⟨d0,d1,d2,rfl⟩:=hds
 clear hA0 hval0
 refine(walk hN hA hval).mono λe W' ⟨he,hg⟩=> ?_
 subst he
 exact⟨_,rfl,Abb_ (s:=(Rows.OpenSpec.upto Rows.diskScriptSpec).at F0) (pa:=p) (pv:=[]) hW' (λ_ _ _=>(trodAll_cons_mk (shut_bool Try.underlying4 _) trodAll_mk0)) (λsp hsp=>Am.below_all laid hg AaO_ hA (λx hx=>by simpa using hW'.lt x hx) hsp) (λ_ _=>rfl) am
  hg (ok_one X rfl (okWide_bool_mk Try.underlying4 _))⟩
theorem over:Rows.diskScriptUptoRow.holds Try.pinned (Rows.OpenSpec.upto Rows.diskScriptSpec):=
 OpenClaim.holds_of_cond 3 Try.f3 rfl rfl rfl rfl rfl rfl rfl ⟨rfl,rfl,rfl,rfl,rfl⟩ rfl rfl rfl rfl rfl X Try.func3 X
  (of_decide_eq_true X) (by unfold Func.isWrapper;first|(rw[if_pos (by decide+kernel)];kernel_rfl)|(rw[if_neg (by decide+kernel)];exact⟨rfl,rfl⟩))
  (λos started H enc _ F0=>Ait_ os started H enc F0)
/-- The statement. -/
theorem proved:Rows.DiskScriptUptoSaid:=
 over
#print axioms proved
end Go.Proofs.Ytheboekhpelhlaa.diskScript
