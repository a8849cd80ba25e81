import Derived.Test.YtofanlcjeohcjaaMt20
import Derived.Test.YtofanlcjeohcjaaMt08
import Derived.Carry
namespace Go.Proofs.Ytofanlcjeohcjaa.Am
open Go.RowKit Go.ChangeShapes Go.WideShapes
theorem PJ_ {n:Nat}{s:St}{Q:Value→St→Prop}(hn:100≤n)(q: ∀s1,s1.lim≤s1.next∨True→s1.cx=s.cx→s1.mem=s.mem→Q (.tuple #[.slice none 0 0, .slice none 0 0, .slice none 0 0, .bool true]) s1):
  W (Au envS (runF envS n) 30 [.slice none 0 0]) s Q:=by
 refine Vr fun tm h0=> ?_
 refine Yi.w rfl (by omega) ?_
 simp -implicitDefEqProofs only[PW,Aa,W_mv,Ac]
 refine Bs_.w AT_ (by omega) ?_
 simp -implicitDefEqProofs only[OQ,Aa,W_mv,Ac]
 refine Tv.w Ys (by omega) ?_
 simp -implicitDefEqProofs only[Ra,Aa,W_mv,Ac]
 refine TB.w AF_ (by omega) ?_
 simp -implicitDefEqProofs only[QF,Aa,W_mv,Ac]
 refine VG.w WA (by omega) ?_
 simp -implicitDefEqProofs only[QE,Aa,W_mv,Ac]
 refine Vf.w TM (by omega) ?_
 simp -implicitDefEqProofs only[Ox,Aa,W_mv,Ac]
 refine OX.w XI (by omega) ?_
 have e1:(decide ((0:Int)<((0:Nat):Int)))=false:=rfl
 have e2:(decide ((20:Int)<((0:Nat):Int)))=false:=rfl
 have e3:(decide ((4000:Int)<0))=false:=rfl
 simp -implicitDefEqProofs only[M0,Ad,W_oS,W_on,Aa,W_mv,Ac,T.get_set,Al,Ak,Aj,reduceIte,AV,BC,A0,Bm,AU,reduceCtorEq, ↓reduceIte,BA,h0,BX Ci,e1]
 refine W.cond (v:=false) Mb ML (by simp[T.get_set]) (by omega) (fun h=>by cases h) fun _=> ?_
 refine UH.w Oz (by omega) ?_
 simp -implicitDefEqProofs only[Rp,Ad,W_oS,W_on,Aa,W_mv,Ac,T.get_set,Al,Ak,Aj,reduceIte,AV,Bc,A0,A6,AU,Nat.reduceEqDiff,reduceCtorEq, ↓reduceIte,Dj,h0,BX Ci,e2,e3]
 refine W.cond (v:=false) MN Kf (by simp[T.get_set]) (by omega) (fun h=>by cases h) fun _=> ?_
 refine Wb.w W9 (by omega) ?_
 simp -implicitDefEqProofs only[OA,Aa,W_mv,Ac]
 refine N3.w Af_ (by omega) ?_
 simp -implicitDefEqProofs only[Nl,Ad,W_oS,Aa,W_mv,Ac,T.get_set,Al,Ak,Aj,reduceIte,reduceCtorEq, ↓reduceIte,BA,h0,BX Ci,e1]
 refine W.cond (v:=false) Qk QQ (by simp[T.get_set]) (by omega) (fun h=>by cases h) fun _=> ?_
 refine UU.w US (by omega) ?_
 simp -implicitDefEqProofs only[PS,Aa,W_mv,Ac,T.get_set,reduceIte,Nat.reduceEqDiff, ↓reduceIte]
 refine W.end' (rs:=[2,3,4,5]) (vs:=[.slice none 0 0, .slice none 0 0, .slice none 0 0, .bool true]) Tj (.inl AS_) (by omega) Hp Jc rfl (by simp[T.get_set]) ?_
 exact q _ (.inr trivial) rfl rfl
theorem SX:envS.P=Try.prog:=by kernel_rfl
theorem Gi_:Try.prog.underlying 43=some (.slice 22):=by kernel_rfl
theorem Uz_:Try.prog.underlying 22=some (.slice 5):=by kernel_rfl
theorem GL_:Try.prog.underlying 5=some (.int .u8):=by kernel_rfl
theorem V8:Try.prog.underlying 3=some (.int .i64):=by kernel_rfl
theorem NS_:Try.prog.cellsOf 22=1:=by kernel_rfl
theorem RW_:Try.prog.cellsOf 5=1:=by kernel_rfl
theorem KK_ (qs:List Part){w:World}{vs:List Value}(hlen:vs.length=qs.length)(hok: ∀(i:Nat) (p:Part) (v:Value),qs[i]?=some p→vs[i]?=some v→EC w p v): ∃parts:List (Value×List Nat),parts.length=qs.length∧Parts (Dx qs) 0 0 parts∧(∀p∈parts,∀x,BsF p.1 x→x<(Dx qs).next)∧ ∀p∈parts,Byt p.2:=by
 have each: ∀i,∃p:Value×List Nat,i<qs.length→(DV (qs.length+1) qs)[i]?=some p.1∧Bs (Dx qs) p.1 p.2∧Byt p.2∧ ∀x,BsF p.1 x→x<(Dx qs).next:=fun i=>by
  by_cases hi:i<qs.length
  ·obtain⟨v,h1,h2,h3,h4⟩:=VR_ qs hlen hok (List.getElem?_eq_getElem hi)
   exact⟨(v,qs[i].l),fun _=>⟨h1,h2,h3,h4⟩⟩
  ·exact⟨(undef,[]),fun h=>absurd h hi⟩
 obtain⟨f,hf⟩:=Classical.axiomOfChoice each
 refine⟨(List.range qs.length).map f,by simp,⟨fun i u e=> ?_,fun p hp=> ?_⟩,fun p hp=> ?_,fun p hp=> ?_⟩
 ·rw[List.map_map,List.getElem?_map,Option.map_eq_some_iff]at e
  obtain⟨j,g1,rfl⟩:=e
  have hi:=(List.getElem?_eq_some_iff.1 g1).1
  rw[List.length_range]at hi
  rw[List.getElem?_range hi]at g1
  cases g1
  exact WF_ qs i _ (hf i hi).1
 ·obtain⟨j,hj,rfl⟩:=List.mem_map.1 hp
  exact(hf j (List.mem_range.1 hj)).2.1
 ·obtain⟨j,hj,rfl⟩:=List.mem_map.1 hp
  exact(hf j (List.mem_range.1 hj)).2.2.2
 ·obtain⟨j,hj,rfl⟩:=List.mem_map.1 hp
  exact(hf j (List.mem_range.1 hj)).2.2.1
theorem Rd_ {n:Nat}{x y:Int}{m:Nat}{s:St}(hn:200≤n):W (Au envS (runF envS n) 6 [.slice none 0 0, .int .i64 x, .int .i64 y, .int .u32 (m:Nat)]) s fun u _=>u= .bool true:=by
 refine BL_ fun tm h0 h1 h2 h3=> ?_
 refine BQ_.w rfl (by omega) ?_
 simp -implicitDefEqProofs only[R6,Aa,W_mv,Ac]
 refine X0.w Yv (by omega) ?_
 simp -implicitDefEqProofs only[P1,Ad,W_on,Aa,W_mv,Ac,Ak,AS]
 refine W.orc Zy (W.pure ?_)
 refine Vv.w Vq (by omega) ?_
 simp -implicitDefEqProofs only[RR,Ad,W_oS,W_on,Aa,W_mv,Ac,T.get_set,Al,Ak,Aj,AS,reduceIte,reduceCtorEq, ↓reduceIte,h0]
 refine PJ_ (by omega) fun s1 _ c1 _=> ?_
 rw[Be (k:=0) rfl,Be (k:=1) rfl,Be (k:=2) rfl,Be (k:=3) rfl]
 refine Pj.w RY (by omega) ?_
 have ez:(decide (((0:Nat):Int)=0))=true:=rfl
 simp -implicitDefEqProofs only[Lc,Ad,W_oS,W_on,Aa,W_mv,Ac,T.get_set,Al,Ak,Aj,reduceIte,AV,Bi,Bc,A0,A6,Bm,AU,Nat.reduceEqDiff,reduceCtorEq, ↓reduceIte,EO,DE,Bool.not_true,h0,h3,BX Ci,ez]
 refine W.cond (v:=true) Jt JK (by simp[T.get_set]) (by omega) (fun _=> ?_) fun h=>by cases h
 refine T0.w Nj (by omega) ?_
 simp -implicitDefEqProofs only[Sg,Aa,W_mv,Ac,T.get_set,reduceIte,Nat.reduceEqDiff, ↓reduceIte]
 exact W.end' (rs:=[8]) (vs:=[.bool true]) Xq (.inl Wl) (by omega) MT Qy c1 (by simp[T.get_set]) rfl
theorem Tg_:Try.f6.params.toList=[43,3,3,51]:=by kernel_rfl
theorem Xb_:Try.f6.params= #[43,3,3,51]:=by kernel_rfl
theorem DZ_:Try.prog.underlying 51=some (.int .u32):=by kernel_rfl
theorem Tg:envS.orc.get 6=none:=by kernel_rfl
theorem Ty:envS.ext.get 6=none:=by kernel_rfl
set_option maxRecDepth 1000000 in
theorem walkTurned {H:Type}{enc:TypeId×Value→H}{w:World}{base:Nat}{args:Array Value}{ds:List (DataW H)}{ps:List MemPlace}(hA:DataW.TrodAll enc Try.prog w 0 (fun _=>true) true Try.f6.params.toList args.toList ds ps)
  (hv: ∀(j:Nat) t v,Try.f6.params[j]?=some t→args[j]?=some v→Value.okWide Try.prog w .any base t v):Calls Try.prog 6 args w fun e w'=>e= .returned (.bool true)∧Below w.heap.size w w':=by
 rw[Tg_]at hA
 rw[Xb_]at hv
 obtain⟨v,v',v'',v3,d,d',d'',d3,p,p',p'',p3,rfl,rfl,rfl,hj,_,_,_⟩:=trodAll_four hA
 obtain⟨x,rfl,_,_⟩:=Pr V8 (hv 1 _ v' rfl rfl)
 obtain⟨y,rfl,_,_⟩:=Pr V8 (hv 2 _ v'' rfl rfl)
 obtain⟨z,rfl,z1,z2⟩:=Pr DZ_ (hv 3 _ v3 rfl rfl)
 have z1':(0:Int)≤z:=z1
 have z2':z≤(4294967295:Int):=z2
 obtain⟨m,rfl⟩: ∃m:Nat,z=(m:Nat):=⟨z.toNat,by omega⟩
 have hm:m<4294967296:=by omega
 rcases Lw_ Gi_ Uz_ GL_ NS_ RW_ (hv 0 _ v rfl rfl) hj with rfl|⟨b,o,len,cap,qs,vs,rfl,hc,hmx,rfl,hlen,hb,hok,hcell⟩
 ·have h:=Uk_ (args:= #[.slice none 0 0, .int .i64 x, .int .i64 y, .int .u32 (m:Nat)]) YQ Tg Ty (Rd_ (n:=2200000) (x:=x) (y:=y) (m:=m) (s:=st0) (by omega)) rfl (by
   intro v hv
   simp -implicitDefEqProofs only[List.mem_cons,List.not_mem_nil,or_false]at hv
   rcases hv with rfl|rfl|rfl|rfl<;>rfl) w
  rw[SX]at h
  exact h
 ·obtain⟨parts,hpl,hp,hlt,hby⟩:=KK_ qs hlen hok
  have hrun:W (Au envS (runF envS 2200000) 6 [.slice (some ⟨0,0,none⟩) qs.length cap, .int .i64 x, .int .i64 y, .int .u32 (m:Nat)]) (Dx qs) fun u _=>u= .bool true:=by
   rw[←hpl]
   exact Dv_ (Nat.zero_le _) hp hlt hby hm (by omega)
  have h:=Wd_ (fuel:=2200000) (more:=[.int .i64 x, .int .i64 y, .int .u32 (m:Nat)]) (o:=o) YQ Tg Ty hc hmx (by
   intro v hv
   simp -implicitDefEqProofs only[List.mem_cons,List.not_mem_nil,or_false]at hv
   rcases hv with rfl|rfl|rfl<;>rfl) hrun rfl hb hlen hok hcell
  rw[SX]at h
  exact h
end Go.Proofs.Ytofanlcjeohcjaa.Am
