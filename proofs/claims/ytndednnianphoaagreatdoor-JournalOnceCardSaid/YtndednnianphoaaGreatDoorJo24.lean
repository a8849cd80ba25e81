import Derived.Test.YtndednnianphoaaGreatDoorJo23
namespace Go.Proofs.YtndednnianphoaaGreatDoor.Am
open Go.RowKit
theorem Ri_:envS.orc.get 6=some (Oz (.bool true)):=by kernel_rfl
theorem AcA_:ptrT envS 25=true:=by kernel_rfl
theorem JrI.same {s s':St}{col:Nat->Nat}{D M J:Nat}{fl:ByteArray}{R:List (Nat×Nat)}{a b:Nat}{u:Bool}{k:DkS}{g:FileS}(h:JrI s col D M J fl R a b u k g)(hm:s'.mem=s.mem)(hn:s'.next=s.next):JrI s' col D M J fl R a b u k g:=
 ⟨h.dk.same hm hn,h.fs,h.room,h.fu,h.ou,h.safe,h.jn.same hm hn,h.jc⟩
theorem JrI.ext {F G:Nat->Prop}{s s':St}{col:Nat->Nat}{D M J:Nat}{fl:ByteArray}{R:List (Nat×Nat)}{a b:Nat}{u:Bool}{k:DkS}{g:FileS}(h:JrI s col D M J fl R a b u k g)(x:Ext F G s s')(hG: ∀y,y<s.next->G y->1000<=col y/\(y<J\/J+5<=y)):JrI s' col D M J fl R a b u k g:=
 ⟨h.dk.ext x (by rw[h.fs];show 1<=300;decide) λy hy g=>(hG y hy g).1,h.fs,h.room,h.fu,h.ou,h.safe,h.jn.ext x λy hy g=>(hG y hy g).2,h.jc⟩
theorem JrA.same {s s':St}{col:Nat->Nat}{D M J:Nat}{fl:ByteArray}{R:List (Nat×Nat)}{a b:Nat}{u:Bool}(h:JrA s col D M J fl R a b u)(hm:s'.mem=s.mem)(hn:s'.next=s.next):JrA s' col D M J fl R a b u:=by
 obtain⟨k,g,h⟩:=h
 exact⟨k,g,h.same hm hn⟩
theorem JrA.ext0 {F:Nat->Prop}{s s':St}{col:Nat->Nat}{D M J:Nat}{fl:ByteArray}{R:List (Nat×Nat)}{a b:Nat}{u:Bool}(h:JrA s col D M J fl R a b u)(x:Ext F Non s s'):JrA s' col D M J fl R a b u:=by
 obtain⟨k,g,h⟩:=h
 exact⟨k,g,h.ext x λ_ _ q=>q.elim⟩
section
variable {n D M J:Nat}{s:St}{col:Nat->Nat}{fl:ByteArray}{R:List (Nat×Nat)}{a b:Nat}{Q:Value->St->Prop}
end
theorem OB:slN envS 22=some 1:=by kernel_rfl
theorem nm_p:(⟨#[106,111,117,114,110,97,108,46]⟩:ByteArray)=preJ:=by kernel_rfl
def BoR (s:St)(v:Value)(l:List Bool):Prop:=(v= .slice none 0 0/\l=[])\/ ∃b o c,v= .slice (some ⟨b,o,none⟩) l.length c/\Row s b o (l.map Value.bool)
theorem BoR.ext0 {F:Nat->Prop}{s s':St}{v:Value}{l:List Bool}(h:BoR s v l)(x:Ext F Non s s'):BoR s' v l:=by
 rcases h with h|⟨b,o,c,h1,h2⟩
 ·exact .inl h
 ·exact .inr ⟨b,o,c,h1,h2.ext0 x⟩
theorem BoR.same {s s':St}{v:Value}{l:List Bool}(h:BoR s v l)(hm:s'.mem=s.mem)(hn:s'.next=s.next):BoR s' v l:=by
 rcases h with h|⟨b,o,c,h1,h2⟩
 ·exact .inl h
 ·exact .inr ⟨b,o,c,h1,λi v e=>(h2 i v e).same hm hn⟩
theorem BoR.len {s s':St}{v:Value}{l:List Bool}(h:BoR s v l)(Q:Value->St->Prop):W (A8 envS .len [22] [v]) s' Q=Q (.int .i64 (l.length:Nat)) s':=by
 rcases h with⟨rfl,rfl⟩|⟨b,o,c,rfl,_⟩
 ·exact B0 (n:=0) OB Q
 ·exact B0 OB Q
theorem BoR.at {s:St}{v:Value}{l:List Bool}{i:Nat}(h:BoR s v l)(hi:i<l.length): ∃b o c,v= .slice (some ⟨b,o,none⟩) l.length c/\At s b (o+i*1) (.bool l[i]):=by
 rcases h with⟨_,rfl⟩|⟨b,o,c,h1,h2⟩
 ·cases hi
 ·refine⟨b,o,c,h1, ?_⟩
  rw[Nat.mul_one]
  exact h2 i _ (by simp[hi])
section
variable {n D M J:Nat}{s:St}{col:Nat->Nat}{va vb:Value}{l:List Bool}{bs:List Nat}
end
open Go.RowKit Go.ChangeShapes Go.WideShapes
theorem OY_:envS.P=Tryz.prog:=by kernel_rfl
theorem EU_:Tryz.prog.underlying 3=some (.int .i64):=by kernel_rfl
theorem Nq_:Tryz.prog.underlying 22=some (.slice 4):=by kernel_rfl
theorem LR_:Tryz.prog.underlying 4=some .bool:=by kernel_rfl
theorem Zw_:Tryz.prog.cellsOf 4=1:=by kernel_rfl
theorem Ax.bool' {P:Program}{N F:Nat}{s:St}{t:TypeId}{us:List Value}(hu:P.underlying t=some .bool)(h:Ax P N s (F+1) t us): ∃b,us=[.bool b]:=by
 unfold Ax at h
 rw[hu]at h
 exact h
theorem Rd_ {P:Program}{N F:Nat}{s:St}{t e:TypeId}{us:List Value}(ht:P.underlying t=some (.slice e))(he:P.underlying e=some .bool)(hc:P.cellsOf e=1)(h:Ax P N s (F+2) t us): ∃v l,us=[v]/\BoR s v l/\l.length<=9223372036854775807/\l.length<=N:=by
 obtain⟨v,es,rfl,hE,hM,hN,ha⟩:=Ax.slice ht (by rw[hc];decide) h
 have h1: ∀i,i<es.length-> ∃b:Bool,es[i]?=some [.bool b]:=λi hi=>by
  obtain⟨_,hx⟩:=ha _ (List.getElem_mem hi)
  obtain⟨b,e1⟩:=hx.bool' he
  exact⟨b,by rw[List.getElem?_eq_getElem hi,e1]⟩
 obtain⟨l,hl,hp⟩:=O1 h1
 refine⟨v,l,rfl, ?_,by omega,by omega⟩
 rcases hE with⟨rfl,rfl⟩|⟨b,c,rfl,_,_,hr⟩
 ·exact .inl ⟨rfl,List.eq_nil_of_length_eq_zero hl⟩
 ·rw[hc]at hr
  refine .inr ⟨b,0,c,by rw[hl],λi x e=> ?_⟩
  obtain⟨z,e1,rfl⟩: ∃z,l[i]?=some z/\Value.bool z=x:=by
   rw[List.getElem?_map]at e
   exact Option.map_eq_some_iff.1 e
  have:=hr i _ (hp i z e1) 0 _ rfl
  rw[Nat.mul_one]at this
  rw[Nat.zero_add]
  exact this
section
attribute [local irreducible] Ax
