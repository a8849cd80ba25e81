import Derived.Test.YtofanlcjeohcjaaIFn14
import Derived.Test.YtofanlcjeohcjaaIFn07
import Derived.KernelRfl
namespace Go.Proofs.Ytofanlcjeohcjaa.Am
open Go.RowKit
section
variable {s:St}
def Bn (s:St)(v:Value)(l:List Nat):Prop:= ∃b o c,v= .slice (some ⟨b,o,none⟩) l.length c∧l.length≤c%capU∧B3 c 1=true∧Row s b o (u8l l)
theorem Bn.bs {v:Value}{l:List Nat}(h:Bn s v l):Bs s v l:= .inr h
theorem Bn.ext {F G:Nat→Prop}{s s':St}{v:Value}{l:List Nat}(h:Bn s v l)(e:Ext F G s s')(hG: ∀x,BsF v x→ ¬G x):Bn s' v l:=by
 rcases h.bs.ext e hG with⟨rfl,_⟩|h'
 ·obtain⟨_,_,_,e,_⟩:=h;cases e
 ·exact h'
theorem Bn.ext0 {F:Nat→Prop}{s s':St}{v:Value}{l:List Nat}(h:Bn s v l)(e:Ext F Non s s'):Bn s' v l:=h.ext e fun _ _=>id
def Byt (l:List Nat):Prop:= ∀x∈l,x<256
theorem OP: ∀{l:List Nat},Byt l→u8s (u8l l)=some l
 |[],_=>rfl
 |n::l,h=>by
  have e:=OP (l:=l) fun x hx=>h x (by simp[hx])
  show(match Value.int .u8 (.ofNat n),u8s (u8l l)with| .int .u8 (.ofNat n),some ns=>bif Nat.blt n 256 then some (n::ns)else none|_,_=>none)=_
  rw[e]
  simp -implicitDefEqProofs only[Ce (h n (by simp)),cond_true]
theorem W.rdB {b o:Nat}{l:List Nat}{Q:List Value→St→Prop}(h:Row s b o (u8l l))(q: ∀s1,s1.mem=s.mem→s1.next=s.next→Ext (In b o l.length) Non s s1→Q (u8l l) s1):W (Am.rdL l.length ⟨b,o,none⟩) s Q:=by
 have hl:l.length=(u8l l).length:=(Bp l).symm
 rw[hl]
 refine W.rdL h fun s1 e1 e2 e3=>q s1 e1 e2 ?_
 rw[Bp]at e3
 exact e3
end
structure Room (s s':St)(N:Nat)(v:Value)(b:Nat):Prop where
 val:v= .slice (some ⟨b,0,none⟩) 0 (capU*((b+N*1)*1024+1)+N)
 new:s.next≤b
 own:AI s' b 0 (List.replicate N (.int .u8 0))
def tot (l:List (Value×List Nat)):Nat:=(l.map fun p=>p.2.length).sum
structure Parts (s:St)(b o:Nat)(l:List (Value×List Nat)):Prop where
 row:Row s b o (l.map (·.1))
 bs: ∀p∈l,Bs s p.1 p.2
theorem Parts.same {s s':St}{b o:Nat}{l:List (Value×List Nat)}(h:Parts s b o l)(hm:s'.mem=s.mem)(hn:s'.next=s.next):Parts s' b o l:=
 ⟨fun i v e=>(h.row i v e).same hm hn,fun p hp=>(h.bs p hp).same hm hn⟩
theorem Parts.ext0 {F:Nat→Prop}{s s':St}{b o:Nat}{l:List (Value×List Nat)}(h:Parts s b o l)(e:Ext F Non s s'):Parts s' b o l:=⟨h.row.ext0 e,fun p hp=>(h.bs p hp).ext0 e⟩
section
variable {b o c:Nat}{parts:List (Value×List Nat)}
theorem Parts.get {s:St}(h:Parts s b o parts){i:Nat}(hi:i<parts.length):At s b (o+i*1) parts[i].1∧Bs s parts[i].1 parts[i].2:=by
 refine⟨?_,h.bs _ (List.getElem_mem hi)⟩
 rw[Nat.mul_one]
 exact h.row i _ (by simp[hi])
end
section
variable {b o c:Nat}{parts:List (Value×List Nat)}
end
structure New (s s':St)(v:Value)(l:List Nat):Prop where
 bn:Bn s' v l
 new: ∀x,BsF v x→s.next≤x
theorem Ext.cx' {F G:Nat→Prop}{s s1:St}{c:Ctx}(x:Ext F G (s.cxN c) s1):Ext F G s (s1.cxN s.cx):=⟨x.nxt,x.lim,rfl,x.mem,x.rd,x.wr⟩
theorem Bn.same {s s':St}{v:Value}{l:List Nat}(h:Bn s v l)(hm:s'.mem=s.mem)(hn:s'.next=s.next):Bn s' v l:=by
 obtain⟨b,o,c,h0,h1,h2,h3⟩:=h
 exact⟨b,o,c,h0,h1,h2,fun i v e=>(h3 i v e).same hm hn⟩
def le4 (n:Nat):List Nat:=[n%256,n>>>8%256,n>>>16%256,n>>>24%256]
def gput (l:List Nat):List Nat:=l++le4 (DO 0 l)
theorem Byt.le4 (n:Nat):Byt (le4 n):=fun x hx=>by
 simp -implicitDefEqProofs only[Am.le4,List.mem_cons,List.not_mem_nil,or_false]at hx
 omega
theorem Byt.gput {l:List Nat}(h:Byt l):Byt (gput l):=fun x hx=>by
 rcases List.mem_append.1 hx with hx|hx
 ·exact h x hx
 ·exact Byt.le4 _ x hx
theorem Bs.at {s:St}{v:Value}{l:List Nat}(h:Bs s v l){i:Nat}(hi:i<l.length): ∃b o c,v= .slice (some ⟨b,o,none⟩) l.length c∧At s b (o+i*1) (u8 l[i])∧(∀x,x=b+(o+i*1)→BsF v x):=by
 rcases h with⟨rfl,rfl⟩|⟨b,o,c,rfl,_,_,h3⟩
 ·simp at hi
 ·refine⟨b,o,c,rfl, ?_,fun x hx=>⟨by omega,by omega⟩⟩
  rw[Nat.mul_one]
  exact h3.at (List.getElem?_eq_getElem hi)
section
variable {va vb:Value}{la lb:List Nat}
end
theorem W.cut {E:Env}{t:Nat}{s:St}{v:Value}{l:List Nat}{i j:Nat}{lo hi:Option Value}{Q:Value→St→Prop}(h:Bn s v l)(ht:slN E t=some 1)(hlo:bndV lo 0=some i)(hhi:bndV hi l.length=some j)(hij:i≤j)(hj:j≤l.length)
  (q: ∀v',Bn s v' ((l.take j).drop i)→(∀x,BsF v' x→BsF v x)→Q v' s):W (Dq E t v lo hi) s Q:=by
 obtain⟨b,o,c,rfl,h1,h2,h3⟩:=h
 rw[KN_ ht hlo hhi hij (by omega) h2]
 obtain⟨o',e1,e2,e3,e4,e5⟩:=Bs.sub' hij hj h1 h2 h3
 rw[e1]
 refine q _ ⟨b,o',c-i,rfl,e2,e3,e4⟩ fun x hx=> ?_
 have hlen:((l.take j).drop i).length=j-i:=by rw[List.length_drop,List.length_take];omega
 have h6:b+o'≤x:=hx.1
 have h7:x<b+o'+((l.take j).drop i).length:=hx.2
 rw[hlen]at h7
 rcases e5 with rfl|e5
 ·exact⟨by omega,by omega⟩
 ·rw[hlen]at e5;omega
def GOk (l:List Nat):Prop:=4≤l.length∧gput (l.take (l.length-4))=l
instance (l:List Nat):Decidable (GOk l):=by unfold GOk;infer_instance
structure DS where
 st:Sha.St8
 w:List Nat
 n:Nat
def DS.k (d:DS)(b:List Nat):Nat:=Nat.min (64-d.n%64) b.length
def DS.w' (d:DS)(b:List Nat):List Nat:=d.w.take (d.n%64)++(b.take (d.k b)++d.w.drop (d.n%64+d.k b))
def DS.step (d:DS)(b:List Nat):DS:=⟨if d.n%64+d.k b=64 then Sha.next d.st (fun j=>(d.w' b).getD j 0)else d.st,d.w' b,d.n+d.k b⟩
def DS.write:Nat→DS→List Nat→DS
 |0,d,_=>d
 |f+1,d,b=>if b.length=0 then d else DS.write f (d.step b) (b.drop (d.k b))
structure Dig (s:St)(D:Nat)(d:DS):Prop where
 made:Own s D 0 (.bool true)
 st:AI s D 1 (st8V d.st).toList
 w:AI s D 9 (u8l d.w)
 n:Own s D 73 (.int .i64 (d.n:Nat))
 len:d.w.length=64
 byt:Byt d.w
 ok:d.st.Ok
theorem Dw_ (r:Sha.St8):(st8V r).toList.length=8:=rfl
theorem Dig.ext0 {F:Nat→Prop}{s s':St}{D:Nat}{d:DS}(h:Dig s D d)(e:Ext F Non s s'):Dig s' D d:=⟨h.made.ext0 e,h.st.ext0 e,h.w.ext0 e,h.n.ext0 e,h.len,h.byt,h.ok⟩
theorem Dig.same {s s':St}{D:Nat}{d:DS}(h:Dig s D d)(hm:s'.mem=s.mem)(hn:s'.next=s.next):Dig s' D d:=
 ⟨h.made.same hm hn,fun i v e=>(h.st i v e).same hm hn,fun i v e=>(h.w i v e).same hm hn,h.n.same hm hn,h.len,h.byt,h.ok⟩
theorem Gn_ {r:Sha.St8}(h:r.Ok):u32s (st8V r).toList=some [r.a,r.b,r.c,r.d,r.e,r.f,r.g,r.h]:=by
 have e: ∀(n:Nat) (l:List Value) (ns:List Nat),n<4294967296→u32s l=some ns→u32s (.int .u32 (n:Int)::l)=some (n::ns):=fun n l ns hn hl=>by
  show(match Value.int .u32 (.ofNat n),u32s l with| .int .u32 (.ofNat n),some ns=>bif Nat.blt n 4294967296 then some (n::ns)else none|_,_=>none)=_
  rw[hl]
  simp -implicitDefEqProofs only[Ce hn,cond_true]
 exact e _ _ _ h.a (e _ _ _ h.b (e _ _ _ h.c (e _ _ _ h.d (e _ _ _ h.e (e _ _ _ h.f (e _ _ _ h.g (e _ _ _ h.h rfl)))))))
theorem W.next {s:St}{r:Sha.St8}{b o c:Nat}{l:List Nat}{Q:Value→St→Prop}(hr:r.Ok)(h:Row s b o (u8l l))(hl:l.length=64)(hb:Byt l)
  (q: ∀s1,s1.mem=s.mem→s1.next=s.next→Ext (In b o 64) Non s s1→Q (.agg (st8V (Sha.next r fun j=>l.getD j 0))) s1):W (Em [.agg (st8V r), .slice (some ⟨b,o,none⟩) 64 c]) s Q:=by
 refine W.on (Gn_ hr) (W.chk (by decide) (W.bind ?_))
 have h2:l.length=(u8l l).length:=(Bp l).symm
 show W (Am.rdL 64 ⟨b,o,none⟩) s _
 rw[←hl]
 refine W.rdB h fun s1 e1 e2 e3=>W.on (OP hb) ?_
 show W (H1 r l st8M) s1 Q
 rw[IX,Jr]
 rw[hl]at e3
 exact W.pure (q s1 e1 e2 e3)
end Go.Proofs.Ytofanlcjeohcjaa.Am
