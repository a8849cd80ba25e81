import Derived.Test.YtndednnianphoaaGreatDoorJo08
noncomputable section
namespace Go.Proofs.YtndednnianphoaaGreatDoor.Am
open Go.RowKit
section
variable {E:Env}{s:St}{t:Nat}
def Obj (s:St)(l:Nat)(o:AObj):Prop:=l<s.next/\T.get s.mem l=some (.O o)
theorem Obj.ext {F G:Nat->Prop}{s s':St}{l:Nat}{o:AObj}(h:Obj s l o)(e:Ext F G s s')(hG: ¬G l):Obj s' l o:=⟨Nat.lt_of_lt_of_le h.1 e.nxt,by rw[e.mem _ h.1 hG];exact h.2⟩
theorem Obj.same {s s':St}{l:Nat}{o:AObj}(h:Obj s l o)(hm:s'.mem=s.mem)(hn:s'.next=s.next):Obj s' l o:=by
 unfold Obj at *
 rw[hm,hn]
 exact h
theorem W.newO {o:AObj}{Q:Nat->St->Prop}(q: ∀s1,s1.next=s.next+1->Ext Non Non s s1->Obj s1 s.next o->Q s.next s1):W (newO o) s Q:=by
 obtain⟨mem,next,lim,rd,wr,cx⟩:=s
 refine⟨next,⟨T.set mem next (.O o),next+1,lim,rd,wr,cx⟩, ?_,q _ rfl ⟨by simp only;omega,rfl,rfl,λl hl _=> ?_,⟨[],rfl,λ_ h=>by cases h⟩,⟨[],rfl,λ_ h=>by cases h⟩⟩ ⟨by simp only;omega, ?_⟩⟩
 ·show Am.fN next (λb=>Am.fN (Nat.succ b) λn=>R.some b (St.mk (T.set mem b (.O o)) n lim rd wr cx))=_
  rw[Ao,Ao]
 ·simp only at hl ⊢
  rw[T.get_set,if_neg (by omega)]
 ·simp only
  rw[T.get_set,if_pos rfl]
theorem W.getCx {Q:Ctx->St->Prop}(q:Q s.cx s):W getCx s Q:=by
 obtain⟨mem,next,lim,rd,wr,cx⟩:=s
 exact⟨cx,_,rfl,q⟩
theorem W.putCx {c:Ctx}{Q:Unit->St->Prop}(q:Q () (s.cxN c)):W (putCx c) s Q:=by
 obtain⟨mem,next,lim,rd,wr,cx⟩:=s
 exact⟨(),_,rfl,q⟩
abbrev Bh (d:Nat):Deferred:={target:= .collected d,args:= #[]}
def rfP (l:List Item):Option (Nat×List Nat×Code×Code):=match l with| .code (.rangeFunc (.tmp t) ps as bd)::_=>some (t,ps.toList,as,bd)|_=>none
def asC (l:List Item):Code:=match l with| .code (.rangeFunc _ _ as _)::_=>as|_=> .skip
def bdC (l:List Item):Code:=match l with| .code (.rangeFunc _ _ _ bd)::_=>bd|_=> .skip
def Gj_ (l:List Item):List Item:=match l with| .code (.rangeFunc _ _ as bd)::_=>[.code as, .beginRound, .code bd]|_=>[]
theorem Nz_ {P:List Item}{t:Nat}{ps:List Nat}{as bd:Code}(h:rfP P=some (t,ps,as,bd)): ∃pa:Array Nat,P= .code (.rangeFunc (.tmp t) pa as bd)::P.tail/\pa.toList=ps:=by
 unfold rfP at h
 split at h
 ·cases h
  exact⟨_,rfl,rfl⟩
 ·cases h
theorem W.rangeFunc {n f nt g f2:Nat}{tm:T Value}{T P:List Item}{ki:CallKind}{first cap:Array Value}{up:Option FrameMode}{dfs:List Deferred}{ps:List Nat}{as bd:Code}{Q:Value×FrameMode->St->Prop}(ht:skim 64 T=P)(hP:rfP P=some (t,ps,as,bd))(hv:Am.T.get tm t=some (.func (.func f2) first cap))(hx:E.ext.get f2=none)
  (hc:s.cx= .cx up (some dfs)) (hn:0<n)
  (h: ∀s1,s1.next=s.next+2->Ext Non Non s s1->Obj s1 s.next (.deferred (some []))->Obj s1 (s.next+1) (.loop .ready none f nt g tm ps as bd s.next)->
   W (Ab E (runF E (n-1)) f2 (first.toList++(.func (.yield (s.next+1)) #[] #[]::cap.toList))) (s1.cxN (.cx up (some (Bh s.next::dfs)))) λ_ s2=>Obj s2 (s.next+1) (.loop .ready none f nt g tm ps as bd s.next)/\
    W (runF E (n-1) ⟨f,nt,g,tm,P.tail, .run,ki,none⟩) ((s2.rdN (s.next+1)).wrN (s.next+1) (.O (.loop .exhausted none f nt g tm ps as bd s.next))) Q):W (runF E n ⟨f,nt,g,tm,T, .run,ki,none⟩) s Q:=by
 obtain⟨m,rfl⟩: ∃m,n=m+1:=⟨n-1,by omega⟩
 rw[Nat.add_sub_cancel]at h
 obtain⟨pa,hP2,rfl⟩:=Nz_ hP
 rw[hP2]at ht
 refine W.code ht ?_
 show W (M.on (Am.T.get tm t) λfv=>EV E (Ab E (runF E m)) ⟨f,nt,g,tm, .code (.rangeFunc (.tmp t) pa as bd)::P.tail, .run,ki,none⟩ fv pa as bd P.tail) s _
 refine W.on hv (W.bind (W.bind (W.newO λsa na xa oa=>W.bind (W.getCx ?_))))
 have hca:sa.cx= .cx up (some dfs):=by rw[xa.cx];exact hc
 rw[hca]
 refine W.bind (W.putCx (W.pure (W.bind (W.newO λsb nb xb ob=> ?_))))
 have hb:W (Ab E (runF E m) f2 (first.toList++(.func (.yield (s.next+1)) #[] #[]::cap.toList))) sb λ_ s2=>Obj s2 (s.next+1) (.loop .ready none f nt g tm pa.toList as bd s.next)/\
    W (runF E m ⟨f,nt,g,tm,P.tail, .run,ki,none⟩) ((s2.rdN (s.next+1)).wrN (s.next+1) (.O (.loop .exhausted none f nt g tm pa.toList as bd s.next))) Q:=by
  have hn1:(sa.cxN (.cx up (some (Bh s.next::dfs)))).next=s.next+1:=na
  rw[hn1]at ob nb
  have hcb:sb.cx= .cx up (some (Bh s.next::dfs)):=xb.cx
  have x:Ext Non Non s (sb.cxN s.cx):=by
   refine⟨?_, ?_,rfl,λl hl hg=> ?_, ?_, ?_⟩
   ·show s.next<=sb.next
    omega
   ·exact xb.lim.trans xa.lim
   ·exact(xb.mem l (show l<sa.next by omega) hg).trans (xa.mem l hl hg)
   ·obtain⟨d1,p1,p2⟩:=xa.rd
    obtain⟨d2,p3,p4⟩:=xb.rd
    refine⟨d2++d1, ?_,λl hl=> ?_⟩
    ·rw[List.append_assoc,<-p1];exact p3
    ·rcases List.mem_append.1 hl with hl|hl
     ·exact(p4 l hl).2.elim
     ·exact(p2 l hl).2.elim
   ·obtain⟨d1,p1,p2⟩:=xa.wr
    obtain⟨d2,p3,p4⟩:=xb.wr
    refine⟨d2++d1, ?_,λl hl=> ?_⟩
    ·rw[List.append_assoc,<-p1];exact p3
    ·rcases List.mem_append.1 hl with hl|hl
     ·exact(p4 l hl).2.elim
     ·exact(p2 l hl).2.elim
  have:=h (sb.cxN s.cx) (by show sb.next=_;omega) x (by
   have h1:Obj (sa.cxN (.cx up (some (Bh s.next::dfs)))) s.next (.deferred (some [])):=oa.same rfl rfl
   exact(h1.ext xb id).same rfl rfl) (ob.same rfl rfl)
  rw[show(sb.cxN s.cx).cxN (.cx up (some (Bh s.next::dfs)))=sb by
   rw[<-hcb];rfl]at this
  exact this
 have hn1:(sa.cxN (.cx up (some (Bh s.next::dfs)))).next=s.next+1:=na
 rw[hn1]
 refine W.bind (W.np ?_)
 show W (M.chk (E.ext.get f2).isNone (Ab E (runF E m) f2 (first.toList++(.func (.yield (s.next+1)) #[] #[]::cap.toList)))) sb _
 refine W.chk (by rw[hx];rfl) (hb.mono λ_ s2 q=> ?_)
 obtain⟨q1,q2⟩:=q
 show W (M.bind (Am.rdC (s.next+1)) _) s2 _
 refine W.bind (W.rdC q1.2 q1.1 ?_)
 exact W.bind (W.wrC q1.1 (W.pure q2))
theorem W.yield {call round:Ah}{l:Nat}{args:List Value}{Q:Value->St->Prop}(h:W (round l args) s Q):W (Be call round (.func (.yield l) #[] #[]) args) s Q:=h
theorem W.round {n l f nt g d:Nat}{tm:T Value}{ps:List Nat}{as bd:Code}{st:LoopState}{pe:Option Code}{args:List Value}{Q:Value->St->Prop}(hO:Obj s l (.loop st pe f nt g tm ps as bd d))(ha:args.length=ps.length)(hps:ps.all (λp=>Nat.blt p nt)=true)
  (h:W (runF E n ⟨f,nt,g,F9 g ps args tm,[.code as, .beginRound, .code bd], .run, .normal,some l⟩) ((s.rdN l).cxN cxR) λp s1=>Q p.1 (s1.cxN s.cx)):W (A9 (runF E n) l args) s Q:=by
 refine W.np (W.within (W.bind (W.bind ?_)))
 refine W.bind (W.rdC (s:=s.cxN cxR) hO.2 hO.1 ?_)
 show W (M.chk (Nat.beq args.length ps.length&&ps.all λp=>Nat.blt p nt) _) _ _
 refine W.chk (by rw[ha,hps,Nat.beq_refl];rfl) (W.pure ?_)
 exact h.mono λp s1 q=>W.pure q
theorem W.begR {n l f nt g f' nt' g' d:Nat}{tm tm':T Value}{T k:List Item}{ki:CallKind}{ps:List Nat}{as bd:Code}{pe:Option Code}{Q:Value×FrameMode->St->Prop}(ht:skim 64 T= .beginRound::k)(hO:Obj s l (.loop .ready pe f' nt' g' tm' ps as bd d))(hn:0<n)
  (h:W (runF E (n-1) ⟨f,nt,g,tm,k, .run,ki,some l⟩) ((s.rdN l).wrN l (.O (.loop .busy pe f' nt' g' tm' ps as bd d))) Q):W (runF E n ⟨f,nt,g,tm,T, .run,ki,some l⟩) s Q:=by
 obtain⟨m,rfl⟩: ∃m,n=m+1:=⟨n-1,by omega⟩
 rw[Nat.add_sub_cancel]at h
 refine W.run ?_
 show W (noP (Fs E (Ab E (runF E m)) (A9 (runF E m)) ⟨f,nt,g,tm,skim 64 T, .run,ki,some l⟩ (skim 64 T))) s _
 rw[ht]
 refine W.np ?_
 show W (M.bind (Am.rdC l) _) s _
 exact W.bind (W.rdC hO.2 hO.1 (W.bind (W.wrC hO.1 (W.pure h))))
theorem W.endR {n l f nt g f' nt' g' d:Nat}{tm tm':T Value}{T:List Item}{ki:CallKind}{ps:List Nat}{as bd:Code}{st:LoopState}{pe:Option Code}{Q:Value×FrameMode->St->Prop}(ht:skim 64 T=[])(hO:Obj s l (.loop st pe f' nt' g' tm' ps as bd d))(hn:0<n)
  (q:Q (.bool true, .run) ((s.rdN l).wrN l (.O (.loop .ready none f' nt' g' tm' ps as bd d)))):W (runF E n ⟨f,nt,g,tm,T, .run,ki,some l⟩) s Q:=by
 obtain⟨m,rfl⟩: ∃m,n=m+1:=⟨n-1,by omega⟩
 refine W.run ?_
 show W (noP (Fs E (Ab E (runF E m)) (A9 (runF E m)) ⟨f,nt,g,tm,skim 64 T, .run,ki,some l⟩ (skim 64 T))) s _
 rw[ht]
 refine W.np ?_
 show W (M.bind (Am.rdC l) _) s _
 exact W.bind (W.rdC hO.2 hO.1 (W.bind (W.wrC hO.1 (W.pure (W.pure q)))))
