/- The closure of a function, reckoned with a bit mask in the place of a list of what was seen: the same list. -/
import Derived.Test.YtapojfiplajfaaaGreatDoorProg
import Derived.KernelRfl
import GoSem.ClaimGoes
namespace Go.Proofs.YtapojfiplajfaaaGreatDoor.Am
/-- Is the bit set? -/
def bitB (m f : Nat) : Bool := Nat.beq (Nat.land (Nat.shiftRight m f) 1) 1
def maskOf : List Nat → Nat
  | [] => 0
  | a :: l => Nat.lor (Nat.shiftLeft 1 a) (maskOf l)
theorem bitB_eq (m f : Nat) : bitB m f = m.testBit f := by
  unfold bitB Nat.testBit
  show Nat.beq ((m >>> f) &&& 1) 1 = ((1 &&& (m >>> f)) != 0)
  have h : (m >>> f &&& 1) = (m >>> f) % 2 := Nat.and_one_is_mod _
  have h2 : (1 &&& m >>> f) = (m >>> f) % 2 := by rw [Nat.and_comm, h]
  rw [h, h2]
  rcases Nat.mod_two_eq_zero_or_one (m >>> f) with e | e <;> rw [e] <;> rfl
theorem mask_bit : ∀ (l : List Nat) (f : Nat), bitB (maskOf l) f = l.contains f
  | [], f => by rw [bitB_eq]; simp [maskOf]
  | a :: l, f => by
    have ih := mask_bit l f
    rw [bitB_eq] at ih
    rw [bitB_eq, List.contains_cons, ← ih]
    show (1 <<< a ||| maskOf l).testBit f = _
    rw [Nat.testBit_or, Nat.one_shiftLeft, Nat.testBit_two_pow]
    congr 1
    by_cases h : a = f
    · rw [h]; simp
    · rw [decide_eq_false h]
      exact (beq_eq_false_iff_ne.2 (fun e => h e.symm)).symm
noncomputable def closB (P : Program) (n : Nat) : List FuncId → Nat → List FuncId → List FuncId :=
  Nat.rec (motive := fun _ => List FuncId → Nat → List FuncId → List FuncId) (fun _ _ seen => seen.reverse) (fun _ ih todo m seen =>
    List.rec (motive := fun _ => List FuncId) seen.reverse (fun f todo _ => Bool.rec (motive := fun _ => List FuncId) (ih ((P.funcs[f]?).elim [] P.leadsTo ++ todo) (Nat.lor (Nat.shiftLeft 1 f) m) (f :: seen)) (ih todo m seen) (bitB m f)) todo) n
theorem closB_eq (P : Program) : ∀ (n : Nat) (todo seen : List FuncId), closB P n todo (maskOf seen) seen = P.closureVia n todo seen
  | 0, todo, seen => by cases todo <;> rfl
  | n + 1, [], seen => rfl
  | n + 1, f :: todo, seen => by
    have h : closB P (n + 1) (f :: todo) (maskOf seen) seen = Bool.rec (motive := fun _ => List FuncId) (closB P n ((P.funcs[f]?).elim [] P.leadsTo ++ todo) (Nat.lor (Nat.shiftLeft 1 f) (maskOf seen)) (f :: seen)) (closB P n todo (maskOf seen) seen) (bitB (maskOf seen) f) := rfl
    rw [h, mask_bit]
    unfold Program.closureVia
    cases hc : seen.contains f with
    | true => simp only [if_true]; exact closB_eq P n todo seen
    | false => simp only [Bool.false_eq_true, if_false]; exact closB_eq P n _ (f :: seen)
noncomputable def closF (P : Program) (f : FuncId) : List FuncId := closB P (1 + (P.funcs.toList.map fun g => (P.leadsTo g).length + 1).sum) [f] 0 []
theorem closF_eq (P : Program) (f : FuncId) : P.closure f = closF P f := (closB_eq P _ [f] []).symm
end Go.Proofs.YtapojfiplajfaaaGreatDoor.Am
