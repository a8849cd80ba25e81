/- SHA-256, in plain numbers. -/
import GoSem.Step
namespace Go.Proofs.YtkgncjlgmnbfoaaGreatDoor

/-- A word turned right by n places. -/
def rot (x n : Nat) : Nat := x / 2 ^ n ||| x * 2 ^ (32 - n) % 4294967296
theorem rot_lt (x n : Nat) (h : x < 4294967296) : rot x n < 4294967296 := by
  unfold rot
  exact Nat.or_lt_two_pow (n := 32) (Nat.lt_of_le_of_lt (Nat.div_le_self _ _) h) (Nat.mod_lt _ (by decide))
namespace Sha
def s0 (x : Nat) : Nat := rot x 7 ^^^ rot x 18 ^^^ x / 2 ^ 3
def s1 (x : Nat) : Nat := rot x 17 ^^^ rot x 19 ^^^ x / 2 ^ 10
theorem xor_lt {a b : Nat} (ha : a < 4294967296) (hb : b < 4294967296) : a ^^^ b < 4294967296 := Nat.xor_lt_two_pow (n := 32) ha hb
theorem or_lt {a b : Nat} (ha : a < 4294967296) (hb : b < 4294967296) : a ||| b < 4294967296 := Nat.or_lt_two_pow (n := 32) ha hb
theorem s0_lt {x : Nat} (h : x < 4294967296) : s0 x < 4294967296 := xor_lt (xor_lt (rot_lt _ _ h) (rot_lt _ _ h)) (Nat.lt_of_le_of_lt (Nat.div_le_self _ _) h)
theorem s1_lt {x : Nat} (h : x < 4294967296) : s1 x < 4294967296 := xor_lt (xor_lt (rot_lt _ _ h) (rot_lt _ _ h)) (Nat.lt_of_le_of_lt (Nat.div_le_self _ _) h)
/-- Four bytes, the highest first. -/
def be (a b c d : Nat) : Nat := a * 2 ^ 24 ||| b * 2 ^ 16 ||| c * 2 ^ 8 ||| d
/-- The words of 64 bytes, and those that are made of them. -/
def sch (B : Nat → Nat) (i : Nat) : Nat :=
  if i < 16 then be (B (4 * i)) (B (4 * i + 1)) (B (4 * i + 2)) (B (4 * i + 3))
  else (((sch B (i - 16) + s0 (sch B (i - 15))) % 4294967296 + sch B (i - 7)) % 4294967296 + s1 (sch B (i - 2))) % 4294967296
termination_by i
decreasing_by all_goals omega
theorem be_lt {a b c d : Nat} (ha : a < 256) (hb : b < 256) (hc : c < 256) (hd : d < 256) : be a b c d < 4294967296 :=
  or_lt (or_lt (or_lt (by omega) (by omega)) (by omega)) (by omega)
theorem sch_lt {B : Nat → Nat} (hB : ∀ j, B j < 256) (i : Nat) : sch B i < 4294967296 := by
  unfold sch
  split
  · exact be_lt (hB _) (hB _) (hB _) (hB _)
  · exact Nat.mod_lt _ (by decide)
theorem sch_lo {B : Nat → Nat} {i : Nat} (h : i < 16) : sch B i = be (B (4 * i)) (B (4 * i + 1)) (B (4 * i + 2)) (B (4 * i + 3)) := by
  rw [sch, if_pos h]
theorem sch_hi {B : Nat → Nat} {i : Nat} (h : 16 ≤ i) : sch B i = (((sch B (i - 16) + s0 (sch B (i - 15))) % 4294967296 + sch B (i - 7)) % 4294967296 + s1 (sch B (i - 2))) % 4294967296 := by
  rw [sch, if_neg (by omega)]

/-- A state: eight words. -/
structure St8 where
  a : Nat
  b : Nat
  c : Nat
  d : Nat
  e : Nat
  f : Nat
  g : Nat
  h : Nat
structure St8.Ok (s : St8) : Prop where
  a : s.a < 4294967296
  b : s.b < 4294967296
  c : s.c < 4294967296
  d : s.d < 4294967296
  e : s.e < 4294967296
  f : s.f < 4294967296
  g : s.g < 4294967296
  h : s.h < 4294967296
def t1 (s : St8) (k w : Nat) : Nat :=
  ((((s.h + (rot s.e 6 ^^^ rot s.e 11 ^^^ rot s.e 25)) % 4294967296 + (s.e &&& s.f ^^^ (4294967295 ^^^ s.e) &&& s.g)) % 4294967296 + k) % 4294967296 + w) % 4294967296
def t2 (s : St8) : Nat :=
  ((rot s.a 2 ^^^ rot s.a 13 ^^^ rot s.a 22) + (s.a &&& s.b ^^^ s.a &&& s.c ^^^ s.b &&& s.c)) % 4294967296
def rnd (s : St8) (k w : Nat) : St8 := ⟨(t1 s k w + t2 s) % 4294967296, s.a, s.b, s.c, (s.d + t1 s k w) % 4294967296, s.e, s.f, s.g⟩
theorem rnd_ok {s : St8} (h : s.Ok) (k w : Nat) : (rnd s k w).Ok := ⟨Nat.mod_lt _ (by decide), h.a, h.b, h.c, Nat.mod_lt _ (by decide), h.e, h.f, h.g⟩
/-- Behind so many rounds. -/
def rnds (K W : Nat → Nat) (s : St8) : Nat → St8
  | 0 => s
  | n + 1 => rnd (rnds K W s n) (K n) (W n)
theorem rnds_ok {K W : Nat → Nat} {s : St8} (h : s.Ok) : ∀ n, (rnds K W s n).Ok
  | 0 => h
  | n + 1 => rnd_ok (rnds_ok h n) _ _
def plus (s r : St8) : St8 := ⟨(r.a + s.a) % 4294967296, (r.b + s.b) % 4294967296, (r.c + s.c) % 4294967296, (r.d + s.d) % 4294967296, (r.e + s.e) % 4294967296, (r.f + s.f) % 4294967296, (r.g + s.g) % 4294967296, (r.h + s.h) % 4294967296⟩
def ks : List Nat := [0x428a2f98, 0x71374491, 0xb5c0fbcf, 0xe9b5dba5, 0x3956c25b, 0x59f111f1, 0x923f82a4, 0xab1c5ed5, 0xd807aa98, 0x12835b01, 0x243185be, 0x550c7dc3, 0x72be5d74, 0x80deb1fe, 0x9bdc06a7, 0xc19bf174, 0xe49b69c1, 0xefbe4786, 0x0fc19dc6, 0x240ca1cc, 0x2de92c6f, 0x4a7484aa, 0x5cb0a9dc, 0x76f988da, 0x983e5152, 0xa831c66d, 0xb00327c8, 0xbf597fc7, 0xc6e00bf3, 0xd5a79147, 0x06ca6351, 0x14292967, 0x27b70a85, 0x2e1b2138, 0x4d2c6dfc, 0x53380d13, 0x650a7354, 0x766a0abb, 0x81c2c92e, 0x92722c85, 0xa2bfe8a1, 0xa81a664b, 0xc24b8b70, 0xc76c51a3, 0xd192e819, 0xd6990624, 0xf40e3585, 0x106aa070, 0x19a4c116, 0x1e376c08, 0x2748774c, 0x34b0bcb5, 0x391c0cb3, 0x4ed8aa4a, 0x5b9cca4f, 0x682e6ff3, 0x748f82ee, 0x78a5636f, 0x84c87814, 0x8cc70208, 0x90befffa, 0xa4506ceb, 0xbef9a3f7, 0xc67178f2]
def K (i : Nat) : Nat := ks.getD i 0
theorem ks_len : ks.length = 64 := by rfl
/-- The state behind 64 bytes more. -/
def next (s : St8) (B : Nat → Nat) : St8 := plus s (rnds K (sch B) s 64)
theorem plus_ok (s r : St8) : (plus s r).Ok := ⟨Nat.mod_lt _ (by decide), Nat.mod_lt _ (by decide), Nat.mod_lt _ (by decide), Nat.mod_lt _ (by decide), Nat.mod_lt _ (by decide), Nat.mod_lt _ (by decide), Nat.mod_lt _ (by decide), Nat.mod_lt _ (by decide)⟩
end Sha
end Go.Proofs.YtkgncjlgmnbfoaaGreatDoor
