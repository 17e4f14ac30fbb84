/- Plain words of layer 16: the stops below a column as a list; a word's lowest bit, and the word without it. No program. -/
import Derived.Test.YtnkanohjfanolaaDoorN
namespace Go.Proofs.YtnkanohjfanolaaDoor

/-- The stops below column c, rising. -/
def upto (t : T4) (c : Nat) : List Nat := (List.range c).filter (bit t)
theorem upto_succ (t : T4) (c : Nat) : upto t (c + 1) = upto t c ++ (if bit t c then [c] else []) := by
  unfold upto
  rw [List.range_succ, List.filter_append]
  cases h : bit t c <;> simp [h]
theorem upto_snoc (t : T4) (c : Nat) (h : bit t c = true) : upto t (c + 1) = upto t c ++ [c] := by rw [upto_succ, h]; rfl
theorem upto_gap (t : T4) (c n : Nat) (h : ∀ x, c ≤ x → x < c + n → bit t x = false) : upto t (c + n) = upto t c := by
  induction n with
  | zero => rfl
  | succ n ih =>
    rw [← Nat.add_assoc, upto_succ, h (c + n) (by omega) (by omega), ih (fun x h1 h2 => h x h1 (by omega))]
    simp
theorem upto_len (t : T4) (c : Nat) : (upto t c).length ≤ c := by
  unfold upto
  exact Nat.le_trans (List.length_filter_le _ _) (by simp)
theorem upto_prefix (t : T4) (c d : Nat) (h : c ≤ d) : upto t c <+: upto t d := by
  obtain ⟨n, rfl⟩ := Nat.exists_eq_add_of_le h
  clear h
  induction n with
  | zero => exact List.prefix_refl _
  | succ n ih =>
    rw [← Nat.add_assoc, upto_succ]
    exact List.IsPrefix.trans ih (List.prefix_append _ _)
theorem mem_upto {t : T4} {c x : Nat} : x ∈ upto t c ↔ x < c ∧ bit t x = true := by unfold upto; simp [List.mem_filter]

/-- The word u holds the bits of v from k on. -/
def From (v k u : Nat) : Prop := ∀ j, j < 64 → u.testBit j = (v.testBit j && decide (k ≤ j))
theorem From.start (v : Nat) : From v 0 v := fun j _ => by simp

theorem low_parts (u : Nat) (h0 : u ≠ 0) (h1 : u < 18446744073709551616) : ∃ z m, Lib.ctz 64 u = z ∧ z < 64 ∧ u = 2 ^ z * (2 * m + 1) := by
  obtain ⟨m, hm, hk⟩ := Lib.ctzFrom_spec 64 u (by omega) h1
  refine ⟨Lib.ctzFrom 64 u, m, ?_, hk, hm⟩
  unfold Lib.ctz; rw [if_neg h0]
theorem low_bit (z m j : Nat) : (2 ^ z * (2 * m + 1)).testBit j = (decide (z ≤ j) && (2 * m + 1).testBit (j - z)) := by
  rw [Nat.mul_comm, Nat.testBit_mul_two_pow]
theorem drop_low (z m : Nat) : 2 ^ z * (2 * m + 1) &&& (2 ^ z * (2 * m + 1) - 1) = 2 ^ z * (2 * m) := by
  have hp := Nat.two_pow_pos z
  have e : 2 ^ z * (2 * m + 1) - 1 = 2 ^ z * (2 * m) + (2 ^ z - 1) := by rw [Nat.mul_add, Nat.mul_one]; omega
  apply Nat.eq_of_testBit_eq
  intro j
  rw [Nat.testBit_and, low_bit, e, Nat.testBit_two_pow_mul_add _ (by omega), Nat.mul_comm (2 ^ z), Nat.testBit_mul_two_pow]
  by_cases hj : z ≤ j
  · rw [if_neg (by omega), decide_eq_true hj, Bool.true_and, Bool.true_and]
    cases hq : j - z with
    | zero => simp
    | succ q => rw [Nat.testBit_succ, Nat.testBit_succ, show (2 * m + 1) / 2 = m by omega, show 2 * m / 2 = m by omega, Bool.and_self]
  · rw [if_pos (by omega), decide_eq_false hj, Bool.false_and, Bool.false_and]; rfl

/-- The lowest bit of what is left is the next one; behind it the word without it is left. -/
theorem From.next {v k u : Nat} (h : From v k u) (h0 : u ≠ 0) (h1 : u < 18446744073709551616) :
    ∃ z, Lib.ctz 64 u = z ∧ z < 64 ∧ k ≤ z ∧ v.testBit z = true ∧ (∀ j, k ≤ j → j < z → v.testBit j = false) ∧ From v (z + 1) (u &&& (u - 1)) ∧ u &&& (u - 1) < u := by
  obtain ⟨z, m, hz, hz64, hm⟩ := low_parts u h0 h1
  have ubit : ∀ j, u.testBit j = (decide (z ≤ j) && (2 * m + 1).testBit (j - z)) := fun j => by rw [hm]; exact low_bit z m j
  have hzt : u.testBit z = true := by rw [ubit z]; simp
  have hvz := h z hz64
  rw [hzt] at hvz
  have hkz : v.testBit z = true ∧ k ≤ z := by
    have := hvz.symm
    simpa using this
  have hd : u &&& (u - 1) = 2 ^ z * (2 * m) := by rw [hm]; exact drop_low z m
  refine ⟨z, hz, hz64, hkz.2, hkz.1, fun j hkj hjz => ?_, fun j hj => ?_, ?_⟩
  · have := h j (by omega)
    rw [ubit j, decide_eq_false (by omega), decide_eq_true hkj, Bool.false_and, Bool.and_true] at this
    exact this.symm
  · rw [hd, Nat.mul_comm, Nat.testBit_mul_two_pow]
    by_cases hjz : j = z
    · subst hjz
      simp
    · have h2 := h j hj
      rw [ubit j] at h2
      by_cases hzj : z ≤ j
      · obtain ⟨q, hq⟩ : ∃ q, j - z = q + 1 := ⟨j - z - 1, by omega⟩
        rw [hq, Nat.testBit_succ, show (2 * m + 1) / 2 = m by omega] at h2
        rw [hq, Nat.testBit_succ, show 2 * m / 2 = m by omega, h2, decide_eq_true (by omega : k ≤ j), decide_eq_true (by omega : z + 1 ≤ j)]
      · rw [decide_eq_false hzj, decide_eq_false (by omega), Bool.false_and, Bool.and_false]
  · rw [hd, hm]
    have := Nat.two_pow_pos z
    rw [Nat.mul_add, Nat.mul_one]; omega
theorem From.zero {v k : Nat} (h : From v k 0) (j : Nat) (hj : j < 64) (hk : k ≤ j) : v.testBit j = false := by
  have := h j hj
  rw [Nat.zero_testBit, decide_eq_true hk, Bool.and_true] at this
  exact this.symm
end Go.Proofs.YtnkanohjfanolaaDoor
