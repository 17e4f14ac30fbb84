/- Plain words of layer 16: four words of 64 bits as stops; a word's bits one by one. No program, no condition beyond what each says. -/
import Derived.Lib.TrailingZeros
namespace Go.Proofs.YtnkanohjfanolaaDoor
/-- Four words. -/
structure T4 where
  a : Nat
  b : Nat
  c : Nat
  d : Nat
/-- Word number i. -/
def T4.w (t : T4) : Nat → Nat | 0 => t.a | 1 => t.b | 2 => t.c | _ => t.d
def T4.put (t : T4) (i v : Nat) : T4 := match i with | 0 => { t with a := v } | 1 => { t with b := v } | 2 => { t with c := v } | _ => { t with d := v }
structure T4.Ok (t : T4) : Prop where
  a : t.a < 18446744073709551616
  b : t.b < 18446744073709551616
  c : t.c < 18446744073709551616
  d : t.d < 18446744073709551616
theorem T4.Ok.w {t : T4} (h : t.Ok) (i : Nat) : t.w i < 18446744073709551616 := by
  match i with
  | 0 => exact h.a
  | 1 => exact h.b
  | 2 => exact h.c
  | _ + 3 => exact h.d
theorem T4.Ok.put {t : T4} (h : t.Ok) (i v : Nat) (hv : v < 18446744073709551616) : (t.put i v).Ok := by
  match i with
  | 0 => exact ⟨hv, h.b, h.c, h.d⟩
  | 1 => exact ⟨h.a, hv, h.c, h.d⟩
  | 2 => exact ⟨h.a, h.b, hv, h.d⟩
  | _ + 3 => exact ⟨h.a, h.b, h.c, hv⟩
theorem T4.w_put (t : T4) (i j v : Nat) (hi : i < 4) (hj : j < 4) : (t.put i v).w j = if j = i then v else t.w j := by
  rcases (show i = 0 ∨ i = 1 ∨ i = 2 ∨ i = 3 by omega) with rfl | rfl | rfl | rfl <;> rcases (show j = 0 ∨ j = 1 ∨ j = 2 ∨ j = 3 by omega) with rfl | rfl | rfl | rfl <;> rfl
theorem T4.ext_w {t u : T4} (h : ∀ i, i < 4 → t.w i = u.w i) : t = u := by
  cases t; cases u
  have h0 := h 0 (by omega); have h1 := h 1 (by omega); have h2 := h 2 (by omega); have h3 := h 3 (by omega)
  simp only [T4.w] at h0 h1 h2 h3
  subst h0 h1 h2 h3; rfl
theorem T4.put_same (t : T4) (i v : Nat) (hi : i < 4) (h : t.w i = v) : t.put i v = t := by
  apply T4.ext_w
  intro j hj
  rw [T4.w_put t i j v hi hj]
  split
  · subst_vars; rfl
  · rfl

/-- Is column x a stop? -/
def bit (t : T4) (x : Nat) : Bool := (t.w (x / 64)).testBit (x % 64)
def isI (t : T4) (x : Int) : Bool := decide (0 ≤ x ∧ x < 200) && bit t x.toNat
def setB (t : T4) (x : Nat) : T4 := t.put (x / 64) (t.w (x / 64) ||| 2 ^ (x % 64))
def clrB (t : T4) (x : Nat) : T4 := t.put (x / 64) (t.w (x / 64) &&& (18446744073709551615 - 2 ^ (x % 64)))
def setI (t : T4) (x : Int) : T4 := if 0 ≤ x ∧ x < 200 then setB t x.toNat else t
def clrI (t : T4) (x : Int) : T4 := if 0 ≤ x ∧ x < 200 then clrB t x.toNat else t

theorem pow_lt (r : Nat) (h : r < 64) : 2 ^ r < 18446744073709551616 := Nat.pow_lt_pow_right (a := 2) (by omega) (m := r) (n := 64) h
theorem or_lt (a b : Nat) (ha : a < 18446744073709551616) (hb : b < 18446744073709551616) : a ||| b < 18446744073709551616 := Nat.or_lt_two_pow (n := 64) ha hb
theorem and_lt (a b : Nat) (ha : a < 18446744073709551616) : a &&& b < 18446744073709551616 := Nat.lt_of_le_of_lt Nat.and_le_left ha
theorem setB_ok {t : T4} (h : t.Ok) (x : Nat) : (setB t x).Ok := h.put _ _ (or_lt _ _ (h.w _) (pow_lt _ (Nat.mod_lt _ (by omega))))
theorem clrB_ok {t : T4} (h : t.Ok) (x : Nat) : (clrB t x).Ok := h.put _ _ (and_lt _ _ (h.w _))
theorem setI_ok {t : T4} (h : t.Ok) (x : Int) : (setI t x).Ok := by unfold setI; split; exact setB_ok h _; exact h
theorem clrI_ok {t : T4} (h : t.Ok) (x : Int) : (clrI t x).Ok := by unfold clrI; split; exact clrB_ok h _; exact h

theorem two_pow_bit (r i : Nat) : (2 ^ r).testBit i = decide (r = i) := Nat.testBit_two_pow
theorem not_pow_bit (r i : Nat) (hr : r < 64) (hi : i < 64) : (18446744073709551615 - 2 ^ r).testBit i = !decide (r = i) := by
  have h : 18446744073709551615 - 2 ^ r = 2 ^ 64 - (2 ^ r + 1) := by omega
  rw [h, Nat.testBit_two_pow_sub_succ (pow_lt r hr), two_pow_bit]
  simp [hi]

theorem bit_setB (t : T4) (x y : Nat) (hx : x < 256) (hy : y < 256) : bit (setB t x) y = (decide (x = y) || bit t y) := by
  unfold bit setB
  rw [T4.w_put t _ _ _ (by omega) (by omega)]
  split
  · rename_i h
    rw [h, Nat.testBit_or, two_pow_bit, Bool.or_comm]
    congr 1
    rw [decide_eq_decide]; omega
  · rename_i h
    rw [decide_eq_false (fun e => h (by rw [e])), Bool.false_or]
theorem bit_clrB (t : T4) (x y : Nat) (hx : x < 256) (hy : y < 256) : bit (clrB t x) y = (!decide (x = y) && bit t y) := by
  unfold bit clrB
  rw [T4.w_put t _ _ _ (by omega) (by omega)]
  split
  · rename_i h
    rw [h, Nat.testBit_and, not_pow_bit _ _ (by omega) (by omega), Bool.and_comm]
    congr 2
    rw [decide_eq_decide]; omega
  · rename_i h
    rw [decide_eq_false (fun e => h (by rw [e])), Bool.not_false, Bool.true_and]

/-- Two fours of words with the same bits are one. -/
theorem T4.ext_bits {t u : T4} (ht : t.Ok) (hu : u.Ok) (h : ∀ x, x < 256 → bit t x = bit u x) : t = u := by
  apply T4.ext_w
  intro i hi
  apply Nat.eq_of_testBit_eq
  intro j
  rcases Nat.lt_or_ge j 64 with hj | hj
  · have := h (64 * i + j) (by omega)
    unfold bit at this
    rwa [show (64 * i + j) / 64 = i from by omega, show (64 * i + j) % 64 = j from by omega] at this
  · rw [Nat.testBit_lt_two_pow (Nat.lt_of_lt_of_le (ht.w i) (Nat.pow_le_pow_right (by omega : 0 < 2) hj)), Nat.testBit_lt_two_pow (Nat.lt_of_lt_of_le (hu.w i) (Nat.pow_le_pow_right (by omega : 0 < 2) hj))]

theorem half_bit (v r : Nat) : v / 2 ^ r % 2 = if v.testBit r then 1 else 0 := by
  rw [← Nat.shiftRight_eq_div_pow, Nat.testBit_eq_decide_div_mod_eq, Nat.shiftRight_eq_div_pow]
  have := Nat.mod_lt (v / 2 ^ r) (show 0 < 2 by omega)
  by_cases h : v / 2 ^ r % 2 = 1
  · simp [h]
  · simp [h]; omega

/-- The reference's way to set a bit that is not there, and to clear one that is. -/
theorem or_add (v r : Nat) (h : v.testBit r = false) : v ||| 2 ^ r = v + 2 ^ r := by
  have h1 := half_bit v r
  rw [h] at h1
  apply Nat.eq_of_testBit_eq
  intro i
  rw [Nat.testBit_or, two_pow_bit]
  have e : v + 2 ^ r = 2 ^ r * (v / 2 ^ r + 1) + v % 2 ^ r := by
    rw [Nat.mul_add, Nat.mul_one]; have := Nat.div_add_mod v (2 ^ r); omega
  have e0 : v = 2 ^ r * (v / 2 ^ r) + v % 2 ^ r := (Nat.div_add_mod v (2 ^ r)).symm
  have hm : v % 2 ^ r < 2 ^ r := Nat.mod_lt _ (Nat.two_pow_pos r)
  rw [e, Nat.testBit_two_pow_mul_add _ hm]
  conv => lhs; arg 1; rw [e0]
  rw [Nat.testBit_two_pow_mul_add _ hm]
  split
  · rename_i hi
    rw [decide_eq_false (by omega), Bool.or_false]
  · rename_i hi
    obtain ⟨j, rfl⟩ : ∃ j, i = r + j := ⟨i - r, by omega⟩
    rw [Nat.add_sub_cancel_left]
    cases j with
    | zero => simp at h1; simp [Nat.testBit_zero]; omega
    | succ j =>
      rw [decide_eq_false (by omega), Bool.or_false, Nat.testBit_succ, Nat.testBit_succ]
      simp only [Bool.false_eq_true, if_false] at h1
      congr 1; omega
theorem andNot_sub (v r : Nat) (hv : v < 18446744073709551616) (hr : r < 64) (h : v.testBit r = true) : v &&& (18446744073709551615 - 2 ^ r) = v - 2 ^ r := by
  have hc : (v &&& (18446744073709551615 - 2 ^ r)).testBit r = false := by rw [Nat.testBit_and, not_pow_bit _ _ hr hr]; simp
  have := or_add _ r hc
  have e : (v &&& (18446744073709551615 - 2 ^ r)) ||| 2 ^ r = v := by
    apply Nat.eq_of_testBit_eq
    intro i
    rw [Nat.testBit_or, Nat.testBit_and, two_pow_bit]
    rcases Nat.lt_or_ge i 64 with hi | hi
    · rw [not_pow_bit _ _ hr hi]
      by_cases hri : r = i
      · subst hri; simp [h]
      · simp [hri]
    · rw [Nat.testBit_lt_two_pow (x := v) (Nat.lt_of_lt_of_le hv (Nat.pow_le_pow_right (by omega : 0 < 2) hi))]
      simp; omega
  omega
theorem or_same (v r : Nat) (h : v.testBit r = true) : v ||| 2 ^ r = v := by
  apply Nat.eq_of_testBit_eq
  intro i
  rw [Nat.testBit_or, two_pow_bit]
  by_cases e : r = i
  · subst e; simp [h]
  · simp [e]
theorem andNot_same (v r : Nat) (hv : v < 18446744073709551616) (hr : r < 64) (h : v.testBit r = false) : v &&& (18446744073709551615 - 2 ^ r) = v := by
  apply Nat.eq_of_testBit_eq
  intro i
  rw [Nat.testBit_and]
  rcases Nat.lt_or_ge i 64 with hi | hi
  · rw [not_pow_bit _ _ hr hi]
    by_cases e : r = i
    · subst e; simp [h]
    · simp [e]
  · rw [Nat.testBit_lt_two_pow (x := v) (Nat.lt_of_lt_of_le hv (Nat.pow_le_pow_right (by omega : 0 < 2) hi))]; simp
theorem ge_of_bit (v r : Nat) (h : v.testBit r = true) : 2 ^ r ≤ v := Nat.ge_two_pow_of_testBit h
end Go.Proofs.YtnkanohjfanolaaDoor
