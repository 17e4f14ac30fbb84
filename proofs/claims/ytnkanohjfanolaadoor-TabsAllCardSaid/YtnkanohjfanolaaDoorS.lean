/- Plain words of layer 16: a next stop, a stop ahead, the usual stops are always there; what known asks. No program. -/
import Derived.Test.YtnkanohjfanolaaDoorO2
namespace Go.Proofs.YtnkanohjfanolaaDoor
theorem NextIs.exists_ (t : T4) (x : Int) (C : Nat) : ∃ r, NextIs t x C r := by
  have h : ∀ k : Nat, k ≤ C → (∃ r, NextIs t x C r) ∨ ∀ d : Nat, d < k → x < d → bit t d = false := by
    intro k
    induction k with
    | zero => intro _; exact .inr fun d h => absurd h (Nat.not_lt_zero _)
    | succ k ih =>
      intro hk
      rcases ih (by omega) with h | h
      · exact .inl h
      · by_cases hx : x < k
        · cases hb : bit t k with
          | true => exact .inl ⟨k, .inl ⟨k, rfl, hk, hx, hb, h⟩⟩
          | false =>
            refine .inr fun d hd hxd => ?_
            rcases Nat.lt_or_ge d k with h' | h'
            · exact h d h' hxd
            · obtain rfl : d = k := by omega
              exact hb
        · exact .inr fun d hd hxd => h d (by omega) hxd
  rcases h C (Nat.le_refl _) with h | h
  · exact h
  · exact ⟨_, .inr ⟨rfl, h⟩⟩
theorem BackIs.exists_ (t : T4) (x : Int) : ∃ r, BackIs t x r := by
  have h : ∀ k : Nat, (∃ r, BackIs t x r) ∨ ∀ d : Nat, 0 < d → 200 - k ≤ d → d < 200 → (d : Int) < x → bit t d = false := by
    intro k
    induction k with
    | zero => exact .inr fun d _ h1 h2 => by omega
    | succ k ih =>
      rcases ih with h | h
      · exact .inl h
      · by_cases hk : k < 199 ∧ ((199 - k : Nat) : Int) < x
        · cases hb : bit t (199 - k) with
          | true => exact .inl ⟨_, .inl ⟨199 - k, rfl, by omega, by omega, hk.2, hb, fun d h1 h2 h3 => h d (by omega) (by omega) h2 h3⟩⟩
          | false =>
            refine .inr fun d h0 h1 h2 h3 => ?_
            by_cases e : d = 199 - k
            · rw [e]; exact hb
            · exact h d h0 (by omega) h2 h3
        · exact .inr fun d h0 h1 h2 h3 => h d h0 (by omega) h2 h3
  rcases h 200 with h | h
  · exact h
  · exact ⟨_, .inr ⟨rfl, fun d h1 h2 h3 => h d h1 (by omega) h2 h3⟩⟩

theorem Wides.exists_ {t : T4} (ht : t.Ok) (fr to : Int) : ∃ u, Wides t fr to 200 u := by
  have h : ∀ k : Nat, 1 ≤ k → k ≤ 200 → ∃ u, Wides t fr to k u := by
    intro k
    induction k with
    | zero => intro h; omega
    | succ k ih =>
      intro _ hk
      rcases Nat.eq_zero_or_pos k with h0 | h0
      · subst h0; exact ⟨t, Wides.start ht fr to 1 (by omega)⟩
      · obtain ⟨u, hu⟩ := ih h0 (by omega)
        by_cases hc : fr ≤ k ∧ (k : Int) < to ∧ k % 8 = 0
        · exact ⟨_, hu.set h0 (by omega) hc.1 hc.2.1 hc.2.2 (Nat.lt_succ_self k) (by omega)⟩
        · exact ⟨u, hu.skip (fun h => hc ⟨h.1, h.2.1, h.2.2.1⟩) (Nat.lt_succ_self k) (fun y h1 h2 => by omega)⟩
  exact h 200 (by omega) (by omega)

theorem zero_ok : (⟨0, 0, 0, 0⟩ : T4).Ok := ⟨by decide, by decide, by decide, by decide⟩
theorem zero_bit (y : Nat) : bit ⟨0, 0, 0, 0⟩ y = false := by
  unfold bit
  have : (⟨0, 0, 0, 0⟩ : T4).w (y / 64) = 0 := by unfold T4.w; split <;> rfl
  rw [this]; exact Nat.zero_testBit _

/-- What known asks of the usual stops of 20 columns. -/
theorem known_usual {u : T4} {k : Nat} (h : Wides ⟨0, 0, 0, 0⟩ 0 20 k u) (hk : 200 ≤ k ∨ (20 : Int) ≤ k) :
    isI u 8 = true ∧ isI u 16 = true ∧ isI u 0 = false ∧ isI u 24 = false ∧ NextIs u 16 20 19 ∧ BackIs u 16 8 := by
  have hb : ∀ y : Nat, y < 256 → bit u y = decide (0 < y ∧ y < 20 ∧ y % 8 = 0) := fun y hy => by
    rw [h.bits y hy, zero_bit, Bool.false_or, decide_eq_decide]; omega
  have hi : ∀ y : Nat, y < 200 → isI u (y : Int) = decide (0 < y ∧ y < 20 ∧ y % 8 = 0) := fun y hy => by
    unfold isI
    rw [decide_eq_true (by omega), Bool.true_and, Int.toNat_natCast, hb y (by omega)]
  refine ⟨hi 8 (by omega), hi 16 (by omega), hi 0 (by omega), hi 24 (by omega), .inr ⟨by omega, fun d h1 h2 => ?_⟩, .inl ⟨8, by omega, by omega, by omega, by omega, hb 8 (by omega), fun d h1 h2 h3 => ?_⟩⟩
  · rw [hb d (by omega)]; exact decide_eq_false (by omega)
  · rw [hb d (by omega)]; exact decide_eq_false (by omega)
end Go.Proofs.YtnkanohjfanolaaDoor
