/- Plain laws of a meter for RttCalm, RttRises and RttBetween: numbers and lists alone. No condition beyond what each says. -/
import Derived.Test.YtjncpkecmliihaaM
namespace Go.Proofs.Ytjncpkecmliihaa

/-- What the samples are off, k rounds behind the first. -/
def calm (s : Int) : Nat → Int
  | 0 => 2 * s
  | k + 1 => calm s k - calm s k / 4

theorem calm_lo (s : Int) (h : 0 ≤ s) (k : Nat) : 0 ≤ calm s k := by
  induction k with
  | zero => show 0 ≤ 2 * s; omega
  | succ k ih => show 0 ≤ calm s k - calm s k / 4; omega
theorem calm_hi (s : Int) (h : 0 ≤ s) (k : Nat) : calm s k ≤ 2 * s := by
  induction k with
  | zero => exact Int.le_refl _
  | succ k ih => have := calm_lo s h k; show calm s k - calm s k / 4 ≤ _; omega
theorem calm_mono (s t : Int) (h : s ≤ t) (k : Nat) : calm s k ≤ calm t k := by
  induction k with
  | zero => show 2 * s ≤ 2 * t; omega
  | succ k ih => show calm s k - calm s k / 4 ≤ calm t k - calm t k / 4; omega
theorem calm_end (s : Int) (h : s ≤ 60000) : calm s 99 ≤ 3 := Int.le_trans (calm_mono s 60000 h 99) (by decide +kernel)
theorem calm_fall (s : Int) (h : 0 ≤ s) (k : Nat) : calm s k ≤ calm s (k - 1) := by
  cases k with
  | zero => exact Int.le_refl _
  | succ k => have := calm_lo s h k; show calm s k - calm s k / 4 ≤ calm s k; omega

/-- The meter behind k samples that are all s. -/
def CalmAt (s : Int) (k : Nat) (x y z : Int) : Prop := (k = 0 ∧ x = 0 ∧ y = 0 ∧ z = 0) ∨ (0 < k ∧ x = k ∧ y = 8 * s ∧ z = calm s (k - 1))

theorem calm_round (s : Int) (h0 : 0 ≤ s) (h1 : s ≤ 60000) (k : Nat) (hk : k < 100) (x y z : Int) (h : CalmAt s k x y z) : HearsTo x y z [s] (k + 1) (8 * s) (calm s k) 0 := by
  have hl := calm_lo s h0 (k - 1)
  have hh := calm_hi s h0 (k - 1)
  refine .inl ⟨?_, ?_, ?_, rfl⟩
  · rcases h with ⟨rfl, rfl, rfl, rfl⟩ | ⟨h2, rfl, rfl, rfl⟩
    · decide
    · unfold MayP; omega
  · intro t ht; simp only [List.mem_singleton] at ht; subst ht; exact ⟨h0, h1⟩
  · show _ = one (x, y, z) s
    rcases h with ⟨rfl, rfl, rfl, rfl⟩ | ⟨h2, rfl, rfl, rfl⟩
    · rw [one_zero _ _ _ _ rfl]; rfl
    · rw [one_pos _ _ _ _ (by omega)]
      obtain ⟨j, rfl⟩ : ∃ j, k = j + 1 := ⟨k - 1, by omega⟩
      simp only [Nat.add_sub_cancel] at hl hh ⊢
      simp only [Prod.mk.injEq]
      refine ⟨by omega, by omega, ?_⟩
      show calm s j - calm s j / 4 = _
      omega

theorem calm_mean (s : Int) (h0 : 0 ≤ s) (h1 : s ≤ 60000) (k : Nat) (hk : k < 100) : meanOf (k + 1) (8 * s) (calm s k) = s := by
  have hl := calm_lo s h0 k
  have hh := calm_hi s h0 k
  unfold meanOf
  rw [if_pos (by unfold MayP; omega)]
  omega
theorem calm_wait (s : Int) (h0 : 0 ≤ s) (h1 : s ≤ 60000) : waitOf 100 (8 * s) (calm s 99) = max 50 (min (s + calm s 99) 1000) := by
  have hl := calm_lo s h0 99
  have hh := calm_hi s h0 99
  unfold waitOf
  rw [if_pos ⟨by unfold MayP; omega, by omega⟩]
  omega
end Go.Proofs.Ytjncpkecmliihaa
