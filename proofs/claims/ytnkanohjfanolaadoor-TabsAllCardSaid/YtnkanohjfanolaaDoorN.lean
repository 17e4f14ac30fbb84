/- Plain words of layer 16, more: the next stop, the one ahead, the usual ones. No program. -/
import Derived.Test.YtnkanohjfanolaaDoorM
namespace Go.Proofs.YtnkanohjfanolaaDoor

def clampC (cols : Int) : Nat := (max 1 (min cols 200)).toNat
theorem clampC_in (cols : Int) : 1 ≤ clampC cols ∧ clampC cols ≤ 200 := by unfold clampC; omega

/-- r is the next stop behind 'at', of C columns. -/
def NextIs (t : T4) (x : Int) (C : Nat) (r : Int) : Prop :=
  (∃ c : Nat, r = c ∧ c < C ∧ x < c ∧ bit t c = true ∧ ∀ d : Nat, d < c → x < d → bit t d = false) ∨ (r = C - 1 ∧ ∀ d : Nat, d < C → x < d → bit t d = false)
theorem NextIs.one {t : T4} {x : Int} {C : Nat} {r s : Int} (h : NextIs t x C r) (k : NextIs t x C s) : r = s := by
  rcases h with ⟨c, rfl, h1, h2, h3, h4⟩ | ⟨rfl, h4⟩ <;> rcases k with ⟨e, rfl, k1, k2, k3, k4⟩ | ⟨rfl, k4⟩
  · rcases Nat.lt_trichotomy c e with hl | hl | hl
    · have := k4 c hl h2; rw [h3] at this; cases this
    · rw [hl]
    · have := h4 e hl k2; rw [k3] at this; cases this
  · have := k4 c h1 h2; rw [h3] at this; cases this
  · have := h4 e k1 k2; rw [k3] at this; cases this
  · rfl

/-- r is the stop ahead of 'at'. -/
def BackIs (t : T4) (x : Int) (r : Int) : Prop :=
  (∃ c : Nat, r = c ∧ 0 < c ∧ c < 200 ∧ (c : Int) < x ∧ bit t c = true ∧ ∀ d : Nat, c < d → d < 200 → (d : Int) < x → bit t d = false) ∨ (r = 0 ∧ ∀ d : Nat, 0 < d → d < 200 → (d : Int) < x → bit t d = false)
theorem BackIs.one {t : T4} {x : Int} {r s : Int} (h : BackIs t x r) (k : BackIs t x s) : r = s := by
  rcases h with ⟨c, rfl, h0, h1, h2, h3, h4⟩ | ⟨rfl, h4⟩ <;> rcases k with ⟨e, rfl, k0, k1, k2, k3, k4⟩ | ⟨rfl, k4⟩
  · rcases Nat.lt_trichotomy c e with hl | hl | hl
    · have := h4 e hl k1 k2; rw [k3] at this; cases this
    · rw [hl]
    · have := k4 c hl h1 h2; rw [h3] at this; cases this
  · have := k4 c h0 h1 h2; rw [h3] at this; cases this
  · have := h4 e k0 k1 k2; rw [k3] at this; cases this
  · rfl

/-- u is t with the usual stops below k of the columns from 'fr' to 'to'. -/
structure Wides (t : T4) (fr to : Int) (k : Nat) (u : T4) : Prop where
  ok : u.Ok
  bits : ∀ y : Nat, y < 256 → bit u y = (bit t y || decide (0 < y ∧ y < k ∧ y < 200 ∧ fr ≤ y ∧ (y : Int) < to ∧ y % 8 = 0))
theorem Wides.one {t : T4} {fr to : Int} {k j : Nat} {u v : T4} (h : Wides t fr to k u) (g : Wides t fr to j v) (hk : 200 ≤ k ∨ to ≤ k) (hj : 200 ≤ j ∨ to ≤ j) : u = v := by
  apply T4.ext_bits h.ok g.ok
  intro y hy
  rw [h.bits y hy, g.bits y hy]
  congr 1
  rw [decide_eq_decide]
  omega
theorem Wides.start {t : T4} (ht : t.Ok) (fr to : Int) (k : Nat) (hk : k ≤ 8) : Wides t fr to k t :=
  ⟨ht, fun y hy => by rw [decide_eq_false (by omega), Bool.or_false]⟩
theorem Wides.set {t : T4} {fr to : Int} {k j : Nat} {u : T4} (h : Wides t fr to k u) (hk : 0 < k) (hk2 : k < 200) (h1 : fr ≤ k) (h2 : (k : Int) < to) (h3 : k % 8 = 0) (hj : k < j) (hj2 : j ≤ k + 8) : Wides t fr to j (setB u k) :=
  ⟨setB_ok h.ok k, fun y hy => by
    rw [bit_setB u k y (by omega) hy, h.bits y hy, ← Bool.or_assoc, Bool.or_comm (decide (k = y)), Bool.or_assoc]
    congr 1
    rw [← Bool.decide_or, decide_eq_decide]
    omega⟩
theorem Wides.skip {t : T4} {fr to : Int} {k j : Nat} {u : T4} (h : Wides t fr to k u) (hk : ¬ (fr ≤ k ∧ (k : Int) < to ∧ k % 8 = 0 ∧ 0 < k ∧ k < 200)) (hj : k < j) (hj2 : ∀ y, k < y → y < j → y % 8 ≠ 0) : Wides t fr to j u :=
  ⟨h.ok, fun y hy => by
    rw [h.bits y hy]
    congr 1
    rw [decide_eq_decide]
    have := hj2 y
    omega⟩
end Go.Proofs.YtnkanohjfanolaaDoor
