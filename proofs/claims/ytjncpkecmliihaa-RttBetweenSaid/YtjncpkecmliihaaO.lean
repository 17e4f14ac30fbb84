/- Plain laws of a meter for RttRises: what one sample does to the mean. Numbers alone. -/
import Derived.Test.YtjncpkecmliihaaN
namespace Go.Proofs.Ytjncpkecmliihaa

theorem hears_single (a b c s : Int) (hp : MayP a b c) (h0 : 0 ≤ s) (h1 : s ≤ 60000) : HearsTo a b c [s] (one (a, b, c) s).1 (one (a, b, c) s).2.1 (one (a, b, c) s).2.2 0 :=
  .inl ⟨hp, by intro t ht; simp only [List.mem_singleton] at ht; subst ht; exact ⟨h0, h1⟩, rfl, rfl⟩

/-- What two samples make of a meter with none: n1 is how many, p and q the means. -/
theorem rises_zero (b c s t : Int) (hp : MayP 0 b c) (h0 : 0 ≤ s) (hst : s ≤ t) (h1 : t ≤ 60000) :
    ∃ y1 z1 y2 z2 : Int, HearsTo 0 b c [s] 1 y1 z1 0 ∧ HearsTo 0 b c [t] 1 y2 z2 0 ∧ meanOf 1 y1 z1 = s ∧ meanOf 1 y2 z2 = t := by
  have hs := hears_single 0 b c s hp h0 (by omega)
  have ht := hears_single 0 b c t hp (by omega) h1
  rw [one_zero _ _ _ _ rfl] at hs ht
  dsimp only at hs ht
  refine ⟨_, _, _, _, hs, ht, ?_, ?_⟩ <;> (unfold meanOf; rw [if_pos (by unfold MayP; omega)]; omega)

theorem rises_pos (a b c s t : Int) (hp : MayP a b c) (ha : a ≠ 0) (h0 : 0 ≤ s) (hst : s ≤ t) (h1 : t ≤ 60000) :
    ∃ n y1 z1 y2 z2 p q v : Int, HearsTo a b c [s] n y1 z1 0 ∧ HearsTo a b c [t] n y2 z2 0 ∧ meanOf n y1 z1 = p ∧ meanOf n y2 z2 = q ∧ meanOf a b c = v ∧ p ≤ q ∧
      ((v ≤ s ∧ v ≤ p ∧ p ≤ s) ∨ (s < v ∧ s ≤ p ∧ p ≤ v)) ∧ ((v ≤ t ∧ v ≤ q ∧ q ≤ t) ∨ (t < v ∧ t ≤ q ∧ q ≤ v)) := by
  have hs := hears_single a b c s hp h0 (by omega)
  have ht := hears_single a b c t hp (by omega) h1
  have ms := (one_may a b c s hp h0 (by omega)).1
  have mt := (one_may a b c t hp (by omega) h1).1
  rw [one_pos _ _ _ _ ha] at hs ht ms mt
  dsimp only at hs ht ms mt
  refine ⟨_, _, _, _, _, _, _, _, hs, ht, if_pos ms, if_pos mt, if_pos hp, ?_, ?_, ?_⟩ <;> (unfold MayP at hp; omega)
end Go.Proofs.Ytjncpkecmliihaa
