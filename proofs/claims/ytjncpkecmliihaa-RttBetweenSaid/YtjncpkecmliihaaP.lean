/- Plain laws of a meter for RttBetween: the mean lies between the samples, in two parts it is the same. Numbers and lists alone. -/
import Derived.Test.YtjncpkecmliihaaO
namespace Go.Proofs.Ytjncpkecmliihaa

theorem between_step (low high : Int) (h0 : 0 ≤ low) (h1 : high ≤ 60000) (l : List Int) (hl : ∀ s ∈ l, low ≤ s ∧ s ≤ high) : ∀ (x y z : Int), MayP x y z → 0 < x → x + l.length ≤ 1000000 → 8 * low ≤ y → y ≤ 8 * high + 7 →
    ∃ y' z', many (x, y, z) l = (x + l.length, y', z') ∧ MayP (x + l.length) y' z' ∧ 8 * low ≤ y' ∧ y' ≤ 8 * high + 7 := by
  induction l with
  | nil => intro x y z hm _ _ h2 h3; exact ⟨y, z, by simp [many], by simpa using hm, h2, h3⟩
  | cons s l ih =>
    intro x y z hm hx hn h2 h3
    have hs := hl s (by simp)
    have hm' := (one_may x y z s hm (by omega) (by omega)).1
    have e := one_pos x y z s (by omega)
    simp only [List.length_cons] at hn
    rw [show min (x + 1) 1073741824 = x + 1 from by omega] at e
    rw [e] at hm'
    dsimp only at hm'
    obtain ⟨y', z', h4, h5, h6, h7⟩ := ih (fun t ht => hl t (by simp [ht])) (x + 1) _ _ hm' (by omega) (by omega) (by omega) (by omega)
    have e1 : x + 1 + (l.length : Int) = x + ((s :: l).length : Nat) := by simp; omega
    refine ⟨y', z', ?_, by rw [← e1]; exact h5, h6, h7⟩
    rw [← e1, ← h4]
    show many (one (x, y, z) s) l = _
    rw [e]

theorem between (low high : Int) (l : List Int) (hl : ∀ s ∈ l, low ≤ s ∧ s ≤ high) (h0 : 0 ≤ low) (h1 : high ≤ 60000) (hne : 0 < l.length) (hn : l.length ≤ 500) :
    ∃ y z p v : Int, HearsTo 0 0 0 l l.length y z 0 ∧ MayP l.length y z ∧ meanOf l.length y z = p ∧ waitOf l.length y z = v ∧ low ≤ p ∧ p ≤ high ∧ 50 ≤ v ∧ v ≤ 1000 ∧ (p ≤ v ∨ v = 1000) := by
  cases l with
  | nil => simp at hne
  | cons s l =>
    have hs := hl s (by simp)
    have e := one_zero 0 0 0 s rfl
    simp only [List.length_cons] at hn
    obtain ⟨y, z, h2, h3, h4, h5⟩ := between_step low high h0 h1 l (fun t ht => hl t (by simp [ht])) 1 (8 * s) (2 * s) (by unfold MayP; omega) (by omega) (by omega) (by omega) (by omega)
    have e1 : 1 + (l.length : Int) = ((s :: l).length : Nat) := by simp; omega
    rw [e1] at h2 h3
    refine ⟨y, z, _, _, .inl ⟨by decide, fun t ht => ?_, ?_, rfl⟩, h3, if_pos h3, if_pos ⟨h3, by simp; omega⟩, by omega, by omega, by omega, by omega, ?_⟩
    · have := hl t ht; omega
    · show _ = many (one (0, 0, 0) s) l
      rw [e, h2]
    · have := h3; unfold MayP at this; omega

theorem in_parts (l : List Int) (k : Nat) (x y z : Int) (h : HearsTo 0 0 0 l x y z 0) : ∃ a b c : Int, HearsTo 0 0 0 (l.take k) a b c 0 ∧ HearsTo a b c (l.drop k) x y z 0 := by
  rcases h with ⟨h1, h2, h3, h4⟩ | ⟨_, _, _, _, h5⟩
  · have hm := many_may (l.take k) (take_ok k h2) (0, 0, 0) h1
    refine ⟨_, _, _, .inl ⟨h1, take_ok k h2, rfl, rfl⟩, .inl ⟨hm, fun s hs => h2 s (List.mem_of_mem_drop hs), ?_, rfl⟩⟩
    show _ = many (many (0, 0, 0) (l.take k)) (l.drop k)
    rw [← many_append, List.take_append_drop]
    exact h3
  · omega
end Go.Proofs.Ytjncpkecmliihaa
