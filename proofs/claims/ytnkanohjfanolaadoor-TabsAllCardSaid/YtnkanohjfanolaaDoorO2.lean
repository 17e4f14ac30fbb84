/- Plain words of layer 16: where a walk over the stops is left, and what was the last of them. No program. -/
import Derived.Test.YtnkanohjfanolaaDoorO
namespace Go.Proofs.YtnkanohjfanolaaDoor

theorem prefix_upto {t : T4} {p : List Nat} {s c : Nat} (h : p ++ [s] <+: upto t c) : p = upto t s ∧ bit t s = true ∧ s < c := by
  induction c with
  | zero => exact absurd h (by simp [upto])
  | succ c ih =>
    rw [upto_succ] at h
    cases hb : bit t c with
    | false =>
      rw [hb] at h
      simp only [Bool.false_eq_true, if_false, List.append_nil] at h
      obtain ⟨h1, h2, h3⟩ := ih h
      exact ⟨h1, h2, by omega⟩
    | true =>
      rw [hb] at h
      simp only [if_true] at h
      rcases List.prefix_concat_iff.1 h with h | h
      · obtain ⟨h1, h2⟩ := List.append_inj' h rfl
        simp only [List.cons.injEq, and_true] at h2
        subst h2
        exact ⟨h1, hb, by omega⟩
      · obtain ⟨h1, h2, h3⟩ := ih h
        exact ⟨h1, h2, by omega⟩

theorem next_of_stop {t : T4} {x : Int} {C : Nat} {p : List Nat} {s : Nat} (hp : p ++ [s] <+: upto t 200) (h1 : x < s) (h2 : s < C) (hn : ∀ y ∈ p, ¬ (x < (y : Nat) ∧ y < C)) : NextIs t x C s := by
  obtain ⟨rfl, hb, h3⟩ := prefix_upto hp
  refine .inl ⟨s, rfl, h2, h1, hb, fun d hd hxd => ?_⟩
  cases hbd : bit t d with
  | false => rfl
  | true => exact absurd ⟨hxd, by omega⟩ (hn d (mem_upto.2 ⟨hd, hbd⟩))
theorem next_of_done {t : T4} {x : Int} {C : Nat} (hC : C ≤ 200) (hn : ∀ y ∈ upto t 200, ¬ (x < (y : Nat) ∧ y < C)) : NextIs t x C (C - 1) := by
  refine .inr ⟨rfl, fun d hd hxd => ?_⟩
  cases hbd : bit t d with
  | false => rfl
  | true => exact absurd ⟨hxd, hd⟩ (hn d (mem_upto.2 ⟨by omega, hbd⟩))

/-- The last of a list, or 0. -/
def lastOf (l : List Nat) : Nat := l.getLast?.getD 0
theorem lastOf_snoc (l : List Nat) (s : Nat) : lastOf (l ++ [s]) = s := by simp [lastOf]
theorem last_upto (t : T4) (c : Nat) : (lastOf (upto t c) = 0 ∧ ∀ d, 0 < d → d < c → bit t d = false) ∨ (0 < lastOf (upto t c) ∧ lastOf (upto t c) < c ∧ bit t (lastOf (upto t c)) = true ∧ ∀ d, lastOf (upto t c) < d → d < c → bit t d = false) := by
  induction c with
  | zero => exact .inl ⟨rfl, fun d _ h => absurd h (Nat.not_lt_zero _)⟩
  | succ c ih =>
    cases hb : bit t c with
    | true =>
      rw [upto_snoc t c hb, lastOf_snoc]
      rcases Nat.eq_zero_or_pos c with h | h
      · exact .inl ⟨h, fun d h1 h2 => by omega⟩
      · exact .inr ⟨h, by omega, hb, fun d h1 h2 => by omega⟩
    | false =>
      have e : upto t (c + 1) = upto t c := by rw [upto_succ, hb]; simp
      rw [e]
      rcases ih with ⟨h1, h2⟩ | ⟨h1, h2, h3, h4⟩
      · refine .inl ⟨h1, fun d hd hd2 => ?_⟩
        rcases Nat.lt_or_ge d c with h | h
        · exact h2 d hd h
        · obtain rfl : d = c := by omega
          exact hb
      · refine .inr ⟨h1, by omega, h3, fun d hd hd2 => ?_⟩
        rcases Nat.lt_or_ge d c with h | h
        · exact h4 d hd h
        · obtain rfl : d = c := by omega
          exact hb
/-- Going over stops below c, with c at or behind x, or all of them: the last is the stop ahead of x. -/
theorem back_of {t : T4} {x : Int} {c : Nat} (hc : c ≤ 200) (hx : ∀ y ∈ upto t c, (y : Int) < x) (hend : c = 200 ∨ x ≤ c) : BackIs t x (lastOf (upto t c)) := by
  rcases last_upto t c with ⟨h1, h2⟩ | ⟨h1, h2, h3, h4⟩
  · rw [h1]
    exact .inr ⟨rfl, fun d hd hd2 hdx => h2 d hd (by omega)⟩
  · exact .inl ⟨_, rfl, h1, by omega, hx _ (mem_upto.2 ⟨h2, h3⟩), h3, fun d hd hd2 hdx => h4 d hd (by omega)⟩
end Go.Proofs.YtnkanohjfanolaaDoor
