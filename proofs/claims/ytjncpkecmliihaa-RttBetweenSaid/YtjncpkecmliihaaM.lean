/- The plain mathematics of a meter of samples: what may be, one sample, many samples, the mean and the wait; laws on numbers and lists, no program. No condition. -/
namespace Go.Proofs.Ytjncpkecmliihaa

/-- What a meter may be. -/
def MayP (a b c : Int) : Prop := 0 ≤ a ∧ a ≤ 1073741824 ∧ 0 ≤ b ∧ b ≤ 480007 ∧ 0 ≤ c ∧ c ≤ 480007 ∧ (a = 0 → b = 0 ∧ c = 0)
instance (a b c : Int) : Decidable (MayP a b c) := by unfold MayP; exact inferInstance
def mayB (a b c : Int) : Bool := decide (MayP a b c)
theorem mayB_of {a b c : Int} {v : Bool} (h : v = true ↔ MayP a b c) : v = mayB a b c := by
  rw [Bool.eq_iff_iff, h]; simp [mayB]
theorem mayB_true {a b c : Int} : mayB a b c = true ↔ MayP a b c := by simp [mayB]
theorem mayB_false {a b c : Int} : mayB a b c = false ↔ ¬ MayP a b c := by simp [mayB]

abbrev Mt := Int × Int × Int

/-- A meter behind one sample. -/
def one (m : Mt) (s : Int) : Mt :=
  if m.1 = 0 then (1, 8 * s, 2 * s)
  else (min (m.1 + 1) 1073741824, m.2.1 + (s - m.2.1 / 8), min (m.2.2 - m.2.2 / 4 + max (s - m.2.1 / 8) (-(s - m.2.1 / 8))) 480007)

def many (m : Mt) (l : List Int) : Mt := l.foldl one m

def Ok (l : List Int) : Prop := ∀ s ∈ l, 0 ≤ s ∧ s ≤ 60000

theorem many_nil (m : Mt) : many m [] = m := rfl
theorem many_snoc (m : Mt) (l : List Int) (s : Int) : many m (l ++ [s]) = one (many m l) s := by simp [many]
theorem many_append (m : Mt) (l r : List Int) : many m (l ++ r) = many (many m l) r := by simp [many]

theorem one_zero (a b c s : Int) (h : a = 0) : one (a, b, c) s = (1, 8 * s, 2 * s) := by simp [one, h]
theorem one_pos (a b c s : Int) (h : a ≠ 0) : one (a, b, c) s = (min (a + 1) 1073741824, b + (s - b / 8), min (c - c / 4 + max (s - b / 8) (-(s - b / 8))) 480007) := by simp [one, h]

theorem one_may (a b c s : Int) (h : MayP a b c) (h0 : 0 ≤ s) (h1 : s ≤ 60000) : MayP (one (a, b, c) s).1 (one (a, b, c) s).2.1 (one (a, b, c) s).2.2 ∧ 0 < (one (a, b, c) s).1 := by
  obtain ⟨x1, x2, x3, x4, x5, x6, x7⟩ := h
  by_cases ha : a = 0
  · rw [one_zero _ _ _ _ ha]
    refine ⟨⟨?_, ?_, ?_, ?_, ?_, ?_, ?_⟩, ?_⟩ <;> dsimp only <;> omega
  · rw [one_pos _ _ _ _ ha]
    refine ⟨⟨?_, ?_, ?_, ?_, ?_, ?_, ?_⟩, ?_⟩ <;> dsimp only <;> omega

theorem many_may (l : List Int) (hl : Ok l) (m : Mt) (h : MayP m.1 m.2.1 m.2.2) : MayP (many m l).1 (many m l).2.1 (many m l).2.2 := by
  induction l generalizing m with
  | nil => exact h
  | cons s l ih =>
    show MayP (many (one m s) l).1 _ _
    have hs := hl s (by simp)
    refine ih (fun x hx => hl x (by simp [hx])) (one m s) ?_
    exact (one_may m.1 m.2.1 m.2.2 s h hs.1 hs.2).1

theorem take_ok {l : List Int} (k : Nat) (h : Ok l) : Ok (l.take k) := fun s hs => h s (List.mem_of_mem_take hs)
theorem take_step (l : List Int) (k : Nat) (h : k < l.length) : l.take (k + 1) = l.take k ++ [l[k]?.getD 0] := by
  rw [List.take_succ_eq_append_getElem h, List.getElem?_eq_getElem h]; rfl
theorem ok_step {l : List Int} {k : Nat} (h : Ok (l.take k)) (hk : k < l.length) (h0 : 0 ≤ l[k]?.getD 0) (h1 : l[k]?.getD 0 ≤ 60000) : Ok (l.take (k + 1)) := by
  rw [take_step l k hk]
  intro s hs
  rcases List.mem_append.1 hs with hs | hs
  · exact h s hs
  · simp only [List.mem_singleton] at hs; subst hs; exact ⟨h0, h1⟩
theorem not_ok {l : List Int} {k : Nat} (hk : k < l.length) (h : l[k]?.getD 0 < 0 ∨ 60000 < l[k]?.getD 0) : ¬ Ok l := by
  intro ho
  have := ho (l[k]?.getD 0) (by rw [List.getElem?_eq_getElem hk]; exact List.getElem_mem hk)
  omega

/-- A meter behind samples, or a refusal. -/
def HearsTo (a b c : Int) (l : List Int) (a' b' c' f : Int) : Prop :=
  (MayP a b c ∧ Ok l ∧ (a', b', c') = many (a, b, c) l ∧ f = 0) ∨ (¬ (MayP a b c ∧ Ok l) ∧ a' = 0 ∧ b' = 0 ∧ c' = 0 ∧ f = 2)

theorem HearsTo.one_way {a b c : Int} {l : List Int} {a' b' c' f x y z g : Int} (h : HearsTo a b c l a' b' c' f) (k : HearsTo a b c l x y z g) : a' = x ∧ b' = y ∧ c' = z ∧ f = g := by
  rcases h with ⟨h1, h2, h3, h4⟩ | ⟨h1, h2, h3, h4, h5⟩ <;> rcases k with ⟨k1, k2, k3, k4⟩ | ⟨k1, k2, k3, k4, k5⟩
  · have e := h3.trans k3.symm
    simp only [Prod.mk.injEq] at e
    exact ⟨e.1, e.2.1, e.2.2, h4.trans k4.symm⟩
  · exact absurd ⟨h1, h2⟩ k1
  · exact absurd ⟨k1, k2⟩ h1
  · exact ⟨h2.trans k2.symm, h3.trans k3.symm, h4.trans k4.symm, h5.trans k5.symm⟩

def meanOf (a b c : Int) : Int := if MayP a b c then b / 8 else 0
def waitOf (a b c : Int) : Int := if MayP a b c ∧ a ≠ 0 then max 50 (min (b / 8 + c) 1000) else 1000

end Go.Proofs.Ytjncpkecmliihaa
