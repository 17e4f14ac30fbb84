/- Plain words for the law UtfPlays (layer 10): what a decoder holds are the last bytes; the memory of its loop. -/
import Derived.Test.YtfogblcjccoeiaaR
namespace Go.Proofs.Ytfogblcjccoeiaa
open Go.RowKit

/-- These bytes, and no others, are held. -/
structure HeldIs (d : D) (s : List Nat) : Prop where
  run : runD D.zero s = (d, [])
  had : d.had = s.length
theorem heldIs_nil : HeldIs D.zero [] := ⟨rfl, rfl⟩
theorem held_first (x : Nat) : ∃ s, (s = [] ∨ s = [x]) ∧ HeldIs (firstD x).1 s := by
  by_cases h : fitB x = true
  · have e : firstD x = wholeD (beginD x) := step_zero_fit h
    have h1 := beginD_had h
    by_cases hw : (beginD x).had = (beginD x).want
    · rw [e, whole_is hw (by omega)]; exact ⟨[], .inl rfl, heldIs_nil⟩
    · rw [e, whole_not hw]
      refine ⟨[x], .inr rfl, ?_, by rw [h1]; rfl⟩
      have : stepD D.zero x = (beginD x, []) := by rw [step_zero_fit h, whole_not hw]
      simp [runD, this]
  · have h : fitB x = false := by simpa using h
    unfold firstD
    rw [beginD_none h, wholeD_zero]
    exact ⟨[], .inl rfl, heldIs_nil⟩
theorem held_step {d : D} {s : List Nat} (h : HeldIs d s) (x : Nat) : ∃ p t, s ++ [x] = p ++ t ∧ HeldIs (stepD d x).1 t := by
  have hfirst : ∀ d', d' = (firstD x).1 → ∃ p t, s ++ [x] = p ++ t ∧ HeldIs d' t := by
    rintro _ rfl
    obtain ⟨t, ht, hh⟩ := held_first x
    rcases ht with rfl | rfl
    · exact ⟨s ++ [x], [], by simp, hh⟩
    · exact ⟨s, [x], rfl, hh⟩
  by_cases h0 : d.had = 0
  · rw [show stepD d x = firstD x from if_pos h0]; exact hfirst _ rfl
  by_cases hr : d.low ≤ x ∧ x ≤ d.high
  · rw [step_in' h0 hr]
    by_cases hw : d.had + 1 = d.want
    · rw [whole_is (by exact hw) (by show 0 < d.had + 1; omega)]; exact ⟨s ++ [x], [], by simp, heldIs_nil⟩
    · have e : stepD d x = (⟨d.code * 64 + x % 64, d.had + 1, d.want, 128, 191⟩, []) := by rw [step_in' h0 hr]; exact whole_not (by exact hw)
      rw [whole_not (by exact hw)]
      refine ⟨[], s ++ [x], rfl, ?_, by show d.had + 1 = _; rw [h.had]; simp⟩
      rw [runD_snoc, h.run]; simp [e]
  · rw [show stepD d x = ((firstD x).1, 65533 :: (firstD x).2) by unfold stepD; rw [if_neg h0, if_neg hr]]
    exact hfirst _ rfl
theorem held_run {d : D} {s : List Nat} (h : HeldIs d s) (l : List Nat) : ∃ p t, s ++ l = p ++ t ∧ HeldIs (runD d l).1 t := by
  induction l generalizing d s with
  | nil => exact ⟨[], s, by simp, h⟩
  | cons x l ih =>
    obtain ⟨p, t, e, ht⟩ := held_step h x
    obtain ⟨p2, t2, e2, ht2⟩ := ih ht
    refine ⟨p ++ p2, t2, ?_, ht2⟩
    rw [List.append_assoc, ← e2, ← List.append_assoc, ← e]; simp
theorem HeldIs.zero {d : D} {s : List Nat} (h : HeldIs d s) (h0 : s = []) : d = D.zero := by
  subst h0
  have := h.run
  simp [runD] at this; exact this.symm
theorem endL_held {d : D} {s : List Nat} (h : HeldIs d s) : endL d = if s = [] then [] else [65533] := by
  unfold endL
  rw [h.had]
  cases s <;> simp
/-- The memory of the law's loop. -/
structure PlMem (w1 : World) (d : D) (g : Nat) (hb : List Nat) (A : Option Addr) (m cap : Nat) (W : World) : Prop where
  ok : d.Ok
  held : HeldIs d hb
  byte : ∀ x ∈ hb, x < 256
  box : Box W g 43 d.cells
  own : Own W w1.heap.size 5 .u8 A m cap (hb.map Int.ofNat)
  ge : w1.heap.size ≤ g
  bel : Below w1.heap.size w1 W
section
variable {w1 W W2 : World} {d : D} {g : Nat} {hb : List Nat} {A : Option Addr} {m cap : Nat}
theorem PlMem.len (h : PlMem w1 d g hb A m cap W) : hb.length = m := by simpa using h.own.len
theorem PlMem.short (h : PlMem w1 d g hb A m cap W) : m < 4 := by have := h.len; have := h.held.had; have := h.ok.had; omega
theorem PlMem.keep (h : PlMem w1 d g hb A m cap W) (k : Below W.heap.size W W2) : PlMem w1 d g hb A m cap W2 :=
  ⟨h.ok, h.held, h.byte, h.box.keep k h.box.lt, h.own.keep k (Nat.le_refl _), h.ge, h.bel.trans (k.mono h.bel.size)⟩
end
/-- A row of bytes and a decoder are not the same block. -/
theorem Own.ne_box {w : World} {base : Nat} {A : Option Addr} {n cap : Nat} {zs : List Int} {g : Nat} {cs : Array Value} (h : Own w base 5 .u8 A n cap zs) (hb : Box w g 43 cs) : (Value.slice A n cap).ownBlock ≠ some g := by
  intro e
  rcases h.2 with ⟨h1, _⟩ | ⟨g', c, cur, hv, hg, hh, _⟩
  · rw [h1] at e; simp [Value.ownBlock] at e
  · rw [hv] at e
    simp only [Value.ownBlock, Option.some.injEq] at e
    subst e
    have : w.heap[g']? = some (.cells cs 43 (0, 0)) := hb
    rw [this] at hh
    simp at hh
theorem Own.capLe {w : World} {base : Nat} {e : TypeId} {k : IntKind} {A : Option Addr} {n cap : Nat} {zs : List Int} (h : Own w base e k A n cap zs) : n ≤ cap := by
  rcases h.2 with ⟨_, h0⟩ | ⟨g, c, cur, hv, _, _, hnc, _⟩
  · omega
  · simp only [Value.slice.injEq] at hv; omega
end Go.Proofs.Ytfogblcjccoeiaa
