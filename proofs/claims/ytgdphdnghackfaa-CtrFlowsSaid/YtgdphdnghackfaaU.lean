/- The plain laws of hiding and showing: each undoes the other. No program. -/
import Derived.Test.YtgdphdnghackfaaP
namespace Go.Proofs.Ytgdphdnghackfaa

theorem xor_back (a b : Nat) : (a ^^^ b) ^^^ b = a := by rw [Nat.xor_assoc, Nat.xor_self, Nat.xor_zero]
theorem sixteen {l : List Nat} (h : l.length = 16) : ∃ a0 a1 a2 a3 a4 a5 a6 a7 a8 a9 a10 a11 a12 a13 a14 a15, l = [a0, a1, a2, a3, a4, a5, a6, a7, a8, a9, a10, a11, a12, a13, a14, a15] := by
  match l, h with
  | [a0, a1, a2, a3, a4, a5, a6, a7, a8, a9, a10, a11, a12, a13, a14, a15], _ => exact ⟨a0, a1, a2, a3, a4, a5, a6, a7, a8, a9, a10, a11, a12, a13, a14, a15, rfl⟩
theorem by_bytes {l : List Nat} (h : l.length = 16) : l = [l.getD 0 0, l.getD 1 0, l.getD 2 0, l.getD 3 0, l.getD 4 0, l.getD 5 0, l.getD 6 0, l.getD 7 0, l.getD 8 0, l.getD 9 0, l.getD 10 0, l.getD 11 0, l.getD 12 0, l.getD 13 0, l.getD 14 0, l.getD 15 0] := by
  obtain ⟨a0, a1, a2, a3, a4, a5, a6, a7, a8, a9, a10, a11, a12, a13, a14, a15, rfl⟩ := sixteen h
  rfl
theorem getD_set (l : List Nat) (i v j : Nat) (h : i < l.length) : (l.set i v).getD j 0 = if i = j then v else l.getD j 0 := by
  rw [List.getD_eq_getElem?_getD, List.getD_eq_getElem?_getD, List.getElem?_set]
  by_cases hij : i = j
  · subst hij; simp [h]
  · simp [hij]
theorem adS_getD (a b : List Nat) (ha : a.length = 16) (i : Nat) (hi : i ≤ 16) (j : Nat) : (adS a b i).getD j 0 = if j < i then a.getD j 0 ^^^ b.getD j 0 else a.getD j 0 := by
  induction i with
  | zero => rw [if_neg (by omega)]; rfl
  | succ i ih =>
    show (List.set _ _ _).getD j 0 = _
    rw [getD_set _ _ _ _ (by rw [adS_len]; omega)]
    by_cases hij : i = j
    · subst hij; rw [if_pos rfl, if_pos (by omega), ih (by omega), if_neg (by omega)]
    · rw [if_neg hij, ih (by omega)]
      by_cases h : j < i
      · rw [if_pos h, if_pos (by omega)]
      · rw [if_neg h, if_neg (by omega)]
theorem addL_getD {a : List Nat} (b : List Nat) (ha : a.length = 16) {j : Nat} (hj : j < 16) : (addL a b).getD j 0 = a.getD j 0 ^^^ b.getD j 0 := by
  show (adS a b 16).getD j 0 = _
  rw [adS_getD a b ha 16 (by omega), if_pos hj]
theorem ext16 {a b : List Nat} (ha : a.length = 16) (hb : b.length = 16) (h : ∀ j, j < 16 → a.getD j 0 = b.getD j 0) : a = b := by
  rw [by_bytes ha, by_bytes hb]
  simp only [h 0 (by decide), h 1 (by decide), h 2 (by decide), h 3 (by decide), h 4 (by decide), h 5 (by decide), h 6 (by decide), h 7 (by decide), h 8 (by decide), h 9 (by decide), h 10 (by decide), h 11 (by decide), h 12 (by decide), h 13 (by decide), h 14 (by decide), h 15 (by decide)]
def mcS (l m : List Nat) (i x : Nat) : Nat → Nat
  | 0 => x
  | k + 1 => mcS l m i x k ^^^ T (m.getD k 0) (l.getD (i / 4 * 4 + (i + k) % 4) 0)
theorem mxIn_getD (l m : List Nat) (i : Nat) (o : List Nat) (hi : i < o.length) (k j : Nat) : (mxIn l m i o k).getD j 0 = if i = j then mcS l m i (o.getD i 0) k else o.getD j 0 := by
  induction k generalizing j with
  | zero =>
    by_cases h : i = j
    · subst h; rw [if_pos rfl]; rfl
    · rw [if_neg h]; rfl
  | succ k ih =>
    show (List.set _ _ _).getD j 0 = _
    rw [getD_set _ _ _ _ (by rw [mxIn_len]; exact hi), ih i, if_pos rfl]
    by_cases h : i = j
    · rw [if_pos h, if_pos h]; rfl
    · rw [if_neg h, if_neg h, ih j, if_neg h]
theorem mxS_getD (l m : List Nat) (i : Nat) (hi : i ≤ 16) (j : Nat) : (mxS l m i).getD j 0 = if j < i then mcS l m j 0 4 else 0 := by
  induction i generalizing j with
  | zero =>
    rw [if_neg (by omega)]
    show (List.replicate 16 0).getD j 0 = 0
    rw [List.getD_eq_getElem?_getD]
    cases h : (List.replicate 16 0)[j]? with
    | none => rfl
    | some x => exact List.eq_of_mem_replicate (List.mem_of_getElem? h)
  | succ i ih =>
    show (mxIn l m i (mxS l m i) 4).getD j 0 = _
    rw [mxIn_getD _ _ _ _ (by rw [mxS_len]; omega), ih (by omega), ih (by omega), if_neg (Nat.lt_irrefl i)]
    by_cases h : i = j
    · subst h; rw [if_pos rfl, if_pos (by omega)]
    · rw [if_neg h]
      by_cases h2 : j < i
      · rw [if_pos h2, if_pos (by omega)]
      · rw [if_neg h2, if_neg (by omega)]
theorem mxL_getD (l m : List Nat) {j : Nat} (hj : j < 16) : (mxL l m).getD j 0 = mcS l m j 0 4 := by
  show (mxS l m 16).getD j 0 = _
  rw [mxS_getD _ _ 16 (by omega), if_pos hj]
end Go.Proofs.Ytgdphdnghackfaa
