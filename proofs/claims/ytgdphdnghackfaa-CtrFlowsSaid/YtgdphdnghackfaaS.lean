/- A text turned block by block (layer 5): after all blocks each byte is the text's with the stream's. No program. -/
import Derived.Test.YtgdphdnghackfaaR4
import Derived.Test.YtgdphdnghackfaaU
namespace Go.Proofs.Ytgdphdnghackfaa
/-- The stream's byte p. -/
def sb (key : List Nat) (nonce p : Nat) : Nat := (blkL key nonce (p / 16)).getD (p % 16) 0
structure TrSt where
  i : Nat
  pos : Nat
  out : List Nat
/-- One block b, c bytes of it. -/
def trIn (tx b : List Nat) (s : TrSt) : Nat → TrSt
  | 0 => s
  | c + 1 => ⟨(trIn tx b s c).i + 1, (trIn tx b s c).pos + 1, (trIn tx b s c).out.set (trIn tx b s c).i (tx.getD (trIn tx b s c).i 0 ^^^ b.getD (trIn tx b s c).pos 0)⟩
def trN (n : Nat) (s : TrSt) : Nat := min (n - s.i) (16 - s.pos)
def trStep (key : List Nat) (nonce : Nat) (tx : List Nat) (s : TrSt) (x : Nat) : TrSt := ⟨(trIn tx (blkL key nonce x) s (trN tx.length s)).i, 0, (trIn tx (blkL key nonce x) s (trN tx.length s)).out⟩
def trS (key : List Nat) (nonce from_ : Nat) (tx : List Nat) (pre : List Nat) : TrSt := pre.foldl (trStep key nonce tx) ⟨0, from_ % 16, List.replicate tx.length 0⟩
theorem trS_snoc (key : List Nat) (nonce from_ : Nat) (tx pre : List Nat) (x : Nat) : trS key nonce from_ tx (pre ++ [x]) = trStep key nonce tx (trS key nonce from_ tx pre) x := by
  unfold trS; rw [List.foldl_append]; rfl
theorem trIn_facts (tx b : List Nat) (s : TrSt) (c : Nat) (hc : s.i + c ≤ s.out.length) :
    (trIn tx b s c).i = s.i + c ∧ (trIn tx b s c).pos = s.pos + c ∧ (trIn tx b s c).out.length = s.out.length ∧
      ∀ j, (trIn tx b s c).out.getD j 0 = if s.i ≤ j ∧ j < s.i + c then tx.getD j 0 ^^^ b.getD (s.pos + (j - s.i)) 0 else s.out.getD j 0 := by
  induction c with
  | zero => exact ⟨rfl, rfl, rfl, fun j => by rw [if_neg (by omega)]; rfl⟩
  | succ c ih =>
    obtain ⟨h1, h2, h3, h4⟩ := ih (by omega)
    refine ⟨?_, ?_, ?_, fun j => ?_⟩
    · show (trIn tx b s c).i + 1 = _; omega
    · show (trIn tx b s c).pos + 1 = _; omega
    · show (List.set _ _ _).length = _; rw [List.length_set]; exact h3
    · show (List.set _ _ _).getD j 0 = _
      rw [getD_set _ _ _ _ (by omega), h1, h2, h4]
      by_cases hj : s.i + c = j
      · rw [if_pos hj, if_pos (by omega), hj, show j - s.i = c by omega]
      · rw [if_neg hj]
        by_cases hin : s.i ≤ j ∧ j < s.i + c
        · rw [if_pos hin, if_pos (by omega)]
        · rw [if_neg hin, if_neg (by omega)]
/-- After k blocks from the place's own on. -/
theorem trS_facts (key : List Nat) (nonce from_ : Nat) (tx : List Nat) (k : Nat) :
    (trS key nonce from_ tx (blkSeq (from_ / 16) k)).i = (if k = 0 then 0 else min tx.length (16 * k - from_ % 16)) ∧
    (trS key nonce from_ tx (blkSeq (from_ / 16) k)).pos = (if k = 0 then from_ % 16 else 0) ∧
    (trS key nonce from_ tx (blkSeq (from_ / 16) k)).out.length = tx.length ∧
    ∀ j, j < (trS key nonce from_ tx (blkSeq (from_ / 16) k)).i → (trS key nonce from_ tx (blkSeq (from_ / 16) k)).out.getD j 0 = tx.getD j 0 ^^^ sb key nonce (from_ + j) := by
  induction k with
  | zero => exact ⟨rfl, rfl, List.length_replicate, fun j hj => absurd hj (Nat.not_lt_zero _)⟩
  | succ k ih =>
    rw [blkSeq_snoc, trS_snoc]
    obtain ⟨s, hs⟩ : ∃ s, trS key nonce from_ tx (blkSeq (from_ / 16) k) = s := ⟨_, rfl⟩
    rw [hs] at ih ⊢
    obtain ⟨h1, h2, h3, h4⟩ := ih
    have hr : from_ % 16 < 16 := Nat.mod_lt _ (by decide)
    have hle : s.i ≤ tx.length := by rw [h1]; split <;> omega
    have hp : s.pos < 16 := by rw [h2]; split <;> omega
    obtain ⟨g1, _, g3, g4⟩ := trIn_facts tx (blkL key nonce (from_ / 16 + k)) s (trN tx.length s) (by unfold trN; omega)
    have hi : s.i + trN tx.length s = min tx.length (16 * (k + 1) - from_ % 16) := by
      unfold trN
      by_cases hk : k = 0
      · rw [if_pos hk] at h1 h2; omega
      · rw [if_neg hk] at h1 h2; omega
    refine ⟨?_, by rw [if_neg (by omega)]; rfl, ?_, fun j hj => ?_⟩
    · show (trIn _ _ s _).i = _; rw [if_neg (by omega), g1, hi]
    · show (trIn _ _ s _).out.length = _; rw [g3, h3]
    · show (trIn _ _ s _).out.getD j 0 = _
      have hj2 : j < s.i + trN tx.length s := by rw [← g1]; exact hj
      rw [g4]
      by_cases hin : s.i ≤ j ∧ j < s.i + trN tx.length s
      · rw [if_pos hin]
        unfold sb
        have e1 : (from_ + j) / 16 = from_ / 16 + k ∧ (from_ + j) % 16 = s.pos + (j - s.i) := by
          by_cases hk : k = 0
          · rw [if_pos hk] at h1 h2; omega
          · rw [if_neg hk] at h1 h2; omega
        rw [e1.1, e1.2]
      · rw [if_neg hin]; exact h4 j (by omega)
/-- A text with the stream's bytes from a place on. -/
def turnL (key : List Nat) (nonce from_ : Nat) (tx : List Nat) : List Nat := (List.range tx.length).map fun j => tx.getD j 0 ^^^ sb key nonce (from_ + j)
theorem trS_all (key : List Nat) (nonce from_ : Nat) (tx : List Nat) : (trS key nonce from_ tx (blkSeq (from_ / 16) (tx.length / 16 + 2))).out = turnL key nonce from_ tx := by
  obtain ⟨h1, _, h3, h4⟩ := trS_facts key nonce from_ tx (tx.length / 16 + 2)
  have hr : from_ % 16 < 16 := Nat.mod_lt _ (by decide)
  rw [if_neg (by omega)] at h1
  apply List.ext_getElem (by rw [h3]; simp [turnL])
  intro j h5 h6
  have h7 := h4 j (by omega)
  simp [turnL]
  rw [List.getD_eq_getElem?_getD, List.getElem?_eq_getElem h5] at h7
  simpa using h7
end Go.Proofs.Ytgdphdnghackfaa
