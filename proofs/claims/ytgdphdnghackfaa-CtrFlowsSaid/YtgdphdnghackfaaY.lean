/- A key's rounds, byte by byte: what aes and the document reckon is the same row of 176 bytes. No program. -/
import Derived.Test.YtgdphdnghackfaaU
namespace Go.Proofs.Ytgdphdnghackfaa

/-- The power that goes into round i. -/
def pw : Nat → Nat
  | 0 => 0
  | 1 => 1
  | i + 2 => T (pw (i + 1)) 2
/-- Byte j of a key's rounds. -/
def rb (key t : List Nat) (j : Nat) : Nat :=
  if _h : j < 16 then key.getD j 0
  else if j % 16 < 4 then rb key t (j - 16) ^^^ (t.getD (rb key t (j / 16 * 16 - 4 + (j % 16 + 1) % 4)) 0 ^^^ (if j % 16 = 0 then pw (j / 16) else 0))
  else rb key t (j - 16) ^^^ rb key t (j - 4)
termination_by j
decreasing_by all_goals omega
theorem rb_key (key t : List Nat) {j : Nat} (h : j < 16) : rb key t j = key.getD j 0 := by rw [rb, dif_pos h]
theorem rb_head (key t : List Nat) {j : Nat} (h : ¬ j < 16) (h2 : j % 16 < 4) : rb key t j = rb key t (j - 16) ^^^ (t.getD (rb key t (j / 16 * 16 - 4 + (j % 16 + 1) % 4)) 0 ^^^ (if j % 16 = 0 then pw (j / 16) else 0)) := by
  rw [rb, dif_neg h, if_pos h2]
theorem rb_tail (key t : List Nat) {j : Nat} (h : ¬ j < 16) (h2 : ¬ j % 16 < 4) : rb key t j = rb key t (j - 16) ^^^ rb key t (j - 4) := by
  rw [rb, dif_neg h, if_neg h2]
/-- A row whose first m bytes are those of the rounds. -/
def Good (key t : List Nat) (m : Nat) (l : List Nat) : Prop := l.length = 176 ∧ ∀ j, j < m → l.getD j 0 = rb key t j
theorem Good.set {key t l : List Nat} {m : Nat} (h : Good key t m l) (hm : m < 176) {v : Nat} (hv : v = rb key t m) : Good key t (m + 1) (l.set m v) := by
  refine ⟨by rw [List.length_set]; exact h.1, fun j hj => ?_⟩
  rw [getD_set _ _ _ _ (by rw [h.1]; exact hm)]
  by_cases e : m = j
  · rw [if_pos e, hv, e]
  · rw [if_neg e]; exact h.2 j (by omega)
theorem Good.all {key t l l' : List Nat} (h : Good key t 176 l) (h' : Good key t 176 l') : l = l' := by
  apply List.ext_getElem (by rw [h.1, h'.1])
  intro j h1 h2
  have e1 := h.2 j (by rw [← h.1]; exact h1)
  have e2 := h'.2 j (by rw [← h'.1]; exact h2)
  rw [← e2] at e1
  simpa [h1, h2] using e1
theorem getD_row (o : List Nat) (i k : Nat) (hk : k < 16) : (rdRow o i).getD k 0 = o.getD (16 * i + k) 0 := by
  unfold rdRow
  rw [List.getD_eq_getElem?_getD, List.getD_eq_getElem?_getD, List.getElem?_take, if_pos hk, List.getElem?_drop]
theorem rdSt_good (key t : List Nat) (hk : key.length = 16) (q : Nat) (hq : q ≤ 10) : Good key t (16 * (q + 1)) (rdSt key t q).out ∧ (rdSt key t q).more = pw (q + 1) := by
  induction q with
  | zero =>
    refine ⟨⟨by show (key ++ List.replicate 160 0).length = _; rw [List.length_append, hk, List.length_replicate], fun j hj => ?_⟩, rfl⟩
    have hj16 : j < 16 := by omega
    rw [rb_key _ _ hj16]
    show (key ++ List.replicate 160 0).getD j 0 = _
    rw [List.getD_eq_getElem?_getD, List.getD_eq_getElem?_getD, List.getElem?_append_left (by omega)]
  | succ q ih =>
    obtain ⟨g, hm⟩ := ih (by omega)
    obtain ⟨s, hs⟩ : ∃ s, rdSt key t q = s := ⟨_, rfl⟩
    rw [hs] at g hm
    have hst : rdSt key t (q + 1) = ⟨rdIn (rdRow s.out q) (rdHead t (rdRow s.out q) s.more) (q + 1) s.out 16, T s.more 2⟩ := by rw [← hs]; rfl
    rw [hst]
    refine ⟨?_, by show T s.more 2 = _; rw [hm]; rfl⟩
    have step : ∀ k, k ≤ 16 → Good key t (16 * (q + 1) + k) (rdIn (rdRow s.out q) (rdHead t (rdRow s.out q) s.more) (q + 1) s.out k) := by
      intro k
      induction k with
      | zero => intro _; exact g
      | succ k ih =>
        intro hk16
        have gk := ih (by omega)
        refine gk.set (by omega) ?_
        have hw : (rdRow s.out q).getD k 0 = rb key t (16 * (q + 1) + k - 16) := by
          rw [getD_row _ _ _ (by omega), g.2 _ (by omega), show 16 * (q + 1) + k - 16 = 16 * q + k by omega]
        by_cases h4 : k < 4
        · rw [if_pos h4, rb_head _ _ (by omega) (by omega), hw]
          congr 1
          have hd : ∀ m, m < 16 → (rdRow s.out q).getD m 0 = rb key t (16 * q + m) := fun m hm16 => by rw [getD_row _ _ _ hm16, g.2 _ (by omega)]
          have e1 : (16 * (q + 1) + k) / 16 * 16 - 4 + ((16 * (q + 1) + k) % 16 + 1) % 4 = 16 * q + (12 + (k + 1) % 4) := by omega
          rw [e1, ← hd _ (by omega), show (16 * (q + 1) + k) % 16 = k by omega, show (16 * (q + 1) + k) / 16 = q + 1 by omega, ← hm]
          match k, h4 with
          | 0, _ => rfl
          | 1, _ => show t.getD _ 0 = t.getD _ 0 ^^^ 0; rw [Nat.xor_zero]
          | 2, _ => show t.getD _ 0 = t.getD _ 0 ^^^ 0; rw [Nat.xor_zero]
          | 3, _ => show t.getD _ 0 = t.getD _ 0 ^^^ 0; rw [Nat.xor_zero]
        · rw [if_neg h4, rb_tail _ _ (by omega) (by omega), hw, gk.2 _ (by omega), show 16 * (q + 1) + (k - 4) = 16 * (q + 1) + k - 4 by omega]
    exact step 16 (by omega)
theorem rdL_good (key t : List Nat) (hk : key.length = 16) : Good key t 176 (rdL key t) := (rdSt_good key t hk 10 (by omega)).1
/-! The document's way: word by word. -/
/-- Word i's byte k. -/
def rcV (key t c : List Nat) (i k : Nat) : Nat :=
  if i < 4 then key.getD (4 * i + k) 0
  else if i % 4 = 0 then c.getD ((i - 4) * 4 + k) 0 ^^^ t.getD (c.getD ((i - 1) * 4 + (k + 1) % 4) 0) 0
  else c.getD ((i - 4) * 4 + k) 0 ^^^ c.getD ((i - 1) * 4 + k) 0
def rcIn (key t : List Nat) (i : Nat) (c : List Nat) : Nat → List Nat
  | 0 => c
  | k + 1 => (rcIn key t i c k).set (i * 4 + k) (rcV key t (rcIn key t i c k) i k)
def rcStep (key t : List Nat) (i : Nat) (s : RdSt) : RdSt :=
  if 4 ≤ i ∧ i % 4 = 0 then ⟨(rcIn key t i s.out 4).set (i * 4) ((rcIn key t i s.out 4).getD (i * 4) 0 ^^^ s.more), T s.more 2⟩ else ⟨rcIn key t i s.out 4, s.more⟩
def rcSt (key t : List Nat) : Nat → RdSt
  | 0 => ⟨List.replicate 176 0, 1⟩
  | i + 1 => rcStep key t i (rcSt key t i)
theorem rcIn_len (key t : List Nat) (i : Nat) (c : List Nat) (k : Nat) : (rcIn key t i c k).length = c.length := by
  induction k with
  | zero => rfl
  | succ k ih => show (List.set _ _ _).length = _; rw [List.length_set]; exact ih
theorem rcIn_good (key t : List Nat) (i : Nat) (hi : i < 44) (c : List Nat) (g : Good key t (i * 4) c) (k : Nat) (hk : k ≤ 4) :
    (∀ j, j < i * 4 → (rcIn key t i c k).getD j 0 = rb key t j) ∧ ∀ m, m < k → (rcIn key t i c k).getD (i * 4 + m) 0 = if 4 ≤ i ∧ i % 4 = 0 ∧ m = 0 then rb key t (i * 4) ^^^ pw (i / 4) else rb key t (i * 4 + m) := by
  induction k with
  | zero => exact ⟨g.2, fun m hm => absurd hm (Nat.not_lt_zero _)⟩
  | succ k ih =>
    obtain ⟨h1, h2⟩ := ih (by omega)
    have hl := rcIn_len key t i c k
    rw [g.1] at hl
    have hv : rcV key t (rcIn key t i c k) i k = if 4 ≤ i ∧ i % 4 = 0 ∧ k = 0 then rb key t (i * 4) ^^^ pw (i / 4) else rb key t (i * 4 + k) := by
      unfold rcV
      by_cases hi4 : i < 4
      · rw [if_pos hi4, if_neg (by omega), rb_key _ _ (by omega), Nat.mul_comm]
      · rw [if_neg hi4]
        have e16 : (i - 4) * 4 + k = i * 4 + k - 16 := by omega
        by_cases hm4 : i % 4 = 0
        · have hq : i * 4 / 16 = i / 4 := by omega
          rw [if_pos hm4, h1 _ (by omega), h1 _ (by omega), e16]
          have e := rb_head key t (j := i * 4 + k) (by omega) (by omega)
          have e1 : (i * 4 + k) / 16 * 16 - 4 + ((i * 4 + k) % 16 + 1) % 4 = (i - 1) * 4 + (k + 1) % 4 := by omega
          rw [e1, show (i * 4 + k) % 16 = k by omega, show (i * 4 + k) / 16 = i / 4 by omega] at e
          by_cases hk0 : k = 0
          · subst hk0
            rw [if_pos ⟨by omega, hm4, rfl⟩]
            rw [if_pos rfl] at e
            rw [Nat.add_zero] at e ⊢
            rw [e, Nat.xor_assoc, xor_back]
          · rw [if_neg (by omega), e, if_neg hk0, Nat.xor_zero]
        · rw [if_neg hm4, if_neg (by omega), h1 _ (by omega), h1 _ (by omega), e16, rb_tail key t (j := i * 4 + k) (by omega) (by omega), show (i - 1) * 4 + k = i * 4 + k - 4 by omega]
    refine ⟨fun j hj => ?_, fun m hm => ?_⟩
    · show (List.set _ _ _).getD j 0 = _
      rw [getD_set _ _ _ _ (by omega), if_neg (by omega)]; exact h1 j hj
    · show (List.set _ _ _).getD _ 0 = _
      rw [getD_set _ _ _ _ (by omega)]
      by_cases e : k = m
      · subst e; rw [if_pos rfl, hv]
      · rw [if_neg (by omega)]; exact h2 m (by omega)
theorem rcSt_good (key t : List Nat) (i : Nat) (hi : i ≤ 44) : Good key t (i * 4) (rcSt key t i).out ∧ (rcSt key t i).more = pw (1 + (i - 1) / 4) := by
  induction i with
  | zero => exact ⟨⟨by show (List.replicate 176 0).length = _; rw [List.length_replicate], fun j hj => absurd hj (by omega)⟩, rfl⟩
  | succ i ih =>
    obtain ⟨g, hm⟩ := ih (by omega)
    obtain ⟨s, hs⟩ : ∃ s, rcSt key t i = s := ⟨_, rfl⟩
    rw [hs] at g hm
    have hst : rcSt key t (i + 1) = rcStep key t i s := by rw [← hs]; rfl
    rw [hst]
    obtain ⟨h1, h2⟩ := rcIn_good key t i (by omega) s.out g 4 (by omega)
    have hl := rcIn_len key t i s.out 4
    rw [g.1] at hl
    unfold rcStep
    by_cases hc : 4 ≤ i ∧ i % 4 = 0
    · rw [if_pos hc]
      refine ⟨⟨by show (List.set _ _ _).length = _; rw [List.length_set]; exact hl, fun j hj => ?_⟩, ?_⟩
      · show (List.set _ _ _).getD j 0 = _
        rw [getD_set _ _ _ _ (by omega)]
        have e0 := h2 0 (by omega)
        rw [if_pos ⟨hc.1, hc.2, rfl⟩, Nat.add_zero] at e0
        by_cases e : i * 4 = j
        · rw [if_pos e, e0, hm, show 1 + (i - 1) / 4 = i / 4 by omega, xor_back, e]
        · rw [if_neg e]
          by_cases hj2 : j < i * 4
          · exact h1 j hj2
          · have := h2 (j - i * 4) (by omega)
            rw [if_neg (by omega), show i * 4 + (j - i * 4) = j by omega] at this
            exact this
      · show T s.more 2 = _
        rw [hm, show 1 + (i + 1 - 1) / 4 = (i - 1) / 4 + 2 by omega, show 1 + (i - 1) / 4 = (i - 1) / 4 + 1 by omega]; rfl
    · rw [if_neg hc]
      refine ⟨⟨hl, fun j hj => ?_⟩, by show s.more = _; rw [hm]; congr 1; omega⟩
      by_cases hj2 : j < i * 4
      · exact h1 j hj2
      · have := h2 (j - i * 4) (by omega)
        rw [if_neg (by omega), show i * 4 + (j - i * 4) = j by omega] at this
        exact this
theorem rc_rd (key t : List Nat) (hk : key.length = 16) : (rcSt key t 44).out = rdL key t := (rcSt_good key t 44 (by omega)).1.all (rdL_good key t hk)
theorem rcSt_len (key t : List Nat) (i : Nat) : (rcSt key t i).out.length = 176 := by
  induction i with
  | zero => exact List.length_replicate
  | succ i ih =>
    show (rcStep key t i (rcSt key t i)).out.length = _
    unfold rcStep
    split
    · show (List.set _ _ _).length = _; rw [List.length_set, rcIn_len]; exact ih
    · show (rcIn _ _ _ _ _).length = _; rw [rcIn_len]; exact ih
theorem rcV_lt {key t c : List Nat} (bk : Bytes key) (bt : Bytes t) (bc : Bytes c) (i k : Nat) : rcV key t c i k < 256 := by
  unfold rcV
  split
  · exact bk.get _
  · split
    · exact xor_lt (bc.get _) (bt.get _)
    · exact xor_lt (bc.get _) (bc.get _)
theorem rcIn_bytes {key t c : List Nat} (bk : Bytes key) (bt : Bytes t) (bc : Bytes c) (i k : Nat) : Bytes (rcIn key t i c k) := by
  induction k with
  | zero => exact bc
  | succ k ih => exact ih.set _ (rcV_lt bk bt ih i k)
theorem rcSt_bytes {key t : List Nat} (bk : Bytes key) (bt : Bytes t) (i : Nat) : Bytes (rcSt key t i).out ∧ (rcSt key t i).more < 256 := by
  induction i with
  | zero => exact ⟨fun x hx => by have := List.eq_of_mem_replicate hx; omega, by show 1 < 256; decide⟩
  | succ i ih =>
    show Bytes (rcStep key t i (rcSt key t i)).out ∧ (rcStep key t i (rcSt key t i)).more < 256
    unfold rcStep
    split
    · exact ⟨(rcIn_bytes bk bt ih.1 i 4).set _ (xor_lt ((rcIn_bytes bk bt ih.1 i 4).get _) ih.2), T_lt ih.2 _⟩
    · exact ⟨rcIn_bytes bk bt ih.1 i 4, ih.2⟩
/-! Unlike keys have unlike rounds, one by one. -/
theorem row_back {a b t : List Nat} (q : Nat) (h : ∀ k, k < 16 → rb a t (16 * (q + 1) + k) = rb b t (16 * (q + 1) + k)) (k : Nat) (hk : k < 16) : rb a t (16 * q + k) = rb b t (16 * q + k) := by
  have tail : ∀ k, 4 ≤ k → k < 16 → rb a t (16 * q + k) = rb b t (16 * q + k) := by
    intro k h4 h16
    have e := h k h16
    rw [rb_tail a t (j := 16 * (q + 1) + k) (by omega) (by omega), rb_tail b t (j := 16 * (q + 1) + k) (by omega) (by omega), show 16 * (q + 1) + k - 16 = 16 * q + k by omega, show 16 * (q + 1) + k - 4 = 16 * (q + 1) + (k - 4) by omega, h (k - 4) (by omega)] at e
    have := congrArg (· ^^^ rb b t (16 * (q + 1) + (k - 4))) e
    simpa [xor_back] using this
  by_cases h4 : 4 ≤ k
  · exact tail k h4 hk
  · have e := h k hk
    rw [rb_head a t (j := 16 * (q + 1) + k) (by omega) (by omega), rb_head b t (j := 16 * (q + 1) + k) (by omega) (by omega), show 16 * (q + 1) + k - 16 = 16 * q + k by omega] at e
    have e1 : (16 * (q + 1) + k) / 16 * 16 - 4 + ((16 * (q + 1) + k) % 16 + 1) % 4 = 16 * q + (12 + (k + 1) % 4) := by omega
    rw [e1, tail (12 + (k + 1) % 4) (by omega) (by omega)] at e
    have := congrArg (· ^^^ (t.getD (rb b t (16 * q + (12 + (k + 1) % 4))) 0 ^^^ (if (16 * (q + 1) + k) % 16 = 0 then pw ((16 * (q + 1) + k) / 16) else 0))) e
    simpa [xor_back] using this
theorem row_inj {a b t : List Nat} (ha : a.length = 16) (hb : b.length = 16) (i : Nat) (h : ∀ k, k < 16 → rb a t (16 * i + k) = rb b t (16 * i + k)) : a = b := by
  induction i with
  | zero => exact ext16 ha hb fun j hj => by have := h j hj; rw [Nat.mul_zero, Nat.zero_add, rb_key _ _ hj, rb_key _ _ hj] at this; exact this
  | succ i ih => exact ih (fun k hk => row_back i h k hk)
theorem rdRow_rb {key t : List Nat} (hk : key.length = 16) {i k : Nat} (hi : i < 11) (hk16 : k < 16) : (rdRow (rdL key t) i).getD k 0 = rb key t (16 * i + k) := by
  rw [getD_row _ _ _ hk16, (rdL_good key t hk).2 _ (by omega)]
theorem rows_eq {a b t : List Nat} (ha : a.length = 16) (hb : b.length = 16) {i : Nat} (hi : i < 11) : rdRow (rdL a t) i = rdRow (rdL b t) i ↔ a = b := by
  refine ⟨fun h => row_inj (t := t) ha hb i fun k hk => ?_, fun h => by rw [h]⟩
  rw [← rdRow_rb ha hi hk, ← rdRow_rb hb hi hk, h]
theorem row_zero {a t : List Nat} (ha : a.length = 16) : rdRow (rdL a t) 0 = a :=
  ext16 (rdRow_len (rdL_good a t ha).1 (by decide)) ha fun j hj => by rw [rdRow_rb ha (by decide) hj, Nat.mul_zero, Nat.zero_add, rb_key _ _ hj]
end Go.Proofs.Ytgdphdnghackfaa
