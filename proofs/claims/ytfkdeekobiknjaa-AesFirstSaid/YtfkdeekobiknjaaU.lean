/- The plain laws of hiding and showing: each undoes the other. No program. -/
import Derived.Test.YtfkdeekobiknjaaS
namespace Go.Proofs.Ytfkdeekobiknjaa

theorem xor_back (a b : Nat) : (a ^^^ b) ^^^ b = a := by rw [Nat.xor_assoc, Nat.xor_self, Nat.xor_zero]
theorem sixteen {l : List Nat} (h : l.length = 16) : ∃ a0 a1 a2 a3 a4 a5 a6 a7 a8 a9 a10 a11 a12 a13 a14 a15, l = [a0, a1, a2, a3, a4, a5, a6, a7, a8, a9, a10, a11, a12, a13, a14, a15] := by
  match l, h with
  | [a0, a1, a2, a3, a4, a5, a6, a7, a8, a9, a10, a11, a12, a13, a14, a15], _ => exact ⟨a0, a1, a2, a3, a4, a5, a6, a7, a8, a9, a10, a11, a12, a13, a14, a15, rfl⟩
theorem by_bytes {l : List Nat} (h : l.length = 16) : l = [l.getD 0 0, l.getD 1 0, l.getD 2 0, l.getD 3 0, l.getD 4 0, l.getD 5 0, l.getD 6 0, l.getD 7 0, l.getD 8 0, l.getD 9 0, l.getD 10 0, l.getD 11 0, l.getD 12 0, l.getD 13 0, l.getD 14 0, l.getD 15 0] := by
  obtain ⟨a0, a1, a2, a3, a4, a5, a6, a7, a8, a9, a10, a11, a12, a13, a14, a15, rfl⟩ := sixteen h
  rfl
theorem getD_set (l : List Nat) (i v j : Nat) (h : i < l.length) : (l.set i v).getD j 0 = if i = j then v else l.getD j 0 := by
  rw [List.getD_eq_getElem?_getD, List.getD_eq_getElem?_getD, List.getElem?_set]
  by_cases hij : i = j
  · subst hij; simp [h]
  · simp [hij]
theorem adS_getD (a b : List Nat) (ha : a.length = 16) (i : Nat) (hi : i ≤ 16) (j : Nat) : (adS a b i).getD j 0 = if j < i then a.getD j 0 ^^^ b.getD j 0 else a.getD j 0 := by
  induction i with
  | zero => rw [if_neg (by omega)]; rfl
  | succ i ih =>
    show (List.set _ _ _).getD j 0 = _
    rw [getD_set _ _ _ _ (by rw [adS_len]; omega)]
    by_cases hij : i = j
    · subst hij; rw [if_pos rfl, if_pos (by omega), ih (by omega), if_neg (by omega)]
    · rw [if_neg hij, ih (by omega)]
      by_cases h : j < i
      · rw [if_pos h, if_pos (by omega)]
      · rw [if_neg h, if_neg (by omega)]
theorem addL_getD {a : List Nat} (b : List Nat) (ha : a.length = 16) {j : Nat} (hj : j < 16) : (addL a b).getD j 0 = a.getD j 0 ^^^ b.getD j 0 := by
  show (adS a b 16).getD j 0 = _
  rw [adS_getD a b ha 16 (by omega), if_pos hj]
theorem ext16 {a b : List Nat} (ha : a.length = 16) (hb : b.length = 16) (h : ∀ j, j < 16 → a.getD j 0 = b.getD j 0) : a = b := by
  rw [by_bytes ha, by_bytes hb]
  simp only [h 0 (by decide), h 1 (by decide), h 2 (by decide), h 3 (by decide), h 4 (by decide), h 5 (by decide), h 6 (by decide), h 7 (by decide), h 8 (by decide), h 9 (by decide), h 10 (by decide), h 11 (by decide), h 12 (by decide), h 13 (by decide), h 14 (by decide), h 15 (by decide)]
theorem addL_back {a b : List Nat} (ha : a.length = 16) : addL (addL a b) b = a :=
  ext16 (addL_len _ (addL_len _ ha)) ha fun j hj => by rw [addL_getD _ (addL_len _ ha) hj, addL_getD _ ha hj, xor_back]
theorem mv1_eq (a0 a1 a2 a3 a4 a5 a6 a7 a8 a9 a10 a11 a12 a13 a14 a15 : Nat) (t : List Nat) :
    mvL 1 [a0, a1, a2, a3, a4, a5, a6, a7, a8, a9, a10, a11, a12, a13, a14, a15] t =
      [t.getD a0 0, t.getD a5 0, t.getD a10 0, t.getD a15 0, t.getD a4 0, t.getD a9 0, t.getD a14 0, t.getD a3 0, t.getD a8 0, t.getD a13 0, t.getD a2 0, t.getD a7 0, t.getD a12 0, t.getD a1 0, t.getD a6 0, t.getD a11 0] := rfl
theorem mv3_eq (a0 a1 a2 a3 a4 a5 a6 a7 a8 a9 a10 a11 a12 a13 a14 a15 : Nat) (t : List Nat) :
    mvL 3 [a0, a1, a2, a3, a4, a5, a6, a7, a8, a9, a10, a11, a12, a13, a14, a15] t =
      [t.getD a0 0, t.getD a13 0, t.getD a10 0, t.getD a7 0, t.getD a4 0, t.getD a1 0, t.getD a14 0, t.getD a11 0, t.getD a8 0, t.getD a5 0, t.getD a2 0, t.getD a15 0, t.getD a12 0, t.getD a9 0, t.getD a6 0, t.getD a3 0] := rfl
theorem back_swap {x : Nat} (h : x < 256) : backT.getD (swapT.getD x 0) 0 = x := (tables_back x h).1
theorem swap_back {x : Nat} (h : x < 256) : swapT.getD (backT.getD x 0) 0 = x := (tables_back x h).2.1
theorem mv_back {a : List Nat} (ha : a.length = 16) (ba : Bytes a) : mvL 3 (mvL 1 a swapT) backT = a := by
  obtain ⟨a0, a1, a2, a3, a4, a5, a6, a7, a8, a9, a10, a11, a12, a13, a14, a15, rfl⟩ := sixteen ha
  simp only [Bytes, List.mem_cons, List.not_mem_nil, or_false, forall_eq_or_imp, forall_eq] at ba
  obtain ⟨h0, h1, h2, h3, h4, h5, h6, h7, h8, h9, h10, h11, h12, h13, h14, h15⟩ := ba
  rw [mv1_eq, mv3_eq, back_swap h0, back_swap h1, back_swap h2, back_swap h3, back_swap h4, back_swap h5, back_swap h6, back_swap h7, back_swap h8, back_swap h9, back_swap h10, back_swap h11, back_swap h12, back_swap h13, back_swap h14, back_swap h15]
theorem mv_forth {a : List Nat} (ha : a.length = 16) (ba : Bytes a) : mvL 1 (mvL 3 a backT) swapT = a := by
  obtain ⟨a0, a1, a2, a3, a4, a5, a6, a7, a8, a9, a10, a11, a12, a13, a14, a15, rfl⟩ := sixteen ha
  simp only [Bytes, List.mem_cons, List.not_mem_nil, or_false, forall_eq_or_imp, forall_eq] at ba
  obtain ⟨h0, h1, h2, h3, h4, h5, h6, h7, h8, h9, h10, h11, h12, h13, h14, h15⟩ := ba
  rw [mv3_eq, mv1_eq, swap_back h0, swap_back h1, swap_back h2, swap_back h3, swap_back h4, swap_back h5, swap_back h6, swap_back h7, swap_back h8, swap_back h9, swap_back h10, swap_back h11, swap_back h12, swap_back h13, swap_back h14, swap_back h15]
/-- A byte of a mixed column. -/
def mc (m0 m1 m2 m3 x0 x1 x2 x3 : Nat) : Nat := (((0 ^^^ T m0 x0) ^^^ T m1 x1) ^^^ T m2 x2) ^^^ T m3 x3
def mcS (l m : List Nat) (i x : Nat) : Nat → Nat
  | 0 => x
  | k + 1 => mcS l m i x k ^^^ T (m.getD k 0) (l.getD (i / 4 * 4 + (i + k) % 4) 0)
theorem mxIn_getD (l m : List Nat) (i : Nat) (o : List Nat) (hi : i < o.length) (k j : Nat) : (mxIn l m i o k).getD j 0 = if i = j then mcS l m i (o.getD i 0) k else o.getD j 0 := by
  induction k generalizing j with
  | zero =>
    by_cases h : i = j
    · subst h; rw [if_pos rfl]; rfl
    · rw [if_neg h]; rfl
  | succ k ih =>
    show (List.set _ _ _).getD j 0 = _
    rw [getD_set _ _ _ _ (by rw [mxIn_len]; exact hi), ih i, if_pos rfl]
    by_cases h : i = j
    · rw [if_pos h, if_pos h]; rfl
    · rw [if_neg h, if_neg h, ih j, if_neg h]
theorem mxS_getD (l m : List Nat) (i : Nat) (hi : i ≤ 16) (j : Nat) : (mxS l m i).getD j 0 = if j < i then mcS l m j 0 4 else 0 := by
  induction i generalizing j with
  | zero =>
    rw [if_neg (by omega)]
    show (List.replicate 16 0).getD j 0 = 0
    rw [List.getD_eq_getElem?_getD]
    cases h : (List.replicate 16 0)[j]? with
    | none => rfl
    | some x => exact List.eq_of_mem_replicate (List.mem_of_getElem? h)
  | succ i ih =>
    show (mxIn l m i (mxS l m i) 4).getD j 0 = _
    rw [mxIn_getD _ _ _ _ (by rw [mxS_len]; omega), ih (by omega), ih (by omega), if_neg (Nat.lt_irrefl i)]
    by_cases h : i = j
    · subst h; rw [if_pos rfl, if_pos (by omega)]
    · rw [if_neg h]
      by_cases h2 : j < i
      · rw [if_pos h2, if_pos (by omega)]
      · rw [if_neg h2, if_neg (by omega)]
theorem mxL_getD (l m : List Nat) {j : Nat} (hj : j < 16) : (mxL l m).getD j 0 = mcS l m j 0 4 := by
  show (mxS l m 16).getD j 0 = _
  rw [mxS_getD _ _ 16 (by omega), if_pos hj]
theorem mx_eq (m0 m1 m2 m3 a0 a1 a2 a3 a4 a5 a6 a7 a8 a9 a10 a11 a12 a13 a14 a15 : Nat) :
    mxL [a0, a1, a2, a3, a4, a5, a6, a7, a8, a9, a10, a11, a12, a13, a14, a15] [m0, m1, m2, m3] =
      [mc m0 m1 m2 m3 a0 a1 a2 a3, mc m0 m1 m2 m3 a1 a2 a3 a0, mc m0 m1 m2 m3 a2 a3 a0 a1, mc m0 m1 m2 m3 a3 a0 a1 a2,
       mc m0 m1 m2 m3 a4 a5 a6 a7, mc m0 m1 m2 m3 a5 a6 a7 a4, mc m0 m1 m2 m3 a6 a7 a4 a5, mc m0 m1 m2 m3 a7 a4 a5 a6,
       mc m0 m1 m2 m3 a8 a9 a10 a11, mc m0 m1 m2 m3 a9 a10 a11 a8, mc m0 m1 m2 m3 a10 a11 a8 a9, mc m0 m1 m2 m3 a11 a8 a9 a10,
       mc m0 m1 m2 m3 a12 a13 a14 a15, mc m0 m1 m2 m3 a13 a14 a15 a12, mc m0 m1 m2 m3 a14 a15 a12 a13, mc m0 m1 m2 m3 a15 a12 a13 a14] := by
  rw [by_bytes (mxL_len _ _)]
  rw [mxL_getD _ _ (show 0 < 16 by decide), mxL_getD _ _ (show 1 < 16 by decide), mxL_getD _ _ (show 2 < 16 by decide), mxL_getD _ _ (show 3 < 16 by decide), mxL_getD _ _ (show 4 < 16 by decide), mxL_getD _ _ (show 5 < 16 by decide), mxL_getD _ _ (show 6 < 16 by decide), mxL_getD _ _ (show 7 < 16 by decide), mxL_getD _ _ (show 8 < 16 by decide), mxL_getD _ _ (show 9 < 16 by decide), mxL_getD _ _ (show 10 < 16 by decide), mxL_getD _ _ (show 11 < 16 by decide), mxL_getD _ _ (show 12 < 16 by decide), mxL_getD _ _ (show 13 < 16 by decide), mxL_getD _ _ (show 14 < 16 by decide), mxL_getD _ _ (show 15 < 16 by decide)]
  rfl
theorem xor16 (a b c d e f g h i j k l m n o p : Nat) :
    (a ^^^ (b ^^^ (c ^^^ d))) ^^^ ((e ^^^ (f ^^^ (g ^^^ h))) ^^^ ((i ^^^ (j ^^^ (k ^^^ l))) ^^^ (m ^^^ (n ^^^ (o ^^^ p))))) =
      (a ^^^ (h ^^^ (k ^^^ n))) ^^^ ((b ^^^ (e ^^^ (l ^^^ o))) ^^^ ((c ^^^ (f ^^^ (i ^^^ p))) ^^^ (d ^^^ (g ^^^ (j ^^^ m))))) := by ac_rfl
theorem mc_eq (m0 m1 m2 m3 x0 x1 x2 x3 : Nat) : mc m0 m1 m2 m3 x0 x1 x2 x3 = T m0 x0 ^^^ (T m1 x1 ^^^ (T m2 x2 ^^^ T m3 x3)) := by
  unfold mc; rw [Nat.zero_xor, Nat.xor_assoc, Nat.xor_assoc]
theorem mc_back {x0 x1 x2 x3 : Nat} (h0 : x0 < 256) (h1 : x1 < 256) (h2 : x2 < 256) (h3 : x3 < 256) :
    mc 14 11 13 9 (mc 2 3 1 1 x0 x1 x2 x3) (mc 2 3 1 1 x1 x2 x3 x0) (mc 2 3 1 1 x2 x3 x0 x1) (mc 2 3 1 1 x3 x0 x1 x2) = x0 := by
  simp only [mc_eq, T_right]
  rw [xor16]
  have e0 := (mix_back x0 h0).1
  have e1 := (mix_back x1 h1).2.1
  have e2 := (mix_back x2 h2).2.2.1
  have e3 := (mix_back x3 h3).2.2.2
  rw [e0, e1, e2, e3, Nat.xor_zero, Nat.xor_zero, Nat.xor_zero]
theorem mc_forth {x0 x1 x2 x3 : Nat} (h0 : x0 < 256) (h1 : x1 < 256) (h2 : x2 < 256) (h3 : x3 < 256) :
    mc 2 3 1 1 (mc 14 11 13 9 x0 x1 x2 x3) (mc 14 11 13 9 x1 x2 x3 x0) (mc 14 11 13 9 x2 x3 x0 x1) (mc 14 11 13 9 x3 x0 x1 x2) = x0 := by
  simp only [mc_eq, T_right]
  rw [xor16]
  have e0 := (mix_forth x0 h0).1
  have e1 := (mix_forth x1 h1).2.1
  have e2 := (mix_forth x2 h2).2.2.1
  have e3 := (mix_forth x3 h3).2.2.2
  rw [e0, e1, e2, e3, Nat.xor_zero, Nat.xor_zero, Nat.xor_zero]
theorem mx_back {a : List Nat} (ha : a.length = 16) (ba : Bytes a) : mxL (mxL a fwd) rev = a := by
  obtain ⟨a0, a1, a2, a3, a4, a5, a6, a7, a8, a9, a10, a11, a12, a13, a14, a15, rfl⟩ := sixteen ha
  simp only [Bytes, List.mem_cons, List.not_mem_nil, or_false, forall_eq_or_imp, forall_eq] at ba
  obtain ⟨h0, h1, h2, h3, h4, h5, h6, h7, h8, h9, h10, h11, h12, h13, h14, h15⟩ := ba
  rw [fwd, rev, mx_eq, mx_eq, mc_back h0 h1 h2 h3, mc_back h1 h2 h3 h0, mc_back h2 h3 h0 h1, mc_back h3 h0 h1 h2, mc_back h4 h5 h6 h7, mc_back h5 h6 h7 h4, mc_back h6 h7 h4 h5, mc_back h7 h4 h5 h6,
    mc_back h8 h9 h10 h11, mc_back h9 h10 h11 h8, mc_back h10 h11 h8 h9, mc_back h11 h8 h9 h10, mc_back h12 h13 h14 h15, mc_back h13 h14 h15 h12, mc_back h14 h15 h12 h13, mc_back h15 h12 h13 h14]
theorem mx_forth {a : List Nat} (ha : a.length = 16) (ba : Bytes a) : mxL (mxL a rev) fwd = a := by
  obtain ⟨a0, a1, a2, a3, a4, a5, a6, a7, a8, a9, a10, a11, a12, a13, a14, a15, rfl⟩ := sixteen ha
  simp only [Bytes, List.mem_cons, List.not_mem_nil, or_false, forall_eq_or_imp, forall_eq] at ba
  obtain ⟨h0, h1, h2, h3, h4, h5, h6, h7, h8, h9, h10, h11, h12, h13, h14, h15⟩ := ba
  rw [fwd, rev, mx_eq, mx_eq, mc_forth h0 h1 h2 h3, mc_forth h1 h2 h3 h0, mc_forth h2 h3 h0 h1, mc_forth h3 h0 h1 h2, mc_forth h4 h5 h6 h7, mc_forth h5 h6 h7 h4, mc_forth h6 h7 h4 h5, mc_forth h7 h4 h5 h6,
    mc_forth h8 h9 h10 h11, mc_forth h9 h10 h11 h8, mc_forth h10 h11 h8 h9, mc_forth h11 h8 h9 h10, mc_forth h12 h13 h14 h15, mc_forth h13 h14 h15 h12, mc_forth h14 h15 h12 h13, mc_forth h15 h12 h13 h14]
section
variable {r b : List Nat}
theorem show_hide (hr : r.length = 176) (br : Bytes r) (hb : b.length = 16) (bb : Bytes b) (n : Nat) (hn : n ≤ 10) : shS r (hdS r b 10) n = hdS r b (10 - n) := by
  induction n with
  | zero => rfl
  | succ n ih =>
    show mvL 3 (if 10 - n < 10 then mxL (addL (shS r (hdS r b 10) n) (rdRow r (10 - n))) rev else addL (shS r (hdS r b 10) n) (rdRow r (10 - n))) backT = _
    rw [ih (by omega)]
    obtain ⟨q, hq, hq2⟩ : ∃ q, 10 - n = q + 1 ∧ 10 - (n + 1) = q := ⟨9 - n, by omega, by omega⟩
    rw [hq, hq2]
    have ok := hdS_ok br hb bb q
    have hrow := rdRow_len hr (show q + 1 < 11 by omega)
    show mvL 3 (if q + 1 < 10 then mxL (addL (addL (if q + 1 < 10 then mxL (mvL 1 (hdS r b q) swapT) fwd else mvL 1 (hdS r b q) swapT) (rdRow r (q + 1))) (rdRow r (q + 1))) rev else addL (addL (if q + 1 < 10 then mxL (mvL 1 (hdS r b q) swapT) fwd else mvL 1 (hdS r b q) swapT) (rdRow r (q + 1))) (rdRow r (q + 1))) backT = _
    by_cases h : q + 1 < 10
    · simp only [if_pos h]
      rw [addL_back (mxL_len _ _), mx_back (mvL_len _ _ _) (mvL_bytes _ _ swapT_bytes), mv_back ok.1 ok.2]
    · simp only [if_neg h]
      rw [addL_back (mvL_len _ _ _), mv_back ok.1 ok.2]
theorem hide_show (hr : r.length = 176) (br : Bytes r) (hb : b.length = 16) (bb : Bytes b) (q : Nat) (hq : q ≤ 10) : hdS r (addL (shS r b 10) (rdRow r 0)) q = shS r b (10 - q) := by
  induction q with
  | zero => exact addL_back (shS_ok r hb bb 10).1
  | succ q ih =>
    show addL (if q + 1 < 10 then mxL (mvL 1 (hdS r (addL (shS r b 10) (rdRow r 0)) q) swapT) fwd else mvL 1 (hdS r (addL (shS r b 10) (rdRow r 0)) q) swapT) (rdRow r (q + 1)) = _
    rw [ih (by omega)]
    obtain ⟨n, hn, hn2⟩ : ∃ n, 10 - q = n + 1 ∧ 10 - (q + 1) = n := ⟨9 - q, by omega, by omega⟩
    rw [hn, hn2]
    have ok := shS_ok r hb bb n
    have hrow := rdRow_len hr (show q + 1 < 11 by omega)
    have e : 10 - n = q + 1 := by omega
    show addL (if q + 1 < 10 then mxL (mvL 1 (mvL 3 (if 10 - n < 10 then mxL (addL (shS r b n) (rdRow r (10 - n))) rev else addL (shS r b n) (rdRow r (10 - n))) backT) swapT) fwd else mvL 1 (mvL 3 (if 10 - n < 10 then mxL (addL (shS r b n) (rdRow r (10 - n))) rev else addL (shS r b n) (rdRow r (10 - n))) backT) swapT) (rdRow r (q + 1)) = _
    rw [e]
    have hx := addL_len (rdRow r (q + 1)) ok.1
    have bx : Bytes (addL (shS r b n) (rdRow r (q + 1))) := addL_bytes ok.2 (rdRow_bytes br _)
    by_cases h : q + 1 < 10
    · simp only [if_pos h]
      rw [mv_forth (mxL_len _ _) (mxL_bytes _ rev_bytes), mx_forth hx bx, addL_back ok.1]
    · simp only [if_neg h]
      rw [mv_forth hx bx, addL_back ok.1]
end
section
variable {key b : List Nat} (hk : key.length = 16) (bk : Bytes key) (hb : b.length = 16) (bb : Bytes b)
include hk bk hb bb
theorem showL_hideL : showL key (hideL key b) = b := by
  have hr := rdL_len hk bk swapT_bytes
  have br := rdL_bytes hk bk swapT_bytes
  show addL (shS _ (hdS _ b 10) 10) _ = b
  rw [show_hide hr br hb bb 10 (by omega)]
  exact addL_back hb
theorem hideL_showL : hideL key (showL key b) = b := by
  have hr := rdL_len hk bk swapT_bytes
  have br := rdL_bytes hk bk swapT_bytes
  exact hide_show hr br hb bb 10 (by omega)
theorem hideL_ok : (hideL key b).length = 16 ∧ Bytes (hideL key b) := hdS_ok (rdL_bytes hk bk swapT_bytes) hb bb 10
theorem showL_ok : (showL key b).length = 16 ∧ Bytes (showL key b) := by
  have ok := shS_ok (rdL key swapT) hb bb 10
  exact ⟨addL_len _ ok.1, addL_bytes ok.2 (rdRow_bytes (rdL_bytes hk bk swapT_bytes) _)⟩
end
end Go.Proofs.Ytfkdeekobiknjaa
