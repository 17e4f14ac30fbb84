/- The document's product of two bytes (layer 4): its law, its walk; the document's other byte, a byte turned, a byte swapped. -/
import Derived.Test.YtgdphdnghackfaaF
namespace Go.Proofs.Ytgdphdnghackfaa
open Go.RowKit
/-- The polynomials' product, bit by bit of the second one. -/
def rtA (a b : Nat) : Nat → Nat
  | 0 => 0
  | i + 1 => if b / 2 ^ i % 2 = 1 then rtA a b i ^^^ (a * 2 ^ i) else rtA a b i
/-- What is left of it, from the bit 14 on downwards. -/
def rtB (p : Nat) : Nat → Nat
  | 0 => p
  | n + 1 => if rtB p n / 2 ^ (14 - n) % 2 = 1 then rtB p n ^^^ (283 * 2 ^ (6 - n)) else rtB p n
theorem bit_xor (a b i : Nat) : (a ^^^ b) / 2 ^ i % 2 = (a / 2 ^ i % 2) ^^^ (b / 2 ^ i % 2) := by
  rw [Nat.xor_div_two_pow]
  exact Nat.xor_mod_two_pow (n := 1)
theorem rtA_xor (a b c i : Nat) : rtA a (b ^^^ c) i = rtA a b i ^^^ rtA a c i := by
  induction i with
  | zero => simp [rtA]
  | succ i ih =>
    simp only [rtA]
    rw [bit_xor, ih]
    rcases Nat.mod_two_eq_zero_or_one (b / 2 ^ i) with hb | hb <;> rcases Nat.mod_two_eq_zero_or_one (c / 2 ^ i) with hc | hc
    all_goals rw [hb, hc]; simp
    · rw [Nat.xor_assoc]
    · rw [Nat.xor_assoc, Nat.xor_comm (rtA a c i), ← Nat.xor_assoc]
    · rw [xor4, Nat.xor_self, Nat.xor_zero]
theorem rtB_xor (p q n : Nat) : rtB (p ^^^ q) n = rtB p n ^^^ rtB q n := by
  induction n with
  | zero => rfl
  | succ n ih =>
    simp only [rtB]
    rw [ih, bit_xor]
    rcases Nat.mod_two_eq_zero_or_one (rtB p n / 2 ^ (14 - n)) with hb | hb <;> rcases Nat.mod_two_eq_zero_or_one (rtB q n / 2 ^ (14 - n)) with hc | hc
    all_goals rw [hb, hc]; simp
    · rw [Nat.xor_assoc]
    · rw [Nat.xor_assoc, Nat.xor_comm (rtB q n), ← Nat.xor_assoc]
    · rw [xor4, Nat.xor_self, Nat.xor_zero]
set_option maxRecDepth 100000 in
theorem rt_pows : ∀ a, a < 256 → ∀ p ∈ pows, rtB (rtA a p 8) 7 % 256 = T a p := by decide +kernel
theorem rt_T {a b : Nat} (ha : a < 256) (hb : b < 256) : rtB (rtA a b 8) 7 % 256 = T a b := by
  refine adds_pows (f := fun b => rtB (rtA a b 8) 7 % 256) (g := T a) (fun b _ c _ => ?_) (adds_T_right a) (fun p hp => rt_pows a ha p hp) b hb
  show rtB (rtA a (b ^^^ c) 8) 7 % 256 = (rtB (rtA a b 8) 7 % 256) ^^^ (rtB (rtA a c 8) 7 % 256)
  rw [rtA_xor, rtB_xor]
  exact Nat.xor_mod_two_pow (n := 8)
theorem rtA_lt {a : Nat} (b : Nat) (ha : a < 256) (i : Nat) (hi : i ≤ 8) : rtA a b i < 65536 := by
  induction i with
  | zero => simp [rtA]
  | succ i ih =>
    simp only [rtA]
    have h1 := ih (by omega)
    have h2 : a * 2 ^ i < 65536 := by
      have : 2 ^ i ≤ 2 ^ 8 := Nat.pow_le_pow_right (by decide) (by omega)
      have := Nat.mul_le_mul (show a ≤ 255 by omega) this
      omega
    split
    · exact Nat.xor_lt_two_pow (n := 16) h1 h2
    · exact h1
theorem rtB_lt {p : Nat} (hp : p < 65536) (n : Nat) : rtB p n < 65536 := by
  induction n with
  | zero => exact hp
  | succ n ih =>
    simp only [rtB]
    have h2 : 283 * 2 ^ (6 - n) < 65536 := by
      have : 2 ^ (6 - n) ≤ 2 ^ 6 := Nat.pow_le_pow_right (by decide) (by omega)
      omega
    split
    · exact Nat.xor_lt_two_pow (n := 16) ih h2
    · exact ih
theorem xor_i64 {a b : Nat} (ha : a < 65536) (hb : b < 65536) : bits .xor .i64 (a : Int) (b : Int) = ((a ^^^ b : Nat) : Int) := by
  have hx : a ^^^ b < 65536 := Nat.xor_lt_two_pow (n := 16) ha hb
  show IntKind.i64.wrap ((BitVec.ofInt 64 (a : Int) ^^^ BitVec.ofInt 64 (b : Int)).toNat : Int) = _
  rw [BitVec.toNat_xor, BitVec.ofInt_natCast, BitVec.ofInt_natCast, BitVec.toNat_ofNat, BitVec.toNat_ofNat, Nat.mod_eq_of_lt (by omega), Nat.mod_eq_of_lt (by omega)]
  exact IntWalk.i64_in _ (by omega)
theorem test_bit (b i : Nat) : (((b : Int) / 2 ^ i).tmod 2 == 1) = decide (b / 2 ^ i % 2 = 1) := by
  have e : ((b : Int) / 2 ^ i) = ((b / 2 ^ i : Nat) : Int) := by simp
  rw [e]
  generalize b / 2 ^ i = q
  have e2 : ((q : Int).tmod 2) = ((q % 2 : Nat) : Int) := by rw [Int.tmod_eq_emod_of_nonneg (by omega)]; omega
  rw [e2]
  rcases Nat.mod_two_eq_zero_or_one q with h | h <;> rw [h] <;> decide
theorem wrap_shl (a i : Nat) (h : a * 2 ^ i < 65536) : wrap64 ((a : Int) * 2 ^ i) = ((a * 2 ^ i : Nat) : Int) := by
  have e : ((a : Int) * 2 ^ i) = ((a * 2 ^ i : Nat) : Int) := by simp
  rw [e]
  unfold wrap64; omega
theorem shl_lt {a i m : Nat} (hi : i ≤ m) (h : a * 2 ^ m < 65536) : a * 2 ^ i < 65536 :=
  Nat.lt_of_le_of_lt (Nat.mul_le_mul_left a (Nat.pow_le_pow_right (by decide) hi)) h
theorem u8_mod (p : Nat) : ((p : Int) % 256) = ((p % 256 : Nat) : Int) := by omega
set_option maxRecDepth 100000 in
set_option maxHeartbeats 1000000 in
theorem TimesR_to (a b : Nat) (w : World) (v : Nat) (hv : T a b = v) (ha : a < 256) (hb : b < 256) : Calls Try.prog 30 #[.int .u8 a, .int .u8 b] w fun e w' => e = .returned (.int .u8 v) ∧ w = w' := by
  have hv2 : Kp (rtB (rtA a b 8) 7 % 256 = v) := ⟨by rw [rt_T ha hb]; exact hv⟩
  clear hv
  go_enter Try.func30, Try.ntmps30
  go_wp2_with fail
  go_loop [5, 6] (fun pp ii => ∃ i : Nat, pp = .int .i64 (rtA a b i : Nat) ∧ ii = .int .i64 i ∧ i ≤ 8) (fun _ ii => (8 - intOf ii).toNat)
  case atStart => exact ⟨0, rfl, rfl, by omega⟩
  case round =>
    obtain ⟨i, rfl, rfl, hi⟩ := hrel
    by_cases hi8 : i < 8
    · have hi' : (i : Int) < 8 := by omega
      obtain ⟨p, hp⟩ : ∃ p, rtA a b i = p := ⟨_, rfl⟩
      have hp16 : p < 65536 := hp ▸ rtA_lt b ha i hi
      have ha16 : a * 2 ^ i < 65536 := shl_lt (m := 7) (by omega) (by omega)
      have hst : rtA a b (i + 1) = if b / 2 ^ i % 2 = 1 then p ^^^ (a * 2 ^ i) else p := by rw [← hp]; rfl
      rw [hp]
      replace hst := Kp.mk hst
      replace ha16 := Kp.mk ha16
      clear hp
      by_cases hbit : b / 2 ^ i % 2 = 1
      · have ht : (((b : Int) / 2 ^ i).tmod 2 == 1) = true := by rw [test_bit, hbit]; rfl
        rw [if_pos hbit] at hst
        clear hbit
        go_wp2_with fail
        go_round
        case rel => exact ⟨i + 1, by rw [hst.out, wrap_shl a i ha16.out, xor_i64 hp16 ha16.out], congrArg (Value.int .i64) (by omega), by omega⟩
        case measure => simp [intOf] <;> omega
      · have ht : (((b : Int) / 2 ^ i).tmod 2 == 1) = false := by rw [test_bit]; exact decide_eq_false hbit
        rw [if_neg hbit] at hst
        clear hbit
        go_wp2_with fail
        go_round
        case rel => exact ⟨i + 1, by rw [hst.out], congrArg (Value.int .i64) (by omega), by omega⟩
        case measure => simp [intOf] <;> omega
    · obtain rfl : i = 8 := by omega
      have hp16 : rtA a b 8 < 65536 := rtA_lt b ha 8 hi
      obtain ⟨p, hp⟩ : ∃ p, rtA a b 8 = p := ⟨_, rfl⟩
      rw [hp] at hv2 hp16 ⊢
      clear hp
      go_wp2_with fail
      go_loop [5, 7] (fun pp ii => ∃ n j : Nat, pp = .int .i64 (rtB p n : Nat) ∧ ii = .int .i64 j ∧ n + j = 14 ∧ n ≤ 7) (fun _ ii => (intOf ii).toNat)
      case atStart => exact ⟨0, 14, rfl, rfl, by omega, by omega⟩
      case round =>
        obtain ⟨n, j, rfl, rfl, hnj, hn⟩ := hrel
        obtain ⟨q, hq⟩ : ∃ q, rtB p n = q := ⟨_, rfl⟩
        have hq16 : q < 65536 := hq ▸ rtB_lt hp16 n
        have hj14 : (j : Int) ≤ 14 := by omega
        by_cases hn7 : n < 7
        · have hj8 : (8 : Int) ≤ (j : Int) := by omega
          have h16 : 283 * 2 ^ (j - 8) < 65536 := shl_lt (m := 6) (by omega) (by decide)
          have hst : rtB p (n + 1) = if q / 2 ^ j % 2 = 1 then q ^^^ (283 * 2 ^ (j - 8)) else q := by
            rw [← hq, show j - 8 = 6 - n by omega, show j = 14 - n by omega]; rfl
          rw [hq]
          replace hst := Kp.mk hst
          replace h16 := Kp.mk h16
          replace hnj := Kp.mk hnj
          clear hq
          by_cases hbit : q / 2 ^ j % 2 = 1
          · have ht : (((q : Int) / 2 ^ j).tmod 2 == 1) = true := by rw [test_bit, hbit]; rfl
            rw [if_pos hbit] at hst
            clear hbit
            go_wp2_with fail
            have e : wrap64 (283 * 2 ^ (j - 8)) = ((283 * 2 ^ (j - 8) : Nat) : Int) := wrap_shl 283 (j - 8) h16.out
            have hnj2 := hnj.out
            go_round
            case rel => exact ⟨n + 1, j - 1, by rw [hst.out, e, xor_i64 hq16 h16.out], congrArg (Value.int .i64) (by omega), by omega, by omega⟩
            case measure => simp [intOf] <;> omega
          · have ht : (((q : Int) / 2 ^ j).tmod 2 == 1) = false := by rw [test_bit]; exact decide_eq_false hbit
            rw [if_neg hbit] at hst
            clear hbit
            go_wp2_with fail
            have hnj2 := hnj.out
            go_round
            case rel => exact ⟨n + 1, j - 1, by rw [hst.out], congrArg (Value.int .i64) (by omega), by omega, by omega⟩
            case measure => simp [intOf] <;> omega
        · obtain rfl : n = 7 := by omega
          obtain rfl : j = 7 := by omega
          rw [hq] at hv2 ⊢
          clear hq
          go_wp2_with fail
          go_ret
          exact ⟨by rw [u8_mod, hv2.out]; rfl, rfl⟩
set_option maxRecDepth 100000 in
set_option maxHeartbeats 1000000 in
theorem OtherR_to (a : Nat) (w : World) (v : Nat) (hv : inv a = v) (ha : a < 256) : Calls Try.prog 38 #[.int .u8 a] w fun e w' => e = .returned (.int .u8 v) ∧ w = w' := by
  obtain ⟨hv8, h1, _, hz⟩ := inv_facts a ha
  rw [hv] at hv8 h1 hz
  have hsp : ∀ x, 1 ≤ x → x < 256 → (T a x = 1 ↔ a ≠ 0 ∧ x = v) := fun x _ h2 => ⟨fun h => ⟨fun h0 => (by rw [h0, T_zero] at h; cases h), (by rw [← hv]; exact inv_unique ha h2 h)⟩, fun hh => (by rw [hh.2]; exact h1 hh.1)⟩
  have v1 : a ≠ 0 → 1 ≤ v := fun h => by
    rcases Nat.eq_zero_or_pos v with h3 | h3
    · have h2 := h1 h
      rw [h3] at h2
      have : T a 0 = 0 := mulN_zero 8 a
      rw [this] at h2; cases h2
    · exact h3
  replace hv := Kp.mk hv
  replace h1 := Kp.mk h1
  replace hsp := Kp.mk hsp
  replace v1 := Kp.mk v1
  replace hz := Kp.mk hz
  go_enter Try.func38, Try.ntmps38
  go_wp2_with fail
  go_loop [3] (fun xx => ∃ x : Nat, xx = .int .i64 x ∧ (1 ≤ x ∧ x ≤ 256) ∧ Kp (a = 0 ∨ x ≤ v)) (fun xx => 300 - (intOf xx).toNat)
  case atStart => exact ⟨1, rfl, by omega, ⟨by
    by_cases h : a = 0
    · exact .inl h
    · exact .inr (v1.out h)⟩⟩
  case round =>
    obtain ⟨x, rfl, ⟨hx1, hx2⟩, hk⟩ := hrel
    by_cases hx : x < 256
    · have hx' : (x : Int) < 256 := by omega
      obtain ⟨z, hzz⟩ : ∃ z, T a x = z := ⟨_, rfl⟩
      replace hzz := Kp.mk hzz
      by_cases hx3 : a ≠ 0 ∧ x = v
      · obtain rfl : z = 1 := by rw [← hzz.out]; exact (hsp.out x hx1 hx).2 hx3
        have hxv := hx3.2
        clear hx3
        subst hxv
        go_wp2_with fail
        refine (TimesR_to a x _ 1 hzz.out ha (by omega)).mono ?_
        rintro _ w2 ⟨rfl, rfl⟩
        go_wp2_with fail
        go_ret
        exact ⟨rfl, rfl⟩
      · have hz1 : ((z : Int) == 1) = false := by
          have : z ≠ 1 := fun h => hx3 ((hsp.out x hx1 hx).1 (by rw [hzz.out]; exact h))
          simp; omega
        have hk2 : Kp (a = 0 ∨ x + 1 ≤ v) := ⟨by
          by_cases h : a = 0
          · exact .inl h
          · rcases hk.out with h2 | h2
            · exact absurd h2 h
            · have : x ≠ v := fun e => hx3 ⟨h, e⟩
              exact .inr (by omega)⟩
        clear hx3
        go_wp2_with fail
        refine (TimesR_to a x _ z hzz.out ha (by omega)).mono ?_
        rintro _ w2 ⟨rfl, rfl⟩
        go_wp2_with fail
        go_round
        case rel => exact ⟨x + 1, congrArg (Value.int .i64) (by omega), ⟨by omega, by omega⟩, hk2⟩
        case measure => simp [intOf] <;> omega
    · have hx' : ¬ (x : Int) < 256 := by omega
      have ha0 : a = 0 := by rcases hk.out with h | h; exact h; omega
      obtain rfl : v = 0 := hz.out ha0
      clear ha0
      go_wp2_with fail
      go_ret
      exact ⟨rfl, rfl⟩
def lf (y n : Nat) : Nat := (y * 2 ^ n % 256) ||| (y / 2 ^ (8 - n))
theorem lf_u8 {y : Nat} (hy : y < 256) (n : Nat) : bits .or .u8 ((y : Int) * 2 ^ n % 256) ((y : Int) / 2 ^ (8 - n)) = ((lf y n : Nat) : Int) := by
  have e1 : (y : Int) * 2 ^ n % 256 = ((y * 2 ^ n % 256 : Nat) : Int) := by simp
  have e2 : (y : Int) / 2 ^ (8 - n) = ((y / 2 ^ (8 - n) : Nat) : Int) := by simp
  have := Nat.div_le_self y (2 ^ (8 - n))
  rw [e1, e2, or_u8 (Nat.mod_lt _ (by decide)) (by omega)]; rfl
theorem lf_lt {y : Nat} (hy : y < 256) (n : Nat) : lf y n < 256 := or_lt (Nat.mod_lt _ (by decide)) (Nat.lt_of_le_of_lt (Nat.div_le_self _ _) hy)
set_option maxRecDepth 100000 in
theorem left_1 (y v : Nat) (w : World) (hv : lf y 1 = v) (hy : y < 256) : Calls Try.prog 39 #[.int .u8 y, .int .i64 1] w fun e w' => e = .returned (.int .u8 v) ∧ w = w' := by
  have e1 : bits .or .u8 ((y : Int) * 2 % 256) ((y : Int) / 128) = ((v : Nat) : Int) := by rw [← hv]; exact lf_u8 hy 1
  clear hv
  go_enter Try.func39, Try.ntmps39
  go_wp2_with fail
  go_ret
  exact ⟨rfl, rfl⟩
set_option maxRecDepth 100000 in
theorem left_2 (y v : Nat) (w : World) (hv : lf y 2 = v) (hy : y < 256) : Calls Try.prog 39 #[.int .u8 y, .int .i64 2] w fun e w' => e = .returned (.int .u8 v) ∧ w = w' := by
  have e1 : bits .or .u8 ((y : Int) * 4 % 256) ((y : Int) / 64) = ((v : Nat) : Int) := by rw [← hv]; exact lf_u8 hy 2
  clear hv
  go_enter Try.func39, Try.ntmps39
  go_wp2_with fail
  go_ret
  exact ⟨rfl, rfl⟩
set_option maxRecDepth 100000 in
theorem left_3 (y v : Nat) (w : World) (hv : lf y 3 = v) (hy : y < 256) : Calls Try.prog 39 #[.int .u8 y, .int .i64 3] w fun e w' => e = .returned (.int .u8 v) ∧ w = w' := by
  have e1 : bits .or .u8 ((y : Int) * 8 % 256) ((y : Int) / 32) = ((v : Nat) : Int) := by rw [← hv]; exact lf_u8 hy 3
  clear hv
  go_enter Try.func39, Try.ntmps39
  go_wp2_with fail
  go_ret
  exact ⟨rfl, rfl⟩
set_option maxRecDepth 100000 in
theorem left_4 (y v : Nat) (w : World) (hv : lf y 4 = v) (hy : y < 256) : Calls Try.prog 39 #[.int .u8 y, .int .i64 4] w fun e w' => e = .returned (.int .u8 v) ∧ w = w' := by
  have e1 : bits .or .u8 ((y : Int) * 16 % 256) ((y : Int) / 16) = ((v : Nat) : Int) := by rw [← hv]; exact lf_u8 hy 4
  clear hv
  go_enter Try.func39, Try.ntmps39
  go_wp2_with fail
  go_ret
  exact ⟨rfl, rfl⟩
set_option maxRecDepth 100000 in
theorem swap_lf : ∀ y, y < 256 → ((((y ^^^ lf y 1) ^^^ lf y 2) ^^^ lf y 3) ^^^ lf y 4) ^^^ 99 = sx y 4 := by decide +kernel
set_option maxRecDepth 100000 in
set_option maxHeartbeats 1000000 in
theorem SwapR_to (a : Nat) (w : World) (v : Nat) (hv : swapN a = v) (ha : a < 256) : Calls Try.prog 29 #[.int .u8 a] w fun e w' => e = .returned (.int .u8 v) ∧ w = w' := by
  rw [swapN_sx] at hv
  obtain ⟨hi8, _⟩ := inv_facts a ha
  obtain ⟨y, hy⟩ : ∃ y, inv a = y := ⟨_, rfl⟩
  rw [hy, ← swap_lf _ (hy ▸ hi8)] at hv
  rw [hy] at hi8
  obtain ⟨p1, h1⟩ : ∃ p, lf y 1 = p := ⟨_, rfl⟩
  obtain ⟨p2, h2⟩ : ∃ p, lf y 2 = p := ⟨_, rfl⟩
  obtain ⟨p3, h3⟩ : ∃ p, lf y 3 = p := ⟨_, rfl⟩
  obtain ⟨p4, h4⟩ : ∃ p, lf y 4 = p := ⟨_, rfl⟩
  have l1 : p1 < 256 := h1 ▸ lf_lt hi8 1
  have l2 : p2 < 256 := h2 ▸ lf_lt hi8 2
  have l3 : p3 < 256 := h3 ▸ lf_lt hi8 3
  have l4 : p4 < 256 := h4 ▸ lf_lt hi8 4
  rw [h1, h2, h3, h4] at hv
  have x1 := xor_u8 hi8 l1
  have x2 := xor_u8 (xor_lt hi8 l1) l2
  have x3 := xor_u8 (xor_lt (xor_lt hi8 l1) l2) l3
  have x4 := xor_u8 (xor_lt (xor_lt (xor_lt hi8 l1) l2) l3) l4
  have x5 : bits .xor .u8 ((((((y ^^^ p1) ^^^ p2) ^^^ p3) ^^^ p4 : Nat)) : Int) 99 = ((v : Nat) : Int) := by rw [← hv]; exact xor_u8 (xor_lt (xor_lt (xor_lt (xor_lt hi8 l1) l2) l3) l4) (by decide : 99 < 256)
  replace hy := Kp.mk hy; replace h1 := Kp.mk h1; replace h2 := Kp.mk h2; replace h3 := Kp.mk h3; replace h4 := Kp.mk h4
  clear hv
  go_enter Try.func29, Try.ntmps29
  go_wp2_with fail
  refine (OtherR_to a _ y hy.out ha).mono ?_
  rintro _ w1 ⟨rfl, rfl⟩
  go_wp2_with fail
  refine (left_1 y p1 _ h1.out hi8).mono ?_
  rintro _ w1 ⟨rfl, rfl⟩
  go_wp2_with fail
  refine (left_2 y p2 _ h2.out hi8).mono ?_
  rintro _ w1 ⟨rfl, rfl⟩
  go_wp2_with fail
  refine (left_3 y p3 _ h3.out hi8).mono ?_
  rintro _ w1 ⟨rfl, rfl⟩
  go_wp2_with fail
  refine (left_4 y p4 _ h4.out hi8).mono ?_
  rintro _ w1 ⟨rfl, rfl⟩
  go_wp2_with fail
  go_ret
  exact ⟨rfl, rfl⟩
end Go.Proofs.Ytgdphdnghackfaa
