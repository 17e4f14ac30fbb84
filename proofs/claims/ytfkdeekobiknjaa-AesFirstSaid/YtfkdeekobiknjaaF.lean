/- The walks of Times, Other, Swap (layer 4): every byte. -/
import Derived.Test.YtfkdeekobiknjaaM
import Derived.Laws.Bits64
import Derived.Test.YtfkdeekobiknjaaChecked
import Derived.WalkLawsBesides
import Derived.WalkSpells
import Derived.Outline
namespace Go.Proofs.Ytfkdeekobiknjaa
open Go.RowKit

theorem wrap_u8 (n : Int) : IntKind.u8.wrap n = n % 256 := by simp [IntKind.wrap, IntKind.bits, IntKind.signed]
theorem toNat_u8 {a : Nat} (ha : a < 256) : (BitVec.ofInt 8 (a : Int)).toNat = a := by
  rw [BitVec.ofInt_natCast, BitVec.toNat_ofNat]; exact Nat.mod_eq_of_lt (by omega)
theorem xor_u8 {a b : Nat} (ha : a < 256) (hb : b < 256) : bits .xor .u8 (a : Int) (b : Int) = ((a ^^^ b : Nat) : Int) := by
  have hx := xor_lt ha hb
  show IntKind.u8.wrap ((BitVec.ofInt 8 (a : Int) ^^^ BitVec.ofInt 8 (b : Int)).toNat : Int) = _
  rw [BitVec.toNat_xor, toNat_u8 ha, toNat_u8 hb, wrap_u8]
  omega
theorem or_lt {a b : Nat} (ha : a < 256) (hb : b < 256) : a ||| b < 256 := Nat.or_lt_two_pow (n := 8) ha hb
theorem or_u8 {a b : Nat} (ha : a < 256) (hb : b < 256) : bits .or .u8 (a : Int) (b : Int) = ((a ||| b : Nat) : Int) := by
  have hx := or_lt ha hb
  show IntKind.u8.wrap ((BitVec.ofInt 8 (a : Int) ||| BitVec.ofInt 8 (b : Int)).toNat : Int) = _
  rw [BitVec.toNat_or, toNat_u8 ha, toNat_u8 hb, wrap_u8]
  omega
theorem and1_u8 {a : Nat} (ha : a < 256) : bits .and .u8 (a : Int) 1 = ((a % 2 : Nat) : Int) := by
  show IntKind.u8.wrap ((BitVec.ofInt 8 (a : Int) &&& BitVec.ofInt 8 ((1 : Nat) : Int)).toNat : Int) = _
  rw [BitVec.toNat_and, toNat_u8 ha, toNat_u8 (by decide), wrap_u8, Nat.and_one_is_mod]
  omega

theorem xt_u8 {A : Nat} (hA : A < 256) : bits .xor .u8 ((A : Int) * 2 % 256) ((A : Int) / 128 * 27) = ((xt A : Nat) : Int) := by
  have e1 : (A : Int) * 2 % 256 = ((2 * A % 256 : Nat) : Int) := by omega
  have e2 : (A : Int) / 128 * 27 = ((A / 128 * 27 : Nat) : Int) := by omega
  rw [e1, e2, xor_u8 (by omega) (by omega)]; rfl
theorem rotl_lt {y : Nat} (h : y < 256) : rotl y < 256 := or_lt (Nat.mod_lt _ (by decide)) (by omega)
theorem rotl_u8 {A : Nat} (hA : A < 256) : bits .or .u8 ((A : Int) * 2 % 256) ((A : Int) / 128) = ((rotl A : Nat) : Int) := by
  have e1 : (A : Int) * 2 % 256 = ((2 * A % 256 : Nat) : Int) := by omega
  have e2 : (A : Int) / 128 = ((A / 128 : Nat) : Int) := by omega
  rw [e1, e2, or_u8 (by omega) (by omega)]; rfl
/-- A byte turned, and what comes together of it, turn by turn. -/
def sy (b : Nat) : Nat → Nat
  | 0 => b
  | i + 1 => rotl (sy b i)
def sx (b : Nat) : Nat → Nat
  | 0 => b ^^^ 99
  | i + 1 => sx b i ^^^ sy b (i + 1)
theorem sy_lt {b : Nat} (h : b < 256) (i : Nat) : sy b i < 256 := by
  induction i with
  | zero => exact h
  | succ i ih => exact rotl_lt ih
theorem sx_lt {b : Nat} (h : b < 256) (i : Nat) : sx b i < 256 := by
  induction i with
  | zero => exact xor_lt h (by decide)
  | succ i ih => exact xor_lt ih (sy_lt h _)
theorem swapN_sx (a : Nat) : swapN a = sx (inv a) 4 := rfl
theorem mulN_zero (n a : Nat) : mulN n a 0 = 0 := by
  induction n generalizing a with
  | zero => rfl
  | succ n ih => simp [mulN, ih]
set_option maxRecDepth 100000 in
set_option maxHeartbeats 1000000 in
theorem Times_to (a b : Nat) (w : World) (v : Nat) (hv : T a b = v) (ha : a < 256) (hb : b < 256) :
    Calls Try.prog 11 #[.int .u8 a, .int .u8 b] w fun e w' => e = .returned (.int .u8 v) ∧ Below w.heap.size w w' := by
  go_enter Try.func11, Try.ntmps11
  go_wp2_with fail
  go_loopw [0, 1, 5] (fun aa bb xx wr => ∃ A B X i : Nat, aa = .int .u8 A ∧ bb = .int .u8 B ∧ xx = .int .u8 X ∧ (A < 256 ∧ B < 256 ∧ X < 256) ∧ Kp (i ≤ 8 ∧ B < 2 ^ i) ∧ Kp (X ^^^ mulN i A B = v) ∧ Below w.heap.size w wr) (fun _ bb _ _ => (intOf bb).toNat)
  case atStart => exact ⟨a, b, 0, 8, rfl, rfl, rfl, ⟨ha, hb, by decide⟩, ⟨by omega, hb⟩, ⟨by rw [Nat.zero_xor]; exact hv⟩, Below.refl _ _⟩
  case round =>
    obtain ⟨A, B, X, i, rfl, rfl, rfl, ⟨hA, hB, hX⟩, hi, hm, hbel⟩ := hrel
    have i1 := and1_u8 hB
    rcases Nat.eq_zero_or_pos B with h0 | h0
    · subst h0
      have e : X = v := by have h := hm.out; rw [mulN_zero, Nat.xor_zero] at h; exact h
      go_wp2_with fail
      exact bodyPost_ret (v := .int .u8 X) (by simp [results, Try.results11, go_sem]) rfl ⟨by rw [e], hbel⟩
    · have h0' : (0 : Int) < B := by omega
      rcases Nat.mod_two_eq_zero_or_one B with hb2 | hb2
      · rw [hb2] at i1
        go_wp2_with fail
        obtain ⟨j, rfl⟩ : ∃ j, i = j + 1 := ⟨i - 1, by have h := hi.out.2; rcases i with _ | i; (simp at h; omega); rfl⟩
        have hp := hi.out.2
        rw [Nat.pow_succ] at hp
        refine ⟨⟨xt A, B / 2, X, j, by rw [xt_u8 hA], congrArg (Value.int .u8) (by omega), rfl, ⟨xt_lt hA, by omega, hX⟩, ⟨by have := hi.out.1; omega, by omega⟩, ⟨?_⟩, hbel⟩, by simp [intOf]; omega⟩
        have h := hm.out
        rw [mulN, hb2, if_neg (by decide), Nat.zero_xor] at h; exact h
      · rw [hb2] at i1
        have i2 := xor_u8 hX hA
        go_wp2_with fail
        obtain ⟨j, rfl⟩ : ∃ j, i = j + 1 := ⟨i - 1, by have h := hi.out.2; rcases i with _ | i; (simp at h; omega); rfl⟩
        have hp := hi.out.2
        rw [Nat.pow_succ] at hp
        refine ⟨⟨xt A, B / 2, X ^^^ A, j, by rw [xt_u8 hA], congrArg (Value.int .u8) (by omega), rfl, ⟨xt_lt hA, by omega, xor_lt hX hA⟩, ⟨by have := hi.out.1; omega, by omega⟩, ⟨?_⟩, hbel⟩, by simp [intOf]; omega⟩
        have h := hm.out
        rw [mulN, hb2, if_pos rfl, ← Nat.xor_assoc] at h; exact h

set_option maxRecDepth 100000 in
set_option maxHeartbeats 1000000 in
theorem Other_to (a : Nat) (w : World) (v : Nat) (hv : inv a = v) (ha : a < 256) : Calls Try.prog 13 #[.int .u8 a] w fun e w' => e = .returned (.int .u8 v) ∧ Below w.heap.size w w' := by
  obtain ⟨hv8, h1, _, hz⟩ := inv_facts a ha
  rw [hv] at hv8 h1 hz
  replace hv := Kp.mk hv
  replace h1 := Kp.mk h1
  go_enter Try.func13, Try.ntmps13
  go_wp2_with fail
  go_step3
  go_wp2_with fail
  go_step3
  go_wp2_with fail
  go_loopw [3, 4] (fun oo xx wr => ∃ x : Nat, oo = .int .i64 0 ∧ xx = .int .i64 x ∧ (1 ≤ x ∧ x ≤ 256) ∧ Kp (a = 0 ∨ x ≤ v) ∧ Below w.heap.size w wr) (fun _ xx _ => 300 - (intOf xx).toNat)
  case atStart => exact ⟨1, rfl, rfl, by omega, ⟨by
    rcases Nat.eq_zero_or_pos a with h | h
    · exact .inl h
    · right
      have h2 := h1.out (by omega)
      rcases Nat.eq_zero_or_pos v with h3 | h3
      · rw [h3] at h2
        have : T a 0 = 0 := mulN_zero 8 a
        rw [this] at h2; cases h2
      · exact h3⟩, Below.refl _ _⟩
  case round =>
    obtain ⟨x, rfl, rfl, ⟨hx1, hx2⟩, hk, hbel⟩ := hrel
    by_cases h0 : a = 0
    · obtain rfl : v = 0 := hz h0
      subst h0
      by_cases hx : x < 256
      · have hx' : (x : Int) < 256 := by omega
        go_wp2_with fail
        (try rw [Exit.noGoto_ret])
        exact bodyPost_ret (v := .int .u8 0) (by simp [results, Try.results13, go_sem]) rfl ⟨rfl, hbel⟩
      · have hx' : ¬ (x : Int) < 256 := by omega
        go_wp2_with fail
        (try rw [Exit.noGoto_ret])
        exact bodyPost_ret (v := .int .u8 0) (by simp [results, Try.results13, go_sem]) rfl ⟨rfl, hbel⟩
    · have hxv : x ≤ v := by rcases hk.out with h | h; exact absurd h h0; exact h
      have hx' : (x : Int) < 256 := by omega
      have h0' : ((a : Int) == 0) = false := by simp; omega
      have hx0 : (x : Int) ≤ 255 := by omega
      obtain ⟨z, hzz⟩ : ∃ z, T a x = z := ⟨_, rfl⟩
      have hiff : z = 1 ↔ x = v := by
        constructor
        · intro h; rw [← hv.out]; exact inv_unique ha (by omega) (by rw [hzz]; exact h)
        · intro h; rw [← hzz, h]; exact h1.out h0
      replace hzz := Kp.mk hzz
      by_cases hxe : x = v
      · obtain rfl : z = 1 := hiff.2 hxe
        subst hxe
        clear hiff
        go_wp2_with fail
        refine (Times_to a x _ 1 hzz.out ha (by omega)).mono ?_
        rintro _ w2 ⟨rfl, hb2⟩
        go_wp2_with fail
        (try rw [Exit.noGoto_ret])
        exact bodyPost_ret (v := .int .u8 x) (by simp [results, Try.results13, go_sem]) rfl ⟨rfl, hbel.trans (hb2.mono hbel.size)⟩
      · have hz1 : ((z : Int) == 1) = false := by simp; omega
        clear hiff
        go_wp2_with fail
        refine (Times_to a x _ z hzz.out ha (by omega)).mono ?_
        rintro _ w2 ⟨rfl, hb2⟩
        have hb3 := hbel.trans (hb2.mono hbel.size)
        go_wp2_with fail
        go_roundw
        case rel => exact ⟨x + 1, rfl, congrArg (Value.int .i64) (by omega), ⟨by omega, by omega⟩, ⟨.inr (by omega)⟩, hb3⟩
        case measure => simp [intOf] <;> omega

set_option maxRecDepth 100000 in
set_option maxHeartbeats 1000000 in
theorem Swap_to (a : Nat) (w : World) (v : Nat) (hv : swapN a = v) (ha : a < 256) : Calls Try.prog 15 #[.int .u8 a] w fun e w' => e = .returned (.int .u8 v) ∧ Below w.heap.size w w' := by
  rw [swapN_sx] at hv
  obtain ⟨hi8, _⟩ := inv_facts a ha
  obtain ⟨y0, hy0⟩ : ∃ y, inv a = y := ⟨_, rfl⟩
  rw [hy0] at hv hi8
  replace hv := Kp.mk hv
  replace hy0 := Kp.mk hy0
  have hx0 : bits .xor .u8 (y0 : Int) 99 = ((y0 ^^^ 99 : Nat) : Int) := xor_u8 hi8 (by decide : 99 < 256)
  go_enter Try.func15, Try.ntmps15
  go_wp2_with fail
  refine (Other_to a _ y0 hy0.out ha).mono ?_
  rintro _ w1 ⟨rfl, hb1⟩
  go_wp2_with fail
  go_loopw [3, 4, 9] (fun yy xx ii wr => ∃ i : Nat, yy = .int .u8 (sy y0 i : Nat) ∧ xx = .int .u8 (sx y0 i : Nat) ∧ ii = .int .i64 i ∧ i ≤ 4 ∧ Below w.heap.size w wr) (fun _ _ ii _ => 10 - (intOf ii).toNat)
  case atStart => exact ⟨0, rfl, by first | rfl | (rw [hx0]; rfl), rfl, by omega, hb1⟩
  case round =>
    obtain ⟨i, rfl, rfl, rfl, hi, hbel⟩ := hrel
    by_cases hi4 : i < 4
    · have hi' : (i : Int) < 4 := by omega
      obtain ⟨y, hy⟩ : ∃ y, sy y0 i = y := ⟨_, rfl⟩
      obtain ⟨x, hx⟩ : ∃ x, sx y0 i = x := ⟨_, rfl⟩
      have hy8 : y < 256 := hy ▸ sy_lt hi8 i
      have hx8 : x < 256 := hx ▸ sx_lt hi8 i
      have e1 : sy y0 (i + 1) = rotl y := by rw [← hy]; rfl
      have e2 : sx y0 (i + 1) = x ^^^ rotl y := by rw [← hx, ← hy]; rfl
      have e3 := rotl_u8 hy8
      have e4 := xor_u8 hx8 (rotl_lt hy8)
      rw [hy, hx]
      replace e1 := Kp.mk e1
      replace e2 := Kp.mk e2
      clear hy hx
      go_wp2_with fail
      go_roundw
      case rel => exact ⟨i + 1, by rw [e1.out], by rw [e2.out], congrArg (Value.int .i64) (by omega), by omega, hbel⟩
      case measure => simp [intOf] <;> omega
    · obtain rfl : i = 4 := by omega
      rw [hv.out]
      go_wp2_with fail
      exact bodyPost_ret (v := .int .u8 v) (by simp [results, Try.results15, go_sem]) rfl ⟨rfl, hbel⟩
end Go.Proofs.Ytfkdeekobiknjaa
