/- The walks of Times, Other, Swap (layer 4): every byte. -/
import Derived.Test.YtgdphdnghackfaaM
import Derived.Laws.Bits64
import Derived.Test.YtgdphdnghackfaaChecked
import Derived.WalkLawsBesides
import Derived.WalkSpells
import Derived.Outline
namespace Go.Proofs.Ytgdphdnghackfaa
open Go.RowKit

theorem wrap_u8 (n : Int) : IntKind.u8.wrap n = n % 256 := by simp [IntKind.wrap, IntKind.bits, IntKind.signed]
theorem toNat_u8 {a : Nat} (ha : a < 256) : (BitVec.ofInt 8 (a : Int)).toNat = a := by
  rw [BitVec.ofInt_natCast, BitVec.toNat_ofNat]; exact Nat.mod_eq_of_lt (by omega)
theorem xor_u8 {a b : Nat} (ha : a < 256) (hb : b < 256) : bits .xor .u8 (a : Int) (b : Int) = ((a ^^^ b : Nat) : Int) := by
  have hx := xor_lt ha hb
  show IntKind.u8.wrap ((BitVec.ofInt 8 (a : Int) ^^^ BitVec.ofInt 8 (b : Int)).toNat : Int) = _
  rw [BitVec.toNat_xor, toNat_u8 ha, toNat_u8 hb, wrap_u8]
  omega
theorem or_lt {a b : Nat} (ha : a < 256) (hb : b < 256) : a ||| b < 256 := Nat.or_lt_two_pow (n := 8) ha hb
theorem or_u8 {a b : Nat} (ha : a < 256) (hb : b < 256) : bits .or .u8 (a : Int) (b : Int) = ((a ||| b : Nat) : Int) := by
  have hx := or_lt ha hb
  show IntKind.u8.wrap ((BitVec.ofInt 8 (a : Int) ||| BitVec.ofInt 8 (b : Int)).toNat : Int) = _
  rw [BitVec.toNat_or, toNat_u8 ha, toNat_u8 hb, wrap_u8]
  omega
theorem and1_u8 {a : Nat} (ha : a < 256) : bits .and .u8 (a : Int) 1 = ((a % 2 : Nat) : Int) := by
  show IntKind.u8.wrap ((BitVec.ofInt 8 (a : Int) &&& BitVec.ofInt 8 ((1 : Nat) : Int)).toNat : Int) = _
  rw [BitVec.toNat_and, toNat_u8 ha, toNat_u8 (by decide), wrap_u8, Nat.and_one_is_mod]
  omega

theorem xt_u8 {A : Nat} (hA : A < 256) : bits .xor .u8 ((A : Int) * 2 % 256) ((A : Int) / 128 * 27) = ((xt A : Nat) : Int) := by
  have e1 : (A : Int) * 2 % 256 = ((2 * A % 256 : Nat) : Int) := by omega
  have e2 : (A : Int) / 128 * 27 = ((A / 128 * 27 : Nat) : Int) := by omega
  rw [e1, e2, xor_u8 (by omega) (by omega)]; rfl
theorem rotl_lt {y : Nat} (h : y < 256) : rotl y < 256 := or_lt (Nat.mod_lt _ (by decide)) (by omega)
theorem rotl_u8 {A : Nat} (hA : A < 256) : bits .or .u8 ((A : Int) * 2 % 256) ((A : Int) / 128) = ((rotl A : Nat) : Int) := by
  have e1 : (A : Int) * 2 % 256 = ((2 * A % 256 : Nat) : Int) := by omega
  have e2 : (A : Int) / 128 = ((A / 128 : Nat) : Int) := by omega
  rw [e1, e2, or_u8 (by omega) (by omega)]; rfl
/-- A byte turned, and what comes together of it, turn by turn. -/
def sy (b : Nat) : Nat → Nat
  | 0 => b
  | i + 1 => rotl (sy b i)
def sx (b : Nat) : Nat → Nat
  | 0 => b ^^^ 99
  | i + 1 => sx b i ^^^ sy b (i + 1)
theorem sy_lt {b : Nat} (h : b < 256) (i : Nat) : sy b i < 256 := by
  induction i with
  | zero => exact h
  | succ i ih => exact rotl_lt ih
theorem sx_lt {b : Nat} (h : b < 256) (i : Nat) : sx b i < 256 := by
  induction i with
  | zero => exact xor_lt h (by decide)
  | succ i ih => exact xor_lt ih (sy_lt h _)
theorem swapN_sx (a : Nat) : swapN a = sx (inv a) 4 := rfl
theorem mulN_zero (n a : Nat) : mulN n a 0 = 0 := by
  induction n generalizing a with
  | zero => rfl
  | succ n ih => simp [mulN, ih]
set_option maxRecDepth 100000 in
set_option maxHeartbeats 1000000 in
theorem Times_to (a b : Nat) (w : World) (v : Nat) (hv : T a b = v) (ha : a < 256) (hb : b < 256) :
    Calls Try.prog 40 #[.int .u8 a, .int .u8 b] w fun e w' => e = .returned (.int .u8 v) ∧ Below w.heap.size w w' := by
  go_enter Try.func40, Try.ntmps40
  go_wp2_with fail
  go_loopw [0, 1, 5] (fun aa bb xx wr => ∃ A B X i : Nat, aa = .int .u8 A ∧ bb = .int .u8 B ∧ xx = .int .u8 X ∧ (A < 256 ∧ B < 256 ∧ X < 256) ∧ Kp (i ≤ 8 ∧ B < 2 ^ i) ∧ Kp (X ^^^ mulN i A B = v) ∧ Below w.heap.size w wr) (fun _ bb _ _ => (intOf bb).toNat)
  case atStart => exact ⟨a, b, 0, 8, rfl, rfl, rfl, ⟨ha, hb, by decide⟩, ⟨by omega, hb⟩, ⟨by rw [Nat.zero_xor]; exact hv⟩, Below.refl _ _⟩
  case round =>
    obtain ⟨A, B, X, i, rfl, rfl, rfl, ⟨hA, hB, hX⟩, hi, hm, hbel⟩ := hrel
    have i1 := and1_u8 hB
    rcases Nat.eq_zero_or_pos B with h0 | h0
    · subst h0
      have e : X = v := by have h := hm.out; rw [mulN_zero, Nat.xor_zero] at h; exact h
      go_wp2_with fail
      exact bodyPost_ret (v := .int .u8 X) (by simp [results, Try.results40, go_sem]) rfl ⟨by rw [e], hbel⟩
    · have h0' : (0 : Int) < B := by omega
      rcases Nat.mod_two_eq_zero_or_one B with hb2 | hb2
      · rw [hb2] at i1
        go_wp2_with fail
        obtain ⟨j, rfl⟩ : ∃ j, i = j + 1 := ⟨i - 1, by have h := hi.out.2; rcases i with _ | i; (simp at h; omega); rfl⟩
        have hp := hi.out.2
        rw [Nat.pow_succ] at hp
        refine ⟨⟨xt A, B / 2, X, j, by rw [xt_u8 hA], congrArg (Value.int .u8) (by omega), rfl, ⟨xt_lt hA, by omega, hX⟩, ⟨by have := hi.out.1; omega, by omega⟩, ⟨?_⟩, hbel⟩, by simp [intOf]; omega⟩
        have h := hm.out
        rw [mulN, hb2, if_neg (by decide), Nat.zero_xor] at h; exact h
      · rw [hb2] at i1
        have i2 := xor_u8 hX hA
        go_wp2_with fail
        obtain ⟨j, rfl⟩ : ∃ j, i = j + 1 := ⟨i - 1, by have h := hi.out.2; rcases i with _ | i; (simp at h; omega); rfl⟩
        have hp := hi.out.2
        rw [Nat.pow_succ] at hp
        refine ⟨⟨xt A, B / 2, X ^^^ A, j, by rw [xt_u8 hA], congrArg (Value.int .u8) (by omega), rfl, ⟨xt_lt hA, by omega, xor_lt hX hA⟩, ⟨by have := hi.out.1; omega, by omega⟩, ⟨?_⟩, hbel⟩, by simp [intOf]; omega⟩
        have h := hm.out
        rw [mulN, hb2, if_pos rfl, ← Nat.xor_assoc] at h; exact h

end Go.Proofs.Ytgdphdnghackfaa
