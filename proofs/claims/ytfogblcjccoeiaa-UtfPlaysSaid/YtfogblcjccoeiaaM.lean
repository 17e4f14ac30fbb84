/- Plain words of layer 10: the form of a number, a decoder and its step. No program. -/
import Derived.Test.YtfogblcjccoeiaaC
namespace Go.Proofs.Ytfogblcjccoeiaa

structure Kp (p : Prop) : Prop where
  out : p

/-- Is a number a code point? -/
def isPt (c : Int) : Prop := 0 ≤ c ∧ c ≤ 1114111 ∧ ¬ (55296 ≤ c ∧ c ≤ 57343)
instance (c : Int) : Decidable (isPt c) := by unfold isPt; infer_instance
/-- A number's form. -/
def formL (c : Int) : List Int :=
  if isPt c then
    if c < 128 then [c] else if c < 2048 then [192 + c / 64, 128 + c % 64] else if c < 65536 then [224 + c / 4096, 128 + c / 64 % 64, 128 + c % 64]
    else [240 + c / 262144, 128 + c / 4096 % 64, 128 + c / 64 % 64, 128 + c % 64]
  else [239, 191, 189]

theorem formL_none {c : Int} (h : ¬ isPt c) : formL c = [239, 191, 189] := if_neg h
theorem formL_1 {c : Int} (h : isPt c) (h1 : c < 128) : formL c = [c] := by unfold formL; rw [if_pos h, if_pos h1]
theorem formL_2 {c : Int} (h : isPt c) (h0 : 128 ≤ c) (h1 : c < 2048) : formL c = [192 + c / 64, 128 + c % 64] := by
  unfold formL; rw [if_pos h, if_neg (by omega), if_pos h1]
theorem formL_3 {c : Int} (h : isPt c) (h0 : 2048 ≤ c) (h1 : c < 65536) : formL c = [224 + c / 4096, 128 + c / 64 % 64, 128 + c % 64] := by
  unfold formL; rw [if_pos h, if_neg (by omega), if_neg (by omega), if_pos h1]
theorem formL_4 {c : Int} (h : isPt c) (h0 : 65536 ≤ c) : formL c = [240 + c / 262144, 128 + c / 4096 % 64, 128 + c / 64 % 64, 128 + c % 64] := by
  unfold formL; rw [if_pos h, if_neg (by omega), if_neg (by omega), if_neg (by omega)]
theorem isPt_bad : isPt 65533 := by decide
theorem formL_bad : formL 65533 = [239, 191, 189] := by decide

/-- A decoder. -/
structure D where
  code : Nat
  had : Nat
  want : Nat
  low : Nat
  high : Nat
deriving DecidableEq
def D.zero : D := ⟨0, 0, 0, 0, 0⟩
def D.cells (d : D) : Array Value := #[.int .i32 d.code, .int .i64 d.had, .int .i64 d.want, .int .u8 d.low, .int .u8 d.high]
/-- What the first byte of a form makes of it; zero: it begins none. -/
def beginD (x : Nat) : D :=
  if x < 128 then ⟨x, 1, 1, 128, 191⟩
  else if 194 ≤ x ∧ x ≤ 223 then ⟨x % 32, 1, 2, 128, 191⟩
  else if 224 ≤ x ∧ x ≤ 239 then ⟨x % 16, 1, 3, if x = 224 then 160 else 128, if x = 237 then 159 else 191⟩
  else if 240 ≤ x ∧ x ≤ 244 then ⟨x % 8, 1, 4, if x = 240 then 144 else 128, if x = 244 then 143 else 191⟩
  else D.zero
def fitB (x : Nat) : Bool := decide (x < 128 ∨ (194 ≤ x ∧ x ≤ 244))
/-- A whole one is told. -/
def wholeD (d : D) : D × List Int := if 0 < d.had ∧ d.had = d.want then (D.zero, [(d.code : Int)]) else (d, [])
/-- A first byte. -/
def firstD (x : Nat) : D × List Int := ((wholeD (beginD x)).1, (if fitB x then [] else [65533]) ++ (wholeD (beginD x)).2)
def stepD (d : D) (x : Nat) : D × List Int :=
  if d.had = 0 then firstD x
  else if d.low ≤ x ∧ x ≤ d.high then wholeD ⟨d.code * 64 + x % 64, d.had + 1, d.want, 128, 191⟩
  else ((firstD x).1, 65533 :: (firstD x).2)
def runD (d : D) : List Nat → D × List Int
  | [] => (d, [])
  | x :: l => ((runD (stepD d x).1 l).1, (stepD d x).2 ++ (runD (stepD d x).1 l).2)
/-- What is left, told. -/
def endL (d : D) : List Int := if d.had = 0 then [] else [65533]
def decodeL (l : List Nat) : List Int := (runD D.zero l).2 ++ endL (runD D.zero l).1

structure D.Ok (d : D) : Prop where
  h : d = D.zero ∨ (1 ≤ d.had ∧ d.had < d.want ∧ d.want ≤ 4 ∧ d.code < 2 * 64 ^ d.had ∧ d.low < 256 ∧ d.high < 256)

theorem runD_append (d : D) (l m : List Nat) : runD d (l ++ m) = ((runD (runD d l).1 m).1, (runD d l).2 ++ (runD (runD d l).1 m).2) := by
  induction l generalizing d with
  | nil => rfl
  | cons x l ih => simp only [List.cons_append, runD, ih, List.append_assoc]
theorem runD_snoc (d : D) (l : List Nat) (x : Nat) : runD d (l ++ [x]) = ((stepD (runD d l).1 x).1, (runD d l).2 ++ (stepD (runD d l).1 x).2) := by
  rw [runD_append]; simp [runD]
theorem beginD_none {x : Nat} (h : fitB x = false) : beginD x = D.zero := by
  unfold fitB at h; unfold beginD
  have h := of_decide_eq_false h
  rw [if_neg (by omega), if_neg (by omega), if_neg (by omega), if_neg (by omega)]
theorem beginD_had {x : Nat} (h : fitB x = true) : (beginD x).had = 1 := by
  unfold fitB at h; unfold beginD
  have h := of_decide_eq_true h
  split
  · rfl
  split
  · rfl
  split
  · rfl
  split
  · rfl
  · omega
theorem wholeD_ok {d : D} (h : d = D.zero ∨ (1 ≤ d.had ∧ d.had ≤ d.want ∧ d.want ≤ 4 ∧ d.code < 2 * 64 ^ d.had ∧ d.low < 256 ∧ d.high < 256)) : (wholeD d).1.Ok := by
  unfold wholeD
  split
  · exact ⟨.inl rfl⟩
  · rename_i hn
    rcases h with h | h
    · exact ⟨.inl h⟩
    · exact ⟨.inr (by refine ⟨h.1, ?_, h.2.2⟩; show d.had < d.want; omega)⟩
theorem beginD_ok (x : Nat) : beginD x = D.zero ∨ (1 ≤ (beginD x).had ∧ (beginD x).had ≤ (beginD x).want ∧ (beginD x).want ≤ 4 ∧ (beginD x).code < 2 * 64 ^ (beginD x).had ∧ (beginD x).low < 256 ∧ (beginD x).high < 256) := by
  unfold beginD
  split
  · right; simp; omega
  split
  · right; simp; omega
  split
  · right; simp; refine ⟨by omega, ?_, ?_⟩ <;> split <;> omega
  split
  · right; simp; refine ⟨by omega, ?_, ?_⟩ <;> split <;> omega
  · exact .inl rfl
theorem firstD_ok (x : Nat) : (firstD x).1.Ok := wholeD_ok (beginD_ok x)
theorem stepD_ok {d : D} (h : d.Ok) (x : Nat) : (stepD d x).1.Ok := by
  unfold stepD
  split
  · exact firstD_ok x
  split
  · rename_i h0 hr
    rcases h.h with rfl | ⟨h1, h2, h3, h4, h5, h6⟩
    · exact absurd rfl h0
    · refine wholeD_ok (.inr ⟨by simp, by simp; omega, h3, ?_, by simp, by simp⟩)
      show d.code * 64 + x % 64 < 2 * 64 ^ (d.had + 1)
      rw [Nat.pow_succ]; omega
  · exact firstD_ok x
theorem runD_ok {d : D} (h : d.Ok) (l : List Nat) : (runD d l).1.Ok := by
  induction l generalizing d with
  | nil => exact h
  | cons x l ih => exact ih (stepD_ok h x)
theorem zero_ok : D.zero.Ok := ⟨.inl rfl⟩
theorem wholeD_len (d : D) : (wholeD d).2.length ≤ 1 := by unfold wholeD; split <;> simp
theorem wholeD_zero : wholeD D.zero = (D.zero, []) := rfl
theorem firstD_len (x : Nat) : (firstD x).2.length ≤ 1 := by
  unfold firstD
  cases h : fitB x with
  | true => simpa using wholeD_len _
  | false => rw [beginD_none h, wholeD_zero]; simp
theorem stepD_len (d : D) (x : Nat) : (stepD d x).2.length ≤ 2 := by
  unfold stepD
  split
  · have := firstD_len x; omega
  split
  · have := wholeD_len ⟨d.code * 64 + x % 64, d.had + 1, d.want, 128, 191⟩; omega
  · have := firstD_len x; simp; omega
theorem runD_len (d : D) (l : List Nat) : (runD d l).2.length ≤ 2 * l.length := by
  induction l generalizing d with
  | nil => simp [runD]
  | cons x l ih => simp only [runD, List.length_append, List.length_cons]; have := ih (stepD d x).1; have := stepD_len d x; omega
theorem D.Ok.code {d : D} (h : d.Ok) : d.code < 2 * 64 ^ 3 := by
  rcases h.h with rfl | ⟨h1, h2, h3, h4, _⟩
  · decide
  · exact Nat.lt_of_lt_of_le h4 (Nat.mul_le_mul_left 2 (Nat.pow_le_pow_right (by omega) (by omega)))
theorem D.Ok.byte {d : D} (h : d.Ok) : d.low < 256 ∧ d.high < 256 := by
  rcases h.h with rfl | ⟨_, _, _, _, h5, h6⟩
  · decide
  · exact ⟨h5, h6⟩
theorem D.Ok.had {d : D} (h : d.Ok) : d.had < 4 ∧ d.want ≤ 4 := by
  rcases h.h with rfl | ⟨_, _, _, _, h5, h6⟩
  · decide
  · omega
end Go.Proofs.Ytfogblcjccoeiaa
