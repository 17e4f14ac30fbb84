/- Plain laws of layer 10: forms are told back; what is told is a code point; the document's reading is the run. No program. -/
import Derived.Test.YtfogblcjccoeiaaM
namespace Go.Proofs.Ytfogblcjccoeiaa
/-- The form of a number, and what counts. -/
def normI (c : Int) : Int := if isPt c then c else 65533
def formN (c : Nat) : List Nat :=
  if c < 128 then [c] else if c < 2048 then [192 + c / 64, 128 + c % 64] else if c < 65536 then [224 + c / 4096, 128 + c / 64 % 64, 128 + c % 64]
    else [240 + c / 262144, 128 + c / 4096 % 64, 128 + c / 64 % 64, 128 + c % 64]
theorem normI_pt (c : Int) : isPt (normI c) := by unfold normI; split; assumption; exact isPt_bad
theorem formL_norm (c : Int) : formL c = formL (normI c) := by
  unfold normI
  split
  · rfl
  · rename_i h; rw [formL_bad, formL_none h]
theorem formL_nat {n : Nat} (h : isPt (n : Int)) : formL (n : Int) = (formN n).map Int.ofNat := by
  unfold formN
  by_cases h1 : n < 128
  · rw [formL_1 h (by omega), if_pos h1]; rfl
  by_cases h2 : n < 2048
  · rw [formL_2 h (by omega) (by omega), if_neg h1, if_pos h2]; simp
  by_cases h3 : n < 65536
  · rw [formL_3 h (by omega) (by omega), if_neg h1, if_neg h2, if_pos h3]; simp
  · rw [formL_4 h (by omega), if_neg h1, if_neg h2, if_neg h3]; simp
theorem formN_byte (n : Nat) (h : n ≤ 1114111) : ∀ x ∈ formN n, x < 256 := by
  intro x hx
  unfold formN at hx
  split at hx
  · simp at hx; omega
  split at hx
  · simp at hx; omega
  split at hx
  · simp at hx; omega
  · simp at hx; omega
theorem formN_len (n : Nat) : 1 ≤ (formN n).length ∧ (formN n).length ≤ 4 := by
  unfold formN
  split
  · simp
  split
  · simp
  split <;> simp

/-! A form is told when it is whole. -/
theorem whole_not {d : D} (h : d.had ≠ d.want) : wholeD d = (d, []) := if_neg (by omega)
theorem whole_is {d : D} (h : d.had = d.want) (h0 : 0 < d.had) : wholeD d = (D.zero, [(d.code : Int)]) := if_pos ⟨h0, h⟩
theorem step_zero_fit {x : Nat} (h : fitB x = true) : stepD D.zero x = wholeD (beginD x) := by
  show firstD x = _
  unfold firstD; simp [h]
theorem step_in' {d : D} {x : Nat} (h0 : d.had ≠ 0) (hr : d.low ≤ x ∧ x ≤ d.high) : stepD d x = wholeD ⟨d.code * 64 + x % 64, d.had + 1, d.want, 128, 191⟩ := by
  unfold stepD; rw [if_neg h0, if_pos hr]
theorem fit_of {x : Nat} (h : x < 128 ∨ (194 ≤ x ∧ x ≤ 244)) : fitB x = true := decide_eq_true h
theorem begin2 {x : Nat} (h : 194 ≤ x ∧ x ≤ 223) : beginD x = ⟨x % 32, 1, 2, 128, 191⟩ := by
  unfold beginD; rw [if_neg (by omega), if_pos h]
theorem begin3 {x : Nat} (h : 224 ≤ x ∧ x ≤ 239) : beginD x = ⟨x % 16, 1, 3, if x = 224 then 160 else 128, if x = 237 then 159 else 191⟩ := by
  unfold beginD; rw [if_neg (by omega), if_neg (by omega), if_pos h]
theorem begin4 {x : Nat} (h : 240 ≤ x ∧ x ≤ 244) : beginD x = ⟨x % 8, 1, 4, if x = 240 then 144 else 128, if x = 244 then 143 else 191⟩ := by
  unfold beginD; rw [if_neg (by omega), if_neg (by omega), if_neg (by omega), if_pos h]
/-- Two, three, four bytes that fit. -/
theorem run1 {x : Nat} (h : x < 128) : stepD D.zero x = (D.zero, [(x : Int)]) := by
  rw [step_zero_fit (fit_of (.inl h))]; unfold beginD; rw [if_pos h]; rfl
theorem run2a {x : Nat} (h : 194 ≤ x ∧ x ≤ 223) : stepD D.zero x = (⟨x % 32, 1, 2, 128, 191⟩, []) := by
  rw [step_zero_fit (fit_of (by omega)), begin2 h]; rfl
theorem run2b {c x : Nat} (h : 128 ≤ x ∧ x ≤ 191) : stepD ⟨c, 1, 2, 128, 191⟩ x = (D.zero, [((c * 64 + x % 64 : Nat) : Int)]) := by
  rw [step_in' (by simp) (by simpa using h)]; rfl
theorem run3a {x : Nat} (h : 224 ≤ x ∧ x ≤ 239) : stepD D.zero x = (⟨x % 16, 1, 3, if x = 224 then 160 else 128, if x = 237 then 159 else 191⟩, []) := by
  rw [step_zero_fit (fit_of (by omega)), begin3 h]; rfl
theorem run3b {c x l h : Nat} (hr : l ≤ x ∧ x ≤ h) : stepD ⟨c, 1, 3, l, h⟩ x = (⟨c * 64 + x % 64, 2, 3, 128, 191⟩, []) := by
  rw [step_in' (by simp) (by simpa using hr)]; rfl
theorem run3c {c x : Nat} (h : 128 ≤ x ∧ x ≤ 191) : stepD ⟨c, 2, 3, 128, 191⟩ x = (D.zero, [((c * 64 + x % 64 : Nat) : Int)]) := by
  rw [step_in' (by simp) (by simpa using h)]; rfl
theorem run4a {x : Nat} (h : 240 ≤ x ∧ x ≤ 244) : stepD D.zero x = (⟨x % 8, 1, 4, if x = 240 then 144 else 128, if x = 244 then 143 else 191⟩, []) := by
  rw [step_zero_fit (fit_of (by omega)), begin4 h]; rfl
theorem run4b {c x l h : Nat} (hr : l ≤ x ∧ x ≤ h) : stepD ⟨c, 1, 4, l, h⟩ x = (⟨c * 64 + x % 64, 2, 4, 128, 191⟩, []) := by
  rw [step_in' (by simp) (by simpa using hr)]; rfl
theorem run4c {c x : Nat} (h : 128 ≤ x ∧ x ≤ 191) : stepD ⟨c, 2, 4, 128, 191⟩ x = (⟨c * 64 + x % 64, 3, 4, 128, 191⟩, []) := by
  rw [step_in' (by simp) (by simpa using h)]; rfl
theorem run4d {c x : Nat} (h : 128 ≤ x ∧ x ≤ 191) : stepD ⟨c, 3, 4, 128, 191⟩ x = (D.zero, [((c * 64 + x % 64 : Nat) : Int)]) := by
  rw [step_in' (by simp) (by simpa using h)]; rfl
theorem run_form {n : Nat} (h : isPt (n : Int)) : runD D.zero (formN n) = (D.zero, [(n : Int)]) ∧ ∀ k, k + 1 < (formN n).length → (runD D.zero ((formN n).take (k + 1))).2 = [] ∧ (runD D.zero ((formN n).take (k + 1))).1.had = k + 1 := by
  obtain ⟨_, p1, p2⟩ := h
  unfold formN
  by_cases h1 : n < 128
  · rw [if_pos h1]
    refine ⟨?_, fun k hk => by simp at hk⟩
    simp [runD, run1 h1]
  by_cases h2 : n < 2048
  · rw [if_neg h1, if_pos h2]
    have e1 := run2a (x := 192 + n / 64) (by omega)
    have e2 := run2b (c := (192 + n / 64) % 32) (x := 128 + n % 64) (by omega)
    refine ⟨?_, fun k hk => ?_⟩
    · simp only [runD, e1, e2, List.nil_append, List.append_nil]; congr 3; omega
    · simp at hk; obtain rfl : k = 0 := by omega
      simp [runD, e1]
  by_cases h3 : n < 65536
  · rw [if_neg h1, if_neg h2, if_pos h3]
    have e1 := run3a (x := 224 + n / 4096) (by omega)
    have e2 := run3b (c := (224 + n / 4096) % 16) (x := 128 + n / 64 % 64) (l := if 224 + n / 4096 = 224 then 160 else 128) (h := if 224 + n / 4096 = 237 then 159 else 191) (by split <;> split <;> omega)
    have e3 := run3c (c := (224 + n / 4096) % 16 * 64 + (128 + n / 64 % 64) % 64) (x := 128 + n % 64) (by omega)
    refine ⟨?_, fun k hk => ?_⟩
    · simp only [runD, e1, e2, e3, List.nil_append, List.append_nil]; congr 3; omega
    · simp at hk
      rcases (show k = 0 ∨ k = 1 by omega) with rfl | rfl
      · simp only [List.take, runD, e1]; simp
      · simp only [List.take, runD, e1, e2]; simp
  · rw [if_neg h1, if_neg h2, if_neg h3]
    have e1 := run4a (x := 240 + n / 262144) (by omega)
    have e2 := run4b (c := (240 + n / 262144) % 8) (x := 128 + n / 4096 % 64) (l := if 240 + n / 262144 = 240 then 144 else 128) (h := if 240 + n / 262144 = 244 then 143 else 191) (by split <;> split <;> omega)
    have e3 := run4c (c := (240 + n / 262144) % 8 * 64 + (128 + n / 4096 % 64) % 64) (x := 128 + n / 64 % 64) (by omega)
    have e4 := run4d (c := ((240 + n / 262144) % 8 * 64 + (128 + n / 4096 % 64) % 64) * 64 + (128 + n / 64 % 64) % 64) (x := 128 + n % 64) (by omega)
    refine ⟨?_, fun k hk => ?_⟩
    · simp only [runD, e1, e2, e3, e4, List.nil_append, List.append_nil]; congr 3; omega
    · simp at hk
      rcases (show k = 0 ∨ k = 1 ∨ k = 2 by omega) with rfl | rfl | rfl
      · simp only [List.take, runD, e1]; simp
      · simp only [List.take, runD, e1, e2]; simp
      · simp only [List.take, runD, e1, e2, e3]; simp
/-- The forms of numbers, one behind the other. -/
def formsN : List Nat → List Nat
  | [] => []
  | n :: l => formN n ++ formsN l
theorem run_forms (l : List Nat) (h : ∀ n ∈ l, isPt (n : Int)) : runD D.zero (formsN l) = (D.zero, l.map Int.ofNat) := by
  induction l with
  | nil => rfl
  | cons n l ih =>
    have e1 := (run_form (h n (by simp))).1
    have e2 := ih (fun m hm => h m (by simp [hm]))
    rw [formsN, runD_append, e1]
    simp [e2]
theorem decode_forms (l : List Nat) (h : ∀ n ∈ l, isPt (n : Int)) : decodeL (formsN l) = l.map Int.ofNat := by
  unfold decodeL; rw [run_forms l h]; simp [endL, D.zero]

/-! What is told is a code point. -/
def D.Good (d : D) : Prop :=
  d = D.zero ∨ (d.want = 2 ∧ d.had = 1 ∧ 2 ≤ d.code ∧ d.code < 32 ∧ d.low = 128 ∧ d.high = 191) ∨
  (d.want = 3 ∧ d.had = 1 ∧ d.code < 16 ∧ 128 ≤ d.low ∧ d.high ≤ 191 ∧ (d.code = 0 → d.low = 160) ∧ (d.code = 13 → d.high = 159)) ∨
  (d.want = 3 ∧ d.had = 2 ∧ 32 ≤ d.code ∧ d.code < 1024 ∧ ¬ (864 ≤ d.code ∧ d.code ≤ 895) ∧ d.low = 128 ∧ d.high = 191) ∨
  (d.want = 4 ∧ d.had = 1 ∧ d.code < 5 ∧ 128 ≤ d.low ∧ d.high ≤ 191 ∧ (d.code = 0 → d.low = 144) ∧ (d.code = 4 → d.high = 143)) ∨
  (d.want = 4 ∧ d.had = 2 ∧ 16 ≤ d.code ∧ d.code < 272 ∧ d.low = 128 ∧ d.high = 191) ∨
  (d.want = 4 ∧ d.had = 3 ∧ 1024 ≤ d.code ∧ d.code < 17408 ∧ d.low = 128 ∧ d.high = 191)
theorem first_good (x : Nat) : (firstD x).1.Good ∧ ∀ c ∈ (firstD x).2, isPt c := by
  by_cases h : fitB x = true
  · have e : firstD x = wholeD (beginD x) := step_zero_fit h
    have h' := of_decide_eq_true (p := x < 128 ∨ (194 ≤ x ∧ x ≤ 244)) h
    rw [e]
    by_cases h1 : x < 128
    · have := run1 h1
      rw [step_zero_fit h] at this; rw [this]
      refine ⟨.inl rfl, fun c hc => ?_⟩
      simp at hc; subst hc; unfold isPt; omega
    by_cases h2 : x ≤ 223
    · have := run2a (x := x) (by omega)
      rw [step_zero_fit h] at this; rw [this]
      refine ⟨.inr (.inl ?_), fun c hc => by simp at hc⟩
      simp; omega
    by_cases h3 : x ≤ 239
    · have := run3a (x := x) (by omega)
      rw [step_zero_fit h] at this; rw [this]
      refine ⟨.inr (.inr (.inl ?_)), fun c hc => by simp at hc⟩
      simp
      refine ⟨by omega, ?_, ?_, ?_, ?_⟩
      · split <;> omega
      · split <;> omega
      · intro; omega
      · intro; omega
    · have := run4a (x := x) (by omega)
      rw [step_zero_fit h] at this; rw [this]
      refine ⟨.inr (.inr (.inr (.inr (.inl ?_)))), fun c hc => by simp at hc⟩
      simp
      refine ⟨by omega, ?_, ?_, ?_, ?_⟩
      · split <;> omega
      · split <;> omega
      · intro; omega
      · intro; omega
  · have h : fitB x = false := by simpa using h
    unfold firstD
    rw [beginD_none h, wholeD_zero, h]
    refine ⟨.inl rfl, fun c hc => ?_⟩
    simp at hc; subst hc; exact isPt_bad
theorem step_good {d : D} (hd : d.Good) (x : Nat) : (stepD d x).1.Good ∧ ∀ c ∈ (stepD d x).2, isPt c := by
  have hf := first_good x
  by_cases h0 : d.had = 0
  · rw [show stepD d x = firstD x from if_pos h0]; exact hf
  by_cases hr : d.low ≤ x ∧ x ≤ d.high
  · obtain ⟨c, a, w, l, u⟩ := d
    simp at hr h0
    rcases hd with hd | hd | hd | hd | hd | hd | hd
    · simp [D.zero] at hd; omega
    · simp at hd
      obtain ⟨rfl, rfl, k1, k2, rfl, rfl⟩ := hd
      rw [run2b hr]
      refine ⟨.inl rfl, fun c hc => ?_⟩
      simp at hc; subst hc; unfold isPt; omega
    · simp at hd
      obtain ⟨rfl, rfl, k1, k2, k3, k4, k5⟩ := hd
      rw [run3b hr]
      refine ⟨.inr (.inr (.inr (.inl ?_))), fun c hc => by simp at hc⟩
      simp; omega
    · simp at hd
      obtain ⟨rfl, rfl, k1, k2, k3, rfl, rfl⟩ := hd
      rw [run3c hr]
      refine ⟨.inl rfl, fun c hc => ?_⟩
      simp at hc; subst hc; unfold isPt; omega
    · simp at hd
      obtain ⟨rfl, rfl, k1, k2, k3, k4, k5⟩ := hd
      rw [run4b hr]
      refine ⟨.inr (.inr (.inr (.inr (.inr (.inl ?_))))), fun c hc => by simp at hc⟩
      simp; omega
    · simp at hd
      obtain ⟨rfl, rfl, k1, k2, rfl, rfl⟩ := hd
      rw [run4c hr]
      refine ⟨.inr (.inr (.inr (.inr (.inr (.inr ?_))))), fun c hc => by simp at hc⟩
      simp; omega
    · simp at hd
      obtain ⟨rfl, rfl, k1, k2, rfl, rfl⟩ := hd
      rw [run4d hr]
      refine ⟨.inl rfl, fun c hc => ?_⟩
      simp at hc; subst hc; unfold isPt; omega
  · rw [show stepD d x = ((firstD x).1, 65533 :: (firstD x).2) by unfold stepD; rw [if_neg h0, if_neg hr]]
    refine ⟨hf.1, fun c hc => ?_⟩
    rcases List.mem_cons.1 hc with rfl | hc
    · exact isPt_bad
    · exact hf.2 c hc
theorem run_good {d : D} (hd : d.Good) (l : List Nat) : (runD d l).1.Good ∧ ∀ c ∈ (runD d l).2, isPt c := by
  induction l generalizing d with
  | nil => exact ⟨hd, fun c hc => by simp [runD] at hc⟩
  | cons x l ih =>
    have h1 := step_good hd x
    have h2 := ih h1.1
    refine ⟨h2.1, fun c hc => ?_⟩
    simp only [runD, List.mem_append] at hc
    rcases hc with hc | hc
    · exact h1.2 c hc
    · exact h2.2 c hc
theorem decode_good (l : List Nat) : ∀ c ∈ decodeL l, isPt c := by
  intro c hc
  unfold decodeL at hc
  rcases List.mem_append.1 hc with hc | hc
  · exact (run_good (.inl rfl) l).2 c hc
  · unfold endL at hc
    split at hc
    · simp at hc
    · simp at hc; subst hc; exact isPt_bad
/-! No fewer code points than a fourth. -/
theorem whole_four {d : D} (h : d.had ≤ 4) : d.had ≤ 4 * (wholeD d).2.length + (wholeD d).1.had := by
  unfold wholeD; split
  · simp; omega
  · simp
theorem first_four (x : Nat) : 1 ≤ 4 * (firstD x).2.length + (firstD x).1.had := by
  cases h : fitB x with
  | true =>
    have h1 := beginD_had h
    have h2 := whole_four (d := beginD x) (by omega)
    unfold firstD; rw [h]; simp; omega
  | false => unfold firstD; rw [beginD_none h, wholeD_zero, h]; simp; omega
theorem step_four {d : D} (hd : d.Ok) (x : Nat) : d.had + 1 ≤ 4 * (stepD d x).2.length + (stepD d x).1.had := by
  have hf := first_four x
  have h3 := hd.had
  by_cases h0 : d.had = 0
  · rw [show stepD d x = firstD x from if_pos h0]; omega
  by_cases hr : d.low ≤ x ∧ x ≤ d.high
  · rw [step_in' h0 hr]
    have := whole_four (d := ⟨d.code * 64 + x % 64, d.had + 1, d.want, 128, 191⟩) (by simp; omega)
    simpa using this
  · rw [show stepD d x = ((firstD x).1, 65533 :: (firstD x).2) by unfold stepD; rw [if_neg h0, if_neg hr]]
    simp; omega
theorem run_four {d : D} (hd : d.Ok) (l : List Nat) : d.had + l.length ≤ 4 * (runD d l).2.length + (runD d l).1.had := by
  induction l generalizing d with
  | nil => simp [runD]
  | cons x l ih =>
    have h1 := step_four hd x
    have h2 := ih (stepD_ok hd x)
    simp only [runD, List.length_append, List.length_cons]; omega
theorem decode_four (l : List Nat) : l.length ≤ 4 * (decodeL l).length := by
  have h := run_four zero_ok l
  have h2 := (runD_ok zero_ok l).had
  unfold decodeL endL
  rw [List.length_append]
  have : D.zero.had = 0 := rfl
  split
  · simp; omega
  · simp; omega
/-! The document's reading. -/
def sizeN (b : Nat) : Nat := if b < 128 then 1 else if 192 ≤ b ∧ b < 224 then 2 else if 224 ≤ b ∧ b < 240 then 3 else if 240 ≤ b ∧ b < 248 then 4 else 0
def headI (n b : Nat) : Int := if n = 2 then b - 192 else if n = 3 then b - 224 else if n = 4 then b - 240 else b
def lowAt (l : List Nat) : Nat → Int
  | 0 => headI (sizeN (l.getD 0 0)) (l.getD 0 0)
  | i + 1 => lowAt l i * 64 + l.getD (i + 1) 0 - 128
def fineAt (l : List Nat) : Nat → Bool
  | 0 => true
  | i + 1 => fineAt l i && decide (128 ≤ l.getD (i + 1) 0 ∧ l.getD (i + 1) 0 ≤ 191)
def padLow (v : Int) : Nat → Int
  | 0 => v
  | j + 1 => padLow v j * 64
def padHigh (v : Int) : Nat → Int
  | 0 => v
  | j + 1 => padHigh v j * 64 + 63
/-- The bounds of the numbers with forms of so many bytes. -/
def leastOf (n : Nat) : Int := if n ≤ 1 then 0 else if n = 2 then 128 else if n = 3 then 2048 else 65536
def mostOf (n : Nat) : Int := if n = 0 then -1 else if n = 1 then 127 else if n = 2 then 2047 else if n = 3 then 65535 else if n = 4 then 1114111 else -1
def overS (x : Int) : Int := if 55296 ≤ x ∧ x ≤ 57343 then 57344 else x
def anyB (low high : Int) (n : Nat) : Bool := decide (overS (max low (leastOf n)) ≤ high ∧ overS (max low (leastOf n)) ≤ mostOf n)
def readK (l : List Nat) (n : Nat) : Nat → Int × Nat × Bool
  | 0 => (0, 1, false)
  | k + 1 => if fineAt l k && anyB (padLow (lowAt l k) (n - (k + 1))) (padHigh (lowAt l k) (n - (k + 1))) n then (padLow (lowAt l k) (n - (k + 1)), k + 1, decide (k + 1 = n)) else readK l n k
def readN (l : List Nat) : Int × Nat × Bool := readK l (sizeN (l.getD 0 0)) (min (sizeN (l.getD 0 0)) l.length)
def beginsN (l : List Nat) : Bool := !(readN l).2.2 && decide ((readN l).2.1 = l.length) && decide (l.length < sizeN (l.getD 0 0)) && decide (1 < l.length ∨ (194 ≤ l.getD 0 0 ∧ l.getD 0 0 ≤ 244))
/-- What reading tells of the run. -/
structure ReadOk (l : List Nat) : Prop where
  pos : 1 ≤ (readN l).2.1
  le : (readN l).2.1 ≤ l.length
  whole : (readN l).2.2 = true → runD D.zero (l.take (readN l).2.1) = (D.zero, [(readN l).1])
  part : (readN l).2.2 = false → (readN l).2.1 = l.length → beginsN l = true → (runD D.zero l).2 = [] ∧ (runD D.zero l).1.had = l.length
  bad : (readN l).2.2 = false → ¬ ((readN l).2.1 = l.length ∧ beginsN l = true) →
    runD D.zero l = ((runD D.zero (l.drop (readN l).2.1)).1, 65533 :: (runD D.zero (l.drop (readN l).2.1)).2)
theorem run_bad1 {x : Nat} (l : List Nat) (h : fitB x = false) : runD D.zero (x :: l) = ((runD D.zero l).1, 65533 :: (runD D.zero l).2) := by
  have e : stepD D.zero x = (D.zero, [65533]) := by
    show firstD x = _
    unfold firstD; rw [beginD_none h, wholeD_zero, h]; rfl
  simp [runD, e]
theorem run_stop {d : D} {x : Nat} (l : List Nat) (h0 : d.had ≠ 0) (hr : ¬ (d.low ≤ x ∧ x ≤ d.high)) : runD d (x :: l) = ((runD D.zero (x :: l)).1, 65533 :: (runD D.zero (x :: l)).2) := by
  have e : stepD d x = ((firstD x).1, 65533 :: (firstD x).2) := by unfold stepD; rw [if_neg h0, if_neg hr]
  have e2 : stepD D.zero x = firstD x := rfl
  simp [runD, e, e2]
theorem size0 {x : Nat} (h : fitB x = false) (h2 : x < 256) : (sizeN x = 0) ∨ (sizeN x = 2 ∧ x < 194) ∨ (sizeN x = 4 ∧ 245 ≤ x) := by
  have h := of_decide_eq_false (p := x < 128 ∨ (194 ≤ x ∧ x ≤ 244)) h
  unfold sizeN
  repeat' split
  all_goals omega
theorem readOk_1 (x : Nat) (l : List Nat) (h : x < 128) : ReadOk (x :: l) := by
  have e : readN (x :: l) = ((x : Int), 1, true) := by
    have hs : sizeN x = 1 := if_pos h
    have : min 1 (l.length + 1) = 1 := by omega
    have h3 : anyB (x : Int) x 1 = true := by unfold anyB overS leastOf mostOf; simp; split <;> omega
    simp [readN, hs, this, readK, fineAt, lowAt, headI, padLow, padHigh, h3]
  refine ⟨by rw [e]; simp, by rw [e]; simp, fun _ => ?_, fun h2 => ?_, fun h2 => ?_⟩
  · rw [e]; simp [runD, run1 h]
  · rw [e] at h2; simp at h2
  · rw [e] at h2; simp at h2
theorem readOk_whole {l : List Nat} {v : Int} {k : Nat} (e : readN l = (v, k, true)) (h1 : 1 ≤ k) (h2 : k ≤ l.length) (hr : runD D.zero (l.take k) = (D.zero, [v])) : ReadOk l :=
  ⟨by rw [e]; exact h1, by rw [e]; exact h2, fun _ => by rw [e]; exact hr, fun h => by rw [e] at h; simp at h, fun h => by rw [e] at h; simp at h⟩
theorem readOk_part {l : List Nat} {v : Int} {k : Nat} (e : readN l = (v, k, false)) (h1 : 1 ≤ k) (h2 : k = l.length) (hb : beginsN l = true) (hr : (runD D.zero l).2 = [] ∧ (runD D.zero l).1.had = l.length) : ReadOk l :=
  ⟨by rw [e]; exact h1, by rw [e]; exact Nat.le_of_eq h2, fun h => by rw [e] at h; simp at h, fun _ _ _ => hr, fun _ h => absurd ⟨by rw [e]; exact h2, hb⟩ h⟩
theorem readOk_bad {l : List Nat} {v : Int} {k : Nat} (e : readN l = (v, k, false)) (h1 : 1 ≤ k) (h2 : k ≤ l.length) (hb : k = l.length → beginsN l = false)
    (hr : runD D.zero l = ((runD D.zero (l.drop k)).1, 65533 :: (runD D.zero (l.drop k)).2)) : ReadOk l :=
  ⟨by rw [e]; exact h1, by rw [e]; exact h2, fun h => by rw [e] at h; simp at h,
    fun _ h3 h4 => by rw [e] at h3; have := hb h3; rw [h4] at this; simp at this, fun _ _ => by rw [e]; exact hr⟩
theorem begins_of {l : List Nat} {v : Int} {k : Nat} (e : readN l = (v, k, false)) (h2 : k = l.length) (h3 : k < sizeN (l.getD 0 0)) (h4 : 1 < k ∨ (194 ≤ l.getD 0 0 ∧ l.getD 0 0 ≤ 244)) : beginsN l = true := by
  unfold beginsN; rw [e, ← h2]; simp only [Bool.not_false, Bool.true_and, decide_true, Bool.and_eq_true, decide_eq_true_eq]; exact ⟨h3, h4⟩
theorem begins_not {x : Nat} {l : List Nat} {v : Int} (e : readN (x :: l) = (v, 1, false)) (h : fitB x = false) : 1 = (x :: l).length → beginsN (x :: l) = false := by
  have h := of_decide_eq_false (p := x < 128 ∨ (194 ≤ x ∧ x ≤ 244)) h
  intro h1
  unfold beginsN; rw [e, ← h1]
  simp
  intro; omega
theorem readOk_none (x : Nat) (l : List Nat) (h : fitB x = false) (hx : x < 256) : ReadOk (x :: l) := by
  have e : readN (x :: l) = (0, 1, false) := by
    rcases size0 h hx with hs | ⟨hs, h1⟩ | ⟨hs, h1⟩
    · simp [readN, hs, readK]
    · have h' := of_decide_eq_false (p := x < 128 ∨ (194 ≤ x ∧ x ≤ 244)) h
      have a1 : anyB (padLow (lowAt (x :: l) 0) (2 - 1)) (padHigh (lowAt (x :: l) 0) (2 - 1)) 2 = false := by
        have : 128 ≤ x := by omega
        simp [anyB, padLow, padHigh, lowAt, hs, headI, overS, leastOf, mostOf]; omega
      have a2 : ∀ y : Nat, y ≤ 191 → anyB (((x : Int) - 192) * 64 + y - 128) (((x : Int) - 192) * 64 + y - 128) 2 = false := by
        intro y hy
        simp [anyB, overS, leastOf, mostOf]; omega
      rcases l with _ | ⟨y, m⟩
      · have : min 2 1 = 1 := rfl
        simp [readN, hs, readK, this, a1]
      · have : min 2 (m.length + 1 + 1) = 2 := by omega
        have a3 : (fineAt (x :: y :: m) 1 && anyB (padLow (lowAt (x :: y :: m) 1) (2 - 2)) (padHigh (lowAt (x :: y :: m) 1) (2 - 2)) 2) = false := by
          by_cases hy : 128 ≤ y ∧ y ≤ 191
          · have := a2 y hy.2
            simp [fineAt, lowAt, padLow, padHigh, hs, headI, this]
          · have : decide (128 ≤ y ∧ y ≤ 191) = false := decide_eq_false hy
            simp only [fineAt, List.getD_cons_succ, List.getD_cons_zero, this, Bool.and_false, Bool.false_and]
        simp only [readN, List.getD_cons_zero, hs, readK, List.length_cons, this, a3, a1, Bool.and_false]; simp
    · have ge : ∀ (k : Nat), k ≤ 3 → fineAt (x :: l) k = true → 5 * 64 ^ k ≤ lowAt (x :: l) k := by
        intro k hk hf
        have h0 : 5 ≤ lowAt (x :: l) 0 := by simp [lowAt, hs, headI]; omega
        rcases (show k = 0 ∨ k = 1 ∨ k = 2 ∨ k = 3 by omega) with rfl | rfl | rfl | rfl
        · simpa using h0
        · simp [fineAt] at hf; simp only [lowAt] at h0 ⊢; simp at h0 ⊢; omega
        · simp [fineAt] at hf; simp only [lowAt] at h0 ⊢; simp at h0 ⊢; omega
        · simp [fineAt] at hf; simp only [lowAt] at h0 ⊢; simp at h0 ⊢; omega
      have a : ∀ k, k < 4 → (fineAt (x :: l) k && anyB (padLow (lowAt (x :: l) k) (4 - (k + 1))) (padHigh (lowAt (x :: l) k) (4 - (k + 1))) 4) = false := by
        intro k hk
        by_cases hf : fineAt (x :: l) k = true
        · have g := ge k (by omega) hf
          rw [hf, Bool.true_and]
          generalize lowAt (x :: l) k = v at g ⊢
          rcases (show k = 0 ∨ k = 1 ∨ k = 2 ∨ k = 3 by omega) with rfl | rfl | rfl | rfl
          all_goals simp [anyB, padLow, padHigh, overS, leastOf, mostOf] at g ⊢; omega
        · simp only [Bool.not_eq_true] at hf; rw [hf, Bool.false_and]
      simp only [readN, List.getD_cons_zero, hs]
      rcases (show min 4 (x :: l).length = 0 ∨ min 4 (x :: l).length = 1 ∨ min 4 (x :: l).length = 2 ∨ min 4 (x :: l).length = 3 ∨ min 4 (x :: l).length = 4 by omega) with hm | hm | hm | hm | hm
      all_goals rw [hm]; simp only [readK, a _ (by decide : 0 < 4), a _ (by decide : 1 < 4), a _ (by decide : 2 < 4), a _ (by decide : 3 < 4)]; (try simp)
  exact readOk_bad e (by omega) (by simp) (begins_not e h) (by simpa using run_bad1 l h)
theorem any3_ok {y v : Int} {x : Nat} (hx : 224 ≤ x ∧ x ≤ 239) (h1 : 128 ≤ y) (h2 : y ≤ 191) (hv : v = (x : Int) - 224) :
    anyB (padLow (v * 64 + y - 128) 1) (padHigh (v * 64 + y - 128) 1) 3 = decide ((if x = 224 then 160 else 128) ≤ y ∧ y ≤ (if x = 237 then 159 else 191)) := by
  subst hv
  simp only [anyB, padLow, padHigh, overS, leastOf, mostOf]
  rw [decide_eq_decide]
  simp
  split <;> split <;> split <;> omega
theorem any4_ok {y v : Int} {x : Nat} (hx : 240 ≤ x ∧ x ≤ 244) (h1 : 128 ≤ y) (h2 : y ≤ 191) (hv : v = (x : Int) - 240) :
    anyB (padLow (v * 64 + y - 128) 2) (padHigh (v * 64 + y - 128) 2) 4 = decide ((if x = 240 then 144 else 128) ≤ y ∧ y ≤ (if x = 244 then 143 else 191)) := by
  subst hv
  simp only [anyB, padLow, padHigh, overS, leastOf, mostOf]
  rw [decide_eq_decide]
  simp
  split <;> split <;> split <;> omega
theorem readOk_2 (x : Nat) (l : List Nat) (h : 194 ≤ x ∧ x ≤ 223) : ReadOk (x :: l) := by
  have hs : sizeN x = 2 := by unfold sizeN; rw [if_neg (by omega), if_pos (by omega)]
  have a1 : anyB (padLow ((x : Int) - 192) 1) (padHigh ((x : Int) - 192) 1) 2 = true := by
    simp [anyB, padLow, padHigh, overS, leastOf, mostOf]; split <;> omega
  have hl0 : ∀ m : List Nat, lowAt (x :: m) 0 = (x : Int) - 192 := fun m => by simp [lowAt, hs, headI]
  rcases l with _ | ⟨y, m⟩
  · have e : readN [x] = (padLow ((x : Int) - 192) 1, 1, false) := by
      have : min 2 1 = 1 := rfl
      simp [readN, hs, readK, this, fineAt, hl0, a1]
    exact readOk_part e (by omega) (by simp) (begins_of e (by simp) (by simp [hs]) (.inr (by simp; omega))) (by simp [runD, run2a h])
  · have hm : min 2 (m.length + 1 + 1) = 2 := by omega
    have hl1 : lowAt (x :: y :: m) 1 = ((x : Int) - 192) * 64 + y - 128 := by simp [lowAt, hs, headI]
    by_cases hy : 128 ≤ y ∧ y ≤ 191
    · have a2 : anyB (padLow (((x : Int) - 192) * 64 + y - 128) 0) (padHigh (((x : Int) - 192) * 64 + y - 128) 0) 2 = true := by
        simp [anyB, padLow, padHigh, overS, leastOf, mostOf]; split <;> omega
      have e : readN (x :: y :: m) = (((x : Int) - 192) * 64 + y - 128, 2, true) := by
        have hf : fineAt (x :: y :: m) 1 = true := by simp [fineAt]; omega
        simp only [readN, List.getD_cons_zero, hs, List.length_cons, hm, readK, hf, hl1, Nat.sub_self, a2]; simp [padLow]
      refine readOk_whole e (by omega) (by simp) ?_
      have e1 := run2a h
      have e2 := run2b (c := x % 32) hy
      simp only [List.take, runD, e1, e2, List.nil_append, List.append_nil]
      rw [show ((x % 32 * 64 + y % 64 : Nat) : Int) = ((x : Int) - 192) * 64 + y - 128 by omega]
    · have hf : fineAt (x :: y :: m) 1 = false := by simp only [fineAt, List.getD_cons_succ, List.getD_cons_zero, decide_eq_false hy, Bool.and_false]
      have e : readN (x :: y :: m) = (padLow ((x : Int) - 192) 1, 1, false) := by
        simp only [readN, List.getD_cons_zero, hs, List.length_cons, hm, readK, hf, hl0]; simp [fineAt, a1]
      refine readOk_bad e (by omega) (by simp) (by simp) ?_
      have e1 := run2a h
      have := run_stop (d := ⟨x % 32, 1, 2, 128, 191⟩) m (by simp) (x := y) hy
      show runD D.zero (x :: y :: m) = ((runD D.zero (y :: m)).1, 65533 :: (runD D.zero (y :: m)).2)
      rw [← this]; rw [runD, e1]; simp
theorem readOk_3 (x : Nat) (l : List Nat) (h : 224 ≤ x ∧ x ≤ 239) : ReadOk (x :: l) := by
  have hs : sizeN x = 3 := by unfold sizeN; rw [if_neg (by omega), if_neg (by omega), if_pos (by omega)]
  have a1 : anyB (padLow ((x : Int) - 224) 2) (padHigh ((x : Int) - 224) 2) 3 = true := by
    simp [anyB, padLow, padHigh, overS, leastOf, mostOf]; split <;> omega
  have hl0 : ∀ m : List Nat, lowAt (x :: m) 0 = (x : Int) - 224 := fun m => by simp [lowAt, hs, headI]
  have hl1 : ∀ (y : Nat) (m : List Nat), lowAt (x :: y :: m) 1 = ((x : Int) - 224) * 64 + y - 128 := fun y m => by simp [lowAt, hs, headI]
  have hl2 : ∀ (y z : Nat) (m : List Nat), lowAt (x :: y :: z :: m) 2 = (((x : Int) - 224) * 64 + y - 128) * 64 + z - 128 := fun y z m => by simp [lowAt, hs, headI]
  have e1 := run3a h
  generalize hlo : (if x = 224 then 160 else 128) = lo at e1
  generalize hhi : (if x = 237 then 159 else 191) = hi at e1
  have blo : 128 ≤ lo ∧ hi ≤ 191 := by subst hlo hhi; constructor <;> split <;> omega
  have a2 : ∀ y : Nat, 128 ≤ y → y ≤ 191 → anyB (padLow (((x : Int) - 224) * 64 + y - 128) 1) (padHigh (((x : Int) - 224) * 64 + y - 128) 1) 3 = decide (lo ≤ y ∧ y ≤ hi) := fun y k1 k2 => by
    rw [any3_ok (y := (y : Int)) h (by omega) (by omega) rfl, ← hlo, ← hhi]; rw [decide_eq_decide]; split <;> split <;> omega
  have c2 : ∀ (y : Nat) (m : List Nat), (fineAt (x :: y :: m) 1 && anyB (padLow (lowAt (x :: y :: m) 1) 1) (padHigh (lowAt (x :: y :: m) 1) 1) 3) = decide (lo ≤ y ∧ y ≤ hi) := fun y m => by
    rw [hl1]
    by_cases hy : 128 ≤ y ∧ y ≤ 191
    · rw [a2 y hy.1 hy.2]; simp [fineAt, hy]
    · rw [decide_eq_false (show ¬ (lo ≤ y ∧ y ≤ hi) by omega)]; simp only [fineAt, List.getD_cons_succ, List.getD_cons_zero, decide_eq_false hy, Bool.and_false, Bool.false_and]
  have c1 : ∀ (m : List Nat), (fineAt (x :: m) 0 && anyB (padLow (lowAt (x :: m) 0) 2) (padHigh (lowAt (x :: m) 0) 2) 3) = true := fun m => by rw [hl0, a1]; rfl
  have k1 : ∀ m : List Nat, readK (x :: m) 3 1 = (padLow ((x : Int) - 224) 2, 1, false) := fun m => by
    rw [readK, show 3 - (0 + 1) = 2 from rfl, c1, hl0]; simp
  have k2 : ∀ (y : Nat) (m : List Nat), (lo ≤ y ∧ y ≤ hi) → readK (x :: y :: m) 3 2 = (padLow (((x : Int) - 224) * 64 + y - 128) 1, 2, false) := fun y m hy => by
    rw [readK, show 3 - (1 + 1) = 1 from rfl, c2, decide_eq_true hy, hl1]; simp
  have k2n : ∀ (y : Nat) (m : List Nat), ¬ (lo ≤ y ∧ y ≤ hi) → readK (x :: y :: m) 3 2 = (padLow ((x : Int) - 224) 2, 1, false) := fun y m hy => by
    rw [readK, show 3 - (1 + 1) = 1 from rfl, c2, decide_eq_false hy, if_neg (by simp), k1]
  have stop1 : ∀ (y : Nat) (m : List Nat), ¬ (lo ≤ y ∧ y ≤ hi) → runD D.zero (x :: y :: m) = ((runD D.zero (y :: m)).1, 65533 :: (runD D.zero (y :: m)).2) := fun y m hy => by
    have := run_stop (d := ⟨x % 16, 1, 3, lo, hi⟩) m (by simp) (x := y) hy
    rw [← this, runD, e1]; simp
  rcases l with _ | ⟨y, _ | ⟨z, m⟩⟩
  · have e : readN [x] = (padLow ((x : Int) - 224) 2, 1, false) := by
      have : min 3 1 = 1 := rfl
      simp only [readN, List.getD_cons_zero, hs, List.length_cons, List.length_nil, this, k1]
    exact readOk_part e (by omega) (by simp) (begins_of e (by simp) (by simp [hs]) (.inr (by simp; omega))) (by simp [runD, e1])
  · have hm : min 3 ([x, y] : List Nat).length = 2 := rfl
    by_cases hy : lo ≤ y ∧ y ≤ hi
    · have e : readN [x, y] = (padLow (((x : Int) - 224) * 64 + y - 128) 1, 2, false) := by
        simp only [readN, List.getD_cons_zero, hs, hm, k2 y [] hy]
      have e2 := run3b (c := x % 16) hy
      exact readOk_part e (by omega) (by simp) (begins_of e (by simp) (by simp [hs]) (.inl (by simp))) (by simp [runD, e1, e2])
    · have e : readN [x, y] = (padLow ((x : Int) - 224) 2, 1, false) := by
        simp only [readN, List.getD_cons_zero, hs, hm, k2n y [] hy]
      exact readOk_bad e (by omega) (by simp) (by simp) (stop1 y [] hy)
  · have hm : min 3 (x :: y :: z :: m).length = 3 := by simp
    have hr : readN (x :: y :: z :: m) = readK (x :: y :: z :: m) 3 3 := by simp only [readN, List.getD_cons_zero, hs, hm]
    by_cases hy : lo ≤ y ∧ y ≤ hi
    · have e2 := run3b (c := x % 16) hy
      by_cases hz : 128 ≤ z ∧ z ≤ 191
      · have e : readN (x :: y :: z :: m) = ((((x : Int) - 224) * 64 + y - 128) * 64 + z - 128, 3, true) := by
          have hf : fineAt (x :: y :: z :: m) 2 = true := by simp [fineAt]; omega
          have ha : anyB (padLow ((((x : Int) - 224) * 64 + y - 128) * 64 + z - 128) 0) (padHigh ((((x : Int) - 224) * 64 + y - 128) * 64 + z - 128) 0) 3 = true := by
            have : (x = 224 → 160 ≤ y) ∧ (x = 237 → y ≤ 159) := by
              constructor
              · intro hx; rw [if_pos hx] at hlo; omega
              · intro hx; rw [if_pos hx] at hhi; omega
            simp [anyB, padLow, padHigh, overS, leastOf, mostOf]; split <;> omega
          rw [hr, readK, hf, hl2, show 3 - (2 + 1) = 0 from rfl, ha]; simp [padLow]
        refine readOk_whole e (by omega) (by simp) ?_
        have e3 := run3c (c := x % 16 * 64 + y % 64) hz
        simp only [List.take, runD, e1, e2, e3, List.nil_append, List.append_nil]
        rw [show (((x % 16 * 64 + y % 64) * 64 + z % 64 : Nat) : Int) = (((x : Int) - 224) * 64 + y - 128) * 64 + z - 128 by omega]
      · have hf : fineAt (x :: y :: z :: m) 2 = false := by simp only [fineAt, List.getD_cons_succ, List.getD_cons_zero, decide_eq_false hz, Bool.and_false]
        have e : readN (x :: y :: z :: m) = (padLow (((x : Int) - 224) * 64 + y - 128) 1, 2, false) := by
          rw [hr, readK, hf, Bool.false_and, if_neg (by simp), k2 y _ hy]
        refine readOk_bad e (by omega) (by simp) (by simp) ?_
        have := run_stop (d := ⟨x % 16 * 64 + y % 64, 2, 3, 128, 191⟩) m (by simp) (x := z) hz
        show runD D.zero (x :: y :: z :: m) = ((runD D.zero (z :: m)).1, 65533 :: (runD D.zero (z :: m)).2)
        rw [← this]; simp only [runD, e1, e2]; simp
    · have e : readN (x :: y :: z :: m) = (padLow ((x : Int) - 224) 2, 1, false) := by
        have hf : (fineAt (x :: y :: z :: m) 2 && anyB (padLow (lowAt (x :: y :: z :: m) 2) (3 - (2 + 1))) (padHigh (lowAt (x :: y :: z :: m) 2) (3 - (2 + 1))) 3) = false := by
          by_cases hg : fineAt (x :: y :: z :: m) 2 = true
          · rw [hg, hl2, Bool.true_and]
            simp [fineAt] at hg
            have : (x = 224 ∧ y < 160) ∨ (x = 237 ∧ 159 < y) := by
              subst hlo hhi
              by_cases h5 : x = 224
              · by_cases h6 : x = 237
                · omega
                · rw [if_pos h5, if_neg h6] at hy; omega
              · by_cases h6 : x = 237
                · rw [if_neg h5, if_pos h6] at hy; omega
                · rw [if_neg h5, if_neg h6] at hy; omega
            simp [anyB, padLow, padHigh, overS, leastOf, mostOf]; split <;> omega
          · simp only [Bool.not_eq_true] at hg; rw [hg, Bool.false_and]
        rw [hr, readK, hf, if_neg (by simp), k2n y _ hy]
      exact readOk_bad e (by omega) (by simp) (by simp) (stop1 y _ hy)
theorem readOk_4 (x : Nat) (l : List Nat) (h : 240 ≤ x ∧ x ≤ 244) : ReadOk (x :: l) := by
  have hs : sizeN x = 4 := by unfold sizeN; rw [if_neg (by omega), if_neg (by omega), if_neg (by omega), if_pos (by omega)]
  have a1 : anyB (padLow ((x : Int) - 240) 3) (padHigh ((x : Int) - 240) 3) 4 = true := by
    simp [anyB, padLow, padHigh, overS, leastOf, mostOf]; split <;> omega
  have hl0 : ∀ m : List Nat, lowAt (x :: m) 0 = (x : Int) - 240 := fun m => by simp [lowAt, hs, headI]
  have hl1 : ∀ (y : Nat) (m : List Nat), lowAt (x :: y :: m) 1 = ((x : Int) - 240) * 64 + y - 128 := fun y m => by simp [lowAt, hs, headI]
  have hl2 : ∀ (y z : Nat) (m : List Nat), lowAt (x :: y :: z :: m) 2 = (((x : Int) - 240) * 64 + y - 128) * 64 + z - 128 := fun y z m => by simp [lowAt, hs, headI]
  have hl3 : ∀ (y z u : Nat) (m : List Nat), lowAt (x :: y :: z :: u :: m) 3 = ((((x : Int) - 240) * 64 + y - 128) * 64 + z - 128) * 64 + u - 128 := fun y z u m => by simp [lowAt, hs, headI]
  have e1 := run4a h
  generalize hlo : (if x = 240 then 144 else 128) = lo at e1
  generalize hhi : (if x = 244 then 143 else 191) = hi at e1
  have blo : 128 ≤ lo ∧ hi ≤ 191 := by subst hlo hhi; constructor <;> split <;> omega
  have bad : ∀ y : Nat, 128 ≤ y → y ≤ 191 → ¬ (lo ≤ y ∧ y ≤ hi) → (x = 240 ∧ y < 144) ∨ (x = 244 ∧ 143 < y) := fun y k1 k2 hy => by
    subst hlo hhi
    by_cases h5 : x = 240
    · by_cases h6 : x = 244
      · omega
      · rw [if_pos h5, if_neg h6] at hy; omega
    · by_cases h6 : x = 244
      · rw [if_neg h5, if_pos h6] at hy; omega
      · rw [if_neg h5, if_neg h6] at hy; omega
  have fine : ∀ y : Nat, (lo ≤ y ∧ y ≤ hi) → (x = 240 → 144 ≤ y) ∧ (x = 244 → y ≤ 143) := fun y hy => by
    constructor
    · intro hx; rw [if_pos hx] at hlo; omega
    · intro hx; rw [if_pos hx] at hhi; omega
  have a2 : ∀ y : Nat, 128 ≤ y → y ≤ 191 → anyB (padLow (((x : Int) - 240) * 64 + y - 128) 2) (padHigh (((x : Int) - 240) * 64 + y - 128) 2) 4 = decide (lo ≤ y ∧ y ≤ hi) := fun y k1 k2 => by
    rw [any4_ok (y := (y : Int)) h (by omega) (by omega) rfl, ← hlo, ← hhi]; rw [decide_eq_decide]; split <;> split <;> omega
  have c2 : ∀ (y : Nat) (m : List Nat), (fineAt (x :: y :: m) 1 && anyB (padLow (lowAt (x :: y :: m) 1) 2) (padHigh (lowAt (x :: y :: m) 1) 2) 4) = decide (lo ≤ y ∧ y ≤ hi) := fun y m => by
    rw [hl1]
    by_cases hy : 128 ≤ y ∧ y ≤ 191
    · rw [a2 y hy.1 hy.2]; simp [fineAt, hy]
    · rw [decide_eq_false (show ¬ (lo ≤ y ∧ y ≤ hi) by omega)]; simp only [fineAt, List.getD_cons_succ, List.getD_cons_zero, decide_eq_false hy, Bool.and_false, Bool.false_and]
  have c1 : ∀ (m : List Nat), (fineAt (x :: m) 0 && anyB (padLow (lowAt (x :: m) 0) 3) (padHigh (lowAt (x :: m) 0) 3) 4) = true := fun m => by rw [hl0, a1]; rfl
  have c3 : ∀ (y z : Nat) (m : List Nat), (fineAt (x :: y :: z :: m) 2 && anyB (padLow (lowAt (x :: y :: z :: m) 2) 1) (padHigh (lowAt (x :: y :: z :: m) 2) 1) 4) = decide ((lo ≤ y ∧ y ≤ hi) ∧ (128 ≤ z ∧ z ≤ 191)) := fun y z m => by
    rw [hl2]
    by_cases hf : fineAt (x :: y :: z :: m) 2 = true
    · rw [hf, Bool.true_and]
      simp [fineAt] at hf
      by_cases hy : lo ≤ y ∧ y ≤ hi
      · have := fine y hy
        rw [decide_eq_true (⟨hy, hf.2⟩ : (lo ≤ y ∧ y ≤ hi) ∧ (128 ≤ z ∧ z ≤ 191))]
        simp [anyB, padLow, padHigh, overS, leastOf, mostOf]; split <;> omega
      · have := bad y hf.1.1 hf.1.2 hy
        rw [decide_eq_false (fun h => hy h.1 : ¬ ((lo ≤ y ∧ y ≤ hi) ∧ (128 ≤ z ∧ z ≤ 191)))]
        simp [anyB, padLow, padHigh, overS, leastOf, mostOf]; split <;> omega
    · rw [decide_eq_false]
      · simp only [Bool.not_eq_true] at hf; rw [hf, Bool.false_and]
      · intro h'; apply hf; simp [fineAt]; omega
  have c4 : ∀ (y z u : Nat) (m : List Nat), (fineAt (x :: y :: z :: u :: m) 3 && anyB (padLow (lowAt (x :: y :: z :: u :: m) 3) 0) (padHigh (lowAt (x :: y :: z :: u :: m) 3) 0) 4) = decide ((lo ≤ y ∧ y ≤ hi) ∧ (128 ≤ z ∧ z ≤ 191) ∧ (128 ≤ u ∧ u ≤ 191)) := fun y z u m => by
    rw [hl3]
    by_cases hf : fineAt (x :: y :: z :: u :: m) 3 = true
    · rw [hf, Bool.true_and]
      simp [fineAt] at hf
      by_cases hy : lo ≤ y ∧ y ≤ hi
      · have := fine y hy
        rw [decide_eq_true (⟨hy, hf.1.2, hf.2⟩ : (lo ≤ y ∧ y ≤ hi) ∧ (128 ≤ z ∧ z ≤ 191) ∧ (128 ≤ u ∧ u ≤ 191))]
        simp [anyB, padLow, padHigh, overS, leastOf, mostOf]; split <;> omega
      · have := bad y hf.1.1.1 hf.1.1.2 hy
        rw [decide_eq_false (fun h => hy h.1 : ¬ ((lo ≤ y ∧ y ≤ hi) ∧ (128 ≤ z ∧ z ≤ 191) ∧ (128 ≤ u ∧ u ≤ 191)))]
        simp [anyB, padLow, padHigh, overS, leastOf, mostOf]; split <;> omega
    · rw [decide_eq_false]
      · simp only [Bool.not_eq_true] at hf; rw [hf, Bool.false_and]
      · intro h'; apply hf; simp [fineAt]; omega
  have k1 : ∀ m : List Nat, readK (x :: m) 4 1 = (padLow ((x : Int) - 240) 3, 1, false) := fun m => by
    rw [readK, show 4 - (0 + 1) = 3 from rfl, c1, hl0]; simp
  have k2 : ∀ (y : Nat) (m : List Nat), (lo ≤ y ∧ y ≤ hi) → readK (x :: y :: m) 4 2 = (padLow (((x : Int) - 240) * 64 + y - 128) 2, 2, false) := fun y m hy => by
    rw [readK, show 4 - (1 + 1) = 2 from rfl, c2, decide_eq_true hy, hl1]; simp
  have k2n : ∀ (y : Nat) (m : List Nat), ¬ (lo ≤ y ∧ y ≤ hi) → readK (x :: y :: m) 4 2 = (padLow ((x : Int) - 240) 3, 1, false) := fun y m hy => by
    rw [readK, show 4 - (1 + 1) = 2 from rfl, c2, decide_eq_false hy, if_neg (by simp), k1]
  have k3 : ∀ (y z : Nat) (m : List Nat), (lo ≤ y ∧ y ≤ hi) → (128 ≤ z ∧ z ≤ 191) → readK (x :: y :: z :: m) 4 3 = (padLow ((((x : Int) - 240) * 64 + y - 128) * 64 + z - 128) 1, 3, false) := fun y z m hy hz => by
    rw [readK, show 4 - (2 + 1) = 1 from rfl, c3, decide_eq_true ⟨hy, hz⟩, hl2]; simp
  have k3n : ∀ (y z : Nat) (m : List Nat), ¬ ((lo ≤ y ∧ y ≤ hi) ∧ (128 ≤ z ∧ z ≤ 191)) → readK (x :: y :: z :: m) 4 3 = readK (x :: y :: z :: m) 4 2 := fun y z m hn => by
    rw [readK, show 4 - (2 + 1) = 1 from rfl, c3, decide_eq_false hn, if_neg (by simp)]
  have k4 : ∀ (y z u : Nat) (m : List Nat), (lo ≤ y ∧ y ≤ hi) → (128 ≤ z ∧ z ≤ 191) → (128 ≤ u ∧ u ≤ 191) → readK (x :: y :: z :: u :: m) 4 4 = (((((x : Int) - 240) * 64 + y - 128) * 64 + z - 128) * 64 + u - 128, 4, true) := fun y z u m hy hz hu => by
    rw [readK, show 4 - (3 + 1) = 0 from rfl, c4, decide_eq_true ⟨hy, hz, hu⟩, hl3]; simp [padLow]
  have k4n : ∀ (y z u : Nat) (m : List Nat), ¬ ((lo ≤ y ∧ y ≤ hi) ∧ (128 ≤ z ∧ z ≤ 191) ∧ (128 ≤ u ∧ u ≤ 191)) → readK (x :: y :: z :: u :: m) 4 4 = readK (x :: y :: z :: u :: m) 4 3 := fun y z u m hn => by
    rw [readK, show 4 - (3 + 1) = 0 from rfl, c4, decide_eq_false hn, if_neg (by simp)]
  have stop1 : ∀ (y : Nat) (m : List Nat), ¬ (lo ≤ y ∧ y ≤ hi) → runD D.zero (x :: y :: m) = ((runD D.zero (y :: m)).1, 65533 :: (runD D.zero (y :: m)).2) := fun y m hy => by
    have := run_stop (d := ⟨x % 8, 1, 4, lo, hi⟩) m (by simp) (x := y) hy
    rw [← this, runD, e1]; simp
  have stop2 : ∀ (y z : Nat) (m : List Nat), (lo ≤ y ∧ y ≤ hi) → ¬ (128 ≤ z ∧ z ≤ 191) → runD D.zero (x :: y :: z :: m) = ((runD D.zero (z :: m)).1, 65533 :: (runD D.zero (z :: m)).2) := fun y z m hy hz => by
    have e2 := run4b (c := x % 8) hy
    have := run_stop (d := ⟨x % 8 * 64 + y % 64, 2, 4, 128, 191⟩) m (by simp) (x := z) hz
    rw [← this]; simp only [runD, e1, e2]; simp
  have stop3 : ∀ (y z u : Nat) (m : List Nat), (lo ≤ y ∧ y ≤ hi) → (128 ≤ z ∧ z ≤ 191) → ¬ (128 ≤ u ∧ u ≤ 191) → runD D.zero (x :: y :: z :: u :: m) = ((runD D.zero (u :: m)).1, 65533 :: (runD D.zero (u :: m)).2) := fun y z u m hy hz hu => by
    have e2 := run4b (c := x % 8) hy
    have e3 := run4c (c := x % 8 * 64 + y % 64) hz
    have := run_stop (d := ⟨(x % 8 * 64 + y % 64) * 64 + z % 64, 3, 4, 128, 191⟩) m (by simp) (x := u) hu
    rw [← this]; simp only [runD, e1, e2, e3]; simp
  rcases l with _ | ⟨y, _ | ⟨z, _ | ⟨u, m⟩⟩⟩
  · have e : readN [x] = (padLow ((x : Int) - 240) 3, 1, false) := by
      have : min 4 ([x] : List Nat).length = 1 := rfl
      simp only [readN, List.getD_cons_zero, hs, this, k1]
    exact readOk_part e (by omega) (by simp) (begins_of e (by simp) (by simp [hs]) (.inr (by simp; omega))) (by simp [runD, e1])
  · have hr : readN [x, y] = readK [x, y] 4 2 := by
      have hm : min 4 ([x, y] : List Nat).length = 2 := rfl
      simp only [readN, List.getD_cons_zero, hs, hm]
    by_cases hy : lo ≤ y ∧ y ≤ hi
    · have e := hr.trans (k2 y [] hy)
      have e2 := run4b (c := x % 8) hy
      exact readOk_part e (by omega) (by simp) (begins_of e (by simp) (by simp [hs]) (.inl (by simp))) (by simp [runD, e1, e2])
    · exact readOk_bad (hr.trans (k2n y [] hy)) (by omega) (by simp) (by simp) (stop1 y [] hy)
  · have hr : readN [x, y, z] = readK [x, y, z] 4 3 := by
      have hm : min 4 ([x, y, z] : List Nat).length = 3 := rfl
      simp only [readN, List.getD_cons_zero, hs, hm]
    by_cases hy : lo ≤ y ∧ y ≤ hi
    · by_cases hz : 128 ≤ z ∧ z ≤ 191
      · have e := hr.trans (k3 y z [] hy hz)
        have e2 := run4b (c := x % 8) hy
        have e3 := run4c (c := x % 8 * 64 + y % 64) hz
        exact readOk_part e (by omega) (by simp) (begins_of e (by simp) (by simp [hs]) (.inl (by simp))) (by simp [runD, e1, e2, e3])
      · exact readOk_bad ((hr.trans (k3n y z [] (fun h => hz h.2))).trans (k2 y _ hy)) (by omega) (by simp) (by simp) (stop2 y z [] hy hz)
    · exact readOk_bad ((hr.trans (k3n y z [] (fun h => hy h.1))).trans (k2n y _ hy)) (by omega) (by simp) (by simp) (stop1 y _ hy)
  · have hr : readN (x :: y :: z :: u :: m) = readK (x :: y :: z :: u :: m) 4 4 := by
      have hm : min 4 (x :: y :: z :: u :: m).length = 4 := by simp
      simp only [readN, List.getD_cons_zero, hs, hm]
    by_cases hy : lo ≤ y ∧ y ≤ hi
    · by_cases hz : 128 ≤ z ∧ z ≤ 191
      · by_cases hu : 128 ≤ u ∧ u ≤ 191
        · have e := hr.trans (k4 y z u m hy hz hu)
          refine readOk_whole e (by omega) (by simp) ?_
          have e2 := run4b (c := x % 8) hy
          have e3 := run4c (c := x % 8 * 64 + y % 64) hz
          have e4 := run4d (c := (x % 8 * 64 + y % 64) * 64 + z % 64) hu
          simp only [List.take, runD, e1, e2, e3, e4, List.nil_append, List.append_nil]
          rw [show ((((x % 8 * 64 + y % 64) * 64 + z % 64) * 64 + u % 64 : Nat) : Int) = ((((x : Int) - 240) * 64 + y - 128) * 64 + z - 128) * 64 + u - 128 by omega]
        · exact readOk_bad ((hr.trans (k4n y z u m (fun h => hu h.2.2))).trans (k3 y z _ hy hz)) (by omega) (by simp) (by simp) (stop3 y z u m hy hz hu)
      · exact readOk_bad (((hr.trans (k4n y z u m (fun h => hz h.2.1))).trans (k3n y z _ (fun h => hz h.2))).trans (k2 y _ hy)) (by omega) (by simp) (by simp) (stop2 y z _ hy hz)
    · exact readOk_bad (((hr.trans (k4n y z u m (fun h => hy h.1))).trans (k3n y z _ (fun h => hy h.1))).trans (k2n y _ hy)) (by omega) (by simp) (by simp) (stop1 y _ hy)
theorem readOk (l : List Nat) (h0 : l ≠ []) (h : ∀ x ∈ l, x < 256) : ReadOk l := by
  rcases l with _ | ⟨x, l⟩
  · exact absurd rfl h0
  by_cases hf : fitB x = true
  · have h' := of_decide_eq_true (p := x < 128 ∨ (194 ≤ x ∧ x ≤ 244)) hf
    rcases (show x < 128 ∨ (194 ≤ x ∧ x ≤ 223) ∨ (224 ≤ x ∧ x ≤ 239) ∨ (240 ≤ x ∧ x ≤ 244) by omega) with k | k | k | k
    · exact readOk_1 x l k
    · exact readOk_2 x l k
    · exact readOk_3 x l k
    · exact readOk_4 x l k
  · exact readOk_none x l (by simpa using hf) (h x (by simp))
/-- The document's decoding from a place on: what was told of the bytes ahead and what is told of the rest are what is told of all. -/
theorem runD_read_whole {l : List Nat} (h : ReadOk l) (hw : (readN l).2.2 = true) : runD D.zero l = ((runD D.zero (l.drop (readN l).2.1)).1, (readN l).1 :: (runD D.zero (l.drop (readN l).2.1)).2) := by
  have e := h.whole hw
  generalize (readN l).2.1 = k at *
  have : runD D.zero (l.take k ++ l.drop k) = ((runD D.zero (l.drop k)).1, (readN l).1 :: (runD D.zero (l.drop k)).2) := by rw [runD_append, e]; rfl
  rwa [List.take_append_drop] at this
end Go.Proofs.Ytfogblcjccoeiaa
