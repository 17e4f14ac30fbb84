/- The field of bytes: products by bits, through exclusive or, in any order and grouping; the other one; a byte swapped. No program. -/
import Derived.Test.YtgdphdnghackfaaC
namespace Go.Proofs.Ytgdphdnghackfaa
structure Kp (p : Prop) : Prop where
  out : p
/-! The field of bytes. -/
/-- A byte times two. -/
def xt (a : Nat) : Nat := (2 * a % 256) ^^^ (a / 128 * 27)
/-- The product by the second one's bits. -/
def mulN : Nat → Nat → Nat → Nat
  | 0, _, _ => 0
  | n + 1, a, b => (if b % 2 = 1 then a else 0) ^^^ mulN n (xt a) (b / 2)
def T (a b : Nat) : Nat := mulN 8 a b
theorem xor_lt {a b : Nat} (ha : a < 256) (hb : b < 256) : a ^^^ b < 256 := Nat.xor_lt_two_pow (n := 8) ha hb
theorem xt_lt {a : Nat} (h : a < 256) : xt a < 256 := xor_lt (Nat.mod_lt _ (by decide)) (by omega)
set_option maxRecDepth 100000 in
theorem xt_xor : ∀ a, a < 256 → ∀ b, b < 256 → xt (a ^^^ b) = xt a ^^^ xt b := by decide +kernel
theorem mulN_lt (n : Nat) {a : Nat} (h : a < 256) (b : Nat) : mulN n a b < 256 := by
  induction n generalizing a b with
  | zero => simp [mulN]
  | succ n ih => exact xor_lt (by split <;> omega) (ih (xt_lt h) _)
theorem T_lt {a : Nat} (h : a < 256) (b : Nat) : T a b < 256 := mulN_lt 8 h b
theorem xor4 (a b c d : Nat) : (a ^^^ b) ^^^ (c ^^^ d) = (a ^^^ c) ^^^ (b ^^^ d) := by
  rw [Nat.xor_assoc, Nat.xor_assoc, ← Nat.xor_assoc b, Nat.xor_comm b c, Nat.xor_assoc c]
theorem mulN_right (n a b c : Nat) : mulN n a (b ^^^ c) = mulN n a b ^^^ mulN n a c := by
  induction n generalizing a b c with
  | zero => simp [mulN]
  | succ n ih =>
    simp only [mulN]
    have e : (b ^^^ c) % 2 = (b % 2) ^^^ (c % 2) := Nat.xor_mod_two_pow (n := 1)
    rw [Nat.xor_div_two, ih, xor4, e]
    congr 1
    rcases Nat.mod_two_eq_zero_or_one b with hb | hb <;> rcases Nat.mod_two_eq_zero_or_one c with hc | hc
    all_goals rw [hb, hc]; simp
theorem mulN_left (n : Nat) {a b : Nat} (ha : a < 256) (hb : b < 256) (c : Nat) : mulN n (a ^^^ b) c = mulN n a c ^^^ mulN n b c := by
  induction n generalizing a b c with
  | zero => simp [mulN]
  | succ n ih =>
    simp only [mulN]
    rw [xt_xor a ha b hb, ih (xt_lt ha) (xt_lt hb), xor4]
    congr 1
    split <;> simp
theorem T_right (a b c : Nat) : T a (b ^^^ c) = T a b ^^^ T a c := mulN_right 8 a b c
theorem T_left {a b : Nat} (ha : a < 256) (hb : b < 256) (c : Nat) : T (a ^^^ b) c = T a c ^^^ T b c := mulN_left 8 ha hb c
/-- What goes through exclusive or is known by eight bytes. -/
def Adds (f : Nat → Nat) : Prop := ∀ a, a < 256 → ∀ b, b < 256 → f (a ^^^ b) = f a ^^^ f b
set_option maxRecDepth 100000 in
theorem bits_of : ∀ x, x < 256 → x = (x % 2 * 1) ^^^ ((x / 2 % 2 * 2) ^^^ ((x / 4 % 2 * 4) ^^^ ((x / 8 % 2 * 8) ^^^ ((x / 16 % 2 * 16) ^^^ ((x / 32 % 2 * 32) ^^^ ((x / 64 % 2 * 64) ^^^ (x / 128 % 2 * 128))))))) := by decide +kernel
theorem adds_zero {f : Nat → Nat} (h : Adds f) : f 0 = 0 := by
  have := h 0 (by decide) 0 (by decide)
  rw [Nat.xor_self, Nat.xor_self] at this; exact this
theorem adds_bit {f g : Nat → Nat} (hf : Adds f) (hg : Adds g) (p x : Nat) (h : f p = g p) : f (x % 2 * p) = g (x % 2 * p) := by
  rcases Nat.mod_two_eq_zero_or_one x with e | e
  · rw [e, Nat.zero_mul, adds_zero hf, adds_zero hg]
  · rw [e, Nat.one_mul, h]
theorem adds_eq {f g : Nat → Nat} (hf : Adds f) (hg : Adds g) (h1 : f 1 = g 1) (h2 : f 2 = g 2) (h4 : f 4 = g 4) (h8 : f 8 = g 8) (h16 : f 16 = g 16) (h32 : f 32 = g 32) (h64 : f 64 = g 64) (h128 : f 128 = g 128) (x : Nat) (hx : x < 256) : f x = g x := by
  have b0 : x % 2 * 1 < 256 := by omega
  have b1 : x / 2 % 2 * 2 < 256 := by omega
  have b2 : x / 4 % 2 * 4 < 256 := by omega
  have b3 : x / 8 % 2 * 8 < 256 := by omega
  have b4 : x / 16 % 2 * 16 < 256 := by omega
  have b5 : x / 32 % 2 * 32 < 256 := by omega
  have b6 : x / 64 % 2 * 64 < 256 := by omega
  have b7 : x / 128 % 2 * 128 < 256 := by omega
  have key : ∀ k : Nat → Nat, Adds k → k x = k (x % 2 * 1) ^^^ (k (x / 2 % 2 * 2) ^^^ (k (x / 4 % 2 * 4) ^^^ (k (x / 8 % 2 * 8) ^^^ (k (x / 16 % 2 * 16) ^^^ (k (x / 32 % 2 * 32) ^^^ (k (x / 64 % 2 * 64) ^^^ k (x / 128 % 2 * 128))))))) := by
    intro k hk
    have e7 := xor_lt b6 b7
    have e6 := xor_lt b5 e7
    have e5 := xor_lt b4 e6
    have e4 := xor_lt b3 e5
    have e3 := xor_lt b2 e4
    have e2 := xor_lt b1 e3
    rw [← hk _ b6 _ b7, ← hk _ b5 _ e7, ← hk _ b4 _ e6, ← hk _ b3 _ e5, ← hk _ b2 _ e4, ← hk _ b1 _ e3, ← hk _ b0 _ e2, ← bits_of x hx]
  rw [key f hf, key g hg, adds_bit hf hg 1 x h1, adds_bit hf hg 2 _ h2, adds_bit hf hg 4 _ h4, adds_bit hf hg 8 _ h8, adds_bit hf hg 16 _ h16, adds_bit hf hg 32 _ h32, adds_bit hf hg 64 _ h64, adds_bit hf hg 128 _ h128]
theorem adds_T_right (a : Nat) : Adds (T a) := fun b _ c _ => T_right a b c
theorem adds_T_left (c : Nat) : Adds (fun a => T a c) := fun _ ha _ hb => T_left ha hb c
theorem Adds.comp {f g : Nat → Nat} (hf : Adds f) (hg : Adds g) (hl : ∀ a, a < 256 → g a < 256) : Adds (fun a => f (g a)) := fun a ha b hb => by
  show f (g (a ^^^ b)) = _
  rw [hg a ha b hb, hf _ (hl a ha) _ (hl b hb)]
def pows : List Nat := [1, 2, 4, 8, 16, 32, 64, 128]
theorem adds_pows {f g : Nat → Nat} (hf : Adds f) (hg : Adds g) (h : ∀ p ∈ pows, f p = g p) (x : Nat) (hx : x < 256) : f x = g x :=
  adds_eq hf hg (h 1 (by decide)) (h 2 (by decide)) (h 4 (by decide)) (h 8 (by decide)) (h 16 (by decide)) (h 32 (by decide)) (h 64 (by decide)) (h 128 (by decide)) x hx
theorem pow_lt {p : Nat} (h : p ∈ pows) : p < 256 := by revert p; decide
theorem comm_pows : ∀ p ∈ pows, ∀ q ∈ pows, T p q = T q p := by decide +kernel
theorem assoc_pows : ∀ p ∈ pows, ∀ q ∈ pows, ∀ r ∈ pows, T (T p q) r = T p (T q r) := by decide +kernel
theorem T_comm {a b : Nat} (ha : a < 256) (hb : b < 256) : T a b = T b a := by
  refine adds_pows (adds_T_left b) (adds_T_right b) (fun p hp => ?_) a ha
  exact adds_pows (adds_T_right p) (adds_T_left p) (fun q hq => comm_pows p hp q hq) b hb
theorem T_assoc {a b c : Nat} (ha : a < 256) (hb : b < 256) (hc : c < 256) : T (T a b) c = T a (T b c) := by
  refine adds_pows (f := fun a => T (T a b) c) (g := fun a => T a (T b c)) ((adds_T_left c).comp (adds_T_left b) (fun a ha => T_lt ha b)) (adds_T_left _) (fun p hp => ?_) a ha
  refine adds_pows (f := fun b => T (T p b) c) (g := fun b => T p (T b c)) ((adds_T_left c).comp (adds_T_right p) (fun b _ => T_lt (pow_lt hp) b)) ((adds_T_right p).comp (adds_T_left c) (fun b hb => T_lt hb c)) (fun q hq => ?_) b hb
  exact adds_pows (f := fun c => T (T p q) c) (g := fun c => T p (T q c)) (adds_T_right _) ((adds_T_right p).comp (adds_T_right q) (fun c _ => T_lt (pow_lt hq) c)) (fun r hr => assoc_pows p hp q hq r hr) c hc
set_option maxRecDepth 100000 in
theorem T_one_two : ∀ a, a < 256 → T a 1 = a ∧ T a 2 = xt a := by decide +kernel
/-- The other one: the 254th power. -/
def sq (a : Nat) : Nat := T a a
def inv (a : Nat) : Nat :=
  let a2 := sq a
  let a4 := sq a2
  let a8 := sq a4
  let a16 := sq a8
  let a32 := sq a16
  let a64 := sq a32
  T (T (T a2 a4) (T a8 a16)) (T (T a32 a64) (sq a64))
set_option maxRecDepth 100000 in
theorem inv_facts : ∀ a, a < 256 → inv a < 256 ∧ (a ≠ 0 → T a (inv a) = 1) ∧ inv (inv a) = a ∧ (a = 0 → inv a = 0) := by decide +kernel
theorem T_zero (b : Nat) : T 0 b = 0 := by
  have := T_left (a := 0) (b := 0) (by decide) (by decide) b
  simpa using this
theorem inv_unique {a x : Nat} (ha : a < 256) (hx : x < 256) (h : T a x = 1) : x = inv a := by
  have h0 : a ≠ 0 := by rintro rfl; rw [T_zero] at h; cases h
  obtain ⟨hi, h1, _, _⟩ := inv_facts a ha
  calc x = T x 1 := ((T_one_two x hx).1).symm
    _ = T x (T a (inv a)) := by rw [h1 h0]
    _ = T (T x a) (inv a) := (T_assoc hx ha hi).symm
    _ = T 1 (inv a) := by rw [T_comm hx ha, h]
    _ = T (inv a) 1 := T_comm (by decide) hi
    _ = inv a := (T_one_two _ hi).1
/-- A byte swapped. -/
def rotl (y : Nat) : Nat := (2 * y % 256) ||| (y / 128)
def swapN (a : Nat) : Nat :=
  let y := inv a
  let y1 := rotl y
  let y2 := rotl y1
  let y3 := rotl y2
  ((((y ^^^ 99) ^^^ y1) ^^^ y2) ^^^ y3) ^^^ rotl y3
def swapT : List Nat := (List.range 256).map swapN
def backT : List Nat := (List.range 256).map fun x => (List.range 256).findIdx (fun a => swapN a == x)
set_option maxRecDepth 100000 in
theorem swap_facts : ∀ a, a < 256 → swapN a < 256 ∧ swapN a ≠ a := by decide +kernel
end Go.Proofs.Ytgdphdnghackfaa
