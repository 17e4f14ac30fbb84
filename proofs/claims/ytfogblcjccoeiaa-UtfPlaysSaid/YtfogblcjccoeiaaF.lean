/- The walks of the small functions of layer 10: Form, New, Held. -/
import Derived.Test.YtfogblcjccoeiaaChecked
import Derived.Test.YtfogblcjccoeiaaM
import Derived.WalkLawsBesides
import Derived.WalkSpells
import Derived.Outline
namespace Go.Proofs.Ytfogblcjccoeiaa
open Go.RowKit

theorem i32_and63 {x : Int} (h₀ : 0 ≤ x) (h₁ : x < 2147483648) : bits .and .i32 x 63 = x % 64 := bits_mask .i32 31 (by decide) wraps_i32 6 (by decide) x h₀ h₁

/-- A fresh row of integers is returned. -/
def NewRow (e : TypeId) (k : IntKind) (zs : List Int) (w : World) : Ending → World → Prop := fun r w' =>
  ∃ A cap, r = .returned (.slice A zs.length cap) ∧ Own w' w.heap.size e k A zs.length cap zs ∧ Below w.heap.size w w'

theorem Own.lit {base : Nat} (w : World) (e : TypeId) (k : IntKind) (zs : List Int) (cs : Array Value) (hcs : cs.toList = zs.map (Value.int k)) (hb : base ≤ w.heap.size) (hm : zs.length ≤ maxLen) :
    Own (w.alloc (.cells cs e)) base e k (some ⟨w.heap.size, 0, none⟩) zs.length zs.length zs := by
  have h := World.ownsRow_lit (base := base) (e := e) (size := 1) w cs zs.length hb hm (by have := congrArg List.length hcs; simpa using this)
  unfold Own; rw [← hcs]; exact h

set_option maxRecDepth 100000 in
set_option maxHeartbeats 4000000 in
theorem Form_pt (c : Int) (w : World) (hc : isPt c) : Calls Try.prog 10 #[.int .i32 c] w (NewRow 5 .u8 (formL c) w) := by
  obtain ⟨h0, h1, h2⟩ := hc
  have hc : Kp (isPt c) := ⟨h0, h1, h2⟩
  have e0 : ¬ c < 0 := by omega
  have e1 : ¬ 1114111 < c := by omega
  by_cases a1 : c < 128
  · rw [formL_1 hc.out a1]
    have hw := Own.lit (base := w.heap.size) w 5 .u8 [c] #[.int .u8 c] rfl (Nat.le_refl _) (by simp [maxLen])
    go_enter Try.func10, Try.ntmps10
    go_wp2_with fail
    exact bodyPost_ret (v := .slice (some ⟨w.heap.size, 0, none⟩) 1 1) (by simp [results, Try.results10, go_sem]) rfl ⟨_, _, rfl, hw, (Below.refl _ _).alloc (Nat.le_refl _) _⟩
  by_cases a2 : c < 2048
  · rw [formL_2 hc.out (by omega) a2]
    have hw := Own.lit (base := w.heap.size) w 5 .u8 [192 + c / 64, 128 + c % 64] #[.int .u8 (192 + c / 64), .int .u8 (128 + c % 64)] rfl (Nat.le_refl _) (by simp [maxLen])
    have s1 := u8_or192 (y := c / 64) (by omega) (by omega)
    have q_a := i32_and63 (x := c) (by omega) (by omega)
    have r_a : c % 64 % 256 = c % 64 := by omega
    have t_a := u8_or128 (y := c % 64) (by omega) (by omega)
    go_enter Try.func10, Try.ntmps10
    go_wp2_with fail
    exact bodyPost_ret (v := .slice (some ⟨w.heap.size, 0, none⟩) 2 2) (by simp [results, Try.results10, go_sem]) rfl ⟨_, _, rfl, hw, (Below.refl _ _).alloc (Nat.le_refl _) _⟩
  by_cases a3 : c < 65536
  · rw [formL_3 hc.out (by omega) a3]
    have hw := Own.lit (base := w.heap.size) w 5 .u8 [224 + c / 4096, 128 + c / 64 % 64, 128 + c % 64] #[.int .u8 (224 + c / 4096), .int .u8 (128 + c / 64 % 64), .int .u8 (128 + c % 64)] rfl (Nat.le_refl _) (by simp [maxLen])
    have s1 := u8_or224 (y := c / 4096) (by omega) (by omega)
    have q_a := i32_and63 (x := c) (by omega) (by omega)
    have r_a : c % 64 % 256 = c % 64 := by omega
    have t_a := u8_or128 (y := c % 64) (by omega) (by omega)
    have q_b := i32_and63 (x := c / 64) (by omega) (by omega)
    have r_b : c / 64 % 64 % 256 = c / 64 % 64 := by omega
    have t_b := u8_or128 (y := c / 64 % 64) (by omega) (by omega)
    go_enter Try.func10, Try.ntmps10
    go_wp2_with fail
    all_goals exact bodyPost_ret (v := .slice (some ⟨w.heap.size, 0, none⟩) 3 3) (by simp [results, Try.results10, go_sem]) rfl ⟨_, _, rfl, hw, (Below.refl _ _).alloc (Nat.le_refl _) _⟩
  · rw [formL_4 hc.out (by omega)]
    have hw := Own.lit (base := w.heap.size) w 5 .u8 [240 + c / 262144, 128 + c / 4096 % 64, 128 + c / 64 % 64, 128 + c % 64] #[.int .u8 (240 + c / 262144), .int .u8 (128 + c / 4096 % 64), .int .u8 (128 + c / 64 % 64), .int .u8 (128 + c % 64)] rfl (Nat.le_refl _) (by simp [maxLen])
    have s1 := u8_or240 (y := c / 262144) (by omega) (by omega)
    have q_a := i32_and63 (x := c) (by omega) (by omega)
    have r_a : c % 64 % 256 = c % 64 := by omega
    have t_a := u8_or128 (y := c % 64) (by omega) (by omega)
    have q_b := i32_and63 (x := c / 64) (by omega) (by omega)
    have r_b : c / 64 % 64 % 256 = c / 64 % 64 := by omega
    have t_b := u8_or128 (y := c / 64 % 64) (by omega) (by omega)
    have q_d := i32_and63 (x := c / 4096) (by omega) (by omega)
    have r_d : c / 4096 % 64 % 256 = c / 4096 % 64 := by omega
    have t_d := u8_or128 (y := c / 4096 % 64) (by omega) (by omega)
    go_enter Try.func10, Try.ntmps10
    go_wp2_with fail
    exact bodyPost_ret (v := .slice (some ⟨w.heap.size, 0, none⟩) 4 4) (by simp [results, Try.results10, go_sem]) rfl ⟨_, _, rfl, hw, (Below.refl _ _).alloc (Nat.le_refl _) _⟩

set_option maxRecDepth 100000 in
set_option maxHeartbeats 4000000 in
theorem Form_to (c : Int) (w : World) : Calls Try.prog 10 #[.int .i32 c] w (NewRow 5 .u8 (formL c) w) := by
  by_cases hc : isPt c
  · exact Form_pt c w hc
  have hf : NewRow 5 .u8 (formL c) w = NewRow 5 .u8 (formL 65533) w := by rw [formL_none hc, formL_bad]
  rw [hf]
  unfold isPt at hc
  rcases (show c < 0 ∨ (0 ≤ c ∧ 1114111 < c) ∨ (0 ≤ c ∧ c ≤ 1114111 ∧ 55296 ≤ c ∧ c ≤ 57343) by omega) with h | ⟨h, h1⟩ | ⟨h, h1, h2, h3⟩
  all_goals
    clear hf hc
    go_enter Try.func10, Try.ntmps10
    go_wp2_with fail
    refine (Form_pt 65533 _ isPt_bad).mono ?_
    rintro _ w1 ⟨A, cap, rfl, hO, hB⟩
    go_wp2_with fail
    exact bodyPost_ret (v := .slice A (formL 65533).length cap) (by simp [results, Try.results10, go_sem]) rfl ⟨_, _, rfl, hO, hB⟩

set_option maxRecDepth 100000 in
theorem New_to (w : World) : Calls Try.prog 16 #[] w fun e w' => e = .returned (.pointer (some ⟨w.heap.size, 0, none⟩)) ∧ w' = w.alloc (.cells D.zero.cells 43) := by
  go_enter Try.func16, Try.ntmps16
  go_wp2_with fail
  exact bodyPost_ret (v := .pointer (some ⟨w.heap.size, 0, none⟩)) (by simp [results, Try.results16, go_sem]) rfl ⟨rfl, rfl⟩

set_option maxRecDepth 100000 in
theorem Held_to (d : D) (g : Nat) (w : World) (hb : Box w g 43 d.cells) : Calls Try.prog 20 #[.pointer (some ⟨g, 0, none⟩)] w fun e w' => e = .returned (.int .i64 d.had) ∧ Below w.heap.size w w' := by
  have c1 : w.cell? ⟨g, 1, none⟩ = some (.int .i64 d.had) := hb.cell 1
  have hl := hb.lt
  go_enter Try.func20, Try.ntmps20
  go_wp2_with fail
  exact bodyPost_ret (v := .int .i64 d.had) (by simp [results, Try.results20, go_sem]) rfl ⟨rfl, Below.refl _ _⟩
theorem Held_nil (w : World) : Calls Try.prog 20 #[.pointer none] w fun e w' => e = .returned (.int .i64 0) ∧ Below w.heap.size w w' := by
  go_enter Try.func20, Try.ntmps20
  go_wp2_with fail
  exact bodyPost_ret (v := .int .i64 0) (by simp [results, Try.results20, go_sem]) rfl ⟨rfl, Below.refl _ _⟩

end Go.Proofs.Ytfogblcjccoeiaa
