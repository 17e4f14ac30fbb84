/- The walks of the reference's Point and Form (layer 10), and the string of a row of bytes. Printed by genJ.py. -/
import Derived.Test.YtfogblcjccoeiaaI
import Derived.Laws.BytesArg
namespace Go.Proofs.Ytfogblcjccoeiaa
open Go.RowKit

theorem ret_bool {a b : Bool} (h : a = b) : Ending.returned (.bool a) = .returned (.bool b) := by rw [h]
set_option maxRecDepth 100000 in
theorem Point_to (c : Int) (w : World) (v : Bool) (hv : decide (isPt c) = v) : Calls Try.prog 23 #[.int .i32 c] w fun e w' => e = .returned (.bool v) ∧ w = w' := by
  unfold isPt at hv
  go_enter Try.func23, Try.ntmps23
  go_wp2_with fail
  all_goals
    go_ret
    refine ⟨ret_bool ?_, rfl⟩
    rw [← hv]
    first
    | exact (decide_eq_true (by omega)).symm
    | exact (decide_eq_false (by omega)).symm
    | (rw [Bool.eq_iff_iff]; refine Iff.trans ?_ decide_eq_true_iff.symm; simp only [Bool.or_eq_true, decide_eq_true_eq]; omega)

set_option maxRecDepth 100000 in
set_option maxHeartbeats 4000000 in
theorem RForm_to (c : Int) (w : World) : Calls Try.prog 11 #[.int .i32 c] w (NewRow 5 .u8 (formL c) w) := by
  by_cases hc : isPt c
  · obtain ⟨h0, h1, h2⟩ := hc
    have hc : Kp (isPt c) := ⟨h0, h1, h2⟩
    by_cases a1 : c < 128
    · rw [formL_1 hc.out a1]
      have hw := Own.lit (base := w.heap.size) w 5 .u8 [c] #[.int .u8 (c)] rfl (Nat.le_refl _) (by simp [maxLen])
      go_enter Try.func11, Try.ntmps11
      go_wp2_with fail
      refine (Point_to c _ true (decide_eq_true hc.out)).mono ?_
      rintro _ _ ⟨rfl, rfl⟩
      go_wp2_with fail
      all_goals exact bodyPost_ret (v := .slice (some ⟨w.heap.size, 0, none⟩) 1 1) (by simp [results, Try.results11, go_sem]) rfl ⟨_, _, rfl, hw, (Below.refl _ _).alloc (Nat.le_refl _) _⟩
    by_cases a2 : c < 2048
    · rw [formL_2 hc.out (by omega) a2]
      have hw := Own.lit (base := w.heap.size) w 5 .u8 [192 + c / 64, 128 + c % 64] #[.int .u8 (192 + c / 64), .int .u8 (128 + c % 64)] rfl (Nat.le_refl _) (by simp [maxLen])
      go_enter Try.func11, Try.ntmps11
      go_wp2_with fail
      refine (Point_to c _ true (decide_eq_true hc.out)).mono ?_
      rintro _ _ ⟨rfl, rfl⟩
      go_wp2_with fail
      all_goals exact bodyPost_ret (v := .slice (some ⟨w.heap.size, 0, none⟩) 2 2) (by simp [results, Try.results11, go_sem]) rfl ⟨_, _, rfl, hw, (Below.refl _ _).alloc (Nat.le_refl _) _⟩
    by_cases a3 : c < 65536
    · rw [formL_3 hc.out (by omega) a3]
      have hw := Own.lit (base := w.heap.size) w 5 .u8 [224 + c / 4096, 128 + c / 64 % 64, 128 + c % 64] #[.int .u8 (224 + c / 4096), .int .u8 (128 + c / 64 % 64), .int .u8 (128 + c % 64)] rfl (Nat.le_refl _) (by simp [maxLen])
      go_enter Try.func11, Try.ntmps11
      go_wp2_with fail
      refine (Point_to c _ true (decide_eq_true hc.out)).mono ?_
      rintro _ _ ⟨rfl, rfl⟩
      go_wp2_with fail
      all_goals exact bodyPost_ret (v := .slice (some ⟨w.heap.size, 0, none⟩) 3 3) (by simp [results, Try.results11, go_sem]) rfl ⟨_, _, rfl, hw, (Below.refl _ _).alloc (Nat.le_refl _) _⟩
    · rw [formL_4 hc.out (by omega)]
      have hw := Own.lit (base := w.heap.size) w 5 .u8 [240 + c / 262144, 128 + c / 4096 % 64, 128 + c / 64 % 64, 128 + c % 64] #[.int .u8 (240 + c / 262144), .int .u8 (128 + c / 4096 % 64), .int .u8 (128 + c / 64 % 64), .int .u8 (128 + c % 64)] rfl (Nat.le_refl _) (by simp [maxLen])
      go_enter Try.func11, Try.ntmps11
      go_wp2_with fail
      refine (Point_to c _ true (decide_eq_true hc.out)).mono ?_
      rintro _ _ ⟨rfl, rfl⟩
      go_wp2_with fail
      all_goals exact bodyPost_ret (v := .slice (some ⟨w.heap.size, 0, none⟩) 4 4) (by simp [results, Try.results11, go_sem]) rfl ⟨_, _, rfl, hw, (Below.refl _ _).alloc (Nat.le_refl _) _⟩
  · rw [formL_none hc]
    have hw := Own.lit (base := w.heap.size) w 5 .u8 [239, 191, 189] #[.int .u8 239, .int .u8 191, .int .u8 189] rfl (Nat.le_refl _) (by simp [maxLen])
    replace hc := Kp.mk hc
    go_enter Try.func11, Try.ntmps11
    go_wp2_with fail
    refine (Point_to c _ false (decide_eq_false hc.out)).mono ?_
    rintro _ _ ⟨rfl, rfl⟩
    go_wp2_with fail
    exact bodyPost_ret (v := .slice (some ⟨w.heap.size, 0, none⟩) 3 3) (by simp [results, Try.results11, go_sem]) rfl ⟨_, _, rfl, hw, (Below.refl _ _).alloc (Nat.le_refl _) _⟩

theorem strOf {w : World} {B : Nat} {A : Option Addr} {n cap : Nat} {zs : List Int} (h : Sl w B .u8 A n zs) : (convert 22 9 (.slice A n cap)).run Try.prog w = .ok (.string (strOfNums zs)) w := by
  rcases Nat.eq_zero_or_pos n with h0 | h0
  · subst h0
    have hz : zs = [] := List.eq_nil_of_length_eq_zero h.1
    subst hz
    cases A with
    | none => exact run_convert_bytes_nil w 22 5 Try.underlying22 Try.underlying5 0 cap 9 Try.underlying9
    | some a => 
      rw [run_convert_bytes_string w 22 9 5 _ 0 cap Try.underlying22 Try.underlying5 Try.underlying9, run_bytesToString w a 0 cap [] (by simp [loadCells, loadCellsFrom])]
      rfl
  · obtain ⟨b, o, rfl, hb, hc⟩ := h.2 h0
    exact run_convert_bytes_arg w 22 5 Try.underlying22 Try.underlying5 b o n cap zs h.1 (fun i hi => by rw [hc i hi]; simp [List.getD]) 9 Try.underlying9
end Go.Proofs.Ytfogblcjccoeiaa
