/- The walk of the law RttWaits (layer 7): true for every meter; no condition. -/
import Derived.Test.YtjncpkecmliihaaK
import Derived.Deep.RegionHeld3
namespace Go.Proofs.Ytjncpkecmliihaa
open Go.RowKit

theorem keep3 {B : Nat} {a b c : Value} {w W W' : World} (h : W.cell? ⟨B, 0, none⟩ = some a ∧ W.cell? ⟨B, 1, none⟩ = some b ∧ W.cell? ⟨B, 2, none⟩ = some c ∧ B < W.heap.size ∧ Below B w W) (hb : Below W.heap.size W W') :
    W'.cell? ⟨B, 0, none⟩ = some a ∧ W'.cell? ⟨B, 1, none⟩ = some b ∧ W'.cell? ⟨B, 2, none⟩ = some c ∧ B < W'.heap.size ∧ Below B w W' :=
  ⟨(hb.cell (p := ⟨B, 0, none⟩) h.2.2.2.1).trans h.1, (hb.cell (p := ⟨B, 1, none⟩) h.2.2.2.1).trans h.2.1, (hb.cell (p := ⟨B, 2, none⟩) h.2.2.2.1).trans h.2.2.1, Nat.lt_of_lt_of_le h.2.2.2.1 hb.size, h.2.2.2.2.trans (hb.mono (Nat.le_of_lt h.2.2.2.1))⟩

theorem below3 {B : Nat} {a b c : Value} {w W : World} (h : W.cell? ⟨B, 0, none⟩ = some a ∧ W.cell? ⟨B, 1, none⟩ = some b ∧ W.cell? ⟨B, 2, none⟩ = some c ∧ B < W.heap.size ∧ Below B w W) : Below B w W := h.2.2.2.2

set_option maxRecDepth 100000 in
set_option maxHeartbeats 1000000 in
theorem waits_any (a b c : Int) (w : World) : Calls Try.prog 4 #[.agg #[.int .i64 a, .int .i64 b, .int .i64 c]] w fun e w' => e = .returned (.bool true) ∧ Below w.heap.size w w' := by
  obtain ⟨mean, hmean⟩ : ∃ v, meanOf a b c = v := ⟨_, rfl⟩
  obtain ⟨wait, hwait⟩ : ∃ v, waitOf a b c = v := ⟨_, rfl⟩
  have hmean := Lib.hid hmean
  have hwait := Lib.hid hwait
  have hS : ((w.alloc (.cells #[.int .i64 a, .int .i64 b, .int .i64 c] 23)).drew).cell? ⟨w.heap.size, 0, none⟩ = some (.int .i64 a) ∧ ((w.alloc (.cells #[.int .i64 a, .int .i64 b, .int .i64 c] 23)).drew).cell? ⟨w.heap.size, 1, none⟩ = some (.int .i64 b) ∧
      ((w.alloc (.cells #[.int .i64 a, .int .i64 b, .int .i64 c] 23)).drew).cell? ⟨w.heap.size, 2, none⟩ = some (.int .i64 c) ∧ w.heap.size < ((w.alloc (.cells #[.int .i64 a, .int .i64 b, .int .i64 c] 23)).drew).heap.size ∧ Below w.heap.size w ((w.alloc (.cells #[.int .i64 a, .int .i64 b, .int .i64 c] 23)).drew) := by
    have hB := Box.new w 23 #[.int .i64 a, .int .i64 b, .int .i64 c]
    exact ⟨(hB.cell 0).trans (by rfl), (hB.cell 1).trans (by rfl), (hB.cell 2).trans (by rfl), hB.lt, ((Below.refl _ _).alloc (Nat.le_refl _) _).drew⟩
  have HS := Lib.hid hS; clear hS
  go_enter Try.func4, Try.ntmps4
  go_wp2_with fail
  go_region_held3 (fun W => W.cell? ⟨w.heap.size, 0, none⟩ = some (.int .i64 a) ∧ W.cell? ⟨w.heap.size, 1, none⟩ = some (.int .i64 b) ∧ W.cell? ⟨w.heap.size, 2, none⟩ = some (.int .i64 c) ∧ w.heap.size < W.heap.size ∧ Below w.heap.size w W)
    (first | exact keep3 (by assumption) (by assumption) | exact HS.out)
    (first | (go_at_call 13; refine (Mean_rtt a b c _ mean hmean.out).mono ?_; rintro e w' ⟨rfl, hb⟩) | (go_at_call 14; refine (Mean_ref a b c _ mean hmean.out).mono ?_; rintro e w' ⟨rfl, hb⟩) | (go_at_call 15; refine (Wait_rtt a b c _ wait hwait.out).mono ?_; rintro e w' ⟨rfl, hb⟩) | (go_at_call 16; refine (Wait_ref a b c _ wait hwait.out).mono ?_; rintro e w' ⟨rfl, hb⟩) | (go_at_call 8; refine (known_any _).mono ?_; rintro e w' ⟨rfl, hb⟩))
  go_wp2_with fail
  go_ret
  exact ⟨rfl, below3 (a := .int .i64 a) (b := .int .i64 b) (c := .int .i64 c) (by assumption)⟩
end Go.Proofs.Ytjncpkecmliihaa
