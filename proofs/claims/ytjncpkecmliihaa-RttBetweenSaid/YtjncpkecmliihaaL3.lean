/- The walk of the law RttCalm (layer 7): true for every sample; no condition. -/
import Derived.Test.YtjncpkecmliihaaL2
import Derived.Test.YtjncpkecmliihaaN
namespace Go.Proofs.Ytjncpkecmliihaa
open Go.RowKit

theorem keepC {B0 g : Nat} {a b c : Value} {w W W' : World} (h : W.cell? ⟨g, 0, none⟩ = some a ∧ W.cell? ⟨g, 1, none⟩ = some b ∧ W.cell? ⟨g, 2, none⟩ = some c ∧ g < W.heap.size ∧ B0 ≤ g ∧ Below B0 w W) (hb : Below W.heap.size W W') :
    W'.cell? ⟨g, 0, none⟩ = some a ∧ W'.cell? ⟨g, 1, none⟩ = some b ∧ W'.cell? ⟨g, 2, none⟩ = some c ∧ g < W'.heap.size ∧ B0 ≤ g ∧ Below B0 w W' :=
  ⟨(hb.cell (p := ⟨g, 0, none⟩) h.2.2.2.1).trans h.1, (hb.cell (p := ⟨g, 1, none⟩) h.2.2.2.1).trans h.2.1, (hb.cell (p := ⟨g, 2, none⟩) h.2.2.2.1).trans h.2.2.1, Nat.lt_of_lt_of_le h.2.2.2.1 hb.size, h.2.2.2.2.1,
    h.2.2.2.2.2.trans (hb.mono (Nat.le_trans h.2.2.2.2.1 (Nat.le_of_lt h.2.2.2.1)))⟩
theorem belowC {B0 g : Nat} {a b c : Value} {w W : World} (h : W.cell? ⟨g, 0, none⟩ = some a ∧ W.cell? ⟨g, 1, none⟩ = some b ∧ W.cell? ⟨g, 2, none⟩ = some c ∧ g < W.heap.size ∧ B0 ≤ g ∧ Below B0 w W) : Below B0 w W := h.2.2.2.2.2

structure Kp (p : Prop) : Prop where
  out : p

structure MeanIs (k : Nat) (s q : Int) : Prop where
  out : meanOf (k + 1) (8 * s) q = s

structure WaitIs (s q : Int) : Prop where
  out : waitOf 100 (8 * s) q = max 50 (min (s + q) 1000)

structure CalmMem (w : World) (gm : Nat) (s : Int) (k : Nat) (off : Int) (wr : World) : Prop where
  le : k ≤ 100
  m : ∃ x y z : Int, CalmAt s k x y z ∧ Box wr gm 23 #[.int .i64 x, .int .i64 y, .int .i64 z]
  off : off = calm s (k - 1)
  bel : Below w.heap.size w wr
  gm : w.heap.size ≤ gm

set_option maxRecDepth 100000 in
set_option maxHeartbeats 1000000 in
theorem calm_any (s : Int) (w : World) : Calls Try.prog 6 #[.int .i64 s] w fun e w' => e = .returned (.bool true) ∧ Below w.heap.size w w' := by
  by_cases hout : s < 0 ∨ 60000 < s
  · rcases hout with hs | hs
    all_goals
      go_enter Try.func6, Try.ntmps6
      go_wp2_with fail
      refine (known_any _).mono ?_
      rintro e w1 ⟨rfl, hb⟩
      go_wp2_with fail
      go_ret
      exact ⟨rfl, hb⟩
  · have h0 : 0 ≤ s := by omega
    have h1 : s ≤ 60000 := by omega
    clear hout
    go_enter Try.func6, Try.ntmps6
    go_wp2_with fail
    refine (known_any _).mono ?_
    rintro e w1 ⟨rfl, hb⟩
    have b1 := Box.new w1 23 #[.int .i64 0, .int .i64 0, .int .i64 0]
    have hbl1 := hb.alloc hb.size (.cells #[.int .i64 0, .int .i64 0, .int .i64 0] 23)
    have hz := hb.size
    go_wp2_with fail
    go_loopw [4, 5] (fun off i wr => ∃ k : Nat, ∃ o : Int, i = .int .i64 k ∧ off = .int .i64 o ∧ CalmMem w w1.heap.size s k o wr) (fun _ i _ => 100 - (intOf i).toNat)
    case atStart => exact ⟨0, 2 * s, rfl, rfl, Nat.zero_le _, ⟨0, 0, 0, .inl ⟨rfl, rfl, rfl, rfl⟩, b1⟩, rfl, hbl1, hz⟩
    case round =>
      obtain ⟨k, o, rfl, rfl, hk, ⟨x, y, z, hat, hB⟩, ho, hbl, hgm⟩ := hrel
      replace ho := Lib.hid ho
      by_cases hlt : k < 100
      · have hh := Lib.hid (calm_round s h0 h1 k hlt x y z hat)
        have hmean0 := calm_mean s h0 h1 k hlt
        have hh0 := calm_round s h0 h1 k hlt x y z hat
        have hfall : calm s k ≤ o := by rw [ho.out]; exact calm_fall s h0 k
        replace hat := Lib.hid hat
        obtain ⟨q, hq⟩ : ∃ q, calm s k = q := ⟨_, rfl⟩
        rw [hq] at hh0 hmean0 hfall
        replace hq := Lib.hid hq
        have hmean : MeanIs k s q := ⟨hmean0⟩
        clear hmean0
        have hh := Lib.hid hh0; clear hh0
        have c0 := hB.cell 0; have c1 := hB.cell 1; have c2 := hB.cell 2
        have hglt : w1.heap.size < wr.heap.size := hB.lt
        go_wp2_with fail
        refine (Hear_rtt_to x y z [s] _ _ _ _ _ _ _ _ hh.out (Sl.single' _ s _ _ (by simp) (by simp)) (by omega)).mono ?_
        rintro e w2 ⟨rfl, hb2⟩
        have hB2 := (hB.alloc (.cells #[.int .i64 s] 3)).keep hb2 (by simp; omega)
        have hbl2 := (hbl.alloc (by omega) (.cells #[.int .i64 s] 3)).trans (hb2.mono (by simp; omega))
        have hglt2 : w1.heap.size < w2.heap.size := hB2.lt
        clear hb2 c0 c1 c2
        have hB3 := hB2.alloc (.cells #[.int .i64 (k + 1), .int .i64 (8 * s), .int .i64 q] 23)
        have hX3 := Box.new w2 23 #[.int .i64 (k + 1), .int .i64 (8 * s), .int .i64 q]
        go_wp2_with fail
        refine (Mean_rtt _ _ _ _ s hmean.1).mono ?_
        rintro e w3 ⟨rfl, hb3⟩
        have hB4 := hB3.keep hb3 (by simp; omega)
        have hX4 := hX3.keep hb3 (by simp)
        have hbl4 := (hbl2.alloc (by omega) (.cells #[.int .i64 (k + 1), .int .i64 (8 * s), .int .i64 q] 23)).trans (hb3.mono (by simp; omega))
        have c0 := hX4.cell 0; have c1 := hX4.cell 1; have c2 := hX4.cell 2
        have f0 := hB4.frozen 0; have f1 := hB4.frozen 1; have f2 := hB4.frozen 2
        have d0 := hB4.cell 0; have d1 := hB4.cell 1; have d2 := hB4.cell 2
        clear hb3
        go_wp2_with fail
        go_region
        all_goals
          go_wp2_with fail
          go_roundw
          case rel =>
            refine ⟨k + 1, q, by go_num, rfl, hlt, ⟨k + 1, 8 * s, q, .inr ⟨by omega, by omega, rfl, by rw [← hq.out]; rfl⟩, ?_⟩, by rw [← hq.out]; rfl, ?_, hgm⟩
            · simpa using (((hB4.put 0 (.int .i64 (k + 1))).put 1 (.int .i64 (8 * s))).put 2 (.int .i64 q)).drew
            · repeat (first | exact hbl4 | refine Below.drew ?_ | refine Below.setCell ?_ (by simp <;> omega) _)
          case measure => simp [intOf]; omega
      · obtain rfl : k = 100 := by omega
        rcases hat with ⟨h, _⟩ | ⟨_, rfl, rfl, rfl⟩
        · omega
        obtain ⟨q, hq⟩ : ∃ q, calm s 99 = q := ⟨_, rfl⟩
        have hw := calm_wait s h0 h1
        have hq3 := calm_end s h1
        have hq0 := calm_lo s h0 99
        have hB' : Box wr w1.heap.size 23 #[.int .i64 100, .int .i64 (8 * s), .int .i64 q] := by rw [← hq]; exact hB
        rw [hq] at hw hq3 hq0
        have hw' : WaitIs s q := ⟨hw⟩
        clear hq hw hB
        go_wp2_with fail
        have hS : wr.drew.cell? ⟨w1.heap.size, 0, none⟩ = some (.int .i64 100) ∧ wr.drew.cell? ⟨w1.heap.size, 1, none⟩ = some (.int .i64 (8 * s)) ∧ wr.drew.cell? ⟨w1.heap.size, 2, none⟩ = some (.int .i64 q) ∧ w1.heap.size < wr.drew.heap.size ∧ w.heap.size ≤ w1.heap.size ∧ Below w.heap.size w wr.drew :=
          ⟨(hB'.cell 0).trans (by rfl), (hB'.cell 1).trans (by rfl), (hB'.cell 2).trans (by rfl), hB'.lt, hgm, hbl.drew⟩
        replace hS := Kp.mk hS
        have hcase : ((¬ 50 < s + q ∧ ¬ 1000 < s + q) ∧ waitOf 100 (8 * s) q = 50) ∨ ((50 < s + q ∧ ¬ 1000 < s + q) ∧ waitOf 100 (8 * s) q = s + q) ∨ ((50 < s + q ∧ 1000 < s + q) ∧ waitOf 100 (8 * s) q = 1000) := by
          have := hw'.out; omega
        have hwrap : IntKind.i64.wrap (s + q) = s + q := IntWalk.i64_in _ (by omega)
        rcases hcase with ⟨⟨hc, hd⟩, hv⟩ | ⟨⟨hc, hd⟩, hv⟩ | ⟨⟨hc, hd⟩, hv⟩
        all_goals
          replace hv := Kp.mk hv
          go_region_held3 (fun W => W.cell? ⟨w1.heap.size, 0, none⟩ = some (.int .i64 100) ∧ W.cell? ⟨w1.heap.size, 1, none⟩ = some (.int .i64 (8 * s)) ∧ W.cell? ⟨w1.heap.size, 2, none⟩ = some (.int .i64 q) ∧ w1.heap.size < W.heap.size ∧ w.heap.size ≤ w1.heap.size ∧ Below w.heap.size w W)
            (first | assumption | exact keepC (by assumption) (by assumption) | exact hS.out)
            (first | (go_at_call 15; refine (Wait_rtt _ _ _ _ _ hv.out).mono ?_; rintro e w' ⟨rfl, hb⟩))
          all_goals
            go_wp2_with fail
            go_ret
            exact ⟨rfl, belowC (g := w1.heap.size) (a := .int .i64 100) (b := .int .i64 (8 * s)) (c := .int .i64 q) (by assumption)⟩
end Go.Proofs.Ytjncpkecmliihaa
