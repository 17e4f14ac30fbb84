/- The walk of the law RttHears (layer 7): true for every meter and every slice of samples, which stays as it was. -/
import Derived.Test.YtjncpkecmliihaaL1
import Derived.Test.YtjncpkecmliihaaC
import Derived.Deep.QuietTactic
import Derived.BigQuiet
import Derived.Deep.RegionHeld3
namespace Go.Proofs.Ytjncpkecmliihaa
open Go.RowKit
theorem info3 : (Try.prog.info? 3).map (fun i => (i.zero, i.size, i.bytes)) = some (some (.int .i64 0), 1, 8) := by kernel_rfl

structure HearsMem (w : World) (g3 g4 : Nat) (a b c x y z : Int) (bb : Nat) (A : Option Addr) (n cap : Nat) (l : List Int) (wr : World) : Prop where
  bm : Box wr w.heap.size 23 #[.int .i64 a, .int .i64 b, .int .i64 c]
  bx : Box wr g3 23 #[.int .i64 x, .int .i64 y, .int .i64 z]
  bz : Box wr g4 23 #[.int .i64 x, .int .i64 y, .int .i64 z]
  own : Own wr bb 3 .i64 A n cap l
  bel : Below w.heap.size w wr

theorem HearsMem.keep {w : World} {g3 g4 : Nat} {a b c x y z : Int} {bb : Nat} {A : Option Addr} {n cap : Nat} {l : List Int} {W W' : World} (h : HearsMem w g3 g4 a b c x y z bb A n cap l W) (hb : Below W.heap.size W W') : HearsMem w g3 g4 a b c x y z bb A n cap l W' :=
  ⟨h.bm.keep hb h.bm.lt, h.bx.keep hb h.bx.lt, h.bz.keep hb h.bz.lt, h.own.keep hb (Nat.le_refl _), h.bel.trans (hb.mono h.bel.size)⟩
theorem HearsMem.cells {w : World} {g3 g4 : Nat} {a b c x y z : Int} {bb : Nat} {A : Option Addr} {n cap : Nat} {l : List Int} {W : World} (h : HearsMem w g3 g4 a b c x y z bb A n cap l W) :
    HearsMem w g3 g4 a b c x y z bb A n cap l W ∧ W.cell? ⟨w.heap.size, 0, none⟩ = some (.int .i64 a) ∧ W.cell? ⟨w.heap.size, 1, none⟩ = some (.int .i64 b) ∧ W.cell? ⟨w.heap.size, 2, none⟩ = some (.int .i64 c) ∧
      W.cell? ⟨g3, 0, none⟩ = some (.int .i64 x) ∧ W.cell? ⟨g3, 1, none⟩ = some (.int .i64 y) ∧ W.cell? ⟨g3, 2, none⟩ = some (.int .i64 z) ∧
      W.cell? ⟨g4, 0, none⟩ = some (.int .i64 x) ∧ W.cell? ⟨g4, 1, none⟩ = some (.int .i64 y) ∧ W.cell? ⟨g4, 2, none⟩ = some (.int .i64 z) :=
  ⟨h, (h.bm.cell 0).trans (by rfl), (h.bm.cell 1).trans (by rfl), (h.bm.cell 2).trans (by rfl), (h.bx.cell 0).trans (by rfl), (h.bx.cell 1).trans (by rfl), (h.bx.cell 2).trans (by rfl), (h.bz.cell 0).trans (by rfl), (h.bz.cell 1).trans (by rfl), (h.bz.cell 2).trans (by rfl)⟩
theorem HearsMem.drew {w : World} {g3 g4 : Nat} {a b c x y z : Int} {bb : Nat} {A : Option Addr} {n cap : Nat} {l : List Int} {W : World} (h : HearsMem w g3 g4 a b c x y z bb A n cap l W) : HearsMem w g3 g4 a b c x y z bb A n cap l W.drew :=
  ⟨h.bm.drew, h.bx.drew, h.bz.drew, h.own.drew, h.bel.drew⟩

set_option maxRecDepth 100000 in
set_option maxHeartbeats 1000000 in
theorem hears_any (a b c : Int) (A : Option Addr) (n cap : Nat) (l : List Int) (w : World) (hl : SlIn w .i64 A n cap l) :
    Calls Try.prog 3 #[.agg #[.int .i64 a, .int .i64 b, .int .i64 c], .slice A n cap] w fun e w' => e = .returned (.bool true) ∧ Below w.heap.size w w' := by
  obtain ⟨i0, hi, hz0, hz1, hz2⟩ := info_parts info3
  obtain ⟨hs, hnc, hcm, _⟩ := hl
  have hn63 : n ≤ 9223372036854775807 := by unfold maxLen at hcm; omega
  have b0 := Box.new w 23 #[.int .i64 a, .int .i64 b, .int .i64 c]
  by_cases hbig : 500 < n
  · go_enter Try.func3, Try.ntmps3
    go_wp2_with fail
    refine (known_any _).mono ?_
    rintro e w1 ⟨rfl, hb⟩
    have hbl := ((Below.refl w.heap.size w).alloc (Nat.le_refl _) _).trans (hb.mono (by simp))
    go_wp2_with fail
    go_ret
    exact ⟨rfl, hbl⟩
  · go_enter Try.func3, Try.ntmps3
    go_wp2_with fail
    refine (known_any _).mono ?_
    rintro e w1 ⟨rfl, hb⟩
    have b1 := b0.keep hb (by simp)
    have hbl := ((Below.refl w.heap.size w).alloc (Nat.le_refl _) _).trans (hb.mono (by simp))
    have hz : w.heap.size < w1.heap.size := by have := hb.size; simp at this; omega
    have hs1 := hs.keep hbl (Nat.le_refl _)
    clear hb b0
    have hown0 : Own (w1.alloc (.cells #[] 3)) w1.heap.size 3 .i64 (some ⟨w1.heap.size, 0, none⟩) 0 0 [] := World.ownsRow_made w1 #[] 0 (Nat.le_refl _) (by simp [maxLen]) rfl
    have hsrc0 := hs1.keep ((Below.refl w.heap.size w1).alloc (by omega) (.cells #[] 3)) (Nat.le_refl _)
    go_wp2_with (at_builtin; refine wpList_append_ints rfl _ _ 24 rfl w1.heap.size 3 i0 (.int .i64 0) 8 Try.underlying24 hi hz0 hz1 hz2 rfl .i64 _ _ _ [] rfl hown0 w.heap.size _ _ _ l rfl hsrc0 ?c1 ?c2 ?c3 ?_)
    case c1 => unfold maxLen; omega
    case c2 => omega
    case c3 => simp
    intro A2 cap2 w2 hown hgrow _
    have hbl2 := ((hbl.alloc (by omega) (.cells #[] 3)).grown hgrow (by simp; omega) (fun k hk => by simp [Value.ownBlock] at hk; omega))
    have b2 := (b1.alloc (.cells #[] 3)).grown hgrow (by simp [Value.ownBlock]; omega)
    have hz2 : w1.heap.size < w2.heap.size := by have := hgrow.size; simp at this; omega
    have c0 := b2.cell 0; have c1 := b2.cell 1; have c2 := b2.cell 2
    clear hgrow hsrc0 hown0 hs1 b1 hbl
    go_wp2_with fail
    refine (Hear_rtt a b c l A2 n cap2 _ hown.sl (by omega)).mono ?_
    rintro e w3 ⟨x, y, z, f, rfl, hx, hb3⟩
    have hx := Lib.hid hx
    have b3 := b2.keep hb3 b2.lt
    have own3 := hown.keep hb3 (Nat.le_refl _)
    have hbl3 := hbl2.trans (hb3.mono hbl2.size)
    have hz3 : w.heap.size < w3.heap.size := b3.lt
    have c0 := b3.cell 0; have c1 := b3.cell 1; have c2 := b3.cell 2
    clear hb3 hown b2 hbl2
    go_wp2_with fail
    refine (Hear_ref a b c l A n cap _ ((hs.keep (hbl3.alloc (by omega) _) (Nat.le_refl _)).more (by simp; omega)) (by omega)).mono ?_
    rintro e w4 ⟨x', y', z', f', rfl, hx', hb4⟩
    obtain ⟨rfl, rfl, rfl, rfl⟩ := hx'.one_way hx.out
    have b4 := (b3.alloc (.cells #[.int .i64 x', .int .i64 y', .int .i64 z'] 23)).keep hb4 (by simp; omega)
    have p4 := (Box.new w3 23 #[.int .i64 x', .int .i64 y', .int .i64 z']).keep hb4 (by simp)
    have own4 := (own3.alloc (.cells #[.int .i64 x', .int .i64 y', .int .i64 z'] 23)).keep hb4 (Nat.le_refl _)
    have hbl4 := (hbl3.alloc (by omega) (.cells #[.int .i64 x', .int .i64 y', .int .i64 z'] 23)).trans (hb4.mono (by simp; omega))
    have hz4 : w3.heap.size < w4.heap.size := p4.lt
    clear hb4 own3 b3 hbl3 c0 c1 c2 hx' hx
    have b5 := b4.alloc (.cells #[.int .i64 x', .int .i64 y', .int .i64 z'] 23)
    have p5 := p4.alloc (.cells #[.int .i64 x', .int .i64 y', .int .i64 z'] 23)
    have q5 := Box.new w4 23 #[.int .i64 x', .int .i64 y', .int .i64 z']
    have own5 := own4.alloc (.cells #[.int .i64 x', .int .i64 y', .int .i64 z'] 23)
    have hbl5 := hbl4.alloc (by omega) (.cells #[.int .i64 x', .int .i64 y', .int .i64 z'] 23)
    have hz5 := World.size_alloc w4 (.cells #[.int .i64 x', .int .i64 y', .int .i64 z'] 23)
    go_wp2_with fail
    generalize hW5 : w4.alloc (.cells #[.int .i64 x', .int .i64 y', .int .i64 z'] 23) = w5 at *
    clear hW5 b4 p4 own4 hbl4
    go_loopw [10] (fun i wr => ∃ k : Nat, i = .int .i64 k ∧ k ≤ n ∧ HearsMem w w3.heap.size w4.heap.size a b c x' y' z' w1.heap.size A2 n cap2 l wr) (fun i _ => n - (intOf i).toNat)
    case atStart => exact ⟨0, rfl, Nat.zero_le _, b5, p5, q5, own5, hbl5⟩
    case round =>
      obtain ⟨k, rfl, hk, hM⟩ := hrel
      by_cases hlt : k < n
      · obtain ⟨bk, o, rfl, hbk, hc⟩ := hs.2 (by omega)
        have hck := hM.bel.cell (p := ⟨bk, o + k, none⟩) hbk
        rw [hc k hlt] at hck
        obtain ⟨g, oo, rfl, hg, hcg⟩ := hM.own.sl.2 (by omega)
        have hgk := hcg k hlt
        generalize hsk : l[k]?.getD 0 = s at hck hgk
        clear hc hcg hsk
        go_wp2_with fail
        go_quiet (fail)
        go_wp2_with fail
        go_roundw
        case rel =>
          exact ⟨k + 1, by go_num, by omega, hM.bm.drewN _, hM.bx.drewN _, hM.bz.drewN _, hM.own.drewN _, below_drewN hM.bel _⟩
        case measure => simp [intOf]; omega
      · go_wp2_with fail
        obtain ⟨v, hv⟩ : ∃ v, mayB a b c = v := ⟨_, rfl⟩
        have hv := Lib.hid hv
        go_region_held3 (fun W => HearsMem w w3.heap.size w4.heap.size a b c x' y' z' w1.heap.size A2 n cap2 l W ∧ W.cell? ⟨w.heap.size, 0, none⟩ = some (.int .i64 a) ∧ W.cell? ⟨w.heap.size, 1, none⟩ = some (.int .i64 b) ∧ W.cell? ⟨w.heap.size, 2, none⟩ = some (.int .i64 c) ∧
            W.cell? ⟨w3.heap.size, 0, none⟩ = some (.int .i64 x') ∧ W.cell? ⟨w3.heap.size, 1, none⟩ = some (.int .i64 y') ∧ W.cell? ⟨w3.heap.size, 2, none⟩ = some (.int .i64 z') ∧
            W.cell? ⟨w4.heap.size, 0, none⟩ = some (.int .i64 x') ∧ W.cell? ⟨w4.heap.size, 1, none⟩ = some (.int .i64 y') ∧ W.cell? ⟨w4.heap.size, 2, none⟩ = some (.int .i64 z'))
          (first | exact (HearsMem.keep (And.left (by assumption)) (by assumption)).cells | exact hM.drew.cells)
          (first | (go_at_call 11; refine (May_rtt a b c _ v hv.out).mono ?_; rintro e w' ⟨rfl, hb⟩) | (go_at_call 12; refine (May_ref a b c _ v hv.out).mono ?_; rintro e w' ⟨rfl, hb⟩))
        all_goals
          go_wp2_with fail
          go_ret
          refine ⟨rfl, HearsMem.bel (g3 := w3.heap.size) (g4 := w4.heap.size) (a := a) (b := b) (c := c) (x := x') (y := y') (z := z') (bb := w1.heap.size) (A := A2) (n := n) (cap := cap2) (l := l) ?_⟩
          exact And.left (by assumption)
end Go.Proofs.Ytjncpkecmliihaa
