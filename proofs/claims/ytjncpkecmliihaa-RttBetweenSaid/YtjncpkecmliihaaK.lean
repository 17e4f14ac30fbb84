/- The walk of known (layer 7): it answers true, at every world; no condition. -/
import Derived.Test.YtjncpkecmliihaaG
namespace Go.Proofs.Ytjncpkecmliihaa
open Go.RowKit

theorem Hear_rtt_to (a b c : Int) (l : List Int) (x y z g : Int) (A : Option Addr) (n cap : Nat) (w : World) (h : HearsTo a b c l x y z g) (hl : Sl w w.heap.size .i64 A n l) (hn : n ≤ 1000000000000) :
    Calls Try.prog 9 #[.agg #[.int .i64 a, .int .i64 b, .int .i64 c], .slice A n cap] w fun e w' => e = .returned (.tuple #[.agg #[.int .i64 x, .int .i64 y, .int .i64 z], .int .i64 g]) ∧ Below w.heap.size w w' := by
  refine (Hear_rtt a b c l A n cap w hl hn).mono ?_
  rintro e w' ⟨a', b', c', f, rfl, hh, hb⟩
  obtain ⟨rfl, rfl, rfl, rfl⟩ := hh.one_way h
  exact ⟨rfl, hb⟩

theorem Sl.single (w : World) (v : Int) : Sl (w.alloc (.cells #[.int .i64 v] 3)) (w.heap.size + 1) .i64 (some ⟨w.heap.size, 0, none⟩) 1 [v] := by
  refine ⟨rfl, fun _ => ⟨_, _, rfl, Nat.lt_succ_self _, fun i hi => ?_⟩⟩
  obtain rfl : i = 0 := by omega
  rw [(Box.new w 3 #[.int .i64 v]).cell (0 + 0)]; rfl

theorem Sl.single' (w : World) (v : Int) (g B : Nat) (hg : w.heap.size = g) (hB : g + 1 = B) : Sl (w.alloc (.cells #[.int .i64 v] 3)) B .i64 (some ⟨g, 0, none⟩) 1 [v] := by
  subst hg; subst hB; exact Sl.single w v

theorem hears_one : HearsTo 0 0 0 [100] 1 800 200 0 := .inl ⟨by decide, by intro s hs; simp at hs; omega, by decide, rfl⟩
theorem hears_two : HearsTo 1 800 200 [180] 2 880 230 0 := .inl ⟨by decide, by intro s hs; simp at hs; omega, by decide, rfl⟩

set_option maxRecDepth 100000 in
set_option maxHeartbeats 1000000 in
theorem known_any (w : World) : Calls Try.prog 8 #[] w fun e w' => e = .returned (.bool true) ∧ Below w.heap.size w w' := by
  go_enter Try.func8, Try.ntmps8
  go_wp2_with fail
  refine (Hear_rtt_to 0 0 0 [100] 1 800 200 0 _ _ _ _ hears_one (Sl.single' _ 100 _ _ rfl (by simp)) (by omega)).mono ?_
  rintro e w1 ⟨rfl, hb1⟩
  simp only [World.size_alloc] at hb1
  have hz1 := hb1.size
  simp only [World.size_alloc] at hz1
  go_wp2_with fail
  refine (Hear_rtt_to 1 800 200 [180] 2 880 230 0 _ _ _ _ hears_two (Sl.single' _ 180 _ _ (by simp) (by simp)) (by omega)).mono ?_
  rintro e w2 ⟨rfl, hb2⟩
  have p2 := ((Box.new w1 23 #[.int .i64 1, .int .i64 800, .int .i64 200]).alloc (.cells #[.int .i64 180] 3)).keep hb2 (by simp <;> omega)
  have c0 := p2.cell 0; have c1 := p2.cell 1; have c2 := p2.cell 2
  have hz2 : w1.heap.size < w2.heap.size := by have := hb2.size; simp at this; omega
  go_wp2_with fail
  refine (Wait_rtt 1 800 200 _ 300 (by decide)).mono ?_
  rintro e w3 ⟨rfl, hb3⟩
  go_wp2_with fail
  refine (Wait_rtt 0 0 0 _ 1000 (by decide)).mono ?_
  rintro e w4 ⟨rfl, hb4⟩
  go_wp2_with fail
  go_ret
  refine ⟨rfl, ?_⟩
  refine ((Below.refl w.heap.size w).alloc (Nat.le_refl _) _).trans (Below.trans (hb1.mono (by omega)) ?_)
  refine (((Below.refl w.heap.size w1).alloc (by omega) _).alloc (by simp; omega) _).trans (Below.trans (hb2.mono (by simp; omega)) ?_)
  refine ((Below.refl w.heap.size w2).alloc (by omega) _).trans (Below.trans (hb3.mono (by simp; omega)) (hb4.mono ?_))
  have := hb3.size; simp at this; omega
end Go.Proofs.Ytjncpkecmliihaa
