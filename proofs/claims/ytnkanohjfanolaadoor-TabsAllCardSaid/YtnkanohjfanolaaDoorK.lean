/- The walk of known (layer 16), and answers of the small functions by what they are; the library's table lies in its variable. -/
import Derived.Test.YtnkanohjfanolaaDoorR
import Derived.Test.YtnkanohjfanolaaDoorS
import Derived.Deep.RegionHeld3
namespace Go.Proofs.YtnkanohjfanolaaDoor
open Go.RowKit

theorem Next_tabs_to (t : T4) (x cols r : Int) (w : World) (ht : t.Ok) (hT : Tab w) (h : NextIs t x (clampC cols) r) :
    Calls Tryd.prog 8 #[.agg #[.int .u64 t.a, .int .u64 t.b, .int .u64 t.c, .int .u64 t.d], .int .i64 x, .int .i64 cols] w fun e w' => e = .returned (.int .i64 r) ∧ Below w.heap.size w w' :=
  (Next_tabs t x cols w ht hT).mono fun e w' ⟨s, he, hs, hb⟩ => ⟨by rw [he, hs.one h], hb⟩
theorem Next_ref_to (t : T4) (x cols r : Int) (w : World) (ht : t.Ok) (h : NextIs t x (clampC cols) r) :
    Calls Tryd.prog 9 #[.agg #[.int .u64 t.a, .int .u64 t.b, .int .u64 t.c, .int .u64 t.d], .int .i64 x, .int .i64 cols] w fun e w' => e = .returned (.int .i64 r) ∧ Below w.heap.size w w' :=
  (Next_ref t x cols w ht).mono fun e w' ⟨s, he, hs, hb⟩ => ⟨by rw [he, hs.one h], hb⟩
theorem Back_tabs_to (t : T4) (x r : Int) (w : World) (ht : t.Ok) (hT : Tab w) (h : BackIs t x r) :
    Calls Tryd.prog 10 #[.agg #[.int .u64 t.a, .int .u64 t.b, .int .u64 t.c, .int .u64 t.d], .int .i64 x] w fun e w' => e = .returned (.int .i64 r) ∧ Below w.heap.size w w' :=
  (Back_tabs t x w ht hT).mono fun e w' ⟨s, he, hs, hb⟩ => ⟨by rw [he, hs.one h], hb⟩
theorem Back_ref_to (t : T4) (x r : Int) (w : World) (ht : t.Ok) (h : BackIs t x r) :
    Calls Tryd.prog 11 #[.agg #[.int .u64 t.a, .int .u64 t.b, .int .u64 t.c, .int .u64 t.d], .int .i64 x] w fun e w' => e = .returned (.int .i64 r) ∧ Below w.heap.size w w' :=
  (Back_ref t x w ht).mono fun e w' ⟨s, he, hs, hb⟩ => ⟨by rw [he, hs.one h], hb⟩
theorem Wider_tabs_to (t : T4) (fr to : Int) (u : T4) (w : World) (ht : t.Ok) (h : Wides t fr to 200 u) :
    Calls Tryd.prog 21 #[.agg #[.int .u64 t.a, .int .u64 t.b, .int .u64 t.c, .int .u64 t.d], .int .i64 fr, .int .i64 to] w fun e w' => e = .returned (.agg #[.int .u64 u.a, .int .u64 u.b, .int .u64 u.c, .int .u64 u.d]) ∧ Below w.heap.size w w' :=
  (Wider_tabs t fr to w ht).mono fun e w' ⟨v, he, ⟨k, hk, hd⟩, hb⟩ => ⟨by rw [he, hk.one h hd (.inl (Nat.le_refl _))], hb⟩
theorem Wider_ref_to (t : T4) (fr to : Int) (u : T4) (w : World) (ht : t.Ok) (h : Wides t fr to 200 u) :
    Calls Tryd.prog 20 #[.agg #[.int .u64 t.a, .int .u64 t.b, .int .u64 t.c, .int .u64 t.d], .int .i64 fr, .int .i64 to] w fun e w' => e = .returned (.agg #[.int .u64 u.a, .int .u64 u.b, .int .u64 u.c, .int .u64 u.d]) ∧ Below w.heap.size w w' :=
  (Wider_ref t fr to w ht).mono fun e w' ⟨v, he, hk, hb⟩ => ⟨by rw [he, hk.one h (.inl (Nat.le_refl _)) (.inl (Nat.le_refl _))], hb⟩
theorem Usual_tabs_to (to : Int) (u : T4) (w : World) (h : Wides ⟨0, 0, 0, 0⟩ 0 to 200 u) :
    Calls Tryd.prog 19 #[.int .i64 to] w fun e w' => e = .returned (.agg #[.int .u64 u.a, .int .u64 u.b, .int .u64 u.c, .int .u64 u.d]) ∧ Below w.heap.size w w' :=
  (Usual_tabs to w).mono fun e w' ⟨v, he, ⟨k, hk, hd⟩, hb⟩ => ⟨by rw [he, hk.one h hd (.inl (Nat.le_refl _))], hb⟩

/-- Stops in a block of one's own, the library's table, and what lay below B as in w. -/
structure TM (B : Nat) (w : World) (g : Nat) (t : T4) (W : World) : Prop where
  b : Box W g 24 #[.int .u64 t.a, .int .u64 t.b, .int .u64 t.c, .int .u64 t.d]
  tab : Tab W
  bel : Below B w W
  le : B ≤ W.heap.size
theorem TM.keep {B : Nat} {w : World} {g : Nat} {t : T4} {W W' : World} (h : TM B w g t W) (hb : Below W.heap.size W W') : TM B w g t W' :=
  ⟨h.b.keep hb h.b.lt, h.tab.keep hb h.tab.lt, h.bel.trans (hb.mono h.le), Nat.le_trans h.le hb.size⟩
theorem TM.drew {B : Nat} {w : World} {g : Nat} {t : T4} {W : World} (h : TM B w g t W) : TM B w g t W.drew := ⟨h.b.drew, ⟨h.tab.cell, h.tab.lt⟩, h.bel.drew, h.le⟩
theorem TM.cells {B : Nat} {w : World} {g : Nat} {t : T4} {W : World} (h : TM B w g t W) :
    TM B w g t W ∧ W.cell? ⟨g, 0, none⟩ = some (.int .u64 t.a) ∧ W.cell? ⟨g, 1, none⟩ = some (.int .u64 t.b) ∧ W.cell? ⟨g, 2, none⟩ = some (.int .u64 t.c) ∧ W.cell? ⟨g, 3, none⟩ = some (.int .u64 t.d) :=
  ⟨h, h.b.cell 0, h.b.cell 1, h.b.cell 2, h.b.cell 3⟩

set_option maxRecDepth 100000 in
set_option maxHeartbeats 1000000 in
theorem known_any (w : World) (hT : Tab w) : Calls Tryd.prog 12 #[] w fun e w' => e = .returned (.bool true) ∧ Below w.heap.size w w' := by
  obtain ⟨u, hu⟩ := Wides.exists_ zero_ok 0 20
  obtain ⟨k1, k2, k3, k4, k5, k6⟩ := known_usual hu (.inl (Nat.le_refl _))
  replace k1 := Kp.mk k1; replace k2 := Kp.mk k2; replace k3 := Kp.mk k3; replace k4 := Kp.mk k4; replace k5 := Kp.mk k5; replace k6 := Kp.mk k6
  have hok := hu.ok
  replace hu := Kp.mk hu
  go_enter Tryd.func12, Tryd.ntmps12
  go_wp2_with fail
  refine (Usual_tabs_to 20 u _ hu.out).mono ?_
  rintro _ w1 ⟨rfl, hb1⟩
  have M : TM w.heap.size w w1.heap.size u (w1.alloc (.cells #[.int .u64 u.a, .int .u64 u.b, .int .u64 u.c, .int .u64 u.d] 24)) := ⟨Box.new _ _ _, (hT.keep hb1 hT.lt).keep ((Below.refl w1.heap.size w1).alloc (Nat.le_refl _) _) (by have := hb1.size; have := hT.lt; omega), hb1.alloc hb1.size _, by simp; have := hb1.size; omega⟩
  go_wp2_with fail
  refine (Is_tabs u 8 _ hok _ k1.out).mono ?_
  rintro _ w2 ⟨rfl, hb2⟩
  have M2 := M.keep hb2
  have c0 := M2.b.cell 0; have c1 := M2.b.cell 1; have c2 := M2.b.cell 2; have c3 := M2.b.cell 3
  have hz := M2.b.lt
  go_wp2_with fail
  refine (Is_tabs u 16 _ hok _ k2.out).mono ?_
  rintro _ w3 ⟨rfl, hb3⟩
  have M3 := M2.keep hb3
  clear c0 c1 c2 c3 hz
  have c0 := M3.b.cell 0; have c1 := M3.b.cell 1; have c2 := M3.b.cell 2; have c3 := M3.b.cell 3
  have hz := M3.b.lt
  go_wp2_with fail
  refine (Is_tabs u 0 _ hok _ k3.out).mono ?_
  rintro _ w4 ⟨rfl, hb4⟩
  have M4 := M3.keep hb4
  clear c0 c1 c2 c3 hz
  have c0 := M4.b.cell 0; have c1 := M4.b.cell 1; have c2 := M4.b.cell 2; have c3 := M4.b.cell 3
  have hz := M4.b.lt
  go_wp2_with fail
  refine (Is_tabs u 24 _ hok _ k4.out).mono ?_
  rintro _ w5 ⟨rfl, hb5⟩
  have M5 := M4.keep hb5
  clear c0 c1 c2 c3 hz
  have c0 := M5.b.cell 0; have c1 := M5.b.cell 1; have c2 := M5.b.cell 2; have c3 := M5.b.cell 3
  have hz := M5.b.lt
  go_wp2_with fail
  refine (Next_tabs_to u 16 20 19 _ hok M5.tab k5.out).mono ?_
  rintro _ w6 ⟨rfl, hb6⟩
  have M6 := M5.keep hb6
  clear c0 c1 c2 c3 hz
  have c0 := M6.b.cell 0; have c1 := M6.b.cell 1; have c2 := M6.b.cell 2; have c3 := M6.b.cell 3
  have hz := M6.b.lt
  go_wp2_with fail
  refine (Back_tabs_to u 16 8 _ hok M6.tab k6.out).mono ?_
  rintro _ w7 ⟨rfl, hb7⟩
  have M7 := M6.keep hb7
  go_wp2_with fail
  go_ret
  exact ⟨rfl, M7.bel⟩

set_option maxRecDepth 100000 in
set_option maxHeartbeats 2000000 in
theorem steps_any (t : T4) (x cols : Int) (w : World) (ht : t.Ok) (hT : Tab w) :
    Calls Tryd.prog 3 #[.agg #[.int .u64 t.a, .int .u64 t.b, .int .u64 t.c, .int .u64 t.d], .int .i64 x, .int .i64 cols] w fun e w' => e = .returned (.bool true) ∧ Below w.heap.size w w' := by
  obtain ⟨r, hr⟩ := NextIs.exists_ t x (clampC cols)
  obtain ⟨s, hs⟩ := BackIs.exists_ t x
  replace hr := Kp.mk hr
  replace hs := Kp.mk hs
  have M : TM w.heap.size w w.heap.size t (w.alloc (.cells #[.int .u64 t.a, .int .u64 t.b, .int .u64 t.c, .int .u64 t.d] 24)).drew := (⟨Box.new _ _ _, hT.keep ((Below.refl w.heap.size w).alloc (Nat.le_refl _) _) hT.lt, (Below.refl _ _).alloc (Nat.le_refl _) _, by simp⟩ : TM w.heap.size w w.heap.size t (w.alloc (.cells #[.int .u64 t.a, .int .u64 t.b, .int .u64 t.c, .int .u64 t.d] 24))).drew
  go_enter Tryd.func3, Tryd.ntmps3
  go_wp2_with fail
  go_region_held3 (fun W => TM w.heap.size w w.heap.size t W ∧ W.cell? ⟨w.heap.size, 0, none⟩ = some (.int .u64 t.a) ∧ W.cell? ⟨w.heap.size, 1, none⟩ = some (.int .u64 t.b) ∧ W.cell? ⟨w.heap.size, 2, none⟩ = some (.int .u64 t.c) ∧ W.cell? ⟨w.heap.size, 3, none⟩ = some (.int .u64 t.d))
    (first | assumption | exact (TM.keep (And.left (by assumption)) (by assumption)).cells | exact M.cells)
    (first | (go_at_call 8; refine (Next_tabs_to t x cols r _ ht (TM.tab (And.left (by assumption))) hr.out).mono ?_; rintro e w' ⟨rfl, hb⟩) | (go_at_call 9; refine (Next_ref_to t x cols r _ ht hr.out).mono ?_; rintro e w' ⟨rfl, hb⟩) | (go_at_call 10; refine (Back_tabs_to t x s _ ht (TM.tab (And.left (by assumption))) hs.out).mono ?_; rintro e w' ⟨rfl, hb⟩) | (go_at_call 11; refine (Back_ref_to t x s _ ht hs.out).mono ?_; rintro e w' ⟨rfl, hb⟩) | (go_at_call 12; refine (known_any _ (TM.tab (And.left (by assumption)))).mono ?_; rintro e w' ⟨rfl, hb⟩))
  all_goals
    have M9 : TM w.heap.size w w.heap.size t w' := And.left (by assumption)
    go_wp2_with fail
    go_ret
    exact ⟨rfl, M9.bel⟩
end Go.Proofs.YtnkanohjfanolaaDoor
