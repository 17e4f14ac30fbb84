/- The walk of the law RttRises (layer 7): true for every meter and every two numbers; no condition. -/
import Derived.Test.YtjncpkecmliihaaL3
import Derived.Test.YtjncpkecmliihaaO
namespace Go.Proofs.Ytjncpkecmliihaa
open Go.RowKit

/-- Three meters in memory, and what lay below B as in w. -/
structure RisesMem (B : Nat) (w : World) (g0 g1 g2 : Nat) (m x y : Array Value) (W : World) : Prop where
  b0 : Box W g0 23 m
  b1 : Box W g1 23 x
  b2 : Box W g2 23 y
  bel : Below B w W
  le : B ≤ W.heap.size
theorem RisesMem.keep {B : Nat} {w : World} {g0 g1 g2 : Nat} {m x y : Array Value} {W W' : World} (h : RisesMem B w g0 g1 g2 m x y W) (hb : Below W.heap.size W W') : RisesMem B w g0 g1 g2 m x y W' :=
  ⟨h.b0.keep hb h.b0.lt, h.b1.keep hb h.b1.lt, h.b2.keep hb h.b2.lt, h.bel.trans (hb.mono h.le), Nat.le_trans h.le hb.size⟩
theorem RisesMem.drew {B : Nat} {w : World} {g0 g1 g2 : Nat} {m x y : Array Value} {W : World} (h : RisesMem B w g0 g1 g2 m x y W) : RisesMem B w g0 g1 g2 m x y W.drew :=
  ⟨h.b0.drew, h.b1.drew, h.b2.drew, h.bel.drew, h.le⟩
theorem RisesMem.cells {B : Nat} {w : World} {g0 g1 g2 : Nat} {m : Array Value} {x1 y1 z1 x2 y2 z2 : Value} {W : World} (h : RisesMem B w g0 g1 g2 m #[x1, y1, z1] #[x2, y2, z2] W) :
    RisesMem B w g0 g1 g2 m #[x1, y1, z1] #[x2, y2, z2] W ∧ W.cell? ⟨g1, 0, none⟩ = some x1 ∧ W.cell? ⟨g1, 1, none⟩ = some y1 ∧ W.cell? ⟨g1, 2, none⟩ = some z1 ∧
      W.cell? ⟨g2, 0, none⟩ = some x2 ∧ W.cell? ⟨g2, 1, none⟩ = some y2 ∧ W.cell? ⟨g2, 2, none⟩ = some z2 :=
  ⟨h, (h.b1.cell 0).trans (by rfl), (h.b1.cell 1).trans (by rfl), (h.b1.cell 2).trans (by rfl), (h.b2.cell 0).trans (by rfl), (h.b2.cell 1).trans (by rfl), (h.b2.cell 2).trans (by rfl)⟩

set_option maxRecDepth 100000 in
set_option maxHeartbeats 1000000 in
/-- Outside what the law speaks of: true at once. -/
theorem rises_out (a b c s t : Int) (w : World) (h : ¬ MayP a b c ∨ (MayP a b c ∧ (s < 0 ∨ (0 ≤ s ∧ 60000 < s) ∨ (0 ≤ s ∧ s ≤ 60000 ∧ t < s) ∨ (0 ≤ s ∧ s ≤ 60000 ∧ s ≤ t ∧ 60000 < t)))) :
    Calls Try.prog 7 #[.agg #[.int .i64 a, .int .i64 b, .int .i64 c], .int .i64 s, .int .i64 t] w fun e w' => e = .returned (.bool true) ∧ Below w.heap.size w w' := by
  have b0 := Box.new w 23 #[.int .i64 a, .int .i64 b, .int .i64 c]
  obtain ⟨v, hv, hvv⟩ : ∃ v, mayB a b c = v ∧ (v = false ∨ (v = true ∧ (s < 0 ∨ (0 ≤ s ∧ 60000 < s) ∨ (0 ≤ s ∧ s ≤ 60000 ∧ t < s) ∨ (0 ≤ s ∧ s ≤ 60000 ∧ s ≤ t ∧ 60000 < t)))) := by
    rcases h with h | ⟨h, k⟩
    · exact ⟨_, mayB_false.2 h, .inl rfl⟩
    · exact ⟨_, mayB_true.2 h, .inr ⟨rfl, k⟩⟩
  clear h
  replace hv := Kp.mk hv
  rcases hvv with rfl | ⟨rfl, hvv⟩
  · go_enter Try.func7, Try.ntmps7
    go_wp2_with fail
    refine (known_any _).mono ?_
    rintro e w1 ⟨rfl, hb⟩
    have b1 := b0.keep hb (by simp)
    have c0 := b1.cell 0; have c1 := b1.cell 1; have c2 := b1.cell 2
    have hz := b1.lt
    go_wp2_with fail
    refine (May_rtt a b c _ _ hv.out).mono ?_
    rintro e w2 ⟨rfl, hb2⟩
    have hbl := (((Below.refl w.heap.size w).alloc (Nat.le_refl _) _).trans (hb.mono (by simp))).trans (hb2.mono (by omega))
    go_wp2_with fail
    go_ret
    exact ⟨rfl, hbl⟩
  · rcases hvv with h1 | ⟨h1, h2⟩ | ⟨h1, h2, h3⟩ | ⟨h1, h2, h3, h4⟩
    all_goals
      go_enter Try.func7, Try.ntmps7
      go_wp2_with fail
      refine (known_any _).mono ?_
      rintro e w1 ⟨rfl, hb⟩
      have b1 := b0.keep hb (by simp)
      have c0 := b1.cell 0; have c1 := b1.cell 1; have c2 := b1.cell 2
      have hz := b1.lt
      go_wp2_with fail
      refine (May_rtt a b c _ _ hv.out).mono ?_
      rintro e w2 ⟨rfl, hb2⟩
      have hbl := (((Below.refl w.heap.size w).alloc (Nat.le_refl _) _).trans (hb.mono (by simp))).trans (hb2.mono (by omega))
      go_wp2_with fail
      go_ret
      exact ⟨rfl, hbl⟩

set_option maxRecDepth 100000 in
set_option maxHeartbeats 1000000 in
theorem rises_in (a b c s t n y1 z1 y2 z2 p q : Int) (w : World) (hm : MayP a b c) (h0 : 0 ≤ s) (hst : s ≤ t) (h1 : t ≤ 60000) (hs : HearsTo a b c [s] n y1 z1 0) (ht : HearsTo a b c [t] n y2 z2 0)
    (hp : meanOf n y1 z1 = p) (hq : meanOf n y2 z2 = q) (hpq : p ≤ q) (hway : (a = 0 ∧ p = s ∧ q = t) ∨ (a ≠ 0 ∧ ∃ v, meanOf a b c = v ∧ ((v ≤ s ∧ v ≤ p ∧ p ≤ s) ∨ (s < v ∧ s ≤ p ∧ p ≤ v)) ∧ ((v ≤ t ∧ v ≤ q ∧ q ≤ t) ∨ (t < v ∧ t ≤ q ∧ q ≤ v)))) :
    Calls Try.prog 7 #[.agg #[.int .i64 a, .int .i64 b, .int .i64 c], .int .i64 s, .int .i64 t] w fun e w' => e = .returned (.bool true) ∧ Below w.heap.size w w' := by
  have b0 := Box.new w 23 #[.int .i64 a, .int .i64 b, .int .i64 c]
  have hs6 : s ≤ 60000 := by omega
  have ht0 : 0 ≤ t := by omega
  have hv := Kp.mk (mayB_true.2 hm)
  replace hs := Kp.mk hs
  replace ht := Kp.mk ht
  replace hp := Kp.mk hp
  replace hq := Kp.mk hq
  replace hway := Kp.mk hway
  clear hm
  go_enter Try.func7, Try.ntmps7
  go_wp2_with fail
  refine (known_any _).mono ?_
  rintro e w1 ⟨rfl, hb⟩
  have b1 := b0.keep hb (by simp)
  have c0 := b1.cell 0; have c1 := b1.cell 1; have c2 := b1.cell 2
  have hz := b1.lt
  go_wp2_with fail
  refine (May_rtt a b c _ _ hv.out).mono ?_
  rintro e w2 ⟨rfl, hb2⟩
  have hbl := (((Below.refl w.heap.size w).alloc (Nat.le_refl _) _).trans (hb.mono (by simp))).trans (hb2.mono (by omega))
  have b2 := b1.keep hb2 b1.lt
  clear hb hb2 b0 b1 c0 c1 c2 hz
  have c0 := b2.cell 0; have c1 := b2.cell 1; have c2 := b2.cell 2
  have hz := b2.lt
  go_wp2_with fail
  refine (Hear_rtt_to a b c [s] _ _ _ _ _ _ _ _ hs.out (Sl.single' _ s _ _ (by simp) (by simp)) (by omega)).mono ?_
  rintro e w3 ⟨rfl, hb3⟩
  have hbl3 := (hbl.alloc (by omega) (.cells #[.int .i64 s] 3)).trans (hb3.mono (by simp; omega))
  have b3 := (b2.alloc (.cells #[.int .i64 s] 3)).keep hb3 (by simp; omega)
  clear hbl b2 c0 c1 c2 hb3 hz
  have c0 := b3.cell 0; have c1 := b3.cell 1; have c2 := b3.cell 2
  have hz := b3.lt
  have x3 := Box.new w3 23 #[.int .i64 n, .int .i64 y1, .int .i64 z1]
  go_wp2_with fail
  refine (Hear_rtt_to a b c [t] _ _ _ _ _ _ _ _ ht.out (Sl.single' _ t _ _ (by simp) (by simp)) (by omega)).mono ?_
  rintro e w4 ⟨rfl, hb4⟩
  have hbl4 := ((hbl3.alloc (by omega) (.cells #[.int .i64 n, .int .i64 y1, .int .i64 z1] 23)).alloc (by simp; omega) (.cells #[.int .i64 t] 3)).trans (hb4.mono (by simp; omega))
  have b4 := ((b3.alloc (.cells #[.int .i64 n, .int .i64 y1, .int .i64 z1] 23)).alloc (.cells #[.int .i64 t] 3)).keep hb4 (by simp; omega)
  have x4 := (x3.alloc (.cells #[.int .i64 t] 3)).keep hb4 (by simp; omega)
  clear hbl3 b3 c0 c1 c2 hb4 hz x3
  have hz := b4.lt
  have hx := x4.lt
  have M : RisesMem w.heap.size w w.heap.size w3.heap.size w4.heap.size #[.int .i64 a, .int .i64 b, .int .i64 c] #[.int .i64 n, .int .i64 y1, .int .i64 z1] #[.int .i64 n, .int .i64 y2, .int .i64 z2] (w4.alloc (.cells #[.int .i64 n, .int .i64 y2, .int .i64 z2] 23)) :=
    ⟨b4.alloc _, x4.alloc _, Box.new _ _ _, hbl4.alloc (by omega) _, by simp; omega⟩
  clear hbl4 b4 x4
  go_wp2_with fail
  go_region_held3 (fun W => RisesMem w.heap.size w w.heap.size w3.heap.size w4.heap.size #[.int .i64 a, .int .i64 b, .int .i64 c] #[.int .i64 n, .int .i64 y1, .int .i64 z1] #[.int .i64 n, .int .i64 y2, .int .i64 z2] W ∧ W.cell? ⟨w3.heap.size, 0, none⟩ = some (.int .i64 n) ∧ W.cell? ⟨w3.heap.size, 1, none⟩ = some (.int .i64 y1) ∧ W.cell? ⟨w3.heap.size, 2, none⟩ = some (.int .i64 z1) ∧
      W.cell? ⟨w4.heap.size, 0, none⟩ = some (.int .i64 n) ∧ W.cell? ⟨w4.heap.size, 1, none⟩ = some (.int .i64 y2) ∧ W.cell? ⟨w4.heap.size, 2, none⟩ = some (.int .i64 z2))
    (first | assumption | exact (RisesMem.keep (And.left (by assumption)) (by assumption)).cells | exact M.drew.cells)
    (first | (go_at_call_of 13 z1; refine (Mean_rtt _ _ _ _ _ hp.out).mono ?_; rintro e w' ⟨rfl, hb⟩) | (go_at_call_of 13 z2; refine (Mean_rtt _ _ _ _ _ hq.out).mono ?_; rintro e w' ⟨rfl, hb⟩))
  all_goals
    have M2 : RisesMem w.heap.size w w.heap.size w3.heap.size w4.heap.size #[.int .i64 a, .int .i64 b, .int .i64 c] #[.int .i64 n, .int .i64 y1, .int .i64 z1] #[.int .i64 n, .int .i64 y2, .int .i64 z2] w' := And.left (by assumption)
    have c0 := M2.b0.cell 0; have c1 := M2.b0.cell 1; have c2 := M2.b0.cell 2
    have d0 := M2.b1.cell 0; have e0 := M2.b2.cell 0
    have hz2 := M2.b0.lt
    have hle := M2.le
    have hwy := hway.out
    rcases hwy with ⟨rfl, rfl, rfl⟩ | ⟨ha, v, hw, hps, hqt⟩
    · go_wp2_with fail
      go_ret
      exact ⟨rfl, M2.bel⟩
    · have ha' : (a == 0) = false := by simpa using ha
      replace hw := Kp.mk hw
      rcases hps with ⟨k1, k2, k3⟩ | ⟨k1, k2, k3⟩ <;> rcases hqt with ⟨l1, l2, l3⟩ | ⟨l1, l2, l3⟩
      all_goals try (exfalso; omega)
      all_goals
        go_wp2_with fail
        refine (Mean_rtt _ _ _ _ _ hw.out).mono ?_
        rintro e w6 ⟨rfl, hb6⟩
        have hbl6 := M2.bel.trans (hb6.mono M2.le)
        go_wp2_with fail
        all_goals
          go_ret
          exact ⟨ret_bool (by first | rfl | (simp only [decide_eq_true_eq]; omega)), hbl6⟩

theorem rises_any (a b c s t : Int) (w : World) : Calls Try.prog 7 #[.agg #[.int .i64 a, .int .i64 b, .int .i64 c], .int .i64 s, .int .i64 t] w fun e w' => e = .returned (.bool true) ∧ Below w.heap.size w w' := by
  by_cases hm : MayP a b c
  · by_cases hin : 0 ≤ s ∧ s ≤ t ∧ t ≤ 60000
    · obtain ⟨h0, hst, h1⟩ := hin
      by_cases ha : a = 0
      · subst ha
        obtain ⟨y1, z1, y2, z2, hs, ht, hp, hq⟩ := rises_zero b c s t hm h0 hst h1
        exact rises_in 0 b c s t 1 y1 z1 y2 z2 s t w hm h0 hst h1 hs ht hp hq hst (.inl ⟨rfl, rfl, rfl⟩)
      · obtain ⟨n, y1, z1, y2, z2, p, q, v, hs, ht, hp, hq, hv, hpq, h2, h3⟩ := rises_pos a b c s t hm ha h0 hst h1
        exact rises_in a b c s t n y1 z1 y2 z2 p q w hm h0 hst h1 hs ht hp hq hpq (.inr ⟨ha, v, hv, h2, h3⟩)
    · exact rises_out a b c s t w (.inr ⟨hm, by omega⟩)
  · exact rises_out a b c s t w (.inl hm)
end Go.Proofs.Ytjncpkecmliihaa
