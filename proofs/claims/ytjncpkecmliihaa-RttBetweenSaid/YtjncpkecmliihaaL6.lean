/- The walk of the law RttBetween (layer 7) at a cut that lies in the slice; and for every cut. True for every slice of samples; no condition. -/
import Derived.Test.YtjncpkecmliihaaL5
namespace Go.Proofs.Ytjncpkecmliihaa
open Go.RowKit

set_option maxRecDepth 100000 in
set_option maxHeartbeats 4000000 in
theorem between_in (A : Option Addr) (n cap : Nat) (l : List Int) (c : Nat) (w : World) (hl : SlIn w .i64 A n cap l) (hcn : c ≤ n) :
    Calls Try.prog 5 #[.slice A n cap, .int .i64 c] w fun e w' => e = .returned (.bool true) ∧ Below w.heap.size w w' := by
  obtain ⟨hs, hnc, hcm, _⟩ := hl
  have hn63 : n ≤ 9223372036854775807 := by unfold maxLen at hcm; omega
  by_cases hn0 : n = 0
  · subst hn0
    go_enter Try.func5, Try.ntmps5
    go_wp2_with fail
    refine (known_any _).mono ?_
    rintro e w1 ⟨rfl, hb⟩
    go_wp2_with fail
    go_ret
    exact ⟨rfl, hb⟩
  have hn1 : ((n : Int) == 0) = false := by simpa using hn0
  by_cases hbig : 500 < n
  · go_enter Try.func5, Try.ntmps5
    go_wp2_with fail
    refine (known_any _).mono ?_
    rintro e w1 ⟨rfl, hb⟩
    go_wp2_with fail
    go_ret
    exact ⟨rfl, hb⟩
  obtain ⟨b, o, rfl, hbs, hcs⟩ := hs.2 (by omega)
  have hlen := Kp.mk hs.1
  go_enter Try.func5, Try.ntmps5
  go_wp2_with fail
  refine (known_any _).mono ?_
  rintro e w1 ⟨rfl, hb⟩
  have hc0 := (hb.cell (p := ⟨b, o + 0, none⟩) hbs).trans (hcs 0 (by omega))
  rw [Nat.add_zero] at hc0
  obtain ⟨s0, hs0⟩ : ∃ s, l[0]?.getD 0 = s := ⟨_, rfl⟩
  rw [hs0] at hc0
  replace hs0 := Kp.mk hs0
  have hcs' := Kp.mk hcs
  clear hcs
  have hnpos : (0 : Int) < n := by omega
  go_wp2_with fail
  go_quiet (fail)
  go_wp2_with fail
  go_loopw [5, 6, 7] (fun lo hi i wr => ∃ k : Nat, ∃ low high : Int, i = .int .i64 k ∧ lo = .int .i64 low ∧ hi = .int .i64 high ∧ BetwMem w l n k low high wr) (fun _ _ i _ => n - (intOf i).toNat)
  case atStart => exact ⟨0, s0, s0, rfl, rfl, rfl, Nat.zero_le _, Int.le_refl _, by simp, by simp, fun _ => ⟨hs0.out.symm, hs0.out.symm⟩, below_drewN hb _⟩
  case round =>
    obtain ⟨k, low, high, rfl, rfl, rfl, hM⟩ := hrel
    by_cases hlt : k < n
    · have hck := (hM.bel.cell (p := ⟨b, o + k, none⟩) hbs).trans (hcs'.out k hlt)
      obtain ⟨s, hsk⟩ : ∃ s, l[k]?.getD 0 = s := ⟨_, rfl⟩
      rw [hsk] at hck
      replace hsk := Kp.mk hsk
      clear hc0
      by_cases hbad : s < 0 ∨ 60000 < s
      · rcases hbad with hbad | hbad
        all_goals
          go_wp2_with fail
          go_ret
          exact ⟨rfl, hM.bel⟩
      · have h0 : 0 ≤ s := by omega
        have h1 : s ≤ 60000 := by omega
        have hlh := hM.lh
        clear hbad
        rcases (show (s < low ∧ ¬ high < s) ∨ (¬ s < low ∧ ¬ high < s) ∨ (¬ s < low ∧ high < s) by omega) with ⟨k1, k2⟩ | ⟨k1, k2⟩ | ⟨k1, k2⟩
        all_goals
          go_wp2_with fail
          go_quiet (fail)
          go_wp2_with fail
          go_roundw
          case rel => exact ⟨k + 1, _, _, by go_num, rfl, rfl, hM.step hlen.out hlt hsk.out h0 h1 (by omega) (by omega) (below_drewN hM.bel _)⟩
          case measure => simp [intOf]; omega
    · obtain rfl : k = n := by have := hM.le; omega
      have hall : ∀ s ∈ l, low ≤ s ∧ s ≤ high := by have := hM.all; rwa [List.take_of_length_le (by rw [hlen.out]; exact Nat.le_refl _)] at this
      obtain ⟨g0, g1⟩ := hM.ok (by omega)
      obtain ⟨y, z, p, v, hh, hmay, hp, hv, hlp, hph, hv1, hv2, hpv⟩ := between low high l hall g0 g1 (by rw [hlen.out]; omega) (by rw [hlen.out]; omega)
      rw [hlen.out] at hh hmay hp hv
      replace hh := Kp.mk hh
      replace hp := Kp.mk hp
      replace hv := Kp.mk hv
      have hmb := Kp.mk (mayB_true.2 hmay)
      have hbl := hM.bel
      have hsl := Kp.mk hs
      clear hM hmay hall hs hc0 hb hlt hcs' hs0
      go_wp2_with fail
      refine (Hear_rtt_to 0 0 0 l _ _ _ _ _ _ _ _ hh.out ((hsl.out.keep hbl (Nat.le_refl _)).more hbl.size) (by omega)).mono ?_
      rintro e w2 ⟨rfl, hb2⟩
      have hbl2 := hbl.trans (hb2.mono hbl.size)
      have hz2 := hbl2.size
      have x2 := Box.new w2 23 #[.int .i64 k, .int .i64 y, .int .i64 z]
      have hbl3 := hbl2.alloc hz2 (.cells #[.int .i64 k, .int .i64 y, .int .i64 z] 23)
      clear hb2 hbl hbl2
      have hS := (CellB.mk x2 hbl3 (by simp; omega)).drew.cells
      replace hS := Kp.mk hS
      go_wp2_with fail
      go_region_held3 (fun W => CellB w.heap.size w w2.heap.size #[.int .i64 k, .int .i64 y, .int .i64 z] W ∧ W.cell? ⟨w2.heap.size, 0, none⟩ = some (.int .i64 k) ∧ W.cell? ⟨w2.heap.size, 1, none⟩ = some (.int .i64 y) ∧ W.cell? ⟨w2.heap.size, 2, none⟩ = some (.int .i64 z))
        (first | assumption | exact (CellB.keep (And.left (by assumption)) (by assumption)).cells | exact hS.out)
        (first | (go_at_call 13; refine (Mean_rtt _ _ _ _ _ hp.out).mono ?_; rintro e w' ⟨rfl, hb⟩) | (go_at_call 15; refine (Wait_rtt _ _ _ _ _ hv.out).mono ?_; rintro e w' ⟨rfl, hb⟩))
      all_goals
        have M : CellB w.heap.size w w2.heap.size #[.int .i64 k, .int .i64 y, .int .i64 z] w' := And.left (by assumption)
        have c0 := M.b.cell 0; have c1 := M.b.cell 1; have c2 := M.b.cell 2
        have hz3 := M.b.lt
        have hpc : (p ≤ 1000 ∧ p ≤ v) ∨ (1000 < p ∧ 1000 ≤ v) := by omega
        clear hpv
        have hck : c ≤ k := hcn
        have hccap : c ≤ cap := by omega
        obtain ⟨a', b', c', hp1, hp2⟩ := in_parts l c _ _ _ hh.out
        replace hp1 := Kp.mk hp1
        replace hp2 := Kp.mk hp2
        have hck' : (c : Int) ≤ k := by omega
        have hc0' : (0 : Int) ≤ c := by omega
        have hkc' : (k : Int) ≤ cap := by omega
        rcases hpc with ⟨p1, p2⟩ | ⟨p1, p2⟩
        all_goals
          go_wp2_with (go_at_call 11; refine (May_rtt _ _ _ _ _ hmb.out).mono ?_; rintro e w4 ⟨rfl, hb4⟩; have M4 := M.keep hb4; have d0 := M4.b.cell 0; have d1 := M4.b.cell 1; have d2 := M4.b.cell 2; have hz4 := M4.b.lt)
          refine (Hear_rtt_to 0 0 0 (l.take c) _ _ _ _ _ _ _ _ hp1.out (((hsl.out.keep M4.bel (Nat.le_refl _)).take hck).more M4.le) (by omega)).mono ?_
          rintro e w5 ⟨rfl, hb5⟩
          have M5 := M4.keep hb5
          clear c0 c1 c2 d0 d1 d2 hb5 hb4
          have M6 : CellB w.heap.size w w2.heap.size #[.int .i64 k, .int .i64 y, .int .i64 z] (w5.alloc (.cells #[.int .i64 a', .int .i64 b', .int .i64 c'] 23)) := ⟨M5.b.alloc _, M5.bel.alloc M5.le _, by simp; exact Nat.le_trans M5.le (Nat.le_succ _)⟩
          have x6 := Box.new w5 23 #[.int .i64 a', .int .i64 b', .int .i64 c']
          have hz6 := x6.lt
          have hz5 := M5.le
          have hz25 := M5.b.lt
          clear M M4 hh hmb hz3 hz4
          go_wp2_with fail
          have M7 := M6.drew
          have M8 : CellB w.heap.size w w2.heap.size #[.int .i64 k, .int .i64 y, .int .i64 z] ((w5.alloc (.cells #[.int .i64 a', .int .i64 b', .int .i64 c'] 23)).alloc (.cells #[.int .i64 0, .int .i64 0, .int .i64 0] 23)).drew := (⟨M6.b.alloc _, M6.bel.alloc M6.le _, by simp; omega⟩ : CellB _ _ _ _ (_)).drew
          have Z8 := (Box.new (w5.alloc (.cells #[.int .i64 a', .int .i64 b', .int .i64 c'] 23)) 23 #[.int .i64 0, .int .i64 0, .int .i64 0]).drew
          simp only [World.size_alloc] at Z8
          have c0 := x6.drew.cell 0; have c1 := x6.drew.cell 1; have c2 := x6.drew.cell 2
          by_cases hcc : cap = c
          · obtain rfl : cap = k := by omega
            subst hcc
            have hnil : Kp (HearsTo a' b' c' [] cap y z 0) := ⟨by have := hp2.out; rwa [List.drop_of_length_le (by rw [hlen.out]; exact Nat.le_refl _)] at this⟩
            clear M5 M6
            go_region_with (first | (go_at_call 9; refine (Hear_rtt_to a' b' c' [] _ _ _ _ _ _ _ _ hnil.out (by simpa using Sl.nil _ _ _ _) (by omega)).mono ?_; rintro e w8 ⟨rfl, hb8⟩; have M9 := M7.keep hb8; have hz8 := M9.b.lt) | (go_at_call 9; refine (Hear_rtt_to a' b' c' [] _ _ _ _ _ _ _ _ hnil.out (by simpa using Sl.nil _ _ _ _) (by omega)).mono ?_; rintro e w8 ⟨rfl, hb8⟩; have M9 := M8.keep hb8; have hz8 := M9.b.lt; have Z9 := Z8.keep hb8 Z8.lt; have hz9 := Z9.lt; have z0 := Z9.cell 0; have z1 := Z9.cell 1; have z2 := Z9.cell 2; have y0 := Z9.frozen 0; have y1 := Z9.frozen 1; have y2 := Z9.frozen 2))
            all_goals
              have m0 := M9.b.cell 0; have m1 := M9.b.cell 1; have m2 := M9.b.cell 2
              have hle9 := M9.le
              have hlt9 := M9.b.lt
              go_wp2_with fail
              go_ret
              refine ⟨rfl, ?_⟩
              repeat (first | exact M9.bel | refine Below.drew ?_ | refine Below.setCell ?_ (by first | omega | (simp <;> omega)) _ | refine Below.alloc ?_ (by first | omega | (simp <;> omega)) _)
          · clear M5 M6
            go_region_with (first | (go_at_call 9; refine (Hear_rtt_to a' b' c' (l.drop c) _ _ _ _ _ _ _ _ hp2.out (((hsl.out.keep M7.bel (Nat.le_refl _)).drop hck).more M7.le) (by omega)).mono ?_; rintro e w8 ⟨rfl, hb8⟩; have M9 := M7.keep hb8; have hz8 := M9.b.lt) | (go_at_call 9; refine (Hear_rtt_to a' b' c' (l.drop c) _ _ _ _ _ _ _ _ hp2.out (((hsl.out.keep M8.bel (Nat.le_refl _)).drop hck).more M8.le) (by omega)).mono ?_; rintro e w8 ⟨rfl, hb8⟩; have M9 := M8.keep hb8; have hz8 := M9.b.lt; have Z9 := Z8.keep hb8 Z8.lt; have hz9 := Z9.lt; have z0 := Z9.cell 0; have z1 := Z9.cell 1; have z2 := Z9.cell 2; have y0 := Z9.frozen 0; have y1 := Z9.frozen 1; have y2 := Z9.frozen 2))
            all_goals
              have m0 := M9.b.cell 0; have m1 := M9.b.cell 1; have m2 := M9.b.cell 2
              have hle9 := M9.le
              have hlt9 := M9.b.lt
              go_wp2_with fail
              go_ret
              refine ⟨rfl, ?_⟩
              repeat (first | exact M9.bel | refine Below.drew ?_ | refine Below.setCell ?_ (by first | omega | (simp <;> omega)) _ | refine Below.alloc ?_ (by first | omega | (simp <;> omega)) _)

theorem between_any (A : Option Addr) (n cap : Nat) (l : List Int) (cut : Int) (w : World) (hl : SlIn w .i64 A n cap l) :
    Calls Try.prog 5 #[.slice A n cap, .int .i64 cut] w fun e w' => e = .returned (.bool true) ∧ Below w.heap.size w w' := by
  by_cases h : cut < 0 ∨ (n : Int) < cut
  · exact between_out A n cap l cut w hl h
  · obtain ⟨c, rfl⟩ := Int.eq_ofNat_of_zero_le (show 0 ≤ cut by omega)
    exact between_in A n cap l c w hl (by omega)
end Go.Proofs.Ytjncpkecmliihaa
