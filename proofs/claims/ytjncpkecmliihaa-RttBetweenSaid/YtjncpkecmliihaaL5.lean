/- The walk of the law RttBetween (layer 7): true for every slice of samples and every cut; no condition. -/
import Derived.Test.YtjncpkecmliihaaL4
import Derived.Test.YtjncpkecmliihaaP
namespace Go.Proofs.Ytjncpkecmliihaa
open Go.RowKit

theorem Sl.at_ {w : World} {B : Nat} {k : IntKind} {A : Option Addr} {n i : Nat} {zs : List Int} (h : Sl w B k A n zs) (hi : i < n) : ∃ b o, A = some ⟨b, o, none⟩ ∧ b < B ∧ w.cell? ⟨b, o + i, none⟩ = some (.int k (zs[i]?.getD 0)) :=
  let ⟨b, o, e, hb, hc⟩ := h.2 (by omega); ⟨b, o, e, hb, hc i hi⟩

theorem Sl.take {w : World} {B : Nat} {k : IntKind} {A : Option Addr} {n c : Nat} {zs : List Int} (h : Sl w B k A n zs) (hc : c ≤ n) : Sl w B k A c (zs.take c) := by
  refine ⟨by rw [List.length_take, h.1]; omega, fun h0 => ?_⟩
  obtain ⟨b, o, e, hb, hh⟩ := h.2 (by omega)
  exact ⟨b, o, e, hb, fun i hi => by rw [hh i (by omega), List.getElem?_take, if_pos hi]⟩
theorem Sl.drop {w : World} {B : Nat} {k : IntKind} {b o n c : Nat} {zs : List Int} (h : Sl w B k (some ⟨b, o, none⟩) n zs) (hc : c ≤ n) : Sl w B k (some ⟨b, o + c, none⟩) (n - c) (zs.drop c) := by
  refine ⟨by rw [List.length_drop, h.1], fun h0 => ?_⟩
  obtain ⟨b', o', e, hb, hh⟩ := h.2 (by omega)
  simp only [Option.some.injEq, Addr.mk.injEq, and_true] at e
  obtain ⟨rfl, rfl⟩ := e
  exact ⟨b, o + c, rfl, hb, fun i hi => by rw [Nat.add_assoc, hh (c + i) (by omega), List.getElem?_drop]⟩

/-- What the loop holds: the samples looked at lie between low and high. -/
structure BetwMem (w : World) (l : List Int) (n k : Nat) (low high : Int) (wr : World) : Prop where
  le : k ≤ n
  lh : low ≤ high
  all : ∀ s ∈ l.take k, low ≤ s ∧ s ≤ high
  ok : 0 < k → 0 ≤ low ∧ high ≤ 60000
  first : k = 0 → low = l[0]?.getD 0 ∧ high = l[0]?.getD 0
  bel : Below w.heap.size w wr

theorem BetwMem.step {w : World} {l : List Int} {n k : Nat} {low high : Int} {wr : World} (h : BetwMem w l n k low high wr) (hlen : l.length = n) (hk : k < n) {s : Int} (hs : l[k]?.getD 0 = s) (h0 : 0 ≤ s) (h1 : s ≤ 60000)
    {low' high' : Int} (hl : low' = min low s) (hh : high' = max high s) {wr' : World} (hb : Below w.heap.size w wr') : BetwMem w l n (k + 1) low' high' wr' := by
  subst hl hh
  refine ⟨hk, by have := h.lh; omega, ?_, fun _ => ?_, fun e => by omega, hb⟩
  · rw [take_step l k (by omega), hs]
    intro t ht
    rcases List.mem_append.1 ht with ht | ht
    · have := h.all t ht; omega
    · simp only [List.mem_singleton] at ht; subst ht; omega
  · rcases Nat.eq_zero_or_pos k with hz | hp
    · have := h.first hz
      subst hz
      omega
    · have := h.ok hp; omega

/-- One meter in memory, and what lay below B as in w. -/
structure CellB (B : Nat) (w : World) (g : Nat) (m : Array Value) (W : World) : Prop where
  b : Box W g 23 m
  bel : Below B w W
  le : B ≤ W.heap.size
theorem CellB.keep {B : Nat} {w : World} {g : Nat} {m : Array Value} {W W' : World} (h : CellB B w g m W) (hb : Below W.heap.size W W') : CellB B w g m W' :=
  ⟨h.b.keep hb h.b.lt, h.bel.trans (hb.mono h.le), Nat.le_trans h.le hb.size⟩
theorem CellB.drew {B : Nat} {w : World} {g : Nat} {m : Array Value} {W : World} (h : CellB B w g m W) : CellB B w g m W.drew := ⟨h.b.drew, h.bel.drew, h.le⟩
theorem CellB.cells {B : Nat} {w : World} {g : Nat} {x y z : Value} {W : World} (h : CellB B w g #[x, y, z] W) :
    CellB B w g #[x, y, z] W ∧ W.cell? ⟨g, 0, none⟩ = some x ∧ W.cell? ⟨g, 1, none⟩ = some y ∧ W.cell? ⟨g, 2, none⟩ = some z :=
  ⟨h, (h.b.cell 0).trans (by rfl), (h.b.cell 1).trans (by rfl), (h.b.cell 2).trans (by rfl)⟩

set_option maxRecDepth 100000 in
set_option maxHeartbeats 1000000 in
theorem between_out (A : Option Addr) (n cap : Nat) (l : List Int) (cut : Int) (w : World) (hl : SlIn w .i64 A n cap l) (hout : cut < 0 ∨ (n : Int) < cut) :
    Calls Try.prog 5 #[.slice A n cap, .int .i64 cut] w fun e w' => e = .returned (.bool true) ∧ Below w.heap.size w w' := by
  obtain ⟨hs, hnc, hcm, _⟩ := hl
  have hn63 : n ≤ 9223372036854775807 := by unfold maxLen at hcm; omega
  by_cases hn0 : n = 0
  · subst hn0
    go_enter Try.func5, Try.ntmps5
    go_wp2_with fail
    refine (known_any _).mono ?_
    rintro e w1 ⟨rfl, hb⟩
    go_wp2_with fail
    go_ret
    exact ⟨rfl, hb⟩
  have hn1 : ((n : Int) == 0) = false := by simpa using hn0
  by_cases hbig : 500 < n
  · go_enter Try.func5, Try.ntmps5
    go_wp2_with fail
    refine (known_any _).mono ?_
    rintro e w1 ⟨rfl, hb⟩
    go_wp2_with fail
    go_ret
    exact ⟨rfl, hb⟩
  obtain ⟨b, o, rfl, hbs, hcs⟩ := hs.2 (by omega)
  have hlen := Kp.mk hs.1
  go_enter Try.func5, Try.ntmps5
  go_wp2_with fail
  refine (known_any _).mono ?_
  rintro e w1 ⟨rfl, hb⟩
  have hc0 := (hb.cell (p := ⟨b, o + 0, none⟩) hbs).trans (hcs 0 (by omega))
  rw [Nat.add_zero] at hc0
  obtain ⟨s0, hs0⟩ : ∃ s, l[0]?.getD 0 = s := ⟨_, rfl⟩
  rw [hs0] at hc0
  replace hs0 := Kp.mk hs0
  have hcs' := Kp.mk hcs
  clear hcs
  have hnpos : (0 : Int) < n := by omega
  go_wp2_with fail
  go_quiet (fail)
  go_wp2_with fail
  go_loopw [5, 6, 7] (fun lo hi i wr => ∃ k : Nat, ∃ low high : Int, i = .int .i64 k ∧ lo = .int .i64 low ∧ hi = .int .i64 high ∧ BetwMem w l n k low high wr) (fun _ _ i _ => n - (intOf i).toNat)
  case atStart => exact ⟨0, s0, s0, rfl, rfl, rfl, Nat.zero_le _, Int.le_refl _, by simp, by simp, fun _ => ⟨hs0.out.symm, hs0.out.symm⟩, below_drewN hb _⟩
  case round =>
    obtain ⟨k, low, high, rfl, rfl, rfl, hM⟩ := hrel
    by_cases hlt : k < n
    · have hck := (hM.bel.cell (p := ⟨b, o + k, none⟩) hbs).trans (hcs'.out k hlt)
      obtain ⟨s, hsk⟩ : ∃ s, l[k]?.getD 0 = s := ⟨_, rfl⟩
      rw [hsk] at hck
      replace hsk := Kp.mk hsk
      clear hc0
      by_cases hbad : s < 0 ∨ 60000 < s
      · rcases hbad with hbad | hbad
        all_goals
          go_wp2_with fail
          go_ret
          exact ⟨rfl, hM.bel⟩
      · have h0 : 0 ≤ s := by omega
        have h1 : s ≤ 60000 := by omega
        have hlh := hM.lh
        clear hbad
        rcases (show (s < low ∧ ¬ high < s) ∨ (¬ s < low ∧ ¬ high < s) ∨ (¬ s < low ∧ high < s) by omega) with ⟨k1, k2⟩ | ⟨k1, k2⟩ | ⟨k1, k2⟩
        all_goals
          go_wp2_with fail
          go_quiet (fail)
          go_wp2_with fail
          go_roundw
          case rel => exact ⟨k + 1, _, _, by go_num, rfl, rfl, hM.step hlen.out hlt hsk.out h0 h1 (by omega) (by omega) (below_drewN hM.bel _)⟩
          case measure => simp [intOf]; omega
    · obtain rfl : k = n := by have := hM.le; omega
      have hall : ∀ s ∈ l, low ≤ s ∧ s ≤ high := by have := hM.all; rwa [List.take_of_length_le (by rw [hlen.out]; exact Nat.le_refl _)] at this
      obtain ⟨g0, g1⟩ := hM.ok (by omega)
      obtain ⟨y, z, p, v, hh, hmay, hp, hv, hlp, hph, hv1, hv2, hpv⟩ := between low high l hall g0 g1 (by rw [hlen.out]; omega) (by rw [hlen.out]; omega)
      rw [hlen.out] at hh hmay hp hv
      replace hh := Kp.mk hh
      replace hp := Kp.mk hp
      replace hv := Kp.mk hv
      have hmb := Kp.mk (mayB_true.2 hmay)
      have hbl := hM.bel
      have hsl := Kp.mk hs
      clear hM hmay hall hs hc0 hb hlt hcs' hs0
      go_wp2_with fail
      refine (Hear_rtt_to 0 0 0 l _ _ _ _ _ _ _ _ hh.out ((hsl.out.keep hbl (Nat.le_refl _)).more hbl.size) (by omega)).mono ?_
      rintro e w2 ⟨rfl, hb2⟩
      have hbl2 := hbl.trans (hb2.mono hbl.size)
      have hz2 := hbl2.size
      have x2 := Box.new w2 23 #[.int .i64 k, .int .i64 y, .int .i64 z]
      have hbl3 := hbl2.alloc hz2 (.cells #[.int .i64 k, .int .i64 y, .int .i64 z] 23)
      clear hb2 hbl hbl2
      have hS := (CellB.mk x2 hbl3 (by simp; omega)).drew.cells
      replace hS := Kp.mk hS
      go_wp2_with fail
      go_region_held3 (fun W => CellB w.heap.size w w2.heap.size #[.int .i64 k, .int .i64 y, .int .i64 z] W ∧ W.cell? ⟨w2.heap.size, 0, none⟩ = some (.int .i64 k) ∧ W.cell? ⟨w2.heap.size, 1, none⟩ = some (.int .i64 y) ∧ W.cell? ⟨w2.heap.size, 2, none⟩ = some (.int .i64 z))
        (first | assumption | exact (CellB.keep (And.left (by assumption)) (by assumption)).cells | exact hS.out)
        (first | (go_at_call 13; refine (Mean_rtt _ _ _ _ _ hp.out).mono ?_; rintro e w' ⟨rfl, hb⟩) | (go_at_call 15; refine (Wait_rtt _ _ _ _ _ hv.out).mono ?_; rintro e w' ⟨rfl, hb⟩))
      all_goals
        have M : CellB w.heap.size w w2.heap.size #[.int .i64 k, .int .i64 y, .int .i64 z] w' := And.left (by assumption)
        have c0 := M.b.cell 0; have c1 := M.b.cell 1; have c2 := M.b.cell 2
        have hz3 := M.b.lt
        have hpc : (p ≤ 1000 ∧ p ≤ v) ∨ (1000 < p ∧ 1000 ≤ v) := by omega
        clear hpv
        rcases (show cut < 0 ∨ (0 ≤ cut ∧ (k : Int) < cut) by omega) with hcut | ⟨hc1, hcut⟩
        · rcases hpc with ⟨p1, p2⟩ | ⟨p1, p2⟩
          all_goals
            go_wp2_with (go_at_call 11; refine (May_rtt _ _ _ _ _ hmb.out).mono ?_; rintro e w4 ⟨rfl, hb4⟩; have M4 := M.keep hb4; have d0 := M4.b.cell 0; have d1 := M4.b.cell 1; have d2 := M4.b.cell 2; have hz4 := M4.b.lt)
            go_ret
            exact ⟨rfl, M4.bel⟩
        · rcases hpc with ⟨p1, p2⟩ | ⟨p1, p2⟩
          all_goals
            go_wp2_with (go_at_call 11; refine (May_rtt _ _ _ _ _ hmb.out).mono ?_; rintro e w4 ⟨rfl, hb4⟩; have M4 := M.keep hb4; have d0 := M4.b.cell 0; have d1 := M4.b.cell 1; have d2 := M4.b.cell 2; have hz4 := M4.b.lt)
            go_ret
            exact ⟨rfl, M4.bel⟩
end Go.Proofs.Ytjncpkecmliihaa
