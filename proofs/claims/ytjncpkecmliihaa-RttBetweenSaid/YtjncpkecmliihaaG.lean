/- The walk of the reference's Hear (layer 7): for every meter and every slice of samples; no condition but the slice's own reading. -/
import Derived.Test.YtjncpkecmliihaaH
import Derived.Deep.RegionWith
namespace Go.Proofs.Ytjncpkecmliihaa
open Go.RowKit

def RefRel (a b c : Int) (l : List Int) (w : World) (k : Nat) (wr : World) : Prop :=
  ∃ x y z : Int, k ≤ l.length ∧ (x, y, z) = many (a, b, c) (l.take k) ∧ MayP x y z ∧ Box wr w.heap.size 23 #[.int .i64 x, .int .i64 y, .int .i64 z] ∧
    Box wr (w.heap.size + 1) 23 #[.int .i64 0, .int .i64 0, .int .i64 0] ∧ Below w.heap.size w wr

theorem RefRel.step {a b c : Int} {l : List Int} {w wr : World} {k : Nat} {x y z s : Int} (hk : k < l.length) (hx : (x, y, z) = many (a, b, c) (l.take k)) (hmay : MayP x y z)
    (hs : l[k]?.getD 0 = s) (hs0 : 0 ≤ s) (hs1 : s ≤ 60000) {x' y' z' : Int} (he : (x', y', z') = one (x, y, z) s) (hB : Box wr w.heap.size 23 #[.int .i64 x', .int .i64 y', .int .i64 z'])
    (hR : Box wr (w.heap.size + 1) 23 #[.int .i64 0, .int .i64 0, .int .i64 0]) (hBl : Below w.heap.size w wr) : RefRel a b c l w (k + 1) wr := by
  have hm := (one_may x y z s hmay hs0 hs1).1
  rw [← he] at hm
  refine ⟨x', y', z', hk, ?_, hm, hB, hR, hBl⟩
  rw [take_step l k hk, many_snoc, ← hx, hs, he]

set_option maxRecDepth 100000 in
set_option maxHeartbeats 1000000 in
theorem Hear_ref (a b c : Int) (l : List Int) (A : Option Addr) (n cap : Nat) (w : World) (hl : Sl w w.heap.size .i64 A n l) (hn : n ≤ 1000000000000) :
    Calls Try.prog 10 #[.agg #[.int .i64 a, .int .i64 b, .int .i64 c], .slice A n cap] w (HearPost a b c l w) := by
  have b0 := (Box.new w 23 #[.int .i64 a, .int .i64 b, .int .i64 c]).alloc (.cells #[.int .i64 0, .int .i64 0, .int .i64 0] 23)
  have r0 := Box.new (w.alloc (.cells #[.int .i64 a, .int .i64 b, .int .i64 c] 23)) 23 #[.int .i64 0, .int .i64 0, .int .i64 0]
  simp only [World.size_alloc] at r0
  cases hm : mayB a b c with
  | true =>
    have hp := mayB_true.1 hm
    have H := Lib.hid hm; clear hm
    go_enter Try.func10, Try.ntmps10
    go_wp2_with fail
    refine (May_ref a b c _ true H.out).mono ?_
    rintro e w1 ⟨rfl, hb⟩
    have b1 := b0.keep hb (by simp <;> omega)
    have r1 := r0.keep hb (by simp <;> omega)
    have hbl := (((Below.refl w.heap.size w).alloc (Nat.le_refl _) _).alloc (by simp) _).trans (hb.mono (by simp <;> omega))
    clear hb b0 r0
    have HL := Lib.hid hl.1
    go_wp2_with fail
    go_loop [6] (fun i => ∃ k : Nat, i = .int .i64 k ∧ k ≤ n ∧ Ok (l.take k)) (fun i => n - (intOf i).toNat)
    case atStart => exact ⟨0, rfl, Nat.zero_le _, fun _ h => (by simp at h)⟩
    case round =>
      obtain ⟨k, rfl, hk, hok⟩ := hrel
      by_cases hlt : k < n
      · obtain ⟨bk, o, rfl, hbk, hc⟩ := hl.2 (by omega)
        have hck := hbl.cell (p := ⟨bk, o + k, none⟩) hbk
        rw [hc k hlt] at hck
        clear hc
        generalize hs : l[k]?.getD 0 = s at hck
        have HS := Lib.hid hs; clear hs
        have c0 := r1.cell 0; have c1 := r1.cell 1; have c2 := r1.cell 2
        have f0 := r1.frozen 0; have f1 := r1.frozen 1; have f2 := r1.frozen 2
        by_cases hs : s < 0 ∨ 60000 < s
        · have hbad : ¬ (MayP a b c ∧ Ok l) := fun h => not_ok (by rw [HL.out]; exact hlt) (by rw [HS.out]; exact hs) h.2
          rcases hs with hs | hs
          all_goals
            go_wp2_with fail
            refine bodyPost_ret (v := .tuple #[.agg #[.int .i64 0, .int .i64 0, .int .i64 0], .int .i64 2]) (by simp [results, Try.results10, go_sem, c0, c1, c2]) rfl ⟨0, 0, 0, 2, rfl, .inr ⟨hbad, rfl, rfl, rfl, rfl⟩, ?_⟩
            repeat (first | exact hbl | refine Below.setCell ?_ (by simp <;> omega) _)
        · have hs0 : 0 ≤ s := by omega
          have hs1 : s ≤ 60000 := by omega
          clear hs
          have HO : Hid (Ok (l.take (k + 1))) := ok_step hok (by rw [HL.out]; exact hlt) (by rw [HS.out]; exact hs0) (by rw [HS.out]; exact hs1)
          clear hok
          go_wp2_with fail
          go_round
          case rel => exact ⟨k + 1, by go_num, by omega, HO.out⟩
          case measure => simp [intOf]; omega
      · obtain rfl : k = n := by omega
        have hok' : Hid (Ok l) := by
          have := hok; rwa [List.take_of_length_le (by rw [HL.out]; exact Nat.le_refl _)] at this
        clear hok
        go_wp2_with fail
        go_loopw [7] (fun i wr => ∃ k : Nat, i = .int .i64 k ∧ RefRel a b c l w k wr) (fun i _ => k - (intOf i).toNat)
        case atStart => exact ⟨0, rfl, a, b, c, Nat.zero_le _, rfl, hp, b1, r1, hbl⟩
        case round =>
          obtain ⟨j, rfl, x, y, z, hj, hx, hmay, hB, hR, hBl⟩ := hrel
          have HX := Lib.hid hx; clear hx
          by_cases hlt : j < k
          · obtain ⟨bk, o, rfl, hbk, hc⟩ := hl.2 (by omega)
            have hck := hBl.cell (p := ⟨bk, o + j, none⟩) hbk
            rw [hc j hlt] at hck
            clear hc
            generalize hs : l[j]?.getD 0 = s at hck
            have HS := Lib.hid hs; clear hs
            have c0 := hB.cell 0; have c1 := hB.cell 1; have c2 := hB.cell 2
            have f0 := hB.frozen 0; have f1 := hB.frozen 1; have f2 := hB.frozen 2
            have hs01 : 0 ≤ s ∧ s ≤ 60000 := by
              have := hok'.out s (by rw [← HS.out, List.getElem?_eq_getElem (by rw [HL.out]; exact hlt)]; exact List.getElem_mem _)
              exact this
            obtain ⟨hs0, hs1⟩ := hs01
            go_wp2_with fail
            go_region_with (go_at_call 17; refine (One_ref x y z s _ hmay hs0 hs1).mono ?_; rintro e w2 ⟨x', y', z', rfl, he, hb2⟩; have hB2 := hB.drew.keep hb2 (by simp; exact hB.lt); have hR2 := hR.drew.keep hb2 (by simp; exact hR.lt); have hBl2 := hBl.drew.trans (hb2.mono (by simp; exact hBl.size)); have d0 := hB2.cell 0; have d1 := hB2.cell 1; have d2 := hB2.cell 2; have e0 := hB2.frozen 0; have e1 := hB2.frozen 1; have e2 := hB2.frozen 2; have he := Lib.hid he)
            all_goals
              go_wp2_with fail
              go_roundw
              case rel =>
                refine ⟨j + 1, by go_num, RefRel.step (by rw [HL.out]; exact hlt) HX.out hmay HS.out hs0 hs1 he.out ?_ ?_ ?_⟩
                · simpa using ((hB2.put 0 (.int .i64 x')).put 1 (.int .i64 y')).put 2 (.int .i64 z')
                · exact ((hR2.far (by simp) _).far (by simp) _).far (by simp) _
                · repeat (first | exact hBl2 | refine Below.setCell ?_ (by simp <;> omega) _)
              case measure => simp [intOf]; omega
          · obtain rfl : j = k := by have := HL.out; omega
            have c0 := hB.cell 0; have c1 := hB.cell 1; have c2 := hB.cell 2
            have q0 := hR.cell 0; have q1 := hR.cell 1; have q2 := hR.cell 2
            have g0 := hR.frozen 0; have g1 := hR.frozen 1; have g2 := hR.frozen 2
            have HF : Hid (HearsTo a b c l x y z 0) := by
              refine .inl ⟨hp, hok'.out, ?_, rfl⟩
              have := HX.out; rwa [List.take_of_length_le (by rw [HL.out]; exact Nat.le_refl _)] at this
            go_wp2_with fail
            refine bodyPost_ret (v := .tuple #[.agg #[.int .i64 x, .int .i64 y, .int .i64 z], .int .i64 0]) (by simp [results, Try.results10, go_sem, q0, q1, q2]) rfl ⟨x, y, z, 0, rfl, HF.out, ?_⟩
            repeat (first | exact hBl | refine Below.setCell ?_ (by simp <;> omega) _)
  | false =>
    have hp := mayB_false.1 hm
    have H := Lib.hid hm; clear hm
    go_enter Try.func10, Try.ntmps10
    go_wp2_with fail
    refine (May_ref a b c _ false H.out).mono ?_
    rintro e w1 ⟨rfl, hb⟩
    have r1 := r0.keep hb (by simp <;> omega)
    have c0 := r1.cell 0; have c1 := r1.cell 1; have c2 := r1.cell 2
    have f0 := r1.frozen 0; have f1 := r1.frozen 1; have f2 := r1.frozen 2
    have hbl := (((Below.refl w.heap.size w).alloc (Nat.le_refl _) _).alloc (by simp) _).trans (hb.mono (by simp <;> omega))
    go_wp2_with fail
    refine bodyPost_ret (v := .tuple #[.agg #[.int .i64 0, .int .i64 0, .int .i64 0], .int .i64 2]) (by simp [results, Try.results10, go_sem, c0, c1, c2]) rfl ⟨0, 0, 0, 2, rfl, .inr ⟨fun h => hp h.1, rfl, rfl, rfl, rfl⟩, ?_⟩
    repeat (first | exact hbl | refine Below.setCell ?_ (by simp <;> omega) _)
end Go.Proofs.Ytjncpkecmliihaa
