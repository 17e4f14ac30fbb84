/- The walks of Hear, of layer 7 and of its reference: for every meter and every slice of samples; no condition but the slice's own reading. -/
import Derived.Test.YtjncpkecmliihaaF
namespace Go.Proofs.Ytjncpkecmliihaa
open Go.RowKit

theorem max_if (p q : Int) : max p q = if p < q then q else p := by split <;> omega
theorem min_if (p : Int) : min p 1073741824 = if 1073741824 < p then 1073741824 else p := by split <;> omega

def HearPost (a b c : Int) (l : List Int) (w : World) (e : Ending) (w' : World) : Prop :=
  ∃ a' b' c' f : Int, e = .returned (.tuple #[.agg #[.int .i64 a', .int .i64 b', .int .i64 c'], .int .i64 f]) ∧ HearsTo a b c l a' b' c' f ∧ Below w.heap.size w w'

def HearRel (a b c : Int) (l : List Int) (w : World) (k : Nat) (wr : World) : Prop :=
  ∃ x y z : Int, k ≤ l.length ∧ (x, y, z) = many (a, b, c) (l.take k) ∧ Ok (l.take k) ∧ MayP x y z ∧ Box wr w.heap.size 23 #[.int .i64 x, .int .i64 y, .int .i64 z] ∧
    Box wr (w.heap.size + 1) 23 #[.int .i64 0, .int .i64 0, .int .i64 0] ∧ Below w.heap.size w wr

theorem HearRel.step {a b c : Int} {l : List Int} {w wr : World} {k : Nat} {x y z s : Int} (hk : k < l.length) (hx : (x, y, z) = many (a, b, c) (l.take k)) (hok : Ok (l.take k)) (hmay : MayP x y z)
    (hs : l[k]?.getD 0 = s) (hs0 : 0 ≤ s) (hs1 : s ≤ 60000) {x' y' z' : Int} (he : one (x, y, z) s = (x', y', z')) (hB : Box wr w.heap.size 23 #[.int .i64 x', .int .i64 y', .int .i64 z'])
    (hR : Box wr (w.heap.size + 1) 23 #[.int .i64 0, .int .i64 0, .int .i64 0]) (hBl : Below w.heap.size w wr) : HearRel a b c l w (k + 1) wr := by
  have hm := (one_may x y z s hmay hs0 hs1).1
  rw [he] at hm
  refine ⟨x', y', z', hk, ?_, ok_step hok hk (by omega) (by omega), hm, hB, hR, hBl⟩
  rw [take_step l k hk, many_snoc, ← hx, hs, he]

set_option maxRecDepth 100000 in
set_option maxHeartbeats 1000000 in
theorem Hear_rtt (a b c : Int) (l : List Int) (A : Option Addr) (n cap : Nat) (w : World) (hl : Sl w w.heap.size .i64 A n l) (hn : n ≤ 1000000000000) :
    Calls Try.prog 9 #[.agg #[.int .i64 a, .int .i64 b, .int .i64 c], .slice A n cap] w (HearPost a b c l w) := by
  have b0 := (Box.new w 23 #[.int .i64 a, .int .i64 b, .int .i64 c]).alloc (.cells #[.int .i64 0, .int .i64 0, .int .i64 0] 23)
  have r0 := Box.new (w.alloc (.cells #[.int .i64 a, .int .i64 b, .int .i64 c] 23)) 23 #[.int .i64 0, .int .i64 0, .int .i64 0]
  simp only [World.size_alloc] at r0
  cases hm : mayB a b c with
  | true =>
    have hp := mayB_true.1 hm
    have H := Lib.hid hm; clear hm
    go_enter Try.func9, Try.ntmps9
    go_wp2_with fail
    refine (May_rtt a b c _ true H.out).mono ?_
    rintro e w1 ⟨rfl, hb⟩
    have b1 := b0.keep hb (by simp <;> omega)
    have r1 := r0.keep hb (by simp <;> omega)
    have hbl := (((Below.refl w.heap.size w).alloc (Nat.le_refl _) _).alloc (by simp) _).trans (hb.mono (by simp <;> omega))
    clear hb
    go_wp2_with fail
    go_loopw [15] (fun i wr => ∃ k : Nat, i = .int .i64 k ∧ HearRel a b c l w k wr) (fun i _ => n - (intOf i).toNat)
    case atStart => exact ⟨0, rfl, a, b, c, Nat.zero_le _, rfl, fun _ h => (by simp at h), hp, b1, r1, hbl⟩
    case round =>
      obtain ⟨k, rfl, x, y, z, hk, hx, hok, hmay, hB, hR, hBl⟩ := hrel
      have hln : l.length = n := hl.1
      have HX := Lib.hid hx; clear hx
      have HL := Lib.hid hln; clear hln
      by_cases hlt : k < n
      · obtain ⟨bk, o, rfl, hbk, hc⟩ := hl.2 (by omega)
        have hck := hBl.cell (p := ⟨bk, o + k, none⟩) hbk
        rw [hc k hlt] at hck
        clear hc
        have c0 := hB.cell 0; have c1 := hB.cell 1; have c2 := hB.cell 2
        have f0 := hB.frozen 0; have f1 := hB.frozen 1; have f2 := hB.frozen 2
        have q0 := hR.cell 0; have q1 := hR.cell 1; have q2 := hR.cell 2
        have g0 := hR.frozen 0; have g1 := hR.frozen 1; have g2 := hR.frozen 2
        generalize hs : l[k]?.getD 0 = s at hck
        have HS := Lib.hid hs; clear hs
        by_cases hs : s < 0 ∨ 60000 < s
        · have hbad : ¬ (MayP a b c ∧ Ok l) := fun h => not_ok (by rw [HL.out]; exact hlt) (by rw [HS.out]; exact hs) h.2
          rcases hs with hs | hs
          all_goals
            go_wp2_with fail
            refine bodyPost_ret (v := .tuple #[.agg #[.int .i64 0, .int .i64 0, .int .i64 0], .int .i64 2]) (by simp [results, Try.results9, go_sem, q0, q1, q2]) rfl ⟨0, 0, 0, 2, rfl, .inr ⟨hbad, rfl, rfl, rfl, rfl⟩, ?_⟩
            repeat (first | exact hBl | refine Below.setCell ?_ (by simp <;> omega) _)
        · have hs0 : 0 ≤ s := by omega
          have hs1 : s ≤ 60000 := by omega
          have hms := hmay
          obtain ⟨x1, x2, x3, x4, x5, x6, x7⟩ := hms
          clear hs
          by_cases hx0 : x = 0
          · subst hx0
            clear x7
            go_wp2_with fail
            go_roundw
            case rel =>
              refine ⟨k + 1, by go_num, HearRel.step (by rw [HL.out]; exact hlt) HX.out hok hmay HS.out hs0 hs1 (one_zero 0 y z s rfl) ?_ ?_ ?_⟩
              · simpa using ((hB.put 1 (.int .i64 (8 * s))).put 2 (.int .i64 (2 * s))).put 0 (.int .i64 1)
              · exact ((hR.far (by simp) _).far (by simp) _).far (by simp) _
              · repeat (first | exact hBl | refine Below.setCell ?_ (by simp <;> omega) _)
            case measure => simp [intOf]; omega
          · have hx0' : (x == 0) = false := by simpa using hx0
            clear x7
            go_wp2_with fail
            go_roundw
            case rel =>
              refine ⟨k + 1, by go_num, HearRel.step (by rw [HL.out]; exact hlt) HX.out hok hmay HS.out hs0 hs1 (one_pos x y z s hx0) ?_ ?_ ?_⟩
              · rw [← min_if, ← max_if, show z - z / 4 + max (s - y / 8) (-(s - y / 8)) = min (z - z / 4 + max (s - y / 8) (-(s - y / 8))) 480007 from by omega]
                simpa using ((hB.put 1 (.int .i64 (y + (s - y / 8)))).put 2 (.int .i64 (min (z - z / 4 + max (s - y / 8) (-(s - y / 8))) 480007))).put 0 (.int .i64 (min (x + 1) 1073741824))
              · exact ((hR.far (by simp) _).far (by simp) _).far (by simp) _
              · repeat (first | exact hBl | refine Below.setCell ?_ (by simp <;> omega) _)
            case measure => simp [intOf]; omega
      · obtain rfl : k = n := by have := HL.out; omega
        have c0 := hB.cell 0; have c1 := hB.cell 1; have c2 := hB.cell 2
        have q0 := hR.cell 0; have q1 := hR.cell 1; have q2 := hR.cell 2
        have g0 := hR.frozen 0; have g1 := hR.frozen 1; have g2 := hR.frozen 2
        have HF : Hid (HearsTo a b c l x y z 0) := by
          refine .inl ⟨hp, ?_, ?_, rfl⟩
          · have := hok; rwa [List.take_of_length_le (by rw [HL.out]; exact Nat.le_refl _)] at this
          · have := HX.out; rwa [List.take_of_length_le (by rw [HL.out]; exact Nat.le_refl _)] at this
        clear hok
        go_wp2_with fail
        refine bodyPost_ret (v := .tuple #[.agg #[.int .i64 x, .int .i64 y, .int .i64 z], .int .i64 0]) (by simp [results, Try.results9, go_sem, q0, q1, q2]) rfl ⟨x, y, z, 0, rfl, HF.out, ?_⟩
        repeat (first | exact hBl | refine Below.setCell ?_ (by simp <;> omega) _)
  | false =>
    have hp := mayB_false.1 hm
    have H := Lib.hid hm; clear hm
    go_enter Try.func9, Try.ntmps9
    go_wp2_with fail
    refine (May_rtt a b c _ false H.out).mono ?_
    rintro e w1 ⟨rfl, hb⟩
    have r1 := r0.keep hb (by simp <;> omega)
    have c0 := r1.cell 0; have c1 := r1.cell 1; have c2 := r1.cell 2
    have f0 := r1.frozen 0; have f1 := r1.frozen 1; have f2 := r1.frozen 2
    have hbl := (((Below.refl w.heap.size w).alloc (Nat.le_refl _) _).alloc (by simp) _).trans (hb.mono (by simp <;> omega))
    go_wp2_with fail
    refine bodyPost_ret (v := .tuple #[.agg #[.int .i64 0, .int .i64 0, .int .i64 0], .int .i64 2]) (by simp [results, Try.results9, go_sem, c0, c1, c2]) rfl ⟨0, 0, 0, 2, rfl, .inr ⟨fun h => hp h.1, rfl, rfl, rfl, rfl⟩, ?_⟩
    repeat (first | exact hbl | refine Below.setCell ?_ (by simp <;> omega) _)
end Go.Proofs.Ytjncpkecmliihaa
