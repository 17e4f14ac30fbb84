/- The walk of the law TabsWalk (layer 16): true for every four words and every number of columns; the library's table lies in its variable. -/
import Derived.Test.YtnkanohjfanolaaDoorK
namespace Go.Proofs.YtnkanohjfanolaaDoor
open Go.RowKit

theorem next_facts (t : T4) (p C : Nat) (hp : p + 1 < C) : ∃ q : Nat, NextIs t p C q ∧ p < q ∧ q ≤ C - 1 ∧ (q = C - 1 ∨ (q < C - 1 ∧ bit t q = true)) ∧ ∀ c : Nat, p < c → c < q → bit t c = false := by
  obtain ⟨r, hr⟩ := NextIs.exists_ t p C
  rcases hr with ⟨c, rfl, h1, h2, h3, h4⟩ | ⟨rfl, h4⟩
  · refine ⟨c, .inl ⟨c, rfl, h1, h2, h3, h4⟩, by omega, by omega, ?_, fun d h5 h6 => h4 d h6 (by omega)⟩
    by_cases e : c = C - 1
    · exact .inl e
    · exact .inr ⟨by omega, h3⟩
  · exact ⟨C - 1, .inr ⟨by omega, h4⟩, by omega, by omega, .inl rfl, fun d h5 h6 => h4 d (by omega) (by omega)⟩
theorem next_end (t : T4) (C : Nat) (hC : 1 ≤ C) : NextIs t (C - 1 : Nat) C ((C : Int) - 1) := .inr ⟨rfl, fun d h1 h2 => by omega⟩
theorem back_facts (t : T4) (p : Nat) (hp : 0 < p) (hp2 : p < 200) : ∃ q : Nat, BackIs t p q ∧ q < p ∧ (q = 0 ∨ (0 < q ∧ bit t q = true)) ∧ ∀ c : Nat, q < c → c < p → bit t c = false := by
  obtain ⟨r, hr⟩ := BackIs.exists_ t p
  rcases hr with ⟨c, rfl, h0, h1, h2, h3, h4⟩ | ⟨rfl, h4⟩
  · exact ⟨c, .inl ⟨c, rfl, h0, h1, h2, h3, h4⟩, by omega, .inr ⟨h0, h3⟩, fun d h5 h6 => h4 d h5 (by omega) (by omega)⟩
  · exact ⟨0, .inr ⟨rfl, h4⟩, hp, .inl rfl, fun d h5 h6 => h4 d h5 (by omega) (by omega)⟩
theorem clampC_nat (C : Nat) (h1 : 1 ≤ C) (h2 : C ≤ 200) : clampC C = C := by unfold clampC; omega
theorem isI_bit {t : T4} {q : Nat} {v : Bool} (h : bit t q = v) (hq : q < 200) : isI t q = v := by rw [isI_nat t q hq]; exact h

set_option maxRecDepth 100000 in
set_option maxHeartbeats 4000000 in
theorem walk_out (t : T4) (cols : Int) (w : World) (hT : Tab w) (hc : cols < 1 ∨ 200 < cols) :
    Calls Tryd.prog 5 #[.agg #[.int .u64 t.a, .int .u64 t.b, .int .u64 t.c, .int .u64 t.d], .int .i64 cols] w fun e w' => e = .returned (.bool true) ∧ Below w.heap.size w w' := by
  have hT1 : Tab (w.alloc (.cells #[.int .u64 t.a, .int .u64 t.b, .int .u64 t.c, .int .u64 t.d] 24)) := hT.keep ((Below.refl w.heap.size w).alloc (Nat.le_refl _) _) hT.lt
  have hb1 := (Below.refl w.heap.size w).alloc (Nat.le_refl _) (.cells #[.int .u64 t.a, .int .u64 t.b, .int .u64 t.c, .int .u64 t.d] 24)
  rcases hc with h | h
  all_goals
    go_enter Tryd.func5, Tryd.ntmps5
    go_wp2_with fail
    refine (known_any _ hT1).mono ?_
    rintro _ w1 ⟨rfl, hb⟩
    have hbl := hb1.trans (hb.mono (by simp))
    go_wp2_with fail
    go_ret
    exact ⟨rfl, hbl⟩

set_option maxRecDepth 100000 in
set_option maxHeartbeats 4000000 in
theorem tabsWalk_to (t : T4) (C : Nat) (w : World) (ht : t.Ok) (hT : Tab w) (hC1 : 1 ≤ C) (hC2 : C ≤ 200) :
    Calls Tryd.prog 5 #[.agg #[.int .u64 t.a, .int .u64 t.b, .int .u64 t.c, .int .u64 t.d], .int .i64 C] w fun e w' => e = .returned (.bool true) ∧ Below w.heap.size w w' := by
  have hcl := Kp.mk (clampC_nat C hC1 hC2)
  have M0 : TM w.heap.size w w.heap.size t (w.alloc (.cells #[.int .u64 t.a, .int .u64 t.b, .int .u64 t.c, .int .u64 t.d] 24)) := ⟨Box.new _ _ _, hT.keep ((Below.refl w.heap.size w).alloc (Nat.le_refl _) _) hT.lt, (Below.refl _ _).alloc (Nat.le_refl _) _, by simp⟩
  go_enter Tryd.func5, Tryd.ntmps5
  go_wp2_with fail
  refine (known_any _ M0.tab).mono ?_
  rintro _ w1 ⟨rfl, hb⟩
  have M1 := M0.keep hb
  clear hb M0 hT
  go_wp2_with fail
  go_loopw [5, 6] (fun a s wr => ∃ p n : Nat, a = .int .i64 p ∧ s = .int .i64 n ∧ (p + 1 ≤ C ∧ n ≤ p) ∧ TM w.heap.size w w.heap.size t wr) (fun a _ _ => C - (intOf a).toNat)
  case atStart => exact ⟨0, 0, rfl, rfl, ⟨hC1, Nat.le_refl _⟩, M1⟩
  case round =>
    obtain ⟨p, n, rfl, rfl, ⟨hpC, hnp⟩, M⟩ := hrel
    clear M1
    have c0 := M.b.cell 0; have c1 := M.b.cell 1; have c2 := M.b.cell 2; have c3 := M.b.cell 3
    by_cases hlt : p + 1 < C
    · have hlt' : (p : Int) < C - 1 := by omega
      obtain ⟨q, hq, hpq, hqC, hqb, hgap⟩ := next_facts t p C hlt
      replace hq := Kp.mk hq
      replace hgap := Kp.mk hgap
      go_wp2_with fail
      refine (Next_tabs_to t p C q _ ht M.tab (by rw [hcl.out]; exact hq.out)).mono ?_
      rintro _ w2 ⟨rfl, hb2⟩
      have M2 := M.keep hb2
      clear c0 c1 c2 c3
      have c0 := M2.b.cell 0; have c1 := M2.b.cell 1; have c2 := M2.b.cell 2; have c3 := M2.b.cell 3
      have e1 : ¬ (200 : Int) < n := by omega
      have e2 : ¬ (q : Int) ≤ p := by omega
      have e3 : ¬ (C : Int) - 1 < q := by omega
      have e2n : ¬ q ≤ p := by omega
      have e2m : ¬ C ≤ p + 1 := by omega
      rcases hqb with hqb | ⟨hqb, hbit⟩
      · have e4 : ((q : Int) != C - 1) = false := by simp; omega
        go_wp2_with fail
        go_loopw [8] (fun i wr => ∃ k : Nat, i = .int .i64 k ∧ (p < k ∧ k ≤ q) ∧ TM w.heap.size w w.heap.size t wr) (fun i _ => q - (intOf i).toNat)
        case atStart => exact ⟨p + 1, by go_num, ⟨by omega, by omega⟩, M2⟩
        case round =>
          obtain ⟨k, rfl, ⟨hk1, hk2⟩, M3⟩ := hrel
          by_cases hkq : k < q
          · have hI := Kp.mk (isI_bit (hgap.out k hk1 hkq) (by omega))
            clear c0 c1 c2 c3
            have c0 := M3.b.cell 0; have c1 := M3.b.cell 1; have c2 := M3.b.cell 2; have c3 := M3.b.cell 3
            go_wp2_with fail
            refine (Is_tabs t k _ ht _ hI.out).mono ?_
            rintro _ w4 ⟨rfl, hb4⟩
            have M4 := M3.keep hb4
            go_wp2_with fail
            go_roundw
            case rel => exact ⟨k + 1, by go_num, ⟨by omega, by omega⟩, M4⟩
            case measure => simp [intOf]; omega
          · go_wp2_with fail
            go_roundw
            case rel => exact ⟨q, n + 1, by congr 1 <;> omega, by go_num, ⟨by omega, by omega⟩, M3⟩
            case measure => simp [intOf]; omega
      · have e4 : ((q : Int) != C - 1) = true := by simp; omega
        have hIq := Kp.mk (isI_bit hbit (by omega))
        go_wp2_with fail
        refine (Is_tabs t q _ ht _ hIq.out).mono ?_
        rintro _ w3 ⟨rfl, hb3⟩
        have M2b := M2.keep hb3
        go_wp2_with fail
        go_loopw [8] (fun i wr => ∃ k : Nat, i = .int .i64 k ∧ (p < k ∧ k ≤ q) ∧ TM w.heap.size w w.heap.size t wr) (fun i _ => q - (intOf i).toNat)
        case atStart => exact ⟨p + 1, by go_num, ⟨by omega, by omega⟩, M2b⟩
        case round =>
          obtain ⟨k, rfl, ⟨hk1, hk2⟩, M3⟩ := hrel
          by_cases hkq : k < q
          · have hI := Kp.mk (isI_bit (hgap.out k hk1 hkq) (by omega))
            clear c0 c1 c2 c3
            have c0 := M3.b.cell 0; have c1 := M3.b.cell 1; have c2 := M3.b.cell 2; have c3 := M3.b.cell 3
            go_wp2_with fail
            refine (Is_tabs t k _ ht _ hI.out).mono ?_
            rintro _ w4 ⟨rfl, hb4⟩
            have M4 := M3.keep hb4
            go_wp2_with fail
            go_roundw
            case rel => exact ⟨k + 1, by go_num, ⟨by omega, by omega⟩, M4⟩
            case measure => simp [intOf]; omega
          · go_wp2_with fail
            go_roundw
            case rel => exact ⟨q, n + 1, by congr 1 <;> omega, by go_num, ⟨by omega, by omega⟩, M3⟩
            case measure => simp [intOf]; omega
    · have hpe : p = C - 1 := by omega
      have hlt' : ¬ (p : Int) < C - 1 := by omega
      have hq : Kp (NextIs t p C ((C : Int) - 1)) := ⟨by rw [hpe]; exact next_end t C hC1⟩
      clear hpe
      go_wp2_with fail
      refine (Next_tabs_to t p C ((C : Int) - 1) _ ht M.tab (by rw [hcl.out]; exact hq.out)).mono ?_
      rintro _ w2 ⟨rfl, hb2⟩
      have M2 := M.keep hb2
      clear c0 c1 c2 c3
      go_wp2_with fail
      go_loopw [5, 9] (fun a s wr => ∃ p n : Nat, a = .int .i64 p ∧ s = .int .i64 n ∧ (p + n ≤ 199) ∧ TM w.heap.size w w.heap.size t wr) (fun a _ _ => (intOf a).toNat)
      case atStart => exact ⟨p, 0, rfl, rfl, by omega, M2⟩
      case round =>
        obtain ⟨p', n', rfl, rfl, hpn, M⟩ := hrel
        clear M2
        have c0 := M.b.cell 0; have c1 := M.b.cell 1; have c2 := M.b.cell 2; have c3 := M.b.cell 3
        by_cases hp0 : 0 < p'
        · have hp0' : (0 : Int) < p' := by omega
          obtain ⟨q, hq, hqp, hqb, hgap⟩ := back_facts t p' hp0 (by omega)
          replace hq := Kp.mk hq
          replace hgap := Kp.mk hgap
          go_wp2_with fail
          refine (Back_tabs_to t p' q _ ht M.tab hq.out).mono ?_
          rintro _ w5 ⟨rfl, hb5⟩
          have M5 := M.keep hb5
          clear c0 c1 c2 c3
          have c0 := M5.b.cell 0; have c1 := M5.b.cell 1; have c2 := M5.b.cell 2; have c3 := M5.b.cell 3
          have e1 : ¬ (200 : Int) < n' := by omega
          have e2 : ¬ (p' : Int) ≤ q := by omega
          have e3 : ¬ (q : Int) < 0 := by omega
          have e2n : ¬ p' ≤ q := by omega
          rcases hqb with hqb | ⟨hqb, hbit⟩
          · have e4 : ¬ (0 : Int) < q := by omega
            go_wp2_with fail
            go_loopw [11] (fun i wr => ∃ k : Nat, i = .int .i64 k ∧ (q < k ∧ k ≤ p') ∧ TM w.heap.size w w.heap.size t wr) (fun i _ => p' - (intOf i).toNat)
            case atStart => exact ⟨q + 1, by go_num, ⟨by omega, by omega⟩, M5⟩
            case round =>
              obtain ⟨k, rfl, ⟨hk1, hk2⟩, M3⟩ := hrel
              by_cases hkq : k < p'
              · have hI := Kp.mk (isI_bit (hgap.out k hk1 hkq) (by omega))
                clear c0 c1 c2 c3
                have c0 := M3.b.cell 0; have c1 := M3.b.cell 1; have c2 := M3.b.cell 2; have c3 := M3.b.cell 3
                go_wp2_with fail
                refine (Is_tabs t k _ ht _ hI.out).mono ?_
                rintro _ w4 ⟨rfl, hb4⟩
                have M4 := M3.keep hb4
                go_wp2_with fail
                go_roundw
                case rel => exact ⟨k + 1, by go_num, ⟨by omega, by omega⟩, M4⟩
                case measure => simp [intOf]; omega
              · go_wp2_with fail
                go_roundw
                case rel => exact ⟨q, n' + 1, by congr 1 <;> omega, by go_num, by omega, M3⟩
                case measure => simp [intOf]; omega
          · have e4 : (0 : Int) < q := by omega
            have hIq := Kp.mk (isI_bit hbit (by omega))
            go_wp2_with fail
            refine (Is_tabs t q _ ht _ hIq.out).mono ?_
            rintro _ w3 ⟨rfl, hb3⟩
            have M5b := M5.keep hb3
            go_wp2_with fail
            go_loopw [11] (fun i wr => ∃ k : Nat, i = .int .i64 k ∧ (q < k ∧ k ≤ p') ∧ TM w.heap.size w w.heap.size t wr) (fun i _ => p' - (intOf i).toNat)
            case atStart => exact ⟨q + 1, by go_num, ⟨by omega, by omega⟩, M5b⟩
            case round =>
              obtain ⟨k, rfl, ⟨hk1, hk2⟩, M3⟩ := hrel
              by_cases hkq : k < p'
              · have hI := Kp.mk (isI_bit (hgap.out k hk1 hkq) (by omega))
                clear c0 c1 c2 c3
                have c0 := M3.b.cell 0; have c1 := M3.b.cell 1; have c2 := M3.b.cell 2; have c3 := M3.b.cell 3
                go_wp2_with fail
                refine (Is_tabs t k _ ht _ hI.out).mono ?_
                rintro _ w4 ⟨rfl, hb4⟩
                have M4 := M3.keep hb4
                go_wp2_with fail
                go_roundw
                case rel => exact ⟨k + 1, by go_num, ⟨by omega, by omega⟩, M4⟩
                case measure => simp [intOf]; omega
              · go_wp2_with fail
                go_roundw
                case rel => exact ⟨q, n' + 1, by congr 1 <;> omega, by go_num, by omega, M3⟩
                case measure => simp [intOf]; omega
        · have hp0' : ¬ (0 : Int) < p' := by omega
          go_wp2_with fail
          go_ret
          exact ⟨rfl, M.bel⟩

theorem walk_any (t : T4) (cols : Int) (w : World) (ht : t.Ok) (hT : Tab w) :
    Calls Tryd.prog 5 #[.agg #[.int .u64 t.a, .int .u64 t.b, .int .u64 t.c, .int .u64 t.d], .int .i64 cols] w fun e w' => e = .returned (.bool true) ∧ Below w.heap.size w w' := by
  by_cases h : cols < 1 ∨ 200 < cols
  · exact walk_out t cols w hT h
  · obtain ⟨C, rfl⟩ := Int.eq_ofNat_of_zero_le (show 0 ≤ cols by omega)
    exact tabsWalk_to t C w ht hT (by omega) (by omega)
end Go.Proofs.YtnkanohjfanolaaDoor
