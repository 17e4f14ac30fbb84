/- The walks of the reference's Next, Back, Wider and of Wider, Usual of layer 16. For every four words and all numbers; no condition. -/
import Derived.Test.YtnkanohjfanolaaDoorG
import Derived.Test.YtnkanohjfanolaaDoorN
namespace Go.Proofs.YtnkanohjfanolaaDoor
open Go.RowKit

/-- An answer of one number. -/
def IntVal (Q : Int → Prop) (w : World) (e : Ending) (w' : World) : Prop := ∃ r : Int, e = .returned (.int .i64 r) ∧ Q r ∧ Below w.heap.size w w'

structure NextMem (t : T4) (x : Int) (C : Nat) (w : World) (k : Nat) (wr : World) : Prop where
  le : k ≤ C
  none_ : ∀ d : Nat, d < k → x < d → bit t d = false
  b : Box wr w.heap.size 24 #[.int .u64 t.a, .int .u64 t.b, .int .u64 t.c, .int .u64 t.d]
  bel : Below w.heap.size w wr

theorem bit_of_isI {t : T4} {k : Nat} {v : Bool} (h : isI t k = v) (hk : k < 200) : bit t k = v := by
  rw [isI_nat t k hk] at h; exact h

set_option maxRecDepth 100000 in
set_option maxHeartbeats 1000000 in
theorem Next_ref (t : T4) (x cols : Int) (w : World) (ht : t.Ok) :
    Calls Tryd.prog 9 #[.agg #[.int .u64 t.a, .int .u64 t.b, .int .u64 t.c, .int .u64 t.d], .int .i64 x, .int .i64 cols] w (IntVal (NextIs t x (clampC cols)) w) := by
  have b0 := Box.new w 24 #[.int .u64 t.a, .int .u64 t.b, .int .u64 t.c, .int .u64 t.d]
  have hb0 := (Below.refl w.heap.size w).alloc (Nat.le_refl _) (.cells #[.int .u64 t.a, .int .u64 t.b, .int .u64 t.c, .int .u64 t.d] 24)
  rcases (show cols < 1 ∨ (¬ cols < 1 ∧ 200 < cols) ∨ (¬ cols < 1 ∧ ¬ 200 < cols) by omega) with h1 | ⟨h1, h2⟩ | ⟨h1, h2⟩
  · have hC : clampC cols = 1 := by unfold clampC; omega
    rw [hC]
    clear hC
    go_enter Tryd.func9, Tryd.ntmps9
    go_wp2_with fail
    go_loopw [7] (fun i wr => ∃ k : Nat, i = .int .i64 k ∧ NextMem t x 1 w k wr) (fun i _ => 1 - (intOf i).toNat)
    case atStart => exact ⟨0, rfl, Nat.zero_le _, fun d hd => absurd hd (Nat.not_lt_zero _), b0, hb0⟩
    case round =>
      obtain ⟨k, rfl, hM⟩ := hrel
      by_cases hlt : k < 1
      · have hltC : (k : Int) < 1 := by omega
        by_cases hxk : x < k
        · obtain ⟨v, hv⟩ : ∃ v, isI t k = v := ⟨_, rfl⟩
          have c0 := hM.b.cell 0; have c1 := hM.b.cell 1; have c2 := hM.b.cell 2; have c3 := hM.b.cell 3
          cases v with
          | true =>
            have hf := Kp.mk (bit_of_isI hv (by omega))
            replace hv := Kp.mk hv
            go_wp2_with fail
            refine (Is_ref t k _ ht _ hv.out).mono ?_
            rintro _ w1 ⟨rfl, hb1⟩
            have hbl := hM.bel.trans (hb1.mono hM.bel.size)
            go_wp2_with fail
            go_ret
            exact ⟨k, rfl, .inl ⟨k, rfl, hlt, hxk, hf.out, hM.none_⟩, hbl⟩
          | false =>
            have hf := Kp.mk (bit_of_isI hv (by omega))
            replace hv := Kp.mk hv
            go_wp2_with fail
            refine (Is_ref t k _ ht _ hv.out).mono ?_
            rintro _ w1 ⟨rfl, hb1⟩
            have hbl := hM.bel.trans (hb1.mono hM.bel.size)
            have hbx := hM.b.keep hb1 hM.b.lt
            go_wp2_with fail
            go_roundw
            case rel =>
              refine ⟨k + 1, by go_num, hlt, fun d hd hxd => ?_, hbx, hbl⟩
              rcases Nat.lt_or_ge d k with h | h
              · exact hM.none_ d h hxd
              · obtain rfl : d = k := by omega
                exact hf.out
            case measure => simp [intOf]; omega
        · go_wp2_with fail
          go_roundw
          case rel =>
            refine ⟨k + 1, by go_num, hlt, fun d hd hxd => ?_, hM.b, hM.bel⟩
            rcases Nat.lt_or_ge d k with h | h
            · exact hM.none_ d h hxd
            · exfalso; omega
          case measure => simp [intOf]; omega
      · have hltC : ¬ (k : Int) < 1 := by omega
        have hk := hM.le
        go_wp2_with fail
        go_ret
        exact ⟨_, rfl, .inr ⟨by omega, fun d hd hxd => hM.none_ d (by omega) hxd⟩, hM.bel⟩
  · have hC : clampC cols = 200 := by unfold clampC; omega
    rw [hC]
    clear hC
    go_enter Tryd.func9, Tryd.ntmps9
    go_wp2_with fail
    go_loopw [7] (fun i wr => ∃ k : Nat, i = .int .i64 k ∧ NextMem t x 200 w k wr) (fun i _ => 200 - (intOf i).toNat)
    case atStart => exact ⟨0, rfl, Nat.zero_le _, fun d hd => absurd hd (Nat.not_lt_zero _), b0, hb0⟩
    case round =>
      obtain ⟨k, rfl, hM⟩ := hrel
      by_cases hlt : k < 200
      · have hltC : (k : Int) < 200 := by omega
        by_cases hxk : x < k
        · obtain ⟨v, hv⟩ : ∃ v, isI t k = v := ⟨_, rfl⟩
          have c0 := hM.b.cell 0; have c1 := hM.b.cell 1; have c2 := hM.b.cell 2; have c3 := hM.b.cell 3
          cases v with
          | true =>
            have hf := Kp.mk (bit_of_isI hv (by omega))
            replace hv := Kp.mk hv
            go_wp2_with fail
            refine (Is_ref t k _ ht _ hv.out).mono ?_
            rintro _ w1 ⟨rfl, hb1⟩
            have hbl := hM.bel.trans (hb1.mono hM.bel.size)
            go_wp2_with fail
            go_ret
            exact ⟨k, rfl, .inl ⟨k, rfl, hlt, hxk, hf.out, hM.none_⟩, hbl⟩
          | false =>
            have hf := Kp.mk (bit_of_isI hv (by omega))
            replace hv := Kp.mk hv
            go_wp2_with fail
            refine (Is_ref t k _ ht _ hv.out).mono ?_
            rintro _ w1 ⟨rfl, hb1⟩
            have hbl := hM.bel.trans (hb1.mono hM.bel.size)
            have hbx := hM.b.keep hb1 hM.b.lt
            go_wp2_with fail
            go_roundw
            case rel =>
              refine ⟨k + 1, by go_num, hlt, fun d hd hxd => ?_, hbx, hbl⟩
              rcases Nat.lt_or_ge d k with h | h
              · exact hM.none_ d h hxd
              · obtain rfl : d = k := by omega
                exact hf.out
            case measure => simp [intOf]; omega
        · go_wp2_with fail
          go_roundw
          case rel =>
            refine ⟨k + 1, by go_num, hlt, fun d hd hxd => ?_, hM.b, hM.bel⟩
            rcases Nat.lt_or_ge d k with h | h
            · exact hM.none_ d h hxd
            · exfalso; omega
          case measure => simp [intOf]; omega
      · have hltC : ¬ (k : Int) < 200 := by omega
        have hk := hM.le
        go_wp2_with fail
        go_ret
        exact ⟨_, rfl, .inr ⟨by omega, fun d hd hxd => hM.none_ d (by omega) hxd⟩, hM.bel⟩
  · obtain ⟨C, rfl⟩ := Int.eq_ofNat_of_zero_le (show 0 ≤ cols by omega)
    have hC : clampC C = C := by unfold clampC; omega
    rw [hC]
    clear hC
    have hC1 : 1 ≤ C := by omega
    have hC2 : C ≤ 200 := by omega
    go_enter Tryd.func9, Tryd.ntmps9
    go_wp2_with fail
    go_loopw [7] (fun i wr => ∃ k : Nat, i = .int .i64 k ∧ NextMem t x C w k wr) (fun i _ => C - (intOf i).toNat)
    case atStart => exact ⟨0, rfl, Nat.zero_le _, fun d hd => absurd hd (Nat.not_lt_zero _), b0, hb0⟩
    case round =>
      obtain ⟨k, rfl, hM⟩ := hrel
      by_cases hlt : k < C
      · have hltC : (k : Int) < (C : Int) := by omega
        by_cases hxk : x < k
        · obtain ⟨v, hv⟩ : ∃ v, isI t k = v := ⟨_, rfl⟩
          have c0 := hM.b.cell 0; have c1 := hM.b.cell 1; have c2 := hM.b.cell 2; have c3 := hM.b.cell 3
          cases v with
          | true =>
            have hf := Kp.mk (bit_of_isI hv (by omega))
            replace hv := Kp.mk hv
            go_wp2_with fail
            refine (Is_ref t k _ ht _ hv.out).mono ?_
            rintro _ w1 ⟨rfl, hb1⟩
            have hbl := hM.bel.trans (hb1.mono hM.bel.size)
            go_wp2_with fail
            go_ret
            exact ⟨k, rfl, .inl ⟨k, rfl, hlt, hxk, hf.out, hM.none_⟩, hbl⟩
          | false =>
            have hf := Kp.mk (bit_of_isI hv (by omega))
            replace hv := Kp.mk hv
            go_wp2_with fail
            refine (Is_ref t k _ ht _ hv.out).mono ?_
            rintro _ w1 ⟨rfl, hb1⟩
            have hbl := hM.bel.trans (hb1.mono hM.bel.size)
            have hbx := hM.b.keep hb1 hM.b.lt
            go_wp2_with fail
            go_roundw
            case rel =>
              refine ⟨k + 1, by go_num, hlt, fun d hd hxd => ?_, hbx, hbl⟩
              rcases Nat.lt_or_ge d k with h | h
              · exact hM.none_ d h hxd
              · obtain rfl : d = k := by omega
                exact hf.out
            case measure => simp [intOf]; omega
        · go_wp2_with fail
          go_roundw
          case rel =>
            refine ⟨k + 1, by go_num, hlt, fun d hd hxd => ?_, hM.b, hM.bel⟩
            rcases Nat.lt_or_ge d k with h | h
            · exact hM.none_ d h hxd
            · exfalso; omega
          case measure => simp [intOf]; omega
      · have hltC : ¬ (k : Int) < (C : Int) := by omega
        have hk := hM.le
        go_wp2_with fail
        go_ret
        exact ⟨_, rfl, .inr ⟨by omega, fun d hd hxd => hM.none_ d (by omega) hxd⟩, hM.bel⟩

structure BackMem (t : T4) (x : Int) (w : World) (k : Nat) (wr : World) : Prop where
  le : k < 200
  none_ : ∀ d : Nat, k < d → d < 200 → (d : Int) < x → bit t d = false
  b : Box wr w.heap.size 24 #[.int .u64 t.a, .int .u64 t.b, .int .u64 t.c, .int .u64 t.d]
  bel : Below w.heap.size w wr

set_option maxRecDepth 100000 in
set_option maxHeartbeats 1000000 in
theorem Back_ref (t : T4) (x : Int) (w : World) (ht : t.Ok) :
    Calls Tryd.prog 11 #[.agg #[.int .u64 t.a, .int .u64 t.b, .int .u64 t.c, .int .u64 t.d], .int .i64 x] w (IntVal (BackIs t x) w) := by
  have b0 := Box.new w 24 #[.int .u64 t.a, .int .u64 t.b, .int .u64 t.c, .int .u64 t.d]
  have hb0 := (Below.refl w.heap.size w).alloc (Nat.le_refl _) (.cells #[.int .u64 t.a, .int .u64 t.b, .int .u64 t.c, .int .u64 t.d] 24)
  go_enter Tryd.func11, Tryd.ntmps11
  go_wp2_with fail
  go_loopw [5] (fun i wr => ∃ k : Nat, i = .int .i64 k ∧ BackMem t x w k wr) (fun i _ => (intOf i).toNat)
  case atStart => exact ⟨199, rfl, by omega, fun d h1 h2 => by omega, b0, hb0⟩
  case round =>
    obtain ⟨k, rfl, hM⟩ := hrel
    have hkl := hM.le
    by_cases hlt : 0 < k
    · have hltC : (0 : Int) < k := by omega
      obtain ⟨j, rfl⟩ : ∃ j, k = j + 1 := ⟨k - 1, by omega⟩
      by_cases hxk : ((j + 1 : Nat) : Int) < x
      · obtain ⟨v, hv⟩ : ∃ v, isI t (j + 1 : Nat) = v := ⟨_, rfl⟩
        have c0 := hM.b.cell 0; have c1 := hM.b.cell 1; have c2 := hM.b.cell 2; have c3 := hM.b.cell 3
        cases v with
        | true =>
          have hf := Kp.mk (bit_of_isI hv (by omega))
          replace hv := Kp.mk hv
          go_wp2_with fail
          refine (Is_ref t (j + 1 : Nat) _ ht _ hv.out).mono ?_
          rintro _ w1 ⟨rfl, hb1⟩
          have hbl := hM.bel.trans (hb1.mono hM.bel.size)
          go_wp2_with fail
          go_ret
          exact ⟨_, rfl, .inl ⟨j + 1, by omega, by omega, by omega, by omega, hf.out, fun d h1 h2 h3 => hM.none_ d h1 h2 h3⟩, hbl⟩
        | false =>
          have hf := Kp.mk (bit_of_isI hv (by omega))
          replace hv := Kp.mk hv
          go_wp2_with fail
          refine (Is_ref t (j + 1 : Nat) _ ht _ hv.out).mono ?_
          rintro _ w1 ⟨rfl, hb1⟩
          have hbl := hM.bel.trans (hb1.mono hM.bel.size)
          have hbx := hM.b.keep hb1 hM.b.lt
          go_wp2_with fail
          go_roundw
          case rel =>
            refine ⟨j, by go_num, by omega, fun d h1 h2 h3 => ?_, hbx, hbl⟩
            rcases Nat.lt_or_ge (j + 1) d with h | h
            · exact hM.none_ d h h2 h3
            · obtain rfl : d = j + 1 := by omega
              exact hf.out
          case measure => simp [intOf]
      · go_wp2_with fail
        go_roundw
        case rel =>
          refine ⟨j, by go_num, by omega, fun d h1 h2 h3 => ?_, hM.b, hM.bel⟩
          rcases Nat.lt_or_ge (j + 1) d with h | h
          · exact hM.none_ d h h2 h3
          · exfalso; omega
        case measure => simp [intOf]
    · obtain rfl : k = 0 := by omega
      go_wp2_with fail
      go_ret
      exact ⟨0, rfl, .inr ⟨rfl, fun d h1 h2 h3 => hM.none_ d h1 h2 h3⟩, hM.bel⟩
end Go.Proofs.YtnkanohjfanolaaDoor
