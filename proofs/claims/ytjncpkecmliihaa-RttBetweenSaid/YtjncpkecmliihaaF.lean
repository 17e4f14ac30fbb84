/- The walks of the small functions of layer 7 and of its reference: May, Mean, Wait, One. For every meter; no condition. -/
import Derived.Test.YtjncpkecmliihaaChecked
import Derived.Test.YtjncpkecmliihaaB
import Derived.Test.YtjncpkecmliihaaM
import Derived.WalkLawsBesides
import Derived.WalkSpells
import Derived.Outline
namespace Go.Proofs.Ytjncpkecmliihaa
open Go.RowKit

theorem ret_bool {a b : Bool} (h : a = b) : Ending.returned (.bool a) = .returned (.bool b) := by rw [h]
theorem ret_int {k : IntKind} {a b : Int} (h : a = b) : Ending.returned (.int k a) = .returned (.int k b) := by rw [h]

set_option maxRecDepth 100000 in
set_option maxHeartbeats 400000 in
theorem May_rtt (a b c : Int) (w : World) (v : Bool) (hv : mayB a b c = v) :
    Calls Try.prog 11 #[.agg #[.int .i64 a, .int .i64 b, .int .i64 c]] w fun e w' => e = .returned (.bool v) ∧ Below w.heap.size w w' := by
  subst hv
  by_cases ha : a = 0
  · subst ha
    go_enter Try.func11, Try.ntmps11
    go_wp2
    all_goals
      go_ret
      refine ⟨ret_bool ?_, (Below.refl _ _).alloc (Nat.le_refl _) _⟩
      refine mayB_of ?_; simp [MayP]; omega
  · have ha' : (a == 0) = false := by simpa using ha
    go_enter Try.func11, Try.ntmps11
    go_wp2
    all_goals
      go_ret
      refine ⟨ret_bool ?_, (Below.refl _ _).alloc (Nat.le_refl _) _⟩
      refine mayB_of ?_; simp [MayP]; omega

set_option maxRecDepth 100000 in
set_option maxHeartbeats 400000 in
theorem May_ref (a b c : Int) (w : World) (v : Bool) (hv : mayB a b c = v) :
    Calls Try.prog 12 #[.agg #[.int .i64 a, .int .i64 b, .int .i64 c]] w fun e w' => e = .returned (.bool v) ∧ Below w.heap.size w w' := by
  subst hv
  go_enter Try.func12, Try.ntmps12
  go_wp2
  all_goals
    go_ret
    refine ⟨ret_bool ?_, (Below.refl _ _).alloc (Nat.le_refl _) _⟩
    refine mayB_of ?_; simp [MayP]; omega

theorem Mean_rtt (a b c : Int) (w : World) (v : Int) (hv : meanOf a b c = v) :
    Calls Try.prog 13 #[.agg #[.int .i64 a, .int .i64 b, .int .i64 c]] w fun e w' => e = .returned (.int .i64 v) ∧ Below w.heap.size w w' := by
  subst hv
  have b0 := Box.new w 23 #[.int .i64 a, .int .i64 b, .int .i64 c]
  cases hm : mayB a b c with
  | true =>
    have hp := mayB_true.1 hm
    have e : meanOf a b c = b / 8 := if_pos hp
    rw [e]
    have h0 : 0 ≤ b := by unfold MayP at hp; omega
    have h1 : b ≤ 480007 := by unfold MayP at hp; omega
    clear hp e
    have H := Lib.hid hm; clear hm
    go_enter Try.func13, Try.ntmps13
    go_wp2_with fail
    refine (May_rtt a b c _ true H.out).mono ?_
    rintro e w1 ⟨rfl, hb⟩
    have b1 := b0.keep hb (by simp)
    have c0 := b1.cell 0; have c1 := b1.cell 1; have c2 := b1.cell 2
    have hbl := ((Below.refl w.heap.size w).alloc (Nat.le_refl _) _).trans (hb.mono (by simp))
    go_wp2_with fail
    go_ret
    exact ⟨rfl, hbl⟩
  | false =>
    have hp := mayB_false.1 hm
    have e : meanOf a b c = 0 := if_neg hp
    rw [e]
    clear hp e
    have H := Lib.hid hm; clear hm
    go_enter Try.func13, Try.ntmps13
    go_wp2_with fail
    refine (May_rtt a b c _ false H.out).mono ?_
    rintro e w1 ⟨rfl, hb⟩
    have hbl := ((Below.refl w.heap.size w).alloc (Nat.le_refl _) _).trans (hb.mono (by simp))
    go_wp2_with fail
    go_ret
    exact ⟨rfl, hbl⟩

theorem Wait_rtt (a b c : Int) (w : World) (v : Int) (hv : waitOf a b c = v) :
    Calls Try.prog 15 #[.agg #[.int .i64 a, .int .i64 b, .int .i64 c]] w fun e w' => e = .returned (.int .i64 v) ∧ Below w.heap.size w w' := by
  subst hv
  have b0 := Box.new w 23 #[.int .i64 a, .int .i64 b, .int .i64 c]
  cases hm : mayB a b c with
  | true =>
    have hp := mayB_true.1 hm
    by_cases ha : a = 0
    · subst ha
      have e : waitOf 0 b c = 1000 := if_neg (by simp)
      rw [e]
      clear hp e
      have H := Lib.hid hm; clear hm
      go_enter Try.func15, Try.ntmps15
      go_wp2_with fail
      refine (May_rtt 0 b c _ true H.out).mono ?_
      rintro e w1 ⟨rfl, hb⟩
      have b1 := b0.keep hb (by simp)
      have c0 := b1.cell 0; have c1 := b1.cell 1; have c2 := b1.cell 2
      have hbl := ((Below.refl w.heap.size w).alloc (Nat.le_refl _) _).trans (hb.mono (by simp))
      go_wp2_with fail
      go_ret
      exact ⟨rfl, hbl⟩
    · have e : waitOf a b c = max 50 (min (b / 8 + c) 1000) := if_pos ⟨hp, ha⟩
      have E := Lib.hid e; clear e
      have ha' : (a == 0) = false := by simpa using ha
      have h0 : 0 ≤ b := by unfold MayP at hp; omega
      have h1 : b ≤ 480007 := by unfold MayP at hp; omega
      have h2 : 0 ≤ c := by unfold MayP at hp; omega
      have h3 : c ≤ 480007 := by unfold MayP at hp; omega
      clear hp
      have H := Lib.hid hm; clear hm
      go_enter Try.func15, Try.ntmps15
      go_wp2_with fail
      refine (May_rtt a b c _ true H.out).mono ?_
      rintro e w1 ⟨rfl, hb⟩
      have b1 := b0.keep hb (by simp)
      have c0 := b1.cell 0; have c1 := b1.cell 1; have c2 := b1.cell 2
      have hbl := ((Below.refl w.heap.size w).alloc (Nat.le_refl _) _).trans (hb.mono (by simp))
      go_wp2_with fail
      all_goals
        go_ret
        exact ⟨ret_int (by rw [E.out]; omega), hbl⟩
  | false =>
    have hp := mayB_false.1 hm
    have e : waitOf a b c = 1000 := if_neg (fun h => hp h.1)
    rw [e]
    clear hp e
    have H := Lib.hid hm; clear hm
    go_enter Try.func15, Try.ntmps15
    go_wp2_with fail
    refine (May_rtt a b c _ false H.out).mono ?_
    rintro e w1 ⟨rfl, hb⟩
    have hbl := ((Below.refl w.heap.size w).alloc (Nat.le_refl _) _).trans (hb.mono (by simp))
    go_wp2_with fail
    go_ret
    exact ⟨rfl, hbl⟩
theorem Mean_ref (a b c : Int) (w : World) (v : Int) (hv : meanOf a b c = v) :
    Calls Try.prog 14 #[.agg #[.int .i64 a, .int .i64 b, .int .i64 c]] w fun e w' => e = .returned (.int .i64 v) ∧ Below w.heap.size w w' := by
  subst hv
  have b0 := Box.new w 23 #[.int .i64 a, .int .i64 b, .int .i64 c]
  cases hm : mayB a b c with
  | true =>
    have hp := mayB_true.1 hm
    have e : meanOf a b c = b / 8 := if_pos hp
    rw [e]
    have h0 : 0 ≤ b := by unfold MayP at hp; omega
    have h1 : b ≤ 480007 := by unfold MayP at hp; omega
    clear hp e
    have H := Lib.hid hm; clear hm
    go_enter Try.func14, Try.ntmps14
    go_wp2_with fail
    refine (May_ref a b c _ true H.out).mono ?_
    rintro e w1 ⟨rfl, hb⟩
    have b1 := b0.keep hb (by simp)
    have c0 := b1.cell 0; have c1 := b1.cell 1; have c2 := b1.cell 2
    have hbl := ((Below.refl w.heap.size w).alloc (Nat.le_refl _) _).trans (hb.mono (by simp))
    go_wp2_with fail
    go_ret
    exact ⟨rfl, hbl⟩
  | false =>
    have hp := mayB_false.1 hm
    have e : meanOf a b c = 0 := if_neg hp
    rw [e]
    clear hp e
    have H := Lib.hid hm; clear hm
    go_enter Try.func14, Try.ntmps14
    go_wp2_with fail
    refine (May_ref a b c _ false H.out).mono ?_
    rintro e w1 ⟨rfl, hb⟩
    have hbl := ((Below.refl w.heap.size w).alloc (Nat.le_refl _) _).trans (hb.mono (by simp))
    go_wp2_with fail
    go_ret
    exact ⟨rfl, hbl⟩

theorem Wait_ref (a b c : Int) (w : World) (v : Int) (hv : waitOf a b c = v) :
    Calls Try.prog 16 #[.agg #[.int .i64 a, .int .i64 b, .int .i64 c]] w fun e w' => e = .returned (.int .i64 v) ∧ Below w.heap.size w w' := by
  subst hv
  have b0 := Box.new w 23 #[.int .i64 a, .int .i64 b, .int .i64 c]
  cases hm : mayB a b c with
  | true =>
    have hp := mayB_true.1 hm
    by_cases ha : a = 0
    · subst ha
      have e : waitOf 0 b c = 1000 := if_neg (by simp)
      rw [e]
      clear hp e
      have H := Lib.hid hm; clear hm
      go_enter Try.func16, Try.ntmps16
      go_wp2_with fail
      refine (May_ref 0 b c _ true H.out).mono ?_
      rintro e w1 ⟨rfl, hb⟩
      have b1 := b0.keep hb (by simp)
      have c0 := b1.cell 0; have c1 := b1.cell 1; have c2 := b1.cell 2
      have hbl := ((Below.refl w.heap.size w).alloc (Nat.le_refl _) _).trans (hb.mono (by simp))
      go_wp2_with fail
      go_ret
      exact ⟨rfl, hbl⟩
    · have e : waitOf a b c = max 50 (min (b / 8 + c) 1000) := if_pos ⟨hp, ha⟩
      have E := Lib.hid e; clear e
      have ha' : (a == 0) = false := by simpa using ha
      have h0 : 0 ≤ b := by unfold MayP at hp; omega
      have h1 : b ≤ 480007 := by unfold MayP at hp; omega
      have h2 : 0 ≤ c := by unfold MayP at hp; omega
      have h3 : c ≤ 480007 := by unfold MayP at hp; omega
      clear hp
      have H := Lib.hid hm; clear hm
      go_enter Try.func16, Try.ntmps16
      go_wp2_with fail
      refine (May_ref a b c _ true H.out).mono ?_
      rintro e w1 ⟨rfl, hb⟩
      have b1 := b0.keep hb (by simp)
      have c0 := b1.cell 0; have c1 := b1.cell 1; have c2 := b1.cell 2
      have hbl := ((Below.refl w.heap.size w).alloc (Nat.le_refl _) _).trans (hb.mono (by simp))
      go_wp2_with fail
      all_goals
        go_ret
        exact ⟨ret_int (by rw [E.out]; omega), hbl⟩
  | false =>
    have hp := mayB_false.1 hm
    have e : waitOf a b c = 1000 := if_neg (fun h => hp h.1)
    rw [e]
    clear hp e
    have H := Lib.hid hm; clear hm
    go_enter Try.func16, Try.ntmps16
    go_wp2_with fail
    refine (May_ref a b c _ false H.out).mono ?_
    rintro e w1 ⟨rfl, hb⟩
    have hbl := ((Below.refl w.heap.size w).alloc (Nat.le_refl _) _).trans (hb.mono (by simp))
    go_wp2_with fail
    go_ret
    exact ⟨rfl, hbl⟩
set_option maxRecDepth 100000 in
set_option maxHeartbeats 400000 in
theorem One_ref (a b c s : Int) (w : World) (hp : MayP a b c) (h0 : 0 ≤ s) (h1 : s ≤ 60000) :
    Calls Try.prog 17 #[.agg #[.int .i64 a, .int .i64 b, .int .i64 c], .int .i64 s] w fun e w' => ∃ a' b' c', e = .returned (.agg #[.int .i64 a', .int .i64 b', .int .i64 c']) ∧ (a', b', c') = one (a, b, c) s ∧ Below w.heap.size w w' := by
  obtain ⟨x1, x2, x3, x4, x5, x6, x7⟩ := hp
  by_cases ha : a = 0
  · subst ha
    have e := one_zero 0 b c s rfl
    have E := Lib.hid e; clear e x7
    go_enter Try.func17, Try.ntmps17
    go_wp2
    exact bodyPost_ret (v := .agg #[.int .i64 1, .int .i64 (8 * s), .int .i64 (2 * s)]) (by simp [results, Try.results17, go_sem]) rfl ⟨_, _, _, rfl, E.out.symm, by
      repeat (first | exact Below.refl _ _ | refine Below.setCell ?_ (by simp <;> omega) _ | refine Below.alloc ?_ (by simp <;> omega) _)⟩
  · have e := one_pos a b c s ha
    have ha' : (a == 0) = false := by simpa using ha
    have E := Lib.hid e; clear e x7
    go_enter Try.func17, Try.ntmps17
    go_wp2
    all_goals
      refine bodyPost_ret (v := .agg #[.int .i64 (min (a + 1) 1073741824), .int .i64 (b + (s - b / 8)), .int .i64 (min (c - c / 4 + max (s - b / 8) (-(s - b / 8))) 480007)]) ?_ rfl ⟨_, _, _, rfl, E.out.symm, ?_⟩
      · simp [results, Try.results17, go_sem]
        omega
      · repeat (first | exact Below.refl _ _ | refine Below.setCell ?_ (by simp <;> omega) _ | refine Below.alloc ?_ (by simp <;> omega) _)
end Go.Proofs.Ytjncpkecmliihaa
