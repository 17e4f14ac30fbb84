/- The walks of the reference's Is and With (layer 16). For every four words and every number; no condition. -/
import Derived.Test.YtnkanohjfanolaaDoorF
namespace Go.Proofs.YtnkanohjfanolaaDoor
open Go.RowKit

theorem half_step (v k : Nat) : v / 2 ^ (k + 1) = v / 2 ^ k / 2 := by rw [Nat.pow_succ, Nat.div_div_eq_div_mul]
theorem isI_nat (t : T4) (n : Nat) (h : n < 200) : isI t n = (t.w (n / 64)).testBit (n % 64) := by
  unfold isI bit; rw [decide_eq_true (by omega), Bool.true_and, Int.toNat_natCast]
theorem isI_out (t : T4) (x : Int) (h : ¬ (0 ≤ x ∧ x < 200)) : isI t x = false := by unfold isI; rw [decide_eq_false h, Bool.false_and]

set_option maxRecDepth 100000 in
set_option maxHeartbeats 1000000 in
theorem Is_ref (t : T4) (x : Int) (w : World) (ht : t.Ok) (v : Bool) (hv : isI t x = v) :
    Calls Tryd.prog 14 #[.agg #[.int .u64 t.a, .int .u64 t.b, .int .u64 t.c, .int .u64 t.d], .int .i64 x] w fun e w' => e = .returned (.bool v) ∧ Below w.heap.size w w' := by
  by_cases hin : 0 ≤ x ∧ x < 200
  · obtain ⟨n, rfl⟩ := Int.eq_ofNat_of_zero_le hin.1
    have hx : n < 200 := by omega
    have hc := t.cell (Box.new w 24 _) (n / 64) (by omega)
    have hlt := ht.w (n / 64)
    rw [isI_nat t n hx] at hv
    obtain ⟨u, hu⟩ : ∃ u, t.w (n / 64) = u := ⟨_, rfl⟩
    rw [hu] at hc hlt hv
    replace hv := Kp.mk hv
    have hn0 : ¬ (n : Int) < 0 := by omega
    have hn1 : ¬ (199 : Int) < n := by omega
    clear hu hin ht
    go_enter Tryd.func14, Tryd.ntmps14
    go_wp2
    go_loop [5, 6] (fun a i => ∃ k b : Nat, i = .int .i64 k ∧ k ≤ n % 64 ∧ a = .int .u64 b ∧ Kp (b = u / 2 ^ k)) (fun _ i => n % 64 - (intOf i).toNat)
    case atStart => exact ⟨0, u, rfl, Nat.zero_le _, rfl, ⟨by simp⟩⟩
    case round =>
      obtain ⟨k, b, rfl, hk, rfl, hb⟩ := hrel
      have hb2 : b < 18446744073709551616 := by rw [hb.out]; exact Nat.lt_of_le_of_lt (Nat.div_le_self _ _) hlt
      by_cases hlt2 : k < n % 64
      · have hi2 : (k : Int) < (n : Int) % 64 := by omega
        go_wp2
        go_round
        case rel => exact ⟨k + 1, b / 2, by go_num, hlt2, by simp, ⟨by rw [half_step, hb.out]⟩⟩
        case measure => simp [intOf]; omega
      · have hi2 : ¬ (k : Int) < (n : Int) % 64 := by omega
        have hkn : Kp (k = n % 64) := ⟨by omega⟩
        go_wp2
        go_ret
        refine ⟨ret_bool ?_, (Below.refl _ _).alloc (Nat.le_refl _) _⟩
        rw [← hv.out, ← hkn.out]
        have := half_bit u k
        rw [← hb.out] at this
        cases h : u.testBit k <;> rw [h] at this <;> simp at this ⊢ <;> omega
  · rw [isI_out t x hin] at hv
    subst hv
    rcases (show x < 0 ∨ (0 ≤ x ∧ 199 < x) by omega) with h | ⟨h0, h⟩
    all_goals
      go_enter Tryd.func14, Tryd.ntmps14
      go_wp2
      go_ret
      exact ⟨rfl, (Below.refl _ _).alloc (Nat.le_refl _) _⟩

def withI (t : T4) (x : Int) (b : Bool) : T4 := if b then setI t x else clrI t x
theorem withI_out (t : T4) (x : Int) (b : Bool) (h : ¬ (0 ≤ x ∧ x < 200)) : withI t x b = t := by
  unfold withI setI clrI; rw [if_neg h, if_neg h]; simp
theorem withI_true (t : T4) (x : Int) : withI t x true = setI t x := by unfold withI; exact if_pos rfl
theorem withI_false (t : T4) (x : Int) : withI t x false = clrI t x := by unfold withI; exact if_neg Bool.false_ne_true
theorem setI_nat (t : T4) (n : Nat) (h : n < 200) : setI t n = t.put (n / 64) (t.w (n / 64) ||| 2 ^ (n % 64)) := by
  unfold setI; rw [if_pos (by omega)]; unfold setB; rw [Int.toNat_natCast]
theorem clrI_nat (t : T4) (n : Nat) (h : n < 200) : clrI t n = t.put (n / 64) (t.w (n / 64) &&& (18446744073709551615 - 2 ^ (n % 64))) := by
  unfold clrI; rw [if_pos (by omega)]; unfold clrB; rw [Int.toNat_natCast]
theorem withI_same (t : T4) (n : Nat) (b : Bool) (ht : t.Ok) (hn : n < 200) (h : isI t n = b) : withI t n b = t := by
  rw [isI_nat t n hn] at h
  cases b with
  | true => rw [withI_true, setI_nat t n hn, or_same _ _ h, t.put_same _ _ (by omega) rfl]
  | false => rw [withI_false, clrI_nat t n hn, andNot_same _ _ (ht.w _) (by omega) h, t.put_same _ _ (by omega) rfl]
theorem withI_set (t : T4) (n : Nat) (hn : n < 200) (h : isI t n = false) : withI t n true = t.put (n / 64) (t.w (n / 64) + 2 ^ (n % 64)) := by
  rw [isI_nat t n hn] at h
  rw [withI_true, setI_nat t n hn, or_add _ _ h]
theorem withI_clr (t : T4) (n : Nat) (ht : t.Ok) (hn : n < 200) (h : isI t n = true) : withI t n false = t.put (n / 64) (t.w (n / 64) - 2 ^ (n % 64)) := by
  rw [isI_nat t n hn] at h
  rw [withI_false, clrI_nat t n hn, andNot_sub _ _ (ht.w _) (by omega) h]

set_option maxRecDepth 100000 in
set_option maxHeartbeats 1000000 in
theorem With_keep (t : T4) (x : Int) (b : Bool) (w : World) (ht : t.Ok) (h : ¬ (0 ≤ x ∧ x < 200) ∨ isI t x = b) :
    Calls Tryd.prog 17 #[.agg #[.int .u64 t.a, .int .u64 t.b, .int .u64 t.c, .int .u64 t.d], .int .i64 x, .bool b] w (TVal (withI t x b) w) := by
  have b0 := (Box.new w 24 #[.int .u64 t.a, .int .u64 t.b, .int .u64 t.c, .int .u64 t.d]).alloc (.cells #[.int .u64 0, .int .u64 0, .int .u64 0, .int .u64 0] 24)
  have r0 := Box.new (w.alloc (.cells #[.int .u64 t.a, .int .u64 t.b, .int .u64 t.c, .int .u64 t.d] 24)) 24 #[.int .u64 0, .int .u64 0, .int .u64 0, .int .u64 0]
  simp only [World.size_alloc] at r0
  have hb0 := ((Below.refl w.heap.size w).alloc (Nat.le_refl _) (.cells #[.int .u64 t.a, .int .u64 t.b, .int .u64 t.c, .int .u64 t.d] 24)).alloc (by simp) (.cells #[.int .u64 0, .int .u64 0, .int .u64 0, .int .u64 0] 24)
  by_cases hin : 0 ≤ x ∧ x < 200
  · obtain ⟨n, rfl⟩ := Int.eq_ofNat_of_zero_le hin.1
    have hx : n < 200 := by omega
    have hb : isI t n = b := h.resolve_left (fun k => k hin)
    have e := withI_same t n b ht hx hb
    rw [e]
    have hn0 : ¬ (n : Int) < 0 := by omega
    have hn1 : ¬ (199 : Int) < n := by omega
    replace hb := Kp.mk hb
    clear e h hin
    go_enter Tryd.func17, Tryd.ntmps17
    go_wp2_with fail
    refine (Is_ref t n _ ht b hb.out).mono ?_
    rintro e w1 ⟨rfl, hb1⟩
    have b1 := b0.keep hb1 (by simp <;> omega)
    have r1 := r0.keep hb1 (by simp <;> omega)
    have hbl := hb0.trans (hb1.mono (by simp <;> omega))
    have c0 := b1.cell 0; have c1 := b1.cell 1; have c2 := b1.cell 2; have c3 := b1.cell 3
    have d0 := r1.cell 0; have d1 := r1.cell 1; have d2 := r1.cell 2; have d3 := r1.cell 3
    have f0 := r1.frozen 0; have f1 := r1.frozen 1; have f2 := r1.frozen 2; have f3 := r1.frozen 3
    go_wp2_with fail
    refine bodyPost_ret (v := .agg #[.int .u64 t.a, .int .u64 t.b, .int .u64 t.c, .int .u64 t.d]) (by simp [results, Tryd.results17, go_sem, d0, d1, d2, d3]) rfl ⟨rfl, ?_⟩
    repeat (first | exact hbl | refine Below.setCell ?_ (by first | omega | (simp <;> omega)) _)
  · rw [withI_out t x b hin]
    rcases (show x < 0 ∨ (0 ≤ x ∧ 199 < x) by omega) with h | ⟨h0, h⟩
    all_goals
      go_enter Tryd.func17, Tryd.ntmps17
      go_wp2_with fail
      exact bodyPost_ret (v := .agg #[.int .u64 t.a, .int .u64 t.b, .int .u64 t.c, .int .u64 t.d]) (by simp [results, Tryd.results17, go_sem]) rfl ⟨rfl, by
        repeat (first | exact Below.refl _ _ | refine Below.drew ?_ | refine Below.setCell ?_ (by first | omega | (simp <;> omega)) _ | refine Below.alloc ?_ (by first | omega | (simp <;> omega)) _)⟩

set_option maxRecDepth 100000 in
set_option maxHeartbeats 4000000 in
theorem With_turn (t : T4) (n : Nat) (b : Bool) (w : World) (ht : t.Ok) (hx : n < 200) (h : isI t n = !b) :
    Calls Tryd.prog 17 #[.agg #[.int .u64 t.a, .int .u64 t.b, .int .u64 t.c, .int .u64 t.d], .int .i64 n, .bool b] w (TVal (withI t n b) w) := by
  have b0 := (Box.new w 24 #[.int .u64 t.a, .int .u64 t.b, .int .u64 t.c, .int .u64 t.d]).alloc (.cells #[.int .u64 0, .int .u64 0, .int .u64 0, .int .u64 0] 24)
  have r0 := Box.new (w.alloc (.cells #[.int .u64 t.a, .int .u64 t.b, .int .u64 t.c, .int .u64 t.d] 24)) 24 #[.int .u64 0, .int .u64 0, .int .u64 0, .int .u64 0]
  simp only [World.size_alloc] at r0
  have hb0 := ((Below.refl w.heap.size w).alloc (Nat.le_refl _) (.cells #[.int .u64 t.a, .int .u64 t.b, .int .u64 t.c, .int .u64 t.d] 24)).alloc (by simp) (.cells #[.int .u64 0, .int .u64 0, .int .u64 0, .int .u64 0] 24)
  have hn0 : ¬ (n : Int) < 0 := by omega
  have hn1 : ¬ (199 : Int) < n := by omega
  have hr : n % 64 < 64 := by omega
  have hp0 := pow_lt (n % 64) hr
  have hadd : Kp (b = true → t.w (n / 64) + 2 ^ (n % 64) < 18446744073709551616) := ⟨fun e => by
    subst e
    rw [isI_nat t n hx] at h
    rw [← or_add _ _ h]; exact or_lt _ _ (ht.w _) hp0⟩
  have hsub : Kp (b = false → 2 ^ (n % 64) ≤ t.w (n / 64)) := ⟨fun e => by
    subst e
    rw [isI_nat t n hx] at h
    exact ge_of_bit _ _ h⟩
  have e : Kp (withI t n b = if b then t.put (n / 64) (t.w (n / 64) + 2 ^ (n % 64)) else t.put (n / 64) (t.w (n / 64) - 2 ^ (n % 64))) := ⟨by
    cases b with
    | true => exact withI_set t n hx h
    | false => exact withI_clr t n ht hx h⟩
  replace h := Kp.mk h
  go_enter Tryd.func17, Tryd.ntmps17
  go_wp2_with fail
  refine (Is_ref t n _ ht _ h.out).mono ?_
  rintro _ w1 ⟨rfl, hb1⟩
  have b1 := b0.keep hb1 (by simp <;> omega)
  have r1 := r0.keep hb1 (by simp <;> omega)
  have hbl := hb0.trans (hb1.mono (by simp <;> omega))
  clear b0 r0 hb0 hb1 hp0
  have c0 := b1.cell 0; have c1 := b1.cell 1; have c2 := b1.cell 2; have c3 := b1.cell 3
  have d0 := r1.cell 0; have d1 := r1.cell 1; have d2 := r1.cell 2; have d3 := r1.cell 3
  have f0 := r1.frozen 0; have f1 := r1.frozen 1; have f2 := r1.frozen 2; have f3 := r1.frozen 3
  have k0 := b1.frozen 0; have k1 := b1.frozen 1; have k2 := b1.frozen 2; have k3 := b1.frozen 3
  go_wp2_with fail
  go_loop [7, 8] (fun a i => ∃ k p : Nat, i = .int .i64 k ∧ k ≤ n % 64 ∧ a = .int .u64 p ∧ Kp (p = 2 ^ k)) (fun _ i => n % 64 - (intOf i).toNat)
  case atStart => exact ⟨0, 1, rfl, Nat.zero_le _, rfl, ⟨rfl⟩⟩
  case round =>
    obtain ⟨k, p, rfl, hk, rfl, hp⟩ := hrel
    by_cases hlt2 : k < n % 64
    · have hi2 : (k : Int) < (n : Int) % 64 := by omega
      have hp63 : p < 9223372036854775808 := by rw [hp.out]; exact Nat.pow_lt_pow_right (a := 2) (by omega) (m := k) (n := 63) (by omega)
      go_wp2_with fail
      go_round
      case rel => exact ⟨k + 1, p * 2, by go_num, hlt2, by go_num, ⟨by rw [hp.out, Nat.pow_succ]⟩⟩
      case measure => simp [intOf]; omega
    · have hi2 : ¬ (k : Int) < (n : Int) % 64 := by omega
      have hkn : k = n % 64 := by omega
      rw [hkn] at hp
      clear hkn hlt2
      have hp64 : p < 18446744073709551616 := by rw [hp.out]; exact pow_lt _ hr
      rcases (show n / 64 = 0 ∨ n / 64 = 1 ∨ n / 64 = 2 ∨ n / 64 = 3 by omega) with hq | hq | hq | hq
      · have hlt := ht.a
        cases b
        rotate_left
        · have hfit : t.a + p < 18446744073709551616 := by have := hadd.out rfl; rw [hq, ← hp.out] at this; exact this
          skip
          have e' : Kp (withI t n true = t.put 0 (t.a + p)) := ⟨by rw [e.out, hq, ← hp.out]; rfl⟩
          clear e hadd hsub
          go_wp2_with fail
          refine bodyPost_ret (v := .agg #[.int .u64 (t.a + p : Nat), .int .u64 t.b, .int .u64 t.c, .int .u64 t.d]) (by simp [results, Tryd.results17, go_sem, d0, d1, d2, d3]) rfl ⟨by rw [e'.out]; rfl, ?_⟩
          repeat (first | exact hbl | refine Below.setCell ?_ (by first | omega | (simp <;> omega)) _)
        · have hfit : p ≤ t.a := by have := hsub.out rfl; rw [hq, ← hp.out] at this; exact this
          have hval : ((t.a : Int) - p) = ((t.a - p : Nat) : Int) := by omega
          have e' : Kp (withI t n false = t.put 0 (t.a - p)) := ⟨by rw [e.out, hq, ← hp.out]; rfl⟩
          clear e hadd hsub
          go_wp2_with fail
          refine bodyPost_ret (v := .agg #[.int .u64 (t.a - p : Nat), .int .u64 t.b, .int .u64 t.c, .int .u64 t.d]) (by simp [results, Tryd.results17, go_sem, d0, d1, d2, d3]) rfl ⟨by rw [e'.out]; rfl, ?_⟩
          repeat (first | exact hbl | refine Below.setCell ?_ (by first | omega | (simp <;> omega)) _)
      · have hlt := ht.b
        cases b
        rotate_left
        · have hfit : t.b + p < 18446744073709551616 := by have := hadd.out rfl; rw [hq, ← hp.out] at this; exact this
          skip
          have e' : Kp (withI t n true = t.put 1 (t.b + p)) := ⟨by rw [e.out, hq, ← hp.out]; rfl⟩
          clear e hadd hsub
          go_wp2_with fail
          refine bodyPost_ret (v := .agg #[.int .u64 t.a, .int .u64 (t.b + p : Nat), .int .u64 t.c, .int .u64 t.d]) (by simp [results, Tryd.results17, go_sem, d0, d1, d2, d3]) rfl ⟨by rw [e'.out]; rfl, ?_⟩
          repeat (first | exact hbl | refine Below.setCell ?_ (by first | omega | (simp <;> omega)) _)
        · have hfit : p ≤ t.b := by have := hsub.out rfl; rw [hq, ← hp.out] at this; exact this
          have hval : ((t.b : Int) - p) = ((t.b - p : Nat) : Int) := by omega
          have e' : Kp (withI t n false = t.put 1 (t.b - p)) := ⟨by rw [e.out, hq, ← hp.out]; rfl⟩
          clear e hadd hsub
          go_wp2_with fail
          refine bodyPost_ret (v := .agg #[.int .u64 t.a, .int .u64 (t.b - p : Nat), .int .u64 t.c, .int .u64 t.d]) (by simp [results, Tryd.results17, go_sem, d0, d1, d2, d3]) rfl ⟨by rw [e'.out]; rfl, ?_⟩
          repeat (first | exact hbl | refine Below.setCell ?_ (by first | omega | (simp <;> omega)) _)
      · have hlt := ht.c
        cases b
        rotate_left
        · have hfit : t.c + p < 18446744073709551616 := by have := hadd.out rfl; rw [hq, ← hp.out] at this; exact this
          skip
          have e' : Kp (withI t n true = t.put 2 (t.c + p)) := ⟨by rw [e.out, hq, ← hp.out]; rfl⟩
          clear e hadd hsub
          go_wp2_with fail
          refine bodyPost_ret (v := .agg #[.int .u64 t.a, .int .u64 t.b, .int .u64 (t.c + p : Nat), .int .u64 t.d]) (by simp [results, Tryd.results17, go_sem, d0, d1, d2, d3]) rfl ⟨by rw [e'.out]; rfl, ?_⟩
          repeat (first | exact hbl | refine Below.setCell ?_ (by first | omega | (simp <;> omega)) _)
        · have hfit : p ≤ t.c := by have := hsub.out rfl; rw [hq, ← hp.out] at this; exact this
          have hval : ((t.c : Int) - p) = ((t.c - p : Nat) : Int) := by omega
          have e' : Kp (withI t n false = t.put 2 (t.c - p)) := ⟨by rw [e.out, hq, ← hp.out]; rfl⟩
          clear e hadd hsub
          go_wp2_with fail
          refine bodyPost_ret (v := .agg #[.int .u64 t.a, .int .u64 t.b, .int .u64 (t.c - p : Nat), .int .u64 t.d]) (by simp [results, Tryd.results17, go_sem, d0, d1, d2, d3]) rfl ⟨by rw [e'.out]; rfl, ?_⟩
          repeat (first | exact hbl | refine Below.setCell ?_ (by first | omega | (simp <;> omega)) _)
      · have hlt := ht.d
        cases b
        rotate_left
        · have hfit : t.d + p < 18446744073709551616 := by have := hadd.out rfl; rw [hq, ← hp.out] at this; exact this
          skip
          have e' : Kp (withI t n true = t.put 3 (t.d + p)) := ⟨by rw [e.out, hq, ← hp.out]; rfl⟩
          clear e hadd hsub
          go_wp2_with fail
          refine bodyPost_ret (v := .agg #[.int .u64 t.a, .int .u64 t.b, .int .u64 t.c, .int .u64 (t.d + p : Nat)]) (by simp [results, Tryd.results17, go_sem, d0, d1, d2, d3]) rfl ⟨by rw [e'.out]; rfl, ?_⟩
          repeat (first | exact hbl | refine Below.setCell ?_ (by first | omega | (simp <;> omega)) _)
        · have hfit : p ≤ t.d := by have := hsub.out rfl; rw [hq, ← hp.out] at this; exact this
          have hval : ((t.d : Int) - p) = ((t.d - p : Nat) : Int) := by omega
          have e' : Kp (withI t n false = t.put 3 (t.d - p)) := ⟨by rw [e.out, hq, ← hp.out]; rfl⟩
          clear e hadd hsub
          go_wp2_with fail
          refine bodyPost_ret (v := .agg #[.int .u64 t.a, .int .u64 t.b, .int .u64 t.c, .int .u64 (t.d - p : Nat)]) (by simp [results, Tryd.results17, go_sem, d0, d1, d2, d3]) rfl ⟨by rw [e'.out]; rfl, ?_⟩
          repeat (first | exact hbl | refine Below.setCell ?_ (by first | omega | (simp <;> omega)) _)
end Go.Proofs.YtnkanohjfanolaaDoor
