/- The walks of Wider and Usual of layer 16, and of the reference's Wider. For every four words and all numbers; no condition. -/
import Derived.Test.YtnkanohjfanolaaDoorH
import Derived.Deep.RegionWith
namespace Go.Proofs.YtnkanohjfanolaaDoor
open Go.RowKit

theorem With_any (t : T4) (x : Int) (b : Bool) (w : World) (ht : t.Ok) :
    Calls Tryd.prog 17 #[.agg #[.int .u64 t.a, .int .u64 t.b, .int .u64 t.c, .int .u64 t.d], .int .i64 x, .bool b] w (TVal (withI t x b) w) := by
  by_cases h : ¬ (0 ≤ x ∧ x < 200) ∨ isI t x = b
  · exact With_keep t x b w ht h
  · obtain ⟨n, rfl⟩ := Int.eq_ofNat_of_zero_le (show 0 ≤ x by omega)
    refine With_turn t n b w ht (by omega) ?_
    have h2 : ¬ isI t n = b := fun e => h (.inr e)
    cases b <;> cases hh : isI t n <;> simp_all

/-- An answer of four words. -/
def FourVal (Q : T4 → Prop) (w : World) (e : Ending) (w' : World) : Prop := ∃ u : T4, e = .returned (.agg #[.int .u64 u.a, .int .u64 u.b, .int .u64 u.c, .int .u64 u.d]) ∧ Q u ∧ Below w.heap.size w w'

structure WideMem (t : T4) (fr to : Int) (w : World) (k : Nat) (u : T4) (wr : World) : Prop where
  le : k ≤ 200
  pos : 0 < k
  wide : Wides t fr to k u
  b : Box wr w.heap.size 24 #[.int .u64 u.a, .int .u64 u.b, .int .u64 u.c, .int .u64 u.d]
  r : Box wr (w.heap.size + 1) 24 #[.int .u64 0, .int .u64 0, .int .u64 0, .int .u64 0]
  bel : Below w.heap.size w wr

set_option maxRecDepth 100000 in
set_option maxHeartbeats 1000000 in
theorem Wider_tabs (t : T4) (fr to : Int) (w : World) (ht : t.Ok) :
    Calls Tryd.prog 21 #[.agg #[.int .u64 t.a, .int .u64 t.b, .int .u64 t.c, .int .u64 t.d], .int .i64 fr, .int .i64 to] w (FourVal (fun u => ∃ k, Wides t fr to k u ∧ (200 ≤ k ∨ to ≤ k)) w) := by
  have b0 := (Box.new w 24 #[.int .u64 t.a, .int .u64 t.b, .int .u64 t.c, .int .u64 t.d]).alloc (.cells #[.int .u64 0, .int .u64 0, .int .u64 0, .int .u64 0] 24)
  have r0 := Box.new (w.alloc (.cells #[.int .u64 t.a, .int .u64 t.b, .int .u64 t.c, .int .u64 t.d] 24)) 24 #[.int .u64 0, .int .u64 0, .int .u64 0, .int .u64 0]
  simp only [World.size_alloc] at r0
  have hb0 := ((Below.refl w.heap.size w).alloc (Nat.le_refl _) (.cells #[.int .u64 t.a, .int .u64 t.b, .int .u64 t.c, .int .u64 t.d] 24)).alloc (by simp) (.cells #[.int .u64 0, .int .u64 0, .int .u64 0, .int .u64 0] 24)
  go_enter Tryd.func21, Tryd.ntmps21
  go_wp2_with fail
  go_loopw [7] (fun i wr => ∃ k : Nat, ∃ u : T4, i = .int .i64 k ∧ k % 8 = 0 ∧ WideMem t fr to w k u wr) (fun i _ => 200 - (intOf i).toNat)
  case atStart => exact ⟨8, t, rfl, rfl, by omega, by omega, Wides.start ht fr to 8 (by omega), b0, r0, hb0⟩
  case round =>
    obtain ⟨k, u, rfl, h8, hM⟩ := hrel
    have hkl := hM.le
    have hkp := hM.pos
    have h8' := Kp.mk h8
    clear h8
    have c0 := hM.b.cell 0; have c1 := hM.b.cell 1; have c2 := hM.b.cell 2; have c3 := hM.b.cell 3
    by_cases hlt : (k : Int) < to ∧ (k : Int) < 200
    · obtain ⟨hl1, hl2⟩ := hlt
      rcases (show ¬ 200 < to ∨ 200 < to by omega) with ht2 | ht2
      all_goals
        have k8 : k + 8 ≤ 200 := by have := h8'.out; omega
        by_cases hf : fr ≤ (k : Int)
        · go_wp2_with fail
          refine (Set_tabs u k _ hM.wide.ok).mono ?_
          rintro _ w1 ⟨rfl, hb1⟩
          have es : Kp (setI u k = setB u k) := ⟨by unfold setI; rw [if_pos (by omega), Int.toNat_natCast]⟩
          rw [es.out]
          have hw := hM.wide.set hkp (by omega) hf hl1 h8'.out (show k < k + 8 by omega) (Nat.le_refl _)
          generalize setB u k = v at *
          have hB1 := hM.b.keep hb1 hM.b.lt
          have hR1 := hM.r.keep hb1 hM.r.lt
          have hbl := hM.bel.trans (hb1.mono hM.bel.size)
          have d0 := hB1.cell 0; have d1 := hB1.cell 1; have d2 := hB1.cell 2; have d3 := hB1.cell 3
          have f0 := hB1.frozen 0; have f1 := hB1.frozen 1; have f2 := hB1.frozen 2; have f3 := hB1.frozen 3
          clear es
          go_wp2_with fail
          go_roundw
          case rel =>
            refine ⟨k + 8, v, by go_num, by have := h8'.out; omega, k8, by omega, hw, ?_, ?_, ?_⟩
            · simpa using (((hB1.put 0 (.int .u64 v.a)).put 1 (.int .u64 v.b)).put 2 (.int .u64 v.c)).put 3 (.int .u64 v.d)
            · exact (((hR1.far (by simp) _).far (by simp) _).far (by simp) _).far (by simp) _
            · repeat (first | exact hbl | refine Below.setCell ?_ (by first | omega | (simp <;> omega)) _)
          case measure => simp [intOf]; omega
        · go_wp2_with fail
          go_roundw
          case rel =>
            exact ⟨k + 8, u, by go_num, by have := h8'.out; omega, k8, by omega, hM.wide.skip (fun h => hf h.1) (by omega) (fun y h1 h2 => by have := h8'.out; omega), hM.b, hM.r, hM.bel⟩
          case measure => simp [intOf]; omega
    · have hdone : 200 ≤ k ∨ to ≤ k := by omega
      have d0 := hM.r.cell 0; have d1 := hM.r.cell 1; have d2 := hM.r.cell 2; have d3 := hM.r.cell 3
      have f0 := hM.r.frozen 0; have f1 := hM.r.frozen 1; have f2 := hM.r.frozen 2; have f3 := hM.r.frozen 3
      rcases (show (¬ 200 < to ∧ ¬ (k : Int) < to) ∨ (200 < to ∧ ¬ (k : Int) < 200) by omega) with ⟨q1, q2⟩ | ⟨q1, q2⟩
      all_goals
        go_wp2_with fail
        refine bodyPost_ret (v := .agg #[.int .u64 u.a, .int .u64 u.b, .int .u64 u.c, .int .u64 u.d]) (by simp [results, Tryd.results21, go_sem, d0, d1, d2, d3]) rfl ⟨u, rfl, ⟨k, hM.wide, hdone⟩, ?_⟩
        have hbl := hM.bel
        repeat (first | exact hbl | refine Below.setCell ?_ (by first | omega | (simp <;> omega)) _)

set_option maxRecDepth 100000 in
set_option maxHeartbeats 1000000 in
theorem Usual_tabs (to : Int) (w : World) :
    Calls Tryd.prog 19 #[.int .i64 to] w (FourVal (fun u => ∃ k, Wides ⟨0, 0, 0, 0⟩ 0 to k u ∧ (200 ≤ k ∨ to ≤ k)) w) := by
  have r0 := Box.new w 24 #[.int .u64 0, .int .u64 0, .int .u64 0, .int .u64 0]
  go_enter Tryd.func19, Tryd.ntmps19
  go_wp2_with fail
  refine (Wider_tabs ⟨0, 0, 0, 0⟩ 0 to _ ⟨by decide, by decide, by decide, by decide⟩).mono ?_
  rintro _ w1 ⟨u, rfl, hu, hb1⟩
  have r1 := r0.keep hb1 (by simp)
  have hbl := ((Below.refl w.heap.size w).alloc (Nat.le_refl _) (.cells #[.int .u64 0, .int .u64 0, .int .u64 0, .int .u64 0] 24)).trans (hb1.mono (by simp))
  have d0 := r1.cell 0; have d1 := r1.cell 1; have d2 := r1.cell 2; have d3 := r1.cell 3
  have f0 := r1.frozen 0; have f1 := r1.frozen 1; have f2 := r1.frozen 2; have f3 := r1.frozen 3
  replace hu := Kp.mk hu
  go_wp2_with fail
  refine bodyPost_ret (v := .agg #[.int .u64 u.a, .int .u64 u.b, .int .u64 u.c, .int .u64 u.d]) (by simp [results, Tryd.results19, go_sem, d0, d1, d2, d3]) rfl ⟨u, rfl, hu.out, ?_⟩
  repeat (first | exact hbl | refine Below.setCell ?_ (by first | omega | (simp <;> omega)) _)

set_option maxRecDepth 100000 in
set_option maxHeartbeats 1000000 in
theorem Wider_ref (t : T4) (fr to : Int) (w : World) (ht : t.Ok) :
    Calls Tryd.prog 20 #[.agg #[.int .u64 t.a, .int .u64 t.b, .int .u64 t.c, .int .u64 t.d], .int .i64 fr, .int .i64 to] w (FourVal (fun u => Wides t fr to 200 u) w) := by
  have b0 := (Box.new w 24 #[.int .u64 t.a, .int .u64 t.b, .int .u64 t.c, .int .u64 t.d]).alloc (.cells #[.int .u64 0, .int .u64 0, .int .u64 0, .int .u64 0] 24)
  have r0 := Box.new (w.alloc (.cells #[.int .u64 t.a, .int .u64 t.b, .int .u64 t.c, .int .u64 t.d] 24)) 24 #[.int .u64 0, .int .u64 0, .int .u64 0, .int .u64 0]
  simp only [World.size_alloc] at r0
  have hb0 := ((Below.refl w.heap.size w).alloc (Nat.le_refl _) (.cells #[.int .u64 t.a, .int .u64 t.b, .int .u64 t.c, .int .u64 t.d] 24)).alloc (by simp) (.cells #[.int .u64 0, .int .u64 0, .int .u64 0, .int .u64 0] 24)
  go_enter Tryd.func20, Tryd.ntmps20
  go_wp2_with fail
  go_loopw [7] (fun i wr => ∃ k : Nat, ∃ u : T4, i = .int .i64 k ∧ WideMem t fr to w k u wr) (fun i _ => 200 - (intOf i).toNat)
  case atStart => exact ⟨1, t, rfl, by omega, by omega, Wides.start ht fr to 1 (by omega), b0, r0, hb0⟩
  case round =>
    obtain ⟨k, u, rfl, hM⟩ := hrel
    have hkl := hM.le
    have hkp := hM.pos
    have c0 := hM.b.cell 0; have c1 := hM.b.cell 1; have c2 := hM.b.cell 2; have c3 := hM.b.cell 3
    by_cases hlt : k < 200
    · by_cases hf : fr ≤ (k : Int)
      · by_cases hto : (k : Int) < to
        · by_cases h8 : k % 8 = 0
          · have h8b : ((k : Int) % 8 == 0) = true := by simp; omega
            have hw := hM.wide.set hkp hlt hf hto h8 (show k < k + 1 by omega) (by omega)
            have es : Kp (withI u k true = setB u k) := ⟨by rw [withI_true, setI_nat u k hlt]; rfl⟩
            clear h8
            go_wp2_with fail
            refine (With_any u k true _ hM.wide.ok).mono ?_
            rintro _ w1 ⟨rfl, hb1⟩
            rw [es.out]
            clear es
            generalize setB u k = v at *
            have hB1 := hM.b.keep hb1 hM.b.lt
            have hR1 := hM.r.keep hb1 hM.r.lt
            have hbl := hM.bel.trans (hb1.mono hM.bel.size)
            have d0 := hB1.cell 0; have d1 := hB1.cell 1; have d2 := hB1.cell 2; have d3 := hB1.cell 3
            have f0 := hB1.frozen 0; have f1 := hB1.frozen 1; have f2 := hB1.frozen 2; have f3 := hB1.frozen 3
            go_wp2_with fail
            go_roundw
            case rel =>
              refine ⟨k + 1, v, by go_num, by omega, by omega, hw, ?_, ?_, ?_⟩
              · simpa using (((hB1.put 0 (.int .u64 v.a)).put 1 (.int .u64 v.b)).put 2 (.int .u64 v.c)).put 3 (.int .u64 v.d)
              · exact (((hR1.far (by simp) _).far (by simp) _).far (by simp) _).far (by simp) _
              · repeat (first | exact hbl | refine Below.setCell ?_ (by first | omega | (simp <;> omega)) _)
            case measure => simp [intOf]; omega
          · have h8b : ((k : Int) % 8 == 0) = false := by simp; omega
            have h8c := Kp.mk h8
            clear h8
            go_wp2_with fail
            go_roundw
            case rel =>
              exact ⟨k + 1, u, by go_num, by omega, by omega, hM.wide.skip (fun h => h8c.out h.2.2.1) (by omega) (fun y h1 h2 => by omega), hM.b, hM.r, hM.bel⟩
            case measure => simp [intOf]; omega
        · go_wp2_with fail
          go_roundw
          case rel =>
            exact ⟨k + 1, u, by go_num, by omega, by omega, hM.wide.skip (by omega) (by omega) (fun y h1 h2 => by omega), hM.b, hM.r, hM.bel⟩
          case measure => simp [intOf]; omega
      · go_wp2_with fail
        go_roundw
        case rel =>
          exact ⟨k + 1, u, by go_num, by omega, by omega, hM.wide.skip (by omega) (by omega) (fun y h1 h2 => by omega), hM.b, hM.r, hM.bel⟩
        case measure => simp [intOf]; omega
    · have hdone : k = 200 := by omega
      subst hdone
      have d0 := hM.r.cell 0; have d1 := hM.r.cell 1; have d2 := hM.r.cell 2; have d3 := hM.r.cell 3
      have f0 := hM.r.frozen 0; have f1 := hM.r.frozen 1; have f2 := hM.r.frozen 2; have f3 := hM.r.frozen 3
      go_wp2_with fail
      refine bodyPost_ret (v := .agg #[.int .u64 u.a, .int .u64 u.b, .int .u64 u.c, .int .u64 u.d]) (by simp [results, Tryd.results20, go_sem, d0, d1, d2, d3]) rfl ⟨u, rfl, hM.wide, ?_⟩
      have hbl := hM.bel
      repeat (first | exact hbl | refine Below.setCell ?_ (by first | omega | (simp <;> omega)) _)
end Go.Proofs.YtnkanohjfanolaaDoor
