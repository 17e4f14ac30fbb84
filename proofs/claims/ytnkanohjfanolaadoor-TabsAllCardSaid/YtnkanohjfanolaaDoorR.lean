/- The walk of Back of layer 16: a range over a function that is left by a break. For every four words and every number; the library's table lies in its variable. -/
import Derived.Test.YtnkanohjfanolaaDoorQ
namespace Go.Proofs.YtnkanohjfanolaaDoor
open Go.RowKit Go.Shelf
attribute [local go_sem] Oper.semAt_some

def AllLt (x : Int) (pre : List Nat) : Prop := ∀ y ∈ pre, (y : Int) < x
theorem AllLt.snoc {x : Int} {s : Nat} {pre : List Nat} (h : AllLt x pre) (hs : (s : Int) < x) : AllLt x (pre ++ [s]) := fun y hy =>
  (List.mem_append.1 hy).elim (h y) (fun e => by simp at e; subst e; exact hs)

set_option maxRecDepth 100000 in
set_option maxHeartbeats 4000000 in
theorem Back_in (n : Nat) (t : T4) (x : Int) (w : World) (ht : t.Ok) (hn : 3 ≤ n) (hT : Tab w) :
    CallsIn Fence.wide n Tryd.prog 10 #[.agg #[.int .u64 t.a, .int .u64 t.b, .int .u64 t.c, .int .u64 t.d], .int .i64 x] w (IntVal (BackIs t x) w) := by
  have h1 : 1 ≤ n := by omega
  have c1 := ((Box.new (w.alloc (.cells #[.int .u64 t.a, .int .u64 t.b, .int .u64 t.c, .int .u64 t.d] 24)) 3 #[.int .i64 x]).alloc (.cells #[.int .i64 0] 3)).alloc (.cells #[.int .u64 t.a, .int .u64 t.b, .int .u64 t.c, .int .u64 t.d] 24)
  have c2 := (Box.new ((w.alloc (.cells #[.int .u64 t.a, .int .u64 t.b, .int .u64 t.c, .int .u64 t.d] 24)).alloc (.cells #[.int .i64 x] 3)) 3 #[.int .i64 0]).alloc (.cells #[.int .u64 t.a, .int .u64 t.b, .int .u64 t.c, .int .u64 t.d] 24)
  have c4 := Box.new (((w.alloc (.cells #[.int .u64 t.a, .int .u64 t.b, .int .u64 t.c, .int .u64 t.d] 24)).alloc (.cells #[.int .i64 x] 3)).alloc (.cells #[.int .i64 0] 3)) 24 #[.int .u64 t.a, .int .u64 t.b, .int .u64 t.c, .int .u64 t.d]
  have hbel : Below w.heap.size w ((((w.alloc (.cells #[.int .u64 t.a, .int .u64 t.b, .int .u64 t.c, .int .u64 t.d] 24)).alloc (.cells #[.int .i64 x] 3)).alloc (.cells #[.int .i64 0] 3)).alloc (.cells #[.int .u64 t.a, .int .u64 t.b, .int .u64 t.c, .int .u64 t.d] 24)) := ((((Below.refl w.heap.size w).alloc (Nat.le_refl _) _).alloc (by simp) _).alloc (by simp; omega) _).alloc (by simp; omega) _
  simp only [World.size_alloc] at c1 c2 c4
  refine callsIn_of_wp_marks Tryd.func10 rfl trivial ?_ rfl
  simp only [Tryd.ntmps10, List.size_toArray, List.length_cons, List.length_nil, Nat.reduceAdd, Nat.reduceSub, Array.replicate_succ, Array.replicate_zero, List.push_toArray, List.append_toArray, List.nil_append, List.cons_append]
  gi_wp2_with (refine ⟨trivial, ?_⟩; gi_at_call 13; refine (All_in t _ _).mono ?_; rintro e w' ⟨rfl, rfl⟩)
  have hW4 : ((((w.alloc (.cells #[.int .u64 t.a, .int .u64 t.b, .int .u64 t.c, .int .u64 t.d] 24)).alloc (.cells #[.int .i64 x] 3)).alloc (.cells #[.int .i64 0] 3)).alloc (.cells #[.int .u64 t.a, .int .u64 t.b, .int .u64 t.c, .int .u64 t.d] 24)).heap.size = w.heap.size + 4 := by simp
  generalize ((((w.alloc (.cells #[.int .u64 t.a, .int .u64 t.b, .int .u64 t.c, .int .u64 t.d] 24)).alloc (.cells #[.int .i64 x] 3)).alloc (.cells #[.int .i64 0] 3)).alloc (.cells #[.int .u64 t.a, .int .u64 t.b, .int .u64 t.c, .int .u64 t.d] 24)) = W4 at *
  refine wpIn_rangeFunc_ownF rfl h1 (gf := 22) (lb := #[.pointer (some ⟨w.heap.size + 1 + 1 + 1, 0, none⟩)]) rfl trivial (enters_of Tryd.func22 (by kernel_rfl) rfl)
    (all_stops (n - 1) (w.heap.size + 1 + 1 + 1) w.heap.size t ht (by omega) hT.lt W4 (hT.keep hbel hT.lt) c4) belowK_t (belowK_b (by omega)) (Below.refl _ _) (fun _ => rfl)
    (fun pre W => (AllLt x pre ∧ W.cell? ⟨w.heap.size + 1, 0, none⟩ = some (.int .i64 x) ∧ W.cell? ⟨w.heap.size + 1 + 1, 0, none⟩ = some (.int .i64 (lastOf pre : Nat)) ∧ W.frozen? ⟨w.heap.size + 1 + 1, 0, none⟩ = false) ∧ Below w.heap.size w W)
    (fun c pre W => (c = .exit 0 ∧ ∃ (p : List Nat) (s : Nat), pre = p ++ [s] ∧ AllLt x p ∧ x ≤ s ∧ W.cell? ⟨w.heap.size + 1 + 1, 0, none⟩ = some (.int .i64 (lastOf p : Nat))) ∧ Below w.heap.size w W)
    (OwnFrom.and (Own.from (fun s A B row hs hg hr => ⟨hs.1, cell_kept hs.2.1 hg hr, cell_kept hs.2.2.1 hg hr, (frozen_kept hs.2.2.1 hg hr).trans hs.2.2.2⟩) _) (ownFrom_below (Nat.le_refl _) (by omega)))
    (fun c => OwnFrom.and (Own.from (fun s A B row hs hg hr => ⟨hs.1, hs.2.choose, hs.2.choose_spec.choose, hs.2.choose_spec.choose_spec.1, hs.2.choose_spec.choose_spec.2.1, hs.2.choose_spec.choose_spec.2.2.1, cell_kept hs.2.choose_spec.choose_spec.2.2.2 hg hr⟩) _) (ownFrom_below (Nat.le_refl _) (by omega)))
    ⟨⟨fun y hy => by simp at hy, c1.cell 0, c2.cell 0, c2.frozen 0⟩, hbel⟩
    (fun s => { tmps := #[.agg #[.int .u64 t.a, .int .u64 t.b, .int .u64 t.c, .int .u64 t.d], .int .i64 x, .pointer (some ⟨w.heap.size, 0, none⟩), .pointer (some ⟨w.heap.size + 1, 0, none⟩), .int .i64 0, .pointer (some ⟨w.heap.size + 1 + 1, 0, none⟩), .int .i64 (s : Nat), .agg #[.int .u64 t.a, .int .u64 t.b, .int .u64 t.c, .int .u64 t.d], .func (.func 22) #[] #[.pointer (some ⟨w.heap.size + 1 + 1 + 1, 0, none⟩)], .int .i64 (s : Nat), undef, undef, undef, undef, undef], defers := [] }) ?assign ?body ?done ?stop
  case assign =>
    intro l s W K hK
    gi_wp2
    exact hK
  case body =>
    rintro l pre s W ⟨⟨hp, hcx, hcr, hfr⟩, hB⟩ _
    obtain ⟨z, hz⟩ : ∃ z, lastOf pre = z := ⟨_, rfl⟩
    rw [hz] at hcr
    replace hz := Kp.mk hz
    by_cases g1 : x ≤ (s : Nat)
    · have hK1 := Kp.mk g1
      gi_wp2
      exact ⟨KeepsOthers.refl _, ⟨rfl, pre, s, rfl, hp, hK1.out, by rw [hz.out]; exact hcr⟩, hB⟩
    · have hK1 : Kp (((s : Nat) : Int) < x) := ⟨by omega⟩
      gi_wp2
      exact ⟨KeepsOthers.setCell _ _ _, (Below.refl w.heap.size W).setCell (p := ⟨w.heap.size + 1 + 1, 0, none⟩) (by simp; omega) _, ⟨hp.snoc hK1.out, by rw [World.cell?_setCell_other _ _ _ _ (by simp)]; exact hcx, by rw [lastOf_snoc]; exact World.cell?_setCell_same' _ _ _ (by rw [hcr]; rfl), by rw [World.frozen?_setCell]; exact hfr⟩, hB.setCell (p := ⟨w.heap.size + 1 + 1, 0, none⟩) (by simp; omega) _⟩
  case done =>
    rintro D ys W hD rfl ⟨⟨hp, hcx, hcr, hfr⟩, hB⟩ hK
    have hbk := back_of (t := t) (x := x) (Nat.le_refl 200) hp (.inl rfl)
    generalize lastOf (upto t 200) = z at *
    replace hbk := Kp.mk hbk
    clear hp
    gi_wp2
    refine ⟨by simp, .inl ⟨_, _, rfl, run_takeDeferred hK, ?_⟩⟩
    have hBD := hB.trans (belowK_b (w := w) (Nat.le_refl _) _ D _ (.deferred none) (by omega) hK rfl rfl)
    refine ⟨.int .i64 (z : Nat), ?_, _, rfl, hbk.out, hBD⟩
    simp [results, Tryd.f10, go_sem]
  case stop =>
    rintro D c pre W hD hpre ⟨⟨rfl, p, s, rfl, hp, g1, hcr⟩, hB⟩ hK
    obtain ⟨rfl, hb, h3⟩ := prefix_upto hpre
    have hbk := back_of (t := t) (x := x) (show s ≤ 200 by omega) hp (.inr g1)
    generalize lastOf (upto t s) = z at *
    replace hbk := Kp.mk hbk
    clear hp hpre hb
    gi_wp2
    refine ⟨by simp, .inl ⟨_, _, rfl, run_takeDeferred hK, ?_⟩⟩
    have hBD := hB.trans (belowK_b (w := w) (Nat.le_refl _) _ D _ (.deferred none) (by omega) hK rfl rfl)
    refine ⟨.int .i64 (z : Nat), ?_, _, rfl, hbk.out, hBD⟩
    simp [results, Tryd.f10, go_sem]

theorem Back_tabs (t : T4) (x : Int) (w : World) (ht : t.Ok) (hT : Tab w) :
    Calls Tryd.prog 10 #[.agg #[.int .u64 t.a, .int .u64 t.b, .int .u64 t.c, .int .u64 t.d], .int .i64 x] w (IntVal (BackIs t x) w) :=
  (callsIn_wide (n := 5)).1 (Back_in 5 t x w ht (by omega) hT)
end Go.Proofs.YtnkanohjfanolaaDoor
