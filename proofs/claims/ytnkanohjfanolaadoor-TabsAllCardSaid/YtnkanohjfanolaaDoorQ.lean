/- The walks of Next and Back of layer 16: ranges over a function. For every four words and all numbers; the library's table lies in its variable. -/
import Derived.Test.YtnkanohjfanolaaDoorJ
import Derived.Test.YtnkanohjfanolaaDoorO2
namespace Go.Proofs.YtnkanohjfanolaaDoor
open Go.RowKit Go.Shelf
attribute [local go_sem] Oper.semAt_some

def NoneIn (x : Int) (C : Nat) (pre : List Nat) : Prop := ∀ y ∈ pre, ¬ (x < (y : Nat) ∧ y < C)
theorem NoneIn.snoc {x : Int} {C s : Nat} {pre : List Nat} (h : NoneIn x C pre) (hs : ¬ (x < (s : Nat) ∧ s < C)) : NoneIn x C (pre ++ [s]) := fun y hy =>
  (List.mem_append.1 hy).elim (h y) (fun e => by simp at e; subst e; exact hs)

theorem all_stops (n g n0 : Nat) (t : T4) (ht : t.Ok) (hn : 1 ≤ n) (hn0 : 0 < n0) (w : World) (hT : Tab w) (hb : Box w g 24 #[.int .u64 t.a, .int .u64 t.b, .int .u64 t.c, .int .u64 t.d]) :
    SeqStopsK Fence.wide n Tryd.prog 22 #[.pointer (some ⟨g, 0, none⟩)] (fun x : Nat => #[Value.int .i64 (x : Nat)]) (Below n0) (fun ys => ys = upto t 200) (fun pre => pre <+: upto t 200) 200 w := fun l J Jx W hW _ _ hY h0 =>
  all_it n l g n0 t ht hn hn0 J Jx hY W (hT.keep hW hT.lt) (hb.keep hW hb.lt) h0

set_option maxRecDepth 100000 in
set_option maxHeartbeats 4000000 in
theorem Next_low (n : Nat) (t : T4) (x : Int) (cols : Int) (w : World) (ht : t.Ok) (hn : 3 ≤ n) (hT : Tab w) (q : cols < 1) :
    CallsIn Fence.wide n Tryd.prog 8 #[.agg #[.int .u64 t.a, .int .u64 t.b, .int .u64 t.c, .int .u64 t.d], .int .i64 x, .int .i64 cols] w (IntVal (NextIs t x 1) w) := by
    have h1 : 1 ≤ n := by omega
    have q2 : ¬ 200 < cols := by omega
    have q3 : ¬ 1 < cols := by omega
    have c1 := (((Box.new (w.alloc (.cells #[.int .u64 t.a, .int .u64 t.b, .int .u64 t.c, .int .u64 t.d] 24)) 3 #[.int .i64 x]).alloc (.cells #[.int .i64 1] 3)).alloc (.cells #[.int .i64 0] 3)).alloc (.cells #[.int .u64 t.a, .int .u64 t.b, .int .u64 t.c, .int .u64 t.d] 24)
    have c2 := ((Box.new ((w.alloc (.cells #[.int .u64 t.a, .int .u64 t.b, .int .u64 t.c, .int .u64 t.d] 24)).alloc (.cells #[.int .i64 x] 3)) 3 #[.int .i64 1]).alloc (.cells #[.int .i64 0] 3)).alloc (.cells #[.int .u64 t.a, .int .u64 t.b, .int .u64 t.c, .int .u64 t.d] 24)
    have c3 := (Box.new (((w.alloc (.cells #[.int .u64 t.a, .int .u64 t.b, .int .u64 t.c, .int .u64 t.d] 24)).alloc (.cells #[.int .i64 x] 3)).alloc (.cells #[.int .i64 1] 3)) 3 #[.int .i64 0]).alloc (.cells #[.int .u64 t.a, .int .u64 t.b, .int .u64 t.c, .int .u64 t.d] 24)
    have c4 := Box.new ((((w.alloc (.cells #[.int .u64 t.a, .int .u64 t.b, .int .u64 t.c, .int .u64 t.d] 24)).alloc (.cells #[.int .i64 x] 3)).alloc (.cells #[.int .i64 1] 3)).alloc (.cells #[.int .i64 0] 3)) 24 #[.int .u64 t.a, .int .u64 t.b, .int .u64 t.c, .int .u64 t.d]
    have hbel : Below w.heap.size w (((((w.alloc (.cells #[.int .u64 t.a, .int .u64 t.b, .int .u64 t.c, .int .u64 t.d] 24)).alloc (.cells #[.int .i64 x] 3)).alloc (.cells #[.int .i64 1] 3)).alloc (.cells #[.int .i64 0] 3)).alloc (.cells #[.int .u64 t.a, .int .u64 t.b, .int .u64 t.c, .int .u64 t.d] 24)) := (((((Below.refl w.heap.size w).alloc (Nat.le_refl _) _).alloc (by simp) _).alloc (by simp; omega) _).alloc (by simp; omega) _).alloc (by simp; omega) _
    simp only [World.size_alloc] at c1 c2 c3 c4
    refine callsIn_of_wp_marks Tryd.func8 rfl trivial ?_ rfl
    simp only [Tryd.ntmps8, List.size_toArray, List.length_cons, List.length_nil, Nat.reduceAdd, Nat.reduceSub, Array.replicate_succ, Array.replicate_zero, List.push_toArray, List.append_toArray, List.nil_append, List.cons_append]
    gi_wp2_with (refine ⟨trivial, ?_⟩; gi_at_call 13; refine (All_in t _ _).mono ?_; rintro e w' ⟨rfl, rfl⟩)
    have hW5 : (((((w.alloc (.cells #[.int .u64 t.a, .int .u64 t.b, .int .u64 t.c, .int .u64 t.d] 24)).alloc (.cells #[.int .i64 x] 3)).alloc (.cells #[.int .i64 1] 3)).alloc (.cells #[.int .i64 0] 3)).alloc (.cells #[.int .u64 t.a, .int .u64 t.b, .int .u64 t.c, .int .u64 t.d] 24)).heap.size = w.heap.size + 5 := by simp
    generalize (((((w.alloc (.cells #[.int .u64 t.a, .int .u64 t.b, .int .u64 t.c, .int .u64 t.d] 24)).alloc (.cells #[.int .i64 x] 3)).alloc (.cells #[.int .i64 1] 3)).alloc (.cells #[.int .i64 0] 3)).alloc (.cells #[.int .u64 t.a, .int .u64 t.b, .int .u64 t.c, .int .u64 t.d] 24)) = W5 at *
    refine wpIn_rangeFunc_ownF rfl h1 (gf := 22) (lb := #[.pointer (some ⟨w.heap.size + 1 + 1 + 1 + 1, 0, none⟩)]) rfl trivial (enters_of Tryd.func22 (by kernel_rfl) rfl)
      (all_stops (n - 1) (w.heap.size + 1 + 1 + 1 + 1) w.heap.size t ht (by omega) hT.lt W5 (hT.keep hbel hT.lt) c4) belowK_t (belowK_b (by omega)) (Below.refl _ _) (fun _ => rfl)
      (fun pre W => (NoneIn x 1 pre ∧ W.cell? ⟨w.heap.size + 1, 0, none⟩ = some (.int .i64 x) ∧ W.cell? ⟨w.heap.size + 1 + 1, 0, none⟩ = some (.int .i64 1) ∧ W.cell? ⟨w.heap.size + 1 + 1 + 1, 0, none⟩ = some (.int .i64 0) ∧ W.frozen? ⟨w.heap.size + 1 + 1 + 1, 0, none⟩ = false) ∧ Below w.heap.size w W)
      (fun c pre W => (c = .ret ∧ ∃ (p : List Nat) (s : Nat), pre = p ++ [s] ∧ NoneIn x 1 p ∧ x < s ∧ s < 1 ∧ W.cell? ⟨w.heap.size + 1 + 1 + 1, 0, none⟩ = some (.int .i64 s)) ∧ Below w.heap.size w W)
      (OwnFrom.and (Own.from (fun s A B row hs hg hr => ⟨hs.1, cell_kept hs.2.1 hg hr, cell_kept hs.2.2.1 hg hr, cell_kept hs.2.2.2.1 hg hr, (frozen_kept hs.2.2.2.1 hg hr).trans hs.2.2.2.2⟩) _) (ownFrom_below (Nat.le_refl _) (by omega)))
      (fun c => OwnFrom.and (Own.from (fun s A B row hs hg hr => ⟨hs.1, hs.2.choose, hs.2.choose_spec.choose, hs.2.choose_spec.choose_spec.1, hs.2.choose_spec.choose_spec.2.1, hs.2.choose_spec.choose_spec.2.2.1, hs.2.choose_spec.choose_spec.2.2.2.1, cell_kept hs.2.choose_spec.choose_spec.2.2.2.2 hg hr⟩) _) (ownFrom_below (Nat.le_refl _) (by omega)))
      ⟨⟨fun y hy => by simp at hy, c1.cell 0, c2.cell 0, c3.cell 0, c3.frozen 0⟩, hbel⟩
      (fun s => { tmps := #[.agg #[.int .u64 t.a, .int .u64 t.b, .int .u64 t.c, .int .u64 t.d], .int .i64 x, .int .i64 cols, .pointer (some ⟨w.heap.size, 0, none⟩), .pointer (some ⟨w.heap.size + 1, 0, none⟩), .pointer (some ⟨w.heap.size + 1 + 1, 0, none⟩), .pointer (some ⟨w.heap.size + 1 + 1 + 1, 0, none⟩), .int .i64 (s : Nat), .int .i64 cols, .int .i64 cols, .int .i64 1, .agg #[.int .u64 t.a, .int .u64 t.b, .int .u64 t.c, .int .u64 t.d], .func (.func 22) #[] #[.pointer (some ⟨w.heap.size + 1 + 1 + 1 + 1, 0, none⟩)], .int .i64 (s : Nat), undef, undef, undef, undef, undef, undef, undef, undef, undef, undef, undef], defers := [] }) ?assign ?body ?done ?stop
    case assign =>
      intro l s W K hK
      gi_wp2
      exact hK
    case body =>
      rintro l pre s W ⟨⟨hp, hcx, hcc, hcr, hfr⟩, hB⟩ _
      by_cases g1 : x < (s : Nat)
      · by_cases g2 : s < 1
        · have g2' : ((s : Nat) : Int) < 1 := by omega
          gi_wp2
          exact ⟨KeepsOthers.setCell _ _ _, ⟨rfl, pre, s, rfl, hp, g1, g2, World.cell?_setCell_same' _ _ _ (by rw [hcr]; rfl)⟩, hB.setCell (p := ⟨w.heap.size + 1 + 1 + 1, 0, none⟩) (by simp; omega) _⟩
        · have g2' : ¬ ((s : Nat) : Int) < 1 := by omega
          have hK2 : Kp (¬ s < 1) := ⟨g2⟩
          gi_wp2
          exact ⟨KeepsOthers.refl _, Below.refl _ _, ⟨hp.snoc (fun h => by have h1 := hK2.out; have h2 := h.2; omega), hcx, hcc, hcr, hfr⟩, hB⟩
      · have hK1 : Kp (¬ x < (s : Nat)) := ⟨g1⟩
        gi_wp2
        exact ⟨KeepsOthers.refl _, Below.refl _ _, ⟨hp.snoc (fun h => by have h1 := hK1.out; have h2 := h.1; omega), hcx, hcc, hcr, hfr⟩, hB⟩
    case done =>
      rintro D ys W hD rfl ⟨⟨hne, hcx, hcc, hcr, hfr⟩, hB⟩ hK
      replace hne := Kp.mk hne
      gi_wp2
      have hK' := (KeepsOthers.setCell W ⟨w.heap.size + 1 + 1 + 1, 0, none⟩ (.int .i64 0)).same D _ hK rfl
      refine ⟨by simp, .inl ⟨_, _, rfl, run_takeDeferred hK', ?_⟩⟩
      have hc5 := cell_kept (World.cell?_setCell_same' W ⟨w.heap.size + 1 + 1 + 1, 0, none⟩ (.int .i64 0) (by rw [hcr]; rfl)) (grownBy_putObj' _ D (.deferred none)) (fun r e => by cases e; exact ⟨_, hK', rfl⟩)
      have hBD := (hB.setCell (p := ⟨w.heap.size + 1 + 1 + 1, 0, none⟩) (by simp; omega) (.int .i64 0)).trans (belowK_b (w := w) (Nat.le_refl _) _ D _ (.deferred none) (by omega) hK' rfl rfl)
      refine ⟨.int .i64 0, ?_, _, rfl, (next_of_done (C := 1) (by omega) hne.out), hBD⟩
      simp [results, Tryd.f8, go_sem, hc5]
    case stop =>
      rintro D c pre W hD hpre ⟨⟨rfl, p, s, rfl, hne, g1, g2, hcr⟩, hB⟩ hK
      replace hne := Kp.mk hne
      replace hpre := Kp.mk hpre
      gi_wp2
      refine ⟨by simp, .inl ⟨_, _, rfl, run_takeDeferred hK, ?_⟩⟩
      have hc5 := cell_kept hcr (grownBy_putObj' _ D (.deferred none)) (fun r e => by cases e; exact ⟨_, hK, rfl⟩)
      have hBD := hB.trans (belowK_b (w := w) (Nat.le_refl _) _ D _ (.deferred none) (by omega) hK rfl rfl)
      refine ⟨.int .i64 s, ?_, _, rfl, next_of_stop hpre.out g1 g2 hne.out, hBD⟩
      simp [results, Tryd.f8, go_sem, hc5]

set_option maxRecDepth 100000 in
set_option maxHeartbeats 4000000 in
theorem Next_high (n : Nat) (t : T4) (x : Int) (cols : Int) (w : World) (ht : t.Ok) (hn : 3 ≤ n) (hT : Tab w) (q : 200 < cols) :
    CallsIn Fence.wide n Tryd.prog 8 #[.agg #[.int .u64 t.a, .int .u64 t.b, .int .u64 t.c, .int .u64 t.d], .int .i64 x, .int .i64 cols] w (IntVal (NextIs t x 200) w) := by
    have h1 : 1 ≤ n := by omega
    have q2 : ¬ cols < 1 := by omega
    have c1 := (((Box.new (w.alloc (.cells #[.int .u64 t.a, .int .u64 t.b, .int .u64 t.c, .int .u64 t.d] 24)) 3 #[.int .i64 x]).alloc (.cells #[.int .i64 200] 3)).alloc (.cells #[.int .i64 0] 3)).alloc (.cells #[.int .u64 t.a, .int .u64 t.b, .int .u64 t.c, .int .u64 t.d] 24)
    have c2 := ((Box.new ((w.alloc (.cells #[.int .u64 t.a, .int .u64 t.b, .int .u64 t.c, .int .u64 t.d] 24)).alloc (.cells #[.int .i64 x] 3)) 3 #[.int .i64 200]).alloc (.cells #[.int .i64 0] 3)).alloc (.cells #[.int .u64 t.a, .int .u64 t.b, .int .u64 t.c, .int .u64 t.d] 24)
    have c3 := (Box.new (((w.alloc (.cells #[.int .u64 t.a, .int .u64 t.b, .int .u64 t.c, .int .u64 t.d] 24)).alloc (.cells #[.int .i64 x] 3)).alloc (.cells #[.int .i64 200] 3)) 3 #[.int .i64 0]).alloc (.cells #[.int .u64 t.a, .int .u64 t.b, .int .u64 t.c, .int .u64 t.d] 24)
    have c4 := Box.new ((((w.alloc (.cells #[.int .u64 t.a, .int .u64 t.b, .int .u64 t.c, .int .u64 t.d] 24)).alloc (.cells #[.int .i64 x] 3)).alloc (.cells #[.int .i64 200] 3)).alloc (.cells #[.int .i64 0] 3)) 24 #[.int .u64 t.a, .int .u64 t.b, .int .u64 t.c, .int .u64 t.d]
    have hbel : Below w.heap.size w (((((w.alloc (.cells #[.int .u64 t.a, .int .u64 t.b, .int .u64 t.c, .int .u64 t.d] 24)).alloc (.cells #[.int .i64 x] 3)).alloc (.cells #[.int .i64 200] 3)).alloc (.cells #[.int .i64 0] 3)).alloc (.cells #[.int .u64 t.a, .int .u64 t.b, .int .u64 t.c, .int .u64 t.d] 24)) := (((((Below.refl w.heap.size w).alloc (Nat.le_refl _) _).alloc (by simp) _).alloc (by simp; omega) _).alloc (by simp; omega) _).alloc (by simp; omega) _
    simp only [World.size_alloc] at c1 c2 c3 c4
    refine callsIn_of_wp_marks Tryd.func8 rfl trivial ?_ rfl
    simp only [Tryd.ntmps8, List.size_toArray, List.length_cons, List.length_nil, Nat.reduceAdd, Nat.reduceSub, Array.replicate_succ, Array.replicate_zero, List.push_toArray, List.append_toArray, List.nil_append, List.cons_append]
    gi_wp2_with (refine ⟨trivial, ?_⟩; gi_at_call 13; refine (All_in t _ _).mono ?_; rintro e w' ⟨rfl, rfl⟩)
    have hW5 : (((((w.alloc (.cells #[.int .u64 t.a, .int .u64 t.b, .int .u64 t.c, .int .u64 t.d] 24)).alloc (.cells #[.int .i64 x] 3)).alloc (.cells #[.int .i64 200] 3)).alloc (.cells #[.int .i64 0] 3)).alloc (.cells #[.int .u64 t.a, .int .u64 t.b, .int .u64 t.c, .int .u64 t.d] 24)).heap.size = w.heap.size + 5 := by simp
    generalize (((((w.alloc (.cells #[.int .u64 t.a, .int .u64 t.b, .int .u64 t.c, .int .u64 t.d] 24)).alloc (.cells #[.int .i64 x] 3)).alloc (.cells #[.int .i64 200] 3)).alloc (.cells #[.int .i64 0] 3)).alloc (.cells #[.int .u64 t.a, .int .u64 t.b, .int .u64 t.c, .int .u64 t.d] 24)) = W5 at *
    refine wpIn_rangeFunc_ownF rfl h1 (gf := 22) (lb := #[.pointer (some ⟨w.heap.size + 1 + 1 + 1 + 1, 0, none⟩)]) rfl trivial (enters_of Tryd.func22 (by kernel_rfl) rfl)
      (all_stops (n - 1) (w.heap.size + 1 + 1 + 1 + 1) w.heap.size t ht (by omega) hT.lt W5 (hT.keep hbel hT.lt) c4) belowK_t (belowK_b (by omega)) (Below.refl _ _) (fun _ => rfl)
      (fun pre W => (NoneIn x 200 pre ∧ W.cell? ⟨w.heap.size + 1, 0, none⟩ = some (.int .i64 x) ∧ W.cell? ⟨w.heap.size + 1 + 1, 0, none⟩ = some (.int .i64 200) ∧ W.cell? ⟨w.heap.size + 1 + 1 + 1, 0, none⟩ = some (.int .i64 0) ∧ W.frozen? ⟨w.heap.size + 1 + 1 + 1, 0, none⟩ = false) ∧ Below w.heap.size w W)
      (fun c pre W => (c = .ret ∧ ∃ (p : List Nat) (s : Nat), pre = p ++ [s] ∧ NoneIn x 200 p ∧ x < s ∧ s < 200 ∧ W.cell? ⟨w.heap.size + 1 + 1 + 1, 0, none⟩ = some (.int .i64 s)) ∧ Below w.heap.size w W)
      (OwnFrom.and (Own.from (fun s A B row hs hg hr => ⟨hs.1, cell_kept hs.2.1 hg hr, cell_kept hs.2.2.1 hg hr, cell_kept hs.2.2.2.1 hg hr, (frozen_kept hs.2.2.2.1 hg hr).trans hs.2.2.2.2⟩) _) (ownFrom_below (Nat.le_refl _) (by omega)))
      (fun c => OwnFrom.and (Own.from (fun s A B row hs hg hr => ⟨hs.1, hs.2.choose, hs.2.choose_spec.choose, hs.2.choose_spec.choose_spec.1, hs.2.choose_spec.choose_spec.2.1, hs.2.choose_spec.choose_spec.2.2.1, hs.2.choose_spec.choose_spec.2.2.2.1, cell_kept hs.2.choose_spec.choose_spec.2.2.2.2 hg hr⟩) _) (ownFrom_below (Nat.le_refl _) (by omega)))
      ⟨⟨fun y hy => by simp at hy, c1.cell 0, c2.cell 0, c3.cell 0, c3.frozen 0⟩, hbel⟩
      (fun s => { tmps := #[.agg #[.int .u64 t.a, .int .u64 t.b, .int .u64 t.c, .int .u64 t.d], .int .i64 x, .int .i64 cols, .pointer (some ⟨w.heap.size, 0, none⟩), .pointer (some ⟨w.heap.size + 1, 0, none⟩), .pointer (some ⟨w.heap.size + 1 + 1, 0, none⟩), .pointer (some ⟨w.heap.size + 1 + 1 + 1, 0, none⟩), .int .i64 (s : Nat), .int .i64 cols, .int .i64 200, .int .i64 200, .agg #[.int .u64 t.a, .int .u64 t.b, .int .u64 t.c, .int .u64 t.d], .func (.func 22) #[] #[.pointer (some ⟨w.heap.size + 1 + 1 + 1 + 1, 0, none⟩)], .int .i64 (s : Nat), undef, undef, undef, undef, undef, undef, undef, undef, undef, undef, undef], defers := [] }) ?assign ?body ?done ?stop
    case assign =>
      intro l s W K hK
      gi_wp2
      exact hK
    case body =>
      rintro l pre s W ⟨⟨hp, hcx, hcc, hcr, hfr⟩, hB⟩ _
      by_cases g1 : x < (s : Nat)
      · by_cases g2 : s < 200
        · have g2' : ((s : Nat) : Int) < 200 := by omega
          gi_wp2
          exact ⟨KeepsOthers.setCell _ _ _, ⟨rfl, pre, s, rfl, hp, g1, g2, World.cell?_setCell_same' _ _ _ (by rw [hcr]; rfl)⟩, hB.setCell (p := ⟨w.heap.size + 1 + 1 + 1, 0, none⟩) (by simp; omega) _⟩
        · have g2' : ¬ ((s : Nat) : Int) < 200 := by omega
          have hK2 : Kp (¬ s < 200) := ⟨g2⟩
          gi_wp2
          exact ⟨KeepsOthers.refl _, Below.refl _ _, ⟨hp.snoc (fun h => by have h1 := hK2.out; have h2 := h.2; omega), hcx, hcc, hcr, hfr⟩, hB⟩
      · have hK1 : Kp (¬ x < (s : Nat)) := ⟨g1⟩
        gi_wp2
        exact ⟨KeepsOthers.refl _, Below.refl _ _, ⟨hp.snoc (fun h => by have h1 := hK1.out; have h2 := h.1; omega), hcx, hcc, hcr, hfr⟩, hB⟩
    case done =>
      rintro D ys W hD rfl ⟨⟨hne, hcx, hcc, hcr, hfr⟩, hB⟩ hK
      replace hne := Kp.mk hne
      gi_wp2
      have hK' := (KeepsOthers.setCell W ⟨w.heap.size + 1 + 1 + 1, 0, none⟩ (.int .i64 199)).same D _ hK rfl
      refine ⟨by simp, .inl ⟨_, _, rfl, run_takeDeferred hK', ?_⟩⟩
      have hc5 := cell_kept (World.cell?_setCell_same' W ⟨w.heap.size + 1 + 1 + 1, 0, none⟩ (.int .i64 199) (by rw [hcr]; rfl)) (grownBy_putObj' _ D (.deferred none)) (fun r e => by cases e; exact ⟨_, hK', rfl⟩)
      have hBD := (hB.setCell (p := ⟨w.heap.size + 1 + 1 + 1, 0, none⟩) (by simp; omega) (.int .i64 199)).trans (belowK_b (w := w) (Nat.le_refl _) _ D _ (.deferred none) (by omega) hK' rfl rfl)
      refine ⟨.int .i64 199, ?_, _, rfl, (next_of_done (C := 200) (by omega) hne.out), hBD⟩
      simp [results, Tryd.f8, go_sem, hc5]
    case stop =>
      rintro D c pre W hD hpre ⟨⟨rfl, p, s, rfl, hne, g1, g2, hcr⟩, hB⟩ hK
      replace hne := Kp.mk hne
      replace hpre := Kp.mk hpre
      gi_wp2
      refine ⟨by simp, .inl ⟨_, _, rfl, run_takeDeferred hK, ?_⟩⟩
      have hc5 := cell_kept hcr (grownBy_putObj' _ D (.deferred none)) (fun r e => by cases e; exact ⟨_, hK, rfl⟩)
      have hBD := hB.trans (belowK_b (w := w) (Nat.le_refl _) _ D _ (.deferred none) (by omega) hK rfl rfl)
      refine ⟨.int .i64 s, ?_, _, rfl, next_of_stop hpre.out g1 g2 hne.out, hBD⟩
      simp [results, Tryd.f8, go_sem, hc5]

set_option maxRecDepth 100000 in
set_option maxHeartbeats 4000000 in
theorem Next_mid (n : Nat) (t : T4) (x : Int) (C : Nat) (w : World) (ht : t.Ok) (hn : 3 ≤ n) (hT : Tab w) (q1 : 1 < C) (q2 : C ≤ 200) :
    CallsIn Fence.wide n Tryd.prog 8 #[.agg #[.int .u64 t.a, .int .u64 t.b, .int .u64 t.c, .int .u64 t.d], .int .i64 x, .int .i64 C] w (IntVal (NextIs t x C) w) := by
    have h1 : 1 ≤ n := by omega
    have q3 : (1 : Int) < C := by omega
    have q4 : ¬ (200 : Int) < C := by omega
    have c1 := (((Box.new (w.alloc (.cells #[.int .u64 t.a, .int .u64 t.b, .int .u64 t.c, .int .u64 t.d] 24)) 3 #[.int .i64 x]).alloc (.cells #[.int .i64 (C : Int)] 3)).alloc (.cells #[.int .i64 0] 3)).alloc (.cells #[.int .u64 t.a, .int .u64 t.b, .int .u64 t.c, .int .u64 t.d] 24)
    have c2 := ((Box.new ((w.alloc (.cells #[.int .u64 t.a, .int .u64 t.b, .int .u64 t.c, .int .u64 t.d] 24)).alloc (.cells #[.int .i64 x] 3)) 3 #[.int .i64 (C : Int)]).alloc (.cells #[.int .i64 0] 3)).alloc (.cells #[.int .u64 t.a, .int .u64 t.b, .int .u64 t.c, .int .u64 t.d] 24)
    have c3 := (Box.new (((w.alloc (.cells #[.int .u64 t.a, .int .u64 t.b, .int .u64 t.c, .int .u64 t.d] 24)).alloc (.cells #[.int .i64 x] 3)).alloc (.cells #[.int .i64 (C : Int)] 3)) 3 #[.int .i64 0]).alloc (.cells #[.int .u64 t.a, .int .u64 t.b, .int .u64 t.c, .int .u64 t.d] 24)
    have c4 := Box.new ((((w.alloc (.cells #[.int .u64 t.a, .int .u64 t.b, .int .u64 t.c, .int .u64 t.d] 24)).alloc (.cells #[.int .i64 x] 3)).alloc (.cells #[.int .i64 (C : Int)] 3)).alloc (.cells #[.int .i64 0] 3)) 24 #[.int .u64 t.a, .int .u64 t.b, .int .u64 t.c, .int .u64 t.d]
    have hbel : Below w.heap.size w (((((w.alloc (.cells #[.int .u64 t.a, .int .u64 t.b, .int .u64 t.c, .int .u64 t.d] 24)).alloc (.cells #[.int .i64 x] 3)).alloc (.cells #[.int .i64 (C : Int)] 3)).alloc (.cells #[.int .i64 0] 3)).alloc (.cells #[.int .u64 t.a, .int .u64 t.b, .int .u64 t.c, .int .u64 t.d] 24)) := (((((Below.refl w.heap.size w).alloc (Nat.le_refl _) _).alloc (by simp) _).alloc (by simp; omega) _).alloc (by simp; omega) _).alloc (by simp; omega) _
    simp only [World.size_alloc] at c1 c2 c3 c4
    refine callsIn_of_wp_marks Tryd.func8 rfl trivial ?_ rfl
    simp only [Tryd.ntmps8, List.size_toArray, List.length_cons, List.length_nil, Nat.reduceAdd, Nat.reduceSub, Array.replicate_succ, Array.replicate_zero, List.push_toArray, List.append_toArray, List.nil_append, List.cons_append]
    gi_wp2_with (refine ⟨trivial, ?_⟩; gi_at_call 13; refine (All_in t _ _).mono ?_; rintro e w' ⟨rfl, rfl⟩)
    have hW5 : (((((w.alloc (.cells #[.int .u64 t.a, .int .u64 t.b, .int .u64 t.c, .int .u64 t.d] 24)).alloc (.cells #[.int .i64 x] 3)).alloc (.cells #[.int .i64 (C : Int)] 3)).alloc (.cells #[.int .i64 0] 3)).alloc (.cells #[.int .u64 t.a, .int .u64 t.b, .int .u64 t.c, .int .u64 t.d] 24)).heap.size = w.heap.size + 5 := by simp
    generalize (((((w.alloc (.cells #[.int .u64 t.a, .int .u64 t.b, .int .u64 t.c, .int .u64 t.d] 24)).alloc (.cells #[.int .i64 x] 3)).alloc (.cells #[.int .i64 (C : Int)] 3)).alloc (.cells #[.int .i64 0] 3)).alloc (.cells #[.int .u64 t.a, .int .u64 t.b, .int .u64 t.c, .int .u64 t.d] 24)) = W5 at *
    refine wpIn_rangeFunc_ownF rfl h1 (gf := 22) (lb := #[.pointer (some ⟨w.heap.size + 1 + 1 + 1 + 1, 0, none⟩)]) rfl trivial (enters_of Tryd.func22 (by kernel_rfl) rfl)
      (all_stops (n - 1) (w.heap.size + 1 + 1 + 1 + 1) w.heap.size t ht (by omega) hT.lt W5 (hT.keep hbel hT.lt) c4) belowK_t (belowK_b (by omega)) (Below.refl _ _) (fun _ => rfl)
      (fun pre W => (NoneIn x C pre ∧ W.cell? ⟨w.heap.size + 1, 0, none⟩ = some (.int .i64 x) ∧ W.cell? ⟨w.heap.size + 1 + 1, 0, none⟩ = some (.int .i64 (C : Int)) ∧ W.cell? ⟨w.heap.size + 1 + 1 + 1, 0, none⟩ = some (.int .i64 0) ∧ W.frozen? ⟨w.heap.size + 1 + 1 + 1, 0, none⟩ = false) ∧ Below w.heap.size w W)
      (fun c pre W => (c = .ret ∧ ∃ (p : List Nat) (s : Nat), pre = p ++ [s] ∧ NoneIn x C p ∧ x < s ∧ s < C ∧ W.cell? ⟨w.heap.size + 1 + 1 + 1, 0, none⟩ = some (.int .i64 s)) ∧ Below w.heap.size w W)
      (OwnFrom.and (Own.from (fun s A B row hs hg hr => ⟨hs.1, cell_kept hs.2.1 hg hr, cell_kept hs.2.2.1 hg hr, cell_kept hs.2.2.2.1 hg hr, (frozen_kept hs.2.2.2.1 hg hr).trans hs.2.2.2.2⟩) _) (ownFrom_below (Nat.le_refl _) (by omega)))
      (fun c => OwnFrom.and (Own.from (fun s A B row hs hg hr => ⟨hs.1, hs.2.choose, hs.2.choose_spec.choose, hs.2.choose_spec.choose_spec.1, hs.2.choose_spec.choose_spec.2.1, hs.2.choose_spec.choose_spec.2.2.1, hs.2.choose_spec.choose_spec.2.2.2.1, cell_kept hs.2.choose_spec.choose_spec.2.2.2.2 hg hr⟩) _) (ownFrom_below (Nat.le_refl _) (by omega)))
      ⟨⟨fun y hy => by simp at hy, c1.cell 0, c2.cell 0, c3.cell 0, c3.frozen 0⟩, hbel⟩
      (fun s => { tmps := #[.agg #[.int .u64 t.a, .int .u64 t.b, .int .u64 t.c, .int .u64 t.d], .int .i64 x, .int .i64 C, .pointer (some ⟨w.heap.size, 0, none⟩), .pointer (some ⟨w.heap.size + 1, 0, none⟩), .pointer (some ⟨w.heap.size + 1 + 1, 0, none⟩), .pointer (some ⟨w.heap.size + 1 + 1 + 1, 0, none⟩), .int .i64 (s : Nat), .int .i64 C, .int .i64 C, .int .i64 C, .agg #[.int .u64 t.a, .int .u64 t.b, .int .u64 t.c, .int .u64 t.d], .func (.func 22) #[] #[.pointer (some ⟨w.heap.size + 1 + 1 + 1 + 1, 0, none⟩)], .int .i64 (s : Nat), undef, undef, undef, undef, undef, undef, undef, undef, undef, undef, undef], defers := [] }) ?assign ?body ?done ?stop
    case assign =>
      intro l s W K hK
      gi_wp2
      exact hK
    case body =>
      rintro l pre s W ⟨⟨hp, hcx, hcc, hcr, hfr⟩, hB⟩ _
      by_cases g1 : x < (s : Nat)
      · by_cases g2 : s < C
        · have g2' : ((s : Nat) : Int) < (C : Int) := by omega
          gi_wp2
          exact ⟨KeepsOthers.setCell _ _ _, ⟨rfl, pre, s, rfl, hp, g1, g2, World.cell?_setCell_same' _ _ _ (by rw [hcr]; rfl)⟩, hB.setCell (p := ⟨w.heap.size + 1 + 1 + 1, 0, none⟩) (by simp; omega) _⟩
        · have g2' : ¬ ((s : Nat) : Int) < (C : Int) := by omega
          have hK2 : Kp (¬ s < C) := ⟨g2⟩
          gi_wp2
          exact ⟨KeepsOthers.refl _, Below.refl _ _, ⟨hp.snoc (fun h => by have h1 := hK2.out; have h2 := h.2; omega), hcx, hcc, hcr, hfr⟩, hB⟩
      · have hK1 : Kp (¬ x < (s : Nat)) := ⟨g1⟩
        gi_wp2
        exact ⟨KeepsOthers.refl _, Below.refl _ _, ⟨hp.snoc (fun h => by have h1 := hK1.out; have h2 := h.1; omega), hcx, hcc, hcr, hfr⟩, hB⟩
    case done =>
      rintro D ys W hD rfl ⟨⟨hne, hcx, hcc, hcr, hfr⟩, hB⟩ hK
      replace hne := Kp.mk hne
      gi_wp2
      have hK' := (KeepsOthers.setCell W ⟨w.heap.size + 1 + 1 + 1, 0, none⟩ (.int .i64 ((C : Int) - 1))).same D _ hK rfl
      refine ⟨by simp, .inl ⟨_, _, rfl, run_takeDeferred hK', ?_⟩⟩
      have hc5 := cell_kept (World.cell?_setCell_same' W ⟨w.heap.size + 1 + 1 + 1, 0, none⟩ (.int .i64 ((C : Int) - 1)) (by rw [hcr]; rfl)) (grownBy_putObj' _ D (.deferred none)) (fun r e => by cases e; exact ⟨_, hK', rfl⟩)
      have hBD := (hB.setCell (p := ⟨w.heap.size + 1 + 1 + 1, 0, none⟩) (by simp; omega) (.int .i64 ((C : Int) - 1))).trans (belowK_b (w := w) (Nat.le_refl _) _ D _ (.deferred none) (by omega) hK' rfl rfl)
      refine ⟨.int .i64 ((C : Int) - 1), ?_, _, rfl, (next_of_done (C := C) (by omega) hne.out), hBD⟩
      simp [results, Tryd.f8, go_sem, hc5]
    case stop =>
      rintro D c pre W hD hpre ⟨⟨rfl, p, s, rfl, hne, g1, g2, hcr⟩, hB⟩ hK
      replace hne := Kp.mk hne
      replace hpre := Kp.mk hpre
      gi_wp2
      refine ⟨by simp, .inl ⟨_, _, rfl, run_takeDeferred hK, ?_⟩⟩
      have hc5 := cell_kept hcr (grownBy_putObj' _ D (.deferred none)) (fun r e => by cases e; exact ⟨_, hK, rfl⟩)
      have hBD := hB.trans (belowK_b (w := w) (Nat.le_refl _) _ D _ (.deferred none) (by omega) hK rfl rfl)
      refine ⟨.int .i64 s, ?_, _, rfl, next_of_stop hpre.out g1 g2 hne.out, hBD⟩
      simp [results, Tryd.f8, go_sem, hc5]

set_option maxRecDepth 100000 in
set_option maxHeartbeats 4000000 in
theorem Next_one (n : Nat) (t : T4) (x : Int) (cols : Int) (w : World) (ht : t.Ok) (hn : 3 ≤ n) (hT : Tab w) (q : cols = 1) :
    CallsIn Fence.wide n Tryd.prog 8 #[.agg #[.int .u64 t.a, .int .u64 t.b, .int .u64 t.c, .int .u64 t.d], .int .i64 x, .int .i64 cols] w (IntVal (NextIs t x 1) w) := by
    have h1 : 1 ≤ n := by omega
    subst q
    have c1 := (((Box.new (w.alloc (.cells #[.int .u64 t.a, .int .u64 t.b, .int .u64 t.c, .int .u64 t.d] 24)) 3 #[.int .i64 x]).alloc (.cells #[.int .i64 1] 3)).alloc (.cells #[.int .i64 0] 3)).alloc (.cells #[.int .u64 t.a, .int .u64 t.b, .int .u64 t.c, .int .u64 t.d] 24)
    have c2 := ((Box.new ((w.alloc (.cells #[.int .u64 t.a, .int .u64 t.b, .int .u64 t.c, .int .u64 t.d] 24)).alloc (.cells #[.int .i64 x] 3)) 3 #[.int .i64 1]).alloc (.cells #[.int .i64 0] 3)).alloc (.cells #[.int .u64 t.a, .int .u64 t.b, .int .u64 t.c, .int .u64 t.d] 24)
    have c3 := (Box.new (((w.alloc (.cells #[.int .u64 t.a, .int .u64 t.b, .int .u64 t.c, .int .u64 t.d] 24)).alloc (.cells #[.int .i64 x] 3)).alloc (.cells #[.int .i64 1] 3)) 3 #[.int .i64 0]).alloc (.cells #[.int .u64 t.a, .int .u64 t.b, .int .u64 t.c, .int .u64 t.d] 24)
    have c4 := Box.new ((((w.alloc (.cells #[.int .u64 t.a, .int .u64 t.b, .int .u64 t.c, .int .u64 t.d] 24)).alloc (.cells #[.int .i64 x] 3)).alloc (.cells #[.int .i64 1] 3)).alloc (.cells #[.int .i64 0] 3)) 24 #[.int .u64 t.a, .int .u64 t.b, .int .u64 t.c, .int .u64 t.d]
    have hbel : Below w.heap.size w (((((w.alloc (.cells #[.int .u64 t.a, .int .u64 t.b, .int .u64 t.c, .int .u64 t.d] 24)).alloc (.cells #[.int .i64 x] 3)).alloc (.cells #[.int .i64 1] 3)).alloc (.cells #[.int .i64 0] 3)).alloc (.cells #[.int .u64 t.a, .int .u64 t.b, .int .u64 t.c, .int .u64 t.d] 24)) := (((((Below.refl w.heap.size w).alloc (Nat.le_refl _) _).alloc (by simp) _).alloc (by simp; omega) _).alloc (by simp; omega) _).alloc (by simp; omega) _
    simp only [World.size_alloc] at c1 c2 c3 c4
    refine callsIn_of_wp_marks Tryd.func8 rfl trivial ?_ rfl
    simp only [Tryd.ntmps8, List.size_toArray, List.length_cons, List.length_nil, Nat.reduceAdd, Nat.reduceSub, Array.replicate_succ, Array.replicate_zero, List.push_toArray, List.append_toArray, List.nil_append, List.cons_append]
    gi_wp2_with (refine ⟨trivial, ?_⟩; gi_at_call 13; refine (All_in t _ _).mono ?_; rintro e w' ⟨rfl, rfl⟩)
    have hW5 : (((((w.alloc (.cells #[.int .u64 t.a, .int .u64 t.b, .int .u64 t.c, .int .u64 t.d] 24)).alloc (.cells #[.int .i64 x] 3)).alloc (.cells #[.int .i64 1] 3)).alloc (.cells #[.int .i64 0] 3)).alloc (.cells #[.int .u64 t.a, .int .u64 t.b, .int .u64 t.c, .int .u64 t.d] 24)).heap.size = w.heap.size + 5 := by simp
    generalize (((((w.alloc (.cells #[.int .u64 t.a, .int .u64 t.b, .int .u64 t.c, .int .u64 t.d] 24)).alloc (.cells #[.int .i64 x] 3)).alloc (.cells #[.int .i64 1] 3)).alloc (.cells #[.int .i64 0] 3)).alloc (.cells #[.int .u64 t.a, .int .u64 t.b, .int .u64 t.c, .int .u64 t.d] 24)) = W5 at *
    refine wpIn_rangeFunc_ownF rfl h1 (gf := 22) (lb := #[.pointer (some ⟨w.heap.size + 1 + 1 + 1 + 1, 0, none⟩)]) rfl trivial (enters_of Tryd.func22 (by kernel_rfl) rfl)
      (all_stops (n - 1) (w.heap.size + 1 + 1 + 1 + 1) w.heap.size t ht (by omega) hT.lt W5 (hT.keep hbel hT.lt) c4) belowK_t (belowK_b (by omega)) (Below.refl _ _) (fun _ => rfl)
      (fun pre W => (NoneIn x 1 pre ∧ W.cell? ⟨w.heap.size + 1, 0, none⟩ = some (.int .i64 x) ∧ W.cell? ⟨w.heap.size + 1 + 1, 0, none⟩ = some (.int .i64 1) ∧ W.cell? ⟨w.heap.size + 1 + 1 + 1, 0, none⟩ = some (.int .i64 0) ∧ W.frozen? ⟨w.heap.size + 1 + 1 + 1, 0, none⟩ = false) ∧ Below w.heap.size w W)
      (fun c pre W => (c = .ret ∧ ∃ (p : List Nat) (s : Nat), pre = p ++ [s] ∧ NoneIn x 1 p ∧ x < s ∧ s < 1 ∧ W.cell? ⟨w.heap.size + 1 + 1 + 1, 0, none⟩ = some (.int .i64 s)) ∧ Below w.heap.size w W)
      (OwnFrom.and (Own.from (fun s A B row hs hg hr => ⟨hs.1, cell_kept hs.2.1 hg hr, cell_kept hs.2.2.1 hg hr, cell_kept hs.2.2.2.1 hg hr, (frozen_kept hs.2.2.2.1 hg hr).trans hs.2.2.2.2⟩) _) (ownFrom_below (Nat.le_refl _) (by omega)))
      (fun c => OwnFrom.and (Own.from (fun s A B row hs hg hr => ⟨hs.1, hs.2.choose, hs.2.choose_spec.choose, hs.2.choose_spec.choose_spec.1, hs.2.choose_spec.choose_spec.2.1, hs.2.choose_spec.choose_spec.2.2.1, hs.2.choose_spec.choose_spec.2.2.2.1, cell_kept hs.2.choose_spec.choose_spec.2.2.2.2 hg hr⟩) _) (ownFrom_below (Nat.le_refl _) (by omega)))
      ⟨⟨fun y hy => by simp at hy, c1.cell 0, c2.cell 0, c3.cell 0, c3.frozen 0⟩, hbel⟩
      (fun s => { tmps := #[.agg #[.int .u64 t.a, .int .u64 t.b, .int .u64 t.c, .int .u64 t.d], .int .i64 x, .int .i64 1, .pointer (some ⟨w.heap.size, 0, none⟩), .pointer (some ⟨w.heap.size + 1, 0, none⟩), .pointer (some ⟨w.heap.size + 1 + 1, 0, none⟩), .pointer (some ⟨w.heap.size + 1 + 1 + 1, 0, none⟩), .int .i64 (s : Nat), .int .i64 1, .int .i64 1, .int .i64 1, .agg #[.int .u64 t.a, .int .u64 t.b, .int .u64 t.c, .int .u64 t.d], .func (.func 22) #[] #[.pointer (some ⟨w.heap.size + 1 + 1 + 1 + 1, 0, none⟩)], .int .i64 (s : Nat), undef, undef, undef, undef, undef, undef, undef, undef, undef, undef, undef], defers := [] }) ?assign ?body ?done ?stop
    case assign =>
      intro l s W K hK
      gi_wp2
      exact hK
    case body =>
      rintro l pre s W ⟨⟨hp, hcx, hcc, hcr, hfr⟩, hB⟩ _
      by_cases g1 : x < (s : Nat)
      · by_cases g2 : s < 1
        · have g2' : ((s : Nat) : Int) < 1 := by omega
          gi_wp2
          exact ⟨KeepsOthers.setCell _ _ _, ⟨rfl, pre, s, rfl, hp, g1, g2, World.cell?_setCell_same' _ _ _ (by rw [hcr]; rfl)⟩, hB.setCell (p := ⟨w.heap.size + 1 + 1 + 1, 0, none⟩) (by simp; omega) _⟩
        · have g2' : ¬ ((s : Nat) : Int) < 1 := by omega
          have hK2 : Kp (¬ s < 1) := ⟨g2⟩
          gi_wp2
          exact ⟨KeepsOthers.refl _, Below.refl _ _, ⟨hp.snoc (fun h => by have h1 := hK2.out; have h2 := h.2; omega), hcx, hcc, hcr, hfr⟩, hB⟩
      · have hK1 : Kp (¬ x < (s : Nat)) := ⟨g1⟩
        gi_wp2
        exact ⟨KeepsOthers.refl _, Below.refl _ _, ⟨hp.snoc (fun h => by have h1 := hK1.out; have h2 := h.1; omega), hcx, hcc, hcr, hfr⟩, hB⟩
    case done =>
      rintro D ys W hD rfl ⟨⟨hne, hcx, hcc, hcr, hfr⟩, hB⟩ hK
      replace hne := Kp.mk hne
      gi_wp2
      have hK' := (KeepsOthers.setCell W ⟨w.heap.size + 1 + 1 + 1, 0, none⟩ (.int .i64 0)).same D _ hK rfl
      refine ⟨by simp, .inl ⟨_, _, rfl, run_takeDeferred hK', ?_⟩⟩
      have hc5 := cell_kept (World.cell?_setCell_same' W ⟨w.heap.size + 1 + 1 + 1, 0, none⟩ (.int .i64 0) (by rw [hcr]; rfl)) (grownBy_putObj' _ D (.deferred none)) (fun r e => by cases e; exact ⟨_, hK', rfl⟩)
      have hBD := (hB.setCell (p := ⟨w.heap.size + 1 + 1 + 1, 0, none⟩) (by simp; omega) (.int .i64 0)).trans (belowK_b (w := w) (Nat.le_refl _) _ D _ (.deferred none) (by omega) hK' rfl rfl)
      refine ⟨.int .i64 0, ?_, _, rfl, (next_of_done (C := 1) (by omega) hne.out), hBD⟩
      simp [results, Tryd.f8, go_sem, hc5]
    case stop =>
      rintro D c pre W hD hpre ⟨⟨rfl, p, s, rfl, hne, g1, g2, hcr⟩, hB⟩ hK
      replace hne := Kp.mk hne
      replace hpre := Kp.mk hpre
      gi_wp2
      refine ⟨by simp, .inl ⟨_, _, rfl, run_takeDeferred hK, ?_⟩⟩
      have hc5 := cell_kept hcr (grownBy_putObj' _ D (.deferred none)) (fun r e => by cases e; exact ⟨_, hK, rfl⟩)
      have hBD := hB.trans (belowK_b (w := w) (Nat.le_refl _) _ D _ (.deferred none) (by omega) hK rfl rfl)
      refine ⟨.int .i64 s, ?_, _, rfl, next_of_stop hpre.out g1 g2 hne.out, hBD⟩
      simp [results, Tryd.f8, go_sem, hc5]


theorem Next_tabs (t : T4) (x cols : Int) (w : World) (ht : t.Ok) (hT : Tab w) :
    Calls Tryd.prog 8 #[.agg #[.int .u64 t.a, .int .u64 t.b, .int .u64 t.c, .int .u64 t.d], .int .i64 x, .int .i64 cols] w (IntVal (NextIs t x (clampC cols)) w) := by
  refine (callsIn_wide (n := 5)).1 ?_
  rcases (show cols < 1 ∨ cols = 1 ∨ 200 < cols ∨ (1 < cols ∧ cols ≤ 200) by omega) with h | h | h | ⟨h1, h2⟩
  · rw [show clampC cols = 1 by unfold clampC; omega]; exact Next_low 5 t x cols w ht (by omega) hT h
  · rw [show clampC cols = 1 by unfold clampC; omega]; exact Next_one 5 t x cols w ht (by omega) hT h
  · rw [show clampC cols = 200 by unfold clampC; omega]; exact Next_high 5 t x cols w ht (by omega) hT h
  · obtain ⟨C, rfl⟩ := Int.eq_ofNat_of_zero_le (show 0 ≤ cols by omega)
    rw [show clampC C = C by unfold clampC; omega]; exact Next_mid 5 t x C w ht (by omega) hT (by omega) (by omega)
end Go.Proofs.YtnkanohjfanolaaDoor
