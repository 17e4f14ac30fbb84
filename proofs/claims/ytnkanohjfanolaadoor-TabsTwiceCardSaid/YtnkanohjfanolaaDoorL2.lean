/- The walk of the law TabsTwice (layer 16): true for every four words and all numbers; the library's table lies in its variable. -/
import Derived.Test.YtnkanohjfanolaaDoorL1
import Derived.Test.YtnkanohjfanolaaDoorU
namespace Go.Proofs.YtnkanohjfanolaaDoor
open Go.RowKit
/-! The plain laws. -/
theorem clr_set {t : T4} (ht : t.Ok) (x : Int) : clrI (setI t x) x = clrI t x := by
  unfold clrI setI
  by_cases h : 0 ≤ x ∧ x < 200
  · simp only [if_pos h]
    exact T4.ext_bits (clrB_ok (setB_ok ht _) _) (clrB_ok ht _) fun y hy => by
      rw [bit_clrB _ _ _ (by omega) hy, bit_setB _ _ _ (by omega) hy, bit_clrB _ _ _ (by omega) hy]
      cases decide (x.toNat = y) <;> simp
  · simp only [if_neg h]
theorem set_clr {t : T4} (ht : t.Ok) (x : Int) : setI (clrI t x) x = setI t x := by
  unfold clrI setI
  by_cases h : 0 ≤ x ∧ x < 200
  · simp only [if_pos h]
    exact T4.ext_bits (setB_ok (clrB_ok ht _) _) (setB_ok ht _) fun y hy => by
      rw [bit_setB _ _ _ (by omega) hy, bit_clrB _ _ _ (by omega) hy, bit_setB _ _ _ (by omega) hy]
      cases decide (x.toNat = y) <;> simp
  · simp only [if_neg h]
theorem set_set {t : T4} (ht : t.Ok) (x : Int) : setI (setI t x) x = setI t x := by
  unfold setI
  by_cases h : 0 ≤ x ∧ x < 200
  · simp only [if_pos h]
    exact T4.ext_bits (setB_ok (setB_ok ht _) _) (setB_ok ht _) fun y hy => by
      rw [bit_setB _ _ _ (by omega) hy, bit_setB _ _ _ (by omega) hy]
      cases decide (x.toNat = y) <;> simp
  · simp only [if_neg h]
theorem clr_clr {t : T4} (ht : t.Ok) (x : Int) : clrI (clrI t x) x = clrI t x := by
  unfold clrI
  by_cases h : 0 ≤ x ∧ x < 200
  · simp only [if_pos h]
    exact T4.ext_bits (clrB_ok (clrB_ok ht _) _) (clrB_ok ht _) fun y hy => by
      rw [bit_clrB _ _ _ (by omega) hy, bit_clrB _ _ _ (by omega) hy]
      cases decide (x.toNat = y) <;> simp
  · simp only [if_neg h]
theorem is_set (t : T4) (x : Int) : isI (setI t x) x = decide (0 ≤ x ∧ x < 200) := by
  unfold isI setI
  by_cases h : 0 ≤ x ∧ x < 200
  · rw [if_pos h, bit_setB _ _ _ (by omega) (by omega)]; simp [h]
  · rw [decide_eq_false h, Bool.false_and]
theorem is_clr (t : T4) (x : Int) : isI (clrI t x) x = false := by
  unfold isI clrI
  by_cases h : 0 ≤ x ∧ x < 200
  · rw [if_pos h, bit_clrB _ _ _ (by omega) (by omega)]; simp
  · rw [decide_eq_false h, Bool.false_and]
theorem is_set_other (t : T4) {x o : Int} (h : o ≠ x) : isI (setI t x) o = isI t o := by
  unfold isI setI
  by_cases h2 : 0 ≤ o ∧ o < 200
  · by_cases h1 : 0 ≤ x ∧ x < 200
    · rw [if_pos h1, bit_setB _ _ _ (by omega) (by omega), decide_eq_false (show ¬ x.toNat = o.toNat by omega), Bool.false_or]
    · rw [if_neg h1]
  · rw [decide_eq_false h2, Bool.false_and, Bool.false_and]
theorem is_clr_other (t : T4) {x o : Int} (h : o ≠ x) : isI (clrI t x) o = isI t o := by
  unfold isI clrI
  by_cases h2 : 0 ≤ o ∧ o < 200
  · by_cases h1 : 0 ≤ x ∧ x < 200
    · rw [if_pos h1, bit_clrB _ _ _ (by omega) (by omega), decide_eq_false (show ¬ x.toNat = o.toNat by omega), Bool.not_false, Bool.true_and]
    · rw [if_neg h1]
  · rw [decide_eq_false h2, Bool.false_and, Bool.false_and]
/-! The walk. -/
def cs (u : T4) : Array Value := #[.int .u64 u.a, .int .u64 u.b, .int .u64 u.c, .int .u64 u.d]
def cs0 : Array Value := #[.int .u64 0, .int .u64 0, .int .u64 0, .int .u64 0]
theorem size24 : (Tryd.prog.info? 24).map (·.size) = some 4 := by kernel_rfl
def twAllowed (L : List Bool) (i : Nat) : Bool :=
  match L, i with
  | [b0, _, _, _, _, _, _, _, _, _], 0 => !b0
  | [_, b1, _, _, _, _, _, _, _, _], 1 => !b1
  | [b0, b1, b2, _, _, _, _, _, _, _], 2 => !b2 && b0 && b1
  | [_, _, _, b3, _, _, _, _, _, _], 3 => !b3
  | [_, _, _, _, b4, _, _, _, _, _], 4 => !b4
  | [_, _, _, b3, b4, b5, _, _, _, _], 5 => !b5 && b3 && b4
  | [_, _, _, _, _, _, b6, _, _, _], 6 => !b6
  | [_, _, _, _, _, _, _, b7, _, _], 7 => !b7
  | [_, _, b2, _, _, _, b6, _, b8, _], 8 => !b8 && b6 && b2
  | [_, _, _, _, _, b5, _, b7, _, b9], 9 => !b9 && b7 && b5
  | _, _ => false
def twNew (w : World) (v : Value) (l : Array Value) (W : World) : Prop := ∃ g, v = .pointer (some ⟨g, 0, none⟩) ∧ w.heap.size < g ∧ Box W g 24 l
def twApart (v v' : Value) : Prop := ∀ g g', v = .pointer (some ⟨g, 0, none⟩) → v' = .pointer (some ⟨g', 0, none⟩) → g ≠ g'
theorem twNew.keep {w W W' : World} {v : Value} {l : Array Value} (h : twNew w v l W) (k : Below W.heap.size W W') : twNew w v l W' :=
  let ⟨g, e, hg, ha⟩ := h; ⟨g, e, hg, ha.keep k ha.lt⟩
theorem newApart_left {w W : World} {v : Value} {l : Array Value} (h : twNew w v l W) : twApart (.pointer (some ⟨W.heap.size, 0, none⟩)) v := by
  obtain ⟨g, e, _, hA⟩ := h
  have := hA.lt
  intro g1 g2 e1 e2
  rw [e] at e2
  simp at e1 e2
  omega
theorem newApart_right {w W : World} {v : Value} {l : Array Value} (h : twNew w v l W) : twApart v (.pointer (some ⟨W.heap.size, 0, none⟩)) := by
  obtain ⟨g, e, _, hA⟩ := h
  have := hA.lt
  intro g1 g2 e1 e2
  rw [e] at e1
  simp at e1 e2
  omega
theorem twNew.farRow {w W : World} {v : Value} {l : Array Value} {k : Nat} {cs' : Array Value} (h : twNew w v l W) (hk : ∀ g, v = .pointer (some ⟨g, 0, none⟩) → k ≠ g) : twNew w v l (W.setRow k cs') :=
  let ⟨g, e, hg, ha⟩ := h; ⟨g, e, hg, ha.farRow (hk g e)⟩
theorem Tab.setRow {W : World} (h : Tab W) {k : Nat} (hk : 0 < k) (cs' : Array Value) : Tab (W.setRow k cs') := by
  refine ⟨fun j hj => ?_, ?_⟩
  · rw [← h.cell j hj]
    unfold World.cell?
    simp only
    rw [heap_setRow W k cs' 0 (by omega)]
  · show 0 < (W.heap.modify k _).size
    rw [Array.size_modify]; exact h.lt
theorem TM.setRow {B : Nat} {w : World} {g : Nat} {t : T4} {W : World} (h : TM B w g t W) {k : Nat} (hk : g < k) (hB : B ≤ k) (cs' : Array Value) : TM B w g t (W.setRow k cs') :=
  ⟨h.b.farRow (by omega), h.tab.setRow (by omega) cs', below_setRow h.bel hB _, by show _ ≤ (W.heap.modify k _).size; rw [Array.size_modify]; exact h.le⟩
structure TwMem (w : World) (t a b : T4) (x : Int) (b0 b1 b2 b3 b4 b5 b6 b7 b8 b9 : Bool) (v7 v8 v10 v11 v12 v13 v14 v15 : Value) (W : World) : Prop where
  mem : TM w.heap.size w w.heap.size t W
  h0 : b0 = true → v10 = .agg (cs t)
  h1 : b1 = true → v11 = .int .i64 x
  h2 : b2 = true → v12 = .agg (cs a)
  h3 : b3 = true → v13 = .agg (cs t)
  h4 : b4 = true → v14 = .int .i64 x
  h5 : b5 = true → v15 = .agg (cs b)
  h6 : b6 = true → twNew w v7 (if b8 then cs a else cs0) W
  h7 : b7 = true → twNew w v8 (if b9 then cs b else cs0) W
  h67 : b6 = true → b7 = true → twApart v7 v8
  h86 : b8 = true → b6 = true
  h97 : b9 = true → b7 = true
def twFrame (w : World) (t : T4) (x o : Int) (v7 v8 v10 v11 v12 v13 v14 v15 : Value) : Act :=
  ⟨#[.agg (cs t), .int .i64 x, .int .i64 o, .pointer (some ⟨w.heap.size, 0, none⟩), undef, undef, .bool false, v7, v8, undef, v10, v11, v12, v13, v14, v15, undef, undef, undef, undef, undef, undef, undef, undef, undef, undef, undef, undef, undef, undef, undef, undef, undef, undef, undef, undef, undef, undef, undef, undef, undef, undef, undef, undef, undef, undef, undef, undef, undef, undef, undef, undef, undef, undef, undef, undef, undef, undef, undef, undef, undef, undef, undef, undef, undef, undef, undef, undef, undef, undef, undef, undef, undef, undef, undef, undef, undef, undef, undef, undef, undef, undef, undef, undef, undef, undef, undef, undef, undef, undef, undef, undef, undef, undef, undef, undef], []⟩
def twInv (w : World) (t a b : T4) (x o : Int) (L : List Bool) (A : Act) (W : World) : Prop :=
  ∃ (b0 b1 b2 b3 b4 b5 b6 b7 b8 b9 : Bool) (v7 v8 v10 v11 v12 v13 v14 v15 : Value), L = [b0, b1, b2, b3, b4, b5, b6, b7, b8, b9] ∧ A = twFrame w t x o v7 v8 v10 v11 v12 v13 v14 v15 ∧ TwMem w t a b x b0 b1 b2 b3 b4 b5 b6 b7 b8 b9 v7 v8 v10 v11 v12 v13 v14 v15 W
theorem op_move {P : Program} {o : Oper} {a : Act} {w : World} {K : Act → World → Prop} {Q : Exit → Act → World → Prop} {x : Operand} {v : Value} (ho : o.op = .move x) (hx : a.eval x = v) (hk : K (a.put o.dst v) w) : o.wp P a w K Q := by
  unfold Oper.wp execOp
  simp only [ho, hx, Sem.run_pure]
  exact hk
structure Tw2 (w : World) (t a b : T4) (g7 g8 : Nat) (W : World) : Prop where
  m : TM w.heap.size w w.heap.size t W
  a : Box W g7 24 (cs a)
  b : Box W g8 24 (cs b)
theorem Tw2.keep {w W W' : World} {t a b : T4} {g7 g8 : Nat} (h : Tw2 w t a b g7 g8 W) (k : Below W.heap.size W W') : Tw2 w t a b g7 g8 W' := ⟨h.m.keep k, h.a.keep k h.a.lt, h.b.keep k h.b.lt⟩
theorem Tw2.drew {w W : World} {t a b : T4} {g7 g8 : Nat} (h : Tw2 w t a b g7 g8 W) : Tw2 w t a b g7 g8 W.drew := ⟨h.m.drew, h.a, h.b⟩
theorem equal24 (u : T4) (w : World) : (Op.equalIn 10000 24 (.agg (cs u)) (.agg (cs u))).run Tryd.prog w = .ok true w := by
  unfold cs
  rw [eq24]
  simp
theorem exec_neq24 {a : Act} {o : Oper} {x y : Operand} {z : TypeId} {u : T4} (ho : o.op = .binOp .neq 24 x y z) (hx : a.eval x = .agg (cs u)) (hy : a.eval y = .agg (cs u)) (w : World) :
    (execOp a.eval o).run Tryd.prog w = .ok (.value (.bool false)) w := by
  unfold execOp
  rw [ho]
  simp only [hx, hy]
  have e1 : (eqGuard .neq 24 x y (.agg (cs u)) (.agg (cs u))).run Tryd.prog w = .ok () w := run_eqGuard_agg w _ _ _ _ _ _ (by kernel_rfl)
  have e2 : (binOp .neq 24 (.agg (cs u)) (.agg (cs u))).run Tryd.prog w = .ok (.bool false) w := by
    rw [run_neq_struct, equal24]; rfl
  simp [e1, e2, Sem.run_bind]
theorem exec_eql4 {A : Act} {o : Oper} {x y : Operand} {z : TypeId} {t : Bool} (ho : o.op = .binOp .eql 4 x y z) (hx : A.eval x = .bool t) (hy : A.eval y = .bool t) (W : World) : (execOp A.eval o).run Tryd.prog W = .ok (.value (.bool true)) W := by
  unfold execOp
  rw [ho]
  simp only [hx, hy]
  have u4 := Tryd.underlying4
  go_simp
theorem exec_eql3 {A : Act} {o : Oper} {x y : Operand} {z : TypeId} {p q : Int} {b : Bool} (ho : o.op = .binOp .eql 3 x y z) (hx : A.eval x = .int .i64 p) (hy : A.eval y = .int .i64 q) (hb : (p == q) = b) (W : World) : (execOp A.eval o).run Tryd.prog W = .ok (.value (.bool b)) W := by
  unfold execOp
  rw [ho]
  simp only [hx, hy]
  have u4 := Tryd.underlying3
  go_simp
set_option maxRecDepth 100000 in
set_option maxHeartbeats 8000000 in
theorem twice_any (t : T4) (x o : Int) (w : World) (ht : t.Ok) (hT : Tab w) :
    Calls Tryd.prog 7 #[.agg #[.int .u64 t.a, .int .u64 t.b, .int .u64 t.c, .int .u64 t.d], .int .i64 x, .int .i64 o] w fun e w' => e = .returned (.bool true) ∧ Below w.heap.size w w' := by
  obtain ⟨a, ha⟩ : ∃ a, setI t x = a := ⟨_, rfl⟩
  obtain ⟨b, hb⟩ : ∃ b, clrI t x = b := ⟨_, rfl⟩
  have oa : a.Ok := ha ▸ setI_ok ht x
  have ob : b.Ok := hb ▸ clrI_ok ht x
  have p1 : clrI a x = b := by rw [← ha, clr_set ht]; exact hb
  have p2 : setI b x = a := by rw [← hb, set_clr ht]; exact ha
  have p3 : setI a x = a := by rw [← ha]; exact set_set ht x
  have p4 : clrI b x = b := by rw [← hb]; exact clr_clr ht x
  have p5 : isI a x = decide (0 ≤ x ∧ x < 200) := by rw [← ha]; exact is_set t x
  have p6 : isI b x = false := by rw [← hb]; exact is_clr t x
  have p7 : ¬ (0 ≤ x ∧ x < 200) → a = t ∧ b = t := fun h => ⟨by rw [← ha, setI, if_neg h], by rw [← hb, clrI, if_neg h]⟩
  have p8 : o ≠ x → isI a o = isI t o ∧ isI b o = isI t o := fun h => ⟨by rw [← ha]; exact is_set_other t h, by rw [← hb]; exact is_clr_other t h⟩
  have M : TM w.heap.size w w.heap.size t (w.alloc (.cells (cs t) 24)).drew := (⟨Box.new _ _ _, hT.keep ((Below.refl w.heap.size w).alloc (Nat.le_refl _) _) hT.lt, (Below.refl _ _).alloc (Nat.le_refl _) _, by simp⟩ : TM w.heap.size w w.heap.size t (w.alloc (.cells (cs t) 24))).drew
  have ld : ∀ (g : Nat) (u : T4) (W : World), Box W g 24 (cs u) → (Instr.loadAt 24 (.pointer (some ⟨g, 0, none⟩))).run Tryd.prog W = .ok (.agg (cs u)) W := fun g u W h => h.loadAt Tryd.underlying24 size24
  have st : ∀ (g : Nat) (u : T4) (W : World), Box W g 24 cs0 → (Instr.storeAt 24 (.pointer (some ⟨g, 0, none⟩)) (.agg (cs u))).run Tryd.prog W = .ok () (W.setRow g (cs u)) := fun g u W h => h.storeAt size24 rfl (by rw [Array.all_eq_true_iff_forall_mem]; intro v hv; simp [cs] at hv; rcases hv with rfl | rfl | rfl | rfl <;> rfl)
  have al : ∀ W : World, (Instr.alloc 24 true (.tuple #[])).run Tryd.prog W = .ok (.pointer (some ⟨W.heap.size, 0, none⟩)) (W.alloc (.cells cs0 24)) := fun W => by kernel_rfl
  replace ha := Kp.mk ha; replace hb := Kp.mk hb; replace p1 := Kp.mk p1; replace p2 := Kp.mk p2; replace p3 := Kp.mk p3; replace p4 := Kp.mk p4; replace p5 := Kp.mk p5; replace p6 := Kp.mk p6; replace p7 := Kp.mk p7; replace p8 := Kp.mk p8
  replace ld := Kp.mk ld; replace st := Kp.mk st; replace al := Kp.mk al
  go_enter Tryd.func7, Tryd.ntmps7
  go_wp2_with fail
  refine wp_region_inv (n := 10) (by kernel_rfl) rfl twAllowed (by kernel_rfl) (twInv w t a b x o) ?_ ?_ ?_
  · exact ⟨false, false, false, false, false, false, false, false, false, false, undef, undef, undef, undef, undef, undef, undef, undef, rfl, rfl, ⟨M, nofun, nofun, nofun, nofun, nofun, nofun, nofun, nofun, nofun, nofun, nofun⟩⟩
  · intro L A W i _ hi hall hI
    obtain ⟨b0, b1, b2, b3, b4, b5, b6, b7, b8, b9, v7, v8, v10, v11, v12, v13, v14, v15, rfl, rfl, I⟩ := hI
    match i, hi with
    | 0, _ =>
      refine wpOp_of rfl (by rfl) (op_load rfl (x := .tmp 3) rfl (ld.out _ _ _ I.mem.b) ?_)
      exact ⟨true, b1, b2, b3, b4, b5, b6, b7, b8, b9, v7, v8, .agg (cs t), v11, v12, v13, v14, v15, rfl, rfl, { I with h0 := fun _ => rfl }⟩
    | 1, _ =>
      refine wpOp_of rfl (by rfl) (op_move (x := .tmp 1) (v := .int .i64 x) rfl rfl ?_)
      exact ⟨b0, true, b2, b3, b4, b5, b6, b7, b8, b9, v7, v8, v10, .int .i64 x, v12, v13, v14, v15, rfl, rfl, { I with h1 := fun _ => rfl }⟩
    | 2, _ =>
      obtain ⟨rfl, rfl⟩ : b0 = true ∧ b1 = true := by simp [twAllowed] at hall; exact ⟨hall.1.2, hall.2⟩
      obtain rfl := I.h0 rfl
      obtain rfl := I.h1 rfl
      refine wpOp_of rfl (by rfl) (op_call (args := #[.agg (cs t), .int .i64 x]) Tryd.call16 rfl (by simp only [List.map_toArray, List.map_cons, List.map_nil]; rfl) ((Set_to t x a W ht ha.out).mono fun e W' ⟨he, k⟩ => ⟨he, ?_⟩))
      exact ⟨true, true, true, b3, b4, b5, b6, b7, b8, b9, v7, v8, .agg (cs t), .int .i64 x, .agg (cs a), v13, v14, v15, rfl, rfl, { mem := I.mem.keep k, h0 := I.h0, h1 := I.h1, h2 := fun _ => rfl, h3 := I.h3, h4 := I.h4, h5 := I.h5, h6 := fun h => (I.h6 h).keep k, h7 := fun h => (I.h7 h).keep k, h67 := I.h67, h86 := I.h86, h97 := I.h97 }⟩
    | 3, _ =>
      refine wpOp_of rfl (by rfl) (op_load rfl (x := .tmp 3) rfl (ld.out _ _ _ I.mem.b) ?_)
      exact ⟨b0, b1, b2, true, b4, b5, b6, b7, b8, b9, v7, v8, v10, v11, v12, .agg (cs t), v14, v15, rfl, rfl, { I with h3 := fun _ => rfl }⟩
    | 4, _ =>
      refine wpOp_of rfl (by rfl) (op_move (x := .tmp 1) (v := .int .i64 x) rfl rfl ?_)
      exact ⟨b0, b1, b2, b3, true, b5, b6, b7, b8, b9, v7, v8, v10, v11, v12, v13, .int .i64 x, v15, rfl, rfl, { I with h4 := fun _ => rfl }⟩
    | 5, _ =>
      obtain ⟨rfl, rfl⟩ : b3 = true ∧ b4 = true := by simp [twAllowed] at hall; exact ⟨hall.1.2, hall.2⟩
      obtain rfl := I.h3 rfl
      obtain rfl := I.h4 rfl
      refine wpOp_of rfl (by rfl) (op_call (args := #[.agg (cs t), .int .i64 x]) Tryd.call18 rfl (by simp only [List.map_toArray, List.map_cons, List.map_nil]; rfl) ((Clear_to t x b W ht hb.out).mono fun e W' ⟨he, k⟩ => ⟨he, ?_⟩))
      exact ⟨b0, b1, b2, true, true, true, b6, b7, b8, b9, v7, v8, v10, v11, v12, .agg (cs t), .int .i64 x, .agg (cs b), rfl, rfl, { mem := I.mem.keep k, h0 := I.h0, h1 := I.h1, h2 := I.h2, h3 := I.h3, h4 := I.h4, h5 := fun _ => rfl, h6 := fun h => (I.h6 h).keep k, h7 := fun h => (I.h7 h).keep k, h67 := I.h67, h86 := I.h86, h97 := I.h97 }⟩
    | 6, _ =>
      obtain rfl : b6 = false := by simpa [twAllowed] using hall
      obtain rfl : b8 = false := by cases b8 with | false => rfl | true => exact absurd (I.h86 rfl) (by decide)
      refine wpOp_of rfl (by rfl) (op_alloc rfl (al.out W) ?_)
      have k : Below W.heap.size W (W.alloc (.cells cs0 24)) := (Below.refl _ _).alloc (Nat.le_refl _) _
      exact ⟨b0, b1, b2, b3, b4, b5, true, b7, false, b9, .pointer (some ⟨W.heap.size, 0, none⟩), v8, v10, v11, v12, v13, v14, v15, rfl, rfl, { mem := I.mem.keep k, h0 := I.h0, h1 := I.h1, h2 := I.h2, h3 := I.h3, h4 := I.h4, h5 := I.h5, h6 := fun _ => ⟨W.heap.size, rfl, I.mem.b.lt, Box.new _ _ _⟩, h7 := fun h => (I.h7 h).keep k, h67 := fun _ h => newApart_left (I.h7 h), h86 := nofun, h97 := I.h97 }⟩
    | 7, _ =>
      obtain rfl : b7 = false := by simpa [twAllowed] using hall
      obtain rfl : b9 = false := by cases b9 with | false => rfl | true => exact absurd (I.h97 rfl) (by decide)
      refine wpOp_of rfl (by rfl) (op_alloc rfl (al.out W) ?_)
      have k : Below W.heap.size W (W.alloc (.cells cs0 24)) := (Below.refl _ _).alloc (Nat.le_refl _) _
      exact ⟨b0, b1, b2, b3, b4, b5, b6, true, b8, false, v7, .pointer (some ⟨W.heap.size, 0, none⟩), v10, v11, v12, v13, v14, v15, rfl, rfl, { mem := I.mem.keep k, h0 := I.h0, h1 := I.h1, h2 := I.h2, h3 := I.h3, h4 := I.h4, h5 := I.h5, h6 := fun h => (I.h6 h).keep k, h7 := fun _ => ⟨W.heap.size, rfl, I.mem.b.lt, Box.new _ _ _⟩, h67 := fun h _ => newApart_right (I.h6 h), h86 := I.h86, h97 := nofun }⟩
    | 8, _ =>
      obtain ⟨rfl, rfl, rfl⟩ : b8 = false ∧ b6 = true ∧ b2 = true := by simp [twAllowed] at hall; exact ⟨hall.1.1, hall.1.2, hall.2⟩
      obtain rfl := I.h2 rfl
      obtain ⟨g, rfl, hg, hA⟩ := I.h6 rfl
      rw [if_neg (by decide)] at hA
      refine wpOp_of rfl (by rfl) (op_store rfl (x := .tmp 7) (y := .tmp 12) rfl rfl (st.out g a W hA) ?_)
      exact ⟨b0, b1, true, b3, b4, b5, true, b7, true, b9, .pointer (some ⟨g, 0, none⟩), v8, v10, v11, .agg (cs a), v13, v14, v15, rfl, rfl, { mem := I.mem.setRow hg (by omega) _, h0 := I.h0, h1 := I.h1, h2 := I.h2, h3 := I.h3, h4 := I.h4, h5 := I.h5, h6 := fun _ => ⟨g, rfl, hg, by rw [if_pos rfl]; exact hA.setRow⟩, h7 := fun h => (I.h7 h).farRow fun g' e => I.h67 rfl h g g' rfl e, h67 := I.h67, h86 := fun _ => rfl, h97 := I.h97 }⟩
    | 9, _ =>
      obtain ⟨rfl, rfl, rfl⟩ : b9 = false ∧ b7 = true ∧ b5 = true := by simp [twAllowed] at hall; exact ⟨hall.1.1, hall.1.2, hall.2⟩
      obtain rfl := I.h5 rfl
      obtain ⟨g, rfl, hg, hA⟩ := I.h7 rfl
      rw [if_neg (by decide)] at hA
      refine wpOp_of rfl (by rfl) (op_store rfl (x := .tmp 8) (y := .tmp 15) rfl rfl (st.out g b W hA) ?_)
      exact ⟨b0, b1, b2, b3, b4, true, b6, true, b8, true, v7, .pointer (some ⟨g, 0, none⟩), v10, v11, v12, v13, v14, .agg (cs b), rfl, rfl, { mem := I.mem.setRow hg (by omega) _, h0 := I.h0, h1 := I.h1, h2 := I.h2, h3 := I.h3, h4 := I.h4, h5 := I.h5, h6 := fun h => (I.h6 h).farRow fun g' e => Ne.symm (I.h67 h rfl g' g e rfl), h7 := fun _ => ⟨g, rfl, hg, by rw [if_pos rfl]; exact hA.setRow⟩, h67 := I.h67, h86 := I.h86, h97 := fun _ => rfl }⟩
    | n + 10, h => omega
  · intro L A W _ hall hI
    obtain ⟨b0, b1, b2, b3, b4, b5, b6, b7, b8, b9, v7, v8, v10, v11, v12, v13, v14, v15, rfl, rfl, I⟩ := hI
    simp at hall
    obtain ⟨rfl, rfl, rfl, rfl, rfl, rfl, rfl, rfl, rfl, rfl⟩ := hall
    obtain ⟨g7, rfl, hg7, hA⟩ := I.h6 rfl
    obtain ⟨g8, rfl, hg8, hB⟩ := I.h7 rfl
    obtain rfl := I.h0 rfl
    obtain rfl := I.h1 rfl
    obtain rfl := I.h2 rfl
    obtain rfl := I.h3 rfl
    obtain rfl := I.h4 rfl
    obtain rfl := I.h5 rfl
    rw [if_pos rfl] at hA hB
    have D0 : Tw2 w t a b g7 g8 W.drew := ⟨I.mem.drew, hA, hB⟩
    clear I hA hB M
    have c3 : Kp (∀ W, Tw2 w t a b g7 g8 W → (Instr.loadAt 24 (.pointer (some ⟨w.heap.size, 0, none⟩))).run Tryd.prog W = .ok (.agg (cs t)) W) := ⟨fun W D => ld.out _ _ _ D.m.b⟩
    have c7 : Kp (∀ W, Tw2 w t a b g7 g8 W → (Instr.loadAt 24 (.pointer (some ⟨g7, 0, none⟩))).run Tryd.prog W = .ok (.agg (cs a)) W) := ⟨fun W D => ld.out _ _ _ D.a⟩
    have c8 : Kp (∀ W, Tw2 w t a b g7 g8 W → (Instr.loadAt 24 (.pointer (some ⟨g8, 0, none⟩))).run Tryd.prog W = .ok (.agg (cs b)) W) := ⟨fun W D => ld.out _ _ _ D.b⟩
    have d1 : Kp (∀ W, Tw2 w t a b g7 g8 W → Calls Tryd.prog 18 #[.agg (cs a), .int .i64 x] W fun e w' => e = .returned (.agg (cs b)) ∧ Tw2 w t a b g7 g8 w') := ⟨fun W D => (Clear_to a x b W oa p1.out).mono fun _ _ ⟨he, k⟩ => ⟨he, D.keep k⟩⟩
    have d2 : Kp (∀ W, Tw2 w t a b g7 g8 W → Calls Tryd.prog 16 #[.agg (cs b), .int .i64 x] W fun e w' => e = .returned (.agg (cs a)) ∧ Tw2 w t a b g7 g8 w') := ⟨fun W D => (Set_to b x a W ob p2.out).mono fun _ _ ⟨he, k⟩ => ⟨he, D.keep k⟩⟩
    have d3 : Kp (∀ W, Tw2 w t a b g7 g8 W → Calls Tryd.prog 16 #[.agg (cs a), .int .i64 x] W fun e w' => e = .returned (.agg (cs a)) ∧ Tw2 w t a b g7 g8 w') := ⟨fun W D => (Set_to a x a W oa p3.out).mono fun _ _ ⟨he, k⟩ => ⟨he, D.keep k⟩⟩
    have d4 : Kp (∀ W, Tw2 w t a b g7 g8 W → Calls Tryd.prog 18 #[.agg (cs b), .int .i64 x] W fun e w' => e = .returned (.agg (cs b)) ∧ Tw2 w t a b g7 g8 w') := ⟨fun W D => (Clear_to b x b W ob p4.out).mono fun _ _ ⟨he, k⟩ => ⟨he, D.keep k⟩⟩
    unfold twFrame
    go_wp2_with fail
    refine wp_region_quiet (C := Tw2 w t a b g7 g8) (by kernel_rfl) (by kernel_rfl) D0 ?_
    show wpQuiet _ _ _ _ [_, _, _, _, _, _, _, _, _, _, _, _, _, _, _, _, _, _, _, _, _, _, _, _, _, _] _
    refine wpQuiet_step (fun K hK => ?_)
    rw [if_pos (by rfl)]
    refine quiet_load (P := Tryd.prog) rfl (x := .tmp 7) rfl c7.out (hK _ ?_)
    clear hK K
    try simp only [Act.put, List.setIfInBounds_toArray, List.set_cons_zero, List.set_cons_succ]
    refine wpQuiet_step (fun K hK => ?_)
    rw [if_pos (by rfl)]
    refine quiet_pure (P := Tryd.prog) (v := .int .i64 x) (fun _ => rfl) (hK _ ?_)
    clear hK K
    try simp only [Act.put, List.setIfInBounds_toArray, List.set_cons_zero, List.set_cons_succ]
    refine wpQuiet_step (fun K hK => ?_)
    rw [if_pos (by rfl)]
    refine quiet_call (args := #[.agg (cs a), .int .i64 x]) Tryd.call18 rfl (by simp only [List.map_toArray, List.map_cons, List.map_nil]; rfl) d1.out (hK _ ?_)
    clear hK K
    try simp only [Act.put, List.setIfInBounds_toArray, List.set_cons_zero, List.set_cons_succ]
    refine wpQuiet_step (fun K hK => ?_)
    rw [if_pos (by rfl)]
    refine quiet_load (P := Tryd.prog) rfl (x := .tmp 8) rfl c8.out (hK _ ?_)
    clear hK K
    try simp only [Act.put, List.setIfInBounds_toArray, List.set_cons_zero, List.set_cons_succ]
    refine wpQuiet_step (fun K hK => ?_)
    rw [if_pos (by rfl)]
    refine quiet_pure (P := Tryd.prog) (v := .bool false) (fun w => exec_neq24 rfl rfl rfl w) (hK _ ?_)
    clear hK K
    try simp only [Act.put, List.setIfInBounds_toArray, List.set_cons_zero, List.set_cons_succ]
    refine wpQuiet_step (fun K hK => ?_)
    rw [if_pos (by rfl)]
    refine quiet_pure (P := Tryd.prog) (v := .bool false) (fun _ => rfl) (hK _ ?_)
    clear hK K
    try simp only [Act.put, List.setIfInBounds_toArray, List.set_cons_zero, List.set_cons_succ]
    refine wpQuiet_step (fun K hK => ?_)
    rw [if_pos (by rfl)]
    refine quiet_load (P := Tryd.prog) rfl (x := .tmp 8) rfl c8.out (hK _ ?_)
    clear hK K
    try simp only [Act.put, List.setIfInBounds_toArray, List.set_cons_zero, List.set_cons_succ]
    refine wpQuiet_step (fun K hK => ?_)
    rw [if_pos (by rfl)]
    refine quiet_pure (P := Tryd.prog) (v := .int .i64 x) (fun _ => rfl) (hK _ ?_)
    clear hK K
    try simp only [Act.put, List.setIfInBounds_toArray, List.set_cons_zero, List.set_cons_succ]
    refine wpQuiet_step (fun K hK => ?_)
    rw [if_pos (by rfl)]
    refine quiet_call (args := #[.agg (cs b), .int .i64 x]) Tryd.call16 rfl (by simp only [List.map_toArray, List.map_cons, List.map_nil]; rfl) d2.out (hK _ ?_)
    clear hK K
    try simp only [Act.put, List.setIfInBounds_toArray, List.set_cons_zero, List.set_cons_succ]
    refine wpQuiet_step (fun K hK => ?_)
    rw [if_pos (by rfl)]
    refine quiet_load (P := Tryd.prog) rfl (x := .tmp 7) rfl c7.out (hK _ ?_)
    clear hK K
    try simp only [Act.put, List.setIfInBounds_toArray, List.set_cons_zero, List.set_cons_succ]
    refine wpQuiet_step (fun K hK => ?_)
    rw [if_pos (by rfl)]
    refine quiet_pure (P := Tryd.prog) (v := .bool false) (fun w => exec_neq24 rfl rfl rfl w) (hK _ ?_)
    clear hK K
    try simp only [Act.put, List.setIfInBounds_toArray, List.set_cons_zero, List.set_cons_succ]
    refine wpQuiet_step (fun K hK => ?_)
    rw [if_pos (by rfl)]
    refine quiet_pure (P := Tryd.prog) (v := .bool false) (fun _ => rfl) (hK _ ?_)
    clear hK K
    try simp only [Act.put, List.setIfInBounds_toArray, List.set_cons_zero, List.set_cons_succ]
    refine wpQuiet_step (fun K hK => ?_)
    rw [if_pos (by rfl)]
    refine quiet_pure (P := Tryd.prog) (v := .bool false) (fun _ => rfl) (hK _ ?_)
    clear hK K
    try simp only [Act.put, List.setIfInBounds_toArray, List.set_cons_zero, List.set_cons_succ]
    refine wpQuiet_step (fun K hK => ?_)
    rw [if_pos (by rfl)]
    refine quiet_load (P := Tryd.prog) rfl (x := .tmp 7) rfl c7.out (hK _ ?_)
    clear hK K
    try simp only [Act.put, List.setIfInBounds_toArray, List.set_cons_zero, List.set_cons_succ]
    refine wpQuiet_step (fun K hK => ?_)
    rw [if_pos (by rfl)]
    refine quiet_pure (P := Tryd.prog) (v := .int .i64 x) (fun _ => rfl) (hK _ ?_)
    clear hK K
    try simp only [Act.put, List.setIfInBounds_toArray, List.set_cons_zero, List.set_cons_succ]
    refine wpQuiet_step (fun K hK => ?_)
    rw [if_pos (by rfl)]
    refine quiet_call (args := #[.agg (cs a), .int .i64 x]) Tryd.call16 rfl (by simp only [List.map_toArray, List.map_cons, List.map_nil]; rfl) d3.out (hK _ ?_)
    clear hK K
    try simp only [Act.put, List.setIfInBounds_toArray, List.set_cons_zero, List.set_cons_succ]
    refine wpQuiet_step (fun K hK => ?_)
    rw [if_pos (by rfl)]
    refine quiet_load (P := Tryd.prog) rfl (x := .tmp 7) rfl c7.out (hK _ ?_)
    clear hK K
    try simp only [Act.put, List.setIfInBounds_toArray, List.set_cons_zero, List.set_cons_succ]
    refine wpQuiet_step (fun K hK => ?_)
    rw [if_pos (by rfl)]
    refine quiet_pure (P := Tryd.prog) (v := .bool false) (fun w => exec_neq24 rfl rfl rfl w) (hK _ ?_)
    clear hK K
    try simp only [Act.put, List.setIfInBounds_toArray, List.set_cons_zero, List.set_cons_succ]
    refine wpQuiet_step (fun K hK => ?_)
    rw [if_pos (by rfl)]
    refine quiet_pure (P := Tryd.prog) (v := .bool false) (fun _ => rfl) (hK _ ?_)
    clear hK K
    try simp only [Act.put, List.setIfInBounds_toArray, List.set_cons_zero, List.set_cons_succ]
    refine wpQuiet_step (fun K hK => ?_)
    rw [if_pos (by rfl)]
    refine quiet_pure (P := Tryd.prog) (v := .bool false) (fun _ => rfl) (hK _ ?_)
    clear hK K
    try simp only [Act.put, List.setIfInBounds_toArray, List.set_cons_zero, List.set_cons_succ]
    refine wpQuiet_step (fun K hK => ?_)
    rw [if_pos (by rfl)]
    refine quiet_load (P := Tryd.prog) rfl (x := .tmp 8) rfl c8.out (hK _ ?_)
    clear hK K
    try simp only [Act.put, List.setIfInBounds_toArray, List.set_cons_zero, List.set_cons_succ]
    refine wpQuiet_step (fun K hK => ?_)
    rw [if_pos (by rfl)]
    refine quiet_pure (P := Tryd.prog) (v := .int .i64 x) (fun _ => rfl) (hK _ ?_)
    clear hK K
    try simp only [Act.put, List.setIfInBounds_toArray, List.set_cons_zero, List.set_cons_succ]
    refine wpQuiet_step (fun K hK => ?_)
    rw [if_pos (by rfl)]
    refine quiet_call (args := #[.agg (cs b), .int .i64 x]) Tryd.call18 rfl (by simp only [List.map_toArray, List.map_cons, List.map_nil]; rfl) d4.out (hK _ ?_)
    clear hK K
    try simp only [Act.put, List.setIfInBounds_toArray, List.set_cons_zero, List.set_cons_succ]
    refine wpQuiet_step (fun K hK => ?_)
    rw [if_pos (by rfl)]
    refine quiet_load (P := Tryd.prog) rfl (x := .tmp 8) rfl c8.out (hK _ ?_)
    clear hK K
    try simp only [Act.put, List.setIfInBounds_toArray, List.set_cons_zero, List.set_cons_succ]
    refine wpQuiet_step (fun K hK => ?_)
    rw [if_pos (by rfl)]
    refine quiet_pure (P := Tryd.prog) (v := .bool false) (fun w => exec_neq24 rfl rfl rfl w) (hK _ ?_)
    clear hK K
    try simp only [Act.put, List.setIfInBounds_toArray, List.set_cons_zero, List.set_cons_succ]
    refine wpQuiet_step (fun K hK => ?_)
    rw [if_pos (by rfl)]
    refine quiet_pure (P := Tryd.prog) (v := .bool false) (fun _ => rfl) (hK _ ?_)
    clear hK K
    try simp only [Act.put, List.setIfInBounds_toArray, List.set_cons_zero, List.set_cons_succ]
    refine wpQuiet_nil ?_
    intro W2 D
    clear D0 d1 d2 d3 d4
    have u7 := Kp.mk (c7.out _ D); have u8 := Kp.mk (c8.out _ D)
    by_cases hin : 0 ≤ x ∧ x < 200
    · have i1 := hin.1
      have i2 := hin.2
      have p5' : isI a x = true := by rw [p5.out]; exact decide_eq_true hin
      replace p5' := Kp.mk p5'
      clear hin p7
      go_wp2_with ((with_reducible refine wpl_id ?_); (refine wpList_load_g (by rfl) (t := 24) (x := .tmp 7) rfl rfl u7.out ?_))
      have vv := p5'.out
      refine (Is_tabs a x _ oa _ vv).mono ?_
      clear vv
      rintro _ W3 ⟨rfl, k3⟩
      have D3 := D.keep k3
      have u9 := Kp.mk (c8.out _ D3)
      clear D k3 u7 u8
      go_wp2_with ((with_reducible refine wpl_id ?_); (refine wpList_load_g (by rfl) (t := 24) (x := .tmp 8) rfl rfl u9.out ?_))
      have vv := p6.out
      refine (Is_tabs b x _ ob _ vv).mono ?_
      clear vv
      rintro _ W4 ⟨rfl, k4⟩
      have D4 := D3.keep k4
      clear D3 k4 u9
      go_wp2_with fail
      have DD := D4.drew
      have dk : Kp (∀ W, Tw2 w t a b g7 g8 W → Calls Tryd.prog 12 #[] W fun e w' => e = .returned (.bool true) ∧ Tw2 w t a b g7 g8 w') := ⟨fun W D => (known_any W D.m.tab).mono fun _ _ ⟨he, k⟩ => ⟨he, D.keep k⟩⟩
      by_cases hox : o = x
      · have hoo : (o == x) = true := by simpa using hox
        refine wp_region_quiet (C := Tw2 w t a b g7 g8) (by kernel_rfl) (by kernel_rfl) DD ?_
        show wpQuiet _ _ _ _ [_, _, _, _, _, _, _, _, _, _, _, _, _, _, _, _, _, _, _, _, _, _, _, _, _] _
        refine wpQuiet_step (fun K hK => ?_)
        rw [if_pos (by rfl)]
        refine quiet_pure (P := Tryd.prog) (v := .int .i64 o) (fun _ => rfl) (hK _ ?_)
        clear hK K
        try simp only [Act.put, List.setIfInBounds_toArray, List.set_cons_zero, List.set_cons_succ]
        refine wpQuiet_step (fun K hK => ?_)
        rw [if_pos (by rfl)]
        refine quiet_pure (P := Tryd.prog) (v := .int .i64 x) (fun _ => rfl) (hK _ ?_)
        clear hK K
        try simp only [Act.put, List.setIfInBounds_toArray, List.set_cons_zero, List.set_cons_succ]
        refine wpQuiet_step (fun K hK => ?_)
        rw [if_pos (by rfl)]
        refine quiet_pure (P := Tryd.prog) (v := .bool true) (fun w => exec_eql3 rfl rfl rfl hoo w) (hK _ ?_)
        clear hK K
        try simp only [Act.put, List.setIfInBounds_toArray, List.set_cons_zero, List.set_cons_succ]
        refine wpQuiet_step (fun K hK => ?_)
        rw [if_pos (by rfl)]
        refine quiet_pure (P := Tryd.prog) (v := .bool true) (fun _ => rfl) (hK _ ?_)
        clear hK K
        try simp only [Act.put, List.setIfInBounds_toArray, List.set_cons_zero, List.set_cons_succ]
        (with_reducible refine quiet_skip ?_ ?_)
        · rfl
        try simp only [Act.put, List.setIfInBounds_toArray, List.set_cons_zero, List.set_cons_succ]
        (with_reducible refine quiet_skip ?_ ?_)
        · rfl
        try simp only [Act.put, List.setIfInBounds_toArray, List.set_cons_zero, List.set_cons_succ]
        (with_reducible refine quiet_skip ?_ ?_)
        · rfl
        try simp only [Act.put, List.setIfInBounds_toArray, List.set_cons_zero, List.set_cons_succ]
        (with_reducible refine quiet_skip ?_ ?_)
        · rfl
        try simp only [Act.put, List.setIfInBounds_toArray, List.set_cons_zero, List.set_cons_succ]
        (with_reducible refine quiet_skip ?_ ?_)
        · rfl
        try simp only [Act.put, List.setIfInBounds_toArray, List.set_cons_zero, List.set_cons_succ]
        (with_reducible refine quiet_skip ?_ ?_)
        · rfl
        try simp only [Act.put, List.setIfInBounds_toArray, List.set_cons_zero, List.set_cons_succ]
        (with_reducible refine quiet_skip ?_ ?_)
        · rfl
        try simp only [Act.put, List.setIfInBounds_toArray, List.set_cons_zero, List.set_cons_succ]
        (with_reducible refine quiet_skip ?_ ?_)
        · rfl
        try simp only [Act.put, List.setIfInBounds_toArray, List.set_cons_zero, List.set_cons_succ]
        (with_reducible refine quiet_skip ?_ ?_)
        · rfl
        try simp only [Act.put, List.setIfInBounds_toArray, List.set_cons_zero, List.set_cons_succ]
        (with_reducible refine quiet_skip ?_ ?_)
        · rfl
        try simp only [Act.put, List.setIfInBounds_toArray, List.set_cons_zero, List.set_cons_succ]
        (with_reducible refine quiet_skip ?_ ?_)
        · rfl
        try simp only [Act.put, List.setIfInBounds_toArray, List.set_cons_zero, List.set_cons_succ]
        (with_reducible refine quiet_skip ?_ ?_)
        · rfl
        try simp only [Act.put, List.setIfInBounds_toArray, List.set_cons_zero, List.set_cons_succ]
        (with_reducible refine quiet_skip ?_ ?_)
        · rfl
        try simp only [Act.put, List.setIfInBounds_toArray, List.set_cons_zero, List.set_cons_succ]
        (with_reducible refine quiet_skip ?_ ?_)
        · rfl
        try simp only [Act.put, List.setIfInBounds_toArray, List.set_cons_zero, List.set_cons_succ]
        (with_reducible refine quiet_skip ?_ ?_)
        · rfl
        try simp only [Act.put, List.setIfInBounds_toArray, List.set_cons_zero, List.set_cons_succ]
        (with_reducible refine quiet_skip ?_ ?_)
        · rfl
        try simp only [Act.put, List.setIfInBounds_toArray, List.set_cons_zero, List.set_cons_succ]
        refine wpQuiet_step (fun K hK => ?_)
        rw [if_pos (by rfl)]
        refine quiet_pure (P := Tryd.prog) (v := .bool true) (fun _ => rfl) (hK _ ?_)
        clear hK K
        try simp only [Act.put, List.setIfInBounds_toArray, List.set_cons_zero, List.set_cons_succ]
        refine wpQuiet_step (fun K hK => ?_)
        rw [if_pos (by rfl)]
        refine quiet_pure (P := Tryd.prog) (v := .bool true) (fun _ => rfl) (hK _ ?_)
        clear hK K
        try simp only [Act.put, List.setIfInBounds_toArray, List.set_cons_zero, List.set_cons_succ]
        refine wpQuiet_step (fun K hK => ?_)
        rw [if_pos (by rfl)]
        refine quiet_call (args := #[]) Tryd.call12 rfl (by simp only [List.map_toArray, List.map_nil]) dk.out (hK _ ?_)
        clear hK K
        try simp only [Act.put, List.setIfInBounds_toArray, List.set_cons_zero, List.set_cons_succ]
        refine wpQuiet_step (fun K hK => ?_)
        rw [if_pos (by rfl)]
        refine quiet_pure (P := Tryd.prog) (v := .bool true) (fun _ => rfl) (hK _ ?_)
        clear hK K
        try simp only [Act.put, List.setIfInBounds_toArray, List.set_cons_zero, List.set_cons_succ]
        refine wpQuiet_step (fun K hK => ?_)
        rw [if_pos (by rfl)]
        refine quiet_pure (P := Tryd.prog) (v := .bool true) (fun _ => rfl) (hK _ ?_)
        clear hK K
        try simp only [Act.put, List.setIfInBounds_toArray, List.set_cons_zero, List.set_cons_succ]
        refine wpQuiet_nil ?_
        intro W5 D5
        have bel := D5.m.bel
        clear D5 DD dk c3 c7 c8
        go_wp2_with fail
        go_ret
        exact ⟨rfl, bel⟩
      · have hoo : (o == x) = false := by simpa using hox
        obtain ⟨v, hv⟩ : ∃ v, isI t o = v := ⟨_, rfl⟩
        obtain ⟨q1, q2⟩ := p8.out hox
        replace q1 := q1.trans hv
        replace q2 := q2.trans hv
        have e1 : Kp (∀ W, Tw2 w t a b g7 g8 W → Calls Tryd.prog 15 #[.agg (cs a), .int .i64 o] W fun e w' => e = .returned (.bool v) ∧ Tw2 w t a b g7 g8 w') := ⟨fun W D => (Is_tabs a o W oa v q1).mono fun _ _ ⟨he, k⟩ => ⟨he, D.keep k⟩⟩
        have e2 : Kp (∀ W, Tw2 w t a b g7 g8 W → Calls Tryd.prog 15 #[.agg (cs t), .int .i64 o] W fun e w' => e = .returned (.bool v) ∧ Tw2 w t a b g7 g8 w') := ⟨fun W D => (Is_tabs t o W ht v hv).mono fun _ _ ⟨he, k⟩ => ⟨he, D.keep k⟩⟩
        have e3 : Kp (∀ W, Tw2 w t a b g7 g8 W → Calls Tryd.prog 15 #[.agg (cs b), .int .i64 o] W fun e w' => e = .returned (.bool v) ∧ Tw2 w t a b g7 g8 w') := ⟨fun W D => (Is_tabs b o W ob v q2).mono fun _ _ ⟨he, k⟩ => ⟨he, D.keep k⟩⟩
        clear q1 q2 hv
        refine wp_region_quiet (C := Tw2 w t a b g7 g8) (by kernel_rfl) (by kernel_rfl) DD ?_
        show wpQuiet _ _ _ _ [_, _, _, _, _, _, _, _, _, _, _, _, _, _, _, _, _, _, _, _, _, _, _, _, _] _
        refine wpQuiet_step (fun K hK => ?_)
        rw [if_pos (by rfl)]
        refine quiet_pure (P := Tryd.prog) (v := .int .i64 o) (fun _ => rfl) (hK _ ?_)
        clear hK K
        try simp only [Act.put, List.setIfInBounds_toArray, List.set_cons_zero, List.set_cons_succ]
        refine wpQuiet_step (fun K hK => ?_)
        rw [if_pos (by rfl)]
        refine quiet_pure (P := Tryd.prog) (v := .int .i64 x) (fun _ => rfl) (hK _ ?_)
        clear hK K
        try simp only [Act.put, List.setIfInBounds_toArray, List.set_cons_zero, List.set_cons_succ]
        refine wpQuiet_step (fun K hK => ?_)
        rw [if_pos (by rfl)]
        refine quiet_pure (P := Tryd.prog) (v := .bool false) (fun w => exec_eql3 rfl rfl rfl hoo w) (hK _ ?_)
        clear hK K
        try simp only [Act.put, List.setIfInBounds_toArray, List.set_cons_zero, List.set_cons_succ]
        refine wpQuiet_step (fun K hK => ?_)
        rw [if_pos (by rfl)]
        refine quiet_pure (P := Tryd.prog) (v := .bool false) (fun _ => rfl) (hK _ ?_)
        clear hK K
        try simp only [Act.put, List.setIfInBounds_toArray, List.set_cons_zero, List.set_cons_succ]
        refine wpQuiet_step (fun K hK => ?_)
        rw [if_pos (by rfl)]
        refine quiet_load (P := Tryd.prog) rfl (x := .tmp 7) rfl c7.out (hK _ ?_)
        clear hK K
        try simp only [Act.put, List.setIfInBounds_toArray, List.set_cons_zero, List.set_cons_succ]
        refine wpQuiet_step (fun K hK => ?_)
        rw [if_pos (by rfl)]
        refine quiet_pure (P := Tryd.prog) (v := .int .i64 o) (fun _ => rfl) (hK _ ?_)
        clear hK K
        try simp only [Act.put, List.setIfInBounds_toArray, List.set_cons_zero, List.set_cons_succ]
        refine wpQuiet_step (fun K hK => ?_)
        rw [if_pos (by rfl)]
        refine quiet_call (args := #[.agg (cs a), .int .i64 o]) Tryd.call15 rfl (by simp only [List.map_toArray, List.map_cons, List.map_nil]; rfl) e1.out (hK _ ?_)
        clear hK K
        try simp only [Act.put, List.setIfInBounds_toArray, List.set_cons_zero, List.set_cons_succ]
        refine wpQuiet_step (fun K hK => ?_)
        rw [if_pos (by rfl)]
        refine quiet_load (P := Tryd.prog) rfl (x := .tmp 3) rfl c3.out (hK _ ?_)
        clear hK K
        try simp only [Act.put, List.setIfInBounds_toArray, List.set_cons_zero, List.set_cons_succ]
        refine wpQuiet_step (fun K hK => ?_)
        rw [if_pos (by rfl)]
        refine quiet_pure (P := Tryd.prog) (v := .int .i64 o) (fun _ => rfl) (hK _ ?_)
        clear hK K
        try simp only [Act.put, List.setIfInBounds_toArray, List.set_cons_zero, List.set_cons_succ]
        refine wpQuiet_step (fun K hK => ?_)
        rw [if_pos (by rfl)]
        refine quiet_call (args := #[.agg (cs t), .int .i64 o]) Tryd.call15 rfl (by simp only [List.map_toArray, List.map_cons, List.map_nil]; rfl) e2.out (hK _ ?_)
        clear hK K
        try simp only [Act.put, List.setIfInBounds_toArray, List.set_cons_zero, List.set_cons_succ]
        refine wpQuiet_step (fun K hK => ?_)
        rw [if_pos (by rfl)]
        refine quiet_pure (P := Tryd.prog) (v := .bool true) (fun w => exec_eql4 (t := v) rfl rfl rfl w) (hK _ ?_)
        clear hK K
        try simp only [Act.put, List.setIfInBounds_toArray, List.set_cons_zero, List.set_cons_succ]
        refine wpQuiet_step (fun K hK => ?_)
        rw [if_pos (by rfl)]
        refine quiet_pure (P := Tryd.prog) (v := .bool true) (fun _ => rfl) (hK _ ?_)
        clear hK K
        try simp only [Act.put, List.setIfInBounds_toArray, List.set_cons_zero, List.set_cons_succ]
        refine wpQuiet_step (fun K hK => ?_)
        rw [if_pos (by rfl)]
        refine quiet_load (P := Tryd.prog) rfl (x := .tmp 8) rfl c8.out (hK _ ?_)
        clear hK K
        try simp only [Act.put, List.setIfInBounds_toArray, List.set_cons_zero, List.set_cons_succ]
        refine wpQuiet_step (fun K hK => ?_)
        rw [if_pos (by rfl)]
        refine quiet_pure (P := Tryd.prog) (v := .int .i64 o) (fun _ => rfl) (hK _ ?_)
        clear hK K
        try simp only [Act.put, List.setIfInBounds_toArray, List.set_cons_zero, List.set_cons_succ]
        refine wpQuiet_step (fun K hK => ?_)
        rw [if_pos (by rfl)]
        refine quiet_call (args := #[.agg (cs b), .int .i64 o]) Tryd.call15 rfl (by simp only [List.map_toArray, List.map_cons, List.map_nil]; rfl) e3.out (hK _ ?_)
        clear hK K
        try simp only [Act.put, List.setIfInBounds_toArray, List.set_cons_zero, List.set_cons_succ]
        refine wpQuiet_step (fun K hK => ?_)
        rw [if_pos (by rfl)]
        refine quiet_load (P := Tryd.prog) rfl (x := .tmp 3) rfl c3.out (hK _ ?_)
        clear hK K
        try simp only [Act.put, List.setIfInBounds_toArray, List.set_cons_zero, List.set_cons_succ]
        refine wpQuiet_step (fun K hK => ?_)
        rw [if_pos (by rfl)]
        refine quiet_pure (P := Tryd.prog) (v := .int .i64 o) (fun _ => rfl) (hK _ ?_)
        clear hK K
        try simp only [Act.put, List.setIfInBounds_toArray, List.set_cons_zero, List.set_cons_succ]
        refine wpQuiet_step (fun K hK => ?_)
        rw [if_pos (by rfl)]
        refine quiet_call (args := #[.agg (cs t), .int .i64 o]) Tryd.call15 rfl (by simp only [List.map_toArray, List.map_cons, List.map_nil]; rfl) e2.out (hK _ ?_)
        clear hK K
        try simp only [Act.put, List.setIfInBounds_toArray, List.set_cons_zero, List.set_cons_succ]
        refine wpQuiet_step (fun K hK => ?_)
        rw [if_pos (by rfl)]
        refine quiet_pure (P := Tryd.prog) (v := .bool true) (fun w => exec_eql4 (t := v) rfl rfl rfl w) (hK _ ?_)
        clear hK K
        try simp only [Act.put, List.setIfInBounds_toArray, List.set_cons_zero, List.set_cons_succ]
        refine wpQuiet_step (fun K hK => ?_)
        rw [if_pos (by rfl)]
        refine quiet_pure (P := Tryd.prog) (v := .bool true) (fun _ => rfl) (hK _ ?_)
        clear hK K
        try simp only [Act.put, List.setIfInBounds_toArray, List.set_cons_zero, List.set_cons_succ]
        refine wpQuiet_step (fun K hK => ?_)
        rw [if_pos (by rfl)]
        refine quiet_pure (P := Tryd.prog) (v := .bool true) (fun _ => rfl) (hK _ ?_)
        clear hK K
        try simp only [Act.put, List.setIfInBounds_toArray, List.set_cons_zero, List.set_cons_succ]
        refine wpQuiet_step (fun K hK => ?_)
        rw [if_pos (by rfl)]
        refine quiet_pure (P := Tryd.prog) (v := .bool true) (fun _ => rfl) (hK _ ?_)
        clear hK K
        try simp only [Act.put, List.setIfInBounds_toArray, List.set_cons_zero, List.set_cons_succ]
        refine wpQuiet_step (fun K hK => ?_)
        rw [if_pos (by rfl)]
        refine quiet_call (args := #[]) Tryd.call12 rfl (by simp only [List.map_toArray, List.map_nil]) dk.out (hK _ ?_)
        clear hK K
        try simp only [Act.put, List.setIfInBounds_toArray, List.set_cons_zero, List.set_cons_succ]
        refine wpQuiet_step (fun K hK => ?_)
        rw [if_pos (by rfl)]
        refine quiet_pure (P := Tryd.prog) (v := .bool true) (fun _ => rfl) (hK _ ?_)
        clear hK K
        try simp only [Act.put, List.setIfInBounds_toArray, List.set_cons_zero, List.set_cons_succ]
        refine wpQuiet_step (fun K hK => ?_)
        rw [if_pos (by rfl)]
        refine quiet_pure (P := Tryd.prog) (v := .bool true) (fun _ => rfl) (hK _ ?_)
        clear hK K
        try simp only [Act.put, List.setIfInBounds_toArray, List.set_cons_zero, List.set_cons_succ]
        refine wpQuiet_nil ?_
        intro W5 D5
        have bel := D5.m.bel
        clear D5 DD dk c3 c7 c8 e1 e2 e3
        go_wp2_with fail
        go_ret
        exact ⟨rfl, bel⟩
    · obtain ⟨e1, e2⟩ := p7.out hin
      have p5' : isI a x = false := by rw [p5.out]; exact decide_eq_false hin
      replace p5' := Kp.mk p5'
      have eqt := equal24 t
      replace e1 := e1.symm
      replace e2 := e2.symm
      subst e1 e2
      replace eqt := Kp.mk eqt
      rcases (show x < 0 ∨ (0 ≤ x ∧ ¬ x < 200) by omega) with h | ⟨h0, h⟩
      all_goals
        clear hin
        go_wp2_with ((with_reducible refine wpl_id ?_); (refine wpList_load_g (by rfl) (t := 24) (x := .tmp 7) rfl rfl u7.out ?_))
        have vv := p5'.out
        refine (Is_tabs t x _ ht _ vv).mono ?_
        clear vv
        rintro _ W3 ⟨rfl, k3⟩
        have D3 := D.keep k3
        have u9 := Kp.mk (c8.out _ D3)
        clear D k3 u7 u8
        go_wp2_with ((with_reducible refine wpl_id ?_); (refine wpList_load_g (by rfl) (t := 24) (x := .tmp 8) rfl rfl u9.out ?_))
        have vv := p5'.out
        refine (Is_tabs t x _ ht _ vv).mono ?_
        clear vv
        rintro _ W4 ⟨rfl, k4⟩
        have D4 := D3.keep k4
        have y7 := Kp.mk (c7.out _ D4); have y8 := Kp.mk (c8.out _ D4); have y3 := Kp.mk (c3.out _ D4)
        clear D3 k4 u9
        have eqt2 := eqt.out
        go_wp2_with ((with_reducible refine wpl_id ?_); first | (refine wpList_load_g (by rfl) (t := 24) (x := .tmp 7) rfl rfl y7.out ?_) | (refine wpList_load_g (by rfl) (t := 24) (x := .tmp 8) rfl rfl y8.out ?_) | (refine wpList_load_g (by rfl) (t := 24) (x := .tmp 3) rfl rfl y3.out ?_))
        clear eqt2 y7 y8 y3
        have DD := D4.drew
        have dk : Kp (∀ W, Tw2 w t t t g7 g8 W → Calls Tryd.prog 12 #[] W fun e w' => e = .returned (.bool true) ∧ Tw2 w t t t g7 g8 w') := ⟨fun W D => (known_any W D.m.tab).mono fun _ _ ⟨he, k⟩ => ⟨he, D.keep k⟩⟩
        by_cases hox : o = x
        · have hoo : (o == x) = true := by simpa using hox
          refine wp_region_quiet (C := Tw2 w t t t g7 g8) (by kernel_rfl) (by kernel_rfl) DD ?_
          show wpQuiet _ _ _ _ [_, _, _, _, _, _, _, _, _, _, _, _, _, _, _, _, _, _, _, _, _, _, _, _, _] _
          refine wpQuiet_step (fun K hK => ?_)
          rw [if_pos (by rfl)]
          refine quiet_pure (P := Tryd.prog) (v := .int .i64 o) (fun _ => rfl) (hK _ ?_)
          clear hK K
          try simp only [Act.put, List.setIfInBounds_toArray, List.set_cons_zero, List.set_cons_succ]
          refine wpQuiet_step (fun K hK => ?_)
          rw [if_pos (by rfl)]
          refine quiet_pure (P := Tryd.prog) (v := .int .i64 x) (fun _ => rfl) (hK _ ?_)
          clear hK K
          try simp only [Act.put, List.setIfInBounds_toArray, List.set_cons_zero, List.set_cons_succ]
          refine wpQuiet_step (fun K hK => ?_)
          rw [if_pos (by rfl)]
          refine quiet_pure (P := Tryd.prog) (v := .bool true) (fun w => exec_eql3 rfl rfl rfl hoo w) (hK _ ?_)
          clear hK K
          try simp only [Act.put, List.setIfInBounds_toArray, List.set_cons_zero, List.set_cons_succ]
          refine wpQuiet_step (fun K hK => ?_)
          rw [if_pos (by rfl)]
          refine quiet_pure (P := Tryd.prog) (v := .bool true) (fun _ => rfl) (hK _ ?_)
          clear hK K
          try simp only [Act.put, List.setIfInBounds_toArray, List.set_cons_zero, List.set_cons_succ]
          (with_reducible refine quiet_skip ?_ ?_)
          · rfl
          try simp only [Act.put, List.setIfInBounds_toArray, List.set_cons_zero, List.set_cons_succ]
          (with_reducible refine quiet_skip ?_ ?_)
          · rfl
          try simp only [Act.put, List.setIfInBounds_toArray, List.set_cons_zero, List.set_cons_succ]
          (with_reducible refine quiet_skip ?_ ?_)
          · rfl
          try simp only [Act.put, List.setIfInBounds_toArray, List.set_cons_zero, List.set_cons_succ]
          (with_reducible refine quiet_skip ?_ ?_)
          · rfl
          try simp only [Act.put, List.setIfInBounds_toArray, List.set_cons_zero, List.set_cons_succ]
          (with_reducible refine quiet_skip ?_ ?_)
          · rfl
          try simp only [Act.put, List.setIfInBounds_toArray, List.set_cons_zero, List.set_cons_succ]
          (with_reducible refine quiet_skip ?_ ?_)
          · rfl
          try simp only [Act.put, List.setIfInBounds_toArray, List.set_cons_zero, List.set_cons_succ]
          (with_reducible refine quiet_skip ?_ ?_)
          · rfl
          try simp only [Act.put, List.setIfInBounds_toArray, List.set_cons_zero, List.set_cons_succ]
          (with_reducible refine quiet_skip ?_ ?_)
          · rfl
          try simp only [Act.put, List.setIfInBounds_toArray, List.set_cons_zero, List.set_cons_succ]
          (with_reducible refine quiet_skip ?_ ?_)
          · rfl
          try simp only [Act.put, List.setIfInBounds_toArray, List.set_cons_zero, List.set_cons_succ]
          (with_reducible refine quiet_skip ?_ ?_)
          · rfl
          try simp only [Act.put, List.setIfInBounds_toArray, List.set_cons_zero, List.set_cons_succ]
          (with_reducible refine quiet_skip ?_ ?_)
          · rfl
          try simp only [Act.put, List.setIfInBounds_toArray, List.set_cons_zero, List.set_cons_succ]
          (with_reducible refine quiet_skip ?_ ?_)
          · rfl
          try simp only [Act.put, List.setIfInBounds_toArray, List.set_cons_zero, List.set_cons_succ]
          (with_reducible refine quiet_skip ?_ ?_)
          · rfl
          try simp only [Act.put, List.setIfInBounds_toArray, List.set_cons_zero, List.set_cons_succ]
          (with_reducible refine quiet_skip ?_ ?_)
          · rfl
          try simp only [Act.put, List.setIfInBounds_toArray, List.set_cons_zero, List.set_cons_succ]
          (with_reducible refine quiet_skip ?_ ?_)
          · rfl
          try simp only [Act.put, List.setIfInBounds_toArray, List.set_cons_zero, List.set_cons_succ]
          (with_reducible refine quiet_skip ?_ ?_)
          · rfl
          try simp only [Act.put, List.setIfInBounds_toArray, List.set_cons_zero, List.set_cons_succ]
          refine wpQuiet_step (fun K hK => ?_)
          rw [if_pos (by rfl)]
          refine quiet_pure (P := Tryd.prog) (v := .bool true) (fun _ => rfl) (hK _ ?_)
          clear hK K
          try simp only [Act.put, List.setIfInBounds_toArray, List.set_cons_zero, List.set_cons_succ]
          refine wpQuiet_step (fun K hK => ?_)
          rw [if_pos (by rfl)]
          refine quiet_pure (P := Tryd.prog) (v := .bool true) (fun _ => rfl) (hK _ ?_)
          clear hK K
          try simp only [Act.put, List.setIfInBounds_toArray, List.set_cons_zero, List.set_cons_succ]
          refine wpQuiet_step (fun K hK => ?_)
          rw [if_pos (by rfl)]
          refine quiet_call (args := #[]) Tryd.call12 rfl (by simp only [List.map_toArray, List.map_nil]) dk.out (hK _ ?_)
          clear hK K
          try simp only [Act.put, List.setIfInBounds_toArray, List.set_cons_zero, List.set_cons_succ]
          refine wpQuiet_step (fun K hK => ?_)
          rw [if_pos (by rfl)]
          refine quiet_pure (P := Tryd.prog) (v := .bool true) (fun _ => rfl) (hK _ ?_)
          clear hK K
          try simp only [Act.put, List.setIfInBounds_toArray, List.set_cons_zero, List.set_cons_succ]
          refine wpQuiet_step (fun K hK => ?_)
          rw [if_pos (by rfl)]
          refine quiet_pure (P := Tryd.prog) (v := .bool true) (fun _ => rfl) (hK _ ?_)
          clear hK K
          try simp only [Act.put, List.setIfInBounds_toArray, List.set_cons_zero, List.set_cons_succ]
          refine wpQuiet_nil ?_
          intro W5 D5
          have bel := D5.m.bel
          clear D5 DD dk c3 c7 c8
          go_wp2_with fail
          go_ret
          exact ⟨rfl, bel⟩
        · have hoo : (o == x) = false := by simpa using hox
          obtain ⟨v, hv⟩ : ∃ v, isI t o = v := ⟨_, rfl⟩
          have e1 : Kp (∀ W, Tw2 w t t t g7 g8 W → Calls Tryd.prog 15 #[.agg (cs t), .int .i64 o] W fun e w' => e = .returned (.bool v) ∧ Tw2 w t t t g7 g8 w') := ⟨fun W D => (Is_tabs t o W ht v hv).mono fun _ _ ⟨he, k⟩ => ⟨he, D.keep k⟩⟩
          have e2 : Kp (∀ W, Tw2 w t t t g7 g8 W → Calls Tryd.prog 15 #[.agg (cs t), .int .i64 o] W fun e w' => e = .returned (.bool v) ∧ Tw2 w t t t g7 g8 w') := ⟨fun W D => (Is_tabs t o W ht v hv).mono fun _ _ ⟨he, k⟩ => ⟨he, D.keep k⟩⟩
          have e3 : Kp (∀ W, Tw2 w t t t g7 g8 W → Calls Tryd.prog 15 #[.agg (cs t), .int .i64 o] W fun e w' => e = .returned (.bool v) ∧ Tw2 w t t t g7 g8 w') := ⟨fun W D => (Is_tabs t o W ht v hv).mono fun _ _ ⟨he, k⟩ => ⟨he, D.keep k⟩⟩
          clear hv
          refine wp_region_quiet (C := Tw2 w t t t g7 g8) (by kernel_rfl) (by kernel_rfl) DD ?_
          show wpQuiet _ _ _ _ [_, _, _, _, _, _, _, _, _, _, _, _, _, _, _, _, _, _, _, _, _, _, _, _, _] _
          refine wpQuiet_step (fun K hK => ?_)
          rw [if_pos (by rfl)]
          refine quiet_pure (P := Tryd.prog) (v := .int .i64 o) (fun _ => rfl) (hK _ ?_)
          clear hK K
          try simp only [Act.put, List.setIfInBounds_toArray, List.set_cons_zero, List.set_cons_succ]
          refine wpQuiet_step (fun K hK => ?_)
          rw [if_pos (by rfl)]
          refine quiet_pure (P := Tryd.prog) (v := .int .i64 x) (fun _ => rfl) (hK _ ?_)
          clear hK K
          try simp only [Act.put, List.setIfInBounds_toArray, List.set_cons_zero, List.set_cons_succ]
          refine wpQuiet_step (fun K hK => ?_)
          rw [if_pos (by rfl)]
          refine quiet_pure (P := Tryd.prog) (v := .bool false) (fun w => exec_eql3 rfl rfl rfl hoo w) (hK _ ?_)
          clear hK K
          try simp only [Act.put, List.setIfInBounds_toArray, List.set_cons_zero, List.set_cons_succ]
          refine wpQuiet_step (fun K hK => ?_)
          rw [if_pos (by rfl)]
          refine quiet_pure (P := Tryd.prog) (v := .bool false) (fun _ => rfl) (hK _ ?_)
          clear hK K
          try simp only [Act.put, List.setIfInBounds_toArray, List.set_cons_zero, List.set_cons_succ]
          refine wpQuiet_step (fun K hK => ?_)
          rw [if_pos (by rfl)]
          refine quiet_load (P := Tryd.prog) rfl (x := .tmp 7) rfl c7.out (hK _ ?_)
          clear hK K
          try simp only [Act.put, List.setIfInBounds_toArray, List.set_cons_zero, List.set_cons_succ]
          refine wpQuiet_step (fun K hK => ?_)
          rw [if_pos (by rfl)]
          refine quiet_pure (P := Tryd.prog) (v := .int .i64 o) (fun _ => rfl) (hK _ ?_)
          clear hK K
          try simp only [Act.put, List.setIfInBounds_toArray, List.set_cons_zero, List.set_cons_succ]
          refine wpQuiet_step (fun K hK => ?_)
          rw [if_pos (by rfl)]
          refine quiet_call (args := #[.agg (cs t), .int .i64 o]) Tryd.call15 rfl (by simp only [List.map_toArray, List.map_cons, List.map_nil]; rfl) e1.out (hK _ ?_)
          clear hK K
          try simp only [Act.put, List.setIfInBounds_toArray, List.set_cons_zero, List.set_cons_succ]
          refine wpQuiet_step (fun K hK => ?_)
          rw [if_pos (by rfl)]
          refine quiet_load (P := Tryd.prog) rfl (x := .tmp 3) rfl c3.out (hK _ ?_)
          clear hK K
          try simp only [Act.put, List.setIfInBounds_toArray, List.set_cons_zero, List.set_cons_succ]
          refine wpQuiet_step (fun K hK => ?_)
          rw [if_pos (by rfl)]
          refine quiet_pure (P := Tryd.prog) (v := .int .i64 o) (fun _ => rfl) (hK _ ?_)
          clear hK K
          try simp only [Act.put, List.setIfInBounds_toArray, List.set_cons_zero, List.set_cons_succ]
          refine wpQuiet_step (fun K hK => ?_)
          rw [if_pos (by rfl)]
          refine quiet_call (args := #[.agg (cs t), .int .i64 o]) Tryd.call15 rfl (by simp only [List.map_toArray, List.map_cons, List.map_nil]; rfl) e2.out (hK _ ?_)
          clear hK K
          try simp only [Act.put, List.setIfInBounds_toArray, List.set_cons_zero, List.set_cons_succ]
          refine wpQuiet_step (fun K hK => ?_)
          rw [if_pos (by rfl)]
          refine quiet_pure (P := Tryd.prog) (v := .bool true) (fun w => exec_eql4 (t := v) rfl rfl rfl w) (hK _ ?_)
          clear hK K
          try simp only [Act.put, List.setIfInBounds_toArray, List.set_cons_zero, List.set_cons_succ]
          refine wpQuiet_step (fun K hK => ?_)
          rw [if_pos (by rfl)]
          refine quiet_pure (P := Tryd.prog) (v := .bool true) (fun _ => rfl) (hK _ ?_)
          clear hK K
          try simp only [Act.put, List.setIfInBounds_toArray, List.set_cons_zero, List.set_cons_succ]
          refine wpQuiet_step (fun K hK => ?_)
          rw [if_pos (by rfl)]
          refine quiet_load (P := Tryd.prog) rfl (x := .tmp 8) rfl c8.out (hK _ ?_)
          clear hK K
          try simp only [Act.put, List.setIfInBounds_toArray, List.set_cons_zero, List.set_cons_succ]
          refine wpQuiet_step (fun K hK => ?_)
          rw [if_pos (by rfl)]
          refine quiet_pure (P := Tryd.prog) (v := .int .i64 o) (fun _ => rfl) (hK _ ?_)
          clear hK K
          try simp only [Act.put, List.setIfInBounds_toArray, List.set_cons_zero, List.set_cons_succ]
          refine wpQuiet_step (fun K hK => ?_)
          rw [if_pos (by rfl)]
          refine quiet_call (args := #[.agg (cs t), .int .i64 o]) Tryd.call15 rfl (by simp only [List.map_toArray, List.map_cons, List.map_nil]; rfl) e3.out (hK _ ?_)
          clear hK K
          try simp only [Act.put, List.setIfInBounds_toArray, List.set_cons_zero, List.set_cons_succ]
          refine wpQuiet_step (fun K hK => ?_)
          rw [if_pos (by rfl)]
          refine quiet_load (P := Tryd.prog) rfl (x := .tmp 3) rfl c3.out (hK _ ?_)
          clear hK K
          try simp only [Act.put, List.setIfInBounds_toArray, List.set_cons_zero, List.set_cons_succ]
          refine wpQuiet_step (fun K hK => ?_)
          rw [if_pos (by rfl)]
          refine quiet_pure (P := Tryd.prog) (v := .int .i64 o) (fun _ => rfl) (hK _ ?_)
          clear hK K
          try simp only [Act.put, List.setIfInBounds_toArray, List.set_cons_zero, List.set_cons_succ]
          refine wpQuiet_step (fun K hK => ?_)
          rw [if_pos (by rfl)]
          refine quiet_call (args := #[.agg (cs t), .int .i64 o]) Tryd.call15 rfl (by simp only [List.map_toArray, List.map_cons, List.map_nil]; rfl) e2.out (hK _ ?_)
          clear hK K
          try simp only [Act.put, List.setIfInBounds_toArray, List.set_cons_zero, List.set_cons_succ]
          refine wpQuiet_step (fun K hK => ?_)
          rw [if_pos (by rfl)]
          refine quiet_pure (P := Tryd.prog) (v := .bool true) (fun w => exec_eql4 (t := v) rfl rfl rfl w) (hK _ ?_)
          clear hK K
          try simp only [Act.put, List.setIfInBounds_toArray, List.set_cons_zero, List.set_cons_succ]
          refine wpQuiet_step (fun K hK => ?_)
          rw [if_pos (by rfl)]
          refine quiet_pure (P := Tryd.prog) (v := .bool true) (fun _ => rfl) (hK _ ?_)
          clear hK K
          try simp only [Act.put, List.setIfInBounds_toArray, List.set_cons_zero, List.set_cons_succ]
          refine wpQuiet_step (fun K hK => ?_)
          rw [if_pos (by rfl)]
          refine quiet_pure (P := Tryd.prog) (v := .bool true) (fun _ => rfl) (hK _ ?_)
          clear hK K
          try simp only [Act.put, List.setIfInBounds_toArray, List.set_cons_zero, List.set_cons_succ]
          refine wpQuiet_step (fun K hK => ?_)
          rw [if_pos (by rfl)]
          refine quiet_pure (P := Tryd.prog) (v := .bool true) (fun _ => rfl) (hK _ ?_)
          clear hK K
          try simp only [Act.put, List.setIfInBounds_toArray, List.set_cons_zero, List.set_cons_succ]
          refine wpQuiet_step (fun K hK => ?_)
          rw [if_pos (by rfl)]
          refine quiet_call (args := #[]) Tryd.call12 rfl (by simp only [List.map_toArray, List.map_nil]) dk.out (hK _ ?_)
          clear hK K
          try simp only [Act.put, List.setIfInBounds_toArray, List.set_cons_zero, List.set_cons_succ]
          refine wpQuiet_step (fun K hK => ?_)
          rw [if_pos (by rfl)]
          refine quiet_pure (P := Tryd.prog) (v := .bool true) (fun _ => rfl) (hK _ ?_)
          clear hK K
          try simp only [Act.put, List.setIfInBounds_toArray, List.set_cons_zero, List.set_cons_succ]
          refine wpQuiet_step (fun K hK => ?_)
          rw [if_pos (by rfl)]
          refine quiet_pure (P := Tryd.prog) (v := .bool true) (fun _ => rfl) (hK _ ?_)
          clear hK K
          try simp only [Act.put, List.setIfInBounds_toArray, List.set_cons_zero, List.set_cons_succ]
          refine wpQuiet_nil ?_
          intro W5 D5
          have bel := D5.m.bel
          clear D5 DD dk c3 c7 c8 e1 e2 e3
          go_wp2_with fail
          go_ret
          exact ⟨rfl, bel⟩
end Go.Proofs.YtnkanohjfanolaaDoor
