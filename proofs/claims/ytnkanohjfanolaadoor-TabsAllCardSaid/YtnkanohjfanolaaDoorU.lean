/- Regions that draw their order: one value in every world of a class; by an invariant over what has come up. Whole arrays out of memory and into it. Over any program. -/
import Derived.Test.YtnkanohjfanolaaDoorE
import Derived.Deep.WholeRow
import Derived.Deep.Quiet
import Derived.KernelRfl
namespace Go.Proofs.YtnkanohjfanolaaDoor
open Go.RowKit
theorem Box.loadAt {P : Program} {w : World} {g : Nat} {t ty : TypeId} {cs : Array Value} {n : Nat} {e : TypeId} (h : Box w g t cs) (hu : P.underlying ty = some (.array n e)) (hi : (P.info? ty).map (·.size) = some cs.size) :
    (Instr.loadAt ty (.pointer (some ⟨g, 0, none⟩))).run P w = .ok (.agg cs) w := by
  simp only [Instr.loadAt, Instr.sureAddr, Sem.run_bind, Sem.run_pure, Result.andThen]
  exact run_loadVar_row w g t ty cs (0, 0) _ h hu rfl hi
theorem Box.storeAt {P : Program} {w : World} {g : Nat} {t ty : TypeId} {cs cs' : Array Value} (h : Box w g t cs) (hi : (P.info? ty).map (·.size) = some cs'.size) (hl : cs.size = cs'.size) (h1 : cs'.all (·.oneCell') = true) :
    (Instr.storeAt ty (.pointer (some ⟨g, 0, none⟩)) (.agg cs')).run P w = .ok () (w.setRow g cs') := by
  simp only [Instr.storeAt, Instr.sureAddr, Sem.run_bind, Sem.run_pure, Result.andThen]
  exact run_storeVar_row w g t ty cs cs' h hi hl h1
theorem heap_setRow (w : World) (g : Nat) (cs : Array Value) (k : Nat) (h : g ≠ k) : (w.setRow g cs).heap[k]? = w.heap[k]? := by
  show (w.heap.modify g _)[k]? = _
  rw [Array.getElem?_modify, if_neg h]
theorem Box.setRow {w : World} {g : Nat} {t : TypeId} {cs cs' : Array Value} (h : Box w g t cs) : Box (w.setRow g cs') g t cs' := by
  have h' : w.heap[g]? = some (.cells cs t (0, 0)) := h
  show (w.heap.modify g _)[g]? = _
  rw [Array.getElem?_modify, if_pos rfl, h']; rfl
theorem Box.farRow {w : World} {g k : Nat} {t : TypeId} {cs cs' : Array Value} (h : Box w g t cs) (hk : k ≠ g) : Box (w.setRow k cs') g t cs := (heap_setRow w k cs' g hk).trans h
theorem below_setRow {B : Nat} {a w : World} (h : Below B a w) {g : Nat} (hg : B ≤ g) (cs : Array Value) : Below B a (w.setRow g cs) :=
  ⟨h.os, h.tape, h.output, by show _ ≤ (w.heap.modify g _).size; rw [Array.size_modify]; exact h.size, fun k hk => (heap_setRow w g cs k (by omega)).trans (h.block k hk)⟩
section
variable {P : Program} {C : World → Prop} {a : Act} {o : Oper} {K : Act → Prop} {t : TypeId} {x y : Operand} {p : Addr} {v : Value}
theorem quiet_load (ho : o.op = .load t x) (hx : a.eval x = .pointer (some p)) (h : ∀ w, C w → (Instr.loadAt t (.pointer (some p))).run P w = .ok v w) (hk : K (a.put o.dst v)) : o.quiet P a C K :=
  ⟨v, fun w hw => by
    unfold Oper.quietAt execOp
    rw [ho]
    simp only [hx, Sem.run_bind, h w hw, Result.andThen_ok, Sem.run_pure]
    exact ⟨rfl, rfl⟩, hk⟩
end
section
variable {P : Program} {C : World → Prop} {a : Act} {o : Oper} {K : Act → Prop} {v : Value}
theorem quiet_skip {ops : Array Oper} {rest : List Oper} {Q : Act → Prop} (hw : Region.wanted o (yielded ops a.tmps) = false) (h : wpQuiet P ops C Q rest (a.put o.dst undef)) : wpQuiet P ops C Q (o :: rest) a := by
  unfold wpQuiet
  rw [hw]
  exact h
theorem quiet_pure (h : ∀ w, (execOp a.eval o).run P w = .ok (.value v) w) (hk : K (a.put o.dst v)) : o.quiet P a C K :=
  ⟨v, fun w _ => by unfold Oper.quietAt; rw [h w]; exact ⟨rfl, rfl⟩, hk⟩
theorem exec_call {f : FuncId} {xs : Array Operand} {ts : Array TypeId} {args : Array Value} (hc : ∀ (args : Array Value) (w : World), (callFunc f args).run P w = .ok (.enter f args) w) (ho : o.op = .call { callee := .value (.func f), args := xs, argTypes := ts }) (hx : xs.map a.eval = args) (w : World) :
    (execOp a.eval o).run P w = .ok (.enter f args) w := by
  unfold execOp
  rw [ho]
  simp only [resolve, hx]
  go_simp
theorem quiet_call {f : FuncId} {xs : Array Operand} {ts : Array TypeId} {args : Array Value} (hc : ∀ (args : Array Value) (w : World), (callFunc f args).run P w = .ok (.enter f args) w) (ho : o.op = .call { callee := .value (.func f), args := xs, argTypes := ts }) (hx : xs.map a.eval = args)
    (h : ∀ w, C w → Calls P f args w fun e w' => e = .returned v ∧ C w') (hk : K (a.put o.dst v)) : o.quiet P a C K :=
  ⟨v, fun w hw => by unfold Oper.quietAt; rw [exec_call hc ho hx w]; exact ⟨rfl, h w hw⟩, hk⟩
end
def bools : Nat → List (List Bool)
  | 0 => [[]]
  | n + 1 => (bools n).map (true :: ·) ++ (bools n).map (false :: ·)
theorem mem_bools : ∀ l : List Bool, l ∈ bools l.length
  | [] => by simp [bools]
  | true :: l => by simp [bools, mem_bools l]
  | false :: l => by simp [bools, mem_bools l]
section
variable {P : Program} {ops : Array Oper} {Q : Exit → Act → World → Prop} {id : Nat} {a : Act} {w : World} {n : Nat}
theorem ready_free {L : List Bool} {i : Nat} (hn : ops.size = n) (hl : L.length = n) (hi : i ∈ Region.ready .any ops L.toArray) : i < n ∧ L[i]? = some false := by
  unfold Region.ready at hi
  rw [List.mem_filter, List.mem_range, hn] at hi
  refine ⟨hi.1, ?_⟩
  have h2 := hi.2
  rw [Bool.and_eq_true] at h2
  have h3 := h2.1
  have hlt : i < L.length := by omega
  simp [hlt] at h3 ⊢
  exact h3
theorem wp_region_inv (hm : P.follows .mixedOrders = true) (hn : ops.size = n) (allowed : List Bool → Nat → Bool)
    (hc : ((bools n).all fun L => (Region.ready .any ops L.toArray).all (allowed L) && (!(Region.ready .any ops L.toArray).isEmpty || L.all (· == true))) = true)
    (Inv : List Bool → Act → World → Prop) (h0 : Inv (List.replicate n false) a { w with drawn := w.drawn + 1 })
    (hstep : ∀ L a w i, L.length = n → i < n → allowed L i = true → Inv L a w → wpOp P ops Q i (Inv (L.set i true)) a w)
    (hend : ∀ L a w, L.length = n → (∀ b ∈ L, b = true) → Inv L a w → Q .normal a w) : (Code.region id ops true).wp P Q a w := by
  refine wp_region_any hm ?_
  have key : ∀ L : List Bool, L.length = n → (∀ i ∈ Region.ready .any ops L.toArray, allowed L i = true) ∧ (Region.ready .any ops L.toArray = [] → ∀ b ∈ L, b = true) := by
    intro L hl
    rw [List.all_eq_true] at hc
    have h := hc L (by rw [← hl]; exact mem_bools L)
    rw [Bool.and_eq_true, List.all_eq_true] at h
    refine ⟨h.1, fun he b hb => ?_⟩
    have h2 := h.2
    rw [he] at h2
    simp only [List.isEmpty_nil, Bool.not_true, Bool.false_or, List.all_eq_true] at h2
    simpa using h2 b hb
  have main : ∀ fuel (L : List Bool) a w, L.length = n → L.count false ≤ fuel → Inv L a w → wpAny P .any ops Q fuel L.toArray a w := by
    intro fuel
    induction fuel with
    | zero =>
      intro L a w hl hcount hI
      have hr : Region.ready .any ops L.toArray = [] := by
        rw [List.eq_nil_iff_forall_not_mem]
        intro i hi
        have := (ready_free hn hl hi).2
        have hmem : false ∈ L := List.mem_of_getElem? this
        have := List.count_pos_iff.2 hmem
        omega
      exact ⟨hr, hend L a w hl ((key L hl).2 hr) hI⟩
    | succ fuel ih =>
      intro L a w hl hcount hI
      refine ⟨fun hr => hend L a w hl ((key L hl).2 hr) hI, fun i hi => ?_⟩
      obtain ⟨hin, hfree⟩ := ready_free hn hl hi
      have hlt : i < L.length := by omega
      refine wpOp_mono (fun a' w' h => ?_) (hstep L a w i hl hin ((key L hl).1 i hi) hI)
      rw [List.setIfInBounds_toArray]
      refine ih (L.set i true) a' w' (by rw [List.length_set]; exact hl) ?_ h
      have hg : L[i] = false := by rw [List.getElem?_eq_getElem hlt] at hfree; simpa using hfree
      have := List.count_set (a := true) (b := false) hlt
      rw [hg] at this
      simp at this
      have hmem : false ∈ L := List.mem_of_getElem? hfree
      have := List.count_pos_iff.2 hmem
      omega
  have := main ops.size (List.replicate n false) a { w with drawn := w.drawn + 1 } (by simp) (by rw [hn]; exact Nat.le_trans List.count_le_length (by simp)) h0
  simpa [hn] using this
end
section
variable {P : Program} {o : Oper} {a : Act} {w w' : World} {K : Act → World → Prop} {Q : Exit → Act → World → Prop} {t : TypeId} {x y : Operand} {p : Addr} {v : Value}
theorem op_load (ho : o.op = .load t x) (hx : a.eval x = .pointer (some p)) (h : (Instr.loadAt t (.pointer (some p))).run P w = .ok v w) (hk : K (a.put o.dst v) w) : o.wp P a w K Q := by
  unfold Oper.wp execOp
  simp only [ho, hx, Sem.run_bind, h, Result.andThen_ok, Sem.run_pure]
  exact hk
theorem op_store (ho : o.op = .store t x y) (hx : a.eval x = .pointer (some p)) (hy : a.eval y = v) (h : (Instr.storeAt t (.pointer (some p)) v).run P w = .ok () w') (hk : K (a.put o.dst undef) w') : o.wp P a w K Q := by
  unfold Oper.wp execOp
  simp only [ho, hx, hy, Sem.run_bind, h, Result.andThen_ok, Sem.run_pure]
  exact hk
theorem op_call {f : FuncId} {xs : Array Operand} {ts : Array TypeId} {args : Array Value} (hc : ∀ (args : Array Value) (w : World), (callFunc f args).run P w = .ok (.enter f args) w) (ho : o.op = .call { callee := .value (.func f), args := xs, argTypes := ts }) (hx : xs.map a.eval = args)
    (h : Calls P f args w fun e w' => e = .returned v ∧ K (a.put o.dst v) w') : o.wp P a w K Q := by
  unfold Oper.wp
  rw [exec_call hc ho hx w]
  exact h.mono fun e w'' ⟨he, hk⟩ => by subst he; exact hk
theorem op_alloc (ho : o.op = .alloc t) (h : (Instr.alloc t true (.tuple #[])).run P w = .ok v w') (hk : K (a.put o.dst v) w') : o.wp P a w K Q := by
  unfold Oper.wp execOp
  simp only [ho, Sem.run_bind, h, Result.andThen_ok, Sem.run_pure]
  exact hk
theorem wpl_id {ops : Array Oper} {rest : List Oper} (h : wpList P ops Q (o :: rest) a w) : wpList P ops Q (o :: rest) a w := h
theorem wpList_load_g {ops : Array Oper} {rest : List Oper} (hw : Region.wanted o (yielded ops a.tmps) = true) (ho : o.op = .load t x) (hx : a.eval x = .pointer (some p)) (h : (Instr.loadAt t (.pointer (some p))).run P w = .ok v w) (hk : wpList P ops Q rest (a.put o.dst v) w) : wpList P ops Q (o :: rest) a w := by
  unfold wpList
  rw [if_pos hw]
  exact .inl (op_load ho hx h hk)
theorem wpOp_of {i : Nat} {ops : Array Oper} (hi : ops[i]? = some o) (hw : Region.wanted o (yielded ops a.tmps) = true) (h : o.wp P a w K Q) : wpOp P ops Q i K a w := by
  unfold wpOp
  simp only [hi, hw, if_true]
  exact .inl h
end
end Go.Proofs.YtnkanohjfanolaaDoor
