/- A region that draws its order, by a table of what must have come up: each operation once, from whatever state. Over any program. -/
import Derived.Test.YtgdphdnghackfaaR14
namespace Go.Proofs.Ytgdphdnghackfaa
open Go.RowKit Go.Shelf
section
variable {P : Program} {ops : Array Oper} {Q : Exit → Act → World → Prop} {id : Nat} {a : Act} {w : World} {n : Nat}
theorem wp_region_tab (hm : P.follows .mixedOrders = true) (hn : ops.size = n) (deps : List (List Nat))
    (hlow : ((List.range n).all fun i => (ops[i]?.map fun o => o.after.all fun e => !Region.binds .any e || decide (e.on < i)).getD false) = true)
    (hdep : ((List.range n).all fun i => (deps.getD i []).all fun j => (ops[i]?.map fun o => o.after.any fun e => Region.binds .any e && decide (e.on = j)) == some true) = true)
    (Inv : List Bool → Act → World → Prop) (h0 : Inv (List.replicate n false) a w.drew)
    (hstep : ∀ L a w i, L.length = n → i < n → L.getD i true = false → (∀ j ∈ deps.getD i [], L.getD j false = true) → Inv L a w → wpOp P ops Q i (Inv (L.set i true)) a w)
    (hend : ∀ L a w, L.length = n → (∀ b ∈ L, b = true) → Inv L a w → Q .normal a w) : (Code.region id ops true).wp P Q a w := by
  refine wp_region_any hm ?_
  have main : ∀ fuel (L : List Bool) a w, L.length = n → L.count false ≤ fuel → Inv L a w → wpAny P .any ops Q fuel L.toArray a w := by
    have fin : ∀ L : List Bool, L.length = n → Region.ready .any ops L.toArray = [] → ∀ b ∈ L, b = true := by
      intro L hl he b hb
      obtain ⟨i, hi, rfl⟩ := List.getElem_of_mem hb
      have := ready_low (Nat.le_refl n) L hn hl hlow he i (by omega)
      simpa [List.getD_eq_getElem?_getD, List.getElem?_eq_getElem hi] using this
    intro fuel
    induction fuel with
    | zero =>
      intro L a w hl hcount hI
      have hr : Region.ready .any ops L.toArray = [] := by
        rw [List.eq_nil_iff_forall_not_mem]
        intro i hi
        have := (ready_free hn hl hi).2
        have hmem : false ∈ L := List.mem_of_getElem? this
        have := List.count_pos_iff.2 hmem
        omega
      exact ⟨hr, hend L a w hl (fin L hl hr) hI⟩
    | succ fuel ih =>
      intro L a w hl hcount hI
      refine ⟨fun hr => hend L a w hl (fin L hl hr) hI, fun i hi => ?_⟩
      obtain ⟨hin, hfree⟩ := ready_free hn hl hi
      have hlt : i < L.length := by omega
      have hg0 : L.getD i true = false := by simp [List.getD_eq_getElem?_getD, hfree]
      refine wpOp_mono (fun a' w' h => ?_) (hstep L a w i hl hin hg0 (fun j hj => ready_deps L hi ?_) hI)
      · rw [List.setIfInBounds_toArray]
        refine ih (L.set i true) a' w' (by rw [List.length_set]; exact hl) ?_ h
        have hg : L[i] = false := by rw [List.getElem?_eq_getElem hlt] at hfree; simpa using hfree
        have := List.count_set (a := true) (b := false) hlt
        rw [hg] at this
        simp at this
        have hmem : false ∈ L := List.mem_of_getElem? hfree
        have := List.count_pos_iff.2 hmem
        omega
      · rw [List.all_eq_true] at hdep
        have h1 := hdep i (List.mem_range.2 hin)
        rw [List.all_eq_true] at h1
        simpa using h1 j hj
  have := main ops.size (List.replicate n false) a { w with drawn := w.drawn + 1 } (by simp) (by rw [hn]; exact Nat.le_trans List.count_le_length (by simp)) h0
  simpa [hn] using this
end
section
variable {P : Program} {o : Oper} {a : Act} {w w' : World} {K : Act → World → Prop} {Q : Exit → Act → World → Prop} {t : TypeId} {x y : Operand} {p : Addr} {v : Value}
theorem op_val (h : (execOp a.eval o).run P w = .ok (.value v) w') (hk : K (a.put o.dst v) w') : o.wp P a w K Q := by
  unfold Oper.wp
  rw [h]
  exact hk
theorem op_none (h : (execOp a.eval o).run P w = .ok .skip w') (hk : K (a.put o.dst undef) w') : o.wp P a w K Q := by
  unfold Oper.wp
  rw [h]
  exact hk
theorem op_calls {f : FuncId} {xs : Array Operand} {ts : Array TypeId} {args : Array Value} (hc : ∀ (args : Array Value) (w : World), (callFunc f args).run P w = .ok (.enter f args) w) (ho : o.op = .call { callee := .value (.func f), args := xs, argTypes := ts }) (hx : xs.map a.eval = args)
    (h : Calls P f args w fun e w' => ∃ v, e = .returned v ∧ K (a.put o.dst v) w') : o.wp P a w K Q := by
  unfold Oper.wp
  rw [exec_call hc ho hx w]
  exact h.mono fun e w'' ⟨v, he, hk⟩ => by subst he; exact hk
theorem wpList_load_g {ops : Array Oper} {rest : List Oper} (hw : Region.wanted o (yielded ops a.tmps) = true) (ho : o.op = .load t x) (hx : a.eval x = .pointer (some p)) (h : (Instr.loadAt t (.pointer (some p))).run P w = .ok v w) (hk : wpList P ops Q rest (a.put o.dst v) w) : wpList P ops Q (o :: rest) a w := by
  unfold wpList
  rw [if_pos hw]
  exact .inl (op_val (exec_load ho hx h) hk)
theorem wpOp_of {i : Nat} {ops : Array Oper} (hi : ops[i]? = some o) (hw : Region.wanted o (yielded ops a.tmps) = true) (h : o.wp P a w K Q) : wpOp P ops Q i K a w := by
  unfold wpOp
  simp only [hi, hw, if_true]
  exact .inl h
theorem exec_append {u vx vy : Value} (ho : o.op = .call { callee := .builtin .append, args := #[x, y], argTypes := #[t, t] }) (hx : a.eval x = vx) (hy : a.eval y = vy) (h : (Builtin.append_ #[t, t] o.type #[vx, vy]).run P w = .ok u w') : (execOp a.eval o).run P w = .ok (.value u) w' := by
  unfold execOp
  simp only [ho, resolve, invoke, builtin, Sem.run_bind, Sem.run_pure, Result.andThen_ok, List.map_toArray, List.map_cons, List.map_nil, hx, hy, h]
end
end Go.Proofs.Ytgdphdnghackfaa
