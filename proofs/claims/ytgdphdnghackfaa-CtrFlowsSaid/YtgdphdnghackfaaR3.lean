/- A region that draws its order, inside a fence, by what holds once some of its operations have come up. The walk of the iterator over blocks (layer 5). -/
import Derived.Test.YtgdphdnghackfaaR
import Derived.RangeFuncNested
import Derived.RangeFuncBound
import Derived.RangeFuncCalls
import Derived.RangeFuncLeaves
import Derived.Shelf.Abstract
import Derived.Shelf.RegionOpen
import Derived.OwnWalkIn
import Derived.TacticsInMore
import Derived.LoopNIn
import Derived.LoopIn
import Derived.RangeFuncFrom
import Derived.RangeFuncKeeps
import Derived.OrdersIn
namespace Go.Proofs.Ytgdphdnghackfaa
open Go.RowKit Go.Shelf
attribute [local go_sem] Oper.semAt_some
def bools : Nat → List (List Bool)
  | 0 => [[]]
  | n + 1 => (bools n).map (true :: ·) ++ (bools n).map (false :: ·)
theorem mem_bools : ∀ l : List Bool, l ∈ bools l.length
  | [] => by simp [bools]
  | true :: l => by simp [bools, mem_bools l]
  | false :: l => by simp [bools, mem_bools l]
section
variable {F : Fence} {nn : Nat} {P : Program} {ops : Array Oper} {Q : Exit → Act → World → Prop} {id : Nat} {a : Act} {w : World} {n : Nat}
theorem ready_free {L : List Bool} {i : Nat} (hn : ops.size = n) (hl : L.length = n) (hi : i ∈ Region.ready .any ops L.toArray) : i < n ∧ L[i]? = some false := by
  unfold Region.ready at hi
  rw [List.mem_filter, List.mem_range, hn] at hi
  refine ⟨hi.1, ?_⟩
  have h2 := hi.2
  rw [Bool.and_eq_true] at h2
  have h3 := h2.1
  have hlt : i < L.length := by omega
  simp [hlt] at h3 ⊢
  exact h3
theorem wpIn_region_inv (hm : P.follows .mixedOrders = true) (hn : ops.size = n) (allowed : List Bool → Nat → Bool)
    (hc : ((bools n).all fun L => (Region.ready .any ops L.toArray).all (allowed L) && (!(Region.ready .any ops L.toArray).isEmpty || L.all (· == true))) = true)
    (Inv : List Bool → Act → World → Prop) (h0 : Inv (List.replicate n false) a { w with drawn := w.drawn + 1 })
    (hstep : ∀ L a w i, L.length = n → i < n → allowed L i = true → Inv L a w → wpOpIn F nn P ops Q i (Inv (L.set i true)) a w)
    (hend : ∀ L a w, L.length = n → (∀ b ∈ L, b = true) → Inv L a w → Q .normal a w) : (Code.region id ops true).wpIn F nn P Q a w := by
  refine wpIn_region_any hm ?_
  have key : ∀ L : List Bool, L.length = n → (∀ i ∈ Region.ready .any ops L.toArray, allowed L i = true) ∧ (Region.ready .any ops L.toArray = [] → ∀ b ∈ L, b = true) := by
    intro L hl
    rw [List.all_eq_true] at hc
    have h := hc L (by rw [← hl]; exact mem_bools L)
    rw [Bool.and_eq_true, List.all_eq_true] at h
    refine ⟨h.1, fun he b hb => ?_⟩
    have h2 := h.2
    rw [he] at h2
    simp only [List.isEmpty_nil, Bool.not_true, Bool.false_or, List.all_eq_true] at h2
    simpa using h2 b hb
  have main : ∀ fuel (L : List Bool) a w, L.length = n → L.count false ≤ fuel → Inv L a w → wpAnyIn F nn P .any ops Q fuel L.toArray a w := by
    intro fuel
    induction fuel with
    | zero =>
      intro L a w hl hcount hI
      have hr : Region.ready .any ops L.toArray = [] := by
        rw [List.eq_nil_iff_forall_not_mem]
        intro i hi
        have := (ready_free hn hl hi).2
        have hmem : false ∈ L := List.mem_of_getElem? this
        have := List.count_pos_iff.2 hmem
        omega
      exact ⟨hr, hend L a w hl ((key L hl).2 hr) hI⟩
    | succ fuel ih =>
      intro L a w hl hcount hI
      refine ⟨fun hr => hend L a w hl ((key L hl).2 hr) hI, fun i hi => ?_⟩
      obtain ⟨hin, hfree⟩ := ready_free hn hl hi
      have hlt : i < L.length := by omega
      refine wpOpIn_mono (fun a' w' h => ?_) (hstep L a w i hl hin ((key L hl).1 i hi) hI)
      rw [List.setIfInBounds_toArray]
      refine ih (L.set i true) a' w' (by rw [List.length_set]; exact hl) ?_ h
      have hg : L[i] = false := by rw [List.getElem?_eq_getElem hlt] at hfree; simpa using hfree
      have := List.count_set (a := true) (b := false) hlt
      rw [hg] at this
      simp at this
      have hmem : false ∈ L := List.mem_of_getElem? hfree
      have := List.count_pos_iff.2 hmem
      omega
  have := main ops.size (List.replicate n false) a { w with drawn := w.drawn + 1 } (by simp) (by rw [hn]; exact Nat.le_trans List.count_le_length (by simp)) h0
  simpa [hn] using this
end
section
variable {P : Program} {a : Act} {o : Oper}
theorem exec_call {f : FuncId} {xs : Array Operand} {ts : Array TypeId} {args : Array Value} (hc : ∀ (args : Array Value) (w : World), (callFunc f args).run P w = .ok (.enter f args) w) (ho : o.op = .call { callee := .value (.func f), args := xs, argTypes := ts }) (hx : xs.map a.eval = args) (w : World) :
    (execOp a.eval o).run P w = .ok (.enter f args) w := by
  unfold execOp
  rw [ho]
  simp only [resolve, hx]
  go_simp
end
section
variable {F : Fence} {nn : Nat} {P : Program} {o : Oper} {a : Act} {w w' : World} {K : Act → World → Prop} {Q : Exit → Act → World → Prop} {t : TypeId} {x y : Operand} {p : Addr} {v : Value}
theorem opIn_pure (hF : F.round = none) (hc : ∀ c, o.op ≠ .call c) (h : (execOp a.eval o).run P w = .ok (.value v) w') (hk : K (a.put o.dst v) w') : o.wpIn F nn P a w K Q := by
  unfold Oper.wpIn
  rw [hF, Oper.semAt_none, h]
  refine ⟨fun f hf => ?_, hk⟩
  unfold Oper.about at hf
  split at hf
  · rename_i c hcc; exact absurd hcc (hc c)
  · cases hf
theorem wpOpIn_of {i : Nat} {ops : Array Oper} (hi : ops[i]? = some o) (hw : Region.wanted o (yielded ops a.tmps) = true) (h : o.wpIn F nn P a w K Q) : wpOpIn F nn P ops Q i K a w := by
  unfold wpOpIn
  simp only [hi, hw, if_true]
  exact h
end
section
variable {F : Fence} {nn : Nat} {P : Program} {o : Oper} {a : Act} {w w' : World} {K : Act → World → Prop} {Q : Exit → Act → World → Prop} {x : Operand} {xs : Array Operand} {ts : Array TypeId} {args : Array Value} {v : Value}
theorem opIn_callv (hF : F = Fence.wide) {f : FuncId} {cap : Array Value} (hc : ∀ (args : Array Value) (w : World), (callFunc f args).run P w = .ok (.enter f args) w) (ho : o.op = .call { callee := .value x, args := xs, argTypes := ts }) (hx : a.eval x = .func (.func f) #[] cap) (hxs : xs.map a.eval = args)
    (h : Calls P f (args ++ cap) w fun e w' => e = .returned v ∧ K (a.put o.dst v) w') : o.wpIn F nn P a w K Q := by
  subst hF
  have hr : (execOp a.eval o).run P w = .ok (.enter f (args ++ cap)) w := by
    unfold execOp
    rw [ho]
    simp only [resolve, hx, hxs]
    go_simp
  refine ⟨fun _ _ => trivial, ?_⟩
  rw [show (Fence.wide).round = none from rfl, Oper.semAt_none, hr]
  refine ⟨fun h => (by cases h), ?_⟩
  exact (callsIn_wide.2 h).mono fun e w'' ⟨he, hk⟩ => by subst he; exact hk
theorem opIn_yield (hF : F = Fence.wide) {l : Nat} {R : Ending → World → Prop} (ho : o.op = .call { callee := .value x, args := xs, argTypes := ts }) (hx : a.eval x = .func (.yield l) #[] #[]) (hxs : xs.map a.eval = args)
    (hy : YieldAt F (nn - 1) P l args w R) (hk : ∀ e w', R e w' → ∃ v, e = .returned v ∧ K (a.put o.dst v) w') : o.wpIn F nn P a w K Q := by
  subst hF
  obtain ⟨fn, tmps, assign, body, hy, hR⟩ := hy
  have hr : (execOp a.eval o).run P w = .ok (.round l fn tmps assign body) w := by
    unfold execOp
    rw [ho]
    simp only [resolve, hx, hxs]
    go_simp
  refine ⟨fun _ _ => trivial, ?_⟩
  rw [show (Fence.wide).round = none from rfl, Oper.semAt_none, hr]
  refine ⟨fun h => (by cases h), ?_⟩
  exact hR.mono fun e w'' h => by
    obtain ⟨v, rfl, hk⟩ := hk e w'' h
    exact hk
end
end Go.Proofs.Ytgdphdnghackfaa
