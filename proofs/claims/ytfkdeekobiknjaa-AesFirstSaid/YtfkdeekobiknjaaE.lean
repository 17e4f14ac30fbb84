/- Regions that draw their order and hold calls that make memory: one value in every world of a class. Small laws; the class of two or three blocks that came in. -/
import Derived.Test.YtfkdeekobiknjaaD
import Derived.Test.YtfkdeekobiknjaaU
import Derived.Test.YtfkdeekobiknjaaR
namespace Go.Proofs.Ytfkdeekobiknjaa
open Go.RowKit

section
variable {P : Program} {C : World → Prop} {a : Act} {o : Oper} {K : Act → Prop} {v : Value}
theorem quiet_pure (h : ∀ w, (execOp a.eval o).run P w = .ok (.value v) w) (hk : K (a.put o.dst v)) : o.quiet P a C K :=
  ⟨v, fun w _ => by unfold Oper.quietAt; rw [h w]; exact ⟨rfl, rfl⟩, hk⟩
theorem exec_call {f : FuncId} {xs : Array Operand} {ts : Array TypeId} {args : Array Value} (hc : ∀ (args : Array Value) (w : World), (callFunc f args).run P w = .ok (.enter f args) w) (ho : o.op = .call { callee := .value (.func f), args := xs, argTypes := ts }) (hx : xs.map a.eval = args) (w : World) :
    (execOp a.eval o).run P w = .ok (.enter f args) w := by
  unfold execOp
  rw [ho]
  simp only [resolve, hx]
  go_simp
theorem quiet_call {f : FuncId} {xs : Array Operand} {ts : Array TypeId} {args : Array Value} (hc : ∀ (args : Array Value) (w : World), (callFunc f args).run P w = .ok (.enter f args) w) (ho : o.op = .call { callee := .value (.func f), args := xs, argTypes := ts }) (hx : xs.map a.eval = args)
    (h : ∀ w, C w → Calls P f args w fun e w' => e = .returned v ∧ C w') (hk : K (a.put o.dst v)) : o.quiet P a C K :=
  ⟨v, fun w hw => by unfold Oper.quietAt; rw [exec_call hc ho hx w]; exact ⟨rfl, h w hw⟩, hk⟩
end
theorem exec_eql26 {a : Act} {o : Oper} {x y : Operand} {z : TypeId} {p q : List Nat} {b : Bool} (ho : o.op = .binOp .eql 26 x y z) (hx : a.eval x = .agg (u8s p)) (hy : a.eval y = .agg (u8s q)) (hp : p.length = 16) (hq : q.length = 16) (hb : decide (p = q) = b) (w : World) :
    (execOp a.eval o).run Try.prog w = .ok (.value (.bool b)) w := by
  unfold execOp
  rw [ho]
  simp only [hx, hy]
  have e1 : (eqGuard .eql 26 x y (.agg (u8s p)) (.agg (u8s q))).run Try.prog w = .ok () w := run_eqGuard_agg w _ _ _ _ _ _ (by kernel_rfl)
  have e2 := eql26 p q w hp hq
  rw [hb] at e2
  simp [e1, e2, Sem.run_bind]
/-- Blocks that came in and stand in boxes. -/
structure BkMem (w : World) (key b : List Nat) (W : World) : Prop where
  key : Arr W w.heap.size 26 key
  b : Arr W (w.heap.size + 1) 26 b
  bel : Below w.heap.size w W
theorem BkMem.keep {w W W' : World} {key b : List Nat} (h : BkMem w key b W) (k : Below W.heap.size W W') : BkMem w key b W' := ⟨h.key.keep k h.key.lt, h.b.keep k h.b.lt, h.bel.trans (k.mono h.bel.size)⟩
theorem BkMem.drew {w W : World} {key b : List Nat} (h : BkMem w key b W) : BkMem w key b W.drew := ⟨h.key, h.b, h.bel.drew⟩
theorem BkMem.first (w : World) (key b : List Nat) : BkMem w key b ((w.alloc (.cells (u8s key) 26)).alloc (.cells (u8s b) 26)) := by
  refine ⟨(Box.new w 26 (u8s key)).alloc _, ?_, ((Below.refl _ _).alloc (Nat.le_refl _) _).alloc (by simp) _⟩
  have h := Box.new (w.alloc (.cells (u8s key) 26)) 26 (u8s b)
  rw [World.size_alloc] at h; exact h
end Go.Proofs.Ytfkdeekobiknjaa
