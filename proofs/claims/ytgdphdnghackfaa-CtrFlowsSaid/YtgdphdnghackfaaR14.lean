/- Operations of drawn regions that only read: one by one, in a class of worlds. -/
import Derived.Test.YtgdphdnghackfaaR13
namespace Go.Proofs.Ytgdphdnghackfaa
open Go.RowKit Go.Shelf
section
variable {P : Program} {C : World → Prop} {a : Act} {o : Oper} {K : Act → Prop} {v : Value}
theorem quiet_run (h : ∀ w, C w → (execOp a.eval o).run P w = .ok (.value v) w) (hk : K (a.put o.dst v)) : o.quiet P a C K :=
  ⟨v, fun w hw => by unfold Oper.quietAt; rw [h w hw]; exact ⟨rfl, rfl⟩, hk⟩
theorem quiet_calls {f : FuncId} {xs : Array Operand} {ts : Array TypeId} {args : Array Value} (hc : ∀ (args : Array Value) (w : World), (callFunc f args).run P w = .ok (.enter f args) w) (ho : o.op = .call { callee := .value (.func f), args := xs, argTypes := ts }) (hx : xs.map a.eval = args)
    (h : ∀ w, C w → Calls P f args w fun e w' => e = .returned v ∧ C w') (hk : K (a.put o.dst v)) : o.quiet P a C K :=
  ⟨v, fun w hw => by unfold Oper.quietAt; rw [exec_call hc ho hx w]; exact ⟨rfl, h w hw⟩, hk⟩
end
section
variable {A : Act} {o : Oper} {x y : Operand} {z t : TypeId} {W : World}
theorem exec_addI {p q r : Int} (ho : o.op = .binOp .add 3 x y z) (hx : A.eval x = .int .i64 p) (hy : A.eval y = .int .i64 q) (hw : IntKind.i64.wrap (p + q) = r) : (execOp A.eval o).run Try.prog W = .ok (.value (.int .i64 r)) W := by
  unfold execOp
  rw [ho]
  simp only [hx, hy]
  go_simp
theorem exec_subI {p q r : Int} (ho : o.op = .binOp .sub 3 x y z) (hx : A.eval x = .int .i64 p) (hy : A.eval y = .int .i64 q) (hw : IntKind.i64.wrap (p - q) = r) : (execOp A.eval o).run Try.prog W = .ok (.value (.int .i64 r)) W := by
  unfold execOp
  rw [ho]
  simp only [hx, hy]
  go_simp
theorem exec_eqI {p q : Int} {b : Bool} (ho : o.op = .binOp .eql 3 x y z) (hx : A.eval x = .int .i64 p) (hy : A.eval y = .int .i64 q) (hb : decide (p = q) = b) : (execOp A.eval o).run Try.prog W = .ok (.value (.bool b)) W := by
  unfold execOp
  rw [ho]
  simp only [hx, hy]
  subst hb
  go_simp
  rfl
theorem exec_neI {p q : Int} {b : Bool} (ho : o.op = .binOp .neq 3 x y z) (hx : A.eval x = .int .i64 p) (hy : A.eval y = .int .i64 q) (hb : decide (p ≠ q) = b) : (execOp A.eval o).run Try.prog W = .ok (.value (.bool b)) W := by
  unfold execOp
  rw [ho]
  simp only [hx, hy]
  subst hb
  go_simp
  rfl
theorem exec_eqS {p : ByteArray} (ho : o.op = .binOp .eql 9 x y z) (hx : A.eval x = .string p) (hy : A.eval y = .string p) : (execOp A.eval o).run Try.prog W = .ok (.value (.bool true)) W := by
  unfold execOp
  rw [ho]
  simp only [hx, hy]
  go_simp
theorem exec_neS {p : ByteArray} (ho : o.op = .binOp .neq 9 x y z) (hx : A.eval x = .string p) (hy : A.eval y = .string p) : (execOp A.eval o).run Try.prog W = .ok (.value (.bool false)) W := by
  unfold execOp
  rw [ho]
  simp only [hx, hy]
  go_simp
theorem exec_conv {P : Program} {s d : TypeId} {u v : Value} (ho : o.op = .convert s d x) (hx : A.eval x = u) (h : (convert s d u).run P W = .ok v W) : (execOp A.eval o).run P W = .ok (.value v) W := by
  unfold execOp
  simp only [ho, hx, Sem.run_bind, h, Result.andThen_ok, Sem.run_pure]
theorem exec_from {g n i k : Nat} {cap : Nat} (ho : o.op = .slice 25 x (some (.tmp k)) none none) (hx : A.eval x = .slice (some ⟨g, 0, none⟩) n cap) (hy : A.eval (.tmp k) = .int .i64 (i : Nat)) (hi : i ≤ n) (hn : n ≤ cap) : (execOp A.eval o).run Try.prog W = .ok (.value (.slice (if cap = i then some ⟨g, 0, none⟩ else some ⟨g, i, none⟩) (n - i) (cap - i))) W := by
  have h1 : (i : Int) ≤ (n : Int) := by omega
  have h2 : (n : Int) ≤ (cap : Int) := by omega
  have hy' : A.tmps[k]?.getD undef = .int .i64 (i : Nat) := by rw [← Array.getD_eq_getD_getElem?]; exact hy
  unfold execOp
  rw [ho]
  simp only [hx]
  go_simp
theorem exec_len {n cap : Nat} {B : Option Addr} (ho : o.op = .call { callee := .builtin .len, args := #[x], argTypes := #[25] }) (ht : o.type = 3) (hx : A.eval x = .slice B n cap) : (execOp A.eval o).run Try.prog W = .ok (.value (.int .i64 n)) W := by
  unfold execOp
  rw [ho]
  simp only [resolve, List.map_toArray, List.map_cons, List.map_nil, hx, ht]
  go_simp
theorem TxIn.from_ {w : World} {g n cap k : Nat} {tx : List Nat} (h : TxIn w (some ⟨g, 0, none⟩) n cap tx) (hk : k ≤ n) : TxIn w (if cap = k then some ⟨g, 0, none⟩ else some ⟨g, k, none⟩) (n - k) (cap - k) (tx.drop k) := by
  have hnc := h.sl.2.1
  refine ⟨by simp [h.len], fun x hx => h.b x (List.mem_of_mem_drop hx), ⟨by simp [h.len], fun hn => ?_⟩, by have := h.sl.2.1; omega, by have := h.sl.2.2.1; omega, tx_wf fun x hx => h.b x (List.mem_of_mem_drop hx)⟩
  obtain ⟨b, o, e, hb, hc⟩ := h.sl.1.2 (by omega)
  cases e
  rw [if_neg (by omega)]
  refine ⟨g, k, rfl, hb, fun i hi => ?_⟩
  have := hc (k + i) (by omega)
  rw [Nat.zero_add] at this
  rw [this]
  simp
end
end Go.Proofs.Ytgdphdnghackfaa
