/- '==' of a key's rounds with themselves. -/
import Derived.Test.YtfkdeekobiknjaaD
namespace Go.Proofs.Ytfkdeekobiknjaa
open Go.RowKit
section
variable {P : Program} (w : World)
theorem u8s_extract (l : List Nat) (i n : Nat) : (u8s l).extract i (i + n) = u8s ((l.drop i).take n) := by
  apply Array.ext'
  simp [u8s, List.map_take, List.map_drop, List.take_drop]
theorem run_part_row {e e' : TypeId} {n m : Nat} (he : P.underlying e = some (.array m e')) (hs : (P.info? e).map (·.size) = some n) (l : List Nat) (i : Nat) : (part e (u8s l) (i * n)).run P w = .ok (.agg (u8s ((l.drop (i * n)).take n))) w := by
  have ha : (isAgg e).run P w = .ok true w := by unfold isAgg; rw [Sem.run_bind, run_underlying he w]; simp
  simp [part, ha, run_sizeOf w hs, u8s_extract]
theorem run_equalIn_rows (d : Nat) (t e b : TypeId) (len n : Nat) (l : List Nat) (ht : P.underlying t = some (.array len e)) (he : P.underlying e = some (.array n b)) (hb : P.underlying b = some (.int .u8))
    (hs : (P.info? e).map (·.size) = some n) (hs1 : (P.info? b).map (·.size) = some 1) (hl : l.length = len * n) : (Op.equalIn (d + 3) t (.agg (u8s l)) (.agg (u8s l))).run P w = .ok true w := by
  rw [run_equalIn_array w (d + 2) t e len n _ _ ht hs]
  have key : ∀ m i, i + m = len → (eqEls (d + 2) e n (u8s l) (u8s l) (List.range' i m)).run P w = .ok true w := by
    intro m
    induction m with
    | zero => intro i _; simp [eqEls]
    | succ m ih =>
      intro i hi
      rw [List.range'_succ]
      have hle : i * n + n ≤ len * n := by rw [← Nat.succ_mul]; exact Nat.mul_le_mul_right n (by omega)
      have hx : ((l.drop (i * n)).take n).length = n := by rw [List.length_take, List.length_drop, hl]; omega
      simp only [eqEls, Sem.run_bind, run_part_row w he hs, Result.andThen_ok, run_equalIn_bytes w d e b n _ _ he hb hs1 hx hx, decide_true, Bool.not_true, Bool.false_eq_true, if_false]
      exact ih (i + 1) (by omega)
  exact key len 0 (by omega)
end
theorem exec_eql31 {a : Act} {o : Oper} {x y : Operand} {z : TypeId} {p : List Nat} (ho : o.op = .binOp .eql 31 x y z) (hx : a.eval x = .agg (u8s p)) (hy : a.eval y = .agg (u8s p)) (hp : p.length = 176) (w : World) :
    (execOp a.eval o).run Try.prog w = .ok (.value (.bool true)) w := by
  unfold execOp
  rw [ho]
  simp only [hx, hy]
  have e1 : (eqGuard .eql 31 x y (.agg (u8s p)) (.agg (u8s p))).run Try.prog w = .ok () w := run_eqGuard_agg w _ _ _ _ _ _ (by kernel_rfl)
  have e2 : (binOp .eql 31 (.agg (u8s p)) (.agg (u8s p))).run Try.prog w = .ok (.bool true) w := by
    rw [run_eql_struct, run_equalIn_rows w 9997 31 26 5 11 16 p Try.underlying31 Try.underlying26 Try.underlying5 size26 size5 hp]; rfl
  simp [e1, e2, Sem.run_bind]
end Go.Proofs.Ytfkdeekobiknjaa
