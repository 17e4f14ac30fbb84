/- What '==' says of two arrays of bytes, and of two arrays of such arrays. Over any program whose types are such. -/
import Derived.Test.YtgdphdnghackfaaP
namespace Go.Proofs.Ytgdphdnghackfaa
open Go.RowKit

/-- The elements of two arrays, held one against the other in turn. -/
def eqEls (d : Nat) (e : TypeId) (n : Nat) (xs ys : Array Value) : List Nat → Sem Bool
  | [] => pure true
  | i :: is => do
    let a ← part e xs (i * n)
    let b ← part e ys (i * n)
    let r ← Op.equalIn d e a b
    if (!r) = true then pure false else eqEls d e n xs ys is
section
variable {P : Program} (w : World)
theorem run_sizeOf {e : TypeId} {n : Nat} (hs : (P.info? e).map (·.size) = some n) : (sizeOf e).run P w = .ok n w := by
  cases hq : P.info? e with
  | none => simp [hq] at hs
  | some i =>
    have : i.size = n := by simpa [hq] using hs
    simp [sizeOf, typeInfo, hq, this]
theorem run_equalIn_array (d : Nat) (t e : TypeId) (len n : Nat) (xs ys : Array Value) (ht : P.underlying t = some (.array len e)) (hs : (P.info? e).map (·.size) = some n) :
    (Op.equalIn (d + 1) t (.agg xs) (.agg ys)).run P w = (eqEls d e n xs ys (List.range' 0 len)).run P w := by
  simp only [Op.equalIn, Sem.run_bind, run_underlying ht, Result.andThen_ok, run_sizeOf w hs]
  simp only [Std.Legacy.Range.forIn_eq_forIn_range', Std.Legacy.Range.size, Nat.sub_zero, Nat.add_sub_cancel, Nat.div_one]
  generalize List.range' 0 len = is
  induction is generalizing w with
  | nil => simp [eqEls]
  | cons i is ih =>
    simp only [List.forIn_cons, eqEls, Sem.run_bind]
    generalize (part e xs (i * n)).run P w = r1
    cases r1 with
    | ok a w1 =>
      simp only [Result.andThen_ok]
      generalize (part e ys (i * n)).run P w1 = r2
      cases r2 with
      | ok b w2 =>
        simp only [Result.andThen_ok]
        generalize (Op.equalIn d e a b).run P w2 = r3
        cases r3 with
        | ok r w3 =>
          cases r
          · simp only [Result.andThen_ok, Bool.not_false, if_true, Sem.run_pure]
          · simp only [Result.andThen_ok, Bool.not_true, Bool.false_eq_true, if_false, Sem.run_pure]
            exact ih w3
        | halt x w3 => simp [Result.andThen]
      | halt x w2 => simp [Result.andThen]
    | halt x w1 => simp [Result.andThen]
theorem run_part_byte {e : TypeId} {k : IntKind} (he : P.underlying e = some (.int k)) (l : List Nat) (i : Nat) (hi : i < l.length) : (part e (u8s l) (i * 1)).run P w = .ok (.int .u8 (l.getD i 0 : Nat)) w := by
  have ha : (isAgg e).run P w = .ok false w := by unfold isAgg; rw [Sem.run_bind, run_underlying he w]; simp
  rw [Nat.mul_one]
  simp [part, ha, u8s_get l i hi]
theorem drop_eq_iff (a b : List Nat) (i : Nat) (ha : i < a.length) (hb : i < b.length) : a.drop i = b.drop i ↔ a.getD i 0 = b.getD i 0 ∧ a.drop (i + 1) = b.drop (i + 1) := by
  rw [List.drop_eq_getElem_cons ha, List.drop_eq_getElem_cons hb, List.cons.injEq]
  simp [ha, hb]
/-- Two rows of bytes. -/
theorem run_equalIn_bytes (d : Nat) (t e : TypeId) (n : Nat) (a b : List Nat) (ht : P.underlying t = some (.array n e)) (he : P.underlying e = some (.int .u8)) (hs : (P.info? e).map (·.size) = some 1)
    (ha : a.length = n) (hb : b.length = n) : (Op.equalIn (d + 2) t (.agg (u8s a)) (.agg (u8s b))).run P w = .ok (decide (a = b)) w := by
  rw [run_equalIn_array w (d + 1) t e n 1 _ _ ht hs]
  have key : ∀ m i, i + m = n → (eqEls (d + 1) e 1 (u8s a) (u8s b) (List.range' i m)).run P w = .ok (decide (a.drop i = b.drop i)) w := by
    intro m
    induction m with
    | zero => intro i hi; simp [eqEls, List.drop_eq_nil_of_le (show a.length ≤ i by omega), List.drop_eq_nil_of_le (show b.length ≤ i by omega)]
    | succ m ih =>
      intro i hi
      rw [List.range'_succ]
      simp only [eqEls, Sem.run_bind, run_part_byte w he a i (by omega), run_part_byte w he b i (by omega), Result.andThen_ok, run_equalIn_int w d e .u8 .u8 _ _ he]
      have h := drop_eq_iff a b i (by omega) (by omega)
      by_cases hx : a.getD i 0 = b.getD i 0
      · rw [hx]
        simp only [beq_self_eq_true, Bool.not_true, Bool.false_eq_true, if_false]
        rw [ih (i + 1) (by omega)]
        congr 1
        rw [decide_eq_decide, h, hx]
        simp
      · have hx2 : (((a.getD i 0 : Nat) : Int) == ((b.getD i 0 : Nat) : Int)) = false := by
          have : ((a.getD i 0 : Nat) : Int) ≠ ((b.getD i 0 : Nat) : Int) := by omega
          simpa using this
        rw [hx2]
        simp only [Bool.not_false, if_true, Sem.run_pure]
        congr 1
        rw [eq_comm, decide_eq_false_iff_not, h]
        exact fun hh => hx hh.1
  have := key n 0 (by omega)
  simpa using this
end
theorem size5 : (Try.prog.info? 5).map (·.size) = some 1 := by kernel_rfl
/-- Two blocks. -/
theorem eql22 (a b : List Nat) (w : World) (ha : a.length = 16) (hb : b.length = 16) : (binOp .eql 22 (.agg (u8s a)) (.agg (u8s b))).run Try.prog w = .ok (.bool (decide (a = b))) w := by
  rw [run_eql_struct, run_equalIn_bytes w 9998 22 5 16 a b Try.underlying22 Try.underlying5 size5 ha hb]; rfl
theorem neq22 (a b : List Nat) (w : World) (ha : a.length = 16) (hb : b.length = 16) : (binOp .neq 22 (.agg (u8s a)) (.agg (u8s b))).run Try.prog w = .ok (.bool !decide (a = b)) w := by
  rw [run_neq_struct, run_equalIn_bytes w 9998 22 5 16 a b Try.underlying22 Try.underlying5 size5 ha hb]; rfl
end Go.Proofs.Ytgdphdnghackfaa
