/- The tables that swaps makes; the walk of add (layer 4). -/
import Derived.Test.YtgdphdnghackfaaG
import Derived.BigRegion
namespace Go.Proofs.Ytgdphdnghackfaa
open Go.RowKit

set_option maxRecDepth 100000 in
theorem there_is : (swSt 255).there.set 0 99 = swapT := by decide +kernel
set_option maxRecDepth 100000 in
theorem back_is : (swSt 255).back.set 99 0 = backT := by decide +kernel
/-- Two blocks together, byte by byte. -/
def adS (a b : List Nat) : Nat → List Nat
  | 0 => a
  | i + 1 => (adS a b i).set i ((adS a b i).getD i 0 ^^^ b.getD i 0)
def addL (a b : List Nat) : List Nat := adS a b 16
theorem adS_len (a b : List Nat) (i : Nat) : (adS a b i).length = a.length := by
  induction i with
  | zero => rfl
  | succ i ih => show (List.set _ _ _).length = _; rw [List.length_set]; exact ih
def Bytes (l : List Nat) : Prop := ∀ x ∈ l, x < 256
theorem Bytes.get {l : List Nat} (h : Bytes l) (i : Nat) : l.getD i 0 < 256 := by
  rw [List.getD_eq_getElem?_getD]
  cases hj : l[i]? with
  | none => simp
  | some x => exact h x (List.mem_of_getElem? hj)
theorem Bytes.set {l : List Nat} (h : Bytes l) (i : Nat) {v : Nat} (hv : v < 256) : Bytes (l.set i v) := fun x hx => by
  rcases List.mem_or_eq_of_mem_set hx with h1 | rfl
  · exact h x h1
  · exact hv
theorem adS_bytes {a b : List Nat} (ha : Bytes a) (hb : Bytes b) (i : Nat) : Bytes (adS a b i) := by
  induction i with
  | zero => exact ha
  | succ i ih => exact ih.set i (xor_lt (ih.get i) (hb.get i))
/-! A whole block out of memory, and into it. -/
theorem Arr.loadAt {P : Program} {w : World} {g : Nat} {t ty : TypeId} {l : List Nat} {n : Nat} {e : TypeId} (h : Arr w g t l) (hu : P.underlying ty = some (.array n e)) (hi : (P.info? ty).map (·.size) = some l.length) :
    (Instr.loadAt ty (.pointer (some ⟨g, 0, none⟩))).run P w = .ok (.agg (u8s l)) w := by
  simp only [Instr.loadAt, Instr.sureAddr, Sem.run_bind, Sem.run_pure, Result.andThen]
  exact h.load hu hi
theorem Arr.storeAt {P : Program} {w : World} {g : Nat} {t ty : TypeId} {l l' : List Nat} (h : Arr w g t l) (hi : (P.info? ty).map (·.size) = some l'.length) (hl : l.length = l'.length) :
    (Instr.storeAt ty (.pointer (some ⟨g, 0, none⟩)) (.agg (u8s l'))).run P w = .ok () (w.setRow g (u8s l')) := by
  have h' : w.heap[g]? = some (.cells (u8s l) t (0, 0)) := h
  simp only [Instr.storeAt, Instr.sureAddr, Sem.run_bind, Sem.run_pure, Result.andThen]
  exact run_storeVar_row w g t ty (u8s l) (u8s l') h' (by rw [u8s_size]; exact hi) (by rw [u8s_size, u8s_size]; exact hl) (by rw [Array.all_eq_true_iff_forall_mem]; intro v hv; simp [u8s] at hv; obtain ⟨n, _, rfl⟩ := hv; rfl)
theorem heap_setRow (w : World) (g : Nat) (cs : Array Value) (k : Nat) (h : g ≠ k) : (w.setRow g cs).heap[k]? = w.heap[k]? := by
  show (w.heap.modify g _)[k]? = _
  rw [Array.getElem?_modify, if_neg h]
theorem Arr.setRow {w : World} {g : Nat} {t : TypeId} {l l' : List Nat} (h : Arr w g t l) : Arr (w.setRow g (u8s l')) g t l' := by
  have h' : w.heap[g]? = some (.cells (u8s l) t (0, 0)) := h
  show (w.heap.modify g _)[g]? = _
  rw [Array.getElem?_modify, if_pos rfl, h']; rfl
theorem Arr.farRow {w : World} {g k : Nat} {t : TypeId} {l : List Nat} {cs : Array Value} (h : Arr w g t l) (hk : k ≠ g) : Arr (w.setRow k cs) g t l := (heap_setRow w k cs g hk).trans h
theorem below_setRow {B : Nat} {a w : World} (h : Below B a w) {g : Nat} (hg : B ≤ g) (cs : Array Value) : Below B a (w.setRow g cs) :=
  ⟨h.os, h.tape, h.output, by show _ ≤ (w.heap.modify g _).size; rw [Array.size_modify]; exact h.size, fun k hk => (heap_setRow w g cs k (by omega)).trans (h.block k hk)⟩
section
variable {P : Program} {ops : Array Oper} {rest : List Oper} {o : Oper} {a : Act} {w w' : World} {Q : Exit → Act → World → Prop} {t : TypeId} {x y : Operand} {p : Addr} {v : Value}
theorem wpList_load (hgd : o.guard = none) (ho : o.op = .load t x) (hx : a.eval x = .pointer (some p)) (h : (Instr.loadAt t (.pointer (some p))).run P w = .ok v w) (hk : wpList P ops Q rest (a.put o.dst v) w) : wpList P ops Q (o :: rest) a w := by
  refine wpList_plain hgd fun K hK => ?_
  unfold Oper.wp execOp
  simp only [ho, hx, Sem.run_bind, h, Result.andThen_ok, Sem.run_pure]
  exact hK _ _ hk
theorem wpList_store (hgd : o.guard = none) (ho : o.op = .store t x y) (hx : a.eval x = .pointer (some p)) (hy : a.eval y = v) (h : (Instr.storeAt t (.pointer (some p)) v).run P w = .ok () w') (hk : wpList P ops Q rest (a.put o.dst undef) w') : wpList P ops Q (o :: rest) a w := by
  refine wpList_plain hgd fun K hK => ?_
  unfold Oper.wp execOp
  simp only [ho, hx, hy, Sem.run_bind, h, Result.andThen_ok, Sem.run_pure]
  exact hK _ _ hk
end
theorem results_cell1 {fn : Func} {s : Tmp} {ty1 : TypeId} (h : fn.results = #[.cell s ty1]) (tmps : Array Value) (P : Program) (w : World) {p : Addr} {v1 : Value} (hp : tmps.getD s undef = .pointer (some p))
    (h1 : (loadVar ty1 p).run P w = .ok v1 w) : (results fn tmps).run P w = .ok v1 w := by
  have hp' : tmps[s]?.getD undef = .pointer (some p) := by simpa using hp
  simp [results, h, asAddr, hp', h1]
structure AdMem (w : World) (l b : List Nat) (W : World) : Prop where
  x : Arr W w.heap.size 22 l
  y : Arr W (w.heap.size + 1) 22 b
  z : Arr W (w.heap.size + 2) 22 (List.replicate 16 0)
  bel : Below w.heap.size w W

set_option maxRecDepth 100000 in
set_option maxHeartbeats 1000000 in
theorem add_to (w : World) (a b c : List Nat) (hc : addL a b = c) (ha : a.length = 16) (hb : b.length = 16) (ba : Bytes a) (bb : Bytes b) : Calls Try.prog 35 #[.agg (u8s a), .agg (u8s b)] w fun e w' => e = .returned (.agg (u8s c)) ∧ Below w.heap.size w w' := by
  replace hc := Kp.mk hc
  go_enter Try.func35, Try.ntmps35
  go_wp2_with fail
  go_loopw [6] (fun ii wr => ∃ i : Nat, ii = .int .i64 i ∧ i ≤ 16 ∧ AdMem w (adS a b i) b wr) (fun ii _ => 300 - (intOf ii).toNat)
  case atStart =>
    refine ⟨0, rfl, by omega, ⟨((Box.new w 22 (u8s a)).alloc _).alloc _, ?_, ?_, (((Below.refl _ _).alloc (Nat.le_refl _) _).alloc (by simp) _).alloc (by simp; omega) _⟩⟩
    · have h := (Box.new (w.alloc (.cells (u8s a) 22)) 22 (u8s b)).alloc (.cells (u8s (List.replicate 16 0)) 22)
      rw [World.size_alloc] at h; exact h
    · have h := Box.new ((w.alloc (.cells (u8s a) 22)).alloc (.cells (u8s b) 22)) 22 (u8s (List.replicate 16 0))
      rw [World.size_alloc, World.size_alloc] at h; exact h
  case round =>
    obtain ⟨i, rfl, hi, M⟩ := hrel
    obtain ⟨l, hl⟩ : ∃ l, adS a b i = l := ⟨_, rfl⟩
    have hlen := adS_len a b i
    have hby := adS_bytes ba bb i
    have hstep : adS a b (i + 1) = l.set i (l.getD i 0 ^^^ b.getD i 0) := by rw [← hl]; rfl
    rw [hl] at M hlen hby
    replace hstep := Kp.mk hstep
    by_cases hi4 : i < 16
    · have hi' : (i : Int) < 16 := by omega
      have k1 := M.x.cell i (by omega)
      have k2 := M.y.cell i (by omega)
      have f1 := M.x.frozen i
      have hx8 := hby.get i
      have hy8 := bb.get i
      obtain ⟨x, hx⟩ : ∃ x, l.getD i 0 = x := ⟨_, rfl⟩
      obtain ⟨y, hy⟩ : ∃ y, b.getD i 0 = y := ⟨_, rfl⟩
      rw [hx] at k1 hx8
      rw [hy] at k2 hy8
      have hxor := xor_u8 hx8 hy8
      replace hx := Kp.mk hx
      replace hy := Kp.mk hy
      clear hl
      go_wp2_with fail
      go_region
      go_wp2_with fail
      refine ⟨⟨i + 1, congrArg (Value.int .i64) (by omega), by omega, ⟨?_, M.y.far (by simp) _, M.z.far (by simp) _, (M.bel.setCell (Nat.le_refl _) _).drew⟩⟩, by simp [intOf]; omega⟩
      rw [hstep.out, hx.out, hy.out]
      exact M.x.put i (x ^^^ y)
    · obtain rfl : i = 16 := by omega
      obtain rfl : l = c := by rw [← hl, ← hc.out]; rfl
      have hsz : (Try.prog.info? 22).map (·.size) = some 16 := by kernel_rfl
      have hc16 : l.length = 16 := by rw [hlen]; exact ha
      have u1 := M.x.loadAt (P := Try.prog) Try.underlying22 (by rw [hc16]; exact hsz)
      have u2 := M.z.storeAt (P := Try.prog) (ty := 22) (l' := l) (by rw [hc16]; exact hsz) (by rw [hc16]; rfl)
      have Z := M.z.setRow (l' := l)
      have u3 := Z.load (P := Try.prog) Try.underlying22 (by rw [hc16]; exact hsz)
      have bel := below_setRow M.bel (g := w.heap.size + 2) (by omega) (u8s l)
      clear hsz M
      replace u1 := Kp.mk u1; replace u2 := Kp.mk u2; replace u3 := Kp.mk u3
      go_wp2_with (first | (refine wpList_load rfl (t := 22) (x := .tmp 2) rfl rfl u1.out ?_) | (refine wpList_store rfl (t := 22) (x := .tmp 4) (y := .tmp 18) rfl rfl rfl u2.out ?_))
      exact bodyPost_ret (v := .agg (u8s l)) (results_cell1 rfl _ _ _ rfl u3.out) rfl ⟨rfl, bel⟩
end Go.Proofs.Ytgdphdnghackfaa
