/- A block of bytes known as a list of numbers; the walk of swaps (layer 4). -/
import Derived.Test.YtgdphdnghackfaaF
import Derived.Deep.WholeRow
import Derived.BigQuiet
import Derived.Deep.QuietTactic
import Derived.Deep.RegionWith
namespace Go.Proofs.Ytgdphdnghackfaa
open Go.RowKit

theorem below_drewN {B : Nat} {a b : World} (h : Below B a b) (m : Nat) : Below B a (b.drewN m) := ⟨h.os, h.tape, h.output, h.size, h.block⟩
/-- A list of numbers as cells. -/
def u8s (l : List Nat) : Array Value := (l.map fun (n : Nat) => Value.int .u8 (n : Int)).toArray
theorem u8s_size (l : List Nat) : (u8s l).size = l.length := by simp [u8s]
theorem u8s_get (l : List Nat) (i : Nat) (h : i < l.length) : (u8s l)[i]? = some (.int .u8 (l.getD i 0 : Nat)) := by
  simp [u8s, List.getElem?_eq_getElem h]
theorem u8s_set (l : List Nat) (i v : Nat) : (u8s l).setIfInBounds i (.int .u8 (v : Nat)) = u8s (l.set i v) := by
  simp [u8s, List.map_set]
/-- Block g is the bytes l. -/
def Arr (w : World) (g : Nat) (t : TypeId) (l : List Nat) : Prop := Box w g t (u8s l)
namespace Arr
variable {w w' : World} {g : Nat} {t : TypeId} {l : List Nat}
theorem cell (h : Arr w g t l) (i : Nat) (hi : i < l.length) : w.cell? ⟨g, i, none⟩ = some (.int .u8 (l.getD i 0 : Nat)) := (Box.cell h i).trans (u8s_get l i hi)
theorem frozen (h : Arr w g t l) (i : Nat) : w.frozen? ⟨g, i, none⟩ = false := Box.frozen h i
theorem lt (h : Arr w g t l) : g < w.heap.size := Box.lt h
theorem put (h : Arr w g t l) (i v : Nat) : Arr (w.setCell ⟨g, i, none⟩ (.int .u8 (v : Nat))) g t (l.set i v) := by
  have := Box.put h i (.int .u8 (v : Nat))
  rw [u8s_set] at this; exact this
theorem far (h : Arr w g t l) {p : Addr} (hp : g ≠ p.block) (u : Value) : Arr (w.setCell p u) g t l := Box.far h hp u
theorem alloc (h : Arr w g t l) (o : Obj) : Arr (w.alloc o) g t l := Box.alloc h o
theorem keep {B : Nat} (h : Arr w g t l) (hb : Below B w w') (hg : g < B) : Arr w' g t l := Box.keep h hb hg
theorem load {P : Program} {ty : TypeId} {n : Nat} {e : TypeId} (h : Arr w g t l) (hu : P.underlying ty = some (.array n e)) (hi : (P.info? ty).map (·.size) = some l.length) : (loadVar ty ⟨g, 0, none⟩).run P w = .ok (.agg (u8s l)) w :=
  run_loadVar_row w g t ty (u8s l) (0, 0) _ h hu rfl (by rw [u8s_size]; exact hi)
end Arr
theorem setRow_same {w : World} {g : Nat} {t : TypeId} {cs : Array Value} (h : Box w g t cs) : w.setRow g cs = w := by
  have h' : w.heap[g]? = some (.cells cs t (0, 0)) := h
  have e : w.heap.modify g (fun | .cells _ t f => .cells cs t f | o => o) = w.heap := by
    apply Array.ext_getElem?
    intro i
    rw [Array.getElem?_modify]
    by_cases hi : g = i
    · subst hi; rw [if_pos rfl, h']; rfl
    · rw [if_neg hi]
  show ({ w with heap := _ } : World) = w
  exact (congrArg (fun x => ({ w with heap := x } : World)) e)
theorem Arr.same {P : Program} {w : World} {g : Nat} {t ty : TypeId} {l : List Nat} (h : Arr w g t l) (hi : (P.info? ty).map (·.size) = some l.length) : (storeVar ty ⟨g, 0, none⟩ (.agg (u8s l))).run P w = .ok () w := by
  have h' : w.heap[g]? = some (.cells (u8s l) t (0, 0)) := h
  rw [run_storeVar_row w g t ty (u8s l) (u8s l) h' (by rw [u8s_size]; exact hi) rfl (by rw [Array.all_eq_true_iff_forall_mem]; intro v hv; simp [u8s] at hv; obtain ⟨n, _, rfl⟩ := hv; rfl), setRow_same h]
section
variable {P : Program} {C : World → Prop} {a : Act} {o : Oper} {K : Act → Prop} {t : TypeId} {x y : Operand} {p : Addr} {v : Value}
theorem quiet_load (ho : o.op = .load t x) (hx : a.eval x = .pointer (some p)) (h : ∀ w, C w → (Instr.loadAt t (.pointer (some p))).run P w = .ok v w) (hk : K (a.put o.dst v)) : o.quiet P a C K :=
  ⟨v, fun w hw => by
    unfold Oper.quietAt execOp
    rw [ho]
    simp only [hx, Sem.run_bind, h w hw, Result.andThen_ok, Sem.run_pure]
    exact ⟨rfl, rfl⟩, hk⟩
theorem quiet_store (ho : o.op = .store t x y) (hx : a.eval x = .pointer (some p)) (hy : a.eval y = v) (h : ∀ w, C w → (Instr.storeAt t (.pointer (some p)) v).run P w = .ok () w) (hk : K (a.put o.dst undef)) : o.quiet P a C K :=
  ⟨undef, fun w hw => by
    unfold Oper.quietAt execOp
    rw [ho]
    simp only [hx, hy, Sem.run_bind, h w hw, Result.andThen_ok, Sem.run_pure]
    exact ⟨rfl, rfl⟩, hk⟩
end
theorem results_cells2 {fn : Func} {s t : Tmp} {ty1 ty2 : TypeId} (h : fn.results = #[.cell s ty1, .cell t ty2]) (tmps : Array Value) (P : Program) (w : World) {p q : Addr} {v1 v2 : Value} (hp : tmps.getD s undef = .pointer (some p)) (hq : tmps.getD t undef = .pointer (some q))
    (h1 : (loadVar ty1 p).run P w = .ok v1 w) (h2 : (loadVar ty2 q).run P w = .ok v2 w) : (results fn tmps).run P w = .ok (.tuple #[v1, v2]) w := by
  have hp' : tmps[s]?.getD undef = .pointer (some p) := by simpa using hp
  have hq' : tmps[t]?.getD undef = .pointer (some q) := by simpa using hq
  simp [results, h, asAddr, hp', hq', h1, h2]
/-- The two tables, round by round. -/
structure SwSt where
  a : Nat
  b : Nat
  there : List Nat
  back : List Nat
def swStep (s : SwSt) : SwSt := ⟨s.a ^^^ xt s.a, T s.b 246, s.there.set s.a (sx s.b 4), s.back.set (sx s.b 4) s.a⟩
def swSt : Nat → SwSt
  | 0 => ⟨1, 1, List.replicate 256 0, List.replicate 256 0⟩
  | n + 1 => swStep (swSt n)
def Z52 : Array Value := u8s (List.replicate 256 0)
set_option maxRecDepth 100000 in
theorem info52 : (Try.prog.info? 52).map (fun i => (i.zero, i.size)) = some (some (.agg Z52), 256) := by kernel_rfl

structure SwMem (w : World) (i : Nat) (W : World) : Prop where
  t : Arr W w.heap.size 52 (swSt i).there
  b : Arr W (w.heap.size + 1) 52 (swSt i).back
  bel : Below w.heap.size w W
structure SwOk (s : SwSt) : Prop where
  a : s.a < 256
  b : s.b < 256
  lt : s.there.length = 256
  lb : s.back.length = 256
theorem swSt_ok (i : Nat) : SwOk (swSt i) := by
  induction i with
  | zero => exact ⟨by decide, by decide, List.length_replicate, List.length_replicate⟩
  | succ i ih => exact ⟨xor_lt ih.a (xt_lt ih.a), T_lt ih.b _, by show (List.set _ _ _).length = 256; rw [List.length_set]; exact ih.lt, by show (List.set _ _ _).length = 256; rw [List.length_set]; exact ih.lb⟩
set_option maxRecDepth 100000 in
set_option maxHeartbeats 1000000 in
theorem swaps_to (w : World) (t1 t2 : List Nat) (h1 : (swSt 255).there.set 0 99 = t1) (h2 : (swSt 255).back.set 99 0 = t2) : Calls Try.prog 33 #[] w fun e w' => e = .returned (.tuple #[.agg (u8s t1), .agg (u8s t2)]) ∧ Below w.heap.size w w' := by
  replace h1 := Kp.mk h1
  replace h2 := Kp.mk h2
  obtain ⟨hz, hsz⟩ := zero_of_info info52
  go_enter Try.func33, Try.ntmps33
  go_wp2_with fail
  go_loopw [2, 3, 6] (fun aa bb ii wr => ∃ i : Nat, aa = .int .u8 ((swSt i).a : Nat) ∧ bb = .int .u8 ((swSt i).b : Nat) ∧ ii = .int .i64 i ∧ i ≤ 255 ∧ SwMem w i wr) (fun _ _ ii _ => 300 - (intOf ii).toNat)
  case atStart => exact ⟨0, rfl, rfl, rfl, by omega, ⟨(Box.new w 52 Z52).alloc _, by have := Box.new (w.alloc (.cells Z52 52)) 52 Z52; rw [World.size_alloc] at this; exact this, ((Below.refl _ _).alloc (Nat.le_refl _) _).alloc (by simp) _⟩⟩
  case round =>
    obtain ⟨i, rfl, rfl, rfl, hi, M⟩ := hrel
    have ok := swSt_ok i
    by_cases hi4 : i < 255
    · have hi' : (i : Int) < 255 := by omega
      obtain ⟨s, hs⟩ : ∃ s, swSt i = s := ⟨_, rfl⟩
      have hstep : swSt (i + 1) = swStep s := by rw [← hs]; rfl
      have Mt := M.t
      have Mb := M.b
      rw [hs] at ok Mt Mb ⊢
      have ha8 := ok.a
      have hb8 := ok.b
      have hx0 : bits .xor .u8 (s.b : Int) 99 = ((s.b ^^^ 99 : Nat) : Int) := xor_u8 hb8 (by decide : 99 < 256)
      replace hstep := Kp.mk hstep
      clear hs
      go_wp2_with fail
      go_loopw [4, 5, 11] (fun xx yy ii wr2 => ∃ j : Nat, yy = .int .u8 (sy s.b j : Nat) ∧ xx = .int .u8 (sx s.b j : Nat) ∧ ii = .int .i64 j ∧ j ≤ 4 ∧ wr = wr2) (fun _ _ ii _ => 10 - (intOf ii).toNat)
      case atStart => exact ⟨0, rfl, by first | rfl | (rw [hx0]; rfl), rfl, by omega, rfl⟩
      case round =>
        obtain ⟨j, rfl, rfl, rfl, hj, rfl⟩ := hrel
        by_cases hj4 : j < 4
        · have hj' : (j : Int) < 4 := by omega
          obtain ⟨y, hy⟩ : ∃ y, sy s.b j = y := ⟨_, rfl⟩
          obtain ⟨x, hx⟩ : ∃ x, sx s.b j = x := ⟨_, rfl⟩
          have hy8 : y < 256 := hy ▸ sy_lt hb8 j
          have hx8 : x < 256 := hx ▸ sx_lt hb8 j
          have e1 : sy s.b (j + 1) = rotl y := by rw [← hy]; rfl
          have e2 : sx s.b (j + 1) = x ^^^ rotl y := by rw [← hx, ← hy]; rfl
          have e3 := rotl_u8 hy8
          have e4 := xor_u8 hx8 (rotl_lt hy8)
          rw [hy, hx]
          replace e1 := Kp.mk e1
          replace e2 := Kp.mk e2
          clear hy hx
          go_wp2_with fail
          go_roundw
          case rel => exact ⟨j + 1, by rw [e1.out], by rw [e2.out], congrArg (Value.int .i64) (by omega), by omega, by trivial⟩
          case measure => simp [intOf] <;> omega
        · obtain rfl : j = 4 := by omega
          obtain ⟨x, hx⟩ : ∃ x, sx s.b 4 = x := ⟨_, rfl⟩
          have hx8 : x < 256 := hx ▸ sx_lt hb8 4
          rw [hx]
          have f1 := Mt.frozen s.a
          have f2 := Mb.frozen x
          have aI : (s.a : Int) < 256 := by omega
          have xI : (x : Int) < 256 := by omega
          have e5 := xt_u8 ha8
          have e6 := xor_u8 ha8 (xt_lt ha8)
          obtain ⟨z, hz2⟩ : ∃ z, T s.b 246 = z := ⟨_, rfl⟩
          replace hz2 := Kp.mk hz2
          replace hx := Kp.mk hx
          have Mt2 := Mt.put s.a x
          have Mb2 : Arr (wr.setCell ⟨w.heap.size, s.a, none⟩ (.int .u8 (x : Nat))) (w.heap.size + 1) 52 s.back := Mb.far (by simp) _
          have f3 := Mb2.frozen x
          have k1 := Mt.cell s.a (by have := ok.lt; omega)
          have k2 := Mb.cell x (by have := ok.lb; omega)
          have k3 := Mb2.cell x (by have := ok.lb; omega)
          have Mb3 := Mb2.put x s.a
          have Mt3 := Mt2.far (p := ⟨w.heap.size + 1, x, none⟩) (by simp) (.int .u8 (s.a : Nat))
          have bel3 := (M.bel.setCell (p := ⟨w.heap.size, s.a, none⟩) (Nat.le_refl _) (.int .u8 (x : Nat))).setCell (p := ⟨w.heap.size + 1, x, none⟩) (Nat.le_succ _) (.int .u8 (s.a : Nat))
          clear Mt2 Mb2 M
          go_wp2_with fail
          refine (Times_to s.b 246 _ z hz2.out hb8 (by decide)).mono ?_
          rintro _ w5 ⟨rfl, hb5⟩
          have Mt5 := Mt3.keep hb5 Mt3.lt
          have Mb5 := Mb3.keep hb5 Mb3.lt
          have bel5 := bel3.trans (hb5.mono bel3.size)
          clear Mt3 Mb3 bel3 hb5 f1 f2 f3 k1 k2 k3 Mt Mb
          go_wp2_with fail
          go_roundw
          case rel => exact ⟨i + 1, by rw [hstep.out]; rfl, by rw [hstep.out]; exact congrArg (fun n : Nat => Value.int .u8 (n : Int)) hz2.out.symm, congrArg (Value.int .i64) (by omega), by omega, ⟨by rw [hstep.out]; show Arr _ _ _ (s.there.set s.a (sx s.b 4)); rw [hx.out]; exact Mt5, by rw [hstep.out]; show Arr _ _ _ (s.back.set (sx s.b 4) s.a); rw [hx.out]; exact Mb5, bel5⟩⟩
          case measure => simp [intOf] <;> omega
    · obtain rfl : i = 255 := by omega
      have Mt := M.t
      have Mb := M.b
      have bel := M.bel
      have hlt := ok.lt
      have hlb := ok.lb
      clear ok M
      replace h1 := h1.out
      replace h2 := h2.out
      generalize (swSt 255).there = l1 at *
      generalize (swSt 255).back = l2 at *
      generalize (swSt 255).a = a1
      generalize (swSt 255).b = b1
      have f1 := Mt.frozen 0
      have Mt2 := Mt.put 0 99
      have Mb2 : Arr (wr.setCell ⟨w.heap.size, 0, none⟩ (.int .u8 (99 : Nat))) (w.heap.size + 1) 52 l2 := Mb.far (by simp) _
      have f3 := Mb2.frozen 99
      have k1 := Mt.cell 0 (by omega)
      have k2 := Mb.cell 99 (by omega)
      have k3 := Mb2.cell 99 (by omega)
      have f2 := Mb.frozen 99
      have Mb3 := Mb2.put 99 0
      have Mt3 := Mt2.far (p := ⟨w.heap.size + 1, 99, none⟩) (by simp) (.int .u8 (0 : Nat))
      have bel3 := (bel.setCell (p := ⟨w.heap.size, 0, none⟩) (Nat.le_refl _) (.int .u8 (99 : Nat))).setCell (p := ⟨w.heap.size + 1, 99, none⟩) (Nat.le_succ _) (.int .u8 (0 : Nat))
      have A27 : Try.prog.underlying 52 = some (.array 256 5) := Try.underlying52
      go_wp2_with fail
      have l1s : (l1.set 0 99).length = 256 := by rw [List.length_set]; exact hlt
      have l2s : (l2.set 99 0).length = 256 := by rw [List.length_set]; exact hlb
      generalize l1.set 0 99 = m1 at *
      generalize l2.set 99 0 = m2 at *
      subst h1 h2
      generalize hW : (wr.setCell ⟨w.heap.size, 0, none⟩ (.int .u8 (99 : Nat))).setCell ⟨w.heap.size + 1, 99, none⟩ (.int .u8 (0 : Nat)) = W at *
      have u1 : ∀ n, (loadVar 52 ⟨w.heap.size, 0, none⟩).run Try.prog (W.drewN n) = .ok (.agg (u8s m1)) (W.drewN n) := fun n => Arr.load (w := W.drewN n) Mt3 A27 (by rw [l1s]; exact hsz)
      have u2 : ∀ n, (loadVar 52 ⟨w.heap.size + 1, 0, none⟩).run Try.prog (W.drewN n) = .ok (.agg (u8s m2)) (W.drewN n) := fun n => Arr.load (w := W.drewN n) Mb3 A27 (by rw [l2s]; exact hsz)
      have u3 : ∀ n, (storeVar 52 ⟨w.heap.size, 0, none⟩ (.agg (u8s m1))).run Try.prog (W.drewN n) = .ok () (W.drewN n) := fun n => Arr.same (w := W.drewN n) Mt3 (by rw [l1s]; exact hsz)
      have u4 : ∀ n, (storeVar 52 ⟨w.heap.size + 1, 0, none⟩ (.agg (u8s m2))).run Try.prog (W.drewN n) = .ok () (W.drewN n) := fun n => Arr.same (w := W.drewN n) Mb3 (by rw [l2s]; exact hsz)
      have bel4 : Below w.heap.size w W := bel3
      have y1 : ∀ n, (Instr.loadAt 52 (.pointer (some ⟨w.heap.size, 0, none⟩))).run Try.prog (W.drewN n) = .ok (.agg (u8s m1)) (W.drewN n) := fun n => by simp only [Instr.loadAt, Instr.sureAddr, Sem.run_bind, Sem.run_pure, Result.andThen]; exact u1 n
      have y2 : ∀ n, (Instr.loadAt 52 (.pointer (some ⟨w.heap.size + 1, 0, none⟩))).run Try.prog (W.drewN n) = .ok (.agg (u8s m2)) (W.drewN n) := fun n => by simp only [Instr.loadAt, Instr.sureAddr, Sem.run_bind, Sem.run_pure, Result.andThen]; exact u2 n
      have y3 : ∀ n, (Instr.storeAt 52 (.pointer (some ⟨w.heap.size, 0, none⟩)) (.agg (u8s m1))).run Try.prog (W.drewN n) = .ok () (W.drewN n) := fun n => by simp only [Instr.storeAt, Instr.sureAddr, Sem.run_bind, Sem.run_pure, Result.andThen]; exact u3 n
      have y4 : ∀ n, (Instr.storeAt 52 (.pointer (some ⟨w.heap.size + 1, 0, none⟩)) (.agg (u8s m2))).run Try.prog (W.drewN n) = .ok () (W.drewN n) := fun n => by simp only [Instr.storeAt, Instr.sureAddr, Sem.run_bind, Sem.run_pure, Result.andThen]; exact u4 n
      clear k1 k2 k3 f1 f2 f3 hz A27 hsz
      refine wp_region_quiet_lit (by kernel_rfl) (by kernel_rfl) ?_
      refine wpQuiet_step (fun K hK => ?_)
      rw [if_pos (by rfl)]
      refine quiet_load (P := Try.prog) rfl (x := .tmp 0) rfl (v := .agg (u8s m1)) (by rintro _ ⟨n, rfl⟩; exact y1 n) (hK _ ?_)
      clear hK K
      refine wpQuiet_step (fun K hK => ?_)
      rw [if_pos (by rfl)]
      refine quiet_load (P := Try.prog) rfl (x := .tmp 1) rfl (v := .agg (u8s m2)) (by rintro _ ⟨n, rfl⟩; exact y2 n) (hK _ ?_)
      clear hK K
      refine wpQuiet_step (fun K hK => ?_)
      rw [if_pos (by rfl)]
      refine quiet_store (P := Try.prog) rfl (x := .tmp 0) (y := .tmp 41) rfl rfl (by rintro _ ⟨n, rfl⟩; exact y3 n) (hK _ ?_)
      clear hK K
      refine wpQuiet_step (fun K hK => ?_)
      rw [if_pos (by rfl)]
      refine quiet_store (P := Try.prog) rfl (x := .tmp 1) (y := .tmp 42) rfl rfl (by rintro _ ⟨n, rfl⟩; exact y4 n) (hK _ ?_)
      clear hK K
      refine wpQuiet_nil ?_
      rintro _ ⟨nq, rfl⟩
      have e1 := u1 nq
      have e2 := u2 nq
      have bel5 := below_drewN bel4 nq
      clear y1 y2 y3 y4 u1 u2 u3 u4
      go_wp2_with fail
      refine bodyPost_ret (v := .tuple #[.agg (u8s m1), .agg (u8s m2)]) ?_ rfl ⟨rfl, bel5⟩
      exact results_cells2 rfl _ _ _ rfl rfl e1 e2
end Go.Proofs.Ytgdphdnghackfaa
