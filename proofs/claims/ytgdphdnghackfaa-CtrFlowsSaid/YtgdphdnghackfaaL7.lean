/- The walk of the law CtrNone (layer 5). -/
import Derived.Test.YtgdphdnghackfaaR19
namespace Go.Proofs.Ytgdphdnghackfaa
open Go.RowKit Go.Shelf
attribute [local go_sem] Oper.semAt_some
theorem Blocks_nil (w : World) : Calls Try.prog 15 #[.pointer none] w fun e w' => e = .returned (.func (.func 24) #[] #[]) ∧ w' = w := by
  go_enter Try.func15, Try.ntmps15
  go_wp2_with fail
  go_ret
  exact ⟨rfl, rfl⟩
theorem Blocks_zero (w : World) (gF : Nat) (u : Value) (hF : Box w gF 40 #[.nilFunc, u]) : Calls Try.prog 15 #[.pointer (some ⟨gF, 0, none⟩)] w fun e w' => e = .returned (.func (.func 24) #[] #[]) ∧ w' = w := by
  have kf := eqNil2
  have c0 := hF.cell 0
  have c0' : w.cell? ⟨gF, 0, none⟩ = some .nilFunc := c0
  clear c0 hF
  go_enter Try.func15, Try.ntmps15
  go_wp2_with fail
  go_ret
  exact ⟨rfl, rfl⟩
def noEnc (_ : Nat) : Array Value := #[undef, undef]
theorem none_seq (n : Nat) (w : World) : SeqStopsK Fence.wide n Try.prog 24 #[] noEnc (fun _ _ => True) (fun ys => ys = []) (fun _ => False) 0 w := fun l J Jx W hW hJ _ hY h0 => by
  refine callsIn_of_wp Try.func24 rfl trivial ?_ rfl
  simp only [Try.ntmps24, List.size_toArray, List.length_cons, List.length_nil, Nat.reduceAdd, Nat.reduceSub, Array.replicate_succ, Array.replicate_zero, List.push_toArray, List.append_toArray, List.nil_append, List.cons_append]
  gi_wp2
  go_end0
  exact ⟨⟨_, rfl⟩, h0⟩
/-- Memory of the law: the answer, the flow that New did not make. -/
structure NoMem (w : World) (W : World) : Prop where
  r : Box W w.heap.size 4 #[.bool false]
  f : Box W (w.heap.size + 1) 40 #[.nilFunc, .int .i64 0]
  bel : Below w.heap.size w W
theorem NoMem.keep {w W W' : World} (h : NoMem w W) (k : Below W.heap.size W W') : NoMem w W' := ⟨h.r.keep k h.r.lt, h.f.keep k h.f.lt, h.bel.trans (k.mono h.bel.size)⟩
theorem NoMem.grown {w W W' : World} (h : NoMem w W) {row : Option Nat} (hg : W.grownBy W' row) (hr : ∀ r, row = some r → w.heap.size ≤ r ∧ ∃ o : Obj, W.heap[r]? = some o ∧ o.isCells = false) : NoMem w W' := by
  have hr2 : ∀ r, row = some r → ∃ o : Obj, W.heap[r]? = some o ∧ o.isCells = false := fun r e => (hr r e).2
  have hb : Below w.heap.size w W' := h.bel.trans ⟨hg.os, hg.tape, hg.output, hg.size, fun k hk => hg.block k (Nat.lt_of_lt_of_le hk h.bel.size) (fun e => by have := (hr k e.symm).1; omega)⟩
  exact ⟨box_grown h.r hg hr2, box_grown h.f hg hr2, hb⟩
set_option maxRecDepth 100000 in
set_option maxHeartbeats 2000000 in
theorem none_in (k : Nat) (hk2 : 3 ≤ k) (w : World) (v : Value) (n cap : Nat) (A : Option Addr) (hv : v = .slice A n cap) :
    CallsIn Fence.wide k Try.prog 7 #[v] w fun e w' => e = .returned (.bool true) ∧ Below w.heap.size w w' := by
  subst hv
  have kf := eqNil
  have kg : ∀ (f : Fn) (a b : Array Value) (w : World), (binOp .eql 42 (.func f a b) .nilFunc).run Try.prog w = .ok (.bool false) w := fun _ _ _ _ => rfl
  refine callsIn_of_wp_marks Try.func7 rfl trivial ?_ rfl
  simp only [Try.ntmps7, List.size_toArray, List.length_cons, List.length_nil, Nat.reduceAdd, Nat.reduceSub, Array.replicate_succ, Array.replicate_zero, List.push_toArray, List.append_toArray, List.nil_append, List.cons_append]
  gi_wp2
  refine ⟨trivial, fun h => (by cases h), ?_⟩
  refine callsIn_wide.2 ((FlowTurn_nil _ _).mono ?_)
  rintro _ w' ⟨rfl, rfl⟩
  gi_wp2
  have N0 : NoMem w ((w.alloc (.cells #[.bool false] 4)).alloc (.cells #[.nilFunc, .int .i64 0] 40)) := ⟨box_old (Box.new w 4 _) _ _, box_new 40 _ (by simp), ((Below.refl _ _).alloc (Nat.le_refl _) _).alloc (by simp) _⟩
  generalize ((w.alloc (.cells #[.bool false] 4)).alloc (.cells #[.nilFunc, .int .i64 0] 40)) = w2 at N0 ⊢
  refine ⟨trivial, fun h => (by cases h), ?_⟩
  refine callsIn_wide.2 ((FlowTurn_zero _ _ _ _ N0.f).mono ?_)
  rintro _ w' ⟨rfl, rfl⟩
  gi_wp2
  refine ⟨trivial, fun h => (by cases h), ?_⟩
  refine callsIn_wide.2 ((Blocks_nil _).mono ?_)
  rintro _ w' ⟨rfl, rfl⟩
  gi_wp2
  refine ⟨trivial, fun h => (by cases h), ?_⟩
  refine callsIn_wide.2 ((Blocks_zero _ _ _ N0.f).mono ?_)
  rintro _ w' ⟨rfl, rfl⟩
  replace N0 := Kp.mk N0
  gi_wp2
  refine wpIn_rangeFunc_ownH rfl (by omega) (gf := 24) (lb := #[]) rfl trivial (enters_of Try.func24 (by kernel_rfl) rfl) (none_seq (k - 1) w') (fun _ _ => trivial) (fun _ _ _ _ _ _ _ _ => trivial) (Below.refl _ _) (fun _ => rfl)
    (fun _ W => NoMem w W) (fun _ _ _ => False)
    (fun s B D row hs hg hr => hs.grown hg (fun r e => ⟨Nat.le_trans N0.out.bel.size (hr r e).1, (hr r e).2⟩)) (fun c s B D row hs _ _ => hs.elim) N0.out (fun _ _ _ => True) ?hAx ?assign ?body ?done ?stop
  case hAx => exact fun _ _ _ _ _ _ _ _ _ => trivial
  case assign =>
    rintro l pre x W K hI hK
    refine wpIn_skip ?_
    exact hK _ _ (KeepsFrom.refl _ _) trivial hI trivial
  case body => intro l pre x a' W _ _ _ _ h; exact absurd h (Nat.not_lt_zero _)
  case stop => intro D c pre W _ _ h; exact h.elim
  case done =>
    rintro D ys W hD rfl hI hdef
    have hDl := (Array.getElem?_eq_some_iff.1 hdef).1
    have hwl := N0.out.f.lt
    clear N0
    replace hI := Kp.mk hI
    replace hdef := Kp.mk hdef
    gi_wp2
    refine wpIn_rangeFunc_ownH rfl (by omega) (gf := 24) (lb := #[]) rfl trivial (enters_of Try.func24 (by kernel_rfl) rfl) (none_seq (k - 1) W) (fun _ _ => trivial) (fun _ _ _ _ _ _ _ _ => trivial) (Below.refl _ _) (fun _ => rfl)
      (fun _ V => NoMem w V ∧ V.heap[D]? = some (.deferred (some []))) (fun _ _ _ => False)
      (fun s B E row hs hg hr => ⟨hs.1.grown hg (fun r e => ⟨Nat.le_trans hI.out.bel.size (hr r e).1, (hr r e).2⟩), (hg.block D (Array.getElem?_eq_some_iff.1 hs.2).1 (fun e => by have := (hr D e.symm).1; omega)).trans hs.2⟩) (fun c s B E row hs _ _ => hs.elim) ⟨hI.out, hdef.out⟩ (fun _ _ _ => True) ?hAx2 ?assign2 ?body2 ?done2 ?stop2
    case hAx2 => exact fun _ _ _ _ _ _ _ _ _ => trivial
    case assign2 =>
      rintro l pre x W K hI hK
      refine wpIn_skip ?_
      exact hK _ _ (KeepsFrom.refl _ _) trivial hI trivial
    case body2 => intro l pre x a' W _ _ _ _ h; exact absurd h (Nat.not_lt_zero _)
    case stop2 => intro D c pre W _ _ h; exact h.elim
    case done2 =>
      rintro D2 ys2 W2 hD2 rfl ⟨hI2, hdef1⟩ hdef2
      have hD1l := (Array.getElem?_eq_some_iff.1 hdef1).1
      have hD2l := (Array.getElem?_eq_some_iff.1 hdef2).1
      clear hI hdef
      replace hI2 := Kp.mk hI2
      replace hdef1 := Kp.mk hdef1
      replace hdef2 := Kp.mk hdef2
      gi_wp2
      refine ⟨trivial, fun h => (by cases h), ?_⟩
      refine callsIn_wide.2 ((At_nil _).mono ?_)
      rintro _ w' ⟨rfl, rfl⟩
      gi_wp2
      refine ⟨trivial, fun h => (by cases h), ?_⟩
      refine callsIn_wide.2 ((At_to _ _ _ _ hI2.out.f).mono ?_)
      rintro _ w' ⟨rfl, rfl⟩
      gi_wp2
      refine ⟨trivial, fun h => (by cases h), ?_⟩
      refine callsIn_wide.2 ((known_to _).mono ?_)
      rintro _ W5 ⟨rfl, H5⟩
      have M5 := hI2.out.keep H5
      have e1 := (H5.block D hD1l).trans hdef1.out
      have e2 := (H5.block D2 hD2l).trans hdef2.out
      have r1 := M5.r.cell 0
      have r1' : W5.cell? ⟨w.heap.size, 0, none⟩ = some (.bool false) := r1
      have fr := M5.r.frozen 0
      have P := M5.r.put 0 (.bool true)
      have bel := M5.bel.setCell (p := ⟨w.heap.size, 0, none⟩) (Nat.le_refl _) (.bool true)
      clear r1 hI2 hdef1 hdef2 M5 H5
      replace e1 := Kp.mk e1
      replace e2 := Kp.mk e2
      replace P := Kp.mk P
      replace bel := Kp.mk bel
      gi_wp2
      have g1 : (W5.setCell ⟨w.heap.size, 0, none⟩ (.bool true)).heap[D]? = some (.deferred (some [])) := (Below.heap_setCell W5 ⟨w.heap.size, 0, none⟩ _ D (by simp; omega)).trans e1.out
      have g2 : (W5.setCell ⟨w.heap.size, 0, none⟩ (.bool true)).heap[D2]? = some (.deferred (some [])) := (Below.heap_setCell W5 ⟨w.heap.size, 0, none⟩ _ D2 (by simp; omega)).trans e2.out
      refine ⟨by simp, .inl ⟨_, _, rfl, run_takeDeferred g2, ?_⟩⟩
      have q1 := grownBy_putObj' (W5.setCell ⟨w.heap.size, 0, none⟩ (.bool true)) D2 (.deferred none)
      have D1lt := (Array.getElem?_eq_some_iff.1 g1).1
      have g1' := (q1.block D D1lt (fun e => by cases e; omega)).trans g1
      refine ⟨by simp, .inl ⟨_, _, rfl, run_takeDeferred g1', ?_⟩⟩
      have q2 := grownBy_putObj' ((W5.setCell ⟨w.heap.size, 0, none⟩ (.bool true)).putObj D2 (.deferred none)) D (.deferred none)
      have Z1 := P.out.grown q1 (fun e => by cases e; omega)
      have Z2 := Z1.grown q2 (fun e => by cases e; omega)
      have hb := bel.out.trans ((belowK_b (w := w) (Nat.le_refl _) _ D2 _ (.deferred none) (by omega) g2 rfl rfl).trans (belowK_b (w := w) (Nat.le_refl _) _ D _ (.deferred none) (by omega) g1' rfl rfl))
      have u := Z2.cell 0
      have u' : (((W5.setCell ⟨w.heap.size, 0, none⟩ (.bool true)).putObj D2 (.deferred none)).putObj D (.deferred none)).cell? ⟨w.heap.size, 0, none⟩ = some (.bool true) := u
      refine ⟨.bool true, ?_, rfl, hb⟩
      clear u
      simp [results, Try.f7, go_sem, u']
theorem none_any (A : Option Addr) (n cap : Nat) (zs : List Int) (w : World) (_hs : SlIn w .u8 A n cap zs) : Calls Try.prog 7 #[.slice A n cap] w fun e w' => e = .returned (.bool true) ∧ Below w.heap.size w w' :=
  callsIn_wide.1 (none_in 3 (Nat.le_refl _) w _ n cap A rfl)
end Go.Proofs.Ytgdphdnghackfaa
