/- The walks of ctr's New, Flow.Turn, Flow.At (layer 5). -/
import Derived.Test.YtgdphdnghackfaaL5
import Derived.Test.YtgdphdnghackfaaR16
namespace Go.Proofs.Ytgdphdnghackfaa
open Go.RowKit Go.Shelf
section
variable {A : Act} {o : Oper} {x y : Operand} {W : World}
theorem exec_nil {a : Addr} (ho : o.op = .nilCheck x) (hx : A.eval x = .pointer (some a)) : (execOp A.eval o).run Try.prog W = .ok (.value (.pointer (some a))) W := by
  unfold execOp
  rw [ho]
  simp only [hx]
  go_simp
theorem exec_field0 {g : Nat} (ho : o.op = .fieldAddr 40 x 0) (hx : A.eval x = .pointer (some ⟨g, 0, none⟩)) : (execOp A.eval o).run Try.prog W = .ok (.value (.pointer (some ⟨g, 0, none⟩))) W := by
  unfold execOp
  rw [ho]
  simp only [hx]
  go_simp
theorem exec_field1 {g : Nat} (ho : o.op = .fieldAddr 40 x 1) (hx : A.eval x = .pointer (some ⟨g, 0, none⟩)) : (execOp A.eval o).run Try.prog W = .ok (.value (.pointer (some ⟨g, 1, none⟩))) W := by
  unfold execOp
  rw [ho]
  simp only [hx]
  go_simp
theorem ldF0 {g : Nat} {v u : Value} (h : Box W g 40 #[v, u]) : (Instr.loadAt 38 (.pointer (some ⟨g, 0, none⟩))).run Try.prog W = .ok v W := by
  have c := h.cell 0
  have c' : W.cell? ⟨g, 0, none⟩ = some v := c
  clear c
  go_simp
theorem ldF1 {g : Nat} {v u : Value} (h : Box W g 40 #[v, u]) : (Instr.loadAt 3 (.pointer (some ⟨g, 1, none⟩))).run Try.prog W = .ok u W := by
  have c := h.cell 1
  have c' : W.cell? ⟨g, 1, none⟩ = some u := c
  clear c
  go_simp
end
/-- Memory of Flow.Turn: the flow, the block's key and nonce, the text. -/
structure FmMem (w : World) (A : Option Addr) (n cap gF gn gk at' nonce : Nat) (key tx : List Nat) (W : World) : Prop where
  f : Box W gF 40 #[blkF gn gk, .int .i64 (at' : Nat)]
  bn : Box W gn 23 #[.int .u64 (nonce : Nat)]
  bk : Arr W gk 22 key
  x : TxIn W A n cap tx
  bel : Below w.heap.size w W
theorem FmMem.keep {w : World} {A : Option Addr} {n cap gF gn gk at' nonce : Nat} {key tx : List Nat} {W W' : World} (h : FmMem w A n cap gF gn gk at' nonce key tx W) (k : Below W.heap.size W W') : FmMem w A n cap gF gn gk at' nonce key tx W' :=
  ⟨h.f.keep k h.f.lt, h.bn.keep k h.bn.lt, h.bk.keep k h.bk.lt, h.x.keep k (Nat.le_refl _), h.bel.trans (k.mono h.bel.size)⟩
def ft5Deps : List (List Nat) := [[], [0], [1], [2], [], [4], [5], [6], [], [3, 7, 8], [9]]
set_option maxRecDepth 100000 in
set_option maxHeartbeats 1000000 in
theorem ft5 {Q : Exit → Act → World → Prop} {w : World} {A : Option Addr} {n cap gF gn gk at' nonce : Nat} {key tx : List Nat} {W : World} (hM0 : FmMem w A n cap gF gn gk at' nonce key tx W.drew) (hk : key.length = 16) (bk : Bytes key) (hn : n ≤ 1100000) (ha : at' < 1100000) (hN : nonce < 18446744073709551616) (v2 v3 v4 v5 v7 v8 v9 v10 v11 v12 v13 v14 v15 v16 v17 v18 v19 v20 v21 v22 v23 v24 v25 v26 v27 v28 v29 v30 v31 v32 v33 v34 v36 v37 v38 v39 v40 v41 v42 v43 v44 v45 v35 : Value)
    (hQ : ∀ g X, FmMem w A n cap gF gn gk at' nonce key tx X → w.heap.size ≤ g → Arr X g 5 (turnL key nonce at' tx) → Q .normal ⟨#[.pointer (some ⟨gF, 0, none⟩), .slice A n cap, v2, v3, v4, v5, .slice (some ⟨g, 0, none⟩) n n, v7, v8, v9, v10, v11, v12, v13, v14, v15, v16, v17, v18, v19, v20, v21, v22, v23, v24, v25, .pointer (some ⟨gF, 0, none⟩), .pointer (some ⟨gF, 0, none⟩), .pointer (some ⟨gF, 0, none⟩), blkF gn gk, .pointer (some ⟨gF, 0, none⟩), .pointer (some ⟨gF, 0, none⟩), .pointer (some ⟨gF, 1, none⟩), .int .i64 (at' : Nat), .slice A n cap, .slice (some ⟨g, 0, none⟩) n n, v36, v37, v38, v39, v40, v41, v42, v43, v44, v45], []⟩ X)
    : (Code.region 5 #[{ dst := Option.some 26, op := Go.Op.move (Go.Operand.tmp 0), type := 32, pos := "ctr.go:82", after := #[], guard := Option.none }, { dst := Option.some 27, op := Go.Op.nilCheck (Go.Operand.tmp 26), type := 0, pos := "ctr.go:82", after := #[{ on := 0, ground := Go.Ground.data }], guard := Option.none }, { dst := Option.some 28, op := Go.Op.fieldAddr 40 (Go.Operand.tmp 27) 0, type := 0, pos := "ctr.go:82", after := #[{ on := 1, ground := Go.Ground.data }], guard := Option.none }, { dst := Option.some 29, op := Go.Op.load 38 (Go.Operand.tmp 28), type := 38, pos := "ctr.go:82", after := #[{ on := 2, ground := Go.Ground.data }], guard := Option.none }, { dst := Option.some 30, op := Go.Op.move (Go.Operand.tmp 0), type := 32, pos := "ctr.go:82", after := #[], guard := Option.none }, { dst := Option.some 31, op := Go.Op.nilCheck (Go.Operand.tmp 30), type := 0, pos := "ctr.go:82", after := #[{ on := 4, ground := Go.Ground.data }], guard := Option.none }, { dst := Option.some 32, op := Go.Op.fieldAddr 40 (Go.Operand.tmp 31) 1, type := 0, pos := "ctr.go:82", after := #[{ on := 5, ground := Go.Ground.data }], guard := Option.none }, { dst := Option.some 33, op := Go.Op.load 3 (Go.Operand.tmp 32), type := 3, pos := "ctr.go:82", after := #[{ on := 6, ground := Go.Ground.data }], guard := Option.none }, { dst := Option.some 34, op := Go.Op.move (Go.Operand.tmp 1), type := 25, pos := "ctr.go:82", after := #[], guard := Option.none }, { dst := Option.some 35, op := Go.Op.call { callee := Go.Callee.value (Go.Operand.func 19), args := #[Go.Operand.tmp 29, Go.Operand.tmp 33, Go.Operand.tmp 34], argTypes := #[38, 3, 25] }, type := 25, pos := "ctr.go:82", after := #[{ on := 3, ground := Go.Ground.data }, { on := 7, ground := Go.Ground.data }, { on := 8, ground := Go.Ground.data }], guard := Option.none }, { dst := Option.some 6, op := Go.Op.assign (Go.Operand.tmp 35), type := 25, pos := "ctr.go:82", after := #[{ on := 9, ground := Go.Ground.data }, { on := 9, ground := Go.Ground.chain }, { on := 0, ground := Go.Ground.phase }, { on := 1, ground := Go.Ground.phase }, { on := 2, ground := Go.Ground.phase }, { on := 3, ground := Go.Ground.phase }, { on := 4, ground := Go.Ground.phase }, { on := 5, ground := Go.Ground.phase }, { on := 6, ground := Go.Ground.phase }, { on := 7, ground := Go.Ground.phase }, { on := 8, ground := Go.Ground.phase }, { on := 9, ground := Go.Ground.phase }], guard := Option.none }] true).wp Try.prog Q ⟨#[.pointer (some ⟨gF, 0, none⟩), .slice A n cap, v2, v3, v4, v5, undef, v7, v8, v9, v10, v11, v12, v13, v14, v15, v16, v17, v18, v19, v20, v21, v22, v23, v24, v25, v26, v27, v28, v29, v30, v31, v32, v33, v34, v35, v36, v37, v38, v39, v40, v41, v42, v43, v44, v45], []⟩ W := by
  refine wp_region_tab (n := 11) (by kernel_rfl) rfl ft5Deps (by kernel_rfl) (by kernel_rfl)
    (fun L Ac X => ∃ (b0 b1 b2 b3 b4 b5 b6 b7 b8 b9 b10 : Bool) (v35 : Value), L = [b0, b1, b2, b3, b4, b5, b6, b7, b8, b9, b10] ∧ Ac = ⟨#[.pointer (some ⟨gF, 0, none⟩), .slice A n cap, v2, v3, v4, v5, (bif b10 then v35 else undef), v7, v8, v9, v10, v11, v12, v13, v14, v15, v16, v17, v18, v19, v20, v21, v22, v23, v24, v25, (bif b0 then .pointer (some ⟨gF, 0, none⟩) else v26), (bif b1 then .pointer (some ⟨gF, 0, none⟩) else v27), (bif b2 then .pointer (some ⟨gF, 0, none⟩) else v28), (bif b3 then blkF gn gk else v29), (bif b4 then .pointer (some ⟨gF, 0, none⟩) else v30), (bif b5 then .pointer (some ⟨gF, 0, none⟩) else v31), (bif b6 then .pointer (some ⟨gF, 1, none⟩) else v32), (bif b7 then .int .i64 (at' : Nat) else v33), (bif b8 then .slice A n cap else v34), v35, v36, v37, v38, v39, v40, v41, v42, v43, v44, v45], []⟩ ∧ (FmMem w A n cap gF gn gk at' nonce key tx X) ∧ (b9 = true → ∃ g, w.heap.size ≤ g ∧ v35 = .slice (some ⟨g, 0, none⟩) n n ∧ Arr X g 5 (turnL key nonce at' tx)) ∧ (b10 = true → b9 = true)) ?_ ?_ ?_
  · exact ⟨false, false, false, false, false, false, false, false, false, false, false, v35, rfl, rfl, hM0, nofun, nofun⟩
  · intro L Ac X jx _ hj hfr hdp hI
    obtain ⟨b0, b1, b2, b3, b4, b5, b6, b7, b8, b9, b10, v35, rfl, rfl, hM, h9, c10_9⟩ := hI
    match jx, hj with
    | 0, _ =>
      obtain rfl : b0 = false := hfr
      refine wpOp_of rfl (by rfl) (op_val (v := .pointer (some ⟨gF, 0, none⟩)) (by rfl) ?_)
      exact ⟨true, b1, b2, b3, b4, b5, b6, b7, b8, b9, b10, v35, rfl, rfl, hM, h9, c10_9⟩
    | 1, _ =>
      obtain rfl : b1 = false := hfr
      obtain rfl : b0 = true := hdp 0 (by decide)
      refine wpOp_of rfl (by rfl) (op_val (v := .pointer (some ⟨gF, 0, none⟩)) (exec_nil rfl (x := .tmp 26) rfl) ?_)
      exact ⟨true, true, b2, b3, b4, b5, b6, b7, b8, b9, b10, v35, rfl, rfl, hM, h9, c10_9⟩
    | 2, _ =>
      obtain rfl : b2 = false := hfr
      obtain rfl : b1 = true := hdp 1 (by decide)
      refine wpOp_of rfl (by rfl) (op_val (v := .pointer (some ⟨gF, 0, none⟩)) (exec_field0 rfl (x := .tmp 27) rfl) ?_)
      exact ⟨b0, true, true, b3, b4, b5, b6, b7, b8, b9, b10, v35, rfl, rfl, hM, h9, c10_9⟩
    | 3, _ =>
      obtain rfl : b3 = false := hfr
      obtain rfl : b2 = true := hdp 2 (by decide)
      refine wpOp_of rfl (by rfl) (op_val (v := blkF gn gk) (exec_load rfl (x := .tmp 28) rfl (ldF0 hM.f)) ?_)
      exact ⟨b0, b1, true, true, b4, b5, b6, b7, b8, b9, b10, v35, rfl, rfl, hM, h9, c10_9⟩
    | 4, _ =>
      obtain rfl : b4 = false := hfr
      refine wpOp_of rfl (by rfl) (op_val (v := .pointer (some ⟨gF, 0, none⟩)) (by rfl) ?_)
      exact ⟨b0, b1, b2, b3, true, b5, b6, b7, b8, b9, b10, v35, rfl, rfl, hM, h9, c10_9⟩
    | 5, _ =>
      obtain rfl : b5 = false := hfr
      obtain rfl : b4 = true := hdp 4 (by decide)
      refine wpOp_of rfl (by rfl) (op_val (v := .pointer (some ⟨gF, 0, none⟩)) (exec_nil rfl (x := .tmp 30) rfl) ?_)
      exact ⟨b0, b1, b2, b3, true, true, b6, b7, b8, b9, b10, v35, rfl, rfl, hM, h9, c10_9⟩
    | 6, _ =>
      obtain rfl : b6 = false := hfr
      obtain rfl : b5 = true := hdp 5 (by decide)
      refine wpOp_of rfl (by rfl) (op_val (v := .pointer (some ⟨gF, 1, none⟩)) (exec_field1 rfl (x := .tmp 31) rfl) ?_)
      exact ⟨b0, b1, b2, b3, b4, true, true, b7, b8, b9, b10, v35, rfl, rfl, hM, h9, c10_9⟩
    | 7, _ =>
      obtain rfl : b7 = false := hfr
      obtain rfl : b6 = true := hdp 6 (by decide)
      refine wpOp_of rfl (by rfl) (op_val (v := .int .i64 (at' : Nat)) (exec_load rfl (x := .tmp 32) rfl (ldF1 hM.f)) ?_)
      exact ⟨b0, b1, b2, b3, b4, b5, true, true, b8, b9, b10, v35, rfl, rfl, hM, h9, c10_9⟩
    | 8, _ =>
      obtain rfl : b8 = false := hfr
      refine wpOp_of rfl (by rfl) (op_val (v := .slice A n cap) (by rfl) ?_)
      exact ⟨b0, b1, b2, b3, b4, b5, b6, b7, true, b9, b10, v35, rfl, rfl, hM, h9, c10_9⟩
    | 9, _ =>
      obtain rfl : b9 = false := hfr
      obtain rfl : b3 = true := hdp 3 (by decide)
      obtain rfl : b7 = true := hdp 7 (by decide)
      obtain rfl : b8 = true := hdp 8 (by decide)
      obtain rfl : b10 = false := by cases hb : b10 with | false => rfl | true => exact absurd (c10_9 hb) (by decide)
      refine wpOp_of rfl (by rfl) (op_calls (args := #[blkF gn gk, .int .i64 (at' : Nat), .slice A n cap]) Try.call19 rfl (by simp only [List.map_toArray, List.map_cons, List.map_nil]; rfl) ?_)
      refine (turn_to X gn gk at' nonce n cap A key tx hM.x hk bk hn ha hN hM.bn hM.bk at' rfl).mono fun e X' ⟨he, ho, hb⟩ => ⟨_, he, ?_⟩
      exact ⟨b0, b1, b2, true, b4, b5, b6, true, true, true, false, .slice (some ⟨X.heap.size + 1, 0, none⟩) n n, rfl, rfl, hM.keep hb, fun _ => ⟨_, by have := hM.bel.size; omega, rfl, ho⟩, fun _ => rfl⟩
    | 10, _ =>
      obtain rfl : b10 = false := hfr
      obtain rfl : b9 = true := hdp 9 (by decide)
      refine wpOp_of rfl (by rfl) (op_val (v := v35) (by rfl) ?_)
      exact ⟨b0, b1, b2, b3, b4, b5, b6, b7, b8, true, true, v35, rfl, rfl, hM, h9, fun _ => rfl⟩
    | jx + 11, h => omega
  · intro L Ac X _ hall hI
    obtain ⟨b0, b1, b2, b3, b4, b5, b6, b7, b8, b9, b10, v35, rfl, rfl, hM, h9, -⟩ := hI
    simp at hall
    obtain ⟨rfl, rfl, rfl, rfl, rfl, rfl, rfl, rfl, rfl, rfl, rfl⟩ := hall
    obtain ⟨g, h1, rfl, h2⟩ := h9 rfl
    exact hQ g X hM h1 h2
theorem eqNil (f : Fn) (a b : Array Value) (w : World) : (binOp .eql 38 (.func f a b) .nilFunc).run Try.prog w = .ok (.bool false) w := by
  rfl
theorem eqNil2 (w : World) : (binOp .eql 38 .nilFunc .nilFunc).run Try.prog w = .ok (.bool true) w := by
  rfl
theorem New_to (w : World) (nonce : Nat) (key : List Nat) (hk : key.length = 16) : Calls Try.prog 13 #[.agg (u8s key), .int .u64 nonce] w fun e w' => ∃ gF gn gk, e = .returned (.pointer (some ⟨gF, 0, none⟩)) ∧ w.heap.size ≤ gF ∧ w.heap.size ≤ gn ∧ w.heap.size ≤ gk ∧ gn ≠ gF ∧ gk ≠ gF ∧ Box w' gF 40 #[blkF gn gk, .int .i64 (0 : Nat)] ∧ Box w' gn 23 #[.int .u64 (nonce : Nat)] ∧ Arr w' gk 22 key ∧ Below w.heap.size w w' := by
  have A0 : Arr (w.alloc (.cells (u8s key) 22)) w.heap.size 22 key := Box.new w 22 (u8s key)
  have u1 : (Instr.loadAt 22 (.pointer (some ⟨w.heap.size, 0, none⟩))).run Try.prog (w.alloc (.cells (u8s key) 22)) = .ok (.agg (u8s key)) (w.alloc (.cells (u8s key) 22)) := A0.loadAt Try.underlying22 (by rw [hk]; exact size22)
  clear A0
  replace u1 := Kp.mk u1
  go_enter Try.func13, Try.ntmps13
  go_wp2_with ((with_reducible refine wpl_id ?_); (refine wpList_load rfl (t := 22) (x := .tmp 2) rfl rfl u1.out ?_))
  refine (blocks_to _ nonce key).mono ?_
  rintro _ w' ⟨rfl, rfl⟩
  obtain ⟨m1, m2, m3⟩ := blocks_mem (w.alloc (.cells (u8s key) 22)) nonce key
  have m0 := ((Below.refl w.heap.size w).alloc (Nat.le_refl _) (.cells (u8s key) 22))
  have m4 := m0.trans (m3.mono m0.size)
  rw [World.size_alloc] at m1 m2
  have hsz : (((w.alloc (.cells (u8s key) 22)).alloc (.cells (u8s key) 22)).alloc (.cells #[.int .u64 nonce] 23)).heap.size = w.heap.size + 3 := by simp
  generalize (((w.alloc (.cells (u8s key) 22)).alloc (.cells (u8s key) 22)).alloc (.cells #[.int .u64 nonce] 23)) = w2 at m1 m2 m3 m4 hsz ⊢
  clear u1
  go_wp2_with fail
  go_ret
  exact ⟨w.heap.size + 3, w.heap.size + 1 + 1, w.heap.size + 1, rfl, by omega, by omega, by omega, by omega, by omega, box_new 40 _ hsz.symm, box_old m1 _ _, m2.alloc _, m4.alloc m4.size _⟩
set_option maxRecDepth 100000 in
set_option maxHeartbeats 1000000 in
theorem FlowTurn_to (w : World) (gF gn gk at' nonce n cap : Nat) (A : Option Addr) (key tx : List Nat) (hF : Box w gF 40 #[blkF gn gk, .int .i64 (at' : Nat)]) (hb : Box w gn 23 #[.int .u64 (nonce : Nat)]) (hK : Arr w gk 22 key) (h : TxIn w A n cap tx) (hk : key.length = 16) (bk : Bytes key) (hfit : at' ≤ 1048576 ∧ n ≤ 1048576 - at') (hN : nonce < 18446744073709551616) :
    Calls Try.prog 14 #[.pointer (some ⟨gF, 0, none⟩), .slice A n cap] w fun e w' => ∃ g, w.heap.size ≤ g ∧ e = .returned (.tuple #[.slice (some ⟨g, 0, none⟩) n n, .int .i64 0]) ∧ Arr w' g 5 (turnL key nonce at' tx) ∧ Box w' gF 40 #[blkF gn gk, .int .i64 (at' + n : Nat)] ∧ w.grownBy w' (some gF) := by
  have kf := eqNil
  have c0 := hF.cell 0
  have c0' : w.cell? ⟨gF, 0, none⟩ = some (.func (.func 27) #[] #[.pointer (some ⟨gn, 0, none⟩), .pointer (some ⟨gk, 0, none⟩)]) := c0
  have c1 := hF.cell 1
  have c1' : w.cell? ⟨gF, 1, none⟩ = some (.int .i64 (at' : Nat)) := c1
  have M0 : FmMem w A n cap gF gn gk at' nonce key tx w := ⟨hF, hb, hK, h, Below.refl _ _⟩
  replace M0 := Kp.mk M0
  have hFl := hF.lt
  have x1 := IntWalk.i64_in ((at' : Int) + n) (by omega)
  clear c0 c1 hF hb hK h
  go_enter Try.func14, Try.ntmps14
  go_wp2_with fail
  refine (fits_to _ (at' : Int) (n : Int) (by omega) (by omega)).mono ?_
  rintro _ w' ⟨rfl, rfl⟩
  rw [decide_eq_true (by omega)]
  go_wp2_with fail
  refine ft5 (M0.out.keep (Below.refl _ _).drew) hk bk (by omega) (by omega) hN _ _ _ _ _ _ _ _ _ _ _ _ _ _ _ _ _ _ _ _ _ _ _ _ _ _ _ _ _ _ _ _ _ _ _ _ _ _ _ _ _ _ _ ?_
  intro g X M hg ho
  clear c0' c1' M0
  have d1 := M.f.cell 1
  have d1' : X.cell? ⟨gF, 1, none⟩ = some (.int .i64 (at' : Nat)) := d1
  have fr := M.f.frozen 1
  have P := M.f.put 1 (.int .i64 (at' + n : Nat))
  have bel := M.bel
  have O2 := ho.far (p := ⟨gF, 1, none⟩) (by simp; omega) (.int .i64 (at' + n : Nat))
  clear d1 M ho
  rw [show (Value.int .i64 ((at' + n : Nat) : Int)) = .int .i64 ((at' : Int) + n) by rw [show ((at' + n : Nat) : Int) = (at' : Int) + n by omega]] at P O2
  replace P := Kp.mk P
  replace O2 := Kp.mk O2
  replace bel := Kp.mk bel
  go_wp2_with fail
  refine bodyPost_ret (v := .tuple #[.slice (some ⟨g, 0, none⟩) n n, .int .i64 0]) (by simp [results, Try.f14, go_sem]) rfl ⟨g, hg, rfl, O2.out, ?_, ?_⟩
  · have e : ((at' + n : Nat) : Int) = (at' : Int) + n := by omega
    rw [e]
    exact P.out
  · exact ⟨bel.out.os, bel.out.tape, bel.out.output, by rw [World.size_setCell]; exact bel.out.size, fun k hk' hne => (Below.heap_setCell X ⟨gF, 1, none⟩ _ k (fun e => hne (by rw [e]))).trans (bel.out.block k hk')⟩
theorem FlowTurn_no (w : World) (gF gn gk at' n cap : Nat) (A : Option Addr) (hF : Box w gF 40 #[blkF gn gk, .int .i64 (at' : Nat)]) (ha : at' ≤ 1048576) (hfit : 1048576 - at' < n) :
    Calls Try.prog 14 #[.pointer (some ⟨gF, 0, none⟩), .slice A n cap] w fun e w' => e = .returned (.tuple #[.slice none 0 0, .int .i64 3]) ∧ w' = w := by
  have kf := eqNil
  have c0 := hF.cell 0
  have c0' : w.cell? ⟨gF, 0, none⟩ = some (.func (.func 27) #[] #[.pointer (some ⟨gn, 0, none⟩), .pointer (some ⟨gk, 0, none⟩)]) := c0
  have c1 := hF.cell 1
  have c1' : w.cell? ⟨gF, 1, none⟩ = some (.int .i64 (at' : Nat)) := c1
  clear c0 c1 hF
  go_enter Try.func14, Try.ntmps14
  go_wp2_with fail
  refine (fits_to _ (at' : Int) (n : Int) (by omega) (by omega)).mono ?_
  rintro _ w' ⟨rfl, rfl⟩
  rw [decide_eq_false (by omega)]
  go_wp2_with fail
  exact bodyPost_ret (v := .tuple #[.slice none 0 0, .int .i64 3]) (by simp [results, Try.f14, go_sem]) rfl ⟨rfl, rfl⟩
theorem At_to (w : World) (gF : Nat) (at' : Int) (fn : Value) (hF : Box w gF 40 #[fn, .int .i64 at']) : Calls Try.prog 16 #[.pointer (some ⟨gF, 0, none⟩)] w fun e w' => e = .returned (.int .i64 at') ∧ w' = w := by
  have c1 := hF.cell 1
  have c1' : w.cell? ⟨gF, 1, none⟩ = some (.int .i64 at') := c1
  clear c1 hF
  go_enter Try.func16, Try.ntmps16
  go_wp2_with fail
  go_ret
  exact ⟨rfl, rfl⟩
theorem At_nil (w : World) : Calls Try.prog 16 #[.pointer none] w fun e w' => e = .returned (.int .i64 0) ∧ w' = w := by
  go_enter Try.func16, Try.ntmps16
  go_wp2_with fail
  go_ret
  exact ⟨rfl, rfl⟩
theorem FlowTurn_nil (w : World) (v : Value) : Calls Try.prog 14 #[.pointer none, v] w fun e w' => e = .returned (.tuple #[.slice none 0 0, .int .i64 1]) ∧ w' = w := by
  go_enter Try.func14, Try.ntmps14
  go_wp2_with fail
  exact bodyPost_ret (v := .tuple #[.slice none 0 0, .int .i64 1]) (by simp [results, Try.f14, go_sem]) rfl ⟨rfl, rfl⟩
theorem FlowTurn_zero (w : World) (gF : Nat) (u v : Value) (hF : Box w gF 40 #[.nilFunc, u]) : Calls Try.prog 14 #[.pointer (some ⟨gF, 0, none⟩), v] w fun e w' => e = .returned (.tuple #[.slice none 0 0, .int .i64 1]) ∧ w' = w := by
  have kf := eqNil2
  have c0 := hF.cell 0
  have c0' : w.cell? ⟨gF, 0, none⟩ = some .nilFunc := c0
  clear c0 hF
  go_enter Try.func14, Try.ntmps14
  go_wp2_with fail
  exact bodyPost_ret (v := .tuple #[.slice none 0 0, .int .i64 1]) (by simp [results, Try.f14, go_sem]) rfl ⟨rfl, rfl⟩
end Go.Proofs.Ytgdphdnghackfaa
