/- The drawn regions of the law CtrTwice (layer 5). -/
import Derived.Test.YtgdphdnghackfaaR19
namespace Go.Proofs.Ytgdphdnghackfaa
open Go.RowKit Go.Shelf
section
variable {A : Act} {o : Oper} {x y : Operand} {z t : TypeId} {W : World}
theorem exec_upto {B : Option Addr} {n i k : Nat} {cap : Nat} (ho : o.op = .slice 25 x none (some (.tmp k)) none) (hx : A.eval x = .slice B n cap) (hy : A.eval (.tmp k) = .int .i64 (i : Nat)) (hi : i ≤ n) (hn : n ≤ cap) : (execOp A.eval o).run Try.prog W = .ok (.value (.slice B i cap)) W := by
  have h3 : (i : Int) ≤ (cap : Int) := by omega
  have hy' : A.tmps[k]?.getD undef = .int .i64 (i : Nat) := by rw [← Array.getD_eq_getD_getElem?]; exact hy
  unfold execOp
  rw [ho]
  simp only [hx]
  cases B
  · go_simp
  · go_simp
def fromA (B : Option Addr) (cap i : Nat) : Option Addr := B.map fun a => if cap = i then a else a.add i
theorem exec_fromA {B : Option Addr} {n i k : Nat} {cap : Nat} (ho : o.op = .slice 25 x (some (.tmp k)) none none) (hx : A.eval x = .slice B n cap) (hy : A.eval (.tmp k) = .int .i64 (i : Nat)) (hi : i ≤ n) (hn : n ≤ cap) : (execOp A.eval o).run Try.prog W = .ok (.value (.slice (fromA B cap i) (n - i) (cap - i))) W := by
  have h1 : (i : Int) ≤ (n : Int) := by omega
  have h2 : (n : Int) ≤ (cap : Int) := by omega
  have hy' : A.tmps[k]?.getD undef = .int .i64 (i : Nat) := by rw [← Array.getD_eq_getD_getElem?]; exact hy
  unfold execOp fromA
  rw [ho]
  simp only [hx]
  cases B
  · go_simp
  · go_simp
    split <;> rfl
theorem exec_addS {p q : ByteArray} (ho : o.op = .binOp .add 9 x y z) (hx : A.eval x = .string p) (hy : A.eval y = .string q) (hsz : p.size + q.size ≤ 9223372036854775807) : (execOp A.eval o).run Try.prog W = .ok (.value (.string (p ++ q))) W := by
  unfold execOp
  rw [ho]
  simp only [hx, hy]
  go_simp
theorem exec_ne34 (ho : o.op = .binOp .neq 34 x (.const (.int .i64 0)) z) (hx : A.eval x = .int .i64 0) : (execOp A.eval o).run Try.prog W = .ok (.value (.bool false)) W := by
  unfold execOp
  rw [ho]
  have hc : A.eval (.const (.int .i64 0)) = .int .i64 0 := rfl
  simp only [hx, hc]
  go_simp
theorem exec_ne5 {p q : Nat} (ho : o.op = .binOp .neq 5 x y z) (hx : A.eval x = .int .u8 (p : Nat)) (hy : A.eval y = .int .u8 (q : Nat)) (h : p = q) : (execOp A.eval o).run Try.prog W = .ok (.value (.bool false)) W := by
  subst h
  unfold execOp
  rw [ho]
  simp only [hx, hy]
  go_simp
end
theorem TxIn.upto {w : World} {A : Option Addr} {n cap i : Nat} {tx : List Nat} (h : TxIn w A n cap tx) (hi : i ≤ n) : TxIn w A i cap (tx.take i) := by
  refine ⟨by rw [List.length_take, h.len]; omega, fun x hx => h.b x (List.mem_of_mem_take hx), ⟨by simp [h.len]; omega, fun hn => ?_⟩, by have := h.sl.2.1; omega, h.sl.2.2.1, tx_wf fun x hx => h.b x (List.mem_of_mem_take hx)⟩
  obtain ⟨b, o, e, hb, hc⟩ := h.sl.1.2 (by omega)
  refine ⟨b, o, e, hb, fun j hj => ?_⟩
  rw [hc j (by omega)]
  simp [hj]
theorem TxIn.fromB {w : World} {A : Option Addr} {n cap i : Nat} {tx : List Nat} (h : TxIn w A n cap tx) (hi : i ≤ n) : TxIn w (fromA A cap i) (n - i) (cap - i) (tx.drop i) := by
  have hnc := h.sl.2.1
  unfold fromA
  refine ⟨by simp [h.len], fun x hx => h.b x (List.mem_of_mem_drop hx), ⟨by simp [h.len], fun hn => ?_⟩, by omega, by have := h.sl.2.2.1; omega, tx_wf fun x hx => h.b x (List.mem_of_mem_drop hx)⟩
  obtain ⟨b, o, rfl, hb, hc⟩ := h.sl.1.2 (by omega)
  refine ⟨b, o + i, ?_, hb, fun j hj => ?_⟩
  · simp only [Option.map_some]
    rw [if_neg (by omega), add_none]
  · rw [Nat.add_assoc, hc (i + j) (by omega)]
    simp
/-- Memory of the law: the key, the text, the text turned, its two pieces turned, the stream's piece. -/
structure TwMem (w : World) (A : Option Addr) (n cap ga gx gy gs c m nonce : Nat) (key tx : List Nat) (W : World) : Prop where
  k : Arr W w.heap.size 22 key
  x : TxIn W A n cap tx
  a : TxIn W (some ⟨ga, 0, none⟩) n n (turnL key nonce 0 tx)
  xx : TxIn W (some ⟨gx, 0, none⟩) c c (turnL key nonce 0 (tx.take c))
  yy : TxIn W (some ⟨gy, 0, none⟩) m m (turnL key nonce c (tx.drop c))
  ss : TxIn W (some ⟨gs, 0, none⟩) m m (turnL key nonce c (List.replicate m 0))
  bel : Below w.heap.size w W
theorem TwMem.keep {w : World} {A : Option Addr} {n cap ga gx gy gs c m nonce : Nat} {key tx : List Nat} {W W' : World} (h : TwMem w A n cap ga gx gy gs c m nonce key tx W) (k : Below W.heap.size W W') : TwMem w A n cap ga gx gy gs c m nonce key tx W' :=
  ⟨h.k.keep k h.k.lt, h.x.keep k (Nat.le_refl _), h.a.keep k (Nat.le_refl _), h.xx.keep k (Nat.le_refl _), h.yy.keep k (Nat.le_refl _), h.ss.keep k (Nat.le_refl _), h.bel.trans (k.mono h.bel.size)⟩
def tw12Deps : List (List Nat) := [[], [0], [1], [2], [3, 2], [2, 4], [5], [6], [7, 6], [6], [9, 6], [8, 10, 6], [6], [12, 6], [11, 13, 6], [6, 14], [15], [16], [16], [16], [17, 18, 19, 16], [20, 16], [16], [22, 16], [21, 23, 16], [16, 24], [25], [26], [27, 26], [26], [29, 26], [26], [30, 31, 26], [28, 32, 26], [26, 33]]
set_option maxRecDepth 100000 in
set_option maxHeartbeats 1000000 in
theorem tw12 {Q : Exit → Act → World → Prop} {w : World} {A : Option Addr} {n cap ga gx gy gs c m nonce : Nat} {key tx : List Nat} {sx sy st : ByteArray} {W : World} (hM0 : TwMem w A n cap ga gx gy gs c m nonce key tx W.drew) (hsx : strN (turnL key nonce 0 (tx.take c)) = sx) (hsy : strN (turnL key nonce c (tx.drop c)) = sy) (hsa : strN (turnL key nonce 0 tx) = sx ++ sy) (hst : strN tx = st) (hsz : sx.size + sy.size ≤ 9223372036854775807) (hk : key.length = 16) (bk : Bytes key) (hn : n ≤ 1100000) (hN : nonce < 18446744073709551616) (hsub : IntKind.i64.wrap ((n : Int) - c) = m) (v5 v6 v7 v8 v10 v16 v17 v18 v19 v20 v21 v22 v23 v24 v25 v26 v27 v28 v29 v30 v31 v32 v33 v34 v35 v36 v37 v38 v39 v40 v41 v42 v43 v44 v45 v46 v47 v48 v49 v50 v51 v52 v53 v54 v55 v56 v57 v58 v59 v60 v61 v62 v63 v64 v65 v66 v67 v68 v69 v70 v71 v72 v73 v74 v75 v76 v77 v78 v79 v80 v81 v82 v83 v84 v86 v87 v88 v89 v90 v91 v92 v93 v94 v95 v96 v97 v98 v99 v100 v101 v102 v103 v104 v105 v106 v107 v108 v109 v110 v111 v112 v113 v114 v115 v116 v117 v118 v119 v120 v121 v122 v123 v85 : Value)
    (hQ : ∀ v85 X, TwMem w A n cap ga gx gy gs c m nonce key tx X → Q .normal ⟨#[.agg (u8s key), .int .u64 nonce, .slice A n cap, .int .i64 (c : Nat), .pointer (some ⟨w.heap.size, 0, none⟩), v5, v6, v7, v8, .slice (some ⟨ga, 0, none⟩) n n, v10, .slice (some ⟨gx, 0, none⟩) c c, .int .i64 0, .slice (some ⟨gy, 0, none⟩) m m, .int .i64 0, .slice (some ⟨gs, 0, none⟩) m m, v16, v17, v18, v19, v20, v21, v22, v23, v24, v25, v26, v27, v28, v29, v30, v31, v32, v33, v34, v35, v36, v37, v38, v39, v40, v41, v42, v43, v44, v45, v46, v47, v48, v49, v50, v51, v52, v53, v54, v55, v56, v57, v58, v59, v60, v61, v62, v63, v64, .int .i64 0, .bool false, .bool false, .int .i64 0, .bool false, .bool false, .bool false, .slice (some ⟨gx, 0, none⟩) c c, .string sx, .slice (some ⟨gy, 0, none⟩) m m, .string sy, .string (sx ++ sy), .slice (some ⟨ga, 0, none⟩) n n, .string (sx ++ sy), .bool false, .bool false, .bool false, .agg (u8s key), .int .u64 nonce, .slice (some ⟨ga, 0, none⟩) n n, v85, .string st, .slice A n cap, .string st, .bool false, .bool false, .bool false, .slice (some ⟨gs, 0, none⟩) m m, .int .i64 m, .slice A n cap, .int .i64 n, .int .i64 (c : Nat), .int .i64 m, .bool false, .bool false, v100, v101, v102, v103, v104, v105, v106, v107, v108, v109, v110, v111, v112, v113, v114, v115, v116, v117, v118, v119, v120, v121, v122, v123], []⟩ X)
    : (Code.region 12 #[{ dst := Option.some 65, op := Go.Op.move (Go.Operand.tmp 12), type := 34, pos := "outright.go:26", after := #[], guard := Option.none }, { dst := Option.some 66, op := Go.Op.binOp Go.BinOp.neq 34 (Go.Operand.tmp 65) (Go.Operand.const (Go.Value.int Go.IntKind.i64 0)) 34, type := 4, pos := "outright.go:26", after := #[{ on := 0, ground := Go.Ground.data }], guard := Option.none }, { dst := Option.some 67, op := Go.Op.move (Go.Operand.tmp 66), type := 4, pos := "outright.go:26", after := #[{ on := 1, ground := Go.Ground.data }], guard := Option.none }, { dst := Option.some 68, op := Go.Op.move (Go.Operand.tmp 14), type := 34, pos := "outright.go:26", after := #[{ on := 2, ground := Go.Ground.guard }], guard := Option.some (2, Bool.false) }, { dst := Option.some 69, op := Go.Op.binOp Go.BinOp.neq 34 (Go.Operand.tmp 68) (Go.Operand.const (Go.Value.int Go.IntKind.i64 0)) 34, type := 4, pos := "outright.go:26", after := #[{ on := 3, ground := Go.Ground.data }, { on := 2, ground := Go.Ground.guard }], guard := Option.some (2, Bool.false) }, { dst := Option.some 70, op := Go.Op.pick (Go.Operand.tmp 67) (Go.Operand.const (Go.Value.bool Bool.true)) (Go.Operand.tmp 69), type := 4, pos := "outright.go:26", after := #[{ on := 2, ground := Go.Ground.data }, { on := 4, ground := Go.Ground.data }], guard := Option.none }, { dst := Option.some 71, op := Go.Op.move (Go.Operand.tmp 70), type := 4, pos := "outright.go:26", after := #[{ on := 5, ground := Go.Ground.data }, { on := 2, ground := Go.Ground.chain }], guard := Option.none }, { dst := Option.some 72, op := Go.Op.move (Go.Operand.tmp 11), type := 25, pos := "outright.go:26", after := #[{ on := 6, ground := Go.Ground.guard }], guard := Option.some (6, Bool.false) }, { dst := Option.some 73, op := Go.Op.convert 25 9 (Go.Operand.tmp 72), type := 9, pos := "outright.go:26", after := #[{ on := 7, ground := Go.Ground.data }, { on := 6, ground := Go.Ground.guard }], guard := Option.some (6, Bool.false) }, { dst := Option.some 74, op := Go.Op.move (Go.Operand.tmp 13), type := 25, pos := "outright.go:26", after := #[{ on := 6, ground := Go.Ground.guard }], guard := Option.some (6, Bool.false) }, { dst := Option.some 75, op := Go.Op.convert 25 9 (Go.Operand.tmp 74), type := 9, pos := "outright.go:26", after := #[{ on := 9, ground := Go.Ground.data }, { on := 6, ground := Go.Ground.guard }], guard := Option.some (6, Bool.false) }, { dst := Option.some 76, op := Go.Op.binOp Go.BinOp.add 9 (Go.Operand.tmp 73) (Go.Operand.tmp 75) 9, type := 9, pos := "outright.go:26", after := #[{ on := 8, ground := Go.Ground.data }, { on := 10, ground := Go.Ground.data }, { on := 6, ground := Go.Ground.guard }], guard := Option.some (6, Bool.false) }, { dst := Option.some 77, op := Go.Op.move (Go.Operand.tmp 9), type := 25, pos := "outright.go:26", after := #[{ on := 6, ground := Go.Ground.guard }], guard := Option.some (6, Bool.false) }, { dst := Option.some 78, op := Go.Op.convert 25 9 (Go.Operand.tmp 77), type := 9, pos := "outright.go:26", after := #[{ on := 12, ground := Go.Ground.data }, { on := 6, ground := Go.Ground.guard }], guard := Option.some (6, Bool.false) }, { dst := Option.some 79, op := Go.Op.binOp Go.BinOp.neq 9 (Go.Operand.tmp 76) (Go.Operand.tmp 78) 9, type := 4, pos := "outright.go:26", after := #[{ on := 11, ground := Go.Ground.data }, { on := 13, ground := Go.Ground.data }, { on := 6, ground := Go.Ground.guard }], guard := Option.some (6, Bool.false) }, { dst := Option.some 80, op := Go.Op.pick (Go.Operand.tmp 71) (Go.Operand.const (Go.Value.bool Bool.true)) (Go.Operand.tmp 79), type := 4, pos := "outright.go:26", after := #[{ on := 6, ground := Go.Ground.data }, { on := 14, ground := Go.Ground.data }], guard := Option.none }, { dst := Option.some 81, op := Go.Op.move (Go.Operand.tmp 80), type := 4, pos := "outright.go:26", after := #[{ on := 15, ground := Go.Ground.data }, { on := 6, ground := Go.Ground.chain }], guard := Option.none }, { dst := Option.some 82, op := Go.Op.load 22 (Go.Operand.tmp 4), type := 22, pos := "outright.go:26", after := #[{ on := 16, ground := Go.Ground.guard }], guard := Option.some (16, Bool.false) }, { dst := Option.some 83, op := Go.Op.move (Go.Operand.tmp 1), type := 23, pos := "outright.go:26", after := #[{ on := 16, ground := Go.Ground.guard }], guard := Option.some (16, Bool.false) }, { dst := Option.some 84, op := Go.Op.move (Go.Operand.tmp 9), type := 25, pos := "outright.go:26", after := #[{ on := 16, ground := Go.Ground.guard }], guard := Option.some (16, Bool.false) }, { dst := Option.some 85, op := Go.Op.call { callee := Go.Callee.value (Go.Operand.func 12), args := #[Go.Operand.tmp 82, Go.Operand.tmp 83, Go.Operand.tmp 84], argTypes := #[22, 23, 25] }, type := 25, pos := "outright.go:26", after := #[{ on := 17, ground := Go.Ground.data }, { on := 18, ground := Go.Ground.data }, { on := 19, ground := Go.Ground.data }, { on := 16, ground := Go.Ground.chain }, { on := 16, ground := Go.Ground.guard }], guard := Option.some (16, Bool.false) }, { dst := Option.some 86, op := Go.Op.convert 25 9 (Go.Operand.tmp 85), type := 9, pos := "outright.go:26", after := #[{ on := 20, ground := Go.Ground.data }, { on := 16, ground := Go.Ground.guard }], guard := Option.some (16, Bool.false) }, { dst := Option.some 87, op := Go.Op.move (Go.Operand.tmp 2), type := 25, pos := "outright.go:26", after := #[{ on := 16, ground := Go.Ground.guard }], guard := Option.some (16, Bool.false) }, { dst := Option.some 88, op := Go.Op.convert 25 9 (Go.Operand.tmp 87), type := 9, pos := "outright.go:26", after := #[{ on := 22, ground := Go.Ground.data }, { on := 16, ground := Go.Ground.guard }], guard := Option.some (16, Bool.false) }, { dst := Option.some 89, op := Go.Op.binOp Go.BinOp.neq 9 (Go.Operand.tmp 86) (Go.Operand.tmp 88) 9, type := 4, pos := "outright.go:26", after := #[{ on := 21, ground := Go.Ground.data }, { on := 23, ground := Go.Ground.data }, { on := 16, ground := Go.Ground.guard }], guard := Option.some (16, Bool.false) }, { dst := Option.some 90, op := Go.Op.pick (Go.Operand.tmp 81) (Go.Operand.const (Go.Value.bool Bool.true)) (Go.Operand.tmp 89), type := 4, pos := "outright.go:26", after := #[{ on := 16, ground := Go.Ground.data }, { on := 24, ground := Go.Ground.data }], guard := Option.none }, { dst := Option.some 91, op := Go.Op.move (Go.Operand.tmp 90), type := 4, pos := "outright.go:26", after := #[{ on := 25, ground := Go.Ground.data }, { on := 20, ground := Go.Ground.chain }], guard := Option.none }, { dst := Option.some 92, op := Go.Op.move (Go.Operand.tmp 15), type := 25, pos := "outright.go:26", after := #[{ on := 26, ground := Go.Ground.guard }], guard := Option.some (26, Bool.false) }, { dst := Option.some 93, op := Go.Op.call { callee := Go.Callee.builtin Go.Builtin.len, args := #[Go.Operand.tmp 92], argTypes := #[25] }, type := 3, pos := "outright.go:26", after := #[{ on := 27, ground := Go.Ground.data }, { on := 26, ground := Go.Ground.guard }], guard := Option.some (26, Bool.false) }, { dst := Option.some 94, op := Go.Op.move (Go.Operand.tmp 2), type := 25, pos := "outright.go:26", after := #[{ on := 26, ground := Go.Ground.guard }], guard := Option.some (26, Bool.false) }, { dst := Option.some 95, op := Go.Op.call { callee := Go.Callee.builtin Go.Builtin.len, args := #[Go.Operand.tmp 94], argTypes := #[25] }, type := 3, pos := "outright.go:26", after := #[{ on := 29, ground := Go.Ground.data }, { on := 26, ground := Go.Ground.guard }], guard := Option.some (26, Bool.false) }, { dst := Option.some 96, op := Go.Op.move (Go.Operand.tmp 3), type := 3, pos := "outright.go:26", after := #[{ on := 26, ground := Go.Ground.guard }], guard := Option.some (26, Bool.false) }, { dst := Option.some 97, op := Go.Op.binOp Go.BinOp.sub 3 (Go.Operand.tmp 95) (Go.Operand.tmp 96) 3, type := 3, pos := "outright.go:26", after := #[{ on := 30, ground := Go.Ground.data }, { on := 31, ground := Go.Ground.data }, { on := 26, ground := Go.Ground.guard }], guard := Option.some (26, Bool.false) }, { dst := Option.some 98, op := Go.Op.binOp Go.BinOp.neq 3 (Go.Operand.tmp 93) (Go.Operand.tmp 97) 3, type := 4, pos := "outright.go:26", after := #[{ on := 28, ground := Go.Ground.data }, { on := 32, ground := Go.Ground.data }, { on := 26, ground := Go.Ground.guard }], guard := Option.some (26, Bool.false) }, { dst := Option.some 99, op := Go.Op.pick (Go.Operand.tmp 91) (Go.Operand.const (Go.Value.bool Bool.true)) (Go.Operand.tmp 98), type := 4, pos := "outright.go:26", after := #[{ on := 26, ground := Go.Ground.data }, { on := 33, ground := Go.Ground.data }], guard := Option.none }] true).wp Try.prog Q ⟨#[.agg (u8s key), .int .u64 nonce, .slice A n cap, .int .i64 (c : Nat), .pointer (some ⟨w.heap.size, 0, none⟩), v5, v6, v7, v8, .slice (some ⟨ga, 0, none⟩) n n, v10, .slice (some ⟨gx, 0, none⟩) c c, .int .i64 0, .slice (some ⟨gy, 0, none⟩) m m, .int .i64 0, .slice (some ⟨gs, 0, none⟩) m m, v16, v17, v18, v19, v20, v21, v22, v23, v24, v25, v26, v27, v28, v29, v30, v31, v32, v33, v34, v35, v36, v37, v38, v39, v40, v41, v42, v43, v44, v45, v46, v47, v48, v49, v50, v51, v52, v53, v54, v55, v56, v57, v58, v59, v60, v61, v62, v63, v64, v65, v66, v67, v68, v69, v70, v71, v72, v73, v74, v75, v76, v77, v78, v79, v80, v81, v82, v83, v84, v85, v86, v87, v88, v89, v90, v91, v92, v93, v94, v95, v96, v97, v98, v99, v100, v101, v102, v103, v104, v105, v106, v107, v108, v109, v110, v111, v112, v113, v114, v115, v116, v117, v118, v119, v120, v121, v122, v123], []⟩ W := by
  refine wp_region_tab (n := 35) (by kernel_rfl) rfl tw12Deps (by kernel_rfl) (by kernel_rfl)
    (fun L Ac X => ∃ (b0 b1 b2 b3 b4 b5 b6 b7 b8 b9 b10 b11 b12 b13 b14 b15 b16 b17 b18 b19 b20 b21 b22 b23 b24 b25 b26 b27 b28 b29 b30 b31 b32 b33 b34 : Bool) (v85 : Value), L = [b0, b1, b2, b3, b4, b5, b6, b7, b8, b9, b10, b11, b12, b13, b14, b15, b16, b17, b18, b19, b20, b21, b22, b23, b24, b25, b26, b27, b28, b29, b30, b31, b32, b33, b34] ∧ Ac = ⟨#[.agg (u8s key), .int .u64 nonce, .slice A n cap, .int .i64 (c : Nat), .pointer (some ⟨w.heap.size, 0, none⟩), v5, v6, v7, v8, .slice (some ⟨ga, 0, none⟩) n n, v10, .slice (some ⟨gx, 0, none⟩) c c, .int .i64 0, .slice (some ⟨gy, 0, none⟩) m m, .int .i64 0, .slice (some ⟨gs, 0, none⟩) m m, v16, v17, v18, v19, v20, v21, v22, v23, v24, v25, v26, v27, v28, v29, v30, v31, v32, v33, v34, v35, v36, v37, v38, v39, v40, v41, v42, v43, v44, v45, v46, v47, v48, v49, v50, v51, v52, v53, v54, v55, v56, v57, v58, v59, v60, v61, v62, v63, v64, (bif b0 then .int .i64 0 else v65), (bif b1 then .bool false else v66), (bif b2 then .bool false else v67), (bif b3 then .int .i64 0 else v68), (bif b4 then .bool false else v69), (bif b5 then .bool false else v70), (bif b6 then .bool false else v71), (bif b7 then .slice (some ⟨gx, 0, none⟩) c c else v72), (bif b8 then .string sx else v73), (bif b9 then .slice (some ⟨gy, 0, none⟩) m m else v74), (bif b10 then .string sy else v75), (bif b11 then .string (sx ++ sy) else v76), (bif b12 then .slice (some ⟨ga, 0, none⟩) n n else v77), (bif b13 then .string (sx ++ sy) else v78), (bif b14 then .bool false else v79), (bif b15 then .bool false else v80), (bif b16 then .bool false else v81), (bif b17 then .agg (u8s key) else v82), (bif b18 then .int .u64 nonce else v83), (bif b19 then .slice (some ⟨ga, 0, none⟩) n n else v84), v85, (bif b21 then .string st else v86), (bif b22 then .slice A n cap else v87), (bif b23 then .string st else v88), (bif b24 then .bool false else v89), (bif b25 then .bool false else v90), (bif b26 then .bool false else v91), (bif b27 then .slice (some ⟨gs, 0, none⟩) m m else v92), (bif b28 then .int .i64 m else v93), (bif b29 then .slice A n cap else v94), (bif b30 then .int .i64 n else v95), (bif b31 then .int .i64 (c : Nat) else v96), (bif b32 then .int .i64 m else v97), (bif b33 then .bool false else v98), (bif b34 then .bool false else v99), v100, v101, v102, v103, v104, v105, v106, v107, v108, v109, v110, v111, v112, v113, v114, v115, v116, v117, v118, v119, v120, v121, v122, v123], []⟩ ∧ (TwMem w A n cap ga gx gy gs c m nonce key tx X) ∧ (b20 = true → ∃ g, v85 = .slice (some ⟨g, 0, none⟩) n n ∧ TxIn X (some ⟨g, 0, none⟩) n n tx)) ?_ ?_ ?_
  · exact ⟨false, false, false, false, false, false, false, false, false, false, false, false, false, false, false, false, false, false, false, false, false, false, false, false, false, false, false, false, false, false, false, false, false, false, false, v85, rfl, rfl, hM0, nofun⟩
  · intro L Ac X jx _ hj hfr hdp hI
    obtain ⟨b0, b1, b2, b3, b4, b5, b6, b7, b8, b9, b10, b11, b12, b13, b14, b15, b16, b17, b18, b19, b20, b21, b22, b23, b24, b25, b26, b27, b28, b29, b30, b31, b32, b33, b34, v85, rfl, rfl, hM, h20⟩ := hI
    match jx, hj with
    | 0, _ =>
      obtain rfl : b0 = false := hfr
      refine wpOp_of rfl (by rfl) (op_val (v := .int .i64 0) (by rfl) ?_)
      exact ⟨true, b1, b2, b3, b4, b5, b6, b7, b8, b9, b10, b11, b12, b13, b14, b15, b16, b17, b18, b19, b20, b21, b22, b23, b24, b25, b26, b27, b28, b29, b30, b31, b32, b33, b34, v85, rfl, rfl, hM, h20⟩
    | 1, _ =>
      obtain rfl : b1 = false := hfr
      obtain rfl : b0 = true := hdp 0 (by decide)
      refine wpOp_of rfl (by rfl) (op_val (v := .bool false) (exec_ne34 rfl (x := .tmp 65) rfl) ?_)
      exact ⟨true, true, b2, b3, b4, b5, b6, b7, b8, b9, b10, b11, b12, b13, b14, b15, b16, b17, b18, b19, b20, b21, b22, b23, b24, b25, b26, b27, b28, b29, b30, b31, b32, b33, b34, v85, rfl, rfl, hM, h20⟩
    | 2, _ =>
      obtain rfl : b2 = false := hfr
      obtain rfl : b1 = true := hdp 1 (by decide)
      refine wpOp_of rfl (by rfl) (op_val (v := .bool false) (by rfl) ?_)
      exact ⟨b0, true, true, b3, b4, b5, b6, b7, b8, b9, b10, b11, b12, b13, b14, b15, b16, b17, b18, b19, b20, b21, b22, b23, b24, b25, b26, b27, b28, b29, b30, b31, b32, b33, b34, v85, rfl, rfl, hM, h20⟩
    | 3, _ =>
      obtain rfl : b3 = false := hfr
      obtain rfl : b2 = true := hdp 2 (by decide)
      refine wpOp_of rfl (by rfl) (op_val (v := .int .i64 0) (by rfl) ?_)
      exact ⟨b0, b1, true, true, b4, b5, b6, b7, b8, b9, b10, b11, b12, b13, b14, b15, b16, b17, b18, b19, b20, b21, b22, b23, b24, b25, b26, b27, b28, b29, b30, b31, b32, b33, b34, v85, rfl, rfl, hM, h20⟩
    | 4, _ =>
      obtain rfl : b4 = false := hfr
      obtain rfl : b3 = true := hdp 3 (by decide)
      obtain rfl : b2 = true := hdp 2 (by decide)
      refine wpOp_of rfl (by rfl) (op_val (v := .bool false) (exec_ne34 rfl (x := .tmp 68) rfl) ?_)
      exact ⟨b0, b1, true, true, true, b5, b6, b7, b8, b9, b10, b11, b12, b13, b14, b15, b16, b17, b18, b19, b20, b21, b22, b23, b24, b25, b26, b27, b28, b29, b30, b31, b32, b33, b34, v85, rfl, rfl, hM, h20⟩
    | 5, _ =>
      obtain rfl : b5 = false := hfr
      obtain rfl : b2 = true := hdp 2 (by decide)
      obtain rfl : b4 = true := hdp 4 (by decide)
      refine wpOp_of rfl (by rfl) (op_val (v := .bool false) (by rfl) ?_)
      exact ⟨b0, b1, true, b3, true, true, b6, b7, b8, b9, b10, b11, b12, b13, b14, b15, b16, b17, b18, b19, b20, b21, b22, b23, b24, b25, b26, b27, b28, b29, b30, b31, b32, b33, b34, v85, rfl, rfl, hM, h20⟩
    | 6, _ =>
      obtain rfl : b6 = false := hfr
      obtain rfl : b5 = true := hdp 5 (by decide)
      refine wpOp_of rfl (by rfl) (op_val (v := .bool false) (by rfl) ?_)
      exact ⟨b0, b1, b2, b3, b4, true, true, b7, b8, b9, b10, b11, b12, b13, b14, b15, b16, b17, b18, b19, b20, b21, b22, b23, b24, b25, b26, b27, b28, b29, b30, b31, b32, b33, b34, v85, rfl, rfl, hM, h20⟩
    | 7, _ =>
      obtain rfl : b7 = false := hfr
      obtain rfl : b6 = true := hdp 6 (by decide)
      refine wpOp_of rfl (by rfl) (op_val (v := .slice (some ⟨gx, 0, none⟩) c c) (by rfl) ?_)
      exact ⟨b0, b1, b2, b3, b4, b5, true, true, b8, b9, b10, b11, b12, b13, b14, b15, b16, b17, b18, b19, b20, b21, b22, b23, b24, b25, b26, b27, b28, b29, b30, b31, b32, b33, b34, v85, rfl, rfl, hM, h20⟩
    | 8, _ =>
      obtain rfl : b8 = false := hfr
      obtain rfl : b7 = true := hdp 7 (by decide)
      obtain rfl : b6 = true := hdp 6 (by decide)
      refine wpOp_of rfl (by rfl) (op_val (v := .string sx) (exec_conv rfl (x := .tmp 72) rfl (strT hsx hM.xx)) ?_)
      exact ⟨b0, b1, b2, b3, b4, b5, true, true, true, b9, b10, b11, b12, b13, b14, b15, b16, b17, b18, b19, b20, b21, b22, b23, b24, b25, b26, b27, b28, b29, b30, b31, b32, b33, b34, v85, rfl, rfl, hM, h20⟩
    | 9, _ =>
      obtain rfl : b9 = false := hfr
      obtain rfl : b6 = true := hdp 6 (by decide)
      refine wpOp_of rfl (by rfl) (op_val (v := .slice (some ⟨gy, 0, none⟩) m m) (by rfl) ?_)
      exact ⟨b0, b1, b2, b3, b4, b5, true, b7, b8, true, b10, b11, b12, b13, b14, b15, b16, b17, b18, b19, b20, b21, b22, b23, b24, b25, b26, b27, b28, b29, b30, b31, b32, b33, b34, v85, rfl, rfl, hM, h20⟩
    | 10, _ =>
      obtain rfl : b10 = false := hfr
      obtain rfl : b9 = true := hdp 9 (by decide)
      obtain rfl : b6 = true := hdp 6 (by decide)
      refine wpOp_of rfl (by rfl) (op_val (v := .string sy) (exec_conv rfl (x := .tmp 74) rfl (strT hsy hM.yy)) ?_)
      exact ⟨b0, b1, b2, b3, b4, b5, true, b7, b8, true, true, b11, b12, b13, b14, b15, b16, b17, b18, b19, b20, b21, b22, b23, b24, b25, b26, b27, b28, b29, b30, b31, b32, b33, b34, v85, rfl, rfl, hM, h20⟩
    | 11, _ =>
      obtain rfl : b11 = false := hfr
      obtain rfl : b8 = true := hdp 8 (by decide)
      obtain rfl : b10 = true := hdp 10 (by decide)
      obtain rfl : b6 = true := hdp 6 (by decide)
      refine wpOp_of rfl (by rfl) (op_val (v := .string (sx ++ sy)) (exec_addS rfl (x := .tmp 73) (y := .tmp 75) rfl rfl hsz) ?_)
      exact ⟨b0, b1, b2, b3, b4, b5, true, b7, true, b9, true, true, b12, b13, b14, b15, b16, b17, b18, b19, b20, b21, b22, b23, b24, b25, b26, b27, b28, b29, b30, b31, b32, b33, b34, v85, rfl, rfl, hM, h20⟩
    | 12, _ =>
      obtain rfl : b12 = false := hfr
      obtain rfl : b6 = true := hdp 6 (by decide)
      refine wpOp_of rfl (by rfl) (op_val (v := .slice (some ⟨ga, 0, none⟩) n n) (by rfl) ?_)
      exact ⟨b0, b1, b2, b3, b4, b5, true, b7, b8, b9, b10, b11, true, b13, b14, b15, b16, b17, b18, b19, b20, b21, b22, b23, b24, b25, b26, b27, b28, b29, b30, b31, b32, b33, b34, v85, rfl, rfl, hM, h20⟩
    | 13, _ =>
      obtain rfl : b13 = false := hfr
      obtain rfl : b12 = true := hdp 12 (by decide)
      obtain rfl : b6 = true := hdp 6 (by decide)
      refine wpOp_of rfl (by rfl) (op_val (v := .string (sx ++ sy)) (exec_conv rfl (x := .tmp 77) rfl (strT hsa hM.a)) ?_)
      exact ⟨b0, b1, b2, b3, b4, b5, true, b7, b8, b9, b10, b11, true, true, b14, b15, b16, b17, b18, b19, b20, b21, b22, b23, b24, b25, b26, b27, b28, b29, b30, b31, b32, b33, b34, v85, rfl, rfl, hM, h20⟩
    | 14, _ =>
      obtain rfl : b14 = false := hfr
      obtain rfl : b11 = true := hdp 11 (by decide)
      obtain rfl : b13 = true := hdp 13 (by decide)
      obtain rfl : b6 = true := hdp 6 (by decide)
      refine wpOp_of rfl (by rfl) (op_val (v := .bool false) (exec_neS rfl (x := .tmp 76) (y := .tmp 78) rfl rfl) ?_)
      exact ⟨b0, b1, b2, b3, b4, b5, true, b7, b8, b9, b10, true, b12, true, true, b15, b16, b17, b18, b19, b20, b21, b22, b23, b24, b25, b26, b27, b28, b29, b30, b31, b32, b33, b34, v85, rfl, rfl, hM, h20⟩
    | 15, _ =>
      obtain rfl : b15 = false := hfr
      obtain rfl : b6 = true := hdp 6 (by decide)
      obtain rfl : b14 = true := hdp 14 (by decide)
      refine wpOp_of rfl (by rfl) (op_val (v := .bool false) (by rfl) ?_)
      exact ⟨b0, b1, b2, b3, b4, b5, true, b7, b8, b9, b10, b11, b12, b13, true, true, b16, b17, b18, b19, b20, b21, b22, b23, b24, b25, b26, b27, b28, b29, b30, b31, b32, b33, b34, v85, rfl, rfl, hM, h20⟩
    | 16, _ =>
      obtain rfl : b16 = false := hfr
      obtain rfl : b15 = true := hdp 15 (by decide)
      refine wpOp_of rfl (by rfl) (op_val (v := .bool false) (by rfl) ?_)
      exact ⟨b0, b1, b2, b3, b4, b5, b6, b7, b8, b9, b10, b11, b12, b13, b14, true, true, b17, b18, b19, b20, b21, b22, b23, b24, b25, b26, b27, b28, b29, b30, b31, b32, b33, b34, v85, rfl, rfl, hM, h20⟩
    | 17, _ =>
      obtain rfl : b17 = false := hfr
      obtain rfl : b16 = true := hdp 16 (by decide)
      refine wpOp_of rfl (by rfl) (op_val (v := .agg (u8s key)) (exec_load rfl (x := .tmp 4) rfl (hM.k.loadAt Try.underlying22 (by rw [hk]; exact size22))) ?_)
      exact ⟨b0, b1, b2, b3, b4, b5, b6, b7, b8, b9, b10, b11, b12, b13, b14, b15, true, true, b18, b19, b20, b21, b22, b23, b24, b25, b26, b27, b28, b29, b30, b31, b32, b33, b34, v85, rfl, rfl, hM, h20⟩
    | 18, _ =>
      obtain rfl : b18 = false := hfr
      obtain rfl : b16 = true := hdp 16 (by decide)
      refine wpOp_of rfl (by rfl) (op_val (v := .int .u64 nonce) (by rfl) ?_)
      exact ⟨b0, b1, b2, b3, b4, b5, b6, b7, b8, b9, b10, b11, b12, b13, b14, b15, true, b17, true, b19, b20, b21, b22, b23, b24, b25, b26, b27, b28, b29, b30, b31, b32, b33, b34, v85, rfl, rfl, hM, h20⟩
    | 19, _ =>
      obtain rfl : b19 = false := hfr
      obtain rfl : b16 = true := hdp 16 (by decide)
      refine wpOp_of rfl (by rfl) (op_val (v := .slice (some ⟨ga, 0, none⟩) n n) (by rfl) ?_)
      exact ⟨b0, b1, b2, b3, b4, b5, b6, b7, b8, b9, b10, b11, b12, b13, b14, b15, true, b17, b18, true, b20, b21, b22, b23, b24, b25, b26, b27, b28, b29, b30, b31, b32, b33, b34, v85, rfl, rfl, hM, h20⟩
    | 20, _ =>
      obtain rfl : b20 = false := hfr
      obtain rfl : b17 = true := hdp 17 (by decide)
      obtain rfl : b18 = true := hdp 18 (by decide)
      obtain rfl : b19 = true := hdp 19 (by decide)
      obtain rfl : b16 = true := hdp 16 (by decide)
      refine wpOp_of rfl (by rfl) (op_calls (args := #[.agg (u8s key), .int .u64 nonce, .slice (some ⟨ga, 0, none⟩) n n]) Try.call12 rfl (by simp only [List.map_toArray, List.map_cons, List.map_nil]; rfl) ?_)
      refine (Turn_to X nonce n n _ key (turnL key nonce 0 tx) hM.a hk bk hn hN).mono fun e X' ⟨g, _, he, ho, hb⟩ => ⟨_, he, ?_⟩
      rw [turnL_twice] at ho
      exact ⟨b0, b1, b2, b3, b4, b5, b6, b7, b8, b9, b10, b11, b12, b13, b14, b15, true, true, true, true, true, b21, b22, b23, b24, b25, b26, b27, b28, b29, b30, b31, b32, b33, b34, .slice (some ⟨g, 0, none⟩) n n, rfl, rfl, hM.keep hb, fun _ => ⟨_, rfl, TxIn.of_arr ho hM.x.len hM.x.b (by simp only [maxLen]; omega)⟩⟩
    | 21, _ =>
      obtain rfl : b21 = false := hfr
      obtain rfl : b20 = true := hdp 20 (by decide)
      obtain rfl : b16 = true := hdp 16 (by decide)
      obtain ⟨g, rfl, hx⟩ := h20 rfl
      refine wpOp_of rfl (by rfl) (op_val (v := .string st) (exec_conv rfl (x := .tmp 85) rfl (strT hst hx)) ?_)
      exact ⟨b0, b1, b2, b3, b4, b5, b6, b7, b8, b9, b10, b11, b12, b13, b14, b15, true, b17, b18, b19, true, true, b22, b23, b24, b25, b26, b27, b28, b29, b30, b31, b32, b33, b34, .slice (some ⟨g, 0, none⟩) n n, rfl, rfl, hM, fun _ => ⟨g, rfl, hx⟩⟩
    | 22, _ =>
      obtain rfl : b22 = false := hfr
      obtain rfl : b16 = true := hdp 16 (by decide)
      refine wpOp_of rfl (by rfl) (op_val (v := .slice A n cap) (by rfl) ?_)
      exact ⟨b0, b1, b2, b3, b4, b5, b6, b7, b8, b9, b10, b11, b12, b13, b14, b15, true, b17, b18, b19, b20, b21, true, b23, b24, b25, b26, b27, b28, b29, b30, b31, b32, b33, b34, v85, rfl, rfl, hM, h20⟩
    | 23, _ =>
      obtain rfl : b23 = false := hfr
      obtain rfl : b22 = true := hdp 22 (by decide)
      obtain rfl : b16 = true := hdp 16 (by decide)
      refine wpOp_of rfl (by rfl) (op_val (v := .string st) (exec_conv rfl (x := .tmp 87) rfl (strT hst hM.x)) ?_)
      exact ⟨b0, b1, b2, b3, b4, b5, b6, b7, b8, b9, b10, b11, b12, b13, b14, b15, true, b17, b18, b19, b20, b21, true, true, b24, b25, b26, b27, b28, b29, b30, b31, b32, b33, b34, v85, rfl, rfl, hM, h20⟩
    | 24, _ =>
      obtain rfl : b24 = false := hfr
      obtain rfl : b21 = true := hdp 21 (by decide)
      obtain rfl : b23 = true := hdp 23 (by decide)
      obtain rfl : b16 = true := hdp 16 (by decide)
      refine wpOp_of rfl (by rfl) (op_val (v := .bool false) (exec_neS rfl (x := .tmp 86) (y := .tmp 88) rfl rfl) ?_)
      exact ⟨b0, b1, b2, b3, b4, b5, b6, b7, b8, b9, b10, b11, b12, b13, b14, b15, true, b17, b18, b19, b20, true, b22, true, true, b25, b26, b27, b28, b29, b30, b31, b32, b33, b34, v85, rfl, rfl, hM, h20⟩
    | 25, _ =>
      obtain rfl : b25 = false := hfr
      obtain rfl : b16 = true := hdp 16 (by decide)
      obtain rfl : b24 = true := hdp 24 (by decide)
      refine wpOp_of rfl (by rfl) (op_val (v := .bool false) (by rfl) ?_)
      exact ⟨b0, b1, b2, b3, b4, b5, b6, b7, b8, b9, b10, b11, b12, b13, b14, b15, true, b17, b18, b19, b20, b21, b22, b23, true, true, b26, b27, b28, b29, b30, b31, b32, b33, b34, v85, rfl, rfl, hM, h20⟩
    | 26, _ =>
      obtain rfl : b26 = false := hfr
      obtain rfl : b25 = true := hdp 25 (by decide)
      refine wpOp_of rfl (by rfl) (op_val (v := .bool false) (by rfl) ?_)
      exact ⟨b0, b1, b2, b3, b4, b5, b6, b7, b8, b9, b10, b11, b12, b13, b14, b15, b16, b17, b18, b19, b20, b21, b22, b23, b24, true, true, b27, b28, b29, b30, b31, b32, b33, b34, v85, rfl, rfl, hM, h20⟩
    | 27, _ =>
      obtain rfl : b27 = false := hfr
      obtain rfl : b26 = true := hdp 26 (by decide)
      refine wpOp_of rfl (by rfl) (op_val (v := .slice (some ⟨gs, 0, none⟩) m m) (by rfl) ?_)
      exact ⟨b0, b1, b2, b3, b4, b5, b6, b7, b8, b9, b10, b11, b12, b13, b14, b15, b16, b17, b18, b19, b20, b21, b22, b23, b24, b25, true, true, b28, b29, b30, b31, b32, b33, b34, v85, rfl, rfl, hM, h20⟩
    | 28, _ =>
      obtain rfl : b28 = false := hfr
      obtain rfl : b27 = true := hdp 27 (by decide)
      obtain rfl : b26 = true := hdp 26 (by decide)
      refine wpOp_of rfl (by rfl) (op_val (v := .int .i64 m) (exec_len rfl rfl (x := .tmp 92) rfl) ?_)
      exact ⟨b0, b1, b2, b3, b4, b5, b6, b7, b8, b9, b10, b11, b12, b13, b14, b15, b16, b17, b18, b19, b20, b21, b22, b23, b24, b25, true, true, true, b29, b30, b31, b32, b33, b34, v85, rfl, rfl, hM, h20⟩
    | 29, _ =>
      obtain rfl : b29 = false := hfr
      obtain rfl : b26 = true := hdp 26 (by decide)
      refine wpOp_of rfl (by rfl) (op_val (v := .slice A n cap) (by rfl) ?_)
      exact ⟨b0, b1, b2, b3, b4, b5, b6, b7, b8, b9, b10, b11, b12, b13, b14, b15, b16, b17, b18, b19, b20, b21, b22, b23, b24, b25, true, b27, b28, true, b30, b31, b32, b33, b34, v85, rfl, rfl, hM, h20⟩
    | 30, _ =>
      obtain rfl : b30 = false := hfr
      obtain rfl : b29 = true := hdp 29 (by decide)
      obtain rfl : b26 = true := hdp 26 (by decide)
      refine wpOp_of rfl (by rfl) (op_val (v := .int .i64 n) (exec_len rfl rfl (x := .tmp 94) rfl) ?_)
      exact ⟨b0, b1, b2, b3, b4, b5, b6, b7, b8, b9, b10, b11, b12, b13, b14, b15, b16, b17, b18, b19, b20, b21, b22, b23, b24, b25, true, b27, b28, true, true, b31, b32, b33, b34, v85, rfl, rfl, hM, h20⟩
    | 31, _ =>
      obtain rfl : b31 = false := hfr
      obtain rfl : b26 = true := hdp 26 (by decide)
      refine wpOp_of rfl (by rfl) (op_val (v := .int .i64 (c : Nat)) (by rfl) ?_)
      exact ⟨b0, b1, b2, b3, b4, b5, b6, b7, b8, b9, b10, b11, b12, b13, b14, b15, b16, b17, b18, b19, b20, b21, b22, b23, b24, b25, true, b27, b28, b29, b30, true, b32, b33, b34, v85, rfl, rfl, hM, h20⟩
    | 32, _ =>
      obtain rfl : b32 = false := hfr
      obtain rfl : b30 = true := hdp 30 (by decide)
      obtain rfl : b31 = true := hdp 31 (by decide)
      obtain rfl : b26 = true := hdp 26 (by decide)
      refine wpOp_of rfl (by rfl) (op_val (v := .int .i64 m) (exec_subI rfl (x := .tmp 95) (y := .tmp 96) rfl rfl hsub) ?_)
      exact ⟨b0, b1, b2, b3, b4, b5, b6, b7, b8, b9, b10, b11, b12, b13, b14, b15, b16, b17, b18, b19, b20, b21, b22, b23, b24, b25, true, b27, b28, b29, true, true, true, b33, b34, v85, rfl, rfl, hM, h20⟩
    | 33, _ =>
      obtain rfl : b33 = false := hfr
      obtain rfl : b28 = true := hdp 28 (by decide)
      obtain rfl : b32 = true := hdp 32 (by decide)
      obtain rfl : b26 = true := hdp 26 (by decide)
      refine wpOp_of rfl (by rfl) (op_val (v := .bool false) (exec_neI rfl (x := .tmp 93) (y := .tmp 97) rfl rfl (by simp)) ?_)
      exact ⟨b0, b1, b2, b3, b4, b5, b6, b7, b8, b9, b10, b11, b12, b13, b14, b15, b16, b17, b18, b19, b20, b21, b22, b23, b24, b25, true, b27, true, b29, b30, b31, true, true, b34, v85, rfl, rfl, hM, h20⟩
    | 34, _ =>
      obtain rfl : b34 = false := hfr
      obtain rfl : b26 = true := hdp 26 (by decide)
      obtain rfl : b33 = true := hdp 33 (by decide)
      refine wpOp_of rfl (by rfl) (op_val (v := .bool false) (by rfl) ?_)
      exact ⟨b0, b1, b2, b3, b4, b5, b6, b7, b8, b9, b10, b11, b12, b13, b14, b15, b16, b17, b18, b19, b20, b21, b22, b23, b24, b25, true, b27, b28, b29, b30, b31, b32, true, true, v85, rfl, rfl, hM, h20⟩
    | jx + 35, h => omega
  · intro L Ac X _ hall hI
    obtain ⟨b0, b1, b2, b3, b4, b5, b6, b7, b8, b9, b10, b11, b12, b13, b14, b15, b16, b17, b18, b19, b20, b21, b22, b23, b24, b25, b26, b27, b28, b29, b30, b31, b32, b33, b34, v85, rfl, rfl, hM, h20⟩ := hI
    simp at hall
    obtain ⟨rfl, rfl, rfl, rfl, rfl, rfl, rfl, rfl, rfl, rfl, rfl, rfl, rfl, rfl, rfl, rfl, rfl, rfl, rfl, rfl, rfl, rfl, rfl, rfl, rfl, rfl, rfl, rfl, rfl, rfl, rfl, rfl, rfl, rfl, rfl⟩ := hall
    exact hQ _ X hM
def tw17Deps : List (List Nat) := [[], [], [0, 1], [2], [], [], [], [5, 6], [4, 7], [8], [], [], [], [11, 12], [10, 13], [14], [9, 15], [3, 16]]
set_option maxRecDepth 100000 in
set_option maxHeartbeats 1000000 in
theorem tw17 {Q : Exit → Act → World → Prop} {n cap b o ga gs c m j p q t : Nat} {W : World} (hjm : j < m) (hcj : c + j < n) (hadd : IntKind.i64.wrap ((c : Int) + j) = ((c + j : Nat) : Int)) (hp : W.drew.cell? ⟨gs, 0 + j, none⟩ = some (.int .u8 (p : Nat))) (hq : W.drew.cell? ⟨ga, 0 + (c + j), none⟩ = some (.int .u8 (q : Nat))) (ht : W.drew.cell? ⟨b, o + (c + j), none⟩ = some (.int .u8 (t : Nat))) (hql : q < 256) (htl : t < 256) (hpq : p = q ^^^ t) (v0 v1 v4 v5 v6 v7 v8 v10 v11 v12 v13 v14 v17 v18 v19 v20 v21 v22 v23 v24 v25 v26 v27 v28 v29 v30 v31 v32 v33 v34 v35 v36 v37 v38 v39 v40 v41 v42 v43 v44 v45 v46 v47 v48 v49 v50 v51 v52 v53 v54 v55 v56 v57 v58 v59 v60 v61 v62 v63 v64 v65 v66 v67 v68 v69 v70 v71 v72 v73 v74 v75 v76 v77 v78 v79 v80 v81 v82 v83 v84 v85 v86 v87 v88 v89 v90 v91 v92 v93 v94 v95 v96 v97 v98 v99 v100 v101 v102 v103 v104 v105 v106 v107 v108 v109 v110 v111 v112 v113 v114 v115 v116 v117 v118 v119 v120 v121 v122 v123 : Value)
    (hQ : Q .normal ⟨#[v0, v1, .slice (some ⟨b, o, none⟩) n cap, .int .i64 (c : Nat), v4, v5, v6, v7, v8, .slice (some ⟨ga, 0, none⟩) n n, v10, v11, v12, v13, v14, .slice (some ⟨gs, 0, none⟩) m m, .int .i64 (j : Nat), v17, v18, v19, v20, v21, v22, v23, v24, v25, v26, v27, v28, v29, v30, v31, v32, v33, v34, v35, v36, v37, v38, v39, v40, v41, v42, v43, v44, v45, v46, v47, v48, v49, v50, v51, v52, v53, v54, v55, v56, v57, v58, v59, v60, v61, v62, v63, v64, v65, v66, v67, v68, v69, v70, v71, v72, v73, v74, v75, v76, v77, v78, v79, v80, v81, v82, v83, v84, v85, v86, v87, v88, v89, v90, v91, v92, v93, v94, v95, v96, v97, v98, v99, v100, v101, v102, v103, v104, v105, .slice (some ⟨gs, 0, none⟩) m m, .int .i64 (j : Nat), .pointer (some ⟨gs, 0 + j, none⟩), .int .u8 (p : Nat), .slice (some ⟨ga, 0, none⟩) n n, .int .i64 (c : Nat), .int .i64 (j : Nat), .int .i64 (c + j : Nat), .pointer (some ⟨ga, 0 + (c + j), none⟩), .int .u8 (q : Nat), .slice (some ⟨b, o, none⟩) n cap, .int .i64 (c : Nat), .int .i64 (j : Nat), .int .i64 (c + j : Nat), .pointer (some ⟨b, o + (c + j), none⟩), .int .u8 (t : Nat), .int .u8 (q ^^^ t : Nat), .bool false], []⟩ W.drew)
    : (Code.region 17 #[{ dst := Option.some 106, op := Go.Op.move (Go.Operand.tmp 15), type := 25, pos := "outright.go:30", after := #[], guard := Option.none }, { dst := Option.some 107, op := Go.Op.move (Go.Operand.tmp 16), type := 3, pos := "outright.go:30", after := #[], guard := Option.none }, { dst := Option.some 108, op := Go.Op.indexAddr 25 (Go.Operand.tmp 106) (Go.Operand.tmp 107), type := 0, pos := "outright.go:30", after := #[{ on := 0, ground := Go.Ground.data }, { on := 1, ground := Go.Ground.data }], guard := Option.none }, { dst := Option.some 109, op := Go.Op.load 5 (Go.Operand.tmp 108), type := 5, pos := "outright.go:30", after := #[{ on := 2, ground := Go.Ground.data }], guard := Option.none }, { dst := Option.some 110, op := Go.Op.move (Go.Operand.tmp 9), type := 25, pos := "outright.go:30", after := #[], guard := Option.none }, { dst := Option.some 111, op := Go.Op.move (Go.Operand.tmp 3), type := 3, pos := "outright.go:30", after := #[], guard := Option.none }, { dst := Option.some 112, op := Go.Op.move (Go.Operand.tmp 16), type := 3, pos := "outright.go:30", after := #[], guard := Option.none }, { dst := Option.some 113, op := Go.Op.binOp Go.BinOp.add 3 (Go.Operand.tmp 111) (Go.Operand.tmp 112) 3, type := 3, pos := "outright.go:30", after := #[{ on := 5, ground := Go.Ground.data }, { on := 6, ground := Go.Ground.data }], guard := Option.none }, { dst := Option.some 114, op := Go.Op.indexAddr 25 (Go.Operand.tmp 110) (Go.Operand.tmp 113), type := 0, pos := "outright.go:30", after := #[{ on := 4, ground := Go.Ground.data }, { on := 7, ground := Go.Ground.data }], guard := Option.none }, { dst := Option.some 115, op := Go.Op.load 5 (Go.Operand.tmp 114), type := 5, pos := "outright.go:30", after := #[{ on := 8, ground := Go.Ground.data }], guard := Option.none }, { dst := Option.some 116, op := Go.Op.move (Go.Operand.tmp 2), type := 25, pos := "outright.go:30", after := #[], guard := Option.none }, { dst := Option.some 117, op := Go.Op.move (Go.Operand.tmp 3), type := 3, pos := "outright.go:30", after := #[], guard := Option.none }, { dst := Option.some 118, op := Go.Op.move (Go.Operand.tmp 16), type := 3, pos := "outright.go:30", after := #[], guard := Option.none }, { dst := Option.some 119, op := Go.Op.binOp Go.BinOp.add 3 (Go.Operand.tmp 117) (Go.Operand.tmp 118) 3, type := 3, pos := "outright.go:30", after := #[{ on := 11, ground := Go.Ground.data }, { on := 12, ground := Go.Ground.data }], guard := Option.none }, { dst := Option.some 120, op := Go.Op.indexAddr 25 (Go.Operand.tmp 116) (Go.Operand.tmp 119), type := 0, pos := "outright.go:30", after := #[{ on := 10, ground := Go.Ground.data }, { on := 13, ground := Go.Ground.data }], guard := Option.none }, { dst := Option.some 121, op := Go.Op.load 5 (Go.Operand.tmp 120), type := 5, pos := "outright.go:30", after := #[{ on := 14, ground := Go.Ground.data }], guard := Option.none }, { dst := Option.some 122, op := Go.Op.binOp Go.BinOp.xor 5 (Go.Operand.tmp 115) (Go.Operand.tmp 121) 5, type := 5, pos := "outright.go:30", after := #[{ on := 9, ground := Go.Ground.data }, { on := 15, ground := Go.Ground.data }], guard := Option.none }, { dst := Option.some 123, op := Go.Op.binOp Go.BinOp.neq 5 (Go.Operand.tmp 109) (Go.Operand.tmp 122) 5, type := 4, pos := "outright.go:30", after := #[{ on := 3, ground := Go.Ground.data }, { on := 16, ground := Go.Ground.data }], guard := Option.none }] true).wp Try.prog Q ⟨#[v0, v1, .slice (some ⟨b, o, none⟩) n cap, .int .i64 (c : Nat), v4, v5, v6, v7, v8, .slice (some ⟨ga, 0, none⟩) n n, v10, v11, v12, v13, v14, .slice (some ⟨gs, 0, none⟩) m m, .int .i64 (j : Nat), v17, v18, v19, v20, v21, v22, v23, v24, v25, v26, v27, v28, v29, v30, v31, v32, v33, v34, v35, v36, v37, v38, v39, v40, v41, v42, v43, v44, v45, v46, v47, v48, v49, v50, v51, v52, v53, v54, v55, v56, v57, v58, v59, v60, v61, v62, v63, v64, v65, v66, v67, v68, v69, v70, v71, v72, v73, v74, v75, v76, v77, v78, v79, v80, v81, v82, v83, v84, v85, v86, v87, v88, v89, v90, v91, v92, v93, v94, v95, v96, v97, v98, v99, v100, v101, v102, v103, v104, v105, v106, v107, v108, v109, v110, v111, v112, v113, v114, v115, v116, v117, v118, v119, v120, v121, v122, v123], []⟩ W := by
  refine wp_region_tab (n := 18) (by kernel_rfl) rfl tw17Deps (by kernel_rfl) (by kernel_rfl)
    (fun L Ac X => ∃ (b0 b1 b2 b3 b4 b5 b6 b7 b8 b9 b10 b11 b12 b13 b14 b15 b16 b17 : Bool), L = [b0, b1, b2, b3, b4, b5, b6, b7, b8, b9, b10, b11, b12, b13, b14, b15, b16, b17] ∧ Ac = ⟨#[v0, v1, .slice (some ⟨b, o, none⟩) n cap, .int .i64 (c : Nat), v4, v5, v6, v7, v8, .slice (some ⟨ga, 0, none⟩) n n, v10, v11, v12, v13, v14, .slice (some ⟨gs, 0, none⟩) m m, .int .i64 (j : Nat), v17, v18, v19, v20, v21, v22, v23, v24, v25, v26, v27, v28, v29, v30, v31, v32, v33, v34, v35, v36, v37, v38, v39, v40, v41, v42, v43, v44, v45, v46, v47, v48, v49, v50, v51, v52, v53, v54, v55, v56, v57, v58, v59, v60, v61, v62, v63, v64, v65, v66, v67, v68, v69, v70, v71, v72, v73, v74, v75, v76, v77, v78, v79, v80, v81, v82, v83, v84, v85, v86, v87, v88, v89, v90, v91, v92, v93, v94, v95, v96, v97, v98, v99, v100, v101, v102, v103, v104, v105, (bif b0 then .slice (some ⟨gs, 0, none⟩) m m else v106), (bif b1 then .int .i64 (j : Nat) else v107), (bif b2 then .pointer (some ⟨gs, 0 + j, none⟩) else v108), (bif b3 then .int .u8 (p : Nat) else v109), (bif b4 then .slice (some ⟨ga, 0, none⟩) n n else v110), (bif b5 then .int .i64 (c : Nat) else v111), (bif b6 then .int .i64 (j : Nat) else v112), (bif b7 then .int .i64 (c + j : Nat) else v113), (bif b8 then .pointer (some ⟨ga, 0 + (c + j), none⟩) else v114), (bif b9 then .int .u8 (q : Nat) else v115), (bif b10 then .slice (some ⟨b, o, none⟩) n cap else v116), (bif b11 then .int .i64 (c : Nat) else v117), (bif b12 then .int .i64 (j : Nat) else v118), (bif b13 then .int .i64 (c + j : Nat) else v119), (bif b14 then .pointer (some ⟨b, o + (c + j), none⟩) else v120), (bif b15 then .int .u8 (t : Nat) else v121), (bif b16 then .int .u8 (q ^^^ t : Nat) else v122), (bif b17 then .bool false else v123)], []⟩ ∧ (X = W.drew)) ?_ ?_ ?_
  · exact ⟨false, false, false, false, false, false, false, false, false, false, false, false, false, false, false, false, false, false, rfl, rfl, rfl⟩
  · intro L Ac X jx _ hj hfr hdp hI
    obtain ⟨b0, b1, b2, b3, b4, b5, b6, b7, b8, b9, b10, b11, b12, b13, b14, b15, b16, b17, rfl, rfl, hX⟩ := hI
    match jx, hj with
    | 0, _ =>
      obtain rfl : b0 = false := hfr
      refine wpOp_of rfl (by rfl) (op_val (v := .slice (some ⟨gs, 0, none⟩) m m) (by rfl) ?_)
      exact ⟨true, b1, b2, b3, b4, b5, b6, b7, b8, b9, b10, b11, b12, b13, b14, b15, b16, b17, rfl, rfl, hX⟩
    | 1, _ =>
      obtain rfl : b1 = false := hfr
      refine wpOp_of rfl (by rfl) (op_val (v := .int .i64 (j : Nat)) (by rfl) ?_)
      exact ⟨b0, true, b2, b3, b4, b5, b6, b7, b8, b9, b10, b11, b12, b13, b14, b15, b16, b17, rfl, rfl, hX⟩
    | 2, _ =>
      obtain rfl : b2 = false := hfr
      obtain rfl : b0 = true := hdp 0 (by decide)
      obtain rfl : b1 = true := hdp 1 (by decide)
      refine wpOp_of rfl (by rfl) (op_val (v := .pointer (some ⟨gs, 0 + j, none⟩)) (exec_index rfl (x := .tmp 106) (y := .tmp 107) rfl rfl (ix25 hjm)) ?_)
      exact ⟨true, true, true, b3, b4, b5, b6, b7, b8, b9, b10, b11, b12, b13, b14, b15, b16, b17, rfl, rfl, hX⟩
    | 3, _ =>
      obtain rfl : b3 = false := hfr
      obtain rfl : b2 = true := hdp 2 (by decide)
      subst hX
      refine wpOp_of rfl (by rfl) (op_val (v := .int .u8 (p : Nat)) (exec_load rfl (x := .tmp 108) rfl (ld5 hp)) ?_)
      exact ⟨b0, b1, true, true, b4, b5, b6, b7, b8, b9, b10, b11, b12, b13, b14, b15, b16, b17, rfl, rfl, rfl⟩
    | 4, _ =>
      obtain rfl : b4 = false := hfr
      refine wpOp_of rfl (by rfl) (op_val (v := .slice (some ⟨ga, 0, none⟩) n n) (by rfl) ?_)
      exact ⟨b0, b1, b2, b3, true, b5, b6, b7, b8, b9, b10, b11, b12, b13, b14, b15, b16, b17, rfl, rfl, hX⟩
    | 5, _ =>
      obtain rfl : b5 = false := hfr
      refine wpOp_of rfl (by rfl) (op_val (v := .int .i64 (c : Nat)) (by rfl) ?_)
      exact ⟨b0, b1, b2, b3, b4, true, b6, b7, b8, b9, b10, b11, b12, b13, b14, b15, b16, b17, rfl, rfl, hX⟩
    | 6, _ =>
      obtain rfl : b6 = false := hfr
      refine wpOp_of rfl (by rfl) (op_val (v := .int .i64 (j : Nat)) (by rfl) ?_)
      exact ⟨b0, b1, b2, b3, b4, b5, true, b7, b8, b9, b10, b11, b12, b13, b14, b15, b16, b17, rfl, rfl, hX⟩
    | 7, _ =>
      obtain rfl : b7 = false := hfr
      obtain rfl : b5 = true := hdp 5 (by decide)
      obtain rfl : b6 = true := hdp 6 (by decide)
      refine wpOp_of rfl (by rfl) (op_val (v := .int .i64 (c + j : Nat)) (exec_addI rfl (x := .tmp 111) (y := .tmp 112) rfl rfl hadd) ?_)
      exact ⟨b0, b1, b2, b3, b4, true, true, true, b8, b9, b10, b11, b12, b13, b14, b15, b16, b17, rfl, rfl, hX⟩
    | 8, _ =>
      obtain rfl : b8 = false := hfr
      obtain rfl : b4 = true := hdp 4 (by decide)
      obtain rfl : b7 = true := hdp 7 (by decide)
      refine wpOp_of rfl (by rfl) (op_val (v := .pointer (some ⟨ga, 0 + (c + j), none⟩)) (exec_index rfl (x := .tmp 110) (y := .tmp 113) rfl rfl (ix25 hcj)) ?_)
      exact ⟨b0, b1, b2, b3, true, b5, b6, true, true, b9, b10, b11, b12, b13, b14, b15, b16, b17, rfl, rfl, hX⟩
    | 9, _ =>
      obtain rfl : b9 = false := hfr
      obtain rfl : b8 = true := hdp 8 (by decide)
      subst hX
      refine wpOp_of rfl (by rfl) (op_val (v := .int .u8 (q : Nat)) (exec_load rfl (x := .tmp 114) rfl (ld5 hq)) ?_)
      exact ⟨b0, b1, b2, b3, b4, b5, b6, b7, true, true, b10, b11, b12, b13, b14, b15, b16, b17, rfl, rfl, rfl⟩
    | 10, _ =>
      obtain rfl : b10 = false := hfr
      refine wpOp_of rfl (by rfl) (op_val (v := .slice (some ⟨b, o, none⟩) n cap) (by rfl) ?_)
      exact ⟨b0, b1, b2, b3, b4, b5, b6, b7, b8, b9, true, b11, b12, b13, b14, b15, b16, b17, rfl, rfl, hX⟩
    | 11, _ =>
      obtain rfl : b11 = false := hfr
      refine wpOp_of rfl (by rfl) (op_val (v := .int .i64 (c : Nat)) (by rfl) ?_)
      exact ⟨b0, b1, b2, b3, b4, b5, b6, b7, b8, b9, b10, true, b12, b13, b14, b15, b16, b17, rfl, rfl, hX⟩
    | 12, _ =>
      obtain rfl : b12 = false := hfr
      refine wpOp_of rfl (by rfl) (op_val (v := .int .i64 (j : Nat)) (by rfl) ?_)
      exact ⟨b0, b1, b2, b3, b4, b5, b6, b7, b8, b9, b10, b11, true, b13, b14, b15, b16, b17, rfl, rfl, hX⟩
    | 13, _ =>
      obtain rfl : b13 = false := hfr
      obtain rfl : b11 = true := hdp 11 (by decide)
      obtain rfl : b12 = true := hdp 12 (by decide)
      refine wpOp_of rfl (by rfl) (op_val (v := .int .i64 (c + j : Nat)) (exec_addI rfl (x := .tmp 117) (y := .tmp 118) rfl rfl hadd) ?_)
      exact ⟨b0, b1, b2, b3, b4, b5, b6, b7, b8, b9, b10, true, true, true, b14, b15, b16, b17, rfl, rfl, hX⟩
    | 14, _ =>
      obtain rfl : b14 = false := hfr
      obtain rfl : b10 = true := hdp 10 (by decide)
      obtain rfl : b13 = true := hdp 13 (by decide)
      refine wpOp_of rfl (by rfl) (op_val (v := .pointer (some ⟨b, o + (c + j), none⟩)) (exec_index rfl (x := .tmp 116) (y := .tmp 119) rfl rfl (ix25 hcj)) ?_)
      exact ⟨b0, b1, b2, b3, b4, b5, b6, b7, b8, b9, true, b11, b12, true, true, b15, b16, b17, rfl, rfl, hX⟩
    | 15, _ =>
      obtain rfl : b15 = false := hfr
      obtain rfl : b14 = true := hdp 14 (by decide)
      subst hX
      refine wpOp_of rfl (by rfl) (op_val (v := .int .u8 (t : Nat)) (exec_load rfl (x := .tmp 120) rfl (ld5 ht)) ?_)
      exact ⟨b0, b1, b2, b3, b4, b5, b6, b7, b8, b9, b10, b11, b12, b13, true, true, b16, b17, rfl, rfl, rfl⟩
    | 16, _ =>
      obtain rfl : b16 = false := hfr
      obtain rfl : b9 = true := hdp 9 (by decide)
      obtain rfl : b15 = true := hdp 15 (by decide)
      refine wpOp_of rfl (by rfl) (op_val (v := .int .u8 (q ^^^ t : Nat)) (exec_xor5 rfl (x := .tmp 115) (y := .tmp 121) rfl rfl hql htl) ?_)
      exact ⟨b0, b1, b2, b3, b4, b5, b6, b7, b8, true, b10, b11, b12, b13, b14, true, true, b17, rfl, rfl, hX⟩
    | 17, _ =>
      obtain rfl : b17 = false := hfr
      obtain rfl : b3 = true := hdp 3 (by decide)
      obtain rfl : b16 = true := hdp 16 (by decide)
      refine wpOp_of rfl (by rfl) (op_val (v := .bool false) (exec_ne5 rfl (x := .tmp 109) (y := .tmp 122) rfl rfl hpq) ?_)
      exact ⟨b0, b1, b2, true, b4, b5, b6, b7, b8, b9, b10, b11, b12, b13, b14, b15, true, true, rfl, rfl, hX⟩
    | jx + 18, h => omega
  · intro L Ac X _ hall hI
    obtain ⟨b0, b1, b2, b3, b4, b5, b6, b7, b8, b9, b10, b11, b12, b13, b14, b15, b16, b17, rfl, rfl, hX⟩ := hI
    simp at hall
    obtain ⟨rfl, rfl, rfl, rfl, rfl, rfl, rfl, rfl, rfl, rfl, rfl, rfl, rfl, rfl, rfl, rfl, rfl, rfl⟩ := hall
    subst hX
    exact hQ
end Go.Proofs.Ytgdphdnghackfaa
