/- The drawn region of the law CtrFlows (layer 5). -/
import Derived.Test.YtgdphdnghackfaaR23
import Derived.Test.YtgdphdnghackfaaL6a
import Derived.Test.YtgdphdnghackfaaL4
namespace Go.Proofs.Ytgdphdnghackfaa
open Go.RowKit Go.Shelf
theorem ix46 {W : World} {b o i n cap : Nat} (hi : i < n) : (Instr.indexAt 46 (.slice (some ⟨b, o, none⟩) n cap) (.int .i64 (i : Nat))).run Try.prog W = .ok (.pointer (some ⟨b, o + i, none⟩)) W := by
  have h1 : (i : Int) < (n : Int) := by omega
  go_simp
theorem ld25c {W : World} {p : Addr} {v : Value} (c' : W.cell? p = some v) : (Instr.loadAt 25 (.pointer (some p))).run Try.prog W = .ok v W := by
  go_simp
/-- Memory of a round of the law: the key, the piece, what the flow made of it. -/
structure FrMem (w : World) (b o i gx m : Nat) (B : Option Addr) (c a : Nat) (key tx : List Nat) (nonce : Nat) (W : World) : Prop where
  ke : Arr W w.heap.size 22 key
  ce : W.cell? ⟨b, o + i, none⟩ = some (.slice B m c)
  e : TxIn W B m c tx
  s : TxIn W (some ⟨gx, 0, none⟩) m m (turnL key nonce a tx)
theorem FrMem.keep {w : World} {b o i gx m : Nat} {B : Option Addr} {c a : Nat} {key tx : List Nat} {nonce : Nat} {W W' : World} (h : FrMem w b o i gx m B c a key tx nonce W) (k : Below W.heap.size W W') : FrMem w b o i gx m B c a key tx nonce W' :=
  ⟨h.ke.keep k h.ke.lt, (k.cell (p := ⟨b, o + i, none⟩) (World.block_lt_of_cell? W _ h.ce)).trans h.ce, h.e.keep k (Nat.le_refl _), h.s.keep k (Nat.le_refl _)⟩
def fl26Deps : List (List Nat) := [[], [0], [1], [2], [3, 2], [2], [2], [2], [2], [2], [8, 9, 2], [10, 2], [5, 6, 7, 11, 2], [12, 2], [4, 13, 2], [2, 14]]
set_option maxRecDepth 100000 in
set_option maxHeartbeats 1000000 in
theorem fl26 {Q : Exit → Act → World → Prop} {w : World} {B : Option Addr} {n cap b o i gx m c a nonce : Nat} {key tx : List Nat} {s1 : ByteArray} {W : World} (hM0 : FrMem w b o i gx m B c a key tx nonce W.drew) (hi : i < n) (hs1 : strN (turnL key nonce a tx) = s1) (hk : key.length = 16) (bk : Bytes key) (hm : m ≤ 1100000) (ha : a < 1100000) (hN : nonce < 18446744073709551616) (v0 v2 v5 v6 v7 v8 v9 v11 v12 v16 v17 v18 v19 v20 v21 v22 v23 v24 v25 v26 v27 v28 v29 v30 v31 v32 v33 v34 v35 v36 v37 v38 v39 v40 v41 v42 v43 v44 v45 v46 v47 v48 v49 v50 v51 v52 v53 v54 v55 v56 v57 v58 v59 v60 v61 v62 v63 v64 v65 v66 v67 v68 v69 v70 v71 v72 v73 v74 v75 v76 v77 v78 v79 v80 v81 v82 v83 v84 v85 v86 v87 v88 v89 v90 v91 v92 v93 v94 v95 v96 v97 v98 v99 v100 v101 v102 v103 v104 v105 v106 v107 v108 v109 v110 v111 v112 v114 v115 v116 v117 v118 v119 v120 v121 v122 v123 v124 v125 v126 v127 v128 v129 v130 v131 v132 v133 v134 v135 v136 v137 v138 v139 v113 : Value)
    (hQ : ∀ v113 X, Below W.heap.size W X → Q .normal ⟨#[v0, .int .u64 nonce, v2, .slice (some ⟨b, o, none⟩) n cap, .pointer (some ⟨w.heap.size, 0, none⟩), v5, v6, v7, v8, v9, .int .i64 (a : Nat), v11, v12, .int .i64 (i : Nat), .slice (some ⟨gx, 0, none⟩) m m, .int .i64 0, v16, v17, v18, v19, v20, v21, v22, v23, v24, v25, v26, v27, v28, v29, v30, v31, v32, v33, v34, v35, v36, v37, v38, v39, v40, v41, v42, v43, v44, v45, v46, v47, v48, v49, v50, v51, v52, v53, v54, v55, v56, v57, v58, v59, v60, v61, v62, v63, v64, v65, v66, v67, v68, v69, v70, v71, v72, v73, v74, v75, v76, v77, v78, v79, v80, v81, v82, v83, v84, v85, v86, v87, v88, v89, v90, v91, v92, v93, v94, v95, v96, v97, v98, v99, v100, .int .i64 0, .bool false, .bool false, .slice (some ⟨gx, 0, none⟩) m m, .string s1, .agg (u8s key), .int .u64 nonce, .int .i64 (a : Nat), .slice (some ⟨b, o, none⟩) n cap, .int .i64 (i : Nat), .pointer (some ⟨b, o + i, none⟩), .slice B m c, v113, .string s1, .bool false, .bool false, v117, v118, v119, v120, v121, v122, v123, v124, v125, v126, v127, v128, v129, v130, v131, v132, v133, v134, v135, v136, v137, v138, v139], []⟩ X)
    : (Code.region 26 #[{ dst := Option.some 101, op := Go.Op.move (Go.Operand.tmp 15), type := 34, pos := "law.go:83", after := #[], guard := Option.none }, { dst := Option.some 102, op := Go.Op.binOp Go.BinOp.neq 34 (Go.Operand.tmp 101) (Go.Operand.const (Go.Value.int Go.IntKind.i64 0)) 34, type := 4, pos := "law.go:83", after := #[{ on := 0, ground := Go.Ground.data }], guard := Option.none }, { dst := Option.some 103, op := Go.Op.move (Go.Operand.tmp 102), type := 4, pos := "law.go:83", after := #[{ on := 1, ground := Go.Ground.data }], guard := Option.none }, { dst := Option.some 104, op := Go.Op.move (Go.Operand.tmp 14), type := 25, pos := "law.go:83", after := #[{ on := 2, ground := Go.Ground.guard }], guard := Option.some (2, Bool.false) }, { dst := Option.some 105, op := Go.Op.convert 25 9 (Go.Operand.tmp 104), type := 9, pos := "law.go:83", after := #[{ on := 3, ground := Go.Ground.data }, { on := 2, ground := Go.Ground.guard }], guard := Option.some (2, Bool.false) }, { dst := Option.some 106, op := Go.Op.load 22 (Go.Operand.tmp 4), type := 22, pos := "law.go:83", after := #[{ on := 2, ground := Go.Ground.guard }], guard := Option.some (2, Bool.false) }, { dst := Option.some 107, op := Go.Op.move (Go.Operand.tmp 1), type := 23, pos := "law.go:83", after := #[{ on := 2, ground := Go.Ground.guard }], guard := Option.some (2, Bool.false) }, { dst := Option.some 108, op := Go.Op.move (Go.Operand.tmp 10), type := 3, pos := "law.go:83", after := #[{ on := 2, ground := Go.Ground.guard }], guard := Option.some (2, Bool.false) }, { dst := Option.some 109, op := Go.Op.move (Go.Operand.tmp 3), type := 46, pos := "law.go:83", after := #[{ on := 2, ground := Go.Ground.guard }], guard := Option.some (2, Bool.false) }, { dst := Option.some 110, op := Go.Op.move (Go.Operand.tmp 13), type := 3, pos := "law.go:83", after := #[{ on := 2, ground := Go.Ground.guard }], guard := Option.some (2, Bool.false) }, { dst := Option.some 111, op := Go.Op.indexAddr 46 (Go.Operand.tmp 109) (Go.Operand.tmp 110), type := 0, pos := "law.go:83", after := #[{ on := 8, ground := Go.Ground.data }, { on := 9, ground := Go.Ground.data }, { on := 2, ground := Go.Ground.guard }], guard := Option.some (2, Bool.false) }, { dst := Option.some 112, op := Go.Op.load 25 (Go.Operand.tmp 111), type := 25, pos := "law.go:83", after := #[{ on := 10, ground := Go.Ground.data }, { on := 2, ground := Go.Ground.guard }], guard := Option.some (2, Bool.false) }, { dst := Option.some 113, op := Go.Op.call { callee := Go.Callee.value (Go.Operand.func 11), args := #[Go.Operand.tmp 106, Go.Operand.tmp 107, Go.Operand.tmp 108, Go.Operand.tmp 112], argTypes := #[22, 23, 3, 25] }, type := 25, pos := "law.go:83", after := #[{ on := 5, ground := Go.Ground.data }, { on := 6, ground := Go.Ground.data }, { on := 7, ground := Go.Ground.data }, { on := 11, ground := Go.Ground.data }, { on := 2, ground := Go.Ground.chain }, { on := 2, ground := Go.Ground.guard }], guard := Option.some (2, Bool.false) }, { dst := Option.some 114, op := Go.Op.convert 25 9 (Go.Operand.tmp 113), type := 9, pos := "law.go:83", after := #[{ on := 12, ground := Go.Ground.data }, { on := 2, ground := Go.Ground.guard }], guard := Option.some (2, Bool.false) }, { dst := Option.some 115, op := Go.Op.binOp Go.BinOp.neq 9 (Go.Operand.tmp 105) (Go.Operand.tmp 114) 9, type := 4, pos := "law.go:83", after := #[{ on := 4, ground := Go.Ground.data }, { on := 13, ground := Go.Ground.data }, { on := 2, ground := Go.Ground.guard }], guard := Option.some (2, Bool.false) }, { dst := Option.some 116, op := Go.Op.pick (Go.Operand.tmp 103) (Go.Operand.const (Go.Value.bool Bool.true)) (Go.Operand.tmp 115), type := 4, pos := "law.go:83", after := #[{ on := 2, ground := Go.Ground.data }, { on := 14, ground := Go.Ground.data }], guard := Option.none }] true).wp Try.prog Q ⟨#[v0, .int .u64 nonce, v2, .slice (some ⟨b, o, none⟩) n cap, .pointer (some ⟨w.heap.size, 0, none⟩), v5, v6, v7, v8, v9, .int .i64 (a : Nat), v11, v12, .int .i64 (i : Nat), .slice (some ⟨gx, 0, none⟩) m m, .int .i64 0, v16, v17, v18, v19, v20, v21, v22, v23, v24, v25, v26, v27, v28, v29, v30, v31, v32, v33, v34, v35, v36, v37, v38, v39, v40, v41, v42, v43, v44, v45, v46, v47, v48, v49, v50, v51, v52, v53, v54, v55, v56, v57, v58, v59, v60, v61, v62, v63, v64, v65, v66, v67, v68, v69, v70, v71, v72, v73, v74, v75, v76, v77, v78, v79, v80, v81, v82, v83, v84, v85, v86, v87, v88, v89, v90, v91, v92, v93, v94, v95, v96, v97, v98, v99, v100, v101, v102, v103, v104, v105, v106, v107, v108, v109, v110, v111, v112, v113, v114, v115, v116, v117, v118, v119, v120, v121, v122, v123, v124, v125, v126, v127, v128, v129, v130, v131, v132, v133, v134, v135, v136, v137, v138, v139], []⟩ W := by
  refine wp_region_tab (n := 16) (by kernel_rfl) rfl fl26Deps (by kernel_rfl) (by kernel_rfl)
    (fun L Ac X => ∃ (b0 b1 b2 b3 b4 b5 b6 b7 b8 b9 b10 b11 b12 b13 b14 b15 : Bool) (v113 : Value), L = [b0, b1, b2, b3, b4, b5, b6, b7, b8, b9, b10, b11, b12, b13, b14, b15] ∧ Ac = ⟨#[v0, .int .u64 nonce, v2, .slice (some ⟨b, o, none⟩) n cap, .pointer (some ⟨w.heap.size, 0, none⟩), v5, v6, v7, v8, v9, .int .i64 (a : Nat), v11, v12, .int .i64 (i : Nat), .slice (some ⟨gx, 0, none⟩) m m, .int .i64 0, v16, v17, v18, v19, v20, v21, v22, v23, v24, v25, v26, v27, v28, v29, v30, v31, v32, v33, v34, v35, v36, v37, v38, v39, v40, v41, v42, v43, v44, v45, v46, v47, v48, v49, v50, v51, v52, v53, v54, v55, v56, v57, v58, v59, v60, v61, v62, v63, v64, v65, v66, v67, v68, v69, v70, v71, v72, v73, v74, v75, v76, v77, v78, v79, v80, v81, v82, v83, v84, v85, v86, v87, v88, v89, v90, v91, v92, v93, v94, v95, v96, v97, v98, v99, v100, (bif b0 then .int .i64 0 else v101), (bif b1 then .bool false else v102), (bif b2 then .bool false else v103), (bif b3 then .slice (some ⟨gx, 0, none⟩) m m else v104), (bif b4 then .string s1 else v105), (bif b5 then .agg (u8s key) else v106), (bif b6 then .int .u64 nonce else v107), (bif b7 then .int .i64 (a : Nat) else v108), (bif b8 then .slice (some ⟨b, o, none⟩) n cap else v109), (bif b9 then .int .i64 (i : Nat) else v110), (bif b10 then .pointer (some ⟨b, o + i, none⟩) else v111), (bif b11 then .slice B m c else v112), v113, (bif b13 then .string s1 else v114), (bif b14 then .bool false else v115), (bif b15 then .bool false else v116), v117, v118, v119, v120, v121, v122, v123, v124, v125, v126, v127, v128, v129, v130, v131, v132, v133, v134, v135, v136, v137, v138, v139], []⟩ ∧ (FrMem w b o i gx m B c a key tx nonce X ∧ Below W.heap.size W X) ∧ (b12 = true → ∃ A2 c2, v113 = .slice A2 m c2 ∧ TxIn X A2 m c2 (turnL key nonce a tx))) ?_ ?_ ?_
  · exact ⟨false, false, false, false, false, false, false, false, false, false, false, false, false, false, false, false, v113, rfl, rfl, ⟨hM0, (Below.refl _ _).drew⟩, nofun⟩
  · intro L Ac X jx _ hj hfr hdp hI
    obtain ⟨b0, b1, b2, b3, b4, b5, b6, b7, b8, b9, b10, b11, b12, b13, b14, b15, v113, rfl, rfl, hM, h12⟩ := hI
    match jx, hj with
    | 0, _ =>
      obtain rfl : b0 = false := hfr
      refine wpOp_of rfl (by rfl) (op_val (v := .int .i64 0) (by rfl) ?_)
      exact ⟨true, b1, b2, b3, b4, b5, b6, b7, b8, b9, b10, b11, b12, b13, b14, b15, v113, rfl, rfl, hM, h12⟩
    | 1, _ =>
      obtain rfl : b1 = false := hfr
      obtain rfl : b0 = true := hdp 0 (by decide)
      refine wpOp_of rfl (by rfl) (op_val (v := .bool false) (exec_ne34 rfl (x := .tmp 101) rfl) ?_)
      exact ⟨true, true, b2, b3, b4, b5, b6, b7, b8, b9, b10, b11, b12, b13, b14, b15, v113, rfl, rfl, hM, h12⟩
    | 2, _ =>
      obtain rfl : b2 = false := hfr
      obtain rfl : b1 = true := hdp 1 (by decide)
      refine wpOp_of rfl (by rfl) (op_val (v := .bool false) (by rfl) ?_)
      exact ⟨b0, true, true, b3, b4, b5, b6, b7, b8, b9, b10, b11, b12, b13, b14, b15, v113, rfl, rfl, hM, h12⟩
    | 3, _ =>
      obtain rfl : b3 = false := hfr
      obtain rfl : b2 = true := hdp 2 (by decide)
      refine wpOp_of rfl (by rfl) (op_val (v := .slice (some ⟨gx, 0, none⟩) m m) (by rfl) ?_)
      exact ⟨b0, b1, true, true, b4, b5, b6, b7, b8, b9, b10, b11, b12, b13, b14, b15, v113, rfl, rfl, hM, h12⟩
    | 4, _ =>
      obtain rfl : b4 = false := hfr
      obtain rfl : b3 = true := hdp 3 (by decide)
      obtain rfl : b2 = true := hdp 2 (by decide)
      refine wpOp_of rfl (by rfl) (op_val (v := .string s1) (exec_conv rfl (x := .tmp 104) rfl (strT hs1 hM.1.s)) ?_)
      exact ⟨b0, b1, true, true, true, b5, b6, b7, b8, b9, b10, b11, b12, b13, b14, b15, v113, rfl, rfl, hM, h12⟩
    | 5, _ =>
      obtain rfl : b5 = false := hfr
      obtain rfl : b2 = true := hdp 2 (by decide)
      refine wpOp_of rfl (by rfl) (op_val (v := .agg (u8s key)) (exec_load rfl (x := .tmp 4) rfl (hM.1.ke.loadAt Try.underlying22 (by rw [hk]; exact size22))) ?_)
      exact ⟨b0, b1, true, b3, b4, true, b6, b7, b8, b9, b10, b11, b12, b13, b14, b15, v113, rfl, rfl, hM, h12⟩
    | 6, _ =>
      obtain rfl : b6 = false := hfr
      obtain rfl : b2 = true := hdp 2 (by decide)
      refine wpOp_of rfl (by rfl) (op_val (v := .int .u64 nonce) (by rfl) ?_)
      exact ⟨b0, b1, true, b3, b4, b5, true, b7, b8, b9, b10, b11, b12, b13, b14, b15, v113, rfl, rfl, hM, h12⟩
    | 7, _ =>
      obtain rfl : b7 = false := hfr
      obtain rfl : b2 = true := hdp 2 (by decide)
      refine wpOp_of rfl (by rfl) (op_val (v := .int .i64 (a : Nat)) (by rfl) ?_)
      exact ⟨b0, b1, true, b3, b4, b5, b6, true, b8, b9, b10, b11, b12, b13, b14, b15, v113, rfl, rfl, hM, h12⟩
    | 8, _ =>
      obtain rfl : b8 = false := hfr
      obtain rfl : b2 = true := hdp 2 (by decide)
      refine wpOp_of rfl (by rfl) (op_val (v := .slice (some ⟨b, o, none⟩) n cap) (by rfl) ?_)
      exact ⟨b0, b1, true, b3, b4, b5, b6, b7, true, b9, b10, b11, b12, b13, b14, b15, v113, rfl, rfl, hM, h12⟩
    | 9, _ =>
      obtain rfl : b9 = false := hfr
      obtain rfl : b2 = true := hdp 2 (by decide)
      refine wpOp_of rfl (by rfl) (op_val (v := .int .i64 (i : Nat)) (by rfl) ?_)
      exact ⟨b0, b1, true, b3, b4, b5, b6, b7, b8, true, b10, b11, b12, b13, b14, b15, v113, rfl, rfl, hM, h12⟩
    | 10, _ =>
      obtain rfl : b10 = false := hfr
      obtain rfl : b8 = true := hdp 8 (by decide)
      obtain rfl : b9 = true := hdp 9 (by decide)
      obtain rfl : b2 = true := hdp 2 (by decide)
      refine wpOp_of rfl (by rfl) (op_val (v := .pointer (some ⟨b, o + i, none⟩)) (exec_index rfl (x := .tmp 109) (y := .tmp 110) rfl rfl (ix46 hi)) ?_)
      exact ⟨b0, b1, true, b3, b4, b5, b6, b7, true, true, true, b11, b12, b13, b14, b15, v113, rfl, rfl, hM, h12⟩
    | 11, _ =>
      obtain rfl : b11 = false := hfr
      obtain rfl : b10 = true := hdp 10 (by decide)
      obtain rfl : b2 = true := hdp 2 (by decide)
      refine wpOp_of rfl (by rfl) (op_val (v := .slice B m c) (exec_load rfl (x := .tmp 111) rfl (ld25c hM.1.ce)) ?_)
      exact ⟨b0, b1, true, b3, b4, b5, b6, b7, b8, b9, true, true, b12, b13, b14, b15, v113, rfl, rfl, hM, h12⟩
    | 12, _ =>
      obtain rfl : b12 = false := hfr
      obtain rfl : b5 = true := hdp 5 (by decide)
      obtain rfl : b6 = true := hdp 6 (by decide)
      obtain rfl : b7 = true := hdp 7 (by decide)
      obtain rfl : b11 = true := hdp 11 (by decide)
      obtain rfl : b2 = true := hdp 2 (by decide)
      refine wpOp_of rfl (by rfl) (op_calls (args := #[.agg (u8s key), .int .u64 nonce, .int .i64 (a : Nat), .slice B m c]) Try.call11 rfl (by simp only [List.map_toArray, List.map_cons, List.map_nil]; rfl) ?_)
      refine (TurnR_to X nonce a m c B key tx hM.1.e hk bk hm ha hN (a : Int) rfl).mono fun e X' ⟨A2, c2, he, hy, hb⟩ => ⟨_, he, ?_⟩
      exact ⟨b0, b1, true, b3, b4, true, true, true, b8, b9, b10, true, true, b13, b14, b15, .slice A2 m c2, rfl, rfl, ⟨hM.1.keep hb, hM.2.trans (hb.mono hM.2.size)⟩, fun _ => ⟨A2, c2, rfl, hy⟩⟩
    | 13, _ =>
      obtain rfl : b13 = false := hfr
      obtain rfl : b12 = true := hdp 12 (by decide)
      obtain rfl : b2 = true := hdp 2 (by decide)
      obtain ⟨A2, c2, rfl, hx⟩ := h12 rfl
      refine wpOp_of rfl (by rfl) (op_val (v := .string s1) (exec_conv rfl (x := .tmp 113) rfl (strT hs1 hx)) ?_)
      exact ⟨b0, b1, true, b3, b4, b5, b6, b7, b8, b9, b10, b11, true, true, b14, b15, .slice A2 m c2, rfl, rfl, hM, fun _ => ⟨A2, c2, rfl, hx⟩⟩
    | 14, _ =>
      obtain rfl : b14 = false := hfr
      obtain rfl : b4 = true := hdp 4 (by decide)
      obtain rfl : b13 = true := hdp 13 (by decide)
      obtain rfl : b2 = true := hdp 2 (by decide)
      refine wpOp_of rfl (by rfl) (op_val (v := .bool false) (exec_neS rfl (x := .tmp 105) (y := .tmp 114) rfl rfl) ?_)
      exact ⟨b0, b1, true, b3, true, b5, b6, b7, b8, b9, b10, b11, b12, true, true, b15, v113, rfl, rfl, hM, h12⟩
    | 15, _ =>
      obtain rfl : b15 = false := hfr
      obtain rfl : b2 = true := hdp 2 (by decide)
      obtain rfl : b14 = true := hdp 14 (by decide)
      refine wpOp_of rfl (by rfl) (op_val (v := .bool false) (by rfl) ?_)
      exact ⟨b0, b1, true, b3, b4, b5, b6, b7, b8, b9, b10, b11, b12, b13, true, true, v113, rfl, rfl, hM, h12⟩
    | jx + 16, h => omega
  · intro L Ac X _ hall hI
    obtain ⟨b0, b1, b2, b3, b4, b5, b6, b7, b8, b9, b10, b11, b12, b13, b14, b15, v113, rfl, rfl, hM, h12⟩ := hI
    simp at hall
    obtain ⟨rfl, rfl, rfl, rfl, rfl, rfl, rfl, rfl, rfl, rfl, rfl, rfl, rfl, rfl, rfl, rfl⟩ := hall
    exact hQ _ X hM.2
end Go.Proofs.Ytgdphdnghackfaa
