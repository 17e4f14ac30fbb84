/- The walk of the law CtrFlows (layer 5). -/
import Derived.Test.YtgdphdnghackfaaL8a
namespace Go.Proofs.Ytgdphdnghackfaa
open Go.RowKit Go.Shelf
/-- A slice of texts that came in. -/
def LsIn (w : World) (A : Option Addr) (n : Nat) : Prop := 0 < n → ∃ b o, A = some ⟨b, o, none⟩ ∧ ∀ i, i < n → ∃ B m c tx, w.cell? ⟨b, o + i, none⟩ = some (.slice B m c) ∧ TxIn w B m c tx
structure LwMem (w : World) (gF gn gk a : Nat) (key : List Nat) (nonce : Nat) (W : World) : Prop where
  ke : Arr W w.heap.size 22 key
  f : Box W gF 40 #[blkF gn gk, .int .i64 (a : Nat)]
  ne : Box W gn 23 #[.int .u64 (nonce : Nat)]
  kk : Arr W gk 22 key
  bel : Below w.heap.size w W
theorem LwMem.keep {w : World} {gF gn gk a : Nat} {key : List Nat} {nonce : Nat} {W W' : World} (h : LwMem w gF gn gk a key nonce W) (k : Below W.heap.size W W') : LwMem w gF gn gk a key nonce W' :=
  ⟨h.ke.keep k h.ke.lt, h.f.keep k h.f.lt, h.ne.keep k h.ne.lt, h.kk.keep k h.kk.lt, h.bel.trans (k.mono h.bel.size)⟩
theorem LwMem.turned {w : World} {gF gn gk a a2 : Nat} {key : List Nat} {nonce : Nat} {W W' : World} (h : LwMem w gF gn gk a key nonce W) (hF : w.heap.size < gF) (h1 : gn ≠ gF) (h2 : gk ≠ gF) (hf : Box W' gF 40 #[blkF gn gk, .int .i64 (a2 : Nat)]) (g : W.grownBy W' (some gF)) : LwMem w gF gn gk a2 key nonce W' :=
  ⟨Box.grown h.ke g (fun e => by cases e; omega), hf, h.ne.grown g (fun e => h1 (by cases e; rfl)), Box.grown h.kk g (fun e => h2 (by cases e; rfl)), h.bel.grown g h.bel.size (fun r e => by cases e; omega)⟩
set_option maxRecDepth 100000 in
set_option maxHeartbeats 4000000 in
theorem flows_loop {K : Act → World → Prop} (key : List Nat) (hk : key.length = 16) (bk : Bytes key) (nonce n cap a0 : Nat) (A : Option Addr) (hN : nonce < 18446744073709551616) (hn : n ≤ 40) (w W : World) (h : LsIn w A n) (gF gn gk : Nat) (hF : w.heap.size < gF) (h1 : gn ≠ gF) (h2 : gk ≠ gF) (ha : a0 ≤ 1048576) (M : LwMem w gF gn gk a0 key nonce W) (v0 v2 v5 v6 v7 v11 v12 v14 v15 v16 v17 v18 v19 v20 v21 v22 v23 v24 v25 v26 v27 v28 v29 v30 v31 v32 v33 v34 v35 v36 v37 v38 v39 v40 v41 v42 v43 v44 v45 v46 v47 v48 v49 v50 v51 v52 v53 v54 v55 v56 v57 v58 v59 v60 v61 v62 v63 v64 v65 v66 v67 v68 v69 v70 v71 v72 v73 v74 v75 v76 v77 v78 v79 v80 v81 v82 v83 v84 v85 v86 v87 v88 v89 v90 v91 v92 v93 v94 v95 v96 v97 v98 v99 v100 v101 v102 v103 v104 v105 v106 v107 v108 v109 v110 v111 v112 v113 v114 v115 v116 v117 v118 v119 v120 v121 v122 v123 v124 v125 v126 v127 v128 v129 v130 v131 v132 v133 v134 v135 v136 v137 v138 v139 : Value)
    (hK : ∀ a w', Code.wp Try.prog ((Go.Code.region 31 #[{ dst := Option.some 128, op := Go.Op.move (Go.Operand.tmp 9), type := 32, pos := "law.go:91", after := #[], guard := Option.none }, { dst := Option.some 129, op := Go.Op.load 22 (Go.Operand.tmp 4), type := 22, pos := "law.go:91", after := #[], guard := Option.none }, { dst := Option.some 130, op := Go.Op.move (Go.Operand.tmp 1), type := 23, pos := "law.go:91", after := #[], guard := Option.none }, { dst := Option.some 131, op := Go.Op.move (Go.Operand.tmp 10), type := 3, pos := "law.go:91", after := #[], guard := Option.none }, { dst := Option.some 132, op := Go.Op.binOp Go.BinOp.quo 3 (Go.Operand.tmp 131) (Go.Operand.const (Go.Value.int Go.IntKind.i64 16)) 3, type := 3, pos := "law.go:91", after := #[{ on := 3, ground := Go.Ground.data }], guard := Option.none }, { dst := Option.some 133, op := Go.Op.call { callee := Go.Callee.value (Go.Operand.func 17), args := #[Go.Operand.tmp 128, Go.Operand.tmp 129, Go.Operand.tmp 130, Go.Operand.tmp 132], argTypes := #[32, 22, 23, 3] }, type := 4, pos := "law.go:91", after := #[{ on := 0, ground := Go.Ground.data }, { on := 1, ground := Go.Ground.data }, { on := 2, ground := Go.Ground.data }, { on := 4, ground := Go.Ground.data }], guard := Option.none }, { dst := Option.some 134, op := Go.Op.move (Go.Operand.tmp 133), type := 4, pos := "law.go:91", after := #[{ on := 5, ground := Go.Ground.data }, { on := 5, ground := Go.Ground.chain }], guard := Option.none }, { dst := Option.some 135, op := Go.Op.move (Go.Operand.tmp 9), type := 32, pos := "law.go:91", after := #[{ on := 6, ground := Go.Ground.guard }], guard := Option.some (6, Bool.true) }, { dst := Option.some 136, op := Go.Op.call { callee := Go.Callee.value (Go.Operand.func 16), args := #[Go.Operand.tmp 135], argTypes := #[32] }, type := 3, pos := "law.go:91", after := #[{ on := 7, ground := Go.Ground.data }, { on := 6, ground := Go.Ground.chain }, { on := 6, ground := Go.Ground.guard }], guard := Option.some (6, Bool.true) }, { dst := Option.some 137, op := Go.Op.move (Go.Operand.tmp 10), type := 3, pos := "law.go:91", after := #[{ on := 6, ground := Go.Ground.guard }], guard := Option.some (6, Bool.true) }, { dst := Option.some 138, op := Go.Op.binOp Go.BinOp.eql 3 (Go.Operand.tmp 136) (Go.Operand.tmp 137) 3, type := 4, pos := "law.go:91", after := #[{ on := 8, ground := Go.Ground.data }, { on := 9, ground := Go.Ground.data }, { on := 6, ground := Go.Ground.guard }], guard := Option.some (6, Bool.true) }, { dst := Option.some 139, op := Go.Op.pick (Go.Operand.tmp 134) (Go.Operand.tmp 138) (Go.Operand.const (Go.Value.bool Bool.false)), type := 4, pos := "law.go:91", after := #[{ on := 6, ground := Go.Ground.data }, { on := 10, ground := Go.Ground.data }], guard := Option.none }, { dst := Option.some 8, op := Go.Op.assign (Go.Operand.tmp 139), type := 4, pos := "law.go:91", after := #[{ on := 11, ground := Go.Ground.data }, { on := 8, ground := Go.Ground.chain }, { on := 0, ground := Go.Ground.phase }, { on := 1, ground := Go.Ground.phase }, { on := 2, ground := Go.Ground.phase }, { on := 3, ground := Go.Ground.phase }, { on := 4, ground := Go.Ground.phase }, { on := 5, ground := Go.Ground.phase }, { on := 6, ground := Go.Ground.phase }, { on := 7, ground := Go.Ground.phase }, { on := 8, ground := Go.Ground.phase }, { on := 9, ground := Go.Ground.phase }, { on := 10, ground := Go.Ground.phase }, { on := 11, ground := Go.Ground.phase }], guard := Option.none }] Bool.false).seq Go.Code.ret) (bodyPost Try.prog Try.f8 fun e w' => e = .returned (.bool true) ∧ Below w.heap.size w w') a w' → K a w') :
    Code.wp Try.prog ((((Go.Code.region 18 #[{ dst := Option.some 65, op := Go.Op.move (Go.Operand.tmp 13), type := 3, pos := "law.go:72", after := #[], guard := Option.none }, { dst := Option.some 66, op := Go.Op.move (Go.Operand.tmp 3), type := 46, pos := "law.go:72", after := #[], guard := Option.none }, { dst := Option.some 67, op := Go.Op.call { callee := Go.Callee.builtin Go.Builtin.len, args := #[Go.Operand.tmp 66], argTypes := #[46] }, type := 3, pos := "law.go:72", after := #[{ on := 1, ground := Go.Ground.data }], guard := Option.none }, { dst := Option.some 68, op := Go.Op.binOp Go.BinOp.lss 3 (Go.Operand.tmp 65) (Go.Operand.tmp 67) 3, type := 4, pos := "law.go:72", after := #[{ on := 0, ground := Go.Ground.data }, { on := 2, ground := Go.Ground.data }], guard := Option.none }] Bool.false).seq (Go.Code.cond (Go.Operand.tmp 68) Go.Code.skip (Go.Code.exit 0))).seq ((Go.Code.block 1 (((Go.Code.region 20 #[{ dst := Option.some 71, op := Go.Op.move (Go.Operand.tmp 3), type := 46, pos := "law.go:73", after := #[], guard := Option.none }, { dst := Option.some 72, op := Go.Op.move (Go.Operand.tmp 13), type := 3, pos := "law.go:73", after := #[], guard := Option.none }, { dst := Option.some 73, op := Go.Op.indexAddr 46 (Go.Operand.tmp 71) (Go.Operand.tmp 72), type := 0, pos := "law.go:73", after := #[{ on := 0, ground := Go.Ground.data }, { on := 1, ground := Go.Ground.data }], guard := Option.none }, { dst := Option.some 74, op := Go.Op.load 25 (Go.Operand.tmp 73), type := 25, pos := "law.go:73", after := #[{ on := 2, ground := Go.Ground.data }], guard := Option.none }, { dst := Option.some 75, op := Go.Op.call { callee := Go.Callee.builtin Go.Builtin.len, args := #[Go.Operand.tmp 74], argTypes := #[25] }, type := 3, pos := "law.go:73", after := #[{ on := 3, ground := Go.Ground.data }], guard := Option.none }, { dst := Option.some 76, op := Go.Op.binOp Go.BinOp.gtr 3 (Go.Operand.tmp 75) (Go.Operand.const (Go.Value.int Go.IntKind.i64 300)) 3, type := 4, pos := "law.go:73", after := #[{ on := 4, ground := Go.Ground.data }], guard := Option.none }] Bool.false).seq (Go.Code.cond (Go.Operand.tmp 76) ((Go.Code.region 21 #[{ dst := Option.some 8, op := Go.Op.assign (Go.Operand.const (Go.Value.bool Bool.true)), type := 4, pos := "law.go:74", after := #[], guard := Option.none }] Bool.false).seq Go.Code.ret) Go.Code.skip)).seq ((Go.Code.region 22 #[{ dst := Option.some 78, op := Go.Op.move (Go.Operand.tmp 9), type := 32, pos := "law.go:76", after := #[], guard := Option.none }, { dst := Option.some 79, op := Go.Op.move (Go.Operand.tmp 3), type := 46, pos := "law.go:76", after := #[], guard := Option.none }, { dst := Option.some 80, op := Go.Op.move (Go.Operand.tmp 13), type := 3, pos := "law.go:76", after := #[], guard := Option.none }, { dst := Option.some 81, op := Go.Op.indexAddr 46 (Go.Operand.tmp 79) (Go.Operand.tmp 80), type := 0, pos := "law.go:76", after := #[{ on := 1, ground := Go.Ground.data }, { on := 2, ground := Go.Ground.data }], guard := Option.none }, { dst := Option.some 82, op := Go.Op.load 25 (Go.Operand.tmp 81), type := 25, pos := "law.go:76", after := #[{ on := 3, ground := Go.Ground.data }], guard := Option.none }, { dst := Option.some 83, op := Go.Op.call { callee := Go.Callee.value (Go.Operand.func 14), args := #[Go.Operand.tmp 78, Go.Operand.tmp 82], argTypes := #[32, 25] }, type := 35, pos := "law.go:76", after := #[{ on := 0, ground := Go.Ground.data }, { on := 4, ground := Go.Ground.data }], guard := Option.none }, { dst := Option.some 77, op := Go.Op.move (Go.Operand.tmp 83), type := 35, pos := "law.go:76", after := #[{ on := 5, ground := Go.Ground.data }], guard := Option.none }, { dst := Option.some 84, op := Go.Op.extract (Go.Operand.tmp 77) 0, type := 25, pos := "law.go:76", after := #[{ on := 6, ground := Go.Ground.data }], guard := Option.none }, { dst := Option.some 85, op := Go.Op.extract (Go.Operand.tmp 77) 1, type := 34, pos := "law.go:76", after := #[{ on := 6, ground := Go.Ground.data }, { on := 9, ground := Go.Ground.gcOnly Go.Departure.lateStores }], guard := Option.none }, { dst := Option.some 14, op := Go.Op.assign (Go.Operand.tmp 84), type := 25, pos := "law.go:76", after := #[{ on := 7, ground := Go.Ground.data }, { on := 5, ground := Go.Ground.chain }, { on := 0, ground := Go.Ground.phase }, { on := 1, ground := Go.Ground.phase }, { on := 2, ground := Go.Ground.phase }, { on := 3, ground := Go.Ground.phase }, { on := 4, ground := Go.Ground.phase }, { on := 5, ground := Go.Ground.phase }, { on := 6, ground := Go.Ground.phase }, { on := 7, ground := Go.Ground.phase }, { on := 8, ground := Go.Ground.textOnly Go.Departure.lateStores }], guard := Option.none }, { dst := Option.some 15, op := Go.Op.assign (Go.Operand.tmp 85), type := 34, pos := "law.go:76", after := #[{ on := 8, ground := Go.Ground.data }, { on := 9, ground := Go.Ground.chain }, { on := 0, ground := Go.Ground.phase }, { on := 1, ground := Go.Ground.phase }, { on := 2, ground := Go.Ground.phase }, { on := 3, ground := Go.Ground.phase }, { on := 4, ground := Go.Ground.phase }, { on := 5, ground := Go.Ground.phase }, { on := 6, ground := Go.Ground.phase }, { on := 7, ground := Go.Ground.phase }, { on := 8, ground := Go.Ground.phase }, { on := 9, ground := Go.Ground.phase }], guard := Option.none }] Bool.false).seq (((Go.Code.region 23 #[{ dst := Option.some 86, op := Go.Op.move (Go.Operand.tmp 3), type := 46, pos := "law.go:77", after := #[], guard := Option.none }, { dst := Option.some 87, op := Go.Op.move (Go.Operand.tmp 13), type := 3, pos := "law.go:77", after := #[], guard := Option.none }, { dst := Option.some 88, op := Go.Op.indexAddr 46 (Go.Operand.tmp 86) (Go.Operand.tmp 87), type := 0, pos := "law.go:77", after := #[{ on := 0, ground := Go.Ground.data }, { on := 1, ground := Go.Ground.data }], guard := Option.none }, { dst := Option.some 89, op := Go.Op.load 25 (Go.Operand.tmp 88), type := 25, pos := "law.go:77", after := #[{ on := 2, ground := Go.Ground.data }], guard := Option.none }, { dst := Option.some 90, op := Go.Op.call { callee := Go.Callee.builtin Go.Builtin.len, args := #[Go.Operand.tmp 89], argTypes := #[25] }, type := 3, pos := "law.go:77", after := #[{ on := 3, ground := Go.Ground.data }], guard := Option.none }, { dst := Option.some 91, op := Go.Op.move (Go.Operand.tmp 10), type := 3, pos := "law.go:77", after := #[], guard := Option.none }, { dst := Option.some 92, op := Go.Op.binOp Go.BinOp.sub 3 (Go.Operand.const (Go.Value.int Go.IntKind.i64 1048576)) (Go.Operand.tmp 91) 3, type := 3, pos := "law.go:77", after := #[{ on := 5, ground := Go.Ground.data }], guard := Option.none }, { dst := Option.some 93, op := Go.Op.binOp Go.BinOp.gtr 3 (Go.Operand.tmp 90) (Go.Operand.tmp 92) 3, type := 4, pos := "law.go:77", after := #[{ on := 4, ground := Go.Ground.data }, { on := 6, ground := Go.Ground.data }], guard := Option.none }] Bool.false).seq (Go.Code.cond (Go.Operand.tmp 93) (((Go.Code.region 24 #[{ dst := Option.some 94, op := Go.Op.move (Go.Operand.tmp 14), type := 25, pos := "law.go:78", after := #[], guard := Option.none }, { dst := Option.some 95, op := Go.Op.call { callee := Go.Callee.builtin Go.Builtin.len, args := #[Go.Operand.tmp 94], argTypes := #[25] }, type := 3, pos := "law.go:78", after := #[{ on := 0, ground := Go.Ground.data }], guard := Option.none }, { dst := Option.some 96, op := Go.Op.binOp Go.BinOp.neq 3 (Go.Operand.tmp 95) (Go.Operand.const (Go.Value.int Go.IntKind.i64 0)) 3, type := 4, pos := "law.go:78", after := #[{ on := 1, ground := Go.Ground.data }], guard := Option.none }, { dst := Option.some 97, op := Go.Op.move (Go.Operand.tmp 96), type := 4, pos := "law.go:78", after := #[{ on := 2, ground := Go.Ground.data }], guard := Option.none }, { dst := Option.some 98, op := Go.Op.move (Go.Operand.tmp 15), type := 34, pos := "law.go:78", after := #[{ on := 3, ground := Go.Ground.guard }], guard := Option.some (3, Bool.false) }, { dst := Option.some 99, op := Go.Op.binOp Go.BinOp.neq 34 (Go.Operand.tmp 98) (Go.Operand.const (Go.Value.int Go.IntKind.i64 3)) 34, type := 4, pos := "law.go:78", after := #[{ on := 4, ground := Go.Ground.data }, { on := 3, ground := Go.Ground.guard }], guard := Option.some (3, Bool.false) }, { dst := Option.some 100, op := Go.Op.pick (Go.Operand.tmp 97) (Go.Operand.const (Go.Value.bool Bool.true)) (Go.Operand.tmp 99), type := 4, pos := "law.go:78", after := #[{ on := 3, ground := Go.Ground.data }, { on := 5, ground := Go.Ground.data }], guard := Option.none }] Bool.false).seq (Go.Code.cond (Go.Operand.tmp 100) ((Go.Code.region 25 #[{ dst := Option.some 8, op := Go.Op.assign (Go.Operand.const (Go.Value.bool Bool.false)), type := 4, pos := "law.go:79", after := #[], guard := Option.none }] Bool.false).seq Go.Code.ret) Go.Code.skip)).seq (Go.Code.exit 1)) Go.Code.skip)).seq (((Go.Code.region 26 #[{ dst := Option.some 101, op := Go.Op.move (Go.Operand.tmp 15), type := 34, pos := "law.go:83", after := #[], guard := Option.none }, { dst := Option.some 102, op := Go.Op.binOp Go.BinOp.neq 34 (Go.Operand.tmp 101) (Go.Operand.const (Go.Value.int Go.IntKind.i64 0)) 34, type := 4, pos := "law.go:83", after := #[{ on := 0, ground := Go.Ground.data }], guard := Option.none }, { dst := Option.some 103, op := Go.Op.move (Go.Operand.tmp 102), type := 4, pos := "law.go:83", after := #[{ on := 1, ground := Go.Ground.data }], guard := Option.none }, { dst := Option.some 104, op := Go.Op.move (Go.Operand.tmp 14), type := 25, pos := "law.go:83", after := #[{ on := 2, ground := Go.Ground.guard }], guard := Option.some (2, Bool.false) }, { dst := Option.some 105, op := Go.Op.convert 25 9 (Go.Operand.tmp 104), type := 9, pos := "law.go:83", after := #[{ on := 3, ground := Go.Ground.data }, { on := 2, ground := Go.Ground.guard }], guard := Option.some (2, Bool.false) }, { dst := Option.some 106, op := Go.Op.load 22 (Go.Operand.tmp 4), type := 22, pos := "law.go:83", after := #[{ on := 2, ground := Go.Ground.guard }], guard := Option.some (2, Bool.false) }, { dst := Option.some 107, op := Go.Op.move (Go.Operand.tmp 1), type := 23, pos := "law.go:83", after := #[{ on := 2, ground := Go.Ground.guard }], guard := Option.some (2, Bool.false) }, { dst := Option.some 108, op := Go.Op.move (Go.Operand.tmp 10), type := 3, pos := "law.go:83", after := #[{ on := 2, ground := Go.Ground.guard }], guard := Option.some (2, Bool.false) }, { dst := Option.some 109, op := Go.Op.move (Go.Operand.tmp 3), type := 46, pos := "law.go:83", after := #[{ on := 2, ground := Go.Ground.guard }], guard := Option.some (2, Bool.false) }, { dst := Option.some 110, op := Go.Op.move (Go.Operand.tmp 13), type := 3, pos := "law.go:83", after := #[{ on := 2, ground := Go.Ground.guard }], guard := Option.some (2, Bool.false) }, { dst := Option.some 111, op := Go.Op.indexAddr 46 (Go.Operand.tmp 109) (Go.Operand.tmp 110), type := 0, pos := "law.go:83", after := #[{ on := 8, ground := Go.Ground.data }, { on := 9, ground := Go.Ground.data }, { on := 2, ground := Go.Ground.guard }], guard := Option.some (2, Bool.false) }, { dst := Option.some 112, op := Go.Op.load 25 (Go.Operand.tmp 111), type := 25, pos := "law.go:83", after := #[{ on := 10, ground := Go.Ground.data }, { on := 2, ground := Go.Ground.guard }], guard := Option.some (2, Bool.false) }, { dst := Option.some 113, op := Go.Op.call { callee := Go.Callee.value (Go.Operand.func 11), args := #[Go.Operand.tmp 106, Go.Operand.tmp 107, Go.Operand.tmp 108, Go.Operand.tmp 112], argTypes := #[22, 23, 3, 25] }, type := 25, pos := "law.go:83", after := #[{ on := 5, ground := Go.Ground.data }, { on := 6, ground := Go.Ground.data }, { on := 7, ground := Go.Ground.data }, { on := 11, ground := Go.Ground.data }, { on := 2, ground := Go.Ground.chain }, { on := 2, ground := Go.Ground.guard }], guard := Option.some (2, Bool.false) }, { dst := Option.some 114, op := Go.Op.convert 25 9 (Go.Operand.tmp 113), type := 9, pos := "law.go:83", after := #[{ on := 12, ground := Go.Ground.data }, { on := 2, ground := Go.Ground.guard }], guard := Option.some (2, Bool.false) }, { dst := Option.some 115, op := Go.Op.binOp Go.BinOp.neq 9 (Go.Operand.tmp 105) (Go.Operand.tmp 114) 9, type := 4, pos := "law.go:83", after := #[{ on := 4, ground := Go.Ground.data }, { on := 13, ground := Go.Ground.data }, { on := 2, ground := Go.Ground.guard }], guard := Option.some (2, Bool.false) }, { dst := Option.some 116, op := Go.Op.pick (Go.Operand.tmp 103) (Go.Operand.const (Go.Value.bool Bool.true)) (Go.Operand.tmp 115), type := 4, pos := "law.go:83", after := #[{ on := 2, ground := Go.Ground.data }, { on := 14, ground := Go.Ground.data }], guard := Option.none }] Bool.true).seq (Go.Code.cond (Go.Operand.tmp 116) ((Go.Code.region 27 #[{ dst := Option.some 8, op := Go.Op.assign (Go.Operand.const (Go.Value.bool Bool.false)), type := 4, pos := "law.go:84", after := #[], guard := Option.none }] Bool.false).seq Go.Code.ret) Go.Code.skip)).seq ((Go.Code.region 28 #[{ dst := Option.some 117, op := Go.Op.move (Go.Operand.tmp 10), type := 3, pos := "law.go:86", after := #[], guard := Option.none }, { dst := Option.some 118, op := Go.Op.move (Go.Operand.tmp 3), type := 46, pos := "law.go:86", after := #[], guard := Option.none }, { dst := Option.some 119, op := Go.Op.move (Go.Operand.tmp 13), type := 3, pos := "law.go:86", after := #[], guard := Option.none }, { dst := Option.some 120, op := Go.Op.indexAddr 46 (Go.Operand.tmp 118) (Go.Operand.tmp 119), type := 0, pos := "law.go:86", after := #[{ on := 1, ground := Go.Ground.data }, { on := 2, ground := Go.Ground.data }], guard := Option.none }, { dst := Option.some 121, op := Go.Op.load 25 (Go.Operand.tmp 120), type := 25, pos := "law.go:86", after := #[{ on := 3, ground := Go.Ground.data }], guard := Option.none }, { dst := Option.some 122, op := Go.Op.call { callee := Go.Callee.builtin Go.Builtin.len, args := #[Go.Operand.tmp 121], argTypes := #[25] }, type := 3, pos := "law.go:86", after := #[{ on := 4, ground := Go.Ground.data }], guard := Option.none }, { dst := Option.some 123, op := Go.Op.binOp Go.BinOp.add 3 (Go.Operand.tmp 117) (Go.Operand.tmp 122) 3, type := 3, pos := "law.go:86", after := #[{ on := 0, ground := Go.Ground.data }, { on := 5, ground := Go.Ground.data }], guard := Option.none }, { dst := Option.some 10, op := Go.Op.assign (Go.Operand.tmp 123), type := 3, pos := "law.go:86", after := #[{ on := 6, ground := Go.Ground.data }, { on := 0, ground := Go.Ground.phase }, { on := 1, ground := Go.Ground.phase }, { on := 2, ground := Go.Ground.phase }, { on := 3, ground := Go.Ground.phase }, { on := 4, ground := Go.Ground.phase }, { on := 5, ground := Go.Ground.phase }, { on := 6, ground := Go.Ground.phase }], guard := Option.none }] Bool.false).seq ((Go.Code.region 29 #[{ dst := Option.some 124, op := Go.Op.move (Go.Operand.tmp 9), type := 32, pos := "law.go:87", after := #[], guard := Option.none }, { dst := Option.some 125, op := Go.Op.call { callee := Go.Callee.value (Go.Operand.func 16), args := #[Go.Operand.tmp 124], argTypes := #[32] }, type := 3, pos := "law.go:87", after := #[{ on := 0, ground := Go.Ground.data }], guard := Option.none }, { dst := Option.some 126, op := Go.Op.move (Go.Operand.tmp 10), type := 3, pos := "law.go:87", after := #[], guard := Option.none }, { dst := Option.some 127, op := Go.Op.binOp Go.BinOp.neq 3 (Go.Operand.tmp 125) (Go.Operand.tmp 126) 3, type := 4, pos := "law.go:87", after := #[{ on := 1, ground := Go.Ground.data }, { on := 2, ground := Go.Ground.data }], guard := Option.none }] Bool.false).seq (Go.Code.cond (Go.Operand.tmp 127) ((Go.Code.region 30 #[{ dst := Option.some 8, op := Go.Op.assign (Go.Operand.const (Go.Value.bool Bool.false)), type := 4, pos := "law.go:88", after := #[], guard := Option.none }] Bool.false).seq Go.Code.ret) Go.Code.skip)))))))).seq (Go.Code.region 19 #[{ dst := Option.some 69, op := Go.Op.move (Go.Operand.tmp 13), type := 3, pos := "law.go:72", after := #[], guard := Option.none }, { dst := Option.some 70, op := Go.Op.binOp Go.BinOp.add 3 (Go.Operand.tmp 69) (Go.Operand.const (Go.Value.int Go.IntKind.i64 1)) 3, type := 3, pos := "law.go:72", after := #[{ on := 0, ground := Go.Ground.data }], guard := Option.none }, { dst := Option.some 13, op := Go.Op.assign (Go.Operand.tmp 70), type := 3, pos := "law.go:72", after := #[{ on := 1, ground := Go.Ground.data }, { on := 0, ground := Go.Ground.phase }, { on := 1, ground := Go.Ground.phase }], guard := Option.none }] Bool.false))).loop) (Exit.inBlock 0 (Exit.then K (bodyPost Try.prog Try.f8 fun e w' => e = .returned (.bool true) ∧ Below w.heap.size w w'))) { tmps := #[v0, .int .u64 nonce, v2, .slice A n cap, .pointer (some ⟨w.heap.size, 0, none⟩), v5, v6, v7, .bool false, .pointer (some ⟨gF, 0, none⟩), .int .i64 (a0 : Nat), v11, v12, .int .i64 0, v14, v15, v16, v17, v18, v19, v20, v21, v22, v23, v24, v25, v26, v27, v28, v29, v30, v31, v32, v33, v34, v35, v36, v37, v38, v39, v40, v41, v42, v43, v44, v45, v46, v47, v48, v49, v50, v51, v52, v53, v54, v55, v56, v57, v58, v59, v60, v61, v62, v63, v64, v65, v66, v67, v68, v69, v70, v71, v72, v73, v74, v75, v76, v77, v78, v79, v80, v81, v82, v83, v84, v85, v86, v87, v88, v89, v90, v91, v92, v93, v94, v95, v96, v97, v98, v99, v100, v101, v102, v103, v104, v105, v106, v107, v108, v109, v110, v111, v112, v113, v114, v115, v116, v117, v118, v119, v120, v121, v122, v123, v124, v125, v126, v127, v128, v129, v130, v131, v132, v133, v134, v135, v136, v137, v138, v139], defers := [] } W := by
  have hnI : (n : Int) ≤ 40 := by omega
  replace h := Kp.mk h
  replace hK := Kp.mk hK
  dsimp only
  go_loopw [10, 13, 14, 15, 65, 66, 67, 68, 69, 70, 71, 72, 73, 74, 75, 76, 77, 78, 79, 80, 81, 82, 83, 84, 85, 86, 87, 88, 89, 90, 91, 92, 93, 94, 95, 96, 97, 98, 99, 100, 101, 102, 103, 104, 105, 106, 107, 108, 109, 110, 111, 112, 113, 114, 115, 116, 117, 118, 119, 120, 121, 122, 123, 124, 125, 126, 127] (fun u10 u13 u14 u15 u65 u66 u67 u68 u69 u70 u71 u72 u73 u74 u75 u76 u77 u78 u79 u80 u81 u82 u83 u84 u85 u86 u87 u88 u89 u90 u91 u92 u93 u94 u95 u96 u97 u98 u99 u100 u101 u102 u103 u104 u105 u106 u107 u108 u109 u110 u111 u112 u113 u114 u115 u116 u117 u118 u119 u120 u121 u122 u123 u124 u125 u126 u127 wr => ∃ a i : Nat, u10 = .int .i64 a ∧ u13 = .int .i64 i ∧ i ≤ n ∧ a ≤ 1048576 ∧ LwMem w gF gn gk a key nonce wr) (fun u10 u13 u14 u15 u65 u66 u67 u68 u69 u70 u71 u72 u73 u74 u75 u76 u77 u78 u79 u80 u81 u82 u83 u84 u85 u86 u87 u88 u89 u90 u91 u92 u93 u94 u95 u96 u97 u98 u99 u100 u101 u102 u103 u104 u105 u106 u107 u108 u109 u110 u111 u112 u113 u114 u115 u116 u117 u118 u119 u120 u121 u122 u123 u124 u125 u126 u127 _ => n - (intOf u13).toNat)
  case atStart => exact ⟨a0, 0, rfl, rfl, Nat.zero_le _, ha, M⟩
  case round =>
    obtain ⟨a, i, rfl, rfl, hi, ha2, Mr⟩ := hrel
    clear M
    by_cases hlt : i < n
    · have hltI : (i : Int) < (n : Int) := by omega
      obtain ⟨b, o, rfl, hel⟩ := h.out (by omega)
      obtain ⟨B, m, c, tx, hc, hx⟩ := hel i hlt
      have hcb := World.block_lt_of_cell? w _ hc
      have hcell : ∀ X, Below w.heap.size w X → X.cell? ⟨b, o + i, none⟩ = some (.slice B m c) := fun X hb => (hb.cell (p := ⟨b, o + i, none⟩) hcb).trans hc
      have c1 := hcell _ Mr.bel
      replace hel := Kp.mk hel
      replace hcell := Kp.mk hcell
      by_cases hm3 : 300 < m
      · have hm3I : (300 : Int) < (m : Int) := by omega
        have bel := Mr.bel
        clear Mr hc
        go_wp2_with fail
        exact bodyPost_ret (v := .bool true) (by simp [results, Try.f8, go_sem]) rfl ⟨rfl, bel⟩
      · have hm3I : ¬ (300 : Int) < (m : Int) := by omega
        have xm := hx.keep Mr.bel (Nat.le_refl _)
        have y1 : IntKind.i64.wrap (1048576 - (a : Int)) = 1048576 - (a : Int) := IntWalk.i64_in _ (by omega)
        by_cases hfit : m ≤ 1048576 - a
        · replace Mr := Kp.mk Mr
          go_wp2_with fail
          refine (FlowTurn_to wr gF gn gk a nonce m c B key tx Mr.out.f Mr.out.ne Mr.out.kk xm hk bk ⟨ha2, hfit⟩ hN).mono ?_
          rintro _ w5 ⟨gx, hgx, rfl, OX, BF, H5⟩
          have M5 := Mr.out.turned hF h1 h2 BF H5
          have c5 := hcell.out _ M5.bel
          have hfI : ¬ (1048576 : Int) - a < m := by omega
          obtain ⟨s1, hs1⟩ : ∃ s, strN (turnL key nonce a tx) = s := ⟨_, rfl⟩
          have FM : FrMem w b o i gx m B c a key tx nonce w5 := ⟨M5.ke, c5, hx.keep M5.bel (Nat.le_refl _), TxIn.of_arr OX (by rw [turnL_len]; exact hx.len) (turnL_bytes hk bk _ _ hx.b) (by simp only [maxLen]; omega)⟩
          clear Mr BF H5 OX xm c1 hc
          replace M5 := Kp.mk M5
          replace FM := Kp.mk FM
          go_wp2_with fail
          refine fl26 (FM.out.keep (Below.refl _ _).drew) hlt hs1 hk bk (by omega) (by omega) hN _ _ _ _ _ _ _ _ _ _ _ _ _ _ _ _ _ _ _ _ _ _ _ _ _ _ _ _ _ _ _ _ _ _ _ _ _ _ _ _ _ _ _ _ _ _ _ _ _ _ _ _ _ _ _ _ _ _ _ _ _ _ _ _ _ _ _ _ _ _ _ _ _ _ _ _ _ _ _ _ _ _ _ _ _ _ _ _ _ _ _ _ _ _ _ _ _ _ _ _ _ _ _ _ _ _ _ _ _ _ _ _ _ _ _ _ _ _ _ _ _ _ _ _ _ _ _ _ _ _ _ _ _ ?_
          intro v113 X hX
          have M6 := M5.out.keep hX
          have c6 := hcell.out _ M6.bel
          have y2 := IntWalk.i64_in ((a : Int) + m) (by omega)
          clear M5 FM c5 hX hs1
          replace M6 := Kp.mk M6
          go_wp2_with fail
          refine (At_to X gF ((a + m : Nat) : Int) _ M6.out.f).mono ?_
          rintro _ w7 ⟨rfl, rfl⟩
          rw [show ((a + m : Nat) : Int) = (a : Int) + m by omega]
          go_wp2_with fail
          go_roundw
          case rel => exact ⟨a + m, i + 1, congrArg (Value.int .i64) (by omega), congrArg (Value.int .i64) (by omega), by omega, by omega, M6.out⟩
          case measure => simp [intOf]; omega
        · have hfI : (1048576 : Int) - a < m := by omega
          replace Mr := Kp.mk Mr
          go_wp2_with fail
          refine (FlowTurn_no wr gF gn gk a m c B Mr.out.f ha2 (by omega)).mono ?_
          rintro _ w5 ⟨rfl, rfl⟩
          go_wp2_with fail
          go_roundw
          case rel => exact ⟨a, i + 1, rfl, congrArg (Value.int .i64) (by omega), by omega, by omega, Mr.out⟩
          case measure => simp [intOf]; omega
    · obtain rfl : i = n := by omega
      have k1 := Mr.ke.loadAt (P := Try.prog) Try.underlying22 (by rw [hk]; exact size22)
      replace k1 := Kp.mk k1
      replace Mr := Kp.mk Mr
      go_wp2_with fail
      refine hK.out _ _ ?_
      go_wp2_with ((with_reducible refine wpl_id ?_); (refine wpList_load rfl (t := 22) (x := .tmp 4) rfl rfl k1.out ?_))
      refine (blocks_law wr gF gn gk a nonce key hk bk hN ha2 Mr.out.f Mr.out.ne Mr.out.kk _ rfl).mono ?_
      rintro _ w5 ⟨rfl, H5⟩
      have M5 := Mr.out.keep H5
      have bel := M5.bel
      clear k1 Mr H5
      go_wp2_with fail
      refine (At_to w5 gF (a : Int) _ M5.f).mono ?_
      rintro _ w7 ⟨rfl, rfl⟩
      clear M5
      go_wp2_with fail
      exact bodyPost_ret (v := .bool true) (by simp [results, Try.f8, go_sem]) rfl ⟨rfl, bel⟩
theorem flows_out (key : List Nat) (nonce : Nat) (f : Int) (A : Option Addr) (n cap : Nat) (h : f < 0 ∨ 1048585 < f ∨ 40 < n) (w : World) :
    Calls Try.prog 8 #[.agg (u8s key), .int .u64 nonce, .int .i64 f, .slice A n cap] w fun e w' => e = .returned (.bool true) ∧ Below w.heap.size w w' := by
  go_enter Try.func8, Try.ntmps8
  go_wp2_with fail
  refine (known_to _).mono ?_
  rintro _ w1 ⟨rfl, H1⟩
  have L1 := ((Below.refl w.heap.size w).alloc (Nat.le_refl _) (.cells (u8s key) 22)).trans (H1.mono (by simp))
  clear H1
  have h2 : f < 0 ∨ 1048585 < f ∨ (40 : Int) < n := by omega
  clear h
  go_wp2_with fail
  all_goals exact bodyPost_ret (v := .bool true) (by simp [results, Try.f8, go_sem]) rfl ⟨rfl, L1⟩
set_option maxRecDepth 100000 in
set_option maxHeartbeats 4000000 in
theorem flows_in (key : List Nat) (hk : key.length = 16) (bk : Bytes key) (nonce f n cap : Nat) (A : Option Addr) (hN : nonce < 18446744073709551616) (hf : f ≤ 1048585) (hn : n ≤ 40) (w : World) (h : LsIn w A n) :
    Calls Try.prog 8 #[.agg (u8s key), .int .u64 nonce, .int .i64 f, .slice A n cap] w fun e w' => e = .returned (.bool true) ∧ Below w.heap.size w w' := by
  have g1 : (f : Int) ≤ 1048585 := by omega
  have g2 : (n : Int) ≤ 40 := by omega
  go_enter Try.func8, Try.ntmps8
  go_wp2_with fail
  refine (known_to _).mono ?_
  rintro _ w1 ⟨rfl, H1⟩
  have K1 : Arr w1 w.heap.size 22 key := Arr.keep (show Arr (w.alloc (.cells (u8s key) 22)) w.heap.size 22 key from Box.new w 22 (u8s key)) H1 (by simp)
  have L1 := ((Below.refl w.heap.size w).alloc (Nat.le_refl _) (.cells (u8s key) 22)).trans (H1.mono (by simp))
  have k1 := K1.loadAt (P := Try.prog) Try.underlying22 (by rw [hk]; exact size22)
  have K1l := K1.lt
  replace k1 := Kp.mk k1
  clear H1
  go_wp2_with ((with_reducible refine wpl_id ?_); (refine wpList_load rfl (t := 22) (x := .tmp 4) rfl rfl k1.out ?_))
  refine (New_to w1 nonce key hk).mono ?_
  rintro _ w2 ⟨gF, gn, gk, rfl, hF1, hn1, hk1, hne1, hne2, B3, N3, G3, H3⟩
  have M2 : LwMem w gF gn gk 0 key nonce w2 := ⟨K1.keep H3 K1.lt, B3, N3, G3, L1.trans (H3.mono L1.size)⟩
  have hgF : w.heap.size < gF := by omega
  clear k1 K1 L1 B3 N3 G3 H3 hF1 hn1 hk1
  replace M2 := Kp.mk M2
  by_cases c1 : 1044576 < f ∨ f < 4000
  · by_cases c2 : 1048576 < f
    · have x1 : (1048576 : Int) < f := by omega
      have x2 : (1044576 : Int) < f := by omega
      have mk := made5 f (by omega)
      clear c1
      go_wp2_with fail
      have M3 := M2.out.keep ((Below.refl w2.heap.size w2).alloc (Nat.le_refl _) (.cells (u8s (List.replicate f 0)) 5))
      refine (FlowTurn_no _ gF gn gk 0 f f _ M3.f (by omega) (by omega)).mono ?_
      rintro _ w5 ⟨rfl, rfl⟩
      clear mk M2
      go_wp2_with fail
      exact flows_loop key hk bk nonce n cap 0 A hN hn w _ h gF gn gk hgF hne1 hne2 (by omega) M3 _ _ _ _ _ _ _ _ _ _ _ _ _ _ _ _ _ _ _ _ _ _ _ _ _ _ _ _ _ _ _ _ _ _ _ _ _ _ _ _ _ _ _ _ _ _ _ _ _ _ _ _ _ _ _ _ _ _ _ _ _ _ _ _ _ _ _ _ _ _ _ _ _ _ _ _ _ _ _ _ _ _ _ _ _ _ _ _ _ _ _ _ _ _ _ _ _ _ _ _ _ _ _ _ _ _ _ _ _ _ _ _ _ _ _ _ _ _ _ _ _ _ _ _ _ _ _ _ _ _ _ _ _ (by assumption)
    · have x1 : ¬ (1048576 : Int) < f := by omega
      have x2 : (1044576 : Int) < f ∨ (f : Int) < 4000 := by omega
      have mk := made5 f (by omega)
      clear c1
      have hpost : ∀ (gx : Nat), True := fun _ => trivial
      rcases x2 with x2 | x2
      · go_wp2_with fail
        have T3 := TxIn.of_arr (Box.new w2 5 (u8s (List.replicate f 0))) List.length_replicate (bytes_zero f) (by simp only [maxLen]; omega)
        have M3 := M2.out.keep ((Below.refl w2.heap.size w2).alloc (Nat.le_refl _) (.cells (u8s (List.replicate f 0)) 5))
        refine (FlowTurn_to _ gF gn gk 0 nonce f f _ key _ M3.f M3.ne M3.kk T3 hk bk (by omega) hN).mono ?_
        rintro _ w5 ⟨gx, hgx, rfl, OX, BF, H5⟩
        have M5 := M3.turned hgF hne1 hne2 BF H5
        rw [Nat.zero_add] at M5
        clear mk M2 M3 T3 OX BF H5
        go_wp2_with fail
        exact flows_loop key hk bk nonce n cap f A hN hn w _ h gF gn gk hgF hne1 hne2 (by omega) M5 _ _ _ _ _ _ _ _ _ _ _ _ _ _ _ _ _ _ _ _ _ _ _ _ _ _ _ _ _ _ _ _ _ _ _ _ _ _ _ _ _ _ _ _ _ _ _ _ _ _ _ _ _ _ _ _ _ _ _ _ _ _ _ _ _ _ _ _ _ _ _ _ _ _ _ _ _ _ _ _ _ _ _ _ _ _ _ _ _ _ _ _ _ _ _ _ _ _ _ _ _ _ _ _ _ _ _ _ _ _ _ _ _ _ _ _ _ _ _ _ _ _ _ _ _ _ _ _ _ _ _ _ _ (by assumption)
      · have x3 : ¬ (1044576 : Int) < f := by omega
        go_wp2_with fail
        have T3 := TxIn.of_arr (Box.new w2 5 (u8s (List.replicate f 0))) List.length_replicate (bytes_zero f) (by simp only [maxLen]; omega)
        have M3 := M2.out.keep ((Below.refl w2.heap.size w2).alloc (Nat.le_refl _) (.cells (u8s (List.replicate f 0)) 5))
        refine (FlowTurn_to _ gF gn gk 0 nonce f f _ key _ M3.f M3.ne M3.kk T3 hk bk (by omega) hN).mono ?_
        rintro _ w5 ⟨gx, hgx, rfl, OX, BF, H5⟩
        have M5 := M3.turned hgF hne1 hne2 BF H5
        rw [Nat.zero_add] at M5
        clear mk M2 M3 T3 OX BF H5
        go_wp2_with fail
        exact flows_loop key hk bk nonce n cap f A hN hn w _ h gF gn gk hgF hne1 hne2 (by omega) M5 _ _ _ _ _ _ _ _ _ _ _ _ _ _ _ _ _ _ _ _ _ _ _ _ _ _ _ _ _ _ _ _ _ _ _ _ _ _ _ _ _ _ _ _ _ _ _ _ _ _ _ _ _ _ _ _ _ _ _ _ _ _ _ _ _ _ _ _ _ _ _ _ _ _ _ _ _ _ _ _ _ _ _ _ _ _ _ _ _ _ _ _ _ _ _ _ _ _ _ _ _ _ _ _ _ _ _ _ _ _ _ _ _ _ _ _ _ _ _ _ _ _ _ _ _ _ _ _ _ _ _ _ _ (by assumption)
  · have x1 : ¬ (1044576 : Int) < f := by omega
    have x2 : ¬ (f : Int) < 4000 := by omega
    clear c1
    go_wp2_with fail
    exact flows_loop key hk bk nonce n cap 0 A hN hn w _ h gF gn gk hgF hne1 hne2 (by omega) M2.out _ _ _ _ _ _ _ _ _ _ _ _ _ _ _ _ _ _ _ _ _ _ _ _ _ _ _ _ _ _ _ _ _ _ _ _ _ _ _ _ _ _ _ _ _ _ _ _ _ _ _ _ _ _ _ _ _ _ _ _ _ _ _ _ _ _ _ _ _ _ _ _ _ _ _ _ _ _ _ _ _ _ _ _ _ _ _ _ _ _ _ _ _ _ _ _ _ _ _ _ _ _ _ _ _ _ _ _ _ _ _ _ _ _ _ _ _ _ _ _ _ _ _ _ _ _ _ _ _ _ _ _ _ (by assumption)
theorem flows_any (zk : List Int) (sk : zk.length = 16) (wk : ∀ z ∈ zk, (Lit.int .u8 z).wf = true) (zn : Int) (wn : (Lit.int .u64 zn).wf = true) (f : Int) (A : Option Addr) (n cap : Nat) (w : World) (h : LsIn w A n) :
    Calls Try.prog 8 #[.agg (zk.map (Value.int .u8)).toArray, .int .u64 zn, .int .i64 f, .slice A n cap] w fun e w' => e = .returned (.bool true) ∧ Below w.heap.size w w' := by
  obtain ⟨key, ek, lk, bk⟩ := bytes_of wk
  obtain ⟨nonce, rfl, hN⟩ := u64_nat wn
  rw [ek]
  by_cases hc : f < 0 ∨ 1048585 < f ∨ 40 < n
  · exact flows_out key nonce f A n cap hc w
  · obtain ⟨f', rfl⟩ : ∃ x : Nat, f = x := ⟨f.toNat, by omega⟩
    exact flows_in key (by omega) bk nonce f' n cap A hN (by omega) (by omega) w h
end Go.Proofs.Ytgdphdnghackfaa
