/- The drawn region of the range over a flow's blocks (the law CtrFlows, layer 5). -/
import Derived.Test.YtgdphdnghackfaaR20
import Derived.Test.YtgdphdnghackfaaD
namespace Go.Proofs.Ytgdphdnghackfaa
open Go.RowKit Go.Shelf
theorem ld23 {W : World} {g : Nat} {v : Value} (h : Box W g 23 #[v]) : (Instr.loadAt 23 (.pointer (some ⟨g, 0, none⟩))).run Try.prog W = .ok v W := by
  have c := h.cell 0
  have c' : W.cell? ⟨g, 0, none⟩ = some v := c
  clear c
  go_simp
theorem exec_neq22 {a : Act} {o : Oper} {x y : Operand} {z : TypeId} {p : List Nat} {w : World} (ho : o.op = .binOp .neq 22 x y z) (hx : a.eval x = .agg (u8s p)) (hy : a.eval y = .agg (u8s p)) (hp : p.length = 16) :
    (execOp a.eval o).run Try.prog w = .ok (.value (.bool false)) w := by
  unfold execOp
  rw [ho]
  simp only [hx, hy]
  have e1 : (eqGuard .neq 22 x y (.agg (u8s p)) (.agg (u8s p))).run Try.prog w = .ok () w := run_eqGuard_agg w _ _ _ _ _ _ (by kernel_rfl)
  have e2 := neq22 p p w hp hp
  rw [decide_eq_true rfl] at e2
  simp [e1, e2, Sem.run_bind]
theorem wpOpIn_skip {F : Fence} {nn : Nat} {P : Program} {ops : Array Oper} {Q : Exit → Act → World → Prop} {K : Act → World → Prop} {o : Oper} {a : Act} {w : World} {i : Nat} (hi : ops[i]? = some o) (hw : Region.wanted o (yielded ops a.tmps) = false) (hf : (∀ f, F.fn f)) (h : K (a.put o.dst undef) w) : wpOpIn F nn P ops Q i K a w := by
  unfold wpOpIn
  simp only [hi, hw]
  exact ⟨fun f _ => hf f, h⟩
theorem opInR_calls {l nn : Nat} {P : Program} {o : Oper} {a : Act} {w : World} {K : Act → World → Prop} {Q : Exit → Act → World → Prop} {xs : Array Operand} {ts : Array TypeId} {args : Array Value} {f : FuncId} (hc : ∀ (args : Array Value) (w : World), (callFunc f args).run P w = .ok (.enter f args) w) (ho : o.op = .call { callee := .value (.func f), args := xs, argTypes := ts }) (hxs : xs.map a.eval = args)
    (h : Calls P f args w fun e w' => ∃ v, e = .returned v ∧ K (a.put o.dst v) w') : o.wpIn (Fence.wide.inRound l) nn P a w K Q := by
  have hr : (execOp a.eval o).run P w = .ok (.enter f args) w := exec_call hc ho hxs w
  refine ⟨fun _ _ => trivial, ?_⟩
  rw [Oper.semAt_eq _ _ _ (fun c hcc => by rw [ho] at hcc; cases hcc), hr]
  refine ⟨fun h => (by cases h), ?_⟩
  exact CallsIn.inRound l ((callsIn_wide.2 h).mono fun e w'' ⟨v, he, hk⟩ => by subst he; exact hk)
/-- Memory of a round: the key, the nonce, the first block's number, how many came; this one's bytes. -/
structure SeMem (w : World) (first nonce n : Nat) (key b : List Nat) (gn gb : Nat) (W : World) : Prop where
  bk : Arr W w.heap.size 22 key
  bo : Box W (w.heap.size + 1) 23 #[.int .u64 (nonce : Nat)]
  bf : Box W (w.heap.size + 2) 3 #[.int .i64 (first : Nat)]
  br : Box W (w.heap.size + 3) 4 #[.bool false]
  bn : Box W gn 3 #[.int .i64 (n : Nat)]
  bb : Arr W gb 22 b
theorem SeMem.keep {w : World} {first nonce n : Nat} {key b : List Nat} {gn gb : Nat} {W W' : World} (h : SeMem w first nonce n key b gn gb W) (k : Below W.heap.size W W') : SeMem w first nonce n key b gn gb W' :=
  ⟨h.bk.keep k h.bk.lt, h.bo.keep k h.bo.lt, h.bf.keep k h.bf.lt, h.br.keep k h.br.lt, h.bn.keep k h.bn.lt, h.bb.keep k h.bb.lt⟩
def se11Deps : List (List Nat) := [[], [], [], [1, 2], [0, 3], [4], [5], [5], [5], [5], [7, 8, 9, 5], [6, 10, 5], [5, 11]]
set_option maxRecDepth 100000 in
set_option maxHeartbeats 1000000 in
theorem se11 {nn : Nat} {Q : Exit → Act → World → Prop} {l : Nat} {w : World} {first nonce n x gn gb : Nat} {key b : List Nat} {W : World} (hM0 : SeMem w first nonce n key b gn gb W.drew) (hxs : x = first + n) (hb : blkL key nonce x = b) (hbl : b.length = 16) (hk : key.length = 16) (bk : Bytes key) (hx : x < 1073741824) (hN : nonce < 18446744073709551616) (hf1 : first + n < 1000000) (v0 v1 v2 v3 v4 v9 v10 v14 v15 v16 v17 v18 v19 v20 v21 v22 v23 v24 v25 v26 v27 v28 v29 v30 v31 v32 v33 v34 v35 v36 v37 v38 v39 v40 v41 v42 v43 v44 v45 v46 v47 : Value)
    (hQ : ∀ X, SeMem w first nonce n key b gn gb X → Below W.heap.size W X → Q .normal ⟨#[v0, v1, v2, v3, v4, .pointer (some ⟨w.heap.size, 0, none⟩), .pointer (some ⟨w.heap.size + 1, 0, none⟩), .pointer (some ⟨w.heap.size + 1 + 1, 0, none⟩), .pointer (some ⟨w.heap.size + 1 + 1 + 1, 0, none⟩), v9, v10, .pointer (some ⟨gn, 0, none⟩), .int .i64 (x : Nat), .pointer (some ⟨gb, 0, none⟩), v14, v15, v16, v17, v18, v19, v20, v21, v22, v23, v24, .int .i64 (x : Nat), .int .i64 (first : Nat), .int .i64 (n : Nat), .int .i64 (first + n : Nat), .bool false, .bool false, .agg (u8s b), .agg (u8s key), .int .u64 (nonce : Nat), .int .i64 (x : Nat), .agg (u8s b), .bool false, .bool false, v38, v39, v40, v41, v42, v43, v44, v45, v46, v47], []⟩ X)
    : (Code.region 11 #[{ dst := Option.some 25, op := Go.Op.move (Go.Operand.tmp 12), type := 3, pos := "law.go:103", after := #[], guard := Option.none }, { dst := Option.some 26, op := Go.Op.load 3 (Go.Operand.tmp 7), type := 3, pos := "law.go:103", after := #[], guard := Option.none }, { dst := Option.some 27, op := Go.Op.load 3 (Go.Operand.tmp 11), type := 3, pos := "law.go:103", after := #[], guard := Option.none }, { dst := Option.some 28, op := Go.Op.binOp Go.BinOp.add 3 (Go.Operand.tmp 26) (Go.Operand.tmp 27) 3, type := 3, pos := "law.go:103", after := #[{ on := 1, ground := Go.Ground.data }, { on := 2, ground := Go.Ground.data }], guard := Option.none }, { dst := Option.some 29, op := Go.Op.binOp Go.BinOp.neq 3 (Go.Operand.tmp 25) (Go.Operand.tmp 28) 3, type := 4, pos := "law.go:103", after := #[{ on := 0, ground := Go.Ground.data }, { on := 3, ground := Go.Ground.data }], guard := Option.none }, { dst := Option.some 30, op := Go.Op.move (Go.Operand.tmp 29), type := 4, pos := "law.go:103", after := #[{ on := 4, ground := Go.Ground.data }], guard := Option.none }, { dst := Option.some 31, op := Go.Op.load 22 (Go.Operand.tmp 13), type := 22, pos := "law.go:103", after := #[{ on := 5, ground := Go.Ground.guard }], guard := Option.some (5, Bool.false) }, { dst := Option.some 32, op := Go.Op.load 22 (Go.Operand.tmp 5), type := 22, pos := "law.go:103", after := #[{ on := 5, ground := Go.Ground.guard }], guard := Option.some (5, Bool.false) }, { dst := Option.some 33, op := Go.Op.load 23 (Go.Operand.tmp 6), type := 23, pos := "law.go:103", after := #[{ on := 5, ground := Go.Ground.guard }], guard := Option.some (5, Bool.false) }, { dst := Option.some 34, op := Go.Op.move (Go.Operand.tmp 12), type := 3, pos := "law.go:103", after := #[{ on := 5, ground := Go.Ground.guard }], guard := Option.some (5, Bool.false) }, { dst := Option.some 35, op := Go.Op.call { callee := Go.Callee.value (Go.Operand.func 26), args := #[Go.Operand.tmp 32, Go.Operand.tmp 33, Go.Operand.tmp 34], argTypes := #[22, 23, 3] }, type := 22, pos := "law.go:103", after := #[{ on := 7, ground := Go.Ground.data }, { on := 8, ground := Go.Ground.data }, { on := 9, ground := Go.Ground.data }, { on := 5, ground := Go.Ground.chain }, { on := 5, ground := Go.Ground.guard }], guard := Option.some (5, Bool.false) }, { dst := Option.some 36, op := Go.Op.binOp Go.BinOp.neq 22 (Go.Operand.tmp 31) (Go.Operand.tmp 35) 22, type := 4, pos := "law.go:103", after := #[{ on := 6, ground := Go.Ground.data }, { on := 10, ground := Go.Ground.data }, { on := 5, ground := Go.Ground.guard }], guard := Option.some (5, Bool.false) }, { dst := Option.some 37, op := Go.Op.pick (Go.Operand.tmp 30) (Go.Operand.const (Go.Value.bool Bool.true)) (Go.Operand.tmp 36), type := 4, pos := "law.go:103", after := #[{ on := 5, ground := Go.Ground.data }, { on := 11, ground := Go.Ground.data }], guard := Option.none }] true).wpIn (Fence.wide.inRound l) nn Try.prog Q ⟨#[v0, v1, v2, v3, v4, .pointer (some ⟨w.heap.size, 0, none⟩), .pointer (some ⟨w.heap.size + 1, 0, none⟩), .pointer (some ⟨w.heap.size + 1 + 1, 0, none⟩), .pointer (some ⟨w.heap.size + 1 + 1 + 1, 0, none⟩), v9, v10, .pointer (some ⟨gn, 0, none⟩), .int .i64 (x : Nat), .pointer (some ⟨gb, 0, none⟩), v14, v15, v16, v17, v18, v19, v20, v21, v22, v23, v24, v25, v26, v27, v28, v29, v30, v31, v32, v33, v34, v35, v36, v37, v38, v39, v40, v41, v42, v43, v44, v45, v46, v47], []⟩ W := by
  refine wpIn_region_tab (n := 13) (by kernel_rfl) rfl se11Deps (by kernel_rfl) (by kernel_rfl)
    (fun L Ac X => ∃ (b0 b1 b2 b3 b4 b5 b6 b7 b8 b9 b10 b11 b12 : Bool), L = [b0, b1, b2, b3, b4, b5, b6, b7, b8, b9, b10, b11, b12] ∧ Ac = ⟨#[v0, v1, v2, v3, v4, .pointer (some ⟨w.heap.size, 0, none⟩), .pointer (some ⟨w.heap.size + 1, 0, none⟩), .pointer (some ⟨w.heap.size + 1 + 1, 0, none⟩), .pointer (some ⟨w.heap.size + 1 + 1 + 1, 0, none⟩), v9, v10, .pointer (some ⟨gn, 0, none⟩), .int .i64 (x : Nat), .pointer (some ⟨gb, 0, none⟩), v14, v15, v16, v17, v18, v19, v20, v21, v22, v23, v24, (bif b0 then .int .i64 (x : Nat) else v25), (bif b1 then .int .i64 (first : Nat) else v26), (bif b2 then .int .i64 (n : Nat) else v27), (bif b3 then .int .i64 (first + n : Nat) else v28), (bif b4 then .bool false else v29), (bif b5 then .bool false else v30), (bif b6 then .agg (u8s b) else v31), (bif b7 then .agg (u8s key) else v32), (bif b8 then .int .u64 (nonce : Nat) else v33), (bif b9 then .int .i64 (x : Nat) else v34), (bif b10 then .agg (u8s b) else v35), (bif b11 then .bool false else v36), (bif b12 then .bool false else v37), v38, v39, v40, v41, v42, v43, v44, v45, v46, v47], []⟩ ∧ (SeMem w first nonce n key b gn gb X ∧ Below W.heap.size W X)) ?_ ?_ ?_
  · exact ⟨false, false, false, false, false, false, false, false, false, false, false, false, false, rfl, rfl, ⟨hM0, (Below.refl _ _).drew⟩⟩
  · intro L Ac X jx _ hj hfr hdp hI
    obtain ⟨b0, b1, b2, b3, b4, b5, b6, b7, b8, b9, b10, b11, b12, rfl, rfl, hM⟩ := hI
    match jx, hj with
    | 0, _ =>
      obtain rfl : b0 = false := hfr
      refine wpOpIn_of rfl (by rfl) (opIn_pure' nofun nofun (v := .int .i64 (x : Nat)) (by rfl) ?_)
      exact ⟨true, b1, b2, b3, b4, b5, b6, b7, b8, b9, b10, b11, b12, rfl, rfl, hM⟩
    | 1, _ =>
      obtain rfl : b1 = false := hfr
      refine wpOpIn_of rfl (by rfl) (opIn_pure' nofun nofun (v := .int .i64 (first : Nat)) (exec_load rfl (x := .tmp 7) rfl (ld3 hM.1.bf)) ?_)
      exact ⟨b0, true, b2, b3, b4, b5, b6, b7, b8, b9, b10, b11, b12, rfl, rfl, hM⟩
    | 2, _ =>
      obtain rfl : b2 = false := hfr
      refine wpOpIn_of rfl (by rfl) (opIn_pure' nofun nofun (v := .int .i64 (n : Nat)) (exec_load rfl (x := .tmp 11) rfl (ld3 hM.1.bn)) ?_)
      exact ⟨b0, b1, true, b3, b4, b5, b6, b7, b8, b9, b10, b11, b12, rfl, rfl, hM⟩
    | 3, _ =>
      obtain rfl : b3 = false := hfr
      obtain rfl : b1 = true := hdp 1 (by decide)
      obtain rfl : b2 = true := hdp 2 (by decide)
      refine wpOpIn_of rfl (by rfl) (opIn_pure' nofun nofun (v := .int .i64 (first + n : Nat)) (exec_add rfl (x := .tmp 26) (y := .tmp 27) rfl rfl (by omega)) ?_)
      exact ⟨b0, true, true, true, b4, b5, b6, b7, b8, b9, b10, b11, b12, rfl, rfl, hM⟩
    | 4, _ =>
      obtain rfl : b4 = false := hfr
      obtain rfl : b0 = true := hdp 0 (by decide)
      obtain rfl : b3 = true := hdp 3 (by decide)
      refine wpOpIn_of rfl (by rfl) (opIn_pure' nofun nofun (v := .bool false) (exec_neI rfl (x := .tmp 25) (y := .tmp 28) rfl rfl (by simp [hxs])) ?_)
      exact ⟨true, b1, b2, true, true, b5, b6, b7, b8, b9, b10, b11, b12, rfl, rfl, hM⟩
    | 5, _ =>
      obtain rfl : b5 = false := hfr
      obtain rfl : b4 = true := hdp 4 (by decide)
      refine wpOpIn_of rfl (by rfl) (opIn_pure' nofun nofun (v := .bool false) (by rfl) ?_)
      exact ⟨b0, b1, b2, b3, true, true, b6, b7, b8, b9, b10, b11, b12, rfl, rfl, hM⟩
    | 6, _ =>
      obtain rfl : b6 = false := hfr
      obtain rfl : b5 = true := hdp 5 (by decide)
      refine wpOpIn_of rfl (by rfl) (opIn_pure' nofun nofun (v := .agg (u8s b)) (exec_load rfl (x := .tmp 13) rfl (hM.1.bb.loadAt Try.underlying22 (by rw [hbl]; exact size22))) ?_)
      exact ⟨b0, b1, b2, b3, b4, true, true, b7, b8, b9, b10, b11, b12, rfl, rfl, hM⟩
    | 7, _ =>
      obtain rfl : b7 = false := hfr
      obtain rfl : b5 = true := hdp 5 (by decide)
      refine wpOpIn_of rfl (by rfl) (opIn_pure' nofun nofun (v := .agg (u8s key)) (exec_load rfl (x := .tmp 5) rfl (hM.1.bk.loadAt Try.underlying22 (by rw [hk]; exact size22))) ?_)
      exact ⟨b0, b1, b2, b3, b4, true, b6, true, b8, b9, b10, b11, b12, rfl, rfl, hM⟩
    | 8, _ =>
      obtain rfl : b8 = false := hfr
      obtain rfl : b5 = true := hdp 5 (by decide)
      refine wpOpIn_of rfl (by rfl) (opIn_pure' nofun nofun (v := .int .u64 (nonce : Nat)) (exec_load rfl (x := .tmp 6) rfl (ld23 hM.1.bo)) ?_)
      exact ⟨b0, b1, b2, b3, b4, true, b6, b7, true, b9, b10, b11, b12, rfl, rfl, hM⟩
    | 9, _ =>
      obtain rfl : b9 = false := hfr
      obtain rfl : b5 = true := hdp 5 (by decide)
      refine wpOpIn_of rfl (by rfl) (opIn_pure' nofun nofun (v := .int .i64 (x : Nat)) (by rfl) ?_)
      exact ⟨b0, b1, b2, b3, b4, true, b6, b7, b8, true, b10, b11, b12, rfl, rfl, hM⟩
    | 10, _ =>
      obtain rfl : b10 = false := hfr
      obtain rfl : b7 = true := hdp 7 (by decide)
      obtain rfl : b8 = true := hdp 8 (by decide)
      obtain rfl : b9 = true := hdp 9 (by decide)
      obtain rfl : b5 = true := hdp 5 (by decide)
      refine wpOpIn_of rfl (by rfl) (opInR_calls (args := #[.agg (u8s key), .int .u64 (nonce : Nat), .int .i64 (x : Nat)]) Try.call26 rfl (by simp only [List.map_toArray, List.map_cons, List.map_nil]; rfl) ?_)
      refine (BlockR_to X nonce x key b hb hk bk hN hx).mono fun e X' ⟨he, hbe⟩ => ⟨_, he, ?_⟩
      exact ⟨b0, b1, b2, b3, b4, true, b6, true, true, true, true, b11, b12, rfl, rfl, ⟨hM.1.keep hbe, hM.2.trans (hbe.mono hM.2.size)⟩⟩
    | 11, _ =>
      obtain rfl : b11 = false := hfr
      obtain rfl : b6 = true := hdp 6 (by decide)
      obtain rfl : b10 = true := hdp 10 (by decide)
      obtain rfl : b5 = true := hdp 5 (by decide)
      refine wpOpIn_of rfl (by rfl) (opIn_pure' nofun nofun (v := .bool false) (exec_neq22 rfl (x := .tmp 31) (y := .tmp 35) rfl rfl hbl) ?_)
      exact ⟨b0, b1, b2, b3, b4, true, true, b7, b8, b9, true, true, b12, rfl, rfl, hM⟩
    | 12, _ =>
      obtain rfl : b12 = false := hfr
      obtain rfl : b5 = true := hdp 5 (by decide)
      obtain rfl : b11 = true := hdp 11 (by decide)
      refine wpOpIn_of rfl (by rfl) (opIn_pure' nofun nofun (v := .bool false) (by rfl) ?_)
      exact ⟨b0, b1, b2, b3, b4, true, b6, b7, b8, b9, b10, true, true, rfl, rfl, hM⟩
    | jx + 13, h => omega
  · intro L Ac X _ hall hI
    obtain ⟨b0, b1, b2, b3, b4, b5, b6, b7, b8, b9, b10, b11, b12, rfl, rfl, hM⟩ := hI
    simp at hall
    obtain ⟨rfl, rfl, rfl, rfl, rfl, rfl, rfl, rfl, rfl, rfl, rfl, rfl, rfl⟩ := hall
    exact hQ X hM.1 hM.2
def sb11Deps : List (List Nat) := [[], [], [], [1, 2], [0, 3], [4], [5], [5], [5], [5], [7, 8, 9, 5], [6, 10, 5], [5, 11]]
set_option maxRecDepth 100000 in
set_option maxHeartbeats 1000000 in
theorem sb11 {nn : Nat} {Q : Exit → Act → World → Prop} {l : Nat} {w : World} {first nonce n x gn gb : Nat} {key b : List Nat} {W : World} (hM0 : SeMem w first nonce n key b gn gb W.drew) (hxs : x ≠ first + n) (hf1 : first + n < 1000000) (v0 v1 v2 v3 v4 v9 v10 v14 v15 v16 v17 v18 v19 v20 v21 v22 v23 v24 v25 v26 v27 v28 v29 v30 v31 v32 v33 v34 v35 v36 v37 v38 v39 v40 v41 v42 v43 v44 v45 v46 v47 : Value)
    (hQ : ∀ X, SeMem w first nonce n key b gn gb X → Below W.heap.size W X → Q .normal ⟨#[v0, v1, v2, v3, v4, .pointer (some ⟨w.heap.size, 0, none⟩), .pointer (some ⟨w.heap.size + 1, 0, none⟩), .pointer (some ⟨w.heap.size + 1 + 1, 0, none⟩), .pointer (some ⟨w.heap.size + 1 + 1 + 1, 0, none⟩), v9, v10, .pointer (some ⟨gn, 0, none⟩), .int .i64 (x : Nat), .pointer (some ⟨gb, 0, none⟩), v14, v15, v16, v17, v18, v19, v20, v21, v22, v23, v24, .int .i64 (x : Nat), .int .i64 (first : Nat), .int .i64 (n : Nat), .int .i64 (first + n : Nat), .bool true, .bool true, undef, undef, undef, undef, undef, undef, .bool true, v38, v39, v40, v41, v42, v43, v44, v45, v46, v47], []⟩ X)
    : (Code.region 11 #[{ dst := Option.some 25, op := Go.Op.move (Go.Operand.tmp 12), type := 3, pos := "law.go:103", after := #[], guard := Option.none }, { dst := Option.some 26, op := Go.Op.load 3 (Go.Operand.tmp 7), type := 3, pos := "law.go:103", after := #[], guard := Option.none }, { dst := Option.some 27, op := Go.Op.load 3 (Go.Operand.tmp 11), type := 3, pos := "law.go:103", after := #[], guard := Option.none }, { dst := Option.some 28, op := Go.Op.binOp Go.BinOp.add 3 (Go.Operand.tmp 26) (Go.Operand.tmp 27) 3, type := 3, pos := "law.go:103", after := #[{ on := 1, ground := Go.Ground.data }, { on := 2, ground := Go.Ground.data }], guard := Option.none }, { dst := Option.some 29, op := Go.Op.binOp Go.BinOp.neq 3 (Go.Operand.tmp 25) (Go.Operand.tmp 28) 3, type := 4, pos := "law.go:103", after := #[{ on := 0, ground := Go.Ground.data }, { on := 3, ground := Go.Ground.data }], guard := Option.none }, { dst := Option.some 30, op := Go.Op.move (Go.Operand.tmp 29), type := 4, pos := "law.go:103", after := #[{ on := 4, ground := Go.Ground.data }], guard := Option.none }, { dst := Option.some 31, op := Go.Op.load 22 (Go.Operand.tmp 13), type := 22, pos := "law.go:103", after := #[{ on := 5, ground := Go.Ground.guard }], guard := Option.some (5, Bool.false) }, { dst := Option.some 32, op := Go.Op.load 22 (Go.Operand.tmp 5), type := 22, pos := "law.go:103", after := #[{ on := 5, ground := Go.Ground.guard }], guard := Option.some (5, Bool.false) }, { dst := Option.some 33, op := Go.Op.load 23 (Go.Operand.tmp 6), type := 23, pos := "law.go:103", after := #[{ on := 5, ground := Go.Ground.guard }], guard := Option.some (5, Bool.false) }, { dst := Option.some 34, op := Go.Op.move (Go.Operand.tmp 12), type := 3, pos := "law.go:103", after := #[{ on := 5, ground := Go.Ground.guard }], guard := Option.some (5, Bool.false) }, { dst := Option.some 35, op := Go.Op.call { callee := Go.Callee.value (Go.Operand.func 26), args := #[Go.Operand.tmp 32, Go.Operand.tmp 33, Go.Operand.tmp 34], argTypes := #[22, 23, 3] }, type := 22, pos := "law.go:103", after := #[{ on := 7, ground := Go.Ground.data }, { on := 8, ground := Go.Ground.data }, { on := 9, ground := Go.Ground.data }, { on := 5, ground := Go.Ground.chain }, { on := 5, ground := Go.Ground.guard }], guard := Option.some (5, Bool.false) }, { dst := Option.some 36, op := Go.Op.binOp Go.BinOp.neq 22 (Go.Operand.tmp 31) (Go.Operand.tmp 35) 22, type := 4, pos := "law.go:103", after := #[{ on := 6, ground := Go.Ground.data }, { on := 10, ground := Go.Ground.data }, { on := 5, ground := Go.Ground.guard }], guard := Option.some (5, Bool.false) }, { dst := Option.some 37, op := Go.Op.pick (Go.Operand.tmp 30) (Go.Operand.const (Go.Value.bool Bool.true)) (Go.Operand.tmp 36), type := 4, pos := "law.go:103", after := #[{ on := 5, ground := Go.Ground.data }, { on := 11, ground := Go.Ground.data }], guard := Option.none }] true).wpIn (Fence.wide.inRound l) nn Try.prog Q ⟨#[v0, v1, v2, v3, v4, .pointer (some ⟨w.heap.size, 0, none⟩), .pointer (some ⟨w.heap.size + 1, 0, none⟩), .pointer (some ⟨w.heap.size + 1 + 1, 0, none⟩), .pointer (some ⟨w.heap.size + 1 + 1 + 1, 0, none⟩), v9, v10, .pointer (some ⟨gn, 0, none⟩), .int .i64 (x : Nat), .pointer (some ⟨gb, 0, none⟩), v14, v15, v16, v17, v18, v19, v20, v21, v22, v23, v24, v25, v26, v27, v28, v29, v30, v31, v32, v33, v34, v35, v36, v37, v38, v39, v40, v41, v42, v43, v44, v45, v46, v47], []⟩ W := by
  refine wpIn_region_tab (n := 13) (by kernel_rfl) rfl sb11Deps (by kernel_rfl) (by kernel_rfl)
    (fun L Ac X => ∃ (b0 b1 b2 b3 b4 b5 b6 b7 b8 b9 b10 b11 b12 : Bool), L = [b0, b1, b2, b3, b4, b5, b6, b7, b8, b9, b10, b11, b12] ∧ Ac = ⟨#[v0, v1, v2, v3, v4, .pointer (some ⟨w.heap.size, 0, none⟩), .pointer (some ⟨w.heap.size + 1, 0, none⟩), .pointer (some ⟨w.heap.size + 1 + 1, 0, none⟩), .pointer (some ⟨w.heap.size + 1 + 1 + 1, 0, none⟩), v9, v10, .pointer (some ⟨gn, 0, none⟩), .int .i64 (x : Nat), .pointer (some ⟨gb, 0, none⟩), v14, v15, v16, v17, v18, v19, v20, v21, v22, v23, v24, (bif b0 then .int .i64 (x : Nat) else v25), (bif b1 then .int .i64 (first : Nat) else v26), (bif b2 then .int .i64 (n : Nat) else v27), (bif b3 then .int .i64 (first + n : Nat) else v28), (bif b4 then .bool true else v29), (bif b5 then .bool true else v30), (bif b6 then undef else v31), (bif b7 then undef else v32), (bif b8 then undef else v33), (bif b9 then undef else v34), (bif b10 then undef else v35), (bif b11 then undef else v36), (bif b12 then .bool true else v37), v38, v39, v40, v41, v42, v43, v44, v45, v46, v47], []⟩ ∧ (SeMem w first nonce n key b gn gb X ∧ Below W.heap.size W X) ∧ (b6 = true → b5 = true) ∧ (b7 = true → b5 = true) ∧ (b8 = true → b5 = true) ∧ (b9 = true → b5 = true) ∧ (b10 = true → b5 = true) ∧ (b11 = true → b5 = true) ∧ (b12 = true → b5 = true) ∧ (b12 = true → b11 = true)) ?_ ?_ ?_
  · exact ⟨false, false, false, false, false, false, false, false, false, false, false, false, false, rfl, rfl, ⟨hM0, (Below.refl _ _).drew⟩, nofun, nofun, nofun, nofun, nofun, nofun, nofun, nofun⟩
  · intro L Ac X jx _ hj hfr hdp hI
    obtain ⟨b0, b1, b2, b3, b4, b5, b6, b7, b8, b9, b10, b11, b12, rfl, rfl, hM, c6_5, c7_5, c8_5, c9_5, c10_5, c11_5, c12_5, c12_11⟩ := hI
    match jx, hj with
    | 0, _ =>
      obtain rfl : b0 = false := hfr
      refine wpOpIn_of rfl (by rfl) (opIn_pure' nofun nofun (v := .int .i64 (x : Nat)) (by rfl) ?_)
      exact ⟨true, b1, b2, b3, b4, b5, b6, b7, b8, b9, b10, b11, b12, rfl, rfl, hM, c6_5, c7_5, c8_5, c9_5, c10_5, c11_5, c12_5, c12_11⟩
    | 1, _ =>
      obtain rfl : b1 = false := hfr
      refine wpOpIn_of rfl (by rfl) (opIn_pure' nofun nofun (v := .int .i64 (first : Nat)) (exec_load rfl (x := .tmp 7) rfl (ld3 hM.1.bf)) ?_)
      exact ⟨b0, true, b2, b3, b4, b5, b6, b7, b8, b9, b10, b11, b12, rfl, rfl, hM, c6_5, c7_5, c8_5, c9_5, c10_5, c11_5, c12_5, c12_11⟩
    | 2, _ =>
      obtain rfl : b2 = false := hfr
      refine wpOpIn_of rfl (by rfl) (opIn_pure' nofun nofun (v := .int .i64 (n : Nat)) (exec_load rfl (x := .tmp 11) rfl (ld3 hM.1.bn)) ?_)
      exact ⟨b0, b1, true, b3, b4, b5, b6, b7, b8, b9, b10, b11, b12, rfl, rfl, hM, c6_5, c7_5, c8_5, c9_5, c10_5, c11_5, c12_5, c12_11⟩
    | 3, _ =>
      obtain rfl : b3 = false := hfr
      obtain rfl : b1 = true := hdp 1 (by decide)
      obtain rfl : b2 = true := hdp 2 (by decide)
      refine wpOpIn_of rfl (by rfl) (opIn_pure' nofun nofun (v := .int .i64 (first + n : Nat)) (exec_add rfl (x := .tmp 26) (y := .tmp 27) rfl rfl (by omega)) ?_)
      exact ⟨b0, true, true, true, b4, b5, b6, b7, b8, b9, b10, b11, b12, rfl, rfl, hM, c6_5, c7_5, c8_5, c9_5, c10_5, c11_5, c12_5, c12_11⟩
    | 4, _ =>
      obtain rfl : b4 = false := hfr
      obtain rfl : b0 = true := hdp 0 (by decide)
      obtain rfl : b3 = true := hdp 3 (by decide)
      refine wpOpIn_of rfl (by rfl) (opIn_pure' nofun nofun (v := .bool true) (exec_neI rfl (x := .tmp 25) (y := .tmp 28) rfl rfl (decide_eq_true (by omega))) ?_)
      exact ⟨true, b1, b2, true, true, b5, b6, b7, b8, b9, b10, b11, b12, rfl, rfl, hM, c6_5, c7_5, c8_5, c9_5, c10_5, c11_5, c12_5, c12_11⟩
    | 5, _ =>
      obtain rfl : b5 = false := hfr
      obtain rfl : b4 = true := hdp 4 (by decide)
      obtain rfl : b6 = false := by cases hb : b6 with | false => rfl | true => exact absurd (c6_5 hb) (by decide)
      obtain rfl : b7 = false := by cases hb : b7 with | false => rfl | true => exact absurd (c7_5 hb) (by decide)
      obtain rfl : b8 = false := by cases hb : b8 with | false => rfl | true => exact absurd (c8_5 hb) (by decide)
      obtain rfl : b9 = false := by cases hb : b9 with | false => rfl | true => exact absurd (c9_5 hb) (by decide)
      obtain rfl : b10 = false := by cases hb : b10 with | false => rfl | true => exact absurd (c10_5 hb) (by decide)
      obtain rfl : b11 = false := by cases hb : b11 with | false => rfl | true => exact absurd (c11_5 hb) (by decide)
      obtain rfl : b12 = false := by cases hb : b12 with | false => rfl | true => exact absurd (c12_5 hb) (by decide)
      refine wpOpIn_of rfl (by rfl) (opIn_pure' nofun nofun (v := .bool true) (by rfl) ?_)
      exact ⟨b0, b1, b2, b3, true, true, false, false, false, false, false, false, false, rfl, rfl, hM, fun _ => rfl, fun _ => rfl, fun _ => rfl, fun _ => rfl, fun _ => rfl, fun _ => rfl, fun _ => rfl, nofun⟩
    | 6, _ =>
      obtain rfl : b6 = false := hfr
      obtain rfl : b5 = true := hdp 5 (by decide)
      refine wpOpIn_skip rfl (by rfl) (fun _ => trivial) ?_
      exact ⟨b0, b1, b2, b3, b4, true, true, b7, b8, b9, b10, b11, b12, rfl, rfl, hM, fun _ => rfl, fun _ => rfl, fun _ => rfl, fun _ => rfl, fun _ => rfl, fun _ => rfl, fun _ => rfl, c12_11⟩
    | 7, _ =>
      obtain rfl : b7 = false := hfr
      obtain rfl : b5 = true := hdp 5 (by decide)
      refine wpOpIn_skip rfl (by rfl) (fun _ => trivial) ?_
      exact ⟨b0, b1, b2, b3, b4, true, b6, true, b8, b9, b10, b11, b12, rfl, rfl, hM, fun _ => rfl, fun _ => rfl, fun _ => rfl, fun _ => rfl, fun _ => rfl, fun _ => rfl, fun _ => rfl, c12_11⟩
    | 8, _ =>
      obtain rfl : b8 = false := hfr
      obtain rfl : b5 = true := hdp 5 (by decide)
      refine wpOpIn_skip rfl (by rfl) (fun _ => trivial) ?_
      exact ⟨b0, b1, b2, b3, b4, true, b6, b7, true, b9, b10, b11, b12, rfl, rfl, hM, fun _ => rfl, fun _ => rfl, fun _ => rfl, fun _ => rfl, fun _ => rfl, fun _ => rfl, fun _ => rfl, c12_11⟩
    | 9, _ =>
      obtain rfl : b9 = false := hfr
      obtain rfl : b5 = true := hdp 5 (by decide)
      refine wpOpIn_skip rfl (by rfl) (fun _ => trivial) ?_
      exact ⟨b0, b1, b2, b3, b4, true, b6, b7, b8, true, b10, b11, b12, rfl, rfl, hM, fun _ => rfl, fun _ => rfl, fun _ => rfl, fun _ => rfl, fun _ => rfl, fun _ => rfl, fun _ => rfl, c12_11⟩
    | 10, _ =>
      obtain rfl : b10 = false := hfr
      obtain rfl : b7 = true := hdp 7 (by decide)
      obtain rfl : b8 = true := hdp 8 (by decide)
      obtain rfl : b9 = true := hdp 9 (by decide)
      obtain rfl : b5 = true := hdp 5 (by decide)
      refine wpOpIn_skip rfl (by rfl) (fun _ => trivial) ?_
      exact ⟨b0, b1, b2, b3, b4, true, b6, true, true, true, true, b11, b12, rfl, rfl, hM, fun _ => rfl, fun _ => rfl, fun _ => rfl, fun _ => rfl, fun _ => rfl, fun _ => rfl, fun _ => rfl, c12_11⟩
    | 11, _ =>
      obtain rfl : b11 = false := hfr
      obtain rfl : b6 = true := hdp 6 (by decide)
      obtain rfl : b10 = true := hdp 10 (by decide)
      obtain rfl : b5 = true := hdp 5 (by decide)
      obtain rfl : b12 = false := by cases hb : b12 with | false => rfl | true => exact absurd (c12_11 hb) (by decide)
      refine wpOpIn_skip rfl (by rfl) (fun _ => trivial) ?_
      exact ⟨b0, b1, b2, b3, b4, true, true, b7, b8, b9, true, true, false, rfl, rfl, hM, fun _ => rfl, fun _ => rfl, fun _ => rfl, fun _ => rfl, fun _ => rfl, fun _ => rfl, fun _ => rfl, fun _ => rfl⟩
    | 12, _ =>
      obtain rfl : b12 = false := hfr
      obtain rfl : b5 = true := hdp 5 (by decide)
      obtain rfl : b11 = true := hdp 11 (by decide)
      refine wpOpIn_of rfl (by rfl) (opIn_pure' nofun nofun (v := .bool true) (by rfl) ?_)
      exact ⟨b0, b1, b2, b3, b4, true, b6, b7, b8, b9, b10, true, true, rfl, rfl, hM, fun _ => rfl, fun _ => rfl, fun _ => rfl, fun _ => rfl, fun _ => rfl, fun _ => rfl, fun _ => rfl, fun _ => rfl⟩
    | jx + 13, h => omega
  · intro L Ac X _ hall hI
    obtain ⟨b0, b1, b2, b3, b4, b5, b6, b7, b8, b9, b10, b11, b12, rfl, rfl, hM, -, -, -, -, -, -, -, -⟩ := hI
    simp at hall
    obtain ⟨rfl, rfl, rfl, rfl, rfl, rfl, rfl, rfl, rfl, rfl, rfl, rfl, rfl⟩ := hall
    exact hQ X hM.1 hM.2
end Go.Proofs.Ytgdphdnghackfaa
