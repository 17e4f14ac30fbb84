/- The drawn region of the document's Turn: a byte is appended (layer 5). -/
import Derived.Test.YtgdphdnghackfaaR16
namespace Go.Proofs.Ytgdphdnghackfaa
open Go.RowKit Go.Shelf
theorem exec_rem16 {A : Act} {o : Oper} {x : Operand} {W : World} {m : Nat} (ho : o.op = .binOp .rem 3 x (.const (.int .i64 16)) 3) (hx : A.eval x = .int .i64 (m : Nat)) (hm : m < 3000000) : (execOp A.eval o).run Try.prog W = .ok (.value (.int .i64 (m % 16 : Nat))) W := by
  unfold execOp
  rw [ho]
  have hc : A.eval (.const (.int .i64 16)) = .int .i64 16 := rfl
  simp only [hx, hc]
  go_simp
  exact Int.tmod_eq_emod_of_nonneg (by omega)
theorem exec_build1 {A : Act} {o : Oper} {x : Operand} {W : World} {v : Int} (ho : o.op = .buildSlice 25 1 #[(0, x)]) (hx : A.eval x = .int .u8 v) : (execOp A.eval o).run Try.prog W = .ok (.value (.slice (some ⟨W.heap.size, 0, none⟩) 1 1)) (W.alloc (.cells #[.int .u8 v] 5)) := by
  unfold execOp
  rw [ho]
  simp only [List.map_toArray, List.map_cons, List.map_nil, hx]
  go_simp
theorem sl_one (W : World) (v : Nat) : Sl (W.alloc (.cells #[.int .u8 (v : Nat)] 5)) (W.heap.size + 1) .u8 (some ⟨W.heap.size, 0, none⟩) 1 [(v : Int)] := by
  refine ⟨rfl, fun _ => ⟨W.heap.size, 0, rfl, by omega, fun i hi => ?_⟩⟩
  obtain rfl : i = 0 := by omega
  exact (Box.new W 5 #[.int .u8 (v : Nat)]).cell 0
theorem own_base {w : World} {base n cap : Nat} {e : TypeId} {k : IntKind} {A : Option Addr} {zs : List Int} (h : Own w base e k A n cap zs) : ∀ r, (Value.slice A n cap).ownBlock = some r → base ≤ r := fun j hj => (World.ownsRow.lt h j hj).1
def reg13Deps : List (List Nat) := [[], [], [], [1, 2], [3], [], [5], [6], [7], [4, 8], [9], [0, 10], [11]]
set_option maxRecDepth 100000 in
set_option maxHeartbeats 1000000 in
theorem reg13 {Q : Exit → Act → World → Prop} {b o n cap i gb m p q co base : Nat} {Ao : Option Addr} {l : List Nat} {W : World} (hi : i < n) (hp : W.drew.cell? ⟨b, o + i, none⟩ = some (.int .u8 (p : Nat))) (hq : W.drew.cell? ⟨gb, m % 16, none⟩ = some (.int .u8 (q : Nat))) (hpl : p < 256) (hql : q < 256) (hm : m < 3000000) (hin : n ≤ 1100000) (hO : Own W base 5 .u8 Ao i co (l.map fun (x : Nat) => (x : Int))) (hbase : base ≤ W.heap.size) (v0 v1 v2 v4 v5 v6 v7 v8 v9 v10 v13 v16 v17 v18 v19 v20 v21 v22 v23 v24 v25 v26 v27 v28 v29 v30 v31 v32 v33 v34 v35 v36 v37 v38 v39 v40 v41 v42 v43 v44 v45 v46 v47 v48 v49 v50 v52 v51 : Value)
    (hQ : ∀ A2 c2 X, Own X base 5 .u8 A2 (i + 1) c2 ((l ++ [p ^^^ q]).map fun (x : Nat) => (x : Int)) → Below base W X → base ≤ X.heap.size → Q .normal ⟨#[v0, v1, v2, .slice (some ⟨b, o, none⟩) n cap, v4, v5, v6, v7, v8, v9, v10, .slice A2 (i + 1) c2, .pointer (some ⟨gb, 0, none⟩), v13, .int .i64 (i : Nat), .int .i64 (m : Nat), v16, v17, v18, v19, v20, v21, v22, v23, v24, v25, v26, v27, v28, v29, v30, v31, v32, v33, v34, v35, v36, v37, v38, v39, .slice Ao i co, .slice (some ⟨b, o, none⟩) n cap, .int .i64 (i : Nat), .pointer (some ⟨b, o + i, none⟩), .int .u8 (p : Nat), .int .i64 (m : Nat), .int .i64 (m % 16 : Nat), .pointer (some ⟨gb, m % 16, none⟩), .int .u8 (q : Nat), .int .u8 (p ^^^ q : Nat), .slice (some ⟨W.heap.size, 0, none⟩) 1 1, .slice A2 (i + 1) c2, v52], []⟩ X)
    : (Code.region 13 #[{ dst := Option.some 40, op := Go.Op.move (Go.Operand.tmp 11), type := 25, pos := "ref.go:35", after := #[], guard := Option.none }, { dst := Option.some 41, op := Go.Op.move (Go.Operand.tmp 3), type := 25, pos := "ref.go:35", after := #[], guard := Option.none }, { dst := Option.some 42, op := Go.Op.move (Go.Operand.tmp 14), type := 3, pos := "ref.go:35", after := #[], guard := Option.none }, { dst := Option.some 43, op := Go.Op.indexAddr 25 (Go.Operand.tmp 41) (Go.Operand.tmp 42), type := 0, pos := "ref.go:35", after := #[{ on := 1, ground := Go.Ground.data }, { on := 2, ground := Go.Ground.data }], guard := Option.none }, { dst := Option.some 44, op := Go.Op.load 5 (Go.Operand.tmp 43), type := 5, pos := "ref.go:35", after := #[{ on := 3, ground := Go.Ground.data }], guard := Option.none }, { dst := Option.some 45, op := Go.Op.move (Go.Operand.tmp 15), type := 3, pos := "ref.go:35", after := #[], guard := Option.none }, { dst := Option.some 46, op := Go.Op.binOp Go.BinOp.rem 3 (Go.Operand.tmp 45) (Go.Operand.const (Go.Value.int Go.IntKind.i64 16)) 3, type := 3, pos := "ref.go:35", after := #[{ on := 5, ground := Go.Ground.data }], guard := Option.none }, { dst := Option.some 47, op := Go.Op.indexAddr 22 (Go.Operand.tmp 12) (Go.Operand.tmp 46), type := 0, pos := "ref.go:35", after := #[{ on := 6, ground := Go.Ground.data }], guard := Option.none }, { dst := Option.some 48, op := Go.Op.load 5 (Go.Operand.tmp 47), type := 5, pos := "ref.go:35", after := #[{ on := 7, ground := Go.Ground.data }], guard := Option.none }, { dst := Option.some 49, op := Go.Op.binOp Go.BinOp.xor 5 (Go.Operand.tmp 44) (Go.Operand.tmp 48) 5, type := 5, pos := "ref.go:35", after := #[{ on := 4, ground := Go.Ground.data }, { on := 8, ground := Go.Ground.data }], guard := Option.none }, { dst := Option.some 50, op := Go.Op.buildSlice 25 1 #[(0, Go.Operand.tmp 49)], type := 25, pos := "ref.go:35", after := #[{ on := 9, ground := Go.Ground.data }], guard := Option.none }, { dst := Option.some 51, op := Go.Op.call { callee := Go.Callee.builtin Go.Builtin.append, args := #[Go.Operand.tmp 40, Go.Operand.tmp 50], argTypes := #[25, 25] }, type := 25, pos := "ref.go:35", after := #[{ on := 0, ground := Go.Ground.data }, { on := 10, ground := Go.Ground.data }], guard := Option.none }, { dst := Option.some 11, op := Go.Op.assign (Go.Operand.tmp 51), type := 25, pos := "ref.go:35", after := #[{ on := 11, ground := Go.Ground.data }, { on := 11, ground := Go.Ground.chain }, { on := 0, ground := Go.Ground.phase }, { on := 1, ground := Go.Ground.phase }, { on := 2, ground := Go.Ground.phase }, { on := 3, ground := Go.Ground.phase }, { on := 4, ground := Go.Ground.phase }, { on := 5, ground := Go.Ground.phase }, { on := 6, ground := Go.Ground.phase }, { on := 7, ground := Go.Ground.phase }, { on := 8, ground := Go.Ground.phase }, { on := 9, ground := Go.Ground.phase }, { on := 10, ground := Go.Ground.phase }, { on := 11, ground := Go.Ground.phase }], guard := Option.none }] true).wp Try.prog Q ⟨#[v0, v1, v2, .slice (some ⟨b, o, none⟩) n cap, v4, v5, v6, v7, v8, v9, v10, .slice Ao i co, .pointer (some ⟨gb, 0, none⟩), v13, .int .i64 (i : Nat), .int .i64 (m : Nat), v16, v17, v18, v19, v20, v21, v22, v23, v24, v25, v26, v27, v28, v29, v30, v31, v32, v33, v34, v35, v36, v37, v38, v39, v40, v41, v42, v43, v44, v45, v46, v47, v48, v49, v50, v51, v52], []⟩ W := by
  obtain ⟨i5, hi5, hz0, hz1, hz2⟩ := info_parts info5
  have hO' := hO.drew.alloc (.cells #[.int .u8 (p ^^^ q : Nat)] 5)
  refine wp_region_tab (n := 13) (by kernel_rfl) rfl reg13Deps (by kernel_rfl) (by kernel_rfl)
    (fun L A X => ∃ (b0 b1 b2 b3 b4 b5 b6 b7 b8 b9 b10 b11 b12 : Bool) (v51 : Value), L = [b0, b1, b2, b3, b4, b5, b6, b7, b8, b9, b10, b11, b12] ∧ A = ⟨#[v0, v1, v2, .slice (some ⟨b, o, none⟩) n cap, v4, v5, v6, v7, v8, v9, v10, (bif b12 then v51 else .slice Ao i co), .pointer (some ⟨gb, 0, none⟩), v13, .int .i64 (i : Nat), .int .i64 (m : Nat), v16, v17, v18, v19, v20, v21, v22, v23, v24, v25, v26, v27, v28, v29, v30, v31, v32, v33, v34, v35, v36, v37, v38, v39, (bif b0 then .slice Ao i co else v40), (bif b1 then .slice (some ⟨b, o, none⟩) n cap else v41), (bif b2 then .int .i64 (i : Nat) else v42), (bif b3 then .pointer (some ⟨b, o + i, none⟩) else v43), (bif b4 then .int .u8 (p : Nat) else v44), (bif b5 then .int .i64 (m : Nat) else v45), (bif b6 then .int .i64 (m % 16 : Nat) else v46), (bif b7 then .pointer (some ⟨gb, m % 16, none⟩) else v47), (bif b8 then .int .u8 (q : Nat) else v48), (bif b9 then .int .u8 (p ^^^ q : Nat) else v49), (bif b10 then .slice (some ⟨W.heap.size, 0, none⟩) 1 1 else v50), v51, v52], []⟩ ∧ (b11 = false → X = bif b10 then W.drew.alloc (.cells #[.int .u8 (p ^^^ q : Nat)] 5) else W.drew) ∧ (b11 = true → ∃ A2 c2, v51 = .slice A2 (i + 1) c2 ∧ Own X base 5 .u8 A2 (i + 1) c2 ((l ++ [p ^^^ q]).map fun (x : Nat) => (x : Int)) ∧ Below base W X ∧ base ≤ X.heap.size) ∧ (b3 = true → b1 = true) ∧ (b3 = true → b2 = true) ∧ (b4 = true → b1 = true) ∧ (b4 = true → b2 = true) ∧ (b4 = true → b3 = true) ∧ (b6 = true → b5 = true) ∧ (b7 = true → b5 = true) ∧ (b7 = true → b6 = true) ∧ (b8 = true → b5 = true) ∧ (b8 = true → b6 = true) ∧ (b8 = true → b7 = true) ∧ (b9 = true → b1 = true) ∧ (b9 = true → b2 = true) ∧ (b9 = true → b3 = true) ∧ (b9 = true → b4 = true) ∧ (b9 = true → b5 = true) ∧ (b9 = true → b6 = true) ∧ (b9 = true → b7 = true) ∧ (b9 = true → b8 = true) ∧ (b10 = true → b1 = true) ∧ (b10 = true → b2 = true) ∧ (b10 = true → b3 = true) ∧ (b10 = true → b4 = true) ∧ (b10 = true → b5 = true) ∧ (b10 = true → b6 = true) ∧ (b10 = true → b7 = true) ∧ (b10 = true → b8 = true) ∧ (b10 = true → b9 = true) ∧ (b11 = true → b0 = true) ∧ (b11 = true → b1 = true) ∧ (b11 = true → b2 = true) ∧ (b11 = true → b3 = true) ∧ (b11 = true → b4 = true) ∧ (b11 = true → b5 = true) ∧ (b11 = true → b6 = true) ∧ (b11 = true → b7 = true) ∧ (b11 = true → b8 = true) ∧ (b11 = true → b9 = true) ∧ (b11 = true → b10 = true) ∧ (b12 = true → b0 = true) ∧ (b12 = true → b1 = true) ∧ (b12 = true → b2 = true) ∧ (b12 = true → b3 = true) ∧ (b12 = true → b4 = true) ∧ (b12 = true → b5 = true) ∧ (b12 = true → b6 = true) ∧ (b12 = true → b7 = true) ∧ (b12 = true → b8 = true) ∧ (b12 = true → b9 = true) ∧ (b12 = true → b10 = true) ∧ (b12 = true → b11 = true)) ?_ ?_ ?_
  · exact ⟨false, false, false, false, false, false, false, false, false, false, false, false, false, v51, rfl, rfl, fun _ => rfl, nofun, nofun, nofun, nofun, nofun, nofun, nofun, nofun, nofun, nofun, nofun, nofun, nofun, nofun, nofun, nofun, nofun, nofun, nofun, nofun, nofun, nofun, nofun, nofun, nofun, nofun, nofun, nofun, nofun, nofun, nofun, nofun, nofun, nofun, nofun, nofun, nofun, nofun, nofun, nofun, nofun, nofun, nofun, nofun, nofun, nofun, nofun, nofun, nofun, nofun, nofun, nofun⟩
  · intro L A X jx _ hj hfr hdp hI
    obtain ⟨b0, b1, b2, b3, b4, b5, b6, b7, b8, b9, b10, b11, b12, v51, rfl, rfl, hw0, hw1, c3_1, c3_2, c4_1, c4_2, c4_3, c6_5, c7_5, c7_6, c8_5, c8_6, c8_7, c9_1, c9_2, c9_3, c9_4, c9_5, c9_6, c9_7, c9_8, c10_1, c10_2, c10_3, c10_4, c10_5, c10_6, c10_7, c10_8, c10_9, c11_0, c11_1, c11_2, c11_3, c11_4, c11_5, c11_6, c11_7, c11_8, c11_9, c11_10, c12_0, c12_1, c12_2, c12_3, c12_4, c12_5, c12_6, c12_7, c12_8, c12_9, c12_10, c12_11⟩ := hI
    match jx, hj with
    | 0, _ =>
      obtain rfl : b0 = false := hfr
      obtain rfl : b11 = false := by cases hb : b11 with | false => rfl | true => exact absurd (c11_0 hb) (by decide)
      obtain rfl : b12 = false := by cases hb : b12 with | false => rfl | true => exact absurd (c12_0 hb) (by decide)
      refine wpOp_of rfl (by rfl) (op_val (v := .slice Ao i co) (by rfl) ?_)
      exact ⟨true, b1, b2, b3, b4, b5, b6, b7, b8, b9, b10, false, false, v51, rfl, rfl, hw0, hw1, c3_1, c3_2, c4_1, c4_2, c4_3, c6_5, c7_5, c7_6, c8_5, c8_6, c8_7, c9_1, c9_2, c9_3, c9_4, c9_5, c9_6, c9_7, c9_8, c10_1, c10_2, c10_3, c10_4, c10_5, c10_6, c10_7, c10_8, c10_9, fun _ => rfl, nofun, nofun, nofun, nofun, nofun, nofun, nofun, nofun, nofun, nofun, fun _ => rfl, nofun, nofun, nofun, nofun, nofun, nofun, nofun, nofun, nofun, nofun, nofun⟩
    | 1, _ =>
      obtain rfl : b1 = false := hfr
      obtain rfl : b3 = false := by cases hb : b3 with | false => rfl | true => exact absurd (c3_1 hb) (by decide)
      obtain rfl : b4 = false := by cases hb : b4 with | false => rfl | true => exact absurd (c4_1 hb) (by decide)
      obtain rfl : b9 = false := by cases hb : b9 with | false => rfl | true => exact absurd (c9_1 hb) (by decide)
      obtain rfl : b10 = false := by cases hb : b10 with | false => rfl | true => exact absurd (c10_1 hb) (by decide)
      obtain rfl : b11 = false := by cases hb : b11 with | false => rfl | true => exact absurd (c11_1 hb) (by decide)
      obtain rfl : b12 = false := by cases hb : b12 with | false => rfl | true => exact absurd (c12_1 hb) (by decide)
      refine wpOp_of rfl (by rfl) (op_val (v := .slice (some ⟨b, o, none⟩) n cap) (by rfl) ?_)
      exact ⟨b0, true, b2, false, false, b5, b6, b7, b8, false, false, false, false, v51, rfl, rfl, hw0, hw1, fun _ => rfl, nofun, fun _ => rfl, nofun, nofun, c6_5, c7_5, c7_6, c8_5, c8_6, c8_7, fun _ => rfl, nofun, nofun, nofun, nofun, nofun, nofun, nofun, fun _ => rfl, nofun, nofun, nofun, nofun, nofun, nofun, nofun, nofun, nofun, fun _ => rfl, nofun, nofun, nofun, nofun, nofun, nofun, nofun, nofun, nofun, nofun, fun _ => rfl, nofun, nofun, nofun, nofun, nofun, nofun, nofun, nofun, nofun, nofun⟩
    | 2, _ =>
      obtain rfl : b2 = false := hfr
      obtain rfl : b3 = false := by cases hb : b3 with | false => rfl | true => exact absurd (c3_2 hb) (by decide)
      obtain rfl : b4 = false := by cases hb : b4 with | false => rfl | true => exact absurd (c4_2 hb) (by decide)
      obtain rfl : b9 = false := by cases hb : b9 with | false => rfl | true => exact absurd (c9_2 hb) (by decide)
      obtain rfl : b10 = false := by cases hb : b10 with | false => rfl | true => exact absurd (c10_2 hb) (by decide)
      obtain rfl : b11 = false := by cases hb : b11 with | false => rfl | true => exact absurd (c11_2 hb) (by decide)
      obtain rfl : b12 = false := by cases hb : b12 with | false => rfl | true => exact absurd (c12_2 hb) (by decide)
      refine wpOp_of rfl (by rfl) (op_val (v := .int .i64 (i : Nat)) (by rfl) ?_)
      exact ⟨b0, b1, true, false, false, b5, b6, b7, b8, false, false, false, false, v51, rfl, rfl, hw0, hw1, nofun, fun _ => rfl, nofun, fun _ => rfl, nofun, c6_5, c7_5, c7_6, c8_5, c8_6, c8_7, nofun, fun _ => rfl, nofun, nofun, nofun, nofun, nofun, nofun, nofun, fun _ => rfl, nofun, nofun, nofun, nofun, nofun, nofun, nofun, nofun, nofun, fun _ => rfl, nofun, nofun, nofun, nofun, nofun, nofun, nofun, nofun, nofun, nofun, fun _ => rfl, nofun, nofun, nofun, nofun, nofun, nofun, nofun, nofun, nofun⟩
    | 3, _ =>
      obtain rfl : b3 = false := hfr
      obtain rfl : b1 = true := hdp 1 (by decide)
      obtain rfl : b2 = true := hdp 2 (by decide)
      obtain rfl : b4 = false := by cases hb : b4 with | false => rfl | true => exact absurd (c4_3 hb) (by decide)
      obtain rfl : b9 = false := by cases hb : b9 with | false => rfl | true => exact absurd (c9_3 hb) (by decide)
      obtain rfl : b10 = false := by cases hb : b10 with | false => rfl | true => exact absurd (c10_3 hb) (by decide)
      obtain rfl : b11 = false := by cases hb : b11 with | false => rfl | true => exact absurd (c11_3 hb) (by decide)
      obtain rfl : b12 = false := by cases hb : b12 with | false => rfl | true => exact absurd (c12_3 hb) (by decide)
      refine wpOp_of rfl (by rfl) (op_val (v := .pointer (some ⟨b, o + i, none⟩)) (exec_index rfl (x := .tmp 41) (y := .tmp 42) rfl rfl (ix25 hi)) ?_)
      exact ⟨b0, true, true, true, false, b5, b6, b7, b8, false, false, false, false, v51, rfl, rfl, hw0, hw1, fun _ => rfl, fun _ => rfl, fun _ => rfl, fun _ => rfl, fun _ => rfl, c6_5, c7_5, c7_6, c8_5, c8_6, c8_7, fun _ => rfl, fun _ => rfl, fun _ => rfl, nofun, nofun, nofun, nofun, nofun, fun _ => rfl, fun _ => rfl, fun _ => rfl, nofun, nofun, nofun, nofun, nofun, nofun, nofun, fun _ => rfl, fun _ => rfl, fun _ => rfl, nofun, nofun, nofun, nofun, nofun, nofun, nofun, nofun, fun _ => rfl, fun _ => rfl, fun _ => rfl, nofun, nofun, nofun, nofun, nofun, nofun, nofun, nofun⟩
    | 4, _ =>
      obtain rfl : b4 = false := hfr
      obtain rfl : b3 = true := hdp 3 (by decide)
      obtain rfl : b1 = true := c3_1 rfl
      obtain rfl : b2 = true := c3_2 rfl
      obtain rfl : b9 = false := by cases hb : b9 with | false => rfl | true => exact absurd (c9_4 hb) (by decide)
      obtain rfl : b10 = false := by cases hb : b10 with | false => rfl | true => exact absurd (c10_4 hb) (by decide)
      obtain rfl : b11 = false := by cases hb : b11 with | false => rfl | true => exact absurd (c11_4 hb) (by decide)
      obtain rfl : b12 = false := by cases hb : b12 with | false => rfl | true => exact absurd (c12_4 hb) (by decide)
      obtain rfl : X = W.drew := hw0 rfl
      refine wpOp_of rfl (by rfl) (op_val (v := .int .u8 (p : Nat)) (exec_load rfl (x := .tmp 43) rfl (ld5 hp)) ?_)
      exact ⟨b0, true, true, true, true, b5, b6, b7, b8, false, false, false, false, v51, rfl, rfl, hw0, hw1, fun _ => rfl, fun _ => rfl, fun _ => rfl, fun _ => rfl, fun _ => rfl, c6_5, c7_5, c7_6, c8_5, c8_6, c8_7, fun _ => rfl, fun _ => rfl, fun _ => rfl, fun _ => rfl, nofun, nofun, nofun, nofun, fun _ => rfl, fun _ => rfl, fun _ => rfl, fun _ => rfl, nofun, nofun, nofun, nofun, nofun, nofun, fun _ => rfl, fun _ => rfl, fun _ => rfl, fun _ => rfl, nofun, nofun, nofun, nofun, nofun, nofun, nofun, fun _ => rfl, fun _ => rfl, fun _ => rfl, fun _ => rfl, nofun, nofun, nofun, nofun, nofun, nofun, nofun⟩
    | 5, _ =>
      obtain rfl : b5 = false := hfr
      obtain rfl : b6 = false := by cases hb : b6 with | false => rfl | true => exact absurd (c6_5 hb) (by decide)
      obtain rfl : b7 = false := by cases hb : b7 with | false => rfl | true => exact absurd (c7_5 hb) (by decide)
      obtain rfl : b8 = false := by cases hb : b8 with | false => rfl | true => exact absurd (c8_5 hb) (by decide)
      obtain rfl : b9 = false := by cases hb : b9 with | false => rfl | true => exact absurd (c9_5 hb) (by decide)
      obtain rfl : b10 = false := by cases hb : b10 with | false => rfl | true => exact absurd (c10_5 hb) (by decide)
      obtain rfl : b11 = false := by cases hb : b11 with | false => rfl | true => exact absurd (c11_5 hb) (by decide)
      obtain rfl : b12 = false := by cases hb : b12 with | false => rfl | true => exact absurd (c12_5 hb) (by decide)
      refine wpOp_of rfl (by rfl) (op_val (v := .int .i64 (m : Nat)) (by rfl) ?_)
      exact ⟨b0, b1, b2, b3, b4, true, false, false, false, false, false, false, false, v51, rfl, rfl, hw0, hw1, c3_1, c3_2, c4_1, c4_2, c4_3, fun _ => rfl, fun _ => rfl, nofun, fun _ => rfl, nofun, nofun, nofun, nofun, nofun, nofun, fun _ => rfl, nofun, nofun, nofun, nofun, nofun, nofun, nofun, fun _ => rfl, nofun, nofun, nofun, nofun, nofun, nofun, nofun, nofun, nofun, fun _ => rfl, nofun, nofun, nofun, nofun, nofun, nofun, nofun, nofun, nofun, nofun, fun _ => rfl, nofun, nofun, nofun, nofun, nofun, nofun⟩
    | 6, _ =>
      obtain rfl : b6 = false := hfr
      obtain rfl : b5 = true := hdp 5 (by decide)
      obtain rfl : b7 = false := by cases hb : b7 with | false => rfl | true => exact absurd (c7_6 hb) (by decide)
      obtain rfl : b8 = false := by cases hb : b8 with | false => rfl | true => exact absurd (c8_6 hb) (by decide)
      obtain rfl : b9 = false := by cases hb : b9 with | false => rfl | true => exact absurd (c9_6 hb) (by decide)
      obtain rfl : b10 = false := by cases hb : b10 with | false => rfl | true => exact absurd (c10_6 hb) (by decide)
      obtain rfl : b11 = false := by cases hb : b11 with | false => rfl | true => exact absurd (c11_6 hb) (by decide)
      obtain rfl : b12 = false := by cases hb : b12 with | false => rfl | true => exact absurd (c12_6 hb) (by decide)
      refine wpOp_of rfl (by rfl) (op_val (v := .int .i64 (m % 16 : Nat)) (exec_rem16 rfl (x := .tmp 45) rfl hm) ?_)
      exact ⟨b0, b1, b2, b3, b4, true, true, false, false, false, false, false, false, v51, rfl, rfl, hw0, hw1, c3_1, c3_2, c4_1, c4_2, c4_3, fun _ => rfl, fun _ => rfl, fun _ => rfl, fun _ => rfl, fun _ => rfl, nofun, nofun, nofun, nofun, nofun, fun _ => rfl, fun _ => rfl, nofun, nofun, nofun, nofun, nofun, nofun, fun _ => rfl, fun _ => rfl, nofun, nofun, nofun, nofun, nofun, nofun, nofun, nofun, fun _ => rfl, fun _ => rfl, nofun, nofun, nofun, nofun, nofun, nofun, nofun, nofun, nofun, fun _ => rfl, fun _ => rfl, nofun, nofun, nofun, nofun, nofun⟩
    | 7, _ =>
      obtain rfl : b7 = false := hfr
      obtain rfl : b6 = true := hdp 6 (by decide)
      obtain rfl : b5 = true := c6_5 rfl
      obtain rfl : b8 = false := by cases hb : b8 with | false => rfl | true => exact absurd (c8_7 hb) (by decide)
      obtain rfl : b9 = false := by cases hb : b9 with | false => rfl | true => exact absurd (c9_7 hb) (by decide)
      obtain rfl : b10 = false := by cases hb : b10 with | false => rfl | true => exact absurd (c10_7 hb) (by decide)
      obtain rfl : b11 = false := by cases hb : b11 with | false => rfl | true => exact absurd (c11_7 hb) (by decide)
      obtain rfl : b12 = false := by cases hb : b12 with | false => rfl | true => exact absurd (c12_7 hb) (by decide)
      refine wpOp_of rfl (by rfl) (op_val (v := .pointer (some ⟨gb, m % 16, none⟩)) (exec_index rfl (x := .tmp 12) (y := .tmp 46) rfl rfl (ix22 (Nat.mod_lt _ (by decide)))) ?_)
      exact ⟨b0, b1, b2, b3, b4, true, true, true, false, false, false, false, false, v51, rfl, rfl, hw0, hw1, c3_1, c3_2, c4_1, c4_2, c4_3, fun _ => rfl, fun _ => rfl, fun _ => rfl, fun _ => rfl, fun _ => rfl, fun _ => rfl, nofun, nofun, nofun, nofun, fun _ => rfl, fun _ => rfl, fun _ => rfl, nofun, nofun, nofun, nofun, nofun, fun _ => rfl, fun _ => rfl, fun _ => rfl, nofun, nofun, nofun, nofun, nofun, nofun, nofun, fun _ => rfl, fun _ => rfl, fun _ => rfl, nofun, nofun, nofun, nofun, nofun, nofun, nofun, nofun, fun _ => rfl, fun _ => rfl, fun _ => rfl, nofun, nofun, nofun, nofun⟩
    | 8, _ =>
      obtain rfl : b8 = false := hfr
      obtain rfl : b7 = true := hdp 7 (by decide)
      obtain rfl : b5 = true := c7_5 rfl
      obtain rfl : b6 = true := c7_6 rfl
      obtain rfl : b9 = false := by cases hb : b9 with | false => rfl | true => exact absurd (c9_8 hb) (by decide)
      obtain rfl : b10 = false := by cases hb : b10 with | false => rfl | true => exact absurd (c10_8 hb) (by decide)
      obtain rfl : b11 = false := by cases hb : b11 with | false => rfl | true => exact absurd (c11_8 hb) (by decide)
      obtain rfl : b12 = false := by cases hb : b12 with | false => rfl | true => exact absurd (c12_8 hb) (by decide)
      obtain rfl : X = W.drew := hw0 rfl
      refine wpOp_of rfl (by rfl) (op_val (v := .int .u8 (q : Nat)) (exec_load rfl (x := .tmp 47) rfl (ld5 hq)) ?_)
      exact ⟨b0, b1, b2, b3, b4, true, true, true, true, false, false, false, false, v51, rfl, rfl, hw0, hw1, c3_1, c3_2, c4_1, c4_2, c4_3, fun _ => rfl, fun _ => rfl, fun _ => rfl, fun _ => rfl, fun _ => rfl, fun _ => rfl, nofun, nofun, nofun, nofun, fun _ => rfl, fun _ => rfl, fun _ => rfl, fun _ => rfl, nofun, nofun, nofun, nofun, fun _ => rfl, fun _ => rfl, fun _ => rfl, fun _ => rfl, nofun, nofun, nofun, nofun, nofun, nofun, fun _ => rfl, fun _ => rfl, fun _ => rfl, fun _ => rfl, nofun, nofun, nofun, nofun, nofun, nofun, nofun, fun _ => rfl, fun _ => rfl, fun _ => rfl, fun _ => rfl, nofun, nofun, nofun⟩
    | 9, _ =>
      obtain rfl : b9 = false := hfr
      obtain rfl : b4 = true := hdp 4 (by decide)
      obtain rfl : b8 = true := hdp 8 (by decide)
      obtain rfl : b1 = true := c4_1 rfl
      obtain rfl : b2 = true := c4_2 rfl
      obtain rfl : b3 = true := c4_3 rfl
      obtain rfl : b5 = true := c8_5 rfl
      obtain rfl : b6 = true := c8_6 rfl
      obtain rfl : b7 = true := c8_7 rfl
      obtain rfl : b10 = false := by cases hb : b10 with | false => rfl | true => exact absurd (c10_9 hb) (by decide)
      obtain rfl : b11 = false := by cases hb : b11 with | false => rfl | true => exact absurd (c11_9 hb) (by decide)
      obtain rfl : b12 = false := by cases hb : b12 with | false => rfl | true => exact absurd (c12_9 hb) (by decide)
      refine wpOp_of rfl (by rfl) (op_val (v := .int .u8 (p ^^^ q : Nat)) (exec_xor5 rfl (x := .tmp 44) (y := .tmp 48) rfl rfl hpl hql) ?_)
      exact ⟨b0, true, true, true, true, true, true, true, true, true, false, false, false, v51, rfl, rfl, hw0, hw1, fun _ => rfl, fun _ => rfl, fun _ => rfl, fun _ => rfl, fun _ => rfl, fun _ => rfl, fun _ => rfl, fun _ => rfl, fun _ => rfl, fun _ => rfl, fun _ => rfl, fun _ => rfl, fun _ => rfl, fun _ => rfl, fun _ => rfl, fun _ => rfl, fun _ => rfl, fun _ => rfl, fun _ => rfl, fun _ => rfl, fun _ => rfl, fun _ => rfl, fun _ => rfl, fun _ => rfl, fun _ => rfl, fun _ => rfl, fun _ => rfl, fun _ => rfl, nofun, fun _ => rfl, fun _ => rfl, fun _ => rfl, fun _ => rfl, fun _ => rfl, fun _ => rfl, fun _ => rfl, fun _ => rfl, fun _ => rfl, nofun, nofun, fun _ => rfl, fun _ => rfl, fun _ => rfl, fun _ => rfl, fun _ => rfl, fun _ => rfl, fun _ => rfl, fun _ => rfl, fun _ => rfl, nofun, nofun⟩
    | 10, _ =>
      obtain rfl : b10 = false := hfr
      obtain rfl : b9 = true := hdp 9 (by decide)
      obtain rfl : b1 = true := c9_1 rfl
      obtain rfl : b2 = true := c9_2 rfl
      obtain rfl : b3 = true := c9_3 rfl
      obtain rfl : b4 = true := c9_4 rfl
      obtain rfl : b5 = true := c9_5 rfl
      obtain rfl : b6 = true := c9_6 rfl
      obtain rfl : b7 = true := c9_7 rfl
      obtain rfl : b8 = true := c9_8 rfl
      obtain rfl : b11 = false := by cases hb : b11 with | false => rfl | true => exact absurd (c11_10 hb) (by decide)
      obtain rfl : b12 = false := by cases hb : b12 with | false => rfl | true => exact absurd (c12_10 hb) (by decide)
      obtain rfl : X = W.drew := hw0 rfl
      refine wpOp_of rfl (by rfl) (op_val (v := .slice (some ⟨W.heap.size, 0, none⟩) 1 1) (w' := W.drew.alloc (.cells #[.int .u8 (p ^^^ q : Nat)] 5)) (exec_build1 rfl (x := .tmp 49) rfl) ?_)
      exact ⟨b0, true, true, true, true, true, true, true, true, true, true, false, false, v51, rfl, rfl, fun _ => rfl, nofun, fun _ => rfl, fun _ => rfl, fun _ => rfl, fun _ => rfl, fun _ => rfl, fun _ => rfl, fun _ => rfl, fun _ => rfl, fun _ => rfl, fun _ => rfl, fun _ => rfl, fun _ => rfl, fun _ => rfl, fun _ => rfl, fun _ => rfl, fun _ => rfl, fun _ => rfl, fun _ => rfl, fun _ => rfl, fun _ => rfl, fun _ => rfl, fun _ => rfl, fun _ => rfl, fun _ => rfl, fun _ => rfl, fun _ => rfl, fun _ => rfl, fun _ => rfl, nofun, fun _ => rfl, fun _ => rfl, fun _ => rfl, fun _ => rfl, fun _ => rfl, fun _ => rfl, fun _ => rfl, fun _ => rfl, fun _ => rfl, fun _ => rfl, nofun, fun _ => rfl, fun _ => rfl, fun _ => rfl, fun _ => rfl, fun _ => rfl, fun _ => rfl, fun _ => rfl, fun _ => rfl, fun _ => rfl, fun _ => rfl, nofun⟩
    | 11, _ =>
      obtain rfl : b11 = false := hfr
      obtain rfl : b0 = true := hdp 0 (by decide)
      obtain rfl : b10 = true := hdp 10 (by decide)
      obtain rfl : b1 = true := c10_1 rfl
      obtain rfl : b2 = true := c10_2 rfl
      obtain rfl : b3 = true := c10_3 rfl
      obtain rfl : b4 = true := c10_4 rfl
      obtain rfl : b5 = true := c10_5 rfl
      obtain rfl : b6 = true := c10_6 rfl
      obtain rfl : b7 = true := c10_7 rfl
      obtain rfl : b8 = true := c10_8 rfl
      obtain rfl : b9 = true := c10_9 rfl
      obtain rfl : b12 = false := by cases hb : b12 with | false => rfl | true => exact absurd (c12_11 hb) (by decide)
      obtain rfl : X = W.drew.alloc (.cells #[.int .u8 (p ^^^ q : Nat)] 5) := hw0 rfl
      obtain ⟨A2, c2, w2, hr, hown, hgrow, _⟩ := run_append_ints (P := Try.prog) (w := W.drew.alloc (.cells #[.int .u8 (p ^^^ q : Nat)] 5)) base 25 25 5 i5 (.int .u8 0) 1 Try.underlying25 hi5 hz0 hz1 hz2 rfl .u8 Ao i co _ hO' (W.heap.size + 1) (some ⟨W.heap.size, 0, none⟩) 1 1 [((p ^^^ q : Nat) : Int)] (sl_one W.drew (p ^^^ q)) (by simp only [maxLen]; omega) (by omega) (by rw [World.size_alloc]; show base ≤ W.heap.size + 1; omega)
      have hb := (Below.refl base W).drew.alloc hbase (.cells #[.int .u8 (p ^^^ q : Nat)] 5)
      have hb2 := hb.grown hgrow (Nat.le_trans hbase hb.size) (own_base hO')
      refine wpOp_of rfl (by rfl) (op_val (v := .slice A2 (i + 1) c2) (w' := w2) (exec_append rfl (x := .tmp 40) (y := .tmp 50) rfl rfl hr) ?_)
      exact ⟨true, true, true, true, true, true, true, true, true, true, true, true, false, .slice A2 (i + 1) c2, rfl, rfl, nofun, fun _ => ⟨A2, c2, rfl, by rw [List.map_append]; exact hown, hb2, Nat.le_trans hbase hb2.size⟩, fun _ => rfl, fun _ => rfl, fun _ => rfl, fun _ => rfl, fun _ => rfl, fun _ => rfl, fun _ => rfl, fun _ => rfl, fun _ => rfl, fun _ => rfl, fun _ => rfl, fun _ => rfl, fun _ => rfl, fun _ => rfl, fun _ => rfl, fun _ => rfl, fun _ => rfl, fun _ => rfl, fun _ => rfl, fun _ => rfl, fun _ => rfl, fun _ => rfl, fun _ => rfl, fun _ => rfl, fun _ => rfl, fun _ => rfl, fun _ => rfl, fun _ => rfl, fun _ => rfl, fun _ => rfl, fun _ => rfl, fun _ => rfl, fun _ => rfl, fun _ => rfl, fun _ => rfl, fun _ => rfl, fun _ => rfl, fun _ => rfl, fun _ => rfl, fun _ => rfl, fun _ => rfl, fun _ => rfl, fun _ => rfl, fun _ => rfl, fun _ => rfl, fun _ => rfl, fun _ => rfl, fun _ => rfl, fun _ => rfl, fun _ => rfl, fun _ => rfl⟩
    | 12, _ =>
      obtain rfl : b12 = false := hfr
      obtain rfl : b11 = true := hdp 11 (by decide)
      obtain rfl : b0 = true := c11_0 rfl
      obtain rfl : b1 = true := c11_1 rfl
      obtain rfl : b2 = true := c11_2 rfl
      obtain rfl : b3 = true := c11_3 rfl
      obtain rfl : b4 = true := c11_4 rfl
      obtain rfl : b5 = true := c11_5 rfl
      obtain rfl : b6 = true := c11_6 rfl
      obtain rfl : b7 = true := c11_7 rfl
      obtain rfl : b8 = true := c11_8 rfl
      obtain rfl : b9 = true := c11_9 rfl
      obtain rfl : b10 = true := c11_10 rfl
      refine wpOp_of rfl (by rfl) (op_val (v := v51) (by rfl) ?_)
      exact ⟨true, true, true, true, true, true, true, true, true, true, true, true, true, v51, rfl, rfl, hw0, hw1, fun _ => rfl, fun _ => rfl, fun _ => rfl, fun _ => rfl, fun _ => rfl, fun _ => rfl, fun _ => rfl, fun _ => rfl, fun _ => rfl, fun _ => rfl, fun _ => rfl, fun _ => rfl, fun _ => rfl, fun _ => rfl, fun _ => rfl, fun _ => rfl, fun _ => rfl, fun _ => rfl, fun _ => rfl, fun _ => rfl, fun _ => rfl, fun _ => rfl, fun _ => rfl, fun _ => rfl, fun _ => rfl, fun _ => rfl, fun _ => rfl, fun _ => rfl, fun _ => rfl, fun _ => rfl, fun _ => rfl, fun _ => rfl, fun _ => rfl, fun _ => rfl, fun _ => rfl, fun _ => rfl, fun _ => rfl, fun _ => rfl, fun _ => rfl, fun _ => rfl, fun _ => rfl, fun _ => rfl, fun _ => rfl, fun _ => rfl, fun _ => rfl, fun _ => rfl, fun _ => rfl, fun _ => rfl, fun _ => rfl, fun _ => rfl, fun _ => rfl⟩
    | jx + 13, h => omega
  · intro L A X _ hall hI
    obtain ⟨b0, b1, b2, b3, b4, b5, b6, b7, b8, b9, b10, b11, b12, v51, rfl, rfl, hw0, hw1, -, -, -, -, -, -, -, -, -, -, -, -, -, -, -, -, -, -, -, -, -, -, -, -, -, -, -, -, -, -, -, -, -, -, -, -, -, -, -, -, -, -, -, -, -, -, -, -, -, -, -⟩ := hI
    simp at hall
    obtain ⟨rfl, rfl, rfl, rfl, rfl, rfl, rfl, rfl, rfl, rfl, rfl, rfl, rfl⟩ := hall
    obtain ⟨A2, c2, rfl, h1, h2, h3⟩ := hw1 rfl
    exact hQ A2 c2 X h1 h2 h3
end Go.Proofs.Ytgdphdnghackfaa
