/- The walks of the document's Block (orielref05.Block) and of Flow.Blocks (layer 5). -/
import Derived.Test.YtgdphdnghackfaaL7
import Derived.Test.YtgdphdnghackfaaR18
namespace Go.Proofs.Ytgdphdnghackfaa
open Go.RowKit Go.Shelf
structure BlMem (w : World) (gt : Nat) (key : List Nat) (W : World) : Prop where
  k : Arr W w.heap.size 22 key
  z : Arr W (w.heap.size + 1) 22 (List.replicate 16 0)
  t : Arr W gt 52 swapT
  bel : Below w.heap.size w W
theorem BlMem.keep {w : World} {gt : Nat} {key : List Nat} {W W' : World} (h : BlMem w gt key W) (k : Below W.heap.size W W') : BlMem w gt key W' :=
  ⟨h.k.keep k h.k.lt, h.z.keep k h.z.lt, h.t.keep k h.t.lt, h.bel.trans (k.mono h.bel.size)⟩
def bl2Deps : List (List Nat) := [[], [], [0, 1], [], [], [], [2, 3, 4, 5], [0, 1, 2, 3, 4, 5, 6]]
set_option maxRecDepth 100000 in
set_option maxHeartbeats 1000000 in
theorem bl2 {Q : Exit → Act → World → Prop} {w : World} {gt nonce i : Nat} {key r c : List Nat} {W : World} (hM0 : BlMem w gt key W.drew) (hc : blkL key nonce i = c) (hr : rdL key swapT = r) (hcl : c.length = 16) (hk : key.length = 16) (bk : Bytes key) (hi : i < 1073741824) (hN : nonce < 18446744073709551616) (v4 v5 v8 v9 v10 v11 v12 v13 v14 v15 : Value)
    (hQ : ∀ X, Arr X (w.heap.size + 1) 22 c → Below w.heap.size w X → Q .normal ⟨#[.agg (u8s key), .int .u64 nonce, .int .i64 i, .pointer (some ⟨w.heap.size, 0, none⟩), v4, v5, .pointer (some ⟨w.heap.size + 1, 0, none⟩), .pointer (some ⟨gt, 0, none⟩), v8, .agg (u8s key), .agg (u8s swapT), .agg (u8s r), .agg (u8s swapT), .int .u64 nonce, .int .i64 i, .agg (u8s c)], []⟩ X)
    : (Code.region 2 #[{ dst := Option.some 9, op := Go.Op.load 22 (Go.Operand.tmp 3), type := 22, pos := "ref.go:9", after := #[], guard := Option.none }, { dst := Option.some 10, op := Go.Op.load 52 (Go.Operand.tmp 7), type := 52, pos := "ref.go:9", after := #[], guard := Option.none }, { dst := Option.some 11, op := Go.Op.call { callee := Go.Callee.value (Go.Operand.func 22), args := #[Go.Operand.tmp 9, Go.Operand.tmp 10], argTypes := #[22, 52] }, type := 54, pos := "ref.go:9", after := #[{ on := 0, ground := Go.Ground.data }, { on := 1, ground := Go.Ground.data }], guard := Option.none }, { dst := Option.some 12, op := Go.Op.load 52 (Go.Operand.tmp 7), type := 52, pos := "ref.go:9", after := #[], guard := Option.none }, { dst := Option.some 13, op := Go.Op.move (Go.Operand.tmp 1), type := 23, pos := "ref.go:9", after := #[], guard := Option.none }, { dst := Option.some 14, op := Go.Op.move (Go.Operand.tmp 2), type := 3, pos := "ref.go:9", after := #[], guard := Option.none }, { dst := Option.some 15, op := Go.Op.call { callee := Go.Callee.value (Go.Operand.func 23), args := #[Go.Operand.tmp 11, Go.Operand.tmp 12, Go.Operand.tmp 13, Go.Operand.tmp 14], argTypes := #[54, 52, 23, 3] }, type := 22, pos := "ref.go:9", after := #[{ on := 2, ground := Go.Ground.data }, { on := 3, ground := Go.Ground.data }, { on := 4, ground := Go.Ground.data }, { on := 5, ground := Go.Ground.data }, { on := 2, ground := Go.Ground.chain }], guard := Option.none }, { dst := Option.none, op := Go.Op.store 22 (Go.Operand.tmp 6) (Go.Operand.tmp 15), type := 0, pos := "ref.go:9", after := #[{ on := 6, ground := Go.Ground.data }, { on := 6, ground := Go.Ground.chain }, { on := 0, ground := Go.Ground.phase }, { on := 1, ground := Go.Ground.phase }, { on := 2, ground := Go.Ground.phase }, { on := 3, ground := Go.Ground.phase }, { on := 4, ground := Go.Ground.phase }, { on := 5, ground := Go.Ground.phase }, { on := 6, ground := Go.Ground.phase }], guard := Option.none }] true).wp Try.prog Q ⟨#[.agg (u8s key), .int .u64 nonce, .int .i64 i, .pointer (some ⟨w.heap.size, 0, none⟩), v4, v5, .pointer (some ⟨w.heap.size + 1, 0, none⟩), .pointer (some ⟨gt, 0, none⟩), v8, v9, v10, v11, v12, v13, v14, v15], []⟩ W := by
  refine wp_region_tab (n := 8) (by kernel_rfl) rfl bl2Deps (by kernel_rfl) (by kernel_rfl)
    (fun L Ac X => ∃ (b0 b1 b2 b3 b4 b5 b6 b7 : Bool), L = [b0, b1, b2, b3, b4, b5, b6, b7] ∧ Ac = ⟨#[.agg (u8s key), .int .u64 nonce, .int .i64 i, .pointer (some ⟨w.heap.size, 0, none⟩), v4, v5, .pointer (some ⟨w.heap.size + 1, 0, none⟩), .pointer (some ⟨gt, 0, none⟩), v8, (bif b0 then .agg (u8s key) else v9), (bif b1 then .agg (u8s swapT) else v10), (bif b2 then .agg (u8s r) else v11), (bif b3 then .agg (u8s swapT) else v12), (bif b4 then .int .u64 nonce else v13), (bif b5 then .int .i64 i else v14), (bif b6 then .agg (u8s c) else v15)], []⟩ ∧ (b7 = false → BlMem w gt key X) ∧ (b7 = true → Arr X (w.heap.size + 1) 22 c ∧ Below w.heap.size w X) ∧ (b7 = true → b0 = true) ∧ (b7 = true → b1 = true) ∧ (b7 = true → b2 = true) ∧ (b7 = true → b3 = true) ∧ (b7 = true → b4 = true) ∧ (b7 = true → b5 = true) ∧ (b7 = true → b6 = true)) ?_ ?_ ?_
  · exact ⟨false, false, false, false, false, false, false, false, rfl, rfl, fun _ => hM0, nofun, nofun, nofun, nofun, nofun, nofun, nofun, nofun⟩
  · intro L Ac X jx _ hj hfr hdp hI
    obtain ⟨b0, b1, b2, b3, b4, b5, b6, b7, rfl, rfl, hM, hE, c7_0, c7_1, c7_2, c7_3, c7_4, c7_5, c7_6⟩ := hI
    match jx, hj with
    | 0, _ =>
      obtain rfl : b0 = false := hfr
      obtain rfl : b7 = false := by cases hb : b7 with | false => rfl | true => exact absurd (c7_0 hb) (by decide)
      refine wpOp_of rfl (by rfl) (op_val (v := .agg (u8s key)) (exec_load rfl (x := .tmp 3) rfl ((hM rfl).k.loadAt Try.underlying22 (by rw [hk]; exact size22))) ?_)
      exact ⟨true, b1, b2, b3, b4, b5, b6, false, rfl, rfl, hM, hE, fun _ => rfl, nofun, nofun, nofun, nofun, nofun, nofun⟩
    | 1, _ =>
      obtain rfl : b1 = false := hfr
      obtain rfl : b7 = false := by cases hb : b7 with | false => rfl | true => exact absurd (c7_1 hb) (by decide)
      refine wpOp_of rfl (by rfl) (op_val (v := .agg (u8s swapT)) (exec_load rfl (x := .tmp 7) rfl ((hM rfl).t.loadAt Try.underlying52 (by rw [swapT_len]; exact size52))) ?_)
      exact ⟨b0, true, b2, b3, b4, b5, b6, false, rfl, rfl, hM, hE, nofun, fun _ => rfl, nofun, nofun, nofun, nofun, nofun⟩
    | 2, _ =>
      obtain rfl : b2 = false := hfr
      obtain rfl : b0 = true := hdp 0 (by decide)
      obtain rfl : b1 = true := hdp 1 (by decide)
      obtain rfl : b7 = false := by cases hb : b7 with | false => rfl | true => exact absurd (c7_2 hb) (by decide)
      refine wpOp_of rfl (by rfl) (op_calls (args := #[.agg (u8s key), .agg (u8s swapT)]) Try.call22 rfl (by simp only [List.map_toArray, List.map_cons, List.map_nil]; rfl) ?_)
      refine (RoundsR_to X key swapT r hr hk swapT_len bk swapT_bytes).mono fun e X' ⟨he, hb⟩ => ⟨_, he, ?_⟩
      exact ⟨true, true, true, b3, b4, b5, b6, false, rfl, rfl, fun _ => (hM rfl).keep hb, nofun, fun _ => rfl, fun _ => rfl, fun _ => rfl, nofun, nofun, nofun, nofun⟩
    | 3, _ =>
      obtain rfl : b3 = false := hfr
      obtain rfl : b7 = false := by cases hb : b7 with | false => rfl | true => exact absurd (c7_3 hb) (by decide)
      refine wpOp_of rfl (by rfl) (op_val (v := .agg (u8s swapT)) (exec_load rfl (x := .tmp 7) rfl ((hM rfl).t.loadAt Try.underlying52 (by rw [swapT_len]; exact size52))) ?_)
      exact ⟨b0, b1, b2, true, b4, b5, b6, false, rfl, rfl, hM, hE, nofun, nofun, nofun, fun _ => rfl, nofun, nofun, nofun⟩
    | 4, _ =>
      obtain rfl : b4 = false := hfr
      obtain rfl : b7 = false := by cases hb : b7 with | false => rfl | true => exact absurd (c7_4 hb) (by decide)
      refine wpOp_of rfl (by rfl) (op_val (v := .int .u64 nonce) (by rfl) ?_)
      exact ⟨b0, b1, b2, b3, true, b5, b6, false, rfl, rfl, hM, hE, nofun, nofun, nofun, nofun, fun _ => rfl, nofun, nofun⟩
    | 5, _ =>
      obtain rfl : b5 = false := hfr
      obtain rfl : b7 = false := by cases hb : b7 with | false => rfl | true => exact absurd (c7_5 hb) (by decide)
      refine wpOp_of rfl (by rfl) (op_val (v := .int .i64 i) (by rfl) ?_)
      exact ⟨b0, b1, b2, b3, b4, true, b6, false, rfl, rfl, hM, hE, nofun, nofun, nofun, nofun, nofun, fun _ => rfl, nofun⟩
    | 6, _ =>
      obtain rfl : b6 = false := hfr
      obtain rfl : b2 = true := hdp 2 (by decide)
      obtain rfl : b3 = true := hdp 3 (by decide)
      obtain rfl : b4 = true := hdp 4 (by decide)
      obtain rfl : b5 = true := hdp 5 (by decide)
      obtain rfl : b7 = false := by cases hb : b7 with | false => rfl | true => exact absurd (c7_6 hb) (by decide)
      refine wpOp_of rfl (by rfl) (op_calls (args := #[.agg (u8s r), .agg (u8s swapT), .int .u64 nonce, .int .i64 i]) Try.call23 rfl (by simp only [List.map_toArray, List.map_cons, List.map_nil]; rfl) ?_)
      refine (blockR_to X nonce i key r c hc hr hk bk hN hi).mono fun e X' ⟨he, hb⟩ => ⟨_, he, ?_⟩
      exact ⟨b0, b1, true, true, true, true, true, false, rfl, rfl, fun _ => (hM rfl).keep hb, nofun, nofun, nofun, fun _ => rfl, fun _ => rfl, fun _ => rfl, fun _ => rfl, fun _ => rfl⟩
    | 7, _ =>
      obtain rfl : b7 = false := hfr
      obtain rfl : b0 = true := hdp 0 (by decide)
      obtain rfl : b1 = true := hdp 1 (by decide)
      obtain rfl : b2 = true := hdp 2 (by decide)
      obtain rfl : b3 = true := hdp 3 (by decide)
      obtain rfl : b4 = true := hdp 4 (by decide)
      obtain rfl : b5 = true := hdp 5 (by decide)
      obtain rfl : b6 = true := hdp 6 (by decide)
      have M := hM rfl
      refine wpOp_of rfl (by rfl) (op_none (w' := X.setRow (w.heap.size + 1) (u8s c)) (store_run _ 22 (.tmp 6) (.tmp 15) _ rfl (M.z.storeAt (P := Try.prog) (ty := 22) (l' := c) (by rw [hcl]; exact size22) (by rw [hcl]; rfl))) ?_)
      exact ⟨true, true, true, true, true, true, true, true, rfl, rfl, nofun, fun _ => ⟨M.z.setRow, below_setRow M.bel (by omega) _⟩, fun _ => rfl, fun _ => rfl, fun _ => rfl, fun _ => rfl, fun _ => rfl, fun _ => rfl, fun _ => rfl⟩
    | jx + 8, h => omega
  · intro L Ac X _ hall hI
    obtain ⟨b0, b1, b2, b3, b4, b5, b6, b7, rfl, rfl, hM, hE, -, -, -, -, -, -, -⟩ := hI
    simp at hall
    obtain ⟨rfl, rfl, rfl, rfl, rfl, rfl, rfl, rfl⟩ := hall
    exact hQ X (hE rfl).1 (hE rfl).2
set_option maxRecDepth 100000 in
set_option maxHeartbeats 1000000 in
theorem BlockR_to (w : World) (nonce i : Nat) (key c : List Nat) (hc : blkL key nonce i = c) (hk : key.length = 16) (bk : Bytes key) (hN : nonce < 18446744073709551616) (hi : i < 1073741824) :
    Calls Try.prog 26 #[.agg (u8s key), .int .u64 nonce, .int .i64 i] w fun e w' => e = .returned (.agg (u8s c)) ∧ Below w.heap.size w w' := by
  obtain ⟨r, hr⟩ : ∃ x, rdL key swapT = x := ⟨_, rfl⟩
  have hcl : c.length = 16 := by rw [← hc]; exact (blkL_ok hk bk nonce i).1
  obtain ⟨hz52, hs52⟩ := zero_of_info info52
  clear hs52
  go_enter Try.func26, Try.ntmps26
  go_wp2_with fail
  refine (Table_to _).mono ?_
  rintro _ w1 ⟨rfl, H1⟩
  have K0 : Arr ((w.alloc (.cells (u8s key) 22)).alloc (.cells (u8s (List.replicate 16 0)) 22)) w.heap.size 22 key := box_old (Box.new w 22 (u8s key)) _ _
  have Z0 : Arr ((w.alloc (.cells (u8s key) 22)).alloc (.cells (u8s (List.replicate 16 0)) 22)) (w.heap.size + 1) 22 (List.replicate 16 0) := box_new 22 (u8s (List.replicate 16 0)) (by simp)
  have L0 : Below w.heap.size w ((w.alloc (.cells (u8s key) 22)).alloc (.cells (u8s (List.replicate 16 0)) 22)) := ((Below.refl _ _).alloc (Nat.le_refl _) _).alloc (by simp) _
  have K1 := Arr.keep K0 H1 (Arr.lt K0)
  have Z1 := Arr.keep Z0 H1 (Arr.lt Z0)
  have L1 := L0.trans (H1.mono L0.size)
  have u1 : (Instr.storeAt 52 (.pointer (some ⟨w1.heap.size, 0, none⟩)) (.agg (u8s swapT))).run Try.prog (w1.alloc (.cells Z52 52)) = .ok () (w1.alloc (.cells (u8s swapT) 52)) := by
    have B5 := Box.new w1 52 Z52
    have := Arr.storeAt (l := List.replicate 256 0) B5 (P := Try.prog) (ty := 52) (l' := swapT) (by rw [swapT_len]; exact size52) (by rw [swapT_len]; simp)
    rw [World.setRow_alloc_new] at this; exact this
  have M : BlMem w w1.heap.size key (w1.alloc (.cells (u8s swapT) 52)) := ⟨K1.alloc _, Z1.alloc _, Box.new w1 52 (u8s swapT), L1.alloc L1.size _⟩
  replace u1 := Kp.mk u1
  clear K0 Z0 L0 K1 Z1 L1 H1
  go_wp2_with ((with_reducible refine wpl_id ?_); (refine wpList_store rfl (t := 52) (x := .tmp 7) (y := .tmp 8) rfl rfl rfl u1.out ?_))
  refine bl2 (M.keep (Below.refl _ _).drew) hc hr hcl hk bk hi hN _ _ _ _ _ _ _ _ _ _ ?_
  intro X hX hb
  clear M u1 hz52
  have u4 := hX.load (P := Try.prog) Try.underlying22 (by rw [hcl]; exact size22)
  replace u4 := Kp.mk u4
  go_wp2_with fail
  exact bodyPost_ret (v := .agg (u8s c)) (results_cell1 rfl _ _ _ rfl u4.out) rfl ⟨rfl, hb⟩
theorem FlowBlocks_to (w : World) (gF gn gk at' : Nat) (hF : Box w gF 40 #[blkF gn gk, .int .i64 (at' : Nat)]) (ha : at' ≤ 1048576) :
    Calls Try.prog 15 #[.pointer (some ⟨gF, 0, none⟩)] w fun e w' => e = .returned (.func (.func 32) #[] #[.pointer (some ⟨w.heap.size + 1 + 1, 0, none⟩), .pointer (some ⟨w.heap.size + 1, 0, none⟩), .pointer (some ⟨w.heap.size, 0, none⟩)]) ∧
      w' = ((w.alloc (.cells #[blkF gn gk] 38)).alloc (.cells #[.int .i64 (at' / 16 : Nat)] 3)).alloc (.cells #[.int .i64 (65536 - at' / 16 : Nat)] 3) := by
  have kf := eqNil
  have c0 := hF.cell 0
  have c0' : w.cell? ⟨gF, 0, none⟩ = some (.func (.func 27) #[] #[.pointer (some ⟨gn, 0, none⟩), .pointer (some ⟨gk, 0, none⟩)]) := c0
  have c1 := hF.cell 1
  have c1' : w.cell? ⟨gF, 1, none⟩ = some (.int .i64 (at' : Nat)) := c1
  have x1 := IntWalk.i64_in (65536 - (at' : Int) / 16) (by omega)
  clear c0 c1 hF
  go_enter Try.func15, Try.ntmps15
  go_wp2_with fail
  have WT := walk_to w gn gk ((at' / 16 : Nat) : Int) ((65536 - at' / 16 : Nat) : Int)
  rw [show ((at' / 16 : Nat) : Int) = (at' : Int) / 16 by omega, show ((65536 - at' / 16 : Nat) : Int) = 65536 - (at' : Int) / 16 by omega] at WT
  refine WT.mono ?_
  rintro _ w' ⟨rfl, rfl⟩
  go_wp2_with fail
  go_ret
  refine ⟨rfl, ?_⟩
  rw [show ((at' / 16 : Nat) : Int) = (at' : Int) / 16 by omega, show ((65536 - at' / 16 : Nat) : Int) = 65536 - (at' : Int) / 16 by omega]
  rfl
end Go.Proofs.Ytgdphdnghackfaa
