/- The walk of the law CtrStreams (layer 5). -/
import Derived.Test.YtgdphdnghackfaaL5
import Derived.Test.YtgdphdnghackfaaR18
namespace Go.Proofs.Ytgdphdnghackfaa
open Go.RowKit Go.Shelf
structure SmMem (w : World) (g n f : Nat) (key : List Nat) (nonce : Nat) (W : World) : Prop where
  k : Arr W w.heap.size 22 key
  a : TxIn W (some ⟨g, 0, none⟩) n n (turnL key nonce f (List.replicate n 0))
  bel : Below w.heap.size w W
theorem SmMem.keep {w : World} {g n f : Nat} {key : List Nat} {nonce : Nat} {W W' : World} (h : SmMem w g n f key nonce W) (k : Below W.heap.size W W') : SmMem w g n f key nonce W' :=
  ⟨h.k.keep k h.k.lt, h.a.keep k (Nat.le_refl _), h.bel.trans (k.mono h.bel.size)⟩
def ts8Deps : List (List Nat) := [[], [0], [], [], [], [], [5], [2, 3, 4, 6], [7], [1, 8], [9]]
set_option maxRecDepth 100000 in
set_option maxHeartbeats 1000000 in
theorem ts8 {Q : Exit → Act → World → Prop} {w : World} {n f g nonce : Nat} {key : List Nat} {s1 : ByteArray} {W : World} (hM0 : SmMem w g n f key nonce W.drew) (hs1 : strN (turnL key nonce f (List.replicate n 0)) = s1) (hk : key.length = 16) (bk : Bytes key) (hn : n ≤ 2000) (hf : f ≤ 1048576) (hN : nonce < 18446744073709551616) (v5 v6 v7 v10 v11 v12 v13 v14 v15 v16 v17 v18 v19 v20 v21 v22 v23 v24 v25 v26 v27 v28 v29 v30 v31 v32 v33 v34 v35 v36 v37 v38 v39 v40 v41 v42 v43 v44 v45 v46 v47 v48 v49 v50 v51 v52 v53 v54 v55 v56 v57 v60 v61 v58 v59 : Value)
    (hQ : ∀ v58 v59 X, SmMem w g n f key nonce X → Q .normal ⟨#[.agg (u8s key), .int .u64 nonce, .int .i64 f, .int .i64 n, .pointer (some ⟨w.heap.size, 0, none⟩), v5, v6, v7, .bool true, .slice (some ⟨g, 0, none⟩) n n, v10, v11, v12, v13, v14, v15, v16, v17, v18, v19, v20, v21, v22, v23, v24, v25, v26, v27, v28, v29, v30, v31, v32, v33, v34, v35, v36, v37, v38, v39, v40, v41, v42, v43, v44, v45, v46, v47, v48, v49, v50, v51, .slice (some ⟨g, 0, none⟩) n n, .string s1, .agg (u8s key), .int .u64 nonce, .int .i64 f, .int .i64 n, v58, v59, .string s1, .bool true], []⟩ X)
    : (Code.region 8 #[{ dst := Option.some 52, op := Go.Op.move (Go.Operand.tmp 9), type := 25, pos := "law.go:30", after := #[], guard := Option.none }, { dst := Option.some 53, op := Go.Op.convert 25 9 (Go.Operand.tmp 52), type := 9, pos := "law.go:30", after := #[{ on := 0, ground := Go.Ground.data }], guard := Option.none }, { dst := Option.some 54, op := Go.Op.load 22 (Go.Operand.tmp 4), type := 22, pos := "law.go:30", after := #[], guard := Option.none }, { dst := Option.some 55, op := Go.Op.move (Go.Operand.tmp 1), type := 23, pos := "law.go:30", after := #[], guard := Option.none }, { dst := Option.some 56, op := Go.Op.move (Go.Operand.tmp 2), type := 3, pos := "law.go:30", after := #[], guard := Option.none }, { dst := Option.some 57, op := Go.Op.move (Go.Operand.tmp 3), type := 3, pos := "law.go:30", after := #[], guard := Option.none }, { dst := Option.some 58, op := Go.Op.makeSlice 25 (Go.Operand.tmp 57) (Go.Operand.tmp 57), type := 25, pos := "law.go:30", after := #[{ on := 5, ground := Go.Ground.data }, { on := 5, ground := Go.Ground.data }], guard := Option.none }, { dst := Option.some 59, op := Go.Op.call { callee := Go.Callee.value (Go.Operand.func 11), args := #[Go.Operand.tmp 54, Go.Operand.tmp 55, Go.Operand.tmp 56, Go.Operand.tmp 58], argTypes := #[22, 23, 3, 25] }, type := 25, pos := "law.go:30", after := #[{ on := 2, ground := Go.Ground.data }, { on := 3, ground := Go.Ground.data }, { on := 4, ground := Go.Ground.data }, { on := 6, ground := Go.Ground.data }], guard := Option.none }, { dst := Option.some 60, op := Go.Op.convert 25 9 (Go.Operand.tmp 59), type := 9, pos := "law.go:30", after := #[{ on := 7, ground := Go.Ground.data }], guard := Option.none }, { dst := Option.some 61, op := Go.Op.binOp Go.BinOp.eql 9 (Go.Operand.tmp 53) (Go.Operand.tmp 60) 9, type := 4, pos := "law.go:30", after := #[{ on := 1, ground := Go.Ground.data }, { on := 8, ground := Go.Ground.data }], guard := Option.none }, { dst := Option.some 8, op := Go.Op.assign (Go.Operand.tmp 61), type := 4, pos := "law.go:30", after := #[{ on := 9, ground := Go.Ground.data }, { on := 7, ground := Go.Ground.chain }, { on := 0, ground := Go.Ground.phase }, { on := 1, ground := Go.Ground.phase }, { on := 2, ground := Go.Ground.phase }, { on := 3, ground := Go.Ground.phase }, { on := 4, ground := Go.Ground.phase }, { on := 5, ground := Go.Ground.phase }, { on := 6, ground := Go.Ground.phase }, { on := 7, ground := Go.Ground.phase }, { on := 8, ground := Go.Ground.phase }, { on := 9, ground := Go.Ground.phase }], guard := Option.none }] true).wp Try.prog Q ⟨#[.agg (u8s key), .int .u64 nonce, .int .i64 f, .int .i64 n, .pointer (some ⟨w.heap.size, 0, none⟩), v5, v6, v7, .bool false, .slice (some ⟨g, 0, none⟩) n n, v10, v11, v12, v13, v14, v15, v16, v17, v18, v19, v20, v21, v22, v23, v24, v25, v26, v27, v28, v29, v30, v31, v32, v33, v34, v35, v36, v37, v38, v39, v40, v41, v42, v43, v44, v45, v46, v47, v48, v49, v50, v51, v52, v53, v54, v55, v56, v57, v58, v59, v60, v61], []⟩ W := by
  refine wp_region_tab (n := 11) (by kernel_rfl) rfl ts8Deps (by kernel_rfl) (by kernel_rfl)
    (fun L Ac X => ∃ (b0 b1 b2 b3 b4 b5 b6 b7 b8 b9 b10 : Bool) (v58 : Value) (v59 : Value), L = [b0, b1, b2, b3, b4, b5, b6, b7, b8, b9, b10] ∧ Ac = ⟨#[.agg (u8s key), .int .u64 nonce, .int .i64 f, .int .i64 n, .pointer (some ⟨w.heap.size, 0, none⟩), v5, v6, v7, (bif b10 then .bool true else .bool false), .slice (some ⟨g, 0, none⟩) n n, v10, v11, v12, v13, v14, v15, v16, v17, v18, v19, v20, v21, v22, v23, v24, v25, v26, v27, v28, v29, v30, v31, v32, v33, v34, v35, v36, v37, v38, v39, v40, v41, v42, v43, v44, v45, v46, v47, v48, v49, v50, v51, (bif b0 then .slice (some ⟨g, 0, none⟩) n n else v52), (bif b1 then .string s1 else v53), (bif b2 then .agg (u8s key) else v54), (bif b3 then .int .u64 nonce else v55), (bif b4 then .int .i64 f else v56), (bif b5 then .int .i64 n else v57), v58, v59, (bif b8 then .string s1 else v60), (bif b9 then .bool true else v61)], []⟩ ∧ (SmMem w g n f key nonce X) ∧ (b6 = true → ∃ g5, v58 = .slice (some ⟨g5, 0, none⟩) n n ∧ TxIn X (some ⟨g5, 0, none⟩) n n (List.replicate n 0)) ∧ (b7 = true → ∃ A2 c2, v59 = .slice A2 n c2 ∧ TxIn X A2 n c2 (turnL key nonce f (List.replicate n 0)))) ?_ ?_ ?_
  · exact ⟨false, false, false, false, false, false, false, false, false, false, false, v58, v59, rfl, rfl, hM0, nofun, nofun⟩
  · intro L Ac X jx _ hj hfr hdp hI
    obtain ⟨b0, b1, b2, b3, b4, b5, b6, b7, b8, b9, b10, v58, v59, rfl, rfl, hM, h6, h7⟩ := hI
    match jx, hj with
    | 0, _ =>
      obtain rfl : b0 = false := hfr
      refine wpOp_of rfl (by rfl) (op_val (v := .slice (some ⟨g, 0, none⟩) n n) (by rfl) ?_)
      exact ⟨true, b1, b2, b3, b4, b5, b6, b7, b8, b9, b10, v58, v59, rfl, rfl, hM, h6, h7⟩
    | 1, _ =>
      obtain rfl : b1 = false := hfr
      obtain rfl : b0 = true := hdp 0 (by decide)
      refine wpOp_of rfl (by rfl) (op_val (v := .string s1) (exec_conv rfl (x := .tmp 52) rfl (strT hs1 hM.a)) ?_)
      exact ⟨true, true, b2, b3, b4, b5, b6, b7, b8, b9, b10, v58, v59, rfl, rfl, hM, h6, h7⟩
    | 2, _ =>
      obtain rfl : b2 = false := hfr
      refine wpOp_of rfl (by rfl) (op_val (v := .agg (u8s key)) (exec_load rfl (x := .tmp 4) rfl (hM.k.loadAt Try.underlying22 (by rw [hk]; exact size22))) ?_)
      exact ⟨b0, b1, true, b3, b4, b5, b6, b7, b8, b9, b10, v58, v59, rfl, rfl, hM, h6, h7⟩
    | 3, _ =>
      obtain rfl : b3 = false := hfr
      refine wpOp_of rfl (by rfl) (op_val (v := .int .u64 nonce) (by rfl) ?_)
      exact ⟨b0, b1, b2, true, b4, b5, b6, b7, b8, b9, b10, v58, v59, rfl, rfl, hM, h6, h7⟩
    | 4, _ =>
      obtain rfl : b4 = false := hfr
      refine wpOp_of rfl (by rfl) (op_val (v := .int .i64 f) (by rfl) ?_)
      exact ⟨b0, b1, b2, b3, true, b5, b6, b7, b8, b9, b10, v58, v59, rfl, rfl, hM, h6, h7⟩
    | 5, _ =>
      obtain rfl : b5 = false := hfr
      refine wpOp_of rfl (by rfl) (op_val (v := .int .i64 n) (by rfl) ?_)
      exact ⟨b0, b1, b2, b3, b4, true, b6, b7, b8, b9, b10, v58, v59, rfl, rfl, hM, h6, h7⟩
    | 6, _ =>
      obtain rfl : b6 = false := hfr
      obtain rfl : b5 = true := hdp 5 (by decide)
      refine wpOp_of rfl (by rfl) (op_val (v := .slice (some ⟨X.heap.size, 0, none⟩) n n) (w' := X.alloc (.cells (u8s (List.replicate n 0)) 5)) (exec_make rfl (x := .tmp 57) (y := .tmp 57) rfl rfl (made5 n (by omega) X)) ?_)
      have hb : Below X.heap.size X (X.alloc (.cells (u8s (List.replicate n 0)) 5)) := (Below.refl _ _).alloc (Nat.le_refl _) _
      exact ⟨b0, b1, b2, b3, b4, true, true, b7, b8, b9, b10, .slice (some ⟨X.heap.size, 0, none⟩) n n, v59, rfl, rfl, hM.keep hb, fun _ => ⟨_, rfl, TxIn.of_arr (Box.new X 5 (u8s (List.replicate n 0))) List.length_replicate (bytes_zero n) (by simp only [maxLen]; omega)⟩, fun e => let ⟨A2, c2, h1, h2⟩ := h7 e; ⟨A2, c2, h1, h2.keep hb (Nat.le_refl _)⟩⟩
    | 7, _ =>
      obtain rfl : b7 = false := hfr
      obtain rfl : b2 = true := hdp 2 (by decide)
      obtain rfl : b3 = true := hdp 3 (by decide)
      obtain rfl : b4 = true := hdp 4 (by decide)
      obtain rfl : b6 = true := hdp 6 (by decide)
      obtain ⟨g5, rfl, hx⟩ := h6 rfl
      refine wpOp_of rfl (by rfl) (op_calls (args := #[.agg (u8s key), .int .u64 nonce, .int .i64 f, .slice (some ⟨g5, 0, none⟩) n n]) Try.call11 rfl (by simp only [List.map_toArray, List.map_cons, List.map_nil]; rfl) ?_)
      refine (TurnR_to X nonce f n n _ key (List.replicate n 0) hx hk bk (by omega) (by omega) hN f rfl).mono fun e X' ⟨A2, c2, he, hy, hb⟩ => ⟨_, he, ?_⟩
      exact ⟨b0, b1, true, true, true, b5, true, true, b8, b9, b10, .slice (some ⟨g5, 0, none⟩) n n, .slice A2 n c2, rfl, rfl, hM.keep hb, fun _ => ⟨g5, rfl, hx.keep hb (Nat.le_refl _)⟩, fun _ => ⟨A2, c2, rfl, hy⟩⟩
    | 8, _ =>
      obtain rfl : b8 = false := hfr
      obtain rfl : b7 = true := hdp 7 (by decide)
      obtain ⟨A2, c2, rfl, hx⟩ := h7 rfl
      refine wpOp_of rfl (by rfl) (op_val (v := .string s1) (exec_conv rfl (x := .tmp 59) rfl (strT hs1 hx)) ?_)
      exact ⟨b0, b1, b2, b3, b4, b5, b6, true, true, b9, b10, v58, .slice A2 n c2, rfl, rfl, hM, h6, fun _ => ⟨A2, c2, rfl, hx⟩⟩
    | 9, _ =>
      obtain rfl : b9 = false := hfr
      obtain rfl : b1 = true := hdp 1 (by decide)
      obtain rfl : b8 = true := hdp 8 (by decide)
      refine wpOp_of rfl (by rfl) (op_val (v := .bool true) (exec_eqS rfl (x := .tmp 53) (y := .tmp 60) rfl rfl) ?_)
      exact ⟨b0, true, b2, b3, b4, b5, b6, b7, true, true, b10, v58, v59, rfl, rfl, hM, h6, h7⟩
    | 10, _ =>
      obtain rfl : b10 = false := hfr
      obtain rfl : b9 = true := hdp 9 (by decide)
      refine wpOp_of rfl (by rfl) (op_val (v := .bool true) (by rfl) ?_)
      exact ⟨b0, b1, b2, b3, b4, b5, b6, b7, b8, true, true, v58, v59, rfl, rfl, hM, h6, h7⟩
    | jx + 11, h => omega
  · intro L Ac X _ hall hI
    obtain ⟨b0, b1, b2, b3, b4, b5, b6, b7, b8, b9, b10, v58, v59, rfl, rfl, hM, h6, h7⟩ := hI
    simp at hall
    obtain ⟨rfl, rfl, rfl, rfl, rfl, rfl, rfl, rfl, rfl, rfl, rfl⟩ := hall
    exact hQ _ _ X hM
set_option maxRecDepth 100000 in
set_option maxHeartbeats 2000000 in
theorem streams_in (key : List Nat) (hk : key.length = 16) (bk : Bytes key) (nonce f n : Nat) (hN : nonce < 18446744073709551616) (hn : n ≤ 2000) (hf : f ≤ 1048576 ∧ n ≤ 1048576 - f) (w : World) :
    Calls Try.prog 3 #[.agg (u8s key), .int .u64 nonce, .int .i64 f, .int .i64 n] w fun e w' => e = .returned (.bool true) ∧ Below w.heap.size w w' := by
  have g1 : (n : Int) ≤ 2000 := by omega
  have g3 : (f : Int) ≤ 1048576 := by omega
  have x2 := IntWalk.i64_in (1048576 - (f : Int)) (by omega)
  have g4 : (n : Int) ≤ 1048576 - (f : Int) := by omega
  go_enter Try.func3, Try.ntmps3
  go_wp2_with fail
  refine (known_to _).mono ?_
  rintro _ w1 ⟨rfl, H1⟩
  have K1 : Arr w1 w.heap.size 22 key := Arr.keep (show Arr (w.alloc (.cells (u8s key) 22)) w.heap.size 22 key from Box.new w 22 (u8s key)) H1 (by simp)
  have L1 := ((Below.refl w.heap.size w).alloc (Nat.le_refl _) (.cells (u8s key) 22)).trans (H1.mono (by simp))
  have u1 := K1.loadAt (P := Try.prog) Try.underlying22 (by rw [hk]; exact size22)
  replace u1 := Kp.mk u1
  clear H1
  go_wp2_with ((with_reducible refine wpl_id ?_); (refine wpList_load rfl (t := 22) (x := .tmp 4) rfl rfl u1.out ?_))
  refine (Stream_to w1 nonce f n key hk bk hN hf).mono ?_
  rintro _ w4 ⟨g, hg, rfl, O4, H4⟩
  obtain ⟨s1, hs1⟩ : ∃ s, strN (turnL key nonce f (List.replicate n 0)) = s := ⟨_, rfl⟩
  have M4 : SmMem w g n f key nonce w4 := ⟨K1.keep H4 K1.lt, TxIn.of_arr O4 (by simp [turnL_len]) (turnL_bytes hk bk _ _ (bytes_zero n)) (by simp only [maxLen]; omega), L1.trans (H4.mono L1.size)⟩
  clear u1 K1 O4 H4 L1
  replace M4 := Kp.mk M4
  go_wp2_with fail
  refine ts8 (M4.out.keep (Below.refl _ _).drew) hs1 hk bk hn hf.1 hN _ _ _ _ _ _ _ _ _ _ _ _ _ _ _ _ _ _ _ _ _ _ _ _ _ _ _ _ _ _ _ _ _ _ _ _ _ _ _ _ _ _ _ _ _ _ _ _ _ _ _ _ _ _ _ ?_
  intro v58 v59 X M
  have bel := M.bel
  clear M M4 hs1
  go_wp2_with fail
  all_goals exact bodyPost_ret (v := .bool true) (by simp [results, Try.f3, go_sem]) rfl ⟨rfl, bel⟩
set_option maxRecDepth 100000 in
set_option maxHeartbeats 2000000 in
theorem streams_guard (key : List Nat) (nonce : Nat) (f n : Int) (h : 2000 < n ∧ n ≤ 1048576 ∧ 0 ≤ f ∧ f ≤ 1048576 - n) (w : World) :
    Calls Try.prog 3 #[.agg (u8s key), .int .u64 nonce, .int .i64 f, .int .i64 n] w fun e w' => e = .returned (.bool true) ∧ Below w.heap.size w w' := by
  obtain ⟨h1, h2, h3, h4⟩ := h
  have x2 := IntWalk.i64_in (1048576 - n) (by omega)
  go_enter Try.func3, Try.ntmps3
  go_wp2_with fail
  refine (known_to _).mono ?_
  rintro _ w1 ⟨rfl, H1⟩
  have L1 := ((Below.refl w.heap.size w).alloc (Nat.le_refl _) (.cells (u8s key) 22)).trans (H1.mono (by simp))
  clear H1
  go_wp2_with fail
  all_goals exact bodyPost_ret (v := .bool true) (by simp [results, Try.f3, go_sem]) rfl ⟨rfl, L1⟩
set_option maxRecDepth 100000 in
set_option maxHeartbeats 2000000 in
theorem streams_no (key : List Nat) (hk : key.length = 16) (nonce : Nat) (f n : Int) (wf : -9223372036854775808 ≤ f ∧ f ≤ 9223372036854775807) (wn : -9223372036854775808 ≤ n ∧ n ≤ 9223372036854775807) (h : ¬ (0 ≤ f ∧ 0 ≤ n ∧ f ≤ 1048576 ∧ n ≤ 1048576 - f)) (w : World) :
    Calls Try.prog 3 #[.agg (u8s key), .int .u64 nonce, .int .i64 f, .int .i64 n] w fun e w' => e = .returned (.bool true) ∧ Below w.heap.size w w' := by
  have x2 : n ≤ 1048576 → 2000 < n → IntKind.i64.wrap (1048576 - n) = 1048576 - n := fun a b => IntWalk.i64_in _ (by omega)
  have x3 : 0 ≤ f → f ≤ 1048576 → IntKind.i64.wrap (1048576 - f) = 1048576 - f := fun a b => IntWalk.i64_in _ (by omega)
  go_enter Try.func3, Try.ntmps3
  go_wp2_with fail
  refine (known_to _).mono ?_
  rintro _ w1 ⟨rfl, H1⟩
  have K1 : Arr w1 w.heap.size 22 key := Arr.keep (show Arr (w.alloc (.cells (u8s key) 22)) w.heap.size 22 key from Box.new w 22 (u8s key)) H1 (by simp)
  have L1 := ((Below.refl w.heap.size w).alloc (Nat.le_refl _) (.cells (u8s key) 22)).trans (H1.mono (by simp))
  have u1 := K1.loadAt (P := Try.prog) Try.underlying22 (by rw [hk]; exact size22)
  replace u1 := Kp.mk u1
  clear H1 K1
  go_wp2_with ((with_reducible refine wpl_id ?_); (refine wpList_load rfl (t := 22) (x := .tmp 4) rfl rfl u1.out ?_))
  all_goals
    refine (Stream_no w1 nonce f n key wf.1 wf.2 h).mono ?_
    rintro _ w2 ⟨rfl, H2⟩
    have L2 := L1.trans (H2.mono L1.size)
    clear H2 u1 L1
    go_wp2_with fail
    all_goals exact bodyPost_ret (v := .bool true) (by simp [results, Try.f3, go_sem]) rfl ⟨rfl, L2⟩
theorem streams_any (zk : List Int) (sk : zk.length = 16) (wk : ∀ z ∈ zk, (Lit.int .u8 z).wf = true) (zn : Int) (wn : (Lit.int .u64 zn).wf = true) (f n : Int) (wf : (Lit.int .i64 f).wf = true) (wn2 : (Lit.int .i64 n).wf = true) (w : World) :
    Calls Try.prog 3 #[.agg (zk.map (Value.int .u8)).toArray, .int .u64 zn, .int .i64 f, .int .i64 n] w fun e w' => e = .returned (.bool true) ∧ Below w.heap.size w w' := by
  obtain ⟨key, ek, lk, bk⟩ := bytes_of wk
  obtain ⟨nonce, rfl, hN⟩ := u64_nat wn
  have hf : -9223372036854775808 ≤ f ∧ f ≤ 9223372036854775807 := by
    simp [Lit.wf, IntKind.min, IntKind.max, IntKind.signed, IntKind.bits] at wf; omega
  have hn : -9223372036854775808 ≤ n ∧ n ≤ 9223372036854775807 := by
    simp [Lit.wf, IntKind.min, IntKind.max, IntKind.signed, IntKind.bits] at wn2; omega
  rw [ek]
  by_cases h : 0 ≤ f ∧ 0 ≤ n ∧ f ≤ 1048576 ∧ n ≤ 1048576 - f
  · by_cases h2 : 2000 < n
    · exact streams_guard key nonce f n (by omega) w
    · obtain ⟨f', rfl⟩ : ∃ m : Nat, f = m := ⟨f.toNat, by omega⟩
      obtain ⟨n', rfl⟩ : ∃ m : Nat, n = m := ⟨n.toNat, by omega⟩
      exact streams_in key (by omega) bk nonce f' n' hN (by omega) (by omega) w
  · exact streams_no key (by omega) nonce f n hf hn h w
end Go.Proofs.Ytgdphdnghackfaa
