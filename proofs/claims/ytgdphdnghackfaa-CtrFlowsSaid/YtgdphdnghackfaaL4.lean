/- The walk of the law CtrTurns (layer 5). -/
import Derived.Test.YtgdphdnghackfaaL5
import Derived.Test.YtgdphdnghackfaaR18
namespace Go.Proofs.Ytgdphdnghackfaa
open Go.RowKit Go.Shelf
theorem TxIn.of_own {w : World} {base n cap : Nat} {e : TypeId} {A : Option Addr} {tx : List Nat} (h : Own w base e .u8 A n cap (tx.map fun (x : Nat) => (x : Int))) (b : Bytes tx) : TxIn w A n cap tx := by
  have hl := h.len
  have hcap : n ≤ cap ∧ cap ≤ maxLen := by
    rcases h.2 with ⟨hv, h0⟩ | ⟨g, c2, cur, hv, _, _, h1, h2, _⟩
    · simp only [Value.slice.injEq] at hv; exact ⟨by omega, by rw [hv.2.2]; simp [maxLen]⟩
    · simp only [Value.slice.injEq] at hv; exact ⟨by omega, by omega⟩
  exact ⟨by simpa using hl, b, h.sl, hcap.1, hcap.2, tx_wf b⟩
/-- Memory of the law: the key, the text, its own copy, the text turned. -/
structure TsMem (w : World) (A : Option Addr) (n cap : Nat) (B : Option Addr) (bcap g : Nat) (key tx : List Nat) (nonce : Nat) (W : World) : Prop where
  k : Arr W w.heap.size 22 key
  x : TxIn W A n cap tx
  o : TxIn W B n bcap tx
  a : TxIn W (some ⟨g, 0, none⟩) n n (turnL key nonce 0 tx)
  bel : Below w.heap.size w W
theorem TsMem.keep {w : World} {A : Option Addr} {n cap : Nat} {B : Option Addr} {bcap g : Nat} {key tx : List Nat} {nonce : Nat} {W W' : World} (h : TsMem w A n cap B bcap g key tx nonce W) (k : Below W.heap.size W W') : TsMem w A n cap B bcap g key tx nonce W' :=
  ⟨h.k.keep k h.k.lt, h.x.keep k (Nat.le_refl _), h.o.keep k (Nat.le_refl _), h.a.keep k (Nat.le_refl _), h.bel.trans (k.mono h.bel.size)⟩
def ts7Deps : List (List Nat) := [[], [0], [], [2], [1, 3], [4], [5], [6, 5], [5], [5], [5], [8, 9, 10, 5], [11, 5], [7, 12, 5], [5, 13], [14]]
set_option maxRecDepth 100000 in
set_option maxHeartbeats 1000000 in
theorem ts7 {Q : Exit → Act → World → Prop} {w : World} {A B : Option Addr} {n cap bcap g nonce : Nat} {key tx : List Nat} {s1 s2 : ByteArray} {W : World} (hM0 : TsMem w A n cap B bcap g key tx nonce W.drew) (hs1 : strN tx = s1) (hs2 : strN (turnL key nonce 0 tx) = s2) (hk : key.length = 16) (bk : Bytes key) (hn : n ≤ 1100000) (hN : nonce < 18446744073709551616) (v4 v5 v9 v10 v11 v12 v13 v14 v15 v16 v17 v18 v19 v20 v21 v22 v23 v24 v25 v26 v27 v28 v29 v30 v31 v33 v34 v35 v32 : Value)
    (hQ : ∀ v32 X, TsMem w A n cap B bcap g key tx nonce X → Q .normal ⟨#[.agg (u8s key), .int .u64 nonce, .slice A n cap, .pointer (some ⟨w.heap.size, 0, none⟩), v4, v5, .bool true, .slice B n bcap, .slice (some ⟨g, 0, none⟩) n n, v9, v10, v11, v12, v13, v14, v15, v16, v17, v18, v19, v20, .slice B n bcap, .string s1, .slice A n cap, .string s1, .bool true, .bool true, .slice (some ⟨g, 0, none⟩) n n, .string s2, .agg (u8s key), .int .u64 nonce, .slice A n cap, v32, .string s2, .bool true, .bool true], []⟩ X)
    : (Code.region 7 #[{ dst := Option.some 21, op := Go.Op.move (Go.Operand.tmp 7), type := 25, pos := "law.go:43", after := #[], guard := Option.none }, { dst := Option.some 22, op := Go.Op.convert 25 9 (Go.Operand.tmp 21), type := 9, pos := "law.go:43", after := #[{ on := 0, ground := Go.Ground.data }], guard := Option.none }, { dst := Option.some 23, op := Go.Op.move (Go.Operand.tmp 2), type := 25, pos := "law.go:43", after := #[], guard := Option.none }, { dst := Option.some 24, op := Go.Op.convert 25 9 (Go.Operand.tmp 23), type := 9, pos := "law.go:43", after := #[{ on := 2, ground := Go.Ground.data }], guard := Option.none }, { dst := Option.some 25, op := Go.Op.binOp Go.BinOp.eql 9 (Go.Operand.tmp 22) (Go.Operand.tmp 24) 9, type := 4, pos := "law.go:43", after := #[{ on := 1, ground := Go.Ground.data }, { on := 3, ground := Go.Ground.data }], guard := Option.none }, { dst := Option.some 26, op := Go.Op.move (Go.Operand.tmp 25), type := 4, pos := "law.go:43", after := #[{ on := 4, ground := Go.Ground.data }], guard := Option.none }, { dst := Option.some 27, op := Go.Op.move (Go.Operand.tmp 8), type := 25, pos := "law.go:43", after := #[{ on := 5, ground := Go.Ground.guard }], guard := Option.some (5, Bool.true) }, { dst := Option.some 28, op := Go.Op.convert 25 9 (Go.Operand.tmp 27), type := 9, pos := "law.go:43", after := #[{ on := 6, ground := Go.Ground.data }, { on := 5, ground := Go.Ground.guard }], guard := Option.some (5, Bool.true) }, { dst := Option.some 29, op := Go.Op.load 22 (Go.Operand.tmp 3), type := 22, pos := "law.go:43", after := #[{ on := 5, ground := Go.Ground.guard }], guard := Option.some (5, Bool.true) }, { dst := Option.some 30, op := Go.Op.move (Go.Operand.tmp 1), type := 23, pos := "law.go:43", after := #[{ on := 5, ground := Go.Ground.guard }], guard := Option.some (5, Bool.true) }, { dst := Option.some 31, op := Go.Op.move (Go.Operand.tmp 2), type := 25, pos := "law.go:43", after := #[{ on := 5, ground := Go.Ground.guard }], guard := Option.some (5, Bool.true) }, { dst := Option.some 32, op := Go.Op.call { callee := Go.Callee.value (Go.Operand.func 11), args := #[Go.Operand.tmp 29, Go.Operand.tmp 30, Go.Operand.const (Go.Value.int Go.IntKind.i64 0), Go.Operand.tmp 31], argTypes := #[22, 23, 3, 25] }, type := 25, pos := "law.go:43", after := #[{ on := 8, ground := Go.Ground.data }, { on := 9, ground := Go.Ground.data }, { on := 10, ground := Go.Ground.data }, { on := 5, ground := Go.Ground.chain }, { on := 5, ground := Go.Ground.guard }], guard := Option.some (5, Bool.true) }, { dst := Option.some 33, op := Go.Op.convert 25 9 (Go.Operand.tmp 32), type := 9, pos := "law.go:43", after := #[{ on := 11, ground := Go.Ground.data }, { on := 5, ground := Go.Ground.guard }], guard := Option.some (5, Bool.true) }, { dst := Option.some 34, op := Go.Op.binOp Go.BinOp.eql 9 (Go.Operand.tmp 28) (Go.Operand.tmp 33) 9, type := 4, pos := "law.go:43", after := #[{ on := 7, ground := Go.Ground.data }, { on := 12, ground := Go.Ground.data }, { on := 5, ground := Go.Ground.guard }], guard := Option.some (5, Bool.true) }, { dst := Option.some 35, op := Go.Op.pick (Go.Operand.tmp 26) (Go.Operand.tmp 34) (Go.Operand.const (Go.Value.bool Bool.false)), type := 4, pos := "law.go:43", after := #[{ on := 5, ground := Go.Ground.data }, { on := 13, ground := Go.Ground.data }], guard := Option.none }, { dst := Option.some 6, op := Go.Op.assign (Go.Operand.tmp 35), type := 4, pos := "law.go:43", after := #[{ on := 14, ground := Go.Ground.data }, { on := 11, ground := Go.Ground.chain }, { on := 0, ground := Go.Ground.phase }, { on := 1, ground := Go.Ground.phase }, { on := 2, ground := Go.Ground.phase }, { on := 3, ground := Go.Ground.phase }, { on := 4, ground := Go.Ground.phase }, { on := 5, ground := Go.Ground.phase }, { on := 6, ground := Go.Ground.phase }, { on := 7, ground := Go.Ground.phase }, { on := 8, ground := Go.Ground.phase }, { on := 9, ground := Go.Ground.phase }, { on := 10, ground := Go.Ground.phase }, { on := 11, ground := Go.Ground.phase }, { on := 12, ground := Go.Ground.phase }, { on := 13, ground := Go.Ground.phase }, { on := 14, ground := Go.Ground.phase }], guard := Option.none }] true).wp Try.prog Q ⟨#[.agg (u8s key), .int .u64 nonce, .slice A n cap, .pointer (some ⟨w.heap.size, 0, none⟩), v4, v5, .bool false, .slice B n bcap, .slice (some ⟨g, 0, none⟩) n n, v9, v10, v11, v12, v13, v14, v15, v16, v17, v18, v19, v20, v21, v22, v23, v24, v25, v26, v27, v28, v29, v30, v31, v32, v33, v34, v35], []⟩ W := by
  refine wp_region_tab (n := 16) (by kernel_rfl) rfl ts7Deps (by kernel_rfl) (by kernel_rfl)
    (fun L Ac X => ∃ (b0 b1 b2 b3 b4 b5 b6 b7 b8 b9 b10 b11 b12 b13 b14 b15 : Bool) (v32 : Value), L = [b0, b1, b2, b3, b4, b5, b6, b7, b8, b9, b10, b11, b12, b13, b14, b15] ∧ Ac = ⟨#[.agg (u8s key), .int .u64 nonce, .slice A n cap, .pointer (some ⟨w.heap.size, 0, none⟩), v4, v5, (bif b15 then .bool true else .bool false), .slice B n bcap, .slice (some ⟨g, 0, none⟩) n n, v9, v10, v11, v12, v13, v14, v15, v16, v17, v18, v19, v20, (bif b0 then .slice B n bcap else v21), (bif b1 then .string s1 else v22), (bif b2 then .slice A n cap else v23), (bif b3 then .string s1 else v24), (bif b4 then .bool true else v25), (bif b5 then .bool true else v26), (bif b6 then .slice (some ⟨g, 0, none⟩) n n else v27), (bif b7 then .string s2 else v28), (bif b8 then .agg (u8s key) else v29), (bif b9 then .int .u64 nonce else v30), (bif b10 then .slice A n cap else v31), v32, (bif b12 then .string s2 else v33), (bif b13 then .bool true else v34), (bif b14 then .bool true else v35)], []⟩ ∧ (TsMem w A n cap B bcap g key tx nonce X) ∧ (b11 = true → ∃ A2 c2, v32 = .slice A2 n c2 ∧ TxIn X A2 n c2 (turnL key nonce 0 tx))) ?_ ?_ ?_
  · exact ⟨false, false, false, false, false, false, false, false, false, false, false, false, false, false, false, false, v32, rfl, rfl, hM0, nofun⟩
  · intro L Ac X jx _ hj hfr hdp hI
    obtain ⟨b0, b1, b2, b3, b4, b5, b6, b7, b8, b9, b10, b11, b12, b13, b14, b15, v32, rfl, rfl, hM, h11⟩ := hI
    match jx, hj with
    | 0, _ =>
      obtain rfl : b0 = false := hfr
      refine wpOp_of rfl (by rfl) (op_val (v := .slice B n bcap) (by rfl) ?_)
      exact ⟨true, b1, b2, b3, b4, b5, b6, b7, b8, b9, b10, b11, b12, b13, b14, b15, v32, rfl, rfl, hM, h11⟩
    | 1, _ =>
      obtain rfl : b1 = false := hfr
      obtain rfl : b0 = true := hdp 0 (by decide)
      refine wpOp_of rfl (by rfl) (op_val (v := .string s1) (exec_conv rfl (x := .tmp 21) rfl (strT hs1 hM.o)) ?_)
      exact ⟨true, true, b2, b3, b4, b5, b6, b7, b8, b9, b10, b11, b12, b13, b14, b15, v32, rfl, rfl, hM, h11⟩
    | 2, _ =>
      obtain rfl : b2 = false := hfr
      refine wpOp_of rfl (by rfl) (op_val (v := .slice A n cap) (by rfl) ?_)
      exact ⟨b0, b1, true, b3, b4, b5, b6, b7, b8, b9, b10, b11, b12, b13, b14, b15, v32, rfl, rfl, hM, h11⟩
    | 3, _ =>
      obtain rfl : b3 = false := hfr
      obtain rfl : b2 = true := hdp 2 (by decide)
      refine wpOp_of rfl (by rfl) (op_val (v := .string s1) (exec_conv rfl (x := .tmp 23) rfl (strT hs1 hM.x)) ?_)
      exact ⟨b0, b1, true, true, b4, b5, b6, b7, b8, b9, b10, b11, b12, b13, b14, b15, v32, rfl, rfl, hM, h11⟩
    | 4, _ =>
      obtain rfl : b4 = false := hfr
      obtain rfl : b1 = true := hdp 1 (by decide)
      obtain rfl : b3 = true := hdp 3 (by decide)
      refine wpOp_of rfl (by rfl) (op_val (v := .bool true) (exec_eqS rfl (x := .tmp 22) (y := .tmp 24) rfl rfl) ?_)
      exact ⟨b0, true, b2, true, true, b5, b6, b7, b8, b9, b10, b11, b12, b13, b14, b15, v32, rfl, rfl, hM, h11⟩
    | 5, _ =>
      obtain rfl : b5 = false := hfr
      obtain rfl : b4 = true := hdp 4 (by decide)
      refine wpOp_of rfl (by rfl) (op_val (v := .bool true) (by rfl) ?_)
      exact ⟨b0, b1, b2, b3, true, true, b6, b7, b8, b9, b10, b11, b12, b13, b14, b15, v32, rfl, rfl, hM, h11⟩
    | 6, _ =>
      obtain rfl : b6 = false := hfr
      obtain rfl : b5 = true := hdp 5 (by decide)
      refine wpOp_of rfl (by rfl) (op_val (v := .slice (some ⟨g, 0, none⟩) n n) (by rfl) ?_)
      exact ⟨b0, b1, b2, b3, b4, true, true, b7, b8, b9, b10, b11, b12, b13, b14, b15, v32, rfl, rfl, hM, h11⟩
    | 7, _ =>
      obtain rfl : b7 = false := hfr
      obtain rfl : b6 = true := hdp 6 (by decide)
      obtain rfl : b5 = true := hdp 5 (by decide)
      refine wpOp_of rfl (by rfl) (op_val (v := .string s2) (exec_conv rfl (x := .tmp 27) rfl (strT hs2 hM.a)) ?_)
      exact ⟨b0, b1, b2, b3, b4, true, true, true, b8, b9, b10, b11, b12, b13, b14, b15, v32, rfl, rfl, hM, h11⟩
    | 8, _ =>
      obtain rfl : b8 = false := hfr
      obtain rfl : b5 = true := hdp 5 (by decide)
      refine wpOp_of rfl (by rfl) (op_val (v := .agg (u8s key)) (exec_load rfl (x := .tmp 3) rfl (hM.k.loadAt Try.underlying22 (by rw [hk]; exact size22))) ?_)
      exact ⟨b0, b1, b2, b3, b4, true, b6, b7, true, b9, b10, b11, b12, b13, b14, b15, v32, rfl, rfl, hM, h11⟩
    | 9, _ =>
      obtain rfl : b9 = false := hfr
      obtain rfl : b5 = true := hdp 5 (by decide)
      refine wpOp_of rfl (by rfl) (op_val (v := .int .u64 nonce) (by rfl) ?_)
      exact ⟨b0, b1, b2, b3, b4, true, b6, b7, b8, true, b10, b11, b12, b13, b14, b15, v32, rfl, rfl, hM, h11⟩
    | 10, _ =>
      obtain rfl : b10 = false := hfr
      obtain rfl : b5 = true := hdp 5 (by decide)
      refine wpOp_of rfl (by rfl) (op_val (v := .slice A n cap) (by rfl) ?_)
      exact ⟨b0, b1, b2, b3, b4, true, b6, b7, b8, b9, true, b11, b12, b13, b14, b15, v32, rfl, rfl, hM, h11⟩
    | 11, _ =>
      obtain rfl : b11 = false := hfr
      obtain rfl : b8 = true := hdp 8 (by decide)
      obtain rfl : b9 = true := hdp 9 (by decide)
      obtain rfl : b10 = true := hdp 10 (by decide)
      obtain rfl : b5 = true := hdp 5 (by decide)
      refine wpOp_of rfl (by rfl) (op_calls (args := #[.agg (u8s key), .int .u64 nonce, .int .i64 0, .slice A n cap]) Try.call11 rfl (by simp only [List.map_toArray, List.map_cons, List.map_nil]; rfl) ?_)
      refine (TurnR_to X nonce 0 n cap A key tx hM.x hk bk hn (by omega) hN 0 rfl).mono fun e X' ⟨A2, c2, he, hx, hb⟩ => ⟨_, he, ?_⟩
      exact ⟨b0, b1, b2, b3, b4, true, b6, b7, true, true, true, true, b12, b13, b14, b15, .slice A2 n c2, rfl, rfl, hM.keep hb, fun _ => ⟨A2, c2, rfl, hx⟩⟩
    | 12, _ =>
      obtain rfl : b12 = false := hfr
      obtain rfl : b11 = true := hdp 11 (by decide)
      obtain rfl : b5 = true := hdp 5 (by decide)
      obtain ⟨A2, c2, rfl, hx⟩ := h11 rfl
      refine wpOp_of rfl (by rfl) (op_val (v := .string s2) (exec_conv rfl (x := .tmp 32) rfl (strT hs2 hx)) ?_)
      exact ⟨b0, b1, b2, b3, b4, true, b6, b7, b8, b9, b10, true, true, b13, b14, b15, .slice A2 n c2, rfl, rfl, hM, fun _ => ⟨A2, c2, rfl, hx⟩⟩
    | 13, _ =>
      obtain rfl : b13 = false := hfr
      obtain rfl : b7 = true := hdp 7 (by decide)
      obtain rfl : b12 = true := hdp 12 (by decide)
      obtain rfl : b5 = true := hdp 5 (by decide)
      refine wpOp_of rfl (by rfl) (op_val (v := .bool true) (exec_eqS rfl (x := .tmp 28) (y := .tmp 33) rfl rfl) ?_)
      exact ⟨b0, b1, b2, b3, b4, true, b6, true, b8, b9, b10, b11, true, true, b14, b15, v32, rfl, rfl, hM, h11⟩
    | 14, _ =>
      obtain rfl : b14 = false := hfr
      obtain rfl : b5 = true := hdp 5 (by decide)
      obtain rfl : b13 = true := hdp 13 (by decide)
      refine wpOp_of rfl (by rfl) (op_val (v := .bool true) (by rfl) ?_)
      exact ⟨b0, b1, b2, b3, b4, true, b6, b7, b8, b9, b10, b11, b12, true, true, b15, v32, rfl, rfl, hM, h11⟩
    | 15, _ =>
      obtain rfl : b15 = false := hfr
      obtain rfl : b14 = true := hdp 14 (by decide)
      refine wpOp_of rfl (by rfl) (op_val (v := .bool true) (by rfl) ?_)
      exact ⟨b0, b1, b2, b3, b4, b5, b6, b7, b8, b9, b10, b11, b12, b13, true, true, v32, rfl, rfl, hM, h11⟩
    | jx + 16, h => omega
  · intro L Ac X _ hall hI
    obtain ⟨b0, b1, b2, b3, b4, b5, b6, b7, b8, b9, b10, b11, b12, b13, b14, b15, v32, rfl, rfl, hM, h11⟩ := hI
    simp at hall
    obtain ⟨rfl, rfl, rfl, rfl, rfl, rfl, rfl, rfl, rfl, rfl, rfl, rfl, rfl, rfl, rfl, rfl⟩ := hall
    exact hQ _ X hM
set_option maxRecDepth 100000 in
set_option maxHeartbeats 2000000 in
theorem turns_in (key : List Nat) (hk : key.length = 16) (bk : Bytes key) (nonce n cap : Nat) (A : Option Addr) (tx : List Nat) (hN : nonce < 18446744073709551616) (hn : n ≤ 2000) (w : World) (h : TxIn w A n cap tx) :
    Calls Try.prog 4 #[.agg (u8s key), .int .u64 nonce, .slice A n cap] w fun e w' => e = .returned (.bool true) ∧ Below w.heap.size w w' := by
  obtain ⟨i5, hi5, hy0, hy1, hy2⟩ := info_parts info5
  have g1 : (n : Int) ≤ 2000 := by omega
  have g2 : ¬ (2000 : Int) < n := by omega
  go_enter Try.func4, Try.ntmps4
  go_wp2_with fail
  refine (known_to _).mono ?_
  rintro _ w1 ⟨rfl, H1⟩
  have K1 : Arr w1 w.heap.size 22 key := Arr.keep (show Arr (w.alloc (.cells (u8s key) 22)) w.heap.size 22 key from Box.new w 22 (u8s key)) H1 (by simp)
  have L1 := ((Below.refl w.heap.size w).alloc (Nat.le_refl _) (.cells (u8s key) 22)).trans (H1.mono (by simp))
  have X1 := h.keep L1 (Nat.le_refl _)
  have O1 : Own (w1.alloc (.cells #[] 5)) w1.heap.size 5 .u8 (some ⟨w1.heap.size, 0, none⟩) 0 0 [] := World.ownsRow_made w1 #[] 0 (Nat.le_refl _) (by simp [maxLen]) rfl
  have HA : Below w1.heap.size w1 (w1.alloc (.cells #[] 5)) := (Below.refl _ _).alloc (Nat.le_refl _) _
  have X2 := X1.keep HA (Nat.le_refl _)
  replace K1 := Kp.mk K1
  clear H1
  go_wp2_with (at_builtin; refine wpList_append_ints rfl _ _ 25 rfl w1.heap.size 5 i5 (.int .u8 0) 1 Try.underlying25 hi5 hy0 hy1 hy2 rfl .u8 _ _ _ _ rfl O1 _ _ _ _ _ rfl X2.sl.1 ?c1 ?c2 ?c3 ?_)
  case c1 => unfold maxLen; omega
  case c2 => omega
  case c3 => simp
  intro B1 bcap z1 hown hgrow hor
  clear hor
  have Hz : Below w1.heap.size w1 z1 := HA.grown hgrow HA.size (own_base O1)
  have X3 := X1.keep Hz (Nat.le_refl _)
  have K3 := K1.out.keep Hz K1.out.lt
  have L3 := L1.trans (Hz.mono L1.size)
  have C3 := TxIn.of_own hown h.b
  have u3 := K3.loadAt (P := Try.prog) Try.underlying22 (by rw [hk]; exact size22)
  replace u3 := Kp.mk u3
  clear hgrow O1 HA X2 hown Hz K1 X1 L1
  go_wp2_with ((with_reducible refine wpl_id ?_); (refine wpList_load rfl (t := 22) (x := .tmp 3) rfl rfl u3.out ?_))
  refine (Turn_to z1 nonce n bcap B1 key tx C3 hk bk (by omega) hN).mono ?_
  rintro _ w4 ⟨g, hg, rfl, O4, H4⟩
  obtain ⟨s1, hs1⟩ : ∃ s, strN tx = s := ⟨_, rfl⟩
  obtain ⟨s2, hs2⟩ : ∃ s, strN (turnL key nonce 0 tx) = s := ⟨_, rfl⟩
  have M4 : TsMem w A n cap B1 bcap g key tx nonce w4 := ⟨K3.keep H4 K3.lt, X3.keep H4 (Nat.le_refl _), C3.keep H4 (Nat.le_refl _), TxIn.of_arr O4 (by rw [turnL_len]; exact h.len) (turnL_bytes hk bk _ _ h.b) (by simp only [maxLen]; omega), L3.trans (H4.mono L3.size)⟩
  clear u3 K3 X3 C3 O4 H4 L3
  replace M4 := Kp.mk M4
  go_wp2_with fail
  refine ts7 (M4.out.keep (Below.refl _ _).drew) hs1 hs2 hk bk (by omega) hN _ _ _ _ _ _ _ _ _ _ _ _ _ _ _ _ _ _ _ _ _ _ _ _ _ _ _ _ _ ?_
  intro v32 X M
  have bel := M.bel
  clear M M4 hs1 hs2
  go_wp2_with fail
  exact bodyPost_ret (v := .bool true) (by simp [results, Try.f4, go_sem]) rfl ⟨rfl, bel⟩
theorem turns_out (key : List Nat) (nonce n cap : Nat) (A : Option Addr) (hn : 2000 < n) (w : World) :
    Calls Try.prog 4 #[.agg (u8s key), .int .u64 nonce, .slice A n cap] w fun e w' => e = .returned (.bool true) ∧ Below w.heap.size w w' := by
  have g1 : ¬ (n : Int) ≤ 2000 := by omega
  have g2 : (2000 : Int) < n := by omega
  go_enter Try.func4, Try.ntmps4
  go_wp2_with fail
  refine (known_to _).mono ?_
  rintro _ w1 ⟨rfl, H1⟩
  have L1 := ((Below.refl w.heap.size w).alloc (Nat.le_refl _) (.cells (u8s key) 22)).trans (H1.mono (by simp))
  clear H1
  go_wp2_with fail
  exact bodyPost_ret (v := .bool true) (by simp [results, Try.f4, go_sem]) rfl ⟨rfl, L1⟩
theorem turns_any (zk : List Int) (sk : zk.length = 16) (wk : ∀ z ∈ zk, (Lit.int .u8 z).wf = true) (zn : Int) (wn : (Lit.int .u64 zn).wf = true) (A : Option Addr) (n cap : Nat) (zs : List Int) (w : World) (hs : SlIn w .u8 A n cap zs) :
    Calls Try.prog 4 #[.agg (zk.map (Value.int .u8)).toArray, .int .u64 zn, .slice A n cap] w fun e w' => e = .returned (.bool true) ∧ Below w.heap.size w w' := by
  obtain ⟨key, ek, lk, bk⟩ := bytes_of wk
  obtain ⟨nonce, rfl, hN⟩ := u64_nat wn
  obtain ⟨tx, h⟩ := TxIn.of_slin hs
  rw [ek]
  by_cases hn : 2000 < n
  · exact turns_out key nonce n cap A hn w
  · exact turns_in key (by omega) bk nonce n cap A tx hN (by omega) w h
end Go.Proofs.Ytgdphdnghackfaa
