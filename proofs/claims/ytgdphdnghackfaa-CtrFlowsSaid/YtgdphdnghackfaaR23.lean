/- The walk of 'blocks' (the law CtrFlows, layer 5): a flow goes over its blocks, twice. -/
import Derived.Test.YtgdphdnghackfaaR22
namespace Go.Proofs.Ytgdphdnghackfaa
open Go.RowKit Go.Shelf
attribute [local go_sem] Oper.semAt_some
theorem all_blocks0 (n gm gf gb gn gk first nonce : Nat) (key : List Nat) (w : World) (M : WkMem gm gf gb gn gk 0 first nonce key w) :
    SeqStopsK Fence.wide n Try.prog 32 #[.pointer (some ⟨gm, 0, none⟩), .pointer (some ⟨gf, 0, none⟩), .pointer (some ⟨gb, 0, none⟩)] (blkArgs key nonce) (WkKp gm gf gb gn gk) (fun ys => ys = blkSeq first 0) (fun pre => pre <+: blkSeq first 0) 0 w := fun l J Jx W hW hJ _ hY h0 => by
  have c0 := (M.keep hW).m.cell 0
  have c0' : W.cell? ⟨gm, 0, none⟩ = some (.int .i64 0) := c0
  clear c0
  refine callsIn_of_wp Try.func32 rfl trivial ?_ rfl
  simp only [Try.ntmps32, List.size_toArray, List.length_cons, List.length_nil, Nat.reduceAdd, Nat.reduceSub, Array.replicate_succ, Array.replicate_zero, List.push_toArray, List.append_toArray, List.nil_append, List.cons_append]
  gi_wp2
  refine wpIn_loop_rounds 1 ?_
  rw [roundsIn_succ]
  gi_wp2
  go_end0
  exact ⟨⟨_, rfl⟩, Or.inl ⟨[], rfl, h0⟩⟩
theorem seq_blocks (n gm gf gb gn gk m first nonce : Nat) (key : List Nat) (hk : key.length = 16) (bk : Bytes key) (hm : m < 100000) (hf : first < 100000) (hN : nonce < 18446744073709551616) (w : World) (M : WkMem gm gf gb gn gk m first nonce key w) :
    SeqStopsK Fence.wide n Try.prog 32 #[.pointer (some ⟨gm, 0, none⟩), .pointer (some ⟨gf, 0, none⟩), .pointer (some ⟨gb, 0, none⟩)] (blkArgs key nonce) (WkKp gm gf gb gn gk) (fun ys => ys = blkSeq first m) (fun pre => pre <+: blkSeq first m) m w := by
  rcases Nat.eq_zero_or_pos m with h | h
  · subst h; exact all_blocks0 n gm gf gb gn gk first nonce key w M
  · exact all_blocks n gm gf gb gn gk m first nonce key hk bk h hm hf hN w M
set_option maxRecDepth 100000 in
set_option maxHeartbeats 1000000 in
theorem reg15 {Q : Exit → Act → World → Prop} {ds : List Deferred} (k gf gc first m q : Nat) (hq : min 3 m = q) (x1 : IntKind.i64.wrap (65536 - (first : Int)) = (m : Int)) (hm : m < 100000) (V : World) (n1 : V.cell? ⟨gc, 0, none⟩ = some (.int .i64 (q : Nat))) (f1 : V.cell? ⟨gf, 0, none⟩ = some (.int .i64 (first : Nat))) (v0 v1 v2 v3 v4 v5 v6 v8 v9 v10 v12 v13 v14 v15 v16 v17 v18 v19 v20 v21 v22 v23 v24 v25 v26 v27 v28 v29 v30 v31 v32 v33 v34 v35 v36 v37 v38 v39 v40 v41 v42 v43 v44 v45 v46 v47 : Value)
    (hQ : Q .normal { tmps := #[v0, v1, v2, v3, v4, v5, v6, .pointer (some ⟨gf, 0, none⟩), v8, v9, v10, .pointer (some ⟨gc, 0, none⟩), v12, v13, v14, v15, v16, v17, v18, v19, v20, v21, v22, v23, v24, v25, v26, v27, v28, v29, v30, v31, v32, v33, v34, v35, v36, v37, v38, v39, v40, v41, .int .i64 (q : Nat), .int .i64 (first : Nat), .int .i64 (m : Nat), .int .i64 (m : Nat), .int .i64 (q : Nat), .bool false], defers := ds } V) : (Code.region 15 #[{ dst := Option.some 42, op := Go.Op.load 3 (Go.Operand.tmp 11), type := 3, pos := "law.go:111", after := #[], guard := Option.none }, { dst := Option.some 43, op := Go.Op.load 3 (Go.Operand.tmp 7), type := 3, pos := "law.go:111", after := #[], guard := Option.none }, { dst := Option.some 44, op := Go.Op.binOp Go.BinOp.sub 3 (Go.Operand.const (Go.Value.int Go.IntKind.i64 65536)) (Go.Operand.tmp 43) 3, type := 3, pos := "law.go:111", after := #[{ on := 1, ground := Go.Ground.data }], guard := Option.none }, { dst := Option.some 45, op := Go.Op.call { callee := Go.Callee.builtin Go.Builtin.max, args := #[Go.Operand.const (Go.Value.int Go.IntKind.i64 0), Go.Operand.tmp 44], argTypes := #[3, 3] }, type := 3, pos := "law.go:111", after := #[{ on := 2, ground := Go.Ground.data }], guard := Option.none }, { dst := Option.some 46, op := Go.Op.call { callee := Go.Callee.builtin Go.Builtin.min, args := #[Go.Operand.const (Go.Value.int Go.IntKind.i64 3), Go.Operand.tmp 45], argTypes := #[3, 3] }, type := 3, pos := "law.go:111", after := #[{ on := 3, ground := Go.Ground.data }], guard := Option.none }, { dst := Option.some 47, op := Go.Op.binOp Go.BinOp.neq 3 (Go.Operand.tmp 42) (Go.Operand.tmp 46) 3, type := 4, pos := "law.go:111", after := #[{ on := 0, ground := Go.Ground.data }, { on := 4, ground := Go.Ground.data }], guard := Option.none }] false).wpIn Fence.wide k Try.prog Q { tmps := #[v0, v1, v2, v3, v4, v5, v6, .pointer (some ⟨gf, 0, none⟩), v8, v9, v10, .pointer (some ⟨gc, 0, none⟩), v12, v13, v14, v15, v16, v17, v18, v19, v20, v21, v22, v23, v24, v25, v26, v27, v28, v29, v30, v31, v32, v33, v34, v35, v36, v37, v38, v39, v40, v41, v42, v43, v44, v45, v46, v47], defers := ds } V := by
  rcases (show m = 0 ∨ m = 1 ∨ m = 2 ∨ 3 ≤ m by omega) with h | h | h | h
  · subst h
    obtain rfl : q = 0 := by omega
    replace hQ := Kp.mk hQ
    clear hq hm
    gi_wp2
    exact hQ.out
  · subst h
    obtain rfl : q = 1 := by omega
    replace hQ := Kp.mk hQ
    clear hq hm
    gi_wp2
    exact hQ.out
  · subst h
    obtain rfl : q = 2 := by omega
    replace hQ := Kp.mk hQ
    clear hq hm
    gi_wp2
    exact hQ.out
  · obtain rfl : q = 3 := by omega
    have h0 : (0 : Int) < (m : Int) := by omega
    have h3 : ¬ ((m : Int) < 3) := by omega
    have h4 : (3 : Int) ≤ (m : Int) := by omega
    replace hQ := Kp.mk hQ
    clear hq hm h
    gi_wp2
    exact hQ.out
set_option maxRecDepth 100000 in
set_option maxHeartbeats 4000000 in
theorem blocks_in (k : Nat) (hk4 : 4 ≤ k) (w : World) (gF gn gk at' nonce : Nat) (key : List Nat) (hk : key.length = 16) (bk : Bytes key) (hN : nonce < 18446744073709551616) (ha : at' ≤ 1048576) (hF : Box w gF 40 #[blkF gn gk, .int .i64 (at' : Nat)]) (hb : Box w gn 23 #[.int .u64 (nonce : Nat)]) (hK : Arr w gk 22 key) (z : Int) (hz : z = (at' : Int) / 16) :
    CallsIn Fence.wide k Try.prog 17 #[.pointer (some ⟨gF, 0, none⟩), .agg (u8s key), .int .u64 (nonce : Nat), .int .i64 z] w fun e w' => e = .returned (.bool true) ∧ Below w.heap.size w w' := by
  have kg : ∀ (f : Fn) (a b : Array Value) (w : World), (binOp .eql 42 (.func f a b) .nilFunc).run Try.prog w = .ok (.bool false) w := fun _ _ _ _ => rfl
  obtain ⟨first, hfi⟩ : ∃ q, at' / 16 = q := ⟨_, rfl⟩
  have hz2 : z = (first : Int) := by omega
  subst hz2
  clear hz
  obtain ⟨m, hm⟩ : ∃ q, 65536 - first = q := ⟨_, rfl⟩
  have hf1 : first ≤ 65536 := by omega
  refine callsIn_of_wp_marks Try.func17 rfl trivial ?_ rfl
  simp only [Try.ntmps17, List.size_toArray, List.length_cons, List.length_nil, Nat.reduceAdd, Nat.reduceSub, Array.replicate_succ, Array.replicate_zero, List.push_toArray, List.append_toArray, List.nil_append, List.cons_append]
  gi_wp2
  have d1 := (Below.refl w.heap.size w).alloc (Nat.le_refl _) (.cells (u8s key) 22)
  have d2 := d1.alloc d1.size (.cells #[.int .u64 (nonce : Nat)] 23)
  have d3 := d2.alloc d2.size (.cells #[.int .i64 (first : Nat)] 3)
  have d4 := d3.alloc d3.size (.cells #[.bool false] 4)
  have B0 : Arr ((((w.alloc (.cells (u8s key) 22)).alloc (.cells #[.int .u64 (nonce : Nat)] 23)).alloc (.cells #[.int .i64 (first : Nat)] 3)).alloc (.cells #[.bool false] 4)) w.heap.size 22 key := box_old (box_old (box_old (Box.new w 22 (u8s key)) _ _) _ _) _ _
  have B1 : Box ((((w.alloc (.cells (u8s key) 22)).alloc (.cells #[.int .u64 (nonce : Nat)] 23)).alloc (.cells #[.int .i64 (first : Nat)] 3)).alloc (.cells #[.bool false] 4)) (w.heap.size + 1) 23 #[.int .u64 (nonce : Nat)] := box_old (box_old (box_new 23 _ (by simp)) _ _) _ _
  have B2 : Box ((((w.alloc (.cells (u8s key) 22)).alloc (.cells #[.int .u64 (nonce : Nat)] 23)).alloc (.cells #[.int .i64 (first : Nat)] 3)).alloc (.cells #[.bool false] 4)) (w.heap.size + 2) 3 #[.int .i64 (first : Nat)] := box_old (box_new 3 _ (by simp)) _ _
  have B3 : Box ((((w.alloc (.cells (u8s key) 22)).alloc (.cells #[.int .u64 (nonce : Nat)] 23)).alloc (.cells #[.int .i64 (first : Nat)] 3)).alloc (.cells #[.bool false] 4)) (w.heap.size + 3) 4 #[.bool false] := box_new 4 _ (by simp)
  have hF0 := hF.keep d4 hF.lt
  have hb0 := hb.keep d4 hb.lt
  have hK0 := hK.keep d4 hK.lt
  have hFl := hF.lt
  have hbl := hb.lt
  have hKl := hK.lt
  have hs0 : ((((w.alloc (.cells (u8s key) 22)).alloc (.cells #[.int .u64 (nonce : Nat)] 23)).alloc (.cells #[.int .i64 (first : Nat)] 3)).alloc (.cells #[.bool false] 4)).heap.size = w.heap.size + 4 := by simp
  generalize ((((w.alloc (.cells (u8s key) 22)).alloc (.cells #[.int .u64 (nonce : Nat)] 23)).alloc (.cells #[.int .i64 (first : Nat)] 3)).alloc (.cells #[.bool false] 4)) = w0 at *
  clear d1 d2 d3
  refine ⟨trivial, fun h => (by cases h), ?_⟩
  refine callsIn_wide.2 ((FlowBlocks_to w0 gF gn gk at' hF0 ha).mono ?_)
  rintro _ w1 ⟨rfl, hw1⟩
  rw [hfi, hm] at hw1
  have M1 : WkMem (w.heap.size + 6) (w.heap.size + 5) (w.heap.size + 4) gn gk m first nonce key w1 := by
    rw [hw1]
    exact ⟨box_new 3 _ (by simp [hs0]), box_old (box_new 3 _ (by simp [hs0])) _ _, box_old (box_old (box_new 38 _ hs0.symm) _ _) _ _, box_old (box_old (box_old hb0 _ _) _ _) _ _, Arr.alloc (Arr.alloc (Arr.alloc hK0 _) _) _⟩
  have e1 := (Below.refl w0.heap.size w0).alloc (Nat.le_refl _) (.cells #[blkF gn gk] 38)
  have e2 := e1.alloc e1.size (.cells #[.int .i64 (first : Nat)] 3)
  have e3 := e2.alloc e2.size (.cells #[.int .i64 (m : Nat)] 3)
  rw [← hw1] at e3
  have hs1 : w1.heap.size = w.heap.size + 7 := by rw [hw1]; simp [hs0]
  have C0 := Arr.keep B0 e3 (Arr.lt B0)
  have C1 := B1.keep e3 B1.lt
  have C2 := B2.keep e3 B2.lt
  have C3 := B3.keep e3 B3.lt
  have L1 := d4.trans (e3.mono d4.size)
  clear hw1 B0 B1 B2 B3 e1 e2 e3 d4 hF0 hb0 hK0 hF hb hK
  replace M1 := Kp.mk M1
  replace C0 := Kp.mk C0
  replace C1 := Kp.mk C1
  replace C2 := Kp.mk C2
  replace C3 := Kp.mk C3
  replace L1 := Kp.mk L1
  rw [hs0]
  gi_wp2
  refine wpIn_loop_rounds 3 ?_
  rw [roundsIn_succ]
  gi_wp2
  have bd := (Below.refl w1.heap.size w1).alloc (Nat.le_refl _) (.cells #[.int .i64 0] 3)
  have R0 : FbMem w (w.heap.size + 6) (w.heap.size + 5) (w.heap.size + 4) gn gk m first nonce key (w.heap.size + 7) 0 (w1.alloc (.cells #[.int .i64 0] 3)) (w1.alloc (.cells #[.int .i64 0] 3)) :=
    ⟨Arr.keep C0.out bd (Arr.lt C0.out), C1.out.keep bd C1.out.lt, C2.out.keep bd C2.out.lt, C3.out.keep bd C3.out.lt, M1.out.keep bd, box_new 3 _ hs1.symm, L1.out.trans (bd.mono L1.out.size), fun g h => h, Nat.le_refl _⟩
  have hsz1 : (w1.alloc (.cells #[.int .i64 0] 3)).heap.size = w.heap.size + 8 := by simp [hs1]
  generalize (w1.alloc (.cells #[.int .i64 0] 3)) = W1 at *
  clear M1 C0 C1 C2 C3 L1 bd hs1 hs0
  have x1 : IntKind.i64.wrap (65536 - (first : Int)) = (m : Int) := by rw [IntWalk.i64_in _ (by omega)]; omega
  have hmx : max (0 : Int) (m : Int) = m := by omega
  obtain ⟨q, hq⟩ : ∃ q, min 3 m = q := ⟨_, rfl⟩
  have hmn : min (3 : Int) (m : Int) = (q : Int) := by omega
  rename_i K hK
  have hgo : ∀ (D : Nat) (V : World), W1.heap.size ≤ D → V.heap[D]? = some (Obj.deferred (some [])) → FbMem w (w.heap.size + 6) (w.heap.size + 5) (w.heap.size + 4) gn gk m first nonce key (w.heap.size + 7) q W1 V → K { tmps := #[.pointer (some ⟨gF, 0, none⟩), .agg (u8s key), .int .u64 (nonce : Nat), .int .i64 (first : Nat), undef, .pointer (some ⟨w.heap.size, 0, none⟩), .pointer (some ⟨w.heap.size + 1, 0, none⟩), .pointer (some ⟨w.heap.size + 1 + 1, 0, none⟩), .pointer (some ⟨w.heap.size + 1 + 1 + 1, 0, none⟩), .func (.func 32) #[] #[.pointer (some ⟨w.heap.size + 4 + 1 + 1, 0, none⟩), .pointer (some ⟨w.heap.size + 4 + 1, 0, none⟩), .pointer (some ⟨w.heap.size + 4, 0, none⟩)], .int .i64 0, .pointer (some ⟨w.heap.size + 7, 0, none⟩), undef, undef, .pointer (some ⟨gF, 0, none⟩), .func (.func 32) #[] #[.pointer (some ⟨w.heap.size + 4 + 1 + 1, 0, none⟩), .pointer (some ⟨w.heap.size + 4 + 1, 0, none⟩), .pointer (some ⟨w.heap.size + 4, 0, none⟩)], .func (.func 32) #[] #[.pointer (some ⟨w.heap.size + 4 + 1 + 1, 0, none⟩), .pointer (some ⟨w.heap.size + 4 + 1, 0, none⟩), .pointer (some ⟨w.heap.size + 4, 0, none⟩)], .bool false, .int .i64 0, .bool true, undef, undef, .func (.func 32) #[] #[.pointer (some ⟨w.heap.size + 4 + 1 + 1, 0, none⟩), .pointer (some ⟨w.heap.size + 4 + 1, 0, none⟩), .pointer (some ⟨w.heap.size + 4, 0, none⟩)], undef, undef, undef, undef, undef, undef, undef, undef, undef, undef, undef, undef, undef, undef, undef, undef, undef, undef, undef, undef, undef, undef, undef, undef, undef], defers := [{ target := .collected D, args := #[] }] } V := by
    intro D V hD hdef R
    refine hK _ _ ?_
    clear hK
    have n1 : V.cell? ⟨w.heap.size + 7, 0, none⟩ = some (.int .i64 (q : Nat)) := R.bn.cell 0
    have f1 : V.cell? ⟨w.heap.size + 2, 0, none⟩ = some (.int .i64 (first : Nat)) := R.bf.cell 0
    replace hdef := Kp.mk hdef
    replace R := Kp.mk R
    replace R0 := Kp.mk R0
    refine wpIn_seq_k fun K5 hK5 => ?_
    refine reg15 k (w.heap.size + 2) (w.heap.size + 7) first m q hq x1 (by omega) V n1 f1 _ _ _ _ _ _ _ _ _ _ _ _ _ _ _ _ _ _ _ _ _ _ _ _ _ _ _ _ _ _ _ _ _ _ _ _ _ _ _ _ _ _ _ _ _ _ ?_
    refine hK5 _ _ ?_
    clear hK5
    gi_wp2
    rw [roundsIn_succ]
    have hDl := (Array.getElem?_eq_some_iff.1 hdef.out).1
    have hVs := R.out.sz
    gi_wp2
    rename_i K2 hK2
    have e1 := (Below.refl V.heap.size V).alloc (Nat.le_refl _) (.cells #[.int .i64 0] 3)
    have R2 : FbMem w (w.heap.size + 6) (w.heap.size + 5) (w.heap.size + 4) gn gk m first nonce key V.heap.size 0 (V.alloc (.cells #[.int .i64 0] 3)) (V.alloc (.cells #[.int .i64 0] 3)) :=
      ⟨Arr.keep R.out.bk e1 (Arr.lt R.out.bk), R.out.bo.keep e1 R.out.bo.lt, R.out.bf.keep e1 R.out.bf.lt, R.out.br.keep e1 R.out.br.lt, R.out.wk.keep e1, Box.new V 3 _, R.out.bel.trans (e1.mono R.out.bel.size), fun g h => h, Nat.le_refl _⟩
    have hdefD := (e1.block D hDl).trans hdef.out
    have hsz2 := e1.size
    generalize (V.alloc (.cells #[.int .i64 0] 3)) = W2 at *
    clear e1 R0 R n1 f1 hdef
    refine range_bl k hk4 w (w.heap.size + 6) (w.heap.size + 5) (w.heap.size + 4) gn gk m first nonce V.heap.size key hk bk hN (by omega) W2 R2 (by omega) (by omega) (seq_blocks (k - 1) _ _ _ _ _ m first nonce key hk bk (by omega) (by omega) hN W2 R2.wk) _ _ _ _ _ _ _ _ _ _ _ _ _ _ _ _ _ _ _ _ _ _ _ _ _ _ _ _ _ _ _ _ _ _ _ _ _ _ _ _ _ _ ?_ ?_
    all_goals
      intro D2 V2 hD2 hdef2 R3
      rw [hq] at R3
      refine hK2 _ _ ?_
      clear hK2
      have hdef1 := R3.dk D hdefD
      have n1 : V2.cell? ⟨V.heap.size, 0, none⟩ = some (.int .i64 (q : Nat)) := R3.bn.cell 0
      have f1 : V2.cell? ⟨w.heap.size + 2, 0, none⟩ = some (.int .i64 (first : Nat)) := R3.bf.cell 0
      have r1 : V2.cell? ⟨w.heap.size + 3, 0, none⟩ = some (.bool false) := R3.br.cell 0
      have fr := R3.br.frozen 0
      have g1 : (V2.setCell ⟨w.heap.size + 3, 0, none⟩ (.bool true)).heap[D]? = some (.deferred (some [])) := (Below.heap_setCell V2 ⟨w.heap.size + 3, 0, none⟩ _ D (by simp; omega)).trans hdef1
      have g2 : (V2.setCell ⟨w.heap.size + 3, 0, none⟩ (.bool true)).heap[D2]? = some (.deferred (some [])) := (Below.heap_setCell V2 ⟨w.heap.size + 3, 0, none⟩ _ D2 (by simp; omega)).trans hdef2
      have P := R3.br.put 0 (.bool true)
      have bel := R3.bel.setCell (p := ⟨w.heap.size + 3, 0, none⟩) (show w.heap.size ≤ w.heap.size + 3 by omega) (.bool true)
      clear R3 R2 hdefD hdef1 hdef2
      replace g1 := Kp.mk g1
      replace g2 := Kp.mk g2
      replace P := Kp.mk P
      replace bel := Kp.mk bel
      refine wpIn_seq_k fun K5 hK5 => ?_
      refine reg15 k (w.heap.size + 2) V.heap.size first m q hq x1 (by omega) V2 n1 f1 _ _ _ _ _ _ _ _ _ _ _ _ _ _ _ _ _ _ _ _ _ _ _ _ _ _ _ _ _ _ _ _ _ _ _ _ _ _ _ _ _ _ _ _ _ _ ?_
      refine hK5 _ _ ?_
      clear hK5
      gi_wp2
      rw [roundsIn_succ]
      gi_wp2
      replace g1 := g1.out
      replace g2 := g2.out
      refine ⟨by simp, .inl ⟨_, _, rfl, run_takeDeferred g2, ?_⟩⟩
      have q1 := grownBy_putObj' (V2.setCell ⟨w.heap.size + 3, 0, none⟩ (.bool true)) D2 (.deferred none)
      have D1lt := (Array.getElem?_eq_some_iff.1 g1).1
      have g1' := (q1.block D D1lt (fun e => by cases e; omega)).trans g1
      refine ⟨by simp, .inl ⟨_, _, rfl, run_takeDeferred g1', ?_⟩⟩
      have q2 := grownBy_putObj' ((V2.setCell ⟨w.heap.size + 3, 0, none⟩ (.bool true)).putObj D2 (.deferred none)) D (.deferred none)
      have Z1 := P.out.grown q1 (fun e => by cases e; omega)
      have Z2 := Z1.grown q2 (fun e => by cases e; omega)
      have hbb := bel.out.trans ((belowK_b (w := w) (Nat.le_refl _) _ D2 _ (.deferred none) (by omega) g2 rfl rfl).trans (belowK_b (w := w) (Nat.le_refl _) _ D _ (.deferred none) (by omega) g1' rfl rfl))
      have u := Z2.cell 0
      have u' : (((V2.setCell ⟨w.heap.size + 3, 0, none⟩ (.bool true)).putObj D2 (.deferred none)).putObj D (.deferred none)).cell? ⟨w.heap.size + 1 + 1 + 1, 0, none⟩ = some (.bool true) := u
      refine ⟨.bool true, ?_, rfl, hbb⟩
      clear u
      simp [results, Try.f17, go_sem, u']
  refine range_bl k hk4 w (w.heap.size + 6) (w.heap.size + 5) (w.heap.size + 4) gn gk m first nonce (w.heap.size + 7) key hk bk hN (by omega) W1 R0 (by omega) (by omega) (seq_blocks (k - 1) _ _ _ _ _ m first nonce key hk bk (by omega) (by omega) hN W1 R0.wk) _ _ _ _ _ _ _ _ _ _ _ _ _ _ _ _ _ _ _ _ _ _ _ _ _ _ _ _ _ _ _ _ _ _ _ _ _ _ _ _ _ _ ?_ ?_
  · intro D V hD hdef R
    rw [hq] at R
    exact hgo D V hD hdef R
  · intro D V hD hdef R
    rw [hq] at R
    exact hgo D V hD hdef R
theorem blocks_law (w : World) (gF gn gk at' nonce : Nat) (key : List Nat) (hk : key.length = 16) (bk : Bytes key) (hN : nonce < 18446744073709551616) (ha : at' ≤ 1048576) (hF : Box w gF 40 #[blkF gn gk, .int .i64 (at' : Nat)]) (hb : Box w gn 23 #[.int .u64 (nonce : Nat)]) (hK : Arr w gk 22 key) (z : Int) (hz : z = (at' : Int) / 16) :
    Calls Try.prog 17 #[.pointer (some ⟨gF, 0, none⟩), .agg (u8s key), .int .u64 (nonce : Nat), .int .i64 z] w fun e w' => e = .returned (.bool true) ∧ Below w.heap.size w w' :=
  callsIn_wide.1 (blocks_in 4 (Nat.le_refl _) w gF gn gk at' nonce key hk bk hN ha hF hb hK z hz)
end Go.Proofs.Ytgdphdnghackfaa
