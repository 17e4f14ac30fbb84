/- The walk of ctr's Stream (layer 5). -/
import Derived.Test.YtgdphdnghackfaaR11
namespace Go.Proofs.Ytgdphdnghackfaa
open Go.RowKit Go.Shelf
attribute [local go_sem] Oper.semAt_some
theorem made5 (n : Nat) (hn : n ≤ 1100000) (W : World) : (Instr.makeSlice 25 (.int .i64 (n : Nat)) (.int .i64 (n : Nat))).run Try.prog W = .ok (.slice (some ⟨W.heap.size, 0, none⟩) n n) (W.alloc (.cells (u8s (List.replicate n 0)) 5)) := by
  obtain ⟨i0, hi, hz0, hz1, hz2⟩ := info_parts info5
  have := run_make (P := Try.prog) W 25 5 i0 (.int .u8 0) Try.underlying25 hi hz0 .i64 .i64 n n (by omega) (by omega) (by rw [hz2]; omega) (by omega)
  rw [hz1] at this
  simp only [Int.toNat_natCast, Nat.mul_one] at this
  rw [← made_u8s]
  exact this
theorem exec_make {P : Program} {A : Act} {o : Oper} {x y : Operand} {t : TypeId} {W W' : World} {v vx vy : Value} (ho : o.op = .makeSlice t x y) (hx : A.eval x = vx) (hy : A.eval y = vy) (h : (Instr.makeSlice t vx vy).run P W = .ok v W') : (execOp A.eval o).run P W = .ok (.value v) W' := by
  unfold execOp
  simp only [ho, hx, hy, Sem.run_bind, h, Result.andThen_ok, Sem.run_pure]
theorem opIn_calls {F : Fence} {nn : Nat} {P : Program} {o : Oper} {a : Act} {w : World} {K : Act → World → Prop} {Q : Exit → Act → World → Prop} {xs : Array Operand} {ts : Array TypeId} {args : Array Value} (hF : F = Fence.wide) {f : FuncId} (hc : ∀ (args : Array Value) (w : World), (callFunc f args).run P w = .ok (.enter f args) w) (ho : o.op = .call { callee := .value (.func f), args := xs, argTypes := ts }) (hxs : xs.map a.eval = args)
    (h : Calls P f args w fun e w' => ∃ v, e = .returned v ∧ K (a.put o.dst v) w') : o.wpIn F nn P a w K Q := by
  subst hF
  have hr : (execOp a.eval o).run P w = .ok (.enter f args) w := exec_call hc ho hxs w
  refine ⟨fun _ _ => trivial, ?_⟩
  rw [show (Fence.wide).round = none from rfl, Oper.semAt_none, hr]
  refine ⟨fun h => (by cases h), ?_⟩
  exact (callsIn_wide.2 h).mono fun e w'' ⟨v, he, hk⟩ => by subst he; exact hk
theorem bel_all {B : Nat} {w W W' : World} (h : Below B w W) (k : Below W.heap.size W W') (hB : B ≤ W.heap.size) : Below B w W' := h.trans (k.mono hB)
theorem bytes_zero (n : Nat) : Bytes (List.replicate n 0) := fun x hx => by rw [(List.mem_replicate.1 hx).2]; decide
structure StmSt (w : World) (key : List Nat) (nonce from_ n : Nat) (b2 b5 b6 : Bool) (v15 v18 v19 : Value) (W : World) : Prop where
  kb : Arr W w.heap.size 22 key
  bel : Below w.heap.size w W
  h2 : b2 = true → ∃ gn gk, v15 = blkF gn gk ∧ Box W gn 23 #[.int .u64 (nonce : Nat)] ∧ Arr W gk 22 key
  h5 : b5 = true → ∃ g, v18 = .slice (some ⟨g, 0, none⟩) n n ∧ Arr W g 5 (List.replicate n 0)
  h6 : b6 = true → ∃ g, w.heap.size ≤ g ∧ v19 = .slice (some ⟨g, 0, none⟩) n n ∧ Arr W g 5 (turnL key nonce from_ (List.replicate n 0))
theorem StmSt.keep {w : World} {key : List Nat} {nonce from_ n : Nat} {b2 b5 b6 : Bool} {v15 v18 v19 : Value} {W W' : World} (h : StmSt w key nonce from_ n b2 b5 b6 v15 v18 v19 W) (k : Below W.heap.size W W') : StmSt w key nonce from_ n b2 b5 b6 v15 v18 v19 W' :=
  ⟨h.kb.keep k h.kb.lt, bel_all h.bel k h.bel.size, fun e => let ⟨gn, gk, a, b, c⟩ := h.h2 e; ⟨gn, gk, a, b.keep k b.lt, c.keep k c.lt⟩, fun e => let ⟨g, a, b⟩ := h.h5 e; ⟨g, a, b.keep k b.lt⟩, fun e => let ⟨g, g0, a, b⟩ := h.h6 e; ⟨g, g0, a, b.keep k b.lt⟩⟩
def stmDeps : List (List Nat) := [[], [], [0, 1], [], [], [4], [2, 3, 5], [6]]
set_option maxRecDepth 100000 in
set_option maxHeartbeats 1000000 in
theorem stream_in (k : Nat) (w : World) (nonce from_ n : Nat) (key : List Nat) (hk : key.length = 16) (bk : Bytes key) (hN : nonce < 18446744073709551616) (hfit : from_ ≤ 1048576 ∧ n ≤ 1048576 - from_) :
    CallsIn Fence.wide k Try.prog 10 #[.agg (u8s key), .int .u64 nonce, .int .i64 from_, .int .i64 n] w fun e w' => ∃ g, w.heap.size ≤ g ∧ e = .returned (.slice (some ⟨g, 0, none⟩) n n) ∧ Arr w' g 5 (turnL key nonce from_ (List.replicate n 0)) ∧ Below w.heap.size w w' := by
  refine callsIn_of_wp Try.func10 rfl trivial ?_ rfl
  simp only [Try.ntmps10, List.size_toArray, List.length_cons, List.length_nil, Nat.reduceAdd, Nat.reduceSub, Array.replicate_succ, Array.replicate_zero, List.push_toArray, List.append_toArray, List.nil_append, List.cons_append]
  gi_wp2
  refine ⟨trivial, fun h => (by cases h), ?_⟩
  refine callsIn_wide.2 ((fits_to _ _ _ (by omega) (by omega)).mono ?_)
  rintro _ w' ⟨rfl, rfl⟩
  rw [decide_eq_true (by omega)]
  gi_wp2
  refine wpIn_region_tab (n := 8) (by kernel_rfl) rfl stmDeps (by kernel_rfl) (by kernel_rfl)
    (fun L A W => ∃ (b0 b1 b2 b3 b4 b5 b6 b7 : Bool) (v15 v18 v19 : Value), L = [b0, b1, b2, b3, b4, b5, b6, b7] ∧ A = ⟨#[.agg (u8s key), .int .u64 nonce, .int .i64 from_, .int .i64 n, .pointer (some ⟨w.heap.size, 0, none⟩), undef, undef, undef, (bif b7 then v19 else .slice none 0 0), .int .i64 from_, .int .i64 n, .bool true, .bool false, (bif b0 then .agg (u8s key) else undef), (bif b1 then .int .u64 nonce else undef), v15, (bif b3 then .int .i64 from_ else undef), (bif b4 then .int .i64 n else undef), v18, v19], []⟩ ∧ StmSt w key nonce from_ n b2 b5 b6 v15 v18 v19 W ∧ (b7 = true → b6 = true)) ?_ ?_ ?_
  · exact ⟨false, false, false, false, false, false, false, false, _, _, _, rfl, rfl, ⟨Box.new w 22 (u8s key), ((Below.refl w.heap.size w).alloc (Nat.le_refl _) (.cells (u8s key) 22)).drew, nofun, nofun, nofun⟩, nofun⟩
  · intro L A W jx _ hj hfr hdp hI
    obtain ⟨b0, b1, b2, b3, b4, b5, b6, b7, v15, v18, v19, rfl, rfl, I, c76⟩ := hI
    match jx, hj with
    | 0, _ =>
      refine wpOpIn_of rfl (by rfl) (opIn_pure rfl nofun (v := .agg (u8s key)) (exec_load rfl (x := .tmp 4) rfl (I.kb.loadAt Try.underlying22 (by rw [hk]; exact size22))) ?_)
      exact ⟨true, b1, b2, b3, b4, b5, b6, b7, v15, v18, v19, rfl, rfl, I, c76⟩
    | 1, _ =>
      refine wpOpIn_of rfl (by rfl) (opIn_pure rfl nofun (v := .int .u64 nonce) (by rfl) ?_)
      exact ⟨b0, true, b2, b3, b4, b5, b6, b7, v15, v18, v19, rfl, rfl, I, c76⟩
    | 2, _ =>
      obtain rfl : b2 = false := hfr
      obtain rfl : b0 = true := hdp 0 (by decide)
      obtain rfl : b1 = true := hdp 1 (by decide)
      refine wpOpIn_of rfl (by rfl) (opIn_calls rfl (args := #[.agg (u8s key), .int .u64 nonce]) Try.call20 rfl (by simp only [List.map_toArray, List.map_cons, List.map_nil]; rfl) ?_)
      refine (blocks_to W nonce key).mono fun e W' ⟨he, hw⟩ => ⟨_, he, ?_⟩
      obtain ⟨m1, m2, m3⟩ := blocks_mem W nonce key
      rw [← hw] at m1 m2 m3
      have I2 := I.keep m3
      exact ⟨true, true, true, b3, b4, b5, b6, b7, blkF (W.heap.size + 1) W.heap.size, v18, v19, rfl, rfl, { I2 with h2 := fun _ => ⟨_, _, rfl, m1, m2⟩ }, c76⟩
    | 3, _ =>
      refine wpOpIn_of rfl (by rfl) (opIn_pure rfl nofun (v := .int .i64 from_) (by rfl) ?_)
      exact ⟨b0, b1, b2, true, b4, b5, b6, b7, v15, v18, v19, rfl, rfl, I, c76⟩
    | 4, _ =>
      refine wpOpIn_of rfl (by rfl) (opIn_pure rfl nofun (v := .int .i64 n) (by rfl) ?_)
      exact ⟨b0, b1, b2, b3, true, b5, b6, b7, v15, v18, v19, rfl, rfl, I, c76⟩
    | 5, _ =>
      obtain rfl : b5 = false := hfr
      obtain rfl : b4 = true := hdp 4 (by decide)
      refine wpOpIn_of rfl (by rfl) (opIn_pure rfl nofun (v := .slice (some ⟨W.heap.size, 0, none⟩) n n) (exec_make rfl (x := .tmp 17) (y := .tmp 17) rfl rfl (made5 n (by omega) W)) ?_)
      have I2 := I.keep ((Below.refl W.heap.size W).alloc (Nat.le_refl _) (.cells (u8s (List.replicate n 0)) 5))
      exact ⟨b0, b1, b2, b3, true, true, b6, b7, v15, .slice (some ⟨W.heap.size, 0, none⟩) n n, v19, rfl, rfl, { I2 with h5 := fun _ => ⟨_, rfl, Box.new W 5 _⟩ }, c76⟩
    | 6, _ =>
      obtain rfl : b6 = false := hfr
      obtain rfl : b2 = true := hdp 2 (by decide)
      obtain rfl : b3 = true := hdp 3 (by decide)
      obtain rfl : b5 = true := hdp 5 (by decide)
      obtain ⟨gn, gk, rfl, n1, n2⟩ := I.h2 rfl
      obtain ⟨g, rfl, n3⟩ := I.h5 rfl
      refine wpOpIn_of rfl (by rfl) (opIn_calls rfl (args := #[blkF gn gk, .int .i64 from_, .slice (some ⟨g, 0, none⟩) n n]) Try.call19 rfl (by simp only [List.map_toArray, List.map_cons, List.map_nil]; rfl) ?_)
      refine (turn_to W gn gk from_ nonce n n (some ⟨g, 0, none⟩) key (List.replicate n 0) (TxIn.of_arr n3 List.length_replicate (bytes_zero n) (by simp [maxLen]; omega)) hk bk (by omega) (by omega) hN n1 n2 from_ rfl).mono fun e W' ⟨he, ho, k⟩ => ⟨_, he, ?_⟩
      have I2 := I.keep k
      exact ⟨b0, b1, true, true, b4, true, true, b7, blkF gn gk, .slice (some ⟨g, 0, none⟩) n n, .slice (some ⟨W.heap.size + 1, 0, none⟩) n n, rfl, by cases b7 with | false => rfl | true => exact absurd (c76 rfl) (by decide), { I2 with h6 := fun _ => ⟨_, by have := I.bel.size; omega, rfl, ho⟩ }, fun _ => rfl⟩
    | 7, _ =>
      obtain rfl : b7 = false := hfr
      obtain rfl : b6 = true := hdp 6 (by decide)
      refine wpOpIn_of rfl (by rfl) (opIn_pure rfl nofun (v := v19) (by rfl) ?_)
      exact ⟨b0, b1, b2, b3, b4, b5, true, true, v15, v18, v19, rfl, rfl, I, fun _ => rfl⟩
    | jx + 8, h => omega
  · intro L A W _ hall hI
    obtain ⟨b0, b1, b2, b3, b4, b5, b6, b7, v15, v18, v19, rfl, rfl, I, c76⟩ := hI
    simp at hall
    obtain ⟨rfl, rfl, rfl, rfl, rfl, rfl, rfl, rfl⟩ := hall
    obtain ⟨gn, gk, rfl, -, -⟩ := I.h2 rfl
    obtain ⟨g5, rfl, -⟩ := I.h5 rfl
    obtain ⟨g, hg, rfl, ho⟩ := I.h6 rfl
    have hb := I.bel
    clear I c76
    simp only [cond_true]
    gi_wp2
    exact bodyPost_ret (v := .slice (some ⟨g, 0, none⟩) n n) (by simp [results, Try.f10, go_sem]) rfl ⟨g, hg, rfl, ho, hb⟩
theorem Stream_to (w : World) (nonce from_ n : Nat) (key : List Nat) (hk : key.length = 16) (bk : Bytes key) (hN : nonce < 18446744073709551616) (hfit : from_ ≤ 1048576 ∧ n ≤ 1048576 - from_) :
    Calls Try.prog 10 #[.agg (u8s key), .int .u64 nonce, .int .i64 from_, .int .i64 n] w fun e w' => ∃ g, w.heap.size ≤ g ∧ e = .returned (.slice (some ⟨g, 0, none⟩) n n) ∧ Arr w' g 5 (turnL key nonce from_ (List.replicate n 0)) ∧ Below w.heap.size w w' := callsIn_wide.1 (stream_in 0 w nonce from_ n key hk bk hN hfit)
theorem Stream_no (w : World) (nonce : Nat) (a n : Int) (key : List Nat) (h0 : -9223372036854775808 ≤ a) (h1 : a ≤ 9223372036854775807) (hno : ¬ (0 ≤ a ∧ 0 ≤ n ∧ a ≤ 1048576 ∧ n ≤ 1048576 - a)) :
    Calls Try.prog 10 #[.agg (u8s key), .int .u64 nonce, .int .i64 a, .int .i64 n] w fun e w' => e = .returned (.slice none 0 0) ∧ Below w.heap.size w w' := by
  go_enter Try.func10, Try.ntmps10
  go_wp2_with fail
  refine (fits_to _ _ _ h0 h1).mono ?_
  rintro _ w' ⟨rfl, rfl⟩
  rw [decide_eq_false hno]
  go_wp2_with fail
  go_ret
  exact ⟨rfl, (Below.refl _ _).alloc (Nat.le_refl _) _⟩
end Go.Proofs.Ytgdphdnghackfaa
