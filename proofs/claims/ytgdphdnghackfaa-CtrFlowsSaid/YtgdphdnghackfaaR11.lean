/- The walks of ctr's fits, Turn and Stream (layer 5). -/
import Derived.Test.YtgdphdnghackfaaR7
namespace Go.Proofs.Ytgdphdnghackfaa
open Go.RowKit Go.Shelf
attribute [local go_sem] Oper.semAt_some
/-- A slice of bytes that holds the text tx. -/
structure TxIn (w : World) (A : Option Addr) (n cap : Nat) (tx : List Nat) : Prop where
  len : tx.length = n
  b : Bytes tx
  sl : SlIn w .u8 A n cap (tx.map fun (x : Nat) => (x : Int))
theorem TxIn.keep {w w' : World} {A : Option Addr} {n cap : Nat} {tx : List Nat} (h : TxIn w A n cap tx) {B : Nat} (k : Below B w w') (hB : w.heap.size ≤ B) : TxIn w' A n cap tx :=
  ⟨h.len, h.b, (h.sl.1.keep k hB).more k.size, h.sl.2.1, h.sl.2.2.1, h.sl.2.2.2⟩
theorem tx_wf {tx : List Nat} (b : Bytes tx) : ∀ z ∈ tx.map (fun (x : Nat) => (x : Int)), (Lit.int .u8 z).wf = true := by
  intro z hz
  obtain ⟨x, hx, rfl⟩ := List.mem_map.1 hz
  have := b x hx
  have e1 : IntKind.u8.min = 0 := rfl
  have e2 : IntKind.u8.max = 255 := rfl
  simp [Lit.wf, e1, e2]
  omega
theorem tx_getD (tx : List Nat) (j : Nat) (h : j < tx.length) : (tx.map (fun (x : Nat) => (x : Int)))[j]?.getD 0 = ((tx.getD j 0 : Nat) : Int) := by
  simp [List.getD_eq_getElem?_getD, h]
theorem TxIn.nil (w : World) : TxIn w none 0 0 [] := ⟨rfl, fun x hx => (by cases hx), SlIn.of_nil w .u8⟩
theorem TxIn.of_arr {w : World} {g : Nat} {l : List Nat} {n : Nat} (h : Arr w g 5 l) (hn : l.length = n) (b : Bytes l) (hm : n ≤ maxLen) : TxIn w (some ⟨g, 0, none⟩) n n l := by
  refine ⟨hn, b, ⟨by simpa using hn, fun _ => ⟨g, 0, rfl, h.lt, fun i hi => ?_⟩⟩, Nat.le_refl _, hm, tx_wf b⟩
  rw [Nat.zero_add, tx_getD l i (by omega)]
  exact h.cell i (by omega)
theorem turnL_len (key : List Nat) (nonce from_ : Nat) (tx : List Nat) : (turnL key nonce from_ tx).length = tx.length := by simp [turnL]
theorem sb_lt {key : List Nat} (hk : key.length = 16) (bk : Bytes key) (nonce p : Nat) : sb key nonce p < 256 := (blkL_ok hk bk nonce (p / 16)).2.get _
theorem turnL_bytes {key : List Nat} (hk : key.length = 16) (bk : Bytes key) (nonce from_ : Nat) {tx : List Nat} (bt : Bytes tx) : Bytes (turnL key nonce from_ tx) := by
  intro x hx
  obtain ⟨j, _, rfl⟩ := List.mem_map.1 hx
  exact xor_lt (bt.get _) (sb_lt hk bk nonce _)
theorem turn_to (w : World) (gn gk from_ nonce n cap : Nat) (A : Option Addr) (key tx : List Nat) (h : TxIn w A n cap tx) (hk : key.length = 16) (bk : Bytes key) (hn : n ≤ 1100000) (hf : from_ < 1100000) (hN : nonce < 18446744073709551616)
    (hb : Box w gn 23 #[.int .u64 (nonce : Nat)]) (hK : Arr w gk 22 key) (z : Int) (hz : z = (from_ : Int)) :
    Calls Try.prog 19 #[blkF gn gk, .int .i64 z, .slice A n cap] w fun e w' => e = .returned (.slice (some ⟨w.heap.size + 1, 0, none⟩) n n) ∧ Arr w' (w.heap.size + 1) 5 (turnL key nonce from_ tx) ∧ Below w.heap.size w w' := by
  subst hz
  exact callsIn_wide.1 (turn_in 3 w gn gk from_ nonce n cap A key _ tx h.len (fun j hj => tx_getD tx j (by rw [h.len]; exact hj)) h.b hk bk hn hf hN hb hK h.sl (Nat.le_refl _))
theorem fits_to (w : World) (a n : Int) (h0 : -9223372036854775808 ≤ a) (h1 : a ≤ 9223372036854775807) :
    Calls Try.prog 18 #[.int .i64 a, .int .i64 n] w fun e w' => e = .returned (.bool (decide (0 ≤ a ∧ 0 ≤ n ∧ a ≤ 1048576 ∧ n ≤ 1048576 - a))) ∧ w' = w := by
  by_cases ha : 0 ≤ a
  · by_cases hn : 0 ≤ n
    · by_cases hl : a ≤ 1048576
      · by_cases hm : n ≤ 1048576 - a
        · have hsub := IntWalk.i64_in (1048576 - a) (by omega)
          rw [decide_eq_true (by omega)]
          go_enter Try.func18, Try.ntmps18
          go_wp2_with fail
          go_ret
          exact ⟨rfl, rfl⟩
        · have hsub := IntWalk.i64_in (1048576 - a) (by omega)
          rw [decide_eq_false (by omega)]
          go_enter Try.func18, Try.ntmps18
          go_wp2_with fail
          go_ret
          exact ⟨rfl, rfl⟩
      · rw [decide_eq_false (by omega)]
        go_enter Try.func18, Try.ntmps18
        go_wp2_with fail
        go_ret
        exact ⟨rfl, rfl⟩
    · rw [decide_eq_false (by omega)]
      go_enter Try.func18, Try.ntmps18
      go_wp2_with fail
      go_ret
      exact ⟨rfl, rfl⟩
  · rw [decide_eq_false (by omega)]
    go_enter Try.func18, Try.ntmps18
    go_wp2_with fail
    go_ret
    exact ⟨rfl, rfl⟩
theorem blocks_mem (w : World) (nonce : Nat) (key : List Nat) : Box ((w.alloc (.cells (u8s key) 22)).alloc (.cells #[.int .u64 nonce] 23)) (w.heap.size + 1) 23 #[.int .u64 (nonce : Nat)] ∧ Arr ((w.alloc (.cells (u8s key) 22)).alloc (.cells #[.int .u64 nonce] 23)) w.heap.size 22 key ∧ Below w.heap.size w ((w.alloc (.cells (u8s key) 22)).alloc (.cells #[.int .u64 nonce] 23)) :=
  ⟨box_new 23 _ (by simp), box_old (Box.new w 22 (u8s key)) _ _, ((Below.refl _ _).alloc (Nat.le_refl _) _).alloc (by simp) _⟩
set_option maxRecDepth 100000 in
set_option maxHeartbeats 1000000 in
theorem Turn_to (w : World) (nonce n cap : Nat) (A : Option Addr) (key tx : List Nat) (h : TxIn w A n cap tx) (hk : key.length = 16) (bk : Bytes key) (hn : n ≤ 1100000) (hN : nonce < 18446744073709551616) :
    Calls Try.prog 12 #[.agg (u8s key), .int .u64 nonce, .slice A n cap] w fun e w' => ∃ g, w.heap.size ≤ g ∧ e = .returned (.slice (some ⟨g, 0, none⟩) n n) ∧ Arr w' g 5 (turnL key nonce 0 tx) ∧ Below w.heap.size w w' := by
  have A0 : Arr (w.alloc (.cells (u8s key) 22)) w.heap.size 22 key := Box.new w 22 (u8s key)
  have u1 : (Instr.loadAt 22 (.pointer (some ⟨w.heap.size, 0, none⟩))).run Try.prog (w.alloc (.cells (u8s key) 22)) = .ok (.agg (u8s key)) (w.alloc (.cells (u8s key) 22)) := A0.loadAt Try.underlying22 (by rw [hk]; exact size22)
  clear A0
  replace u1 := Kp.mk u1
  go_enter Try.func12, Try.ntmps12
  go_wp2_with ((with_reducible refine wpl_id ?_); (refine wpList_load rfl (t := 22) (x := .tmp 3) rfl rfl u1.out ?_))
  refine (blocks_to _ nonce key).mono ?_
  rintro _ w' ⟨rfl, rfl⟩
  obtain ⟨m1, m2, m3⟩ := blocks_mem (w.alloc (.cells (u8s key) 22)) nonce key
  have m0 := ((Below.refl w.heap.size w).alloc (Nat.le_refl _) (.cells (u8s key) 22))
  have m4 := m0.trans (m3.mono m0.size)
  rw [World.size_alloc] at m1 m2
  generalize (((w.alloc (.cells (u8s key) 22)).alloc (.cells (u8s key) 22)).alloc (.cells #[.int .u64 nonce] 23)) = w2 at m1 m2 m3 m4 ⊢
  clear u1
  go_wp2_with fail
  refine (turn_to w2 _ _ 0 nonce n cap A key tx (h.keep m4 (Nat.le_refl _)) hk bk hn (by omega) hN m1 m2 0 rfl).mono ?_
  rintro _ w3 ⟨rfl, ho, hb⟩
  go_wp2_with fail
  go_ret
  exact ⟨_, by have := m4.size; omega, rfl, ho, m4.trans (hb.mono m4.size)⟩
end Go.Proofs.Ytgdphdnghackfaa
