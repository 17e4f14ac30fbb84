/- The walks of ctr's blocks (layer 5): a stream's block. -/
import Derived.Test.YtgdphdnghackfaaQ
namespace Go.Proofs.Ytgdphdnghackfaa
open Go.RowKit
/-- A block of the stream ahead of hiding: the nonce's bytes and the number's, k of each. -/
def cbS (nonce i : Nat) : Nat → List Nat
  | 0 => List.replicate 16 0
  | k + 1 => ((cbS nonce i k).set k (nonce / 2 ^ (56 - 8 * k) % 256)).set (8 + k) (i / 2 ^ (56 - 8 * k) % 256)
def blkL (key : List Nat) (nonce i : Nat) : List Nat := hideL key (cbS nonce i 8)
theorem cbS_len (nonce i k : Nat) : (cbS nonce i k).length = 16 := by
  induction k with
  | zero => exact List.length_replicate
  | succ k ih => show (List.set (List.set _ _ _) _ _).length = _; rw [List.length_set, List.length_set]; exact ih
theorem cbS_bytes (nonce i k : Nat) : Bytes (cbS nonce i k) := by
  induction k with
  | zero => intro x hx; have := List.eq_of_mem_replicate hx; omega
  | succ k ih => exact (ih.set _ (Nat.mod_lt _ (by decide))).set _ (Nat.mod_lt _ (by decide))
theorem blkL_ok {key : List Nat} (hk : key.length = 16) (bk : Bytes key) (nonce i : Nat) : (blkL key nonce i).length = 16 ∧ Bytes (blkL key nonce i) := by
  obtain ⟨l, hl⟩ : ∃ l, cbS nonce i 8 = l := ⟨_, rfl⟩
  obtain ⟨r, hr⟩ : ∃ r, rdL key swapT = r := ⟨_, rfl⟩
  have h := hdS_ok (r := r) (b := l) (hr ▸ rdL_bytes hk bk swapT_bytes) (hl ▸ cbS_len nonce i 8) (hl ▸ cbS_bytes nonce i 8) 10
  unfold blkL hideL
  rw [hl, hr]
  exact h
structure CbMem (w : World) (gn gk nonce : Nat) (key l : List Nat) (W : World) : Prop where
  n : Box W gn 23 #[.int .u64 (nonce : Nat)]
  key : Arr W gk 22 key
  z : Arr W w.heap.size 22 (List.replicate 16 0)
  b : Arr W (w.heap.size + 1) 22 l
  bel : Below w.heap.size w W
set_option maxRecDepth 100000 in
set_option maxHeartbeats 2000000 in
theorem block_to (w : World) (gn gk nonce i : Nat) (key c : List Nat) (hc : blkL key nonce i = c) (hk : key.length = 16) (bk : Bytes key) (_hn : nonce < 18446744073709551616) (hi : i < 1073741824) (hN : Box w gn 23 #[.int .u64 (nonce : Nat)]) (hK : Arr w gk 22 key) :
    Calls Try.prog 27 #[.int .i64 i, .pointer (some ⟨gn, 0, none⟩), .pointer (some ⟨gk, 0, none⟩)] w fun e w' => e = .returned (.agg (u8s c)) ∧ Below w.heap.size w w' := by
  replace hc := Kp.mk hc
  have hgn := hN.lt
  have hgk := hK.lt
  have M0 : CbMem w gn gk nonce key (cbS nonce i 0) ((w.alloc (.cells (u8s (List.replicate 16 0)) 22)).alloc (.cells (u8s (List.replicate 16 0)) 22)) := by
    refine ⟨(hN.alloc _).alloc _, (hK.alloc _).alloc _, (Box.new w 22 _).alloc _, ?_, ((Below.refl _ _).alloc (Nat.le_refl _) _).alloc (by simp) _⟩
    have h := Box.new (w.alloc (.cells (u8s (List.replicate 16 0)) 22)) 22 (u8s (List.replicate 16 0))
    rw [World.size_alloc] at h; exact h
  replace hk := Kp.mk hk
  clear hN hK
  go_enter Try.func27, Try.ntmps27
  go_wp2_with fail
  go_loopw [7] (fun kk wr => ∃ k : Nat, kk = .int .i64 k ∧ k ≤ 8 ∧ CbMem w gn gk nonce key (cbS nonce i k) wr) (fun kk _ => 300 - (intOf kk).toNat)
  case atStart => exact ⟨0, rfl, by omega, M0⟩
  case round =>
    obtain ⟨k, rfl, hk8, M⟩ := hrel
    clear M0
    by_cases hlt : k < 8
    · have hkI : (k : Int) < 8 := by omega
      obtain ⟨l, hl⟩ : ∃ l, cbS nonce i k = l := ⟨_, rfl⟩
      have hll := cbS_len nonce i k
      have hst : Kp (cbS nonce i (k + 1) = (l.set k (nonce / 2 ^ (56 - 8 * k) % 256)).set (8 + k) (i / 2 ^ (56 - 8 * k) % 256)) := ⟨by rw [← hl]; rfl⟩
      rw [hl] at M hll
      have k1 := M.n.cell 0
      have k1' : wr.cell? ⟨gn, 0, none⟩ = some (.int .u64 (nonce : Nat)) := k1
      have k2 := M.b.cell k (by omega)
      have f2 := M.b.frozen k
      obtain ⟨u, hu⟩ : ∃ u, nonce / 2 ^ (56 - 8 * k) % 256 = u := ⟨_, rfl⟩
      obtain ⟨v, hv⟩ : ∃ u, i / 2 ^ (56 - 8 * k) % 256 = u := ⟨_, rfl⟩
      rw [hu, hv] at hst
      have e1 : (nonce : Int) / 2 ^ (56 - 8 * k) % 256 = (u : Int) := by rw [← hu]; simp
      have e2 : (i : Int) / 2 ^ (56 - 8 * k) % 256 = (v : Int) := by rw [← hv]; simp
      have P1 := M.b.put k u
      have k3 := P1.cell (8 + k) (by rw [List.length_set]; omega)
      have f3 := P1.frozen (8 + k)
      have P2 := P1.put (8 + k) v
      have M2 : CbMem w gn gk nonce key ((l.set k u).set (8 + k) v) ((wr.setCell ⟨w.heap.size + 1, k, none⟩ (.int .u8 (u : Nat))).setCell ⟨w.heap.size + 1, 8 + k, none⟩ (.int .u8 (v : Nat))) :=
        ⟨(M.n.far (by simp; omega) _).far (by simp; omega) _, (M.key.far (by simp; omega) _).far (by simp; omega) _, (M.z.far (by simp) _).far (by simp) _, P2, (M.bel.setCell (by simp) _).setCell (by simp) _⟩
      replace hu := Kp.mk hu; replace hv := Kp.mk hv
      clear k1 hl P1 P2 M
      go_wp2_with fail
      go_roundw
      case rel => exact ⟨k + 1, congrArg (Value.int .i64) (by omega), by omega, by rw [hst.out]; exact M2⟩
      case measure => simp [intOf] <;> omega
    · obtain rfl : k = 8 := by omega
      obtain ⟨l, hl⟩ : ∃ l, cbS nonce i 8 = l := ⟨_, rfl⟩
      have hll : l.length = 16 := hl ▸ cbS_len nonce i 8
      have hlb : Bytes l := hl ▸ cbS_bytes nonce i 8
      have hcc : hideL key l = c := by rw [← hl]; exact hc.out
      rw [hl] at M
      have u1 := M.key.loadAt (P := Try.prog) Try.underlying22 (by rw [hk.out]; exact size22)
      have u2 := M.b.loadAt (P := Try.prog) Try.underlying22 (by rw [hll]; exact size22)
      replace u1 := Kp.mk u1; replace u2 := Kp.mk u2; replace hcc := Kp.mk hcc; replace hll := Kp.mk hll
      clear hl
      go_wp2_with ((with_reducible refine wpl_id ?_); first | (refine wpList_load rfl (t := 22) (x := .tmp 2) rfl rfl u1.out ?_) | (refine wpList_load rfl (t := 22) (x := .tmp 5) rfl rfl u2.out ?_))
      refine (hide_to _ key l c hcc.out hk.out hll.out bk hlb).mono ?_
      rintro _ w5 ⟨rfl, k5⟩
      have hcl : c.length = 16 := by rw [← hc.out]; exact (blkL_ok hk.out bk nonce i).1
      have Mz := M.z.keep k5 M.z.lt
      have bel := M.bel.trans (k5.mono M.bel.size)
      have u3 := Mz.storeAt (P := Try.prog) (ty := 22) (l' := c) (by rw [hcl]; exact size22) (by rw [hcl]; rfl)
      have Z := Mz.setRow (l' := c)
      have u4 := Z.load (P := Try.prog) Try.underlying22 (by rw [hcl]; exact size22)
      have bel2 := below_setRow bel (g := w.heap.size) (by omega) (u8s c)
      replace u3 := Kp.mk u3; replace u4 := Kp.mk u4; replace hcl := Kp.mk hcl
      clear M u1 u2 Mz k5 bel
      go_wp2_with ((with_reducible refine wpl_id ?_); (refine wpList_store rfl (t := 22) (x := .tmp 4) (y := .tmp 31) rfl rfl rfl u3.out ?_))
      exact bodyPost_ret (v := .agg (u8s c)) (results_cell1 rfl _ _ _ rfl u4.out) rfl ⟨rfl, bel2⟩
theorem blocks_to (w : World) (nonce : Nat) (key : List Nat) :
    Calls Try.prog 20 #[.agg (u8s key), .int .u64 nonce] w fun e w' => e = .returned (.func (.func 27) #[] #[.pointer (some ⟨w.heap.size + 1, 0, none⟩), .pointer (some ⟨w.heap.size, 0, none⟩)]) ∧ w' = (w.alloc (.cells (u8s key) 22)).alloc (.cells #[.int .u64 nonce] 23) := by
  have hmf : ∀ (fn : Fn) (first cap : Array Value) (w : World), (Instr.makeFunc fn first cap).run Try.prog w = .ok (.func fn first cap) w := fun _ _ _ _ => rfl
  go_enter Try.func20, Try.ntmps20
  go_wp2_with fail
  go_ret
  exact ⟨rfl, rfl⟩
theorem walk_to (w : World) (gn gk : Nat) (a m : Int) :
    Calls Try.prog 25 #[.func (.func 27) #[] #[.pointer (some ⟨gn, 0, none⟩), .pointer (some ⟨gk, 0, none⟩)], .int .i64 a, .int .i64 m] w fun e w' => e = .returned (.func (.func 32) #[] #[.pointer (some ⟨w.heap.size + 1 + 1, 0, none⟩), .pointer (some ⟨w.heap.size + 1, 0, none⟩), .pointer (some ⟨w.heap.size, 0, none⟩)]) ∧
      w' = ((w.alloc (.cells #[.func (.func 27) #[] #[.pointer (some ⟨gn, 0, none⟩), .pointer (some ⟨gk, 0, none⟩)]] 38)).alloc (.cells #[.int .i64 a] 3)).alloc (.cells #[.int .i64 m] 3) := by
  have hmf : ∀ (fn : Fn) (first cap : Array Value) (w : World), (Instr.makeFunc fn first cap).run Try.prog w = .ok (.func fn first cap) w := fun _ _ _ _ => rfl
  go_enter Try.func25, Try.ntmps25
  go_wp2_with fail
  go_ret
  exact ⟨rfl, rfl⟩
end Go.Proofs.Ytgdphdnghackfaa
