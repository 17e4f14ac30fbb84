/- The walk of the document's block (orielref05.block, layer 5). -/
import Derived.Test.YtgdphdnghackfaaR14
import Derived.Test.YtgdphdnghackfaaX
namespace Go.Proofs.Ytgdphdnghackfaa
open Go.RowKit Go.Shelf
structure BrMem (w : World) (r l : List Nat) (W : World) : Prop where
  r : Arr W w.heap.size 54 r
  t : Arr W (w.heap.size + 1) 52 swapT
  z : Arr W (w.heap.size + 2) 22 (List.replicate 16 0)
  b : Arr W (w.heap.size + 3) 22 l
  bel : Below w.heap.size w W
set_option maxRecDepth 100000 in
set_option maxHeartbeats 2000000 in
theorem blockR_to (w : World) (nonce i : Nat) (key r c : List Nat) (hc : blkL key nonce i = c) (hr : rdL key swapT = r) (hk : key.length = 16) (bk : Bytes key) (_hn : nonce < 18446744073709551616) (hi : i < 1073741824) :
    Calls Try.prog 23 #[.agg (u8s r), .agg (u8s swapT), .int .u64 nonce, .int .i64 i] w fun e w' => e = .returned (.agg (u8s c)) ∧ Below w.heap.size w w' := by
  have hrl : r.length = 176 := hr ▸ rdL_len hk bk swapT_bytes
  have hrb : Bytes r := hr ▸ rdL_bytes hk bk swapT_bytes
  have hcl : c.length = 16 := by rw [← hc]; exact (blkL_ok hk bk nonce i).1
  have hcc : hdS r (cbS nonce i 8) 10 = c := by rw [← hc, ← hr]; rfl
  replace hc := Kp.mk hc
  replace hr := Kp.mk hr
  have M0 : BrMem w r (cbS nonce i 0) ((((w.alloc (.cells (u8s r) 54)).alloc (.cells (u8s swapT) 52)).alloc (.cells (u8s (List.replicate 16 0)) 22)).alloc (.cells (u8s (List.replicate 16 0)) 22)) := by
    refine ⟨box_old (box_old (box_old (box_new 54 (u8s r) rfl) _ _) _ _) _ _, box_old (box_old (box_new 52 (u8s swapT) (by simp)) _ _) _ _, box_old (box_new 22 (u8s (List.replicate 16 0)) (by simp)) _ _, box_new 22 (u8s (List.replicate 16 0)) (by simp), ?_⟩
    refine Below.alloc (Below.alloc (Below.alloc (Below.alloc (Below.refl _ _) ?_ _) ?_ _) ?_ _) ?_ _ <;> ((try simp); try omega)
  replace hk := Kp.mk hk
  replace hcc := Kp.mk hcc
  replace hrl := Kp.mk hrl
  replace hcl := Kp.mk hcl
  go_enter Try.func23, Try.ntmps23
  go_wp2_with fail
  go_loopw [10] (fun kk wr => ∃ k : Nat, kk = .int .i64 k ∧ k ≤ 8 ∧ BrMem w r (cbS nonce i k) wr) (fun kk _ => 300 - (intOf kk).toNat)
  case atStart => exact ⟨0, rfl, by omega, M0⟩
  case round =>
    obtain ⟨k, rfl, hk8, M⟩ := hrel
    clear M0
    by_cases hlt : k < 8
    · have hkI : (k : Int) < 8 := by omega
      obtain ⟨l, hl⟩ : ∃ l, cbS nonce i k = l := ⟨_, rfl⟩
      have hll := cbS_len nonce i k
      have hst : Kp (cbS nonce i (k + 1) = (l.set k (nonce / 2 ^ (56 - 8 * k) % 256)).set (8 + k) (i / 2 ^ (56 - 8 * k) % 256)) := ⟨by rw [← hl]; rfl⟩
      rw [hl] at M hll
      have k2 := M.b.cell k (by omega)
      have f2 := M.b.frozen k
      obtain ⟨u, hu⟩ : ∃ u, nonce / 2 ^ (56 - 8 * k) % 256 = u := ⟨_, rfl⟩
      obtain ⟨v, hv⟩ : ∃ u, i / 2 ^ (56 - 8 * k) % 256 = u := ⟨_, rfl⟩
      rw [hu, hv] at hst
      have e1 : (nonce : Int) / 2 ^ (56 - 8 * k) % 256 = (u : Int) := by rw [← hu]; simp
      have e2 : (i : Int) / 2 ^ (56 - 8 * k) % 256 = (v : Int) := by rw [← hv]; simp
      have P1 := M.b.put k u
      have k3 := P1.cell (8 + k) (by rw [List.length_set]; omega)
      have f3 := P1.frozen (8 + k)
      have P2 := P1.put (8 + k) v
      have M2 : BrMem w r ((l.set k u).set (8 + k) v) ((wr.setCell ⟨w.heap.size + 3, k, none⟩ (.int .u8 (u : Nat))).setCell ⟨w.heap.size + 3, 8 + k, none⟩ (.int .u8 (v : Nat))) :=
        ⟨(M.r.far (by simp) _).far (by simp) _, (M.t.far (by simp) _).far (by simp) _, (M.z.far (by simp) _).far (by simp) _, P2, (M.bel.setCell (by simp) _).setCell (by simp) _⟩
      replace hu := Kp.mk hu; replace hv := Kp.mk hv
      obtain ⟨m, hm⟩ : ∃ m, 7 - k = m := ⟨_, rfl⟩
      have x1 : IntKind.i64.wrap (7 - (k : Int)) = (m : Int) := by rw [IntWalk.i64_in _ (by omega)]; omega
      have x2 : IntKind.i64.wrap (8 * (m : Int)) = ((56 - 8 * k : Nat) : Int) := by rw [IntWalk.i64_in _ (by omega)]; omega
      clear hl P1 P2 M
      go_wp2_with fail
      go_roundw
      case rel => exact ⟨k + 1, congrArg (Value.int .i64) (by omega), by omega, by rw [hst.out]; exact M2⟩
      case measure => simp [intOf] <;> omega
    · obtain rfl : k = 8 := by omega
      obtain ⟨l, hl⟩ : ∃ l, cbS nonce i 8 = l := ⟨_, rfl⟩
      have hll : l.length = 16 := hl ▸ cbS_len nonce i 8
      have hlb : Bytes l := hl ▸ cbS_bytes nonce i 8
      have hcc' : hdS r l 10 = c := by rw [← hl]; exact hcc.out
      rw [hl] at M
      have u0 := M.r.loadAt (P := Try.prog) Try.underlying54 (by rw [hrl.out]; exact size54)
      have u1 := M.t.loadAt (P := Try.prog) Try.underlying52 (by rw [swapT_len]; exact size52)
      have u2 := M.b.loadAt (P := Try.prog) Try.underlying22 (by rw [hll]; exact size22)
      replace u0 := Kp.mk u0; replace u1 := Kp.mk u1; replace u2 := Kp.mk u2; replace hcc' := Kp.mk hcc'; replace hll := Kp.mk hll
      clear hl
      go_wp2_with ((with_reducible refine wpl_id ?_); first | (refine wpList_load rfl (t := 54) (x := .tmp 4) rfl rfl u0.out ?_) | (refine wpList_load rfl (t := 52) (x := .tmp 5) rfl rfl u1.out ?_) | (refine wpList_load rfl (t := 22) (x := .tmp 9) rfl rfl u2.out ?_))
      refine (HideR_to _ r l c hcc'.out hrl.out hll.out hrb hlb).mono ?_
      rintro _ w5 ⟨rfl, k5⟩
      have Mz := M.z.keep k5 M.z.lt
      have bel := M.bel.trans (k5.mono M.bel.size)
      have u3 := Mz.storeAt (P := Try.prog) (ty := 22) (l' := c) (by rw [hcl.out]; exact size22) (by rw [hcl.out]; rfl)
      have Z := Mz.setRow (l' := c)
      have u4 := Z.load (P := Try.prog) Try.underlying22 (by rw [hcl.out]; exact size22)
      have bel2 := below_setRow bel (g := w.heap.size + 2) (by omega) (u8s c)
      replace u3 := Kp.mk u3; replace u4 := Kp.mk u4
      clear M u0 u1 u2 Mz k5 bel
      go_wp2_with ((with_reducible refine wpl_id ?_); (refine wpList_store rfl (t := 22) (x := .tmp 8) (y := .tmp 38) rfl rfl rfl u3.out ?_))
      exact bodyPost_ret (v := .agg (u8s c)) (results_cell1 rfl _ _ _ rfl u4.out) rfl ⟨rfl, bel2⟩
end Go.Proofs.Ytgdphdnghackfaa
