/- The walk of Rounds (layer 4): a key's rounds. -/
import Derived.Test.YtfkdeekobiknjaaR
namespace Go.Proofs.Ytfkdeekobiknjaa
open Go.RowKit
set_option maxRecDepth 100000 in
set_option maxHeartbeats 1000000 in
theorem Rounds_to (w : World) (key r : List Nat) (hr : rdL key swapT = r) (hk : key.length = 16) (bk : Bytes key) : Calls Try.prog 22 #[.agg (u8s key)] w fun e w' => e = .returned (.agg (u8s r)) ∧ Below w.heap.size w w' := by
  have hrl : r.length = 176 := hr ▸ rdL_len hk bk swapT_bytes
  obtain ⟨hz27, hs27⟩ := zero_of_info info27
  obtain ⟨hz31, hs31⟩ := zero_of_info info31
  have B0 : Below w.heap.size w ((w.alloc (.cells (u8s key) 26)).alloc (.cells Z31 31)) := ((Below.refl _ _).alloc (Nat.le_refl _) _).alloc (by simp) _
  have K0 : Arr ((w.alloc (.cells (u8s key) 26)).alloc (.cells Z31 31)) w.heap.size 26 key := (Box.new w 26 (u8s key)).alloc _
  have R0 : Arr ((w.alloc (.cells (u8s key) 26)).alloc (.cells Z31 31)) (w.heap.size + 1) 31 (List.replicate 176 0) := by
    have h := Box.new (w.alloc (.cells (u8s key) 26)) 31 Z31
    rw [World.size_alloc] at h; exact h
  replace hr := Kp.mk hr
  replace hrl := Kp.mk hrl
  replace hk := Kp.mk hk
  clear hs27 hs31
  go_enter Try.func22, Try.ntmps22
  go_wp2_with fail
  refine (swaps_to _ swapT backT there_is back_is).mono ?_
  rintro _ w1 ⟨rfl, hb1⟩
  have K1 := ((K0.keep hb1 K0.lt).alloc (.cells (u8s swapT) 27)).alloc (.cells (u8s backT) 27)
  have R1 := ((R0.keep hb1 R0.lt).alloc (.cells (u8s swapT) 27)).alloc (.cells (u8s backT) 27)
  have B1 := ((B0.trans (hb1.mono B0.size)).alloc (by have := B0.size; have := hb1.size; omega) (.cells (u8s swapT) 27)).alloc (by have := B0.size; have := hb1.size; simp; omega) (.cells (u8s backT) 27)
  have u1 : (Instr.storeAt 27 (.pointer (some ⟨w1.heap.size, 0, none⟩)) (.agg (u8s swapT))).run Try.prog ((w1.alloc (.cells Z27 27)).alloc (.cells Z27 27)) = .ok () ((w1.alloc (.cells (u8s swapT) 27)).alloc (.cells Z27 27)) := by
    have B5 : Arr ((w1.alloc (.cells Z27 27)).alloc (.cells Z27 27)) w1.heap.size 27 (List.replicate 256 0) := (Box.new w1 27 Z27).alloc _
    have := B5.storeAt (P := Try.prog) (ty := 27) (l' := swapT) (by rw [swapT_len]; exact size27) (by rw [swapT_len]; simp)
    rw [setRow_alloc_far _ _ _ _ (by simp), World.setRow_alloc_new] at this; exact this
  have u2 : (Instr.storeAt 27 (.pointer (some ⟨w1.heap.size + 1, 0, none⟩)) (.agg (u8s backT))).run Try.prog ((w1.alloc (.cells (u8s swapT) 27)).alloc (.cells Z27 27)) = .ok () ((w1.alloc (.cells (u8s swapT) 27)).alloc (.cells (u8s backT) 27)) := by
    have B5 := Box.new (w1.alloc (.cells (u8s swapT) 27)) 27 Z27
    have := Arr.storeAt (l := List.replicate 256 0) B5 (P := Try.prog) (ty := 27) (l' := backT) (by rw [backT_len]; exact size27) (by rw [backT_len]; simp)
    rw [World.setRow_alloc_new, World.size_alloc] at this; exact this
  have u3 := K1.loadAt (P := Try.prog) Try.underlying26 (by rw [hk.out]; exact size26)
  have T0 : Arr ((w1.alloc (.cells (u8s swapT) 27)).alloc (.cells (u8s backT) 27)) w1.heap.size 27 swapT := (Box.new w1 27 (u8s swapT)).alloc _
  replace u1 := Kp.mk u1; replace u2 := Kp.mk u2; replace u3 := Kp.mk u3
  clear K0 R0 B0 hb1 K1
  go_wp2_with ((with_reducible refine wpl_id ?_); first | (refine wpList_store rfl (t := 27) (x := .tmp 3) (y := .tmp 7) rfl rfl rfl u1.out ?_) | (refine wpList_store rfl (t := 27) (x := .tmp 4) (y := .tmp 8) rfl rfl rfl u2.out ?_) | (refine wpList_load rfl (t := 26) (x := .tmp 1) rfl rfl u3.out ?_))
  refine (rounds_to _ _ key swapT r hr.out hk.out swapT_len bk swapT_bytes T0 (rdSt_ok hk.out bk swapT_bytes)).mono ?_
  rintro _ w2 ⟨rfl, hb2⟩
  have R2 := R1.keep hb2 R1.lt
  have u4 := R2.storeAt (P := Try.prog) (ty := 31) (l' := r) (by rw [hrl.out]; exact size31) (by rw [hrl.out]; simp)
  have Z := R2.setRow (l' := r)
  have v3 := Z.load (P := Try.prog) Try.underlying31 (by rw [hrl.out]; exact size31)
  have bel := below_setRow (B1.trans (hb2.mono B1.size)) (g := w.heap.size + 1) (by omega) (u8s r)
  replace u4 := Kp.mk u4; replace v3 := Kp.mk v3
  clear u1 u2 u3 T0 hz27 R1 R2 B1 hb2 Z
  go_wp2_with ((with_reducible refine wpl_id ?_); (refine wpList_store rfl (t := 31) (x := .tmp 2) (y := .tmp 10) rfl rfl rfl u4.out ?_))
  exact bodyPost_ret (v := .agg (u8s r)) (results_cell1 rfl _ _ _ rfl v3.out) rfl ⟨rfl, bel⟩
end Go.Proofs.Ytfkdeekobiknjaa
