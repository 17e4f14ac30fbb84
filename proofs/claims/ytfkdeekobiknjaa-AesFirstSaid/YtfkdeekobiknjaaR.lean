/- The walk of known (layer 4's statements): it is true. -/
import Derived.Test.YtfkdeekobiknjaaQ
namespace Go.Proofs.Ytfkdeekobiknjaa
open Go.RowKit

def kS (m : Nat) : Nat → List Nat
  | 0 => List.replicate 16 0
  | i + 1 => (kS m i).set i (m * i)
theorem kS_len (m i : Nat) : (kS m i).length = 16 := by
  induction i with
  | zero => exact List.length_replicate
  | succ i ih => show (List.set _ _ _).length = _; rw [List.length_set]; exact ih
set_option maxRecDepth 100000 in
theorem known_hide : hideL (kS 1 16) (kS 17 16) = [0x69, 0xc4, 0xe0, 0xd8, 0x6a, 0x7b, 0x04, 0x30, 0xd8, 0xcd, 0xb7, 0x80, 0x70, 0xb4, 0xc5, 0x5a] := by decide +kernel
theorem kS_bytes1 : Bytes (kS 1 16) := by unfold Bytes; decide +kernel
theorem kS_bytes17 : Bytes (kS 17 16) := by unfold Bytes; decide +kernel
structure KnMem (w : World) (a b : List Nat) (W : World) : Prop where
  a : Arr W w.heap.size 26 a
  b : Arr W (w.heap.size + 1) 26 b
  bel : Below w.heap.size w W
set_option maxRecDepth 100000 in
set_option maxHeartbeats 1000000 in
theorem known_to (w : World) : Calls Try.prog 17 #[] w fun e w' => e = .returned (.bool true) ∧ Below w.heap.size w w' := by
  go_enter Try.func17, Try.ntmps17
  go_wp2_with fail
  go_loopw [3] (fun ii wr => ∃ i : Nat, ii = .int .i64 i ∧ i ≤ 16 ∧ KnMem w (kS 1 i) (kS 17 i) wr) (fun ii _ => 300 - (intOf ii).toNat)
  case atStart =>
    refine ⟨0, rfl, by omega, ⟨(Box.new w 26 (u8s (List.replicate 16 0))).alloc _, ?_, (((Below.refl _ _).alloc (Nat.le_refl _) _).alloc (by simp) _)⟩⟩
    have h := Box.new (w.alloc (.cells (u8s (List.replicate 16 0)) 26)) 26 (u8s (List.replicate 16 0))
    rw [World.size_alloc] at h; exact h
  case round =>
    obtain ⟨i, rfl, hi, M⟩ := hrel
    by_cases hi4 : i < 16
    · have hi' : (i : Int) < 16 := by omega
      obtain ⟨l1, hl1⟩ : ∃ l, kS 1 i = l := ⟨_, rfl⟩
      obtain ⟨l2, hl2⟩ : ∃ l, kS 17 i = l := ⟨_, rfl⟩
      have s1 : Kp (kS 1 (i + 1) = l1.set i i) := ⟨by show (kS 1 i).set i (1 * i) = _; rw [hl1, Nat.one_mul]⟩
      have s2 : Kp (kS 17 (i + 1) = l2.set i (17 * i)) := ⟨by show (kS 17 i).set i (17 * i) = _; rw [hl2]⟩
      have h1 : l1.length = 16 := hl1 ▸ kS_len 1 i
      have h2 : l2.length = 16 := hl2 ▸ kS_len 17 i
      rw [hl1, hl2] at M
      have k1 := M.a.cell i (by omega)
      have f1 := M.a.frozen i
      have k2 := (M.b.far (p := ⟨w.heap.size, i, none⟩) (by simp) (.int .u8 (i : Nat))).cell i (by omega)
      have f2 := (M.b.far (p := ⟨w.heap.size, i, none⟩) (by simp) (.int .u8 (i : Nat))).frozen i
      replace h1 := Kp.mk h1
      replace h2 := Kp.mk h2
      clear hl1 hl2
      go_wp2_with fail
      go_roundw
      case rel =>
        refine ⟨i + 1, congrArg (Value.int .i64) (by omega), by omega, ?_⟩
        rw [s1.out, s2.out]
        have e : ((17 * i : Nat) : Int) = 17 * (i : Int) := by omega
        have P1 := (M.b.far (p := ⟨w.heap.size, i, none⟩) (by simp) (.int .u8 (i : Nat))).put i (17 * i)
        rw [e] at P1
        exact ⟨(M.a.put i i).far (by simp) _, P1, (M.bel.setCell (Nat.le_refl _) _).setCell (by simp) _⟩
      case measure => simp [intOf] <;> omega
    · obtain rfl : i = 16 := by omega
      have ha := kS_len 1 16
      have hb := kS_len 17 16
      have v1 := M.a.loadAt (P := Try.prog) Try.underlying26 (by rw [ha]; exact size26)
      have v2 := M.b.loadAt (P := Try.prog) Try.underlying26 (by rw [hb]; exact size26)
      replace v1 := Kp.mk v1
      replace v2 := Kp.mk v2
      replace ha := Kp.mk ha
      replace hb := Kp.mk hb
      have hh := Kp.mk known_hide
      have bel := M.bel
      clear M
      obtain ⟨x, hx⟩ : ∃ x, kS 1 16 = x := ⟨_, rfl⟩
      obtain ⟨y, hy⟩ : ∃ x, kS 17 16 = x := ⟨_, rfl⟩
      have bx : Bytes x := hx ▸ kS_bytes1
      have bY : Bytes y := hy ▸ kS_bytes17
      rw [hx] at v1 ha hh
      rw [hy] at v2 hb hh
      clear hx hy
      obtain ⟨c, hc⟩ : ∃ c : List Nat, [0x69, 0xc4, 0xe0, 0xd8, 0x6a, 0x7b, 0x04, 0x30, 0xd8, 0xcd, 0xb7, 0x80, 0x70, 0xb4, 0xc5, 0x5a] = c := ⟨_, rfl⟩
      rw [hc] at hh
      replace hc := Kp.mk hc
      go_wp2_with ((with_reducible refine wpl_id ?_); first | (refine wpList_load rfl (t := 26) (x := .tmp 1) rfl rfl v1.out ?_) | (refine wpList_load rfl (t := 26) (x := .tmp 2) rfl rfl v2.out ?_))
      refine (hide_to _ x y c hh.out ha.out hb.out bx bY).mono ?_
      rintro _ w5 ⟨rfl, hb5⟩
      have u4 : (Instr.storeAt 26 (.pointer (some ⟨w5.heap.size, 0, none⟩)) (.agg (u8s c))).run Try.prog (w5.alloc (.cells (u8s (List.replicate 16 0)) 26)) = .ok () (w5.alloc (.cells (u8s c) 26)) := by
        have B5 := Box.new w5 26 (u8s (List.replicate 16 0))
        have := Arr.storeAt (l := List.replicate 16 0) B5 (P := Try.prog) (ty := 26) (l' := c) (by rw [← hc.out]; exact size26) (by rw [← hc.out]; simp)
        rw [World.setRow_alloc_new] at this; exact this
      replace u4 := Kp.mk u4
      have B6 : Arr (w5.alloc (.cells (u8s c) 26)) w5.heap.size 26 c := Box.new _ _ _
      have c0 := B6.cell 0 (by rw [← hc.out]; decide)
      have c1 := B6.cell 1 (by rw [← hc.out]; decide)
      have c2 := B6.cell 2 (by rw [← hc.out]; decide)
      have c3 := B6.cell 3 (by rw [← hc.out]; decide)
      rw [show c.getD 0 0 = 0x69 by rw [← hc.out]; rfl] at c0
      rw [show c.getD 1 0 = 0xc4 by rw [← hc.out]; rfl] at c1
      rw [show c.getD 2 0 = 0xe0 by rw [← hc.out]; rfl] at c2
      rw [show c.getD 3 0 = 0xd8 by rw [← hc.out]; rfl] at c3
      have bel2 := (bel.trans (hb5.mono bel.size)).alloc (by have := hb5.size; have := bel.size; omega) (.cells (u8s c) 26)
      clear v1 v2 B6 hb5 bel
      go_wp2_with ((with_reducible refine wpl_id ?_); (refine wpList_store rfl (t := 26) (x := .tmp 4) (y := .tmp 20) rfl rfl rfl u4.out ?_))
      refine (Swap_to 83 _ 237 (by decide +kernel) (by decide)).mono ?_
      rintro _ w6 ⟨rfl, hb6⟩
      have bel3 := bel2.trans (hb6.mono bel2.size)
      clear u4 bel2 hb6 c0 c1 c2 c3
      go_wp2_with fail
      refine (Times_to 87 131 _ 193 (by decide +kernel) (by decide) (by decide)).mono ?_
      rintro _ w7 ⟨rfl, hb7⟩
      have bel4 := bel3.trans (hb7.mono bel3.size)
      clear bel3 hb7
      go_wp2_with fail
      exact bodyPost_ret (v := .bool true) (by simp [results, Try.results17, go_sem]) rfl ⟨rfl, bel4⟩
end Go.Proofs.Ytfkdeekobiknjaa
