/- The walk of known (layer 10). -/
import Derived.Test.YtfogblcjccoeiaaJ
namespace Go.Proofs.Ytfogblcjccoeiaa
open Go.RowKit

theorem src_lit (W : World) (g : Nat) (bs : List Nat) (cs : Array Value) (hcs : cs.toList = (bs.map Int.ofNat).map (Value.int .u8)) (hg : g ≠ W.heap.size) (hlt : ∀ x ∈ bs, x < 256) (hn : bs.length ≤ 9000) :
    Src (W.alloc (.cells cs 5)) g (some ⟨W.heap.size, 0, none⟩) bs.length bs := by
  have h := (Own.lit (base := 0) W 5 .u8 (bs.map Int.ofNat) cs hcs (Nat.zero_le _) (by simp [maxLen]; omega)).sl
  refine ⟨by simpa using h, fun _ b o e => ?_, hlt⟩
  simp at e; omega
theorem sl_lit (W : World) (e : TypeId) (k : IntKind) (zs : List Int) (cs : Array Value) (hcs : cs.toList = zs.map (Value.int k)) (hn : zs.length ≤ 9000) :
    Sl (W.alloc (.cells cs e)) (W.alloc (.cells cs e)).heap.size k (some ⟨W.heap.size, 0, none⟩) zs.length zs :=
  (Own.lit (base := 0) W e k zs cs hcs (Nat.zero_le _) (by simp [maxLen]; omega)).sl
theorem grown_of_below {w w' : World} (h : Below w.heap.size w w') (r : Option Nat) : w.grownBy w' r := ⟨h.os, h.tape, h.output, h.size, fun i hi _ => h.block i hi⟩
def d226 : D := ⟨2, 1, 3, 128, 191⟩
theorem r226 : runD D.zero [226] = (d226, []) := by decide
theorem r130 : runD d226 [130, 172] = (D.zero, [8364]) := by decide
theorem d226_ok : d226.Ok := ⟨.inr (by decide)⟩
theorem form233 : formL 233 = [195, 169] := by decide
theorem dec195 : decodeL [195, 97] = [65533, 97] := by decide
theorem str195 : strOfNums [195, 169] = { data := #[195, 169] } := by rfl

set_option maxRecDepth 100000 in
set_option maxHeartbeats 4000000 in
theorem known_any (w : World) : Calls Try.prog 12 #[] w fun e w' => e = .returned (.bool true) ∧ Below w.heap.size w w' := by
  go_enter Try.func12, Try.ntmps12
  go_wp2_with fail
  refine (New_to _).mono ?_
  rintro _ w1 ⟨rfl, hw1⟩
  have B0 : Box w1 w.heap.size 43 D.zero.cells := by rw [hw1]; exact Box.new _ _ _
  have K0 : (w.alloc (.cells D.zero.cells 43)).grownBy w1 (some w.heap.size) := by rw [hw1]; exact World.grownBy.refl _ _
  generalize hO : Obj.cells D.zero.cells 43 = o0 at K0
  clear hw1 hO
  have z1 := B0.lt
  go_wp2_with fail
  refine (Put_to D.zero _ _ 1 _ [226] _ _ r226 zero_ok (B0.alloc _) (src_lit w1 _ [226] _ rfl (by omega) (by simp) (by simp)) (by omega)).mono ?_
  rintro _ w2 ⟨A2, n2, cap2, rfl, M2⟩
  obtain rfl : 0 = n2 := M2.o.len
  have K2 := (K0.trans (World.grownBy_alloc w1 _ _)).trans M2.k
  have z2 := M2.b.lt
  clear K0 B0
  go_wp2_with fail
  refine (Put_to d226 _ _ 2 _ [130, 172] _ _ r130 d226_ok (M2.b.alloc _) (src_lit w2 _ [130, 172] _ rfl (by omega) (by simp) (by simp)) (by omega)).mono ?_
  rintro _ w3 ⟨A3, n3, cap3, rfl, M3⟩
  obtain rfl : 1 = n3 := M3.o.len
  have K3 := (K2.trans (World.grownBy_alloc w2 _ _)).trans M3.k
  have H3 := below_grown K3
  clear K2 K3 M2
  have s3 := M3.o.sl
  clear M3
  go_wp2_with fail
  refine (Same_to _ _ 1 1 _ _ [8364] [8364] _ true (by decide) (s3.keep' (fun p hp => (World.cell?_alloc_lt _ _ _ hp)) |>.more (by simp)) (sl_lit w3 21 .i32 [8364] _ rfl (by simp)) (by omega) (by omega)).mono ?_
  rintro _ w4 ⟨rfl, H4⟩
  have L4 := H3.trans ((((Below.refl w3.heap.size w3).alloc (Nat.le_refl _) _).trans (H4.mono (by simp))).mono H3.size)
  clear H4 H3 s3
  go_wp2_with fail
  refine (Form_to 233 _).mono ?_
  rintro _ w5 ⟨A5, cap5, rfl, O5, H5⟩
  have L5 := L4.trans (H5.mono L4.size)
  clear H5 L4
  have q5 : (convert 22 9 (.slice A5 2 cap5)).run Try.prog w5 = .ok (.string { data := #[195, 169] }) w5 := by
    have := strOf (cap := cap5) O5.sl
    rw [form233, str195] at this
    exact this
  have l5 : (formL 233).length = 2 := by rw [form233]; rfl
  rw [l5] at *
  clear O5 l5
  go_wp2_with fail
  refine (Decode_to _ 2 _ [195, 97] _ _ dec195 (src_lit w5 (w5.heap.size + 1) [195, 97] _ rfl (by omega) (by simp) (by simp)).s (by simp) (by omega)).mono ?_
  rintro _ w6 ⟨A6, cap6, rfl, O6, H6⟩
  have L6 := L5.trans ((((Below.refl w5.heap.size w5).alloc (Nat.le_refl _) _).trans (H6.mono (by simp))).mono L5.size)
  have s6 := O6.sl
  clear H6 L5 O6
  go_wp2_with fail
  refine (Same_to _ _ 2 2 _ _ [65533, 97] [65533, 97] _ true (by decide) (s6.keep' (fun p hp => (World.cell?_alloc_lt _ _ _ hp)) |>.more (by simp)) (sl_lit w6 21 .i32 [65533, 97] _ rfl (by simp)) (by omega) (by omega)).mono ?_
  rintro _ w7 ⟨rfl, H7⟩
  have L7 := L6.trans ((((Below.refl w6.heap.size w6).alloc (Nat.le_refl _) _).trans (H7.mono (by simp))).mono L6.size)
  clear H7 L6
  go_wp2_with fail
  exact bodyPost_ret (v := .bool true) (by simp [results, Try.results12, go_sem]) rfl ⟨rfl, L7⟩
end Go.Proofs.Ytfogblcjccoeiaa
