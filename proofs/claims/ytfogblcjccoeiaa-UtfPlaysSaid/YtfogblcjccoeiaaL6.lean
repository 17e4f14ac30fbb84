/- The walk of the law UtfNone (layer 10): true for every bytes. -/
import Derived.Test.YtfogblcjccoeiaaL5
namespace Go.Proofs.Ytfogblcjccoeiaa
open Go.RowKit

set_option maxRecDepth 100000 in
set_option maxHeartbeats 1600000 in
theorem none_in (A : Option Addr) (n cap : Nat) (bs : List Nat) (w : World) (hs : Sl w w.heap.size .u8 A n (bs.map Int.ofNat)) (hlt : ∀ x ∈ bs, x < 256) (hnc : n ≤ cap) (hn : n ≤ 500) :
    Calls Try.prog 9 #[.slice A n cap] w fun e w' => e = .returned (.bool true) ∧ Below w.heap.size w w' := by
  have hbl : bs.length = n := by simpa using hs.1
  obtain ⟨l, hl⟩ : ∃ l, decodeL bs = l := ⟨_, rfl⟩
  have hll : l.length ≤ n := by rw [← hl, ← hbl]; exact decodeL_len bs
  obtain ⟨r, hr⟩ : ∃ r, runD D.zero bs = r := ⟨_, rfl⟩
  obtain ⟨d, out⟩ := r
  have hrl := runD_len D.zero bs
  rw [hr, hbl] at hrl
  simp only [] at hrl
  obtain ⟨h, hh⟩ : ∃ x, d.had = x := ⟨_, rfl⟩
  have hD : ∀ W, Sl W W.heap.size .u8 A n (bs.map Int.ofNat) → Calls Try.prog 21 #[.slice A n cap] W (fun r w' => ∃ A cap, r = .returned (.tuple #[.slice A out.length cap, .int .i64 h]) ∧ Own w' W.heap.size 21 .i32 A out.length cap out ∧ Below W.heap.size W w') := fun W hW => by
    have h1 := refDecode_to A n cap bs W hW hlt hnc (by omega)
    unfold RefDec at h1
    rw [hr] at h1
    simp only [hh] at h1
    exact h1
  have g1 : ¬ (500 : Int) < n := by omega
  replace hl := Kp.mk hl
  replace hr := Kp.mk hr
  replace hh := Kp.mk hh
  replace hD := Kp.mk hD
  replace hlt := Kp.mk hlt
  clear hbl
  have hw0 : Below w.heap.size w w := Below.refl _ _
  have hself : ((h : Int) == (h : Int)) = true := by simp
  go_enter Try.func9, Try.ntmps9
  go_wp2_with fail
  refine (known_any _).mono ?_
  rintro _ w0 ⟨rfl, hb0⟩
  have B1 : Box (w0.alloc (.cells D.zero.cells 43)) w0.heap.size 43 D.zero.cells := Box.new _ _ _
  have L1 := hb0.alloc hb0.size (.cells D.zero.cells 43)
  have q0 := hb0.size
  go_wp2_with fail
  refine (Copy_nil _).mono ?_
  rintro _ w2 ⟨rfl, C2, hb2⟩
  rw [World.size_alloc] at C2
  have q2c := C2.lt
  have B2 := B1.keep hb2 B1.lt
  have L2 := L1.trans (hb2.mono (by simp; omega))
  have q2 := hb2.size
  simp at q2
  clear B1 L1 hb2
  go_wp2_with fail
  refine (hD.out _ ((hs.keep L2 (Nat.le_refl _)).more L2.size)).mono ?_
  rintro _ w3 ⟨A3, cap3, rfl, O3, hb3⟩
  have B3 := B2.keep hb3 B2.lt
  have C3 := C2.keep hb3 C2.lt
  have L3 := L2.trans (hb3.mono L2.size)
  have q3 := hb3.size
  go_wp2_with fail
  refine (Put_nil A n cap bs _ _ hl.out ((hs.keep L3 (Nat.le_refl _)).more L3.size) hlt.out (by omega)).mono ?_
  rintro _ w4 ⟨A4, cap4, rfl, O4, hb4⟩
  have B4 := B3.keep hb4 B3.lt
  have C4 := C3.keep hb4 C3.lt
  have D4 := O3.keep hb4 (Nat.le_refl _)
  have L4 := L3.trans (hb4.mono L3.size)
  clear B3 C3 B2 C2 L2 hb3 hb0
  go_wp2_with fail
  refine (all_to A n cap bs _ _ hl.out ((hs.keep L4 (Nat.le_refl _)).more L4.size) hlt.out hnc (by omega)).mono ?_
  rintro _ w5 ⟨A5, cap5, rfl, O5, hb5⟩
  have B5 := B4.keep hb5 B4.lt
  have C5 := C4.keep hb5 C4.lt
  have D5 := D4.keep hb5 (Nat.le_refl _)
  have L5 := L4.trans (hb5.mono L4.size)
  have T4 := (O4.sl.keep hb5 (Nat.le_refl _)).more hb5.size
  have T5 := O5.sl
  clear B4 C4 D4 L3 O3 O4 O5 hb4
  go_wp2_with fail
  refine (Same_to _ _ _ _ _ _ l l _ true (decide_eq_true rfl) T4 T5 (by omega) (by omega)).mono ?_
  rintro _ w6 ⟨rfl, hb6⟩
  have B6 := B5.keep hb6 B5.lt
  have C6 := C5.keep hb6 C5.lt
  have D6 := D5.keep hb6 (Nat.le_refl _)
  have L6 := L5.trans (hb6.mono L5.size)
  clear B5 C5 D5 L4 T4 T5 hb5
  go_wp2_with fail
  refine (Held_nil _).mono ?_
  rintro _ w7 ⟨rfl, hb7⟩
  have B7 := B6.keep hb7 B6.lt
  have C7 := C6.keep hb7 C6.lt
  have D7 := D6.keep hb7 (Nat.le_refl _)
  have L7 := L6.trans (hb7.mono L6.size)
  clear B6 C6 D6 L5 hb6
  go_wp2_with fail
  refine (End_nil _).mono ?_
  rintro _ w8 ⟨rfl, hb8⟩
  have B8 := B7.keep hb8 B7.lt
  have C8 := C7.keep hb8 C7.lt
  have D8 := D7.keep hb8 (Nat.le_refl _)
  have L8 := L7.trans (hb8.mono L7.size)
  have src8 : Src w8 w0.heap.size A n bs := src_of hs L8 q0 hlt.out
  clear B7 C7 D7 L6 L7 hb7 hb8
  go_wp2_with fail
  refine (Put_to D.zero _ _ _ _ bs _ _ hr.out zero_ok B8 src8 (by omega)).mono ?_
  rintro _ w9 ⟨A9, n9, cap9, rfl, M9⟩
  have hol9 := M9.o.len
  have C9 := C8.grown M9.k (by simp)
  have D9 := D8.grown1 M9.k (by omega)
  have L9 := L8.grown M9.k L8.size (by intro k e; simp at e; omega)
  have B9 := M9.b
  have T9 := M9.o.sl
  have U9 := D9.sl
  clear B8 C8 D8 L8 src8 M9
  obtain rfl : n9 = out.length := hol9.symm
  go_wp2_with fail
  refine (Same_to _ _ _ _ _ _ out out _ true (decide_eq_true rfl) T9 U9 (by omega) (by omega)).mono ?_
  rintro _ w10 ⟨rfl, hb10⟩
  have B10 := B9.keep hb10 B9.lt
  have C10 := C9.keep hb10 C9.lt
  have D10 := D9.keep hb10 (Nat.le_refl _)
  have L10 := L9.trans (hb10.mono L9.size)
  clear B9 C9 D9 L9 T9 U9
  go_wp2_with fail
  refine (Held_to d _ _ B10).mono ?_
  rintro _ w11 ⟨rfl, hb11⟩
  have C11 := C10.keep hb11 C10.lt
  have D11 := D10.keep hb11 (Nat.le_refl _)
  have L11 := L10.trans (hb11.mono L10.size)
  have src11 : Src w11 (w0.heap.size + 1) A n bs := src_of hs L11 (by omega) hlt.out
  have hh2 := hh.out
  clear B10 C10 D10 L10 hb10 hb11
  go_wp2_with fail
  refine (Put_to D.zero _ _ _ _ bs _ _ hr.out zero_ok C11 src11 (by omega)).mono ?_
  rintro _ w12 ⟨A12, n12, cap12, rfl, M12⟩
  have hol12 := M12.o.len
  have D12 := D11.grown1 M12.k (by omega)
  have L12 := L11.grown M12.k L11.size (by intro k e; simp at e; omega)
  have B12 := M12.b
  have T12 := M12.o.sl
  have U12 := D12.sl
  clear C11 D11 L11 src11 M12
  obtain rfl : n12 = out.length := hol12.symm
  go_wp2_with fail
  refine (Same_to _ _ _ _ _ _ out out _ true (decide_eq_true rfl) T12 U12 (by omega) (by omega)).mono ?_
  rintro _ w13 ⟨rfl, hb13⟩
  have B13 := B12.keep hb13 B12.lt
  have L13 := L12.trans (hb13.mono L12.size)
  clear B12 D12 L12 T12 U12
  go_wp2_with fail
  refine (Held_to d _ _ B13).mono ?_
  rintro _ w14 ⟨rfl, hb14⟩
  have L14 := L13.trans (hb14.mono L13.size)
  go_wp2_with fail
  exact bodyPost_ret (v := .bool true) (by simp [results, Try.results9, go_sem]) rfl ⟨rfl, L14⟩
set_option maxRecDepth 100000 in
theorem none_any (A : Option Addr) (n cap : Nat) (zs : List Int) (w : World) (hs : SlIn w .u8 A n cap zs) :
    Calls Try.prog 9 #[.slice A n cap] w fun e w' => e = .returned (.bool true) ∧ Below w.heap.size w w' := by
  by_cases h : 500 < (n : Int)
  · go_enter Try.func9, Try.ntmps9
    go_wp2_with fail
    refine (known_any _).mono ?_
    rintro _ w1 ⟨rfl, hb1⟩
    go_wp2_with fail
    exact bodyPost_ret (v := .bool true) (by simp [results, Try.results9, go_sem]) rfl ⟨rfl, hb1⟩
  · obtain ⟨h1, h2, h3, h4⟩ := hs
    obtain ⟨bs, rfl, hb⟩ := nat_bytes zs h4
    exact none_in A n cap bs w h1 hb h2 (by omega)
end Go.Proofs.Ytfogblcjccoeiaa
