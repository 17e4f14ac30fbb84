/- The walks of layer 10: Same and same, End, Decode, Put where there is none, Copy. Printed by genI.py. -/
import Derived.Test.YtfogblcjccoeiaaH
namespace Go.Proofs.Ytfogblcjccoeiaa
open Go.RowKit
theorem below_drewN {B : Nat} {a b : World} (h : Below B a b) (m : Nat) : Below B a (b.drewN m) := ⟨h.os, h.tape, h.output, h.size, h.block⟩

set_option maxRecDepth 100000 in
set_option maxHeartbeats 4000000 in
theorem Same_to (A A' : Option Addr) (n n' cap cap' : Nat) (xs ys : List Int) (w : World) (v : Bool) (hv : decide (xs = ys) = v) (h1 : Sl w w.heap.size .i32 A n xs) (h2 : Sl w w.heap.size .i32 A' n' ys) (hn : n < 2147483648) (hn' : n' < 2147483648) :
    Calls Try.prog 13 #[.slice A n cap, .slice A' n' cap'] w fun e w' => e = .returned (.bool v) ∧ Below w.heap.size w w' := by
  have l1 := h1.1
  have l2 := h2.1
  by_cases hne : n = n'
  · subst hne
    replace hv := Kp.mk hv
    go_enter Try.func13, Try.ntmps13
    go_wp2_with fail
    go_loopw [5] (fun i wr => ∃ k : Nat, i = .int .i64 k ∧ k ≤ n ∧ Kp (∀ j, j < k → xs[j]?.getD 0 = ys[j]?.getD 0) ∧ Below w.heap.size w wr) (fun i _ => n - (intOf i).toNat)
    case atStart => exact ⟨0, rfl, Nat.zero_le _, ⟨fun j hj => absurd hj (Nat.not_lt_zero _)⟩, Below.refl _ _⟩
    case round =>
      obtain ⟨k, rfl, hk, hp, hB⟩ := hrel
      by_cases hlt : k < n
      · obtain ⟨b1, o1, rfl, hb1, hc1⟩ := h1.2 (by omega)
        obtain ⟨b2, o2, rfl, hb2, hc2⟩ := h2.2 (by omega)
        have k1 := (hB.cell (p := ⟨b1, o1 + k, none⟩) hb1).trans (hc1 k hlt)
        have k2 := (hB.cell (p := ⟨b2, o2 + k, none⟩) hb2).trans (hc2 k hlt)
        obtain ⟨x, hx⟩ : ∃ x, xs[k]?.getD 0 = x := ⟨_, rfl⟩
        obtain ⟨y, hy⟩ : ∃ y, ys[k]?.getD 0 = y := ⟨_, rfl⟩
        rw [hx] at k1
        rw [hy] at k2
        replace hx := Kp.mk hx
        replace hy := Kp.mk hy
        clear hc1 hc2
        by_cases hxy : x = y
        · subst hxy
          go_wp2_with fail
          go_quiet (fail)
          go_wp2_with fail
          go_roundw
          case rel =>
            refine ⟨k + 1, by go_num, by omega, ⟨fun j hj => ?_⟩, below_drewN hB _⟩
            rcases Nat.lt_succ_iff_lt_or_eq.1 hj with h | h
            · exact hp.out j h
            · rw [h, hx.out, hy.out]
          case measure => simp [intOf]; omega
        · have hxy' : (x != y) = true := by simp [hxy]
          have hf : Kp (v = false) := ⟨by
            rw [← hv.out]
            refine decide_eq_false fun e => hxy ?_
            rw [← hx.out, ← hy.out, e]⟩
          have hf' := hf.out
          subst hf'
          clear hxy
          go_wp2_with fail
          go_quiet (fail)
          go_wp2_with fail
          go_ret
          exact ⟨rfl, below_drewN hB _⟩
      · have hf : Kp (v = true) := ⟨by
          rw [← hv.out]
          refine decide_eq_true (List.ext_getElem (by omega) fun j g1 g2 => ?_)
          have := hp.out j (by omega)
          rwa [List.getElem?_eq_getElem g1, List.getElem?_eq_getElem g2] at this⟩
        have hf' := hf.out
        subst hf'
        go_wp2_with fail
        go_ret
        exact ⟨rfl, hB⟩
  · have hf : v = false := by rw [← hv]; exact decide_eq_false fun e => hne (by rw [← l1, ← l2, e])
    subst hf
    clear hv
    have hne' : ((n : Int) != n') = true := by simp; omega
    go_enter Try.func13, Try.ntmps13
    go_wp2_with fail
    go_ret
    exact ⟨rfl, Below.refl _ _⟩

set_option maxRecDepth 100000 in
set_option maxHeartbeats 4000000 in
theorem same_to (A A' : Option Addr) (n n' cap cap' : Nat) (xs ys : List Int) (w : World) (v : Bool) (hv : decide (xs = ys) = v) (h1 : Sl w w.heap.size .i32 A n xs) (h2 : Sl w w.heap.size .i32 A' n' ys) (hn : n < 2147483648) (hn' : n' < 2147483648) :
    Calls Try.prog 19 #[.slice A n cap, .slice A' n' cap'] w fun e w' => e = .returned (.bool v) ∧ Below w.heap.size w w' := by
  have l1 := h1.1
  have l2 := h2.1
  by_cases hne : n = n'
  · subst hne
    replace hv := Kp.mk hv
    go_enter Try.func19, Try.ntmps19
    go_wp2_with fail
    go_loopw [5] (fun i wr => ∃ k : Nat, i = .int .i64 k ∧ k ≤ n ∧ Kp (∀ j, j < k → xs[j]?.getD 0 = ys[j]?.getD 0) ∧ Below w.heap.size w wr) (fun i _ => n - (intOf i).toNat)
    case atStart => exact ⟨0, rfl, Nat.zero_le _, ⟨fun j hj => absurd hj (Nat.not_lt_zero _)⟩, Below.refl _ _⟩
    case round =>
      obtain ⟨k, rfl, hk, hp, hB⟩ := hrel
      by_cases hlt : k < n
      · obtain ⟨b1, o1, rfl, hb1, hc1⟩ := h1.2 (by omega)
        obtain ⟨b2, o2, rfl, hb2, hc2⟩ := h2.2 (by omega)
        have k1 := (hB.cell (p := ⟨b1, o1 + k, none⟩) hb1).trans (hc1 k hlt)
        have k2 := (hB.cell (p := ⟨b2, o2 + k, none⟩) hb2).trans (hc2 k hlt)
        obtain ⟨x, hx⟩ : ∃ x, xs[k]?.getD 0 = x := ⟨_, rfl⟩
        obtain ⟨y, hy⟩ : ∃ y, ys[k]?.getD 0 = y := ⟨_, rfl⟩
        rw [hx] at k1
        rw [hy] at k2
        replace hx := Kp.mk hx
        replace hy := Kp.mk hy
        clear hc1 hc2
        by_cases hxy : x = y
        · subst hxy
          go_wp2_with fail
          go_quiet (fail)
          go_wp2_with fail
          go_roundw
          case rel =>
            refine ⟨k + 1, by go_num, by omega, ⟨fun j hj => ?_⟩, below_drewN hB _⟩
            rcases Nat.lt_succ_iff_lt_or_eq.1 hj with h | h
            · exact hp.out j h
            · rw [h, hx.out, hy.out]
          case measure => simp [intOf]; omega
        · have hxy' : (x != y) = true := by simp [hxy]
          have hf : Kp (v = false) := ⟨by
            rw [← hv.out]
            refine decide_eq_false fun e => hxy ?_
            rw [← hx.out, ← hy.out, e]⟩
          have hf' := hf.out
          subst hf'
          clear hxy
          go_wp2_with fail
          go_quiet (fail)
          go_wp2_with fail
          go_ret
          exact ⟨rfl, below_drewN hB _⟩
      · have hf : Kp (v = true) := ⟨by
          rw [← hv.out]
          refine decide_eq_true (List.ext_getElem (by omega) fun j g1 g2 => ?_)
          have := hp.out j (by omega)
          rwa [List.getElem?_eq_getElem g1, List.getElem?_eq_getElem g2] at this⟩
        have hf' := hf.out
        subst hf'
        go_wp2_with fail
        go_ret
        exact ⟨rfl, hB⟩
  · have hf : v = false := by rw [← hv]; exact decide_eq_false fun e => hne (by rw [← l1, ← l2, e])
    subst hf
    clear hv
    have hne' : ((n : Int) != n') = true := by simp; omega
    go_enter Try.func19, Try.ntmps19
    go_wp2_with fail
    go_ret
    exact ⟨rfl, Below.refl _ _⟩


theorem Own.mono {w : World} {base base' n cap : Nat} {e : TypeId} {k : IntKind} {A : Option Addr} {zs : List Int} (h : Own w base e k A n cap zs) (hb : base' ≤ base) : Own w base' e k A n cap zs :=
  ⟨h.1, h.2.imp id fun ⟨g, c, cur, h1, h2, h3⟩ => ⟨g, c, cur, h1, Nat.le_trans hb h2, h3⟩⟩
theorem below_grown {w w' : World} {o : Obj} (h : (w.alloc o).grownBy w' (some w.heap.size)) : Below w.heap.size w w' :=
  ⟨h.os, h.tape, h.output, by have := h.size; simp at this; omega, fun k hk => (h.block k (by simp; omega) (by simp; omega)).trans (Below.heap_alloc w o k hk)⟩
/-- What Put tells. -/
theorem Put_to (d : D) (g : Nat) (A : Option Addr) (n cap : Nat) (bs : List Nat) (w : World) (r : D × List Int) (hr : runD d bs = r) (hd : d.Ok) (hb : Box w g 43 d.cells) (hs : Src w g A n bs) (hn : n ≤ 9000) :
    Calls Try.prog 17 #[.pointer (some ⟨g, 0, none⟩), .slice A n cap] w fun e w' => ∃ A2 n2 cap2, e = .returned (.slice A2 n2 cap2) ∧ St g w r.1 r.2 A2 n2 cap2 w' := by
  refine (Put_there d g A n cap bs w hd hb hs hn).mono ?_
  rintro e w' ⟨A2, n2, cap2, rfl, M⟩
  unfold PutMem at M
  rw [List.take_of_length_le (Nat.le_of_eq hs.len), hr] at M
  exact ⟨A2, n2, cap2, rfl, M⟩

set_option maxRecDepth 100000 in
set_option maxHeartbeats 4000000 in
theorem End_to (d : D) (g : Nat) (w : World) (l : List Int) (hl : endL d = l) (hd : d.Ok) (hb : Box w g 43 d.cells) :
    Calls Try.prog 18 #[.pointer (some ⟨g, 0, none⟩)] w fun e w' => ∃ A2 n2 cap2, e = .returned (.slice A2 n2 cap2) ∧ St g w D.zero l A2 n2 cap2 w' := by
  subst hl
  have hg := hb.lt
  by_cases h0 : d.had = 0
  · have hz : d = D.zero := hd.h.resolve_right (fun h => by omega)
    subst hz
    clear hd
    go_enter Try.func18, Try.ntmps18
    go_wp2_with fail
    refine (Held_to _ g _ hb).mono ?_
    rintro _ w1 ⟨rfl, hb1⟩
    have B1 := hb.keep hb1 hg
    have e1 : ((D.zero.had : Nat) : Int) = 0 := rfl
    go_wp2_with fail
    refine bodyPost_ret (v := .slice none 0 0) (by simp [results, Try.results18, go_sem]) rfl ⟨_, _, _, rfl, B1, Own.nil _ _ _ _, ⟨hb1.os, hb1.tape, hb1.output, hb1.size, fun i hi _ => hb1.block i hi⟩, hg⟩
  · have hel : Kp (endL d = [65533]) := ⟨by unfold endL; rw [if_neg h0]⟩
    rw [hel.out]
    clear hd
    go_enter Try.func18, Try.ntmps18
    go_wp2_with fail
    refine (Held_to _ g _ hb).mono ?_
    rintro _ w1 ⟨rfl, hb1⟩
    have B1 := hb.keep hb1 hg
    have e1 : ((d.had : Nat) : Int) ≠ 0 := by omega
    have f0 := B1.frozen 0; have f1 := B1.frozen 1; have f2 := B1.frozen 2; have f3 := B1.frozen 3; have f4 := B1.frozen 4
    have c0 := B1.cell 0; have c1 := B1.cell 1; have c2 := B1.cell 2; have c3 := B1.cell 3; have c4 := B1.cell 4
    simp [D.cells] at c0 c1 c2 c3 c4
    have hg1 := B1.lt
    have K1 : w.grownBy w1 (some g) := ⟨hb1.os, hb1.tape, hb1.output, hb1.size, fun i hi _ => hb1.block i hi⟩
    have M1 : St g w d [] none 0 0 w1 := ⟨B1, Own.nil _ _ _ _, K1, hg⟩
    have M2 := M1.cleared
    have hO := Own.lit (base := w.heap.size) (((((w1.setCell ⟨g, 0, none⟩ (.int .i32 0)).setCell ⟨g, 1, none⟩ (.int .i64 0)).setCell ⟨g, 2, none⟩ (.int .i64 0)).setCell ⟨g, 3, none⟩ (.int .u8 0)).setCell ⟨g, 4, none⟩ (.int .u8 0)) 21 .i32 [65533] #[.int .i32 65533] rfl M2.k.size (by simp [maxLen])
    clear hb1 K1 M1 hel
    go_wp2_with fail
    refine bodyPost_ret (v := .slice (some ⟨w1.heap.size, 0, none⟩) 1 1) (by simp [results, Try.results18, go_sem]) rfl ⟨_, _, _, rfl, M2.b.alloc _, by simpa using hO, M2.k.trans (World.grownBy_alloc _ _ _), hg⟩
theorem End_nil (w : World) : Calls Try.prog 18 #[.pointer none] w fun e w' => e = .returned (.slice none 0 0) ∧ Below w.heap.size w w' := by
  go_enter Try.func18, Try.ntmps18
  go_wp2_with fail
  refine (Held_nil _).mono ?_
  rintro _ w1 ⟨rfl, hb1⟩
  go_wp2_with fail
  refine bodyPost_ret (v := .slice none 0 0) (by simp [results, Try.results18, go_sem]) rfl ⟨rfl, hb1⟩

set_option maxRecDepth 100000 in
set_option maxHeartbeats 4000000 in
theorem Decode_to (A : Option Addr) (n cap : Nat) (bs : List Nat) (w : World) (l : List Int) (hl : decodeL bs = l) (hs : Sl w w.heap.size .u8 A n (bs.map Int.ofNat)) (hlt : ∀ x ∈ bs, x < 256) (hn : n ≤ 9000) :
    Calls Try.prog 14 #[.slice A n cap] w (NewRow 21 .i32 l w) := by
  subst hl
  obtain ⟨i0, hi, hz0, hz1, hz2⟩ := info_parts info21
  obtain ⟨r, hr⟩ : ∃ r, runD D.zero bs = r := ⟨_, rfl⟩
  have hrl := runD_len D.zero bs
  have hbl : bs.length = n := by simpa using hs.1
  have hd : decodeL bs = r.2 ++ endL r.1 := by unfold decodeL; rw [hr]
  have hok : r.1.Ok := hr ▸ runD_ok zero_ok bs
  rw [hr] at hrl
  rw [hd]
  clear hd
  replace hr := Kp.mk hr
  have hS : Src (w.alloc (.cells D.zero.cells 43)) w.heap.size A n bs :=
    ⟨(hs.keep ((Below.refl _ _).alloc (Nat.le_refl _) _) (Nat.le_refl _)).more (by simp), fun h0 b o e => by
      intro hbg
      obtain ⟨b', o', e', hb', _⟩ := hs.2 h0
      rw [e'] at e; simp at e <;> omega, hlt⟩
  go_enter Try.func14, Try.ntmps14
  go_wp2_with fail
  refine (New_to _).mono ?_
  rintro _ w1 ⟨rfl, rfl⟩
  go_wp2_with fail
  refine (Put_to D.zero _ A n cap bs _ r hr.out zero_ok (Box.new _ _ _) hS hn).mono ?_
  rintro _ w2 ⟨A2, n2, cap2, rfl, M⟩
  go_wp2_with fail
  refine (End_to r.1 _ _ _ rfl hok M.b).mono ?_
  rintro _ w3 ⟨A3, n3, cap3, rfl, M3⟩
  have hel : (endL r.1).length ≤ 1 := by unfold endL; split <;> simp
  have O2 := M.o.grown1 M3.k M.g
  have K2 := M.k.trans M3.k
  have n2e := M.o.len
  have n3e := M3.o.len
  have hz := K2.size
  simp at hz
  go_wp2_with (at_builtin; refine wpList_append_ints rfl _ _ 27 rfl (w.alloc (.cells D.zero.cells 43)).heap.size 21 i0 (.int .i32 0) 4 Try.underlying27 hi hz0 hz1 hz2 rfl .i32 _ _ _ _ rfl O2 _ _ _ _ _ rfl M3.o.sl ?c1 ?c2 ?c3 ?_)
  case c1 => unfold maxLen; omega
  case c2 => omega
  case c3 => simp; omega
  intro A4 cap4 w4 hown hgrow _
  have hr4 : ∀ j, (Value.slice A2 n2 cap2).ownBlock = some j → (w.alloc (.cells D.zero.cells 43)).heap.size ≤ j := fun j hj => (World.ownsRow.lt O2 j hj).1
  have K4 := World.grownBy.andThen K2 hgrow (fun j hj => .inl (hr4 j hj))
  have hB := below_grown K4
  have hlen : (r.2 ++ endL r.1).length = n2 + n3 := by simp; omega
  have O4 : Own w4 w.heap.size 21 .i32 A4 (r.2 ++ endL r.1).length cap4 (r.2 ++ endL r.1) := by rw [hlen]; exact hown.mono (by simp)
  go_wp2_with fail
  refine bodyPost_ret (v := .slice A4 (n2 + n3) cap4) (by simp [results, Try.results14, go_sem]) rfl ⟨A4, cap4, by rw [hlen], O4, hB⟩

theorem Put_nil (A : Option Addr) (n cap : Nat) (bs : List Nat) (w : World) (l : List Int) (hl : decodeL bs = l) (hs : Sl w w.heap.size .u8 A n (bs.map Int.ofNat)) (hlt : ∀ x ∈ bs, x < 256) (hn : n ≤ 9000) :
    Calls Try.prog 17 #[.pointer none, .slice A n cap] w (NewRow 21 .i32 l w) := by
  go_enter Try.func17, Try.ntmps17
  go_wp2_with fail
  refine (Decode_to A n cap bs _ l hl hs hlt hn).mono ?_
  rintro _ w1 ⟨A2, cap2, rfl, hO, hB⟩
  go_wp2_with fail
  exact bodyPost_ret (v := .slice A2 l.length cap2) (by simp [results, Try.results17, go_sem]) rfl ⟨_, _, rfl, hO, hB⟩

theorem Copy_to (d : D) (g : Nat) (w : World) (hb : Box w g 43 d.cells) : Calls Try.prog 22 #[.pointer (some ⟨g, 0, none⟩)] w fun e w' => e = .returned (.pointer (some ⟨w.heap.size, 0, none⟩)) ∧ Box w' w.heap.size 43 d.cells ∧ Below w.heap.size w w' := by
  have c0 := hb.cell 0; have c1 := hb.cell 1; have c2 := hb.cell 2; have c3 := hb.cell 3; have c4 := hb.cell 4
  simp [D.cells] at c0 c1 c2 c3 c4
  have hl := hb.lt
  go_enter Try.func22, Try.ntmps22
  go_wp2_with fail
  exact bodyPost_ret (v := .pointer (some ⟨w.heap.size, 0, none⟩)) (by simp [results, Try.results22, go_sem]) rfl ⟨rfl, Box.new _ _ _, (Below.refl _ _).alloc (Nat.le_refl _) _⟩
theorem Copy_nil (w : World) : Calls Try.prog 22 #[.pointer none] w fun e w' => e = .returned (.pointer (some ⟨w.heap.size, 0, none⟩)) ∧ Box w' w.heap.size 43 D.zero.cells ∧ Below w.heap.size w w' := by
  go_enter Try.func22, Try.ntmps22
  go_wp2_with fail
  refine (New_to _).mono ?_
  rintro _ w1 ⟨rfl, rfl⟩
  go_wp2_with fail
  exact bodyPost_ret (v := .pointer (some ⟨w.heap.size, 0, none⟩)) (by simp [results, Try.results22, go_sem]) rfl ⟨rfl, Box.new _ _ _, (Below.refl _ _).alloc (Nat.le_refl _) _⟩
end Go.Proofs.Ytfogblcjccoeiaa
