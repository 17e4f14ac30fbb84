/- The walk of the law UtfPlays (layer 10): true for every operations. -/
import Derived.Test.YtfogblcjccoeiaaS
namespace Go.Proofs.Ytfogblcjccoeiaa
open Go.RowKit

set_option maxRecDepth 100000 in
set_option maxHeartbeats 1600000 in
theorem plays_any (A : Option Addr) (n cap : Nat) (w : World) (hops : OpsIn w A n) :
    Calls Try.prog 8 #[.slice A n cap] w fun e w' => e = .returned (.bool true) ∧ Below w.heap.size w w' := by
  obtain ⟨i5, hi5, hy0, hy1, hy2⟩ := info_parts info5
  replace hops := Kp.mk hops
  go_enter Try.func8, Try.ntmps8
  go_wp2_with fail
  refine (known_any _).mono ?_
  rintro _ w1 ⟨rfl, hb1⟩
  go_wp2_with fail
  refine (New_to _).mono ?_
  rintro _ w2 ⟨rfl, hw2⟩
  have M0 : PlMem w1 D.zero w1.heap.size [] none 0 0 w2 := by
    rw [hw2]; exact ⟨zero_ok, heldIs_nil, by simp, Box.new _ _ _, (Own.nil w1 w1.heap.size 5 .u8).alloc _, Nat.le_refl _, (Below.refl _ _).alloc (Nat.le_refl _) _⟩
  clear hw2
  go_wp2_with fail
  go_loopw [3, 4, 5, 6] (fun dd hh nn ii wr => ∃ (d : D) (g : Nat) (hb : List Nat) (A2 : Option Addr) (m cap2 t i : Nat), dd = .pointer (some ⟨g, 0, none⟩) ∧ hh = .slice A2 m cap2 ∧ nn = .int .i64 t ∧ ii = .int .i64 i ∧ (t ≤ 2000 ∧ i ≤ n) ∧ PlMem w1 d g hb A2 m cap2 wr) (fun _ _ _ ii _ => n - (intOf ii).toNat)
  case atStart => exact ⟨D.zero, w1.heap.size, [], none, 0, 0, 0, 0, rfl, rfl, rfl, rfl, ⟨by omega, by omega⟩, M0⟩
  case round =>
    obtain ⟨d, g, hb, A2, m, cap2, t, i, rfl, rfl, rfl, rfl, ⟨ht, hin⟩, M⟩ := hrel
    have L0 := hb1.trans (M.bel.mono hb1.size)
    by_cases hi : i < n
    · obtain ⟨b, o, rfl, hbw, hcell⟩ := hops.out (by omega)
      obtain ⟨k, A1, L, C, zs, hk0, hk1, ⟨hS, hLC, hCm, hwf⟩⟩ := hcell i hi
      obtain ⟨bs, rfl, hbs⟩ := nat_bytes zs hwf
      have hc0 := (L0.cell (p := ⟨b, o + i * 2, none⟩) hbw).trans hk0
      have hc1 := (L0.cell (p := ⟨b, o + i * 2 + 1, none⟩) hbw).trans hk1
      have hiI : (i : Int) < n := by omega
      clear hk0 hcell hwf M0
      replace hk1 := Kp.mk hk1
      by_cases h60 : 60 ≤ (i : Int)
      · go_wp2_with fail
        exact bodyPost_ret (v := .bool true) (by simp [results, Try.results8, go_sem]) rfl ⟨rfl, L0⟩
      by_cases hL : (2000 : Int) - t < L
      · go_wp2_with fail
        exact bodyPost_ret (v := .bool true) (by simp [results, Try.results8, go_sem]) rfl ⟨rfl, L0⟩
      have tI : (t : Int) ≤ 2000 := by omega
      by_cases hk : k = 0 ∨ k = 1 ∨ k = 2
      rotate_left
      · have e0 : (k == 0) = false := by simp; omega
        have e1 : (k == 1) = false := by simp; omega
        have e2 : (k == 2) = false := by simp; omega
        have hhad : (d.had : Int) = m := by rw [M.held.had, M.len]
        go_wp2_with fail
        refine (Held_to d _ _ M.box).mono ?_
        rintro _ w3 ⟨rfl, hb3⟩
        have M3 := M.keep hb3
        go_wp2_with fail
        go_roundw
        case rel => exact ⟨d, g, hb, A2, m, cap2, t, i + 1, rfl, rfl, rfl, congrArg (Value.int .i64) (by omega), ⟨by omega, by omega⟩, M3⟩
        case measure => simp [intOf] <;> omega
      · rcases hk with rfl | rfl | rfl
        · have hSw := (hS.keep L0 (Nat.le_refl _)).more L0.size
          have hbl : bs.length = L := by simpa using hS.1
          have hml := M.len
          have hms := M.short
          have hgl := M.box.lt
          obtain ⟨r, hr⟩ : ∃ r, runD d bs = r := ⟨_, rfl⟩
          have hrr : runD D.zero (hb ++ bs) = (r.1, r.2) := by rw [runD_append, M.held.run, hr]; rfl
          obtain ⟨p, tl, hpt, hheld⟩ := held_run M.held bs
          rw [hr] at hheld
          have hok : r.1.Ok := hr ▸ runD_ok M.ok bs
          have hrl : r.2.length ≤ 2 * L := by have := runD_len d bs; rw [hr, hbl] at this; exact this
          obtain ⟨kp, hkp⟩ : ∃ k, r.1.had = k := ⟨_, rfl⟩
          obtain ⟨pl, hpl⟩ : ∃ k, p.length = k := ⟨_, rfl⟩
          have hkt : tl.length = kp := by rw [← hkp]; exact hheld.had.symm
          obtain ⟨N, hN⟩ : ∃ N, m + L = N := ⟨_, rfl⟩
          have hNp : N = pl + kp := by
            have := congrArg List.length hpt
            rw [List.length_append, List.length_append] at this; omega
          have hbyte : ∀ x ∈ hb ++ bs, x < 256 := fun x hx => by
            rcases List.mem_append.1 hx with h | h
            · exact M.byte x h
            · exact hbs x h
          have htb : ∀ x ∈ tl, x < 256 := fun x hx => hbyte x (by rw [hpt]; exact List.mem_append_right p hx)
          have hdrop : ((hb ++ bs).map Int.ofNat).drop pl = tl.map Int.ofNat := by rw [hpt, List.map_append, List.drop_left' (by rw [List.length_map]; exact hpl)]
          have tL : (t : Int) + L ≤ 2000 := by omega
          have q1 := M.bel.size
          have q0 := hb1.size
          replace hr := Kp.mk hr; replace hrr := Kp.mk hrr; replace hkp := Kp.mk hkp; replace hdrop := Kp.mk hdrop
          replace hbyte := Kp.mk hbyte; replace htb := Kp.mk htb; replace hheld := Kp.mk hheld; replace hok := Kp.mk hok
          replace hkt := Kp.mk hkt; replace hNp := Kp.mk hNp; replace hml := Kp.mk hml; replace hbl := Kp.mk hbl
          clear hpt hpl
          go_wp2_with (at_builtin; refine wpList_append_ints rfl _ _ 22 rfl w1.heap.size 5 i5 (.int .u8 0) 1 Try.underlying22 hi5 hy0 hy1 hy2 rfl .u8 _ _ _ _ rfl M.own _ _ _ _ _ rfl hSw ?c1 ?c2 ?c3 ?_)
          case c1 => unfold maxLen; omega
          case c2 => omega
          intro B1 bap1 z1 hown hgrow hor
          clear hor
          rw [← List.map_append] at hown
          replace hN := Kp.mk hN
          have bel1 := M.bel.grown hgrow q1 (own_base M.own)
          have L1 := hb1.trans (bel1.mono q0)
          have box1 : Box z1 g 43 d.cells := M.box.grown hgrow (Ne.symm (Own.ne_box M.own M.box))
          have hcap1 := hown.capLe
          have hRD := refDecode_to B1 N bap1 (hb ++ bs) z1 hown.sl hbyte.out hcap1 (by have := hN.out; omega)
          unfold RefDec at hRD
          rw [hrr.out] at hRD
          simp only [hkp.out] at hRD
          replace hRD := Kp.mk hRD
          clear hgrow hc1 hSw
          go_wp2_with fail
          refine hRD.out.mono ?_
          rintro _ z2 ⟨A7, cap7, rfl, O7, hb7⟩
          have L2 := L1.trans (hb7.mono L1.size)
          have hc1 := (L2.cell (p := ⟨b, o + i * 2 + 1, none⟩) hbw).trans hk1.out
          have box2 := box1.keep hb7 box1.lt
          have own2 := hown.keep hb7 (Nat.le_refl _)
          have bel2 := bel1.trans (hb7.mono bel1.size)
          have src2 : Src z2 g A1 L bs := src_of hS L2 (by have := M.ge; omega) hbs
          have g1lt := box1.lt
          clear hRD hown box1 bel1 L1 hb7
          go_wp2_with fail
          refine (Put_to d g A1 L C bs _ r hr.out M.ok box2 src2 (by omega)).mono ?_
          rintro _ z3 ⟨A8, n8, cap8, rfl, P8⟩
          have O8 := O7.grown1 P8.k (by omega)
          have own3 := World.ownsRow.kept own2 P8.k (.inr (Own.ne_box own2 box2))
          have bel3 := bel2.grown P8.k bel2.size (by intro j e; simp at e; have := M.ge; omega)
          have box3 := P8.b
          have T8 := P8.o.sl
          have U8 := O8.sl
          obtain rfl : n8 = r.2.length := P8.o.len.symm
          have hge := M.ge
          clear P8 O7 O8 own2 bel2 box2 src2 hc1 M L2
          go_wp2_with fail
          refine (Same_to _ _ _ _ _ _ r.2 r.2 _ true (decide_eq_true rfl) T8 U8 (by omega) (by omega)).mono ?_
          rintro _ z4 ⟨rfl, hb9⟩
          have own4 := Own.keep own3 hb9 (Nat.le_refl _)
          have bel4 := bel3.trans (hb9.mono bel3.size)
          have box4 := box3.keep hb9 box3.lt
          have q4 := bel4.size
          have g4lt := box4.lt
          have e7 : (N : Int) - kp = pl := by have := hNp.out; omega
          have e8 : (pl : Int) ≤ N := by have := hNp.out; omega
          have e9 : (N : Int) ≤ bap1 := by omega
          have e10 : (N : Int) ≤ 4000 := by have := hN.out; omega
          have ONew : Own (z4.alloc (.cells #[] 5)) w1.heap.size 5 .u8 (some ⟨z4.heap.size, 0, none⟩) 0 0 [] := World.ownsRow_made z4 #[] 0 q4 (by simp [maxLen]) rfl
          have HA : Below z4.heap.size z4 (z4.alloc (.cells #[] 5)) := (Below.refl _ _).alloc (Nat.le_refl _) _
          have S4 := (own4.sl.keep HA (Nat.le_refl _)).more HA.size
          have bel5 := bel4.trans (HA.mono q4)
          have box5 := box4.keep HA box4.lt
          have hfin : ∀ (B2 : Option Addr) (bap2 : Nat) (z6 : World), Own z6 w1.heap.size 5 .u8 B2 kp bap2 (tl.map Int.ofNat) → (z4.alloc (.cells #[] 5)).grownBy z6 (Value.slice (some ⟨z4.heap.size, 0, none⟩) 0 0).ownBlock → PlMem w1 r.1 g tl B2 kp bap2 z6 := fun B2 bap2 z6 ho hg =>
            ⟨hok.out, hheld.out, htb.out, box5.grown hg (by simp [Value.ownBlock]; omega), ho, hge, bel5.grown hg (by simp; omega) (own_base ONew)⟩
          have hhad : (r.1.had : Int) = kp := by rw [hkp.out]
          replace hfin := Kp.mk hfin
          have hform := own4.form
          clear own3 bel3 box3 T8 U8 hb9 bel4 box4 bel5 box5 HA own4
          have hNk : N - pl = kp := by have := hNp.out; omega
          replace hNk := Kp.mk hNk
          have hNk2 := hNk.out
          have hNp2 := hNp.out
          rcases hform with ⟨rfl, hN0, hc0'⟩ | ⟨gB, rfl, hgB1, hgB2⟩
          · subst hN0 hc0'
            obtain rfl : pl = 0 := by omega
            obtain rfl : kp = 0 := by omega
            have M6 := hfin.out (some ⟨z4.heap.size, 0, none⟩) 0 (z4.alloc (.cells #[] 5)) (by obtain rfl : tl = [] := List.length_eq_zero_iff.1 hkt.out; exact ONew) (World.grownBy.refl _ _)
            clear hNk2 hNp2 S4 ONew e10
            go_wp2_with fail
            refine (Held_to r.1 _ _ M6.box).mono ?_
            rintro _ z7 ⟨rfl, hb10⟩
            have M7 := M6.keep hb10
            go_wp2_with fail
            go_roundw
            case rel => exact ⟨r.1, g, tl, _, 0, 0, t + L, i + 1, rfl, rfl, congrArg (Value.int .i64) (by omega), congrArg (Value.int .i64) (by omega), ⟨by omega, by omega⟩, M7⟩
            case measure => simp [intOf] <;> omega
          · by_cases hz : bap1 - pl = 0
            · obtain rfl : kp = 0 := by omega
              obtain rfl : pl = N := by omega
              have S5 : Sl (z4.alloc (.cells #[] 5)) (z4.alloc (.cells #[] 5)).heap.size .u8 (some ⟨gB, 0, none⟩) 0 (tl.map Int.ofNat) := by
                obtain rfl : tl = [] := List.length_eq_zero_iff.1 hkt.out
                exact Sl.nil _ _ _ _
              clear hNk2 hNp2 S4 e7 e8
              go_wp2_with (at_builtin; refine wpList_append_ints rfl _ _ 22 rfl w1.heap.size 5 i5 (.int .u8 0) 1 Try.underlying22 hi5 hy0 hy1 hy2 rfl .u8 _ _ _ _ rfl ONew _ _ _ _ _ rfl S5 ?d1 ?d2 ?d3 ?_)
              case d1 => unfold maxLen; omega
              case d2 => omega
              case d3 => simp; omega
              intro B2 bap2 z6 hown2 hgrow2 hor2
              clear hor2
              have M6 := hfin.out B2 bap2 z6 (by simpa using hown2) (by simpa using hgrow2)
              clear hown2 hgrow2 ONew S5
              go_wp2_with fail
              refine (Held_to r.1 _ _ M6.box).mono ?_
              rintro _ z7 ⟨rfl, hb10⟩
              have M7 := M6.keep hb10
              go_wp2_with fail
              go_roundw
              case rel => exact ⟨r.1, g, tl, B2, 0, bap2, t + L, i + 1, rfl, rfl, congrArg (Value.int .i64) (by omega), congrArg (Value.int .i64) (by omega), ⟨by omega, by omega⟩, M7⟩
              case measure => simp [intOf] <;> omega
            · have hz2 : 0 < bap1 - pl := by omega
              have S5 := S4.drop (c := pl) (by omega)
              rw [hdrop.out, Nat.zero_add, hNk2] at S5
              clear hNp2 S4 hz
              go_wp2_with (at_builtin; refine wpList_append_ints rfl _ _ 22 rfl w1.heap.size 5 i5 (.int .u8 0) 1 Try.underlying22 hi5 hy0 hy1 hy2 rfl .u8 _ _ _ _ rfl ONew _ _ _ _ _ rfl S5 ?e1 ?e2 ?e3 ?_)
              case e1 => (have := hNp.out; have := hN.out; unfold maxLen; omega)
              case e2 => (have := hNp.out; have := hN.out; omega)
              case e3 => simp; omega
              intro B2 bap2 z6 hown2 hgrow2 hor2
              clear hor2
              have M6 := hfin.out B2 bap2 z6 (by simpa using hown2) (by simpa using hgrow2)
              clear hown2 hgrow2 ONew S5
              go_wp2_with fail
              refine (Held_to r.1 _ _ M6.box).mono ?_
              rintro _ z7 ⟨rfl, hb10⟩
              have M7 := M6.keep hb10
              go_wp2_with fail
              go_roundw
              case rel => exact ⟨r.1, g, tl, B2, kp, bap2, t + L, i + 1, rfl, rfl, congrArg (Value.int .i64) (by omega), congrArg (Value.int .i64) (by omega), ⟨by omega, by omega⟩, M7⟩
              case measure => simp [intOf] <;> omega
        · by_cases hb0 : hb = []
          · obtain rfl : d = D.zero := M.held.zero hb0
            subst hb0
            obtain rfl : m = 0 := by have := M.len; simpa using this.symm
            go_wp2_with fail
            refine (End_to D.zero _ _ [] rfl zero_ok M.box).mono ?_
            rintro _ w3 ⟨A3, n3, cap3, rfl, P3⟩
            obtain rfl : n3 = 0 := by simpa using P3.o.len.symm
            have M3 : PlMem w1 D.zero g [] none 0 0 w3 := ⟨zero_ok, heldIs_nil, by simp, P3.b, Own.nil _ _ _ _, M.ge, M.bel.grown P3.k M.bel.size (by intro j e; simp at e; have := M.ge; omega)⟩
            clear P3 M
            have e9 : ((D.zero.had : Nat) : Int) = 0 := rfl
            go_wp2_with fail
            refine (Held_to D.zero _ _ M3.box).mono ?_
            rintro _ w4 ⟨rfl, hb4⟩
            have M4 := M3.keep hb4
            go_wp2_with fail
            go_roundw
            case rel => exact ⟨D.zero, g, [], none, 0, 0, t, i + 1, rfl, rfl, rfl, congrArg (Value.int .i64) (by omega), ⟨by omega, by omega⟩, M4⟩
            case measure => simp [intOf] <;> omega
          · have hend : endL d = [65533] := by rw [endL_held M.held, if_neg hb0]
            have hm0 : 0 < m := by rw [← M.len]; exact List.length_pos_iff.2 hb0
            have e4 : ((m : Int) == 0) = false := by simp; omega
            have e5 : (0 : Int) < m := by omega
            go_wp2_with fail
            refine (End_to d _ _ [65533] hend M.ok M.box).mono ?_
            rintro _ w3 ⟨A3, n3, cap3, rfl, P3⟩
            obtain rfl : n3 = 1 := by simpa using P3.o.len.symm
            have M3 : PlMem w1 D.zero g [] none 0 0 w3 := ⟨zero_ok, heldIs_nil, by simp, P3.b, Own.nil _ _ _ _, M.ge, M.bel.grown P3.k M.bel.size (by intro j e; simp at e; have := M.ge; omega)⟩
            have HA : Below w3.heap.size w3 (w3.alloc (.cells #[.int .i32 65533] 21)) := (Below.refl _ _).alloc (Nat.le_refl _) _
            have T3 := (P3.o.sl.keep HA (Nat.le_refl _)).more HA.size
            have U3 := sl_lit w3 21 .i32 [65533] #[.int .i32 65533] rfl (by simp)
            have M4 := M3.keep HA
            clear P3 M M3
            have e9 : ((D.zero.had : Nat) : Int) = 0 := rfl
            go_wp2_with fail
            refine (Same_to _ _ _ _ _ _ [65533] [65533] _ true (decide_eq_true rfl) T3 U3 (by omega) (by simp)).mono ?_
            rintro _ w4 ⟨rfl, hb4⟩
            have M5 := M4.keep hb4
            clear M4 T3 U3 HA
            go_wp2_with fail
            refine (Held_to D.zero _ _ M5.box).mono ?_
            rintro _ w5 ⟨rfl, hb5⟩
            have M6 := M5.keep hb5
            go_wp2_with fail
            go_roundw
            case rel => exact ⟨D.zero, g, [], none, 0, 0, t, i + 1, rfl, rfl, rfl, congrArg (Value.int .i64) (by omega), ⟨by omega, by omega⟩, M6⟩
            case measure => simp [intOf] <;> omega
        · have hhad : (d.had : Int) = m := by rw [M.held.had, M.len]
          obtain ⟨r, hr⟩ : ∃ r, runD d [240, 144] = r := ⟨_, rfl⟩
          replace hr := Kp.mk hr
          go_wp2_with fail
          refine (Copy_to d g _ M.box).mono ?_
          rintro _ w3 ⟨rfl, hbox, hb3⟩
          have M3 := M.keep hb3
          have hgl := M.box.lt
          have M4 : PlMem w1 d g hb A2 m cap2 (w3.alloc (.cells #[.int .u8 240, .int .u8 144] 5)) := M3.keep ((Below.refl _ _).alloc (Nat.le_refl _) _)
          have hbox4 := hbox.alloc (.cells #[.int .u8 240, .int .u8 144] 5)
          have hsrc := src_lit w3 g [240, 144] #[.int .u8 240, .int .u8 144] rfl (by have := M3.box.lt; omega) (by simp) (by simp)
          have q3 := hb3.size
          have q4 := M.bel.size
          clear M3 hbox hb3
          go_wp2_with fail
          refine (Put_to d g _ _ _ [240, 144] _ r hr.out M4.ok M4.box hsrc (by simp)).mono ?_
          rintro _ w5 ⟨A5, n5, cap5, rfl, P5⟩
          have hbox5 := hbox4.grown P5.k (by simp; omega)
          have own5 := World.ownsRow.kept M4.own P5.k (.inr (Own.ne_box M4.own M4.box))
          have bel5 := M4.bel.grown P5.k M4.bel.size (by intro j e; simp at e; have := M4.ge; omega)
          have M5 : PlMem w1 d _ hb A2 m cap2 w5 := ⟨M4.ok, M4.held, M4.byte, hbox5, own5, q4, bel5⟩
          clear P5 M4 M hbox4 hbox5 own5 bel5 hsrc
          go_wp2_with fail
          refine (Held_to d _ _ M5.box).mono ?_
          rintro _ w6 ⟨rfl, hb6⟩
          have M6 := M5.keep hb6
          go_wp2_with fail
          go_roundw
          case rel => exact ⟨d, _, hb, A2, m, cap2, t, i + 1, rfl, rfl, rfl, congrArg (Value.int .i64) (by omega), ⟨by omega, by omega⟩, M6⟩
          case measure => simp [intOf] <;> omega
    · obtain rfl : i = n := by omega
      go_wp2_with fail
      exact bodyPost_ret (v := .bool true) (by simp [results, Try.results8, go_sem]) rfl ⟨rfl, L0⟩
end Go.Proofs.Ytfogblcjccoeiaa
