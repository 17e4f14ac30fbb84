/- The walks of the document's answer (layer 10): begins, Decode, all. -/
import Derived.Test.YtfogblcjccoeiaaP
import Derived.Test.YtfogblcjccoeiaaL3
namespace Go.Proofs.Ytfogblcjccoeiaa
open Go.RowKit

set_option maxRecDepth 100000 in
set_option maxHeartbeats 1600000 in
theorem begins_to (b o m cap : Nat) (bs : List Nat) (w : World) (v : Bool) (hv : beginsN bs = v) (hs : Sl w w.heap.size .u8 (some ⟨b, o, none⟩) m (bs.map Int.ofNat)) (hlt : ∀ x ∈ bs, x < 256) (h0 : 0 < m) (hm : m ≤ 9000) :
    Calls Try.prog 26 #[.slice (some ⟨b, o, none⟩) m cap] w fun e w' => e = .returned (.bool v) ∧ Below w.heap.size w w' := by
  have hS := rdSrc hs hlt h0
  obtain ⟨x0, hx0⟩ : ∃ x, bs.getD 0 0 = x := ⟨_, rfl⟩
  have c0 := hS.cell w (Below.refl _ _) 0 h0
  rw [hx0, Nat.add_zero] at c0
  have hm0 : (0 : Int) < m := by omega
  obtain ⟨r, hr⟩ : ∃ r, readN bs = r := ⟨_, rfl⟩
  obtain ⟨r1, r2, r3⟩ := r
  obtain ⟨z, hz⟩ : ∃ z, sizeN x0 = z := ⟨_, rfl⟩
  have hv2 : (!r3 && decide (r2 = m) && decide (m < z) && decide (1 < m ∨ (194 ≤ x0 ∧ x0 ≤ 244))) = v := by
    rw [← hv, ← hz, ← hx0, ← hS.len]; unfold beginsN; rw [hr]
  have hR := read_to b o m cap bs w _ hr hs hlt h0 hm
  replace hR := Kp.mk hR
  have hsI : (sizeN x0 : Int) = z := by rw [hz]
  have hx8 : x0 < 256 := hx0 ▸ hS.byte 0
  have hcell := Kp.mk hS.cell
  replace hsI := Kp.mk hsI
  replace hv2 := Kp.mk hv2
  clear hv hr hz hx0 hS hs hlt
  have hfin : ∀ a : Bool, (!r3 && decide (r2 = m) && decide (m < z) && decide (1 < m ∨ (194 ≤ x0 ∧ x0 ≤ 244))) = a → Kp (a = v) := fun a ha => ⟨ha.symm.trans hv2.out⟩
  cases r3 with
  | true =>
    obtain ⟨hfv⟩ := hfin false rfl
    subst hfv
    clear hfin hv2
    go_enter Try.func26, Try.ntmps26
    go_wp2_with fail
    refine hR.out.mono ?_
    rintro _ w1 ⟨rfl, hb1⟩
    go_wp2_with fail
    exact bodyPost_ret (v := .bool false) (by simp [results, Try.results26, go_sem] <;> omega) rfl ⟨rfl, hb1⟩
  | false =>
    by_cases hr2 : r2 = m
    · subst hr2
      have c1 : ∀ W, Below w.heap.size w W → W.cell? ⟨b, o, none⟩ = some (.int .u8 x0) := fun W hW => by
        have h := hcell.out W hW 0 h0
        have h' := hcell.out w (Below.refl _ _) 0 h0
        rw [Nat.add_zero] at h h'
        rw [c0] at h'; rw [h, ← h']
      replace c1 := Kp.mk c1
      have e1 : ((r2 : Int) != (r2 : Int)) = false := by simp
      by_cases hmz : r2 < z
      · have e2 : ¬ (z : Int) ≤ r2 := by omega
        by_cases h1 : 1 < r2
        · obtain ⟨hfv⟩ := hfin true (by simp [hmz, h1])
          subst hfv
          have e3 : (1 : Int) < r2 := by omega
          clear hfin hv2
          go_enter Try.func26, Try.ntmps26
          go_wp2_with fail
          refine hR.out.mono ?_
          rintro _ w1 ⟨rfl, hb1⟩
          have c2 := c1.out w1 hb1
          go_wp2_with fail
          refine (size_lit x0 _ z hsI.out).mono ?_
          rintro _ _ ⟨rfl, rfl⟩
          go_wp2_with fail
          exact bodyPost_ret (v := .bool true) (by simp [results, Try.results26, go_sem] <;> omega) rfl ⟨rfl, hb1⟩
        · have e3 : ¬ (1 : Int) < r2 := by omega
          by_cases h4 : 194 ≤ x0
          · have e4 : (194 : Int) ≤ x0 := by omega
            by_cases h5 : x0 ≤ 244
            · have e5 : (x0 : Int) ≤ 244 := by omega
              obtain ⟨hfv⟩ := hfin true (by simp [hmz, h4, h5])
              subst hfv
              clear hfin hv2
              go_enter Try.func26, Try.ntmps26
              go_wp2_with fail
              refine hR.out.mono ?_
              rintro _ w1 ⟨rfl, hb1⟩
              have c2 := c1.out w1 hb1
              go_wp2_with fail
              refine (size_lit x0 _ z hsI.out).mono ?_
              rintro _ _ ⟨rfl, rfl⟩
              go_wp2_with fail
              exact bodyPost_ret (v := .bool true) (by simp [results, Try.results26, go_sem] <;> omega) rfl ⟨rfl, hb1⟩
            · have e5 : ¬ (x0 : Int) ≤ 244 := by omega
              obtain ⟨hfv⟩ := hfin false (by simp [h1]; omega)
              subst hfv
              clear hfin hv2
              go_enter Try.func26, Try.ntmps26
              go_wp2_with fail
              refine hR.out.mono ?_
              rintro _ w1 ⟨rfl, hb1⟩
              have c2 := c1.out w1 hb1
              go_wp2_with fail
              refine (size_lit x0 _ z hsI.out).mono ?_
              rintro _ _ ⟨rfl, rfl⟩
              go_wp2_with fail
              exact bodyPost_ret (v := .bool false) (by simp [results, Try.results26, go_sem] <;> omega) rfl ⟨rfl, hb1⟩
          · have e4 : ¬ (194 : Int) ≤ x0 := by omega
            obtain ⟨hfv⟩ := hfin false (by simp [h1]; omega)
            subst hfv
            clear hfin hv2
            go_enter Try.func26, Try.ntmps26
            go_wp2_with fail
            refine hR.out.mono ?_
            rintro _ w1 ⟨rfl, hb1⟩
            have c2 := c1.out w1 hb1
            go_wp2_with fail
            refine (size_lit x0 _ z hsI.out).mono ?_
            rintro _ _ ⟨rfl, rfl⟩
            go_wp2_with fail
            exact bodyPost_ret (v := .bool false) (by simp [results, Try.results26, go_sem] <;> omega) rfl ⟨rfl, hb1⟩
      · have e2 : (z : Int) ≤ r2 := by omega
        obtain ⟨hfv⟩ := hfin false (by simp [hmz])
        subst hfv
        clear hfin hv2
        go_enter Try.func26, Try.ntmps26
        go_wp2_with fail
        refine hR.out.mono ?_
        rintro _ w1 ⟨rfl, hb1⟩
        have c2 := c1.out w1 hb1
        go_wp2_with fail
        refine (size_lit x0 _ z hsI.out).mono ?_
        rintro _ _ ⟨rfl, rfl⟩
        go_wp2_with fail
        exact bodyPost_ret (v := .bool false) (by simp [results, Try.results26, go_sem] <;> omega) rfl ⟨rfl, hb1⟩
    · have e1 : ((r2 : Int) != (m : Int)) = true := by simp; omega
      obtain ⟨hfv⟩ := hfin false (by simp [hr2])
      subst hfv
      clear hfin hv2
      go_enter Try.func26, Try.ntmps26
      go_wp2_with fail
      refine hR.out.mono ?_
      rintro _ w1 ⟨rfl, hb1⟩
      go_wp2_with fail
      exact bodyPost_ret (v := .bool false) (by simp [results, Try.results26, go_sem] <;> omega) rfl ⟨rfl, hb1⟩
/-- What the document's Decode returns: what is told, in a row of its own, and how many bytes it holds. -/
def RefDec (bs : List Nat) (w : World) : Ending → World → Prop := fun r w' =>
  ∃ A cap, r = .returned (.tuple #[.slice A (runD D.zero bs).2.length cap, .int .i64 (runD D.zero bs).1.had]) ∧ Own w' w.heap.size 21 .i32 A (runD D.zero bs).2.length cap (runD D.zero bs).2 ∧ Below w.heap.size w w'
structure RfMem (w : World) (bs : List Nat) (at_ : Nat) (out : List Int) (A : Option Addr) (m cap : Nat) (W : World) : Prop where
  o : Own W w.heap.size 21 .i32 A m cap out
  b : Below w.heap.size w W
  run : runD D.zero bs = ((runD D.zero (bs.drop at_)).1, out ++ (runD D.zero (bs.drop at_)).2)
theorem RfMem.step {w W W2 W3 : World} {bs : List Nat} {at_ r2 : Nat} {out : List Int} {A A3 : Option Addr} {m cap m3 cap3 : Nat} {c : Int} (h : RfMem w bs at_ out A m cap W)
    (hrun : runD D.zero (bs.drop at_) = ((runD D.zero ((bs.drop at_).drop r2)).1, c :: (runD D.zero ((bs.drop at_).drop r2)).2))
    (hb : Below W.heap.size W W2) (hown : Own W3 w.heap.size 21 .i32 A3 m3 cap3 (out ++ [c])) (hg : (W2.alloc (.cells #[.int .i32 c] 21)).grownBy W3 (Value.slice A m cap).ownBlock) : RfMem w bs (at_ + r2) (out ++ [c]) A3 m3 cap3 W3 := by
  have h1 := h.b.size
  have h2 := hb.size
  refine ⟨hown, ((h.b.trans (hb.mono h1)).alloc (by omega) _).grown hg (by simp; omega) (own_base h.o), ?_⟩
  rw [h.run, hrun, List.drop_drop]; simp
set_option maxRecDepth 100000 in
set_option maxHeartbeats 3000000 in
theorem refDecode_some (b o n cap : Nat) (bs : List Nat) (w : World) (hs : Sl w w.heap.size .u8 (some ⟨b, o, none⟩) n (bs.map Int.ofNat)) (hlt : ∀ x ∈ bs, x < 256) (hnc : n ≤ cap) (hn : n ≤ 9000) :
    Calls Try.prog 21 #[.slice (some ⟨b, o, none⟩) n cap] w (RefDec bs w) := by
  obtain ⟨i0, hi, hz0, hz1, hz2⟩ := info_parts info21
  have hbl : bs.length = n := by simpa using hs.1
  have hrl := runD_len D.zero bs
  replace hrl := Kp.mk hrl
  have hbl' := Kp.mk hbl
  go_enter Try.func21, Try.ntmps21
  go_wp2_with fail
  go_loopw [4, 5] (fun ou aa wr => ∃ (a m cap2 : Nat) (A2 : Option Addr) (out : List Int), ou = .slice A2 m cap2 ∧ aa = .int .i64 a ∧ a ≤ n ∧ RfMem w bs a out A2 m cap2 wr) (fun _ aa _ => n - (intOf aa).toNat)
  case atStart => exact ⟨0, 0, 0, none, [], rfl, rfl, Nat.zero_le _, ⟨Own.nil w w.heap.size 21 .i32, Below.refl _ _, rfl⟩⟩
  case round =>
    obtain ⟨a, m, cap2, A2, out, rfl, rfl, ha, hM⟩ := hrel
    by_cases han : a < n
    · have S1 : Sl w w.heap.size .u8 (some ⟨b, o + a, none⟩) (n - a) ((bs.drop a).map Int.ofNat) := by
        have h := hs.drop (c := a) (by omega)
        rw [← List.map_drop] at h; exact h
      obtain ⟨rest, hrest⟩ : ∃ l, bs.drop a = l := ⟨_, rfl⟩
      have hrlen : rest.length = n - a := by rw [← hrest, List.length_drop, hbl]
      have hlt2 : ∀ x ∈ rest, x < 256 := fun x hx => hlt x (List.mem_of_mem_drop (hrest ▸ hx))
      have hne : rest ≠ [] := by intro e; rw [e] at hrlen; simp at hrlen; omega
      have hok := readOk rest hne hlt2
      have hwh := runD_read_whole hok
      rw [hrest] at S1
      have S2 := (S1.keep hM.b (Nat.le_refl _)).more hM.b.size
      obtain ⟨r1, r2, r3, hr⟩ : ∃ r1 r2 r3, readN rest = (r1, r2, r3) := ⟨_, _, _, rfl⟩
      have hpos := hok.pos
      have hle := hok.le
      have hpart := hok.part
      have hbad := hok.bad
      rw [hr] at hpos hle hpart hbad hwh
      simp only [] at hpos hle hpart hbad hwh
      have hol := hM.o.len
      have hout : out.length ≤ 2 * n := by
        have h1 := hrl.out
        rw [hM.run, List.length_append, hbl] at h1
        omega
      have hR := read_to b (o + a) (n - a) (cap - a) rest _ (r1, r2, r3) hr S2 hlt2 (by omega) (by omega)
      have hBg := begins_to b (o + a) (n - a) (cap - a) rest
      have q1 := hM.b.size
      have g1 : (a : Int) < n := by omega
      have g2 : 0 < cap - a := by omega
      have g3 : (n : Int) ≤ cap := by omega
      have g4 : (a : Int) ≤ n := by omega
      replace hR := Kp.mk hR
      replace hBg := Kp.mk hBg
      replace hrest := Kp.mk hrest
      replace hrlen := Kp.mk hrlen
      replace hlt2 := Kp.mk hlt2
      replace hwh := Kp.mk hwh
      replace hpart := Kp.mk hpart
      replace hbad := Kp.mk hbad
      replace hol := Kp.mk hol
      replace hout := Kp.mk hout
      have hle2 : r2 ≤ n - a := by rw [← hrlen.out]; exact hle
      clear hr hne hok hle S1
      cases r3 with
      | true =>
        have hrun := hwh.out rfl
        replace hrun := Kp.mk hrun
        go_wp2_with fail
        refine hR.out.mono ?_
        rintro _ w2 ⟨rfl, hb2⟩
        have O2 := (hM.o.keep hb2 (Nat.le_refl _)).alloc (.cells #[.int .i32 r1] 21)
        have q2 := hb2.size
        have U2 := sl_lit w2 21 .i32 [r1] #[.int .i32 r1] rfl (by simp)
        have hol2 := hol.out
        have hout2 := hout.out
        go_wp2_with (at_builtin; refine wpList_append_ints rfl _ _ 27 rfl w.heap.size 21 i0 (.int .i32 0) 4 Try.underlying27 hi hz0 hz1 hz2 rfl .i32 _ _ _ _ rfl O2 _ _ _ _ _ rfl U2 ?c1 ?c2 ?c3 ?_)
        case c1 => unfold maxLen; first | omega | (simp; omega)
        case c2 => first | omega | (simp; omega)
        case c3 => simp; omega
        intro B1 bap1 z1 hown hgrow hor
        clear hor
        have hM2 := hM.step (by rw [hrest.out]; exact hrun.out) hb2 hown hgrow
        clear hown hgrow O2 U2 hol2 hout2 hb2
        go_wp2_with fail
        go_roundw
        case rel => exact ⟨a + r2, _, _, _, _, rfl, congrArg (Value.int .i64) (by omega), by omega, hM2⟩
        case measure => simp [intOf] <;> omega
      | false =>
        by_cases hend : r2 = n - a
        · have e1 : ((a : Int) + (r2 : Int) == (n : Int)) = true := by simp; omega
          obtain ⟨v, hv⟩ : ∃ v, beginsN rest = v := ⟨_, rfl⟩
          have hB2 := fun W h => hBg.out W v hv h hlt2.out (by omega) (by omega)
          replace hB2 := Kp.mk hB2
          cases v with
          | true =>
            obtain ⟨p1, p2⟩ := hpart.out rfl (by rw [hrlen.out]; exact hend) hv
            have hfin : runD D.zero bs = ((runD D.zero rest).1, out) := by
              have h1 := hM.run
              rw [hrest.out, p1, List.append_nil] at h1; exact h1
            have hhad : (((runD D.zero bs).1.had : Nat) : Int) = r2 := by rw [hfin, p2, hrlen.out]; omega
            have hfo : (runD D.zero bs).2 = out := by rw [hfin]
            replace hhad := Kp.mk hhad
            replace hfo := Kp.mk hfo
            clear p1 p2 hfin hv
            go_wp2_with fail
            refine hR.out.mono ?_
            rintro _ w2 ⟨rfl, hb2⟩
            go_wp2_with fail
            refine (hB2.out _ ((S2.keep hb2 (Nat.le_refl _)).more hb2.size)).mono ?_
            rintro _ w3 ⟨rfl, hb3⟩
            have q2 := hb2.size
            have hb4 := hb2.trans (hb3.mono q2)
            have O4 := hM.o.keep hb4 (Nat.le_refl _)
            have B4 := hM.b.trans (hb4.mono q1)
            have hol2 := hol.out
            clear hb2 hb3 hM
            go_wp2_with fail
            exact bodyPost_ret (v := .tuple #[.slice A2 m cap2, .int .i64 r2]) (by simp [results, Try.results21, go_sem] <;> omega) rfl ⟨A2, cap2, by rw [hfo.out, hhad.out, hol2], by rw [hfo.out, hol2]; exact O4, B4⟩
          | false =>
            have hrun := hbad.out rfl (fun h => by rw [hv] at h; exact absurd h.2 (by simp))
            replace hrun := Kp.mk hrun
            clear hv
            go_wp2_with fail
            refine hR.out.mono ?_
            rintro _ w2 ⟨rfl, hb2⟩
            go_wp2_with fail
            refine (hB2.out _ ((S2.keep hb2 (Nat.le_refl _)).more hb2.size)).mono ?_
            rintro _ w3 ⟨rfl, hb3⟩
            have q2 := hb2.size
            have hb4 := hb2.trans (hb3.mono q2)
            have q4 := hb4.size
            have O2 := (hM.o.keep hb4 (Nat.le_refl _)).alloc (.cells #[.int .i32 65533] 21)
            have U2 := sl_lit w3 21 .i32 [65533] #[.int .i32 65533] rfl (by simp)
            have hol2 := hol.out
            have hout2 := hout.out
            clear hb2 hb3
            go_wp2_with (at_builtin; refine wpList_append_ints rfl _ _ 27 rfl w.heap.size 21 i0 (.int .i32 0) 4 Try.underlying27 hi hz0 hz1 hz2 rfl .i32 _ _ _ _ rfl O2 _ _ _ _ _ rfl U2 ?c1 ?c2 ?c3 ?_)
            case c1 => unfold maxLen; first | omega | (simp; omega)
            case c2 => first | omega | (simp; omega)
            case c3 => simp; omega
            intro B1 bap1 z1 hown hgrow hor
            clear hor
            have hM2 := hM.step (by rw [hrest.out]; exact hrun.out) hb4 hown hgrow
            clear hown hgrow O2 U2 hol2 hout2 hb4
            go_wp2_with fail
            go_roundw
            case rel => exact ⟨a + r2, _, _, _, _, rfl, congrArg (Value.int .i64) (by omega), by omega, hM2⟩
            case measure => simp [intOf] <;> omega
        · have e1 : ((a : Int) + (r2 : Int) == (n : Int)) = false := by simp; omega
          have hrun := hbad.out rfl (fun h => hend (by rw [← hrlen.out]; exact h.1))
          replace hrun := Kp.mk hrun
          go_wp2_with fail
          refine hR.out.mono ?_
          rintro _ w2 ⟨rfl, hb2⟩
          have O2 := (hM.o.keep hb2 (Nat.le_refl _)).alloc (.cells #[.int .i32 65533] 21)
          have q2 := hb2.size
          have U2 := sl_lit w2 21 .i32 [65533] #[.int .i32 65533] rfl (by simp)
          have hol2 := hol.out
          have hout2 := hout.out
          go_wp2_with (at_builtin; refine wpList_append_ints rfl _ _ 27 rfl w.heap.size 21 i0 (.int .i32 0) 4 Try.underlying27 hi hz0 hz1 hz2 rfl .i32 _ _ _ _ rfl O2 _ _ _ _ _ rfl U2 ?c1 ?c2 ?c3 ?_)
          case c1 => unfold maxLen; first | omega | (simp; omega)
          case c2 => first | omega | (simp; omega)
          case c3 => simp; omega
          intro B1 bap1 z1 hown hgrow hor
          clear hor
          have hM2 := hM.step (by rw [hrest.out]; exact hrun.out) hb2 hown hgrow
          clear hown hgrow O2 U2 hol2 hout2 hb2
          go_wp2_with fail
          go_roundw
          case rel => exact ⟨a + r2, _, _, _, _, rfl, congrArg (Value.int .i64) (by omega), by omega, hM2⟩
          case measure => simp [intOf] <;> omega
    · obtain rfl : a = n := by omega
      have hrun := hM.run
      rw [List.drop_of_length_le (by rw [hbl]; exact Nat.le_refl _)] at hrun
      have hfo : (runD D.zero bs).2 = out := by rw [hrun]; simp [runD]
      have hhad : (((runD D.zero bs).1.had : Nat) : Int) = 0 := by rw [hrun]; rfl
      have hol := hM.o.len
      have O4 := hM.o
      have B4 := hM.b
      replace hhad := Kp.mk hhad
      replace hfo := Kp.mk hfo
      clear hrun hM
      go_wp2_with fail
      exact bodyPost_ret (v := .tuple #[.slice A2 m cap2, .int .i64 0]) (by simp [results, Try.results21, go_sem]) rfl ⟨A2, cap2, by rw [hfo.out, hhad.out, hol], by rw [hfo.out, hol]; exact O4, B4⟩
set_option maxRecDepth 100000 in
theorem refDecode_nil (A : Option Addr) (cap : Nat) (w : World) : Calls Try.prog 21 #[.slice A 0 cap] w (RefDec [] w) := by
  go_enter Try.func21, Try.ntmps21
  go_wp2_with fail
  go_loopw [4, 5] (fun ou aa wr => ou = .slice none 0 0 ∧ aa = .int .i64 0 ∧ w = wr) (fun _ aa _ => (intOf aa).toNat)
  case atStart => exact ⟨rfl, rfl, rfl⟩
  case round =>
    obtain ⟨rfl, rfl, rfl⟩ := hrel
    go_wp2_with fail
    exact bodyPost_ret (v := .tuple #[.slice none 0 0, .int .i64 0]) (by simp [results, Try.results21, go_sem]) rfl ⟨none, 0, rfl, Own.nil w w.heap.size 21 .i32, Below.refl _ _⟩
theorem refDecode_to (A : Option Addr) (n cap : Nat) (bs : List Nat) (w : World) (hs : Sl w w.heap.size .u8 A n (bs.map Int.ofNat)) (hlt : ∀ x ∈ bs, x < 256) (hnc : n ≤ cap) (hn : n ≤ 9000) :
    Calls Try.prog 21 #[.slice A n cap] w (RefDec bs w) := by
  by_cases h0 : 0 < n
  · obtain ⟨b, o, rfl, _, _⟩ := hs.2 h0
    exact refDecode_some b o n cap bs w hs hlt hnc hn
  · obtain rfl : n = 0 := by omega
    obtain rfl : bs = [] := by have := hs.1; simpa using this
    exact refDecode_nil A cap w
set_option maxRecDepth 100000 in
set_option maxHeartbeats 1600000 in
theorem all_to (A : Option Addr) (n cap : Nat) (bs : List Nat) (w : World) (l : List Int) (hl : decodeL bs = l) (hs : Sl w w.heap.size .u8 A n (bs.map Int.ofNat)) (hlt : ∀ x ∈ bs, x < 256) (hnc : n ≤ cap) (hn : n ≤ 9000) :
    Calls Try.prog 15 #[.slice A n cap] w (NewRow 21 .i32 l w) := by
  obtain ⟨i0, hi, hz0, hz1, hz2⟩ := info_parts info21
  have hbl : bs.length = n := by simpa using hs.1
  have hrl := runD_len D.zero bs
  have hR := refDecode_to A n cap bs w hs hlt hnc hn
  unfold RefDec at hR
  unfold decodeL endL at hl
  obtain ⟨out, hout⟩ : ∃ x, (runD D.zero bs).2 = x := ⟨_, rfl⟩
  obtain ⟨h, hh⟩ : ∃ x, (runD D.zero bs).1.had = x := ⟨_, rfl⟩
  rw [hout, hh] at hR hl
  rw [hout] at hrl
  replace hR := Kp.mk hR
  by_cases h0 : h = 0
  · obtain rfl : out = l := by rw [← hl, if_pos h0, List.append_nil]
    subst h0
    clear hl hout hh
    go_enter Try.func15, Try.ntmps15
    go_wp2_with fail
    refine hR.out.mono ?_
    rintro _ w1 ⟨A1, cap1, rfl, O1, hb1⟩
    go_wp2_with fail
    exact bodyPost_ret (v := .slice A1 out.length cap1) (by simp [results, Try.results15, go_sem]) rfl ⟨A1, cap1, rfl, O1, hb1⟩
  · have hl2 : out ++ [65533] = l := by rw [← hl, if_neg h0]
    replace hl2 := Kp.mk hl2
    have h1 : (0 : Int) < h := by omega
    clear hl hout hh
    go_enter Try.func15, Try.ntmps15
    go_wp2_with fail
    refine hR.out.mono ?_
    rintro _ w1 ⟨A1, cap1, rfl, O1, hb1⟩
    have q1 := hb1.size
    have O2 := O1.alloc (.cells #[.int .i32 65533] 21)
    have U2 := sl_lit w1 21 .i32 [65533] #[.int .i32 65533] rfl (by simp)
    go_wp2_with (at_builtin; refine wpList_append_ints rfl _ _ 27 rfl w.heap.size 21 i0 (.int .i32 0) 4 Try.underlying27 hi hz0 hz1 hz2 rfl .i32 _ _ _ _ rfl O2 _ _ _ _ _ rfl U2 ?c1 ?c2 ?c3 ?_)
    case c1 => unfold maxLen; first | omega | (simp; omega)
    case c2 => first | omega | (simp; omega)
    case c3 => simp; omega
    intro B1 bap1 z1 hown hgrow hor
    clear hor
    have hb2 := (hb1.alloc q1 (.cells #[.int .i32 65533] 21)).grown hgrow (by simp; omega) (own_base O2)
    go_wp2_with fail
    have e3 : l.length = out.length + 1 := by rw [← hl2.out]; simp
    exact bodyPost_ret (v := .slice B1 (out.length + 1) bap1) (by simp [results, Try.results15, go_sem]) rfl ⟨B1, bap1, by rw [e3], by rw [e3, ← hl2.out]; exact hown, hb2⟩
end Go.Proofs.Ytfogblcjccoeiaa
