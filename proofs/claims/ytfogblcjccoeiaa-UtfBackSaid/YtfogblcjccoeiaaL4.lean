/- The walk of the law UtfBack (layer 10): true for every numbers. -/
import Derived.Test.YtfogblcjccoeiaaL3
namespace Go.Proofs.Ytfogblcjccoeiaa
open Go.RowKit

theorem Sl.one {w : World} {B : Nat} {k : IntKind} {b o n q : Nat} {zs : List Int} {z : Int} (h : Sl w B k (some ⟨b, o, none⟩) n zs) (hq : q < n) (hz : zs[q]? = some z) : Sl w B k (some ⟨b, o + q, none⟩) 1 [z] := by
  refine ⟨rfl, fun _ => ?_⟩
  obtain ⟨b', o', e, hb, hh⟩ := h.2 (by omega)
  simp only [Option.some.injEq, Addr.mk.injEq, and_true] at e
  obtain ⟨rfl, rfl⟩ := e
  refine ⟨b, o + q, rfl, hb, fun i hi => ?_⟩
  obtain rfl : i = 0 := by omega
  rw [Nat.add_zero, hh q hq, hz]; rfl
/-- A form, byte by byte. -/
theorem form_put {n q y : Nat} (h : isPt (n : Int)) (hy : (formN n)[q]? = some y) (hq : q + 1 < (formN n).length) :
    runD (runD D.zero ((formN n).take q)).1 [y] = ((runD D.zero ((formN n).take (q + 1))).1, []) := by
  have h1 := ((run_form h).2 q hq).1
  rw [List.take_add_one, hy] at h1 ⊢
  simp only [Option.toList] at h1 ⊢
  rw [runD_append] at h1 ⊢
  simp only [List.append_eq_nil_iff] at h1
  exact Prod.ext rfl h1.2
theorem form_last {n p y : Nat} (h : isPt (n : Int)) (hy : (formN n)[p]? = some y) (hq : p + 1 = (formN n).length) :
    runD (runD D.zero ((formN n).take p)).1 [y] = (D.zero, [(n : Int)]) := by
  have h1 := (run_form h).1
  have e : formN n = (formN n).take p ++ [y] := by
    have := List.take_add_one (l := formN n) (i := p)
    rw [hq, List.take_length, hy] at this; exact this
  rw [e, runD_append] at h1
  have h0 : (runD D.zero ((formN n).take p)).2 = [] := by
    rcases p with _ | p
    · rfl
    · exact ((run_form h).2 p (by omega)).1
  rw [h0] at h1
  simp only [List.nil_append] at h1
  exact h1
theorem form_had {n q : Nat} (h : isPt (n : Int)) (hq : q + 1 < (formN n).length) : (runD D.zero ((formN n).take (q + 1))).1.had = q + 1 := ((run_form h).2 q hq).2

def Apart (A A' : Option Addr) : Prop := ∀ g, A.map (·.block) = some g → A'.map (·.block) ≠ some g
theorem ownBlock_map (A : Option Addr) (n cap : Nat) : (Value.slice A n cap).ownBlock = A.map (·.block) := by cases A <;> rfl
theorem Own.lt {w : World} {base : Nat} {e : TypeId} {k : IntKind} {A : Option Addr} {n cap : Nat} {zs : List Int} (h : Own w base e k A n cap zs) : ∀ g, A.map (·.block) = some g → base ≤ g ∧ g < w.heap.size := fun g hg =>
  World.ownsRow.lt h g (by rw [ownBlock_map]; exact hg)
theorem Apart.left {w : World} {base : Nat} {e : TypeId} {k : IntKind} {A A2 A' : Option Addr} {n cap : Nat} {zs : List Int} (h : Apart A A') (ho : Own w base e k A' n cap zs)
    (hor : A2.map (·.block) = A.map (·.block) ∨ A2.map (·.block) = some w.heap.size) : Apart A2 A' := by
  intro g hg hg'
  rcases hor with e | e
  · exact h g (by rw [← e]; exact hg) hg'
  · have := ho.lt g hg'
    rw [e] at hg; simp at hg; omega
theorem Apart.symm {A A' : Option Addr} (h : Apart A A') : Apart A' A := fun g h1 h2 => h g h2 h1
theorem Own.apart {w w' : World} {base : Nat} {e : TypeId} {k : IntKind} {A A' : Option Addr} {n cap n' cap' : Nat} {zs : List Int} (h : Own w base e k A' n cap zs) (hg : w.grownBy w' (Value.slice A n' cap').ownBlock) (ha : Apart A A') :
    Own w' base e k A' n cap zs := by
  refine World.ownsRow.kept h hg ?_
  rw [ownBlock_map, ownBlock_map]
  cases h1 : A' with
  | none => exact .inl rfl
  | some a => exact .inr (fun e => ha a.block (by rw [← e]; rfl) (by rw [h1]; rfl))

theorem Own.cap {w : World} {base : Nat} {e : TypeId} {k : IntKind} {A : Option Addr} {n cap : Nat} {zs : List Int} (h : Own w base e k A n cap zs) (h0 : 0 < n) : n ≤ cap := by
  rcases h.2 with ⟨h1, _⟩ | ⟨g, c, cur, hv, hg, hh, hnc, _⟩
  · simp only [Value.slice.injEq] at h1; omega
  · simp only [Value.slice.injEq] at hv; omega

/-- The loop's memory: the bytes and the points so far, in rows of the call's own. -/
structure BkMem (w1 : World) (ns : List Nat) (k : Nat) (A : Option Addr) (m cap : Nat) (A' : Option Addr) (cap' : Nat) (W : World) : Prop where
  ob : Own W w1.heap.size 5 .u8 A m cap ((formsN (ns.take k)).map Int.ofNat)
  ow : Own W w1.heap.size 21 .i32 A' k cap' ((ns.take k).map Int.ofNat)
  ne : Apart A A'
  b : Below w1.heap.size w1 W
section
variable {w1 W W2 W3 : World} {ns : List Nat} {k m cap cap' : Nat} {A A' : Option Addr}
theorem BkMem.keep (h : BkMem w1 ns k A m cap A' cap' W) (hb : Below W.heap.size W W2) : BkMem w1 ns k A m cap A' cap' W2 :=
  ⟨h.ob.keep hb (Nat.le_refl _), h.ow.keep hb (Nat.le_refl _), h.ne, h.b.trans (hb.mono h.b.size)⟩
end
/-- What is asked of a form's bytes. -/
structure FormOk (x : Nat) (fl : List Nat) (p : Nat) : Prop where
  len : fl.length = p + 1
  le : p ≤ 3
  byte : ∀ y ∈ fl, y < 256
  put : ∀ q y, fl[q]? = some y → q < p → runD (runD D.zero (fl.take q)).1 [y] = ((runD D.zero (fl.take (q + 1))).1, [])
  last : ∀ y, fl[p]? = some y → runD (runD D.zero (fl.take p)).1 [y] = (D.zero, [(x : Int)])
  had : ∀ q, q < p → (runD D.zero (fl.take (q + 1))).1.had = q + 1
theorem formOk {x : Nat} (h : isPt (x : Int)) : ∃ fl p, formN x = fl ∧ FormOk x fl p := by
  have hl := formN_len x
  refine ⟨formN x, (formN x).length - 1, rfl, by omega, by omega, formN_byte x (by have := h.2.1; omega), fun q y hy hq => form_put h hy (by omega), fun y hy => form_last h hy (by omega), fun q hq => form_had h (by omega)⟩
structure InMem (w4 : World) (fl : List Nat) (q : Nat) (W : World) : Prop where
  box : Box W w4.heap.size 43 (runD D.zero (fl.take q)).1.cells
  k : (w4.alloc (.cells D.zero.cells 43)).grownBy W (some w4.heap.size)

set_option maxRecDepth 100000 in
set_option maxHeartbeats 8000000 in
theorem back_in (A : Option Addr) (n cap : Nat) (zs : List Int) (w : World) (hs : Sl w w.heap.size .i32 A n zs) (hn : n ≤ 500) :
    Calls Try.prog 6 #[.slice A n cap] w fun e w' => e = .returned (.bool true) ∧ Below w.heap.size w w' := by
  obtain ⟨i5, hi5, hy0, hy1, hy2⟩ := info_parts info5
  obtain ⟨i0, hi, hz0, hz1, hz2⟩ := info_parts info21
  obtain ⟨ns, hns⟩ : ∃ ns, zs.map (fun c => (normI c).toNat) = ns := ⟨_, rfl⟩
  have hzl := hs.1
  have hpt : ∀ m ∈ ns, isPt (m : Int) := by
    intro m hm
    rw [← hns] at hm
    obtain ⟨c, _, rfl⟩ := List.mem_map.1 hm
    have := normI_pt c
    rw [Int.toNat_of_nonneg this.1]; exact this
  have hnl : ns.length = n := by rw [← hns, List.length_map]; exact hzl
  have hlen := formsN_len ns
  have hbyte := formsN_byte ns hpt
  have hdec := decode_forms ns hpt
  have hat : ∀ (k : Nat) (c : Int), zs[k]? = some c → ns[k]? = some (normI c).toNat := fun k c h => by rw [← hns, List.getElem?_map, h]; rfl
  clear hns
  replace hdec := Kp.mk hdec
  replace hpt := Kp.mk hpt
  replace hbyte := Kp.mk hbyte
  replace hzl := Kp.mk hzl
  replace hlen := Kp.mk hlen
  have g1 : ¬ (500 : Int) < n := by omega
  go_enter Try.func6, Try.ntmps6
  go_wp2_with fail
  refine (known_any _).mono ?_
  rintro _ w1 ⟨rfl, hb0⟩
  have S1 := (hs.keep hb0 (Nat.le_refl _)).more hb0.size
  go_wp2_with fail
  go_loopw [3, 4, 5] (fun bb wt i wr => ∃ (k m cap2 cap3 : Nat) (A2 A3 : Option Addr), bb = .slice A2 m cap2 ∧ wt = .slice A3 k cap3 ∧ i = .int .i64 k ∧ k ≤ n ∧ BkMem w1 ns k A2 m cap2 A3 cap3 wr) (fun _ _ i _ => n - (intOf i).toNat)
  case atStart => exact ⟨0, 0, 0, 0, none, none, rfl, rfl, rfl, Nat.zero_le _, ⟨by simpa [formsN] using Own.nil w1 w1.heap.size 5 .u8, by simpa using Own.nil w1 w1.heap.size 21 .i32, fun g h => by simp at h, Below.refl _ _⟩⟩
  case round =>
    obtain ⟨k, m, cap2, cap3, A2, A3, rfl, rfl, rfl, hk, hM⟩ := hrel
    by_cases hlt2 : k < n
    · obtain ⟨b, o, rfl, hb, hc⟩ := S1.2 (by omega)
      obtain ⟨c, hcz⟩ : ∃ c : Int, zs[k]? = some c := ⟨_, List.getElem?_eq_getElem (by rw [hzl.out]; exact hlt2)⟩
      obtain ⟨x, hx⟩ : ∃ x : Nat, (normI c).toNat = x := ⟨_, rfl⟩
      have hxc : normI c = (x : Int) := by rw [← hx, Int.toNat_of_nonneg (normI_pt c).1]
      have hnk := hat k c hcz
      rw [hx] at hnk
      have hpx : isPt (x : Int) := hxc ▸ normI_pt c
      obtain ⟨fl, p, hfl, hok⟩ := formOk hpx
      have hF : ∀ W, Calls Try.prog 10 #[.int .i32 c] W (NewRow 5 .u8 (fl.map Int.ofNat) W) := fun W => by
        have h := Form_to c W
        rwa [formL_norm, hxc, formL_nat hpx, hfl] at h
      have c0 := (hM.b.cell (p := ⟨b, o + k, none⟩) hb).trans (hc k hlt2)
      rw [show zs[k]?.getD 0 = c by rw [hcz]; rfl] at c0
      have hkn : (k : Int) < n := by omega
      have hlp := hok.len
      have hp3 := hok.le
      have hol := hM.ob.len
      have hfk := formsN_len (ns.take k)
      rw [List.length_take, hnl] at hfk
      rw [List.length_map] at hol
      have hflk := formsN_take ns k x hnk
      have hnsk : ns.take (k + 1) = ns.take k ++ [x] := by rw [List.take_add_one, hnk]; rfl
      have hcase : ((c = x ∧ ¬ c < 0 ∧ ¬ 1114111 < c ∧ ¬ 55296 ≤ c) ∨ (c = x ∧ ¬ c < 0 ∧ ¬ 1114111 < c ∧ 55296 ≤ c ∧ ¬ c ≤ 57343)) ∨ ((x = 65533 ∧ c < 0) ∨ (x = 65533 ∧ ¬ c < 0 ∧ 1114111 < c) ∨ (x = 65533 ∧ ¬ c < 0 ∧ ¬ 1114111 < c ∧ 55296 ≤ c ∧ c ≤ 57343)) := by
        by_cases hp : isPt c
        · have : normI c = c := if_pos hp
          unfold isPt at hp; omega
        · have : normI c = 65533 := if_neg hp
          unfold isPt at hp; omega
      have hfl' := Kp.mk hfl
      clear hc hat hcz hx hxc hpx hfl
      replace hfk := Kp.mk hfk
      replace hol := Kp.mk hol
      replace hlp := Kp.mk hlp
      replace hF := Kp.mk hF
      replace hnk := Kp.mk hnk
      replace hflk := Kp.mk hflk
      replace hnsk := Kp.mk hnsk
      have hx65 : x = 65533 → ((65533 : Nat) : Int) = 65533 := fun _ => rfl
      clear hx65
      rcases hcase with hcase | hcase
      · rcases hcase with ⟨rfl, t1, t2, t3⟩ | ⟨rfl, t1, t2, t3, t4⟩
        all_goals
          go_wp2_with fail
          clear t1
          try clear t2
          try clear t3
          try clear t4
          refine (hF.out _).mono ?_
          rintro _ w4 ⟨A4, cap4, rfl, O4, hb4⟩
          have hlp2 := hlp.out
          have M4 := hM.keep hb4
          have S4 := O4.sl
          rw [List.length_map] at O4 S4
          obtain ⟨g4, rfl, hg4⟩ : ∃ g, A4 = some ⟨g, 0, none⟩ ∧ g < w4.heap.size := by
            rcases O4.form with ⟨_, h0, _⟩ | ⟨g, e, _, h⟩
            · omega
            · exact ⟨g, e, h⟩
          have hcap4 : p + 1 ≤ cap4 := by have := O4.cap (by omega); omega
          clear hM
          go_wp2_with fail
          refine (New_to _).mono ?_
          rintro _ w5 ⟨rfl, hw5⟩
          have I5 : InMem w4 fl 0 w5 := by rw [hw5]; exact ⟨Box.new _ _ _, World.grownBy.refl _ _⟩
          clear hw5
          go_wp2_with fail
          go_loopw [9] (fun i wr => ∃ q : Nat, i = .int .i64 q ∧ q ≤ p ∧ InMem w4 fl q wr) (fun i _ => p - (intOf i).toNat)
          case atStart => exact ⟨0, rfl, Nat.zero_le _, I5⟩
          case round =>
            obtain ⟨q, rfl, hq, hI⟩ := hrel
            have B4 := below_grown hI.k
            have okq : (runD D.zero (fl.take q)).1.Ok := runD_ok zero_ok _
            by_cases hqp : q < p
            · obtain ⟨y, hy⟩ : ∃ y : Nat, fl[q]? = some y := ⟨_, List.getElem?_eq_getElem (by omega)⟩
              have hr := hok.put q y hy hqp
              have hh := hok.had q hqp
              have hy8 := hok.byte y (List.mem_of_getElem? hy)
              have Y1 := ((S4.keep B4 (Nat.le_refl _)).one (q := q) (by omega) (by rw [List.getElem?_map, hy]; rfl))
              have hsrc : Src wr w4.heap.size (some ⟨g4, 0 + q, none⟩) 1 [y] := ⟨by simpa using Y1.more B4.size, fun _ b o e => by (simp at e); omega, fun z hz => by simp at hz; omega⟩
              rw [Nat.zero_add] at hsrc
              have hqp' : (q : Int) < p := by omega
              have hqc : 0 < cap4 - q := by omega
              have hqc1 : (q : Int) + 1 ≤ cap4 := by omega
              obtain ⟨dq, hdq⟩ : ∃ d, (runD D.zero (fl.take q)).1 = d := ⟨_, rfl⟩
              obtain ⟨dq1, hdq1⟩ : ∃ d, (runD D.zero (fl.take (q + 1))).1 = d := ⟨_, rfl⟩
              have hIb := hI.box
              rw [hdq] at hr okq hIb
              rw [hdq1] at hr hh
              replace hdq1 := Kp.mk hdq1
              have hh2 : (dq1.had : Int) = (q : Int) + 1 := by omega
              clear hh Y1 hdq hy
              replace hr := Kp.mk hr
              go_wp2_with fail
              refine (Put_to dq w4.heap.size _ 1 _ [y] _ _ hr.out okq hIb hsrc (by omega)).mono ?_
              rintro _ x2 ⟨A6, n6, cap6, rfl, P6⟩
              obtain rfl : n6 = 0 := by simpa using P6.o.len.symm
              have K6 := hI.k.trans P6.k
              have b6 : Box x2 w4.heap.size 43 dq1.cells := P6.b
              clear P6
              go_wp2_with fail
              refine (Held_to _ _ _ b6).mono ?_
              rintro _ x3 ⟨rfl, H6⟩
              have b7 := b6.keep H6 b6.lt
              have K7 := K6.trans (grown_of_below H6 _)
              go_wp2_with fail
              go_roundw
              case rel => exact ⟨q + 1, by go_num, by omega, ⟨by rw [hdq1.out]; exact b7, K7⟩⟩
              case measure => simp [intOf]; omega
            · obtain rfl : q = p := by omega
              obtain ⟨y, hy⟩ : ∃ y : Nat, fl[q]? = some y := ⟨_, List.getElem?_eq_getElem (by omega)⟩
              have hr := hok.last y hy
              have hy8 := hok.byte y (List.mem_of_getElem? hy)
              have Y1 := ((S4.keep B4 (Nat.le_refl _)).one (q := q) (by omega) (by rw [List.getElem?_map, hy]; rfl))
              have hsrc : Src wr w4.heap.size (some ⟨g4, 0 + q, none⟩) 1 [y] := ⟨by simpa using Y1.more B4.size, fun _ b o e => by (simp at e); omega, fun z hz => by simp at hz; omega⟩
              rw [Nat.zero_add] at hsrc
              have hqc : 0 < cap4 - q := by omega
              have hqc1 : (q : Int) + 1 ≤ cap4 := by omega
              obtain ⟨dq, hdq⟩ : ∃ d, (runD D.zero (fl.take q)).1 = d := ⟨_, rfl⟩
              have hIb := hI.box
              rw [hdq] at hr okq hIb
              clear Y1 hdq hy
              replace hr := Kp.mk hr
              go_wp2_with fail
              refine (Put_to dq w4.heap.size _ 1 _ [y] _ _ hr.out okq hIb hsrc (by omega)).mono ?_
              rintro _ x2 ⟨A6, n6, cap6, rfl, P6⟩
              obtain rfl : n6 = 1 := by simpa using P6.o.len.symm
              have K6 := below_grown (hI.k.trans P6.k)
              have M6 := M4.keep K6
              have T6 := P6.o.sl
              have S6 := (S4.keep K6 (Nat.le_refl _)).more K6.size
              clear P6 M4 hI B4 S4 O4 I5
              go_wp2_with fail
              have HA : Below x2.heap.size x2 (x2.alloc (.cells #[.int .i32 _] 21)) := (Below.refl _ _).alloc (Nat.le_refl _) (.cells #[.int .i32 (x : Int)] 21)
              have M7 := M6.keep HA
              have T7 := (T6.keep HA (Nat.le_refl _)).more HA.size
              have S7 := (S6.keep HA (Nat.le_refl _)).more HA.size
              have U7 := sl_lit x2 21 .i32 [(x : Int)] #[.int .i32 (x : Int)] rfl (by simp)
              refine (same_to _ _ _ _ _ _ _ _ _ true (decide_eq_true rfl) T7 U7 (by omega) (by simp)).mono ?_
              rintro _ x7 ⟨rfl, H7⟩
              have M8 := M7.keep H7
              have S8 := (S7.keep H7 (Nat.le_refl _)).more H7.size
              rw [hlp.out] at S8
              have q8 := M8.b.size
              have hol2 := hol.out
              have hfk2 := hfk.out
              clear M6 M7 T7 S7 U7 H7 HA T6 S6 K6
              go_wp2_with (at_builtin; refine wpList_append_ints rfl _ _ 22 rfl w1.heap.size 5 i5 (.int .u8 0) 1 Try.underlying22 hi5 hy0 hy1 hy2 rfl .u8 _ _ _ _ rfl M8.ob _ _ _ _ _ rfl S8 ?c1 ?c2 ?c3 ?_)
              case c1 => unfold maxLen; omega
              case c2 => omega
              case c3 => exact q8
              intro B1 bap1 z1 hown hgrow hor
              have ow9 := M8.ow.apart hgrow M8.ne
              have ne9 := M8.ne.left (A2 := B1) M8.ow (by simpa using hor)
              have bb9 := M8.b.grown hgrow q8 (own_base M8.ob)
              have q9 := bb9.size
              have U9 := sl_lit z1 21 .i32 [(x : Int)] #[.int .i32 (x : Int)] rfl (by simp)
              have ow9a := ow9.alloc (.cells #[.int .i32 (x : Int)] 21)
              clear hor hgrow M8 S8
              go_wp2_with (at_builtin; refine wpList_append_ints rfl _ _ 27 rfl w1.heap.size 21 i0 (.int .i32 0) 4 Try.underlying27 hi hz0 hz1 hz2 rfl .i32 _ _ _ _ rfl ow9a _ _ _ _ _ rfl U9 ?c1 ?c2 ?c3 ?_)
              case c1 => unfold maxLen; first | omega | (simp; omega)
              case c2 => first | omega | (simp; omega)
              case c3 => first | omega | (simp; omega)
              intro B2 bap2 z2 hown2 hgrow2 hor2
              have ob9 := hown.alloc (.cells #[.int .i32 (x : Int)] 21)
              have ob10 := ob9.apart hgrow2 ne9.symm
              have ne10 := (ne9.symm.left (A2 := B2) ob9 (by simpa using hor2)).symm
              have bb10 := (bb9.alloc q9 (.cells #[.int .i32 (x : Int)] 21)).grown hgrow2 (by simp; omega) (own_base ow9a)
              clear hor2 hgrow2 ob9 hown ow9 ow9a ne9 bb9 U9
              go_wp2_with fail
              go_roundw
              case rel => exact ⟨k + 1, m + (q + 1), bap1, bap2, B1, B2, rfl, rfl, by go_num, by omega, ⟨by rw [hflk.out, List.map_append, hfl'.out]; exact ob10, by rw [hnsk.out, List.map_append, List.map_take]; exact hown2, ne10, bb10⟩⟩
              case measure => simp [intOf]; omega
      · rcases hcase with ⟨rfl, t1⟩ | ⟨rfl, t1, t2⟩ | ⟨rfl, t1, t2, t3, t4⟩
        all_goals
          go_wp2_with fail
          clear t1
          try clear t2
          try clear t3
          try clear t4
          refine (hF.out _).mono ?_
          rintro _ w4 ⟨A4, cap4, rfl, O4, hb4⟩
          have hlp2 := hlp.out
          have M4 := hM.keep hb4
          have S4 := O4.sl
          rw [List.length_map] at O4 S4
          obtain ⟨g4, rfl, hg4⟩ : ∃ g, A4 = some ⟨g, 0, none⟩ ∧ g < w4.heap.size := by
            rcases O4.form with ⟨_, h0, _⟩ | ⟨g, e, _, h⟩
            · omega
            · exact ⟨g, e, h⟩
          have hcap4 : p + 1 ≤ cap4 := by have := O4.cap (by omega); omega
          clear hM
          go_wp2_with fail
          refine (New_to _).mono ?_
          rintro _ w5 ⟨rfl, hw5⟩
          have I5 : InMem w4 fl 0 w5 := by rw [hw5]; exact ⟨Box.new _ _ _, World.grownBy.refl _ _⟩
          clear hw5
          go_wp2_with fail
          go_loopw [9] (fun i wr => ∃ q : Nat, i = .int .i64 q ∧ q ≤ p ∧ InMem w4 fl q wr) (fun i _ => p - (intOf i).toNat)
          case atStart => exact ⟨0, rfl, Nat.zero_le _, I5⟩
          case round =>
            obtain ⟨q, rfl, hq, hI⟩ := hrel
            have B4 := below_grown hI.k
            have okq : (runD D.zero (fl.take q)).1.Ok := runD_ok zero_ok _
            by_cases hqp : q < p
            · obtain ⟨y, hy⟩ : ∃ y : Nat, fl[q]? = some y := ⟨_, List.getElem?_eq_getElem (by omega)⟩
              have hr := hok.put q y hy hqp
              have hh := hok.had q hqp
              have hy8 := hok.byte y (List.mem_of_getElem? hy)
              have Y1 := ((S4.keep B4 (Nat.le_refl _)).one (q := q) (by omega) (by rw [List.getElem?_map, hy]; rfl))
              have hsrc : Src wr w4.heap.size (some ⟨g4, 0 + q, none⟩) 1 [y] := ⟨by simpa using Y1.more B4.size, fun _ b o e => by (simp at e); omega, fun z hz => by simp at hz; omega⟩
              rw [Nat.zero_add] at hsrc
              have hqp' : (q : Int) < p := by omega
              have hqc : 0 < cap4 - q := by omega
              have hqc1 : (q : Int) + 1 ≤ cap4 := by omega
              obtain ⟨dq, hdq⟩ : ∃ d, (runD D.zero (fl.take q)).1 = d := ⟨_, rfl⟩
              obtain ⟨dq1, hdq1⟩ : ∃ d, (runD D.zero (fl.take (q + 1))).1 = d := ⟨_, rfl⟩
              have hIb := hI.box
              rw [hdq] at hr okq hIb
              rw [hdq1] at hr hh
              replace hdq1 := Kp.mk hdq1
              have hh2 : (dq1.had : Int) = (q : Int) + 1 := by omega
              clear hh Y1 hdq hy
              replace hr := Kp.mk hr
              go_wp2_with fail
              refine (Put_to dq w4.heap.size _ 1 _ [y] _ _ hr.out okq hIb hsrc (by omega)).mono ?_
              rintro _ x2 ⟨A6, n6, cap6, rfl, P6⟩
              obtain rfl : n6 = 0 := by simpa using P6.o.len.symm
              have K6 := hI.k.trans P6.k
              have b6 : Box x2 w4.heap.size 43 dq1.cells := P6.b
              clear P6
              go_wp2_with fail
              refine (Held_to _ _ _ b6).mono ?_
              rintro _ x3 ⟨rfl, H6⟩
              have b7 := b6.keep H6 b6.lt
              have K7 := K6.trans (grown_of_below H6 _)
              go_wp2_with fail
              go_roundw
              case rel => exact ⟨q + 1, by go_num, by omega, ⟨by rw [hdq1.out]; exact b7, K7⟩⟩
              case measure => simp [intOf]; omega
            · obtain rfl : q = p := by omega
              obtain ⟨y, hy⟩ : ∃ y : Nat, fl[q]? = some y := ⟨_, List.getElem?_eq_getElem (by omega)⟩
              have hr := hok.last y hy
              have hy8 := hok.byte y (List.mem_of_getElem? hy)
              have Y1 := ((S4.keep B4 (Nat.le_refl _)).one (q := q) (by omega) (by rw [List.getElem?_map, hy]; rfl))
              have hsrc : Src wr w4.heap.size (some ⟨g4, 0 + q, none⟩) 1 [y] := ⟨by simpa using Y1.more B4.size, fun _ b o e => by (simp at e); omega, fun z hz => by simp at hz; omega⟩
              rw [Nat.zero_add] at hsrc
              have hqc : 0 < cap4 - q := by omega
              have hqc1 : (q : Int) + 1 ≤ cap4 := by omega
              obtain ⟨dq, hdq⟩ : ∃ d, (runD D.zero (fl.take q)).1 = d := ⟨_, rfl⟩
              have hIb := hI.box
              rw [hdq] at hr okq hIb
              clear Y1 hdq hy
              replace hr := Kp.mk hr
              go_wp2_with fail
              refine (Put_to dq w4.heap.size _ 1 _ [y] _ _ hr.out okq hIb hsrc (by omega)).mono ?_
              rintro _ x2 ⟨A6, n6, cap6, rfl, P6⟩
              obtain rfl : n6 = 1 := by simpa using P6.o.len.symm
              have K6 := below_grown (hI.k.trans P6.k)
              have M6 := M4.keep K6
              have T6 := P6.o.sl
              have S6 := (S4.keep K6 (Nat.le_refl _)).more K6.size
              clear P6 M4 hI B4 S4 O4 I5
              go_wp2_with fail
              have HA : Below x2.heap.size x2 (x2.alloc (.cells #[.int .i32 _] 21)) := (Below.refl _ _).alloc (Nat.le_refl _) (.cells #[.int .i32 65533] 21)
              have M7 := M6.keep HA
              have T7 := (T6.keep HA (Nat.le_refl _)).more HA.size
              have S7 := (S6.keep HA (Nat.le_refl _)).more HA.size
              have U7 := sl_lit x2 21 .i32 [65533] #[.int .i32 65533] rfl (by simp)
              refine (same_to _ _ _ _ _ _ _ _ _ true (decide_eq_true rfl) T7 U7 (by omega) (by simp)).mono ?_
              rintro _ x7 ⟨rfl, H7⟩
              have M8 := M7.keep H7
              have S8 := (S7.keep H7 (Nat.le_refl _)).more H7.size
              rw [hlp.out] at S8
              have q8 := M8.b.size
              have hol2 := hol.out
              have hfk2 := hfk.out
              clear M6 M7 T7 S7 U7 H7 HA T6 S6 K6
              go_wp2_with (at_builtin; refine wpList_append_ints rfl _ _ 22 rfl w1.heap.size 5 i5 (.int .u8 0) 1 Try.underlying22 hi5 hy0 hy1 hy2 rfl .u8 _ _ _ _ rfl M8.ob _ _ _ _ _ rfl S8 ?c1 ?c2 ?c3 ?_)
              case c1 => unfold maxLen; omega
              case c2 => omega
              case c3 => exact q8
              intro B1 bap1 z1 hown hgrow hor
              have ow9 := M8.ow.apart hgrow M8.ne
              have ne9 := M8.ne.left (A2 := B1) M8.ow (by simpa using hor)
              have bb9 := M8.b.grown hgrow q8 (own_base M8.ob)
              have q9 := bb9.size
              have U9 := sl_lit z1 21 .i32 [65533] #[.int .i32 65533] rfl (by simp)
              have ow9a := ow9.alloc (.cells #[.int .i32 65533] 21)
              clear hor hgrow M8 S8
              go_wp2_with (at_builtin; refine wpList_append_ints rfl _ _ 27 rfl w1.heap.size 21 i0 (.int .i32 0) 4 Try.underlying27 hi hz0 hz1 hz2 rfl .i32 _ _ _ _ rfl ow9a _ _ _ _ _ rfl U9 ?c1 ?c2 ?c3 ?_)
              case c1 => unfold maxLen; first | omega | (simp; omega)
              case c2 => first | omega | (simp; omega)
              case c3 => first | omega | (simp; omega)
              intro B2 bap2 z2 hown2 hgrow2 hor2
              have ob9 := hown.alloc (.cells #[.int .i32 65533] 21)
              have ob10 := ob9.apart hgrow2 ne9.symm
              have ne10 := (ne9.symm.left (A2 := B2) ob9 (by simpa using hor2)).symm
              have bb10 := (bb9.alloc q9 (.cells #[.int .i32 65533] 21)).grown hgrow2 (by simp; omega) (own_base ow9a)
              clear hor2 hgrow2 ob9 hown ow9 ow9a ne9 bb9 U9
              go_wp2_with fail
              go_roundw
              case rel => exact ⟨k + 1, m + (q + 1), bap1, bap2, B1, B2, rfl, rfl, by go_num, by omega, ⟨by rw [hflk.out, List.map_append, hfl'.out]; exact ob10, by rw [hnsk.out, List.map_append, List.map_take]; exact hown2, ne10, bb10⟩⟩
              case measure => simp [intOf]; omega
    · obtain rfl : k = n := by omega
      have e1 : ns.take k = ns := by rw [← hnl]; exact List.take_length
      have hO := hM.ob
      have hW := hM.ow
      rw [e1] at hO hW
      have hol := hO.len
      rw [List.length_map] at hol
      have q1 := hM.b.size
      have hlen2 := hlen.out
      go_wp2_with fail
      refine (Decode_to _ _ _ (formsN ns) _ _ hdec.out hO.sl hbyte.out (by omega)).mono ?_
      rintro _ w5 ⟨A5, cap5, rfl, O5, hb5⟩
      have S5 := ((hW.sl).keep hb5 (Nat.le_refl _)).more hb5.size
      have T5 := O5.sl
      simp only [List.length_map, hnl] at T5
      have L5 := ((hb0.trans (hM.b.mono hb0.size))).trans (hb5.mono (by have := hb0.size; omega))
      go_wp2_with fail
      refine (same_to _ _ _ _ _ _ _ _ _ true (decide_eq_true rfl) T5 S5 (by omega) (by omega)).mono ?_
      rintro _ w6 ⟨rfl, hb6⟩
      have L6 := L5.trans (hb6.mono (by have := hb0.size; have := hb5.size; omega))
      go_wp2_with fail
      exact bodyPost_ret (v := .bool true) (by simp [results, Try.results6, go_sem]) rfl ⟨rfl, L6⟩

set_option maxRecDepth 100000 in
theorem back_any (A : Option Addr) (n cap : Nat) (zs : List Int) (w : World) (hs : SlIn w .i32 A n cap zs) :
    Calls Try.prog 6 #[.slice A n cap] w fun e w' => e = .returned (.bool true) ∧ Below w.heap.size w w' := by
  by_cases h : 500 < (n : Int)
  · go_enter Try.func6, Try.ntmps6
    go_wp2_with fail
    refine (known_any _).mono ?_
    rintro _ w1 ⟨rfl, hb1⟩
    go_wp2_with fail
    exact bodyPost_ret (v := .bool true) (by simp [results, Try.results6, go_sem]) rfl ⟨rfl, hb1⟩
  · exact back_in A n cap zs w hs.1 (by omega)
end Go.Proofs.Ytfogblcjccoeiaa
