/- The walk of the law AesField (layer 4). -/
import Derived.Test.YtfkdeekobiknjaaL6
namespace Go.Proofs.Ytfkdeekobiknjaa
open Go.RowKit

set_option maxRecDepth 100000 in
set_option maxHeartbeats 4000000 in
theorem field_any (za zb zc : Int) (wa : (Lit.int .u8 za).wf = true) (wb : (Lit.int .u8 zb).wf = true) (wc : (Lit.int .u8 zc).wf = true) (w : World) :
    Calls Try.prog 5 #[.int .u8 za, .int .u8 zb, .int .u8 zc] w fun e w' => e = .returned (.bool true) ∧ Below w.heap.size w w' := by
  obtain ⟨a, rfl, ha⟩ := u8_nat wa
  obtain ⟨b, rfl, hb⟩ := u8_nat wb
  obtain ⟨c, rfl, hc⟩ := u8_nat wc
  clear wa wb wc
  obtain ⟨x, hx⟩ : ∃ x, T a b = x := ⟨_, rfl⟩
  obtain ⟨y, hy⟩ : ∃ x, T a c = x := ⟨_, rfl⟩
  obtain ⟨u, hu⟩ : ∃ m, T x c = m := ⟨_, rfl⟩
  obtain ⟨v, hv⟩ : ∃ x, T b c = x := ⟨_, rfl⟩
  obtain ⟨d, hd⟩ : ∃ x, b ^^^ c = x := ⟨_, rfl⟩
  obtain ⟨z, hz⟩ : ∃ z, x ^^^ y = z := ⟨_, rfl⟩
  obtain ⟨t, ht⟩ : ∃ z, xt a = z := ⟨_, rfl⟩
  have x8 : x < 256 := hx ▸ T_lt ha b
  have y8 : y < 256 := hy ▸ T_lt ha c
  have v8 : v < 256 := hv ▸ T_lt hb c
  have d8 : d < 256 := hd ▸ xor_lt hb hc
  have q1 : T b a = x := by rw [T_comm hb ha]; exact hx
  have q2 : T a v = u := by rw [← hv, ← T_assoc ha hb hc, hx]; exact hu
  have q3 : T a d = z := by rw [← hd, T_right, hx, hy]; exact hz
  have q4 : T a 1 = a := (T_one_two a ha).1
  have q5 : T a 2 = t := by rw [(T_one_two a ha).2]; exact ht
  have x1 := xor_u8 hb hc
  have x2 := xor_u8 x8 y8
  have x3 := xt_u8 ha
  rw [hd] at x1
  rw [hz] at x2
  rw [ht] at x3
  obtain ⟨i8, i1, i2, i3⟩ := inv_facts a ha
  obtain ⟨i, hi⟩ : ∃ i, inv a = i := ⟨_, rfl⟩
  rw [hi] at i8 i1 i2 i3
  have iu : a ≠ 0 → (x = 1 ↔ b = i) := fun h0 => ⟨fun h => by rw [← hi]; exact inv_unique ha hb (by rw [hx]; exact h), fun h => by rw [← hx, h]; exact i1 h0⟩
  have x0 : a = 0 → x = 0 := fun h => by rw [← hx, h, T_zero]
  replace hx := Kp.mk hx
  replace hy := Kp.mk hy
  replace hu := Kp.mk hu
  replace hv := Kp.mk hv
  replace hi := Kp.mk hi
  replace q1 := Kp.mk q1
  replace q2 := Kp.mk q2
  replace q3 := Kp.mk q3
  replace q4 := Kp.mk q4
  replace q5 := Kp.mk q5
  clear hd hz ht
  by_cases h0 : a = 0
  · have f0 : ((a : Int) == 0) = true := by simp; omega
    have f1 : ((x : Int) == 0) = true := by have := x0 h0; simp; omega
    have f2 : ((i : Int) == 0) = true := by have := i3 h0; simp; omega
    clear x0 iu i1 i2 i3 h0
    go_enter Try.func5, Try.ntmps5
    go_wp2_with fail
    refine (Times_to a b _ x hx.out ha hb).mono ?_
    rintro _ w1 ⟨rfl, hb1⟩
    have bel1 := hb1
    clear hb1
    go_wp2_with fail
    refine (Times_to b a _ x q1.out hb ha).mono ?_
    rintro _ w2 ⟨rfl, hb2⟩
    have bel2 := bel1.trans (hb2.mono bel1.size)
    clear bel1
    clear hb2
    go_wp2_with fail
    refine (Times_to x c _ u hu.out x8 hc).mono ?_
    rintro _ w3 ⟨rfl, hb3⟩
    have bel3 := bel2.trans (hb3.mono bel2.size)
    clear bel2
    clear hb3
    go_wp2_with fail
    refine (Times_to b c _ v hv.out hb hc).mono ?_
    rintro _ w4 ⟨rfl, hb4⟩
    have bel4 := bel3.trans (hb4.mono bel3.size)
    clear bel3
    clear hb4
    go_wp2_with fail
    refine (Times_to a v _ u q2.out ha v8).mono ?_
    rintro _ w5 ⟨rfl, hb5⟩
    have bel5 := bel4.trans (hb5.mono bel4.size)
    clear bel4
    clear hb5
    go_wp2_with fail
    refine (Times_to a d _ z q3.out ha d8).mono ?_
    rintro _ w6 ⟨rfl, hb6⟩
    have bel6 := bel5.trans (hb6.mono bel5.size)
    clear bel5
    clear hb6
    go_wp2_with fail
    refine (Times_to a c _ y hy.out ha hc).mono ?_
    rintro _ w7 ⟨rfl, hb7⟩
    have bel7 := bel6.trans (hb7.mono bel6.size)
    clear bel6
    clear hb7
    go_wp2_with fail
    refine (Times_to a 1 _ a q4.out ha (by decide)).mono ?_
    rintro _ w8 ⟨rfl, hb8⟩
    have bel8 := bel7.trans (hb8.mono bel7.size)
    clear bel7
    clear hb8
    go_wp2_with fail
    refine (Times_to a 2 _ t q5.out ha (by decide)).mono ?_
    rintro _ w9 ⟨rfl, hb9⟩
    have bel9 := bel8.trans (hb9.mono bel8.size)
    clear bel8
    clear hb9
    go_wp2_with fail
    refine (Other_to a _ i hi.out ha).mono ?_
    rintro _ w10 ⟨rfl, hb10⟩
    have bel10 := bel9.trans (hb10.mono bel9.size)
    clear bel9
    clear hb10
    go_wp2_with fail
    refine (known_to _).mono ?_
    rintro _ w11 ⟨rfl, hb11⟩
    have bel11 := bel10.trans (hb11.mono bel10.size)
    clear bel10
    clear hb11
    go_wp2_with fail
    exact bodyPost_ret (v := .bool true) (by simp [results, Try.results5, go_sem]) rfl ⟨rfl, bel11⟩
  · have f0 : ((a : Int) == 0) = false := by simp; omega
    have j1 : Kp (T a i = 1) := ⟨i1 h0⟩
    have j2 : Kp (inv i = a) := ⟨i2⟩
    by_cases hbi : b = i
    · have f1 : ((x : Int) == 1) = true := by have := (iu h0).2 hbi; simp; omega
      have f2 : ((b : Int) == (i : Int)) = true := by simp; omega
      clear hbi x0 iu i1 i2 i3 h0
      go_enter Try.func5, Try.ntmps5
      go_wp2_with fail
      refine (Times_to a b _ x hx.out ha hb).mono ?_
      rintro _ w1 ⟨rfl, hb1⟩
      have bel1 := hb1
      clear hb1
      go_wp2_with fail
      refine (Times_to b a _ x q1.out hb ha).mono ?_
      rintro _ w2 ⟨rfl, hb2⟩
      have bel2 := bel1.trans (hb2.mono bel1.size)
      clear bel1
      clear hb2
      go_wp2_with fail
      refine (Times_to x c _ u hu.out x8 hc).mono ?_
      rintro _ w3 ⟨rfl, hb3⟩
      have bel3 := bel2.trans (hb3.mono bel2.size)
      clear bel2
      clear hb3
      go_wp2_with fail
      refine (Times_to b c _ v hv.out hb hc).mono ?_
      rintro _ w4 ⟨rfl, hb4⟩
      have bel4 := bel3.trans (hb4.mono bel3.size)
      clear bel3
      clear hb4
      go_wp2_with fail
      refine (Times_to a v _ u q2.out ha v8).mono ?_
      rintro _ w5 ⟨rfl, hb5⟩
      have bel5 := bel4.trans (hb5.mono bel4.size)
      clear bel4
      clear hb5
      go_wp2_with fail
      refine (Times_to a d _ z q3.out ha d8).mono ?_
      rintro _ w6 ⟨rfl, hb6⟩
      have bel6 := bel5.trans (hb6.mono bel5.size)
      clear bel5
      clear hb6
      go_wp2_with fail
      refine (Times_to a c _ y hy.out ha hc).mono ?_
      rintro _ w7 ⟨rfl, hb7⟩
      have bel7 := bel6.trans (hb7.mono bel6.size)
      clear bel6
      clear hb7
      go_wp2_with fail
      refine (Times_to a 1 _ a q4.out ha (by decide)).mono ?_
      rintro _ w8 ⟨rfl, hb8⟩
      have bel8 := bel7.trans (hb8.mono bel7.size)
      clear bel7
      clear hb8
      go_wp2_with fail
      refine (Times_to a 2 _ t q5.out ha (by decide)).mono ?_
      rintro _ w9 ⟨rfl, hb9⟩
      have bel9 := bel8.trans (hb9.mono bel8.size)
      clear bel8
      clear hb9
      go_wp2_with fail
      refine (Other_to a _ i hi.out ha).mono ?_
      rintro _ w10 ⟨rfl, hb10⟩
      have bel10 := bel9.trans (hb10.mono bel9.size)
      clear bel9
      clear hb10
      go_wp2_with fail
      refine (Times_to a i _ 1 j1.out ha i8).mono ?_
      rintro _ w11 ⟨rfl, hb11⟩
      have bel11 := bel10.trans (hb11.mono bel10.size)
      clear bel10
      clear hb11
      go_wp2_with fail
      refine (Other_to a _ i hi.out ha).mono ?_
      rintro _ w12 ⟨rfl, hb12⟩
      have bel12 := bel11.trans (hb12.mono bel11.size)
      clear bel11
      clear hb12
      go_wp2_with fail
      refine (Other_to a _ i hi.out ha).mono ?_
      rintro _ w13 ⟨rfl, hb13⟩
      have bel13 := bel12.trans (hb13.mono bel12.size)
      clear bel12
      clear hb13
      go_wp2_with fail
      refine (Other_to i _ a j2.out i8).mono ?_
      rintro _ w14 ⟨rfl, hb14⟩
      have bel14 := bel13.trans (hb14.mono bel13.size)
      clear bel13
      clear hb14
      go_wp2_with fail
      refine (known_to _).mono ?_
      rintro _ w15 ⟨rfl, hb15⟩
      have bel15 := bel14.trans (hb15.mono bel14.size)
      clear bel14
      clear hb15
      go_wp2_with fail
      exact bodyPost_ret (v := .bool true) (by simp [results, Try.results5, go_sem]) rfl ⟨rfl, bel15⟩
    · have f1 : ((x : Int) == 1) = false := by have : x ≠ 1 := fun h => hbi ((iu h0).1 h); simp; omega
      have f2 := (neq_cast hbi).1
      clear hbi x0 iu i1 i2 i3 h0
      go_enter Try.func5, Try.ntmps5
      go_wp2_with fail
      refine (Times_to a b _ x hx.out ha hb).mono ?_
      rintro _ w1 ⟨rfl, hb1⟩
      have bel1 := hb1
      clear hb1
      go_wp2_with fail
      refine (Times_to b a _ x q1.out hb ha).mono ?_
      rintro _ w2 ⟨rfl, hb2⟩
      have bel2 := bel1.trans (hb2.mono bel1.size)
      clear bel1
      clear hb2
      go_wp2_with fail
      refine (Times_to x c _ u hu.out x8 hc).mono ?_
      rintro _ w3 ⟨rfl, hb3⟩
      have bel3 := bel2.trans (hb3.mono bel2.size)
      clear bel2
      clear hb3
      go_wp2_with fail
      refine (Times_to b c _ v hv.out hb hc).mono ?_
      rintro _ w4 ⟨rfl, hb4⟩
      have bel4 := bel3.trans (hb4.mono bel3.size)
      clear bel3
      clear hb4
      go_wp2_with fail
      refine (Times_to a v _ u q2.out ha v8).mono ?_
      rintro _ w5 ⟨rfl, hb5⟩
      have bel5 := bel4.trans (hb5.mono bel4.size)
      clear bel4
      clear hb5
      go_wp2_with fail
      refine (Times_to a d _ z q3.out ha d8).mono ?_
      rintro _ w6 ⟨rfl, hb6⟩
      have bel6 := bel5.trans (hb6.mono bel5.size)
      clear bel5
      clear hb6
      go_wp2_with fail
      refine (Times_to a c _ y hy.out ha hc).mono ?_
      rintro _ w7 ⟨rfl, hb7⟩
      have bel7 := bel6.trans (hb7.mono bel6.size)
      clear bel6
      clear hb7
      go_wp2_with fail
      refine (Times_to a 1 _ a q4.out ha (by decide)).mono ?_
      rintro _ w8 ⟨rfl, hb8⟩
      have bel8 := bel7.trans (hb8.mono bel7.size)
      clear bel7
      clear hb8
      go_wp2_with fail
      refine (Times_to a 2 _ t q5.out ha (by decide)).mono ?_
      rintro _ w9 ⟨rfl, hb9⟩
      have bel9 := bel8.trans (hb9.mono bel8.size)
      clear bel8
      clear hb9
      go_wp2_with fail
      refine (Other_to a _ i hi.out ha).mono ?_
      rintro _ w10 ⟨rfl, hb10⟩
      have bel10 := bel9.trans (hb10.mono bel9.size)
      clear bel9
      clear hb10
      go_wp2_with fail
      refine (Times_to a i _ 1 j1.out ha i8).mono ?_
      rintro _ w11 ⟨rfl, hb11⟩
      have bel11 := bel10.trans (hb11.mono bel10.size)
      clear bel10
      clear hb11
      go_wp2_with fail
      refine (Other_to a _ i hi.out ha).mono ?_
      rintro _ w12 ⟨rfl, hb12⟩
      have bel12 := bel11.trans (hb12.mono bel11.size)
      clear bel11
      clear hb12
      go_wp2_with fail
      refine (Other_to a _ i hi.out ha).mono ?_
      rintro _ w13 ⟨rfl, hb13⟩
      have bel13 := bel12.trans (hb13.mono bel12.size)
      clear bel12
      clear hb13
      go_wp2_with fail
      refine (Other_to i _ a j2.out i8).mono ?_
      rintro _ w14 ⟨rfl, hb14⟩
      have bel14 := bel13.trans (hb14.mono bel13.size)
      clear bel13
      clear hb14
      go_wp2_with fail
      refine (known_to _).mono ?_
      rintro _ w15 ⟨rfl, hb15⟩
      have bel15 := bel14.trans (hb15.mono bel14.size)
      clear bel14
      clear hb15
      go_wp2_with fail
      exact bodyPost_ret (v := .bool true) (by simp [results, Try.results5, go_sem]) rfl ⟨rfl, bel15⟩
end Go.Proofs.Ytfkdeekobiknjaa
