/- The walk of the law AesBytes (layer 4). -/
import Derived.Test.YtfkdeekobiknjaaL6
import Derived.Test.YtfkdeekobiknjaaW
namespace Go.Proofs.Ytfkdeekobiknjaa
open Go.RowKit
set_option maxRecDepth 100000 in
set_option maxHeartbeats 1000000 in
theorem bytes_any (za zb : Int) (wa : (Lit.int .u8 za).wf = true) (wb : (Lit.int .u8 zb).wf = true) (w : World) : Calls Try.prog 3 #[.int .u8 za, .int .u8 zb] w fun e w' => e = .returned (.bool true) ∧ Below w.heap.size w w' := by
  obtain ⟨a, rfl, ha⟩ := u8_nat wa
  obtain ⟨b, rfl, hb⟩ := u8_nat wb
  clear wa wb
  obtain ⟨x, hx⟩ : ∃ x, T a b = x := ⟨_, rfl⟩
  obtain ⟨y, hy⟩ : ∃ x, inv a = x := ⟨_, rfl⟩
  obtain ⟨z, hz⟩ : ∃ x, swapN a = x := ⟨_, rfl⟩
  replace hx := Kp.mk hx
  replace hy := Kp.mk hy
  replace hz := Kp.mk hz
  go_enter Try.func3, Try.ntmps3
  go_wp2_with fail
  refine (Times_to a b _ x hx.out ha hb).mono ?_
  rintro _ w1 ⟨rfl, hb1⟩
  have bel1 := hb1
  clear hb1
  go_wp2_with fail
  refine (TimesR_to a b _ x hx.out ha hb).mono ?_
  rintro _ _ ⟨rfl, rfl⟩
  go_wp2_with fail
  refine (Other_to a _ y hy.out ha).mono ?_
  rintro _ w2 ⟨rfl, hb2⟩
  have bel2 := bel1.trans (hb2.mono bel1.size)
  clear hb2 bel1
  go_wp2_with fail
  refine (OtherR_to a _ y hy.out ha).mono ?_
  rintro _ _ ⟨rfl, rfl⟩
  go_wp2_with fail
  refine (Swap_to a _ z hz.out ha).mono ?_
  rintro _ w3 ⟨rfl, hb3⟩
  have bel3 := bel2.trans (hb3.mono bel2.size)
  clear hb3 bel2
  go_wp2_with fail
  refine (SwapR_to a _ z hz.out ha).mono ?_
  rintro _ _ ⟨rfl, rfl⟩
  go_wp2_with fail
  refine (known_to _).mono ?_
  rintro _ w4 ⟨rfl, hb4⟩
  have bel4 := bel3.trans (hb4.mono bel3.size)
  clear hb4 bel3
  go_wp2_with fail
  exact bodyPost_ret (v := .bool true) (by simp [results, Try.results3, go_sem]) rfl ⟨rfl, bel4⟩
end Go.Proofs.Ytfkdeekobiknjaa
