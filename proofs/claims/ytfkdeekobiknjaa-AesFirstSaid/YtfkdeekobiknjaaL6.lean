/- The walk of the law AesSwaps (layer 4). -/
import Derived.Test.YtfkdeekobiknjaaR
namespace Go.Proofs.Ytfkdeekobiknjaa
open Go.RowKit

theorem swapN_back : ∀ a, a < 256 → backT.getD (swapN a) 0 = a := by decide +kernel
theorem swapN_inj {a b : Nat} (ha : a < 256) (hb : b < 256) (h : swapN a = swapN b) : a = b := by rw [← swapN_back a ha, h, swapN_back b hb]
theorem u8_nat {z : Int} (h : (Lit.int .u8 z).wf = true) : ∃ n : Nat, z = n ∧ n < 256 := by
  simp [Lit.wf, IntKind.min, IntKind.max, IntKind.signed, IntKind.bits] at h
  exact ⟨z.toNat, by omega, by omega⟩
theorem neq_cast {a b : Nat} (h : a ≠ b) : ((a : Int) == (b : Int)) = false ∧ ((a : Int) != (b : Int)) = true := by
  have : (a : Int) ≠ (b : Int) := by omega
  simp [this]
set_option maxRecDepth 100000 in
set_option maxHeartbeats 1000000 in
theorem swaps_any (za zb : Int) (wa : (Lit.int .u8 za).wf = true) (wb : (Lit.int .u8 zb).wf = true) (w : World) : Calls Try.prog 6 #[.int .u8 za, .int .u8 zb] w fun e w' => e = .returned (.bool true) ∧ Below w.heap.size w w' := by
  obtain ⟨a, rfl, ha⟩ := u8_nat wa
  obtain ⟨b, rfl, hb⟩ := u8_nat wb
  clear wa wb
  obtain ⟨x, hx⟩ : ∃ x, swapN a = x := ⟨_, rfl⟩
  obtain ⟨y, hy⟩ : ∃ x, swapN b = x := ⟨_, rfl⟩
  have f1 := (neq_cast (show x ≠ a from hx ▸ (swap_facts a ha).2)).2
  by_cases hab : a = b
  · subst hab
    obtain rfl : x = y := hx.symm.trans hy
    clear hy
    replace hx := Kp.mk hx
    go_enter Try.func6, Try.ntmps6
    go_wp2_with fail
    refine (Swap_to a _ x hx.out ha).mono ?_
    rintro _ w1 ⟨rfl, hb1⟩
    have bel1 := hb1
    clear hb1
    go_wp2_with fail
    refine (Swap_to a _ x hx.out ha).mono ?_
    rintro _ w2 ⟨rfl, hb2⟩
    have bel2 := bel1.trans (hb2.mono bel1.size)
    clear bel1
    clear hb2
    go_wp2_with fail
    refine (Swap_to a _ x hx.out ha).mono ?_
    rintro _ w3 ⟨rfl, hb3⟩
    have bel3 := bel2.trans (hb3.mono bel2.size)
    clear bel2
    clear hb3
    go_wp2_with fail
    refine (known_to _).mono ?_
    rintro _ w4 ⟨rfl, hb4⟩
    have bel4 := bel3.trans (hb4.mono bel3.size)
    clear bel3
    clear hb4
    go_wp2_with fail
    exact bodyPost_ret (v := .bool true) (by simp [results, Try.results6, go_sem]) rfl ⟨rfl, bel4⟩
  · have f2 := (neq_cast hab).1
    have f3 := (neq_cast (show x ≠ y from fun h => hab (swapN_inj ha hb (by rw [hx, hy, h])))).1
    replace hx := Kp.mk hx
    replace hy := Kp.mk hy
    clear hab
    go_enter Try.func6, Try.ntmps6
    go_wp2_with fail
    refine (Swap_to a _ x hx.out ha).mono ?_
    rintro _ w1 ⟨rfl, hb1⟩
    have bel1 := hb1
    clear hb1
    go_wp2_with fail
    refine (Swap_to b _ y hy.out hb).mono ?_
    rintro _ w2 ⟨rfl, hb2⟩
    have bel2 := bel1.trans (hb2.mono bel1.size)
    clear bel1
    clear hb2
    go_wp2_with fail
    refine (Swap_to a _ x hx.out ha).mono ?_
    rintro _ w3 ⟨rfl, hb3⟩
    have bel3 := bel2.trans (hb3.mono bel2.size)
    clear bel2
    clear hb3
    go_wp2_with fail
    refine (known_to _).mono ?_
    rintro _ w4 ⟨rfl, hb4⟩
    have bel4 := bel3.trans (hb4.mono bel3.size)
    clear bel3
    clear hb4
    go_wp2_with fail
    exact bodyPost_ret (v := .bool true) (by simp [results, Try.results6, go_sem]) rfl ⟨rfl, bel4⟩
end Go.Proofs.Ytfkdeekobiknjaa
