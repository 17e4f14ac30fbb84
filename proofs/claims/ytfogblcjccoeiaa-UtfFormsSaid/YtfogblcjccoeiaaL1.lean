/- The walk of the law UtfForms (layer 10): true for every number. -/
import Derived.Test.YtfogblcjccoeiaaK
import Derived.Deep.DeepCutAuto
namespace Go.Proofs.Ytfogblcjccoeiaa
open Go.RowKit

theorem strTo {w : World} {B : Nat} {A : Option Addr} {n cap : Nat} {zs : List Int} {s : ByteArray} (hs : strOfNums zs = s) (h : Sl w B .u8 A n zs) : (convert 22 9 (.slice A n cap)).run Try.prog w = .ok (.string s) w := by
  rw [← hs]; exact strOf h

set_option maxRecDepth 100000 in
set_option maxHeartbeats 4000000 in
theorem forms_any (c : Int) (w : World) : Calls Try.prog 3 #[.int .i32 c] w fun e w' => e = .returned (.bool true) ∧ Below w.heap.size w w' := by
  obtain ⟨s, hs⟩ : ∃ s, strOfNums (formL c) = s := ⟨_, rfl⟩
  obtain ⟨zs, hz⟩ : ∃ zs, formL c = zs := ⟨_, rfl⟩
  have hF : ∀ W, Calls Try.prog 10 #[.int .i32 c] W (NewRow 5 .u8 zs W) := fun W => hz ▸ Form_to c W
  have hR : ∀ W, Calls Try.prog 11 #[.int .i32 c] W (NewRow 5 .u8 zs W) := fun W => hz ▸ RForm_to c W
  rw [hz] at hs
  replace hs := Kp.mk hs
  clear hz
  replace hF := Kp.mk hF
  replace hR := Kp.mk hR
  have H0 := Below.refl w.heap.size w
  go_enter Try.func3, Try.ntmps3
  go_upto_region 1 with fail
  go_region_with
    (first | (go_at_call 10; refine (hF.out _).mono ?_; rintro e w' ⟨Aa, capa, rfl, Oa, Ha⟩; have hb := Below.trans (by first | assumption | exact Below.drew (by assumption)) (Ha.mono (Below.size (by first | assumption | exact Below.drew (by assumption)))); have qa := strTo (cap := capa) hs.out Oa.sl; have qa1 := strTo (cap := capa) hs.out Oa.drew.sl; have qa2 := strTo (cap := capa) hs.out Oa.drew.drew.sl; have qa3 := strTo (cap := capa) hs.out Oa.drew.drew.drew.sl; (try (have qb := strTo (cap := capb) hs.out (Ob.keep Ha (Nat.le_refl _)).sl))) | (go_at_call 11; refine (hR.out _).mono ?_; rintro e w' ⟨Ab, capb, rfl, Ob, Hb⟩; have hb := Below.trans (by first | assumption | exact Below.drew (by assumption)) (Hb.mono (Below.size (by first | assumption | exact Below.drew (by assumption)))); have qb := strTo (cap := capb) hs.out Ob.sl; have qb1 := strTo (cap := capb) hs.out Ob.drew.sl; have qb2 := strTo (cap := capb) hs.out Ob.drew.drew.sl; have qb3 := strTo (cap := capb) hs.out Ob.drew.drew.drew.sl; (try (have qa := strTo (cap := capa) hs.out (Oa.keep Hb (Nat.le_refl _)).sl))) | (go_at_call 12; refine (known_any _).mono ?_; rintro e w' ⟨rfl, Hk⟩; have hb := Below.trans (by first | assumption | exact Below.drew (by assumption)) (Hk.mono (Below.size (by first | assumption | exact Below.drew (by assumption))))))
  all_goals
    go_wp2_with fail
    exact bodyPost_ret (v := .bool true) (by simp [results, Try.results3, go_sem]) rfl ⟨rfl, by first | assumption | exact Below.drew (by assumption) | exact Below.drew (Below.drew (by assumption))⟩
end Go.Proofs.Ytfogblcjccoeiaa
