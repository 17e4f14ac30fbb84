/- The walks of the laws TabsStops and TabsTwice (layer 16): true for every four words and all numbers; the library's table lies in its variable. -/
import Derived.Test.YtnkanohjfanolaaDoorK
import Derived.Test.YtnkanohjfanolaaDoorE
namespace Go.Proofs.YtnkanohjfanolaaDoor
open Go.RowKit
attribute [local go_sem] eq24

theorem Set_to (t : T4) (x : Int) (u : T4) (w : World) (ht : t.Ok) (h : setI t x = u) :
    Calls Tryd.prog 16 #[.agg #[.int .u64 t.a, .int .u64 t.b, .int .u64 t.c, .int .u64 t.d], .int .i64 x] w fun e w' => e = .returned (.agg #[.int .u64 u.a, .int .u64 u.b, .int .u64 u.c, .int .u64 u.d]) ∧ Below w.heap.size w w' := by
  subst h; exact Set_tabs t x w ht
theorem Clear_to (t : T4) (x : Int) (u : T4) (w : World) (ht : t.Ok) (h : clrI t x = u) :
    Calls Tryd.prog 18 #[.agg #[.int .u64 t.a, .int .u64 t.b, .int .u64 t.c, .int .u64 t.d], .int .i64 x] w fun e w' => e = .returned (.agg #[.int .u64 u.a, .int .u64 u.b, .int .u64 u.c, .int .u64 u.d]) ∧ Below w.heap.size w w' := by
  subst h; exact Clear_tabs t x w ht
theorem With_to (t : T4) (x : Int) (b : Bool) (u : T4) (w : World) (ht : t.Ok) (h : withI t x b = u) :
    Calls Tryd.prog 17 #[.agg #[.int .u64 t.a, .int .u64 t.b, .int .u64 t.c, .int .u64 t.d], .int .i64 x, .bool b] w fun e w' => e = .returned (.agg #[.int .u64 u.a, .int .u64 u.b, .int .u64 u.c, .int .u64 u.d]) ∧ Below w.heap.size w w' := by
  subst h; exact With_any t x b w ht

set_option maxRecDepth 100000 in
set_option maxHeartbeats 4000000 in
theorem stops_any (t : T4) (x to : Int) (w : World) (ht : t.Ok) (hT : Tab w) :
    Calls Tryd.prog 6 #[.agg #[.int .u64 t.a, .int .u64 t.b, .int .u64 t.c, .int .u64 t.d], .int .i64 x, .int .i64 to] w fun e w' => e = .returned (.bool true) ∧ Below w.heap.size w w' := by
  obtain ⟨v, hv⟩ : ∃ v, isI t x = v := ⟨_, rfl⟩
  obtain ⟨a, ha⟩ : ∃ a, setI t x = a := ⟨_, rfl⟩
  obtain ⟨b, hb⟩ : ∃ b, clrI t x = b := ⟨_, rfl⟩
  have ha2 : withI t x true = a := (withI_true t x).trans ha
  have hb2 : withI t x false = b := (withI_false t x).trans hb
  obtain ⟨c, hc⟩ := Wides.exists_ zero_ok 0 to
  obtain ⟨d, hd⟩ := Wides.exists_ ht x to
  replace hv := Kp.mk hv; replace ha := Kp.mk ha; replace hb := Kp.mk hb; replace ha2 := Kp.mk ha2; replace hb2 := Kp.mk hb2; replace hc := Kp.mk hc; replace hd := Kp.mk hd
  have M : TM w.heap.size w w.heap.size t (w.alloc (.cells #[.int .u64 t.a, .int .u64 t.b, .int .u64 t.c, .int .u64 t.d] 24)).drew := (⟨Box.new _ _ _, hT.keep ((Below.refl w.heap.size w).alloc (Nat.le_refl _) _) hT.lt, (Below.refl _ _).alloc (Nat.le_refl _) _, by simp⟩ : TM w.heap.size w w.heap.size t (w.alloc (.cells #[.int .u64 t.a, .int .u64 t.b, .int .u64 t.c, .int .u64 t.d] 24))).drew
  go_enter Tryd.func6, Tryd.ntmps6
  go_wp2_with fail
  go_region_held3 (fun W => TM w.heap.size w w.heap.size t W ∧ W.cell? ⟨w.heap.size, 0, none⟩ = some (.int .u64 t.a) ∧ W.cell? ⟨w.heap.size, 1, none⟩ = some (.int .u64 t.b) ∧ W.cell? ⟨w.heap.size, 2, none⟩ = some (.int .u64 t.c) ∧ W.cell? ⟨w.heap.size, 3, none⟩ = some (.int .u64 t.d))
    (first | assumption | exact (TM.keep (And.left (by assumption)) (by assumption)).cells | exact M.cells)
    (first | (go_at_call 15; refine (Is_tabs t x _ ht _ hv.out).mono ?_; rintro e w' ⟨rfl, hbel⟩) | (go_at_call 14; refine (Is_ref t x _ ht _ hv.out).mono ?_; rintro e w' ⟨rfl, hbel⟩) | (go_at_call 16; refine (Set_to t x a _ ht ha.out).mono ?_; rintro e w' ⟨rfl, hbel⟩) | (go_at_call 18; refine (Clear_to t x b _ ht hb.out).mono ?_; rintro e w' ⟨rfl, hbel⟩) | (go_at_call_of 17 true; refine (With_to t x true a _ ht ha2.out).mono ?_; rintro e w' ⟨rfl, hbel⟩) | (go_at_call_of 17 false; refine (With_to t x false b _ ht hb2.out).mono ?_; rintro e w' ⟨rfl, hbel⟩) | (go_at_call 19; refine (Usual_tabs_to to c _ hc.out).mono ?_; rintro e w' ⟨rfl, hbel⟩) | (go_at_call 21; refine (Wider_tabs_to t x to d _ ht hd.out).mono ?_; rintro e w' ⟨rfl, hbel⟩) | (go_at_call_of 20 x; refine (Wider_ref_to t x to d _ ht hd.out).mono ?_; rintro e w' ⟨rfl, hbel⟩) | (go_at_call 20; refine (Wider_ref_to ⟨0, 0, 0, 0⟩ 0 to c _ zero_ok hc.out).mono ?_; rintro e w' ⟨rfl, hbel⟩) | (go_at_call 12; refine (known_any _ (TM.tab (And.left (by assumption)))).mono ?_; rintro e w' ⟨rfl, hbel⟩))
  all_goals
    have M9 : TM w.heap.size w w.heap.size t w' := And.left (by assumption)
    go_wp2_with fail
    go_ret
    exact ⟨rfl, M9.bel⟩
end Go.Proofs.YtnkanohjfanolaaDoor
