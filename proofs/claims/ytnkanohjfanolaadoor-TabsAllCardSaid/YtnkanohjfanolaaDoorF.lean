/- The walks of the small functions of layer 16: side, Is, Set, Clear. For every four words and every number; no condition. -/
import Derived.Test.YtnkanohjfanolaaDoorChecked
import Derived.Test.YtnkanohjfanolaaDoorC
import Derived.Test.YtnkanohjfanolaaDoorM
import Derived.WalkLawsBesides
import Derived.WalkSpells
import Derived.Outline
namespace Go.Proofs.YtnkanohjfanolaaDoor
open Go.RowKit
structure Kp (p : Prop) : Prop where
  out : p
theorem ret_bool {a b : Bool} (h : a = b) : Ending.returned (.bool a) = .returned (.bool b) := by rw [h]
theorem ret_int {k : IntKind} {a b : Int} (h : a = b) : Ending.returned (.int k a) = .returned (.int k b) := by rw [h]
theorem T4.cell (t : T4) {w : World} {g : Nat} (h : Box w g 24 #[.int .u64 t.a, .int .u64 t.b, .int .u64 t.c, .int .u64 t.d]) (i : Nat) (hi : i < 4) : w.cell? ⟨g, i, none⟩ = some (.int .u64 (t.w i)) := by
  rw [h.cell i]
  match i, hi with
  | 0, _ => rfl
  | 1, _ => rfl
  | 2, _ => rfl
  | 3, _ => rfl

theorem bit_walk (v r : Nat) (hv : v < 18446744073709551616) : (bits BinOp.and IntKind.u64 ((v : Int) / 2 ^ r) 1 == 1) = v.testBit r := by
  have e : ((v : Int) / 2 ^ r) = ((v / 2 ^ r : Nat) : Int) := by simp
  have hd : v / 2 ^ r ≤ v := Nat.div_le_self _ _
  have := half_bit v r
  rw [e]
  generalize v / 2 ^ r = q at *
  rw [and_one_u64 _ (by omega) (by omega)]
  cases h : v.testBit r <;> rw [h] at this <;> simp at this ⊢ <;> omega

set_option maxRecDepth 100000 in
set_option maxHeartbeats 400000 in
theorem Is_tabs (t : T4) (x : Int) (w : World) (ht : t.Ok) (v : Bool) (hv : isI t x = v) :
    Calls Tryd.prog 15 #[.agg #[.int .u64 t.a, .int .u64 t.b, .int .u64 t.c, .int .u64 t.d], .int .i64 x] w fun e w' => e = .returned (.bool v) ∧ Below w.heap.size w w' := by
  by_cases hin : 0 ≤ x ∧ x < 200
  · obtain ⟨n, rfl⟩ := Int.eq_ofNat_of_zero_le hin.1
    have hx : n < 200 := by omega
    have hc := t.cell (Box.new w 24 _) (n / 64) (by omega)
    have hlt := ht.w (n / 64)
    have hb : isI t n = (t.w (n / 64)).testBit (n % 64) := by unfold isI bit; rw [decide_eq_true hin, Bool.true_and, Int.toNat_natCast]
    rw [hb] at hv
    obtain ⟨u, hu⟩ : ∃ u, t.w (n / 64) = u := ⟨_, rfl⟩
    rw [hu] at hc hlt hv
    replace hv := Kp.mk hv
    clear hu hb hin ht
    go_enter Tryd.func15, Tryd.ntmps15
    go_wp2
    go_ret
    exact ⟨ret_bool (by rw [← hv.out]; exact bit_walk u _ hlt), (Below.refl _ _).alloc (Nat.le_refl _) _⟩
  · have hb : isI t x = false := by unfold isI; rw [decide_eq_false hin, Bool.false_and]
    rw [hb] at hv
    subst hv
    rcases (show x < 0 ∨ (0 ≤ x ∧ ¬ x < 200) by omega) with h | ⟨h0, h⟩
    all_goals
      go_enter Tryd.func15, Tryd.ntmps15
      go_wp2
      go_ret
      exact ⟨rfl, (Below.refl _ _).alloc (Nat.le_refl _) _⟩

def TVal (u : T4) (w : World) (e : Ending) (w' : World) : Prop := e = .returned (.agg #[.int .u64 u.a, .int .u64 u.b, .int .u64 u.c, .int .u64 u.d]) ∧ Below w.heap.size w w'

theorem wrap_pow (r : Nat) (h : r < 64) : IntKind.u64.wrap (2 ^ r) = ((2 ^ r : Nat) : Int) := by
  have := pow_lt r h
  have e : ((2 : Int) ^ r) = ((2 ^ r : Nat) : Int) := by simp
  rw [e]
  generalize 2 ^ r = q at *
  rw [IntKind.wrap_u64]; omega

set_option maxRecDepth 100000 in
set_option maxHeartbeats 1000000 in
theorem Set_tabs (t : T4) (x : Int) (w : World) (ht : t.Ok) :
    Calls Tryd.prog 16 #[.agg #[.int .u64 t.a, .int .u64 t.b, .int .u64 t.c, .int .u64 t.d], .int .i64 x] w (TVal (setI t x) w) := by
  by_cases hin : 0 ≤ x ∧ x < 200
  · obtain ⟨n, rfl⟩ := Int.eq_ofNat_of_zero_le hin.1
    have hx : n < 200 := by omega
    have b0 := (Box.new w 24 #[.int .u64 t.a, .int .u64 t.b, .int .u64 t.c, .int .u64 t.d]).alloc (.cells #[.int .u64 0, .int .u64 0, .int .u64 0, .int .u64 0] 24)
    have hr : n % 64 < 64 := by omega
    have hpow := wrap_pow (n % 64) hr
    have hplt := pow_lt (n % 64) hr
    have e : setI t n = t.put (n / 64) (t.w (n / 64) ||| 2 ^ (n % 64)) := by unfold setI setB; rw [if_pos hin, Int.toNat_natCast]
    rw [e]
    clear e
    rcases (show n / 64 = 0 ∨ n / 64 = 1 ∨ n / 64 = 2 ∨ n / 64 = 3 by omega) with hq | hq | hq | hq
    · rw [hq]
      have hlt := ht.a
      have hor := u64_or_nat t.a _ hlt hplt
      have c0 := b0.drew.cell 0; have c1 := b0.drew.cell 1; have c2 := b0.drew.cell 2; have c3 := b0.drew.cell 3
      have f0 := b0.drew.frozen 0
      generalize hp : 2 ^ (n % 64) = p at *
      clear hp
      go_enter Tryd.func16, Tryd.ntmps16
      go_wp2
      go_region
      all_goals
        go_wp2
        exact bodyPost_ret (v := .agg #[.int .u64 (t.a ||| p : Nat), .int .u64 t.b, .int .u64 t.c, .int .u64 t.d]) (by simp [results, Tryd.results16, go_sem]) rfl ⟨rfl, by
          repeat (first | exact Below.refl _ _ | refine Below.drew ?_ | refine Below.setCell ?_ (by first | omega | (simp <;> omega)) _ | refine Below.alloc ?_ (by first | omega | (simp <;> omega)) _)⟩
    · rw [hq]
      have hlt := ht.b
      have hor := u64_or_nat t.b _ hlt hplt
      have c0 := b0.drew.cell 0; have c1 := b0.drew.cell 1; have c2 := b0.drew.cell 2; have c3 := b0.drew.cell 3
      have f0 := b0.drew.frozen 1
      generalize hp : 2 ^ (n % 64) = p at *
      clear hp
      go_enter Tryd.func16, Tryd.ntmps16
      go_wp2
      go_region
      all_goals
        go_wp2
        exact bodyPost_ret (v := .agg #[.int .u64 t.a, .int .u64 (t.b ||| p : Nat), .int .u64 t.c, .int .u64 t.d]) (by simp [results, Tryd.results16, go_sem]) rfl ⟨rfl, by
          repeat (first | exact Below.refl _ _ | refine Below.drew ?_ | refine Below.setCell ?_ (by first | omega | (simp <;> omega)) _ | refine Below.alloc ?_ (by first | omega | (simp <;> omega)) _)⟩
    · rw [hq]
      have hlt := ht.c
      have hor := u64_or_nat t.c _ hlt hplt
      have c0 := b0.drew.cell 0; have c1 := b0.drew.cell 1; have c2 := b0.drew.cell 2; have c3 := b0.drew.cell 3
      have f0 := b0.drew.frozen 2
      generalize hp : 2 ^ (n % 64) = p at *
      clear hp
      go_enter Tryd.func16, Tryd.ntmps16
      go_wp2
      go_region
      all_goals
        go_wp2
        exact bodyPost_ret (v := .agg #[.int .u64 t.a, .int .u64 t.b, .int .u64 (t.c ||| p : Nat), .int .u64 t.d]) (by simp [results, Tryd.results16, go_sem]) rfl ⟨rfl, by
          repeat (first | exact Below.refl _ _ | refine Below.drew ?_ | refine Below.setCell ?_ (by first | omega | (simp <;> omega)) _ | refine Below.alloc ?_ (by first | omega | (simp <;> omega)) _)⟩
    · rw [hq]
      have hlt := ht.d
      have hor := u64_or_nat t.d _ hlt hplt
      have c0 := b0.drew.cell 0; have c1 := b0.drew.cell 1; have c2 := b0.drew.cell 2; have c3 := b0.drew.cell 3
      have f0 := b0.drew.frozen 3
      generalize hp : 2 ^ (n % 64) = p at *
      clear hp
      go_enter Tryd.func16, Tryd.ntmps16
      go_wp2
      go_region
      all_goals
        go_wp2
        exact bodyPost_ret (v := .agg #[.int .u64 t.a, .int .u64 t.b, .int .u64 t.c, .int .u64 (t.d ||| p : Nat)]) (by simp [results, Tryd.results16, go_sem]) rfl ⟨rfl, by
          repeat (first | exact Below.refl _ _ | refine Below.drew ?_ | refine Below.setCell ?_ (by first | omega | (simp <;> omega)) _ | refine Below.alloc ?_ (by first | omega | (simp <;> omega)) _)⟩
  · have e : setI t x = t := if_neg hin
    rw [e]
    rcases (show x < 0 ∨ (0 ≤ x ∧ ¬ x < 200) by omega) with h | ⟨h0, h⟩
    all_goals
      go_enter Tryd.func16, Tryd.ntmps16
      go_wp2
      exact bodyPost_ret (v := .agg #[.int .u64 t.a, .int .u64 t.b, .int .u64 t.c, .int .u64 t.d]) (by simp [results, Tryd.results16, go_sem]) rfl ⟨rfl, by
        repeat (first | exact Below.refl _ _ | refine Below.drew ?_ | refine Below.setCell ?_ (by first | omega | (simp <;> omega)) _ | refine Below.alloc ?_ (by first | omega | (simp <;> omega)) _)⟩
set_option maxRecDepth 100000 in
set_option maxHeartbeats 1000000 in
theorem Clear_tabs (t : T4) (x : Int) (w : World) (ht : t.Ok) :
    Calls Tryd.prog 18 #[.agg #[.int .u64 t.a, .int .u64 t.b, .int .u64 t.c, .int .u64 t.d], .int .i64 x] w (TVal (clrI t x) w) := by
  by_cases hin : 0 ≤ x ∧ x < 200
  · obtain ⟨n, rfl⟩ := Int.eq_ofNat_of_zero_le hin.1
    have hx : n < 200 := by omega
    have b0 := (Box.new w 24 #[.int .u64 t.a, .int .u64 t.b, .int .u64 t.c, .int .u64 t.d]).alloc (.cells #[.int .u64 0, .int .u64 0, .int .u64 0, .int .u64 0] 24)
    have hr : n % 64 < 64 := by omega
    have hpow := wrap_pow (n % 64) hr
    have hplt := pow_lt (n % 64) hr
    have e : clrI t n = t.put (n / 64) (t.w (n / 64) &&& (18446744073709551615 - 2 ^ (n % 64))) := by unfold clrI clrB; rw [if_pos hin, Int.toNat_natCast]
    rw [e]
    clear e
    rcases (show n / 64 = 0 ∨ n / 64 = 1 ∨ n / 64 = 2 ∨ n / 64 = 3 by omega) with hq | hq | hq | hq
    · rw [hq]
      have hlt := ht.a
      have hor := u64_andNot_nat t.a _ hlt hplt
      have c0 := b0.drew.cell 0; have c1 := b0.drew.cell 1; have c2 := b0.drew.cell 2; have c3 := b0.drew.cell 3
      have f0 := b0.drew.frozen 0
      generalize hp : 2 ^ (n % 64) = p at *
      clear hp
      go_enter Tryd.func18, Tryd.ntmps18
      go_wp2
      go_region
      all_goals
        go_wp2
        exact bodyPost_ret (v := .agg #[.int .u64 (t.a &&& (18446744073709551615 - p) : Nat), .int .u64 t.b, .int .u64 t.c, .int .u64 t.d]) (by simp [results, Tryd.results18, go_sem]) rfl ⟨rfl, by
          repeat (first | exact Below.refl _ _ | refine Below.drew ?_ | refine Below.setCell ?_ (by first | omega | (simp <;> omega)) _ | refine Below.alloc ?_ (by first | omega | (simp <;> omega)) _)⟩
    · rw [hq]
      have hlt := ht.b
      have hor := u64_andNot_nat t.b _ hlt hplt
      have c0 := b0.drew.cell 0; have c1 := b0.drew.cell 1; have c2 := b0.drew.cell 2; have c3 := b0.drew.cell 3
      have f0 := b0.drew.frozen 1
      generalize hp : 2 ^ (n % 64) = p at *
      clear hp
      go_enter Tryd.func18, Tryd.ntmps18
      go_wp2
      go_region
      all_goals
        go_wp2
        exact bodyPost_ret (v := .agg #[.int .u64 t.a, .int .u64 (t.b &&& (18446744073709551615 - p) : Nat), .int .u64 t.c, .int .u64 t.d]) (by simp [results, Tryd.results18, go_sem]) rfl ⟨rfl, by
          repeat (first | exact Below.refl _ _ | refine Below.drew ?_ | refine Below.setCell ?_ (by first | omega | (simp <;> omega)) _ | refine Below.alloc ?_ (by first | omega | (simp <;> omega)) _)⟩
    · rw [hq]
      have hlt := ht.c
      have hor := u64_andNot_nat t.c _ hlt hplt
      have c0 := b0.drew.cell 0; have c1 := b0.drew.cell 1; have c2 := b0.drew.cell 2; have c3 := b0.drew.cell 3
      have f0 := b0.drew.frozen 2
      generalize hp : 2 ^ (n % 64) = p at *
      clear hp
      go_enter Tryd.func18, Tryd.ntmps18
      go_wp2
      go_region
      all_goals
        go_wp2
        exact bodyPost_ret (v := .agg #[.int .u64 t.a, .int .u64 t.b, .int .u64 (t.c &&& (18446744073709551615 - p) : Nat), .int .u64 t.d]) (by simp [results, Tryd.results18, go_sem]) rfl ⟨rfl, by
          repeat (first | exact Below.refl _ _ | refine Below.drew ?_ | refine Below.setCell ?_ (by first | omega | (simp <;> omega)) _ | refine Below.alloc ?_ (by first | omega | (simp <;> omega)) _)⟩
    · rw [hq]
      have hlt := ht.d
      have hor := u64_andNot_nat t.d _ hlt hplt
      have c0 := b0.drew.cell 0; have c1 := b0.drew.cell 1; have c2 := b0.drew.cell 2; have c3 := b0.drew.cell 3
      have f0 := b0.drew.frozen 3
      generalize hp : 2 ^ (n % 64) = p at *
      clear hp
      go_enter Tryd.func18, Tryd.ntmps18
      go_wp2
      go_region
      all_goals
        go_wp2
        exact bodyPost_ret (v := .agg #[.int .u64 t.a, .int .u64 t.b, .int .u64 t.c, .int .u64 (t.d &&& (18446744073709551615 - p) : Nat)]) (by simp [results, Tryd.results18, go_sem]) rfl ⟨rfl, by
          repeat (first | exact Below.refl _ _ | refine Below.drew ?_ | refine Below.setCell ?_ (by first | omega | (simp <;> omega)) _ | refine Below.alloc ?_ (by first | omega | (simp <;> omega)) _)⟩
  · have e : clrI t x = t := if_neg hin
    rw [e]
    rcases (show x < 0 ∨ (0 ≤ x ∧ ¬ x < 200) by omega) with h | ⟨h0, h⟩
    all_goals
      go_enter Tryd.func18, Tryd.ntmps18
      go_wp2
      exact bodyPost_ret (v := .agg #[.int .u64 t.a, .int .u64 t.b, .int .u64 t.c, .int .u64 t.d]) (by simp [results, Tryd.results18, go_sem]) rfl ⟨rfl, by
        repeat (first | exact Below.refl _ _ | refine Below.drew ?_ | refine Below.setCell ?_ (by first | omega | (simp <;> omega)) _ | refine Below.alloc ?_ (by first | omega | (simp <;> omega)) _)⟩
end Go.Proofs.YtnkanohjfanolaaDoor
