/- The walks of TrailingZeros64 (over its table), of All and of its iterator: every stop, rising, as long as the body goes on. -/
import Derived.Test.YtnkanohjfanolaaDoorI
import Derived.Test.YtnkanohjfanolaaDoorO
import Derived.RangeFuncNested
import Derived.RangeFuncBound
import Derived.RangeFuncCalls
import Derived.RangeFuncLeaves
import Derived.Shelf.Abstract
import Derived.Shelf.RegionOpen
import Derived.OwnWalkIn
import Derived.TacticsInMore
import Derived.LoopNIn
import Derived.LoopIn
import Derived.RangeFuncFrom
namespace Go.Proofs.YtnkanohjfanolaaDoor
open Go.RowKit Go.Shelf
attribute [local go_sem] Oper.semAt_some

/-- The library's table lies in its variable. -/
structure Tab (w : World) : Prop where
  cell : ∀ j, j < 64 → w.cell? ⟨0, j, none⟩ = some (.int .u8 (Lib.deBruijn64tab.getD j 0))
  lt : 0 < w.heap.size
theorem Tab.keep {w w' : World} {B : Nat} (h : Tab w) (hb : Below B w w') (hB : 0 < B) : Tab w' :=
  ⟨fun j hj => (hb.cell (p := ⟨0, j, none⟩) hB).trans (h.cell j hj), Nat.lt_of_lt_of_le h.lt hb.size⟩

set_option maxHeartbeats 1000000 in
theorem tz_core (x k idx : Nat) (w : World) (hx0 : ((x : Int) == 0) = false)
    (key : IntKind.u64.wrap (bits BinOp.and IntKind.u64 (x : Int) (IntKind.u64.wrap (-(x : Int))) * 285870213051353865) / 288230376151711744 = (idx : Int))
    (hi : idx < 64) (hk : k < 64) (hcell : w.cell? ⟨0, idx, none⟩ = some (.int .u8 k)) :
    Calls Tryd.prog 23 #[.int .u64 x] w fun e w' => e = .returned (.int .i64 k) ∧ w' = w := by
  go_enter Tryd.func23, Tryd.ntmps23
  go_wp2_with (simp only [key])
  go_ret
  exact ⟨rfl, rfl⟩
theorem tz_key (x a : Nat) (hx : x < 18446744073709551616) (hx0 : x ≠ 0) (hlow : x &&& (18446744073709551616 - x) = a) :
    IntKind.u64.wrap (bits BinOp.and IntKind.u64 (x : Int) (IntKind.u64.wrap (-(x : Int))) * 285870213051353865) / 288230376151711744 = ((a * 285870213051353865 % 18446744073709551616 / 288230376151711744 : Nat) : Int) := by
  have e1 : IntKind.u64.wrap (-(x : Int)) = ((18446744073709551616 - x : Nat) : Int) := by rw [IntKind.wrap_u64]; omega
  rw [e1, bits_and_u64_nat x _ hx (by omega), hlow, IntKind.wrap_u64]
  omega
theorem tz (x : Nat) (hx0 : x ≠ 0) (hx : x < 18446744073709551616) (w : World) (hT : Tab w) :
    Calls Tryd.prog 23 #[.int .u64 x] w fun e w' => e = .returned (.int .i64 (Lib.ctz 64 x)) ∧ w' = w := by
  obtain ⟨hlow, hk⟩ := Lib.lowest_bit 64 x hx0 hx
  obtain ⟨hi, htab⟩ := Lib.deBruijn64_at _ hk
  have hcell := hT.cell _ hi
  rw [htab] at hcell
  exact tz_core x _ _ w (by simp; omega) (tz_key x _ hx hx0 hlow) hi hk hcell

theorem All_in (t : T4) (n : Nat) (w : World) :
    CallsIn Fence.wide n Tryd.prog 13 #[.agg #[.int .u64 t.a, .int .u64 t.b, .int .u64 t.c, .int .u64 t.d]] w fun e w' => e = .returned (.func (.func 22) #[] #[.pointer (some ⟨w.heap.size, 0, none⟩)]) ∧ w' = w.alloc (.cells #[.int .u64 t.a, .int .u64 t.b, .int .u64 t.c, .int .u64 t.d] 24) := by
  refine callsIn_wide.2 ?_
  have hmf : ∀ (fn : Fn) (first cap : Array Value) (w : World), (Instr.makeFunc fn first cap).run Tryd.prog w = .ok (.func fn first cap) w := fun _ _ _ _ => rfl
  go_enter Tryd.func13, Tryd.ntmps13
  go_wp2
  go_ret
  exact ⟨rfl, rfl⟩

theorem and_pred (u : Nat) (h0 : u ≠ 0) (h1 : u < 18446744073709551616) : bits BinOp.and IntKind.u64 (u : Int) ((u : Int) - 1) = ((u &&& (u - 1) : Nat) : Int) := by
  rw [show ((u : Int) - 1) = ((u - 1 : Nat) : Int) by omega]
  exact u64_and_nat u (u - 1) h1 (by omega)

structure OutMem (t : T4) (J : List Nat → World → Prop) (i : Nat) (wr : World) : Prop where
  le : i ≤ 4
  fin : i = 4 → upto t (64 * i) = upto t 200
  j : J (upto t (64 * i)) wr
  tab : Tab wr
structure InMem (t : T4) (J : List Nat → World → Prop) (i v b k : Nat) (wr : World) : Prop where
  lt : b < 18446744073709551616
  from_ : From v k b
  k64 : k ≤ 64
  k200 : 64 * i + k ≤ 200
  j : J (upto t (64 * i + k)) wr
  tab : Tab wr

set_option maxRecDepth 100000 in
set_option maxHeartbeats 2000000 in
theorem all_it (n l g n0 : Nat) (t : T4) (ht : t.Ok) (hn : 1 ≤ n) (hn0 : 0 < n0) (J Jx : List Nat → World → Prop)
    (hY : ∀ pre x W, J pre W → pre.length < 200 → YieldAt Fence.wide (n - 1) Tryd.prog l #[.int .i64 (x : Nat)] W fun e W' =>
      (e = .returned (.bool true) ∧ J (pre ++ [x]) W' ∧ Below n0 W W') ∨ (e = .returned (.bool false) ∧ Jx (pre ++ [x]) W'))
    (W : World) (hT : Tab W) (hb : Box W g 24 #[.int .u64 t.a, .int .u64 t.b, .int .u64 t.c, .int .u64 t.d]) (h0 : J [] W) :
    CallsIn Fence.wide n Tryd.prog 22 #[.func (.yield l) #[] #[], .pointer (some ⟨g, 0, none⟩)] W fun e W' => (∃ v, e = .returned v) ∧
      ((∃ ys, ys = upto t 200 ∧ J ys W') ∨ (∃ pre, pre <+: upto t 200 ∧ Jx pre W')) := by
  have c0 := hb.cell 0; have c1 := hb.cell 1; have c2 := hb.cell 2; have c3 := hb.cell 3
  have i0 : ∀ w : World, (Instr.index 24 (.agg #[.int .u64 t.a, .int .u64 t.b, .int .u64 t.c, .int .u64 t.d]) (.int .i64 0)).run Tryd.prog w = .ok (.int .u64 t.a) w := fun _ => by kernel_rfl
  have i1 : ∀ w : World, (Instr.index 24 (.agg #[.int .u64 t.a, .int .u64 t.b, .int .u64 t.c, .int .u64 t.d]) (.int .i64 1)).run Tryd.prog w = .ok (.int .u64 t.b) w := fun _ => by kernel_rfl
  have i2 : ∀ w : World, (Instr.index 24 (.agg #[.int .u64 t.a, .int .u64 t.b, .int .u64 t.c, .int .u64 t.d]) (.int .i64 2)).run Tryd.prog w = .ok (.int .u64 t.c) w := fun _ => by kernel_rfl
  have i3 : ∀ w : World, (Instr.index 24 (.agg #[.int .u64 t.a, .int .u64 t.b, .int .u64 t.c, .int .u64 t.d]) (.int .i64 3)).run Tryd.prog w = .ok (.int .u64 t.d) w := fun _ => by kernel_rfl
  refine callsIn_of_wp Tryd.func22 rfl trivial ?_ rfl
  simp only [Tryd.ntmps22, List.size_toArray, List.length_cons, List.length_nil, Nat.reduceAdd, Nat.reduceSub, Array.replicate_succ, Array.replicate_zero, List.push_toArray, List.append_toArray, List.nil_append, List.cons_append]
  gi_wp2
  gi_loopw [7] (fun ix wr => ∃ i : Nat, ix = .int .i64 i ∧ OutMem t J i wr) (fun ix _ => 4 - (intOf ix).toNat)
  case atStart => exact ⟨0, rfl, Nat.zero_le _, fun h => by omega, h0, hT⟩
  case round =>
    obtain ⟨i, rfl, hi4, hfin, hJ, hTr⟩ := hrel
    by_cases hlt : i < 4
    · have hlt' : (i : Int) < 4 := by omega
      obtain ⟨v, hv⟩ : ∃ v, t.w i = v := ⟨_, rfl⟩
      have hv64 := ht.w i
      rw [hv] at hv64
      have hix : ∀ w : World, (Instr.index 24 (.agg #[.int .u64 t.a, .int .u64 t.b, .int .u64 t.c, .int .u64 t.d]) (.int .i64 i)).run Tryd.prog w = .ok (.int .u64 v) w := by
        rw [← hv]
        rcases (show i = 0 ∨ i = 1 ∨ i = 2 ∨ i = 3 by omega) with rfl | rfl | rfl | rfl
        · exact i0
        · exact i1
        · exact i2
        · exact i3
      replace hv := Kp.mk hv
      clear i0 i1 i2 i3
      gi_wp2
      gi_loopw [4] (fun u wr => ∃ b k : Nat, u = .int .u64 b ∧ InMem t J i v b k wr) (fun u _ => (intOf u).toNat)
      case atStart => exact ⟨v, 0, rfl, hv64, From.start v, by omega, by omega, by simpa using hJ, hTr⟩
      case round =>
        obtain ⟨b, k, rfl, hb64, hfrom, hk64, hk200, hJ2, hT2⟩ := hrel
        replace hfrom := Kp.mk hfrom
        by_cases hb0 : b = 0
        · subst hb0
          gi_wp2
          go_roundw
          case rel =>
            have hz : ∀ x, 64 * i + k ≤ x → x < 64 * i + 64 → bit t x = false := fun x h1 h2 => by
              have := hfrom.out.zero (x - 64 * i) (by omega) (by omega)
              unfold bit
              rw [show x / 64 = i by omega, hv.out, show x % 64 = x - 64 * i by omega]
              exact this
            refine ⟨i + 1, by go_num, hlt, fun h => ?_, ?_, hT2⟩
            · rw [show 64 * (i + 1) = 64 * i + k + (64 - k) by omega, upto_gap t _ _ (fun x h1 h2 => hz x h1 (by omega)), show 200 = 64 * i + k + (200 - (64 * i + k)) by omega, upto_gap t _ _ (fun x h1 h2 => hz x h1 (by omega))]
            · rw [show 64 * (i + 1) = 64 * i + k + (64 - k) by omega, upto_gap t _ _ (fun x h1 h2 => hz x h1 (by omega))]
              exact hJ2
          case measure => simp [intOf]; omega
        · have hbz : ((b : Int) == 0) = false := by simpa using hb0
          obtain ⟨z, hz, hz64, hkz, hvz, hgap, hnext, hless⟩ := hfrom.out.next hb0 hb64
          have htz := Kp.mk hz
          have hand := and_pred b hb0 hb64
          have hb1 : 1 ≤ b := by omega
          have hbx : Kp (bit t (64 * i + z) = true) := ⟨by unfold bit; rw [show (64 * i + z) / 64 = i by omega, hv.out, show (64 * i + z) % 64 = z by omega]; exact hvz⟩
          have hgap2 : Kp (∀ x, 64 * i + k ≤ x → x < 64 * i + z → bit t x = false) := ⟨fun x h1 h2 => by
            unfold bit
            rw [show x / 64 = i by omega, hv.out, show x % 64 = x - 64 * i by omega]
            exact hgap _ (by omega) (by omega)⟩
          replace hnext := Kp.mk hnext
          replace hless := Kp.mk hless
          have ecast : Kp (((64 * i + z : Nat) : Int) = 64 * (i : Int) + z) := ⟨by omega⟩
          clear hgap hvz hz
          by_cases h200 : 200 ≤ 64 * i + z
          · have h200' : (200 : Int) ≤ 64 * (i : Int) + z := by omega
            gi_wp2_with (refine ⟨trivial, ?_⟩; gi_at_call 23; refine (callsIn_wide.2 (tz b hb0 hb64 _ hT2)).mono ?_; rintro e w' ⟨rfl, rfl⟩; rw [htz.out])
            refine ⟨fun _ h => (by cases h), ?_⟩
            gi_wp2
            refine bodyPost_ret (results_none rfl _ _ _) rfl ?_
            refine ⟨⟨_, rfl⟩, .inl ⟨_, rfl, ?_⟩⟩
            rw [show 200 = 64 * i + k + (200 - (64 * i + k)) by omega, upto_gap t _ _ (fun x h1 h2 => hgap2.out x h1 (by omega))]
            exact hJ2
          · have h200' : ¬ (200 : Int) ≤ 64 * (i : Int) + z := by omega
            obtain ⟨fn, tmps, assign, body, hy, hR⟩ := hY (upto t (64 * i + k)) (64 * i + z) wr hJ2 (Nat.lt_of_le_of_lt (upto_len t _) (by omega))
            rw [ecast.out] at hy
            gi_wp2_with (refine ⟨trivial, ?_⟩; gi_at_call 23; refine (callsIn_wide.2 (tz b hb0 hb64 _ hT2)).mono ?_; rintro e w' ⟨rfl, rfl⟩; rw [htz.out])
            refine hR.mono ?_
            have hpre : upto t (64 * i + k) ++ [64 * i + z] = upto t (64 * i + z + 1) := by
              rw [upto_snoc t _ hbx.out]
              congr 1
              rw [show 64 * i + z = 64 * i + k + (z - k) by omega, upto_gap t _ _ (fun x h1 h2 => hgap2.out x h1 (by omega))]
            replace hpre := Kp.mk hpre
            rintro e W' (⟨rfl, hJ', hk⟩ | ⟨rfl, hJx'⟩)
            · rw [hpre.out] at hJ'
              have hT' := hT2.keep hk hn0
              gi_wp2
              go_roundw
              case rel =>
                exact ⟨b &&& (b - 1), z + 1, rfl, Nat.lt_of_le_of_lt Nat.and_le_left hb64, hnext.out, by omega, by omega, hJ', hT'⟩
              case measure => have := hless.out; simp [intOf]; omega
            · rw [hpre.out] at hJx'
              gi_wp2
              refine bodyPost_ret (results_none rfl _ _ _) rfl ?_
              exact ⟨⟨_, rfl⟩, .inr ⟨_, upto_prefix t _ _ (by omega), hJx'⟩⟩
    · have hi : i = 4 := by omega
      subst hi
      rw [hfin rfl] at hJ
      clear hfin
      gi_wp2
      go_end0
      first | exact ⟨⟨_, rfl⟩, .inl ⟨_, rfl, hJ⟩⟩ | exact ⟨⟨_, rfl⟩, .inl hJ⟩
end Go.Proofs.YtnkanohjfanolaaDoor
