/- The walk of mix (layer 4). -/
import Derived.Test.YtgdphdnghackfaaH
import Derived.Deep.RegionWith
namespace Go.Proofs.Ytgdphdnghackfaa
open Go.RowKit

theorem run_index_u8s {m : List Nat} {k : Nat} {w : World} (hm : m.length = 4) (hk : k < 4) : (Instr.index 62 (.agg (u8s m)) (.int .i64 (k : Nat))).run Try.prog w = .ok (.int .u8 (m.getD k 0 : Nat)) w := by
  have h1 : (0 : Int) ≤ k ∧ (k : Int) < 4 := by omega
  have h2 := u8s_get m k (by omega)
  simp [Instr.index, run_underlying Try.underlying62, asIntOf, h1, go_sem, h2]
  intro h; omega
/-- A block whose columns are mixed by four numbers: byte i's part k. -/
def mxIn (l m : List Nat) (i : Nat) (o : List Nat) : Nat → List Nat
  | 0 => o
  | k + 1 => (mxIn l m i o k).set i ((mxIn l m i o k).getD i 0 ^^^ T (m.getD k 0) (l.getD (i / 4 * 4 + (i + k) % 4) 0))
def mxS (l m : List Nat) : Nat → List Nat
  | 0 => List.replicate 16 0
  | i + 1 => mxIn l m i (mxS l m i) 4
def mxL (l m : List Nat) : List Nat := mxS l m 16
theorem mxIn_len (l m : List Nat) (i : Nat) (o : List Nat) (k : Nat) : (mxIn l m i o k).length = o.length := by
  induction k with
  | zero => rfl
  | succ k ih => show (List.set _ _ _).length = _; rw [List.length_set]; exact ih
theorem mxS_len (l m : List Nat) (i : Nat) : (mxS l m i).length = 16 := by
  induction i with
  | zero => exact List.length_replicate
  | succ i ih => show (mxIn _ _ _ _ _).length = _; rw [mxIn_len]; exact ih
theorem mxIn_bytes {l m : List Nat} (hm : Bytes m) (i : Nat) {o : List Nat} (ho : Bytes o) (k : Nat) : Bytes (mxIn l m i o k) := by
  induction k with
  | zero => exact ho
  | succ k ih => exact ih.set i (xor_lt (ih.get i) (T_lt (hm.get k) _))
theorem mxS_bytes {l m : List Nat} (hm : Bytes m) (i : Nat) : Bytes (mxS l m i) := by
  induction i with
  | zero => intro x hx; have := List.eq_of_mem_replicate hx; omega
  | succ i ih => exact mxIn_bytes hm i ih 4
structure MxMem (w : World) (a m l : List Nat) (W : World) : Prop where
  a : Arr W w.heap.size 22 a
  m : Arr W (w.heap.size + 1) 62 m
  z : Arr W (w.heap.size + 2) 22 (List.replicate 16 0)
  x : Arr W (w.heap.size + 3) 22 l
  bel : Below w.heap.size w W
theorem MxMem.keep {w W W' : World} {a m l : List Nat} (h : MxMem w a m l W) (k : Below W.heap.size W W') : MxMem w a m l W' :=
  ⟨h.a.keep k h.a.lt, h.m.keep k h.m.lt, h.z.keep k h.z.lt, h.x.keep k h.x.lt, h.bel.trans (k.mono h.bel.size)⟩
theorem MxMem.drew {w W : World} {a m l : List Nat} (h : MxMem w a m l W) : MxMem w a m l W.drew := ⟨h.a, h.m, h.z, h.x, h.bel.drew⟩

set_option maxRecDepth 100000 in
set_option maxHeartbeats 1000000 in
theorem mix_to (w : World) (a m c : List Nat) (hc : mxL a m = c) (ha : a.length = 16) (hm : m.length = 4) (ba : Bytes a) (bm : Bytes m) :
    Calls Try.prog 37 #[.agg (u8s a), .agg (u8s m)] w fun e w' => e = .returned (.agg (u8s c)) ∧ Below w.heap.size w w' := by
  replace hc := Kp.mk hc
  go_enter Try.func37, Try.ntmps37
  go_wp2_with fail
  go_loopw [9] (fun ii wr => ∃ i : Nat, ii = .int .i64 i ∧ i ≤ 16 ∧ MxMem w a m (mxS a m i) wr) (fun ii _ => 300 - (intOf ii).toNat)
  case atStart =>
    refine ⟨0, rfl, by omega, ⟨(((Box.new w 22 (u8s a)).alloc _).alloc _).alloc _, ?_, ?_, ?_, ((((Below.refl _ _).alloc (Nat.le_refl _) _).alloc (by simp) _).alloc (by simp; omega) _).alloc (by simp; omega) _⟩⟩
    · have h := ((Box.new (w.alloc (.cells (u8s a) 22)) 62 (u8s m)).alloc (.cells (u8s (List.replicate 16 0)) 22)).alloc (.cells (u8s (List.replicate 16 0)) 22)
      rw [World.size_alloc] at h; exact h
    · have h := (Box.new ((w.alloc (.cells (u8s a) 22)).alloc (.cells (u8s m) 62)) 22 (u8s (List.replicate 16 0))).alloc (.cells (u8s (List.replicate 16 0)) 22)
      rw [World.size_alloc, World.size_alloc] at h; exact h
    · have h := Box.new (((w.alloc (.cells (u8s a) 22)).alloc (.cells (u8s m) 62)).alloc (.cells (u8s (List.replicate 16 0)) 22)) 22 (u8s (List.replicate 16 0))
      rw [World.size_alloc, World.size_alloc, World.size_alloc] at h; exact h
  case round =>
    obtain ⟨i, rfl, hi, M⟩ := hrel
    obtain ⟨l, hl⟩ : ∃ l, mxS a m i = l := ⟨_, rfl⟩
    have hlen := mxS_len a m i
    have hby := mxS_bytes (l := a) bm i
    have hstep : mxS a m (i + 1) = mxIn a m i l 4 := by rw [← hl]; rfl
    rw [hl] at M hlen hby
    replace hstep := Kp.mk hstep
    by_cases hi4 : i < 16
    · have hi' : (i : Int) < 16 := by omega
      have h46 : (Try.prog.info? 62).map (·.size) = some 4 := by kernel_rfl
      have u0 := M.m.loadAt (P := Try.prog) Try.underlying62 (by rw [hm]; exact h46)
      replace u0 := Kp.mk u0
      clear h46 hl
      go_wp2_with (refine wpList_load rfl (t := 62) (x := .tmp 3) rfl rfl u0.out ?_)
      go_loopw [13] (fun kk wr => ∃ k : Nat, kk = .int .i64 k ∧ k ≤ 4 ∧ MxMem w a m (mxIn a m i l k) wr) (fun kk _ => 300 - (intOf kk).toNat)
      case atStart => exact ⟨0, rfl, by omega, M⟩
      case round =>
        obtain ⟨k, rfl, hk, M2⟩ := hrel
        clear M u0
        by_cases hk4 : k < 4
        · have hk' : (k : Int) < 4 := by omega
          have hlen2 := mxIn_len a m i l k
          have hby2 := mxIn_bytes (l := a) bm i hby k
          obtain ⟨l2, hl2⟩ : ∃ x, mxIn a m i l k = x := ⟨_, rfl⟩
          obtain ⟨j, hj⟩ : ∃ j, i / 4 * 4 + (i + k) % 4 = j := ⟨_, rfl⟩
          obtain ⟨mk, hmk⟩ : ∃ x, m.getD k 0 = x := ⟨_, rfl⟩
          obtain ⟨y, hy⟩ : ∃ x, a.getD j 0 = x := ⟨_, rfl⟩
          obtain ⟨v, hv⟩ : ∃ x, T mk y = x := ⟨_, rfl⟩
          rw [hl2] at M2 hlen2 hby2
          obtain ⟨x, hx⟩ : ∃ x, l2.getD i 0 = x := ⟨_, rfl⟩
          have hstep2 : mxIn a m i l (k + 1) = l2.set i (x ^^^ v) := by rw [← hv, ← hx, ← hy, ← hmk, ← hj, ← hl2]; rfl
          have hj16 : j < 16 := by omega
          have k1 := M2.a.cell j (by omega)
          have k3 := M2.x.cell i (by omega)
          have f1 := M2.x.frozen i
          have hidx := run_index_u8s (m := m) (k := k) (w := wr) hm hk4
          rw [hmk] at hidx
          rw [hy] at k1
          rw [hx] at k3
          have hx8 : x < 256 := hx ▸ hby2.get i
          have hm8 : mk < 256 := hmk ▸ bm.get k
          have hy8 : y < 256 := hy ▸ ba.get j
          have hv8 : v < 256 := hv ▸ T_lt hm8 y
          have hxor := xor_u8 hx8 hv8
          have hjI : (i : Int) / 4 * 4 + ((i : Int) + k) % 4 = j := by omega
          have hjJ : (j : Int) < 16 := by omega
          have hjw : IntKind.i64.wrap (IntKind.i64.wrap (IntKind.i64.wrap ((i : Int) / 4) * 4) + (IntKind.i64.wrap ((i : Int) + k)).tmod 4) = j := by
            have hw : ∀ n : Int, -9223372036854775808 ≤ n → n ≤ 9223372036854775807 → IntKind.i64.wrap n = n := fun n h1 h2 => IntWalk.i64_in n ⟨h1, h2⟩
            rw [hw ((i : Int) / 4) (by omega) (by omega), hw ((i : Int) / 4 * 4) (by omega) (by omega), hw ((i : Int) + k) (by omega) (by omega), Int.tmod_eq_emod_of_nonneg (by omega), hjI, hw (j : Int) (by omega) (by omega)]
          clear hjI
          replace hstep2 := Kp.mk hstep2
          replace hx := Kp.mk hx; replace hy := Kp.mk hy; replace hj := Kp.mk hj; replace hmk := Kp.mk hmk; replace hv := Kp.mk hv
          clear hl2
          go_wp2_with fail
          go_region_with (go_at_call 40; refine (Times_to mk y _ v hv.out hm8 hy8).mono ?_; rintro _ w5 ⟨rfl, hb5⟩; have N := MxMem.keep (by first | exact M2 | exact M2.drew) hb5; have n1 := N.a.cell j (by omega); have n3 := N.x.cell i (by omega); have nf := N.x.frozen i; rw [hy.out] at n1; rw [hx.out] at n3)
          all_goals
            go_wp2_with fail
            refine ⟨⟨k + 1, congrArg (Value.int .i64) (by omega), by omega, ⟨N.a.far (by first | (simp; done) | (simp <;> omega)) _, N.m.far (by first | (simp; done) | (simp <;> omega)) _, N.z.far (by first | (simp; done) | (simp <;> omega)) _, ?_, N.bel.setCell (by first | (simp; done) | (simp <;> omega)) _⟩⟩, by simp [intOf]; omega⟩
            rw [hstep2.out]
            exact N.x.put i (x ^^^ v)
        · obtain rfl : k = 4 := by omega
          have M3 : MxMem w a m (mxS a m (i + 1)) wr := by rw [hstep.out]; exact M2
          clear M2
          go_wp2_with fail
          go_roundw
          case rel => exact ⟨i + 1, congrArg (Value.int .i64) (by omega), by omega, M3⟩
          case measure => simp [intOf] <;> omega
    · obtain rfl : i = 16 := by omega
      obtain rfl : l = c := by rw [← hl, ← hc.out]; rfl
      have hsz : (Try.prog.info? 22).map (·.size) = some 16 := by kernel_rfl
      have u1 := M.x.loadAt (P := Try.prog) Try.underlying22 (by rw [hlen]; exact hsz)
      have u2 := M.z.storeAt (P := Try.prog) (ty := 22) (l' := l) (by rw [hlen]; exact hsz) (by rw [hlen]; rfl)
      have Z := M.z.setRow (l' := l)
      have u3 := Z.load (P := Try.prog) Try.underlying22 (by rw [hlen]; exact hsz)
      have bel := below_setRow M.bel (g := w.heap.size + 2) (by omega) (u8s l)
      clear hsz M
      replace u1 := Kp.mk u1; replace u2 := Kp.mk u2; replace u3 := Kp.mk u3
      go_wp2_with (first | (refine wpList_load rfl (t := 22) (x := .tmp 5) rfl rfl u1.out ?_) | (refine wpList_store rfl (t := 22) (x := .tmp 4) (y := .tmp 36) rfl rfl rfl u2.out ?_))
      exact bodyPost_ret (v := .agg (u8s l)) (results_cell1 rfl _ _ _ rfl u3.out) rfl ⟨rfl, bel⟩
end Go.Proofs.Ytgdphdnghackfaa
