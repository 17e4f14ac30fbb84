/- The walks of the document's table, and of its rounds (layer 4). -/
import Derived.Test.YtgdphdnghackfaaW
import Derived.Test.YtgdphdnghackfaaY
namespace Go.Proofs.Ytgdphdnghackfaa
open Go.RowKit
def tbS : Nat → List Nat
  | 0 => List.replicate 256 0
  | i + 1 => (tbS i).set i (swapN i)
theorem tbS_len (i : Nat) : (tbS i).length = 256 := by
  induction i with
  | zero => exact List.length_replicate
  | succ i ih => show (List.set _ _ _).length = _; rw [List.length_set]; exact ih
set_option maxRecDepth 100000 in
theorem table_is : tbS 256 = swapT := by decide +kernel
structure TbMem (w : World) (l : List Nat) (W : World) : Prop where
  z : Arr W w.heap.size 52 (List.replicate 256 0)
  t : Arr W (w.heap.size + 1) 52 l
  bel : Below w.heap.size w W
set_option maxRecDepth 100000 in
set_option maxHeartbeats 1000000 in
theorem Table_to (w : World) : Calls Try.prog 21 #[] w fun e w' => e = .returned (.agg (u8s swapT)) ∧ Below w.heap.size w w' := by
  obtain ⟨hz27, hs27⟩ := zero_of_info info52
  clear hs27
  go_enter Try.func21, Try.ntmps21
  go_wp2_with fail
  go_loopw [2] (fun ii wr => ∃ i : Nat, ii = .int .i64 i ∧ i ≤ 256 ∧ TbMem w (tbS i) wr) (fun ii _ => 300 - (intOf ii).toNat)
  case atStart =>
    refine ⟨0, rfl, by omega, ⟨(Box.new w 52 Z52).alloc _, ?_, (((Below.refl _ _).alloc (Nat.le_refl _) _).alloc (by simp) _)⟩⟩
    have h := Box.new (w.alloc (.cells Z52 52)) 52 Z52
    rw [World.size_alloc] at h; exact h
  case round =>
    obtain ⟨i, rfl, hi, M⟩ := hrel
    by_cases hi4 : i < 256
    · have hi' : (i : Int) < 256 := by omega
      obtain ⟨l1, hl1⟩ : ∃ l, tbS i = l := ⟨_, rfl⟩
      obtain ⟨v, hv⟩ : ∃ v, swapN i = v := ⟨_, rfl⟩
      have s1 : Kp (tbS (i + 1) = l1.set i v) := ⟨by show (tbS i).set i (swapN i) = _; rw [hl1, hv]⟩
      have h1 : l1.length = 256 := hl1 ▸ tbS_len i
      rw [hl1] at M
      have k1 := M.t.cell i (by omega)
      have f1 := M.t.frozen i
      replace h1 := Kp.mk h1
      replace hv := Kp.mk hv
      clear hl1 hz27
      go_wp2_with fail
      refine (SwapR_to i _ v hv.out hi4).mono ?_
      rintro _ _ ⟨rfl, rfl⟩
      go_wp2_with fail
      go_roundw
      case rel =>
        refine ⟨i + 1, congrArg (Value.int .i64) (by omega), by omega, ?_⟩
        rw [s1.out]
        exact ⟨M.z.far (by simp) _, M.t.put i v, M.bel.setCell (by simp) _⟩
      case measure => simp [intOf] <;> omega
    · obtain rfl : i = 256 := by omega
      rw [table_is] at M
      have u1 := M.t.loadAt (P := Try.prog) Try.underlying52 (by rw [swapT_len]; exact size52)
      have u2 := M.z.storeAt (P := Try.prog) (ty := 52) (l' := swapT) (by rw [swapT_len]; exact size52) (by rw [swapT_len]; simp)
      have Z := M.z.setRow (l' := swapT)
      have u3 := Z.load (P := Try.prog) Try.underlying52 (by rw [swapT_len]; exact size52)
      have bel := below_setRow M.bel (g := w.heap.size) (by omega) (u8s swapT)
      clear M hz27
      replace u1 := Kp.mk u1; replace u2 := Kp.mk u2; replace u3 := Kp.mk u3
      go_wp2_with ((with_reducible refine wpl_id ?_); first | (refine wpList_load rfl (t := 52) (x := .tmp 1) rfl rfl u1.out ?_) | (refine wpList_store rfl (t := 52) (x := .tmp 0) (y := .tmp 12) rfl rfl rfl u2.out ?_))
      exact bodyPost_ret (v := .agg (u8s swapT)) (results_cell1 rfl _ _ _ rfl u3.out) rfl ⟨rfl, bel⟩
structure RcMem (w : World) (key t c : List Nat) (W : World) : Prop where
  key : Arr W w.heap.size 22 key
  t : Arr W (w.heap.size + 1) 52 t
  z : Arr W (w.heap.size + 2) 54 (List.replicate 176 0)
  c : Arr W (w.heap.size + 3) 63 c
  bel : Below w.heap.size w W
theorem RcMem.put {w W : World} {key t c : List Nat} (h : RcMem w key t c W) (i v : Nat) : RcMem w key t (c.set i v) (W.setCell ⟨w.heap.size + 3, i, none⟩ (.int .u8 (v : Nat))) :=
  ⟨h.key.far (by simp) _, h.t.far (by simp) _, h.z.far (by simp) _, h.c.put i v, h.bel.setCell (by simp) _⟩
theorem RcMem.drew {w W : World} {key t c : List Nat} (h : RcMem w key t c W) : RcMem w key t c W.drew := ⟨h.key, h.t, h.z, h.c, h.bel.drew⟩
theorem RcMem.first (w : World) (key t : List Nat) : RcMem w key t (List.replicate 176 0) ((((w.alloc (.cells (u8s key) 22)).alloc (.cells (u8s t) 52)).alloc (.cells Z54 54)).alloc (.cells Z54 63)) := by
  refine ⟨(((Box.new w 22 (u8s key)).alloc _).alloc _).alloc _, ?_, ?_, ?_, ((((Below.refl _ _).alloc (Nat.le_refl _) _).alloc (by simp) _).alloc (by simp; omega) _).alloc (by simp; omega) _⟩
  · have h := ((Box.new (w.alloc (.cells (u8s key) 22)) 52 (u8s t)).alloc (.cells Z54 54)).alloc (.cells Z54 63)
    rw [World.size_alloc] at h; exact h
  · have h := (Box.new ((w.alloc (.cells (u8s key) 22)).alloc (.cells (u8s t) 52)) 54 Z54).alloc (.cells Z54 63)
    rw [World.size_alloc, World.size_alloc] at h; exact h
  · have h := Box.new (((w.alloc (.cells (u8s key) 22)).alloc (.cells (u8s t) 52)).alloc (.cells Z54 54)) 63 Z54
    rw [World.size_alloc, World.size_alloc, World.size_alloc] at h; exact h
/-- The last loop: the row copied, byte by byte. -/
def ouS (r : List Nat) : Nat → List Nat
  | 0 => List.replicate 176 0
  | i + 1 => (ouS r i).set i (r.getD i 0)
theorem ouS_len (r : List Nat) (i : Nat) : (ouS r i).length = 176 := by
  induction i with
  | zero => exact List.length_replicate
  | succ i ih => show (List.set _ _ _).length = _; rw [List.length_set]; exact ih
theorem ouS_getD (r : List Nat) (i : Nat) (hi : i ≤ 176) (j : Nat) (hj : j < i) : (ouS r i).getD j 0 = r.getD j 0 := by
  induction i with
  | zero => exact absurd hj (Nat.not_lt_zero _)
  | succ i ih =>
    show (List.set _ _ _).getD j 0 = _
    rw [getD_set _ _ _ _ (by rw [ouS_len]; omega)]
    by_cases e : i = j
    · rw [if_pos e, e]
    · rw [if_neg e]; exact ih (by omega) (by omega)
theorem ouS_all {r : List Nat} (hr : r.length = 176) : ouS r 176 = r := by
  apply List.ext_getElem (by rw [ouS_len, hr])
  intro j h1 h2
  have := ouS_getD r 176 (by omega) j (by omega)
  simpa [h1, h2] using this
structure OuMem (w : World) (g : Nat) (c o : List Nat) (W : World) : Prop where
  z : Arr W (w.heap.size + 2) 54 (List.replicate 176 0)
  c : Arr W (w.heap.size + 3) 63 c
  o : Arr W g 54 o
  bel : Below w.heap.size w W
  q : w.heap.size + 3 < g
theorem OuMem.drew {w W : World} {g : Nat} {c o : List Nat} (h : OuMem w g c o W) : OuMem w g c o W.drew := ⟨h.z, h.c, h.o, h.bel.drew, h.q⟩
theorem OuMem.put {w W : World} {g : Nat} {c o : List Nat} (h : OuMem w g c o W) (i v : Nat) : OuMem w g c (o.set i v) (W.setCell ⟨g, i, none⟩ (.int .u8 (v : Nat))) := by
  have q := h.q
  exact ⟨h.z.far (by simp; omega) _, h.c.far (by simp; omega) _, h.o.put i v, h.bel.setCell (by simp; omega) _, q⟩
theorem OuMem.first {w W : World} {key t c : List Nat} (h : RcMem w key t c W) : OuMem w W.heap.size c (List.replicate 176 0) (W.alloc (.cells Z54 54)) :=
  ⟨h.z.alloc _, h.c.alloc _, Box.new _ _ _, h.bel.alloc h.bel.size _, h.c.lt⟩
set_option maxRecDepth 100000 in
theorem info63 : (Try.prog.info? 63).map (fun i => (i.zero, i.size)) = some (some (.agg Z54), 176) := by kernel_rfl
set_option maxRecDepth 100000 in
set_option maxHeartbeats 4000000 in
theorem RoundsR_to (w : World) (key t r : List Nat) (hr : rdL key t = r) (hk : key.length = 16) (ht : t.length = 256) (bk : Bytes key) (bt : Bytes t) :
    Calls Try.prog 22 #[.agg (u8s key), .agg (u8s t)] w fun e w' => e = .returned (.agg (u8s r)) ∧ Below w.heap.size w w' := by
  obtain ⟨hz31, hs31⟩ := zero_of_info info54
  obtain ⟨hz47, hs47⟩ := zero_of_info info63
  have hrc : Kp ((rcSt key t 44).out = r) := ⟨by rw [rc_rd key t hk]; exact hr⟩
  have hlen : Kp (∀ i, (rcSt key t i).out.length = 176) := ⟨rcSt_len key t⟩
  have hby : Kp (∀ i, Bytes (rcSt key t i).out ∧ (rcSt key t i).more < 256) := ⟨rcSt_bytes bk bt⟩
  have M0 := RcMem.first w key t
  replace hk := Kp.mk hk
  replace ht := Kp.mk ht
  clear hs31 hs47 hr
  go_enter Try.func22, Try.ntmps22
  go_wp2_with fail
  clear hz47
  go_loopw [6, 7] (fun mm ii wr => ∃ i : Nat, mm = .int .u8 ((rcSt key t i).more : Nat) ∧ ii = .int .i64 i ∧ i ≤ 44 ∧ RcMem w key t (rcSt key t i).out wr) (fun _ ii _ => 300 - (intOf ii).toNat)
  case atStart => exact ⟨0, rfl, rfl, by omega, M0⟩
  case round =>
    obtain ⟨i, rfl, rfl, hi, M⟩ := hrel
    clear M0
    by_cases hi44 : i < 44
    · have hi' : (i : Int) < 44 := by omega
      obtain ⟨s, hs⟩ : ∃ s, rcSt key t i = s := ⟨_, rfl⟩
      have hsl := hlen.out i
      have hsb := hby.out i
      have hst : Kp (rcSt key t (i + 1) = rcStep key t i s) := ⟨by rw [← hs]; rfl⟩
      rw [hs] at M hsl hsb ⊢
      clear hs
      replace hsl := Kp.mk hsl
      go_wp2_with fail
      go_loopw [8] (fun kk wr2 => ∃ k : Nat, kk = .int .i64 k ∧ k ≤ 4 ∧ RcMem w key t (rcIn key t i s.out k) wr2) (fun kk _ => 300 - (intOf kk).toNat)
      case atStart => exact ⟨0, rfl, by omega, M⟩
      case round =>
        obtain ⟨k, rfl, hk4, I⟩ := hrel
        clear M
        by_cases hk' : k < 4
        · have hkI : (k : Int) < 4 := by omega
          obtain ⟨l, hl⟩ : ∃ l, rcIn key t i s.out k = l := ⟨_, rfl⟩
          have hll : l.length = 176 := by rw [← hl, rcIn_len]; exact hsl.out
          have hlb : Bytes l := hl ▸ rcIn_bytes bk bt hsb.1 i k
          rw [hl] at I
          have hstep : rcIn key t i s.out (k + 1) = l.set (i * 4 + k) (rcV key t l i k) := by rw [← hl]; rfl
          replace hll := Kp.mk hll
          clear hl
          by_cases h4 : i < 4
          · have h4I : (i : Int) < 4 := by omega
            obtain ⟨j, hj⟩ : ∃ j, 4 * i + k = j := ⟨_, rfl⟩
            obtain ⟨x, hx⟩ : ∃ x, key.getD j 0 = x := ⟨_, rfl⟩
            have hv : rcV key t l i k = x := by unfold rcV; rw [if_pos h4, hj, hx]
            have hj16 : j < 16 := by omega
            rw [hv] at hstep
            replace hstep := Kp.mk hstep
            replace hx := Kp.mk hx
            replace hj := Kp.mk hj
            clear hv
            go_wp2_with fail
            have I2 := I.drew
            clear I
            refine wp_region_still_tail 10 (by kernel_rfl) (by kernel_rfl) ?_
            simp only [List.take_succ_cons, List.take_zero, List.drop_succ_cons, List.drop_zero]
            show wpStill _ _ wr.drew (fun a' => wpList _ _ _ _ _ wr.drew) _ _
            generalize wr.drew = w2 at *
            have k1 := I2.key.cell j (by rw [hk.out]; omega)
            rw [hx.out] at k1
            have a1 : IntKind.i64.wrap (4 * (i : Int)) = 4 * (i : Int) := IntWalk.i64_in _ (by omega)
            have a2 : IntKind.i64.wrap (4 * (i : Int) + k) = j := by rw [show 4 * (i : Int) + k = j by have := hj.out; omega]; exact IntWalk.i64_in _ (by omega)
            have a3 : (j : Int) < 16 := by omega
            repeat still_step
            refine wpStill_nil ?_
            have f1 := I2.c.frozen (i * 4 + k)
            have k3 := I2.c.cell (i * 4 + k) (by rw [hll.out]; omega)
            clear a1 a2 a3 k1
            go_wp2_with fail
            go_roundw
            case rel => exact ⟨k + 1, congrArg (Value.int .i64) (by omega), by omega, by rw [hstep.out]; exact I2.put _ _⟩
            case measure => simp [intOf] <;> omega
          · have h4I : ¬ (i : Int) < 4 := by omega
            have h4J : (4 : Int) ≤ (i : Int) := by omega
            obtain ⟨i4, hi4⟩ : ∃ j, i - 4 = j := ⟨_, rfl⟩
            obtain ⟨i1, hi1⟩ : ∃ j, i - 1 = j := ⟨_, rfl⟩
            obtain ⟨x, hx⟩ : ∃ x, l.getD (i4 * 4 + k) 0 = x := ⟨_, rfl⟩
            have hx8 : x < 256 := hx ▸ hlb.get _
            by_cases hm : i % 4 = 0
            · have hmI : ((i : Int) % 4 == 0) = true := by simp; omega
              have hmJ : ((i : Int).tmod 4 == 0) = true := by rw [Int.tmod_eq_emod_of_nonneg (by omega)]; exact hmI
              obtain ⟨j, hj⟩ : ∃ j, (k + 1) % 4 = j := ⟨_, rfl⟩
              obtain ⟨y, hy⟩ : ∃ x, l.getD (i1 * 4 + j) 0 = x := ⟨_, rfl⟩
              obtain ⟨z, hz⟩ : ∃ x, t.getD y 0 = x := ⟨_, rfl⟩
              have hy8 : y < 256 := hy ▸ hlb.get _
              have hz8 : z < 256 := hz ▸ bt.get _
              have hxor := xor_u8 hx8 hz8
              have hv : rcV key t l i k = x ^^^ z := by unfold rcV; rw [if_neg h4, if_pos hm, hi4, hi1, hj, hx, hy, hz]
              rw [hv] at hstep
              replace hstep := Kp.mk hstep
              replace hx := Kp.mk hx
              replace hy := Kp.mk hy
              replace hz := Kp.mk hz
              have hjj := Kp.mk (And.intro hj (And.intro hi4 hi1))
              clear hv hm hj hi4 hi1
              go_wp2_with fail
              have I2 := I.drew
              clear I
              refine wp_region_still_tail 21 (by kernel_rfl) (by kernel_rfl) ?_
              simp only [List.take_succ_cons, List.take_zero, List.drop_succ_cons, List.drop_zero]
              show wpStill _ _ wr.drew (fun a' => wpList _ _ _ _ _ wr.drew) _ _
              generalize wr.drew = w2 at *
              have k1 := I2.c.cell (i4 * 4 + k) (by rw [hll.out]; have := hjj.out; omega)
              rw [hx.out] at k1
              have k2 := I2.c.cell (i1 * 4 + j) (by rw [hll.out]; have := hjj.out; omega)
              rw [hy.out] at k2
              have k4 := I2.t.cell y (by rw [ht.out]; omega)
              rw [hz.out] at k4
              have a1 : IntKind.i64.wrap ((i : Int) - 4) = i4 := by rw [show (i : Int) - 4 = i4 by have := hjj.out; omega]; exact IntWalk.i64_in _ (by have := hjj.out; omega)
              have a2 : IntKind.i64.wrap ((i : Int) - 1) = i1 := by rw [show (i : Int) - 1 = i1 by have := hjj.out; omega]; exact IntWalk.i64_in _ (by have := hjj.out; omega)
              have a3 : (i4 : Int) < 44 := by have := hjj.out; omega
              have a4 : (i1 : Int) < 44 := by have := hjj.out; omega
              have a5 : IntKind.i64.wrap ((k : Int) + 1) = (k : Int) + 1 := IntWalk.i64_in _ (by omega)
              have a6 : ((k : Int) + 1).tmod 4 = j := by rw [Int.tmod_eq_emod_of_nonneg (by omega)]; have := hjj.out; omega
              have a9 : IntKind.i64.wrap (j : Int) = j := IntWalk.i64_in _ (by have := hjj.out; omega)
              have a7 : (j : Int) < 4 := by have := hjj.out; omega
              have a8 : (y : Int) < 256 := by omega
              repeat still_step
              refine wpStill_nil ?_
              have f1 := I2.c.frozen (i * 4 + k)
              have k3 := I2.c.cell (i * 4 + k) (by rw [hll.out]; omega)
              clear a1 a2 a3 a4 a5 a6 a7 a8 a9 k1 k2 k4
              go_wp2_with fail
              go_roundw
              case rel => exact ⟨k + 1, congrArg (Value.int .i64) (by omega), by omega, by rw [hstep.out]; exact I2.put _ _⟩
              case measure => simp [intOf] <;> omega
            · have hmI : ((i : Int) % 4 == 0) = false := by simp; omega
              have hmJ : ((i : Int).tmod 4 == 0) = false := by rw [Int.tmod_eq_emod_of_nonneg (by omega)]; exact hmI
              obtain ⟨y, hy⟩ : ∃ x, l.getD (i1 * 4 + k) 0 = x := ⟨_, rfl⟩
              have hy8 : y < 256 := hy ▸ hlb.get _
              have hxor := xor_u8 hx8 hy8
              have hv : rcV key t l i k = x ^^^ y := by unfold rcV; rw [if_neg h4, if_neg hm, hi4, hi1, hx, hy]
              rw [hv] at hstep
              replace hstep := Kp.mk hstep
              replace hx := Kp.mk hx
              replace hy := Kp.mk hy
              have hjj := Kp.mk (And.intro hi4 hi1)
              clear hv hm hi4 hi1
              go_wp2_with fail
              have I2 := I.drew
              clear I
              refine wp_region_still_tail 17 (by kernel_rfl) (by kernel_rfl) ?_
              simp only [List.take_succ_cons, List.take_zero, List.drop_succ_cons, List.drop_zero]
              show wpStill _ _ wr.drew (fun a' => wpList _ _ _ _ _ wr.drew) _ _
              generalize wr.drew = w2 at *
              have k1 := I2.c.cell (i4 * 4 + k) (by rw [hll.out]; have := hjj.out; omega)
              rw [hx.out] at k1
              have k2 := I2.c.cell (i1 * 4 + k) (by rw [hll.out]; have := hjj.out; omega)
              rw [hy.out] at k2
              have a1 : IntKind.i64.wrap ((i : Int) - 4) = i4 := by rw [show (i : Int) - 4 = i4 by have := hjj.out; omega]; exact IntWalk.i64_in _ (by have := hjj.out; omega)
              have a2 : IntKind.i64.wrap ((i : Int) - 1) = i1 := by rw [show (i : Int) - 1 = i1 by have := hjj.out; omega]; exact IntWalk.i64_in _ (by have := hjj.out; omega)
              have a3 : (i4 : Int) < 44 := by have := hjj.out; omega
              have a4 : (i1 : Int) < 44 := by have := hjj.out; omega
              repeat still_step
              refine wpStill_nil ?_
              have f1 := I2.c.frozen (i * 4 + k)
              have k3 := I2.c.cell (i * 4 + k) (by rw [hll.out]; omega)
              clear a1 a2 a3 a4 k1 k2
              go_wp2_with fail
              go_roundw
              case rel => exact ⟨k + 1, congrArg (Value.int .i64) (by omega), by omega, by rw [hstep.out]; exact I2.put _ _⟩
              case measure => simp [intOf] <;> omega
        · obtain rfl : k = 4 := by omega
          obtain ⟨l, hl⟩ : ∃ l, rcIn key t i s.out 4 = l := ⟨_, rfl⟩
          have hll : l.length = 176 := by rw [← hl, rcIn_len]; exact hsl.out
          have hlb : Bytes l := hl ▸ rcIn_bytes bk bt hsb.1 i 4
          rw [hl] at I
          have hst2 : rcSt key t (i + 1) = if 4 ≤ i ∧ i % 4 = 0 then ⟨l.set (i * 4) (l.getD (i * 4) 0 ^^^ s.more), T s.more 2⟩ else ⟨l, s.more⟩ := by rw [hst.out, ← hl]; rfl
          replace hll := Kp.mk hll
          clear hl hst
          by_cases hc : 4 ≤ i ∧ i % 4 = 0
          · rw [if_pos hc] at hst2
            have h4J : (4 : Int) ≤ (i : Int) := by omega
            have hmI : ((i : Int) % 4 == 0) = true := by simp; omega
            obtain ⟨x, hx⟩ : ∃ x, l.getD (i * 4) 0 = x := ⟨_, rfl⟩
            obtain ⟨z, hz⟩ : ∃ z, T s.more 2 = z := ⟨_, rfl⟩
            have hx8 : x < 256 := hx ▸ hlb.get _
            have hm8 := hsb.2
            have hxor := xor_u8 hx8 hm8
            rw [hx, hz] at hst2
            replace hst2 := Kp.mk hst2
            replace hx := Kp.mk hx
            replace hz := Kp.mk hz
            clear hc
            go_wp2_with fail
            have I2 := I.drew
            clear I
            refine wp_region_still_tail 9 (by kernel_rfl) (by kernel_rfl) ?_
            simp only [List.take_succ_cons, List.take_zero, List.drop_succ_cons, List.drop_zero]
            show wpStill _ _ wr.drew (fun a' => wpList _ _ _ _ _ wr.drew) _ _
            generalize wr.drew = w2 at *
            have f1 := I2.c.frozen (i * 4)
            have k3 := I2.c.cell (i * 4) (by rw [hll.out]; omega)
            rw [hx.out] at k3
            repeat still_step
            refine wpStill_nil ?_
            go_wp2_with fail
            refine (TimesR_to s.more 2 _ z hz.out hm8 (by decide)).mono ?_
            rintro _ _ ⟨rfl, rfl⟩
            go_wp2_with fail
            go_roundw
            case rel => exact ⟨i + 1, by rw [hst2.out], congrArg (Value.int .i64) (by omega), by omega, by rw [hst2.out]; exact I2.put _ _⟩
            case measure => simp [intOf] <;> omega
          · rw [if_neg hc] at hst2
            replace hst2 := Kp.mk hst2
            by_cases h4 : 4 ≤ i
            · have h4J : (4 : Int) ≤ (i : Int) := by omega
              have hmI : ((i : Int) % 4 == 0) = false := by have : ¬ i % 4 = 0 := fun h => hc ⟨h4, h⟩; simp; omega
              clear hc
              go_wp2_with fail
              go_roundw
              case rel => exact ⟨i + 1, by rw [hst2.out], congrArg (Value.int .i64) (by omega), by omega, by rw [hst2.out]; exact I⟩
              case measure => simp [intOf] <;> omega
            · have h4J : ¬ (4 : Int) ≤ (i : Int) := by omega
              clear hc
              go_wp2_with fail
              go_roundw
              case rel => exact ⟨i + 1, by rw [hst2.out], congrArg (Value.int .i64) (by omega), by omega, by rw [hst2.out]; exact I⟩
              case measure => simp [intOf] <;> omega
    · obtain rfl : i = 44 := by omega
      have hcr := hrc.out
      have hrl : Kp (r.length = 176) := ⟨by rw [← hcr]; exact hlen.out 44⟩
      rw [hcr] at M
      have M2 := OuMem.first M
      clear M hcr hrc hlen hby
      generalize (rcSt key t 44).more = more
      rw [show ((44 : Nat) : Int) = 44 from rfl]
      go_wp2_with fail
      generalize wr.alloc (.cells Z54 54) = w2 at *
      generalize wr.heap.size = g at *
      go_loopw [10] (fun ii w3 => ∃ i : Nat, ii = .int .i64 i ∧ i ≤ 176 ∧ OuMem w g r (ouS r i) w3) (fun ii _ => 300 - (intOf ii).toNat)
      case atStart => exact ⟨0, rfl, by omega, M2⟩
      case round =>
        obtain ⟨i, rfl, hi176, M⟩ := hrel
        clear M2
        by_cases hlt : i < 176
        · have hltI : (i : Int) < 176 := by omega
          obtain ⟨l, hl⟩ : ∃ l, ouS r i = l := ⟨_, rfl⟩
          obtain ⟨x, hx⟩ : ∃ x, r.getD i 0 = x := ⟨_, rfl⟩
          have hll : l.length = 176 := hl ▸ ouS_len r i
          have hst : Kp (ouS r (i + 1) = l.set i x) := ⟨by rw [← hl, ← hx]; rfl⟩
          rw [hl] at M
          replace hll := Kp.mk hll
          replace hx := Kp.mk hx
          clear hl
          go_wp2_with fail
          obtain ⟨i16, h1⟩ : ∃ j, i / 16 = j := ⟨_, rfl⟩
          obtain ⟨m16, h2⟩ : ∃ j, i % 16 = j := ⟨_, rfl⟩
          obtain ⟨i4, h3⟩ : ∃ j, i / 4 = j := ⟨_, rfl⟩
          obtain ⟨m4, h4⟩ : ∃ j, i % 4 = j := ⟨_, rfl⟩
          have I2 := M.drew
          clear M
          refine wp_region_still_tail 13 (by kernel_rfl) (by kernel_rfl) ?_
          simp only [List.take_succ_cons, List.take_zero, List.drop_succ_cons, List.drop_zero]
          show wpStill _ _ wr.drew (fun a' => wpList _ _ _ _ _ wr.drew) _ _
          generalize wr.drew = w4 at *
          have k1 := I2.c.cell (i4 * 4 + m4) (by rw [hrl.out]; omega)
          rw [show i4 * 4 + m4 = i by omega, hx.out] at k1
          rw [← show i4 * 4 + m4 = i by omega] at k1
          have f1 := I2.o.frozen (i16 * 16 + m16)
          have k3 := I2.o.cell (i16 * 16 + m16) (by rw [hll.out]; omega)
          have a1 : (i : Int).tdiv 16 = i16 := by rw [Int.tdiv_eq_ediv_of_nonneg (by omega)]; omega
          have a2 : (i : Int).tmod 16 = m16 := by rw [Int.tmod_eq_emod_of_nonneg (by omega)]; omega
          have a3 : (i : Int).tdiv 4 = i4 := by rw [Int.tdiv_eq_ediv_of_nonneg (by omega)]; omega
          have a4 : (i : Int).tmod 4 = m4 := by rw [Int.tmod_eq_emod_of_nonneg (by omega)]; omega
          have b1 : IntKind.i64.wrap (i16 : Int) = i16 := IntWalk.i64_in _ (by omega)
          have b2 : IntKind.i64.wrap (m16 : Int) = m16 := IntWalk.i64_in _ (by omega)
          have b3 : IntKind.i64.wrap (i4 : Int) = i4 := IntWalk.i64_in _ (by omega)
          have b4 : IntKind.i64.wrap (m4 : Int) = m4 := IntWalk.i64_in _ (by omega)
          have c1 : (i16 : Int) < 11 := by omega
          have c2 : (m16 : Int) < 16 := by omega
          have c3 : (i4 : Int) < 44 := by omega
          have c4 : (m4 : Int) < 4 := by omega
          have hi16 : Kp (i16 * 16 + m16 = i) := ⟨by omega⟩
          clear h1 h2 h3 h4
          repeat still_step
          refine wpStill_nil ?_
          clear a1 a2 a3 a4 b1 b2 b3 b4 c1 c2 c3 c4 k1
          go_wp2_with fail
          go_roundw
          case rel =>
            refine ⟨i + 1, congrArg (Value.int .i64) (by omega), by omega, ?_⟩
            rw [hst.out]
            have := I2.put (i16 * 16 + m16) x
            rw [hi16.out] at this
            rw [hi16.out]; exact this
          case measure => simp [intOf] <;> omega
        · obtain rfl : i = 176 := by omega
          rw [ouS_all hrl.out] at M
          have u1 := M.o.loadAt (P := Try.prog) Try.underlying54 (by rw [hrl.out]; exact size54)
          have u2 := M.z.storeAt (P := Try.prog) (ty := 54) (l' := r) (by rw [hrl.out]; exact size54) (by rw [hrl.out]; simp)
          have Z := M.z.setRow (l' := r)
          have u3 := Z.load (P := Try.prog) Try.underlying54 (by rw [hrl.out]; exact size54)
          have bel := below_setRow M.bel (g := w.heap.size + 2) (by omega) (u8s r)
          clear M hz31
          replace u1 := Kp.mk u1; replace u2 := Kp.mk u2; replace u3 := Kp.mk u3
          go_wp2_with ((with_reducible refine wpl_id ?_); first | (refine wpList_load rfl (t := 54) (x := .tmp 9) rfl rfl u1.out ?_) | (refine wpList_store rfl (t := 54) (x := .tmp 4) (y := .tmp 109) rfl rfl rfl u2.out ?_))
          exact bodyPost_ret (v := .agg (u8s r)) (results_cell1 rfl _ _ _ rfl u3.out) rfl ⟨rfl, bel⟩
end Go.Proofs.Ytgdphdnghackfaa
