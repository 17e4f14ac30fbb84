/- The walk of move (layer 4). -/
import Derived.Test.YtgdphdnghackfaaH
namespace Go.Proofs.Ytgdphdnghackfaa
open Go.RowKit

/-- A block swapped by a table, its rows moved. -/
def mvS (by_ : Nat) (l t : List Nat) : Nat → List Nat
  | 0 => List.replicate 16 0
  | i + 1 => (mvS by_ l t i).set i (t.getD (l.getD ((i + 4 * by_ * (i % 4)) % 16) 0) 0)
def mvL (by_ : Nat) (l t : List Nat) : List Nat := mvS by_ l t 16
theorem mvS_len (by_ : Nat) (l t : List Nat) (i : Nat) : (mvS by_ l t i).length = 16 := by
  induction i with
  | zero => exact List.length_replicate
  | succ i ih => show (List.set _ _ _).length = _; rw [List.length_set]; exact ih
theorem mvS_bytes (by_ : Nat) {l t : List Nat} (ht : Bytes t) (i : Nat) : Bytes (mvS by_ l t i) := by
  induction i with
  | zero => intro x hx; have := List.eq_of_mem_replicate hx; omega
  | succ i ih => exact ih.set i (ht.get _)
structure MvMem (w : World) (gs : Nat) (a t l : List Nat) (W : World) : Prop where
  a : Arr W w.heap.size 22 a
  z : Arr W (w.heap.size + 1) 22 (List.replicate 16 0)
  x : Arr W (w.heap.size + 2) 22 l
  t : Arr W gs 52 t
  bel : Below w.heap.size w W
set_option maxRecDepth 100000 in
set_option maxHeartbeats 1000000 in
theorem move_1 (w : World) (gs : Nat) (a t c : List Nat) (hc : mvL 1 a t = c) (ha : a.length = 16) (ht : t.length = 256) (ba : Bytes a) (_bt : Bytes t) (hT : Arr w gs 52 t) :
    Calls Try.prog 36 #[.agg (u8s a), .int .i64 1, .pointer (some ⟨gs, 0, none⟩)] w fun e w' => e = .returned (.agg (u8s c)) ∧ Below w.heap.size w w' := by
  replace hc := Kp.mk hc
  have hgs := hT.lt
  go_enter Try.func36, Try.ntmps36
  go_wp2_with fail
  go_loopw [9] (fun ii wr => ∃ i : Nat, ii = .int .i64 i ∧ i ≤ 16 ∧ MvMem w gs a t (mvS 1 a t i) wr) (fun ii _ => 300 - (intOf ii).toNat)
  case atStart =>
    refine ⟨0, rfl, by omega, ⟨((Box.new w 22 (u8s a)).alloc _).alloc _, ?_, ?_, ((hT.alloc _).alloc _).alloc _, (((Below.refl _ _).alloc (Nat.le_refl _) _).alloc (by simp) _).alloc (by simp; omega) _⟩⟩
    · have h := (Box.new (w.alloc (.cells (u8s a) 22)) 22 (u8s (List.replicate 16 0))).alloc (.cells (u8s (List.replicate 16 0)) 22)
      rw [World.size_alloc] at h; exact h
    · have h := Box.new ((w.alloc (.cells (u8s a) 22)).alloc (.cells (u8s (List.replicate 16 0)) 22)) 22 (u8s (List.replicate 16 0))
      rw [World.size_alloc, World.size_alloc] at h; exact h
  case round =>
    obtain ⟨i, rfl, hi, M⟩ := hrel
    obtain ⟨l, hl⟩ : ∃ l, mvS 1 a t i = l := ⟨_, rfl⟩
    have hlen := mvS_len 1 a t i
    obtain ⟨j, hj⟩ : ∃ j, (i + 4 * 1 * (i % 4)) % 16 = j := ⟨_, rfl⟩
    obtain ⟨x, hx⟩ : ∃ x, a.getD j 0 = x := ⟨_, rfl⟩
    obtain ⟨y, hy⟩ : ∃ y, t.getD x 0 = y := ⟨_, rfl⟩
    have hstep : mvS 1 a t (i + 1) = l.set i y := by rw [← hl, ← hy, ← hx, ← hj]; rfl
    rw [hl] at M hlen
    replace hstep := Kp.mk hstep
    by_cases hi4 : i < 16
    · have hi' : (i : Int) < 16 := by omega
      have hj16 : j < 16 := by omega
      have hx8 : x < 256 := hx ▸ ba.get j
      have k1 := M.a.cell j (by omega)
      have k2 := M.t.cell x (by omega)
      have k3 := M.x.cell i (by omega)
      have f1 := M.x.frozen i
      rw [hx] at k1
      rw [hy] at k2
      have hjI : ((i : Int) + (4 * 1) * ((i : Int) % 4)) % 16 = j := by omega
      have hjI2 := hjI
      simp only [Int.reduceMul] at hjI2
      have hxI : (x : Int) < 256 := by omega
      have hjJ : (j : Int) < 16 := by omega
      replace hx := Kp.mk hx
      replace hy := Kp.mk hy
      replace hj := Kp.mk hj
      clear hl
      go_wp2_with fail
      go_region
      go_wp2_with fail
      refine ⟨⟨i + 1, congrArg (Value.int .i64) (by omega), by omega, ⟨M.a.far (by first | (simp; done) | (simp <;> omega)) _, M.z.far (by first | (simp; done) | (simp <;> omega)) _, ?_, M.t.far (by first | (simp; done) | (simp <;> omega)) _, (M.bel.setCell (by first | (simp; done) | (simp <;> omega)) _).drew⟩⟩, by simp [intOf]; omega⟩
      rw [hstep.out]
      exact M.x.put i y
    · obtain rfl : i = 16 := by omega
      obtain rfl : l = c := by rw [← hl, ← hc.out]; rfl
      have hsz : (Try.prog.info? 22).map (·.size) = some 16 := by kernel_rfl
      have u1 := M.x.loadAt (P := Try.prog) Try.underlying22 (by rw [hlen]; exact hsz)
      have u2 := M.z.storeAt (P := Try.prog) (ty := 22) (l' := l) (by rw [hlen]; exact hsz) (by rw [hlen]; rfl)
      have Z := M.z.setRow (l' := l)
      have u3 := Z.load (P := Try.prog) Try.underlying22 (by rw [hlen]; exact hsz)
      have bel := below_setRow M.bel (g := w.heap.size + 1) (by omega) (u8s l)
      clear hsz M
      replace u1 := Kp.mk u1; replace u2 := Kp.mk u2; replace u3 := Kp.mk u3
      go_wp2_with (first | (refine wpList_load rfl (t := 22) (x := .tmp 7) rfl rfl u1.out ?_) | (refine wpList_store rfl (t := 22) (x := .tmp 6) (y := .tmp 29) rfl rfl rfl u2.out ?_))
      exact bodyPost_ret (v := .agg (u8s l)) (results_cell1 rfl _ _ _ rfl u3.out) rfl ⟨rfl, bel⟩
set_option maxRecDepth 100000 in
set_option maxHeartbeats 1000000 in
theorem move_3 (w : World) (gs : Nat) (a t c : List Nat) (hc : mvL 3 a t = c) (ha : a.length = 16) (ht : t.length = 256) (ba : Bytes a) (_bt : Bytes t) (hT : Arr w gs 52 t) :
    Calls Try.prog 36 #[.agg (u8s a), .int .i64 3, .pointer (some ⟨gs, 0, none⟩)] w fun e w' => e = .returned (.agg (u8s c)) ∧ Below w.heap.size w w' := by
  replace hc := Kp.mk hc
  have hgs := hT.lt
  go_enter Try.func36, Try.ntmps36
  go_wp2_with fail
  go_loopw [9] (fun ii wr => ∃ i : Nat, ii = .int .i64 i ∧ i ≤ 16 ∧ MvMem w gs a t (mvS 3 a t i) wr) (fun ii _ => 300 - (intOf ii).toNat)
  case atStart =>
    refine ⟨0, rfl, by omega, ⟨((Box.new w 22 (u8s a)).alloc _).alloc _, ?_, ?_, ((hT.alloc _).alloc _).alloc _, (((Below.refl _ _).alloc (Nat.le_refl _) _).alloc (by simp) _).alloc (by simp; omega) _⟩⟩
    · have h := (Box.new (w.alloc (.cells (u8s a) 22)) 22 (u8s (List.replicate 16 0))).alloc (.cells (u8s (List.replicate 16 0)) 22)
      rw [World.size_alloc] at h; exact h
    · have h := Box.new ((w.alloc (.cells (u8s a) 22)).alloc (.cells (u8s (List.replicate 16 0)) 22)) 22 (u8s (List.replicate 16 0))
      rw [World.size_alloc, World.size_alloc] at h; exact h
  case round =>
    obtain ⟨i, rfl, hi, M⟩ := hrel
    obtain ⟨l, hl⟩ : ∃ l, mvS 3 a t i = l := ⟨_, rfl⟩
    have hlen := mvS_len 3 a t i
    obtain ⟨j, hj⟩ : ∃ j, (i + 4 * 3 * (i % 4)) % 16 = j := ⟨_, rfl⟩
    obtain ⟨x, hx⟩ : ∃ x, a.getD j 0 = x := ⟨_, rfl⟩
    obtain ⟨y, hy⟩ : ∃ y, t.getD x 0 = y := ⟨_, rfl⟩
    have hstep : mvS 3 a t (i + 1) = l.set i y := by rw [← hl, ← hy, ← hx, ← hj]; rfl
    rw [hl] at M hlen
    replace hstep := Kp.mk hstep
    by_cases hi4 : i < 16
    · have hi' : (i : Int) < 16 := by omega
      have hj16 : j < 16 := by omega
      have hx8 : x < 256 := hx ▸ ba.get j
      have k1 := M.a.cell j (by omega)
      have k2 := M.t.cell x (by omega)
      have k3 := M.x.cell i (by omega)
      have f1 := M.x.frozen i
      rw [hx] at k1
      rw [hy] at k2
      have hjI : ((i : Int) + (4 * 3) * ((i : Int) % 4)) % 16 = j := by omega
      have hjI2 := hjI
      simp only [Int.reduceMul] at hjI2
      have hxI : (x : Int) < 256 := by omega
      have hjJ : (j : Int) < 16 := by omega
      replace hx := Kp.mk hx
      replace hy := Kp.mk hy
      replace hj := Kp.mk hj
      clear hl
      go_wp2_with fail
      go_region
      go_wp2_with fail
      refine ⟨⟨i + 1, congrArg (Value.int .i64) (by omega), by omega, ⟨M.a.far (by first | (simp; done) | (simp <;> omega)) _, M.z.far (by first | (simp; done) | (simp <;> omega)) _, ?_, M.t.far (by first | (simp; done) | (simp <;> omega)) _, (M.bel.setCell (by first | (simp; done) | (simp <;> omega)) _).drew⟩⟩, by simp [intOf]; omega⟩
      rw [hstep.out]
      exact M.x.put i y
    · obtain rfl : i = 16 := by omega
      obtain rfl : l = c := by rw [← hl, ← hc.out]; rfl
      have hsz : (Try.prog.info? 22).map (·.size) = some 16 := by kernel_rfl
      have u1 := M.x.loadAt (P := Try.prog) Try.underlying22 (by rw [hlen]; exact hsz)
      have u2 := M.z.storeAt (P := Try.prog) (ty := 22) (l' := l) (by rw [hlen]; exact hsz) (by rw [hlen]; rfl)
      have Z := M.z.setRow (l' := l)
      have u3 := Z.load (P := Try.prog) Try.underlying22 (by rw [hlen]; exact hsz)
      have bel := below_setRow M.bel (g := w.heap.size + 1) (by omega) (u8s l)
      clear hsz M
      replace u1 := Kp.mk u1; replace u2 := Kp.mk u2; replace u3 := Kp.mk u3
      go_wp2_with (first | (refine wpList_load rfl (t := 22) (x := .tmp 7) rfl rfl u1.out ?_) | (refine wpList_store rfl (t := 22) (x := .tmp 6) (y := .tmp 29) rfl rfl rfl u2.out ?_))
      exact bodyPost_ret (v := .agg (u8s l)) (results_cell1 rfl _ _ _ rfl u3.out) rfl ⟨rfl, bel⟩
end Go.Proofs.Ytgdphdnghackfaa
