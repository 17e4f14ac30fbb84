/- The walk of rounds (layer 4). -/
import Derived.Test.YtgdphdnghackfaaK
import Derived.Deep.RegionHeld3
import Derived.Deep.DrawnRows
namespace Go.Proofs.Ytgdphdnghackfaa
open Go.RowKit
attribute [local go_sem ↓] Go.wp_at_zero Go.wp_at_succ

structure RiMem (w : World) (gs g1 g2 : Nat) (key t was hd o : List Nat) (W : World) : Prop where
  M : RdMem w gs key t o W
  a : Arr W g1 22 was
  h : Arr W g2 62 hd
theorem RdMem.drew {w W : World} {gs : Nat} {key t o : List Nat} (h : RdMem w gs key t o W) : RdMem w gs key t o W.drew := ⟨h.key, h.z, h.o, h.t, h.bel.drew⟩
theorem RdMem.put {w W : World} {gs : Nat} {key t o : List Nat} (hgs : gs < w.heap.size) (h : RdMem w gs key t o W) (i v : Nat) : RdMem w gs key t (o.set i v) (W.setCell ⟨w.heap.size + 2, i, none⟩ (.int .u8 (v : Nat))) :=
  ⟨h.key.far (by simp) _, h.z.far (by simp) _, h.o.put i v, h.t.far (by simp; omega) _, h.bel.setCell (by simp) _⟩
theorem RdMem.keep {w W W' : World} {gs : Nat} {key t o : List Nat} (h : RdMem w gs key t o W) (k : Below W.heap.size W W') : RdMem w gs key t o W' :=
  ⟨h.key.keep k h.key.lt, h.z.keep k h.z.lt, h.o.keep k h.o.lt, h.t.keep k h.t.lt, h.bel.trans (k.mono h.bel.size)⟩
set_option maxRecDepth 100000 in
set_option maxHeartbeats 12000000 in
theorem rounds_to (w : World) (gs : Nat) (key t c : List Nat) (hc : rdL key t = c) (hk : key.length = 16) (ht : t.length = 256) (_bk : Bytes key) (bt : Bytes t) (hT : Arr w gs 52 t)
    (hok : ∀ i, RdOk (rdSt key t i)) :
    Calls Try.prog 34 #[.agg (u8s key), .pointer (some ⟨gs, 0, none⟩)] w fun e w' => e = .returned (.agg (u8s c)) ∧ Below w.heap.size w w' := by
  replace hc := Kp.mk hc
  have hgs := hT.lt
  obtain ⟨hz, hsz31⟩ := zero_of_info info54
  have hsz : (Try.prog.info? 22).map (·.size) = some 16 := by kernel_rfl
  have A0 : RdMem w gs key t (List.replicate 176 0) (((w.alloc (.cells (u8s key) 22)).alloc (.cells Z54 54)).alloc (.cells Z54 54)) := by
    refine ⟨((Box.new w 22 (u8s key)).alloc _).alloc _, ?_, ?_, ((hT.alloc _).alloc _).alloc _, (((Below.refl _ _).alloc (Nat.le_refl _) _).alloc (by simp) _).alloc (by simp; omega) _⟩
    · have h := (Box.new (w.alloc (.cells (u8s key) 22)) 54 Z54).alloc (.cells Z54 54)
      rw [World.size_alloc] at h; exact h
    · have h := Box.new ((w.alloc (.cells (u8s key) 22)).alloc (.cells Z54 54)) 54 Z54
      rw [World.size_alloc, World.size_alloc] at h; exact h
  have u1 := A0.key.loadAt (P := Try.prog) Try.underlying22 (by rw [hk]; exact hsz)
  have u2 := A0.o.storeHead (P := Try.prog) (ty := 22) (l' := key) (by rw [hk]; exact hsz) (by rw [hk]; simp)
  have e160 : key ++ (List.replicate 176 0).drop key.length = (rdSt key t 0).out := by rw [hk]; rfl
  rw [e160] at u2
  have A1 : RdMem w gs key t (rdSt key t 0).out ((((w.alloc (.cells (u8s key) 22)).alloc (.cells Z54 54)).alloc (.cells Z54 54)).setRow (w.heap.size + 2) (u8s (rdSt key t 0).out)) :=
    ⟨A0.key.farRow (by omega), A0.z.farRow (by omega), A0.o.setRow, A0.t.farRow (by omega), below_setRow A0.bel (by omega) _⟩
  replace u1 := Kp.mk u1; replace u2 := Kp.mk u2
  clear A0 e160 hsz hsz31
  replace hok := Kp.mk hok
  go_enter Try.func34, Try.ntmps34
  go_wp2_with (first | (refine wpList_load rfl (t := 22) (x := .tmp 2) rfl rfl u1.out ?_) | (refine wpList_store rfl (t := 22) (x := .tmp 12) (y := .tmp 11) rfl rfl rfl u2.out ?_))
  clear u1 u2 hz
  go_loopw [6, 7] (fun mm ii wr => ∃ q : Nat, mm = .int .u8 ((rdSt key t q).more : Nat) ∧ ii = .int .i64 ((q : Int) + 1) ∧ q ≤ 10 ∧ RdMem w gs key t (rdSt key t q).out wr) (fun _ ii _ => 300 - (intOf ii).toNat)
  case atStart => exact ⟨0, rfl, rfl, by omega, A1⟩
  case round =>
    obtain ⟨q, rfl, rfl, hq, M⟩ := hrel
    clear A1
    obtain ⟨s, hs⟩ : ∃ s, rdSt key t q = s := ⟨_, rfl⟩
    have ok := hok.out q
    rw [hs] at M ok ⊢
    by_cases hq4 : q < 10
    · have hq' : (q : Int) + 1 < 11 := by omega
      have hsz : (Try.prog.info? 22).map (·.size) = some 16 := by kernel_rfl
      obtain ⟨was, hwas⟩ : ∃ l, (s.out.drop (q * 16)).take 16 = l := ⟨_, rfl⟩
      have u1 := M.o.loadSub (P := Try.prog) (off := q * 16) (n := 16) (by rw [ok.len]; omega) Try.underlying22 hsz
      rw [hwas] at u1
      replace u1 := Kp.mk u1
      have hwl : was.length = 16 := by rw [← hwas, List.length_take, List.length_drop, ok.len]; omega
      have hwb : Bytes was := fun x hx => ok.byte x (List.mem_of_mem_drop (List.mem_of_mem_take (hwas ▸ hx)))
      have B0 : Arr (wr.alloc (.cells (u8s (List.replicate 16 0)) 22)) wr.heap.size 22 (List.replicate 16 0) := Box.new _ _ _
      have u3 := B0.storeAt (P := Try.prog) (ty := 22) (l' := was) (by rw [hwl]; exact hsz) (by rw [hwl]; rfl)
      rw [World.setRow_alloc_new] at u3
      have B1 : Arr (wr.alloc (.cells (u8s was) 22)) wr.heap.size 22 was := Box.new _ _ _
      have M1 : RdMem w gs key t s.out (wr.alloc (.cells (u8s was) 22)) := ⟨M.key.alloc _, M.z.alloc _, M.o.alloc _, M.t.alloc _, M.bel.alloc M.bel.size _⟩
      have q0 := M.o.lt
      have qg := M.t.lt
      have qs := M.bel.size
      replace u3 := Kp.mk u3
      clear hsz B0 M
      obtain ⟨p13, h13⟩ : ∃ x, was.getD 13 0 = x := ⟨_, rfl⟩
      obtain ⟨p14, h14⟩ : ∃ x, was.getD 14 0 = x := ⟨_, rfl⟩
      obtain ⟨p15, h15⟩ : ∃ x, was.getD 15 0 = x := ⟨_, rfl⟩
      obtain ⟨p12, h12⟩ : ∃ x, was.getD 12 0 = x := ⟨_, rfl⟩
      have c13 := B1.cell 13 (by omega)
      have c14 := B1.cell 14 (by omega)
      have c15 := B1.cell 15 (by omega)
      have c12 := B1.cell 12 (by omega)
      rw [h13] at c13
      rw [h14] at c14
      rw [h15] at c15
      rw [h12] at c12
      have b13 : p13 < 256 := h13 ▸ hwb.get 13
      have b14 : p14 < 256 := h14 ▸ hwb.get 14
      have b15 : p15 < 256 := h15 ▸ hwb.get 15
      have b12 : p12 < 256 := h12 ▸ hwb.get 12
      have d13 := M1.t.cell p13 (by omega)
      have d14 := M1.t.cell p14 (by omega)
      have d15 := M1.t.cell p15 (by omega)
      have d12 := M1.t.cell p12 (by omega)
      have i13 : (p13 : Int) < 256 := by omega
      have i14 : (p14 : Int) < 256 := by omega
      have i15 : (p15 : Int) < 256 := by omega
      have i12 : (p12 : Int) < 256 := by omega
      have hxor := xor_u8 (bt.get p13) ok.more
      obtain ⟨y13, e13⟩ : ∃ x, t.getD p13 0 = x := ⟨_, rfl⟩
      obtain ⟨y14, e14⟩ : ∃ x, t.getD p14 0 = x := ⟨_, rfl⟩
      obtain ⟨y15, e15⟩ : ∃ x, t.getD p15 0 = x := ⟨_, rfl⟩
      obtain ⟨y12, e12⟩ : ∃ x, t.getD p12 0 = x := ⟨_, rfl⟩
      have b14' : y14 < 256 := e14 ▸ bt.get p14
      have b15' : y15 < 256 := e15 ▸ bt.get p15
      have b12' : y12 < 256 := e12 ▸ bt.get p12
      have b13' : y13 < 256 := e13 ▸ bt.get p13
      rw [e13] at d13 hxor
      rw [e14] at d14
      rw [e15] at d15
      rw [e12] at d12
      have hhd : rdHead t was s.more = [y13 ^^^ s.more, y14, y15, y12] := by unfold rdHead; rw [h13, h14, h15, h12, e13, e14, e15, e12]
      replace hhd := Kp.mk hhd
      clear h13 h14 h15 h12 e13 e14 e15 e12
      go_wp2_with (first | (refine wpList_load rfl (t := 22) (x := .tmp 19) rfl rfl u1.out ?_) | (refine wpList_store rfl (t := 22) (x := .tmp 8) (y := .tmp 20) rfl rfl rfl u3.out ?_))
      clear u1 u3
      have KK : Kp (rdSt key t q = s ∧ (s.out.drop (q * 16)).take 16 = was ∧ was.length = 16 ∧ Bytes was ∧ RdOk s ∧ gs < w.heap.size ∧ y14 < 256 ∧ y15 < 256 ∧ y12 < 256) := ⟨hs, hwas, hwl, hwb, ok, hgs, b14', b15', b12'⟩
      clear hT hgs hk ht _bk bt hs hwas hwl hwb ok b14' b15' b12'
      generalize wr.alloc (.cells (u8s was) 22) = W1 at *
      have q1 := B1.lt
      have q2 := M1.t.lt
      have q3 := M1.o.lt
      have n1 := World.new_ne W1 _ c13
      have n2 := World.new_ne W1 _ d13
      go_region_held3 (fun w' => w'.cell? ⟨wr.heap.size, 13, none⟩ = some (.int .u8 p13) ∧ w'.cell? ⟨wr.heap.size, 14, none⟩ = some (.int .u8 p14) ∧ w'.cell? ⟨wr.heap.size, 15, none⟩ = some (.int .u8 p15) ∧ w'.cell? ⟨wr.heap.size, 12, none⟩ = some (.int .u8 p12) ∧ w'.cell? ⟨gs, p13, none⟩ = some (.int .u8 y13) ∧ w'.cell? ⟨gs, p14, none⟩ = some (.int .u8 y14) ∧ w'.cell? ⟨gs, p15, none⟩ = some (.int .u8 y15) ∧ w'.cell? ⟨gs, p12, none⟩ = some (.int .u8 y12)) (go_keep) (fail)
      obtain ⟨hd, ehd⟩ : ∃ l, [y13 ^^^ s.more, y14, y15, y12] = l := ⟨_, rfl⟩
      have H0 : Arr (W1.alloc (.cells #[.int .u8 ↑(y13 ^^^ s.more), .int .u8 ↑y14, .int .u8 ↑y15, .int .u8 ↑y12] 62)).drew W1.heap.size 62 hd := by rw [← ehd]; exact (Box.new W1 62 _).drew
      have I0 : RiMem w gs wr.heap.size W1.heap.size key t was hd (rdIn was hd (q + 1) s.out 0) (W1.alloc (.cells #[.int .u8 ↑(y13 ^^^ s.more), .int .u8 ↑y14, .int .u8 ↑y15, .int .u8 ↑y12] 62)).drew :=
        ⟨RdMem.drew ⟨M1.key.alloc _, M1.z.alloc _, M1.o.alloc _, M1.t.alloc _, M1.bel.alloc M1.bel.size _⟩, (B1.alloc _).drew, H0⟩
      have hhl : hd.length = 4 := by rw [← ehd]; rfl
      have hhb : Bytes hd := by rw [← ehd]; intro x hx; simp at hx; rcases hx with rfl | rfl | rfl | rfl; exact xor_lt b13' KK.out.2.2.2.2.1.more; exact KK.out.2.2.2.2.2.2.1; exact KK.out.2.2.2.2.2.2.2.1; exact KK.out.2.2.2.2.2.2.2.2
      replace hhd : Kp (rdHead t was s.more = hd) := ⟨by rw [hhd.out]; exact ehd⟩
      have Q1 : Kp (w.heap.size + 2 ≠ wr.heap.size ∧ w.heap.size + 2 ≠ W1.heap.size) := ⟨by omega⟩
      clear ehd H0 hxor b13' b12 b13 b14 b15 c12 c13 c14 c15 d12 d13 d14 d15 i12 i13 i14 i15 n1 n2 M1 B1 q0 qg qs q1 q2 q3
      go_wp2_with fail
      generalize (W1.alloc (.cells #[.int .u8 ↑(y13 ^^^ s.more), .int .u8 ↑y14, .int .u8 ↑y15, .int .u8 ↑y12] 62)).drew = W2 at *
      generalize wr.heap.size = g1 at *
      generalize W1.heap.size = g2 at *
      go_loopw [48] (fun kk wr2 => ∃ k : Nat, kk = .int .i64 k ∧ k ≤ 16 ∧ RiMem w gs g1 g2 key t was hd (rdIn was hd (q + 1) s.out k) wr2) (fun kk _ => 300 - (intOf kk).toNat)
      case atStart => exact ⟨0, rfl, by omega, I0⟩
      case round =>
        obtain ⟨k, rfl, hk, I⟩ := hrel
        clear I0
        by_cases hk16 : k < 16
        · have hk' : (k : Int) < 16 := by omega
          obtain ⟨x, hx⟩ : ∃ x, was.getD k 0 = x := ⟨_, rfl⟩
          obtain ⟨l2, hl2⟩ : ∃ l, rdIn was hd (q + 1) s.out k = l := ⟨_, rfl⟩
          have hlen2 : l2.length = 176 := by rw [← hl2, rdIn_len]; exact KK.out.2.2.2.2.1.len
          have hby2 : Bytes l2 := hl2 ▸ rdIn_bytes KK.out.2.2.2.1 hhb _ KK.out.2.2.2.2.1.byte k
          rw [hl2] at I
          have k1 := I.a.cell k (by rw [KK.out.2.2.1]; omega)
          have hx8 : x < 256 := hx ▸ KK.out.2.2.2.1.get k
          rw [hx] at k1
          have f1 := I.M.o.frozen ((q + 1) * 16 + k)
          have k3 := I.M.o.cell ((q + 1) * 16 + k) (by omega)
          by_cases hk4 : k < 4
          · have hk4' : (k : Int) < 4 := by omega
            obtain ⟨y, hy⟩ : ∃ x, hd.getD k 0 = x := ⟨_, rfl⟩
            have hy8 : y < 256 := hy ▸ hhb.get k
            have k2 := I.h.cell k (by omega)
            rw [hy] at k2
            have hxor := xor_u8 hx8 hy8
            have hstep2 : rdIn was hd (q + 1) s.out (k + 1) = l2.set ((q + 1) * 16 + k) (x ^^^ y) := by rw [← hx, ← hy, ← hl2, Nat.mul_comm]; show List.set _ _ _ = _; rw [if_pos hk4]
            replace hstep2 := Kp.mk hstep2
            replace hhl := Kp.mk hhl
            replace hx := Kp.mk hx
            replace hy := Kp.mk hy
            replace hlen2 := Kp.mk hlen2
            have e1 : ¬ w.heap.size + 1 + 1 = g1 := fun h => Q1.out.1 h
            have e2 : ¬ w.heap.size + 1 + 1 = g2 := fun h => Q1.out.2 h
            have e3 : ¬ g1 = w.heap.size + 1 + 1 := fun h => Q1.out.1 h.symm
            have e4 : ¬ g2 = w.heap.size + 1 + 1 := fun h => Q1.out.2 h.symm
            have q6 : (0 : Int) ≤ (q : Int) + 1 := by omega
            clear hl2
            go_wp2_with fail
            go_region_held3 (fun w' => w'.cell? ⟨g1, k, none⟩ = some (.int .u8 x) ∧ w'.cell? ⟨g2, k, none⟩ = some (.int .u8 y)) (go_keep) (fail)
            go_wp2_with fail
            refine ⟨⟨k + 1, congrArg (Value.int .i64) (by omega), by omega, ⟨?_, (I.a.far (by simpa using e3) _), (I.h.far (by simpa using e4) _)⟩⟩, by simp [intOf]; omega⟩
            rw [hstep2.out]; exact (I.M.put KK.out.2.2.2.2.2.1 _ _).drew
          · have hk4' : ¬ (k : Int) < 4 := by omega
            obtain ⟨j, hj⟩ : ∃ j, k - 4 = j := ⟨_, rfl⟩
            obtain ⟨y, hy⟩ : ∃ x, l2.getD ((q + 1) * 16 + j) 0 = x := ⟨_, rfl⟩
            have hy8 : y < 256 := hy ▸ hby2.get _
            have k2 := I.M.o.cell ((q + 1) * 16 + j) (by omega)
            rw [hy] at k2
            have hxor := xor_u8 hx8 hy8
            have hstep2 : rdIn was hd (q + 1) s.out (k + 1) = l2.set ((q + 1) * 16 + k) (x ^^^ y) := by rw [← hx, ← hy, ← hl2, ← hj, Nat.mul_comm]; show List.set _ _ _ = _; rw [if_neg hk4]
            have hjI : (k : Int) - 4 = j := by omega
            have hjW : IntKind.i64.wrap ((k : Int) - 4) = j := by rw [hjI]; exact IntWalk.i64_in _ (by omega)
            have hjJ : (j : Int) < 16 := by omega
            replace hstep2 := Kp.mk hstep2
            replace hhl := Kp.mk hhl
            replace hx := Kp.mk hx
            replace hy := Kp.mk hy
            replace hj := Kp.mk hj
            replace hlen2 := Kp.mk hlen2
            have e1 : ¬ w.heap.size + 1 + 1 = g1 := fun h => Q1.out.1 h
            have e3 : ¬ g1 = w.heap.size + 1 + 1 := fun h => Q1.out.1 h.symm
            have e4 : ¬ g2 = w.heap.size + 1 + 1 := fun h => Q1.out.2 h.symm
            have q6 : (0 : Int) ≤ (q : Int) + 1 := by omega
            clear hl2
            go_wp2_with fail
            go_region
            go_wp2_with fail
            refine ⟨⟨k + 1, congrArg (Value.int .i64) (by omega), by omega, ⟨?_, (I.a.far (by simpa using e3) _), (I.h.far (by simpa using e4) _)⟩⟩, by simp [intOf]; omega⟩
            rw [hstep2.out]; exact (I.M.put KK.out.2.2.2.2.2.1 _ _).drew
        · obtain rfl : k = 16 := by omega
          obtain ⟨z, hz2⟩ : ∃ z, T s.more 2 = z := ⟨_, rfl⟩
          have hm8 := KK.out.2.2.2.2.1.more
          have hst : Kp (rdSt key t (q + 1) = ⟨rdIn was hd (q + 1) s.out 16, z⟩) := ⟨by
            show rdStep t (q + 1) (rdSt key t q) = _
            rw [KK.out.1, ← hz2, ← hhd.out, ← KK.out.2.1]
            show RdSt.mk (rdIn ((s.out.drop (16 * q)).take 16) (rdHead t ((s.out.drop (16 * q)).take 16) _) _ _ _) _ = _
            rw [Nat.mul_comm 16 q]⟩
          replace hz2 := Kp.mk hz2
          have MM := I.M
          clear I
          go_wp2_with fail
          refine (Times_to s.more 2 _ z hz2.out hm8 (by decide)).mono ?_
          rintro _ w5 ⟨rfl, hb5⟩
          have MM2 := MM.keep hb5
          clear hb5 MM
          go_wp2_with fail
          go_roundw
          case rel => exact ⟨q + 1, by rw [hst.out], congrArg (Value.int .i64) (by omega), by omega, by rw [hst.out]; exact MM2⟩
          case measure => simp [intOf] <;> omega
    · obtain rfl : q = 10 := by omega
      have hsz : (Try.prog.info? 54).map (·.size) = some 176 := by kernel_rfl
      have hcl : s.out = c := by rw [← hs, ← hc.out]; rfl
      have hlen := ok.len
      have Mo := M.o
      rw [hcl] at hlen Mo
      have u1 := Mo.loadAt (P := Try.prog) Try.underlying54 (by rw [hlen]; exact hsz)
      have u2 := M.z.storeAt (P := Try.prog) (ty := 54) (l' := c) (by rw [hlen]; exact hsz) (by rw [hlen]; rfl)
      have Z := M.z.setRow (l' := c)
      have u3 := Z.load (P := Try.prog) Try.underlying54 (by rw [hlen]; exact hsz)
      have bel := below_setRow M.bel (g := w.heap.size + 1) (by omega) (u8s c)
      clear hsz M Mo ok hcl
      replace hs := Kp.mk hs
      replace hlen := Kp.mk hlen
      replace u1 := Kp.mk u1; replace u2 := Kp.mk u2; replace u3 := Kp.mk u3
      go_wp2_with (first | (refine wpList_load rfl (t := 54) (x := .tmp 5) rfl rfl u1.out ?_) | (refine wpList_store rfl (t := 54) (x := .tmp 4) (y := .tmp 81) rfl rfl rfl u2.out ?_))
      exact bodyPost_ret (v := .agg (u8s c)) (results_cell1 rfl _ _ _ rfl u3.out) rfl ⟨rfl, bel⟩
end Go.Proofs.Ytgdphdnghackfaa
