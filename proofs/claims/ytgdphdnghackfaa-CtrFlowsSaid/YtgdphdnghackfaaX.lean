/- The walk of the document's hiding (layer 4). -/
import Derived.Test.YtgdphdnghackfaaZ
namespace Go.Proofs.Ytgdphdnghackfaa
open Go.RowKit
/-- A mixed byte as the document says it, and a block mixed byte by byte. -/
def mrV (x : List Nat) (i : Nat) : Nat := ((T 2 (x.getD (i / 4 * 4 + i % 4) 0) ^^^ T 3 (x.getD (i / 4 * 4 + (i % 4 + 1) % 4) 0)) ^^^ x.getD (i / 4 * 4 + (i % 4 + 2) % 4) 0) ^^^ x.getD (i / 4 * 4 + (i % 4 + 3) % 4) 0
def mrS (x : List Nat) : Nat → List Nat
  | 0 => x
  | i + 1 => (mrS x i).set i (mrV x i)
theorem mrS_len (x : List Nat) (i : Nat) : (mrS x i).length = x.length := by
  induction i with
  | zero => rfl
  | succ i ih => show (List.set _ _ _).length = _; rw [List.length_set]; exact ih
theorem mrS_getD {x : List Nat} (hx : x.length = 16) (i : Nat) (hi : i ≤ 16) (j : Nat) (hj : j < i) : (mrS x i).getD j 0 = mrV x j := by
  induction i with
  | zero => exact absurd hj (Nat.not_lt_zero _)
  | succ i ih =>
    show (List.set _ _ _).getD j 0 = _
    rw [getD_set _ _ _ _ (by rw [mrS_len]; omega)]
    by_cases e : i = j
    · rw [if_pos e, e]
    · rw [if_neg e]; exact ih (by omega) (by omega)
theorem T_one : ∀ x, x < 256 → T 1 x = x := by decide +kernel
theorem mr_mx {x : List Nat} (hx : x.length = 16) (bx : Bytes x) : mrS x 16 = mxL x fwd :=
  ext16 (by rw [mrS_len]; exact hx) (mxL_len _ _) fun j hj => by
    rw [mrS_getD hx 16 (by omega) j hj, mxL_getD _ _ hj]
    show _ = (((0 ^^^ T 2 (x.getD (j / 4 * 4 + (j + 0) % 4) 0)) ^^^ T 3 (x.getD (j / 4 * 4 + (j + 1) % 4) 0)) ^^^ T 1 (x.getD (j / 4 * 4 + (j + 2) % 4) 0)) ^^^ T 1 (x.getD (j / 4 * 4 + (j + 3) % 4) 0)
    rw [T_one _ (bx.get _), T_one _ (bx.get _), Nat.zero_xor]
    unfold mrV
    rw [show (j + 0) % 4 = j % 4 by omega, show (j + 1) % 4 = (j % 4 + 1) % 4 by omega, show (j + 2) % 4 = (j % 4 + 2) % 4 by omega, show (j + 3) % 4 = (j % 4 + 3) % 4 by omega]
theorem mrV_lt {x : List Nat} (bx : Bytes x) (i : Nat) : mrV x i < 256 := xor_lt (xor_lt (xor_lt (T_lt (by decide) _) (T_lt (by decide) _)) (bx.get _)) (bx.get _)
theorem mrS_bytes {x : List Nat} (bx : Bytes x) (i : Nat) : Bytes (mrS x i) := by
  induction i with
  | zero => exact bx
  | succ i ih => exact ih.set i (mrV_lt bx i)
structure HrMem (w : World) (r b : List Nat) (W : World) : Prop where
  r : Arr W w.heap.size 54 r
  t : Arr W (w.heap.size + 1) 52 swapT
  b : Arr W (w.heap.size + 2) 22 b
  z : Arr W (w.heap.size + 3) 22 (List.replicate 16 0)
  bel : Below w.heap.size w W
namespace HrMem
variable {w W : World} {r b : List Nat}
theorem drew (h : HrMem w r b W) : HrMem w r b W.drew := ⟨h.r, h.t, h.b, h.z, h.bel.drew⟩
theorem put (h : HrMem w r b W) (i v : Nat) : HrMem w r (b.set i v) (W.setCell ⟨w.heap.size + 2, i, none⟩ (.int .u8 (v : Nat))) :=
  ⟨h.r.far (by simp) _, h.t.far (by simp) _, h.b.put i v, h.z.far (by simp) _, h.bel.setCell (by simp) _⟩
theorem row (h : HrMem w r b W) (b' : List Nat) : HrMem w r b' (W.setRow (w.heap.size + 2) (u8s b')) :=
  ⟨h.r.farRow (by omega), h.t.farRow (by omega), h.b.setRow, h.z.farRow (by omega), below_setRow h.bel (by omega) _⟩
theorem first (w : World) (r b : List Nat) : HrMem w r b ((((w.alloc (.cells (u8s r) 54)).alloc (.cells (u8s swapT) 52)).alloc (.cells (u8s b) 22)).alloc (.cells (u8s (List.replicate 16 0)) 22)) := by
  refine ⟨(((Box.new w 54 (u8s r)).alloc _).alloc _).alloc _, ?_, ?_, ?_, ((((Below.refl _ _).alloc (Nat.le_refl _) _).alloc (by simp) _).alloc (by simp; omega) _).alloc (by simp; omega) _⟩
  · have h := ((Box.new (w.alloc (.cells (u8s r) 54)) 52 (u8s swapT)).alloc (.cells (u8s b) 22)).alloc (.cells (u8s (List.replicate 16 0)) 22)
    rw [World.size_alloc] at h; exact h
  · have h := (Box.new ((w.alloc (.cells (u8s r) 54)).alloc (.cells (u8s swapT) 52)) 22 (u8s b)).alloc (.cells (u8s (List.replicate 16 0)) 22)
    rw [World.size_alloc, World.size_alloc] at h; exact h
  · have h := Box.new (((w.alloc (.cells (u8s r) 54)).alloc (.cells (u8s swapT) 52)).alloc (.cells (u8s b) 22)) 22 (u8s (List.replicate 16 0))
    rw [World.size_alloc, World.size_alloc, World.size_alloc] at h; exact h
end HrMem
structure HxMem (w : World) (g : Nat) (r b x : List Nat) (W : World) : Prop where
  h : HrMem w r b W
  x : Arr W g 22 x
  q : w.heap.size + 3 < g
namespace HxMem
variable {w W : World} {g : Nat} {r b x : List Nat}
theorem drew (h : HxMem w g r b x W) : HxMem w g r b x W.drew := ⟨h.h.drew, h.x, h.q⟩
theorem putX (h : HxMem w g r b x W) (i v : Nat) : HxMem w g r b (x.set i v) (W.setCell ⟨g, i, none⟩ (.int .u8 (v : Nat))) := by
  have q := h.q
  exact ⟨⟨h.h.r.far (by simp; omega) _, h.h.t.far (by simp; omega) _, h.h.b.far (by simp; omega) _, h.h.z.far (by simp; omega) _, h.h.bel.setCell (by simp; omega) _⟩, h.x.put i v, q⟩
theorem putB (h : HxMem w g r b x W) (i v : Nat) : HxMem w g r (b.set i v) x (W.setCell ⟨w.heap.size + 2, i, none⟩ (.int .u8 (v : Nat))) := by
  have q := h.q
  exact ⟨h.h.put i v, h.x.far (by simp; omega) _, q⟩
theorem rowB (h : HxMem w g r b x W) (b' : List Nat) : HxMem w g r b' x (W.setRow (w.heap.size + 2) (u8s b')) := by
  have q := h.q
  exact ⟨h.h.row b', h.x.farRow (by omega), q⟩
theorem first (h : HrMem w r b W) : HxMem w W.heap.size r b (List.replicate 16 0) (W.alloc (.cells (u8s (List.replicate 16 0)) 22)) :=
  ⟨⟨h.r.alloc _, h.t.alloc _, h.b.alloc _, h.z.alloc _, h.bel.alloc h.bel.size _⟩, Box.new _ _ _, h.z.lt⟩
end HxMem
structure Nums (c4 r4 i j1 j2 j3 i1 i2 i3 : Nat) : Prop where
  n1 : (i : Int) < 16
  n2 : (i1 : Int) < 16
  n3 : (i2 : Int) < 16
  n4 : (i3 : Int) < 16
  a1 : IntKind.i64.wrap (4 * (c4 : Int)) = 4 * (c4 : Int)
  a2 : IntKind.i64.wrap (4 * (c4 : Int) + r4) = i
  a3 : IntKind.i64.wrap ((r4 : Int) + 1) = (r4 : Int) + 1
  a4 : IntKind.i64.wrap ((r4 : Int) + 2) = (r4 : Int) + 2
  a5 : IntKind.i64.wrap ((r4 : Int) + 3) = (r4 : Int) + 3
  b1 : ((r4 : Int) + 1).tmod 4 = j1
  b2 : ((r4 : Int) + 2).tmod 4 = j2
  b3 : ((r4 : Int) + 3).tmod 4 = j3
  b4 : IntKind.i64.wrap (j1 : Int) = j1
  b5 : IntKind.i64.wrap (j2 : Int) = j2
  b6 : IntKind.i64.wrap (j3 : Int) = j3
  c1 : IntKind.i64.wrap (4 * (c4 : Int) + j1) = i1
  c2 : IntKind.i64.wrap (4 * (c4 : Int) + j2) = i2
  c3 : IntKind.i64.wrap (4 * (c4 : Int) + j3) = i3
theorem nums_of {c4 r4 i j1 j2 j3 i1 i2 i3 : Nat} (hc : c4 < 4) (hr : r4 < 4) (hi : 4 * c4 + r4 = i) (h1 : (r4 + 1) % 4 = j1) (h2 : (r4 + 2) % 4 = j2) (h3 : (r4 + 3) % 4 = j3) (g1 : 4 * c4 + j1 = i1) (g2 : 4 * c4 + j2 = i2) (g3 : 4 * c4 + j3 = i3) : Nums c4 r4 i j1 j2 j3 i1 i2 i3 :=
  ⟨by omega, by omega, by omega, by omega, IntWalk.i64_in _ (by omega), (by rw [show 4 * (c4 : Int) + r4 = i by omega]; exact IntWalk.i64_in _ (by omega)), IntWalk.i64_in _ (by omega), IntWalk.i64_in _ (by omega), IntWalk.i64_in _ (by omega), (by rw [Int.tmod_eq_emod_of_nonneg (by omega)]; omega), (by rw [Int.tmod_eq_emod_of_nonneg (by omega)]; omega), (by rw [Int.tmod_eq_emod_of_nonneg (by omega)]; omega), IntWalk.i64_in _ (by omega), IntWalk.i64_in _ (by omega), IntWalk.i64_in _ (by omega), (by rw [show 4 * (c4 : Int) + j1 = i1 by omega]; exact IntWalk.i64_in _ (by omega)), (by rw [show 4 * (c4 : Int) + j2 = i2 by omega]; exact IntWalk.i64_in _ (by omega)), (by rw [show 4 * (c4 : Int) + j3 = i3 by omega]; exact IntWalk.i64_in _ (by omega))⟩
theorem TimesR_still (a b : Nat) (w : World) (v : Nat) (hv : T a b = v) (ha : a < 256) (hb : b < 256) : Calls Try.prog 30 #[.int .u8 a, .int .u8 b] w fun e w' => e = .returned (.int .u8 v) ∧ w' = w :=
  (TimesR_to a b w v hv ha hb).mono fun _ _ ⟨he, hw⟩ => ⟨he, hw.symm⟩
set_option maxRecDepth 100000 in
set_option maxHeartbeats 3000000 in
theorem HideR_to (w : World) (r b c : List Nat) (hc : hdS r b 10 = c) (hr : r.length = 176) (hb : b.length = 16) (br : Bytes r) (bb : Bytes b) :
    Calls Try.prog 31 #[.agg (u8s r), .agg (u8s swapT), .agg (u8s b)] w fun e w' => e = .returned (.agg (u8s c)) ∧ Below w.heap.size w w' := by
  have ok : Kp (∀ q, (hdS r b q).length = 16 ∧ Bytes (hdS r b q)) := ⟨hdS_ok br hb bb⟩
  have hrow : ∀ n, n < 11 → (rdRow r n).length = 16 ∧ Bytes (rdRow r n) := fun n hn => ⟨rdRow_len hr hn, rdRow_bytes br n⟩
  replace hrow := Kp.mk hrow
  have hrl := Kp.mk hr
  have bl := Kp.mk hb
  replace hc := Kp.mk hc
  have M0 := HrMem.first w r b
  clear hr hb
  go_enter Try.func31, Try.ntmps31
  go_wp2_with fail
  go_loopw [7] (fun ii wa => ∃ i : Nat, ii = .int .i64 i ∧ i ≤ 16 ∧ HrMem w r (adS b (rdRow r 0) i) wa) (fun ii _ => 300 - (intOf ii).toNat)
  case atStart => exact ⟨0, rfl, by omega, M0⟩
  case round =>
    obtain ⟨i, rfl, hi, I⟩ := hrel
    clear M0
    by_cases hi16 : i < 16
    · have hiI : (i : Int) < 16 := by omega
      obtain ⟨l2, hl2⟩ : ∃ l, adS b (rdRow r 0) i = l := ⟨_, rfl⟩
      have hll2 : l2.length = 16 := by rw [← hl2, adS_len]; exact bl.out
      have hlb2 : Bytes l2 := hl2 ▸ adS_bytes bb (hrow.out 0 (by decide)).2 i
      rw [hl2] at I
      obtain ⟨p, hp⟩ : ∃ p, l2.getD i 0 = p := ⟨_, rfl⟩
      obtain ⟨u, hu⟩ : ∃ p, ((rdRow r 0)).getD i 0 = p := ⟨_, rfl⟩
      have hst : adS b (rdRow r 0) (i + 1) = l2.set i (p ^^^ u) := by rw [← hl2, ← hp, ← hu, ← hl2]; rfl
      have hp8 : p < 256 := hp ▸ hlb2.get i
      have hu8 : u < 256 := hu ▸ (hrow.out 0 (by decide)).2.get i
      have hu2 : r.getD (0 + i) 0 = u := by rw [← hu, getD_row _ _ _ hi16]
      have hxor := xor_u8 hp8 hu8
      replace hst := Kp.mk hst
      replace hll2 := Kp.mk hll2
      replace hp := Kp.mk hp
      replace hu2 := Kp.mk hu2
      clear hl2 hu
      go_wp2_with fail
      have I2 := I.drew
      clear I
      refine wp_region_still_tail 10 (by kernel_rfl) (by kernel_rfl) ?_
      simp only [List.take_succ_cons, List.take_zero, List.drop_succ_cons, List.drop_zero]
      show wpStill _ _ wr.drew (fun a' => wpList _ _ _ _ _ wr.drew) _ _
      generalize wr.drew = w2 at *
      have k1 := I2.b.cell i (by rw [hll2.out]; exact hi16)
      rw [hp.out] at k1
      have k2 := I2.r.cell (0 + i) (by rw [hrl.out]; omega)
      rw [hu2.out] at k2
      rw [Nat.zero_add] at k2
      have f1 := I2.b.frozen i
      repeat still_step
      refine wpStill_nil ?_
      clear k2
      go_wp2_with fail
      go_roundw
      case rel => exact ⟨i + 1, congrArg (Value.int .i64) (by omega), by omega, by rw [hst.out]; exact I2.put _ _⟩
      case measure => simp [intOf] <;> omega
    · obtain rfl : i = 16 := by omega
      have I3 : HrMem w r (hdS r b 0) wr := I
      clear I
      rw [show ((16 : Nat) : Int) = 16 from rfl]
      go_wp2_with fail
      go_loopw [8] (fun nn wr => ∃ q : Nat, nn = .int .i64 ((q : Int) + 1) ∧ q ≤ 10 ∧ HrMem w r (hdS r b q) wr) (fun nn _ => 300 - (intOf nn).toNat)
      case atStart => exact ⟨0, rfl, by omega, I3⟩
      case round =>
        obtain ⟨q, rfl, hq, M⟩ := hrel
        clear I3
        by_cases hq10 : q < 10
        · have hqI : (q : Int) + 1 ≤ 10 := by omega
          have hqJ : (0 : Int) ≤ (q : Int) + 1 := by omega
          have hqK : (q : Int) + 1 < 11 := by omega
          obtain ⟨l, hl⟩ : ∃ l, hdS r b q = l := ⟨_, rfl⟩
          have hll := (ok.out q).1
          have hlb := (ok.out q).2
          rw [hl] at M hll hlb
          have hst0 : Kp (hdS r b (q + 1) = addL (if q + 1 < 10 then mxL (mvL 1 l swapT) fwd else mvL 1 l swapT) (rdRow r (q + 1))) := ⟨by rw [← hl]; rfl⟩
          replace hll := Kp.mk hll
          clear hl
          go_wp2_with fail
          have X0 := HxMem.first M
          clear M
          generalize wr.heap.size = g at *
          go_loopw [10] (fun ii wa => ∃ i : Nat, ii = .int .i64 i ∧ i ≤ 16 ∧ HxMem w g r l (mvS 1 l swapT i) wa) (fun ii _ => 300 - (intOf ii).toNat)
          case atStart => exact ⟨0, rfl, by omega, X0⟩
          case round =>
            obtain ⟨i, rfl, hi, I⟩ := hrel
            clear X0
            by_cases hi16 : i < 16
            · have hiI : (i : Int) < 16 := by omega
              obtain ⟨x, hx⟩ : ∃ l2, mvS 1 l swapT i = l2 := ⟨_, rfl⟩
              have hxl : x.length = 16 := hx ▸ mvS_len 1 l swapT i
              rw [hx] at I
              obtain ⟨j, hj⟩ : ∃ j, 4 * ((i / 4 + i % 4) % 4) + i % 4 = j := ⟨_, rfl⟩
              obtain ⟨p, hp⟩ : ∃ p, l.getD j 0 = p := ⟨_, rfl⟩
              obtain ⟨u, hu⟩ : ∃ m, swapT.getD p 0 = m := ⟨_, rfl⟩
              have hst : Kp (mvS 1 l swapT (i + 1) = x.set i u) := ⟨by rw [← hx, ← hu, ← hp, ← hj, show 4 * ((i / 4 + i % 4) % 4) + i % 4 = (i + 4 * 1 * (i % 4)) % 16 by omega]; rfl⟩
              have hj16 : j < 16 := by omega
              have hp8 : p < 256 := hp ▸ hlb.get j
              have k1 := I.h.b.cell j (by rw [hll.out]; exact hj16)
              have k2 := I.h.t.cell p (by rw [swapT_len]; exact hp8)
              have k3 := I.x.cell i (by omega)
              have f1 := I.x.frozen i
              rw [hp] at k1
              rw [hu] at k2
              have hjI : 4 * (((i : Int) / 4 + (i : Int)) % 4) + (i : Int) % 4 = j := by omega
              have hjJ : (j : Int) < 16 := by omega
              have hpI : (p : Int) < 256 := by omega
              replace hp := Kp.mk hp
              replace hu := Kp.mk hu
              replace hj := Kp.mk hj
              clear hx hxl
              go_wp2_with fail
              go_roundw
              case rel => exact ⟨i + 1, congrArg (Value.int .i64) (by omega), by omega, by rw [hst.out]; exact I.putX _ _⟩
              case measure => simp [intOf] <;> omega
            · obtain rfl : i = 16 := by omega
              obtain ⟨x, hx⟩ : ∃ x, mvL 1 l swapT = x := ⟨_, rfl⟩
              have hx2 : mvS 1 l swapT 16 = x := hx
              have hxl : Kp (x.length = 16) := ⟨hx ▸ mvL_len 1 l swapT⟩
              have hxb : Bytes x := hx ▸ mvL_bytes 1 l swapT_bytes
              rw [hx2] at I
              rw [hx] at hst0
              have u1 := I.x.loadAt (P := Try.prog) Try.underlying22 (by rw [hxl.out]; exact size22)
              have u2 := I.h.b.storeAt (P := Try.prog) (ty := 22) (l' := x) (by rw [hxl.out]; exact size22) (by rw [hxl.out, hll.out])
              have J := I.rowB x
              generalize wr.setRow (w.heap.size + 2) (u8s x) = w6 at *
              replace u1 := Kp.mk u1; replace u2 := Kp.mk u2; replace hx := Kp.mk hx
              clear I hx2
              by_cases hq9 : q + 1 < 10
              · have hq9I : (q : Int) + 1 < 10 := by omega
                rw [if_pos hq9] at hst0
                clear hq9
                go_wp2_with ((with_reducible refine wpl_id ?_); first | (refine wpList_load rfl (t := 22) (x := .tmp 9) rfl rfl u1.out ?_) | (refine wpList_store rfl (t := 22) (x := .tmp 5) (y := .tmp 55) rfl rfl rfl u2.out ?_))
                clear u1 u2
                go_loopw [13] (fun cc wa => ∃ c4 : Nat, cc = .int .i64 c4 ∧ c4 ≤ 4 ∧ HxMem w g r (mrS x (4 * c4)) x wa) (fun cc _ => 300 - (intOf cc).toNat)
                case atStart => exact ⟨0, rfl, by omega, J⟩
                case round =>
                  obtain ⟨c4, rfl, hc4, J2⟩ := hrel
                  clear J
                  by_cases hc : c4 < 4
                  · have hcI : (c4 : Int) < 4 := by omega
                    go_wp2_with fail
                    go_loopw [14] (fun ww wa => ∃ r4 : Nat, ww = .int .i64 r4 ∧ r4 ≤ 4 ∧ HxMem w g r (mrS x (4 * c4 + r4)) x wa) (fun ww _ => 300 - (intOf ww).toNat)
                    case atStart => exact ⟨0, rfl, by omega, J2⟩
                    case round =>
                      obtain ⟨r4, rfl, hr4, J3⟩ := hrel
                      clear J2
                      by_cases hr : r4 < 4
                      · have hrI : (r4 : Int) < 4 := by omega
                        obtain ⟨y, hy⟩ : ∃ y, mrS x (4 * c4 + r4) = y := ⟨_, rfl⟩
                        have hyl : Kp (y.length = 16) := ⟨by rw [← hy, mrS_len]; exact hxl.out⟩
                        rw [hy] at J3
                        obtain ⟨i, hi⟩ : ∃ i, 4 * c4 + r4 = i := ⟨_, rfl⟩
                        obtain ⟨j1, hj1⟩ : ∃ j, (r4 + 1) % 4 = j := ⟨_, rfl⟩
                        obtain ⟨j2, hj2⟩ : ∃ j, (r4 + 2) % 4 = j := ⟨_, rfl⟩
                        obtain ⟨j3, hj3⟩ : ∃ j, (r4 + 3) % 4 = j := ⟨_, rfl⟩
                        obtain ⟨i1, hi1⟩ : ∃ i, 4 * c4 + j1 = i := ⟨_, rfl⟩
                        obtain ⟨i2, hi2⟩ : ∃ i, 4 * c4 + j2 = i := ⟨_, rfl⟩
                        obtain ⟨i3, hi3⟩ : ∃ i, 4 * c4 + j3 = i := ⟨_, rfl⟩
                        obtain ⟨p0, hp0⟩ : ∃ p, x.getD i 0 = p := ⟨_, rfl⟩
                        obtain ⟨p1, hp1⟩ : ∃ p, x.getD i1 0 = p := ⟨_, rfl⟩
                        obtain ⟨p2, hp2⟩ : ∃ p, x.getD i2 0 = p := ⟨_, rfl⟩
                        obtain ⟨p3, hp3⟩ : ∃ p, x.getD i3 0 = p := ⟨_, rfl⟩
                        obtain ⟨u0, hu0⟩ : ∃ p, T 2 p0 = p := ⟨_, rfl⟩
                        obtain ⟨u1, hu1⟩ : ∃ p, T 3 p1 = p := ⟨_, rfl⟩
                        have hst : mrS x (4 * c4 + (r4 + 1)) = y.set i (((u0 ^^^ u1) ^^^ p2) ^^^ p3) := by
                          show (mrS x (4 * c4 + r4)).set (4 * c4 + r4) (mrV x (4 * c4 + r4)) = _
                          rw [hy]
                          unfold mrV
                          rw [hi, show i / 4 * 4 + i % 4 = i by omega, show i / 4 * 4 + (i % 4 + 1) % 4 = i1 by omega, show i / 4 * 4 + (i % 4 + 2) % 4 = i2 by omega, show i / 4 * 4 + (i % 4 + 3) % 4 = i3 by omega, hp0, hp1, hp2, hp3, hu0, hu1]
                        have p08 : p0 < 256 := hp0 ▸ hxb.get _
                        have p18 : p1 < 256 := hp1 ▸ hxb.get _
                        have p28 : p2 < 256 := hp2 ▸ hxb.get _
                        have p38 : p3 < 256 := hp3 ▸ hxb.get _
                        have u08 : u0 < 256 := hu0 ▸ T_lt (by decide) _
                        have u18 : u1 < 256 := hu1 ▸ T_lt (by decide) _
                        have x1 := xor_u8 u08 u18
                        have x2 := xor_u8 (xor_lt u08 u18) p28
                        have x3 := xor_u8 (xor_lt (xor_lt u08 u18) p28) p38
                        have hnum := Kp.mk (And.intro hi (And.intro hj1 (And.intro hj2 (And.intro hj3 (And.intro hi1 (And.intro hi2 hi3))))))
                        have hpp := Kp.mk (And.intro hp0 (And.intro hp1 (And.intro hp2 hp3)))
                        have huu := Kp.mk (And.intro hu0 hu1)
                        replace hst := Kp.mk hst
                        clear hy hi hj1 hj2 hj3 hi1 hi2 hi3 hp0 hp1 hp2 hp3 hu0 hu1
                        go_wp2_with fail
                        have I2 := J3.drew
                        clear J3
                        refine wp_region_still_tail 40 (by kernel_rfl) (by kernel_rfl) ?_
                        simp only [List.take_succ_cons, List.take_zero, List.drop_succ_cons, List.drop_zero]
                        show wpStill _ _ wr.drew (fun a' => wpList _ _ _ _ _ wr.drew) _ _
                        generalize wr.drew = w7 at *
                        have hn := hnum.out
                        have k0 := I2.x.cell i (by rw [hxl.out]; omega)
                        have k1 := I2.x.cell i1 (by rw [hxl.out]; omega)
                        have k2 := I2.x.cell i2 (by rw [hxl.out]; omega)
                        have k3 := I2.x.cell i3 (by rw [hxl.out]; omega)
                        have k4 := I2.h.b.cell i (by rw [hyl.out]; omega)
                        have f4 := I2.h.b.frozen i
                        rw [hpp.out.1] at k0
                        rw [hpp.out.2.1] at k1
                        rw [hpp.out.2.2.1] at k2
                        rw [hpp.out.2.2.2] at k3
                        have nn := nums_of hc hr hn.1 hn.2.1 hn.2.2.1 hn.2.2.2.1 hn.2.2.2.2.1 hn.2.2.2.2.2.1 hn.2.2.2.2.2.2
                        clear hn
                        have n1 := nn.n1
                        have n2 := nn.n2
                        have n3 := nn.n3
                        have n4 := nn.n4
                        have a1 := nn.a1
                        have a2 := nn.a2
                        have a3 := nn.a3
                        have a4 := nn.a4
                        have a5 := nn.a5
                        have b1 := nn.b1
                        have b2 := nn.b2
                        have b3 := nn.b3
                        have b4 := nn.b4
                        have b5 := nn.b5
                        have b6 := nn.b6
                        have c1 := nn.c1
                        have c2 := nn.c2
                        have c3 := nn.c3
                        repeat still_step
                        still_call (TimesR_still 2 p0 _ u0 huu.out.1 (by decide) p08)
                        repeat still_step
                        still_call (TimesR_still 3 p1 _ u1 huu.out.2 (by decide) p18)
                        repeat still_step
                        refine wpStill_nil ?_
                        clear a1 a2 a3 a4 a5 b1 b2 b3 b4 b5 b6 c1 c2 c3 k0 k1 k2 k3 n1 n2 n3 n4 x1 x2 x3
                        go_wp2_with fail
                        go_roundw
                        case rel => exact ⟨r4 + 1, congrArg (Value.int .i64) (by omega), by omega, by rw [hst.out]; exact I2.putB _ _⟩
                        case measure => simp [intOf] <;> omega
                      · obtain rfl : r4 = 4 := by omega
                        go_wp2_with fail
                        go_roundw
                        case rel => exact ⟨c4 + 1, congrArg (Value.int .i64) (by omega), by omega, by rw [show 4 * (c4 + 1) = 4 * c4 + 4 by omega]; exact J3⟩
                        case measure => simp [intOf] <;> omega
                  · obtain rfl : c4 = 4 := by omega
                    rw [show ((4 : Nat) : Int) = 4 from rfl]
                    obtain ⟨y, hy⟩ : ∃ y, mxL x fwd = y := ⟨_, rfl⟩
                    have hyl : Kp (y.length = 16) := ⟨hy ▸ mxL_len x fwd⟩
                    have hyb : Bytes y := hy ▸ mxL_bytes x fwd_bytes
                    rw [show 4 * 4 = 16 from rfl, mr_mx hxl.out hxb, hy] at J2
                    rw [hy] at hst0
                    have J4 := J2.h
                    clear J2 hy
                    go_wp2_with fail
                    have yl := hyl
                    have yb := hyb
                    go_loopw [15] (fun ii wa => ∃ i : Nat, ii = .int .i64 i ∧ i ≤ 16 ∧ HrMem w r (adS y (rdRow r (q + 1)) i) wa) (fun ii _ => 300 - (intOf ii).toNat)
                    case atStart => exact ⟨0, rfl, by omega, J4⟩
                    case round =>
                      obtain ⟨i, rfl, hi, I⟩ := hrel
                      clear J4
                      by_cases hi16 : i < 16
                      · have hiI : (i : Int) < 16 := by omega
                        obtain ⟨l2, hl2⟩ : ∃ l, adS y (rdRow r (q + 1)) i = l := ⟨_, rfl⟩
                        have hll2 : l2.length = 16 := by rw [← hl2, adS_len]; exact yl.out
                        have hlb2 : Bytes l2 := hl2 ▸ adS_bytes yb (hrow.out (q + 1) (by omega)).2 i
                        rw [hl2] at I
                        obtain ⟨p, hp⟩ : ∃ p, l2.getD i 0 = p := ⟨_, rfl⟩
                        obtain ⟨u, hu⟩ : ∃ p, ((rdRow r (q + 1))).getD i 0 = p := ⟨_, rfl⟩
                        have hst : adS y (rdRow r (q + 1)) (i + 1) = l2.set i (p ^^^ u) := by rw [← hl2, ← hp, ← hu, ← hl2]; rfl
                        have hp8 : p < 256 := hp ▸ hlb2.get i
                        have hu8 : u < 256 := hu ▸ (hrow.out (q + 1) (by omega)).2.get i
                        have hu2 : r.getD ((q + 1) * 16 + i) 0 = u := by rw [← hu, getD_row _ _ _ hi16, Nat.mul_comm 16]
                        have hxor := xor_u8 hp8 hu8
                        replace hst := Kp.mk hst
                        replace hll2 := Kp.mk hll2
                        replace hp := Kp.mk hp
                        replace hu2 := Kp.mk hu2
                        clear hl2 hu
                        go_wp2_with fail
                        have I2 := I.drew
                        clear I
                        refine wp_region_still_tail 11 (by kernel_rfl) (by kernel_rfl) ?_
                        simp only [List.take_succ_cons, List.take_zero, List.drop_succ_cons, List.drop_zero]
                        show wpStill _ _ wr.drew (fun a' => wpList _ _ _ _ _ wr.drew) _ _
                        generalize wr.drew = w2 at *
                        have k1 := I2.b.cell i (by rw [hll2.out]; exact hi16)
                        rw [hp.out] at k1
                        have k2 := I2.r.cell ((q + 1) * 16 + i) (by rw [hrl.out]; omega)
                        rw [hu2.out] at k2
                        have f1 := I2.b.frozen i
                        repeat still_step
                        refine wpStill_nil ?_
                        clear k2
                        go_wp2_with fail
                        go_roundw
                        case rel => exact ⟨i + 1, congrArg (Value.int .i64) (by omega), by omega, by rw [hst.out]; exact I2.put _ _⟩
                        case measure => simp [intOf] <;> omega
                      · obtain rfl : i = 16 := by omega
                        rw [show ((16 : Nat) : Int) = 16 from rfl]
                        have I3 : HrMem w r (hdS r b (q + 1)) wr := by rw [hst0.out]; exact I
                        clear I
                        go_wp2_with fail
                        go_roundw
                        case rel => exact ⟨q + 1, congrArg (Value.int .i64) (by omega), by omega, I3⟩
                        case measure => simp [intOf] <;> omega
              · have hq9I : ¬ (q : Int) + 1 < 10 := by omega
                rw [if_neg hq9] at hst0
                clear hq9
                have J4 := J.h
                clear J
                go_wp2_with ((with_reducible refine wpl_id ?_); first | (refine wpList_load rfl (t := 22) (x := .tmp 9) rfl rfl u1.out ?_) | (refine wpList_store rfl (t := 22) (x := .tmp 5) (y := .tmp 55) rfl rfl rfl u2.out ?_))
                clear u1 u2
                have xl := hxl
                have xb := hxb
                go_loopw [15] (fun ii wa => ∃ i : Nat, ii = .int .i64 i ∧ i ≤ 16 ∧ HrMem w r (adS x (rdRow r (q + 1)) i) wa) (fun ii _ => 300 - (intOf ii).toNat)
                case atStart => exact ⟨0, rfl, by omega, J4⟩
                case round =>
                  obtain ⟨i, rfl, hi, I⟩ := hrel
                  clear J4
                  by_cases hi16 : i < 16
                  · have hiI : (i : Int) < 16 := by omega
                    obtain ⟨l2, hl2⟩ : ∃ l, adS x (rdRow r (q + 1)) i = l := ⟨_, rfl⟩
                    have hll2 : l2.length = 16 := by rw [← hl2, adS_len]; exact xl.out
                    have hlb2 : Bytes l2 := hl2 ▸ adS_bytes xb (hrow.out (q + 1) (by omega)).2 i
                    rw [hl2] at I
                    obtain ⟨p, hp⟩ : ∃ p, l2.getD i 0 = p := ⟨_, rfl⟩
                    obtain ⟨u, hu⟩ : ∃ p, ((rdRow r (q + 1))).getD i 0 = p := ⟨_, rfl⟩
                    have hst : adS x (rdRow r (q + 1)) (i + 1) = l2.set i (p ^^^ u) := by rw [← hl2, ← hp, ← hu, ← hl2]; rfl
                    have hp8 : p < 256 := hp ▸ hlb2.get i
                    have hu8 : u < 256 := hu ▸ (hrow.out (q + 1) (by omega)).2.get i
                    have hu2 : r.getD ((q + 1) * 16 + i) 0 = u := by rw [← hu, getD_row _ _ _ hi16, Nat.mul_comm 16]
                    have hxor := xor_u8 hp8 hu8
                    replace hst := Kp.mk hst
                    replace hll2 := Kp.mk hll2
                    replace hp := Kp.mk hp
                    replace hu2 := Kp.mk hu2
                    clear hl2 hu
                    go_wp2_with fail
                    have I2 := I.drew
                    clear I
                    refine wp_region_still_tail 11 (by kernel_rfl) (by kernel_rfl) ?_
                    simp only [List.take_succ_cons, List.take_zero, List.drop_succ_cons, List.drop_zero]
                    show wpStill _ _ wr.drew (fun a' => wpList _ _ _ _ _ wr.drew) _ _
                    generalize wr.drew = w2 at *
                    have k1 := I2.b.cell i (by rw [hll2.out]; exact hi16)
                    rw [hp.out] at k1
                    have k2 := I2.r.cell ((q + 1) * 16 + i) (by rw [hrl.out]; omega)
                    rw [hu2.out] at k2
                    have f1 := I2.b.frozen i
                    repeat still_step
                    refine wpStill_nil ?_
                    clear k2
                    go_wp2_with fail
                    go_roundw
                    case rel => exact ⟨i + 1, congrArg (Value.int .i64) (by omega), by omega, by rw [hst.out]; exact I2.put _ _⟩
                    case measure => simp [intOf] <;> omega
                  · obtain rfl : i = 16 := by omega
                    rw [show ((16 : Nat) : Int) = 16 from rfl]
                    have I3 : HrMem w r (hdS r b (q + 1)) wr := by rw [hst0.out]; exact I
                    clear I
                    go_wp2_with fail
                    go_roundw
                    case rel => exact ⟨q + 1, congrArg (Value.int .i64) (by omega), by omega, I3⟩
                    case measure => simp [intOf] <;> omega
        · obtain rfl : q = 10 := by omega
          rw [hc.out] at M
          have hcl : c.length = 16 := by rw [← hc.out]; exact (ok.out 10).1
          have u1 := M.b.loadAt (P := Try.prog) Try.underlying22 (by rw [hcl]; exact size22)
          have u2 := M.z.storeAt (P := Try.prog) (ty := 22) (l' := c) (by rw [hcl]; exact size22) (by rw [hcl]; rfl)
          have Z := M.z.setRow (l' := c)
          have u3 := Z.load (P := Try.prog) Try.underlying22 (by rw [hcl]; exact size22)
          have bel := below_setRow M.bel (g := w.heap.size + 3) (by omega) (u8s c)
          replace u1 := Kp.mk u1; replace u2 := Kp.mk u2; replace u3 := Kp.mk u3
          clear M hcl
          go_wp2_with ((with_reducible refine wpl_id ?_); first | (refine wpList_load rfl (t := 22) (x := .tmp 5) rfl rfl u1.out ?_) | (refine wpList_store rfl (t := 22) (x := .tmp 6) (y := .tmp 121) rfl rfl rfl u2.out ?_))
          exact bodyPost_ret (v := .agg (u8s c)) (results_cell1 rfl _ _ _ rfl u3.out) rfl ⟨rfl, bel⟩
end Go.Proofs.Ytgdphdnghackfaa
