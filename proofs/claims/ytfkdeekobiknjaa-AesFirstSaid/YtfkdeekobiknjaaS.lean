/- The walk of Show (layer 4): what it makes of any key and any block. -/
import Derived.Test.YtfkdeekobiknjaaQ
namespace Go.Proofs.Ytfkdeekobiknjaa
open Go.RowKit

/-- A block on its way back, round by round; r: the key's rounds. -/
def shS (r b : List Nat) : Nat → List Nat
  | 0 => b
  | n + 1 => mvL 3 (if 10 - n < 10 then mxL (addL (shS r b n) (rdRow r (10 - n))) rev else addL (shS r b n) (rdRow r (10 - n))) backT
def showL (key b : List Nat) : List Nat := addL (shS (rdL key swapT) b 10) (rdRow (rdL key swapT) 0)
theorem shS_ok (r : List Nat) {b : List Nat} (hb : b.length = 16) (bb : Bytes b) (n : Nat) : (shS r b n).length = 16 ∧ Bytes (shS r b n) := by
  cases n with
  | zero => exact ⟨hb, bb⟩
  | succ n => exact ⟨mvL_len _ _ _, mvL_bytes _ _ backT_bytes⟩
set_option maxRecDepth 100000 in
set_option maxHeartbeats 1000000 in
theorem show_to (w : World) (key b c : List Nat) (hc : showL key b = c) (hk : key.length = 16) (hb : b.length = 16) (bk : Bytes key) (bb : Bytes b) :
    Calls Try.prog 23 #[.agg (u8s key), .agg (u8s b)] w fun e w' => e = .returned (.agg (u8s c)) ∧ Below w.heap.size w w' := by
  obtain ⟨r, hr⟩ : ∃ r, rdL key swapT = r := ⟨_, rfl⟩
  have hrl : r.length = 176 := hr ▸ rdL_len hk bk swapT_bytes
  have hrb : Bytes r := hr ▸ rdL_bytes hk bk swapT_bytes
  have hc' : addL (shS r b 10) (rdRow r 0) = c := by rw [← hc, ← hr]; rfl
  obtain ⟨hz27, hs27⟩ := zero_of_info info27
  obtain ⟨hz31, hs31⟩ := zero_of_info info31
  have ok := shS_ok r hb bb
  replace hr := Kp.mk hr
  replace hrl := Kp.mk hrl
  replace hc' := Kp.mk hc'
  replace hk := Kp.mk hk
  replace hb := Kp.mk hb
  replace ok := Kp.mk ok
  clear hc hs27 hs31
  go_enter Try.func23, Try.ntmps23
  go_wp2_with fail
  refine (swaps_to _ swapT backT there_is back_is).mono ?_
  rintro _ w1 ⟨rfl, hb1⟩
  have u1 : (Instr.storeAt 27 (.pointer (some ⟨w1.heap.size, 0, none⟩)) (.agg (u8s swapT))).run Try.prog ((w1.alloc (.cells Z27 27)).alloc (.cells Z27 27)) = .ok () ((w1.alloc (.cells (u8s swapT) 27)).alloc (.cells Z27 27)) := by
    have B5 : Arr ((w1.alloc (.cells Z27 27)).alloc (.cells Z27 27)) w1.heap.size 27 (List.replicate 256 0) := (Box.new w1 27 Z27).alloc _
    have := B5.storeAt (P := Try.prog) (ty := 27) (l' := swapT) (by rw [swapT_len]; exact size27) (by rw [swapT_len]; simp)
    rw [setRow_alloc_far _ _ _ _ (by simp), World.setRow_alloc_new] at this; exact this
  have u2 : (Instr.storeAt 27 (.pointer (some ⟨w1.heap.size + 1, 0, none⟩)) (.agg (u8s backT))).run Try.prog ((w1.alloc (.cells (u8s swapT) 27)).alloc (.cells Z27 27)) = .ok () ((w1.alloc (.cells (u8s swapT) 27)).alloc (.cells (u8s backT) 27)) := by
    have B5 := Box.new (w1.alloc (.cells (u8s swapT) 27)) 27 Z27
    have := Arr.storeAt (l := List.replicate 256 0) B5 (P := Try.prog) (ty := 27) (l' := backT) (by rw [backT_len]; exact size27) (by rw [backT_len]; simp)
    rw [World.setRow_alloc_new, World.size_alloc] at this; exact this
  have u3 : (Instr.loadAt 26 (.pointer (some ⟨w.heap.size, 0, none⟩))).run Try.prog ((w1.alloc (.cells (u8s swapT) 27)).alloc (.cells (u8s backT) 27)) = .ok (.agg (u8s key)) ((w1.alloc (.cells (u8s swapT) 27)).alloc (.cells (u8s backT) 27)) := by
    have A0 : Arr w1 w.heap.size 26 key := Arr.keep (((Box.new w 26 (u8s key)).alloc (.cells (u8s b) 26)).alloc (.cells (u8s (List.replicate 16 0)) 26)) hb1 (by simp; omega)
    exact ((A0.alloc _).alloc _).loadAt Try.underlying26 (by rw [hk.out]; exact size26)
  have T0 : Arr ((w1.alloc (.cells (u8s swapT) 27)).alloc (.cells (u8s backT) 27)) w1.heap.size 27 swapT := (Box.new w1 27 (u8s swapT)).alloc _
  replace u1 := Kp.mk u1; replace u2 := Kp.mk u2; replace u3 := Kp.mk u3
  go_wp2_with ((with_reducible refine wpl_id ?_); first | (refine wpList_store rfl (t := 27) (x := .tmp 5) (y := .tmp 11) rfl rfl rfl u1.out ?_) | (refine wpList_store rfl (t := 27) (x := .tmp 6) (y := .tmp 12) rfl rfl rfl u2.out ?_) | (refine wpList_load rfl (t := 26) (x := .tmp 2) rfl rfl u3.out ?_))
  refine (rounds_to _ _ key swapT r hr.out hk.out swapT_len bk swapT_bytes T0 (rdSt_ok hk.out bk swapT_bytes)).mono ?_
  rintro _ w2 ⟨rfl, hb2⟩
  have M0 := HMem.first (r := r) hb1 hb2
  have u4 : (Instr.storeAt 31 (.pointer (some ⟨w2.heap.size, 0, none⟩)) (.agg (u8s r))).run Try.prog (w2.alloc (.cells Z31 31)) = .ok () (w2.alloc (.cells (u8s r) 31)) := by
    have B5 := Box.new w2 31 Z31
    have := Arr.storeAt (l := List.replicate 176 0) B5 (P := Try.prog) (ty := 31) (l' := r) (by rw [hrl.out]; exact size31) (by rw [hrl.out]; simp)
    rw [World.setRow_alloc_new] at this; exact this
  replace u4 := Kp.mk u4
  clear u1 u2 u3 T0 hz27 hb1 hb2
  go_wp2_with ((with_reducible refine wpl_id ?_); (refine wpList_store rfl (t := 31) (x := .tmp 7) (y := .tmp 14) rfl rfl rfl u4.out ?_))
  clear u4
  generalize w2.alloc (.cells (u8s r) 31) = w4 at *
  generalize w2.heap.size = g7 at *
  generalize w1.heap.size = g5 at *
  generalize g5 + 1 = g6 at *
  go_loopw [8] (fun ii wr => ∃ i n : Nat, ii = .int .i64 i ∧ i + n = 10 ∧ HMem w g5 g6 g7 key (shS r b n) r wr) (fun ii _ => (intOf ii).toNat)
  case atStart => exact ⟨10, 0, rfl, rfl, M0⟩
  case round =>
    obtain ⟨i, n, rfl, hin, M⟩ := hrel
    clear M0
    have hi11 : (i : Int) < 11 := by omega
    obtain ⟨l, hl⟩ : ∃ l, shS r b n = l := ⟨_, rfl⟩
    have hll := (ok.out n).1
    have hlb := (ok.out n).2
    rw [hl] at M hll hlb
    obtain ⟨rw_, hrw⟩ : ∃ x, rdRow r i = x := ⟨_, rfl⟩
    have hrwl : rw_.length = 16 := hrw ▸ rdRow_len hrl.out (by omega)
    have hrwb : Bytes rw_ := hrw ▸ rdRow_bytes hrb _
    obtain ⟨x, hx⟩ : ∃ x, addL l rw_ = x := ⟨_, rfl⟩
    have hxl : x.length = 16 := hx ▸ addL_len _ hll
    have hxb : Bytes x := hx ▸ addL_bytes hlb hrwb
    replace hll := Kp.mk hll
    replace hxl := Kp.mk hxl
    replace hrwl := Kp.mk hrwl
    replace hrw := Kp.mk hrw
    by_cases hi0 : 0 < i
    · have hi0' : (0 : Int) < (i : Int) := by omega
      have hst : Kp (shS r b (n + 1) = mvL 3 (if i < 10 then mxL x rev else x) backT) := ⟨by
        show mvL 3 (if 10 - n < 10 then mxL (addL (shS r b n) (rdRow r (10 - n))) rev else addL (shS r b n) (rdRow r (10 - n))) backT = _
        rw [show 10 - n = i by omega, hl, hrw.out, hx]⟩
      replace hin := Kp.mk hin
      replace hx := Kp.mk hx
      clear hl
      go_wp2_with fail
      have M7 := M.drew
      have v6 := M7.b.loadAt (P := Try.prog) Try.underlying26 (by rw [hll.out]; exact size26)
      have v7 := M7.r.loadSub (P := Try.prog) (off := i * 16) (n := 16) (by rw [hrl.out]; omega) Try.underlying26 size26
      have e7 : (r.drop (i * 16)).take 16 = rw_ := by rw [← hrw.out, Nat.mul_comm]; rfl
      rw [e7] at v7
      replace v6 := Kp.mk v6
      replace v7 := Kp.mk v7
      clear e7 M
      refine wp_region_still_tail 4 (by kernel_rfl) (by kernel_rfl) ?_
      simp only [List.take_succ_cons, List.take_zero, List.drop_succ_cons, List.drop_zero]
      refine wpStill_step (fun K hK => ?_)
      rw [if_pos (by rfl)]
      refine still_load rfl (x := .tmp 3) rfl v6.out (hK _ ?_)
      clear hK K
      still_step
      still_step
      refine wpStill_step (fun K hK => ?_)
      rw [if_pos (by rfl)]
      refine still_load rfl (x := .tmp 21) rfl v7.out (hK _ ?_)
      clear hK K
      refine wpStill_nil ?_
      clear v6 v7
      show wpList _ _ _ _ _ wr.drew
      generalize wr.drew = w9 at *
      go_wp2_with fail
      refine (add_to _ l rw_ x hx.out hll.out hrwl.out hlb hrwb).mono ?_
      rintro _ w10 ⟨rfl, hb10⟩
      have M8 := M7.keep hb10
      have v8 := M8.b.storeAt (P := Try.prog) (ty := 26) (l' := x) (by rw [hxl.out]; exact size26) (by rw [hxl.out, hll.out])
      have M9 := M8.put (b' := x)
      generalize w10.setRow (w.heap.size + 1) (u8s x) = w11 at *
      replace v8 := Kp.mk v8
      clear hb10 M7 M8
      by_cases hi10 : i < 10
      · have hi10' : (i : Int) < 10 := by omega
        rw [if_pos hi10] at hst
        obtain ⟨y, hy⟩ : ∃ y, mxL x rev = y := ⟨_, rfl⟩
        have hyl : Kp (y.length = 16) := ⟨hy ▸ mxL_len x rev⟩
        have hyb : Bytes y := hy ▸ mxL_bytes x rev_bytes
        rw [hy] at hst
        replace hy := Kp.mk hy
        have v5 := M9.b.loadAt (P := Try.prog) Try.underlying26 (by rw [hxl.out]; exact size26)
        replace v5 := Kp.mk v5
        go_wp2_with ((with_reducible refine wpl_id ?_); first | (refine wpList_store rfl (t := 26) (x := .tmp 3) (y := .tmp 23) rfl rfl rfl v8.out ?_) | (refine wpList_load rfl (t := 26) (x := .tmp 3) rfl rfl v5.out ?_))
        refine (mix_to _ x rev y hy.out hxl.out rfl hxb rev_bytes).mono ?_
        rintro _ w12 ⟨rfl, hb12⟩
        have M2 := M9.keep hb12
        have v1 := M2.b.storeAt (P := Try.prog) (ty := 26) (l' := y) (by rw [hyl.out]; exact size26) (by rw [hyl.out, hxl.out])
        have M3 := M2.put (b' := y)
        generalize w12.setRow (w.heap.size + 1) (u8s y) = w13 at *
        replace v1 := Kp.mk v1
        clear v8 v5 hb12 M9 M2
        obtain ⟨z, hz⟩ : ∃ z, mvL 3 y backT = z := ⟨_, rfl⟩
        have hzl : Kp (z.length = 16) := ⟨hz ▸ mvL_len 3 y backT⟩
        replace hz := Kp.mk hz
        have v3 := M3.b.loadAt (P := Try.prog) Try.underlying26 (by rw [hyl.out]; exact size26)
        replace v3 := Kp.mk v3
        go_wp2_with ((with_reducible refine wpl_id ?_); first | (refine wpList_store rfl (t := 26) (x := .tmp 3) (y := .tmp 28) rfl rfl rfl v1.out ?_) | (refine wpList_load rfl (t := 26) (x := .tmp 3) rfl rfl v3.out ?_))
        refine (move_3 _ g6 y backT z hz.out hyl.out backT_len hyb backT_bytes M3.s).mono ?_
        rintro _ w14 ⟨rfl, hb14⟩
        have M5 := M3.keep hb14
        have v4 := M5.b.storeAt (P := Try.prog) (ty := 26) (l' := z) (by rw [hzl.out]; exact size26) (by rw [hzl.out, hyl.out])
        have M6 := M5.put (b' := z)
        generalize w14.setRow (w.heap.size + 1) (u8s z) = w15 at *
        replace v4 := Kp.mk v4
        clear v3 hb14 M5 M3
        go_wp2_with ((with_reducible refine wpl_id ?_); (refine wpList_store rfl (t := 26) (x := .tmp 3) (y := .tmp 30) rfl rfl rfl v4.out ?_))
        clear v4
        have hin2 := hin.out
        go_roundw
        case rel => exact ⟨i - 1, n + 1, congrArg (Value.int .i64) (by omega), by omega, by rw [hst.out, hz.out]; exact M6⟩
        case measure => simp [intOf] <;> omega
      · have hi10' : ¬ (i : Int) < 10 := by omega
        rw [if_neg hi10] at hst
        obtain ⟨z, hz⟩ : ∃ z, mvL 3 x backT = z := ⟨_, rfl⟩
        have hzl : Kp (z.length = 16) := ⟨hz ▸ mvL_len 3 x backT⟩
        replace hz := Kp.mk hz
        have v3 := M9.b.loadAt (P := Try.prog) Try.underlying26 (by rw [hxl.out]; exact size26)
        replace v3 := Kp.mk v3
        go_wp2_with ((with_reducible refine wpl_id ?_); first | (refine wpList_store rfl (t := 26) (x := .tmp 3) (y := .tmp 23) rfl rfl rfl v8.out ?_) | (refine wpList_load rfl (t := 26) (x := .tmp 3) rfl rfl v3.out ?_))
        refine (move_3 _ g6 x backT z hz.out hxl.out backT_len hxb backT_bytes M9.s).mono ?_
        rintro _ w14 ⟨rfl, hb14⟩
        have M5 := M9.keep hb14
        have v4 := M5.b.storeAt (P := Try.prog) (ty := 26) (l' := z) (by rw [hzl.out]; exact size26) (by rw [hzl.out, hxl.out])
        have M6 := M5.put (b' := z)
        generalize w14.setRow (w.heap.size + 1) (u8s z) = w15 at *
        replace v4 := Kp.mk v4
        clear v3 hb14 M5 M9
        go_wp2_with ((with_reducible refine wpl_id ?_); (refine wpList_store rfl (t := 26) (x := .tmp 3) (y := .tmp 30) rfl rfl rfl v4.out ?_))
        clear v4
        have hin2 := hin.out
        go_roundw
        case rel => exact ⟨i - 1, n + 1, congrArg (Value.int .i64) (by omega), by omega, by rw [hst.out, hz.out]; exact M6⟩
        case measure => simp [intOf] <;> omega
    · obtain rfl : i = 0 := by omega
      obtain rfl : n = 10 := by omega
      have hxc : x = c := by rw [← hx, ← hc'.out, ← hrw.out, ← hl]
      replace hx := Kp.mk hx
      have v6 := M.b.loadAt (P := Try.prog) Try.underlying26 (by rw [hll.out]; exact size26)
      have v7 := M.r.loadSub (P := Try.prog) (off := 0) (n := 16) (by rw [hrl.out]; omega) Try.underlying26 size26
      have e7 : (r.drop 0).take 16 = rw_ := by rw [← hrw.out]; rfl
      rw [e7] at v7
      replace v6 := Kp.mk v6
      replace v7 := Kp.mk v7
      subst hxc
      clear e7 hl
      go_wp2_with ((with_reducible refine wpl_id ?_); first | (refine wpList_load rfl (t := 26) (x := .tmp 3) rfl rfl v6.out ?_) | (refine wpList_load rfl (t := 26) (x := .tmp 32) rfl rfl v7.out ?_))
      refine (add_to _ l rw_ x hx.out hll.out hrwl.out hlb hrwb).mono ?_
      rintro _ w10 ⟨rfl, hb10⟩
      have M8 := M.keep hb10
      have v2 := M8.z.storeAt (P := Try.prog) (ty := 26) (l' := x) (by rw [hxl.out]; exact size26) (by rw [hxl.out]; rfl)
      have Z := M8.z.setRow (l' := x)
      have v3 := Z.load (P := Try.prog) Try.underlying26 (by rw [hxl.out]; exact size26)
      have bel := below_setRow M8.bel (g := w.heap.size + 2) (by omega) (u8s x)
      replace v2 := Kp.mk v2; replace v3 := Kp.mk v3
      clear M M8 hb10 v6 v7
      go_wp2_with ((with_reducible refine wpl_id ?_); (refine wpList_store rfl (t := 26) (x := .tmp 4) (y := .tmp 34) rfl rfl rfl v2.out ?_))
      exact bodyPost_ret (v := .agg (u8s x)) (results_cell1 rfl _ _ _ rfl v3.out) rfl ⟨rfl, bel⟩
end Go.Proofs.Ytfkdeekobiknjaa
