/- The walk of Hide (layer 4), from the call on. -/
import Derived.Test.YtgdphdnghackfaaP
namespace Go.Proofs.Ytgdphdnghackfaa
open Go.RowKit

theorem setRow_alloc_far (w : World) (g : Nat) (cs : Array Value) (o : Obj) (h : g < w.heap.size) : (w.alloc o).setRow g cs = (w.setRow g cs).alloc o := by
  have e : (w.heap.push o).modify g (fun | .cells _ t f => .cells cs t f | o => o) = (w.heap.modify g (fun | .cells _ t f => .cells cs t f | o => o)).push o := by
    apply Array.ext_getElem?
    intro i
    rw [Array.getElem?_modify, Array.getElem?_push, Array.getElem?_push, Array.getElem?_modify, Array.size_modify]
    by_cases hi : i = w.heap.size
    · subst hi; rw [if_neg (by omega), if_pos rfl, if_pos rfl]
    · rw [if_neg hi, if_neg hi]
  exact (congrArg (fun x => ({ w with heap := x } : World)) e)
set_option maxRecDepth 100000 in
set_option maxHeartbeats 1000000 in
theorem hide_to (w : World) (key b c : List Nat) (hc : hideL key b = c) (hk : key.length = 16) (hb : b.length = 16) (bk : Bytes key) (bb : Bytes b) :
    Calls Try.prog 28 #[.agg (u8s key), .agg (u8s b)] w fun e w' => e = .returned (.agg (u8s c)) ∧ Below w.heap.size w w' := by
  obtain ⟨r, hr⟩ : ∃ r, rdL key swapT = r := ⟨_, rfl⟩
  have hrl : r.length = 176 := hr ▸ rdL_len hk bk swapT_bytes
  have hrb : Bytes r := hr ▸ rdL_bytes hk bk swapT_bytes
  have hc' : hdS r b 10 = c := by rw [← hc, ← hr]; rfl
  obtain ⟨hz27, hs27⟩ := zero_of_info info52
  obtain ⟨hz31, hs31⟩ := zero_of_info info54
  have ok := hdS_ok hrb hb bb
  replace hr := Kp.mk hr
  replace hrl := Kp.mk hrl
  replace hc' := Kp.mk hc'
  replace hk := Kp.mk hk
  replace hb := Kp.mk hb
  replace ok := Kp.mk ok
  clear hc hs27 hs31
  go_enter Try.func28, Try.ntmps28
  go_wp2_with fail
  refine (swaps_to _ swapT backT there_is back_is).mono ?_
  rintro _ w1 ⟨rfl, hb1⟩
  have u1 : (Instr.storeAt 52 (.pointer (some ⟨w1.heap.size, 0, none⟩)) (.agg (u8s swapT))).run Try.prog ((w1.alloc (.cells Z52 52)).alloc (.cells Z52 52)) = .ok () ((w1.alloc (.cells (u8s swapT) 52)).alloc (.cells Z52 52)) := by
    have B5 : Arr ((w1.alloc (.cells Z52 52)).alloc (.cells Z52 52)) w1.heap.size 52 (List.replicate 256 0) := (Box.new w1 52 Z52).alloc _
    have := B5.storeAt (P := Try.prog) (ty := 52) (l' := swapT) (by rw [swapT_len]; exact size52) (by rw [swapT_len]; simp)
    rw [setRow_alloc_far _ _ _ _ (by simp), World.setRow_alloc_new] at this; exact this
  have u2 : (Instr.storeAt 52 (.pointer (some ⟨w1.heap.size + 1, 0, none⟩)) (.agg (u8s backT))).run Try.prog ((w1.alloc (.cells (u8s swapT) 52)).alloc (.cells Z52 52)) = .ok () ((w1.alloc (.cells (u8s swapT) 52)).alloc (.cells (u8s backT) 52)) := by
    have B5 := Box.new (w1.alloc (.cells (u8s swapT) 52)) 52 Z52
    have := Arr.storeAt (l := List.replicate 256 0) B5 (P := Try.prog) (ty := 52) (l' := backT) (by rw [backT_len]; exact size52) (by rw [backT_len]; simp)
    rw [World.setRow_alloc_new, World.size_alloc] at this; exact this
  have u3 : (Instr.loadAt 22 (.pointer (some ⟨w.heap.size, 0, none⟩))).run Try.prog ((w1.alloc (.cells (u8s swapT) 52)).alloc (.cells (u8s backT) 52)) = .ok (.agg (u8s key)) ((w1.alloc (.cells (u8s swapT) 52)).alloc (.cells (u8s backT) 52)) := by
    have A0 : Arr w1 w.heap.size 22 key := Arr.keep (((Box.new w 22 (u8s key)).alloc (.cells (u8s b) 22)).alloc (.cells (u8s (List.replicate 16 0)) 22)) hb1 (by simp; omega)
    exact ((A0.alloc _).alloc _).loadAt Try.underlying22 (by rw [hk.out]; exact size22)
  have T0 : Arr ((w1.alloc (.cells (u8s swapT) 52)).alloc (.cells (u8s backT) 52)) w1.heap.size 52 swapT := (Box.new w1 52 (u8s swapT)).alloc _
  replace u1 := Kp.mk u1; replace u2 := Kp.mk u2; replace u3 := Kp.mk u3
  go_wp2_with ((with_reducible refine wpl_id ?_); first | (refine wpList_store rfl (t := 52) (x := .tmp 5) (y := .tmp 11) rfl rfl rfl u1.out ?_) | (refine wpList_store rfl (t := 52) (x := .tmp 6) (y := .tmp 12) rfl rfl rfl u2.out ?_) | (refine wpList_load rfl (t := 22) (x := .tmp 2) rfl rfl u3.out ?_))
  refine (rounds_to _ _ key swapT r hr.out hk.out swapT_len bk swapT_bytes T0 (rdSt_ok hk.out bk swapT_bytes)).mono ?_
  rintro _ w2 ⟨rfl, hb2⟩
  have M0 := HMem.first (r := r) hb1 hb2
  have u4 : (Instr.storeAt 54 (.pointer (some ⟨w2.heap.size, 0, none⟩)) (.agg (u8s r))).run Try.prog (w2.alloc (.cells Z54 54)) = .ok () (w2.alloc (.cells (u8s r) 54)) := by
    have B5 := Box.new w2 54 Z54
    have := Arr.storeAt (l := List.replicate 176 0) B5 (P := Try.prog) (ty := 54) (l' := r) (by rw [hrl.out]; exact size54) (by rw [hrl.out]; simp)
    rw [World.setRow_alloc_new] at this; exact this
  have u5 := M0.b.loadAt (P := Try.prog) Try.underlying22 (by rw [hb.out]; exact size22)
  have u6 := M0.r.loadSub (P := Try.prog) (off := 0) (n := 16) (by rw [hrl.out]; omega) Try.underlying22 size22
  have e6 : (r.drop 0).take 16 = rdRow r 0 := rfl
  rw [e6] at u6
  replace u4 := Kp.mk u4; replace u5 := Kp.mk u5; replace u6 := Kp.mk u6
  clear u1 u2 u3 T0 hz27 hb1 hb2
  go_wp2_with ((with_reducible refine wpl_id ?_); first | (refine wpList_store rfl (t := 54) (x := .tmp 7) (y := .tmp 14) rfl rfl rfl u4.out ?_) | (refine wpList_load rfl (t := 22) (x := .tmp 3) rfl rfl u5.out ?_) | (refine wpList_load rfl (t := 22) (x := .tmp 16) rfl rfl u6.out ?_))
  refine (add_to _ b (rdRow r 0) (hdS r b 0) rfl hb.out (rdRow_len hrl.out (by decide)) bb (rdRow_bytes hrb 0)).mono ?_
  rintro _ w3 ⟨rfl, hb3⟩
  have M1 := M0.keep hb3
  have u7 := M1.b.storeAt (P := Try.prog) (ty := 22) (l' := hdS r b 0) (by rw [(ok.out 0).1]; exact size22) (by rw [(ok.out 0).1, hb.out])
  have M2 := M1.put (b' := hdS r b 0)
  generalize w3.setRow (w.heap.size + 1) (u8s (hdS r b 0)) = w4 at *
  generalize w1.heap.size = g5 at *
  generalize g5 + 1 = g6 at *
  generalize w2.heap.size = g7 at *
  replace u7 := Kp.mk u7
  clear u4 u5 u6 e6 M0 hb3 M1 hz31
  go_wp2_with ((with_reducible refine wpl_id ?_); first | (refine wpList_store rfl (t := 22) (x := .tmp 3) (y := .tmp 18) rfl rfl rfl u7.out ?_))
  clear u7
  go_loopw [8] (fun ii wr => ∃ q : Nat, ii = .int .i64 ((q : Int) + 1) ∧ q ≤ 10 ∧ HMem w g5 g6 g7 key (hdS r b q) r wr) (fun ii _ => 300 - (intOf ii).toNat)
  case atStart => exact ⟨0, rfl, by omega, M2⟩
  case round =>
    obtain ⟨q, rfl, hq, M⟩ := hrel
    clear M2
    by_cases hq4 : q < 10
    · have hq' : (q : Int) + 1 < 11 := by omega
      have q6 : (0 : Int) ≤ (q : Int) + 1 := by omega
      obtain ⟨l, hl⟩ : ∃ l, hdS r b q = l := ⟨_, rfl⟩
      have hll := (ok.out q).1
      have hlb := (ok.out q).2
      rw [hl] at M hll hlb
      obtain ⟨x, hx⟩ : ∃ x, mvL 1 l swapT = x := ⟨_, rfl⟩
      have hxl : x.length = 16 := hx ▸ mvL_len 1 l swapT
      have hxb : Bytes x := hx ▸ mvL_bytes 1 l swapT_bytes
      obtain ⟨rw_, hrw⟩ : ∃ x, rdRow r (q + 1) = x := ⟨_, rfl⟩
      have hrwl : rw_.length = 16 := hrw ▸ rdRow_len hrl.out (by omega)
      have hrwb : Bytes rw_ := hrw ▸ rdRow_bytes hrb _
      have hst : hdS r b (q + 1) = addL (if q + 1 < 10 then mxL x fwd else x) rw_ := by rw [← hrw, ← hx, ← hl]; rfl
      have v1 := M.b.loadAt (P := Try.prog) Try.underlying22 (by rw [hll]; exact size22)
      replace hst := Kp.mk hst
      replace v1 := Kp.mk v1
      replace hll := Kp.mk hll
      replace hxl := Kp.mk hxl
      replace hrwl := Kp.mk hrwl
      replace hx := Kp.mk hx
      replace hrw := Kp.mk hrw
      clear hl
      go_wp2_with ((with_reducible refine wpl_id ?_); (refine wpList_load rfl (t := 22) (x := .tmp 3) rfl rfl v1.out ?_))
      refine (move_1 _ g5 l swapT x hx.out hll.out swapT_len hlb swapT_bytes M.t).mono ?_
      rintro _ w5 ⟨rfl, hb5⟩
      have M3 := M.keep hb5
      have v2 := M3.b.storeAt (P := Try.prog) (ty := 22) (l' := x) (by rw [hxl.out]; exact size22) (by rw [hxl.out, hll.out])
      have M4 := M3.put (b' := x)
      generalize w5.setRow (w.heap.size + 1) (u8s x) = w6 at *
      replace v2 := Kp.mk v2
      clear v1 hb5 M3 M
      have v5 := M4.b.loadAt (P := Try.prog) Try.underlying22 (by rw [hxl.out]; exact size22)
      replace v5 := Kp.mk v5
      by_cases hq9 : q + 1 < 10
      · have hq9' : (q : Int) + 1 < 10 := by omega
        obtain ⟨y, hy⟩ : ∃ y, mxL x fwd = y := ⟨_, rfl⟩
        have hyl : y.length = 16 := hy ▸ mxL_len x fwd
        have hyb : Bytes y := hy ▸ mxL_bytes x fwd_bytes
        obtain ⟨z, hz⟩ : ∃ z, addL y rw_ = z := ⟨_, rfl⟩
        have hzl : z.length = 16 := hz ▸ addL_len _ hyl
        have hst2 : hdS r b (q + 1) = z := by rw [hst.out, if_pos hq9, hy, hz]
        replace hst2 := Kp.mk hst2
        replace hy := Kp.mk hy
        replace hyl := Kp.mk hyl
        replace hz := Kp.mk hz
        replace hzl := Kp.mk hzl
        clear hst
        go_wp2_with ((with_reducible refine wpl_id ?_); first | (refine wpList_store rfl (t := 22) (x := .tmp 3) (y := .tmp 24) rfl rfl rfl v2.out ?_) | (refine wpList_load rfl (t := 22) (x := .tmp 3) rfl rfl v5.out ?_))
        refine (mix_to _ x fwd y hy.out hxl.out rfl hxb fwd_bytes).mono ?_
        rintro _ w7 ⟨rfl, hb7⟩
        have M5 := M4.keep hb7
        have v3 := M5.b.storeAt (P := Try.prog) (ty := 22) (l' := y) (by rw [hyl.out]; exact size22) (by rw [hyl.out, hxl.out])
        have M6 := M5.put (b' := y)
        generalize w7.setRow (w.heap.size + 1) (u8s y) = w8 at *
        replace v3 := Kp.mk v3
        clear v2 v5 hb7 M4 M5
        go_wp2_with ((with_reducible refine wpl_id ?_); (refine wpList_store rfl (t := 22) (x := .tmp 3) (y := .tmp 29) rfl rfl rfl v3.out ?_))
        have M7 := M6.drew
        have v6 := M7.b.loadAt (P := Try.prog) Try.underlying22 (by rw [hyl.out]; exact size22)
        have v7 := M7.r.loadSub (P := Try.prog) (off := (q + 1) * 16) (n := 16) (by rw [hrl.out]; omega) Try.underlying22 size22
        have e7 : (r.drop ((q + 1) * 16)).take 16 = rw_ := by rw [← hrw.out, Nat.mul_comm]; rfl
        rw [e7] at v7
        replace v6 := Kp.mk v6
        replace v7 := Kp.mk v7
        clear e7 M6
        refine wp_region_still_tail 4 (by kernel_rfl) (by kernel_rfl) ?_
        simp only [List.take_succ_cons, List.take_zero, List.drop_succ_cons, List.drop_zero]
        refine wpStill_step (fun K hK => ?_)
        rw [if_pos (by rfl)]
        refine still_load rfl (x := .tmp 3) rfl v6.out (hK _ ?_)
        clear hK K
        still_step
        still_step
        refine wpStill_step (fun K hK => ?_)
        rw [if_pos (by rfl)]
        refine still_load rfl (x := .tmp 32) rfl v7.out (hK _ ?_)
        clear hK K
        refine wpStill_nil ?_
        clear v6 v7
        show wpList _ _ _ _ _ w8.drew
        generalize w8.drew = w9 at *
        go_wp2_with fail
        refine (add_to _ y rw_ z hz.out hyl.out hrwl.out hyb hrwb).mono ?_
        rintro _ w10 ⟨rfl, hb10⟩
        have M8 := M7.keep hb10
        have v8 := M8.b.storeAt (P := Try.prog) (ty := 22) (l' := z) (by rw [hzl.out]; exact size22) (by rw [hzl.out, hyl.out])
        have M9 := M8.put (b' := z)
        generalize w10.setRow (w.heap.size + 1) (u8s z) = w11 at *
        replace v8 := Kp.mk v8
        clear hb10 M7 M8
        go_wp2_with ((with_reducible refine wpl_id ?_); (refine wpList_store rfl (t := 22) (x := .tmp 3) (y := .tmp 34) rfl rfl rfl v8.out ?_))
        clear v8
        go_roundw
        case rel => exact ⟨q + 1, congrArg (Value.int .i64) (by omega), by omega, by rw [hst2.out]; exact M9⟩
        case measure => simp [intOf] <;> omega
      · have hq9' : ¬ (q : Int) + 1 < 10 := by omega
        obtain ⟨z, hz⟩ : ∃ z, addL x rw_ = z := ⟨_, rfl⟩
        have hzl : z.length = 16 := hz ▸ addL_len _ hxl.out
        have hst2 : hdS r b (q + 1) = z := by rw [hst.out, if_neg hq9, hz]
        replace hst2 := Kp.mk hst2
        replace hz := Kp.mk hz
        replace hzl := Kp.mk hzl
        clear hst v5
        go_wp2_with ((with_reducible refine wpl_id ?_); (refine wpList_store rfl (t := 22) (x := .tmp 3) (y := .tmp 24) rfl rfl rfl v2.out ?_))
        clear v2
        have M7 := M4.drew
        have v6 := M7.b.loadAt (P := Try.prog) Try.underlying22 (by rw [hxl.out]; exact size22)
        have v7 := M7.r.loadSub (P := Try.prog) (off := (q + 1) * 16) (n := 16) (by rw [hrl.out]; omega) Try.underlying22 size22
        have e7 : (r.drop ((q + 1) * 16)).take 16 = rw_ := by rw [← hrw.out, Nat.mul_comm]; rfl
        rw [e7] at v7
        replace v6 := Kp.mk v6
        replace v7 := Kp.mk v7
        clear e7 M4
        refine wp_region_still_tail 4 (by kernel_rfl) (by kernel_rfl) ?_
        simp only [List.take_succ_cons, List.take_zero, List.drop_succ_cons, List.drop_zero]
        refine wpStill_step (fun K hK => ?_)
        rw [if_pos (by rfl)]
        refine still_load rfl (x := .tmp 3) rfl v6.out (hK _ ?_)
        clear hK K
        still_step
        still_step
        refine wpStill_step (fun K hK => ?_)
        rw [if_pos (by rfl)]
        refine still_load rfl (x := .tmp 32) rfl v7.out (hK _ ?_)
        clear hK K
        refine wpStill_nil ?_
        clear v6 v7
        show wpList _ _ _ _ _ w6.drew
        generalize w6.drew = w9 at *
        go_wp2_with fail
        refine (add_to _ x rw_ z hz.out hxl.out hrwl.out hxb hrwb).mono ?_
        rintro _ w10 ⟨rfl, hb10⟩
        have M8 := M7.keep hb10
        have v8 := M8.b.storeAt (P := Try.prog) (ty := 22) (l' := z) (by rw [hzl.out]; exact size22) (by rw [hzl.out, hxl.out])
        have M9 := M8.put (b' := z)
        generalize w10.setRow (w.heap.size + 1) (u8s z) = w11 at *
        replace v8 := Kp.mk v8
        clear hb10 M7 M8
        go_wp2_with ((with_reducible refine wpl_id ?_); (refine wpList_store rfl (t := 22) (x := .tmp 3) (y := .tmp 34) rfl rfl rfl v8.out ?_))
        clear v8
        go_roundw
        case rel => exact ⟨q + 1, congrArg (Value.int .i64) (by omega), by omega, by rw [hst2.out]; exact M9⟩
        case measure => simp [intOf] <;> omega
    · obtain rfl : q = 10 := by omega
      rw [hc'.out] at M
      have hcl : c.length = 16 := hc'.out ▸ (ok.out 10).1
      have v1 := M.b.loadAt (P := Try.prog) Try.underlying22 (by rw [hcl]; exact size22)
      have v2 := M.z.storeAt (P := Try.prog) (ty := 22) (l' := c) (by rw [hcl]; exact size22) (by rw [hcl]; rfl)
      have Z := M.z.setRow (l' := c)
      have v3 := Z.load (P := Try.prog) Try.underlying22 (by rw [hcl]; exact size22)
      have bel := below_setRow M.bel (g := w.heap.size + 2) (by omega) (u8s c)
      replace v1 := Kp.mk v1; replace v2 := Kp.mk v2; replace v3 := Kp.mk v3
      replace hcl := Kp.mk hcl
      clear M
      go_wp2_with ((with_reducible refine wpl_id ?_); first | (refine wpList_load rfl (t := 22) (x := .tmp 3) rfl rfl v1.out ?_) | (refine wpList_store rfl (t := 22) (x := .tmp 4) (y := .tmp 35) rfl rfl rfl v2.out ?_))
      exact bodyPost_ret (v := .agg (u8s c)) (results_cell1 rfl _ _ _ rfl v3.out) rfl ⟨rfl, bel⟩
end Go.Proofs.Ytgdphdnghackfaa
