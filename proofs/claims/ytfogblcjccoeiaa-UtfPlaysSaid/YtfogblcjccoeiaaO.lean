/- The walks of the document's reading (layer 10): size, any. -/
import Derived.Test.YtfogblcjccoeiaaN
import Derived.Test.YtfogblcjccoeiaaK
namespace Go.Proofs.Ytfogblcjccoeiaa
open Go.RowKit

set_option maxRecDepth 100000 in
set_option maxHeartbeats 4000000 in
theorem size_to (x : Nat) (w : World) (n : Nat) (hn : sizeN x = n) : Calls Try.prog 27 #[.int .u8 x] w fun e w' => e = .returned (.int .i64 n) ∧ w = w' := by
  by_cases h1 : x < 128
  · obtain rfl : 1 = n := by rw [← hn]; exact (if_pos h1).symm
    have e1 : (x : Int) < 128 := by omega
    go_enter Try.func27, Try.ntmps27
    go_wp2_with fail
    exact bodyPost_ret (v := .int .i64 1) (by simp [results, Try.results27, go_sem]) rfl ⟨rfl, rfl⟩
  have e1 : ¬ (x : Int) < 128 := by omega
  by_cases h2 : x < 192
  · obtain rfl : 0 = n := by rw [← hn]; unfold sizeN; rw [if_neg h1, if_neg (by omega), if_neg (by omega), if_neg (by omega)]
    have e2 : ¬ 192 ≤ (x : Int) := by omega
    have e3 : ¬ 224 ≤ (x : Int) := by omega
    have e4 : ¬ 240 ≤ (x : Int) := by omega
    go_enter Try.func27, Try.ntmps27
    go_wp2_with fail
    exact bodyPost_ret (v := .int .i64 0) (by simp [results, Try.results27, go_sem]) rfl ⟨rfl, rfl⟩
  have e2 : 192 ≤ (x : Int) := by omega
  by_cases h3 : x < 224
  · obtain rfl : 2 = n := by rw [← hn]; unfold sizeN; rw [if_neg h1, if_pos (by omega)]
    have e3 : (x : Int) < 224 := by omega
    go_enter Try.func27, Try.ntmps27
    go_wp2_with fail
    exact bodyPost_ret (v := .int .i64 2) (by simp [results, Try.results27, go_sem]) rfl ⟨rfl, rfl⟩
  have e3 : ¬ (x : Int) < 224 := by omega
  have e3b : 224 ≤ (x : Int) := by omega
  by_cases h4 : x < 240
  · obtain rfl : 3 = n := by rw [← hn]; unfold sizeN; rw [if_neg h1, if_neg (by omega), if_pos (by omega)]
    have e4 : (x : Int) < 240 := by omega
    go_enter Try.func27, Try.ntmps27
    go_wp2_with fail
    exact bodyPost_ret (v := .int .i64 3) (by simp [results, Try.results27, go_sem]) rfl ⟨rfl, rfl⟩
  have e4 : ¬ (x : Int) < 240 := by omega
  have e4b : 240 ≤ (x : Int) := by omega
  by_cases h5 : x < 248
  · obtain rfl : 4 = n := by rw [← hn]; unfold sizeN; rw [if_neg h1, if_neg (by omega), if_neg (by omega), if_pos (by omega)]
    have e5 : (x : Int) < 248 := by omega
    go_enter Try.func27, Try.ntmps27
    go_wp2_with fail
    exact bodyPost_ret (v := .int .i64 4) (by simp [results, Try.results27, go_sem]) rfl ⟨rfl, rfl⟩
  · obtain rfl : 0 = n := by rw [← hn]; unfold sizeN; rw [if_neg h1, if_neg (by omega), if_neg (by omega), if_neg (by omega)]
    have e5 : ¬ (x : Int) < 248 := by omega
    go_enter Try.func27, Try.ntmps27
    go_wp2_with fail
    exact bodyPost_ret (v := .int .i64 0) (by simp [results, Try.results27, go_sem]) rfl ⟨rfl, rfl⟩

/-- How many bytes the form of a number has. -/
def flenI (c : Int) : Nat := if c < 128 then 1 else if c < 2048 then 2 else if c < 65536 then 3 else if c ≤ 1114111 then 4 else 3
theorem formL_len {c : Int} (h0 : 0 ≤ c) (h1 : ¬ (55296 ≤ c ∧ c ≤ 57343)) : (formL c).length = flenI c := by
  unfold flenI
  by_cases hp : isPt c
  · by_cases a1 : c < 128
    · rw [formL_1 hp a1, if_pos a1]; rfl
    by_cases a2 : c < 2048
    · rw [formL_2 hp (by omega) a2, if_neg a1, if_pos a2]; rfl
    by_cases a3 : c < 65536
    · rw [formL_3 hp (by omega) a3, if_neg a1, if_neg a2, if_pos a3]; rfl
    · have := hp.2.1
      rw [formL_4 hp (by omega), if_neg a1, if_neg a2, if_neg a3, if_pos this]; rfl
  · have : 1114111 < c := by unfold isPt at hp; omega
    rw [formL_none hp, if_neg (by omega), if_neg (by omega), if_neg (by omega), if_neg (by omega)]; rfl
theorem RLen_to (c : Int) (h0 : 0 ≤ c) (h1 : ¬ (55296 ≤ c ∧ c ≤ 57343)) (m : Nat) (hm : flenI c = m) (w : World) : Calls Try.prog 11 #[.int .i32 c] w fun r w' => ∃ A cap, r = .returned (.slice A m cap) ∧ Below w.heap.size w w' := by
  refine (RForm_to c w).mono ?_
  rintro _ w' ⟨A, cap, rfl, _, hb⟩
  exact ⟨A, cap, by rw [formL_len h0 h1, hm], hb⟩
theorem anyB_of {low high : Int} {n : Nat} {s t : Int} (hs : overS (max low (leastOf n)) = s) (ht : mostOf n = t) : anyB low high n = decide (s ≤ high ∧ s ≤ t) := by
  unfold anyB; rw [hs, ht]

set_option maxRecDepth 100000 in
set_option maxHeartbeats 4000000 in
theorem any_1 (low high : Int) (w : World) (v : Bool) (hv : anyB low high 1 = v) (h0 : 0 ≤ low) (h1 : low ≤ 2000000000) :
    Calls Try.prog 28 #[.int .i64 low, .int .i64 high, .int .i64 1] w fun e w' => e = .returned (.bool v) ∧ Below w.heap.size w w' := by
  go_enter Try.func28, Try.ntmps28
  go_wp2_with fail
  go_loopw [0] (fun lo wr => ∃ l : Int, lo = .int .i64 l ∧ Kp (anyB l high 1 = v ∧ 0 ≤ l ∧ l ≤ 2000000000) ∧ Below w.heap.size w wr) (fun lo _ => 70000 - (intOf lo).toNat)
  case atStart => exact ⟨low, rfl, ⟨hv, h0, h1⟩, Below.refl _ _⟩
  case round =>
    obtain ⟨l, rfl, hk, hB⟩ := hrel
    clear hv h0 h1
    obtain ⟨hv, h0, h1⟩ := hk.out
    by_cases hlh : l ≤ high
    · by_cases hsu : 55296 ≤ l ∧ l ≤ 57343
      · obtain ⟨s1, s2⟩ := hsu
        have x1 : ¬ l < 55296 := by omega
        have x2 : ¬ 57343 < l := by omega
        have hv2 : v = false := by
          rw [← hv]; unfold anyB; rw [decide_eq_false_iff_not]
          unfold overS leastOf mostOf; simp; omega
        clear h0 h1 hk hv
        by_cases h57 : (57344 : Int) ≤ high
        · have hv3 : Kp (false = v) := ⟨by rw [hv2]⟩
          clear hv2
          go_wp2_with fail
          refine (RLen_to 57344 (by decide) (by decide) 3 (by decide) _).mono ?_
          rintro _ w2 ⟨A, cap, rfl, hb⟩
          go_wp2_with fail
          exact bodyPost_ret (v := .bool false) (by simp [results, Try.results28, go_sem]) rfl ⟨ret_bool hv3.out, hB.trans (hb.mono hB.size)⟩
        · have hv3 : v = false := by rw [hv2]
          subst hv3
          clear hv2
          go_wp2_with fail
          exact bodyPost_ret (v := .bool _) (by simp [results, Try.results28, go_sem]) rfl ⟨rfl, hB⟩
      · rcases (show (l < 128) ∨ (¬ l < 128 ∧ l < 2048) ∨ (¬ l < 128 ∧ ¬ l < 2048 ∧ l < 55296) ∨ (57343 < l ∧ l < 65536) ∨ (¬ l < 65536 ∧ l ≤ 1114111) ∨ (1114111 < l) by omega) with c0 | c0 | c0 | c0 | c0 | c0
        · have hfl := RLen_to l h0 hsu 1 (by unfold flenI; rw [if_pos (by omega)])
          replace hfl := Kp.mk hfl
          have a1 : l < 128 := by omega
          have a0 : l < 55296 := by omega
          have a4 : l ≤ 1114111 := by omega
          have hw : wrap32 l = l := by unfold wrap32; omega
          obtain rfl : true = v := by
            rw [← hv]; symm; unfold anyB; rw [decide_eq_true_iff]; unfold overS leastOf mostOf; simp; omega
          clear h1 hk hv h0 hsu c0
          go_wp2_with fail
          refine (hfl.out _).mono ?_
          rintro _ w2 ⟨A, cap, rfl, hb⟩
          have hB2 := hB.trans (hb.mono hB.size)
          go_wp2_with fail
          refine (hfl.out _).mono ?_
          rintro _ w3 ⟨A3, cap3, rfl, hb3⟩
          have hB3 := hB2.trans (hb3.mono hB2.size)
          go_wp2_with fail
          exact bodyPost_ret (v := .bool true) (by simp [results, Try.results28, go_sem]) rfl ⟨rfl, hB3⟩
        · have hfl := RLen_to l h0 hsu 2 (by unfold flenI; rw [if_neg (by omega), if_pos (by omega)])
          replace hfl := Kp.mk hfl
          have a1 : ¬ l < 128 := by omega
          have a2 : l < 2048 := by omega
          have a0 : l < 55296 := by omega
          have a4 : l ≤ 1114111 := by omega
          have hw : wrap32 l = l := by unfold wrap32; omega
          obtain rfl : false = v := by
            rw [← hv]; symm; unfold anyB; rw [decide_eq_false_iff_not]; unfold overS leastOf mostOf; simp; omega
          clear h1 hk hv h0 hsu c0
          go_wp2_with fail
          refine (hfl.out _).mono ?_
          rintro _ w2 ⟨A, cap, rfl, hb⟩
          have hB2 := hB.trans (hb.mono hB.size)
          go_wp2_with fail
          refine (hfl.out _).mono ?_
          rintro _ w3 ⟨A3, cap3, rfl, hb3⟩
          have hB3 := hB2.trans (hb3.mono hB2.size)
          go_wp2_with fail
          exact bodyPost_ret (v := .bool false) (by simp [results, Try.results28, go_sem]) rfl ⟨rfl, hB3⟩
        · have hfl := RLen_to l h0 hsu 3 (by unfold flenI; rw [if_neg (by omega), if_neg (by omega), if_pos (by omega)])
          replace hfl := Kp.mk hfl
          have a1 : ¬ l < 128 := by omega
          have a2 : ¬ l < 2048 := by omega
          have a3 : l < 65536 := by omega
          have a0 : l < 55296 := by omega
          have a4 : l ≤ 1114111 := by omega
          have hw : wrap32 l = l := by unfold wrap32; omega
          obtain rfl : false = v := by
            rw [← hv]; symm; unfold anyB; rw [decide_eq_false_iff_not]; unfold overS leastOf mostOf; simp; omega
          clear h1 hk hv h0 hsu c0
          go_wp2_with fail
          refine (hfl.out _).mono ?_
          rintro _ w2 ⟨A, cap, rfl, hb⟩
          have hB2 := hB.trans (hb.mono hB.size)
          go_wp2_with fail
          refine (hfl.out _).mono ?_
          rintro _ w3 ⟨A3, cap3, rfl, hb3⟩
          have hB3 := hB2.trans (hb3.mono hB2.size)
          go_wp2_with fail
          exact bodyPost_ret (v := .bool false) (by simp [results, Try.results28, go_sem]) rfl ⟨rfl, hB3⟩
        · have hfl := RLen_to l h0 hsu 3 (by unfold flenI; rw [if_neg (by omega), if_neg (by omega), if_pos (by omega)])
          replace hfl := Kp.mk hfl
          have a1 : ¬ l < 128 := by omega
          have a2 : ¬ l < 2048 := by omega
          have a3 : l < 65536 := by omega
          have a0 : ¬ l < 55296 := by omega
          have b0 : 57343 < l := by omega
          have a4 : l ≤ 1114111 := by omega
          have hw : wrap32 l = l := by unfold wrap32; omega
          obtain rfl : false = v := by
            rw [← hv]; symm; unfold anyB; rw [decide_eq_false_iff_not]; unfold overS leastOf mostOf; simp; omega
          clear h1 hk hv h0 hsu c0
          go_wp2_with fail
          refine (hfl.out _).mono ?_
          rintro _ w2 ⟨A, cap, rfl, hb⟩
          have hB2 := hB.trans (hb.mono hB.size)
          go_wp2_with fail
          refine (hfl.out _).mono ?_
          rintro _ w3 ⟨A3, cap3, rfl, hb3⟩
          have hB3 := hB2.trans (hb3.mono hB2.size)
          go_wp2_with fail
          exact bodyPost_ret (v := .bool false) (by simp [results, Try.results28, go_sem]) rfl ⟨rfl, hB3⟩
        · have hfl := RLen_to l h0 hsu 4 (by unfold flenI; rw [if_neg (by omega), if_neg (by omega), if_neg (by omega), if_pos (by omega)])
          replace hfl := Kp.mk hfl
          have a0 : ¬ l < 55296 := by omega
          have b0 : 57343 < l := by omega
          have a4 : l ≤ 1114111 := by omega
          have hw : wrap32 l = l := by unfold wrap32; omega
          obtain rfl : false = v := by
            rw [← hv]; symm; unfold anyB; rw [decide_eq_false_iff_not]; unfold overS leastOf mostOf; simp; omega
          clear h1 hk hv h0 hsu c0
          go_wp2_with fail
          refine (hfl.out _).mono ?_
          rintro _ w2 ⟨A, cap, rfl, hb⟩
          have hB2 := hB.trans (hb.mono hB.size)
          go_wp2_with fail
          refine (hfl.out _).mono ?_
          rintro _ w3 ⟨A3, cap3, rfl, hb3⟩
          have hB3 := hB2.trans (hb3.mono hB2.size)
          go_wp2_with fail
          exact bodyPost_ret (v := .bool false) (by simp [results, Try.results28, go_sem]) rfl ⟨rfl, hB3⟩
        · have hfl := RLen_to l h0 hsu 3 (by unfold flenI; rw [if_neg (by omega), if_neg (by omega), if_neg (by omega), if_neg (by omega)])
          replace hfl := Kp.mk hfl
          have a0 : ¬ l < 55296 := by omega
          have b0 : 57343 < l := by omega
          have a4 : ¬ l ≤ 1114111 := by omega
          have hw : wrap32 l = l := by unfold wrap32; omega
          obtain rfl : false = v := by
            rw [← hv]; symm; unfold anyB; rw [decide_eq_false_iff_not]; unfold overS leastOf mostOf; simp; omega
          clear h1 hk hv h0 hsu c0
          go_wp2_with fail
          refine (hfl.out _).mono ?_
          rintro _ w2 ⟨A, cap, rfl, hb⟩
          have hB2 := hB.trans (hb.mono hB.size)
          go_wp2_with fail
          exact bodyPost_ret (v := .bool false) (by simp [results, Try.results28, go_sem]) rfl ⟨rfl, hB2⟩
    · have hv2 : v = false := by
        rw [← hv]; unfold anyB; rw [decide_eq_false_iff_not]
        unfold overS leastOf mostOf; simp; split <;> omega
      subst hv2
      by_cases x1 : 55296 ≤ l
      · by_cases x2 : l ≤ 57343
        · have x3 : ¬ (57344 : Int) ≤ high := by omega
          clear h0 h1 hk hv
          go_wp2_with fail
          exact bodyPost_ret (v := .bool _) (by simp [results, Try.results28, go_sem]) rfl ⟨rfl, hB⟩
        · clear h0 h1 hk hv
          go_wp2_with fail
          exact bodyPost_ret (v := .bool _) (by simp [results, Try.results28, go_sem]) rfl ⟨rfl, hB⟩
      · clear h0 h1 hk hv
        go_wp2_with fail
        exact bodyPost_ret (v := .bool _) (by simp [results, Try.results28, go_sem]) rfl ⟨rfl, hB⟩
set_option maxRecDepth 100000 in
set_option maxHeartbeats 4000000 in
theorem any_2 (low high : Int) (w : World) (v : Bool) (hv : anyB low high 2 = v) (h0 : 0 ≤ low) (h1 : low ≤ 2000000000) :
    Calls Try.prog 28 #[.int .i64 low, .int .i64 high, .int .i64 2] w fun e w' => e = .returned (.bool v) ∧ Below w.heap.size w w' := by
  go_enter Try.func28, Try.ntmps28
  go_wp2_with fail
  go_loopw [0] (fun lo wr => ∃ l : Int, lo = .int .i64 l ∧ Kp (anyB l high 2 = v ∧ 0 ≤ l ∧ l ≤ 2000000000) ∧ Below w.heap.size w wr) (fun lo _ => 70000 - (intOf lo).toNat)
  case atStart => exact ⟨low, rfl, ⟨hv, h0, h1⟩, Below.refl _ _⟩
  case round =>
    obtain ⟨l, rfl, hk, hB⟩ := hrel
    clear hv h0 h1
    obtain ⟨hv, h0, h1⟩ := hk.out
    by_cases hlh : l ≤ high
    · by_cases hsu : 55296 ≤ l ∧ l ≤ 57343
      · obtain ⟨s1, s2⟩ := hsu
        have x1 : ¬ l < 55296 := by omega
        have x2 : ¬ 57343 < l := by omega
        have hv2 : v = false := by
          rw [← hv]; unfold anyB; rw [decide_eq_false_iff_not]
          unfold overS leastOf mostOf; simp; omega
        clear h0 h1 hk hv
        by_cases h57 : (57344 : Int) ≤ high
        · have hv3 : Kp (false = v) := ⟨by rw [hv2]⟩
          clear hv2
          go_wp2_with fail
          refine (RLen_to 57344 (by decide) (by decide) 3 (by decide) _).mono ?_
          rintro _ w2 ⟨A, cap, rfl, hb⟩
          go_wp2_with fail
          exact bodyPost_ret (v := .bool false) (by simp [results, Try.results28, go_sem]) rfl ⟨ret_bool hv3.out, hB.trans (hb.mono hB.size)⟩
        · have hv3 : v = false := by rw [hv2]
          subst hv3
          clear hv2
          go_wp2_with fail
          exact bodyPost_ret (v := .bool _) (by simp [results, Try.results28, go_sem]) rfl ⟨rfl, hB⟩
      · rcases (show (l < 128) ∨ (¬ l < 128 ∧ l < 2048) ∨ (¬ l < 128 ∧ ¬ l < 2048 ∧ l < 55296) ∨ (57343 < l ∧ l < 65536) ∨ (¬ l < 65536 ∧ l ≤ 1114111) ∨ (1114111 < l) by omega) with c0 | c0 | c0 | c0 | c0 | c0
        · have hfl := RLen_to l h0 hsu 1 (by unfold flenI; rw [if_pos (by omega)])
          replace hfl := Kp.mk hfl
          have a1 : l < 128 := by omega
          have a0 : l < 55296 := by omega
          have a4 : l ≤ 1114111 := by omega
          have hw : wrap32 l = l := by unfold wrap32; omega
          have hv2 : Kp (anyB 128 high 2 = v ∧ (0 : Int) ≤ 128 ∧ (128 : Int) ≤ 2000000000) := by
            refine ⟨?_, by decide, by decide⟩
            rw [← hv]; unfold anyB; rw [decide_eq_decide]; unfold overS leastOf mostOf; simp; omega
          have d1 : 70000 - 128 < 70000 - l.toNat := by omega
          clear h1 hk hv h0 hsu c0
          go_wp2_with fail
          refine (hfl.out _).mono ?_
          rintro _ w2 ⟨A, cap, rfl, hb⟩
          have hB2 := hB.trans (hb.mono hB.size)
          go_wp2_with fail
          go_roundw
          case rel => exact ⟨128, rfl, hv2, hB2⟩
          case measure => simp [intOf]; omega
        · have hfl := RLen_to l h0 hsu 2 (by unfold flenI; rw [if_neg (by omega), if_pos (by omega)])
          replace hfl := Kp.mk hfl
          have a1 : ¬ l < 128 := by omega
          have a2 : l < 2048 := by omega
          have a0 : l < 55296 := by omega
          have a4 : l ≤ 1114111 := by omega
          have hw : wrap32 l = l := by unfold wrap32; omega
          obtain rfl : true = v := by
            rw [← hv]; symm; unfold anyB; rw [decide_eq_true_iff]; unfold overS leastOf mostOf; simp; omega
          clear h1 hk hv h0 hsu c0
          go_wp2_with fail
          refine (hfl.out _).mono ?_
          rintro _ w2 ⟨A, cap, rfl, hb⟩
          have hB2 := hB.trans (hb.mono hB.size)
          go_wp2_with fail
          refine (hfl.out _).mono ?_
          rintro _ w3 ⟨A3, cap3, rfl, hb3⟩
          have hB3 := hB2.trans (hb3.mono hB2.size)
          go_wp2_with fail
          exact bodyPost_ret (v := .bool true) (by simp [results, Try.results28, go_sem]) rfl ⟨rfl, hB3⟩
        · have hfl := RLen_to l h0 hsu 3 (by unfold flenI; rw [if_neg (by omega), if_neg (by omega), if_pos (by omega)])
          replace hfl := Kp.mk hfl
          have a1 : ¬ l < 128 := by omega
          have a2 : ¬ l < 2048 := by omega
          have a3 : l < 65536 := by omega
          have a0 : l < 55296 := by omega
          have a4 : l ≤ 1114111 := by omega
          have hw : wrap32 l = l := by unfold wrap32; omega
          obtain rfl : false = v := by
            rw [← hv]; symm; unfold anyB; rw [decide_eq_false_iff_not]; unfold overS leastOf mostOf; simp; omega
          clear h1 hk hv h0 hsu c0
          go_wp2_with fail
          refine (hfl.out _).mono ?_
          rintro _ w2 ⟨A, cap, rfl, hb⟩
          have hB2 := hB.trans (hb.mono hB.size)
          go_wp2_with fail
          refine (hfl.out _).mono ?_
          rintro _ w3 ⟨A3, cap3, rfl, hb3⟩
          have hB3 := hB2.trans (hb3.mono hB2.size)
          go_wp2_with fail
          exact bodyPost_ret (v := .bool false) (by simp [results, Try.results28, go_sem]) rfl ⟨rfl, hB3⟩
        · have hfl := RLen_to l h0 hsu 3 (by unfold flenI; rw [if_neg (by omega), if_neg (by omega), if_pos (by omega)])
          replace hfl := Kp.mk hfl
          have a1 : ¬ l < 128 := by omega
          have a2 : ¬ l < 2048 := by omega
          have a3 : l < 65536 := by omega
          have a0 : ¬ l < 55296 := by omega
          have b0 : 57343 < l := by omega
          have a4 : l ≤ 1114111 := by omega
          have hw : wrap32 l = l := by unfold wrap32; omega
          obtain rfl : false = v := by
            rw [← hv]; symm; unfold anyB; rw [decide_eq_false_iff_not]; unfold overS leastOf mostOf; simp; omega
          clear h1 hk hv h0 hsu c0
          go_wp2_with fail
          refine (hfl.out _).mono ?_
          rintro _ w2 ⟨A, cap, rfl, hb⟩
          have hB2 := hB.trans (hb.mono hB.size)
          go_wp2_with fail
          refine (hfl.out _).mono ?_
          rintro _ w3 ⟨A3, cap3, rfl, hb3⟩
          have hB3 := hB2.trans (hb3.mono hB2.size)
          go_wp2_with fail
          exact bodyPost_ret (v := .bool false) (by simp [results, Try.results28, go_sem]) rfl ⟨rfl, hB3⟩
        · have hfl := RLen_to l h0 hsu 4 (by unfold flenI; rw [if_neg (by omega), if_neg (by omega), if_neg (by omega), if_pos (by omega)])
          replace hfl := Kp.mk hfl
          have a0 : ¬ l < 55296 := by omega
          have b0 : 57343 < l := by omega
          have a4 : l ≤ 1114111 := by omega
          have hw : wrap32 l = l := by unfold wrap32; omega
          obtain rfl : false = v := by
            rw [← hv]; symm; unfold anyB; rw [decide_eq_false_iff_not]; unfold overS leastOf mostOf; simp; omega
          clear h1 hk hv h0 hsu c0
          go_wp2_with fail
          refine (hfl.out _).mono ?_
          rintro _ w2 ⟨A, cap, rfl, hb⟩
          have hB2 := hB.trans (hb.mono hB.size)
          go_wp2_with fail
          refine (hfl.out _).mono ?_
          rintro _ w3 ⟨A3, cap3, rfl, hb3⟩
          have hB3 := hB2.trans (hb3.mono hB2.size)
          go_wp2_with fail
          exact bodyPost_ret (v := .bool false) (by simp [results, Try.results28, go_sem]) rfl ⟨rfl, hB3⟩
        · have hfl := RLen_to l h0 hsu 3 (by unfold flenI; rw [if_neg (by omega), if_neg (by omega), if_neg (by omega), if_neg (by omega)])
          replace hfl := Kp.mk hfl
          have a0 : ¬ l < 55296 := by omega
          have b0 : 57343 < l := by omega
          have a4 : ¬ l ≤ 1114111 := by omega
          have hw : wrap32 l = l := by unfold wrap32; omega
          obtain rfl : false = v := by
            rw [← hv]; symm; unfold anyB; rw [decide_eq_false_iff_not]; unfold overS leastOf mostOf; simp; omega
          clear h1 hk hv h0 hsu c0
          go_wp2_with fail
          refine (hfl.out _).mono ?_
          rintro _ w2 ⟨A, cap, rfl, hb⟩
          have hB2 := hB.trans (hb.mono hB.size)
          go_wp2_with fail
          exact bodyPost_ret (v := .bool false) (by simp [results, Try.results28, go_sem]) rfl ⟨rfl, hB2⟩
    · have hv2 : v = false := by
        rw [← hv]; unfold anyB; rw [decide_eq_false_iff_not]
        unfold overS leastOf mostOf; simp; split <;> omega
      subst hv2
      by_cases x1 : 55296 ≤ l
      · by_cases x2 : l ≤ 57343
        · have x3 : ¬ (57344 : Int) ≤ high := by omega
          clear h0 h1 hk hv
          go_wp2_with fail
          exact bodyPost_ret (v := .bool _) (by simp [results, Try.results28, go_sem]) rfl ⟨rfl, hB⟩
        · clear h0 h1 hk hv
          go_wp2_with fail
          exact bodyPost_ret (v := .bool _) (by simp [results, Try.results28, go_sem]) rfl ⟨rfl, hB⟩
      · clear h0 h1 hk hv
        go_wp2_with fail
        exact bodyPost_ret (v := .bool _) (by simp [results, Try.results28, go_sem]) rfl ⟨rfl, hB⟩
set_option maxRecDepth 100000 in
set_option maxHeartbeats 4000000 in
theorem any_3 (low high : Int) (w : World) (v : Bool) (hv : anyB low high 3 = v) (h0 : 0 ≤ low) (h1 : low ≤ 2000000000) :
    Calls Try.prog 28 #[.int .i64 low, .int .i64 high, .int .i64 3] w fun e w' => e = .returned (.bool v) ∧ Below w.heap.size w w' := by
  go_enter Try.func28, Try.ntmps28
  go_wp2_with fail
  go_loopw [0] (fun lo wr => ∃ l : Int, lo = .int .i64 l ∧ Kp (anyB l high 3 = v ∧ 0 ≤ l ∧ l ≤ 2000000000) ∧ Below w.heap.size w wr) (fun lo _ => 70000 - (intOf lo).toNat)
  case atStart => exact ⟨low, rfl, ⟨hv, h0, h1⟩, Below.refl _ _⟩
  case round =>
    obtain ⟨l, rfl, hk, hB⟩ := hrel
    clear hv h0 h1
    obtain ⟨hv, h0, h1⟩ := hk.out
    by_cases hlh : l ≤ high
    · by_cases hsu : 55296 ≤ l ∧ l ≤ 57343
      · obtain ⟨s1, s2⟩ := hsu
        have x1 : ¬ l < 55296 := by omega
        have x2 : ¬ 57343 < l := by omega
        have hv2 : v = decide ((57344 : Int) ≤ high) := by
          rw [← hv]; unfold anyB; rw [decide_eq_decide]
          unfold overS leastOf mostOf; simp; omega
        clear h0 h1 hk hv
        by_cases h57 : (57344 : Int) ≤ high
        · have hv3 : Kp (true = v) := ⟨by rw [hv2]; exact (decide_eq_true h57).symm⟩
          clear hv2
          go_wp2_with fail
          refine (RLen_to 57344 (by decide) (by decide) 3 (by decide) _).mono ?_
          rintro _ w2 ⟨A, cap, rfl, hb⟩
          go_wp2_with fail
          exact bodyPost_ret (v := .bool true) (by simp [results, Try.results28, go_sem]) rfl ⟨ret_bool hv3.out, hB.trans (hb.mono hB.size)⟩
        · have hv3 : v = false := by rw [hv2]; exact decide_eq_false h57
          subst hv3
          clear hv2
          go_wp2_with fail
          exact bodyPost_ret (v := .bool _) (by simp [results, Try.results28, go_sem]) rfl ⟨rfl, hB⟩
      · rcases (show (l < 128) ∨ (¬ l < 128 ∧ l < 2048) ∨ (¬ l < 128 ∧ ¬ l < 2048 ∧ l < 55296) ∨ (57343 < l ∧ l < 65536) ∨ (¬ l < 65536 ∧ l ≤ 1114111) ∨ (1114111 < l) by omega) with c0 | c0 | c0 | c0 | c0 | c0
        · have hfl := RLen_to l h0 hsu 1 (by unfold flenI; rw [if_pos (by omega)])
          replace hfl := Kp.mk hfl
          have a1 : l < 128 := by omega
          have a0 : l < 55296 := by omega
          have a4 : l ≤ 1114111 := by omega
          have hw : wrap32 l = l := by unfold wrap32; omega
          have hv2 : Kp (anyB 128 high 3 = v ∧ (0 : Int) ≤ 128 ∧ (128 : Int) ≤ 2000000000) := by
            refine ⟨?_, by decide, by decide⟩
            rw [← hv]; unfold anyB; rw [decide_eq_decide]; unfold overS leastOf mostOf; simp; omega
          have d1 : 70000 - 128 < 70000 - l.toNat := by omega
          clear h1 hk hv h0 hsu c0
          go_wp2_with fail
          refine (hfl.out _).mono ?_
          rintro _ w2 ⟨A, cap, rfl, hb⟩
          have hB2 := hB.trans (hb.mono hB.size)
          go_wp2_with fail
          go_roundw
          case rel => exact ⟨128, rfl, hv2, hB2⟩
          case measure => simp [intOf]; omega
        · have hfl := RLen_to l h0 hsu 2 (by unfold flenI; rw [if_neg (by omega), if_pos (by omega)])
          replace hfl := Kp.mk hfl
          have a1 : ¬ l < 128 := by omega
          have a2 : l < 2048 := by omega
          have a0 : l < 55296 := by omega
          have a4 : l ≤ 1114111 := by omega
          have hw : wrap32 l = l := by unfold wrap32; omega
          have hv2 : Kp (anyB 2048 high 3 = v ∧ (0 : Int) ≤ 2048 ∧ (2048 : Int) ≤ 2000000000) := by
            refine ⟨?_, by decide, by decide⟩
            rw [← hv]; unfold anyB; rw [decide_eq_decide]; unfold overS leastOf mostOf; simp; omega
          have d1 : 70000 - 2048 < 70000 - l.toNat := by omega
          clear h1 hk hv h0 hsu c0
          go_wp2_with fail
          refine (hfl.out _).mono ?_
          rintro _ w2 ⟨A, cap, rfl, hb⟩
          have hB2 := hB.trans (hb.mono hB.size)
          go_wp2_with fail
          go_roundw
          case rel => exact ⟨2048, rfl, hv2, hB2⟩
          case measure => simp [intOf]; omega
        · have hfl := RLen_to l h0 hsu 3 (by unfold flenI; rw [if_neg (by omega), if_neg (by omega), if_pos (by omega)])
          replace hfl := Kp.mk hfl
          have a1 : ¬ l < 128 := by omega
          have a2 : ¬ l < 2048 := by omega
          have a3 : l < 65536 := by omega
          have a0 : l < 55296 := by omega
          have a4 : l ≤ 1114111 := by omega
          have hw : wrap32 l = l := by unfold wrap32; omega
          obtain rfl : true = v := by
            rw [← hv]; symm; unfold anyB; rw [decide_eq_true_iff]; unfold overS leastOf mostOf; simp; omega
          clear h1 hk hv h0 hsu c0
          go_wp2_with fail
          refine (hfl.out _).mono ?_
          rintro _ w2 ⟨A, cap, rfl, hb⟩
          have hB2 := hB.trans (hb.mono hB.size)
          go_wp2_with fail
          refine (hfl.out _).mono ?_
          rintro _ w3 ⟨A3, cap3, rfl, hb3⟩
          have hB3 := hB2.trans (hb3.mono hB2.size)
          go_wp2_with fail
          exact bodyPost_ret (v := .bool true) (by simp [results, Try.results28, go_sem]) rfl ⟨rfl, hB3⟩
        · have hfl := RLen_to l h0 hsu 3 (by unfold flenI; rw [if_neg (by omega), if_neg (by omega), if_pos (by omega)])
          replace hfl := Kp.mk hfl
          have a1 : ¬ l < 128 := by omega
          have a2 : ¬ l < 2048 := by omega
          have a3 : l < 65536 := by omega
          have a0 : ¬ l < 55296 := by omega
          have b0 : 57343 < l := by omega
          have a4 : l ≤ 1114111 := by omega
          have hw : wrap32 l = l := by unfold wrap32; omega
          obtain rfl : true = v := by
            rw [← hv]; symm; unfold anyB; rw [decide_eq_true_iff]; unfold overS leastOf mostOf; simp; omega
          clear h1 hk hv h0 hsu c0
          go_wp2_with fail
          refine (hfl.out _).mono ?_
          rintro _ w2 ⟨A, cap, rfl, hb⟩
          have hB2 := hB.trans (hb.mono hB.size)
          go_wp2_with fail
          refine (hfl.out _).mono ?_
          rintro _ w3 ⟨A3, cap3, rfl, hb3⟩
          have hB3 := hB2.trans (hb3.mono hB2.size)
          go_wp2_with fail
          exact bodyPost_ret (v := .bool true) (by simp [results, Try.results28, go_sem]) rfl ⟨rfl, hB3⟩
        · have hfl := RLen_to l h0 hsu 4 (by unfold flenI; rw [if_neg (by omega), if_neg (by omega), if_neg (by omega), if_pos (by omega)])
          replace hfl := Kp.mk hfl
          have a0 : ¬ l < 55296 := by omega
          have b0 : 57343 < l := by omega
          have a4 : l ≤ 1114111 := by omega
          have hw : wrap32 l = l := by unfold wrap32; omega
          obtain rfl : false = v := by
            rw [← hv]; symm; unfold anyB; rw [decide_eq_false_iff_not]; unfold overS leastOf mostOf; simp; omega
          clear h1 hk hv h0 hsu c0
          go_wp2_with fail
          refine (hfl.out _).mono ?_
          rintro _ w2 ⟨A, cap, rfl, hb⟩
          have hB2 := hB.trans (hb.mono hB.size)
          go_wp2_with fail
          refine (hfl.out _).mono ?_
          rintro _ w3 ⟨A3, cap3, rfl, hb3⟩
          have hB3 := hB2.trans (hb3.mono hB2.size)
          go_wp2_with fail
          exact bodyPost_ret (v := .bool false) (by simp [results, Try.results28, go_sem]) rfl ⟨rfl, hB3⟩
        · have hfl := RLen_to l h0 hsu 3 (by unfold flenI; rw [if_neg (by omega), if_neg (by omega), if_neg (by omega), if_neg (by omega)])
          replace hfl := Kp.mk hfl
          have a0 : ¬ l < 55296 := by omega
          have b0 : 57343 < l := by omega
          have a4 : ¬ l ≤ 1114111 := by omega
          have hw : wrap32 l = l := by unfold wrap32; omega
          obtain rfl : false = v := by
            rw [← hv]; symm; unfold anyB; rw [decide_eq_false_iff_not]; unfold overS leastOf mostOf; simp; omega
          clear h1 hk hv h0 hsu c0
          go_wp2_with fail
          refine (hfl.out _).mono ?_
          rintro _ w2 ⟨A, cap, rfl, hb⟩
          have hB2 := hB.trans (hb.mono hB.size)
          go_wp2_with fail
          exact bodyPost_ret (v := .bool false) (by simp [results, Try.results28, go_sem]) rfl ⟨rfl, hB2⟩
    · have hv2 : v = false := by
        rw [← hv]; unfold anyB; rw [decide_eq_false_iff_not]
        unfold overS leastOf mostOf; simp; split <;> omega
      subst hv2
      by_cases x1 : 55296 ≤ l
      · by_cases x2 : l ≤ 57343
        · have x3 : ¬ (57344 : Int) ≤ high := by omega
          clear h0 h1 hk hv
          go_wp2_with fail
          exact bodyPost_ret (v := .bool _) (by simp [results, Try.results28, go_sem]) rfl ⟨rfl, hB⟩
        · clear h0 h1 hk hv
          go_wp2_with fail
          exact bodyPost_ret (v := .bool _) (by simp [results, Try.results28, go_sem]) rfl ⟨rfl, hB⟩
      · clear h0 h1 hk hv
        go_wp2_with fail
        exact bodyPost_ret (v := .bool _) (by simp [results, Try.results28, go_sem]) rfl ⟨rfl, hB⟩
set_option maxRecDepth 100000 in
set_option maxHeartbeats 4000000 in
theorem any_4 (low high : Int) (w : World) (v : Bool) (hv : anyB low high 4 = v) (h0 : 0 ≤ low) (h1 : low ≤ 2000000000) (hp : 55296 ≤ low → low ≤ 57343 → high < 65536) :
    Calls Try.prog 28 #[.int .i64 low, .int .i64 high, .int .i64 4] w fun e w' => e = .returned (.bool v) ∧ Below w.heap.size w w' := by
  go_enter Try.func28, Try.ntmps28
  go_wp2_with fail
  go_loopw [0] (fun lo wr => ∃ l : Int, lo = .int .i64 l ∧ Kp (anyB l high 4 = v ∧ 0 ≤ l ∧ l ≤ 2000000000 ∧ (55296 ≤ l → l ≤ 57343 → high < 65536)) ∧ Below w.heap.size w wr) (fun lo _ => 70000 - (intOf lo).toNat)
  case atStart => exact ⟨low, rfl, ⟨hv, h0, h1, hp⟩, Below.refl _ _⟩
  case round =>
    obtain ⟨l, rfl, hk, hB⟩ := hrel
    clear hv h0 h1 hp
    obtain ⟨hv, h0, h1, hp⟩ := hk.out
    by_cases hlh : l ≤ high
    · by_cases hsu : 55296 ≤ l ∧ l ≤ 57343
      · obtain ⟨s1, s2⟩ := hsu
        have x1 : ¬ l < 55296 := by omega
        have x2 : ¬ 57343 < l := by omega
        have hv2 : v = false := by
          rw [← hv]; unfold anyB; rw [decide_eq_false_iff_not]
          unfold overS leastOf mostOf; simp; omega
        clear hp h0 h1 hk hv
        by_cases h57 : (57344 : Int) ≤ high
        · have hv3 : Kp (false = v) := ⟨by rw [hv2]⟩
          clear hv2
          go_wp2_with fail
          refine (RLen_to 57344 (by decide) (by decide) 3 (by decide) _).mono ?_
          rintro _ w2 ⟨A, cap, rfl, hb⟩
          go_wp2_with fail
          exact bodyPost_ret (v := .bool false) (by simp [results, Try.results28, go_sem]) rfl ⟨ret_bool hv3.out, hB.trans (hb.mono hB.size)⟩
        · have hv3 : v = false := by rw [hv2]
          subst hv3
          clear hv2
          go_wp2_with fail
          exact bodyPost_ret (v := .bool _) (by simp [results, Try.results28, go_sem]) rfl ⟨rfl, hB⟩
      · rcases (show (l < 128) ∨ (¬ l < 128 ∧ l < 2048) ∨ (¬ l < 128 ∧ ¬ l < 2048 ∧ l < 55296) ∨ (57343 < l ∧ l < 65536) ∨ (¬ l < 65536 ∧ l ≤ 1114111) ∨ (1114111 < l) by omega) with c0 | c0 | c0 | c0 | c0 | c0
        · have hfl := RLen_to l h0 hsu 1 (by unfold flenI; rw [if_pos (by omega)])
          replace hfl := Kp.mk hfl
          have a1 : l < 128 := by omega
          have a0 : l < 55296 := by omega
          have a4 : l ≤ 1114111 := by omega
          have hw : wrap32 l = l := by unfold wrap32; omega
          have hv2 : Kp (anyB 128 high 4 = v ∧ (0 : Int) ≤ 128 ∧ (128 : Int) ≤ 2000000000 ∧ ((55296 : Int) ≤ 128 → (128 : Int) ≤ 57343 → high < 65536)) := by
            refine ⟨?_, by decide, by decide, by intro h1 h2; omega⟩
            rw [← hv]; unfold anyB; rw [decide_eq_decide]; unfold overS leastOf mostOf; simp; omega
          have d1 : 70000 - 128 < 70000 - l.toNat := by omega
          clear hp h1 hk hv h0 hsu c0
          go_wp2_with fail
          refine (hfl.out _).mono ?_
          rintro _ w2 ⟨A, cap, rfl, hb⟩
          have hB2 := hB.trans (hb.mono hB.size)
          go_wp2_with fail
          go_roundw
          case rel => exact ⟨128, rfl, hv2, hB2⟩
          case measure => simp [intOf]; omega
        · have hfl := RLen_to l h0 hsu 2 (by unfold flenI; rw [if_neg (by omega), if_pos (by omega)])
          replace hfl := Kp.mk hfl
          have a1 : ¬ l < 128 := by omega
          have a2 : l < 2048 := by omega
          have a0 : l < 55296 := by omega
          have a4 : l ≤ 1114111 := by omega
          have hw : wrap32 l = l := by unfold wrap32; omega
          have hv2 : Kp (anyB 2048 high 4 = v ∧ (0 : Int) ≤ 2048 ∧ (2048 : Int) ≤ 2000000000 ∧ ((55296 : Int) ≤ 2048 → (2048 : Int) ≤ 57343 → high < 65536)) := by
            refine ⟨?_, by decide, by decide, by intro h1 h2; omega⟩
            rw [← hv]; unfold anyB; rw [decide_eq_decide]; unfold overS leastOf mostOf; simp; omega
          have d1 : 70000 - 2048 < 70000 - l.toNat := by omega
          clear hp h1 hk hv h0 hsu c0
          go_wp2_with fail
          refine (hfl.out _).mono ?_
          rintro _ w2 ⟨A, cap, rfl, hb⟩
          have hB2 := hB.trans (hb.mono hB.size)
          go_wp2_with fail
          go_roundw
          case rel => exact ⟨2048, rfl, hv2, hB2⟩
          case measure => simp [intOf]; omega
        · have hfl := RLen_to l h0 hsu 3 (by unfold flenI; rw [if_neg (by omega), if_neg (by omega), if_pos (by omega)])
          replace hfl := Kp.mk hfl
          have a1 : ¬ l < 128 := by omega
          have a2 : ¬ l < 2048 := by omega
          have a3 : l < 65536 := by omega
          have a0 : l < 55296 := by omega
          have a4 : l ≤ 1114111 := by omega
          have hw : wrap32 l = l := by unfold wrap32; omega
          have hv2 : Kp (anyB 65536 high 4 = v ∧ (0 : Int) ≤ 65536 ∧ (65536 : Int) ≤ 2000000000 ∧ ((55296 : Int) ≤ 65536 → (65536 : Int) ≤ 57343 → high < 65536)) := by
            refine ⟨?_, by decide, by decide, by intro h1 h2; omega⟩
            rw [← hv]; unfold anyB; rw [decide_eq_decide]; unfold overS leastOf mostOf; simp; omega
          have d1 : 70000 - 65536 < 70000 - l.toNat := by omega
          clear hp h1 hk hv h0 hsu c0
          go_wp2_with fail
          refine (hfl.out _).mono ?_
          rintro _ w2 ⟨A, cap, rfl, hb⟩
          have hB2 := hB.trans (hb.mono hB.size)
          go_wp2_with fail
          go_roundw
          case rel => exact ⟨65536, rfl, hv2, hB2⟩
          case measure => simp [intOf]; omega
        · have hfl := RLen_to l h0 hsu 3 (by unfold flenI; rw [if_neg (by omega), if_neg (by omega), if_pos (by omega)])
          replace hfl := Kp.mk hfl
          have a1 : ¬ l < 128 := by omega
          have a2 : ¬ l < 2048 := by omega
          have a3 : l < 65536 := by omega
          have a0 : ¬ l < 55296 := by omega
          have b0 : 57343 < l := by omega
          have a4 : l ≤ 1114111 := by omega
          have hw : wrap32 l = l := by unfold wrap32; omega
          have hv2 : Kp (anyB 65536 high 4 = v ∧ (0 : Int) ≤ 65536 ∧ (65536 : Int) ≤ 2000000000 ∧ ((55296 : Int) ≤ 65536 → (65536 : Int) ≤ 57343 → high < 65536)) := by
            refine ⟨?_, by decide, by decide, by intro h1 h2; omega⟩
            rw [← hv]; unfold anyB; rw [decide_eq_decide]; unfold overS leastOf mostOf; simp; omega
          have d1 : 70000 - 65536 < 70000 - l.toNat := by omega
          clear hp h1 hk hv h0 hsu c0
          go_wp2_with fail
          refine (hfl.out _).mono ?_
          rintro _ w2 ⟨A, cap, rfl, hb⟩
          have hB2 := hB.trans (hb.mono hB.size)
          go_wp2_with fail
          go_roundw
          case rel => exact ⟨65536, rfl, hv2, hB2⟩
          case measure => simp [intOf]; omega
        · have hfl := RLen_to l h0 hsu 4 (by unfold flenI; rw [if_neg (by omega), if_neg (by omega), if_neg (by omega), if_pos (by omega)])
          replace hfl := Kp.mk hfl
          have a0 : ¬ l < 55296 := by omega
          have b0 : 57343 < l := by omega
          have a4 : l ≤ 1114111 := by omega
          have hw : wrap32 l = l := by unfold wrap32; omega
          obtain rfl : true = v := by
            rw [← hv]; symm; unfold anyB; rw [decide_eq_true_iff]; unfold overS leastOf mostOf; simp; omega
          clear hp h1 hk hv h0 hsu c0
          go_wp2_with fail
          refine (hfl.out _).mono ?_
          rintro _ w2 ⟨A, cap, rfl, hb⟩
          have hB2 := hB.trans (hb.mono hB.size)
          go_wp2_with fail
          refine (hfl.out _).mono ?_
          rintro _ w3 ⟨A3, cap3, rfl, hb3⟩
          have hB3 := hB2.trans (hb3.mono hB2.size)
          go_wp2_with fail
          exact bodyPost_ret (v := .bool true) (by simp [results, Try.results28, go_sem]) rfl ⟨rfl, hB3⟩
        · have hfl := RLen_to l h0 hsu 3 (by unfold flenI; rw [if_neg (by omega), if_neg (by omega), if_neg (by omega), if_neg (by omega)])
          replace hfl := Kp.mk hfl
          have a0 : ¬ l < 55296 := by omega
          have b0 : 57343 < l := by omega
          have a4 : ¬ l ≤ 1114111 := by omega
          have hw : wrap32 l = l := by unfold wrap32; omega
          obtain rfl : false = v := by
            rw [← hv]; symm; unfold anyB; rw [decide_eq_false_iff_not]; unfold overS leastOf mostOf; simp; omega
          clear hp h1 hk hv h0 hsu c0
          go_wp2_with fail
          refine (hfl.out _).mono ?_
          rintro _ w2 ⟨A, cap, rfl, hb⟩
          have hB2 := hB.trans (hb.mono hB.size)
          go_wp2_with fail
          exact bodyPost_ret (v := .bool false) (by simp [results, Try.results28, go_sem]) rfl ⟨rfl, hB2⟩
    · have hv2 : v = false := by
        rw [← hv]; unfold anyB; rw [decide_eq_false_iff_not]
        unfold overS leastOf mostOf; simp; split <;> omega
      subst hv2
      by_cases x1 : 55296 ≤ l
      · by_cases x2 : l ≤ 57343
        · have x3 : ¬ (57344 : Int) ≤ high := by omega
          clear h0 h1 hp hk hv
          go_wp2_with fail
          exact bodyPost_ret (v := .bool _) (by simp [results, Try.results28, go_sem]) rfl ⟨rfl, hB⟩
        · clear h0 h1 hp hk hv
          go_wp2_with fail
          exact bodyPost_ret (v := .bool _) (by simp [results, Try.results28, go_sem]) rfl ⟨rfl, hB⟩
      · clear h0 h1 hp hk hv
        go_wp2_with fail
        exact bodyPost_ret (v := .bool _) (by simp [results, Try.results28, go_sem]) rfl ⟨rfl, hB⟩
theorem any_to (n : Nat) (hn : n = 1 ∨ n = 2 ∨ n = 3 ∨ n = 4) (low high : Int) (w : World) (v : Bool) (hv : anyB low high n = v) (h0 : 0 ≤ low) (h1 : low ≤ 2000000000) (hp : n = 4 → 55296 ≤ low → low ≤ 57343 → high < 65536) :
    Calls Try.prog 28 #[.int .i64 low, .int .i64 high, .int .i64 n] w fun e w' => e = .returned (.bool v) ∧ Below w.heap.size w w' := by
  rcases hn with rfl | rfl | rfl | rfl
  · exact any_1 low high w v hv h0 h1
  · exact any_2 low high w v hv h0 h1
  · exact any_3 low high w v hv h0 h1
  · exact any_4 low high w v hv h0 h1 (hp rfl)
end Go.Proofs.Ytfogblcjccoeiaa
