/- The walks of the document's reading (layer 10): read. -/
import Derived.Test.YtfogblcjccoeiaaO
namespace Go.Proofs.Ytfogblcjccoeiaa
open Go.RowKit

theorem headI_bd {x : Nat} (h : x < 256) : 0 ≤ headI (sizeN x) x ∧ headI (sizeN x) x ≤ 255 := by
  unfold headI sizeN
  repeat' split
  all_goals omega
theorem lowAt_bd {l : List Nat} (h : ∀ x ∈ l, x < 256) (i : Nat) (hi : i ≤ 3) : -1000000 ≤ lowAt l i ∧ lowAt l i ≤ 100000000 := by
  have hg : ∀ j, l.getD j 0 < 256 := fun j => by
    rw [List.getD_eq_getElem?_getD]
    cases hj : l[j]? with
    | none => simp
    | some x => exact h x (List.mem_of_getElem? hj)
  have h0 := headI_bd (hg 0)
  have g1 := hg 1
  have g2 := hg 2
  have g3 := hg 3
  rcases (show i = 0 ∨ i = 1 ∨ i = 2 ∨ i = 3 by omega) with rfl | rfl | rfl | rfl
  all_goals simp only [lowAt]; generalize headI _ _ = y at h0 ⊢; (try simp only [Nat.zero_add, Nat.reduceAdd] at *); omega
theorem lowAt_fine {l : List Nat} (h : ∀ x ∈ l, x < 256) (i : Nat) (hf : fineAt l i = true) : 0 ≤ lowAt l i := by
  induction i with
  | zero =>
    have hg : l.getD 0 0 < 256 := by
      rw [List.getD_eq_getElem?_getD]
      cases hj : l[0]? with
      | none => simp
      | some x => exact h x (List.mem_of_getElem? hj)
    exact (headI_bd hg).1
  | succ i ih =>
    simp only [fineAt, Bool.and_eq_true, decide_eq_true_eq] at hf
    have := ih hf.1
    simp only [lowAt]; omega
theorem pad_surr (v : Int) (j : Nat) (hj : j ≤ 3) (h1 : 55296 ≤ padLow v j) (h2 : padLow v j ≤ 57343) : padHigh v j < 65536 := by
  rcases (show j = 0 ∨ j = 1 ∨ j = 2 ∨ j = 3 by omega) with rfl | rfl | rfl | rfl
  all_goals simp only [padLow, padHigh] at *; omega
theorem pad_bd (v : Int) (j : Nat) (hj : j ≤ 3) (h1 : -1000000 ≤ v) (h2 : v ≤ 100000000) : -300000000000 ≤ padLow v j ∧ padLow v j ≤ 30000000000000 ∧ -300000000000 ≤ padHigh v j ∧ padHigh v j ≤ 30000000000000 := by
  rcases (show j = 0 ∨ j = 1 ∨ j = 2 ∨ j = 3 by omega) with rfl | rfl | rfl | rfl
  all_goals simp only [padLow, padHigh] at *; omega
theorem headI_le {x : Nat} : headI (sizeN x) x ≤ (if sizeN x = 1 then 127 else if sizeN x = 2 then 31 else if sizeN x = 3 then 15 else if sizeN x = 4 then 7 else x) := by
  unfold headI sizeN
  repeat' split
  all_goals omega
theorem pad_fine {l : List Nat} (n k : Nat) (hn : sizeN (l.getD 0 0) = n) (hk : k + 1 ≤ n) (hn4 : n ≤ 4) (hf : fineAt l k = true) : padLow (lowAt l k) (n - (k + 1)) ≤ 2097152 := by
  have h0 : lowAt l 0 ≤ (if n = 1 then 127 else if n = 2 then 31 else if n = 3 then 15 else if n = 4 then 7 else l.getD 0 0) := by
    rw [← hn]; exact headI_le
  have e1 : lowAt l 1 = lowAt l 0 * 64 + l.getD 1 0 - 128 := rfl
  have e2 : lowAt l 2 = lowAt l 1 * 64 + l.getD 2 0 - 128 := rfl
  have e3 : lowAt l 3 = lowAt l 2 * 64 + l.getD 3 0 - 128 := rfl
  rcases (show n = 1 ∨ n = 2 ∨ n = 3 ∨ n = 4 by omega) with rfl | rfl | rfl | rfl
  all_goals simp only [Nat.reduceEqDiff, if_true, if_false] at h0
  · obtain rfl : k = 0 := by omega
    simp only [padLow, Nat.zero_add, Nat.sub_self]; omega
  · rcases (show k = 0 ∨ k = 1 by omega) with rfl | rfl
    all_goals simp only [padLow, fineAt, Bool.and_eq_true, decide_eq_true_eq, Nat.zero_add, Nat.reduceAdd, Nat.reduceSub] at *; omega
  · rcases (show k = 0 ∨ k = 1 ∨ k = 2 by omega) with rfl | rfl | rfl
    all_goals simp only [padLow, fineAt, Bool.and_eq_true, decide_eq_true_eq, Nat.zero_add, Nat.reduceAdd, Nat.reduceSub] at *; omega
  · rcases (show k = 0 ∨ k = 1 ∨ k = 2 ∨ k = 3 by omega) with rfl | rfl | rfl | rfl
    all_goals simp only [padLow, fineAt, Bool.and_eq_true, decide_eq_true_eq, Nat.zero_add, Nat.reduceAdd, Nat.reduceSub] at *; omega
theorem padLow_nonneg {v : Int} (h : 0 ≤ v) (j : Nat) : 0 ≤ padLow v j := by
  induction j with
  | zero => exact h
  | succ j ih => simp only [padLow]; omega

theorem sizeN_le (x : Nat) : sizeN x ≤ 4 := by
  unfold sizeN
  repeat' split
  all_goals omega
theorem size_lit (x : Nat) (w : World) (z : Int) (hz : (sizeN x : Int) = z) : Calls Try.prog 27 #[.int .u8 x] w fun e w' => e = .returned (.int .i64 z) ∧ w = w' := by
  refine (size_to x w _ rfl).mono ?_
  rintro _ _ ⟨rfl, rfl⟩
  exact ⟨by rw [hz], rfl⟩
/-- What the walk of read reads. -/
structure RdSrc (w : World) (b o m : Nat) (bs : List Nat) : Prop where
  cell : ∀ W, Below w.heap.size w W → ∀ i, i < m → W.cell? ⟨b, o + i, none⟩ = some (.int .u8 (bs.getD i 0 : Nat))
  byte : ∀ i, bs.getD i 0 < 256
  all : ∀ x ∈ bs, x < 256
  len : bs.length = m
theorem rdSrc {w : World} {b o m : Nat} {bs : List Nat} (hs : Sl w w.heap.size .u8 (some ⟨b, o, none⟩) m (bs.map Int.ofNat)) (hlt : ∀ x ∈ bs, x < 256) (h0 : 0 < m) : RdSrc w b o m bs := by
  have hbl : bs.length = m := by simpa using hs.1
  obtain ⟨b', o', e, hb, hc⟩ := hs.2 h0
  simp only [Option.some.injEq, Addr.mk.injEq, and_true] at e
  obtain ⟨rfl, rfl⟩ := e
  refine ⟨fun W hB i hi => ?_, fun j => ?_, hlt, hbl⟩
  · rw [(hB.cell (p := ⟨b, o + i, none⟩) hb), hc i hi, List.getElem?_map, List.getD_eq_getElem?_getD]
    cases bs[i]? <;> rfl
  · rw [List.getD_eq_getElem?_getD]
    cases hj : bs[j]? with
    | none => simp
    | some x => exact hlt x (List.mem_of_getElem? hj)

set_option maxRecDepth 100000 in
set_option maxHeartbeats 4000000 in
theorem read_0 (b o m cap : Nat) (bs : List Nat) (w : World) (r : Int × Nat × Bool) (hr : readN bs = r) (hS : RdSrc w b o m bs) (h0 : 0 < m) (hsz : sizeN (bs.getD 0 0) = 0) :
    Calls Try.prog 25 #[.slice (some ⟨b, o, none⟩) m cap] w fun e w' => e = .returned (.tuple #[.int .i32 r.1, .int .i64 r.2.1, .bool r.2.2]) ∧ Below w.heap.size w w' := by
  obtain ⟨x0, hx0⟩ : ∃ x, bs.getD 0 0 = x := ⟨_, rfl⟩
  have c0 := hS.cell w (Below.refl _ _) 0 h0
  rw [hx0, Nat.add_zero] at c0
  have hm0 : (0 : Int) < m := by omega
  have hm1 : ¬ (m : Int) < 0 := by omega
  obtain rfl : ((0 : Int), 1, false) = r := by
    rw [← hr]; unfold readN; rw [hsz, Nat.zero_min]; rfl
  have hsI : (sizeN x0 : Int) = 0 := by rw [← hx0, hsz]; rfl
  replace hsI := Kp.mk hsI
  clear hr hsz hx0
  go_enter Try.func25, Try.ntmps25
  go_wp2_with fail
  refine (size_lit x0 _ 0 hsI.out).mono ?_
  rintro _ _ ⟨rfl, rfl⟩
  go_wp2_with fail
  go_loopw [6] (fun kk wr => kk = .int .i64 0 ∧ Below w.heap.size w wr) (fun kk _ => (intOf kk).toNat)
  case atStart => exact ⟨rfl, Below.refl _ _⟩
  case round =>
    obtain ⟨rfl, hB⟩ := hrel
    go_wp2_with fail
    exact bodyPost_ret (v := .tuple #[.int .i32 0, .int .i64 1, .bool false]) (by simp [results, Try.results25, go_sem]) rfl ⟨rfl, hB⟩

set_option maxRecDepth 100000 in
set_option maxHeartbeats 4000000 in
theorem read_1 (b o m cap : Nat) (bs : List Nat) (w : World) (r : Int × Nat × Bool) (hr : readN bs = r) (hS : RdSrc w b o m bs) (h0 : 0 < m) (hm : m ≤ 9000) (hsz : sizeN (bs.getD 0 0) = 1) :
    Calls Try.prog 25 #[.slice (some ⟨b, o, none⟩) m cap] w fun e w' => e = .returned (.tuple #[.int .i32 r.1, .int .i64 r.2.1, .bool r.2.2]) ∧ Below w.heap.size w w' := by
  obtain ⟨x0, hx0⟩ : ∃ x, bs.getD 0 0 = x := ⟨_, rfl⟩
  have c0 := hS.cell w (Below.refl _ _) 0 h0
  rw [hx0, Nat.add_zero] at c0
  rw [hx0] at hsz
  have hx8 : x0 < 256 := hx0 ▸ hS.byte 0
  have hl0 : lowAt bs 0 = (x0 : Int) := by
    show headI (sizeN (bs.getD 0 0)) (bs.getD 0 0) = _
    rw [hx0, hsz]; simp [headI]
  have hge : x0 < 128 := by
    unfold sizeN at hsz
    by_cases h1 : x0 < 128
    · rw [if_pos h1] at hsz; omega
    by_cases h2 : 192 ≤ x0 ∧ x0 < 224
    · rw [if_neg h1, if_pos h2] at hsz; omega
    by_cases h3 : 224 ≤ x0 ∧ x0 < 240
    · rw [if_neg h1, if_neg h2, if_pos h3] at hsz; omega
    by_cases h4 : 240 ≤ x0 ∧ x0 < 248
    · rw [if_neg h1, if_neg h2, if_neg h3, if_pos h4] at hsz; omega
    · rw [if_neg h1, if_neg h2, if_neg h3, if_neg h4] at hsz; omega
  have hw0 : wrap64 ((x0 : Int)) = (x0 : Int) := by unfold wrap64; omega
  have hm0 : (0 : Int) < m := by omega
  have hsI : (sizeN x0 : Int) = 1 := by rw [hsz]; rfl
  have hsz2 : sizeN (bs.getD 0 0) = 1 := by rw [hx0]; exact hsz
  have hmin : readK bs 1 (min 1 m) = r := by
    rw [← hr, ← hS.len]; unfold readN; rw [hsz2]
  obtain ⟨k0, hk0⟩ : ∃ k, min 1 m = k := ⟨_, rfl⟩
  rw [hk0] at hmin
  have hkn : k0 ≤ 1 := by omega
  have hkm : k0 ≤ m := by omega
  replace hr := Kp.mk hmin
  replace hx0 := Kp.mk hx0
  replace hsz := Kp.mk hsz2
  replace hl0 := Kp.mk hl0
  replace hsI := Kp.mk hsI
  replace hk0 := Kp.mk hk0
  clear hge hmin hsz2
  by_cases hmn : (m : Int) < 1
  all_goals
    go_enter Try.func25, Try.ntmps25
    go_wp2_with fail
    refine (size_lit x0 _ 1 hsI.out).mono ?_
    rintro _ _ ⟨rfl, rfl⟩
    go_wp2_with fail
    go_loopw [6] (fun kk wr => ∃ k : Nat, kk = .int .i64 k ∧ (k ≤ 1 ∧ k ≤ m) ∧ Kp (readK bs 1 k = r) ∧ Below w.heap.size w wr) (fun kk _ => (intOf kk).toNat)
    case atStart => exact ⟨k0, by (have h9 := hk0.out; congr 1; omega), ⟨hkn, hkm⟩, hr, Below.refl _ _⟩
    case round =>
      obtain ⟨k, rfl, ⟨hk1, hk2⟩, hkr, hB⟩ := hrel
      have w1 : wrap64 ((k : Int) - 1) = (k : Int) - 1 := by unfold wrap64; omega
      rcases k with _ | q
      · obtain ⟨r1, r2, r3⟩ := r
        obtain ⟨rfl, rfl, rfl⟩ : (0 : Int) = r1 ∧ 1 = r2 ∧ false = r3 := by
          have h9 := hkr.out
          simp only [readK, Prod.mk.injEq] at h9; exact h9
        clear hr hkr
        go_wp2_with fail
        exact bodyPost_ret (v := .tuple #[.int .i32 0, .int .i64 1, .bool false]) (by simp [results, Try.results25, go_sem]) rfl ⟨rfl, hB⟩
      · have c1 := hS.cell _ hB 0 h0
        rw [hx0.out, Nat.add_zero] at c1
        have e6 : (0 : Int) < (q : Int) + 1 := by omega
        clear c0
        go_wp2_with fail
        go_loopw [7, 8, 9] (fun lo fi ii wr => ∃ i j : Nat, lo = .int .i64 (lowAt bs i) ∧ fi = .bool (fineAt bs i) ∧ ii = .int .i64 j ∧ (j = i + 1 ∧ i ≤ q) ∧ Below w.heap.size w wr) (fun _ _ ii _ => 10 - (intOf ii).toNat)
        case atStart => exact ⟨0, 1, by rw [hl0.out], rfl, rfl, ⟨rfl, Nat.zero_le _⟩, hB⟩
        case round =>
          obtain ⟨i, j, rfl, rfl, rfl, ⟨hij, hi⟩, hB2⟩ := hrel
          by_cases hiq : i < q
          · have c2 := hS.cell _ hB2 j (by omega)
            obtain ⟨y, hy⟩ : ∃ y, bs.getD j 0 = y := ⟨_, rfl⟩
            have hy8 : y < 256 := hy ▸ hS.byte j
            have hbd := lowAt_bd hS.all i (by omega)
            have hla : lowAt bs (i + 1) = lowAt bs i * 64 + y - 128 := by rw [← hy, hij]; rfl
            have hfa : fineAt bs (i + 1) = (fineAt bs i && decide (128 ≤ y ∧ y ≤ 191)) := by rw [← hy, hij]; rfl
            rw [hy] at c2
            obtain ⟨v, hv⟩ : ∃ v, lowAt bs i = v := ⟨_, rfl⟩
            obtain ⟨fv, hfv⟩ : ∃ v, fineAt bs i = v := ⟨_, rfl⟩
            rw [hv] at hbd hla
            rw [hfv] at hfa
            have m4 : (j : Int) < (q : Int) + 1 := by omega
            have m5 : (j : Int) < m := by omega
            rw [hv, hfv]
            have hcase : (128 ≤ y ∧ y ≤ 191 ∧ ¬ (y : Int) < 128 ∧ ¬ 191 < (y : Int)) ∨ (¬ (128 ≤ y ∧ y ≤ 191) ∧ (y : Int) < 128) ∨ (¬ (128 ≤ y ∧ y ≤ 191) ∧ ¬ (y : Int) < 128 ∧ 191 < (y : Int)) := by omega
            replace hla := Kp.mk hla
            replace hfa := Kp.mk hfa
            obtain ⟨hbd1, hbd2⟩ := hbd
            replace hij := Kp.mk hij
            clear hv hfv hy c1
            rcases hcase with ⟨y1, y2, y3, y4⟩ | ⟨y1, y3⟩ | ⟨y1, y3, y4⟩
            · have hd := Kp.mk (decide_eq_true (⟨y1, y2⟩ : 128 ≤ y ∧ y ≤ 191))
              clear y1 y2
              go_wp2_with fail
              go_roundw
              case rel => exact ⟨i + 1, j + 1, by rw [hla.out], by rw [hfa.out, hd.out, Bool.and_true], congrArg (Value.int .i64) (by omega), ⟨by (have := hij.out; omega), by omega⟩, hB2⟩
              case measure => simp [intOf] <;> (have := hij.out; omega)
            · have hd := Kp.mk (decide_eq_false y1)
              clear y1
              go_wp2_with fail
              go_roundw
              case rel => exact ⟨i + 1, j + 1, by rw [hla.out], by rw [hfa.out, hd.out, Bool.and_false], congrArg (Value.int .i64) (by omega), ⟨by (have := hij.out; omega), by omega⟩, hB2⟩
              case measure => simp [intOf] <;> (have := hij.out; omega)
            · have hd := Kp.mk (decide_eq_false y1)
              clear y1
              go_wp2_with fail
              go_roundw
              case rel => exact ⟨i + 1, j + 1, by rw [hla.out], by rw [hfa.out, hd.out, Bool.and_false], congrArg (Value.int .i64) (by omega), ⟨by (have := hij.out; omega), by omega⟩, hB2⟩
              case measure => simp [intOf] <;> (have := hij.out; omega)
          · obtain rfl : i = q := by omega
            have m4 : ¬ (j : Int) < (i : Int) + 1 := by omega
            go_wp2_with fail
            go_loopw [7, 10, 11] (fun lo hh ii wr => ∃ t u : Nat, lo = .int .i64 (padLow (lowAt bs i) t) ∧ hh = .int .i64 (padHigh (lowAt bs i) t) ∧ ii = .int .i64 u ∧ (u = i + 1 + t ∧ u ≤ 1) ∧ Below w.heap.size w wr) (fun _ _ ii _ => 10 - (intOf ii).toNat)
            case atStart => exact ⟨0, i + 1, rfl, rfl, congrArg (Value.int .i64) (by omega), ⟨rfl, by omega⟩, hB2⟩
            case round =>
              obtain ⟨t, u, rfl, rfl, rfl, ⟨hu, hu2⟩, hB3⟩ := hrel
              obtain ⟨v, hv⟩ : ∃ v, lowAt bs i = v := ⟨_, rfl⟩
              have hbd := lowAt_bd hS.all i (by omega)
              rw [hv] at hbd
              by_cases hun : u < 1
              · have hpd := pad_bd v t (by omega) hbd.1 hbd.2
                obtain ⟨pl, hpl⟩ : ∃ x, padLow v t = x := ⟨_, rfl⟩
                obtain ⟨ph, hph⟩ : ∃ x, padHigh v t = x := ⟨_, rfl⟩
                have hpl1 : padLow v (t + 1) = pl * 64 := by rw [← hpl]; rfl
                have hph1 : padHigh v (t + 1) = ph * 64 + 63 := by rw [← hph]; rfl
                rw [hpl, hph] at hpd
                obtain ⟨p1, p2, p3, p4⟩ := hpd
                have m5 : (u : Int) < 1 := by omega
                rw [hv, hpl, hph]
                replace hpl1 := Kp.mk hpl1
                replace hph1 := Kp.mk hph1
                replace hu := Kp.mk hu
                replace hv := Kp.mk hv
                clear hpl hph hbd hB2 c1
                go_wp2_with fail
                go_roundw
                case rel => exact ⟨t + 1, u + 1, by rw [hpl1.out], by rw [hph1.out], congrArg (Value.int .i64) (by omega), ⟨by (have := hu.out; omega), by omega⟩, hB3⟩
                case measure => simp [intOf] <;> (have := hu.out; omega)
              · obtain rfl : u = 1 := by omega
                obtain rfl : t = 1 - (i + 1) := by omega
                have hrk : (if fineAt bs i && anyB (padLow v (1 - (i + 1))) (padHigh v (1 - (i + 1))) 1 then (padLow v (1 - (i + 1)), i + 1, decide (i + 1 = 1)) else readK bs 1 i) = r := by
                  have h9 := hkr.out
                  rw [readK, hv] at h9; exact h9
                rw [hv]
                by_cases hf : fineAt bs i = true
                · have hlo0 := padLow_nonneg (hv ▸ lowAt_fine hS.all i hf) (1 - (i + 1))
                  have hlo1 := hv ▸ pad_fine 1 i hsz.out (by omega) (by omega) hf
                  have hsu := pad_surr v (1 - (i + 1)) (by omega)
                  rw [hf, Bool.true_and] at hrk
                  rw [hf]
                  obtain ⟨pl, hpl⟩ : ∃ x, padLow v (1 - (i + 1)) = x := ⟨_, rfl⟩
                  obtain ⟨ph, hph⟩ : ∃ x, padHigh v (1 - (i + 1)) = x := ⟨_, rfl⟩
                  rw [hpl] at hlo0 hlo1 hsu hrk
                  rw [hph] at hsu hrk
                  rw [hpl, hph]
                  have hany := fun (W : World) (a : Bool) (ha : anyB pl ph 1 = a) => any_1 pl ph W a ha hlo0 (by omega)
                  replace hany := Kp.mk hany
                  obtain ⟨dv, hdv⟩ : ∃ d, decide (i + 1 = 1) = d := ⟨_, rfl⟩
                  rw [hdv] at hrk
                  replace hdv := Kp.mk hdv
                  have hw32 : wrap32 pl = pl := by unfold wrap32; omega
                  replace hrk := Kp.mk hrk
                  clear hpl hph hsu hlo0 hlo1 hbd hv hf hB2 c1 hu hu2 hun
                  cases ha : anyB pl ph 1 with
                  | true =>
                    replace ha := Kp.mk ha
                    go_wp2_with fail
                    refine (hany.out _ true ha.out).mono ?_
                    rintro _ w5 ⟨rfl, hB5⟩
                    have hB6 := hB3.trans (hB5.mono hB3.size)
                    have hres : r = (pl, i + 1, dv) := by
                      have h9 := hrk.out
                      rw [ha.out, if_pos rfl] at h9; exact h9.symm
                    subst hres
                    by_cases hin : (i : Int) + 1 = 1
                    · have hdt : Kp (true = dv) := ⟨by rw [← hdv.out]; exact (decide_eq_true (by omega)).symm⟩
                      have hbq : (((i : Int) + 1) == 1) = true := by simp; omega
                      clear hrk hr hkr hin hany
                      go_wp2_with fail
                      exact bodyPost_ret (v := .tuple #[.int .i32 pl, .int .i64 ((i : Int) + 1), .bool true]) (by simp [results, Try.results25, go_sem]) rfl ⟨by rw [← hdt.out], hB6⟩
                    · have hdt : Kp (false = dv) := ⟨by rw [← hdv.out]; exact (decide_eq_false (by omega)).symm⟩
                      have hbq : (((i : Int) + 1) == 1) = false := by simp; omega
                      clear hrk hr hkr hin hany
                      go_wp2_with fail
                      exact bodyPost_ret (v := .tuple #[.int .i32 pl, .int .i64 ((i : Int) + 1), .bool false]) (by simp [results, Try.results25, go_sem]) rfl ⟨by rw [← hdt.out], hB6⟩
                  | false =>
                    replace ha := Kp.mk ha
                    have hrk2 : Kp (readK bs 1 i = r) := ⟨by have h9 := hrk.out; rw [ha.out, if_neg (by simp)] at h9; exact h9⟩
                    go_wp2_with fail
                    refine (hany.out _ false ha.out).mono ?_
                    rintro _ w5 ⟨rfl, hB5⟩
                    have hB6 := hB3.trans (hB5.mono hB3.size)
                    clear hrk hr hkr hany
                    go_wp2_with fail
                    go_roundw
                    case rel => exact ⟨i, congrArg (Value.int .i64) (by omega), ⟨by omega, by omega⟩, hrk2, hB6⟩
                    case measure => simp [intOf] <;> omega
                · simp only [Bool.not_eq_true] at hf
                  have hrk2 : Kp (readK bs 1 i = r) := ⟨by rw [hf, Bool.false_and, if_neg (by simp)] at hrk; exact hrk⟩
                  rw [hf]
                  obtain ⟨pl, hpl⟩ : ∃ x, padLow v (1 - (i + 1)) = x := ⟨_, rfl⟩
                  obtain ⟨ph, hph⟩ : ∃ x, padHigh v (1 - (i + 1)) = x := ⟨_, rfl⟩
                  rw [hpl, hph]
                  clear hrk hr hkr hf hv hbd hpl hph hB2 c1 hu hu2 hun
                  go_wp2_with fail
                  go_roundw
                  case rel => exact ⟨i, congrArg (Value.int .i64) (by omega), ⟨by omega, by omega⟩, hrk2, hB3⟩
                  case measure => simp [intOf] <;> omega

set_option maxRecDepth 100000 in
set_option maxHeartbeats 4000000 in
theorem read_2 (b o m cap : Nat) (bs : List Nat) (w : World) (r : Int × Nat × Bool) (hr : readN bs = r) (hS : RdSrc w b o m bs) (h0 : 0 < m) (hm : m ≤ 9000) (hsz : sizeN (bs.getD 0 0) = 2) :
    Calls Try.prog 25 #[.slice (some ⟨b, o, none⟩) m cap] w fun e w' => e = .returned (.tuple #[.int .i32 r.1, .int .i64 r.2.1, .bool r.2.2]) ∧ Below w.heap.size w w' := by
  obtain ⟨x0, hx0⟩ : ∃ x, bs.getD 0 0 = x := ⟨_, rfl⟩
  have c0 := hS.cell w (Below.refl _ _) 0 h0
  rw [hx0, Nat.add_zero] at c0
  rw [hx0] at hsz
  have hx8 : x0 < 256 := hx0 ▸ hS.byte 0
  have hl0 : lowAt bs 0 = (x0 : Int) - 192 := by
    show headI (sizeN (bs.getD 0 0)) (bs.getD 0 0) = _
    rw [hx0, hsz]; simp [headI]
  have hge : 192 ≤ x0 ∧ x0 < 224 := by
    unfold sizeN at hsz
    by_cases h1 : x0 < 128
    · rw [if_pos h1] at hsz; omega
    by_cases h2 : 192 ≤ x0 ∧ x0 < 224
    · rw [if_neg h1, if_pos h2] at hsz; omega
    by_cases h3 : 224 ≤ x0 ∧ x0 < 240
    · rw [if_neg h1, if_neg h2, if_pos h3] at hsz; omega
    by_cases h4 : 240 ≤ x0 ∧ x0 < 248
    · rw [if_neg h1, if_neg h2, if_neg h3, if_pos h4] at hsz; omega
    · rw [if_neg h1, if_neg h2, if_neg h3, if_neg h4] at hsz; omega
  have hw0 : wrap64 ((x0 : Int) - 192) = (x0 : Int) - 192 := by unfold wrap64; omega
  have hm0 : (0 : Int) < m := by omega
  have hsI : (sizeN x0 : Int) = 2 := by rw [hsz]; rfl
  have hsz2 : sizeN (bs.getD 0 0) = 2 := by rw [hx0]; exact hsz
  have hmin : readK bs 2 (min 2 m) = r := by
    rw [← hr, ← hS.len]; unfold readN; rw [hsz2]
  obtain ⟨k0, hk0⟩ : ∃ k, min 2 m = k := ⟨_, rfl⟩
  rw [hk0] at hmin
  have hkn : k0 ≤ 2 := by omega
  have hkm : k0 ≤ m := by omega
  replace hr := Kp.mk hmin
  replace hx0 := Kp.mk hx0
  replace hsz := Kp.mk hsz2
  replace hl0 := Kp.mk hl0
  replace hsI := Kp.mk hsI
  replace hk0 := Kp.mk hk0
  clear hge hmin hsz2
  by_cases hmn : (m : Int) < 2
  all_goals
    go_enter Try.func25, Try.ntmps25
    go_wp2_with fail
    refine (size_lit x0 _ 2 hsI.out).mono ?_
    rintro _ _ ⟨rfl, rfl⟩
    go_wp2_with fail
    go_loopw [6] (fun kk wr => ∃ k : Nat, kk = .int .i64 k ∧ (k ≤ 2 ∧ k ≤ m) ∧ Kp (readK bs 2 k = r) ∧ Below w.heap.size w wr) (fun kk _ => (intOf kk).toNat)
    case atStart => exact ⟨k0, by (have h9 := hk0.out; congr 1; omega), ⟨hkn, hkm⟩, hr, Below.refl _ _⟩
    case round =>
      obtain ⟨k, rfl, ⟨hk1, hk2⟩, hkr, hB⟩ := hrel
      have w1 : wrap64 ((k : Int) - 1) = (k : Int) - 1 := by unfold wrap64; omega
      rcases k with _ | q
      · obtain ⟨r1, r2, r3⟩ := r
        obtain ⟨rfl, rfl, rfl⟩ : (0 : Int) = r1 ∧ 1 = r2 ∧ false = r3 := by
          have h9 := hkr.out
          simp only [readK, Prod.mk.injEq] at h9; exact h9
        clear hr hkr
        go_wp2_with fail
        exact bodyPost_ret (v := .tuple #[.int .i32 0, .int .i64 1, .bool false]) (by simp [results, Try.results25, go_sem]) rfl ⟨rfl, hB⟩
      · have c1 := hS.cell _ hB 0 h0
        rw [hx0.out, Nat.add_zero] at c1
        have e6 : (0 : Int) < (q : Int) + 1 := by omega
        clear c0
        go_wp2_with fail
        go_loopw [7, 8, 9] (fun lo fi ii wr => ∃ i j : Nat, lo = .int .i64 (lowAt bs i) ∧ fi = .bool (fineAt bs i) ∧ ii = .int .i64 j ∧ (j = i + 1 ∧ i ≤ q) ∧ Below w.heap.size w wr) (fun _ _ ii _ => 10 - (intOf ii).toNat)
        case atStart => exact ⟨0, 1, by rw [hl0.out], rfl, rfl, ⟨rfl, Nat.zero_le _⟩, hB⟩
        case round =>
          obtain ⟨i, j, rfl, rfl, rfl, ⟨hij, hi⟩, hB2⟩ := hrel
          by_cases hiq : i < q
          · have c2 := hS.cell _ hB2 j (by omega)
            obtain ⟨y, hy⟩ : ∃ y, bs.getD j 0 = y := ⟨_, rfl⟩
            have hy8 : y < 256 := hy ▸ hS.byte j
            have hbd := lowAt_bd hS.all i (by omega)
            have hla : lowAt bs (i + 1) = lowAt bs i * 64 + y - 128 := by rw [← hy, hij]; rfl
            have hfa : fineAt bs (i + 1) = (fineAt bs i && decide (128 ≤ y ∧ y ≤ 191)) := by rw [← hy, hij]; rfl
            rw [hy] at c2
            obtain ⟨v, hv⟩ : ∃ v, lowAt bs i = v := ⟨_, rfl⟩
            obtain ⟨fv, hfv⟩ : ∃ v, fineAt bs i = v := ⟨_, rfl⟩
            rw [hv] at hbd hla
            rw [hfv] at hfa
            have m4 : (j : Int) < (q : Int) + 1 := by omega
            have m5 : (j : Int) < m := by omega
            rw [hv, hfv]
            have hcase : (128 ≤ y ∧ y ≤ 191 ∧ ¬ (y : Int) < 128 ∧ ¬ 191 < (y : Int)) ∨ (¬ (128 ≤ y ∧ y ≤ 191) ∧ (y : Int) < 128) ∨ (¬ (128 ≤ y ∧ y ≤ 191) ∧ ¬ (y : Int) < 128 ∧ 191 < (y : Int)) := by omega
            replace hla := Kp.mk hla
            replace hfa := Kp.mk hfa
            obtain ⟨hbd1, hbd2⟩ := hbd
            replace hij := Kp.mk hij
            clear hv hfv hy c1
            rcases hcase with ⟨y1, y2, y3, y4⟩ | ⟨y1, y3⟩ | ⟨y1, y3, y4⟩
            · have hd := Kp.mk (decide_eq_true (⟨y1, y2⟩ : 128 ≤ y ∧ y ≤ 191))
              clear y1 y2
              go_wp2_with fail
              go_roundw
              case rel => exact ⟨i + 1, j + 1, by rw [hla.out], by rw [hfa.out, hd.out, Bool.and_true], congrArg (Value.int .i64) (by omega), ⟨by (have := hij.out; omega), by omega⟩, hB2⟩
              case measure => simp [intOf] <;> (have := hij.out; omega)
            · have hd := Kp.mk (decide_eq_false y1)
              clear y1
              go_wp2_with fail
              go_roundw
              case rel => exact ⟨i + 1, j + 1, by rw [hla.out], by rw [hfa.out, hd.out, Bool.and_false], congrArg (Value.int .i64) (by omega), ⟨by (have := hij.out; omega), by omega⟩, hB2⟩
              case measure => simp [intOf] <;> (have := hij.out; omega)
            · have hd := Kp.mk (decide_eq_false y1)
              clear y1
              go_wp2_with fail
              go_roundw
              case rel => exact ⟨i + 1, j + 1, by rw [hla.out], by rw [hfa.out, hd.out, Bool.and_false], congrArg (Value.int .i64) (by omega), ⟨by (have := hij.out; omega), by omega⟩, hB2⟩
              case measure => simp [intOf] <;> (have := hij.out; omega)
          · obtain rfl : i = q := by omega
            have m4 : ¬ (j : Int) < (i : Int) + 1 := by omega
            go_wp2_with fail
            go_loopw [7, 10, 11] (fun lo hh ii wr => ∃ t u : Nat, lo = .int .i64 (padLow (lowAt bs i) t) ∧ hh = .int .i64 (padHigh (lowAt bs i) t) ∧ ii = .int .i64 u ∧ (u = i + 1 + t ∧ u ≤ 2) ∧ Below w.heap.size w wr) (fun _ _ ii _ => 10 - (intOf ii).toNat)
            case atStart => exact ⟨0, i + 1, rfl, rfl, congrArg (Value.int .i64) (by omega), ⟨rfl, by omega⟩, hB2⟩
            case round =>
              obtain ⟨t, u, rfl, rfl, rfl, ⟨hu, hu2⟩, hB3⟩ := hrel
              obtain ⟨v, hv⟩ : ∃ v, lowAt bs i = v := ⟨_, rfl⟩
              have hbd := lowAt_bd hS.all i (by omega)
              rw [hv] at hbd
              by_cases hun : u < 2
              · have hpd := pad_bd v t (by omega) hbd.1 hbd.2
                obtain ⟨pl, hpl⟩ : ∃ x, padLow v t = x := ⟨_, rfl⟩
                obtain ⟨ph, hph⟩ : ∃ x, padHigh v t = x := ⟨_, rfl⟩
                have hpl1 : padLow v (t + 1) = pl * 64 := by rw [← hpl]; rfl
                have hph1 : padHigh v (t + 1) = ph * 64 + 63 := by rw [← hph]; rfl
                rw [hpl, hph] at hpd
                obtain ⟨p1, p2, p3, p4⟩ := hpd
                have m5 : (u : Int) < 2 := by omega
                rw [hv, hpl, hph]
                replace hpl1 := Kp.mk hpl1
                replace hph1 := Kp.mk hph1
                replace hu := Kp.mk hu
                replace hv := Kp.mk hv
                clear hpl hph hbd hB2 c1
                go_wp2_with fail
                go_roundw
                case rel => exact ⟨t + 1, u + 1, by rw [hpl1.out], by rw [hph1.out], congrArg (Value.int .i64) (by omega), ⟨by (have := hu.out; omega), by omega⟩, hB3⟩
                case measure => simp [intOf] <;> (have := hu.out; omega)
              · obtain rfl : u = 2 := by omega
                obtain rfl : t = 2 - (i + 1) := by omega
                have hrk : (if fineAt bs i && anyB (padLow v (2 - (i + 1))) (padHigh v (2 - (i + 1))) 2 then (padLow v (2 - (i + 1)), i + 1, decide (i + 1 = 2)) else readK bs 2 i) = r := by
                  have h9 := hkr.out
                  rw [readK, hv] at h9; exact h9
                rw [hv]
                by_cases hf : fineAt bs i = true
                · have hlo0 := padLow_nonneg (hv ▸ lowAt_fine hS.all i hf) (2 - (i + 1))
                  have hlo1 := hv ▸ pad_fine 2 i hsz.out (by omega) (by omega) hf
                  have hsu := pad_surr v (2 - (i + 1)) (by omega)
                  rw [hf, Bool.true_and] at hrk
                  rw [hf]
                  obtain ⟨pl, hpl⟩ : ∃ x, padLow v (2 - (i + 1)) = x := ⟨_, rfl⟩
                  obtain ⟨ph, hph⟩ : ∃ x, padHigh v (2 - (i + 1)) = x := ⟨_, rfl⟩
                  rw [hpl] at hlo0 hlo1 hsu hrk
                  rw [hph] at hsu hrk
                  rw [hpl, hph]
                  have hany := fun (W : World) (a : Bool) (ha : anyB pl ph 2 = a) => any_2 pl ph W a ha hlo0 (by omega)
                  replace hany := Kp.mk hany
                  obtain ⟨dv, hdv⟩ : ∃ d, decide (i + 1 = 2) = d := ⟨_, rfl⟩
                  rw [hdv] at hrk
                  replace hdv := Kp.mk hdv
                  have hw32 : wrap32 pl = pl := by unfold wrap32; omega
                  replace hrk := Kp.mk hrk
                  clear hpl hph hsu hlo0 hlo1 hbd hv hf hB2 c1 hu hu2 hun
                  cases ha : anyB pl ph 2 with
                  | true =>
                    replace ha := Kp.mk ha
                    go_wp2_with fail
                    refine (hany.out _ true ha.out).mono ?_
                    rintro _ w5 ⟨rfl, hB5⟩
                    have hB6 := hB3.trans (hB5.mono hB3.size)
                    have hres : r = (pl, i + 1, dv) := by
                      have h9 := hrk.out
                      rw [ha.out, if_pos rfl] at h9; exact h9.symm
                    subst hres
                    by_cases hin : (i : Int) + 1 = 2
                    · have hdt : Kp (true = dv) := ⟨by rw [← hdv.out]; exact (decide_eq_true (by omega)).symm⟩
                      have hbq : (((i : Int) + 1) == 2) = true := by simp; omega
                      clear hrk hr hkr hin hany
                      go_wp2_with fail
                      exact bodyPost_ret (v := .tuple #[.int .i32 pl, .int .i64 ((i : Int) + 1), .bool true]) (by simp [results, Try.results25, go_sem]) rfl ⟨by rw [← hdt.out], hB6⟩
                    · have hdt : Kp (false = dv) := ⟨by rw [← hdv.out]; exact (decide_eq_false (by omega)).symm⟩
                      have hbq : (((i : Int) + 1) == 2) = false := by simp; omega
                      clear hrk hr hkr hin hany
                      go_wp2_with fail
                      exact bodyPost_ret (v := .tuple #[.int .i32 pl, .int .i64 ((i : Int) + 1), .bool false]) (by simp [results, Try.results25, go_sem]) rfl ⟨by rw [← hdt.out], hB6⟩
                  | false =>
                    replace ha := Kp.mk ha
                    have hrk2 : Kp (readK bs 2 i = r) := ⟨by have h9 := hrk.out; rw [ha.out, if_neg (by simp)] at h9; exact h9⟩
                    go_wp2_with fail
                    refine (hany.out _ false ha.out).mono ?_
                    rintro _ w5 ⟨rfl, hB5⟩
                    have hB6 := hB3.trans (hB5.mono hB3.size)
                    clear hrk hr hkr hany
                    go_wp2_with fail
                    go_roundw
                    case rel => exact ⟨i, congrArg (Value.int .i64) (by omega), ⟨by omega, by omega⟩, hrk2, hB6⟩
                    case measure => simp [intOf] <;> omega
                · simp only [Bool.not_eq_true] at hf
                  have hrk2 : Kp (readK bs 2 i = r) := ⟨by rw [hf, Bool.false_and, if_neg (by simp)] at hrk; exact hrk⟩
                  rw [hf]
                  obtain ⟨pl, hpl⟩ : ∃ x, padLow v (2 - (i + 1)) = x := ⟨_, rfl⟩
                  obtain ⟨ph, hph⟩ : ∃ x, padHigh v (2 - (i + 1)) = x := ⟨_, rfl⟩
                  rw [hpl, hph]
                  clear hrk hr hkr hf hv hbd hpl hph hB2 c1 hu hu2 hun
                  go_wp2_with fail
                  go_roundw
                  case rel => exact ⟨i, congrArg (Value.int .i64) (by omega), ⟨by omega, by omega⟩, hrk2, hB3⟩
                  case measure => simp [intOf] <;> omega

set_option maxRecDepth 100000 in
set_option maxHeartbeats 4000000 in
theorem read_3 (b o m cap : Nat) (bs : List Nat) (w : World) (r : Int × Nat × Bool) (hr : readN bs = r) (hS : RdSrc w b o m bs) (h0 : 0 < m) (hm : m ≤ 9000) (hsz : sizeN (bs.getD 0 0) = 3) :
    Calls Try.prog 25 #[.slice (some ⟨b, o, none⟩) m cap] w fun e w' => e = .returned (.tuple #[.int .i32 r.1, .int .i64 r.2.1, .bool r.2.2]) ∧ Below w.heap.size w w' := by
  obtain ⟨x0, hx0⟩ : ∃ x, bs.getD 0 0 = x := ⟨_, rfl⟩
  have c0 := hS.cell w (Below.refl _ _) 0 h0
  rw [hx0, Nat.add_zero] at c0
  rw [hx0] at hsz
  have hx8 : x0 < 256 := hx0 ▸ hS.byte 0
  have hl0 : lowAt bs 0 = (x0 : Int) - 224 := by
    show headI (sizeN (bs.getD 0 0)) (bs.getD 0 0) = _
    rw [hx0, hsz]; simp [headI]
  have hge : 224 ≤ x0 ∧ x0 < 240 := by
    unfold sizeN at hsz
    by_cases h1 : x0 < 128
    · rw [if_pos h1] at hsz; omega
    by_cases h2 : 192 ≤ x0 ∧ x0 < 224
    · rw [if_neg h1, if_pos h2] at hsz; omega
    by_cases h3 : 224 ≤ x0 ∧ x0 < 240
    · rw [if_neg h1, if_neg h2, if_pos h3] at hsz; omega
    by_cases h4 : 240 ≤ x0 ∧ x0 < 248
    · rw [if_neg h1, if_neg h2, if_neg h3, if_pos h4] at hsz; omega
    · rw [if_neg h1, if_neg h2, if_neg h3, if_neg h4] at hsz; omega
  have hw0 : wrap64 ((x0 : Int) - 224) = (x0 : Int) - 224 := by unfold wrap64; omega
  have hm0 : (0 : Int) < m := by omega
  have hsI : (sizeN x0 : Int) = 3 := by rw [hsz]; rfl
  have hsz2 : sizeN (bs.getD 0 0) = 3 := by rw [hx0]; exact hsz
  have hmin : readK bs 3 (min 3 m) = r := by
    rw [← hr, ← hS.len]; unfold readN; rw [hsz2]
  obtain ⟨k0, hk0⟩ : ∃ k, min 3 m = k := ⟨_, rfl⟩
  rw [hk0] at hmin
  have hkn : k0 ≤ 3 := by omega
  have hkm : k0 ≤ m := by omega
  replace hr := Kp.mk hmin
  replace hx0 := Kp.mk hx0
  replace hsz := Kp.mk hsz2
  replace hl0 := Kp.mk hl0
  replace hsI := Kp.mk hsI
  replace hk0 := Kp.mk hk0
  clear hge hmin hsz2
  by_cases hmn : (m : Int) < 3
  all_goals
    go_enter Try.func25, Try.ntmps25
    go_wp2_with fail
    refine (size_lit x0 _ 3 hsI.out).mono ?_
    rintro _ _ ⟨rfl, rfl⟩
    go_wp2_with fail
    go_loopw [6] (fun kk wr => ∃ k : Nat, kk = .int .i64 k ∧ (k ≤ 3 ∧ k ≤ m) ∧ Kp (readK bs 3 k = r) ∧ Below w.heap.size w wr) (fun kk _ => (intOf kk).toNat)
    case atStart => exact ⟨k0, by (have h9 := hk0.out; congr 1; omega), ⟨hkn, hkm⟩, hr, Below.refl _ _⟩
    case round =>
      obtain ⟨k, rfl, ⟨hk1, hk2⟩, hkr, hB⟩ := hrel
      have w1 : wrap64 ((k : Int) - 1) = (k : Int) - 1 := by unfold wrap64; omega
      rcases k with _ | q
      · obtain ⟨r1, r2, r3⟩ := r
        obtain ⟨rfl, rfl, rfl⟩ : (0 : Int) = r1 ∧ 1 = r2 ∧ false = r3 := by
          have h9 := hkr.out
          simp only [readK, Prod.mk.injEq] at h9; exact h9
        clear hr hkr
        go_wp2_with fail
        exact bodyPost_ret (v := .tuple #[.int .i32 0, .int .i64 1, .bool false]) (by simp [results, Try.results25, go_sem]) rfl ⟨rfl, hB⟩
      · have c1 := hS.cell _ hB 0 h0
        rw [hx0.out, Nat.add_zero] at c1
        have e6 : (0 : Int) < (q : Int) + 1 := by omega
        clear c0
        go_wp2_with fail
        go_loopw [7, 8, 9] (fun lo fi ii wr => ∃ i j : Nat, lo = .int .i64 (lowAt bs i) ∧ fi = .bool (fineAt bs i) ∧ ii = .int .i64 j ∧ (j = i + 1 ∧ i ≤ q) ∧ Below w.heap.size w wr) (fun _ _ ii _ => 10 - (intOf ii).toNat)
        case atStart => exact ⟨0, 1, by rw [hl0.out], rfl, rfl, ⟨rfl, Nat.zero_le _⟩, hB⟩
        case round =>
          obtain ⟨i, j, rfl, rfl, rfl, ⟨hij, hi⟩, hB2⟩ := hrel
          by_cases hiq : i < q
          · have c2 := hS.cell _ hB2 j (by omega)
            obtain ⟨y, hy⟩ : ∃ y, bs.getD j 0 = y := ⟨_, rfl⟩
            have hy8 : y < 256 := hy ▸ hS.byte j
            have hbd := lowAt_bd hS.all i (by omega)
            have hla : lowAt bs (i + 1) = lowAt bs i * 64 + y - 128 := by rw [← hy, hij]; rfl
            have hfa : fineAt bs (i + 1) = (fineAt bs i && decide (128 ≤ y ∧ y ≤ 191)) := by rw [← hy, hij]; rfl
            rw [hy] at c2
            obtain ⟨v, hv⟩ : ∃ v, lowAt bs i = v := ⟨_, rfl⟩
            obtain ⟨fv, hfv⟩ : ∃ v, fineAt bs i = v := ⟨_, rfl⟩
            rw [hv] at hbd hla
            rw [hfv] at hfa
            have m4 : (j : Int) < (q : Int) + 1 := by omega
            have m5 : (j : Int) < m := by omega
            rw [hv, hfv]
            have hcase : (128 ≤ y ∧ y ≤ 191 ∧ ¬ (y : Int) < 128 ∧ ¬ 191 < (y : Int)) ∨ (¬ (128 ≤ y ∧ y ≤ 191) ∧ (y : Int) < 128) ∨ (¬ (128 ≤ y ∧ y ≤ 191) ∧ ¬ (y : Int) < 128 ∧ 191 < (y : Int)) := by omega
            replace hla := Kp.mk hla
            replace hfa := Kp.mk hfa
            obtain ⟨hbd1, hbd2⟩ := hbd
            replace hij := Kp.mk hij
            clear hv hfv hy c1
            rcases hcase with ⟨y1, y2, y3, y4⟩ | ⟨y1, y3⟩ | ⟨y1, y3, y4⟩
            · have hd := Kp.mk (decide_eq_true (⟨y1, y2⟩ : 128 ≤ y ∧ y ≤ 191))
              clear y1 y2
              go_wp2_with fail
              go_roundw
              case rel => exact ⟨i + 1, j + 1, by rw [hla.out], by rw [hfa.out, hd.out, Bool.and_true], congrArg (Value.int .i64) (by omega), ⟨by (have := hij.out; omega), by omega⟩, hB2⟩
              case measure => simp [intOf] <;> (have := hij.out; omega)
            · have hd := Kp.mk (decide_eq_false y1)
              clear y1
              go_wp2_with fail
              go_roundw
              case rel => exact ⟨i + 1, j + 1, by rw [hla.out], by rw [hfa.out, hd.out, Bool.and_false], congrArg (Value.int .i64) (by omega), ⟨by (have := hij.out; omega), by omega⟩, hB2⟩
              case measure => simp [intOf] <;> (have := hij.out; omega)
            · have hd := Kp.mk (decide_eq_false y1)
              clear y1
              go_wp2_with fail
              go_roundw
              case rel => exact ⟨i + 1, j + 1, by rw [hla.out], by rw [hfa.out, hd.out, Bool.and_false], congrArg (Value.int .i64) (by omega), ⟨by (have := hij.out; omega), by omega⟩, hB2⟩
              case measure => simp [intOf] <;> (have := hij.out; omega)
          · obtain rfl : i = q := by omega
            have m4 : ¬ (j : Int) < (i : Int) + 1 := by omega
            go_wp2_with fail
            go_loopw [7, 10, 11] (fun lo hh ii wr => ∃ t u : Nat, lo = .int .i64 (padLow (lowAt bs i) t) ∧ hh = .int .i64 (padHigh (lowAt bs i) t) ∧ ii = .int .i64 u ∧ (u = i + 1 + t ∧ u ≤ 3) ∧ Below w.heap.size w wr) (fun _ _ ii _ => 10 - (intOf ii).toNat)
            case atStart => exact ⟨0, i + 1, rfl, rfl, congrArg (Value.int .i64) (by omega), ⟨rfl, by omega⟩, hB2⟩
            case round =>
              obtain ⟨t, u, rfl, rfl, rfl, ⟨hu, hu2⟩, hB3⟩ := hrel
              obtain ⟨v, hv⟩ : ∃ v, lowAt bs i = v := ⟨_, rfl⟩
              have hbd := lowAt_bd hS.all i (by omega)
              rw [hv] at hbd
              by_cases hun : u < 3
              · have hpd := pad_bd v t (by omega) hbd.1 hbd.2
                obtain ⟨pl, hpl⟩ : ∃ x, padLow v t = x := ⟨_, rfl⟩
                obtain ⟨ph, hph⟩ : ∃ x, padHigh v t = x := ⟨_, rfl⟩
                have hpl1 : padLow v (t + 1) = pl * 64 := by rw [← hpl]; rfl
                have hph1 : padHigh v (t + 1) = ph * 64 + 63 := by rw [← hph]; rfl
                rw [hpl, hph] at hpd
                obtain ⟨p1, p2, p3, p4⟩ := hpd
                have m5 : (u : Int) < 3 := by omega
                rw [hv, hpl, hph]
                replace hpl1 := Kp.mk hpl1
                replace hph1 := Kp.mk hph1
                replace hu := Kp.mk hu
                replace hv := Kp.mk hv
                clear hpl hph hbd hB2 c1
                go_wp2_with fail
                go_roundw
                case rel => exact ⟨t + 1, u + 1, by rw [hpl1.out], by rw [hph1.out], congrArg (Value.int .i64) (by omega), ⟨by (have := hu.out; omega), by omega⟩, hB3⟩
                case measure => simp [intOf] <;> (have := hu.out; omega)
              · obtain rfl : u = 3 := by omega
                obtain rfl : t = 3 - (i + 1) := by omega
                have hrk : (if fineAt bs i && anyB (padLow v (3 - (i + 1))) (padHigh v (3 - (i + 1))) 3 then (padLow v (3 - (i + 1)), i + 1, decide (i + 1 = 3)) else readK bs 3 i) = r := by
                  have h9 := hkr.out
                  rw [readK, hv] at h9; exact h9
                rw [hv]
                by_cases hf : fineAt bs i = true
                · have hlo0 := padLow_nonneg (hv ▸ lowAt_fine hS.all i hf) (3 - (i + 1))
                  have hlo1 := hv ▸ pad_fine 3 i hsz.out (by omega) (by omega) hf
                  have hsu := pad_surr v (3 - (i + 1)) (by omega)
                  rw [hf, Bool.true_and] at hrk
                  rw [hf]
                  obtain ⟨pl, hpl⟩ : ∃ x, padLow v (3 - (i + 1)) = x := ⟨_, rfl⟩
                  obtain ⟨ph, hph⟩ : ∃ x, padHigh v (3 - (i + 1)) = x := ⟨_, rfl⟩
                  rw [hpl] at hlo0 hlo1 hsu hrk
                  rw [hph] at hsu hrk
                  rw [hpl, hph]
                  have hany := fun (W : World) (a : Bool) (ha : anyB pl ph 3 = a) => any_3 pl ph W a ha hlo0 (by omega)
                  replace hany := Kp.mk hany
                  obtain ⟨dv, hdv⟩ : ∃ d, decide (i + 1 = 3) = d := ⟨_, rfl⟩
                  rw [hdv] at hrk
                  replace hdv := Kp.mk hdv
                  have hw32 : wrap32 pl = pl := by unfold wrap32; omega
                  replace hrk := Kp.mk hrk
                  clear hpl hph hsu hlo0 hlo1 hbd hv hf hB2 c1 hu hu2 hun
                  cases ha : anyB pl ph 3 with
                  | true =>
                    replace ha := Kp.mk ha
                    go_wp2_with fail
                    refine (hany.out _ true ha.out).mono ?_
                    rintro _ w5 ⟨rfl, hB5⟩
                    have hB6 := hB3.trans (hB5.mono hB3.size)
                    have hres : r = (pl, i + 1, dv) := by
                      have h9 := hrk.out
                      rw [ha.out, if_pos rfl] at h9; exact h9.symm
                    subst hres
                    by_cases hin : (i : Int) + 1 = 3
                    · have hdt : Kp (true = dv) := ⟨by rw [← hdv.out]; exact (decide_eq_true (by omega)).symm⟩
                      have hbq : (((i : Int) + 1) == 3) = true := by simp; omega
                      clear hrk hr hkr hin hany
                      go_wp2_with fail
                      exact bodyPost_ret (v := .tuple #[.int .i32 pl, .int .i64 ((i : Int) + 1), .bool true]) (by simp [results, Try.results25, go_sem]) rfl ⟨by rw [← hdt.out], hB6⟩
                    · have hdt : Kp (false = dv) := ⟨by rw [← hdv.out]; exact (decide_eq_false (by omega)).symm⟩
                      have hbq : (((i : Int) + 1) == 3) = false := by simp; omega
                      clear hrk hr hkr hin hany
                      go_wp2_with fail
                      exact bodyPost_ret (v := .tuple #[.int .i32 pl, .int .i64 ((i : Int) + 1), .bool false]) (by simp [results, Try.results25, go_sem]) rfl ⟨by rw [← hdt.out], hB6⟩
                  | false =>
                    replace ha := Kp.mk ha
                    have hrk2 : Kp (readK bs 3 i = r) := ⟨by have h9 := hrk.out; rw [ha.out, if_neg (by simp)] at h9; exact h9⟩
                    go_wp2_with fail
                    refine (hany.out _ false ha.out).mono ?_
                    rintro _ w5 ⟨rfl, hB5⟩
                    have hB6 := hB3.trans (hB5.mono hB3.size)
                    clear hrk hr hkr hany
                    go_wp2_with fail
                    go_roundw
                    case rel => exact ⟨i, congrArg (Value.int .i64) (by omega), ⟨by omega, by omega⟩, hrk2, hB6⟩
                    case measure => simp [intOf] <;> omega
                · simp only [Bool.not_eq_true] at hf
                  have hrk2 : Kp (readK bs 3 i = r) := ⟨by rw [hf, Bool.false_and, if_neg (by simp)] at hrk; exact hrk⟩
                  rw [hf]
                  obtain ⟨pl, hpl⟩ : ∃ x, padLow v (3 - (i + 1)) = x := ⟨_, rfl⟩
                  obtain ⟨ph, hph⟩ : ∃ x, padHigh v (3 - (i + 1)) = x := ⟨_, rfl⟩
                  rw [hpl, hph]
                  clear hrk hr hkr hf hv hbd hpl hph hB2 c1 hu hu2 hun
                  go_wp2_with fail
                  go_roundw
                  case rel => exact ⟨i, congrArg (Value.int .i64) (by omega), ⟨by omega, by omega⟩, hrk2, hB3⟩
                  case measure => simp [intOf] <;> omega

set_option maxRecDepth 100000 in
set_option maxHeartbeats 4000000 in
theorem read_4 (b o m cap : Nat) (bs : List Nat) (w : World) (r : Int × Nat × Bool) (hr : readN bs = r) (hS : RdSrc w b o m bs) (h0 : 0 < m) (hm : m ≤ 9000) (hsz : sizeN (bs.getD 0 0) = 4) :
    Calls Try.prog 25 #[.slice (some ⟨b, o, none⟩) m cap] w fun e w' => e = .returned (.tuple #[.int .i32 r.1, .int .i64 r.2.1, .bool r.2.2]) ∧ Below w.heap.size w w' := by
  obtain ⟨x0, hx0⟩ : ∃ x, bs.getD 0 0 = x := ⟨_, rfl⟩
  have c0 := hS.cell w (Below.refl _ _) 0 h0
  rw [hx0, Nat.add_zero] at c0
  rw [hx0] at hsz
  have hx8 : x0 < 256 := hx0 ▸ hS.byte 0
  have hl0 : lowAt bs 0 = (x0 : Int) - 240 := by
    show headI (sizeN (bs.getD 0 0)) (bs.getD 0 0) = _
    rw [hx0, hsz]; simp [headI]
  have hge : 240 ≤ x0 ∧ x0 < 248 := by
    unfold sizeN at hsz
    by_cases h1 : x0 < 128
    · rw [if_pos h1] at hsz; omega
    by_cases h2 : 192 ≤ x0 ∧ x0 < 224
    · rw [if_neg h1, if_pos h2] at hsz; omega
    by_cases h3 : 224 ≤ x0 ∧ x0 < 240
    · rw [if_neg h1, if_neg h2, if_pos h3] at hsz; omega
    by_cases h4 : 240 ≤ x0 ∧ x0 < 248
    · rw [if_neg h1, if_neg h2, if_neg h3, if_pos h4] at hsz; omega
    · rw [if_neg h1, if_neg h2, if_neg h3, if_neg h4] at hsz; omega
  have hw0 : wrap64 ((x0 : Int) - 240) = (x0 : Int) - 240 := by unfold wrap64; omega
  have hm0 : (0 : Int) < m := by omega
  have hsI : (sizeN x0 : Int) = 4 := by rw [hsz]; rfl
  have hsz2 : sizeN (bs.getD 0 0) = 4 := by rw [hx0]; exact hsz
  have hmin : readK bs 4 (min 4 m) = r := by
    rw [← hr, ← hS.len]; unfold readN; rw [hsz2]
  obtain ⟨k0, hk0⟩ : ∃ k, min 4 m = k := ⟨_, rfl⟩
  rw [hk0] at hmin
  have hkn : k0 ≤ 4 := by omega
  have hkm : k0 ≤ m := by omega
  replace hr := Kp.mk hmin
  replace hx0 := Kp.mk hx0
  replace hsz := Kp.mk hsz2
  replace hl0 := Kp.mk hl0
  replace hsI := Kp.mk hsI
  replace hk0 := Kp.mk hk0
  clear hge hmin hsz2
  by_cases hmn : (m : Int) < 4
  all_goals
    go_enter Try.func25, Try.ntmps25
    go_wp2_with fail
    refine (size_lit x0 _ 4 hsI.out).mono ?_
    rintro _ _ ⟨rfl, rfl⟩
    go_wp2_with fail
    go_loopw [6] (fun kk wr => ∃ k : Nat, kk = .int .i64 k ∧ (k ≤ 4 ∧ k ≤ m) ∧ Kp (readK bs 4 k = r) ∧ Below w.heap.size w wr) (fun kk _ => (intOf kk).toNat)
    case atStart => exact ⟨k0, by (have h9 := hk0.out; congr 1; omega), ⟨hkn, hkm⟩, hr, Below.refl _ _⟩
    case round =>
      obtain ⟨k, rfl, ⟨hk1, hk2⟩, hkr, hB⟩ := hrel
      have w1 : wrap64 ((k : Int) - 1) = (k : Int) - 1 := by unfold wrap64; omega
      rcases k with _ | q
      · obtain ⟨r1, r2, r3⟩ := r
        obtain ⟨rfl, rfl, rfl⟩ : (0 : Int) = r1 ∧ 1 = r2 ∧ false = r3 := by
          have h9 := hkr.out
          simp only [readK, Prod.mk.injEq] at h9; exact h9
        clear hr hkr
        go_wp2_with fail
        exact bodyPost_ret (v := .tuple #[.int .i32 0, .int .i64 1, .bool false]) (by simp [results, Try.results25, go_sem]) rfl ⟨rfl, hB⟩
      · have c1 := hS.cell _ hB 0 h0
        rw [hx0.out, Nat.add_zero] at c1
        have e6 : (0 : Int) < (q : Int) + 1 := by omega
        clear c0
        go_wp2_with fail
        go_loopw [7, 8, 9] (fun lo fi ii wr => ∃ i j : Nat, lo = .int .i64 (lowAt bs i) ∧ fi = .bool (fineAt bs i) ∧ ii = .int .i64 j ∧ (j = i + 1 ∧ i ≤ q) ∧ Below w.heap.size w wr) (fun _ _ ii _ => 10 - (intOf ii).toNat)
        case atStart => exact ⟨0, 1, by rw [hl0.out], rfl, rfl, ⟨rfl, Nat.zero_le _⟩, hB⟩
        case round =>
          obtain ⟨i, j, rfl, rfl, rfl, ⟨hij, hi⟩, hB2⟩ := hrel
          by_cases hiq : i < q
          · have c2 := hS.cell _ hB2 j (by omega)
            obtain ⟨y, hy⟩ : ∃ y, bs.getD j 0 = y := ⟨_, rfl⟩
            have hy8 : y < 256 := hy ▸ hS.byte j
            have hbd := lowAt_bd hS.all i (by omega)
            have hla : lowAt bs (i + 1) = lowAt bs i * 64 + y - 128 := by rw [← hy, hij]; rfl
            have hfa : fineAt bs (i + 1) = (fineAt bs i && decide (128 ≤ y ∧ y ≤ 191)) := by rw [← hy, hij]; rfl
            rw [hy] at c2
            obtain ⟨v, hv⟩ : ∃ v, lowAt bs i = v := ⟨_, rfl⟩
            obtain ⟨fv, hfv⟩ : ∃ v, fineAt bs i = v := ⟨_, rfl⟩
            rw [hv] at hbd hla
            rw [hfv] at hfa
            have m4 : (j : Int) < (q : Int) + 1 := by omega
            have m5 : (j : Int) < m := by omega
            rw [hv, hfv]
            have hcase : (128 ≤ y ∧ y ≤ 191 ∧ ¬ (y : Int) < 128 ∧ ¬ 191 < (y : Int)) ∨ (¬ (128 ≤ y ∧ y ≤ 191) ∧ (y : Int) < 128) ∨ (¬ (128 ≤ y ∧ y ≤ 191) ∧ ¬ (y : Int) < 128 ∧ 191 < (y : Int)) := by omega
            replace hla := Kp.mk hla
            replace hfa := Kp.mk hfa
            obtain ⟨hbd1, hbd2⟩ := hbd
            replace hij := Kp.mk hij
            clear hv hfv hy c1
            rcases hcase with ⟨y1, y2, y3, y4⟩ | ⟨y1, y3⟩ | ⟨y1, y3, y4⟩
            · have hd := Kp.mk (decide_eq_true (⟨y1, y2⟩ : 128 ≤ y ∧ y ≤ 191))
              clear y1 y2
              go_wp2_with fail
              go_roundw
              case rel => exact ⟨i + 1, j + 1, by rw [hla.out], by rw [hfa.out, hd.out, Bool.and_true], congrArg (Value.int .i64) (by omega), ⟨by (have := hij.out; omega), by omega⟩, hB2⟩
              case measure => simp [intOf] <;> (have := hij.out; omega)
            · have hd := Kp.mk (decide_eq_false y1)
              clear y1
              go_wp2_with fail
              go_roundw
              case rel => exact ⟨i + 1, j + 1, by rw [hla.out], by rw [hfa.out, hd.out, Bool.and_false], congrArg (Value.int .i64) (by omega), ⟨by (have := hij.out; omega), by omega⟩, hB2⟩
              case measure => simp [intOf] <;> (have := hij.out; omega)
            · have hd := Kp.mk (decide_eq_false y1)
              clear y1
              go_wp2_with fail
              go_roundw
              case rel => exact ⟨i + 1, j + 1, by rw [hla.out], by rw [hfa.out, hd.out, Bool.and_false], congrArg (Value.int .i64) (by omega), ⟨by (have := hij.out; omega), by omega⟩, hB2⟩
              case measure => simp [intOf] <;> (have := hij.out; omega)
          · obtain rfl : i = q := by omega
            have m4 : ¬ (j : Int) < (i : Int) + 1 := by omega
            go_wp2_with fail
            go_loopw [7, 10, 11] (fun lo hh ii wr => ∃ t u : Nat, lo = .int .i64 (padLow (lowAt bs i) t) ∧ hh = .int .i64 (padHigh (lowAt bs i) t) ∧ ii = .int .i64 u ∧ (u = i + 1 + t ∧ u ≤ 4) ∧ Below w.heap.size w wr) (fun _ _ ii _ => 10 - (intOf ii).toNat)
            case atStart => exact ⟨0, i + 1, rfl, rfl, congrArg (Value.int .i64) (by omega), ⟨rfl, by omega⟩, hB2⟩
            case round =>
              obtain ⟨t, u, rfl, rfl, rfl, ⟨hu, hu2⟩, hB3⟩ := hrel
              obtain ⟨v, hv⟩ : ∃ v, lowAt bs i = v := ⟨_, rfl⟩
              have hbd := lowAt_bd hS.all i (by omega)
              rw [hv] at hbd
              by_cases hun : u < 4
              · have hpd := pad_bd v t (by omega) hbd.1 hbd.2
                obtain ⟨pl, hpl⟩ : ∃ x, padLow v t = x := ⟨_, rfl⟩
                obtain ⟨ph, hph⟩ : ∃ x, padHigh v t = x := ⟨_, rfl⟩
                have hpl1 : padLow v (t + 1) = pl * 64 := by rw [← hpl]; rfl
                have hph1 : padHigh v (t + 1) = ph * 64 + 63 := by rw [← hph]; rfl
                rw [hpl, hph] at hpd
                obtain ⟨p1, p2, p3, p4⟩ := hpd
                have m5 : (u : Int) < 4 := by omega
                rw [hv, hpl, hph]
                replace hpl1 := Kp.mk hpl1
                replace hph1 := Kp.mk hph1
                replace hu := Kp.mk hu
                replace hv := Kp.mk hv
                clear hpl hph hbd hB2 c1
                go_wp2_with fail
                go_roundw
                case rel => exact ⟨t + 1, u + 1, by rw [hpl1.out], by rw [hph1.out], congrArg (Value.int .i64) (by omega), ⟨by (have := hu.out; omega), by omega⟩, hB3⟩
                case measure => simp [intOf] <;> (have := hu.out; omega)
              · obtain rfl : u = 4 := by omega
                obtain rfl : t = 4 - (i + 1) := by omega
                have hrk : (if fineAt bs i && anyB (padLow v (4 - (i + 1))) (padHigh v (4 - (i + 1))) 4 then (padLow v (4 - (i + 1)), i + 1, decide (i + 1 = 4)) else readK bs 4 i) = r := by
                  have h9 := hkr.out
                  rw [readK, hv] at h9; exact h9
                rw [hv]
                by_cases hf : fineAt bs i = true
                · have hlo0 := padLow_nonneg (hv ▸ lowAt_fine hS.all i hf) (4 - (i + 1))
                  have hlo1 := hv ▸ pad_fine 4 i hsz.out (by omega) (by omega) hf
                  have hsu := pad_surr v (4 - (i + 1)) (by omega)
                  rw [hf, Bool.true_and] at hrk
                  rw [hf]
                  obtain ⟨pl, hpl⟩ : ∃ x, padLow v (4 - (i + 1)) = x := ⟨_, rfl⟩
                  obtain ⟨ph, hph⟩ : ∃ x, padHigh v (4 - (i + 1)) = x := ⟨_, rfl⟩
                  rw [hpl] at hlo0 hlo1 hsu hrk
                  rw [hph] at hsu hrk
                  rw [hpl, hph]
                  have hany := fun (W : World) (a : Bool) (ha : anyB pl ph 4 = a) => any_4 pl ph W a ha hlo0 (by omega) hsu
                  replace hany := Kp.mk hany
                  obtain ⟨dv, hdv⟩ : ∃ d, decide (i + 1 = 4) = d := ⟨_, rfl⟩
                  rw [hdv] at hrk
                  replace hdv := Kp.mk hdv
                  have hw32 : wrap32 pl = pl := by unfold wrap32; omega
                  replace hrk := Kp.mk hrk
                  clear hpl hph hsu hlo0 hlo1 hbd hv hf hB2 c1 hu hu2 hun
                  cases ha : anyB pl ph 4 with
                  | true =>
                    replace ha := Kp.mk ha
                    go_wp2_with fail
                    refine (hany.out _ true ha.out).mono ?_
                    rintro _ w5 ⟨rfl, hB5⟩
                    have hB6 := hB3.trans (hB5.mono hB3.size)
                    have hres : r = (pl, i + 1, dv) := by
                      have h9 := hrk.out
                      rw [ha.out, if_pos rfl] at h9; exact h9.symm
                    subst hres
                    by_cases hin : (i : Int) + 1 = 4
                    · have hdt : Kp (true = dv) := ⟨by rw [← hdv.out]; exact (decide_eq_true (by omega)).symm⟩
                      have hbq : (((i : Int) + 1) == 4) = true := by simp; omega
                      clear hrk hr hkr hin hany
                      go_wp2_with fail
                      exact bodyPost_ret (v := .tuple #[.int .i32 pl, .int .i64 ((i : Int) + 1), .bool true]) (by simp [results, Try.results25, go_sem]) rfl ⟨by rw [← hdt.out], hB6⟩
                    · have hdt : Kp (false = dv) := ⟨by rw [← hdv.out]; exact (decide_eq_false (by omega)).symm⟩
                      have hbq : (((i : Int) + 1) == 4) = false := by simp; omega
                      clear hrk hr hkr hin hany
                      go_wp2_with fail
                      exact bodyPost_ret (v := .tuple #[.int .i32 pl, .int .i64 ((i : Int) + 1), .bool false]) (by simp [results, Try.results25, go_sem]) rfl ⟨by rw [← hdt.out], hB6⟩
                  | false =>
                    replace ha := Kp.mk ha
                    have hrk2 : Kp (readK bs 4 i = r) := ⟨by have h9 := hrk.out; rw [ha.out, if_neg (by simp)] at h9; exact h9⟩
                    go_wp2_with fail
                    refine (hany.out _ false ha.out).mono ?_
                    rintro _ w5 ⟨rfl, hB5⟩
                    have hB6 := hB3.trans (hB5.mono hB3.size)
                    clear hrk hr hkr hany
                    go_wp2_with fail
                    go_roundw
                    case rel => exact ⟨i, congrArg (Value.int .i64) (by omega), ⟨by omega, by omega⟩, hrk2, hB6⟩
                    case measure => simp [intOf] <;> omega
                · simp only [Bool.not_eq_true] at hf
                  have hrk2 : Kp (readK bs 4 i = r) := ⟨by rw [hf, Bool.false_and, if_neg (by simp)] at hrk; exact hrk⟩
                  rw [hf]
                  obtain ⟨pl, hpl⟩ : ∃ x, padLow v (4 - (i + 1)) = x := ⟨_, rfl⟩
                  obtain ⟨ph, hph⟩ : ∃ x, padHigh v (4 - (i + 1)) = x := ⟨_, rfl⟩
                  rw [hpl, hph]
                  clear hrk hr hkr hf hv hbd hpl hph hB2 c1 hu hu2 hun
                  go_wp2_with fail
                  go_roundw
                  case rel => exact ⟨i, congrArg (Value.int .i64) (by omega), ⟨by omega, by omega⟩, hrk2, hB3⟩
                  case measure => simp [intOf] <;> omega
theorem read_to (b o m cap : Nat) (bs : List Nat) (w : World) (r : Int × Nat × Bool) (hr : readN bs = r) (hs : Sl w w.heap.size .u8 (some ⟨b, o, none⟩) m (bs.map Int.ofNat)) (hlt : ∀ x ∈ bs, x < 256) (h0 : 0 < m) (hm : m ≤ 9000) :
    Calls Try.prog 25 #[.slice (some ⟨b, o, none⟩) m cap] w fun e w' => e = .returned (.tuple #[.int .i32 r.1, .int .i64 r.2.1, .bool r.2.2]) ∧ Below w.heap.size w w' := by
  have hS := rdSrc hs hlt h0
  rcases (show sizeN (bs.getD 0 0) = 0 ∨ sizeN (bs.getD 0 0) = 1 ∨ sizeN (bs.getD 0 0) = 2 ∨ sizeN (bs.getD 0 0) = 3 ∨ sizeN (bs.getD 0 0) = 4 by have := sizeN_le (bs.getD 0 0); omega) with h | h | h | h | h
  · exact read_0 b o m cap bs w r hr hS h0 h
  · exact read_1 b o m cap bs w r hr hS h0 hm h
  · exact read_2 b o m cap bs w r hr hS h0 hm h
  · exact read_3 b o m cap bs w r hr hS h0 hm h
  · exact read_4 b o m cap bs w r hr hS h0 hm h
end Go.Proofs.Ytfogblcjccoeiaa
