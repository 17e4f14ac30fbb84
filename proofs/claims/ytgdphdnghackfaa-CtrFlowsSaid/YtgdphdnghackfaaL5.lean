/- The walk of the law CtrSeeks (layer 5). -/
import Derived.Test.YtgdphdnghackfaaR14
import Derived.Test.YtgdphdnghackfaaA
namespace Go.Proofs.Ytgdphdnghackfaa
open Go.RowKit Go.Shelf
/-- A piece of a stream from its place at on is the stream's piece from there. -/
theorem turnL_seek (key : List Nat) (nonce f at' n : Nat) : (turnL key nonce f (List.replicate (at' + n) 0)).drop at' = turnL key nonce (f + at') (List.replicate n 0) := by
  refine list_ext_getD (by simp [turnL_len]) fun j hj => ?_
  have hj' : j < n := by simp [turnL_len] at hj; omega
  have e : ((turnL key nonce f (List.replicate (at' + n) 0)).drop at').getD j 0 = (turnL key nonce f (List.replicate (at' + n) 0)).getD (at' + j) 0 := by simp [List.getD_eq_getElem?_getD]
  rw [e, turnL_get _ _ _ _ _ (by simp; omega), turnL_get _ _ _ _ _ (by simpa using hj')]
  simp only [List.getD_eq_getElem?_getD, List.getElem?_replicate]
  rw [if_pos (by omega), if_pos hj', Nat.add_assoc]
set_option maxRecDepth 100000 in
set_option maxHeartbeats 1000000 in
theorem seeks_in (key : List Nat) (hk : key.length = 16) (bk : Bytes key) (nonce f a n : Nat) (hN : nonce < 18446744073709551616) (hf : f ≤ 524288) (ha : a ≤ 300) (hn : n ≤ 300) (w : World) :
    Calls Try.prog 5 #[.agg (u8s key), .int .u64 nonce, .int .i64 f, .int .i64 a, .int .i64 n] w fun e w' => e = .returned (.bool true) ∧ Below w.heap.size w w' := by
  have x1 := IntWalk.i64_in ((a : Int) + n) (by omega)
  have x2 := IntWalk.i64_in ((f : Int) + a) (by omega)
  have b1 : (f : Int) ≤ 524288 := by omega
  have b2 : (a : Int) ≤ 300 := by omega
  have b3 : (n : Int) ≤ 300 := by omega
  go_enter Try.func5, Try.ntmps5
  go_wp2_with fail
  refine (known_to _).mono ?_
  rintro _ w1 ⟨rfl, H1⟩
  have A1 : Arr w1 w.heap.size 22 key := Arr.keep (show Arr (w.alloc (.cells (u8s key) 22)) w.heap.size 22 key from Box.new w 22 (u8s key)) H1 (by simp)
  have L1 := ((Below.refl w.heap.size w).alloc (Nat.le_refl _) (.cells (u8s key) 22)).trans (H1.mono (by simp))
  have k1 := A1.loadAt (P := Try.prog) Try.underlying22 (by rw [hk]; exact size22)
  replace k1 := Kp.mk k1
  clear H1
  go_wp2_with ((with_reducible refine wpl_id ?_); (refine wpList_load rfl (t := 22) (x := .tmp 5) rfl rfl k1.out ?_))
  have S2 := Stream_to w1 nonce f (a + n) key hk bk hN (by omega)
  rw [show ((a + n : Nat) : Int) = (a : Int) + n by omega] at S2
  refine S2.mono ?_
  rintro _ w2 ⟨g2, hg2, rfl, O2, H2⟩
  have A2 := A1.keep H2 A1.lt
  have L2 := L1.trans (H2.mono L1.size)
  have k2 := A2.loadAt (P := Try.prog) Try.underlying22 (by rw [hk]; exact size22)
  replace k2 := Kp.mk k2
  clear H2 S2 A1 k1
  go_wp2_with ((with_reducible refine wpl_id ?_); (refine wpList_load rfl (t := 22) (x := .tmp 5) rfl rfl k2.out ?_))
  have S3 := Stream_to w2 nonce (f + a) n key hk bk hN (by omega)
  rw [show ((f + a : Nat) : Int) = (f : Int) + a by omega] at S3
  refine S3.mono ?_
  rintro _ w3 ⟨g3, hg3, rfl, O3, H3⟩
  have L3 := L2.trans (H3.mono L2.size)
  have O2' := O2.keep H3 O2.lt
  obtain ⟨s, hs⟩ : ∃ s, strN (turnL key nonce (f + a) (List.replicate n 0)) = s := ⟨_, rfl⟩
  have D0 : TxIn w3.drew (some ⟨g2, 0, none⟩) (a + n) (a + n) (turnL key nonce f (List.replicate (a + n) 0)) := TxIn.of_arr (Box.drew O2') (by simp [turnL_len]) (turnL_bytes hk bk _ _ (bytes_zero _)) (by simp only [maxLen]; omega)
  have D1 := D0.from_ (k := a) (by omega)
  rw [turnL_seek] at D1
  have c1 := strT hs D1
  have c2 : (convert 25 9 (.slice (some ⟨g3, 0, none⟩) n n)).run Try.prog w3.drew = .ok (.string s) w3.drew := strT hs (TxIn.of_arr (n := n) (Box.drew O3) (by simp [turnL_len]) (turnL_bytes hk bk _ _ (bytes_zero _)) (by simp only [maxLen]; omega))
  clear S3 O2 O3 A2 k2 O2' D0 D1 H3 L1 L2
  replace c1 := Kp.mk c1; replace c2 := Kp.mk c2
  go_wp2_with fail
  refine wp_region_quiet (C := fun W => W = w3.drew) (by kernel_rfl) (by kernel_rfl) rfl ?_
  show wpQuiet _ _ _ _ [_, _, _, _, _, _, _, _, _, _, _, _, _, _, _, _] _
  refine wpQuiet_step (fun K hK => ?_)
  rw [if_pos (by rfl)]
  refine quiet_run (P := Try.prog) (v := .slice (some ⟨g2, 0, none⟩) (a + n) (a + n)) (fun _ _ => rfl) (hK _ ?_)
  clear hK K
  try simp only [Act.put, List.setIfInBounds_toArray, List.set_cons_zero, List.set_cons_succ]
  refine wpQuiet_step (fun K hK => ?_)
  rw [if_pos (by rfl)]
  refine quiet_run (P := Try.prog) (v := .int .i64 (a + n : Nat)) (fun _ _ => exec_len rfl rfl (x := .tmp 51) rfl) (hK _ ?_)
  clear hK K
  try simp only [Act.put, List.setIfInBounds_toArray, List.set_cons_zero, List.set_cons_succ]
  refine wpQuiet_step (fun K hK => ?_)
  rw [if_pos (by rfl)]
  refine quiet_run (P := Try.prog) (v := .int .i64 a) (fun _ _ => rfl) (hK _ ?_)
  clear hK K
  try simp only [Act.put, List.setIfInBounds_toArray, List.set_cons_zero, List.set_cons_succ]
  refine wpQuiet_step (fun K hK => ?_)
  rw [if_pos (by rfl)]
  refine quiet_run (P := Try.prog) (v := .int .i64 n) (fun _ _ => rfl) (hK _ ?_)
  clear hK K
  try simp only [Act.put, List.setIfInBounds_toArray, List.set_cons_zero, List.set_cons_succ]
  refine wpQuiet_step (fun K hK => ?_)
  rw [if_pos (by rfl)]
  refine quiet_run (P := Try.prog) (v := .int .i64 ((a : Int) + n)) (fun _ _ => exec_addI rfl (x := .tmp 53) (y := .tmp 54) rfl rfl x1) (hK _ ?_)
  clear hK K
  try simp only [Act.put, List.setIfInBounds_toArray, List.set_cons_zero, List.set_cons_succ]
  refine wpQuiet_step (fun K hK => ?_)
  rw [if_pos (by rfl)]
  refine quiet_run (P := Try.prog) (v := .bool true) (fun _ _ => exec_eqI rfl (x := .tmp 52) (y := .tmp 55) rfl rfl (decide_eq_true (by omega))) (hK _ ?_)
  clear hK K
  try simp only [Act.put, List.setIfInBounds_toArray, List.set_cons_zero, List.set_cons_succ]
  refine wpQuiet_step (fun K hK => ?_)
  rw [if_pos (by rfl)]
  refine quiet_run (P := Try.prog) (v := .bool true) (fun _ _ => rfl) (hK _ ?_)
  clear hK K
  try simp only [Act.put, List.setIfInBounds_toArray, List.set_cons_zero, List.set_cons_succ]
  refine wpQuiet_step (fun K hK => ?_)
  rw [if_pos (by rfl)]
  refine quiet_run (P := Try.prog) (v := .slice (some ⟨g2, 0, none⟩) (a + n) (a + n)) (fun _ _ => rfl) (hK _ ?_)
  clear hK K
  try simp only [Act.put, List.setIfInBounds_toArray, List.set_cons_zero, List.set_cons_succ]
  refine wpQuiet_step (fun K hK => ?_)
  rw [if_pos (by rfl)]
  refine quiet_run (P := Try.prog) (v := .int .i64 a) (fun _ _ => rfl) (hK _ ?_)
  clear hK K
  try simp only [Act.put, List.setIfInBounds_toArray, List.set_cons_zero, List.set_cons_succ]
  refine wpQuiet_step (fun K hK => ?_)
  rw [if_pos (by rfl)]
  refine quiet_run (P := Try.prog) (v := .slice (if a + n = a then some ⟨g2, 0, none⟩ else some ⟨g2, a, none⟩) (a + n - a) (a + n - a)) (fun _ _ => exec_from rfl (x := .tmp 58) (k := 59) rfl rfl (by omega) (Nat.le_refl _)) (hK _ ?_)
  clear hK K
  try simp only [Act.put, List.setIfInBounds_toArray, List.set_cons_zero, List.set_cons_succ]
  refine wpQuiet_step (fun K hK => ?_)
  rw [if_pos (by rfl)]
  refine quiet_run (P := Try.prog) (v := .string s) (fun W hW => by subst hW; exact exec_conv rfl (x := .tmp 60) rfl c1.out) (hK _ ?_)
  clear hK K
  try simp only [Act.put, List.setIfInBounds_toArray, List.set_cons_zero, List.set_cons_succ]
  refine wpQuiet_step (fun K hK => ?_)
  rw [if_pos (by rfl)]
  refine quiet_run (P := Try.prog) (v := .slice (some ⟨g3, 0, none⟩) n n) (fun _ _ => rfl) (hK _ ?_)
  clear hK K
  try simp only [Act.put, List.setIfInBounds_toArray, List.set_cons_zero, List.set_cons_succ]
  refine wpQuiet_step (fun K hK => ?_)
  rw [if_pos (by rfl)]
  refine quiet_run (P := Try.prog) (v := .string s) (fun W hW => by subst hW; exact exec_conv rfl (x := .tmp 62) rfl c2.out) (hK _ ?_)
  clear hK K
  try simp only [Act.put, List.setIfInBounds_toArray, List.set_cons_zero, List.set_cons_succ]
  refine wpQuiet_step (fun K hK => ?_)
  rw [if_pos (by rfl)]
  refine quiet_run (P := Try.prog) (v := .bool true) (fun _ _ => exec_eqS rfl (x := .tmp 61) (y := .tmp 63) rfl rfl) (hK _ ?_)
  clear hK K
  try simp only [Act.put, List.setIfInBounds_toArray, List.set_cons_zero, List.set_cons_succ]
  refine wpQuiet_step (fun K hK => ?_)
  rw [if_pos (by rfl)]
  refine quiet_run (P := Try.prog) (v := .bool true) (fun _ _ => rfl) (hK _ ?_)
  clear hK K
  try simp only [Act.put, List.setIfInBounds_toArray, List.set_cons_zero, List.set_cons_succ]
  refine wpQuiet_step (fun K hK => ?_)
  rw [if_pos (by rfl)]
  refine quiet_run (P := Try.prog) (v := .bool true) (fun _ _ => rfl) (hK _ ?_)
  clear hK K
  try simp only [Act.put, List.setIfInBounds_toArray, List.set_cons_zero, List.set_cons_succ]
  refine wpQuiet_nil ?_
  rintro W rfl
  have bel := L3.drew
  clear c1 c2 L3
  go_wp2_with fail
  all_goals exact bodyPost_ret (v := .bool true) (by simp [results, Try.f5, go_sem]) rfl ⟨rfl, bel⟩
theorem seeks_out (key : List Nat) (nonce : Nat) (f a n : Int) (w : World) (h : f < 0 ∨ 524288 < f ∨ a < 0 ∨ 300 < a ∨ n < 0 ∨ 300 < n) :
    Calls Try.prog 5 #[.agg (u8s key), .int .u64 nonce, .int .i64 f, .int .i64 a, .int .i64 n] w fun e w' => e = .returned (.bool true) ∧ Below w.heap.size w w' := by
  go_enter Try.func5, Try.ntmps5
  go_wp2_with fail
  refine (known_to _).mono ?_
  rintro _ w1 ⟨rfl, H1⟩
  have L1 := ((Below.refl w.heap.size w).alloc (Nat.le_refl _) (.cells (u8s key) 22)).trans (H1.mono (by simp))
  clear H1
  go_wp2_with fail
  all_goals exact bodyPost_ret (v := .bool true) (by simp [results, Try.f5, go_sem]) rfl ⟨rfl, L1⟩
theorem u64_nat {z : Int} (h : (Lit.int .u64 z).wf = true) : ∃ n : Nat, z = n ∧ n < 18446744073709551616 := by
  simp [Lit.wf, IntKind.min, IntKind.max, IntKind.signed, IntKind.bits] at h
  exact ⟨z.toNat, by omega, by omega⟩
theorem seeks_any (zk : List Int) (sk : zk.length = 16) (wk : ∀ z ∈ zk, (Lit.int .u8 z).wf = true) (zn : Int) (wn : (Lit.int .u64 zn).wf = true) (f a n : Int) (w : World) :
    Calls Try.prog 5 #[.agg (zk.map (Value.int .u8)).toArray, .int .u64 zn, .int .i64 f, .int .i64 a, .int .i64 n] w fun e w' => e = .returned (.bool true) ∧ Below w.heap.size w w' := by
  obtain ⟨key, ek, lk, bk⟩ := bytes_of wk
  obtain ⟨nonce, rfl, hN⟩ := u64_nat wn
  rw [ek]
  by_cases h : f < 0 ∨ 524288 < f ∨ a < 0 ∨ 300 < a ∨ n < 0 ∨ 300 < n
  · exact seeks_out key nonce f a n w h
  · obtain ⟨f', rfl⟩ : ∃ m : Nat, f = m := ⟨f.toNat, by omega⟩
    obtain ⟨a', rfl⟩ : ∃ m : Nat, a = m := ⟨a.toNat, by omega⟩
    obtain ⟨n', rfl⟩ : ∃ m : Nat, n = m := ⟨n.toNat, by omega⟩
    exact seeks_in key (by omega) bk nonce f' a' n' hN (by omega) (by omega) (by omega) w
end Go.Proofs.Ytgdphdnghackfaa
