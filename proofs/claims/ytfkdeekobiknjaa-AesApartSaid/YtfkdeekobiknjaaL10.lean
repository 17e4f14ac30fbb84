/- The walk of the law AesApart (layer 4). -/
import Derived.Test.YtfkdeekobiknjaaE
import Derived.Test.YtfkdeekobiknjaaA
namespace Go.Proofs.Ytfkdeekobiknjaa
open Go.RowKit
structure ApMem (w : World) (key a b : List Nat) (W : World) : Prop where
  key : Arr W w.heap.size 26 key
  a : Arr W (w.heap.size + 1) 26 a
  b : Arr W (w.heap.size + 2) 26 b
  bel : Below w.heap.size w W
theorem ApMem.keep {w W W' : World} {key a b : List Nat} (h : ApMem w key a b W) (k : Below W.heap.size W W') : ApMem w key a b W' := ⟨h.key.keep k h.key.lt, h.a.keep k h.a.lt, h.b.keep k h.b.lt, h.bel.trans (k.mono h.bel.size)⟩
theorem ApMem.drew {w W : World} {key a b : List Nat} (h : ApMem w key a b W) : ApMem w key a b W.drew := ⟨h.key, h.a, h.b, h.bel.drew⟩
theorem ApMem.first (w : World) (key a b : List Nat) : ApMem w key a b (((w.alloc (.cells (u8s key) 26)).alloc (.cells (u8s a) 26)).alloc (.cells (u8s b) 26)) := by
  refine ⟨((Box.new w 26 (u8s key)).alloc _).alloc _, ?_, ?_, (((Below.refl _ _).alloc (Nat.le_refl _) _).alloc (by simp) _).alloc (by simp; omega) _⟩
  · have h := (Box.new (w.alloc (.cells (u8s key) 26)) 26 (u8s a)).alloc (.cells (u8s b) 26)
    rw [World.size_alloc] at h; exact h
  · have h := Box.new ((w.alloc (.cells (u8s key) 26)).alloc (.cells (u8s a) 26)) 26 (u8s b)
    rw [World.size_alloc, World.size_alloc] at h; exact h
set_option maxRecDepth 100000 in
set_option maxHeartbeats 4000000 in
theorem apart_law (key a b : List Nat) (hk : key.length = 16) (ha : a.length = 16) (hb : b.length = 16) (bk : Bytes key) (ba : Bytes a) (bb : Bytes b) (w : World) :
    Calls Try.prog 10 #[.agg (u8s key), .agg (u8s a), .agg (u8s b)] w fun e w' => e = .returned (.bool true) ∧ Below w.heap.size w w' := by
  obtain ⟨x, hx⟩ : ∃ x, hideL key a = x := ⟨_, rfl⟩
  obtain ⟨y, hy⟩ : ∃ x, hideL key b = x := ⟨_, rfl⟩
  obtain ⟨u, hu⟩ : ∃ x, showL key a = x := ⟨_, rfl⟩
  obtain ⟨v, hv⟩ : ∃ x, showL key b = x := ⟨_, rfl⟩
  have ox := (hideL_ok hk bk ha ba).1
  have oy := (hideL_ok hk bk hb bb).1
  have ou := (showL_ok hk bk ha ba).1
  have ov := (showL_ok hk bk hb bb).1
  have exy : x = y ↔ a = b := ⟨fun h => by rw [← showL_hideL hk bk ha ba, ← showL_hideL hk bk hb bb, hx, hy, h], fun h => by rw [← hx, ← hy, h]⟩
  have euv : u = v ↔ a = b := ⟨fun h => by rw [← hideL_showL hk bk ha ba, ← hideL_showL hk bk hb bb, hu, hv, h], fun h => by rw [← hu, ← hv, h]⟩
  rw [hx] at ox
  rw [hy] at oy
  rw [hu] at ou
  rw [hv] at ov
  obtain ⟨t, ht⟩ : ∃ t, decide (a = b) = t := ⟨_, rfl⟩
  have t1 : decide (x = y) = t := by rw [← ht, decide_eq_decide]; exact exy
  have t2 : decide (u = v) = t := by rw [← ht, decide_eq_decide]; exact euv
  have M0 := (ApMem.first w key a b).drew
  have c1 : ∀ W, ApMem w key a b W → (Instr.loadAt 26 (.pointer (some ⟨w.heap.size, 0, none⟩))).run Try.prog W = .ok (.agg (u8s key)) W := fun W M => M.key.loadAt (P := Try.prog) Try.underlying26 (by rw [hk]; exact size26)
  have c2 : ∀ W, ApMem w key a b W → (Instr.loadAt 26 (.pointer (some ⟨w.heap.size + 1, 0, none⟩))).run Try.prog W = .ok (.agg (u8s a)) W := fun W M => M.a.loadAt (P := Try.prog) Try.underlying26 (by rw [ha]; exact size26)
  have c3 : ∀ W, ApMem w key a b W → (Instr.loadAt 26 (.pointer (some ⟨w.heap.size + 2, 0, none⟩))).run Try.prog W = .ok (.agg (u8s b)) W := fun W M => M.b.loadAt (P := Try.prog) Try.underlying26 (by rw [hb]; exact size26)
  have d1 : ∀ W, ApMem w key a b W → Calls Try.prog 19 #[.agg (u8s key), .agg (u8s a)] W fun e w' => e = .returned (.agg (u8s x)) ∧ ApMem w key a b w' := fun W M => (hide_to W key a x hx hk ha bk ba).mono fun _ _ ⟨he, k⟩ => ⟨he, M.keep k⟩
  have d2 : ∀ W, ApMem w key a b W → Calls Try.prog 19 #[.agg (u8s key), .agg (u8s b)] W fun e w' => e = .returned (.agg (u8s y)) ∧ ApMem w key a b w' := fun W M => (hide_to W key b y hy hk hb bk bb).mono fun _ _ ⟨he, k⟩ => ⟨he, M.keep k⟩
  have d3 : ∀ W, ApMem w key a b W → Calls Try.prog 23 #[.agg (u8s key), .agg (u8s a)] W fun e w' => e = .returned (.agg (u8s u)) ∧ ApMem w key a b w' := fun W M => (show_to W key a u hu hk ha bk ba).mono fun _ _ ⟨he, k⟩ => ⟨he, M.keep k⟩
  have d4 : ∀ W, ApMem w key a b W → Calls Try.prog 23 #[.agg (u8s key), .agg (u8s b)] W fun e w' => e = .returned (.agg (u8s v)) ∧ ApMem w key a b w' := fun W M => (show_to W key b v hv hk hb bk bb).mono fun _ _ ⟨he, k⟩ => ⟨he, M.keep k⟩
  have d5 : ∀ W, ApMem w key a b W → Calls Try.prog 17 #[] W fun e w' => e = .returned (.bool true) ∧ ApMem w key a b w' := fun W M => (known_to W).mono fun _ _ ⟨he, k⟩ => ⟨he, M.keep k⟩
  have tt : ∀ (W : World) (A : Act) (o : Oper) (x y : Operand) (z : TypeId), o.op = .binOp .eql 4 x y z → A.eval x = .bool t → A.eval y = .bool t → (execOp A.eval o).run Try.prog W = .ok (.value (.bool true)) W := fun W A o x y z ho hx hy => by
    unfold execOp
    rw [ho]
    simp only [hx, hy]
    have u4 := Try.underlying4
    go_simp
  replace c1 := Kp.mk c1; replace c2 := Kp.mk c2; replace c3 := Kp.mk c3
  replace d1 := Kp.mk d1; replace d2 := Kp.mk d2; replace d3 := Kp.mk d3; replace d4 := Kp.mk d4; replace d5 := Kp.mk d5
  replace ht := Kp.mk ht; replace t1 := Kp.mk t1; replace t2 := Kp.mk t2; replace tt := Kp.mk tt
  clear hx hy hu hv exy euv
  go_enter Try.func10, Try.ntmps10
  go_wp2_with fail
  refine wp_region_quiet (C := ApMem w key a b) (by kernel_rfl) (by kernel_rfl) M0 ?_
  show wpQuiet _ _ _ _ [_, _, _, _, _, _, _, _, _, _, _, _, _, _, _, _, _, _, _, _, _, _, _, _, _, _, _, _] _
  refine wpQuiet_step (fun K hK => ?_)
  rw [if_pos (by rfl)]
  refine quiet_load (P := Try.prog) rfl (x := .tmp 3) rfl c1.out (hK _ ?_)
  clear hK K
  try simp only [Act.put, List.setIfInBounds_toArray, List.set_cons_zero, List.set_cons_succ]
  refine wpQuiet_step (fun K hK => ?_)
  rw [if_pos (by rfl)]
  refine quiet_load (P := Try.prog) rfl (x := .tmp 4) rfl c2.out (hK _ ?_)
  clear hK K
  try simp only [Act.put, List.setIfInBounds_toArray, List.set_cons_zero, List.set_cons_succ]
  refine wpQuiet_step (fun K hK => ?_)
  rw [if_pos (by rfl)]
  refine quiet_call (args := #[.agg (u8s key), .agg (u8s a)]) Try.call19 rfl (by simp only [List.map_toArray, List.map_cons, List.map_nil]; rfl) d1.out (hK _ ?_)
  clear hK K
  try simp only [Act.put, List.setIfInBounds_toArray, List.set_cons_zero, List.set_cons_succ]
  refine wpQuiet_step (fun K hK => ?_)
  rw [if_pos (by rfl)]
  refine quiet_load (P := Try.prog) rfl (x := .tmp 3) rfl c1.out (hK _ ?_)
  clear hK K
  try simp only [Act.put, List.setIfInBounds_toArray, List.set_cons_zero, List.set_cons_succ]
  refine wpQuiet_step (fun K hK => ?_)
  rw [if_pos (by rfl)]
  refine quiet_load (P := Try.prog) rfl (x := .tmp 5) rfl c3.out (hK _ ?_)
  clear hK K
  try simp only [Act.put, List.setIfInBounds_toArray, List.set_cons_zero, List.set_cons_succ]
  refine wpQuiet_step (fun K hK => ?_)
  rw [if_pos (by rfl)]
  refine quiet_call (args := #[.agg (u8s key), .agg (u8s b)]) Try.call19 rfl (by simp only [List.map_toArray, List.map_cons, List.map_nil]; rfl) d2.out (hK _ ?_)
  clear hK K
  try simp only [Act.put, List.setIfInBounds_toArray, List.set_cons_zero, List.set_cons_succ]
  refine wpQuiet_step (fun K hK => ?_)
  rw [if_pos (by rfl)]
  refine quiet_pure (P := Try.prog) (v := .bool t) (fun w => exec_eql26 (b := t) rfl rfl rfl ox oy t1.out w) (hK _ ?_)
  clear hK K
  try simp only [Act.put, List.setIfInBounds_toArray, List.set_cons_zero, List.set_cons_succ]
  refine wpQuiet_step (fun K hK => ?_)
  rw [if_pos (by rfl)]
  refine quiet_load (P := Try.prog) rfl (x := .tmp 4) rfl c2.out (hK _ ?_)
  clear hK K
  try simp only [Act.put, List.setIfInBounds_toArray, List.set_cons_zero, List.set_cons_succ]
  refine wpQuiet_step (fun K hK => ?_)
  rw [if_pos (by rfl)]
  refine quiet_load (P := Try.prog) rfl (x := .tmp 5) rfl c3.out (hK _ ?_)
  clear hK K
  try simp only [Act.put, List.setIfInBounds_toArray, List.set_cons_zero, List.set_cons_succ]
  refine wpQuiet_step (fun K hK => ?_)
  rw [if_pos (by rfl)]
  refine quiet_pure (P := Try.prog) (v := .bool t) (fun w => exec_eql26 (b := t) rfl rfl rfl ha hb ht.out w) (hK _ ?_)
  clear hK K
  try simp only [Act.put, List.setIfInBounds_toArray, List.set_cons_zero, List.set_cons_succ]
  refine wpQuiet_step (fun K hK => ?_)
  rw [if_pos (by rfl)]
  refine quiet_pure (P := Try.prog) (v := .bool true) (fun w => (fun w => tt.out w _ _ _ _ _ rfl rfl rfl) w) (hK _ ?_)
  clear hK K
  try simp only [Act.put, List.setIfInBounds_toArray, List.set_cons_zero, List.set_cons_succ]
  refine wpQuiet_step (fun K hK => ?_)
  rw [if_pos (by rfl)]
  refine quiet_pure (P := Try.prog) (v := .bool true) (fun _ => rfl) (hK _ ?_)
  clear hK K
  try simp only [Act.put, List.setIfInBounds_toArray, List.set_cons_zero, List.set_cons_succ]
  refine wpQuiet_step (fun K hK => ?_)
  rw [if_pos (by rfl)]
  refine quiet_load (P := Try.prog) rfl (x := .tmp 3) rfl c1.out (hK _ ?_)
  clear hK K
  try simp only [Act.put, List.setIfInBounds_toArray, List.set_cons_zero, List.set_cons_succ]
  refine wpQuiet_step (fun K hK => ?_)
  rw [if_pos (by rfl)]
  refine quiet_load (P := Try.prog) rfl (x := .tmp 4) rfl c2.out (hK _ ?_)
  clear hK K
  try simp only [Act.put, List.setIfInBounds_toArray, List.set_cons_zero, List.set_cons_succ]
  refine wpQuiet_step (fun K hK => ?_)
  rw [if_pos (by rfl)]
  refine quiet_call (args := #[.agg (u8s key), .agg (u8s a)]) Try.call23 rfl (by simp only [List.map_toArray, List.map_cons, List.map_nil]; rfl) d3.out (hK _ ?_)
  clear hK K
  try simp only [Act.put, List.setIfInBounds_toArray, List.set_cons_zero, List.set_cons_succ]
  refine wpQuiet_step (fun K hK => ?_)
  rw [if_pos (by rfl)]
  refine quiet_load (P := Try.prog) rfl (x := .tmp 3) rfl c1.out (hK _ ?_)
  clear hK K
  try simp only [Act.put, List.setIfInBounds_toArray, List.set_cons_zero, List.set_cons_succ]
  refine wpQuiet_step (fun K hK => ?_)
  rw [if_pos (by rfl)]
  refine quiet_load (P := Try.prog) rfl (x := .tmp 5) rfl c3.out (hK _ ?_)
  clear hK K
  try simp only [Act.put, List.setIfInBounds_toArray, List.set_cons_zero, List.set_cons_succ]
  refine wpQuiet_step (fun K hK => ?_)
  rw [if_pos (by rfl)]
  refine quiet_call (args := #[.agg (u8s key), .agg (u8s b)]) Try.call23 rfl (by simp only [List.map_toArray, List.map_cons, List.map_nil]; rfl) d4.out (hK _ ?_)
  clear hK K
  try simp only [Act.put, List.setIfInBounds_toArray, List.set_cons_zero, List.set_cons_succ]
  refine wpQuiet_step (fun K hK => ?_)
  rw [if_pos (by rfl)]
  refine quiet_pure (P := Try.prog) (v := .bool t) (fun w => exec_eql26 (b := t) rfl rfl rfl ou ov t2.out w) (hK _ ?_)
  clear hK K
  try simp only [Act.put, List.setIfInBounds_toArray, List.set_cons_zero, List.set_cons_succ]
  refine wpQuiet_step (fun K hK => ?_)
  rw [if_pos (by rfl)]
  refine quiet_load (P := Try.prog) rfl (x := .tmp 4) rfl c2.out (hK _ ?_)
  clear hK K
  try simp only [Act.put, List.setIfInBounds_toArray, List.set_cons_zero, List.set_cons_succ]
  refine wpQuiet_step (fun K hK => ?_)
  rw [if_pos (by rfl)]
  refine quiet_load (P := Try.prog) rfl (x := .tmp 5) rfl c3.out (hK _ ?_)
  clear hK K
  try simp only [Act.put, List.setIfInBounds_toArray, List.set_cons_zero, List.set_cons_succ]
  refine wpQuiet_step (fun K hK => ?_)
  rw [if_pos (by rfl)]
  refine quiet_pure (P := Try.prog) (v := .bool t) (fun w => exec_eql26 (b := t) rfl rfl rfl ha hb ht.out w) (hK _ ?_)
  clear hK K
  try simp only [Act.put, List.setIfInBounds_toArray, List.set_cons_zero, List.set_cons_succ]
  refine wpQuiet_step (fun K hK => ?_)
  rw [if_pos (by rfl)]
  refine quiet_pure (P := Try.prog) (v := .bool true) (fun w => (fun w => tt.out w _ _ _ _ _ rfl rfl rfl) w) (hK _ ?_)
  clear hK K
  try simp only [Act.put, List.setIfInBounds_toArray, List.set_cons_zero, List.set_cons_succ]
  refine wpQuiet_step (fun K hK => ?_)
  rw [if_pos (by rfl)]
  refine quiet_pure (P := Try.prog) (v := .bool true) (fun _ => rfl) (hK _ ?_)
  clear hK K
  try simp only [Act.put, List.setIfInBounds_toArray, List.set_cons_zero, List.set_cons_succ]
  refine wpQuiet_step (fun K hK => ?_)
  rw [if_pos (by rfl)]
  refine quiet_pure (P := Try.prog) (v := .bool true) (fun _ => rfl) (hK _ ?_)
  clear hK K
  try simp only [Act.put, List.setIfInBounds_toArray, List.set_cons_zero, List.set_cons_succ]
  refine wpQuiet_step (fun K hK => ?_)
  rw [if_pos (by rfl)]
  refine quiet_call (args := #[]) Try.call17 rfl (by simp only [List.map_toArray, List.map_nil]) d5.out (hK _ ?_)
  clear hK K
  try simp only [Act.put, List.setIfInBounds_toArray, List.set_cons_zero, List.set_cons_succ]
  refine wpQuiet_step (fun K hK => ?_)
  rw [if_pos (by rfl)]
  refine quiet_pure (P := Try.prog) (v := .bool true) (fun _ => rfl) (hK _ ?_)
  clear hK K
  try simp only [Act.put, List.setIfInBounds_toArray, List.set_cons_zero, List.set_cons_succ]
  refine wpQuiet_step (fun K hK => ?_)
  rw [if_pos (by rfl)]
  refine quiet_pure (P := Try.prog) (v := .bool true) (fun _ => rfl) (hK _ ?_)
  clear hK K
  try simp only [Act.put, List.setIfInBounds_toArray, List.set_cons_zero, List.set_cons_succ]
  refine wpQuiet_nil ?_
  intro W M
  have bel := M.bel
  clear c1 c2 c3 d1 d2 d3 d4 d5 M M0
  go_wp2_with fail
  exact bodyPost_ret (v := .bool true) (by simp [results, Try.results10, go_sem]) rfl ⟨rfl, bel⟩
theorem apart_any (z0 : List Int) (s0 : z0.length = 16) (wz0 : ∀ z ∈ z0, (Lit.int .u8 z).wf = true) (z1 : List Int) (s1 : z1.length = 16) (wz1 : ∀ z ∈ z1, (Lit.int .u8 z).wf = true)
    (z2 : List Int) (s2 : z2.length = 16) (wz2 : ∀ z ∈ z2, (Lit.int .u8 z).wf = true) (w : World) :
    Calls Try.prog 10 #[.agg (z0.map (Value.int .u8)).toArray, .agg (z1.map (Value.int .u8)).toArray, .agg (z2.map (Value.int .u8)).toArray] w fun e w' => e = .returned (.bool true) ∧ Below w.heap.size w w' := by
  obtain ⟨k, ek, lk, bk⟩ := bytes_of wz0
  obtain ⟨a, ea, la, ba⟩ := bytes_of wz1
  obtain ⟨b, eb, lb, bb⟩ := bytes_of wz2
  rw [ek, ea, eb]
  exact apart_law k a b (by omega) (by omega) (by omega) bk ba bb w
end Go.Proofs.Ytfkdeekobiknjaa
