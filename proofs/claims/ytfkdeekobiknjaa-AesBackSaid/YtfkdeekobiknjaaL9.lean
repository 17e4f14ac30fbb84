/- The walk of the law AesBack (layer 4). -/
import Derived.Test.YtfkdeekobiknjaaE
import Derived.Test.YtfkdeekobiknjaaA
namespace Go.Proofs.Ytfkdeekobiknjaa
open Go.RowKit
set_option maxRecDepth 100000 in
set_option maxHeartbeats 400000 in
theorem back_law (key b : List Nat) (hk : key.length = 16) (hb : b.length = 16) (bk : Bytes key) (bb : Bytes b) (w : World) :
    Calls Try.prog 9 #[.agg (u8s key), .agg (u8s b)] w fun e w' => e = .returned (.bool true) ∧ Below w.heap.size w w' := by
  obtain ⟨x, hx⟩ : ∃ x, hideL key b = x := ⟨_, rfl⟩
  obtain ⟨y, hy⟩ : ∃ x, showL key b = x := ⟨_, rfl⟩
  have ox := hideL_ok hk bk hb bb
  have oy := showL_ok hk bk hb bb
  have sx := showL_hideL hk bk hb bb
  have sy := hideL_showL hk bk hb bb
  rw [hx] at ox sx
  rw [hy] at oy sy
  have M0 := (BkMem.first w key b).drew
  have c1 : ∀ W, BkMem w key b W → (Instr.loadAt 26 (.pointer (some ⟨w.heap.size, 0, none⟩))).run Try.prog W = .ok (.agg (u8s key)) W := fun W M => M.key.loadAt (P := Try.prog) Try.underlying26 (by rw [hk]; exact size26)
  have c2 : ∀ W, BkMem w key b W → (Instr.loadAt 26 (.pointer (some ⟨w.heap.size + 1, 0, none⟩))).run Try.prog W = .ok (.agg (u8s b)) W := fun W M => M.b.loadAt (P := Try.prog) Try.underlying26 (by rw [hb]; exact size26)
  have d1 : ∀ W, BkMem w key b W → Calls Try.prog 19 #[.agg (u8s key), .agg (u8s b)] W fun e w' => e = .returned (.agg (u8s x)) ∧ BkMem w key b w' := fun W M => (hide_to W key b x hx hk hb bk bb).mono fun _ _ ⟨he, k⟩ => ⟨he, M.keep k⟩
  have d2 : ∀ W, BkMem w key b W → Calls Try.prog 23 #[.agg (u8s key), .agg (u8s x)] W fun e w' => e = .returned (.agg (u8s b)) ∧ BkMem w key b w' := fun W M => (show_to W key x b sx hk ox.1 bk ox.2).mono fun _ _ ⟨he, k⟩ => ⟨he, M.keep k⟩
  have d3 : ∀ W, BkMem w key b W → Calls Try.prog 23 #[.agg (u8s key), .agg (u8s b)] W fun e w' => e = .returned (.agg (u8s y)) ∧ BkMem w key b w' := fun W M => (show_to W key b y hy hk hb bk bb).mono fun _ _ ⟨he, k⟩ => ⟨he, M.keep k⟩
  have d4 : ∀ W, BkMem w key b W → Calls Try.prog 19 #[.agg (u8s key), .agg (u8s y)] W fun e w' => e = .returned (.agg (u8s b)) ∧ BkMem w key b w' := fun W M => (hide_to W key y b sy hk oy.1 bk oy.2).mono fun _ _ ⟨he, k⟩ => ⟨he, M.keep k⟩
  have d5 : ∀ W, BkMem w key b W → Calls Try.prog 17 #[] W fun e w' => e = .returned (.bool true) ∧ BkMem w key b w' := fun W M => (known_to W).mono fun _ _ ⟨he, k⟩ => ⟨he, M.keep k⟩
  replace c1 := Kp.mk c1; replace c2 := Kp.mk c2
  replace d1 := Kp.mk d1; replace d2 := Kp.mk d2; replace d3 := Kp.mk d3; replace d4 := Kp.mk d4; replace d5 := Kp.mk d5
  clear sx sy hx hy ox oy
  go_enter Try.func9, Try.ntmps9
  go_wp2_with fail
  refine wp_region_quiet (C := BkMem w key b) (by kernel_rfl) (by kernel_rfl) M0 ?_
  show wpQuiet _ _ _ _ [_, _, _, _, _, _, _, _, _, _, _, _, _, _, _, _, _, _, _, _] _
  refine wpQuiet_step (fun K hK => ?_)
  rw [if_pos (by rfl)]
  refine quiet_load (P := Try.prog) rfl (x := .tmp 2) rfl c1.out (hK _ ?_)
  clear hK K
  try simp only [Act.put, List.setIfInBounds_toArray, List.set_cons_zero, List.set_cons_succ]
  refine wpQuiet_step (fun K hK => ?_)
  rw [if_pos (by rfl)]
  refine quiet_load (P := Try.prog) rfl (x := .tmp 2) rfl c1.out (hK _ ?_)
  clear hK K
  try simp only [Act.put, List.setIfInBounds_toArray, List.set_cons_zero, List.set_cons_succ]
  refine wpQuiet_step (fun K hK => ?_)
  rw [if_pos (by rfl)]
  refine quiet_load (P := Try.prog) rfl (x := .tmp 3) rfl c2.out (hK _ ?_)
  clear hK K
  try simp only [Act.put, List.setIfInBounds_toArray, List.set_cons_zero, List.set_cons_succ]
  refine wpQuiet_step (fun K hK => ?_)
  rw [if_pos (by rfl)]
  refine quiet_call (args := #[.agg (u8s key), .agg (u8s b)]) Try.call19 rfl (by simp only [List.map_toArray, List.map_cons, List.map_nil]; rfl) d1.out (hK _ ?_)
  clear hK K
  try simp only [Act.put, List.setIfInBounds_toArray, List.set_cons_zero, List.set_cons_succ]
  refine wpQuiet_step (fun K hK => ?_)
  rw [if_pos (by rfl)]
  refine quiet_call (args := #[.agg (u8s key), .agg (u8s x)]) Try.call23 rfl (by simp only [List.map_toArray, List.map_cons, List.map_nil]; rfl) d2.out (hK _ ?_)
  clear hK K
  try simp only [Act.put, List.setIfInBounds_toArray, List.set_cons_zero, List.set_cons_succ]
  refine wpQuiet_step (fun K hK => ?_)
  rw [if_pos (by rfl)]
  refine quiet_load (P := Try.prog) rfl (x := .tmp 3) rfl c2.out (hK _ ?_)
  clear hK K
  try simp only [Act.put, List.setIfInBounds_toArray, List.set_cons_zero, List.set_cons_succ]
  refine wpQuiet_step (fun K hK => ?_)
  rw [if_pos (by rfl)]
  refine quiet_pure (P := Try.prog) (v := .bool true) (fun w => exec_eql26 rfl rfl rfl hb hb (decide_eq_true rfl) w) (hK _ ?_)
  clear hK K
  try simp only [Act.put, List.setIfInBounds_toArray, List.set_cons_zero, List.set_cons_succ]
  refine wpQuiet_step (fun K hK => ?_)
  rw [if_pos (by rfl)]
  refine quiet_pure (P := Try.prog) (v := .bool true) (fun _ => rfl) (hK _ ?_)
  clear hK K
  try simp only [Act.put, List.setIfInBounds_toArray, List.set_cons_zero, List.set_cons_succ]
  refine wpQuiet_step (fun K hK => ?_)
  rw [if_pos (by rfl)]
  refine quiet_load (P := Try.prog) rfl (x := .tmp 2) rfl c1.out (hK _ ?_)
  clear hK K
  try simp only [Act.put, List.setIfInBounds_toArray, List.set_cons_zero, List.set_cons_succ]
  refine wpQuiet_step (fun K hK => ?_)
  rw [if_pos (by rfl)]
  refine quiet_load (P := Try.prog) rfl (x := .tmp 2) rfl c1.out (hK _ ?_)
  clear hK K
  try simp only [Act.put, List.setIfInBounds_toArray, List.set_cons_zero, List.set_cons_succ]
  refine wpQuiet_step (fun K hK => ?_)
  rw [if_pos (by rfl)]
  refine quiet_load (P := Try.prog) rfl (x := .tmp 3) rfl c2.out (hK _ ?_)
  clear hK K
  try simp only [Act.put, List.setIfInBounds_toArray, List.set_cons_zero, List.set_cons_succ]
  refine wpQuiet_step (fun K hK => ?_)
  rw [if_pos (by rfl)]
  refine quiet_call (args := #[.agg (u8s key), .agg (u8s b)]) Try.call23 rfl (by simp only [List.map_toArray, List.map_cons, List.map_nil]; rfl) d3.out (hK _ ?_)
  clear hK K
  try simp only [Act.put, List.setIfInBounds_toArray, List.set_cons_zero, List.set_cons_succ]
  refine wpQuiet_step (fun K hK => ?_)
  rw [if_pos (by rfl)]
  refine quiet_call (args := #[.agg (u8s key), .agg (u8s y)]) Try.call19 rfl (by simp only [List.map_toArray, List.map_cons, List.map_nil]; rfl) d4.out (hK _ ?_)
  clear hK K
  try simp only [Act.put, List.setIfInBounds_toArray, List.set_cons_zero, List.set_cons_succ]
  refine wpQuiet_step (fun K hK => ?_)
  rw [if_pos (by rfl)]
  refine quiet_load (P := Try.prog) rfl (x := .tmp 3) rfl c2.out (hK _ ?_)
  clear hK K
  try simp only [Act.put, List.setIfInBounds_toArray, List.set_cons_zero, List.set_cons_succ]
  refine wpQuiet_step (fun K hK => ?_)
  rw [if_pos (by rfl)]
  refine quiet_pure (P := Try.prog) (v := .bool true) (fun w => exec_eql26 rfl rfl rfl hb hb (decide_eq_true rfl) w) (hK _ ?_)
  clear hK K
  try simp only [Act.put, List.setIfInBounds_toArray, List.set_cons_zero, List.set_cons_succ]
  refine wpQuiet_step (fun K hK => ?_)
  rw [if_pos (by rfl)]
  refine quiet_pure (P := Try.prog) (v := .bool true) (fun _ => rfl) (hK _ ?_)
  clear hK K
  try simp only [Act.put, List.setIfInBounds_toArray, List.set_cons_zero, List.set_cons_succ]
  refine wpQuiet_step (fun K hK => ?_)
  rw [if_pos (by rfl)]
  refine quiet_pure (P := Try.prog) (v := .bool true) (fun _ => rfl) (hK _ ?_)
  clear hK K
  try simp only [Act.put, List.setIfInBounds_toArray, List.set_cons_zero, List.set_cons_succ]
  refine wpQuiet_step (fun K hK => ?_)
  rw [if_pos (by rfl)]
  refine quiet_call (args := #[]) Try.call17 rfl (by simp only [List.map_toArray, List.map_nil]) d5.out (hK _ ?_)
  clear hK K
  try simp only [Act.put, List.setIfInBounds_toArray, List.set_cons_zero, List.set_cons_succ]
  refine wpQuiet_step (fun K hK => ?_)
  rw [if_pos (by rfl)]
  refine quiet_pure (P := Try.prog) (v := .bool true) (fun _ => rfl) (hK _ ?_)
  clear hK K
  try simp only [Act.put, List.setIfInBounds_toArray, List.set_cons_zero, List.set_cons_succ]
  refine wpQuiet_step (fun K hK => ?_)
  rw [if_pos (by rfl)]
  refine quiet_pure (P := Try.prog) (v := .bool true) (fun _ => rfl) (hK _ ?_)
  clear hK K
  try simp only [Act.put, List.setIfInBounds_toArray, List.set_cons_zero, List.set_cons_succ]
  refine wpQuiet_nil ?_
  intro W M
  have bel := M.bel
  clear c1 c2 d1 d2 d3 d4 d5 M M0
  go_wp2_with fail
  exact bodyPost_ret (v := .bool true) (by simp [results, Try.results9, go_sem]) rfl ⟨rfl, bel⟩
theorem back_any (z0 : List Int) (s0 : z0.length = 16) (wz0 : ∀ z ∈ z0, (Lit.int .u8 z).wf = true) (z1 : List Int) (s1 : z1.length = 16) (wz1 : ∀ z ∈ z1, (Lit.int .u8 z).wf = true) (w : World) :
    Calls Try.prog 9 #[.agg (z0.map (Value.int .u8)).toArray, .agg (z1.map (Value.int .u8)).toArray] w fun e w' => e = .returned (.bool true) ∧ Below w.heap.size w w' := by
  obtain ⟨a, ea, la, ba⟩ := bytes_of wz0
  obtain ⟨b, eb, lb, bb⟩ := bytes_of wz1
  rw [ea, eb]
  exact back_law a b (by omega) (by omega) ba bb w
end Go.Proofs.Ytfkdeekobiknjaa
