/- The walk of the law AesRounds (layer 4). -/
import Derived.Test.YtfkdeekobiknjaaE
import Derived.Test.YtfkdeekobiknjaaA
import Derived.Test.YtfkdeekobiknjaaT
import Derived.Test.YtfkdeekobiknjaaV
import Derived.Test.YtfkdeekobiknjaaZ
namespace Go.Proofs.Ytfkdeekobiknjaa
open Go.RowKit
structure OnMem (w : World) (key : List Nat) (W : World) : Prop where
  key : Arr W w.heap.size 26 key
  bel : Below w.heap.size w W
theorem OnMem.keep {w W W' : World} {key : List Nat} (h : OnMem w key W) (k : Below W.heap.size W W') : OnMem w key W' := ⟨h.key.keep k h.key.lt, h.bel.trans (k.mono h.bel.size)⟩
set_option maxRecDepth 100000 in
set_option maxHeartbeats 4000000 in
theorem rounds_law (key : List Nat) (hk : key.length = 16) (bk : Bytes key) (w : World) :
    Calls Try.prog 7 #[.agg (u8s key)] w fun e w' => e = .returned (.bool true) ∧ Below w.heap.size w w' := by
  obtain ⟨x, hx⟩ : ∃ x, rdL key swapT = x := ⟨_, rfl⟩
  have ox : x.length = 176 := hx ▸ rdL_len hk bk swapT_bytes
  have M0 : OnMem w key (w.alloc (.cells (u8s key) 26)).drew := ⟨(Box.new w 26 (u8s key)).drew, ((Below.refl _ _).alloc (Nat.le_refl _) _).drew⟩
  have c1 : ∀ W, OnMem w key W → (Instr.loadAt 26 (.pointer (some ⟨w.heap.size, 0, none⟩))).run Try.prog W = .ok (.agg (u8s key)) W := fun W M => M.key.loadAt (P := Try.prog) Try.underlying26 (by rw [hk]; exact size26)
  have d1 : ∀ W, OnMem w key W → Calls Try.prog 22 #[.agg (u8s key)] W fun e w' => e = .returned (.agg (u8s x)) ∧ OnMem w key w' := fun W M => (Rounds_to W key x hx hk bk).mono fun _ _ ⟨he, k⟩ => ⟨he, M.keep k⟩
  have d2 : ∀ W, OnMem w key W → Calls Try.prog 18 #[] W fun e w' => e = .returned (.agg (u8s swapT)) ∧ OnMem w key w' := fun W M => (Table_to W).mono fun _ _ ⟨he, k⟩ => ⟨he, M.keep k⟩
  have d3 : ∀ W, OnMem w key W → Calls Try.prog 21 #[.agg (u8s key), .agg (u8s swapT)] W fun e w' => e = .returned (.agg (u8s x)) ∧ OnMem w key w' := fun W M => (RoundsR_to W key swapT x hx hk swapT_len bk swapT_bytes).mono fun _ _ ⟨he, k⟩ => ⟨he, M.keep k⟩
  have d5 : ∀ W, OnMem w key W → Calls Try.prog 17 #[] W fun e w' => e = .returned (.bool true) ∧ OnMem w key w' := fun W M => (known_to W).mono fun _ _ ⟨he, k⟩ => ⟨he, M.keep k⟩
  replace c1 := Kp.mk c1
  replace d1 := Kp.mk d1; replace d2 := Kp.mk d2; replace d3 := Kp.mk d3; replace d5 := Kp.mk d5
  clear hx
  go_enter Try.func7, Try.ntmps7
  go_wp2_with fail
  refine wp_region_quiet (C := OnMem w key) (by kernel_rfl) (by kernel_rfl) M0 ?_
  show wpQuiet _ _ _ _ [_, _, _, _, _, _, _, _, _, _] _
  refine wpQuiet_step (fun K hK => ?_)
  rw [if_pos (by rfl)]
  refine quiet_load (P := Try.prog) rfl (x := .tmp 1) rfl c1.out (hK _ ?_)
  clear hK K
  try simp only [Act.put, List.setIfInBounds_toArray, List.set_cons_zero, List.set_cons_succ]
  refine wpQuiet_step (fun K hK => ?_)
  rw [if_pos (by rfl)]
  refine quiet_call (args := #[.agg (u8s key)]) Try.call22 rfl (by simp only [List.map_toArray, List.map_cons, List.map_nil]; rfl) d1.out (hK _ ?_)
  clear hK K
  try simp only [Act.put, List.setIfInBounds_toArray, List.set_cons_zero, List.set_cons_succ]
  refine wpQuiet_step (fun K hK => ?_)
  rw [if_pos (by rfl)]
  refine quiet_load (P := Try.prog) rfl (x := .tmp 1) rfl c1.out (hK _ ?_)
  clear hK K
  try simp only [Act.put, List.setIfInBounds_toArray, List.set_cons_zero, List.set_cons_succ]
  refine wpQuiet_step (fun K hK => ?_)
  rw [if_pos (by rfl)]
  refine quiet_call (args := #[]) Try.call18 rfl (by simp only [List.map_toArray, List.map_nil]) d2.out (hK _ ?_)
  clear hK K
  try simp only [Act.put, List.setIfInBounds_toArray, List.set_cons_zero, List.set_cons_succ]
  refine wpQuiet_step (fun K hK => ?_)
  rw [if_pos (by rfl)]
  refine quiet_call (args := #[.agg (u8s key), .agg (u8s swapT)]) Try.call21 rfl (by simp only [List.map_toArray, List.map_cons, List.map_nil]; rfl) d3.out (hK _ ?_)
  clear hK K
  try simp only [Act.put, List.setIfInBounds_toArray, List.set_cons_zero, List.set_cons_succ]
  refine wpQuiet_step (fun K hK => ?_)
  rw [if_pos (by rfl)]
  refine quiet_pure (P := Try.prog) (v := .bool true) (fun w => exec_eql31 rfl rfl rfl ox w) (hK _ ?_)
  clear hK K
  try simp only [Act.put, List.setIfInBounds_toArray, List.set_cons_zero, List.set_cons_succ]
  refine wpQuiet_step (fun K hK => ?_)
  rw [if_pos (by rfl)]
  refine quiet_pure (P := Try.prog) (v := .bool true) (fun _ => rfl) (hK _ ?_)
  clear hK K
  try simp only [Act.put, List.setIfInBounds_toArray, List.set_cons_zero, List.set_cons_succ]
  refine wpQuiet_step (fun K hK => ?_)
  rw [if_pos (by rfl)]
  refine quiet_call (args := #[]) Try.call17 rfl (by simp only [List.map_toArray, List.map_nil]) d5.out (hK _ ?_)
  clear hK K
  try simp only [Act.put, List.setIfInBounds_toArray, List.set_cons_zero, List.set_cons_succ]
  refine wpQuiet_step (fun K hK => ?_)
  rw [if_pos (by rfl)]
  refine quiet_pure (P := Try.prog) (v := .bool true) (fun _ => rfl) (hK _ ?_)
  clear hK K
  try simp only [Act.put, List.setIfInBounds_toArray, List.set_cons_zero, List.set_cons_succ]
  refine wpQuiet_step (fun K hK => ?_)
  rw [if_pos (by rfl)]
  refine quiet_pure (P := Try.prog) (v := .bool true) (fun _ => rfl) (hK _ ?_)
  clear hK K
  try simp only [Act.put, List.setIfInBounds_toArray, List.set_cons_zero, List.set_cons_succ]
  refine wpQuiet_nil ?_
  intro W M
  have bel := M.bel
  clear c1 d1 d2 d3 d5 M M0
  go_wp2_with fail
  exact bodyPost_ret (v := .bool true) (by simp [results, Try.results7, go_sem]) rfl ⟨rfl, bel⟩
theorem rounds_any (z0 : List Int) (s0 : z0.length = 16) (wz0 : ∀ z ∈ z0, (Lit.int .u8 z).wf = true) (w : World) :
    Calls Try.prog 7 #[.agg (z0.map (Value.int .u8)).toArray] w fun e w' => e = .returned (.bool true) ∧ Below w.heap.size w w' := by
  obtain ⟨a, ea, la, ba⟩ := bytes_of wz0
  rw [ea]
  exact rounds_law a (by omega) ba w
end Go.Proofs.Ytfkdeekobiknjaa
