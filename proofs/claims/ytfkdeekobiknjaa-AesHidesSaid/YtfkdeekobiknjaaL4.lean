/- The walk of the law AesHides (layer 4). -/
import Derived.Test.YtfkdeekobiknjaaE
import Derived.Test.YtfkdeekobiknjaaA
import Derived.Test.YtfkdeekobiknjaaX
namespace Go.Proofs.Ytfkdeekobiknjaa
open Go.RowKit
structure HlMem (w : World) (g : Nat) (key b : List Nat) (W : World) : Prop where
  key : Arr W w.heap.size 26 key
  b : Arr W (w.heap.size + 1) 26 b
  t : Arr W g 27 swapT
  bel : Below w.heap.size w W
theorem HlMem.keep {w W W' : World} {g : Nat} {key b : List Nat} (h : HlMem w g key b W) (k : Below W.heap.size W W') : HlMem w g key b W' := ⟨h.key.keep k h.key.lt, h.b.keep k h.b.lt, h.t.keep k h.t.lt, h.bel.trans (k.mono h.bel.size)⟩
theorem HlMem.first {w W : World} {key b : List Nat} (h : BkMem w key b W) : HlMem w W.heap.size key b (W.alloc (.cells (u8s swapT) 27)).drew :=
  ⟨(h.key.alloc _).drew, (h.b.alloc _).drew, (Box.new W 27 (u8s swapT)).drew, (h.bel.alloc h.bel.size _).drew⟩
set_option maxRecDepth 100000 in
set_option maxHeartbeats 4000000 in
theorem hides_law (key b : List Nat) (hk : key.length = 16) (hb : b.length = 16) (bk : Bytes key) (bb : Bytes b) (w : World) :
    Calls Try.prog 4 #[.agg (u8s key), .agg (u8s b)] w fun e w' => e = .returned (.bool true) ∧ Below w.heap.size w w' := by
  obtain ⟨x, hx⟩ : ∃ x, hideL key b = x := ⟨_, rfl⟩
  obtain ⟨r, hr⟩ : ∃ x, rdL key swapT = x := ⟨_, rfl⟩
  have hx2 : hdS r b 10 = x := by rw [← hx, ← hr]; rfl
  have ox : x.length = 16 := hx ▸ (hideL_ok hk bk hb bb).1
  have orl : r.length = 176 := hr ▸ rdL_len hk bk swapT_bytes
  have orb : Bytes r := hr ▸ rdL_bytes hk bk swapT_bytes
  obtain ⟨hz27, hs27⟩ := zero_of_info info27
  have M00 := BkMem.first w key b
  have c1 : ∀ g W, HlMem w g key b W → (Instr.loadAt 26 (.pointer (some ⟨w.heap.size, 0, none⟩))).run Try.prog W = .ok (.agg (u8s key)) W := fun g W M => M.key.loadAt (P := Try.prog) Try.underlying26 (by rw [hk]; exact size26)
  have c2 : ∀ g W, HlMem w g key b W → (Instr.loadAt 26 (.pointer (some ⟨w.heap.size + 1, 0, none⟩))).run Try.prog W = .ok (.agg (u8s b)) W := fun g W M => M.b.loadAt (P := Try.prog) Try.underlying26 (by rw [hb]; exact size26)
  have c3 : ∀ g W, HlMem w g key b W → (Instr.loadAt 27 (.pointer (some ⟨g, 0, none⟩))).run Try.prog W = .ok (.agg (u8s swapT)) W := fun g W M => M.t.loadAt (P := Try.prog) Try.underlying27 (by rw [swapT_len]; exact size27)
  have d1 : ∀ g W, HlMem w g key b W → Calls Try.prog 19 #[.agg (u8s key), .agg (u8s b)] W fun e w' => e = .returned (.agg (u8s x)) ∧ HlMem w g key b w' := fun g W M => (hide_to W key b x hx hk hb bk bb).mono fun _ _ ⟨he, k⟩ => ⟨he, M.keep k⟩
  have d2 : ∀ g W, HlMem w g key b W → Calls Try.prog 21 #[.agg (u8s key), .agg (u8s swapT)] W fun e w' => e = .returned (.agg (u8s r)) ∧ HlMem w g key b w' := fun g W M => (RoundsR_to W key swapT r hr hk swapT_len bk swapT_bytes).mono fun _ _ ⟨he, k⟩ => ⟨he, M.keep k⟩
  have d3 : ∀ g W, HlMem w g key b W → Calls Try.prog 20 #[.agg (u8s r), .agg (u8s swapT), .agg (u8s b)] W fun e w' => e = .returned (.agg (u8s x)) ∧ HlMem w g key b w' := fun g W M => (HideR_to W r b x hx2 orl hb orb bb).mono fun _ _ ⟨he, k⟩ => ⟨he, M.keep k⟩
  have d5 : ∀ g W, HlMem w g key b W → Calls Try.prog 17 #[] W fun e w' => e = .returned (.bool true) ∧ HlMem w g key b w' := fun g W M => (known_to W).mono fun _ _ ⟨he, k⟩ => ⟨he, M.keep k⟩
  replace c1 := Kp.mk c1; replace c2 := Kp.mk c2; replace c3 := Kp.mk c3
  replace d1 := Kp.mk d1; replace d2 := Kp.mk d2; replace d3 := Kp.mk d3; replace d5 := Kp.mk d5
  clear hx hx2 hr hs27
  go_enter Try.func4, Try.ntmps4
  go_wp2_with fail
  refine (Table_to _).mono ?_
  rintro _ w1 ⟨rfl, hb1⟩
  have M0 := HlMem.first (M00.keep hb1)
  have u1 : (Instr.storeAt 27 (.pointer (some ⟨w1.heap.size, 0, none⟩)) (.agg (u8s swapT))).run Try.prog (w1.alloc (.cells Z27 27)) = .ok () (w1.alloc (.cells (u8s swapT) 27)) := by
    have B5 := Box.new w1 27 Z27
    have := Arr.storeAt (l := List.replicate 256 0) B5 (P := Try.prog) (ty := 27) (l' := swapT) (by rw [swapT_len]; exact size27) (by rw [swapT_len]; simp)
    rw [World.setRow_alloc_new] at this; exact this
  replace u1 := Kp.mk u1
  clear M00 hb1
  go_wp2_with ((with_reducible refine wpl_id ?_); (refine wpList_store rfl (t := 27) (x := .tmp 5) (y := .tmp 6) rfl rfl rfl u1.out ?_))
  clear u1 hz27
  refine wp_region_quiet (C := HlMem w w1.heap.size key b) (by kernel_rfl) (by kernel_rfl) M0 ?_
  show wpQuiet _ _ _ _ [_, _, _, _, _, _, _, _, _, _, _, _, _, _] _
  refine wpQuiet_step (fun K hK => ?_)
  rw [if_pos (by rfl)]
  refine quiet_load (P := Try.prog) rfl (x := .tmp 2) rfl (c1.out _) (hK _ ?_)
  clear hK K
  try simp only [Act.put, List.setIfInBounds_toArray, List.set_cons_zero, List.set_cons_succ]
  refine wpQuiet_step (fun K hK => ?_)
  rw [if_pos (by rfl)]
  refine quiet_load (P := Try.prog) rfl (x := .tmp 3) rfl (c2.out _) (hK _ ?_)
  clear hK K
  try simp only [Act.put, List.setIfInBounds_toArray, List.set_cons_zero, List.set_cons_succ]
  refine wpQuiet_step (fun K hK => ?_)
  rw [if_pos (by rfl)]
  refine quiet_call (args := #[.agg (u8s key), .agg (u8s b)]) Try.call19 rfl (by simp only [List.map_toArray, List.map_cons, List.map_nil]; rfl) (d1.out _) (hK _ ?_)
  clear hK K
  try simp only [Act.put, List.setIfInBounds_toArray, List.set_cons_zero, List.set_cons_succ]
  refine wpQuiet_step (fun K hK => ?_)
  rw [if_pos (by rfl)]
  refine quiet_load (P := Try.prog) rfl (x := .tmp 2) rfl (c1.out _) (hK _ ?_)
  clear hK K
  try simp only [Act.put, List.setIfInBounds_toArray, List.set_cons_zero, List.set_cons_succ]
  refine wpQuiet_step (fun K hK => ?_)
  rw [if_pos (by rfl)]
  refine quiet_load (P := Try.prog) rfl (x := .tmp 5) rfl (c3.out _) (hK _ ?_)
  clear hK K
  try simp only [Act.put, List.setIfInBounds_toArray, List.set_cons_zero, List.set_cons_succ]
  refine wpQuiet_step (fun K hK => ?_)
  rw [if_pos (by rfl)]
  refine quiet_call (args := #[.agg (u8s key), .agg (u8s swapT)]) Try.call21 rfl (by simp only [List.map_toArray, List.map_cons, List.map_nil]; rfl) (d2.out _) (hK _ ?_)
  clear hK K
  try simp only [Act.put, List.setIfInBounds_toArray, List.set_cons_zero, List.set_cons_succ]
  refine wpQuiet_step (fun K hK => ?_)
  rw [if_pos (by rfl)]
  refine quiet_load (P := Try.prog) rfl (x := .tmp 5) rfl (c3.out _) (hK _ ?_)
  clear hK K
  try simp only [Act.put, List.setIfInBounds_toArray, List.set_cons_zero, List.set_cons_succ]
  refine wpQuiet_step (fun K hK => ?_)
  rw [if_pos (by rfl)]
  refine quiet_load (P := Try.prog) rfl (x := .tmp 3) rfl (c2.out _) (hK _ ?_)
  clear hK K
  try simp only [Act.put, List.setIfInBounds_toArray, List.set_cons_zero, List.set_cons_succ]
  refine wpQuiet_step (fun K hK => ?_)
  rw [if_pos (by rfl)]
  refine quiet_call (args := #[.agg (u8s r), .agg (u8s swapT), .agg (u8s b)]) Try.call20 rfl (by simp only [List.map_toArray, List.map_cons, List.map_nil]; rfl) (d3.out _) (hK _ ?_)
  clear hK K
  try simp only [Act.put, List.setIfInBounds_toArray, List.set_cons_zero, List.set_cons_succ]
  refine wpQuiet_step (fun K hK => ?_)
  rw [if_pos (by rfl)]
  refine quiet_pure (P := Try.prog) (v := .bool true) (fun w => exec_eql26 rfl rfl rfl ox ox (decide_eq_true rfl) w) (hK _ ?_)
  clear hK K
  try simp only [Act.put, List.setIfInBounds_toArray, List.set_cons_zero, List.set_cons_succ]
  refine wpQuiet_step (fun K hK => ?_)
  rw [if_pos (by rfl)]
  refine quiet_pure (P := Try.prog) (v := .bool true) (fun _ => rfl) (hK _ ?_)
  clear hK K
  try simp only [Act.put, List.setIfInBounds_toArray, List.set_cons_zero, List.set_cons_succ]
  refine wpQuiet_step (fun K hK => ?_)
  rw [if_pos (by rfl)]
  refine quiet_call (args := #[]) Try.call17 rfl (by simp only [List.map_toArray, List.map_nil]) (d5.out _) (hK _ ?_)
  clear hK K
  try simp only [Act.put, List.setIfInBounds_toArray, List.set_cons_zero, List.set_cons_succ]
  refine wpQuiet_step (fun K hK => ?_)
  rw [if_pos (by rfl)]
  refine quiet_pure (P := Try.prog) (v := .bool true) (fun _ => rfl) (hK _ ?_)
  clear hK K
  try simp only [Act.put, List.setIfInBounds_toArray, List.set_cons_zero, List.set_cons_succ]
  refine wpQuiet_step (fun K hK => ?_)
  rw [if_pos (by rfl)]
  refine quiet_pure (P := Try.prog) (v := .bool true) (fun _ => rfl) (hK _ ?_)
  clear hK K
  try simp only [Act.put, List.setIfInBounds_toArray, List.set_cons_zero, List.set_cons_succ]
  refine wpQuiet_nil ?_
  intro W M
  have bel := M.bel
  clear c1 c2 c3 d1 d2 d3 d5 M M0
  go_wp2_with fail
  exact bodyPost_ret (v := .bool true) (by simp [results, Try.results4, go_sem]) rfl ⟨rfl, bel⟩
theorem hides_any (z0 : List Int) (s0 : z0.length = 16) (wz0 : ∀ z ∈ z0, (Lit.int .u8 z).wf = true) (z1 : List Int) (s1 : z1.length = 16) (wz1 : ∀ z ∈ z1, (Lit.int .u8 z).wf = true) (w : World) :
    Calls Try.prog 4 #[.agg (z0.map (Value.int .u8)).toArray, .agg (z1.map (Value.int .u8)).toArray] w fun e w' => e = .returned (.bool true) ∧ Below w.heap.size w w' := by
  obtain ⟨a, ea, la, ba⟩ := bytes_of wz0
  obtain ⟨b, eb, lb, bb⟩ := bytes_of wz1
  rw [ea, eb]
  exact hides_law a b (by omega) (by omega) ba bb w
end Go.Proofs.Ytfkdeekobiknjaa
