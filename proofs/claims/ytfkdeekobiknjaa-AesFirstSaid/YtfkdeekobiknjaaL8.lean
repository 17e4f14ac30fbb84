/- The walk of the law AesFirst (layer 4). -/
import Derived.Test.YtfkdeekobiknjaaR2
import Derived.Test.YtfkdeekobiknjaaA
import Derived.Test.YtfkdeekobiknjaaV
import Derived.Test.YtfkdeekobiknjaaY
namespace Go.Proofs.Ytfkdeekobiknjaa
open Go.RowKit
/-- What may come up: each operation once, its own ones first. -/
def fsAllowed (L : List Bool) (i : Nat) : Bool :=
  match L, i with
  | [b0, _, _, _, _, _, _, _], 0 => !b0
  | [b0, b1, _, _, _, _, _, _], 1 => !b1 && b0
  | [_, _, b2, _, _, _, _, _], 2 => !b2
  | [_, b1, b2, b3, _, _, _, _], 3 => !b3 && b2 && b1
  | [_, _, _, _, b4, _, _, _], 4 => !b4
  | [_, _, _, _, _, b5, _, _], 5 => !b5
  | [_, b1, _, b3, b4, _, b6, _], 6 => !b6 && b4 && b1 && b3
  | [_, _, _, b3, _, b5, _, b7], 7 => !b7 && b5 && b3
  | _, _ => false
/-- A new block of 176 bytes that holds l. -/
def fsNew (w : World) (v : Value) (l : List Nat) (W : World) : Prop := ∃ g, v = .pointer (some ⟨g, 0, none⟩) ∧ w.heap.size + 1 < g ∧ Arr W g 31 l
def fsApart (v v' : Value) : Prop := ∀ g g', v = .pointer (some ⟨g, 0, none⟩) → v' = .pointer (some ⟨g', 0, none⟩) → g ≠ g'
structure FsMem (w : World) (a b x y : List Nat) (b0 b1 b2 b3 b4 b5 b6 b7 : Bool) (v5 v6 v8 v9 v10 v11 : Value) (W : World) : Prop where
  mem : BkMem w a b W
  h0 : b0 = true → v8 = .agg (u8s a)
  h1 : b1 = true → v9 = .agg (u8s x)
  h2 : b2 = true → v10 = .agg (u8s b)
  h3 : b3 = true → v11 = .agg (u8s y)
  h4 : b4 = true → fsNew w v5 (if b6 then x else List.replicate 176 0) W
  h5 : b5 = true → fsNew w v6 (if b7 then y else List.replicate 176 0) W
  h45 : b4 = true → b5 = true → fsApart v5 v6
  h64 : b6 = true → b4 = true
  h75 : b7 = true → b5 = true
theorem fsNew.keep {w W W' : World} {v : Value} {l : List Nat} (h : fsNew w v l W) (k : Below W.heap.size W W') : fsNew w v l W' :=
  let ⟨g, e, hg, ha⟩ := h; ⟨g, e, hg, ha.keep k ha.lt⟩
theorem newApart_left {w W : World} {v : Value} {l : List Nat} (h : fsNew w v l W) : fsApart (.pointer (some ⟨W.heap.size, 0, none⟩)) v := by
  obtain ⟨g, e, _, hA⟩ := h
  have := hA.lt
  intro g1 g2 e1 e2
  rw [e] at e2
  simp at e1 e2
  omega
theorem newApart_right {w W : World} {v : Value} {l : List Nat} (h : fsNew w v l W) : fsApart v (.pointer (some ⟨W.heap.size, 0, none⟩)) := by
  obtain ⟨g, e, _, hA⟩ := h
  have := hA.lt
  intro g1 g2 e1 e2
  rw [e] at e1
  simp at e1 e2
  omega
theorem fsNew.farRow {w W : World} {v : Value} {l : List Nat} {k : Nat} {cs : Array Value} (h : fsNew w v l W) (hk : ∀ g, v = .pointer (some ⟨g, 0, none⟩) → k ≠ g) : fsNew w v l (W.setRow k cs) :=
  let ⟨g, e, hg, ha⟩ := h; ⟨g, e, hg, ha.farRow (hk g e)⟩
structure FiMem (w : World) (a b x y : List Nat) (g5 g6 : Nat) (W : World) : Prop where
  m : BkMem w a b W
  x : Arr W g5 31 x
  y : Arr W g6 31 y
theorem FiMem.drew {w W : World} {a b x y : List Nat} {g5 g6 : Nat} (h : FiMem w a b x y g5 g6 W) : FiMem w a b x y g5 g6 W.drew := ⟨h.m.drew, h.x, h.y⟩
def fsFrame (w : World) (a b : List Nat) (v5 v6 v8 v9 v10 v11 : Value) : Act :=
  ⟨#[.agg (u8s a), .agg (u8s b), .pointer (some ⟨w.heap.size, 0, none⟩), .pointer (some ⟨w.heap.size + 1, 0, none⟩), .bool false, v5, v6, undef, v8, v9, v10, v11, undef, undef, undef, undef, undef, undef, undef, undef, undef, undef, undef, undef, undef, undef, undef, undef, undef, undef, undef, undef, undef, undef, undef, undef, undef, undef], []⟩
def fsInv (w : World) (a b x y : List Nat) (L : List Bool) (A : Act) (W : World) : Prop :=
  ∃ (b0 b1 b2 b3 b4 b5 b6 b7 : Bool) (v5 v6 v8 v9 v10 v11 : Value), L = [b0, b1, b2, b3, b4, b5, b6, b7] ∧ A = fsFrame w a b v5 v6 v8 v9 v10 v11 ∧ FsMem w a b x y b0 b1 b2 b3 b4 b5 b6 b7 v5 v6 v8 v9 v10 v11 W
set_option maxRecDepth 100000 in
set_option maxHeartbeats 4000000 in
theorem first_law (a b : List Nat) (ha : a.length = 16) (hb : b.length = 16) (ba : Bytes a) (bb : Bytes b) (w : World) :
    Calls Try.prog 8 #[.agg (u8s a), .agg (u8s b)] w fun e w' => e = .returned (.bool true) ∧ Below w.heap.size w w' := by
  obtain ⟨x, hx⟩ : ∃ x, rdL a swapT = x := ⟨_, rfl⟩
  obtain ⟨y, hy⟩ : ∃ y, rdL b swapT = y := ⟨_, rfl⟩
  have xl : x.length = 176 := hx ▸ rdL_len ha ba swapT_bytes
  have yl : y.length = 176 := hy ▸ rdL_len hb bb swapT_bytes
  obtain ⟨hz31, hs31⟩ := zero_of_info info31
  have hal : ∀ W : World, (Instr.alloc 31 true (.tuple #[])).run Try.prog W = .ok (.pointer (some ⟨W.heap.size, 0, none⟩)) (W.alloc (.cells Z31 31)) := fun W => by
    clear hs31
    go_simp
  have M0 := (BkMem.first w a b).drew
  have rx : ∀ i, i < 11 → (rdRow x i = rdRow y i ↔ a = b) := fun i hi => by rw [← hx, ← hy]; exact rows_eq ha hb hi
  have r0 := row_zero (t := swapT) ha
  have r1 := row_zero (t := swapT) hb
  rw [hx] at r0
  rw [hy] at r1
  replace hx := Kp.mk hx; replace hy := Kp.mk hy; replace xl := Kp.mk xl; replace yl := Kp.mk yl; replace hal := Kp.mk hal; replace ha := Kp.mk ha; replace hb := Kp.mk hb
  replace r0 := Kp.mk r0; replace r1 := Kp.mk r1; replace rx := Kp.mk rx
  clear hs31 hz31
  go_enter Try.func8, Try.ntmps8
  go_wp2_with fail
  refine wp_region_inv (n := 8) (by kernel_rfl) rfl fsAllowed (by kernel_rfl) (fsInv w a b x y) ?_ ?_ ?_
  · exact ⟨false, false, false, false, false, false, false, false, undef, undef, undef, undef, undef, undef, rfl, rfl, ⟨M0, nofun, nofun, nofun, nofun, nofun, nofun, nofun, nofun, nofun⟩⟩
  · intro L A W i _ hi hall hI
    obtain ⟨b0, b1, b2, b3, b4, b5, b6, b7, v5, v6, v8, v9, v10, v11, rfl, rfl, I⟩ := hI
    match i, hi with
    | 0, _ =>
      refine wpOp_of rfl (by rfl) (op_load rfl (x := .tmp 2) rfl (I.mem.key.loadAt (P := Try.prog) Try.underlying26 (by rw [ha.out]; exact size26)) ?_)
      exact ⟨true, b1, b2, b3, b4, b5, b6, b7, v5, v6, .agg (u8s a), v9, v10, v11, rfl, rfl, { I with h0 := fun _ => rfl }⟩
    | 1, _ =>
      obtain rfl : b0 = true := by simp [fsAllowed] at hall; exact hall.2
      obtain rfl := I.h0 rfl
      refine wpOp_of rfl (by rfl) (op_call (args := #[.agg (u8s a)]) Try.call22 rfl (by simp only [List.map_toArray, List.map_cons, List.map_nil]; rfl) ((Rounds_to W a x hx.out ha.out ba).mono fun e W' ⟨he, k⟩ => ⟨he, ?_⟩))
      exact ⟨true, true, b2, b3, b4, b5, b6, b7, v5, v6, .agg (u8s a), .agg (u8s x), v10, v11, rfl, rfl, { mem := I.mem.keep k, h0 := I.h0, h1 := fun _ => rfl, h2 := I.h2, h3 := I.h3, h4 := fun h => (I.h4 h).keep k, h5 := fun h => (I.h5 h).keep k, h45 := I.h45, h64 := I.h64, h75 := I.h75 }⟩
    | 2, _ =>
      refine wpOp_of rfl (by rfl) (op_load rfl (x := .tmp 3) rfl (I.mem.b.loadAt (P := Try.prog) Try.underlying26 (by rw [hb.out]; exact size26)) ?_)
      exact ⟨b0, b1, true, b3, b4, b5, b6, b7, v5, v6, v8, v9, .agg (u8s b), v11, rfl, rfl, { I with h2 := fun _ => rfl }⟩
    | 3, _ =>
      obtain rfl : b2 = true := by simp [fsAllowed] at hall; exact hall.1.2
      obtain rfl := I.h2 rfl
      refine wpOp_of rfl (by rfl) (op_call (args := #[.agg (u8s b)]) Try.call22 rfl (by simp only [List.map_toArray, List.map_cons, List.map_nil]; rfl) ((Rounds_to W b y hy.out hb.out bb).mono fun e W' ⟨he, k⟩ => ⟨he, ?_⟩))
      exact ⟨b0, b1, true, true, b4, b5, b6, b7, v5, v6, v8, v9, .agg (u8s b), .agg (u8s y), rfl, rfl, { mem := I.mem.keep k, h0 := I.h0, h1 := I.h1, h2 := I.h2, h3 := fun _ => rfl, h4 := fun h => (I.h4 h).keep k, h5 := fun h => (I.h5 h).keep k, h45 := I.h45, h64 := I.h64, h75 := I.h75 }⟩
    | 4, _ =>
      obtain rfl : b4 = false := by simpa [fsAllowed] using hall
      obtain rfl : b6 = false := by cases b6 with | false => rfl | true => exact absurd (I.h64 rfl) (by decide)
      refine wpOp_of rfl (by rfl) (op_alloc rfl (hal.out W) ?_)
      have k : Below W.heap.size W (W.alloc (.cells Z31 31)) := (Below.refl _ _).alloc (Nat.le_refl _) _
      exact ⟨b0, b1, b2, b3, true, b5, false, b7, .pointer (some ⟨W.heap.size, 0, none⟩), v6, v8, v9, v10, v11, rfl, rfl, { mem := I.mem.keep k, h0 := I.h0, h1 := I.h1, h2 := I.h2, h3 := I.h3, h4 := fun _ => ⟨W.heap.size, rfl, I.mem.b.lt, Box.new _ _ _⟩, h5 := fun h => (I.h5 h).keep k, h45 := fun _ h5 => newApart_left (I.h5 h5), h64 := nofun, h75 := I.h75 }⟩
    | 5, _ =>
      obtain rfl : b5 = false := by simpa [fsAllowed] using hall
      obtain rfl : b7 = false := by cases b7 with | false => rfl | true => exact absurd (I.h75 rfl) (by decide)
      refine wpOp_of rfl (by rfl) (op_alloc rfl (hal.out W) ?_)
      have k : Below W.heap.size W (W.alloc (.cells Z31 31)) := (Below.refl _ _).alloc (Nat.le_refl _) _
      exact ⟨b0, b1, b2, b3, b4, true, b6, false, v5, .pointer (some ⟨W.heap.size, 0, none⟩), v8, v9, v10, v11, rfl, rfl, { mem := I.mem.keep k, h0 := I.h0, h1 := I.h1, h2 := I.h2, h3 := I.h3, h4 := fun h => (I.h4 h).keep k, h5 := fun _ => ⟨W.heap.size, rfl, I.mem.b.lt, Box.new _ _ _⟩, h45 := fun h4 _ => newApart_right (I.h4 h4), h64 := I.h64, h75 := nofun }⟩
    | 6, _ =>
      simp [fsAllowed] at hall
      obtain ⟨⟨⟨rfl, rfl⟩, rfl⟩, rfl⟩ := hall
      obtain rfl := I.h1 rfl
      obtain ⟨g, rfl, hg, hA⟩ := I.h4 rfl
      rw [if_neg (by decide)] at hA
      have u := hA.storeAt (P := Try.prog) (ty := 31) (l' := x) (by rw [xl.out]; exact size31) (by rw [xl.out]; simp)
      refine wpOp_of rfl (by rfl) (op_store rfl (x := .tmp 5) (y := .tmp 9) rfl rfl u ?_)
      exact ⟨b0, true, b2, true, true, b5, true, b7, .pointer (some ⟨g, 0, none⟩), v6, v8, .agg (u8s x), v10, v11, rfl, rfl, { mem := ⟨I.mem.key.farRow (by omega), I.mem.b.farRow (by omega), below_setRow I.mem.bel (by omega) _⟩, h0 := I.h0, h1 := I.h1, h2 := I.h2, h3 := I.h3, h4 := fun _ => ⟨g, rfl, hg, by rw [if_pos rfl]; exact hA.setRow⟩, h5 := fun h => (I.h5 h).farRow fun g' e => I.h45 rfl h g g' rfl e, h45 := I.h45, h64 := fun _ => rfl, h75 := I.h75 }⟩
    | 7, _ =>
      simp [fsAllowed] at hall
      obtain ⟨⟨rfl, rfl⟩, rfl⟩ := hall
      obtain rfl := I.h3 rfl
      obtain ⟨g, rfl, hg, hA⟩ := I.h5 rfl
      rw [if_neg (by decide)] at hA
      have u := hA.storeAt (P := Try.prog) (ty := 31) (l' := y) (by rw [yl.out]; exact size31) (by rw [yl.out]; simp)
      refine wpOp_of rfl (by rfl) (op_store rfl (x := .tmp 6) (y := .tmp 11) rfl rfl u ?_)
      exact ⟨b0, b1, b2, true, b4, true, b6, true, v5, .pointer (some ⟨g, 0, none⟩), v8, v9, v10, .agg (u8s y), rfl, rfl, { mem := ⟨I.mem.key.farRow (by omega), I.mem.b.farRow (by omega), below_setRow I.mem.bel (by omega) _⟩, h0 := I.h0, h1 := I.h1, h2 := I.h2, h3 := I.h3, h4 := fun h => (I.h4 h).farRow fun g' e => Ne.symm (I.h45 h rfl g' g e rfl), h5 := fun _ => ⟨g, rfl, hg, by rw [if_pos rfl]; exact hA.setRow⟩, h45 := I.h45, h64 := I.h64, h75 := fun _ => rfl }⟩
    | n + 8, h => omega
  · intro L A W _ hall hI
    obtain ⟨b0, b1, b2, b3, b4, b5, b6, b7, v5, v6, v8, v9, v10, v11, rfl, rfl, I⟩ := hI
    simp at hall
    obtain ⟨rfl, rfl, rfl, rfl, rfl, rfl, rfl, rfl⟩ := hall
    obtain ⟨g5, rfl, hg5, hA⟩ := I.h4 rfl
    obtain ⟨g6, rfl, hg6, hB⟩ := I.h5 rfl
    obtain rfl := I.h0 rfl
    obtain rfl := I.h1 rfl
    obtain rfl := I.h2 rfl
    obtain rfl := I.h3 rfl
    have M := I.mem
    rw [if_pos rfl] at hA hB
    have u1 := hA.loadSub (P := Try.prog) (off := 0) (n := 16) (by rw [xl.out]; omega) Try.underlying26 size26
    have u2 := M.key.loadAt (P := Try.prog) Try.underlying26 (by rw [ha.out]; exact size26)
    have u3 := hB.loadSub (P := Try.prog) (off := 0) (n := 16) (by rw [yl.out]; omega) Try.underlying26 size26
    have u4 := M.b.loadAt (P := Try.prog) Try.underlying26 (by rw [hb.out]; exact size26)
    rw [show (x.drop 0).take 16 = a from r0.out] at u1
    rw [show (y.drop 0).take 16 = b from r1.out] at u3
    replace u1 := Kp.mk u1; replace u2 := Kp.mk u2; replace u3 := Kp.mk u3; replace u4 := Kp.mk u4
    have q1 : ∀ W, (Op.equalIn 10000 26 (.agg (u8s a)) (.agg (u8s a))).run Try.prog W = .ok true W := fun W => by rw [run_equalIn_bytes W 9998 26 5 16 a a Try.underlying26 Try.underlying5 size5 ha.out ha.out, decide_eq_true (rfl : a = a)]
    have q2 : ∀ W, (Op.equalIn 10000 26 (.agg (u8s b)) (.agg (u8s b))).run Try.prog W = .ok true W := fun W => by rw [run_equalIn_bytes W 9998 26 5 16 b b Try.underlying26 Try.underlying5 size5 hb.out hb.out, decide_eq_true (rfl : b = b)]
    clear I
    unfold fsFrame
    go_wp2_with ((with_reducible refine wpl_id ?_); first | (refine wpList_load rfl (t := 26) (x := .tmp 12) rfl rfl u1.out ?_) | (refine wpList_load rfl (t := 26) (x := .tmp 2) rfl rfl u2.out ?_) | (refine wpList_load_g (by rfl) (t := 26) (x := .tmp 17) rfl rfl u3.out ?_) | (refine wpList_load_g (by rfl) (t := 26) (x := .tmp 3) rfl rfl u4.out ?_))
    clear q1 q2 u1 u2 u3 u4
    obtain ⟨t, ht⟩ : ∃ t, decide (a = b) = t := ⟨_, rfl⟩
    have q4 : ∀ W, (Op.equalIn 10000 26 (.agg (u8s a)) (.agg (u8s b))).run Try.prog W = .ok t W := fun W => by rw [run_equalIn_bytes W 9998 26 5 16 a b Try.underlying26 Try.underlying5 size5 ha.out hb.out, ht]
    replace q4 := Kp.mk q4
    have F0 : FiMem w a b x y g5 g6 W := ⟨M, hA, hB⟩
    replace ht := Kp.mk ht
    clear M hA hB M0
    go_loopw [7] (fun ii wr => ∃ i : Nat, ii = .int .i64 i ∧ i ≤ 11 ∧ FiMem w a b x y g5 g6 wr) (fun ii _ => 300 - (intOf ii).toNat)
    case atStart => exact ⟨0, rfl, by omega, F0⟩
    case round =>
      obtain ⟨i, rfl, hi, F⟩ := hrel
      clear F0
      by_cases hi11 : i < 11
      · have hiI : (i : Int) < 11 := by omega
        obtain ⟨p, hp⟩ : ∃ p, rdRow x i = p := ⟨_, rfl⟩
        obtain ⟨q, hq⟩ : ∃ p, rdRow y i = p := ⟨_, rfl⟩
        have pl : p.length = 16 := hp ▸ rdRow_len xl.out hi11
        have ql : q.length = 16 := hq ▸ rdRow_len yl.out hi11
        have q3 : ∀ W, (Op.equalIn 10000 26 (.agg (u8s p)) (.agg (u8s q))).run Try.prog W = .ok t W := fun W => by
          rw [run_equalIn_bytes W 9998 26 5 16 p q Try.underlying26 Try.underlying5 size5 pl ql, ← ht.out]
          congr 1
          rw [decide_eq_decide, ← hp, ← hq]
          exact rx.out i hi11
        have F2 := F.drew
        have e1 : (x.drop (i * 16)).take 16 = p := by rw [← hp, Nat.mul_comm]; rfl
        have e2 : (y.drop (i * 16)).take 16 = q := by rw [← hq, Nat.mul_comm]; rfl
        have u1 := F2.x.loadSub (P := Try.prog) (off := i * 16) (n := 16) (by rw [xl.out]; omega) Try.underlying26 size26
        have u2 := F2.y.loadSub (P := Try.prog) (off := i * 16) (n := 16) (by rw [yl.out]; omega) Try.underlying26 size26
        have u3 := F2.m.key.loadAt (P := Try.prog) Try.underlying26 (by rw [ha.out]; exact size26)
        have u4 := F2.m.b.loadAt (P := Try.prog) Try.underlying26 (by rw [hb.out]; exact size26)
        rw [e1] at u1
        rw [e2] at u2
        have q4' := q4.out
        replace u1 := Kp.mk u1; replace u2 := Kp.mk u2; replace u3 := Kp.mk u3; replace u4 := Kp.mk u4; replace q3 := Kp.mk q3
        clear e1 e2 hp hq pl ql F q4'
        go_wp2_with fail
        refine wp_region_still_lit (by kernel_rfl) (by kernel_rfl) ?_
        show wpStill _ _ wr.drew _ _ _
        still_step
        still_step
        refine wpStill_step (fun K hK => ?_)
        rw [if_pos (by rfl)]
        refine still_load rfl (x := .tmp 27) rfl u1.out (hK _ ?_)
        clear hK K
        still_step
        still_step
        refine wpStill_step (fun K hK => ?_)
        rw [if_pos (by rfl)]
        refine still_load rfl (x := .tmp 30) rfl u2.out (hK _ ?_)
        clear hK K
        have q3' := q3.out
        still_step
        clear q3'
        refine wpStill_step (fun K hK => ?_)
        rw [if_pos (by rfl)]
        refine still_load rfl (x := .tmp 2) rfl u3.out (hK _ ?_)
        clear hK K
        refine wpStill_step (fun K hK => ?_)
        rw [if_pos (by rfl)]
        refine still_load rfl (x := .tmp 3) rfl u4.out (hK _ ?_)
        clear hK K
        have q4' := q4.out
        still_step
        clear q4'
        still_step
        refine wpStill_nil ?_
        clear u1 u2 u3 u4 q3
        go_wp2_with fail
        go_roundw
        case rel => exact ⟨i + 1, congrArg (Value.int .i64) (by omega), by omega, F2⟩
        case measure => simp [intOf] <;> omega
      · obtain rfl : i = 11 := by omega
        have bel := F.m.bel
        clear F
        go_wp2_with fail
        refine (known_to _).mono ?_
        rintro _ w9 ⟨rfl, hb9⟩
        have bel2 := bel.trans (hb9.mono bel.size)
        clear bel hb9
        go_wp2_with fail
        exact bodyPost_ret (v := .bool true) (by simp [results, Try.results8, go_sem]) rfl ⟨rfl, bel2⟩
theorem first_any (z0 : List Int) (s0 : z0.length = 16) (wz0 : ∀ z ∈ z0, (Lit.int .u8 z).wf = true) (z1 : List Int) (s1 : z1.length = 16) (wz1 : ∀ z ∈ z1, (Lit.int .u8 z).wf = true) (w : World) :
    Calls Try.prog 8 #[.agg (z0.map (Value.int .u8)).toArray, .agg (z1.map (Value.int .u8)).toArray] w fun e w' => e = .returned (.bool true) ∧ Below w.heap.size w w' := by
  obtain ⟨a, ea, la, ba⟩ := bytes_of wz0
  obtain ⟨b, eb, lb, bb⟩ := bytes_of wz1
  rw [ea, eb]
  exact first_law a b (by omega) (by omega) ba bb w
end Go.Proofs.Ytfkdeekobiknjaa
