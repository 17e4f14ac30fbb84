/- The walk of the iterator over blocks (layer 5): every block in turn, as long as the body goes on. -/
import Derived.Test.YtgdphdnghackfaaR3
namespace Go.Proofs.Ytgdphdnghackfaa
open Go.RowKit Go.Shelf
attribute [local go_sem] Oper.semAt_some
def blkF (gn gk : Nat) : Value := .func (.func 27) #[] #[.pointer (some ⟨gn, 0, none⟩), .pointer (some ⟨gk, 0, none⟩)]
/-- The iterator's own variables: how many, the first, the block's function, and what that one holds. -/
structure WkMem (gm gf gb gn gk m first nonce : Nat) (key : List Nat) (W : World) : Prop where
  m : Box W gm 3 #[.int .i64 (m : Nat)]
  f : Box W gf 3 #[.int .i64 (first : Nat)]
  b : Box W gb 38 #[blkF gn gk]
  n : Box W gn 23 #[.int .u64 (nonce : Nat)]
  k : Arr W gk 22 key
def WkKp (gm gf gb gn gk : Nat) (A B : World) : Prop := A.heap.size ≤ B.heap.size ∧ ∀ g, g = gm ∨ g = gf ∨ g = gb ∨ g = gn ∨ g = gk → B.heap[g]? = A.heap[g]?
namespace WkMem
variable {gm gf gb gn gk m first nonce : Nat} {key : List Nat} {W W' : World}
theorem keep (h : WkMem gm gf gb gn gk m first nonce key W) (k : Below W.heap.size W W') : WkMem gm gf gb gn gk m first nonce key W' := ⟨h.m.keep k h.m.lt, h.f.keep k h.f.lt, h.b.keep k h.b.lt, h.n.keep k h.n.lt, h.k.keep k h.k.lt⟩
theorem kept (h : WkMem gm gf gb gn gk m first nonce key W) (k : WkKp gm gf gb gn gk W W') : WkMem gm gf gb gn gk m first nonce key W' :=
  ⟨(k.2 gm (.inl rfl)).trans h.m, (k.2 gf (.inr (.inl rfl))).trans h.f, (k.2 gb (.inr (.inr (.inl rfl)))).trans h.b, (k.2 gn (.inr (.inr (.inr (.inl rfl))))).trans h.n, (k.2 gk (.inr (.inr (.inr (.inr rfl))))).trans h.k⟩
end WkMem
theorem WkKp.trans {gm gf gb gn gk : Nat} {A B D : World} (h : WkKp gm gf gb gn gk A B) (k : WkKp gm gf gb gn gk B D) : WkKp gm gf gb gn gk A D := ⟨Nat.le_trans h.1 k.1, fun g hg => (k.2 g hg).trans (h.2 g hg)⟩
theorem below_grown {W W' : World} (k : Below W.heap.size W W') : W.grownBy W' none := ⟨k.os, k.tape, k.output, k.size, fun i hi _ => k.block i hi⟩
def blkArgs (key : List Nat) (nonce : Nat) (x : Nat) : Array Value := #[.int .i64 (x : Nat), .agg (u8s (blkL key nonce x))]
def blkSeq (first i : Nat) : List Nat := (List.range i).map (first + ·)
theorem blkSeq_snoc (first i : Nat) : blkSeq first (i + 1) = blkSeq first i ++ [first + i] := by unfold blkSeq; rw [List.range_succ, List.map_append]; rfl
theorem blkSeq_len (first i : Nat) : (blkSeq first i).length = i := by simp [blkSeq]
theorem blkSeq_prefix (first : Nat) {i m : Nat} (h : i ≤ m) : blkSeq first i <+: blkSeq first m := by
  obtain ⟨k, rfl⟩ : ∃ k, m = i + k := ⟨m - i, by omega⟩
  induction k with
  | zero => exact List.prefix_refl _
  | succ k ih => rw [← Nat.add_assoc, blkSeq_snoc]; exact (ih (by omega)).trans (List.prefix_append _ _)
theorem WkMem.drewK {gm gf gb gn gk m first nonce : Nat} {key : List Nat} {W : World} (h : WkMem gm gf gb gn gk m first nonce key W) : WkMem gm gf gb gn gk m first nonce key W.drew := ⟨h.m, h.f, h.b, h.n, h.k⟩
section
variable {A : Act} {o : Oper} {x y : Operand} {z t : TypeId} {W : World}
theorem exec_load {P : Program} {p : Addr} {v : Value} (ho : o.op = .load t x) (hx : A.eval x = .pointer (some p)) (h : (Instr.loadAt t (.pointer (some p))).run P W = .ok v W) : (execOp A.eval o).run P W = .ok (.value v) W := by
  unfold execOp
  simp only [ho, hx, Sem.run_bind, h, Result.andThen_ok, Sem.run_pure]
theorem exec_add {p q : Nat} (ho : o.op = .binOp .add 3 x y z) (hx : A.eval x = .int .i64 (p : Nat)) (hy : A.eval y = .int .i64 (q : Nat)) (hb : p + q < 1000000000) : (execOp A.eval o).run Try.prog W = .ok (.value (.int .i64 (p + q : Nat))) W := by
  have hw : IntKind.i64.wrap ((p : Int) + q) = ((p + q : Nat) : Int) := by rw [show (p : Int) + q = ((p + q : Nat) : Int) by omega]; exact IntWalk.i64_in _ (by omega)
  unfold execOp
  rw [ho]
  simp only [hx, hy]
  go_simp
theorem ld3 {g : Nat} {v : Value} (h : Box W g 3 #[v]) : (Instr.loadAt 3 (.pointer (some ⟨g, 0, none⟩))).run Try.prog W = .ok v W := by
  have c := h.cell 0
  have c' : W.cell? ⟨g, 0, none⟩ = some v := c
  clear c
  go_simp
theorem ld38 {g : Nat} {v : Value} (h : Box W g 38 #[v]) : (Instr.loadAt 38 (.pointer (some ⟨g, 0, none⟩))).run Try.prog W = .ok v W := by
  have c := h.cell 0
  have c' : W.cell? ⟨g, 0, none⟩ = some v := c
  clear c
  go_simp
end
/-! The drawn region of a round. -/
def wkAllowed (L : List Bool) (i : Nat) : Bool :=
  match L, i with
  | [b0, _, _, _, _, _, _, _, _, _, _], 0 => !b0
  | [_, b1, _, _, _, _, _, _, _, _, _], 1 => !b1
  | [_, _, b2, _, _, _, _, _, _, _, _], 2 => !b2
  | [_, b1, b2, b3, _, _, _, _, _, _, _], 3 => !b3 && b1 && b2
  | [_, _, _, _, b4, _, _, _, _, _, _], 4 => !b4
  | [_, _, _, _, _, b5, _, _, _, _, _], 5 => !b5
  | [_, _, _, _, _, _, b6, _, _, _, _], 6 => !b6
  | [_, _, _, _, _, b5, b6, b7, _, _, _], 7 => !b7 && b5 && b6
  | [_, _, _, _, b4, _, _, b7, b8, _, _], 8 => !b8 && b4 && b7
  | [b0, _, _, b3, _, _, _, _, b8, b9, _], 9 => !b9 && b0 && b3 && b8
  | [_, _, _, _, _, _, _, _, _, b9, b10], 10 => !b10 && b9
  | _, _ => false
structure WkSt (gm gf gb gn gk m first nonce l i : Nat) (key : List Nat) (J Jx : List Nat → World → Prop) (b0 b1 b2 b3 b4 b5 b6 b7 b8 b9 b10 : Bool) (v11 v12 v13 v14 v15 v16 v17 v18 v19 v20 v21 : Value) (W : World) : Prop where
  h0 : b0 = true → v11 = .func (.yield l) #[] #[]
  h1 : b1 = true → v12 = .int .i64 (first : Nat)
  h2 : b2 = true → v13 = .int .i64 (i : Nat)
  h3 : b3 = true → v14 = .int .i64 (first + i : Nat)
  h4 : b4 = true → v15 = blkF gn gk
  h5 : b5 = true → v16 = .int .i64 (first : Nat)
  h6 : b6 = true → v17 = .int .i64 (i : Nat)
  h7 : b7 = true → v18 = .int .i64 (first + i : Nat)
  h8 : b8 = true → v19 = .agg (u8s (blkL key nonce (first + i)))
  c9 : b9 = true → b1 = true ∧ b4 = true ∧ b5 = true ∧ b8 = true
  mem : b9 = false → WkMem gm gf gb gn gk m first nonce key W ∧ J (blkSeq first i) W
  h9 : b9 = true → ∃ r : Bool, v20 = .bool r ∧ (b10 = true → v21 = .bool !r) ∧ (r = true → WkMem gm gf gb gn gk m first nonce key W ∧ J (blkSeq first (i + 1)) W) ∧ (r = false → Jx (blkSeq first (i + 1)) W)
  c10 : b10 = true → b9 = true
  c8 : b8 = true → b4 = true ∧ b7 = true
  c7 : b7 = true → b5 = true
  c3 : b3 = true → b1 = true
set_option maxRecDepth 100000 in
set_option maxHeartbeats 4000000 in
theorem walk_it (n l gm gf gb gn gk m first nonce : Nat) (key : List Nat) (hk : key.length = 16) (bk : Bytes key) (hm0 : 0 < m) (hm : m < 100000) (hf : first < 100000) (hN : nonce < 18446744073709551616)
    (J Jx : List Nat → World → Prop) (B : Nat) (hJ : AbidesFrom B J)
    (hY : ∀ pre x W, J pre W → pre.length < m → YieldAt Fence.wide (n - 1) Try.prog l (blkArgs key nonce x) W fun e W' =>
      (e = .returned (.bool true) ∧ J (pre ++ [x]) W' ∧ WkKp gm gf gb gn gk W W') ∨ (e = .returned (.bool false) ∧ Jx (pre ++ [x]) W'))
    (W : World) (M : WkMem gm gf gb gn gk m first nonce key W) (h0 : J [] W) :
    CallsIn Fence.wide n Try.prog 32 #[.func (.yield l) #[] #[], .pointer (some ⟨gm, 0, none⟩), .pointer (some ⟨gf, 0, none⟩), .pointer (some ⟨gb, 0, none⟩)] W fun e W' => (∃ v, e = .returned v) ∧
      ((∃ ys, ys = blkSeq first m ∧ J ys W') ∨ (∃ pre, pre <+: blkSeq first m ∧ Jx pre W')) := by
  have c0 := M.m.cell 0
  have c0' : W.cell? ⟨gm, 0, none⟩ = some (.int .i64 (m : Nat)) := c0
  have hmx : (0 : Int) < (m : Int) := by omega
  replace hJ := Kp.mk hJ
  replace hY := Kp.mk hY
  refine callsIn_of_wp Try.func32 rfl trivial ?_ rfl
  simp only [Try.ntmps32, List.size_toArray, List.length_cons, List.length_nil, Nat.reduceAdd, Nat.reduceSub, Array.replicate_succ, Array.replicate_zero, List.push_toArray, List.append_toArray, List.nil_append, List.cons_append]
  clear c0
  gi_wp2
  gi_loopw [8] (fun ix wr => ∃ i : Nat, ix = .int .i64 i ∧ i ≤ m ∧ WkMem gm gf gb gn gk m first nonce key wr ∧ J (blkSeq first i) wr) (fun ix _ => m - (intOf ix).toNat)
  case atStart => exact ⟨0, rfl, by omega, M, h0⟩
  case round =>
    obtain ⟨i, rfl, hi, Mr, hJr⟩ := hrel
    clear M h0
    by_cases hlt : i < m
    · have hltI : (i : Int) < (m : Int) := by omega
      obtain ⟨c, hc⟩ : ∃ c, blkL key nonce (first + i) = c := ⟨_, rfl⟩
      gi_wp2
      refine wpIn_region_inv (n := 11) (by kernel_rfl) rfl wkAllowed (by kernel_rfl)
        (fun L A W => ∃ (b0 b1 b2 b3 b4 b5 b6 b7 b8 b9 b10 : Bool) (v11 v12 v13 v14 v15 v16 v17 v18 v19 v20 v21 : Value), L = [b0, b1, b2, b3, b4, b5, b6, b7, b8, b9, b10] ∧ A = ⟨#[.func (.yield l) #[] #[], .pointer (some ⟨gm, 0, none⟩), .pointer (some ⟨gf, 0, none⟩), .pointer (some ⟨gb, 0, none⟩), undef, .int .i64 (i : Nat), .int .i64 (m : Nat), .int .i64 (m : Nat), .int .i64 (i : Nat), .bool true, .int .i64 (i : Nat), v11, v12, v13, v14, v15, v16, v17, v18, v19, v20, v21, u22], []⟩ ∧ WkSt gm gf gb gn gk m first nonce l i key J Jx b0 b1 b2 b3 b4 b5 b6 b7 b8 b9 b10 v11 v12 v13 v14 v15 v16 v17 v18 v19 v20 v21 W) ?_ ?_ ?_
      · exact ⟨false, false, false, false, false, false, false, false, false, false, false, _, _, _, _, _, _, _, _, _, _, _, rfl, rfl, ⟨nofun, nofun, nofun, nofun, nofun, nofun, nofun, nofun, nofun, nofun, fun _ => ⟨Mr.drewK, hJ.out _ _ _ none hJr ⟨rfl, rfl, rfl, Nat.le_refl _, fun _ _ _ => rfl⟩ nofun⟩, nofun, nofun, nofun, nofun, nofun⟩⟩
      · intro L A W q _ hj hall hI
        obtain ⟨b0, b1, b2, b3, b4, b5, b6, b7, b8, b9, b10, v11, v12, v13, v14, v15, v16, v17, v18, v19, v20, v21, rfl, rfl, I⟩ := hI
        match q, hj with
        | 0, _ =>
          refine wpOpIn_of rfl (by rfl) (opIn_pure rfl nofun (v := .func (.yield l) #[] #[]) (by rfl) ?_)
          exact ⟨true, b1, b2, b3, b4, b5, b6, b7, b8, b9, b10, .func (.yield l) #[] #[], v12, v13, v14, v15, v16, v17, v18, v19, v20, v21, rfl, rfl, { I with h0 := fun _ => rfl }⟩
        | 1, _ =>
          obtain rfl : b9 = false := by cases hb9 : b9 with | false => rfl | true => (have := I.c9 hb9; simp [wkAllowed] at hall; simp_all)
          refine wpOpIn_of rfl (by rfl) (opIn_pure rfl nofun (v := .int .i64 (first : Nat)) (exec_load rfl (x := .tmp 2) rfl (ld3 (I.mem rfl).1.f)) ?_)
          exact ⟨b0, true, b2, b3, b4, b5, b6, b7, b8, false, b10, v11, .int .i64 (first : Nat), v13, v14, v15, v16, v17, v18, v19, v20, v21, rfl, rfl, { I with h1 := fun _ => rfl, c9 := nofun, c3 := fun _ => rfl }⟩
        | 2, _ =>
          refine wpOpIn_of rfl (by rfl) (opIn_pure rfl nofun (v := .int .i64 (i : Nat)) (by rfl) ?_)
          exact ⟨b0, b1, true, b3, b4, b5, b6, b7, b8, b9, b10, v11, v12, .int .i64 (i : Nat), v14, v15, v16, v17, v18, v19, v20, v21, rfl, rfl, { I with h2 := fun _ => rfl }⟩
        | 3, _ =>
          obtain ⟨rfl, rfl⟩ : b1 = true ∧ b2 = true := by simp [wkAllowed] at hall; exact ⟨hall.1.2, hall.2⟩
          obtain rfl := I.h1 rfl
          obtain rfl := I.h2 rfl
          refine wpOpIn_of rfl (by rfl) (opIn_pure rfl nofun (v := .int .i64 (first + i : Nat)) (exec_add rfl rfl rfl (by omega)) ?_)
          exact ⟨b0, true, true, true, b4, b5, b6, b7, b8, b9, b10, v11, _, _, .int .i64 (first + i : Nat), v15, v16, v17, v18, v19, v20, v21, rfl, rfl, { I with h3 := fun _ => rfl, c3 := fun _ => rfl }⟩
        | 4, _ =>
          obtain rfl : b9 = false := by cases hb9 : b9 with | false => rfl | true => (have := I.c9 hb9; simp [wkAllowed] at hall; simp_all)
          refine wpOpIn_of rfl (by rfl) (opIn_pure rfl nofun (v := blkF gn gk) (exec_load rfl (x := .tmp 3) rfl (ld38 (I.mem rfl).1.b)) ?_)
          exact ⟨b0, b1, b2, b3, true, b5, b6, b7, b8, false, b10, v11, v12, v13, v14, blkF gn gk, v16, v17, v18, v19, v20, v21, rfl, rfl, { I with h4 := fun _ => rfl, c9 := nofun, c8 := fun h => ⟨rfl, (I.c8 h).2⟩ }⟩
        | 5, _ =>
          obtain rfl : b9 = false := by cases hb9 : b9 with | false => rfl | true => (have := I.c9 hb9; simp [wkAllowed] at hall; simp_all)
          refine wpOpIn_of rfl (by rfl) (opIn_pure rfl nofun (v := .int .i64 (first : Nat)) (exec_load rfl (x := .tmp 2) rfl (ld3 (I.mem rfl).1.f)) ?_)
          exact ⟨b0, b1, b2, b3, b4, true, b6, b7, b8, false, b10, v11, v12, v13, v14, v15, .int .i64 (first : Nat), v17, v18, v19, v20, v21, rfl, rfl, { I with h5 := fun _ => rfl, c9 := nofun, c7 := fun _ => rfl }⟩
        | 6, _ =>
          refine wpOpIn_of rfl (by rfl) (opIn_pure rfl nofun (v := .int .i64 (i : Nat)) (by rfl) ?_)
          exact ⟨b0, b1, b2, b3, b4, b5, true, b7, b8, b9, b10, v11, v12, v13, v14, v15, v16, .int .i64 (i : Nat), v18, v19, v20, v21, rfl, rfl, { I with h6 := fun _ => rfl }⟩
        | 7, _ =>
          obtain ⟨rfl, rfl⟩ : b5 = true ∧ b6 = true := by simp [wkAllowed] at hall; exact ⟨hall.1.2, hall.2⟩
          obtain rfl := I.h5 rfl
          obtain rfl := I.h6 rfl
          refine wpOpIn_of rfl (by rfl) (opIn_pure rfl nofun (v := .int .i64 (first + i : Nat)) (exec_add rfl rfl rfl (by omega)) ?_)
          exact ⟨b0, b1, b2, b3, b4, true, true, true, b8, b9, b10, v11, v12, v13, v14, v15, _, _, .int .i64 (first + i : Nat), v19, v20, v21, rfl, rfl, { I with h7 := fun _ => rfl, c7 := fun _ => rfl, c8 := fun h => ⟨(I.c8 h).1, rfl⟩ }⟩
        | 8, _ =>
          obtain ⟨rfl, rfl⟩ : b4 = true ∧ b7 = true := by simp [wkAllowed] at hall; exact ⟨hall.1.2, hall.2⟩
          obtain rfl : b9 = false := by cases hb9 : b9 with | false => rfl | true => (have := I.c9 hb9; simp [wkAllowed] at hall; simp_all)
          obtain rfl := I.h4 rfl
          obtain rfl := I.h7 rfl
          obtain ⟨M1, J1⟩ := I.mem rfl
          refine wpOpIn_of rfl (by rfl) (opIn_callv rfl (v := .agg (u8s c)) (args := #[.int .i64 (first + i : Nat)]) Try.call27 rfl (x := .tmp 15) rfl (by simp only [List.map_toArray, List.map_cons, List.map_nil]; rfl) ?_)
          refine (block_to W gn gk nonce (first + i) key c hc hk bk hN (by omega) M1.n M1.k).mono fun e W' ⟨he, k⟩ => ⟨he, ?_⟩
          exact ⟨b0, b1, b2, b3, true, b5, b6, true, true, false, b10, v11, v12, v13, v14, _, v16, v17, _, .agg (u8s c), v20, v21, rfl, rfl, { I with h8 := fun _ => by rw [hc], c9 := nofun, c8 := fun _ => ⟨rfl, rfl⟩, mem := fun _ => ⟨M1.keep k, hJ.out _ _ _ none J1 (below_grown k) nofun⟩, h9 := nofun }⟩
        | 9, _ =>
          obtain ⟨rfl, rfl, rfl, rfl⟩ : b9 = false ∧ b0 = true ∧ b3 = true ∧ b8 = true := by simp [wkAllowed] at hall; exact ⟨hall.1.1.1, hall.1.1.2, hall.1.2, hall.2⟩
          obtain rfl := I.h0 rfl
          obtain rfl := I.h3 rfl
          obtain rfl := I.h8 rfl
          obtain ⟨M1, J1⟩ := I.mem rfl
          have c9' : b1 = true ∧ b4 = true ∧ b5 = true ∧ true = true := ⟨I.c3 rfl, (I.c8 rfl).1, I.c7 (I.c8 rfl).2, rfl⟩
          have hy := hY.out (blkSeq first i) (first + i) W J1 (by rw [blkSeq_len]; exact hlt)
          unfold blkArgs at hy
          refine wpOpIn_of rfl (by rfl) (opIn_yield rfl (x := .tmp 11) (l := l) (args := #[.int .i64 (first + i : Nat), .agg (u8s (blkL key nonce (first + i)))]) rfl rfl (by simp only [List.map_toArray, List.map_cons, List.map_nil]; rfl) hy ?_)
          rintro e W' (⟨rfl, hJ', hKp⟩ | ⟨rfl, hJx'⟩)
          · rw [← blkSeq_snoc] at hJ'
            exact ⟨_, rfl, true, b1, b2, true, b4, b5, b6, b7, true, true, b10, _, v12, v13, _, v15, v16, v17, v18, _, .bool true, v21, rfl, rfl, { I with c9 := fun _ => c9', mem := nofun, h9 := fun _ => ⟨true, rfl, fun h => absurd (I.c10 h) (by decide), fun _ => ⟨M1.kept hKp, hJ'⟩, nofun⟩, c10 := fun _ => rfl }⟩
          · rw [← blkSeq_snoc] at hJx'
            exact ⟨_, rfl, true, b1, b2, true, b4, b5, b6, b7, true, true, b10, _, v12, v13, _, v15, v16, v17, v18, _, .bool false, v21, rfl, rfl, { I with c9 := fun _ => c9', mem := nofun, h9 := fun _ => ⟨false, rfl, fun h => absurd (I.c10 h) (by decide), nofun, fun _ => hJx'⟩, c10 := fun _ => rfl }⟩
        | 10, _ =>
          obtain ⟨rfl, rfl⟩ : b10 = false ∧ b9 = true := by simp [wkAllowed] at hall; exact hall
          obtain ⟨r, rfl, _, ht, hf⟩ := I.h9 rfl
          refine wpOpIn_of rfl (by rfl) (opIn_pure rfl nofun (v := .bool !r) (by cases r <;> rfl) ?_)
          exact ⟨b0, b1, b2, b3, b4, b5, b6, b7, b8, true, true, v11, v12, v13, v14, v15, v16, v17, v18, v19, .bool r, .bool !r, rfl, rfl, { I with h9 := fun _ => ⟨r, rfl, fun _ => rfl, ht, hf⟩, c10 := fun _ => rfl }⟩
        | q + 11, h => omega
      · intro L A W _ hall hI
        obtain ⟨b0, b1, b2, b3, b4, b5, b6, b7, b8, b9, b10, v11, v12, v13, v14, v15, v16, v17, v18, v19, v20, v21, rfl, rfl, I⟩ := hI
        simp at hall
        obtain ⟨rfl, rfl, rfl, rfl, rfl, rfl, rfl, rfl, rfl, rfl, rfl⟩ := hall
        obtain ⟨r, rfl, h21, ht, hf⟩ := I.h9 rfl
        obtain rfl := h21 rfl
        clear I
        cases r with
        | true =>
          obtain ⟨M1, J1⟩ := ht rfl
          clear ht hf h21 hc hJ hY Mr hJr
          simp only [Bool.not_true]
          gi_wp2
          go_roundw
          case rel => exact ⟨i + 1, congrArg (Value.int .i64) (by omega), by omega, M1, J1⟩
          case measure => simp [intOf]; omega
        | false =>
          have hx := hf rfl
          clear ht hf h21 hc hJ hY Mr hJr
          simp only [Bool.not_false]
          gi_wp2
          refine bodyPost_ret (results_none rfl _ _ _) rfl ?_
          exact ⟨⟨_, rfl⟩, .inr ⟨_, blkSeq_prefix first (by omega), hx⟩⟩
    · obtain rfl : i = m := by omega
      gi_wp2
      go_end0
      exact ⟨⟨_, rfl⟩, .inl ⟨_, rfl, hJr⟩⟩
end Go.Proofs.Ytgdphdnghackfaa
