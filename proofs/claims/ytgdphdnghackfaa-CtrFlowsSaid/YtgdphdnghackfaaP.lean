/- The walk of Hide (layer 4): what it makes of any key and any block. -/
import Derived.Test.YtgdphdnghackfaaO
import Derived.Test.YtgdphdnghackfaaI
import Derived.Test.YtgdphdnghackfaaN
import Derived.StillTailTactics
namespace Go.Proofs.Ytgdphdnghackfaa
open Go.RowKit

theorem rdRow_bytes {o : List Nat} (h : Bytes o) (i : Nat) : Bytes (rdRow o i) := fun x hx => h x (List.mem_of_mem_drop (List.mem_of_mem_take hx))
theorem rdRow_len {o : List Nat} (h : o.length = 176) {i : Nat} (hi : i < 11) : (rdRow o i).length = 16 := by unfold rdRow; rw [List.length_take, List.length_drop, h]; omega
theorem rdHead_bytes {t : List Nat} (bt : Bytes t) (was : List Nat) {more : Nat} (hm : more < 256) : Bytes (rdHead t was more) := by
  intro x hx
  simp only [rdHead, List.mem_cons, List.not_mem_nil, or_false] at hx
  rcases hx with rfl | rfl | rfl | rfl
  · exact xor_lt (bt.get _) hm
  · exact bt.get _
  · exact bt.get _
  · exact bt.get _
theorem rdSt_ok {key t : List Nat} (hk : key.length = 16) (bk : Bytes key) (bt : Bytes t) (i : Nat) : RdOk (rdSt key t i) := by
  induction i with
  | zero =>
    refine ⟨by show (key ++ List.replicate 160 0).length = _; rw [List.length_append, hk, List.length_replicate], fun x hx => ?_, by show 1 < 256; decide⟩
    rcases List.mem_append.1 hx with h | h
    · exact bk x h
    · have := List.eq_of_mem_replicate h; omega
  | succ i ih =>
    exact ⟨by show (rdIn _ _ _ _ _).length = _; rw [rdIn_len]; exact ih.len, rdIn_bytes (rdRow_bytes ih.byte _) (rdHead_bytes bt _ ih.more) _ ih.byte _, T_lt ih.more _⟩
theorem rdL_len {key t : List Nat} (hk : key.length = 16) (bk : Bytes key) (bt : Bytes t) : (rdL key t).length = 176 := (rdSt_ok hk bk bt 10).len
theorem rdL_bytes {key t : List Nat} (hk : key.length = 16) (bk : Bytes key) (bt : Bytes t) : Bytes (rdL key t) := (rdSt_ok hk bk bt 10).byte
theorem swapT_len : swapT.length = 256 := by decide +kernel
theorem backT_len : backT.length = 256 := by decide +kernel
theorem swapT_bytes : Bytes swapT := by unfold Bytes; decide +kernel
theorem backT_bytes : Bytes backT := by unfold Bytes; decide +kernel
theorem addL_len {a : List Nat} (b : List Nat) (ha : a.length = 16) : (addL a b).length = 16 := (adS_len a b 16).trans ha
theorem mvL_len (n : Nat) (a t : List Nat) : (mvL n a t).length = 16 := mvS_len n a t 16
theorem mxL_len (a m : List Nat) : (mxL a m).length = 16 := mxS_len a m 16
theorem addL_bytes {a b : List Nat} (ha : Bytes a) (hb : Bytes b) : Bytes (addL a b) := adS_bytes ha hb 16
theorem mvL_bytes (n : Nat) (a : List Nat) {t : List Nat} (ht : Bytes t) : Bytes (mvL n a t) := mvS_bytes n ht 16
theorem mxL_bytes (a : List Nat) {m : List Nat} (hm : Bytes m) : Bytes (mxL a m) := mxS_bytes hm 16
def fwd : List Nat := [2, 3, 1, 1]
def rev : List Nat := [14, 11, 13, 9]
theorem fwd_bytes : Bytes fwd := by unfold Bytes; decide
theorem rev_bytes : Bytes rev := by unfold Bytes; decide
/-- A block on its way into hiding, round by round; r: the key's rounds. -/
def hdS (r b : List Nat) : Nat → List Nat
  | 0 => addL b (rdRow r 0)
  | q + 1 => addL (if q + 1 < 10 then mxL (mvL 1 (hdS r b q) swapT) fwd else mvL 1 (hdS r b q) swapT) (rdRow r (q + 1))
def hideL (key b : List Nat) : List Nat := hdS (rdL key swapT) b 10
theorem hdS_ok {r b : List Nat} (br : Bytes r) (hb : b.length = 16) (bb : Bytes b) (q : Nat) : (hdS r b q).length = 16 ∧ Bytes (hdS r b q) := by
  induction q with
  | zero => exact ⟨addL_len _ hb, addL_bytes bb (rdRow_bytes br _)⟩
  | succ q _ =>
    refine ⟨?_, ?_⟩
    · show (addL (if q + 1 < 10 then _ else _) _).length = 16
      split
      · exact addL_len _ (mxL_len _ _)
      · exact addL_len _ (mvL_len _ _ _)
    · show Bytes (addL (if q + 1 < 10 then _ else _) _)
      split
      · exact addL_bytes (mxL_bytes _ fwd_bytes) (rdRow_bytes br _)
      · exact addL_bytes (mvL_bytes _ _ swapT_bytes) (rdRow_bytes br _)
section
variable {P : Program} {ops : Array Oper} {o : Oper} {a : Act} {w : World} {K : Act → Prop} {t : TypeId} {x : Operand} {p : Addr} {v : Value}
theorem still_load (ho : o.op = .load t x) (hx : a.eval x = .pointer (some p)) (h : (Instr.loadAt t (.pointer (some p))).run P w = .ok v w) (hk : K (a.put o.dst v)) : o.still P a w K := by
  unfold Oper.still execOp
  simp only [ho, hx, Sem.run_bind, h, Result.andThen_ok, Sem.run_pure]
  exact ⟨rfl, hk⟩
end
theorem wpl_id {P : Program} {ops : Array Oper} {rest : List Oper} {o : Oper} {a : Act} {w : World} {Q : Exit → Act → World → Prop} (h : wpList P ops Q (o :: rest) a w) : wpList P ops Q (o :: rest) a w := h
/-- Memory on the way: the key, the block, the answer's place, the two tables, the rounds. -/
structure HMem (w : World) (g5 g6 g7 : Nat) (key b r : List Nat) (W : World) : Prop where
  key : Arr W w.heap.size 22 key
  b : Arr W (w.heap.size + 1) 22 b
  z : Arr W (w.heap.size + 2) 22 (List.replicate 16 0)
  t : Arr W g5 52 swapT
  s : Arr W g6 52 backT
  r : Arr W g7 54 r
  bel : Below w.heap.size w W
  q : w.heap.size + 2 < g5 ∧ w.heap.size + 2 < g6 ∧ w.heap.size + 2 < g7
namespace HMem
variable {w W W' : World} {g5 g6 g7 : Nat} {key b b' r : List Nat}
theorem keep (h : HMem w g5 g6 g7 key b r W) (k : Below W.heap.size W W') : HMem w g5 g6 g7 key b r W' :=
  ⟨h.key.keep k h.key.lt, h.b.keep k h.b.lt, h.z.keep k h.z.lt, h.t.keep k h.t.lt, h.s.keep k h.s.lt, h.r.keep k h.r.lt, h.bel.trans (k.mono h.bel.size), h.q⟩
theorem drew (h : HMem w g5 g6 g7 key b r W) : HMem w g5 g6 g7 key b r W.drew := ⟨h.key, h.b, h.z, h.t, h.s, h.r, h.bel.drew, h.q⟩
theorem put (h : HMem w g5 g6 g7 key b r W) : HMem w g5 g6 g7 key b' r (W.setRow (w.heap.size + 1) (u8s b')) := by
  have q := h.q
  exact ⟨h.key.farRow (by omega), h.b.setRow, h.z.farRow (by omega), h.t.farRow (by omega), h.s.farRow (by omega), h.r.farRow (by omega), below_setRow h.bel (by omega) _, q⟩
end HMem
theorem size22 : (Try.prog.info? 22).map (·.size) = some 16 := by kernel_rfl
theorem size52 : (Try.prog.info? 52).map (·.size) = some 256 := by kernel_rfl
theorem size54 : (Try.prog.info? 54).map (·.size) = some 176 := by kernel_rfl

/-- The beginning's memory: what Hide and Show lay ahead of the first round. -/
theorem HMem.first {w w1 w2 : World} {key b r : List Nat}
    (h1 : Below (((w.alloc (.cells (u8s key) 22)).alloc (.cells (u8s b) 22)).alloc (.cells (u8s (List.replicate 16 0)) 22)).heap.size (((w.alloc (.cells (u8s key) 22)).alloc (.cells (u8s b) 22)).alloc (.cells (u8s (List.replicate 16 0)) 22)) w1)
    (h2 : Below ((w1.alloc (.cells (u8s swapT) 52)).alloc (.cells (u8s backT) 52)).heap.size ((w1.alloc (.cells (u8s swapT) 52)).alloc (.cells (u8s backT) 52)) w2) :
    HMem w w1.heap.size (w1.heap.size + 1) w2.heap.size key b r (w2.alloc (.cells (u8s r) 54)) := by
  have A0 := (Box.new w 22 (u8s key)).alloc (.cells (u8s b) 22) |>.alloc (.cells (u8s (List.replicate 16 0)) 22)
  have A1 := (Box.new (w.alloc (.cells (u8s key) 22)) 22 (u8s b)).alloc (.cells (u8s (List.replicate 16 0)) 22)
  have A2 := Box.new ((w.alloc (.cells (u8s key) 22)).alloc (.cells (u8s b) 22)) 22 (u8s (List.replicate 16 0))
  have B0 : Below w.heap.size w (((w.alloc (.cells (u8s key) 22)).alloc (.cells (u8s b) 22)).alloc (.cells (u8s (List.replicate 16 0)) 22)) := (((Below.refl _ _).alloc (Nat.le_refl _) _).alloc (by simp) _).alloc (by simp; omega) _
  rw [World.size_alloc] at A1
  rw [World.size_alloc, World.size_alloc] at A2
  have s3 : (((w.alloc (.cells (u8s key) 22)).alloc (.cells (u8s b) 22)).alloc (.cells (u8s (List.replicate 16 0)) 22)).heap.size = w.heap.size + 3 := by simp
  rw [s3] at h1
  have z1 := h1.size
  have B1 : Below w.heap.size w w1 := B0.trans (h1.mono (by omega))
  have C0 := (A0.keep h1 (by omega)).alloc (.cells (u8s swapT) 52) |>.alloc (.cells (u8s backT) 52)
  have C1 := (A1.keep h1 (by omega)).alloc (.cells (u8s swapT) 52) |>.alloc (.cells (u8s backT) 52)
  have C2 := (A2.keep h1 (by omega)).alloc (.cells (u8s swapT) 52) |>.alloc (.cells (u8s backT) 52)
  have C3 := (Box.new w1 52 (u8s swapT)).alloc (.cells (u8s backT) 52)
  have C4 := Box.new (w1.alloc (.cells (u8s swapT) 52)) 52 (u8s backT)
  have B2 : Below w.heap.size w ((w1.alloc (.cells (u8s swapT) 52)).alloc (.cells (u8s backT) 52)) := (B1.alloc B1.size _).alloc (by simp; omega) _
  rw [World.size_alloc] at C4
  have s4 : ((w1.alloc (.cells (u8s swapT) 52)).alloc (.cells (u8s backT) 52)).heap.size = w1.heap.size + 2 := by simp
  rw [s4] at h2
  have z2 := h2.size
  have z1' : w.heap.size + 3 ≤ w1.heap.size := by rw [s3] at z1; exact z1
  have z2' : w1.heap.size + 2 ≤ w2.heap.size := by rw [s4] at z2; exact z2
  have B3 : Below w.heap.size w w2 := B2.trans (h2.mono (by omega))
  exact ⟨(C0.keep h2 (by omega)).alloc _, (C1.keep h2 (by omega)).alloc _, (C2.keep h2 (by omega)).alloc _, (C3.keep h2 (by omega)).alloc _, (C4.keep h2 (by omega)).alloc _, Box.new _ _ _, B3.alloc (by omega) _, by omega⟩
end Go.Proofs.Ytgdphdnghackfaa
