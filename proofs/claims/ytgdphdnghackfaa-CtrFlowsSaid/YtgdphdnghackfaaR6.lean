/- Memory of ctr's turn (layer 5), block by block. -/
import Derived.Test.YtgdphdnghackfaaR4
import Derived.Test.YtgdphdnghackfaaS
import Derived.Laws.MakeOwn
namespace Go.Proofs.Ytgdphdnghackfaa
open Go.RowKit Go.Shelf
theorem opIn_pure' {F : Fence} {nn : Nat} {P : Program} {o : Oper} {a : Act} {w w' : World} {K : Act → World → Prop} {Q : Exit → Act → World → Prop} {v : Value} (hd : ∀ c, o.op ≠ .defer c) (hc : ∀ c, o.op ≠ .call c) (h : (execOp a.eval o).run P w = .ok (.value v) w') (hk : K (a.put o.dst v) w') : o.wpIn F nn P a w K Q := by
  unfold Oper.wpIn
  rw [Oper.semAt_eq _ _ _ hd, h]
  refine ⟨fun f hf => ?_, hk⟩
  unfold Oper.about at hf
  split at hf
  · rename_i c hcc; exact absurd hcc (hc c)
  · cases hf
theorem opIn_skip' {F : Fence} {nn : Nat} {P : Program} {o : Oper} {a : Act} {w w' : World} {K : Act → World → Prop} {Q : Exit → Act → World → Prop} (hd : ∀ c, o.op ≠ .defer c) (hc : ∀ c, o.op ≠ .call c) (h : (execOp a.eval o).run P w = .ok .skip w') (hk : K (a.put o.dst undef) w') : o.wpIn F nn P a w K Q := by
  unfold Oper.wpIn
  rw [Oper.semAt_eq _ _ _ hd, h]
  refine ⟨fun f hf => ?_, hk⟩
  unfold Oper.about at hf
  split at hf
  · rename_i c hcc; exact absurd hcc (hc c)
  · cases hf
theorem made_u8s (n : Nat) : madeCells #[.int .u8 0] n = u8s (List.replicate n 0) := by
  apply Array.ext_getElem?
  intro i
  by_cases h : i < n
  · rw [u8s_get _ i (by simpa using h)]
    simp [madeCells, h, Nat.mod_one]
  · rw [Array.getElem?_eq_none (by rw [size_madeCells]; omega), Array.getElem?_eq_none (by rw [u8s_size]; simp; omega)]
/-- The variables of turn: the text, what comes out, where it stands. -/
structure TnMem (w : World) (A : Option Addr) (n cap : Nat) (zs : List Int) (s : TrSt) (W : World) : Prop where
  t : Box W w.heap.size 25 #[.slice A n cap]
  o : Arr W (w.heap.size + 1) 5 s.out
  sl : Box W (w.heap.size + 2) 25 #[.slice (some ⟨w.heap.size + 1, 0, none⟩) n n]
  i : Box W (w.heap.size + 3) 3 #[.int .i64 (s.i : Nat)]
  p : Box W (w.heap.size + 4) 3 #[.int .i64 (s.pos : Nat)]
  x : Sl W w.heap.size .u8 A n zs
  bel : Below w.heap.size w W
theorem box_grown {W W' : World} {g : Nat} {t : TypeId} {cs : Array Value} {row : Option Nat} (h : Box W g t cs) (hg : W.grownBy W' row) (hr : ∀ r, row = some r → ∃ o : Obj, W.heap[r]? = some o ∧ o.isCells = false) : Box W' g t cs := by
  refine h.grown hg fun e => ?_
  obtain ⟨o, ho, hc⟩ := hr g e.symm
  have h' : W.heap[g]? = some (.cells cs t (0, 0)) := h
  rw [h'] at ho
  cases ho
  cases hc
namespace TnMem
variable {w W W' : World} {A : Option Addr} {n cap : Nat} {zs : List Int} {s : TrSt}
theorem keep (h : TnMem w A n cap zs s W) (k : Below W.heap.size W W') : TnMem w A n cap zs s W' :=
  ⟨h.t.keep k h.t.lt, h.o.keep k h.o.lt, h.sl.keep k h.sl.lt, h.i.keep k h.i.lt, h.p.keep k h.p.lt, h.x.keep k h.bel.size, h.bel.trans (k.mono h.bel.size)⟩
theorem drew (h : TnMem w A n cap zs s W) : TnMem w A n cap zs s W.drew := ⟨h.t, h.o, h.sl, h.i, h.p, h.x, h.bel.drew⟩
theorem grown (h : TnMem w A n cap zs s W) {row : Option Nat} (hg : W.grownBy W' row) (hr : ∀ r, row = some r → w.heap.size ≤ r ∧ ∃ o : Obj, W.heap[r]? = some o ∧ o.isCells = false) : TnMem w A n cap zs s W' := by
  have hr2 : ∀ r, row = some r → ∃ o : Obj, W.heap[r]? = some o ∧ o.isCells = false := fun r e => (hr r e).2
  have hb : Below w.heap.size W W' := ⟨hg.os, hg.tape, hg.output, hg.size, fun k hk => hg.block k (Nat.lt_of_lt_of_le hk h.bel.size) (fun e => by have := (hr k e.symm).1; omega)⟩
  exact ⟨box_grown h.t hg hr2, box_grown h.o hg hr2, box_grown h.sl hg hr2, box_grown h.i hg hr2, box_grown h.p hg hr2, h.x.keep hb (Nat.le_refl _), h.bel.trans hb⟩
end TnMem
/-- The iterator over blocks, as a range wants it. -/
theorem all_blocks (n gm gf gb gn gk m first nonce : Nat) (key : List Nat) (hk : key.length = 16) (bk : Bytes key) (hm0 : 0 < m) (hm : m < 100000) (hf : first < 100000) (hN : nonce < 18446744073709551616)
    (w : World) (M : WkMem gm gf gb gn gk m first nonce key w) :
    SeqStopsK Fence.wide n Try.prog 32 #[.pointer (some ⟨gm, 0, none⟩), .pointer (some ⟨gf, 0, none⟩), .pointer (some ⟨gb, 0, none⟩)] (blkArgs key nonce) (WkKp gm gf gb gn gk) (fun ys => ys = blkSeq first m) (fun pre => pre <+: blkSeq first m) m w := fun l J Jx W hW hJ _ hY h0 =>
  walk_it n l gm gf gb gn gk m first nonce key hk bk hm0 hm hf hN J Jx W.heap.size hJ hY W (M.keep hW) h0
theorem wkKp_grown {gm gf gb gn gk : Nat} {W W' : World} {row : Option Nat} (hg : W.grownBy W' row) (h : ∀ g, g = gm ∨ g = gf ∨ g = gb ∨ g = gn ∨ g = gk → g < W.heap.size ∧ some g ≠ row) : WkKp gm gf gb gn gk W W' :=
  ⟨hg.size, fun g hgg => hg.block g (h g hgg).1 (h g hgg).2⟩
theorem wkKp_b {gm gf gb gn gk : Nat} {w : World} (hlt : gm < w.heap.size ∧ gf < w.heap.size ∧ gb < w.heap.size ∧ gn < w.heap.size ∧ gk < w.heap.size) (W : World) (l : Nat) (o o' : Obj) (hl : w.heap.size ≤ l) (h : W.heap[l]? = some o) (_ : o.isCells = false) (_ : o.isWalk = false) : WkKp gm gf gb gn gk W (W.putObj l o') := by
  have hll := (Array.getElem?_eq_some_iff.1 h).1
  refine wkKp_grown (grownBy_putObj' W l o') fun g hg => ?_
  have hgl : g < w.heap.size := by rcases hg with rfl | rfl | rfl | rfl | rfl <;> omega
  exact ⟨by omega, fun e => by cases e; omega⟩
end Go.Proofs.Ytgdphdnghackfaa
