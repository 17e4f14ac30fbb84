/- Stores into turn's counters. -/
import Derived.Test.YtgdphdnghackfaaR8
namespace Go.Proofs.Ytgdphdnghackfaa
open Go.RowKit Go.Shelf
theorem Box.setRow {w : World} {g : Nat} {t : TypeId} {cs ds : Array Value} (h : Box w g t cs) : Box (w.setRow g ds) g t ds := by
  have h' : w.heap[g]? = some (.cells cs t (0, 0)) := h
  show (w.heap.modify g _)[g]? = _
  rw [Array.getElem?_modify, if_pos rfl, h']; rfl
theorem Box.farRow {w : World} {g k : Nat} {t : TypeId} {cs ds : Array Value} (h : Box w g t cs) (hk : k ≠ g) : Box (w.setRow k ds) g t cs := (heap_setRow w k ds g hk).trans h
theorem TnMem.put_i {w W : World} {A : Option Addr} {n cap : Nat} {zs : List Int} {s : TrSt} (h : TnMem w A n cap zs s W) (j : Nat) : TnMem w A n cap zs ⟨j, s.pos, s.out⟩ (W.setRow (w.heap.size + 3) #[.int .i64 (j : Nat)]) :=
  ⟨Box.farRow h.t (by omega), Box.farRow h.o (by omega), Box.farRow h.sl (by omega), Box.setRow h.i, Box.farRow h.p (by omega), h.x.keep (below_setRow (Below.refl w.heap.size W) (by omega) _) (Nat.le_refl _), below_setRow h.bel (by omega) _⟩
theorem TnMem.put_p {w W : World} {A : Option Addr} {n cap : Nat} {zs : List Int} {s : TrSt} (h : TnMem w A n cap zs s W) (j : Nat) : TnMem w A n cap zs ⟨s.i, j, s.out⟩ (W.setRow (w.heap.size + 4) #[.int .i64 (j : Nat)]) :=
  ⟨Box.farRow h.t (by omega), Box.farRow h.o (by omega), Box.farRow h.sl (by omega), Box.farRow h.i (by omega), Box.setRow h.p, h.x.keep (below_setRow (Below.refl w.heap.size W) (by omega) _) (Nat.le_refl _), below_setRow h.bel (by omega) _⟩
theorem TnMem.put_o {w W : World} {A : Option Addr} {n cap : Nat} {zs : List Int} {s : TrSt} (h : TnMem w A n cap zs s W) (l : List Nat) : TnMem w A n cap zs ⟨s.i, s.pos, l⟩ (W.setRow (w.heap.size + 1) (u8s l)) :=
  ⟨Box.farRow h.t (by omega), Arr.setRow h.o, Box.farRow h.sl (by omega), Box.farRow h.i (by omega), Box.farRow h.p (by omega), h.x.keep (below_setRow (Below.refl w.heap.size W) (by omega) _) (Nat.le_refl _), below_setRow h.bel (by omega) _⟩
theorem st3 {W : World} {g : Nat} {v : Value} {z : Int} (h : Box W g 3 #[v]) : (Instr.storeAt 3 (.pointer (some ⟨g, 0, none⟩)) (.int .i64 z)).run Try.prog W = .ok () (W.setRow g #[.int .i64 z]) := by
  have h' : W.heap[g]? = some (.cells #[v] 3 (0, 0)) := h
  have c := h.cell 0
  have c' : W.cell? ⟨g, 0, none⟩ = some v := c
  have fr := h.frozen 0
  clear c
  go_simp
  exact setCell_eq_setRow W g 0 #[v] 3 (0, 0) (.int .i64 z) h'
end Go.Proofs.Ytgdphdnghackfaa
