/- A slice of operations that came in (layer 10): its cells, as the row's frame hands it on. -/
import Derived.Test.YtfogblcjccoeiaaL6
import Derived.ProofKit
import Derived.OpenShut
import Derived.ChangeSame
namespace Go.Proofs.Ytfogblcjccoeiaa
open Go.ChangeShapes Go.WideShapes Go.ChangeAt Go.RowKit

/-- The slice value '.slice A n cap' holds n operations: a kind, and a row of bytes. -/
def OpsIn (w : World) (A : Option Addr) (n : Nat) : Prop :=
  0 < n → ∃ b o, A = some ⟨b, o, none⟩ ∧ b < w.heap.size ∧ ∀ i, i < n → ∃ (k : Int) (A1 : Option Addr) (L C : Nat) (zs : List Int),
    w.cell? ⟨b, o + i * 2, none⟩ = some (.int .i64 k) ∧ w.cell? ⟨b, o + i * 2 + 1, none⟩ = some (.slice A1 L C) ∧ SlIn w .u8 A1 L C zs
theorem OpsIn.nil (w : World) : OpsIn w none 0 := fun h => absurd h (Nat.lt_irrefl _)
section
variable {H : Type} {enc : TypeId × Value → H} {w : World} {held : Bool}
theorem open_ops {fuel : Nat} {a : Option Addr} {len cap : Nat} {x : DataW H × List MemPlace} (h : DataW.trod enc Try.prog w 0 (fun _ => true) held fuel 36 [.slice a len cap] = some x) : OpsIn w a len := by
  intro h0
  rcases DataW.trod_slice Try.underlying36 h with ⟨hcs, _⟩ | ⟨p, len', cap', elems, rest, n, _, hcs, _, _, _, _, hlen, hel, _, _⟩
  · simp at hcs; omega
  simp only [List.cons.injEq, Value.slice.injEq, and_true] at hcs
  obtain ⟨rfl, rfl, rfl⟩ := hcs
  have c38 : Try.prog.cellsOf 38 = 2 := by kernel_rfl
  have each : ∀ i, i < len → ∃ (k : Int) (A1 : Option Addr) (L C : Nat) (zs : List Int), w.cell? ((p.add (i * 2)).add 0) = some (.int .i64 k) ∧ w.cell? ((p.add (i * 2)).add 1) = some (.slice A1 L C) ∧ SlIn w .u8 A1 L C zs := by
    intro i hi
    have h1 := hel i hi
    obtain ⟨y, hy⟩ : ∃ y, elems[i]? = some y := ⟨_, List.getElem?_eq_getElem (by omega)⟩
    rw [hy, Option.bind_eq_some_iff, c38] at h1
    obtain ⟨cs, hcs, ht⟩ := h1
    obtain ⟨y0, y1, m, _, hl, hf0, hf1⟩ := trod_struct2 Try.underlying38 ht
    rw [c38] at hl
    obtain ⟨v0, v1, rfl⟩ : ∃ v0 v1, cs = [v0, v1] := by
      match cs, hl with
      | [v0, v1], _ => exact ⟨v0, v1, rfl⟩
    have e3 : Try.prog.cellsOf 3 = 1 := by kernel_rfl
    have e22 : Try.prog.cellsOf 22 = 1 := by kernel_rfl
    simp only [e3, e22, List.drop, List.take] at hf0 hf1
    obtain ⟨k, hk, _, _⟩ := DataW.trod_int Try.underlying3 hf0
    have hcell := (World.cells?_some hcs).2.2
    have q0 := hcell 0 (by omega)
    have q1 := hcell 1 (by omega)
    simp only [List.cons.injEq, and_true] at hk
    subst hk
    rcases open_ints Try.underlying22 Try.underlying5 (by kernel_rfl) hf1 with ⟨hcs2, _⟩ | ⟨x, l, c, zs, hcs2, _, hl2, hm, hz, _, hcell2, hwz⟩
    · simp only [List.cons.injEq, and_true] at hcs2
      subst hcs2
      exact ⟨k, none, 0, 0, [], q0, q1, SlIn.of_nil w .u8⟩
    · simp only [List.cons.injEq, and_true] at hcs2
      subst hcs2
      exact ⟨k, some x, l, c, zs.take l, q0, q1, SlIn.of_row hl2 hm (by simpa using hz) hcell2 hwz⟩
  obtain ⟨b, o, s⟩ := p
  obtain ⟨k, _, _, _, _, hk0, _, _⟩ := each 0 h0
  obtain rfl : s = none := by simpa [Addr.add] using World.cell?_spot hk0
  refine ⟨b, o, rfl, by simpa [Addr.add] using World.block_lt_of_cell? w _ hk0, fun i hi => ?_⟩
  obtain ⟨k, A1, L, C, zs, h1, h2, h3⟩ := each i hi
  simp only [add_none] at h1 h2
  exact ⟨k, A1, L, C, zs, by simpa using h1, h2, h3⟩
end
end Go.Proofs.Ytfogblcjccoeiaa
