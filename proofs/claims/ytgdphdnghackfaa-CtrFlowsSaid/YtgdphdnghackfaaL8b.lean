/- A slice of texts that came in (the law CtrFlows, layer 5): its cells, as the row's frame hands it on. -/
import Derived.Test.YtgdphdnghackfaaL8
import Derived.ProofKit
import Derived.OpenShut
import Derived.ChangeSame
namespace Go.Proofs.Ytgdphdnghackfaa
open Go.ChangeShapes Go.WideShapes Go.ChangeAt Go.RowKit
section
variable {H : Type} {enc : TypeId × Value → H} {w : World} {held : Bool}
theorem open_ls {fuel : Nat} {a : Option Addr} {len cap : Nat} {x : DataW H × List MemPlace} (h : DataW.trod enc Try.prog w 0 (fun _ => true) held fuel 46 [.slice a len cap] = some x) : LsIn w a len := by
  intro h0
  rcases DataW.trod_slice Try.underlying46 h with ⟨hcs, _⟩ | ⟨p, len', cap', elems, rest, n, _, hcs, _, _, _, _, hlen, hel, _, _⟩
  · simp at hcs; omega
  simp only [List.cons.injEq, Value.slice.injEq, and_true] at hcs
  obtain ⟨rfl, rfl, rfl⟩ := hcs
  have c25 : Try.prog.cellsOf 25 = 1 := by kernel_rfl
  have each : ∀ i, i < len → ∃ (B : Option Addr) (m c : Nat) (tx : List Nat), w.cell? ((p.add (i * 1)).add 0) = some (.slice B m c) ∧ TxIn w B m c tx := by
    intro i hi
    have h1 := hel i hi
    obtain ⟨y, hy⟩ : ∃ y, elems[i]? = some y := ⟨_, List.getElem?_eq_getElem (by omega)⟩
    rw [hy, Option.bind_eq_some_iff, c25] at h1
    obtain ⟨cs, hcs, ht⟩ := h1
    have hcell := (World.cells?_some hcs).2.2
    have q0 := hcell 0 (by omega)
    rcases open_ints Try.underlying25 Try.underlying5 (by kernel_rfl) ht with ⟨hcs2, _⟩ | ⟨x, l, c, zs, hcs2, _, hl2, hm, hz, _, hcell2, hwz⟩
    · subst hcs2
      exact ⟨none, 0, 0, [], q0, TxIn.nil w⟩
    · subst hcs2
      obtain ⟨tx, htx⟩ := TxIn.of_slin (SlIn.of_row hl2 hm (by simpa using hz) hcell2 hwz)
      exact ⟨some x, l, c, tx, q0, htx⟩
  obtain ⟨b, o, s⟩ := p
  obtain ⟨B, m, c, tx, hk0, _⟩ := each 0 h0
  obtain rfl : s = none := by simpa [Addr.add] using World.cell?_spot hk0
  refine ⟨b, o, rfl, fun i hi => ?_⟩
  obtain ⟨B, m, c, tx, h1, h2⟩ := each i hi
  simp only [add_none] at h1
  exact ⟨B, m, c, tx, by simpa using h1, h2⟩
end
end Go.Proofs.Ytgdphdnghackfaa
