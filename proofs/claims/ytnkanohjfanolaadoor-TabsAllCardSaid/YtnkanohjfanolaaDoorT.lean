/- Opening an array of integers that came in by value: its numbers, each of its kind. Plain lemmas. -/
import Derived.OpenShut
import Derived.ProofKit
import Derived.Test.YtnkanohjfanolaaDoorM
namespace Go.Proofs.YtnkanohjfanolaaDoor
open Go.ChangeShapes Go.WideShapes

section
variable {H : Type} {enc : TypeId × Value → H} {P : Program} {w : World} {base : Nat} {spare : Nat → Bool} {held : Bool}

theorem open_arr {r : Reach} {b0 n : Nat} {t e : TypeId} {k : IntKind} {v : Value} {d : DataW H} {p : List MemPlace} (ht : P.underlying t = some (.array n e)) (he : P.underlying e = some (.int k)) (hce : P.cellsOf e = 1) (hct : P.cellsOf t = n)
    (hv : Value.okWide P w r b0 t v) (h : DataW.Trod enc P w base spare held t v d p) :
    ∃ zs : List Int, v = .agg (zs.map (Value.int k)).toArray ∧ zs.length = n ∧ ∀ z ∈ zs, (Lit.int k z).wf = true := by
  unfold Value.okWide at hv
  rw [ht] at hv
  obtain ⟨cs, rfl, hsz, _⟩ := hv
  obtain ⟨fuel, hf⟩ := h
  obtain ⟨xs, m, _, _, hl, hxl, hx⟩ := DataW.trod_array ht hf
  have hcl : cs.toList.length = n := by simpa [hct] using hsz
  have key : ∀ i, i < n → ∃ z, cs.toList[i]? = some (.int k z) ∧ (Lit.int k z).wf = true := by
    intro i hi
    have h1 := hx i hi
    rw [hce, Nat.mul_one, List.getElem?_eq_getElem (by omega)] at h1
    obtain ⟨z, hz, _, hw⟩ := DataW.trod_int he h1
    refine ⟨z, ?_, hw⟩
    have := congrArg (·[0]?) hz
    simpa [Value.cells, List.getElem?_take, List.getElem?_drop] using this
  have all : ∀ (m : Nat) (l : List Value), l.length = m → (∀ i, i < m → ∃ z, l[i]? = some (.int k z) ∧ (Lit.int k z).wf = true) → ∃ zs : List Int, l = zs.map (Value.int k) ∧ ∀ z ∈ zs, (Lit.int k z).wf = true := by
    intro m
    induction m with
    | zero => intro l hl _; exact ⟨[], by simpa using hl, fun z hz => by simp at hz⟩
    | succ m ih =>
      intro l hl hk
      cases l with
      | nil => simp at hl
      | cons c l =>
        obtain ⟨z, hz, hw⟩ := hk 0 (by omega)
        obtain ⟨zs, hzs, hws⟩ := ih l (by simpa using hl) (fun i hi => by have := hk (i + 1) (by omega); simpa using this)
        simp only [List.getElem?_cons_zero, Option.some.injEq] at hz
        refine ⟨z :: zs, by rw [hz, hzs]; rfl, fun y hy => ?_⟩
        rcases List.mem_cons.1 hy with rfl | hy
        · exact hw
        · exact hws y hy
  obtain ⟨zs, hzs, hws⟩ := all n cs.toList hcl key
  refine ⟨zs, ?_, by have := congrArg List.length hzs; simp at this; omega, hws⟩
  rw [← hzs]
end

/-- Four numbers of 64 bits are four words. -/
theorem four_of {zs : List Int} (hl : zs.length = 4) (hw : ∀ z ∈ zs, (Lit.int .u64 z).wf = true) : ∃ t : T4, t.Ok ∧ (zs.map (Value.int .u64)).toArray = #[.int .u64 t.a, .int .u64 t.b, .int .u64 t.c, .int .u64 t.d] := by
  match zs, hl with
  | [a, b, c, d], _ =>
    have ha := bounds_u64 (hw a (by simp)); have hb := bounds_u64 (hw b (by simp)); have hc := bounds_u64 (hw c (by simp)); have hd := bounds_u64 (hw d (by simp))
    refine ⟨⟨a.toNat, b.toNat, c.toNat, d.toNat⟩, ⟨by simp only; omega, by simp only; omega, by simp only; omega, by simp only; omega⟩, ?_⟩
    simp only [List.map_cons, List.map_nil, Int.toNat_of_nonneg ha.1, Int.toNat_of_nonneg hb.1, Int.toNat_of_nonneg hc.1, Int.toNat_of_nonneg hd.1]
end Go.Proofs.YtnkanohjfanolaaDoor
