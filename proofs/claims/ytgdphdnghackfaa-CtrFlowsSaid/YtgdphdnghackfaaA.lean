/- Opening an array of integers that came in by value: its numbers, each of its kind. Plain lemmas. -/
import Derived.OpenShut
import Derived.ProofKit
import Derived.Test.YtgdphdnghackfaaR12
namespace Go.Proofs.Ytgdphdnghackfaa
open Go.ChangeShapes Go.WideShapes

section
variable {H : Type} {enc : TypeId × Value → H} {P : Program} {w : World} {base : Nat} {spare : Nat → Bool} {held : Bool}

theorem open_arr {r : Reach} {b0 n : Nat} {t e : TypeId} {k : IntKind} {v : Value} {d : DataW H} {p : List MemPlace} (ht : P.underlying t = some (.array n e)) (he : P.underlying e = some (.int k)) (hce : P.cellsOf e = 1) (hct : P.cellsOf t = n)
    (hv : Value.okWide P w r b0 t v) (h : DataW.Trod enc P w base spare held t v d p) :
    ∃ zs : List Int, v = .agg (zs.map (Value.int k)).toArray ∧ zs.length = n ∧ ∀ z ∈ zs, (Lit.int k z).wf = true := by
  unfold Value.okWide at hv
  rw [ht] at hv
  obtain ⟨cs, rfl, hsz, _⟩ := hv
  obtain ⟨fuel, hf⟩ := h
  obtain ⟨xs, m, _, _, hl, hxl, hx⟩ := DataW.trod_array ht hf
  have hcl : cs.toList.length = n := by simpa [hct] using hsz
  have key : ∀ i, i < n → ∃ z, cs.toList[i]? = some (.int k z) ∧ (Lit.int k z).wf = true := by
    intro i hi
    have h1 := hx i hi
    rw [hce, Nat.mul_one, List.getElem?_eq_getElem (by omega)] at h1
    obtain ⟨z, hz, _, hw⟩ := DataW.trod_int he h1
    refine ⟨z, ?_, hw⟩
    have := congrArg (·[0]?) hz
    simpa [Value.cells, List.getElem?_take, List.getElem?_drop] using this
  have all : ∀ (m : Nat) (l : List Value), l.length = m → (∀ i, i < m → ∃ z, l[i]? = some (.int k z) ∧ (Lit.int k z).wf = true) → ∃ zs : List Int, l = zs.map (Value.int k) ∧ ∀ z ∈ zs, (Lit.int k z).wf = true := by
    intro m
    induction m with
    | zero => intro l hl _; exact ⟨[], by simpa using hl, fun z hz => by simp at hz⟩
    | succ m ih =>
      intro l hl hk
      cases l with
      | nil => simp at hl
      | cons c l =>
        obtain ⟨z, hz, hw⟩ := hk 0 (by omega)
        obtain ⟨zs, hzs, hws⟩ := ih l (by simpa using hl) (fun i hi => by have := hk (i + 1) (by omega); simpa using this)
        simp only [List.getElem?_cons_zero, Option.some.injEq] at hz
        refine ⟨z :: zs, by rw [hz, hzs]; rfl, fun y hy => ?_⟩
        rcases List.mem_cons.1 hy with rfl | hy
        · exact hw
        · exact hws y hy
  obtain ⟨zs, hzs, hws⟩ := all n cs.toList hcl key
  refine ⟨zs, ?_, by have := congrArg List.length hzs; simp at this; omega, hws⟩
  rw [← hzs]
end

theorem u8_nat {z : Int} (h : (Lit.int .u8 z).wf = true) : ∃ n : Nat, z = n ∧ n < 256 := by
  simp [Lit.wf, IntKind.min, IntKind.max, IntKind.signed, IntKind.bits] at h
  exact ⟨z.toNat, by omega, by omega⟩
theorem bytes_of : ∀ {zs : List Int}, (∀ z ∈ zs, (Lit.int .u8 z).wf = true) → ∃ l : List Nat, (zs.map (Value.int .u8)).toArray = u8s l ∧ l.length = zs.length ∧ Bytes l
  | [], _ => ⟨[], rfl, rfl, fun x hx => by cases hx⟩
  | z :: zs, h => by
    obtain ⟨l, hl, hn, hb⟩ := bytes_of (zs := zs) (fun y hy => h y (List.mem_cons_of_mem _ hy))
    obtain ⟨n, rfl, hn8⟩ := u8_nat (h z (List.mem_cons_self ..))
    refine ⟨n :: l, ?_, by simp [hn], fun x hx => ?_⟩
    · have e := congrArg Array.toList hl
      simp [u8s] at e ⊢
      exact e
    · rcases List.mem_cons.1 hx with rfl | hx
      · exact hn8
      · exact hb x hx
open Go.RowKit in
theorem TxIn.of_slin {w : World} {A : Option Addr} {n cap : Nat} {zs : List Int} (h : SlIn w .u8 A n cap zs) : ∃ tx, TxIn w A n cap tx := by
  obtain ⟨l, hl, hn, hb⟩ := bytes_of h.2.2.2
  have e : zs = l.map fun (x : Nat) => (x : Int) := by
    have h1 := congrArg Array.toList hl
    have key : ∀ (zs : List Int) (l : List Nat), zs.map (Value.int .u8) = l.map (fun (x : Nat) => Value.int .u8 (x : Int)) → zs = l.map fun (x : Nat) => (x : Int) := by
      intro zs
      induction zs with
      | nil => intro l h; cases l with | nil => rfl | cons y ys => simp at h
      | cons z zs ih =>
        intro l h
        cases l with
        | nil => simp at h
        | cons y ys =>
          simp only [List.map_cons, List.cons.injEq, Value.int.injEq, true_and] at h
          rw [h.1, ih ys h.2]; rfl
    exact key zs l (by simpa [u8s] using h1)
  subst e
  exact ⟨l, by have := h.1.1; simpa using this, hb, h⟩
end Go.Proofs.Ytgdphdnghackfaa
