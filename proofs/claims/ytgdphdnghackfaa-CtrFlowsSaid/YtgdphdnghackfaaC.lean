/- Small words for memory, more: a slice that came in (SlIn), a row of the call's own (Own), append of a slice of integers onto it. Plain lemmas; the append's condition is Go's bound on sizes. -/
import Derived.Test.YtgdphdnghackfaaB
import Derived.Maps.AppendAt
namespace Go.Proofs.Ytgdphdnghackfaa
open Go.RowKit

/-- A slice of integers that came in, as the row's frame hands it on: its cells, its length below its capacity's bound, each number of its kind. -/
def SlIn (w : World) (k : IntKind) (A : Option Addr) (n cap : Nat) (zs : List Int) : Prop :=
  Sl w w.heap.size k A n zs ∧ n ≤ cap ∧ cap ≤ maxLen ∧ ∀ z ∈ zs, (Lit.int k z).wf = true

theorem SlIn.of_nil (w : World) (k : IntKind) : SlIn w k none 0 0 [] := ⟨⟨rfl, fun h => absurd h (Nat.lt_irrefl _)⟩, Nat.le_refl _, by simp [maxLen], fun z hz => by simp at hz⟩

theorem SlIn.of_row {w : World} {k : IntKind} {x : Addr} {n cap : Nat} {zs : List Int} (hl : n ≤ cap) (hm : cap ≤ maxLen) (hz : zs.length = cap) (hc : ∀ i, i < zs.length → w.cell? (x.add i) = some (.int k (zs.getD i 0))) (hw : ∀ z ∈ zs, (Lit.int k z).wf = true) :
    SlIn w k (some x) n cap (zs.take n) := by
  refine ⟨⟨by rw [List.length_take]; omega, fun hn => ?_⟩, hl, hm, fun z hz => hw z (List.mem_of_mem_take hz)⟩
  obtain ⟨b, o, s⟩ := x
  have h0 := hc 0 (by omega)
  obtain rfl : s = none := by simpa [Addr.add] using World.cell?_spot h0
  refine ⟨b, o, rfl, by simpa [Addr.add] using World.block_lt_of_cell? w _ h0, fun i hi => ?_⟩
  have := hc i (by omega)
  have e : (⟨b, o, none⟩ : Addr).add i = ⟨b, o + i, none⟩ := by unfold Addr.add; split <;> simp_all
  rw [e] at this
  rw [this, List.getElem?_take, if_pos hi]; rfl

theorem add_none (b o i : Nat) : (⟨b, o, none⟩ : Addr).add i = ⟨b, o + i, none⟩ := by unfold Addr.add; split <;> simp_all

/-- The slice value '.slice A n cap' is a row of the call's own, from block 'base' on, that holds the numbers zs of kind k. -/
def Own (w : World) (base : Nat) (e : TypeId) (k : IntKind) (A : Option Addr) (n cap : Nat) (zs : List Int) : Prop := w.ownsRow base e 1 (.slice A n cap) n (zs.map (Value.int k))

namespace Own
variable {w w' : World} {base n cap : Nat} {e : TypeId} {k : IntKind} {A : Option Addr} {zs : List Int}
theorem len (h : Own w base e k A n cap zs) : zs.length = n := by have := h.1; simpa using this
theorem nil (w : World) (base : Nat) (e : TypeId) (k : IntKind) : Own w base e k none 0 0 [] := World.ownsRow_nil w base e 1
theorem alloc (h : Own w base e k A n cap zs) (o : Obj) : Own (w.alloc o) base e k A n cap zs := World.ownsRow.alloc h o
theorem drew (h : Own w base e k A n cap zs) : Own w.drew base e k A n cap zs := h
theorem drewN (h : Own w base e k A n cap zs) (m : Nat) : Own (w.drewN m) base e k A n cap zs := h
theorem keep {B : Nat} (h : Own w base e k A n cap zs) (hb : Below B w w') (hB : w.heap.size ≤ B) : Own w' base e k A n cap zs := by
  refine ⟨h.1, ?_⟩
  rcases h.2 with hn | ⟨g, c, cur, hv, hg, hh, rest⟩
  · exact .inl hn
  · exact .inr ⟨g, c, cur, hv, hg, (hb.block g (Nat.lt_of_lt_of_le (Array.getElem?_eq_some_iff.1 hh).1 hB)).trans hh, rest⟩
theorem form (h : Own w base e k A n cap zs) : (A = none ∧ n = 0 ∧ cap = 0) ∨ ∃ g, A = some ⟨g, 0, none⟩ ∧ base ≤ g ∧ g < w.heap.size := by
  rcases h.2 with ⟨h1, h2⟩ | ⟨g, c, cur, hv, hg, hh, rest⟩
  · simp only [Value.slice.injEq] at h1; exact .inl ⟨h1.1, h1.2.1, h1.2.2⟩
  · simp only [Value.slice.injEq] at hv; exact .inr ⟨g, hv.1, hg, (Array.getElem?_eq_some_iff.1 hh).1⟩
theorem far {p : Addr} (h : Own w base e k A n cap zs) (hp : ∀ g, A = some ⟨g, 0, none⟩ → g ≠ p.block) (u : Value) : Own (w.setCell p u) base e k A n cap zs := by
  refine ⟨h.1, ?_⟩
  rcases h.2 with hn | ⟨g, c, cur, hv, hg, hh, rest⟩
  · exact .inl hn
  · have hA : A = some ⟨g, 0, none⟩ := by simp only [Value.slice.injEq] at hv; exact hv.1
    exact .inr ⟨g, c, cur, hv, hg, (Below.heap_setCell w p u g (hp g hA)).trans hh, rest⟩
theorem sl (h : Own w base e k A n cap zs) : Sl w w.heap.size k A n zs := by
  refine ⟨h.len, fun hn => ?_⟩
  rcases h.form with ⟨_, h0, _⟩ | ⟨g, rfl, _, hlt⟩
  · omega
  · refine ⟨g, 0, rfl, hlt, fun i hi => ?_⟩
    have := World.ownsRow.cellAt h i (by omega)
    rw [Nat.zero_add, this, List.getElem?_map, List.getElem?_eq_getElem (by rw [h.len]; exact hi)]; rfl
end Own

theorem Sl.nil (w : World) (B : Nat) (k : IntKind) (A : Option Addr) : Sl w B k A 0 [] := ⟨rfl, fun h => absurd h (Nat.lt_irrefl _)⟩

section
variable {P : Program} {w : World}
theorem run_append_none (base : Nat) (t ty e : TypeId) (i : TypeInfo) (size : Nat) (ht : P.underlying t = some (.slice e)) (hi : P.info? e = some i)
    (v : Value) (n : Nat) (xs : List Value) (hown : w.ownsRow base e size v n xs) (c : Nat) :
    (Builtin.append_ #[t, t] ty #[v, .slice none 0 c]).run P w = .ok v w := by
  rcases hown.2 with ⟨rfl, rfl⟩ | ⟨g, cap, cur, rfl, _, _, hnc, _⟩
  · simp [Builtin.append_, run_underlying ht, sizeOf, typeInfo, hi, Builtin.lenOf, Builtin.firstCells]
  · simp [Builtin.append_, run_underlying ht, sizeOf, typeInfo, hi, Builtin.lenOf, Builtin.firstCells, hnc, storeCells]

/-- append of a slice of integers, nil or empty or not, onto a row of the call's own. -/
theorem run_append_ints (base : Nat) (t ty e : TypeId) (i : TypeInfo) (z : Value) (bytes : Nat) (ht : P.underlying t = some (.slice e)) (hi : P.info? e = some i) (hz : i.zero = some z)
    (hsize : i.size = 1) (hby : i.bytes = bytes) (hzs : z.cells.size = 1) (k : IntKind) (A : Option Addr) (n cap : Nat) (zs : List Int) (hown : Own w base e k A n cap zs)
    (B : Nat) (A' : Option Addr) (m c : Nat) (ys : List Int) (hsrc : Sl w B k A' m ys) (h63 : n + m ≤ maxLen) (hbytes : (n + m) * bytes ≤ 140737488355328) (hbase : base ≤ w.heap.size) :
    ∃ A2 cap2 w', (Builtin.append_ #[t, t] ty #[.slice A n cap, .slice A' m c]).run P w = .ok (.slice A2 (n + m) cap2) w' ∧ Own w' base e k A2 (n + m) cap2 (zs ++ ys) ∧
      w.grownBy w' (Value.slice A n cap).ownBlock ∧ (A2.map (·.block) = A.map (·.block) ∨ A2.map (·.block) = some w.heap.size) := by
  rcases Nat.eq_zero_or_pos m with hm | hm
  · subst hm
    have hy : ys = [] := List.eq_nil_of_length_eq_zero hsrc.1
    subst hy
    cases A' with
    | none => exact ⟨A, cap, w, run_append_none base t ty e i 1 ht hi _ n _ hown c, by simpa using hown, ⟨rfl, rfl, rfl, Nat.le_refl _, fun _ _ _ => rfl⟩, .inl rfl⟩
    | some ad =>
      obtain ⟨v', w', hr, h2, h3, h4, h5⟩ := run_append_own_at (P := P) w base t ty e i z 1 bytes ht hi hz hsize hby hzs (by omega) _ n _ hown ad 0 c [] rfl (fun j u hu => by simp at hu) (fun u hu => by simp at hu) h63 hbytes hbase
      obtain ⟨A2, cap2, rfl⟩ : ∃ A2 cap2, v' = .slice A2 (n + 0) cap2 := by
        rcases h2.2 with ⟨rfl, h0⟩ | ⟨g, c2, cur, rfl, _⟩
        · exact ⟨none, 0, by rw [h0]⟩
        · exact ⟨_, _, rfl⟩
      refine ⟨A2, cap2, w', hr, ?_, h3, ?_⟩
      · show w'.ownsRow base e 1 _ _ _
        rw [List.append_nil] at *; exact h2
      · rcases h5 with h5 | h5
        · left; cases A2 <;> cases A <;> simp_all [Value.ownBlock]
        · right; cases A2 <;> simp_all [Value.ownBlock]
  · obtain ⟨b, o, rfl, hb, hc⟩ := hsrc.2 hm
    obtain ⟨v', w', hr, h2, h3, h4, h5⟩ := run_append_own_at (P := P) w base t ty e i z 1 bytes ht hi hz hsize hby hzs (by omega) _ n _ hown ⟨b, o, none⟩ m c (ys.map (Value.int k)) (by simp [hsrc.1])
      (fun j u hu => by
        have hj : j < m := by
          rcases Nat.lt_or_ge j m with h | h
          · exact h
          · rw [List.getElem?_eq_none (by simp [hsrc.1]; omega)] at hu; cases hu
        rw [add_none, hc j hj, List.getElem?_eq_getElem (by rw [hsrc.1]; exact hj)]
        rw [List.getElem?_map, List.getElem?_eq_getElem (by rw [hsrc.1]; exact hj)] at hu
        simpa using hu)
      (fun u hu => by simp only [List.mem_map] at hu; obtain ⟨x, _, rfl⟩ := hu; rfl) h63 hbytes hbase
    obtain ⟨A2, cap2, rfl⟩ : ∃ A2 cap2, v' = .slice A2 (n + m) cap2 := by
      rcases h2.2 with ⟨rfl, h0⟩ | ⟨g, c2, cur, rfl, _⟩
      · omega
      · exact ⟨_, _, rfl⟩
    refine ⟨A2, cap2, w', hr, ?_, h3, ?_⟩
    · show w'.ownsRow base e 1 _ _ _
      rw [List.map_append]; exact h2
    · rcases h5 with h5 | h5
      · left; cases A2 <;> cases A <;> simp_all [Value.ownBlock]
      · right; cases A2 <;> simp_all [Value.ownBlock]

/-- The same at the operation, for the walk. -/
theorem wpList_append_ints {ops : Array Oper} {rest : List Oper} {o : Oper} {a : Act} {Q : Exit → Act → World → Prop} (hgd : o.guard = none) (s x : Operand) (t : TypeId)
    (ho : o.op = .call { callee := .builtin .append, args := #[s, x], argTypes := #[t, t] })
    (base : Nat) (e : TypeId) (i : TypeInfo) (z : Value) (bytes : Nat) (ht : P.underlying t = some (.slice e)) (hi : P.info? e = some i) (hz : i.zero = some z)
    (hsize : i.size = 1) (hby : i.bytes = bytes) (hzs : z.cells.size = 1) (k : IntKind) (A : Option Addr) (n cap : Nat) (zs : List Int) (hs : a.eval s = .slice A n cap) (hown : Own w base e k A n cap zs)
    (B : Nat) (A' : Option Addr) (m c : Nat) (ys : List Int) (hx : a.eval x = .slice A' m c) (hsrc : Sl w B k A' m ys) (h63 : n + m ≤ maxLen) (hbytes : (n + m) * bytes ≤ 140737488355328) (hbase : base ≤ w.heap.size)
    (h : ∀ A2 cap2 w', Own w' base e k A2 (n + m) cap2 (zs ++ ys) → w.grownBy w' (Value.slice A n cap).ownBlock → (A2.map (·.block) = A.map (·.block) ∨ A2.map (·.block) = some w.heap.size) → wpList P ops Q rest (a.put o.dst (.slice A2 (n + m) cap2)) w') :
    wpList P ops Q (o :: rest) a w := by
  refine wpList_plain hgd fun K hK => ?_
  obtain ⟨A2, cap2, w', hr, h2, h3, h4⟩ := run_append_ints (P := P) (w := w) base t o.type e i z bytes ht hi hz hsize hby hzs k A n cap zs hown B A' m c ys hsrc h63 hbytes hbase
  unfold Oper.wp execOp
  simp only [ho, resolve, invoke, builtin, Sem.run_bind, Sem.run_pure, Result.andThen_ok, List.map_toArray, List.map_cons, List.map_nil, hs, hx, hr]
  exact hK _ _ (h A2 cap2 w' h2 h3 h4)
end

end Go.Proofs.Ytgdphdnghackfaa
