/- A scope whose jumps go forward, once: the rule. A row of bytes that comes in. -/
import Derived.Test.YtfogblcjccoeiaaG
import Derived.WalkMore
import Derived.OwnWalk
import Derived.Deep.QuietTactic
import Derived.BigQuiet
import Derived.Deep.RegionHeld3
namespace Go.Proofs.Ytfogblcjccoeiaa
open Go.RowKit

/-- As Q; by a goto: the walk goes on behind the label, and jumps no more. -/
def _root_.Go.Exit.fwd (P : Program) (c : Code) (Q : Exit → Act → World → Prop) : Exit → Act → World → Prop
  | .goto l, a, w => ∃ rest, findLabel c l = some rest ∧ rest.wp P (Exit.noGoto Q) a w
  | e, a, w => Q e a w
section
variable {P : Program} {c : Code} {Q : Exit → Act → World → Prop} {a : Act} {w : World}
@[go_sem] theorem Exit.fwd_normal : Exit.fwd P c Q .normal a w = Q .normal a w := rfl
@[go_sem] theorem Exit.fwd_exit (id : Nat) : Exit.fwd P c Q (.exit id) a w = Q (.exit id) a w := rfl
@[go_sem] theorem Exit.fwd_ret : Exit.fwd P c Q .ret a w = Q .ret a w := rfl
@[go_sem] theorem Exit.fwd_panic (ch : List PanicEntry) : Exit.fwd P c Q (.panic ch) a w = Q (.panic ch) a w := rfl
theorem wp_scope_fwd (h : c.wp P (Exit.fwd P c Q) a w) : (Code.scope c).wp P Q a w := by
  intro b k cs
  obtain ⟨e, a₁, w₁, hq, harr⟩ := h b (.inScope c :: k) cs
  cases e with
  | normal => exact ⟨.normal, a₁, w₁, hq, .head step_scope (Steps.trans harr (.one step_inScope))⟩
  | exit id => exact ⟨.exit id, a₁, w₁, hq, fun k' hk => .head step_scope (harr k' (by simp [exitTo, hk]))⟩
  | goto l =>
    obtain ⟨rest, hf, hr⟩ := hq
    have hg : gotoIn l (.inScope c :: k) = some (.code rest :: .inScope c :: k) := by simp [gotoIn, hf]
    obtain ⟨e, a₂, w₂, hq₂, harr₂⟩ := hr b (.inScope c :: k) cs
    have h0 := harr _ hg
    cases e with
    | normal => exact ⟨.normal, a₂, w₂, hq₂, .head step_scope (Steps.trans h0 (Steps.trans harr₂ (.one step_inScope)))⟩
    | exit id => exact ⟨.exit id, a₂, w₂, hq₂, fun k' hk => .head step_scope (Steps.trans h0 (harr₂ k' (by simp [exitTo, hk])))⟩
    | goto l => exact hq₂.elim
    | ret => exact ⟨_, a₂, w₂, hq₂, .of_steps (.head step_scope h0) harr₂⟩
    | panic ch => exact ⟨_, a₂, w₂, hq₂, .of_steps (.head step_scope h0) harr₂⟩
    | outgrown => exact ⟨_, a₂, w₂, hq₂, .of_steps (.head step_scope h0) harr₂⟩
  | ret => exact ⟨_, a₁, w₁, hq, .of_steps (.one step_scope) harr⟩
  | panic ch => exact ⟨_, a₁, w₁, hq, .of_steps (.one step_scope) harr⟩
  | outgrown => exact ⟨_, a₁, w₁, hq, .of_steps (.one step_scope) harr⟩
end

/-- A byte row that comes in, away from block g. -/
structure Src (w : World) (g : Nat) (A : Option Addr) (n : Nat) (bs : List Nat) : Prop where
  s : Sl w w.heap.size .u8 A n (bs.map Int.ofNat)
  ne : 0 < n → ∀ b o, A = some ⟨b, o, none⟩ → b ≠ g
  lt : ∀ x ∈ bs, x < 256
theorem Src.len {w : World} {g : Nat} {A : Option Addr} {n : Nat} {bs : List Nat} (h : Src w g A n bs) : bs.length = n := by simpa using h.s.1
theorem Src.at {w : World} {g : Nat} {A : Option Addr} {n : Nat} {bs : List Nat} (h : Src w g A n bs) {k : Nat} (hk : k < n) :
    ∃ b o x, A = some ⟨b, o, none⟩ ∧ b ≠ g ∧ b < w.heap.size ∧ x < 256 ∧ bs[k]? = some x ∧ w.cell? ⟨b, o + k, none⟩ = some (.int .u8 x) := by
  obtain ⟨b, o, e, hb, hc⟩ := h.s.2 (by omega)
  have hl := h.len
  obtain ⟨x, hx⟩ : ∃ x, bs[k]? = some x := ⟨_, List.getElem?_eq_getElem (by omega)⟩
  refine ⟨b, o, x, e, h.ne (by omega) b o e, hb, h.lt x (List.mem_of_getElem? hx), hx, ?_⟩
  rw [hc k hk, List.getElem?_map, hx]; rfl
end Go.Proofs.Ytfogblcjccoeiaa
