/- The walk of begin (layer 10): for every byte. -/
import Derived.Test.YtfogblcjccoeiaaF
import Derived.Maps.AppendAt
namespace Go.Proofs.Ytfogblcjccoeiaa
open Go.RowKit

theorem Box.to {W : World} {g : Nat} {t : TypeId} {cs cs' : Array Value} (h : Box W g t cs) (e : cs = cs') : Box W g t cs' := e ▸ h
theorem Box.grown1 {w w' : World} {g h : Nat} {t : TypeId} {cs : Array Value} (hb : Box w h t cs) (k : w.grownBy w' (some g)) (hne : h ≠ g) : Box w' h t cs := hb.grown k (by simp [hne])
theorem gset {a w : World} {g : Nat} (h : a.grownBy w (some g)) (i : Nat) (v : Value) : a.grownBy (w.setCell ⟨g, i, none⟩ v) (some g) := h.trans ⟨rfl, rfl, rfl, by simp [World.setCell], fun k hk hne => Below.heap_setCell w _ v k (fun e => hne (by rw [e]))⟩
structure BeginTo (g x : Nat) (w : World) (e : Ending) (w' : World) : Prop where
  e : e = .returned (.bool (fitB x))
  b : Box w' g 43 (beginD x).cells
  k : w.grownBy w' (some g)

set_option maxRecDepth 100000 in
set_option maxHeartbeats 4000000 in
theorem begin_to (d : D) (g x : Nat) (w : World) (hx : x < 256) (hb : Box w g 43 d.cells) : Calls Try.prog 24 #[.pointer (some ⟨g, 0, none⟩), .int .u8 x] w (BeginTo g x w) := by
  have hb := Kp.mk hb
  have c0 : w.cell? ⟨g, 0, none⟩ = some (.int .i32 d.code) := hb.out.cell 0
  have c1 : w.cell? ⟨g, 1, none⟩ = some (.int .i64 d.had) := hb.out.cell 1
  have c2 : w.cell? ⟨g, 2, none⟩ = some (.int .i64 d.want) := hb.out.cell 2
  have c3 : w.cell? ⟨g, 3, none⟩ = some (.int .u8 d.low) := hb.out.cell 3
  have c4 : w.cell? ⟨g, 4, none⟩ = some (.int .u8 d.high) := hb.out.cell 4
  have f0 := hb.out.frozen 0; have f1 := hb.out.frozen 1; have f2 := hb.out.frozen 2; have f3 := hb.out.frozen 3; have f4 := hb.out.frozen 4
  have hl := hb.out.lt
  have m1 := u8_and31 (x := x) (by omega) (by omega)
  have m2 := u8_and15 (x := x) (by omega) (by omega)
  have m3 := u8_and7 (x := x) (by omega) (by omega)
  go_enter Try.func24, Try.ntmps24
  go_wp2_with fail
  all_goals
    have hb := hb.out
    have kk := World.grownBy.refl w (some g)
    first
    | (have e : fitB x = true := decide_eq_true (by omega)
       refine bodyPost_ret (v := .bool true) (by simp [results, Try.results24, go_sem]) rfl ⟨by rw [e], ?_, ?_⟩)
    | (have e : fitB x = false := decide_eq_false (by omega)
       refine bodyPost_ret (v := .bool false) (by simp [results, Try.results24, go_sem]) rfl ⟨by rw [e], ?_, ?_⟩)
    · apply Box.to
      case h => repeat (first | with_reducible apply Box.put | with_reducible exact hb)
      unfold beginD
      (repeat' split) <;> first | (exfalso; omega) | (exfalso; simp only [beq_iff_eq, beq_eq_false_iff_ne, ne_eq] at *; omega) | simp [D.cells, D.zero]
    · repeat (first | with_reducible apply gset | with_reducible exact kk)
end Go.Proofs.Ytfogblcjccoeiaa
