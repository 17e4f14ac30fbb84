/- The walk of the law TabsAll (layer 16). -/
import Derived.Test.YtnkanohjfanolaaDoorL4b
namespace Go.Proofs.YtnkanohjfanolaaDoor
open Go.RowKit Go.Shelf
attribute [local go_sem] Oper.semAt_some
theorem nonil30 (f : Fn) (a b : Array Value) (w : World) : (binOp .eql 30 (.func f a b) .nilFunc).run Tryd.prog w = .ok (.bool false) w := by
  rfl
set_option maxRecDepth 100000 in
set_option maxHeartbeats 4000000 in
theorem all_in (k : Nat) (hk : 4 ≤ k) (t : T4) (left : Int) (w : World) (ht : t.Ok) (hT : Tab w) :
    CallsIn Fence.wide k Tryd.prog 4 #[.agg #[.int .u64 t.a, .int .u64 t.b, .int .u64 t.c, .int .u64 t.d], .int .i64 left] w fun e w' => e = .returned (.bool true) ∧ Below w.heap.size w w' := by
  have kf := nonil30
  refine callsIn_of_wp_marks Tryd.func4 rfl trivial ?_ rfl
  simp only [Tryd.ntmps4, List.size_toArray, List.length_cons, List.length_nil, Nat.reduceAdd, Nat.reduceSub, Array.replicate_succ, Array.replicate_zero, List.push_toArray, List.append_toArray, List.nil_append, List.cons_append]
  gi_wp2
  have bel0 : Below w.heap.size w (((w.alloc (.cells #[.int .u64 t.a, .int .u64 t.b, .int .u64 t.c, .int .u64 t.d] 24)).alloc (.cells #[.int .i64 left] 3)).alloc (.cells #[.bool false] 4)) := (((Below.refl w.heap.size w).alloc (Nat.le_refl _) _).alloc (by simp) _).alloc (by simp; omega) _
  have A0 : Box (((w.alloc (.cells #[.int .u64 t.a, .int .u64 t.b, .int .u64 t.c, .int .u64 t.d] 24)).alloc (.cells #[.int .i64 left] 3)).alloc (.cells #[.bool false] 4)) w.heap.size 24 #[.int .u64 t.a, .int .u64 t.b, .int .u64 t.c, .int .u64 t.d] := box_old (box_old (Box.new w 24 _) _ _) _ _
  have A1 : Box (((w.alloc (.cells #[.int .u64 t.a, .int .u64 t.b, .int .u64 t.c, .int .u64 t.d] 24)).alloc (.cells #[.int .i64 left] 3)).alloc (.cells #[.bool false] 4)) (w.heap.size + 1) 3 #[.int .i64 left] := box_old (box_new 3 _ (by simp)) _ _
  have A2 : Box (((w.alloc (.cells #[.int .u64 t.a, .int .u64 t.b, .int .u64 t.c, .int .u64 t.d] 24)).alloc (.cells #[.int .i64 left] 3)).alloc (.cells #[.bool false] 4)) (w.heap.size + 2) 4 #[.bool false] := box_new 4 _ (by simp)
  have hT0 := hT.keep bel0 hT.lt
  have hsz : (((w.alloc (.cells #[.int .u64 t.a, .int .u64 t.b, .int .u64 t.c, .int .u64 t.d] 24)).alloc (.cells #[.int .i64 left] 3)).alloc (.cells #[.bool false] 4)).heap.size = w.heap.size + 3 := by simp
  generalize (((w.alloc (.cells #[.int .u64 t.a, .int .u64 t.b, .int .u64 t.c, .int .u64 t.d] 24)).alloc (.cells #[.int .i64 left] 3)).alloc (.cells #[.bool false] 4)) = w0 at *
  refine ⟨trivial, fun h => (by cases h), ?_⟩
  refine callsIn_wide.2 ((known_any _ hT0).mono ?_)
  rintro _ w1 ⟨rfl, H1⟩
  have B0 := A0.keep H1 A0.lt
  have B1 := A1.keep H1 A1.lt
  have B2 := A2.keep H1 A2.lt
  have hT1 := hT0.keep H1 hT0.lt
  have bel1 := bel0.trans (H1.mono bel0.size)
  have hs1 := H1.size
  have x0 : w1.cell? ⟨w.heap.size, 0, none⟩ = some (.int .u64 t.a) := B0.cell 0
  have x1 : w1.cell? ⟨w.heap.size, 1, none⟩ = some (.int .u64 t.b) := B0.cell 1
  have x2 : w1.cell? ⟨w.heap.size, 2, none⟩ = some (.int .u64 t.c) := B0.cell 2
  have x3 : w1.cell? ⟨w.heap.size, 3, none⟩ = some (.int .u64 t.d) := B0.cell 3
  clear A0 A1 A2 H1 hT0 bel0
  gi_wp2
  refine ⟨trivial, fun h => (by cases h), ?_⟩
  refine (All_in t _ _).mono ?_
  rintro _ w2 ⟨rfl, hw2⟩
  have M : AlMem w t left w1.heap.size w2 := by
    rw [hw2]
    exact ⟨B0.alloc _, B1.alloc _, B2.alloc _, Box.new _ _ _, hT1.keep ((Below.refl w1.heap.size w1).alloc (Nat.le_refl _) _) hT1.lt, bel1.alloc bel1.size _⟩
  have hg2 : w2.heap.size = w1.heap.size + 1 := by rw [hw2]; simp
  clear hw2 x0 x1 x2 x3 B0 B1 B2 hT1 bel1
  replace M := Kp.mk M
  gi_wp2
  have M2 : AlMem w t left w1.heap.size (w2.alloc (.cells #[.int .i64 0] 3)) := M.out.keep ((Below.refl _ _).alloc (Nat.le_refl _) _)
  have U2 := Box.new w2 3 #[.int .i64 0]
  have hu : w2.heap.size < (w2.alloc (.cells #[.int .i64 0] 3)).heap.size := by simp
  generalize (w2.alloc (.cells #[.int .i64 0] 3)) = W0 at *
  rw [hg2] at U2 hu
  clear M
  refine wpIn_loop_rounds 3 ?_
  rw [roundsIn_succ]
  have u1 : W0.cell? ⟨w1.heap.size + 1, 0, none⟩ = some (.int .i64 0) := U2.cell 0
  replace M2 := Kp.mk M2
  replace U2 := Kp.mk U2
  gi_wp2
  have bd := (Below.refl W0.heap.size W0).alloc (Nat.le_refl _) (.cells #[.int .i64 (-1)] 3)
  have bd2 := bd.alloc bd.size (.cells #[.int .i64 0] 3)
  have R0 : RgMem w t left w1.heap.size (w1.heap.size + 1) W0.heap.size (W0.heap.size + 1) 0 (-1) 0 ((W0.alloc (.cells #[.int .i64 (-1)] 3)).alloc (.cells #[.int .i64 0] 3)) ((W0.alloc (.cells #[.int .i64 (-1)] 3)).alloc (.cells #[.int .i64 0] 3)) :=
    ⟨M2.out.keep bd2, U2.out.keep bd2 U2.out.lt, box_old (Box.new W0 3 _) _ _, box_new 3 _ (by simp), fun g h => h⟩
  have hsz1 := bd2.size
  generalize ((W0.alloc (.cells #[.int .i64 (-1)] 3)).alloc (.cells #[.int .i64 0] 3)) = W1 at *
  clear M2 U2 bd bd2 u1
  rename_i K hK
  have hgo : ∀ (D : Nat) (V : World) (last cnt : Int), W1.heap.size ≤ D → V.heap[D]? = some (Obj.deferred (some [])) → RgMem w t left w1.heap.size (w1.heap.size + 1) W0.heap.size (W0.heap.size + 1) 0 last cnt W1 V → -1 ≤ last → last < 200 → K { tmps := #[.agg #[.int .u64 t.a, .int .u64 t.b, .int .u64 t.c, .int .u64 t.d], .int .i64 left, .pointer (some ⟨w.heap.size, 0, none⟩), .pointer (some ⟨w.heap.size + 1, 0, none⟩), .pointer (some ⟨w.heap.size + 1 + 1, 0, none⟩), .func (.func 22) #[] #[.pointer (some ⟨w1.heap.size, 0, none⟩)], .pointer (some ⟨w1.heap.size + 1, 0, none⟩), .pointer (some ⟨W0.heap.size, 0, none⟩), .pointer (some ⟨W0.heap.size + 1, 0, none⟩), undef, undef, undef, .bool true, .bool false, .agg #[.int .u64 t.a, .int .u64 t.b, .int .u64 t.c, .int .u64 t.d], .func (.func 22) #[] #[.pointer (some ⟨w1.heap.size, 0, none⟩)], .func (.func 22) #[] #[.pointer (some ⟨w1.heap.size, 0, none⟩)], .bool false, .int .i64 0, .bool true, undef, undef, .func (.func 22) #[] #[.pointer (some ⟨w1.heap.size, 0, none⟩)], undef, undef, undef, undef, undef, undef, undef, undef, undef, undef, undef, undef, undef, undef, undef, undef, undef, undef, undef, undef, undef, undef, undef, undef, undef, undef, undef, undef, undef, undef, undef, undef, undef, undef, undef, undef, undef, undef, undef, undef, undef, undef, undef, undef], defers := [{ target := .collected D, args := #[] }] } V := by
    intro D V last cnt hD hdef R hl1 hl2
    refine hK _ _ ?_
    clear hK
    have c1 : V.cell? ⟨W0.heap.size, 0, none⟩ = some (.int .i64 last) := R.a.cell 0
    have c2 : V.cell? ⟨w1.heap.size + 1, 0, none⟩ = some (.int .i64 0) := R.u.cell 0
    have y1 := IntWalk.i64_in (last + 1) (by omega)
    replace hdef := Kp.mk hdef
    replace R := Kp.mk R
    replace R0 := Kp.mk R0
    gi_wp2
    refine wpIn_loop_rounds 1 ?_
    rw [roundsIn_succ]
    gi_wp2
    rw [roundsIn_succ]
    have hVa := R.out.a.lt
    have hDl := (Array.getElem?_eq_some_iff.1 hdef.out).1
    gi_wp2
    rename_i K2 hK2
    have e1 := (Below.refl V.heap.size V).alloc (Nat.le_refl _) (.cells #[.int .i64 1] 3)
    have e2 := e1.alloc e1.size (.cells #[.int .i64 (-1)] 3)
    have e3 := e2.alloc e2.size (.cells #[.int .i64 0] 3)
    have R2 : RgMem w t left w1.heap.size V.heap.size (V.heap.size + 1) (V.heap.size + 1 + 1) 1 (-1) 0 (((V.alloc (.cells #[.int .i64 1] 3)).alloc (.cells #[.int .i64 (-1)] 3)).alloc (.cells #[.int .i64 0] 3)) (((V.alloc (.cells #[.int .i64 1] 3)).alloc (.cells #[.int .i64 (-1)] 3)).alloc (.cells #[.int .i64 0] 3)) :=
      ⟨R.out.m.keep e3, box_old (box_old (Box.new V 3 _) _ _) _ _, box_old (box_new 3 _ (by simp)) _ _, box_new 3 _ (by simp), fun g h => h⟩
    have hdefD := (e3.block D hDl).trans hdef.out
    have hsz3 := e3.size
    have hwb := R.out.m.bel.size
    generalize (((V.alloc (.cells #[.int .i64 1] 3)).alloc (.cells #[.int .i64 (-1)] 3)).alloc (.cells #[.int .i64 0] 3)) = W2 at *
    clear e1 e2 e3 R0 R c1 c2 y1
    refine range_all k hk t ht left w w1.heap.size V.heap.size (V.heap.size + 1) (V.heap.size + 1 + 1) 1 (.inr rfl) W2 R2 hT.lt (by omega) (by omega) (by omega) (by omega) _ _ _ _ _ _ _ _ _ _ _ _ _ _ _ _ _ _ _ _ _ _ _ _ _ _ _ _ _ _ _ _ _ _ _ _ _ _ _ _ _ _ _ _ _ _ _ _ _ _ _ _ _ _ _ _ _ _ _ _ ?_ (fun h => absurd h (by decide))
    intro D2 V2 hD2 hdef2 R3
    refine hK2 _ _ ?_
    clear hK2
    obtain ⟨q1, q2, q3⟩ := upto_last t 200
    have hdef1 := R3.dk D hdefD
    obtain ⟨ls, hls⟩ : ∃ z, lastI (upto t 200) = z := ⟨_, rfl⟩
    obtain ⟨cn, hcn⟩ : ∃ z : Int, ((upto t 200).length : Int) = z := ⟨_, rfl⟩
    rw [hls] at R3 q1 q2 q3
    rw [hcn] at R3
    have hno : ∀ c : Int, ls < c → isI t c = false := fun c hc => by
      cases hv : isI t c with
      | false => rfl
      | true =>
        obtain ⟨x, rfl, hx1, hx2⟩ := isI_bit hv
        have := q3 x (mem_upto' hx1 hx2)
        omega
    have c1 : V2.cell? ⟨V.heap.size + 1, 0, none⟩ = some (.int .i64 ls) := R3.a.cell 0
    have y1 := IntWalk.i64_in (ls + 1) (by omega)
    clear q3 hls hcn hdef R2 hdefD
    replace hdef1 := Kp.mk hdef1
    replace hdef2 := Kp.mk hdef2
    replace hno := Kp.mk hno
    replace R3 := Kp.mk R3
    gi_wp2
    gi_loopw [11, 55, 56, 57, 58, 59, 60, 61, 62, 63, 64, 65] (fun u11 u55 u56 u57 u58 u59 u60 u61 u62 u63 u64 u65 wr => ∃ c : Int, u11 = .int .i64 c ∧ ls < c ∧ c ≤ 200 ∧ Below V2.heap.size V2 wr ∧ RgMem w t left w1.heap.size V.heap.size (V.heap.size + 1) (V.heap.size + 1 + 1) 1 ls cn W2 wr) (fun u11 u55 u56 u57 u58 u59 u60 u61 u62 u63 u64 u65 _ => (200 - intOf u11).toNat)
    case atStart => exact ⟨ls + 1, rfl, by omega, by omega, Below.refl _ _, R3.out⟩
    case round =>
      obtain ⟨c, rfl, hc1, hc2, kb, Mr⟩ := hrel
      clear c1 y1 R3
      have u1 : wr.cell? ⟨V.heap.size, 0, none⟩ = some (.int .i64 1) := Mr.u.cell 0
      have x0 : wr.cell? ⟨w.heap.size, 0, none⟩ = some (.int .u64 t.a) := Mr.m.bt.cell 0
      have x1 : wr.cell? ⟨w.heap.size, 1, none⟩ = some (.int .u64 t.b) := Mr.m.bt.cell 1
      have x2 : wr.cell? ⟨w.heap.size, 2, none⟩ = some (.int .u64 t.c) := Mr.m.bt.cell 2
      have x3 : wr.cell? ⟨w.heap.size, 3, none⟩ = some (.int .u64 t.d) := Mr.m.bt.cell 3
      by_cases hlt : c < 200
      · have y2 := IntWalk.i64_in (c + 1) (by omega)
        replace kb := Kp.mk kb
        replace Mr := Kp.mk Mr
        gi_wp2
        refine ⟨trivial, fun h => (by cases h), ?_⟩
        refine callsIn_wide.2 ((Is_ref t c _ ht false (hno.out c hc1)).mono ?_)
        rintro _ w5 ⟨rfl, H5⟩
        have M5 := Mr.out.keep H5
        have kb5 := kb.out.trans (H5.mono kb.out.size)
        clear x0 x1 x2 x3 u1 Mr kb H5
        replace M5 := Kp.mk M5
        replace kb5 := Kp.mk kb5
        gi_wp2
        go_roundw
        case rel => exact ⟨c + 1, rfl, by omega, by omega, kb5.out, M5.out⟩
        case measure => simp [intOf]; omega
      · obtain rfl : c = 200 := by omega
        have d1 := (kb.block D (Array.getElem?_eq_some_iff.1 hdef1.out).1).trans hdef1.out
        have d2 := (kb.block D2 (Array.getElem?_eq_some_iff.1 hdef2.out).1).trans hdef2.out
        have d1l := (Array.getElem?_eq_some_iff.1 d1).1
        have d2l := (Array.getElem?_eq_some_iff.1 d2).1
        have M5 := Mr.m.keep ((Below.refl wr.heap.size wr).alloc (Nat.le_refl _) (.cells #[.int .i64 2] 3))
        have r1 : (wr.alloc (.cells #[.int .i64 2] 3)).cell? ⟨w.heap.size + 2, 0, none⟩ = some (.bool false) := M5.br.cell 0
        have fr := M5.br.frozen 0
        have d1 := (Below.heap_alloc wr (.cells #[.int .i64 2] 3) D d1l).trans d1
        have d2 := (Below.heap_alloc wr (.cells #[.int .i64 2] 3) D2 d2l).trans d2
        clear x0 x1 x2 x3 hno hdef1 hdef2 kb Mr
        replace M5 := Kp.mk M5
        replace d1 := Kp.mk d1
        replace d2 := Kp.mk d2
        gi_wp2
        rw [roundsIn_succ]
        gi_wp2
        generalize (wr.alloc (.cells #[.int .i64 2] 3)) = WA at r1 fr M5 d1 d2 ⊢
        have wl := M5.out.br.lt
        have ws := M5.out.bel.size
        have g1 : (WA.setCell ⟨w.heap.size + 2, 0, none⟩ (.bool true)).heap[D]? = some (.deferred (some [])) := (Below.heap_setCell WA ⟨w.heap.size + 2, 0, none⟩ _ D (by simp; omega)).trans d1.out
        have g2 : (WA.setCell ⟨w.heap.size + 2, 0, none⟩ (.bool true)).heap[D2]? = some (.deferred (some [])) := (Below.heap_setCell WA ⟨w.heap.size + 2, 0, none⟩ _ D2 (by simp; omega)).trans d2.out
        have P := M5.out.br.put 0 (.bool true)
        have bel := M5.out.bel.setCell (p := ⟨w.heap.size + 2, 0, none⟩) (show w.heap.size ≤ w.heap.size + 2 by omega) (.bool true)
        refine ⟨by simp, .inl ⟨_, _, rfl, run_takeDeferred g2, ?_⟩⟩
        have q1 := grownBy_putObj' (WA.setCell ⟨w.heap.size + 2, 0, none⟩ (.bool true)) D2 (.deferred none)
        have D1lt := (Array.getElem?_eq_some_iff.1 g1).1
        have g1' := (q1.block D D1lt (fun e => by cases e; omega)).trans g1
        refine ⟨by simp, .inl ⟨_, _, rfl, run_takeDeferred g1', ?_⟩⟩
        have q2 := grownBy_putObj' ((WA.setCell ⟨w.heap.size + 2, 0, none⟩ (.bool true)).putObj D2 (.deferred none)) D (.deferred none)
        have Z1 := P.grown q1 (fun e => by cases e; omega)
        have Z2 := Z1.grown q2 (fun e => by cases e; omega)
        have hb := bel.trans ((belowK_b (w := w) (Nat.le_refl _) _ D2 _ (.deferred none) (by omega) g2 rfl rfl).trans (belowK_b (w := w) (Nat.le_refl _) _ D _ (.deferred none) (by omega) g1' rfl rfl))
        have u := Z2.cell 0
        have u' : (((WA.setCell ⟨w.heap.size + 2, 0, none⟩ (.bool true)).putObj D2 (.deferred none)).putObj D (.deferred none)).cell? ⟨w.heap.size + 1 + 1, 0, none⟩ = some (.bool true) := u
        refine ⟨.bool true, ?_, rfl, hb⟩
        clear u
        simp [results, Tryd.f4, go_sem, u']
  refine range_all k hk t ht left w w1.heap.size (w1.heap.size + 1) W0.heap.size (W0.heap.size + 1) 0 (.inl rfl) W1 R0 hT.lt (by omega) (by omega) (by omega) (by omega) _ _ _ _ _ _ _ _ _ _ _ _ _ _ _ _ _ _ _ _ _ _ _ _ _ _ _ _ _ _ _ _ _ _ _ _ _ _ _ _ _ _ _ _ _ _ _ _ _ _ _ _ _ _ _ _ _ _ _ _ ?_ ?_
  · intro D V hD hdef R
    obtain ⟨q1, q2, q3⟩ := upto_last t 200
    exact hgo D V _ _ hD hdef R q2 (by omega)
  · intro _ D V last cnt hD hdef R h1 h2
    exact hgo D V _ _ hD hdef R h1 h2
theorem all_any (t : T4) (left : Int) (w : World) (ht : t.Ok) (hT : Tab w) :
    Calls Tryd.prog 4 #[.agg #[.int .u64 t.a, .int .u64 t.b, .int .u64 t.c, .int .u64 t.d], .int .i64 left] w fun e w' => e = .returned (.bool true) ∧ Below w.heap.size w w' :=
  (callsIn_wide (n := 4)).1 (all_in 4 (Nat.le_refl _) t left w ht hT)
end Go.Proofs.YtnkanohjfanolaaDoor
