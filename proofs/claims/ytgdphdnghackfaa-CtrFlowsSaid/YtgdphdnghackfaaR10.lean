/- The two drawn regions of turn's inner loop: a byte is turned, the counters rise. -/
import Derived.Test.YtgdphdnghackfaaR9
namespace Go.Proofs.Ytgdphdnghackfaa
open Go.RowKit Go.Shelf
attribute [local go_sem] Oper.semAt_some
section
variable {F : Fence} {nn : Nat} {P : Program} {ops : Array Oper} {Q : Exit → Act → World → Prop} {id : Nat} {a : Act} {w : World} {n : Nat}
theorem ready_low {k : Nat} (hk : k ≤ n) (L : List Bool) (hn : ops.size = n) (hl : L.length = n) (hlow : ((List.range n).all fun i => (ops[i]?.map fun o => o.after.all fun e => !Region.binds .any e || decide (e.on < i)).getD false) = true)
    (he : Region.ready .any ops L.toArray = []) : ∀ i, i < k → L.getD i false = true := by
  induction k with
  | zero => intro i h; omega
  | succ k ih =>
    have ih' := ih (by omega)
    intro i hi
    by_cases hik : i < k
    · exact ih' i hik
    · obtain rfl : i = k := by omega
      cases hv : L.getD i false with
      | true => rfl
      | false =>
        rw [List.all_eq_true] at hlow
        have h1 := hlow i (List.mem_range.2 (by omega))
        have hnot : i ∈ Region.ready .any ops L.toArray := by
          unfold Region.ready
          rw [List.mem_filter, List.mem_range, hn]
          refine ⟨by omega, ?_⟩
          have hlt : i < L.length := by omega
          have hg : L.toArray.getD i true = false := by
            simp only [List.getD_eq_getElem?_getD, List.getElem?_eq_getElem hlt, Option.getD_some] at hv
            simp [hlt, hv]
          rw [hg]
          cases ho : ops[i]? with
          | none => rw [ho] at h1; simp at h1
          | some o =>
            rw [ho] at h1
            simp only [Option.map_some, Option.getD_some, Bool.not_false, Bool.true_and] at h1 ⊢
            rw [Array.all_eq_true_iff_forall_mem] at h1 ⊢
            intro e hm
            have h2 := h1 e hm
            cases hb : Region.binds .any e with
            | false => rfl
            | true =>
              rw [hb] at h2
              simp at h2
              have h3 := ih' e.on h2
              have hlt2 : e.on < L.length := by omega
              simp only [List.getD_eq_getElem?_getD, List.getElem?_eq_getElem hlt2, Option.getD_some] at h3
              simp [hlt2, h3]
        rw [he] at hnot
        simp at hnot
theorem ready_deps {i j : Nat} (L : List Bool) (h : i ∈ Region.ready .any ops L.toArray) (hd : (ops[i]?.map fun o => o.after.any fun e => Region.binds .any e && decide (e.on = j)) = some true) : L.getD j false = true := by
  unfold Region.ready at h
  rw [List.mem_filter] at h
  have h2 := h.2
  rw [Bool.and_eq_true] at h2
  have h3 := h2.2
  cases ho : ops[i]? with
  | none => rw [ho] at hd; simp at hd
  | some o =>
    rw [ho] at hd h3
    simp only [Option.map_some, Option.some.injEq, Array.any_eq_true'] at hd
    obtain ⟨e, hm, he⟩ := hd
    simp only [Option.map_some, Option.getD_some, Array.all_eq_true_iff_forall_mem] at h3
    have h4 := h3 e hm
    rw [Bool.and_eq_true] at he
    rw [he.1] at h4
    obtain rfl : e.on = j := by simpa using he.2
    simpa using h4
theorem wpIn_region_tab (hm : P.follows .mixedOrders = true) (hn : ops.size = n) (deps : List (List Nat))
    (hlow : ((List.range n).all fun i => (ops[i]?.map fun o => o.after.all fun e => !Region.binds .any e || decide (e.on < i)).getD false) = true)
    (hdep : ((List.range n).all fun i => (deps.getD i []).all fun j => (ops[i]?.map fun o => o.after.any fun e => Region.binds .any e && decide (e.on = j)) == some true) = true)
    (Inv : List Bool → Act → World → Prop) (h0 : Inv (List.replicate n false) a { w with drawn := w.drawn + 1 })
    (hstep : ∀ L a w i, L.length = n → i < n → L.getD i true = false → (∀ j ∈ deps.getD i [], L.getD j false = true) → Inv L a w → wpOpIn F nn P ops Q i (Inv (L.set i true)) a w)
    (hend : ∀ L a w, L.length = n → (∀ b ∈ L, b = true) → Inv L a w → Q .normal a w) : (Code.region id ops true).wpIn F nn P Q a w := by
  refine wpIn_region_any hm ?_
  have main : ∀ fuel (L : List Bool) a w, L.length = n → L.count false ≤ fuel → Inv L a w → wpAnyIn F nn P .any ops Q fuel L.toArray a w := by
    have fin : ∀ L : List Bool, L.length = n → Region.ready .any ops L.toArray = [] → ∀ b ∈ L, b = true := by
      intro L hl he b hb
      obtain ⟨i, hi, rfl⟩ := List.getElem_of_mem hb
      have := ready_low (Nat.le_refl n) L hn hl hlow he i (by omega)
      simpa [List.getD_eq_getElem?_getD, List.getElem?_eq_getElem hi] using this
    intro fuel
    induction fuel with
    | zero =>
      intro L a w hl hcount hI
      have hr : Region.ready .any ops L.toArray = [] := by
        rw [List.eq_nil_iff_forall_not_mem]
        intro i hi
        have := (ready_free hn hl hi).2
        have hmem : false ∈ L := List.mem_of_getElem? this
        have := List.count_pos_iff.2 hmem
        omega
      exact ⟨hr, hend L a w hl (fin L hl hr) hI⟩
    | succ fuel ih =>
      intro L a w hl hcount hI
      refine ⟨fun hr => hend L a w hl (fin L hl hr) hI, fun i hi => ?_⟩
      obtain ⟨hin, hfree⟩ := ready_free hn hl hi
      have hlt : i < L.length := by omega
      have hg0 : L.getD i true = false := by simp [List.getD_eq_getElem?_getD, hfree]
      refine wpOpIn_mono (fun a' w' h => ?_) (hstep L a w i hl hin hg0 (fun j hj => ready_deps L hi ?_) hI)
      · rw [List.setIfInBounds_toArray]
        refine ih (L.set i true) a' w' (by rw [List.length_set]; exact hl) ?_ h
        have hg : L[i] = false := by rw [List.getElem?_eq_getElem hlt] at hfree; simpa using hfree
        have := List.count_set (a := true) (b := false) hlt
        rw [hg] at this
        simp at this
        have hmem : false ∈ L := List.mem_of_getElem? hfree
        have := List.count_pos_iff.2 hmem
        omega
      · rw [List.all_eq_true] at hdep
        have h1 := hdep i (List.mem_range.2 hin)
        rw [List.all_eq_true] at h1
        simpa using h1 j hj
  have := main ops.size (List.replicate n false) a { w with drawn := w.drawn + 1 } (by simp) (by rw [hn]; exact Nat.le_trans List.count_le_length (by simp)) h0
  simpa [hn] using this
end
theorem store_run {P : Program} {w w' : World} (ev : Operand → Value) (t : TypeId) (p v : Operand) (o : Oper) (ho : o.op = .store t p v) (h : (Instr.storeAt t (ev p) (ev v)).run P w = .ok () w') : (execOp ev o).run P w = .ok .skip w' := by
  unfold execOp
  rw [ho]
  simp only [Sem.run_bind, h, Result.andThen_ok, Sem.run_pure]
theorem ld25 {W : World} {g : Nat} {v : Value} (h : Box W g 25 #[v]) : (Instr.loadAt 25 (.pointer (some ⟨g, 0, none⟩))).run Try.prog W = .ok v W := by
  have c := h.cell 0
  have c' : W.cell? ⟨g, 0, none⟩ = some v := c
  clear c
  go_simp
theorem ld5 {W : World} {g i : Nat} {v : Value} (c' : W.cell? ⟨g, i, none⟩ = some v) : (Instr.loadAt 5 (.pointer (some ⟨g, i, none⟩))).run Try.prog W = .ok v W := by
  go_simp
theorem ix25 {W : World} {b o i n cap : Nat} (hi : i < n) : (Instr.indexAt 25 (.slice (some ⟨b, o, none⟩) n cap) (.int .i64 (i : Nat))).run Try.prog W = .ok (.pointer (some ⟨b, o + i, none⟩)) W := by
  have h1 : (i : Int) < (n : Int) := by omega
  go_simp
theorem ix22 {W : World} {g i : Nat} (hi : i < 16) : (Instr.indexAt 22 (.pointer (some ⟨g, 0, none⟩)) (.int .i64 (i : Nat))).run Try.prog W = .ok (.pointer (some ⟨g, i, none⟩)) W := by
  have h1 : (i : Int) < 16 := by omega
  go_simp
theorem exec_index {P : Program} {A : Act} {o : Oper} {x y : Operand} {t : TypeId} {W : World} {v vx vy : Value} (ho : o.op = .indexAddr t x y) (hx : A.eval x = vx) (hy : A.eval y = vy) (h : (Instr.indexAt t vx vy).run P W = .ok v W) : (execOp A.eval o).run P W = .ok (.value v) W := by
  unfold execOp
  simp only [ho, hx, hy, Sem.run_bind, h, Result.andThen_ok, Sem.run_pure]
theorem exec_xor5 {A : Act} {o : Oper} {x y : Operand} {z : TypeId} {W : World} {p q : Nat} (ho : o.op = .binOp .xor 5 x y z) (hx : A.eval x = .int .u8 (p : Nat)) (hy : A.eval y = .int .u8 (q : Nat)) (hp : p < 256) (hq : q < 256) : (execOp A.eval o).run Try.prog W = .ok (.value (.int .u8 (p ^^^ q : Nat))) W := by
  unfold execOp
  rw [ho]
  simp only [hx, hy]
  go_simp
  exact xor_u8 hp hq
theorem st5' {W : World} {g i v : Nat} {l : List Nat} (h : Arr W g 5 l) (hi : i < l.length) : (Instr.storeAt 5 (.pointer (some ⟨g, 0 + i, none⟩)) (.int .u8 (v : Nat))).run Try.prog W = .ok () (W.setRow g (u8s (l.set i v))) := by
  rw [Nat.zero_add]
  have c' := h.cell i hi
  have fr := h.frozen i
  go_simp
  rw [← u8s_set]
  exact setCell_eq_setRow W g i (u8s l) 5 (0, 0) (.int .u8 (v : Nat)) h
def reg7Deps : List (List Nat) := [[], [], [], [], [2, 3], [4], [], [6], [7], [5, 8], [0, 1], [0, 1, 2, 3, 4, 5, 6, 7, 8, 9, 10]]
set_option maxRecDepth 100000 in
set_option maxHeartbeats 1000000 in
theorem reg7 {F : Fence} {nn : Nat} {Q : Exit → Act → World → Prop} {w : World} {n cap g b o p q : Nat} {zs : List Int} {s : TrSt} {W : World} (T : TnMem w (some ⟨b, o, none⟩) n cap zs s W.drew) (hi : s.i < n) (hpos : s.pos < 16) (hlen : s.out.length = n) (hp : W.drew.cell? ⟨b, o + s.i, none⟩ = some (.int .u8 (p : Nat))) (hq : W.drew.cell? ⟨g, s.pos, none⟩ = some (.int .u8 (q : Nat))) (hpl : p < 256) (hql : q < 256) (v0 v1 v2 v3 v4 v6 v10 v12 v13 v14 v15 v16 v17 v18 v19 v20 v21 v22 v23 v24 v25 v26 v27 v28 v29 v30 v31 v32 v33 v34 v35 v36 v37 v38 v39 v40 v41 v42 v43 v44 v45 v46 v47 v48 v49 v50 : Value)
    (hQ : Q .normal ⟨#[v0, v1, v2, v3, v4, .pointer (some ⟨w.heap.size, 0, none⟩), v6, .pointer (some ⟨w.heap.size + 1 + 1, 0, none⟩), .pointer (some ⟨w.heap.size + 1 + 1 + 1, 0, none⟩), .pointer (some ⟨w.heap.size + 1 + 1 + 1 + 1, 0, none⟩), v10, .pointer (some ⟨g, 0, none⟩), v12, v13, v14, v15, v16, v17, v18, v19, v20, v21, v22, v23, v24, v25, v26, v27, v28, v29, v30, v31, v32, v33, v34, v35, v36, v37, v38, .slice (some ⟨w.heap.size + 1, 0, none⟩) n n, .int .i64 (s.i : Nat), .slice (some ⟨b, o, none⟩) n cap, .int .i64 (s.i : Nat), .pointer (some ⟨b, o + s.i, none⟩), .int .u8 (p : Nat), .int .i64 (s.pos : Nat), .pointer (some ⟨g, s.pos, none⟩), .int .u8 (q : Nat), .int .u8 (p ^^^ q : Nat), .pointer (some ⟨w.heap.size + 1, 0 + s.i, none⟩), v50], []⟩ (W.drew.setRow (w.heap.size + 1) (u8s (s.out.set s.i (p ^^^ q)))))
    : (Code.region 7 #[{ dst := some 39, op := Op.load 25 (Operand.tmp 7), type := 25, pos := "ctr.go:29", after := #[], guard := none }, { dst := some 40, op := Op.load 3 (Operand.tmp 8), type := 3, pos := "ctr.go:29", after := #[], guard := none }, { dst := some 41, op := Op.load 25 (Operand.tmp 5), type := 25, pos := "ctr.go:29", after := #[], guard := none }, { dst := some 42, op := Op.load 3 (Operand.tmp 8), type := 3, pos := "ctr.go:29", after := #[], guard := none }, { dst := some 43, op := Op.indexAddr 25 (Operand.tmp 41) (Operand.tmp 42), type := 0, pos := "ctr.go:29", after := #[{ on := 2, ground := Ground.data }, { on := 3, ground := Ground.data }], guard := none }, { dst := some 44, op := Op.load 5 (Operand.tmp 43), type := 5, pos := "ctr.go:29", after := #[{ on := 4, ground := Ground.data }], guard := none }, { dst := some 45, op := Op.load 3 (Operand.tmp 9), type := 3, pos := "ctr.go:29", after := #[], guard := none }, { dst := some 46, op := Op.indexAddr 22 (Operand.tmp 11) (Operand.tmp 45), type := 0, pos := "ctr.go:29", after := #[{ on := 6, ground := Ground.data }], guard := none }, { dst := some 47, op := Op.load 5 (Operand.tmp 46), type := 5, pos := "ctr.go:29", after := #[{ on := 7, ground := Ground.data }], guard := none }, { dst := some 48, op := Op.binOp BinOp.xor 5 (Operand.tmp 44) (Operand.tmp 47) 5, type := 5, pos := "ctr.go:29", after := #[{ on := 5, ground := Ground.data }, { on := 8, ground := Ground.data }], guard := none }, { dst := some 49, op := Op.indexAddr 25 (Operand.tmp 39) (Operand.tmp 40), type := 0, pos := "ctr.go:29", after := #[{ on := 0, ground := Ground.data }, { on := 1, ground := Ground.data }, { on := 0, ground := Ground.phase }, { on := 1, ground := Ground.phase }, { on := 2, ground := Ground.phase }, { on := 3, ground := Ground.phase }, { on := 4, ground := Ground.phase }, { on := 5, ground := Ground.phase }, { on := 6, ground := Ground.phase }, { on := 7, ground := Ground.phase }, { on := 8, ground := Ground.phase }, { on := 9, ground := Ground.phase }], guard := none }, { dst := none, op := Op.store 5 (Operand.tmp 49) (Operand.tmp 48), type := 0, pos := "ctr.go:29", after := #[{ on := 10, ground := Ground.data }, { on := 9, ground := Ground.data }, { on := 0, ground := Ground.phase }, { on := 1, ground := Ground.phase }, { on := 2, ground := Ground.phase }, { on := 3, ground := Ground.phase }, { on := 4, ground := Ground.phase }, { on := 5, ground := Ground.phase }, { on := 6, ground := Ground.phase }, { on := 7, ground := Ground.phase }, { on := 8, ground := Ground.phase }, { on := 9, ground := Ground.phase }], guard := none }] true).wpIn F nn Try.prog Q ⟨#[v0, v1, v2, v3, v4, .pointer (some ⟨w.heap.size, 0, none⟩), v6, .pointer (some ⟨w.heap.size + 1 + 1, 0, none⟩), .pointer (some ⟨w.heap.size + 1 + 1 + 1, 0, none⟩), .pointer (some ⟨w.heap.size + 1 + 1 + 1 + 1, 0, none⟩), v10, .pointer (some ⟨g, 0, none⟩), v12, v13, v14, v15, v16, v17, v18, v19, v20, v21, v22, v23, v24, v25, v26, v27, v28, v29, v30, v31, v32, v33, v34, v35, v36, v37, v38, v39, v40, v41, v42, v43, v44, v45, v46, v47, v48, v49, v50], []⟩ W := by
  refine wpIn_region_tab (n := 12) (by kernel_rfl) rfl reg7Deps (by kernel_rfl) (by kernel_rfl)
    (fun L A X => ∃ b0 b1 b2 b3 b4 b5 b6 b7 b8 b9 b10 b11 : Bool, L = [b0, b1, b2, b3, b4, b5, b6, b7, b8, b9, b10, b11] ∧ A = ⟨#[v0, v1, v2, v3, v4, .pointer (some ⟨w.heap.size, 0, none⟩), v6, .pointer (some ⟨w.heap.size + 1 + 1, 0, none⟩), .pointer (some ⟨w.heap.size + 1 + 1 + 1, 0, none⟩), .pointer (some ⟨w.heap.size + 1 + 1 + 1 + 1, 0, none⟩), v10, .pointer (some ⟨g, 0, none⟩), v12, v13, v14, v15, v16, v17, v18, v19, v20, v21, v22, v23, v24, v25, v26, v27, v28, v29, v30, v31, v32, v33, v34, v35, v36, v37, v38, (bif b0 then .slice (some ⟨w.heap.size + 1, 0, none⟩) n n else v39), (bif b1 then .int .i64 (s.i : Nat) else v40), (bif b2 then .slice (some ⟨b, o, none⟩) n cap else v41), (bif b3 then .int .i64 (s.i : Nat) else v42), (bif b4 then .pointer (some ⟨b, o + s.i, none⟩) else v43), (bif b5 then .int .u8 (p : Nat) else v44), (bif b6 then .int .i64 (s.pos : Nat) else v45), (bif b7 then .pointer (some ⟨g, s.pos, none⟩) else v46), (bif b8 then .int .u8 (q : Nat) else v47), (bif b9 then .int .u8 (p ^^^ q : Nat) else v48), (bif b10 then .pointer (some ⟨w.heap.size + 1, 0 + s.i, none⟩) else v49), v50], []⟩ ∧ X = (bif b11 then W.drew.setRow (w.heap.size + 1) (u8s (s.out.set s.i (p ^^^ q))) else W.drew) ∧ (b11 = true → b0 = true) ∧ (b11 = true → b1 = true) ∧ (b11 = true → b2 = true) ∧ (b11 = true → b3 = true) ∧ (b11 = true → b4 = true) ∧ (b11 = true → b5 = true) ∧ (b11 = true → b6 = true) ∧ (b11 = true → b7 = true) ∧ (b11 = true → b8 = true) ∧ (b11 = true → b9 = true) ∧ (b11 = true → b10 = true)) ?_ ?_ ?_
  · exact ⟨false, false, false, false, false, false, false, false, false, false, false, false, rfl, rfl, rfl, nofun, nofun, nofun, nofun, nofun, nofun, nofun, nofun, nofun, nofun, nofun⟩
  · intro L A X jx _ hj hfr hdp hI
    obtain ⟨b0, b1, b2, b3, b4, b5, b6, b7, b8, b9, b10, b11, rfl, rfl, rfl, c11_0, c11_1, c11_2, c11_3, c11_4, c11_5, c11_6, c11_7, c11_8, c11_9, c11_10⟩ := hI
    match jx, hj with
    | 0, _ =>
      obtain rfl : b0 = false := hfr
      obtain rfl : b11 = false := by cases hb : b11 with | false => rfl | true => exact absurd (c11_0 hb) (by decide)
      refine wpOpIn_of rfl (by rfl) (opIn_pure' nofun nofun (v := .slice (some ⟨w.heap.size + 1, 0, none⟩) n n) (exec_load rfl (x := .tmp 7) rfl (ld25 T.sl)) ?_)
      exact ⟨true, b1, b2, b3, b4, b5, b6, b7, b8, b9, b10, false, rfl, rfl, rfl, fun _ => rfl, nofun, nofun, nofun, nofun, nofun, nofun, nofun, nofun, nofun, nofun⟩
    | 1, _ =>
      obtain rfl : b1 = false := hfr
      obtain rfl : b11 = false := by cases hb : b11 with | false => rfl | true => exact absurd (c11_1 hb) (by decide)
      refine wpOpIn_of rfl (by rfl) (opIn_pure' nofun nofun (v := .int .i64 (s.i : Nat)) (exec_load rfl (x := .tmp 8) rfl (ld3 T.i)) ?_)
      exact ⟨b0, true, b2, b3, b4, b5, b6, b7, b8, b9, b10, false, rfl, rfl, rfl, nofun, fun _ => rfl, nofun, nofun, nofun, nofun, nofun, nofun, nofun, nofun, nofun⟩
    | 2, _ =>
      obtain rfl : b2 = false := hfr
      obtain rfl : b11 = false := by cases hb : b11 with | false => rfl | true => exact absurd (c11_2 hb) (by decide)
      refine wpOpIn_of rfl (by rfl) (opIn_pure' nofun nofun (v := .slice (some ⟨b, o, none⟩) n cap) (exec_load rfl (x := .tmp 5) rfl (ld25 T.t)) ?_)
      exact ⟨b0, b1, true, b3, b4, b5, b6, b7, b8, b9, b10, false, rfl, rfl, rfl, nofun, nofun, fun _ => rfl, nofun, nofun, nofun, nofun, nofun, nofun, nofun, nofun⟩
    | 3, _ =>
      obtain rfl : b3 = false := hfr
      obtain rfl : b11 = false := by cases hb : b11 with | false => rfl | true => exact absurd (c11_3 hb) (by decide)
      refine wpOpIn_of rfl (by rfl) (opIn_pure' nofun nofun (v := .int .i64 (s.i : Nat)) (exec_load rfl (x := .tmp 8) rfl (ld3 T.i)) ?_)
      exact ⟨b0, b1, b2, true, b4, b5, b6, b7, b8, b9, b10, false, rfl, rfl, rfl, nofun, nofun, nofun, fun _ => rfl, nofun, nofun, nofun, nofun, nofun, nofun, nofun⟩
    | 4, _ =>
      obtain rfl : b4 = false := hfr
      obtain rfl : b2 = true := hdp 2 (by decide)
      obtain rfl : b3 = true := hdp 3 (by decide)
      obtain rfl : b11 = false := by cases hb : b11 with | false => rfl | true => exact absurd (c11_4 hb) (by decide)
      refine wpOpIn_of rfl (by rfl) (opIn_pure' nofun nofun (v := .pointer (some ⟨b, o + s.i, none⟩)) (exec_index rfl (x := .tmp 41) (y := .tmp 42) rfl rfl (ix25 hi)) ?_)
      exact ⟨b0, b1, true, true, true, b5, b6, b7, b8, b9, b10, false, rfl, rfl, rfl, nofun, nofun, fun _ => rfl, fun _ => rfl, fun _ => rfl, nofun, nofun, nofun, nofun, nofun, nofun⟩
    | 5, _ =>
      obtain rfl : b5 = false := hfr
      obtain rfl : b4 = true := hdp 4 (by decide)
      obtain rfl : b11 = false := by cases hb : b11 with | false => rfl | true => exact absurd (c11_5 hb) (by decide)
      refine wpOpIn_of rfl (by rfl) (opIn_pure' nofun nofun (v := .int .u8 (p : Nat)) (exec_load rfl (x := .tmp 43) rfl (ld5 hp)) ?_)
      exact ⟨b0, b1, b2, b3, true, true, b6, b7, b8, b9, b10, false, rfl, rfl, rfl, nofun, nofun, nofun, nofun, fun _ => rfl, fun _ => rfl, nofun, nofun, nofun, nofun, nofun⟩
    | 6, _ =>
      obtain rfl : b6 = false := hfr
      obtain rfl : b11 = false := by cases hb : b11 with | false => rfl | true => exact absurd (c11_6 hb) (by decide)
      refine wpOpIn_of rfl (by rfl) (opIn_pure' nofun nofun (v := .int .i64 (s.pos : Nat)) (exec_load rfl (x := .tmp 9) rfl (ld3 T.p)) ?_)
      exact ⟨b0, b1, b2, b3, b4, b5, true, b7, b8, b9, b10, false, rfl, rfl, rfl, nofun, nofun, nofun, nofun, nofun, nofun, fun _ => rfl, nofun, nofun, nofun, nofun⟩
    | 7, _ =>
      obtain rfl : b7 = false := hfr
      obtain rfl : b6 = true := hdp 6 (by decide)
      obtain rfl : b11 = false := by cases hb : b11 with | false => rfl | true => exact absurd (c11_7 hb) (by decide)
      refine wpOpIn_of rfl (by rfl) (opIn_pure' nofun nofun (v := .pointer (some ⟨g, s.pos, none⟩)) (exec_index rfl (x := .tmp 11) (y := .tmp 45) rfl rfl (ix22 hpos)) ?_)
      exact ⟨b0, b1, b2, b3, b4, b5, true, true, b8, b9, b10, false, rfl, rfl, rfl, nofun, nofun, nofun, nofun, nofun, nofun, fun _ => rfl, fun _ => rfl, nofun, nofun, nofun⟩
    | 8, _ =>
      obtain rfl : b8 = false := hfr
      obtain rfl : b7 = true := hdp 7 (by decide)
      obtain rfl : b11 = false := by cases hb : b11 with | false => rfl | true => exact absurd (c11_8 hb) (by decide)
      refine wpOpIn_of rfl (by rfl) (opIn_pure' nofun nofun (v := .int .u8 (q : Nat)) (exec_load rfl (x := .tmp 46) rfl (ld5 hq)) ?_)
      exact ⟨b0, b1, b2, b3, b4, b5, b6, true, true, b9, b10, false, rfl, rfl, rfl, nofun, nofun, nofun, nofun, nofun, nofun, nofun, fun _ => rfl, fun _ => rfl, nofun, nofun⟩
    | 9, _ =>
      obtain rfl : b9 = false := hfr
      obtain rfl : b5 = true := hdp 5 (by decide)
      obtain rfl : b8 = true := hdp 8 (by decide)
      obtain rfl : b11 = false := by cases hb : b11 with | false => rfl | true => exact absurd (c11_9 hb) (by decide)
      refine wpOpIn_of rfl (by rfl) (opIn_pure' nofun nofun (v := .int .u8 (p ^^^ q : Nat)) (exec_xor5 rfl (x := .tmp 44) (y := .tmp 47) rfl rfl hpl hql) ?_)
      exact ⟨b0, b1, b2, b3, b4, true, b6, b7, true, true, b10, false, rfl, rfl, rfl, nofun, nofun, nofun, nofun, nofun, fun _ => rfl, nofun, nofun, fun _ => rfl, fun _ => rfl, nofun⟩
    | 10, _ =>
      obtain rfl : b10 = false := hfr
      obtain rfl : b0 = true := hdp 0 (by decide)
      obtain rfl : b1 = true := hdp 1 (by decide)
      obtain rfl : b11 = false := by cases hb : b11 with | false => rfl | true => exact absurd (c11_10 hb) (by decide)
      refine wpOpIn_of rfl (by rfl) (opIn_pure' nofun nofun (v := .pointer (some ⟨w.heap.size + 1, 0 + s.i, none⟩)) (exec_index rfl (x := .tmp 39) (y := .tmp 40) rfl rfl (ix25 hi)) ?_)
      exact ⟨true, true, b2, b3, b4, b5, b6, b7, b8, b9, true, false, rfl, rfl, rfl, fun _ => rfl, fun _ => rfl, nofun, nofun, nofun, nofun, nofun, nofun, nofun, nofun, fun _ => rfl⟩
    | 11, _ =>
      obtain rfl : b11 = false := hfr
      obtain rfl : b0 = true := hdp 0 (by decide)
      obtain rfl : b1 = true := hdp 1 (by decide)
      obtain rfl : b2 = true := hdp 2 (by decide)
      obtain rfl : b3 = true := hdp 3 (by decide)
      obtain rfl : b4 = true := hdp 4 (by decide)
      obtain rfl : b5 = true := hdp 5 (by decide)
      obtain rfl : b6 = true := hdp 6 (by decide)
      obtain rfl : b7 = true := hdp 7 (by decide)
      obtain rfl : b8 = true := hdp 8 (by decide)
      obtain rfl : b9 = true := hdp 9 (by decide)
      obtain rfl : b10 = true := hdp 10 (by decide)
      refine wpOpIn_of rfl (by rfl) (opIn_skip' nofun nofun (w' := W.drew.setRow (w.heap.size + 1) (u8s (s.out.set s.i (p ^^^ q)))) (store_run _ 5 (.tmp 49) (.tmp 48) _ rfl (st5' T.o (by omega))) ?_)
      exact ⟨true, true, true, true, true, true, true, true, true, true, true, true, rfl, rfl, rfl, fun _ => rfl, fun _ => rfl, fun _ => rfl, fun _ => rfl, fun _ => rfl, fun _ => rfl, fun _ => rfl, fun _ => rfl, fun _ => rfl, fun _ => rfl, fun _ => rfl⟩
    | q + 12, h => omega
  · intro L A X _ hall hI
    obtain ⟨b0, b1, b2, b3, b4, b5, b6, b7, b8, b9, b10, b11, rfl, rfl, rfl, -, -, -, -, -, -, -, -, -, -, -⟩ := hI
    simp at hall
    obtain ⟨rfl, rfl, rfl, rfl, rfl, rfl, rfl, rfl, rfl, rfl, rfl, rfl⟩ := hall
    exact hQ
def reg6Deps : List (List Nat) := [[], [0], [], [2], [0, 1], [0, 1, 2, 3, 4]]
set_option maxRecDepth 100000 in
set_option maxHeartbeats 1000000 in
theorem reg6 {F : Fence} {nn : Nat} {Q : Exit → Act → World → Prop} {w : World} {A : Option Addr} {n cap : Nat} {zs : List Int} {s : TrSt} {W : World} (T : TnMem w A n cap zs s W.drew) (hi : s.i < 1100000) (hpos : s.pos < 16) (v0 v1 v2 v3 v4 v5 v6 v7 v10 v11 v12 v13 v14 v15 v16 v17 v18 v19 v20 v21 v22 v23 v24 v25 v26 v27 v28 v29 v30 v31 v32 v33 v34 v35 v36 v37 v38 v39 v40 v41 v42 v43 v44 v45 v46 v47 v48 v49 v50 : Value)
    (hQ : Q .normal ⟨#[v0, v1, v2, v3, v4, v5, v6, v7, .pointer (some ⟨w.heap.size + 1 + 1 + 1, 0, none⟩), .pointer (some ⟨w.heap.size + 1 + 1 + 1 + 1, 0, none⟩), v10, v11, v12, v13, v14, v15, v16, v17, v18, v19, v20, v21, v22, v23, v24, v25, v26, v27, v28, v29, v30, v31, v32, v33, v34, .int .i64 (s.i : Nat), .int .i64 (s.i + 1 : Nat), .int .i64 (s.pos : Nat), .int .i64 (s.pos + 1 : Nat), v39, v40, v41, v42, v43, v44, v45, v46, v47, v48, v49, v50], []⟩ ((W.drew.setRow (w.heap.size + 3) #[.int .i64 (s.i + 1 : Nat)]).setRow (w.heap.size + 4) #[.int .i64 (s.pos + 1 : Nat)]))
    : (Code.region 6 #[{ dst := some 35, op := Op.load 3 (Operand.tmp 8), type := 3, pos := "ctr.go:28", after := #[], guard := none }, { dst := some 36, op := Op.binOp BinOp.add 3 (Operand.tmp 35) (Operand.const (Value.int IntKind.i64 1)) 3, type := 3, pos := "ctr.go:28", after := #[{ on := 0, ground := Ground.data }], guard := none }, { dst := some 37, op := Op.load 3 (Operand.tmp 9), type := 3, pos := "ctr.go:28", after := #[], guard := none }, { dst := some 38, op := Op.binOp BinOp.add 3 (Operand.tmp 37) (Operand.const (Value.int IntKind.i64 1)) 3, type := 3, pos := "ctr.go:28", after := #[{ on := 2, ground := Ground.data }], guard := none }, { dst := none, op := Op.store 3 (Operand.tmp 8) (Operand.tmp 36), type := 0, pos := "ctr.go:28", after := #[{ on := 1, ground := Ground.data }, { on := 0, ground := Ground.phase }, { on := 1, ground := Ground.phase }, { on := 2, ground := Ground.textOnly Departure.inlinedCapture }, { on := 3, ground := Ground.textOnly Departure.inlinedCapture }], guard := none }, { dst := none, op := Op.store 3 (Operand.tmp 9) (Operand.tmp 38), type := 0, pos := "ctr.go:28", after := #[{ on := 3, ground := Ground.data }, { on := 4, ground := Ground.chain }, { on := 0, ground := Ground.phase }, { on := 1, ground := Ground.phase }, { on := 2, ground := Ground.phase }, { on := 3, ground := Ground.phase }, { on := 4, ground := Ground.phase }], guard := none }] true).wpIn F nn Try.prog Q ⟨#[v0, v1, v2, v3, v4, v5, v6, v7, .pointer (some ⟨w.heap.size + 1 + 1 + 1, 0, none⟩), .pointer (some ⟨w.heap.size + 1 + 1 + 1 + 1, 0, none⟩), v10, v11, v12, v13, v14, v15, v16, v17, v18, v19, v20, v21, v22, v23, v24, v25, v26, v27, v28, v29, v30, v31, v32, v33, v34, v35, v36, v37, v38, v39, v40, v41, v42, v43, v44, v45, v46, v47, v48, v49, v50], []⟩ W := by
  refine wpIn_region_tab (n := 6) (by kernel_rfl) rfl reg6Deps (by kernel_rfl) (by kernel_rfl)
    (fun L A X => ∃ b0 b1 b2 b3 b4 b5 : Bool, L = [b0, b1, b2, b3, b4, b5] ∧ A = ⟨#[v0, v1, v2, v3, v4, v5, v6, v7, .pointer (some ⟨w.heap.size + 1 + 1 + 1, 0, none⟩), .pointer (some ⟨w.heap.size + 1 + 1 + 1 + 1, 0, none⟩), v10, v11, v12, v13, v14, v15, v16, v17, v18, v19, v20, v21, v22, v23, v24, v25, v26, v27, v28, v29, v30, v31, v32, v33, v34, (bif b0 then .int .i64 (s.i : Nat) else v35), (bif b1 then .int .i64 (s.i + 1 : Nat) else v36), (bif b2 then .int .i64 (s.pos : Nat) else v37), (bif b3 then .int .i64 (s.pos + 1 : Nat) else v38), v39, v40, v41, v42, v43, v44, v45, v46, v47, v48, v49, v50], []⟩ ∧ X = (bif b5 then (W.drew.setRow (w.heap.size + 3) #[.int .i64 (s.i + 1 : Nat)]).setRow (w.heap.size + 4) #[.int .i64 (s.pos + 1 : Nat)] else bif b4 then W.drew.setRow (w.heap.size + 3) #[.int .i64 (s.i + 1 : Nat)] else W.drew) ∧ (b5 = true → b0 = true) ∧ (b5 = true → b1 = true) ∧ (b5 = true → b3 = true) ∧ (b5 = true → b2 = true) ∧ (b5 = true → b4 = true) ∧ (b4 = true → b0 = true) ∧ (b4 = true → b1 = true) ∧ (b1 = true → b0 = true) ∧ (b3 = true → b2 = true)) ?_ ?_ ?_
  · exact ⟨false, false, false, false, false, false, rfl, rfl, rfl, nofun, nofun, nofun, nofun, nofun, nofun, nofun, nofun, nofun⟩
  · intro L A X jx _ hj hfr hdp hI
    obtain ⟨b0, b1, b2, b3, b4, b5, rfl, rfl, rfl, c5_0, c5_1, c5_3, c5_2, c5_4, c4_0, c4_1, c1_0, c3_2⟩ := hI
    match jx, hj with
    | 0, _ =>
      obtain rfl : b0 = false := hfr
      obtain rfl : b5 = false := by cases hb : b5 with | false => rfl | true => exact absurd (c5_0 hb) (by decide)
      obtain rfl : b4 = false := by cases hb : b4 with | false => rfl | true => exact absurd (c4_0 hb) (by decide)
      obtain rfl : b1 = false := by cases hb : b1 with | false => rfl | true => exact absurd (c1_0 hb) (by decide)
      refine wpOpIn_of rfl (by rfl) (opIn_pure' nofun nofun (v := .int .i64 (s.i : Nat)) (exec_load rfl (x := .tmp 8) rfl (ld3 T.i)) ?_)
      exact ⟨true, false, b2, b3, false, false, rfl, rfl, rfl, fun _ => rfl, nofun, nofun, nofun, nofun, fun _ => rfl, nofun, fun _ => rfl, c3_2⟩
    | 1, _ =>
      obtain rfl : b1 = false := hfr
      obtain rfl : b0 = true := hdp 0 (by decide)
      obtain rfl : b5 = false := by cases hb : b5 with | false => rfl | true => exact absurd (c5_1 hb) (by decide)
      obtain rfl : b4 = false := by cases hb : b4 with | false => rfl | true => exact absurd (c4_1 hb) (by decide)
      refine wpOpIn_of rfl (by rfl) (opIn_pure' nofun nofun (v := .int .i64 (s.i + 1 : Nat)) (exec_add rfl (x := .tmp 35) (y := .const (.int .i64 1)) (p := s.i) (q := 1) rfl rfl (by omega)) ?_)
      exact ⟨true, true, b2, b3, false, false, rfl, rfl, rfl, fun _ => rfl, fun _ => rfl, nofun, nofun, nofun, fun _ => rfl, fun _ => rfl, fun _ => rfl, c3_2⟩
    | 2, _ =>
      obtain rfl : b2 = false := hfr
      obtain rfl : b5 = false := by cases hb : b5 with | false => rfl | true => exact absurd (c5_2 hb) (by decide)
      obtain rfl : b3 = false := by cases hb : b3 with | false => rfl | true => exact absurd (c3_2 hb) (by decide)
      cases b4 with
      | false =>
        refine wpOpIn_of rfl (by rfl) (opIn_pure' nofun nofun (v := .int .i64 (s.pos : Nat)) (exec_load rfl (x := .tmp 9) rfl (ld3 T.p)) ?_)
        exact ⟨b0, b1, true, false, false, false, rfl, rfl, rfl, nofun, nofun, nofun, nofun, nofun, nofun, nofun, c1_0, fun _ => rfl⟩
      | true =>
        refine wpOpIn_of rfl (by rfl) (opIn_pure' nofun nofun (v := .int .i64 (s.pos : Nat)) (exec_load rfl (x := .tmp 9) rfl (ld3 (T.put_i (s.i + 1)).p)) ?_)
        exact ⟨b0, b1, true, false, true, false, rfl, rfl, rfl, nofun, nofun, nofun, nofun, nofun, c4_0, c4_1, c1_0, fun _ => rfl⟩
    | 3, _ =>
      obtain rfl : b3 = false := hfr
      obtain rfl : b2 = true := hdp 2 (by decide)
      obtain rfl : b5 = false := by cases hb : b5 with | false => rfl | true => exact absurd (c5_3 hb) (by decide)
      refine wpOpIn_of rfl (by rfl) (opIn_pure' nofun nofun (v := .int .i64 (s.pos + 1 : Nat)) (exec_add rfl (x := .tmp 37) (y := .const (.int .i64 1)) (p := s.pos) (q := 1) rfl rfl (by omega)) ?_)
      exact ⟨b0, b1, true, true, b4, false, rfl, rfl, rfl, nofun, nofun, fun _ => rfl, fun _ => rfl, nofun, c4_0, c4_1, c1_0, fun _ => rfl⟩
    | 4, _ =>
      obtain rfl : b4 = false := hfr
      obtain rfl : b0 = true := hdp 0 (by decide)
      obtain rfl : b1 = true := hdp 1 (by decide)
      obtain rfl : b5 = false := by cases hb : b5 with | false => rfl | true => exact absurd (c5_4 hb) (by decide)
      refine wpOpIn_of rfl (by rfl) (opIn_skip' nofun nofun (w' := W.drew.setRow (w.heap.size + 3) #[.int .i64 (s.i + 1 : Nat)]) (store_run _ 3 (.tmp 8) (.tmp 36) _ rfl (st3 T.i)) ?_)
      exact ⟨true, true, b2, b3, true, false, rfl, rfl, rfl, fun _ => rfl, fun _ => rfl, nofun, nofun, fun _ => rfl, fun _ => rfl, fun _ => rfl, fun _ => rfl, c3_2⟩
    | 5, _ =>
      obtain rfl : b5 = false := hfr
      obtain rfl : b0 = true := hdp 0 (by decide)
      obtain rfl : b1 = true := hdp 1 (by decide)
      obtain rfl : b2 = true := hdp 2 (by decide)
      obtain rfl : b3 = true := hdp 3 (by decide)
      obtain rfl : b4 = true := hdp 4 (by decide)
      refine wpOpIn_of rfl (by rfl) (opIn_skip' nofun nofun (w' := (W.drew.setRow (w.heap.size + 3) #[.int .i64 (s.i + 1 : Nat)]).setRow (w.heap.size + 4) #[.int .i64 (s.pos + 1 : Nat)]) (store_run _ 3 (.tmp 9) (.tmp 38) _ rfl (st3 (T.put_i (s.i + 1)).p)) ?_)
      exact ⟨true, true, true, true, true, true, rfl, rfl, rfl, fun _ => rfl, fun _ => rfl, fun _ => rfl, fun _ => rfl, fun _ => rfl, fun _ => rfl, fun _ => rfl, fun _ => rfl, fun _ => rfl⟩
    | q + 6, h => omega
  · intro L A X _ hall hI
    obtain ⟨b0, b1, b2, b3, b4, b5, rfl, rfl, rfl, -, -, -, -, -, -, -, -, -⟩ := hI
    simp at hall
    obtain ⟨rfl, rfl, rfl, rfl, rfl, rfl⟩ := hall
    exact hQ
end Go.Proofs.Ytgdphdnghackfaa
