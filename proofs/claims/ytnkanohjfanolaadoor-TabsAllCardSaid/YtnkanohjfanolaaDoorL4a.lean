/- The range of the law TabsAll (layer 16): stops in rising order, none between. -/
import Derived.Test.YtnkanohjfanolaaDoorL1
import Derived.Test.YtnkanohjfanolaaDoorR
import Derived.Test.YtnkanohjfanolaaDoorU
import Derived.RangeFuncNested
import Derived.RangeFuncCalls
namespace Go.Proofs.YtnkanohjfanolaaDoor
open Go.RowKit Go.Shelf
attribute [local go_sem] Oper.semAt_some
set_option maxRecDepth 100000 in
set_option maxHeartbeats 2000000 in
theorem all_it2 (n l g n0 : Nat) (t : T4) (ht : t.Ok) (hn : 1 ≤ n) (hn0 : 0 < n0) (J Jx : List Nat → World → Prop)
    (hY : ∀ pre x W, J pre W → pre.length < 200 → (x < 200 ∧ bit t x = true) → YieldAt Fence.wide (n - 1) Tryd.prog l #[.int .i64 (x : Nat)] W fun e W' =>
      (e = .returned (.bool true) ∧ J (pre ++ [x]) W' ∧ Below n0 W W') ∨ (e = .returned (.bool false) ∧ Jx (pre ++ [x]) W'))
    (W : World) (hT : Tab W) (hb : Box W g 24 #[.int .u64 t.a, .int .u64 t.b, .int .u64 t.c, .int .u64 t.d]) (h0 : J [] W) :
    CallsIn Fence.wide n Tryd.prog 22 #[.func (.yield l) #[] #[], .pointer (some ⟨g, 0, none⟩)] W fun e W' => (∃ v, e = .returned v) ∧
      ((∃ ys, ys = upto t 200 ∧ J ys W') ∨ (∃ pre, pre <+: upto t 200 ∧ Jx pre W')) := by
  have c0 := hb.cell 0; have c1 := hb.cell 1; have c2 := hb.cell 2; have c3 := hb.cell 3
  have i0 : ∀ w : World, (Instr.index 24 (.agg #[.int .u64 t.a, .int .u64 t.b, .int .u64 t.c, .int .u64 t.d]) (.int .i64 0)).run Tryd.prog w = .ok (.int .u64 t.a) w := fun _ => by kernel_rfl
  have i1 : ∀ w : World, (Instr.index 24 (.agg #[.int .u64 t.a, .int .u64 t.b, .int .u64 t.c, .int .u64 t.d]) (.int .i64 1)).run Tryd.prog w = .ok (.int .u64 t.b) w := fun _ => by kernel_rfl
  have i2 : ∀ w : World, (Instr.index 24 (.agg #[.int .u64 t.a, .int .u64 t.b, .int .u64 t.c, .int .u64 t.d]) (.int .i64 2)).run Tryd.prog w = .ok (.int .u64 t.c) w := fun _ => by kernel_rfl
  have i3 : ∀ w : World, (Instr.index 24 (.agg #[.int .u64 t.a, .int .u64 t.b, .int .u64 t.c, .int .u64 t.d]) (.int .i64 3)).run Tryd.prog w = .ok (.int .u64 t.d) w := fun _ => by kernel_rfl
  refine callsIn_of_wp Tryd.func22 rfl trivial ?_ rfl
  simp only [Tryd.ntmps22, List.size_toArray, List.length_cons, List.length_nil, Nat.reduceAdd, Nat.reduceSub, Array.replicate_succ, Array.replicate_zero, List.push_toArray, List.append_toArray, List.nil_append, List.cons_append]
  gi_wp2
  gi_loopw [7] (fun ix wr => ∃ i : Nat, ix = .int .i64 i ∧ OutMem t J i wr) (fun ix _ => 4 - (intOf ix).toNat)
  case atStart => exact ⟨0, rfl, Nat.zero_le _, fun h => by omega, h0, hT⟩
  case round =>
    obtain ⟨i, rfl, hi4, hfin, hJ, hTr⟩ := hrel
    by_cases hlt : i < 4
    · have hlt' : (i : Int) < 4 := by omega
      obtain ⟨v, hv⟩ : ∃ v, t.w i = v := ⟨_, rfl⟩
      have hv64 := ht.w i
      rw [hv] at hv64
      have hix : ∀ w : World, (Instr.index 24 (.agg #[.int .u64 t.a, .int .u64 t.b, .int .u64 t.c, .int .u64 t.d]) (.int .i64 i)).run Tryd.prog w = .ok (.int .u64 v) w := by
        rw [← hv]
        rcases (show i = 0 ∨ i = 1 ∨ i = 2 ∨ i = 3 by omega) with rfl | rfl | rfl | rfl
        · exact i0
        · exact i1
        · exact i2
        · exact i3
      replace hv := Kp.mk hv
      clear i0 i1 i2 i3
      gi_wp2
      gi_loopw [4] (fun u wr => ∃ b k : Nat, u = .int .u64 b ∧ InMem t J i v b k wr) (fun u _ => (intOf u).toNat)
      case atStart => exact ⟨v, 0, rfl, hv64, From.start v, by omega, by omega, by simpa using hJ, hTr⟩
      case round =>
        obtain ⟨b, k, rfl, hb64, hfrom, hk64, hk200, hJ2, hT2⟩ := hrel
        replace hfrom := Kp.mk hfrom
        by_cases hb0 : b = 0
        · subst hb0
          gi_wp2
          go_roundw
          case rel =>
            have hz : ∀ x, 64 * i + k ≤ x → x < 64 * i + 64 → bit t x = false := fun x h1 h2 => by
              have := hfrom.out.zero (x - 64 * i) (by omega) (by omega)
              unfold bit
              rw [show x / 64 = i by omega, hv.out, show x % 64 = x - 64 * i by omega]
              exact this
            refine ⟨i + 1, by go_num, hlt, fun h => ?_, ?_, hT2⟩
            · rw [show 64 * (i + 1) = 64 * i + k + (64 - k) by omega, upto_gap t _ _ (fun x h1 h2 => hz x h1 (by omega)), show 200 = 64 * i + k + (200 - (64 * i + k)) by omega, upto_gap t _ _ (fun x h1 h2 => hz x h1 (by omega))]
            · rw [show 64 * (i + 1) = 64 * i + k + (64 - k) by omega, upto_gap t _ _ (fun x h1 h2 => hz x h1 (by omega))]
              exact hJ2
          case measure => simp [intOf]; omega
        · have hbz : ((b : Int) == 0) = false := by simpa using hb0
          obtain ⟨z, hz, hz64, hkz, hvz, hgap, hnext, hless⟩ := hfrom.out.next hb0 hb64
          have htz := Kp.mk hz
          have hand := and_pred b hb0 hb64
          have hb1 : 1 ≤ b := by omega
          have hbx : Kp (bit t (64 * i + z) = true) := ⟨by unfold bit; rw [show (64 * i + z) / 64 = i by omega, hv.out, show (64 * i + z) % 64 = z by omega]; exact hvz⟩
          have hgap2 : Kp (∀ x, 64 * i + k ≤ x → x < 64 * i + z → bit t x = false) := ⟨fun x h1 h2 => by
            unfold bit
            rw [show x / 64 = i by omega, hv.out, show x % 64 = x - 64 * i by omega]
            exact hgap _ (by omega) (by omega)⟩
          replace hnext := Kp.mk hnext
          replace hless := Kp.mk hless
          have ecast : Kp (((64 * i + z : Nat) : Int) = 64 * (i : Int) + z) := ⟨by omega⟩
          clear hgap hvz hz
          by_cases h200 : 200 ≤ 64 * i + z
          · have h200' : (200 : Int) ≤ 64 * (i : Int) + z := by omega
            gi_wp2_with (refine ⟨trivial, ?_⟩; gi_at_call 23; refine (callsIn_wide.2 (tz b hb0 hb64 _ hT2)).mono ?_; rintro e w' ⟨rfl, rfl⟩; rw [htz.out])
            refine ⟨fun _ h => (by cases h), ?_⟩
            gi_wp2
            refine bodyPost_ret (results_none rfl _ _ _) rfl ?_
            refine ⟨⟨_, rfl⟩, .inl ⟨_, rfl, ?_⟩⟩
            rw [show 200 = 64 * i + k + (200 - (64 * i + k)) by omega, upto_gap t _ _ (fun x h1 h2 => hgap2.out x h1 (by omega))]
            exact hJ2
          · have h200' : ¬ (200 : Int) ≤ 64 * (i : Int) + z := by omega
            obtain ⟨fn, tmps, assign, body, hy, hR⟩ := hY (upto t (64 * i + k)) (64 * i + z) wr hJ2 (Nat.lt_of_le_of_lt (upto_len t _) (by omega)) ⟨by omega, hbx.out⟩
            rw [ecast.out] at hy
            gi_wp2_with (refine ⟨trivial, ?_⟩; gi_at_call 23; refine (callsIn_wide.2 (tz b hb0 hb64 _ hT2)).mono ?_; rintro e w' ⟨rfl, rfl⟩; rw [htz.out])
            refine hR.mono ?_
            have hpre : upto t (64 * i + k) ++ [64 * i + z] = upto t (64 * i + z + 1) := by
              rw [upto_snoc t _ hbx.out]
              congr 1
              rw [show 64 * i + z = 64 * i + k + (z - k) by omega, upto_gap t _ _ (fun x h1 h2 => hgap2.out x h1 (by omega))]
            replace hpre := Kp.mk hpre
            rintro e W' (⟨rfl, hJ', hk⟩ | ⟨rfl, hJx'⟩)
            · rw [hpre.out] at hJ'
              have hT' := hT2.keep hk hn0
              gi_wp2
              go_roundw
              case rel =>
                exact ⟨b &&& (b - 1), z + 1, rfl, Nat.lt_of_le_of_lt Nat.and_le_left hb64, hnext.out, by omega, by omega, hJ', hT'⟩
              case measure => have := hless.out; simp [intOf]; omega
            · rw [hpre.out] at hJx'
              gi_wp2
              refine bodyPost_ret (results_none rfl _ _ _) rfl ?_
              exact ⟨⟨_, rfl⟩, .inr ⟨_, upto_prefix t _ _ (by omega), hJx'⟩⟩
    · have hi : i = 4 := by omega
      subst hi
      rw [hfin rfl] at hJ
      clear hfin
      gi_wp2
      go_end0
      first | exact ⟨⟨_, rfl⟩, .inl ⟨_, rfl, hJ⟩⟩ | exact ⟨⟨_, rfl⟩, .inl hJ⟩

abbrev St (t : T4) : Type := { s : Nat // s < 200 ∧ bit t s = true }
theorem all_stops2 (n g n0 : Nat) (t : T4) (ht : t.Ok) (hn : 1 ≤ n) (hn0 : 0 < n0) (w : World) (hT : Tab w) (hb : Box w g 24 #[.int .u64 t.a, .int .u64 t.b, .int .u64 t.c, .int .u64 t.d]) :
    SeqStopsK Fence.wide n Tryd.prog 22 #[.pointer (some ⟨g, 0, none⟩)] (fun x : St t => #[Value.int .i64 (x.1 : Nat)]) (Below n0) (fun ys => ys.map (·.1) = upto t 200) (fun pre => pre.map (·.1) <+: upto t 200) 200 w := fun l J Jx W hW _ _ hY h0 => by
  refine (all_it2 n l g n0 t ht hn hn0 (fun p V => ∃ pa : List (St t), pa.map (·.1) = p ∧ J pa V) (fun p V => ∃ pa : List (St t), pa.map (·.1) = p ∧ Jx pa V) ?_ W (hT.keep hW hT.lt) (hb.keep hW hb.lt) ⟨[], rfl, h0⟩).mono ?_
  · rintro p x V ⟨pa, hpa, hj⟩ hl hx
    obtain ⟨fn, tm, asg, bd, hy, hR⟩ := hY pa ⟨x, hx⟩ V hj (by rw [← hpa] at hl; simpa using hl)
    refine ⟨fn, tm, asg, bd, hy, hR.mono ?_⟩
    rintro e V' (⟨h1, h2, h3⟩ | ⟨h1, h2⟩)
    · exact .inl ⟨h1, ⟨pa ++ [⟨x, hx⟩], by rw [List.map_append, hpa]; rfl, h2⟩, h3⟩
    · exact .inr ⟨h1, ⟨pa ++ [⟨x, hx⟩], by rw [List.map_append, hpa]; rfl, h2⟩⟩
  · rintro e V ⟨hv, ⟨ys, hys, pa, hpa, hj⟩ | ⟨pre, hpre, pa, hpa, hj⟩⟩
    · exact ⟨hv, .inl ⟨pa, hpa.trans hys, hj⟩⟩
    · exact ⟨hv, .inr ⟨pa, (by rw [← hpa] at hpre; exact hpre), hj⟩⟩
/-- The last of what came, or -1. -/
def lastI (l : List Nat) : Int := match l.getLast? with | none => -1 | some x => (x : Int)
theorem lastI_snoc (l : List Nat) (s : Nat) : lastI (l ++ [s]) = s := by simp [lastI]
theorem lastI_nil : lastI [] = -1 := rfl
theorem upto_last (t : T4) (s : Nat) : lastI (upto t s) < s ∧ -1 ≤ lastI (upto t s) ∧ ∀ x ∈ upto t s, (x : Int) ≤ lastI (upto t s) := by
  induction s with
  | zero => exact ⟨by simp [upto, lastI], by simp [upto, lastI], fun x hx => by simp [upto] at hx⟩
  | succ s ih =>
    obtain ⟨h1, h0, h2⟩ := ih
    rw [upto_succ]
    by_cases hb : bit t s = true
    · rw [if_pos hb, lastI_snoc]
      refine ⟨by omega, by omega, fun x hx => ?_⟩
      rcases List.mem_append.1 hx with hx | hx
      · have := h2 x hx; omega
      · simp at hx; omega
    · rw [if_neg hb, List.append_nil]
      exact ⟨by omega, h0, h2⟩
theorem mem_upto' {t : T4} {x s : Nat} (h : x < s) (hb : bit t x = true) : x ∈ upto t s := by
  unfold upto
  rw [List.mem_filter, List.mem_range]
  exact ⟨h, hb⟩
theorem isI_bit {t : T4} {c : Int} (h : isI t c = true) : ∃ x : Nat, c = x ∧ x < 200 ∧ bit t x = true := by
  unfold isI at h
  rw [Bool.and_eq_true, decide_eq_true_eq] at h
  exact ⟨c.toNat, by omega, by omega, h.2⟩
theorem isI_of {t : T4} {x : Nat} (h : x < 200) (hb : bit t x = true) : isI t (x : Int) = true := by
  unfold isI
  rw [Bool.and_eq_true, decide_eq_true_eq]
  exact ⟨by omega, by simpa using hb⟩
/-- What can't be behind a true prefix: a stop passed over, or one that does not rise. -/
def BadAt (t : T4) (p : List Nat) (s : Nat) : Prop := (∃ c : Int, lastI p < c ∧ c < s ∧ isI t c = true) ∨ (s : Int) ≤ lastI p
theorem bad_no {t : T4} {p : List Nat} {s : Nat} (h : p ++ [s] <+: upto t 200) (hb : BadAt t p s) : False := by
  obtain ⟨rfl, h1, h2⟩ := prefix_upto h
  obtain ⟨k1, k2, k3⟩ := upto_last t s
  rcases hb with ⟨c, h3, h4, h5⟩ | h3
  · obtain ⟨x, rfl, _, hx⟩ := isI_bit h5
    have := k3 x (mem_upto' (by omega) hx)
    omega
  · omega
/-- Memory of the law: the stops, how many are left at, the answer, the iterator's own copy; the turn, the last stop, how many. -/
structure AlMem (w : World) (t : T4) (left : Int) (gc : Nat) (W : World) : Prop where
  bt : Box W w.heap.size 24 #[.int .u64 t.a, .int .u64 t.b, .int .u64 t.c, .int .u64 t.d]
  bl : Box W (w.heap.size + 1) 3 #[.int .i64 left]
  br : Box W (w.heap.size + 2) 4 #[.bool false]
  bc : Box W gc 24 #[.int .u64 t.a, .int .u64 t.b, .int .u64 t.c, .int .u64 t.d]
  tab : Tab W
  bel : Below w.heap.size w W
theorem AlMem.keep {w W W' : World} {t : T4} {left : Int} {gc : Nat} (h : AlMem w t left gc W) (k : Below W.heap.size W W') : AlMem w t left gc W' :=
  ⟨h.bt.keep k h.bt.lt, h.bl.keep k h.bl.lt, h.br.keep k h.br.lt, h.bc.keep k h.bc.lt, h.tab.keep k h.tab.lt, h.bel.trans (k.mono h.bel.size)⟩
theorem AlMem.put {w W : World} {t : T4} {left : Int} {gc : Nat} (h : AlMem w t left gc W) {g : Nat} (h1 : w.heap.size + 2 < g) (h2 : gc ≠ g) (hw : 0 < w.heap.size) (v : Value) : AlMem w t left gc (W.setCell ⟨g, 0, none⟩ v) :=
  ⟨h.bt.far (by simp <;> omega) v, h.bl.far (by simp <;> omega) v, h.br.far (by simp <;> omega) v, h.bc.far h2 v, ⟨fun j hj => (World.cell?_setCell_other _ _ _ _ (by simp <;> omega)).trans (h.tab.cell j hj), by rw [World.size_setCell]; exact h.tab.lt⟩, h.bel.setCell (p := ⟨g, 0, none⟩) (show w.heap.size ≤ g by omega) v⟩
theorem box_old {W : World} {g : Nat} {t : TypeId} {cs : Array Value} (h : Box W g t cs) (d : Array Value) (t' : TypeId) : Box (W.alloc (.cells d t')) g t cs := h.keep ((Below.refl _ _).alloc (Nat.le_refl _) _) h.lt
theorem box_new {W : World} {g : Nat} (t : TypeId) (cs : Array Value) (e : g = W.heap.size) : Box (W.alloc (.cells cs t)) g t cs := by subst e; exact Box.new _ _ _
theorem box_grown {W W' : World} {g : Nat} {t : TypeId} {cs : Array Value} {row : Option Nat} (h : Box W g t cs) (hg : W.grownBy W' row) (hr : ∀ r, row = some r → ∃ o : Obj, W.heap[r]? = some o ∧ o.isCells = false) : Box W' g t cs := by
  refine h.grown hg fun e => ?_
  obtain ⟨o, ho, hc⟩ := hr g e.symm
  have h' : W.heap[g]? = some (.cells cs t (0, 0)) := h
  rw [h'] at ho
  cases ho
  cases hc
structure RgMem (w : World) (t : T4) (left : Int) (gc gu ga gn : Nat) (kk last cnt : Int) (W0 V : World) : Prop where
  m : AlMem w t left gc V
  u : Box V gu 3 #[.int .i64 kk]
  a : Box V ga 3 #[.int .i64 last]
  n : Box V gn 3 #[.int .i64 cnt]
  dk : ∀ g : Nat, W0.heap[g]? = some (Obj.deferred (some [])) → V.heap[g]? = some (Obj.deferred (some []))
section
variable {w : World} {t : T4} {left : Int} {gc gu ga gn : Nat} {kk last cnt : Int} {W0 V V' : World}
theorem RgMem.keep (h : RgMem w t left gc gu ga gn kk last cnt W0 V) (k : Below V.heap.size V V') : RgMem w t left gc gu ga gn kk last cnt W0 V' :=
  ⟨h.m.keep k, h.u.keep k h.u.lt, h.a.keep k h.a.lt, h.n.keep k h.n.lt, fun g hg => (k.block g (Array.getElem?_eq_some_iff.1 (h.dk g hg)).1).trans (h.dk g hg)⟩
theorem RgMem.putA (h : RgMem w t left gc gu ga gn kk last cnt W0 V) (h1 : w.heap.size + 2 < ga) (h2 : gc ≠ ga) (h3 : gu ≠ ga) (h4 : gn ≠ ga) (hw : 0 < w.heap.size) (z : Int) : RgMem w t left gc gu ga gn kk z cnt W0 (V.setCell ⟨ga, 0, none⟩ (.int .i64 z)) :=
  ⟨h.m.put h1 h2 hw _, h.u.far h3 _, h.a.put 0 _, h.n.far h4 _, fun g hg => (Below.heap_setCell V ⟨ga, 0, none⟩ _ g (fun e => by have h5 := h.dk g hg; have h6 : V.heap[ga]? = _ := h.a; rw [e] at h5; simp only at h5; rw [h6] at h5; cases h5)).trans (h.dk g hg)⟩
theorem RgMem.putN (h : RgMem w t left gc gu ga gn kk last cnt W0 V) (h1 : w.heap.size + 2 < gn) (h2 : gc ≠ gn) (h3 : gu ≠ gn) (h4 : ga ≠ gn) (hw : 0 < w.heap.size) (z : Int) : RgMem w t left gc gu ga gn kk last z W0 (V.setCell ⟨gn, 0, none⟩ (.int .i64 z)) :=
  ⟨h.m.put h1 h2 hw _, h.u.far h3 _, h.a.far h4 _, h.n.put 0 _, fun g hg => (Below.heap_setCell V ⟨gn, 0, none⟩ _ g (fun e => by have h5 := h.dk g hg; have h6 : V.heap[gn]? = _ := h.n; rw [e] at h5; simp only at h5; rw [h6] at h5; cases h5)).trans (h.dk g hg)⟩
theorem RgMem.grown (h : RgMem w t left gc gu ga gn kk last cnt W0 V) {row : Option Nat} (hg : V.grownBy V' row) (hr : ∀ r, row = some r → W0.heap.size ≤ r ∧ ∃ o : Obj, V.heap[r]? = some o ∧ o.isCells = false) (hW : w.heap.size ≤ W0.heap.size) : RgMem w t left gc gu ga gn kk last cnt W0 V' := by
  have hr2 : ∀ r, row = some r → ∃ o : Obj, V.heap[r]? = some o ∧ o.isCells = false := fun r e => (hr r e).2
  have hb : Below w.heap.size w V' := h.m.bel.trans ⟨hg.os, hg.tape, hg.output, hg.size, fun k hk => hg.block k (Nat.lt_of_lt_of_le hk h.m.bel.size) (fun e => by have := (hr k e.symm).1; omega)⟩
  have hw0 : ∀ j, j < 64 → V'.cell? ⟨0, j, none⟩ = some (.int .u8 (Lib.deBruijn64tab.getD j 0)) := fun j hj => cell_kept (h.m.tab.cell j hj) hg hr2
  refine ⟨⟨box_grown h.m.bt hg hr2, box_grown h.m.bl hg hr2, box_grown h.m.br hg hr2, box_grown h.m.bc hg hr2, ⟨hw0, Nat.lt_of_lt_of_le h.m.tab.lt hg.size⟩, hb⟩, box_grown h.u hg hr2, box_grown h.a hg hr2, box_grown h.n hg hr2, fun g hg0 => ?_⟩
  refine (hg.block g (Array.getElem?_eq_some_iff.1 (h.dk g hg0)).1 (fun e => ?_)).trans (h.dk g hg0)
  have := (hr g e.symm).1
  have := (Array.getElem?_eq_some_iff.1 hg0).1
  omega
end
end Go.Proofs.YtnkanohjfanolaaDoor
