/- The walk of ctr's turn (layer 5): a range over the blocks. -/
import Derived.Test.YtgdphdnghackfaaR10
namespace Go.Proofs.Ytgdphdnghackfaa
open Go.RowKit Go.Shelf
attribute [local go_sem] Oper.semAt_some
theorem walkOfBlocks_to (n : Nat) (w : World) (gn gk : Nat) (a m : Int) : CallsIn Fence.wide n Try.prog 25 #[blkF gn gk, .int .i64 a, .int .i64 m] w fun e w' => e = .returned (.func (.func 32) #[] #[.pointer (some ⟨w.heap.size + 1 + 1, 0, none⟩), .pointer (some ⟨w.heap.size + 1, 0, none⟩), .pointer (some ⟨w.heap.size, 0, none⟩)]) ∧
      w' = ((w.alloc (.cells #[blkF gn gk] 38)).alloc (.cells #[.int .i64 a] 3)).alloc (.cells #[.int .i64 m] 3) := callsIn_wide.2 (walk_to w gn gk a m)
theorem info5 : (Try.prog.info? 5).map (fun i => (i.zero, i.size, i.bytes)) = some (some (.int .u8 0), 1, 1) := by kernel_rfl
theorem setRow_size (W : World) (g : Nat) (ds : Array Value) : (W.setRow g ds).heap.size = W.heap.size := Array.size_modify
theorem size3 (W : World) (g1 g2 g3 : Nat) (d1 d2 d3 : Array Value) : (((W.drew.setRow g1 d1).drew.setRow g2 d2).setRow g3 d3).heap.size = W.heap.size := by
  rw [setRow_size, setRow_size]
  exact setRow_size W g1 d1
theorem fold2 (ta : Array Value) (a b : Value) (i j : Nat) : Array.foldl (fun (t : Array Value) (x : Nat × Value) => t.setIfInBounds x.fst x.snd) ta (#[i, j].zip #[a, b]) = (ta.setIfInBounds i a).setIfInBounds j b := by simp
theorem trS_ok (key : List Nat) (nonce from_ : Nat) (tx pre : List Nat) : (trS key nonce from_ tx pre).i ≤ tx.length ∧ (trS key nonce from_ tx pre).pos ≤ 16 ∧ (trS key nonce from_ tx pre).out.length = tx.length := by
  have key' : ∀ (pre : List Nat) (s : TrSt), s.i ≤ tx.length ∧ s.pos ≤ 16 ∧ s.out.length = tx.length → (pre.foldl (trStep key nonce tx) s).i ≤ tx.length ∧ (pre.foldl (trStep key nonce tx) s).pos ≤ 16 ∧ (pre.foldl (trStep key nonce tx) s).out.length = tx.length := by
    intro pre
    induction pre with
    | nil => intro s h; exact h
    | cons x xs ih =>
      intro s h
      refine ih _ ?_
      have hN : s.i + trN tx.length s ≤ s.out.length := by unfold trN; omega
      obtain ⟨h1, _, h3, _⟩ := trIn_facts tx (blkL key nonce x) s _ hN
      refine ⟨?_, Nat.zero_le _, ?_⟩
      · show (trIn tx (blkL key nonce x) s (trN tx.length s)).i ≤ _
        omega
      · show (trIn tx (blkL key nonce x) s (trN tx.length s)).out.length = _
        omega
  exact key' pre _ ⟨Nat.zero_le _, by show from_ % 16 ≤ 16; omega, by show (List.replicate tx.length 0).length = _; simp⟩
set_option maxRecDepth 100000 in
set_option maxHeartbeats 1000000 in
theorem turn_in (k : Nat) (w : World) (gn gk from_ nonce n cap : Nat) (A : Option Addr) (key : List Nat) (zs : List Int) (tx : List Nat) (htx : tx.length = n) (hzt : ∀ j, j < n → zs[j]?.getD 0 = ((tx.getD j 0 : Nat) : Int)) (bt : Bytes tx) (hk : key.length = 16) (bk : Bytes key) (hn : n ≤ 1100000) (hf : from_ < 1100000) (hN : nonce < 18446744073709551616)
    (hb : Box w gn 23 #[.int .u64 (nonce : Nat)]) (hK : Arr w gk 22 key) (hs : SlIn w .u8 A n cap zs) (h3 : 3 ≤ k) :
    CallsIn Fence.wide k Try.prog 19 #[blkF gn gk, .int .i64 from_, .slice A n cap] w fun e w' => e = .returned (.slice (some ⟨w.heap.size + 1, 0, none⟩) n n) ∧ Arr w' (w.heap.size + 1) 5 (turnL key nonce from_ tx) ∧ Below w.heap.size w w' := by
  have hmf : ∀ (fn : Fn) (first cap : Array Value) (w : World), (Instr.makeFunc fn first cap).run Try.prog w = .ok (.func fn first cap) w := fun _ _ _ _ => rfl
  obtain ⟨i0, hi, hz0, hz1, hz2⟩ := info_parts info5
  have hmk : ∀ W : World, (Instr.makeSlice 25 (.int .i64 (n : Nat)) (.int .i64 (n : Nat))).run Try.prog W = .ok (.slice (some ⟨W.heap.size, 0, none⟩) n n) (W.alloc (.cells (madeCells #[.int .u8 0] n) 5)) := fun W => by
    have := run_make (P := Try.prog) W 25 5 i0 (.int .u8 0) Try.underlying25 hi hz0 .i64 .i64 n n (by omega) (by omega) (by rw [hz2]; omega) (by omega)
    rw [hz1] at this
    simp only [Int.toNat_natCast, Nat.mul_one] at this
    exact this
  have h16 : (from_ : Int) < 1100000 := by omega
  have hnI : (n : Int) ≤ 1100000 := by omega
  refine callsIn_of_wp_marks Try.func19 rfl trivial ?_ rfl
  simp only [Try.ntmps19, List.size_toArray, List.length_cons, List.length_nil, Nat.reduceAdd, Nat.reduceSub, Array.replicate_succ, Array.replicate_zero, List.push_toArray, List.append_toArray, List.nil_append, List.cons_append]
  gi_wp2
  refine ⟨trivial, fun h => (by cases h), ?_⟩
  refine (walkOfBlocks_to _ _ gn gk _ _).mono ?_
  rintro _ w' ⟨rfl, rfl⟩
  gi_wp2
  have hW8 : ((((((((w.alloc (.cells #[.slice A n cap] 25)).alloc (.cells (madeCells #[.int .u8 0] n) 5)).alloc (.cells #[.slice (some ⟨w.heap.size + 1, 0, none⟩) n n] 25)).alloc (.cells #[.int .i64 0] 3)).alloc (.cells #[.int .i64 ((from_ : Int) % 16)] 3)).alloc (.cells #[blkF gn gk] 38)).alloc (.cells #[.int .i64 ((from_ : Int) / 16)] 3)).alloc (.cells #[.int .i64 ((n : Int) / 16 + 2)] 3)).heap.size = w.heap.size + 8 := by simp
  obtain ⟨T0, K0⟩ := turn_start w gn gk from_ nonce n cap A key zs tx htx hb hK hs (made_u8s n)
  have hlt := And.intro hb.lt hK.lt
  generalize ((((((((w.alloc (.cells #[.slice A n cap] 25)).alloc (.cells (madeCells #[.int .u8 0] n) 5)).alloc (.cells #[.slice (some ⟨w.heap.size + 1, 0, none⟩) n n] 25)).alloc (.cells #[.int .i64 0] 3)).alloc (.cells #[.int .i64 ((from_ : Int) % 16)] 3)).alloc (.cells #[blkF gn gk] 38)).alloc (.cells #[.int .i64 ((from_ : Int) / 16)] 3)).alloc (.cells #[.int .i64 ((n : Int) / 16 + 2)] 3)) = W8 at *
  refine wpIn_rangeFunc_ownH rfl (by omega) (gf := 32) (lb := #[.pointer (some ⟨w.heap.size + 7, 0, none⟩), .pointer (some ⟨w.heap.size + 6, 0, none⟩), .pointer (some ⟨w.heap.size + 5, 0, none⟩)]) rfl trivial (enters_of Try.func32 (by kernel_rfl) rfl)
    (all_blocks (k - 1) (w.heap.size + 7) (w.heap.size + 6) (w.heap.size + 5) gn gk (n / 16 + 2) (from_ / 16) nonce key hk bk (by omega) (by omega) (by omega) hN W8 K0) WkKp.trans (wkKp_b (by omega)) (Below.refl _ _) (fun _ => rfl)
    (fun pre W => w.heap.size + 8 ≤ W.heap.size ∧ TnMem w A n cap zs (trS key nonce from_ tx pre) W)
    (fun _ _ _ => False)
    (fun s B D row hs hg hr => ⟨Nat.le_trans hs.1 hg.size, hs.2.grown hg (fun r e => ⟨by have := (hr r e).1; omega, (hr r e).2⟩)⟩) (fun c s B D row hs _ _ => hs.elim) ⟨by omega, T0⟩
    (fun x a' W => ∃ g, w.heap.size + 8 ≤ g ∧ Arr W g 22 (blkL key nonce x) ∧ a' = ⟨#[blkF gn gk, .int .i64 from_, .slice A n cap, undef, undef, .pointer (some ⟨w.heap.size, 0, none⟩), .slice none 0 0, .pointer (some ⟨w.heap.size + 1 + 1, 0, none⟩), .pointer (some ⟨w.heap.size + 1 + 1 + 1, 0, none⟩), .pointer (some ⟨w.heap.size + 1 + 1 + 1 + 1, 0, none⟩), undef, .pointer (some ⟨g, 0, none⟩), .slice A n cap, .int .i64 n, .slice (some ⟨w.heap.size + 1, 0, none⟩) n n, .int .i64 from_, .int .i64 ((from_ : Int) % 16), blkF gn gk, .int .i64 from_, .int .i64 ((from_ : Int) / 16), .slice A n cap, .int .i64 n, .int .i64 ((n : Int) / 16), .int .i64 ((n : Int) / 16 + 2), .func (.func 32) #[] #[.pointer (some ⟨w.heap.size + 7, 0, none⟩), .pointer (some ⟨w.heap.size + 6, 0, none⟩), .pointer (some ⟨w.heap.size + 5, 0, none⟩)], .int .i64 (x : Nat), .agg (u8s (blkL key nonce x)), undef, undef, undef, undef, undef, undef, undef, undef, undef, undef, undef, undef, undef, undef, undef, undef, undef, undef, undef, undef, undef, undef, undef, undef], []⟩)
    ?hAx ?assign ?body ?done ?stop
  case hAx =>
    rintro x a' ⟨⟩ B D row ⟨g, h1, h2, h3⟩ hg hr
    exact ⟨g, h1, box_grown h2 hg (fun r e => (hr r e).2), h3⟩
  case assign =>
    rintro l pre x W K ⟨hsz, hI⟩ hK
    have hx16 : (blkL key nonce x).length = 16 := (blkL_ok hk bk nonce x).1
    have hal : (Instr.alloc 22 true (.tuple #[])).run Try.prog W = .ok (.pointer (some ⟨W.heap.size, 0, none⟩)) (W.alloc (.cells (u8s (List.replicate 16 0)) 22)) := by kernel_rfl
    have hst : (Instr.storeAt 22 (.pointer (some ⟨W.heap.size, 0, none⟩)) (.agg (u8s (blkL key nonce x)))).run Try.prog (W.alloc (.cells (u8s (List.replicate 16 0)) 22)) = .ok () (W.alloc (.cells (u8s (blkL key nonce x)) 22)) := by
      have B5 := Box.new W 22 (u8s (List.replicate 16 0))
      have := Arr.storeAt (l := List.replicate 16 0) B5 (P := Try.prog) (ty := 22) (l' := blkL key nonce x) (by rw [hx16]; exact size22) (by rw [hx16]; simp)
      rw [World.setRow_alloc_new] at this; exact this
    refine wpIn_region_lit ?_
    simp only [blkArgs, fold2, List.setIfInBounds_toArray, List.set_cons_succ, List.set_cons_zero]
    refine wpListIn_plain rfl (fun K' hK' => opIn_pure' nofun nofun (v := .pointer (some ⟨W.heap.size, 0, none⟩)) (w' := W.alloc (.cells (u8s (List.replicate 16 0)) 22)) ?_ (hK' _ _ ?_))
    · unfold execOp
      simp only [Sem.run_bind, hal, Result.andThen_ok, Sem.run_pure]
    clear hK' K'
    simp only [Act.put, List.setIfInBounds_toArray, List.set_cons_succ, List.set_cons_zero]
    refine wpListIn_plain rfl (fun K' hK' => opIn_skip' nofun nofun (w' := W.alloc (.cells (u8s (blkL key nonce x)) 22)) ?_ (hK' _ _ (wpListIn_nil ?_)))
    · exact store_run _ 22 (.tmp 11) (.tmp 26) _ rfl hst
    have kb : Below W.heap.size W (W.alloc (.cells (u8s (blkL key nonce x)) 22)) := (Below.refl _ _).alloc (Nat.le_refl _) _
    refine hK _ _ ?kf ?kk ⟨Nat.le_trans hsz kb.size, hI.keep kb⟩ ⟨W.heap.size, hsz, Box.new _ _ _, rfl⟩
    case kf => exact (KeepsOthers.alloc W _).from _
    case kk => exact wkKp_grown (below_grown kb) fun g hg => ⟨by rcases hg with rfl | rfl | rfl | rfl | rfl <;> omega, nofun⟩
  case body =>
    rintro l pre x a' W hpre hlen ⟨hsz, hI⟩ ⟨g, hg1, hg2, rfl⟩ hlen2
    obtain ⟨st, hst⟩ : ∃ st, trS key nonce from_ tx pre = st := ⟨_, rfl⟩
    obtain ⟨bk', hbk⟩ : ∃ b, blkL key nonce x = b := ⟨_, rfl⟩
    rw [hst] at hI
    rw [hbk] at hg2
    have hsn := trS_snoc key nonce from_ tx pre x
    rw [hst, trStep, hbk] at hsn
    simp only [hbk]
    gi_wp2
    gi_loopw [27, 28, 29, 30, 31, 32, 33, 34, 35, 36, 37, 38, 39, 40, 41, 42, 43, 44, 45, 46, 47, 48, 49] (fun t27 t28 t29 t30 t31 t32 t33 t34 t35 t36 t37 t38 t39 t40 t41 t42 t43 t44 t45 t46 t47 t48 t49 wr => ∃ c : Nat, c ≤ trN n st ∧ KeepsFrom W8.heap.size W wr ∧ WkKp (w.heap.size + 7) (w.heap.size + 6) (w.heap.size + 5) gn gk W wr ∧ w.heap.size + 8 ≤ wr.heap.size ∧ Arr wr g 22 bk' ∧ TnMem w A n cap zs (trIn tx bk' st c) wr) (fun _ _ _ _ _ _ _ _ _ _ _ _ _ _ _ _ _ _ _ _ _ _ _ wr => n - (intOf ((wr.cell? ⟨w.heap.size + 3, 0, none⟩).getD undef)).toNat)
    case atStart => exact ⟨0, Nat.zero_le _, (KeepsFrom.refl _ _), ⟨Nat.le_refl _, fun _ _ => rfl⟩, hsz, hg2, hI⟩
    case round =>
      obtain ⟨c, hc, kf, kk, hsz', hgb, hT⟩ := hrel
      obtain ⟨o1, o2, o3⟩ := trS_ok key nonce from_ tx pre
      rw [hst] at o1 o2 o3
      have hN : st.i + trN n st ≤ st.out.length := by unfold trN; omega
      obtain ⟨f1, f2, f3, _⟩ := trIn_facts tx bk' st c (by omega)
      have ci := hT.i.cell 0
      have cp := hT.p.cell 0
      have ct := hT.t.cell 0
      have csl := hT.sl.cell 0
      rw [f1] at ci
      rw [f2] at cp
      simp only [List.getElem?_toArray, List.getElem?_cons_zero] at ci cp ct csl
      by_cases hlt : c < trN n st
      · have hinI : ((st.i + c : Nat) : Int) < (n : Int) := by unfold trN at hlt; omega
        have hpI : ((st.pos + c : Nat) : Int) < 16 := by unfold trN at hlt; omega
        obtain ⟨ii, hii⟩ : ∃ ii, st.i + c = ii := ⟨_, rfl⟩
        obtain ⟨jj, hjj⟩ : ∃ jj, st.pos + c = jj := ⟨_, rfl⟩
        rw [hii] at ci hinI
        rw [hjj] at cp hpI
        replace hsn := Kp.mk hsn
        replace hT := Kp.mk hT
        replace hI := Kp.mk hI
        replace hpre := Kp.mk hpre
        replace f1 := Kp.mk f1
        replace f2 := Kp.mk f2
        replace f3 := Kp.mk f3
        replace hN := Kp.mk hN
        replace htx := Kp.mk htx
        replace o3 := Kp.mk o3
        replace o1 := Kp.mk o1
        replace o2 := Kp.mk o2
        replace hst := Kp.mk hst
        replace hbk := Kp.mk hbk
        replace kf := Kp.mk kf
        replace kk := Kp.mk kk
        replace hgb := Kp.mk hgb
        replace hg2 := Kp.mk hg2
        replace T0 := Kp.mk T0
        replace K0 := Kp.mk K0
        replace hii := Kp.mk hii
        replace hjj := Kp.mk hjj
        replace hlt := Kp.mk hlt
        replace hc := Kp.mk hc
        clear hmf hmk
        refine wpIn_seq_k fun K1 hK1 => ?_
        refine wpIn_seq_k fun K2 hK2 => ?_
        replace hK1 := Kp.mk hK1
        replace hK2 := Kp.mk hK2
        gi_wp2
        refine hK2.out _ _ ?_
        refine wpIn_cond_true rfl ?_
        refine wpIn_skip ?_
        refine hK1.out _ _ ?_
        refine wpIn_seq_k fun K3 hK3 => ?_
        refine wpIn_block ?_
        have hlen := hN.out
        have htx' := htx.out
        have hlc := hlt.out
        have hcc := hc.out
        have hik := hii.out
        have hjk := hjj.out
        have hpos : (trIn tx bk' st c).pos < 16 := by rw [f2.out]; omega
        have hi' : (trIn tx bk' st c).i < n := by rw [f1.out]; omega
        obtain ⟨b, o, rfl, _, htc⟩ := hT.out.x.2 (by omega)
        have bk16 : bk'.length = 16 := by rw [← hbk.out]; exact (blkL_ok hk bk nonce x).1
        have bkB : Bytes bk' := by rw [← hbk.out]; exact (blkL_ok hk bk nonce x).2
        have hz := htc _ hi'
        have hz' : wr.drew.cell? ⟨b, o + (trIn tx bk' st c).i, none⟩ = some (.int .u8 (tx.getD (trIn tx bk' st c).i 0 : Nat)) := by rw [← hzt _ hi']; exact hz
        have hq' : wr.drew.cell? ⟨g, (trIn tx bk' st c).pos, none⟩ = some (.int .u8 (bk'.getD (trIn tx bk' st c).pos 0 : Nat)) := hgb.out.cell _ (by omega)
        have hol : (trIn tx bk' st c).out.length = n := by rw [f3.out, o3.out, htx']
        clear hz htc hzt ct csl ci cp hinI hpI
        refine reg7 hT.out.drew hi' hpos hol hz' hq' (bt.get _) (bkB.get _) _ _ _ _ _ _ _ _ _ _ _ _ _ _ _ _ _ _ _ _ _ _ _ _ _ _ _ _ _ _ _ _ _ _ _ _ _ _ _ _ _ _ _ _ _ _ ?_
        simp only [Exit.then, Exit.inBlock]
        refine hK3 _ _ ?_
        have TT := (hT.out.drew.put_o ((trIn tx bk' st c).out.set (trIn tx bk' st c).i (tx.getD (trIn tx bk' st c).i 0 ^^^ bk'.getD (trIn tx bk' st c).pos 0))).drew
        refine reg6 TT (show (trIn tx bk' st c).i < 1100000 by omega) hpos _ _ _ _ _ _ _ _ _ _ _ _ _ _ _ _ _ _ _ _ _ _ _ _ _ _ _ _ _ _ _ _ _ _ _ _ _ _ _ _ _ _ _ _ _ _ _ _ _ ?_
        have TP : TnMem w (some ⟨b, o, none⟩) n cap zs (trIn tx bk' st (c + 1)) _ := (TT.put_i ((trIn tx bk' st c).i + 1)).put_p ((trIn tx bk' st c).pos + 1)
        have hfar : ∀ q, q ≠ w.heap.size + 1 → q ≠ w.heap.size + 3 → q ≠ w.heap.size + 4 → _ = wr.heap[q]? := fun q q1 q3 q4 => (heap_setRow (((wr.drew.setRow (w.heap.size + 1) (u8s ((trIn tx bk' st c).out.set (trIn tx bk' st c).i (tx.getD (trIn tx bk' st c).i 0 ^^^ bk'.getD (trIn tx bk' st c).pos 0)))).drew.setRow (w.heap.size + 3) #[.int .i64 ((trIn tx bk' st c).i + 1 : Nat)])) (w.heap.size + 4) #[.int .i64 ((trIn tx bk' st c).pos + 1 : Nat)] q (Ne.symm q4)).trans ((heap_setRow _ _ _ _ (Ne.symm q3)).trans (heap_setRow _ _ _ _ (Ne.symm q1)))
        have hsize : (((wr.drew.setRow (w.heap.size + 1) (u8s ((trIn tx bk' st c).out.set (trIn tx bk' st c).i (tx.getD (trIn tx bk' st c).i 0 ^^^ bk'.getD (trIn tx bk' st c).pos 0)))).drew.setRow (w.heap.size + 3) #[.int .i64 ((trIn tx bk' st c).i + 1 : Nat)]).setRow (w.heap.size + 4) #[.int .i64 ((trIn tx bk' st c).pos + 1 : Nat)]).heap.size = wr.heap.size := size3 ..
        have hci := hT.out.i.cell 0
        have hcn := TP.i.cell 0
        simp only [List.getElem?_toArray, List.getElem?_cons_zero] at hci hcn
        dsimp only at TP hfar hsize hcn ⊢
        generalize (((wr.drew.setRow (w.heap.size + 1) (u8s ((trIn tx bk' st c).out.set (trIn tx bk' st c).i (tx.getD (trIn tx bk' st c).i 0 ^^^ bk'.getD (trIn tx bk' st c).pos 0)))).drew.setRow (w.heap.size + 3) #[.int .i64 ((trIn tx bk' st c).i + 1 : Nat)]).setRow (w.heap.size + 4) #[.int .i64 ((trIn tx bk' st c).pos + 1 : Nat)]) = WE at *
        go_roundw
        case rel =>
            refine ⟨_, _, _, _, _, _, _, _, _, _, _, _, _, _, _, _, _, _, _, _, _, _, _, ⟨c + 1, hlc, KeepsFrom.trans kf.out ⟨Nat.le_of_eq hsize.symm, fun q o hB hk _ => (hfar q (by omega) (by omega) (by omega)).trans hk⟩, kk.out.trans ⟨Nat.le_of_eq hsize.symm, fun g hg => hfar g ?_ ?_ ?_⟩, by rw [hsize]; exact hsz', (hfar g (by omega) (by omega) (by omega)).trans hgb.out, TP⟩, rfl⟩ <;> (rcases hg with rfl | rfl | rfl | rfl | rfl <;> omega)
        case measure =>
          have hin1 : (trIn tx bk' st (c + 1)).i = (trIn tx bk' st c).i + 1 := rfl
          rw [hin1] at hcn
          rw [hci, hcn]
          simp only [Option.getD_some, intOf, Int.toNat_natCast]
          omega
      · obtain rfl : c = trN n st := by omega
        by_cases hin : st.i + trN n st < n
        · have hp16 : st.pos + trN n st = 16 := by unfold trN at hin ⊢; omega
          have hinI : ((st.i + trN n st : Nat) : Int) < (n : Int) := by omega
          have hpI : ((st.pos + trN n st : Nat) : Int) = 16 := by omega
          rw [hpI] at cp
          clear hpI
          obtain ⟨ii, hii⟩ : ∃ ii, st.i + trN n st = ii := ⟨_, rfl⟩
          rw [hii] at ci hinI
          replace hii := Kp.mk hii
          clear hin hlt hc
          replace hsn := Kp.mk hsn
          replace hp16 := Kp.mk hp16
          replace hT := Kp.mk hT
          replace hI := Kp.mk hI
          replace hpre := Kp.mk hpre
          replace f1 := Kp.mk f1
          replace f2 := Kp.mk f2
          replace f3 := Kp.mk f3
          replace hN := Kp.mk hN
          replace htx := Kp.mk htx
          replace o3 := Kp.mk o3
          replace o1 := Kp.mk o1
          replace o2 := Kp.mk o2
          replace hst := Kp.mk hst
          replace hbk := Kp.mk hbk
          replace kf := Kp.mk kf
          replace kk := Kp.mk kk
          replace hgb := Kp.mk hgb
          replace hg2 := Kp.mk hg2
          replace T0 := Kp.mk T0
          replace K0 := Kp.mk K0
          clear hmf hmk
          refine wpIn_seq_k fun K1 hK1 => ?_
          refine wpIn_seq_k fun K2 hK2 => ?_
          replace hK1 := Kp.mk hK1
          replace hK2 := Kp.mk hK2
          gi_wp2
          refine hK2.out _ _ ?_
          refine wpIn_cond_false rfl ?_
          refine wpIn_exit ?_
          simp only [Exit.then, Exit.inBlock, if_true]
          refine ‹∀ (a : Act) (w : World), Code.wpIn _ _ _ (Code.region 8 _ _) _ a w → _› _ _ ?_
          refine wpIn_region_lit ?_
          refine wpListIn_plain rfl (fun K' hK' => opIn_skip' nofun nofun (store_run _ 3 (.tmp 9) (.const (.int .i64 0)) _ rfl (st3 hT.out.p)) (hK' _ _ (wpListIn_nil ?_)))
          show KeepsFrom W8.heap.size W _ ∧ WkKp _ _ _ gn gk W _ ∧ _ ∧ _
          refine ⟨?_, kk.out.trans ⟨(below_setRow (Below.refl 0 wr) (Nat.zero_le _) _).size, fun g hg => heap_setRow _ _ _ _ ?_⟩, ?_, ?_⟩
          · exact KeepsFrom.trans kf.out ⟨(below_setRow (Below.refl 0 wr) (Nat.zero_le _) _).size, fun q o hB hk _ => (heap_setRow _ _ _ _ (by omega)).trans hk⟩
          · rcases hg with rfl | rfl | rfl | rfl | rfl <;> omega
          · exact Nat.le_trans hsz' (below_setRow (Below.refl 0 wr) (Nat.zero_le _) _).size
          · rw [hsn.out, htx.out]
            exact hT.out.put_p 0
        · have hie : st.i + trN n st = n := by unfold trN at hin ⊢; omega
          have hinI : ((st.i + trN n st : Nat) : Int) = (n : Int) := by omega
          rw [hinI] at ci
          clear hin hlt hc
          replace hsn := Kp.mk hsn
          replace hie := Kp.mk hie
          replace hinI := Kp.mk hinI
          replace hT := Kp.mk hT
          replace hI := Kp.mk hI
          replace hpre := Kp.mk hpre
          replace f1 := Kp.mk f1
          replace f2 := Kp.mk f2
          replace f3 := Kp.mk f3
          replace hN := Kp.mk hN
          replace htx := Kp.mk htx
          replace o3 := Kp.mk o3
          replace o1 := Kp.mk o1
          replace o2 := Kp.mk o2
          replace hst := Kp.mk hst
          replace hbk := Kp.mk hbk
          replace kf := Kp.mk kf
          replace kk := Kp.mk kk
          replace hgb := Kp.mk hgb
          replace hg2 := Kp.mk hg2
          replace T0 := Kp.mk T0
          replace K0 := Kp.mk K0
          clear hmf hmk
          refine wpIn_seq_k fun K1 hK1 => ?_
          refine wpIn_seq_k fun K2 hK2 => ?_
          replace hK1 := Kp.mk hK1
          replace hK2 := Kp.mk hK2
          gi_wp2
          refine hK2.out _ _ ?_
          refine wpIn_cond_false rfl ?_
          refine wpIn_exit ?_
          simp only [Exit.then, Exit.inBlock, if_true]
          refine ‹∀ (a : Act) (w : World), Code.wpIn _ _ _ (Code.region 8 _ _) _ a w → _› _ _ ?_
          refine wpIn_region_lit ?_
          refine wpListIn_plain rfl (fun K' hK' => opIn_skip' nofun nofun (store_run _ 3 (.tmp 9) (.const (.int .i64 0)) _ rfl (st3 hT.out.p)) (hK' _ _ (wpListIn_nil ?_)))
          show KeepsFrom W8.heap.size W _ ∧ WkKp _ _ _ gn gk W _ ∧ _ ∧ _
          refine ⟨?_, kk.out.trans ⟨(below_setRow (Below.refl 0 wr) (Nat.zero_le _) _).size, fun g hg => heap_setRow _ _ _ _ ?_⟩, ?_, ?_⟩
          · exact KeepsFrom.trans kf.out ⟨(below_setRow (Below.refl 0 wr) (Nat.zero_le _) _).size, fun q o hB hk _ => (heap_setRow _ _ _ _ (by omega)).trans hk⟩
          · rcases hg with rfl | rfl | rfl | rfl | rfl <;> omega
          · exact Nat.le_trans hsz' (below_setRow (Below.refl 0 wr) (Nat.zero_le _) _).size
          · rw [hsn.out, htx.out]
            exact hT.out.put_p 0
  case done =>
    rintro D ys W hD rfl ⟨_, hI⟩ hdef
    have hout : (trS key nonce from_ tx (blkSeq (from_ / 16) (n / 16 + 2))).out = turnL key nonce from_ tx := by rw [← htx]; exact trS_all key nonce from_ tx
    have c7 := hI.sl.cell 0
    have c7' : W.cell? ⟨w.heap.size + 2, 0, none⟩ = some (.slice (some ⟨w.heap.size + 1, 0, none⟩) n n) := c7
    have Ho := hI.o
    rw [hout] at Ho
    have Hb := hI.bel
    clear c7 hI
    gi_wp2
    refine ⟨by simp, .inl ⟨_, _, rfl, run_takeDeferred hdef, ?_⟩⟩
    have hBD := Hb.trans (belowK_b (w := w) (Nat.le_refl _) _ D _ (.deferred none) (by omega) hdef rfl rfl)
    have hg := grownBy_putObj' W D (.deferred none)
    have hDl := (Array.getElem?_eq_some_iff.1 hdef).1
    have Ho2 : Arr (W.putObj D (.deferred none)) (w.heap.size + 1) 5 (turnL key nonce from_ tx) := (hg.block _ Ho.lt (fun e => by cases e; omega)).trans Ho
    refine ⟨.slice (some ⟨w.heap.size + 1, 0, none⟩) n n, ?_, rfl, Ho2, hBD⟩
    simp [results, Try.f19, go_sem]
  case stop =>
    intro D c pre W _ _ h
    exact h.elim
end Go.Proofs.Ytgdphdnghackfaa
