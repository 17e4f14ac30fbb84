/- The walk of the document's Turn (orielref05.Turn, layer 5). -/
import Derived.Test.YtgdphdnghackfaaR15
import Derived.Test.YtgdphdnghackfaaR17
namespace Go.Proofs.Ytgdphdnghackfaa
open Go.RowKit Go.Shelf
/-- Its memory: the table, the rounds, the block at hand, what came out so far, the text. -/
structure TrMem (w : World) (A : Option Addr) (n gt gr gb base : Nat) (r bl : List Nat) (Ao : Option Addr) (c co : Nat) (l tx : List Nat) (W : World) : Prop where
  t : Arr W gt 52 swapT
  r : Arr W gr 54 r
  b : Arr W gb 22 bl
  o : Own W base 5 .u8 Ao c co (l.map fun (x : Nat) => (x : Int))
  x : Sl W w.heap.size .u8 A n (tx.map fun (x : Nat) => (x : Int))
  bel : Below w.heap.size w W
  hb : base ≤ W.heap.size
theorem TrMem.keep {w W W' : World} {A : Option Addr} {n gt gr gb base : Nat} {r bl : List Nat} {Ao : Option Addr} {c co : Nat} {l tx : List Nat} (h : TrMem w A n gt gr gb base r bl Ao c co l tx W) (k : Below W.heap.size W W') : TrMem w A n gt gr gb base r bl Ao c co l tx W' :=
  ⟨h.t.keep k h.t.lt, h.r.keep k h.r.lt, h.b.keep k h.b.lt, h.o.keep k (Nat.le_refl _), h.x.keep k h.bel.size, h.bel.trans (k.mono h.bel.size), Nat.le_trans h.hb k.size⟩
theorem TrMem.next {w W W' : World} {A : Option Addr} {n gt gr gb base : Nat} {r bl : List Nat} {Ao A2 : Option Addr} {c co c2 : Nat} {l l2 tx : List Nat} (h : TrMem w A n gt gr gb base r bl Ao c co l tx W) (ht : gt < base) (hr : gr < base) (hb : gb < base) (hw : w.heap.size ≤ base) (k : Below base W W') (o2 : Own W' base 5 .u8 A2 (c + 1) c2 (l2.map fun (x : Nat) => (x : Int))) (hs : base ≤ W'.heap.size) : TrMem w A n gt gr gb base r bl A2 (c + 1) c2 l2 tx W' :=
  ⟨h.t.keep k ht, h.r.keep k hr, h.b.keep k hb, o2, h.x.keep k hw, h.bel.trans (k.mono hw), hs⟩
theorem Own.farRow {w : World} {base n cap k : Nat} {e : TypeId} {ki : IntKind} {A : Option Addr} {zs : List Int} (h : Own w base e ki A n cap zs) (hk : k < base) (ds : Array Value) : Own (w.setRow k ds) base e ki A n cap zs := by
  refine ⟨h.1, ?_⟩
  rcases h.2 with hn | ⟨g, c, cur, hv, hg, hh, rest⟩
  · exact .inl hn
  · exact .inr ⟨g, c, cur, hv, hg, (heap_setRow w k ds g (by omega)).trans hh, rest⟩
theorem TrMem.putB {w W : World} {A : Option Addr} {n gt gr gb base : Nat} {r bl : List Nat} {Ao : Option Addr} {c co : Nat} {l tx : List Nat} (h : TrMem w A n gt gr gb base r bl Ao c co l tx W) (b2 : List Nat) (h1 : gb ≠ gt) (h2 : gb ≠ gr) (h3 : gb < base) (h4 : w.heap.size ≤ gb) : TrMem w A n gt gr gb base r b2 Ao c co l tx (W.setRow gb (u8s b2)) :=
  ⟨Box.farRow h.t h1, Box.farRow h.r h2, Arr.setRow h.b, h.o.farRow h3 _, h.x.keep (below_setRow (Below.refl w.heap.size W) h4 _) (Nat.le_refl _), below_setRow h.bel h4 _, by rw [setRow_size]; exact h.hb⟩
theorem turnL_take (key : List Nat) (nonce f c : Nat) (tx : List Nat) (h : c < tx.length) : (turnL key nonce f tx).take (c + 1) = (turnL key nonce f tx).take c ++ [tx.getD c 0 ^^^ sb key nonce (f + c)] := by
  have h1 : c < (turnL key nonce f tx).length := by rw [turnL_len]; exact h
  rw [List.take_add_one, List.getElem?_eq_getElem h1]
  have h2 := turnL_get key nonce f tx c h
  rw [List.getD_eq_getElem?_getD, List.getElem?_eq_getElem h1] at h2
  simp only [Option.getD_some] at h2
  rw [h2]; rfl
set_option maxRecDepth 100000 in
set_option maxHeartbeats 4000000 in
theorem TurnR_to (w : World) (nonce f n cap : Nat) (A : Option Addr) (key tx : List Nat) (h : TxIn w A n cap tx) (hk : key.length = 16) (bk : Bytes key) (hn : n ≤ 1100000) (hf : f < 1100000) (hN : nonce < 18446744073709551616) (z : Int) (hz : z = (f : Int)) :
    Calls Try.prog 11 #[.agg (u8s key), .int .u64 nonce, .int .i64 z, .slice A n cap] w fun e w' => ∃ A2 c2, e = .returned (.slice A2 n c2) ∧ TxIn w' A2 n c2 (turnL key nonce f tx) ∧ Below w.heap.size w w' := by
  subst hz
  obtain ⟨r, hr⟩ : ∃ x, rdL key swapT = x := ⟨_, rfl⟩
  have orl : r.length = 176 := hr ▸ rdL_len hk bk swapT_bytes
  obtain ⟨hz52, hs52⟩ := zero_of_info info52
  obtain ⟨hz54, hs54⟩ := zero_of_info info54
  have hfI : (f : Int) < 1100000 := by omega
  have hnI : (n : Int) ≤ 1100000 := by omega
  clear hs52 hs54
  go_enter Try.func11, Try.ntmps11
  go_wp2_with fail
  refine (Table_to _).mono ?_
  rintro _ w1 ⟨rfl, H1⟩
  have K1 : Arr w1 w.heap.size 22 key := Arr.keep (show Arr (w.alloc (.cells (u8s key) 22)) w.heap.size 22 key from Box.new w 22 (u8s key)) H1 (by simp)
  have L1 := ((Below.refl w.heap.size w).alloc (Nat.le_refl _) (.cells (u8s key) 22)).trans (H1.mono (by simp))
  have u1 : (Instr.storeAt 52 (.pointer (some ⟨w1.heap.size, 0, none⟩)) (.agg (u8s swapT))).run Try.prog (w1.alloc (.cells Z52 52)) = .ok () (w1.alloc (.cells (u8s swapT) 52)) := by
    have B5 := Box.new w1 52 Z52
    have := Arr.storeAt (l := List.replicate 256 0) B5 (P := Try.prog) (ty := 52) (l' := swapT) (by rw [swapT_len]; exact size52) (by rw [swapT_len]; simp)
    rw [World.setRow_alloc_new] at this; exact this
  have T1 : Arr (w1.alloc (.cells (u8s swapT) 52)) w1.heap.size 52 swapT := Box.new w1 52 (u8s swapT)
  have K1a := Arr.alloc K1 (.cells (u8s swapT) 52)
  have L1a := L1.alloc L1.size (.cells (u8s swapT) 52)
  have hs1 : w1.heap.size < (w1.alloc (.cells (u8s swapT) 52)).heap.size := by simp
  have hw1 := L1.size
  have u2 := K1a.loadAt (P := Try.prog) Try.underlying22 (by rw [hk]; exact size22)
  have u3 := T1.loadAt (P := Try.prog) Try.underlying52 (by rw [swapT_len]; exact size52)
  replace u1 := Kp.mk u1
  replace u2 := Kp.mk u2
  replace u3 := Kp.mk u3
  clear K1 L1 H1
  go_wp2_with ((with_reducible refine wpl_id ?_); first | (refine wpList_store rfl (t := 52) (x := .tmp 9) (y := .tmp 16) rfl rfl rfl u1.out ?_) | (refine wpList_load rfl (t := 22) (x := .tmp 4) rfl rfl u2.out ?_) | (refine wpList_load rfl (t := 52) (x := .tmp 9) rfl rfl u3.out ?_))
  refine (RoundsR_to _ key swapT r hr hk swapT_len bk swapT_bytes).mono ?_
  rintro _ w2 ⟨rfl, H2⟩
  have T2 := T1.keep H2 T1.lt
  have L2 := L1a.trans (H2.mono L1a.size)
  have hs2 := H2.size
  have u4 : (Instr.storeAt 54 (.pointer (some ⟨w2.heap.size, 0, none⟩)) (.agg (u8s r))).run Try.prog (w2.alloc (.cells Z54 54)) = .ok () (w2.alloc (.cells (u8s r) 54)) := by
    have B5 := Box.new w2 54 Z54
    have := Arr.storeAt (l := List.replicate 176 0) B5 (P := Try.prog) (ty := 54) (l' := r) (by rw [orl]; exact size54) (by rw [orl]; simp)
    rw [World.setRow_alloc_new] at this; exact this
  have hgt : w1.heap.size < w2.heap.size := by omega
  have M0 : TrMem w A n w1.heap.size w2.heap.size (w2.heap.size + 1) (w2.heap.size + 2) r (List.replicate 16 0) none 0 0 [] tx ((w2.alloc (.cells (u8s r) 54)).alloc (.cells (u8s (List.replicate 16 0)) 22)) := by
    have LL := (L2.alloc L2.size (.cells (u8s r) 54)).alloc (by rw [World.size_alloc]; have := L2.size; omega) (.cells (u8s (List.replicate 16 0)) 22)
    exact ⟨(T2.alloc _).alloc _, box_old (Box.new w2 54 (u8s r)) _ _, box_new 22 (u8s (List.replicate 16 0)) (by simp), Own.nil _ _ _ _, h.sl.1.keep LL (Nat.le_refl _), LL, by simp⟩
  replace u4 := Kp.mk u4
  have hw2 : w.heap.size ≤ w2.heap.size := L2.size
  clear T1 K1a L1a u1 u2 u3 T2 L2 H2 hs1 hs2 hz52
  go_wp2_with ((with_reducible refine wpl_id ?_); (refine wpList_store rfl (t := 54) (x := .tmp 10) (y := .tmp 19) rfl rfl rfl u4.out ?_))
  clear u4 hz54
  replace hk := Kp.mk hk
  replace orl := Kp.mk orl
  replace hr := Kp.mk hr
  have htl := h.len
  have htb := h.b
  replace htl := Kp.mk htl
  replace htb := Kp.mk htb
  clear h
  go_loopw [11, 13, 14, 15, 20, 21, 22, 23, 24, 25, 26, 27, 28, 29, 30, 31, 32, 33, 34, 35, 36, 37, 38, 39, 40, 41, 42, 43, 44, 45, 46, 47, 48, 49, 50, 51] (fun u11 u13 u14 u15 u20 u21 u22 u23 u24 u25 u26 u27 u28 u29 u30 u31 u32 u33 u34 u35 u36 u37 u38 u39 u40 u41 u42 u43 u44 u45 u46 u47 u48 u49 u50 u51 wr => ∃ (c co : Nat) (Ao : Option Addr) (bl : List Nat) (hv : Int), u11 = .slice Ao c co ∧ u13 = .int .i64 hv ∧ u14 = .int .i64 c ∧ c ≤ n ∧ bl.length = 16 ∧ Bytes bl ∧ (c = 0 → hv = -1) ∧ (0 < c → hv = ((f + c - 1 : Nat) : Int) / 16 ∧ bl = blkL key nonce ((f + c - 1) / 16)) ∧ TrMem w A n w1.heap.size w2.heap.size (w2.heap.size + 1) (w2.heap.size + 2) r bl Ao c co ((turnL key nonce f tx).take c) tx wr) (fun u11 u13 u14 u15 u20 u21 u22 u23 u24 u25 u26 u27 u28 u29 u30 u31 u32 u33 u34 u35 u36 u37 u38 u39 u40 u41 u42 u43 u44 u45 u46 u47 u48 u49 u50 u51 _ => n - (intOf u14).toNat)
  case atStart => exact ⟨0, 0, none, List.replicate 16 0, -1, rfl, rfl, rfl, Nat.zero_le _, List.length_replicate, bytes_zero _, fun _ => rfl, fun h => absurd h (by omega), by rw [List.take_zero]; exact M0⟩
  case round =>
    obtain ⟨c, co, Ao, bl, hv, rfl, rfl, rfl, hc, bl16, blB, hv0, hv1, M⟩ := hrel
    clear M0
    by_cases hlt : c < n
    · obtain ⟨b, o, rfl, _, _⟩ := M.x.2 (by omega)
      have hcell : ∀ W' {Ao' : Option Addr} {co' : Nat} {bl' l' : List Nat}, TrMem w (some ⟨b, o, none⟩) n w1.heap.size w2.heap.size (w2.heap.size + 1) (w2.heap.size + 2) r bl' Ao' c co' l' tx W' → ∀ j, j < n → W'.cell? ⟨b, o + j, none⟩ = some (.int .u8 (tx.getD j 0 : Nat)) := fun W' _ _ _ _ M' j hj => by
        obtain ⟨b', o', e, _, hc'⟩ := M'.x.2 (by omega)
        cases e
        rw [hc' j hj, tx_getD tx j (by rw [htl.out]; exact hj)]
      obtain ⟨m, hm⟩ : ∃ m, f + c = m := ⟨_, rfl⟩
      have x1 : IntKind.i64.wrap ((f : Int) + c) = (m : Int) := by rw [IntWalk.i64_in _ (by omega)]; omega
      have hltI : (c : Int) < n := by omega
      by_cases hq : hv = (m : Int) / 16
      · subst hq
        have hc0 : 0 < c := by
          rcases Nat.eq_zero_or_pos c with h0 | h0
          · have := hv0 h0; omega
          · exact h0
        obtain ⟨e1, e2⟩ := hv1 hc0
        have hbl : bl = blkL key nonce (m / 16) := by rw [e2]; congr 1; omega
        have hsb : tx.getD c 0 ^^^ bl.getD (m % 16) 0 = tx.getD c 0 ^^^ sb key nonce (f + c) := by rw [hbl, hm]; rfl
        replace M := Kp.mk M
        replace hcell := Kp.mk hcell
        replace hsb := Kp.mk hsb
        replace hbl := Kp.mk hbl
        clear hv0 hv1 e1 e2
        go_wp2_with fail
        replace M := M.out
        replace hcell := hcell.out
        replace hsb := hsb.out
        replace hbl := hbl.out
        have hp : wr.drew.cell? ⟨b, o + c, none⟩ = some (.int .u8 (tx.getD c 0 : Nat)) := (hcell wr M c hlt)
        have hq : wr.drew.cell? ⟨w2.heap.size + 1, m % 16, none⟩ = some (.int .u8 (bl.getD (m % 16) 0 : Nat)) := M.b.cell (m % 16) (by rw [bl16]; exact Nat.mod_lt _ (by decide))
        refine reg13 hlt hp hq (htb.out.get _) (blB.get _) (by omega) hn M.o M.hb _ _ _ _ _ _ _ _ _ _ _ _ _ _ _ _ _ _ _ _ _ _ _ _ _ _ _ _ _ _ _ _ _ _ _ _ _ _ _ _ _ _ _ _ _ _ _ _ ?_
        intro A2 c2 X hO2 hB2 hs2
        have M3 := M.next (by omega) (by omega) (by omega) (by omega) hB2 hO2 hs2
        rw [hsb, ← turnL_take key nonce f c tx (by rw [htl.out]; exact hlt)] at M3
        clear M hO2 hB2 hs2 hp hq hcell hsb
        go_wp2_with fail
        go_roundw
        case rel => exact ⟨c + 1, c2, A2, bl, (m : Int) / 16, rfl, rfl, congrArg (Value.int .i64) (by omega), by omega, bl16, blB, fun h => absurd h (by omega), fun _ => ⟨by rw [show f + (c + 1) - 1 = m by omega], by rw [show f + (c + 1) - 1 = m by omega]; exact hbl⟩, M3⟩
        case measure => simp [intOf]; omega
      · have hne0 : ¬ ((m : Int) / 16 = hv) := fun e => hq e.symm
        obtain ⟨d, hd⟩ : ∃ d : Int, (m : Int) / 16 = d := ⟨_, rfl⟩
        have hne : ((m : Int) / 16 == hv) = false ∧ ((m : Int) / 16 != hv) = true := by simp [hne0]
        obtain ⟨hne1, hne⟩ := hne
        clear hne0 hd
        have u5 := M.r.loadAt (P := Try.prog) Try.underlying54 (by rw [orl.out]; exact size54)
        have u6 := M.t.loadAt (P := Try.prog) Try.underlying52 (by rw [swapT_len]; exact size52)
        replace u5 := Kp.mk u5
        replace u6 := Kp.mk u6
        replace M := Kp.mk M
        replace hcell := Kp.mk hcell
        clear hv0 hv1 hq
        go_wp2_with ((with_reducible refine wpl_id ?_); first | (refine wpList_load rfl (t := 54) (x := .tmp 10) rfl rfl u5.out ?_) | (refine wpList_load rfl (t := 52) (x := .tmp 9) rfl rfl u6.out ?_))
        have SB := blockR_to wr nonce (m / 16) key r (blkL key nonce (m / 16)) rfl hr.out hk.out bk hN (by omega)
        rw [show ((m / 16 : Nat) : Int) = (m : Int) / 16 by omega] at SB
        refine SB.mono ?_
        rintro _ w5 ⟨rfl, H5⟩
        obtain ⟨bk16, bkB⟩ := blkL_ok hk.out bk nonce (m / 16)
        have M5 := M.out.keep H5
        have u7 := M5.b.storeAt (P := Try.prog) (ty := 22) (l' := blkL key nonce (m / 16)) (by rw [bk16]; exact size22) (by rw [bk16, bl16])
        have M4 := M5.putB (blkL key nonce (m / 16)) (by omega) (by omega) (by omega) (by omega)
        have hsb : tx.getD c 0 ^^^ (blkL key nonce (m / 16)).getD (m % 16) 0 = tx.getD c 0 ^^^ sb key nonce (f + c) := by rw [hm]; rfl
        clear M5 M SB H5 u5 u6 hne hne1
        replace u7 := Kp.mk u7
        replace M4 := Kp.mk M4
        replace hsb := Kp.mk hsb
        replace bk16 := Kp.mk bk16
        go_wp2_with ((with_reducible refine wpl_id ?_); (refine wpList_store rfl (t := 22) (x := .tmp 12) (y := .tmp 39) rfl rfl rfl u7.out ?_))
        clear u7
        replace M4 := M4.out
        replace hcell := hcell.out
        replace hsb := hsb.out
        replace bk16 := bk16.out
        have hp : (w5.setRow (w2.heap.size + 1) (u8s (blkL key nonce (m / 16)))).drew.cell? ⟨b, o + c, none⟩ = some (.int .u8 (tx.getD c 0 : Nat)) := (hcell (w5.setRow (w2.heap.size + 1) (u8s (blkL key nonce (m / 16)))) M4 c hlt)
        have hq : (w5.setRow (w2.heap.size + 1) (u8s (blkL key nonce (m / 16)))).drew.cell? ⟨w2.heap.size + 1, m % 16, none⟩ = some (.int .u8 ((blkL key nonce (m / 16)).getD (m % 16) 0 : Nat)) := M4.b.cell (m % 16) (by rw [bk16]; exact Nat.mod_lt _ (by decide))
        refine reg13 hlt hp hq (htb.out.get _) (bkB.get _) (by omega) hn M4.o M4.hb _ _ _ _ _ _ _ _ _ _ _ _ _ _ _ _ _ _ _ _ _ _ _ _ _ _ _ _ _ _ _ _ _ _ _ _ _ _ _ _ _ _ _ _ _ _ _ _ ?_
        intro A2 c2 X hO2 hB2 hs2
        have M3 := M4.next (by omega) (by omega) (by omega) (by omega) hB2 hO2 hs2
        rw [hsb, ← turnL_take key nonce f c tx (by rw [htl.out]; exact hlt)] at M3
        clear M4 hO2 hB2 hs2 hp hq hcell hsb
        go_wp2_with fail
        go_roundw
        case rel => exact ⟨c + 1, c2, A2, (blkL key nonce (m / 16)), (m : Int) / 16, rfl, rfl, congrArg (Value.int .i64) (by omega), by omega, bk16, bkB, fun h => absurd h (by omega), fun _ => ⟨by rw [show f + (c + 1) - 1 = m by omega], by rw [show f + (c + 1) - 1 = m by omega]⟩, M3⟩
        case measure => simp [intOf]; omega
    · obtain rfl : c = n := by omega
      have e : (turnL key nonce f tx).take c = turnL key nonce f tx := List.take_of_length_le (by rw [turnL_len, htl.out]; exact Nat.le_refl _)
      rw [e] at M
      have hO := M.o
      have hB := M.bel
      clear M hv0 hv1 e
      go_wp2_with fail
      refine bodyPost_ret (v := .slice Ao c co) (by simp [results, Try.f11, go_sem]) rfl ⟨Ao, co, rfl, ?_, hB⟩
      have hcap : c ≤ co ∧ co ≤ maxLen := by
        rcases hO.2 with ⟨hv, h0⟩ | ⟨g, c2, cur, hv, _, _, h1, h2, _⟩
        · simp only [Value.slice.injEq] at hv; exact ⟨by omega, by rw [hv.2.2]; simp [maxLen]⟩
        · simp only [Value.slice.injEq] at hv; exact ⟨by omega, by omega⟩
      exact ⟨by rw [turnL_len]; exact htl.out, turnL_bytes hk.out bk _ _ htb.out, hO.sl, hcap.1, hcap.2, tx_wf (turnL_bytes hk.out bk _ _ htb.out)⟩
end Go.Proofs.Ytgdphdnghackfaa
