/- The walk of the law CtrTwice (layer 5). -/
import Derived.Test.YtgdphdnghackfaaL6a
namespace Go.Proofs.Ytgdphdnghackfaa
open Go.RowKit Go.Shelf
theorem strN_append (a b : List Nat) : strN a ++ strN b = strN (a ++ b) := by
  apply ByteArray.ext
  rw [ByteArray.data_append]
  simp [strN, strOfNums]
theorem strN_size (a : List Nat) : (strN a).size = a.length := by rw [strN, strOfNums_size, List.length_map]
theorem turnL_cut (key : List Nat) (nonce c : Nat) (tx : List Nat) : turnL key nonce 0 (tx.take c) ++ turnL key nonce c (tx.drop c) = turnL key nonce 0 tx := by
  refine list_ext_getD (by simp [turnL_len]; omega) fun j hj => ?_
  have hj' : j < tx.length := by simp [turnL_len] at hj; omega
  rw [turnL_get _ _ _ _ _ hj']
  by_cases hc : j < c
  · have h1 : j < (turnL key nonce 0 (tx.take c)).length := by rw [turnL_len, List.length_take]; omega
    rw [List.getD_eq_getElem?_getD, List.getElem?_append_left h1, ← List.getD_eq_getElem?_getD, turnL_get _ _ _ _ _ (by rw [List.length_take]; omega)]
    simp [List.getD_eq_getElem?_getD, hc]
  · have h1 : (turnL key nonce 0 (tx.take c)).length = c := by rw [turnL_len, List.length_take]; omega
    rw [List.getD_eq_getElem?_getD, List.getElem?_append_right (by omega), h1, ← List.getD_eq_getElem?_getD, turnL_get _ _ _ _ _ (by rw [List.length_drop]; omega)]
    have e : c + (j - c) = j := by omega
    simp [List.getD_eq_getElem?_getD, List.getElem?_drop, e]
theorem wpList_val {P : Program} {ops : Array Oper} {rest : List Oper} {o : Oper} {a : Act} {w w' : World} {v : Value} {Q : Exit → Act → World → Prop} (hgd : o.guard = none) (h : (execOp a.eval o).run P w = .ok (.value v) w') (hk : wpList P ops Q rest (a.put o.dst v) w') : wpList P ops Q (o :: rest) a w := by
  refine wpList_plain hgd fun K hK => ?_
  unfold Oper.wp
  rw [h]
  exact hK _ _ hk
set_option maxRecDepth 100000 in
set_option maxHeartbeats 4000000 in
theorem twice_in (key : List Nat) (hk : key.length = 16) (bk : Bytes key) (nonce n cap c : Nat) (A : Option Addr) (tx : List Nat) (hN : nonce < 18446744073709551616) (hn : n ≤ 1000) (hc : c ≤ n) (w : World) (h : TxIn w A n cap tx) :
    Calls Try.prog 6 #[.agg (u8s key), .int .u64 nonce, .slice A n cap, .int .i64 c] w fun e w' => e = .returned (.bool true) ∧ Below w.heap.size w w' := by
  have g1 : (n : Int) ≤ 1000 := by omega
  have g2 : (c : Int) ≤ n := by omega
  have hnc := h.sl.2.1
  go_enter Try.func6, Try.ntmps6
  go_wp2_with fail
  refine (known_to _).mono ?_
  rintro _ w1 ⟨rfl, H1⟩
  have K1 : Arr w1 w.heap.size 22 key := Arr.keep (show Arr (w.alloc (.cells (u8s key) 22)) w.heap.size 22 key from Box.new w 22 (u8s key)) H1 (by simp)
  have L1 := ((Below.refl w.heap.size w).alloc (Nat.le_refl _) (.cells (u8s key) 22)).trans (H1.mono (by simp))
  have k1 := K1.loadAt (P := Try.prog) Try.underlying22 (by rw [hk]; exact size22)
  replace k1 := Kp.mk k1
  clear H1
  go_wp2_with ((with_reducible refine wpl_id ?_); (refine wpList_load rfl (t := 22) (x := .tmp 4) rfl rfl k1.out ?_))
  refine (Turn_to w1 nonce n cap A key tx (h.keep L1 (Nat.le_refl _)) hk bk (by omega) hN).mono ?_
  rintro _ w2 ⟨ga, hga, rfl, O2, H2⟩
  have K2 := K1.keep H2 K1.lt
  have L2 := L1.trans (H2.mono L1.size)
  have k2 := K2.loadAt (P := Try.prog) Try.underlying22 (by rw [hk]; exact size22)
  replace k2 := Kp.mk k2
  clear k1 K1 H2
  go_wp2_with ((with_reducible refine wpl_id ?_); (refine wpList_load rfl (t := 22) (x := .tmp 4) rfl rfl k2.out ?_))
  refine (New_to w2 nonce key hk).mono ?_
  rintro _ w3 ⟨gF, gn, gk, rfl, hF1, hn1, hk1, hne1, hne2, B3, N3, G3, H3⟩
  have K3 := K2.keep H3 K2.lt
  have O3 := O2.keep H3 O2.lt
  have ga2 := O2.lt
  have key2 := K2.lt
  have L3 := L2.trans (H3.mono L2.size)
  have X3 := h.keep L3 (Nat.le_refl _)
  clear k2 K2 O2 H3
  go_wp2_with ((with_reducible refine wpl_id ?_); (refine wpList_val rfl (exec_upto rfl (x := .tmp 43) (k := 44) rfl rfl hc hnc) ?_))
  refine (FlowTurn_to w3 gF gn gk 0 nonce c cap A key (tx.take c) B3 N3 G3 (X3.upto hc) hk bk (by omega) hN).mono ?_
  rintro _ w4 ⟨gx, hgx, rfl, OX, B4, H4⟩
  have gF3 := B3.lt
  have L4 := L3.grown H4 L3.size (fun r e => by cases e; omega)
  have K4 := Box.grown K3 H4 (fun e => by cases e; omega)
  have O4 := Box.grown O3 H4 (fun e => by cases e; omega)
  have N4 := N3.grown H4 (fun e => hne1 (by cases e; rfl))
  have G4 := Box.grown G3 H4 (fun e => hne2 (by cases e; rfl))
  have X4 := h.keep L4 (Nat.le_refl _)
  have hs4 := H4.size
  rw [Nat.zero_add] at B4
  obtain ⟨m, hm⟩ : ∃ m, n - c = m := ⟨_, rfl⟩
  have hmI : IntKind.i64.wrap ((n : Int) - c) = (m : Int) := by rw [IntWalk.i64_in _ (by omega)]; omega
  replace hm := Kp.mk hm
  clear B3 N3 G3 K3 O3 X3 H4
  go_wp2_with ((with_reducible refine wpl_id ?_); (refine wpList_val rfl (exec_fromA rfl (x := .tmp 51) (k := 52) rfl rfl hc hnc) ?_))
  refine (FlowTurn_to w4 gF gn gk c nonce (n - c) (cap - c) _ key (tx.drop c) B4 N4 G4 (X4.fromB hc) hk bk (by omega) hN).mono ?_
  rintro _ w5 ⟨gy, hgy, rfl, OY, _, H5⟩
  rw [hm.out]
  have gx4 := OX.lt
  have L5 := L4.grown H5 L4.size (fun r e => by cases e; omega)
  have K5 : Arr w5 w.heap.size 22 key := Box.grown K4 H5 (fun e => by cases e; omega)
  have O5 : Arr w5 ga 5 _ := Box.grown O4 H5 (fun e => by cases e; omega)
  have OX5 : Arr w5 gx 5 _ := Box.grown OX H5 (fun e => by cases e; omega)
  have k5 := K5.loadAt (P := Try.prog) Try.underlying22 (by rw [hk]; exact size22)
  replace k5 := Kp.mk k5
  clear B4 N4 G4 X4 K4 O4 OX H5
  go_wp2_with ((with_reducible refine wpl_id ?_); (refine wpList_load rfl (t := 22) (x := .tmp 4) rfl rfl k5.out ?_))
  have hmm := hm.out
  refine (Stream_to w5 nonce c m key hk bk hN (by omega)).mono ?_
  rintro _ w6 ⟨gs, hgs, rfl, OS, H6⟩
  have L6 := L5.trans (H6.mono L5.size)
  have M6 : TwMem w A n cap ga gx gy gs c m nonce key tx w6 :=
    ⟨K5.keep H6 K5.lt, h.keep L6 (Nat.le_refl _), TxIn.of_arr (O5.keep H6 O5.lt) (by rw [turnL_len]; exact h.len) (turnL_bytes hk bk _ _ h.b) (by simp only [maxLen]; omega),
      TxIn.of_arr (OX5.keep H6 OX5.lt) (by rw [turnL_len, List.length_take, h.len]; omega) (turnL_bytes hk bk _ _ (fun x hx => h.b x (List.mem_of_mem_take hx))) (by simp only [maxLen]; omega),
      TxIn.of_arr (OY.keep H6 OY.lt) (by rw [turnL_len, List.length_drop, h.len]; omega) (turnL_bytes hk bk _ _ (fun x hx => h.b x (List.mem_of_mem_drop hx))) (by simp only [maxLen]; omega),
      TxIn.of_arr OS (by simp [turnL_len]) (turnL_bytes hk bk _ _ (bytes_zero m)) (by simp only [maxLen]; omega), L6⟩
  obtain ⟨sx, hsx⟩ : ∃ s, strN (turnL key nonce 0 (tx.take c)) = s := ⟨_, rfl⟩
  obtain ⟨sy, hsy⟩ : ∃ s, strN (turnL key nonce c (tx.drop c)) = s := ⟨_, rfl⟩
  obtain ⟨st, hst⟩ : ∃ s, strN tx = s := ⟨_, rfl⟩
  have hsa : strN (turnL key nonce 0 tx) = sx ++ sy := by rw [← hsx, ← hsy, strN_append, turnL_cut]
  have hsz : sx.size + sy.size ≤ 9223372036854775807 := by
    rw [← hsx, ← hsy, strN_size, strN_size, turnL_len, turnL_len, List.length_take, List.length_drop, h.len]
    omega
  have htl := h.len
  have htb := h.b
  replace M6 := Kp.mk M6
  replace hsa := Kp.mk hsa
  replace hsz := Kp.mk hsz
  replace hmm := Kp.mk hmm
  replace htl := Kp.mk htl
  clear k5 K5 O5 OX5 OY OS H6 L5 L6 L4 L3 L2 L1 h
  go_wp2_with fail
  refine tw12 (M6.out.keep (Below.refl _ _).drew) hsx hsy hsa.out hst hsz.out hk bk (by omega) hN hmI _ _ _ _ _ _ _ _ _ _ _ _ _ _ _ _ _ _ _ _ _ _ _ _ _ _ _ _ _ _ _ _ _ _ _ _ _ _ _ _ _ _ _ _ _ _ _ _ _ _ _ _ _ _ _ _ _ _ _ _ _ _ _ _ _ _ _ _ _ _ _ _ _ _ _ _ _ _ _ _ _ _ _ _ _ _ _ _ _ _ _ _ _ _ _ _ _ _ _ _ _ _ _ _ _ _ _ _ _ _ _ _ _ ?_
  intro v85 X M
  clear M6 hsa hsz hsx hsy hst
  replace M := Kp.mk M
  go_wp2_with fail
  go_loopw [16, 100, 101, 102, 103, 104, 105, 106, 107, 108, 109, 110, 111, 112, 113, 114, 115, 116, 117, 118, 119, 120, 121, 122, 123] (fun u16 u100 u101 u102 u103 u104 u105 u106 u107 u108 u109 u110 u111 u112 u113 u114 u115 u116 u117 u118 u119 u120 u121 u122 u123 wr => ∃ j : Nat, u16 = .int .i64 j ∧ j ≤ m ∧ TwMem w A n cap ga gx gy gs c m nonce key tx wr) (fun u16 u100 u101 u102 u103 u104 u105 u106 u107 u108 u109 u110 u111 u112 u113 u114 u115 u116 u117 u118 u119 u120 u121 u122 u123 _ => m - (intOf u16).toNat)
  case atStart => exact ⟨0, rfl, Nat.zero_le _, M.out⟩
  case round =>
    obtain ⟨j, rfl, hj, Mr⟩ := hrel
    clear M
    by_cases hlt : j < m
    · have hltI : (j : Int) < (m : Int) := by omega
      have hmo := hmm.out
      obtain ⟨b, o, rfl, _, _⟩ := Mr.x.sl.1.2 (by omega)
      have hcx := (Mr.keep (Below.refl _ _).drew).x.sl.1.2 (by omega)
      obtain ⟨b', o', e, _, hcx'⟩ := hcx
      cases e
      have ht := hcx' (c + j) (by omega)
      rw [tx_getD tx (c + j) (by rw [htl.out]; omega)] at ht
      have hss := (Mr.keep (Below.refl _ _).drew).ss.sl.1.2 (by omega)
      obtain ⟨b', o', e, _, hss'⟩ := hss
      cases e
      have hp := hss' j hlt
      rw [tx_getD _ j (by simp [turnL_len]; omega)] at hp
      have haa := (Mr.keep (Below.refl _ _).drew).a.sl.1.2 (by omega)
      obtain ⟨b', o', e, _, haa'⟩ := haa
      cases e
      have hq := haa' (c + j) (by omega)
      rw [tx_getD _ (c + j) (by rw [turnL_len, htl.out]; omega)] at hq
      have hadd : IntKind.i64.wrap ((c : Int) + j) = ((c + j : Nat) : Int) := by rw [IntWalk.i64_in _ (by omega)]; omega
      have hpq : (turnL key nonce c (List.replicate m 0)).getD j 0 = (turnL key nonce 0 tx).getD (c + j) 0 ^^^ tx.getD (c + j) 0 := by
        rw [turnL_get _ _ _ _ _ (by simpa using hlt), turnL_get _ _ _ _ _ (by rw [htl.out]; omega), Nat.zero_add]
        rw [show (List.replicate m 0).getD j 0 = 0 by simp [List.getD_eq_getElem?_getD, hlt], Nat.zero_xor]
        rw [Nat.xor_comm (tx.getD (c + j) 0), Nat.xor_assoc, Nat.xor_self, Nat.xor_zero]
      have hql : (turnL key nonce 0 tx).getD (c + j) 0 < 256 := (turnL_bytes hk bk _ _ htb).get _
      have htb2 : tx.getD (c + j) 0 < 256 := htb.get _
      have M2 := Mr.keep (Below.refl _ _).drew
      clear hcx' hss' haa' Mr
      replace M2 := Kp.mk M2
      replace ht := Kp.mk ht
      replace hp := Kp.mk hp
      replace hq := Kp.mk hq
      replace hpq := Kp.mk hpq
      replace hql := Kp.mk hql
      replace htb2 := Kp.mk htb2
      go_wp2_with fail
      refine tw17 hlt (by omega) hadd hp.out hq.out ht.out hql.out htb2.out hpq.out _ _ _ _ _ _ _ _ _ _ _ _ _ _ _ _ _ _ _ _ _ _ _ _ _ _ _ _ _ _ _ _ _ _ _ _ _ _ _ _ _ _ _ _ _ _ _ _ _ _ _ _ _ _ _ _ _ _ _ _ _ _ _ _ _ _ _ _ _ _ _ _ _ _ _ _ _ _ _ _ _ _ _ _ _ _ _ _ _ _ _ _ _ _ _ _ _ _ _ _ _ _ _ _ _ _ _ _ _ _ _ _ _ _ _ _ _ _ _ ?_
      go_wp2_with fail
      go_roundw
      case rel => exact ⟨j + 1, congrArg (Value.int .i64) (by omega), by omega, M2.out⟩
      case measure => simp [intOf]; omega
    · obtain rfl : j = m := by omega
      have bel := Mr.bel
      clear Mr
      go_wp2_with fail
      exact bodyPost_ret (v := .bool true) (by simp [results, Try.f6, go_sem]) rfl ⟨rfl, bel⟩
theorem twice_out (key : List Nat) (nonce n cap : Nat) (A : Option Addr) (c : Int) (hc : 1000 < n ∨ c < 0 ∨ (n : Int) < c) (w : World) :
    Calls Try.prog 6 #[.agg (u8s key), .int .u64 nonce, .slice A n cap, .int .i64 c] w fun e w' => e = .returned (.bool true) ∧ Below w.heap.size w w' := by
  go_enter Try.func6, Try.ntmps6
  go_wp2_with fail
  refine (known_to _).mono ?_
  rintro _ w1 ⟨rfl, H1⟩
  have L1 := ((Below.refl w.heap.size w).alloc (Nat.le_refl _) (.cells (u8s key) 22)).trans (H1.mono (by simp))
  clear H1
  have hc2 : (1000 : Int) < n ∨ c < 0 ∨ (n : Int) < c := by omega
  clear hc
  go_wp2_with fail
  all_goals exact bodyPost_ret (v := .bool true) (by simp [results, Try.f6, go_sem]) rfl ⟨rfl, L1⟩
theorem twice_any (zk : List Int) (sk : zk.length = 16) (wk : ∀ z ∈ zk, (Lit.int .u8 z).wf = true) (zn : Int) (wn : (Lit.int .u64 zn).wf = true) (A : Option Addr) (n cap : Nat) (zs : List Int) (c : Int) (w : World) (hs : SlIn w .u8 A n cap zs) :
    Calls Try.prog 6 #[.agg (zk.map (Value.int .u8)).toArray, .int .u64 zn, .slice A n cap, .int .i64 c] w fun e w' => e = .returned (.bool true) ∧ Below w.heap.size w w' := by
  obtain ⟨key, ek, lk, bk⟩ := bytes_of wk
  obtain ⟨nonce, rfl, hN⟩ := u64_nat wn
  obtain ⟨tx, h⟩ := TxIn.of_slin hs
  rw [ek]
  by_cases hc : 1000 < n ∨ c < 0 ∨ (n : Int) < c
  · exact twice_out key nonce n cap A c hc w
  · obtain ⟨c', rfl⟩ : ∃ x : Nat, c = x := ⟨c.toNat, by omega⟩
    exact twice_in key (by omega) bk nonce n cap c' A tx hN (by omega) (by omega) w h
end Go.Proofs.Ytgdphdnghackfaa
