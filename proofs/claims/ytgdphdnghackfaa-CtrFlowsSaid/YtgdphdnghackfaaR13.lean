/- The walk of known (layer 5's statements): it is true. Strings of bytes. -/
import Derived.Test.YtgdphdnghackfaaR12
import Derived.Laws.BytesArg
import Derived.Lib.SlBytesConst
import Derived.Lib.SmallJoins
namespace Go.Proofs.Ytgdphdnghackfaa
open Go.RowKit Go.Shelf
/-- The string of bytes. -/
def strN (l : List Nat) : ByteArray := strOfNums (l.map fun (x : Nat) => (x : Int))
theorem strN_inj {a b : List Nat} (ha : Bytes a) (hb : Bytes b) (h : strN a = strN b) : a = b := by
  have h1 := congrArg (fun s : ByteArray => s.data.toList) h
  simp only [strN, strOfNums_data, List.map_map] at h1
  have key : ∀ (a b : List Nat), Bytes a → Bytes b → a.map ((fun (n : Int) => UInt8.ofNat n.toNat) ∘ fun (x : Nat) => (x : Int)) = b.map ((fun (n : Int) => UInt8.ofNat n.toNat) ∘ fun (x : Nat) => (x : Int)) → a = b := by
    intro a
    induction a with
    | nil => intro b _ _ h; cases b with | nil => rfl | cons y ys => simp at h
    | cons x xs ih =>
      intro b ha hb h
      cases b with
      | nil => simp at h
      | cons y ys =>
        simp only [List.map_cons, List.cons.injEq, Function.comp, Int.toNat_natCast] at h
        have hx := ha x (List.mem_cons_self ..)
        have hy := hb y (List.mem_cons_self ..)
        have e : x = y := by
          have := congrArg UInt8.toNat h.1
          simp at this
          omega
        rw [e, ih ys (fun z hz => ha z (List.mem_cons_of_mem _ hz)) (fun z hz => hb z (List.mem_cons_of_mem _ hz)) h.2]
  exact key a b ha hb h1
theorem strT {w : World} {A : Option Addr} {n cap : Nat} {tx : List Nat} {s : ByteArray} (hs : strN tx = s) (h : TxIn w A n cap tx) : (convert 25 9 (.slice A n cap)).run Try.prog w = .ok (.string s) w := by
  subst hs
  have h' := h.sl.1
  rcases Nat.eq_zero_or_pos n with h0 | h0
  · subst h0
    obtain rfl : tx = [] := List.eq_nil_of_length_eq_zero h.len
    cases A with
    | none => exact run_convert_bytes_nil w 25 5 Try.underlying25 Try.underlying5 0 cap 9 Try.underlying9
    | some a =>
      rw [run_convert_bytes_string w 25 9 5 _ 0 cap Try.underlying25 Try.underlying5 Try.underlying9, run_bytesToString w a 0 cap [] (by simp [loadCells, loadCellsFrom])]
      rfl
  · obtain ⟨b, o, rfl, hb, hc⟩ := h'.2 h0
    exact run_convert_bytes_arg w 25 5 Try.underlying25 Try.underlying5 b o n cap _ h'.1 (fun i hi => by rw [hc i hi]; simp [List.getD]) 9 Try.underlying9
theorem turnL_get (key : List Nat) (nonce f : Nat) (tx : List Nat) (j : Nat) (h : j < tx.length) : (turnL key nonce f tx).getD j 0 = tx.getD j 0 ^^^ sb key nonce (f + j) := by
  simp [turnL, List.getD_eq_getElem?_getD, h]
theorem list_ext_getD {a b : List Nat} (hl : a.length = b.length) (h : ∀ j, j < a.length → a.getD j 0 = b.getD j 0) : a = b := by
  apply List.ext_getElem hl
  intro j h1 h2
  have := h j h1
  simpa [List.getD_eq_getElem?_getD, h1, h2] using this
/-- A text that is turned twice is the text. -/
theorem turnL_twice (key : List Nat) (nonce f : Nat) (tx : List Nat) : turnL key nonce f (turnL key nonce f tx) = tx := by
  refine list_ext_getD (by simp [turnL_len]) fun j hj => ?_
  have h1 : j < tx.length := by simpa [turnL_len] using hj
  rw [turnL_get _ _ _ _ _ (by rw [turnL_len]; exact h1), turnL_get _ _ _ _ _ h1, Nat.xor_assoc, Nat.xor_self, Nat.xor_zero]
def helloL : List Nat := [104, 101, 108, 108, 111, 44, 32, 104, 101, 108, 108, 111, 44, 32, 104, 101, 108, 108, 111]
def knKey : List Nat := [1, 2, 3, 0, 0, 0, 0, 0, 0, 0, 0, 0, 0, 0, 0, 0]
theorem knKey_bytes : Bytes knKey := by unfold Bytes; decide
theorem helloL_bytes : Bytes helloL := by unfold Bytes; decide
set_option maxRecDepth 100000 in
theorem kn_sb : sb knKey 7 0 ≠ 0 := by decide +kernel
theorem kn_turn : turnL knKey 7 0 helloL ≠ helloL := by
  intro h
  have h1 := turnL_get knKey 7 0 helloL 0 (by decide)
  rw [h] at h1
  have h2 : helloL.getD 0 0 ^^^ (helloL.getD 0 0 ^^^ sb knKey 7 (0 + 0)) = helloL.getD 0 0 ^^^ helloL.getD 0 0 := by rw [← h1]
  rw [← Nat.xor_assoc, Nat.xor_self, Nat.zero_xor] at h2
  exact kn_sb h2
theorem strN_hello : strN helloL = { data := #[104, 101, 108, 108, 111, 44, 32, 104, 101, 108, 108, 111, 44, 32, 104, 101, 108, 108, 111] } := by decide +kernel
theorem TxIn.of_cells {w : World} {g n cap : Nat} {tx : List Nat} (hl : tx.length = n) (b : Bytes tx) (hg : g < w.heap.size) (hnc : n ≤ cap) (hcap : cap ≤ maxLen) (h : ∀ i, i < n → w.cell? ⟨g, i, none⟩ = some (.int .u8 (tx.getD i 0 : Nat))) : TxIn w (some ⟨g, 0, none⟩) n cap tx := by
  refine ⟨hl, b, ⟨by simpa using hl, fun _ => ⟨g, 0, rfl, hg, fun i hi => ?_⟩⟩, hnc, hcap, tx_wf b⟩
  rw [Nat.zero_add, tx_getD tx i (by omega)]
  exact h i hi
set_option maxRecDepth 100000 in
set_option maxHeartbeats 1000000 in
theorem known_to (w : World) : Calls Try.prog 9 #[] w fun e w' => e = .returned (.bool true) ∧ Below w.heap.size w w' := by
  have kc : ∀ (o : Obj) (C : Array Value) (n c : Nat), (convert 25 25 (.slice (some ⟨w.heap.size + 1, 0, none⟩) n c)).run Try.prog ((w.alloc o).alloc (.cells C 5)) = .ok (.slice (some ⟨w.heap.size + 1, 0, none⟩) n c) ((w.alloc o).alloc (.cells C 5 (C.size, C.size + 1))) := fun o C n c => by
    have := Lib.run_convert_bytes_const (P := Try.prog) (w.alloc o) 25 5 C n c Try.underlying25 Try.underlying5
    rw [World.size_alloc] at this
    exact this
  go_enter Try.func9, Try.ntmps9
  go_wp2_with fail
  show Calls Try.prog 12 #[.agg (u8s knKey), .int .u64 (7 : Nat), .slice (some ⟨w.heap.size + 1, 0, none⟩) 19 19] ((w.alloc (.cells (u8s knKey) 22)).alloc (.cells (u8s helloL) 5 (19, 20))) _
  obtain ⟨w1, hw1⟩ : ∃ w1, ((w.alloc (.cells (u8s knKey) 22)).alloc (.cells (u8s helloL) 5 (19, 20))) = w1 := ⟨_, rfl⟩
  have K0 : Arr w1 w.heap.size 22 knKey := by rw [← hw1]; exact (Box.new w 22 (u8s knKey)).alloc _
  have L0 : Below w.heap.size w w1 := by rw [← hw1]; exact ((Below.refl _ _).alloc (Nat.le_refl _) _).alloc (by simp) _
  have T0 : TxIn w1 (some ⟨w.heap.size + 1, 0, none⟩) 19 19 helloL := by
    refine TxIn.of_cells rfl helloL_bytes ?_ (Nat.le_refl _) (by simp [maxLen]) fun i hi => ?_
    · rw [← hw1]; simp
    · rw [← hw1, Joins.cell_alloc_mark_at _ _ _ _ _ _ (by simp)]
      exact u8s_get helloL i hi
  rw [hw1]
  clear kc hw1
  refine (Turn_to w1 7 19 19 _ knKey helloL T0 rfl knKey_bytes (by omega) (by omega)).mono ?_
  rintro _ w2 ⟨g2, hg2, rfl, O2, H2⟩
  have K2 := K0.keep H2 K0.lt
  have k2 := K2.loadAt (P := Try.prog) Try.underlying22 size22
  have L2 := L0.trans (H2.mono L0.size)
  obtain ⟨a, ha⟩ : ∃ a, turnL knKey 7 0 helloL = a := ⟨_, rfl⟩
  have la : a.length = 19 := by rw [← ha, turnL_len]; rfl
  have ba : Bytes a := by rw [← ha]; exact turnL_bytes rfl knKey_bytes _ _ helloL_bytes
  have hb : turnL knKey 7 0 a = helloL := by rw [← ha]; exact turnL_twice _ _ _ _
  have hne : strN a ≠ strN helloL := fun e => kn_turn (ha.trans (strN_inj ba helloL_bytes e))
  rw [ha] at O2
  have T2 := TxIn.of_arr O2 la ba (by simp [maxLen])
  rw [strN_hello] at hne
  replace k2 := Kp.mk k2
  replace hne := Kp.mk hne
  replace hb := Kp.mk hb
  replace ha := Kp.mk ha
  clear K0 L0 T0 H2
  go_wp2_with ((with_reducible refine wpl_id ?_); (refine wpList_load rfl (t := 22) (x := .tmp 1) rfl rfl k2.out ?_))
  show Calls Try.prog 12 #[.agg (u8s knKey), .int .u64 (7 : Nat), .slice (some ⟨g2, 0, none⟩) 19 19] w2 _
  refine (Turn_to w2 7 19 19 _ knKey a T2 rfl knKey_bytes (by omega) (by omega)).mono ?_
  rintro _ w3 ⟨g3, hg3, rfl, O3, H3⟩
  have K3 := K2.keep H3 K2.lt
  have c0 : w3.cell? ⟨w.heap.size, 0, none⟩ = some (.int .u8 1) := K3.cell 0 (by decide)
  have c1 : w3.cell? ⟨w.heap.size, 1, none⟩ = some (.int .u8 2) := K3.cell 1 (by decide)
  have c2 : w3.cell? ⟨w.heap.size, 2, none⟩ = some (.int .u8 3) := K3.cell 2 (by decide)
  have c3 : w3.cell? ⟨w.heap.size, 3, none⟩ = some (.int .u8 0) := K3.cell 3 (by decide)
  have c4 : w3.cell? ⟨w.heap.size, 4, none⟩ = some (.int .u8 0) := K3.cell 4 (by decide)
  have c5 : w3.cell? ⟨w.heap.size, 5, none⟩ = some (.int .u8 0) := K3.cell 5 (by decide)
  have c6 : w3.cell? ⟨w.heap.size, 6, none⟩ = some (.int .u8 0) := K3.cell 6 (by decide)
  have c7 : w3.cell? ⟨w.heap.size, 7, none⟩ = some (.int .u8 0) := K3.cell 7 (by decide)
  have c8 : w3.cell? ⟨w.heap.size, 8, none⟩ = some (.int .u8 0) := K3.cell 8 (by decide)
  have c9 : w3.cell? ⟨w.heap.size, 9, none⟩ = some (.int .u8 0) := K3.cell 9 (by decide)
  have c10 : w3.cell? ⟨w.heap.size, 10, none⟩ = some (.int .u8 0) := K3.cell 10 (by decide)
  have c11 : w3.cell? ⟨w.heap.size, 11, none⟩ = some (.int .u8 0) := K3.cell 11 (by decide)
  have c12 : w3.cell? ⟨w.heap.size, 12, none⟩ = some (.int .u8 0) := K3.cell 12 (by decide)
  have c13 : w3.cell? ⟨w.heap.size, 13, none⟩ = some (.int .u8 0) := K3.cell 13 (by decide)
  have c14 : w3.cell? ⟨w.heap.size, 14, none⟩ = some (.int .u8 0) := K3.cell 14 (by decide)
  have c15 : w3.cell? ⟨w.heap.size, 15, none⟩ = some (.int .u8 0) := K3.cell 15 (by decide)
  have L3 := L2.trans (H3.mono L2.size)
  have T3 := T2.keep H3 (Nat.le_refl _)
  rw [hb.out] at O3
  have q1 := strT (A := some ⟨g2, 0, none⟩) (n := 19) (cap := 19) rfl T3
  have q2 := strT (cap := 19) strN_hello (TxIn.of_arr (n := 19) O3 rfl helloL_bytes (by simp [maxLen]))
  obtain ⟨sa, hsa⟩ : ∃ s, strN a = s := ⟨_, rfl⟩
  rw [hsa] at q1
  replace hne := hne.out
  rw [hsa] at hne
  have hne2 : ¬ sa.toList = [104, 101, 108, 108, 111, 44, 32, 104, 101, 108, 108, 111, 44, 32, 104, 101, 108, 108, 111] := fun e => hne (by
    apply ByteArray.ext
    apply Array.ext'
    rw [← ByteArray.toList_eq, e])
  clear K2 k2 O2 H3 O3 T2 T3 L2 hb ha hsa
  replace K3 := Kp.mk K3
  replace L3 := Kp.mk L3
  go_wp2_with fail
  clear c0 c1 c2 c3 c4 c5 c6 c7 c8 c9 c10 c11 c12 c13 c14 c15
  refine (Stream_no w3 7 1048576 1 knKey (by omega) (by omega) (by omega)).mono ?_
  rintro _ w4 ⟨rfl, H4⟩
  have L4 := L3.out.trans (H4.mono L3.out.size)
  have hf : (sa.toList == [104, 101, 108, 108, 111, 44, 32, 104, 101, 108, 108, 111, 44, 32, 104, 101, 108, 108, 111]) = false := by
    rw [beq_eq_false_iff_ne]; exact hne2
  simp only [hf]
  clear hf hne hne2 q1 q2 H4
  go_wp2_with fail
  exact bodyPost_ret (v := .bool true) (by simp [results, Try.f9, go_sem]) rfl ⟨rfl, L4⟩
end Go.Proofs.Ytgdphdnghackfaa
