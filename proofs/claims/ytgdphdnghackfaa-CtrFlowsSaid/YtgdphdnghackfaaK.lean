/- Pieces of a block; a key's rounds as a list, step by step (layer 4). -/
import Derived.Test.YtgdphdnghackfaaJ
namespace Go.Proofs.Ytgdphdnghackfaa
open Go.RowKit

/-! A piece of a block out of memory, and into its head. -/
theorem Arr.loadSub {P : Program} {w : World} {g off n : Nat} {t ty : TypeId} {l : List Nat} {m : Nat} {e : TypeId} (h : Arr w g t l) (hn : off + n ≤ l.length) (hu : P.underlying ty = some (.array m e)) (hi : (P.info? ty).map (·.size) = some n) :
    (Instr.loadAt ty (.pointer (some ⟨g, off, none⟩))).run P w = .ok (.agg (u8s ((l.drop off).take n))) w := by
  have hlen : ((l.drop off).take n).length = n := by rw [List.length_take, List.length_drop]; omega
  have hl : (loadCells ⟨g, off, none⟩ (u8s ((l.drop off).take n)).toList.length).run P w = .ok (u8s ((l.drop off).take n)).toList.toArray w :=
    run_loadCells_list (P := P) w ⟨g, off, none⟩ _ (fun j v hv => by
      have hadd : (⟨g, off, none⟩ : Addr).add j = ⟨g, off + j, none⟩ := by unfold Addr.add; split <;> simp_all
      have hj : j < n := by
        have := (List.getElem?_eq_some_iff.1 hv).1
        simp [u8s] at this; omega
      rw [hadd, h.cell (off + j) (by omega), ← hv]
      have := u8s_get ((l.drop off).take n) j (by omega)
      rw [Array.getElem?_toList, this]
      congr 3
      rw [List.getD_eq_getElem?_getD, List.getD_eq_getElem?_getD, List.getElem?_take, if_pos hj, List.getElem?_drop])
  simp only [Instr.loadAt, Instr.sureAddr, Sem.run_bind, Sem.run_pure, Result.andThen]
  cases hq : P.info? ty with
  | none => simp [hq] at hi
  | some i =>
    have hs : i.size = n := by simpa [hq] using hi
    have hagg : (isAgg ty).run P w = .ok true w := by
      unfold isAgg
      rw [Sem.run_bind, run_underlying hu w]
      simp
    have hsz : (u8s ((l.drop off).take n)).size = n := by rw [u8s_size, hlen]
    simp only [Array.length_toList, Array.toArray_toList, hsz] at hl
    simp [loadVar, Sem.run_bind, hagg, sizeOf, typeInfo, hq, hs, hl]
theorem run_storeCells_mid {P : Program} (g : Nat) (t : TypeId) : ∀ (vs : List Value) (i : Nat) (cur : Array Value) (w : World), w.heap[g]? = some (.cells cur t (0, 0)) → i + vs.length ≤ cur.size → (∀ v ∈ vs, v.oneCell' = true) →
    (storeCells ⟨g, 0, none⟩ vs i).run P w = .ok () (w.setRow g (cur.toList.take i ++ (vs ++ cur.toList.drop (i + vs.length))).toArray)
  | [], i, cur, w, hg, hl, _ => by
    have e : (cur.toList.take i ++ ([] ++ cur.toList.drop (i + ([] : List Value).length))).toArray = cur := by simp
    rw [e, setRow_same (t := t) hg]; rfl
  | v :: rest, i, cur, w, hg, hl, h1 => by
    have hi : i < cur.size := by simp at hl; omega
    have hadd : (⟨g, 0, none⟩ : Addr).add i = ⟨g, i, none⟩ := by unfold Addr.add; split <;> simp_all
    have hcell : w.cell? ⟨g, i, none⟩ = some cur[i] := by simp [World.cell?, hg, hi]
    have hfro : w.frozen? ⟨g, i, none⟩ = false := by simp [World.frozen?, hg]
    have hst : (store ((⟨g, 0, none⟩ : Addr).add i) v).run P w = .ok () (w.setRow g (cur.setIfInBounds i v)) := by
      rw [hadd, run_store P w _ v _ (h1 v (by simp)), hcell]
      simp [hfro, setCell_eq_setRow w g i cur t (0, 0) v hg]
    have ih := run_storeCells_mid (P := P) g t rest (i + 1) (cur.setIfInBounds i v) (w.setRow g (cur.setIfInBounds i v)) (setRow_heap w g cur _ t _ hg) (by simp at hl ⊢; omega) (fun x hx => h1 x (by simp [hx]))
    simp only [storeCells, Sem.run_bind, hst, Result.andThen_ok, ih, setRow_setRow]
    congr 3
    have e : cur.toList.set i v = cur.toList.take i ++ v :: cur.toList.drop (i + 1) := by rw [List.set_eq_take_append_cons_drop, if_pos (by simpa using hi)]
    have hl1 : (cur.toList.take i).length = i := by rw [List.length_take]; simp; omega
    have t1 : (cur.toList.set i v).take (i + 1) = cur.toList.take i ++ [v] := by
      have : (cur.toList.take i ++ v :: cur.toList.drop (i + 1)).take ((cur.toList.take i).length + 1) = cur.toList.take i ++ (v :: cur.toList.drop (i + 1)).take 1 := List.take_length_add_append 1
      rw [hl1] at this
      rw [e, this]; rfl
    have d1 : (cur.toList.set i v).drop (i + 1 + rest.length) = cur.toList.drop (i + 1 + rest.length) := by
      apply List.ext_getElem?
      intro k
      rw [List.getElem?_drop, List.getElem?_drop, List.getElem?_set_ne (by omega)]
    rw [Array.toList_setIfInBounds, t1, d1, show i + 1 + rest.length = i + (v :: rest).length by simp; omega]
    simp
theorem u8s_append (a b : List Nat) : (u8s a).toList ++ (u8s b).toList = (u8s (a ++ b)).toList := by simp [u8s]
theorem Arr.storeHead {P : Program} {w : World} {g : Nat} {t ty : TypeId} {l l' : List Nat} (h : Arr w g t l) (hi : (P.info? ty).map (·.size) = some l'.length) (hl : l'.length ≤ l.length) :
    (Instr.storeAt ty (.pointer (some ⟨g, 0, none⟩)) (.agg (u8s l'))).run P w = .ok () (w.setRow g (u8s (l' ++ l.drop l'.length))) := by
  have h' : w.heap[g]? = some (.cells (u8s l) t (0, 0)) := h
  have := run_storeCells_mid (P := P) g t (u8s l').toList 0 (u8s l) w h' (by simp [u8s]; omega) (fun v hv => by simp [u8s] at hv; obtain ⟨n, _, rfl⟩ := hv; rfl)
  have e : ((u8s l).toList.take 0 ++ ((u8s l').toList ++ (u8s l).toList.drop (0 + (u8s l').toList.length))).toArray = u8s (l' ++ l.drop l'.length) := by simp [u8s, List.map_drop]
  rw [e] at this
  simp only [Instr.storeAt, Instr.sureAddr, Sem.run_bind, Sem.run_pure, Result.andThen]
  cases hq : P.info? ty with
  | none => simp [hq] at hi
  | some i =>
    have hs : (u8s l').size = i.size := by simp [hq] at hi; rw [u8s_size]; omega
    simp [storeVar, sizeOf, typeInfo, hq, Value.cells, hs, this]
/-- A key's rounds, one behind the other as one row of 176 bytes: byte k of round i. -/
def rdHead (t was : List Nat) (more : Nat) : List Nat := [t.getD (was.getD 13 0) 0 ^^^ more, t.getD (was.getD 14 0) 0, t.getD (was.getD 15 0) 0, t.getD (was.getD 12 0) 0]
def rdIn (was hd : List Nat) (i : Nat) (o : List Nat) : Nat → List Nat
  | 0 => o
  | k + 1 => (rdIn was hd i o k).set (16 * i + k) (was.getD k 0 ^^^ (if k < 4 then hd.getD k 0 else (rdIn was hd i o k).getD (16 * i + (k - 4)) 0))
structure RdSt where
  out : List Nat
  more : Nat
def rdRow (o : List Nat) (i : Nat) : List Nat := (o.drop (16 * i)).take 16
def rdStep (t : List Nat) (i : Nat) (s : RdSt) : RdSt := ⟨rdIn (rdRow s.out (i - 1)) (rdHead t (rdRow s.out (i - 1)) s.more) i s.out 16, T s.more 2⟩
def rdSt (key t : List Nat) : Nat → RdSt
  | 0 => ⟨key ++ List.replicate 160 0, 1⟩
  | i + 1 => rdStep t (i + 1) (rdSt key t i)
def rdL (key t : List Nat) : List Nat := (rdSt key t 10).out
def Z54 : Array Value := u8s (List.replicate 176 0)
set_option maxRecDepth 100000 in
theorem info54 : (Try.prog.info? 54).map (fun i => (i.zero, i.size)) = some (some (.agg Z54), 176) := by kernel_rfl

theorem rdIn_len (was hd : List Nat) (i : Nat) (o : List Nat) (k : Nat) : (rdIn was hd i o k).length = o.length := by
  induction k with
  | zero => rfl
  | succ k ih => show (List.set _ _ _).length = _; rw [List.length_set]; exact ih
theorem rdIn_bytes {was hd : List Nat} (hw : Bytes was) (hh : Bytes hd) (i : Nat) {o : List Nat} (ho : Bytes o) (k : Nat) : Bytes (rdIn was hd i o k) := by
  induction k with
  | zero => exact ho
  | succ k ih => exact ih.set _ (xor_lt (hw.get _) (by split; exact hh.get _; exact ih.get _))
structure RdMem (w : World) (gs : Nat) (key t o : List Nat) (W : World) : Prop where
  key : Arr W w.heap.size 22 key
  z : Arr W (w.heap.size + 1) 54 (List.replicate 176 0)
  o : Arr W (w.heap.size + 2) 54 o
  t : Arr W gs 52 t
  bel : Below w.heap.size w W
structure RdOk (s : RdSt) : Prop where
  len : s.out.length = 176
  byte : Bytes s.out
  more : s.more < 256
end Go.Proofs.Ytgdphdnghackfaa
