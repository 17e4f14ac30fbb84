/- The walk of the law UtfAgain (layer 10): true for every bytes. -/
import Derived.Test.YtfogblcjccoeiaaL2
import Derived.Deep.DeepCutAuto
namespace Go.Proofs.Ytfogblcjccoeiaa
open Go.RowKit

theorem formsN_append (a b : List Nat) : formsN (a ++ b) = formsN a ++ formsN b := by
  induction a with
  | nil => rfl
  | cons n a ih => simp [formsN, ih]
theorem formsN_take (ls : List Nat) (k : Nat) (x : Nat) (h : ls[k]? = some x) : formsN (ls.take (k + 1)) = formsN (ls.take k) ++ formN x := by
  rw [List.take_add_one, h, formsN_append]; simp [formsN]
theorem formsN_len (ls : List Nat) : (formsN ls).length ≤ 4 * ls.length := by
  induction ls with
  | nil => simp [formsN]
  | cons n a ih => have := (formN_len n).2; simp [formsN]; omega
theorem formsN_byte (ls : List Nat) (h : ∀ n ∈ ls, isPt (n : Int)) : ∀ x ∈ formsN ls, x < 256 := by
  induction ls with
  | nil => simp [formsN]
  | cons n a ih =>
    intro x hx
    simp only [formsN, List.mem_append] at hx
    rcases hx with hx | hx
    · exact formN_byte n (by have := (h n (by simp)).2.1; omega) x hx
    · exact ih (fun m hm => h m (by simp [hm])) x hx
theorem nat_points (l : List Int) (h : ∀ c ∈ l, isPt c) : ∃ ls : List Nat, l = ls.map Int.ofNat ∧ ∀ n ∈ ls, isPt (n : Int) := by
  induction l with
  | nil => exact ⟨[], rfl, by simp⟩
  | cons c l ih =>
    obtain ⟨ls, rfl, hb⟩ := ih (fun d hd => h d (by simp [hd]))
    have hc := h c (by simp)
    obtain ⟨x, rfl⟩ := Int.eq_ofNat_of_zero_le hc.1
    exact ⟨x :: ls, by simp, fun y hy => by rcases List.mem_cons.1 hy with rfl | h1; exact hc; exact hb y h1⟩
theorem own_base {w : World} {base : Nat} {e : TypeId} {k : IntKind} {A : Option Addr} {n cap : Nat} {zs : List Int} (h : Own w base e k A n cap zs) : ∀ j, (Value.slice A n cap).ownBlock = some j → base ≤ j := fun j hj => (World.ownsRow.lt h j hj).1
theorem info5 : (Try.prog.info? 5).map (fun i => (i.zero, i.size, i.bytes)) = some (some (.int .u8 0), 1, 1) := by kernel_rfl
theorem FormN_to (n : Nat) (h : isPt (n : Int)) (zs : List Int) (hz : (formN n).map Int.ofNat = zs) (w : World) : Calls Try.prog 10 #[.int .i32 n] w (NewRow 5 .u8 zs w) := by
  rw [← hz, ← formL_nat h]; exact Form_to n w
/-- The loop's memory: what was put into forms so far, in a row of the call's own. -/
structure AgMem (w1 : World) (ls : List Nat) (k : Nat) (A : Option Addr) (m cap : Nat) (W : World) : Prop where
  o : Own W w1.heap.size 5 .u8 A m cap ((formsN (ls.take k)).map Int.ofNat)
  b : Below w1.heap.size w1 W
theorem AgMem.more {w1 W W2 W3 : World} {ls : List Nat} {k : Nat} {A A3 : Option Addr} {m cap m3 cap3 : Nat} {x : Nat} (h : AgMem w1 ls k A m cap W) (hx : ls[k]? = some x)
    (hb : Below W.heap.size W W2) (hown : Own W3 w1.heap.size 5 .u8 A3 m3 cap3 ((formsN (ls.take k)).map Int.ofNat ++ (formN x).map Int.ofNat)) (hg : W2.grownBy W3 (Value.slice A m cap).ownBlock) : AgMem w1 ls (k + 1) A3 m3 cap3 W3 := by
  have hs := h.b.size
  have hs2 := hb.size
  refine ⟨?_, (h.b.trans (hb.mono hs)).grown hg (by omega) (own_base h.o)⟩
  rw [formsN_take ls k x hx, List.map_append]; exact hown

set_option maxRecDepth 100000 in
set_option maxHeartbeats 4000000 in
theorem again_in (A : Option Addr) (n cap : Nat) (bs : List Nat) (w : World) (hs : Sl w w.heap.size .u8 A n (bs.map Int.ofNat)) (hlt : ∀ x ∈ bs, x < 256) (hn : n ≤ 2000) :
    Calls Try.prog 7 #[.slice A n cap] w fun e w' => e = .returned (.bool true) ∧ Below w.heap.size w w' := by
  obtain ⟨i0, hi, hz0, hz1, hz2⟩ := info_parts info5
  obtain ⟨ls, hls, hpt⟩ := nat_points (decodeL bs) (decode_good bs)
  have hbl : bs.length = n := by simpa using hs.1
  have hfour := decode_four bs
  have hle := decodeL_len bs
  have hlen := formsN_len ls
  have hbyte := formsN_byte ls hpt
  have hdec := decode_forms ls hpt
  rw [hls] at hfour hle
  simp only [List.length_map] at hfour hle
  have hpk : ∀ k x : Nat, ls[k]? = some x → isPt (x : Int) := fun k x h => hpt x (List.mem_of_getElem? h)
  replace hls := Kp.mk hls
  replace hdec := Kp.mk hdec
  have g1 : ¬ (2000 : Int) < n := by omega
  have g2 : (n : Int) ≤ 4 * (ls.length : Int) := by omega
  go_enter Try.func7, Try.ntmps7
  go_wp2_with fail
  refine (known_any _).mono ?_
  rintro _ w0 ⟨rfl, hb0⟩
  go_wp2_with fail
  refine (Decode_to A n cap bs _ _ hls.out ((hs.keep hb0 (Nat.le_refl _)).more hb0.size) hlt (by omega)).mono ?_
  rintro _ w1 ⟨A1, cap1, rfl, O1, hb1⟩
  have hb2 := hb0.trans (hb1.mono hb0.size)
  have S1 := O1.sl
  simp only [List.length_map] at O1 S1
  clear hb0 hb1 O1
  go_wp2_with fail
  go_loopw [4, 5] (fun ag i wr => ∃ (k m : Nat) (A2 : Option Addr) (cap2 : Nat), ag = .slice A2 m cap2 ∧ i = .int .i64 k ∧ k ≤ ls.length ∧ AgMem w1 ls k A2 m cap2 wr) (fun _ i _ => ls.length - (intOf i).toNat)
  case atStart => exact ⟨0, 0, none, 0, rfl, rfl, Nat.zero_le _, ⟨by simpa [formsN] using Own.nil w1 w1.heap.size 5 .u8, Below.refl _ _⟩⟩
  case round =>
    obtain ⟨k, m, A2, cap2, rfl, rfl, hk, hM⟩ := hrel
    by_cases hlt2 : k < ls.length
    · obtain ⟨b, o, rfl, hb, hc⟩ := S1.2 (by omega)
      obtain ⟨x, hx⟩ : ∃ x : Nat, ls[k]? = some x := ⟨_, List.getElem?_eq_getElem hlt2⟩
      have c0 := (hM.b.cell (p := ⟨b, o + k, none⟩) hb).trans (hc k hlt2)
      have hpx := hpk k x hx
      rw [show (ls.map Int.ofNat)[k]?.getD 0 = (x : Int) by rw [List.getElem?_map, hx]; rfl] at c0
      have hkn : (k : Int) < ls.length := by omega
      replace hx := Kp.mk hx
      obtain ⟨zs, hzs⟩ : ∃ zs, (formN x).map Int.ofNat = zs := ⟨_, rfl⟩
      have hzl : zs.length ≤ 4 := by rw [← hzs]; simpa using (formN_len x).2
      replace hzs := Kp.mk hzs
      have hol := hM.o.len
      have hfl := formsN_len (ls.take k)
      rw [List.length_take] at hfl
      rw [List.length_map] at hol
      clear hc
      go_wp2_with fail
      refine (FormN_to x hpx zs hzs.out _).mono ?_
      rintro _ w4 ⟨A4, cap4, rfl, O4, hb4⟩
      have O3 := hM.o.keep hb4 (Nat.le_refl _)
      have q1 := hM.b.size
      have q2 := hb4.size
      go_wp2_with (at_builtin; refine wpList_append_ints rfl _ _ 22 rfl w1.heap.size 5 i0 (.int .u8 0) 1 Try.underlying22 hi hz0 hz1 hz2 rfl .u8 _ _ _ _ rfl O3 _ _ _ _ _ rfl O4.sl ?c1 ?c2 ?c3 ?_)
      case c1 => unfold maxLen; omega
      case c2 => omega
      case c3 => omega
      intro B1 bap1 z1 hown hgrow hor
      clear hor
      have hM2 := hM.more (m3 := m + zs.length) hx.out hb4 (by rw [hzs.out]; exact hown) hgrow
      clear hown hgrow O3 O4 hb4
      go_wp2_with fail
      go_roundw
      case rel => exact ⟨k + 1, _, _, _, rfl, by go_num, by omega, hM2⟩
      case measure => simp [intOf]; omega
    · obtain rfl : k = ls.length := by omega
      have hO := hM.o
      rw [List.take_length] at hO
      have hol := hO.len
      rw [List.length_map] at hol
      have q1 := hM.b.size
      have q2 := hb2.size
      go_wp2_with fail
      refine (Decode_to _ _ _ (formsN ls) _ _ hdec.out hO.sl hbyte (by omega)).mono ?_
      rintro _ w5 ⟨A5, cap5, rfl, O5, hb5⟩
      have S5 := (S1.keep hM.b (Nat.le_refl _)).keep hb5 q1
      have q3 := hb5.size
      have T5 := O5.sl
      simp only [List.length_map] at T5
      have L5 := (hb2.trans (hM.b.mono q2)).trans (hb5.mono (by omega))
      go_wp2_with fail
      refine (same_to _ _ _ _ _ _ _ _ _ true (decide_eq_true rfl) T5 (S5.more (by omega)) (by omega) (by omega)).mono ?_
      rintro _ w6 ⟨rfl, hb6⟩
      have L6 := L5.trans (hb6.mono (by omega))
      go_wp2_with fail
      exact bodyPost_ret (v := .bool true) (by simp [results, Try.results7, go_sem]) rfl ⟨rfl, L6⟩

set_option maxRecDepth 100000 in
theorem again_any (A : Option Addr) (n cap : Nat) (zs : List Int) (w : World) (hs : SlIn w .u8 A n cap zs) :
    Calls Try.prog 7 #[.slice A n cap] w fun e w' => e = .returned (.bool true) ∧ Below w.heap.size w w' := by
  by_cases h : 2000 < (n : Int)
  · go_enter Try.func7, Try.ntmps7
    go_wp2_with fail
    refine (known_any _).mono ?_
    rintro _ w1 ⟨rfl, hb1⟩
    go_wp2_with fail
    exact bodyPost_ret (v := .bool true) (by simp [results, Try.results7, go_sem]) rfl ⟨rfl, hb1⟩
  · obtain ⟨h1, h2, h3, h4⟩ := hs
    obtain ⟨bs, rfl, hb⟩ := nat_bytes zs h4
    exact again_in A n cap bs w h1 hb (by omega)
end Go.Proofs.Ytfogblcjccoeiaa
