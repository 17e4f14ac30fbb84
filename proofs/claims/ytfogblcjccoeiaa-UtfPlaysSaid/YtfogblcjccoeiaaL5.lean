/- The walks of the laws UtfDecodes and UtfNone (layer 10): true for every bytes. -/
import Derived.Test.YtfogblcjccoeiaaQ
namespace Go.Proofs.Ytfogblcjccoeiaa
open Go.RowKit

theorem strTw {w : World} {B : Nat} {A : Option Addr} {n cap : Nat} {zs : List Int} {s : ByteArray} (hs : strOfNums zs = s) (h : Sl w B .u8 A n zs) : (convert 22 9 (.slice A n cap)).run Try.prog w = .ok (.string s) w := by
  rw [← hs]; exact strOf h

set_option maxRecDepth 100000 in
set_option maxHeartbeats 1600000 in
theorem decodes_in (A : Option Addr) (n cap : Nat) (bs : List Nat) (w : World) (hs : Sl w w.heap.size .u8 A n (bs.map Int.ofNat)) (hlt : ∀ x ∈ bs, x < 256) (hnc : n ≤ cap) (hn : n ≤ 2000) :
    Calls Try.prog 4 #[.slice A n cap] w fun e w' => e = .returned (.bool true) ∧ Below w.heap.size w w' := by
  obtain ⟨i5, hi5, hy0, hy1, hy2⟩ := info_parts info5
  have hbl : bs.length = n := by simpa using hs.1
  obtain ⟨s, hstr⟩ : ∃ s, strOfNums (bs.map Int.ofNat) = s := ⟨_, rfl⟩
  obtain ⟨l, hl⟩ : ∃ l, decodeL bs = l := ⟨_, rfl⟩
  have hll : l.length ≤ n := by rw [← hl, ← hbl]; exact decodeL_len bs
  have g1 : ¬ (2000 : Int) < n := by omega
  replace hstr := Kp.mk hstr
  replace hl := Kp.mk hl
  replace hbl := Kp.mk hbl
  go_enter Try.func4, Try.ntmps4
  go_wp2_with fail
  refine (known_any _).mono ?_
  rintro _ w1 ⟨rfl, hb1⟩
  have S1 := (hs.keep hb1 (Nat.le_refl _)).more hb1.size
  have O1 : Own (w1.alloc (.cells #[] 5)) w1.heap.size 5 .u8 (some ⟨w1.heap.size, 0, none⟩) 0 0 [] := World.ownsRow_made w1 #[] 0 (Nat.le_refl _) (by simp [maxLen]) rfl
  have HA : Below w1.heap.size w1 (w1.alloc (.cells #[] 5)) := (Below.refl _ _).alloc (Nat.le_refl _) _
  have S2 := (S1.keep HA (Nat.le_refl _)).more HA.size
  go_wp2_with (at_builtin; refine wpList_append_ints rfl _ _ 22 rfl w1.heap.size 5 i5 (.int .u8 0) 1 Try.underlying22 hi5 hy0 hy1 hy2 rfl .u8 _ _ _ _ rfl O1 _ _ _ _ _ rfl S2 ?c1 ?c2 ?c3 ?_)
  case c1 => unfold maxLen; omega
  case c2 => omega
  case c3 => simp
  intro B1 bap1 z1 hown hgrow hor
  clear hor
  have Hz : Below w1.heap.size w1 z1 := HA.grown hgrow HA.size (own_base O1)
  have S3 := (S1.keep Hz (Nat.le_refl _)).more Hz.size
  clear hgrow O1 HA S2
  go_wp2_with fail
  refine (Decode_to _ _ _ bs _ _ hl.out hown.sl hlt (by omega)).mono ?_
  rintro _ w2 ⟨A2, cap2, rfl, O2, hb2⟩
  have S4 := (S3.keep hb2 (Nat.le_refl _)).more hb2.size
  have P4 := (hown.sl.keep hb2 (Nat.le_refl _)).more hb2.size
  go_wp2_with fail
  refine (all_to A n cap bs _ _ hl.out S4 hlt hnc (by omega)).mono ?_
  rintro _ w3 ⟨A3, cap3, rfl, O3, hb3⟩
  have S5 := (S4.keep hb3 (Nat.le_refl _)).more hb3.size
  have P5 := (P4.keep hb3 (Nat.le_refl _)).more hb3.size
  have T2 := (O2.sl.keep hb3 (Nat.le_refl _)).more hb3.size
  have T3 := O3.sl
  have L3 := ((hb1.trans (Hz.mono hb1.size)).trans (hb2.mono (by have := hb1.size; have := Hz.size; omega))).trans (hb3.mono (by have := hb1.size; have := Hz.size; have := hb2.size; omega))
  clear O2 O3 S3 S4 P4 hown Hz hb1 hb2 hb3 S1
  go_wp2_with fail
  refine (Same_to _ _ _ _ _ _ l l _ true (decide_eq_true rfl) T2 T3 (by omega) (by omega)).mono ?_
  rintro _ w4 ⟨rfl, hb4⟩
  have S6 := S5.keep hb4 (Nat.le_refl _)
  have P6 := P5.keep hb4 (Nat.le_refl _)
  have L4 := L3.trans (hb4.mono L3.size)
  have c1 := strTw (cap := cap) hstr.out S6
  have c2 := strTw (cap := bap1) hstr.out P6
  clear S5 P5 T2 T3 S6 P6 L3 hb4
  go_wp2_with fail
  exact bodyPost_ret (v := .bool true) (by simp [results, Try.results4, go_sem]) rfl ⟨rfl, L4⟩
set_option maxRecDepth 100000 in
theorem decodes_any (A : Option Addr) (n cap : Nat) (zs : List Int) (w : World) (hs : SlIn w .u8 A n cap zs) :
    Calls Try.prog 4 #[.slice A n cap] w fun e w' => e = .returned (.bool true) ∧ Below w.heap.size w w' := by
  by_cases h : 2000 < (n : Int)
  · go_enter Try.func4, Try.ntmps4
    go_wp2_with fail
    refine (known_any _).mono ?_
    rintro _ w1 ⟨rfl, hb1⟩
    go_wp2_with fail
    exact bodyPost_ret (v := .bool true) (by simp [results, Try.results4, go_sem]) rfl ⟨rfl, hb1⟩
  · obtain ⟨h1, h2, h3, h4⟩ := hs
    obtain ⟨bs, rfl, hb⟩ := nat_bytes zs h4
    exact decodes_in A n cap bs w h1 hb h2 (by omega)
end Go.Proofs.Ytfogblcjccoeiaa
