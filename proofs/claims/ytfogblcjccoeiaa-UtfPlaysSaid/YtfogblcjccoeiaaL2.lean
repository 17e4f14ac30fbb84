/- The walk of the law UtfPieces (layer 10). -/
import Derived.Test.YtfogblcjccoeiaaK
import Derived.Test.YtfogblcjccoeiaaN
namespace Go.Proofs.Ytfogblcjccoeiaa
open Go.RowKit

/-! Pieces of a row; a decoder that goes on. -/
theorem Sl.take {w : World} {B : Nat} {k : IntKind} {A : Option Addr} {n c : Nat} {zs : List Int} (h : Sl w B k A n zs) (hc : c ≤ n) : Sl w B k A c (zs.take c) := by
  refine ⟨by rw [List.length_take, h.1]; omega, fun h0 => ?_⟩
  obtain ⟨b, o, e, hb, hh⟩ := h.2 (by omega)
  exact ⟨b, o, e, hb, fun i hi => by rw [hh i (by omega), List.getElem?_take, if_pos hi]⟩
theorem Sl.drop {w : World} {B : Nat} {k : IntKind} {b o n c : Nat} {zs : List Int} (h : Sl w B k (some ⟨b, o, none⟩) n zs) (hc : c ≤ n) : Sl w B k (some ⟨b, o + c, none⟩) (n - c) (zs.drop c) := by
  refine ⟨by rw [List.length_drop, h.1], fun h0 => ?_⟩
  obtain ⟨b', o', e, hb, hh⟩ := h.2 (by omega)
  simp only [Option.some.injEq, Addr.mk.injEq, and_true] at e
  obtain ⟨rfl, rfl⟩ := e
  exact ⟨b, o + c, rfl, hb, fun i hi => by rw [Nat.add_assoc, hh (c + i) (by omega), List.getElem?_drop]⟩
section
variable {g : Nat} {w0 W W' : World} {e e' : D} {out ys : List Int} {A A2 A3 : Option Addr} {n cap n2 cap2 m cap3 : Nat}
theorem St.put (h : St g w0 e out A n cap W) (M : St g W e' ys A2 n2 cap2 W') : St g w0 e' out A n cap W' := h.begun M.k M.b
theorem St.app2 {W3 : World} {base : Nat} (h : St g w0 e out A n cap W) (hown : Own W3 base 21 .i32 A3 m cap3 ys) (hbase : base = w0.heap.size)
    (hgrow : W.grownBy W3 (Value.slice A n cap).ownBlock) : St g w0 e ys A3 m cap3 W3 := by
  subst hbase
  have hr : ∀ j, (Value.slice A n cap).ownBlock = some j → w0.heap.size ≤ j := fun j hj => (World.ownsRow.lt h.o j hj).1
  refine ⟨h.b.grown hgrow (fun e => ?_), hown, World.grownBy.andThen h.k hgrow (fun j hj => .inl (hr j hj)), h.g⟩
  have := hr g e.symm; have := h.g; omega
end
/-- Does it hold bytes? -/
def held1 (d : D) : Nat := if d.had = 0 then 0 else 1
theorem stepD_cost (d : D) (x : Nat) : (stepD d x).2.length + held1 ((stepD d x).1) ≤ 1 + held1 (d) := by
  have hw : ∀ e : D, (wholeD e).2.length + held1 ((wholeD e).1) ≤ 1 := by
    intro e
    unfold wholeD
    split
    · simp [D.zero, held1]
    · simp [held1]; split <;> omega
  have hf : (firstD x).2.length + held1 ((firstD x).1) ≤ 1 := by
    cases h : fitB x with
    | true => rw [first_fit h]; exact hw _
    | false => rw [first_none h]; simp [D.zero, held1]
  by_cases h0 : d.had = 0
  · have h1 : held1 d = 0 := if_pos h0
    rw [step_first h0, h1]
    simpa using hf
  · have h1 : held1 d = 1 := if_neg h0
    rw [h1]
    by_cases hr : d.low ≤ x ∧ x ≤ d.high
    · rw [step_in h0 hr]
      have := hw ⟨d.code * 64 + x % 64, d.had + 1, d.want, 128, 191⟩
      omega
    · rw [step_bad h0 hr]
      simp only [List.length_append, List.length_cons, List.length_nil]
      omega
theorem runD_cost (d : D) (l : List Nat) : (runD d l).2.length + held1 ((runD d l).1) ≤ l.length + held1 (d) := by
  induction l generalizing d with
  | nil => simp [runD]
  | cons x l ih =>
    have h1 := ih (stepD d x).1
    have h2 := stepD_cost d x
    simp only [runD, List.length_append, List.length_cons]
    omega
theorem decodeL_len (l : List Nat) : (decodeL l).length ≤ l.length := by
  have h := runD_cost D.zero l
  have hz : held1 D.zero = 0 := rfl
  have he : (endL (runD D.zero l).1).length = held1 (runD D.zero l).1 := by unfold endL held1; split <;> rfl
  unfold decodeL
  rw [List.length_append, he]
  omega
theorem decodeL_three (a b c : List Nat) (r1 r2 r3 : D × List Int) (h1 : runD D.zero a = r1) (h2 : runD r1.1 b = r2) (h3 : runD r2.1 c = r3) : decodeL (a ++ b ++ c) = r1.2 ++ (r2.2 ++ (r3.2 ++ endL r3.1)) := by
  unfold decodeL
  rw [runD_append, runD_append, h1, h2, h3]
  simp only [List.append_assoc]
theorem nat_bytes (zs : List Int) (h : ∀ z ∈ zs, (Lit.int .u8 z).wf = true) : ∃ bs : List Nat, zs = bs.map Int.ofNat ∧ ∀ x ∈ bs, x < 256 := by
  induction zs with
  | nil => exact ⟨[], rfl, by simp⟩
  | cons z zs ih =>
    obtain ⟨bs, rfl, hb⟩ := ih (fun y hy => h y (by simp [hy]))
    have hz := h z (by simp)
    have hz2 : 0 ≤ z ∧ z ≤ 255 := by
      have e1 : IntKind.u8.min = 0 := by decide
      have e2 : IntKind.u8.max = 255 := by decide
      simpa [Lit.wf, e1, e2] using hz
    obtain ⟨x, rfl⟩ := Int.eq_ofNat_of_zero_le hz2.1
    exact ⟨x :: bs, by simp, fun y hy => by rcases List.mem_cons.1 hy with rfl | h1; omega; exact hb y h1⟩

theorem below_of {w w1 W : World} {o : Obj} (h : Below w.heap.size w w1) (k : (w1.alloc o).grownBy W (some w1.heap.size)) : Below w.heap.size w W := h.trans ((below_grown k).mono h.size)
theorem src_of {w W : World} {A : Option Addr} {n : Nat} {bs : List Nat} {g : Nat} (h : Sl w w.heap.size .u8 A n (bs.map Int.ofNat)) (hb : Below w.heap.size w W) (hg : w.heap.size ≤ g) (hlt : ∀ x ∈ bs, x < 256) : Src W g A n bs := by
  refine ⟨(h.keep hb (Nat.le_refl _)).more hb.size, fun h0 b o e hbg => ?_, hlt⟩
  obtain ⟨b', o', e', hb', _⟩ := h.2 h0
  rw [e'] at e; simp at e <;> omega

set_option maxRecDepth 100000 in
set_option maxHeartbeats 4000000 in
theorem pieces_in (b o n cap : Nat) (bs : List Nat) (c m : Nat) (w : World) (hs : Sl w w.heap.size .u8 (some ⟨b, o, none⟩) n (bs.map Int.ofNat)) (hlt : ∀ x ∈ bs, x < 256) (hnc : n ≤ cap) (hn : n ≤ 2000) (hcm : c ≤ m) (hmn : m ≤ n) :
    Calls Try.prog 5 #[.slice (some ⟨b, o, none⟩) n cap, .int .i64 c, .int .i64 m] w fun e w' => e = .returned (.bool true) ∧ Below w.heap.size w w' := by
  obtain ⟨i0, hi, hz0, hz1, hz2⟩ := info_parts info21
  have hbl : bs.length = n := by simpa using hs.1
  obtain ⟨r1, h1⟩ : ∃ r, runD D.zero (bs.take c) = r := ⟨_, rfl⟩
  obtain ⟨r2, h2⟩ : ∃ r, runD r1.1 ((bs.drop c).take (m - c)) = r := ⟨_, rfl⟩
  obtain ⟨r3, h3⟩ : ∃ r, runD r2.1 (bs.drop m) = r := ⟨_, rfl⟩
  have hcat : bs.take c ++ (bs.drop c).take (m - c) ++ bs.drop m = bs := by
    rw [show bs.drop m = (bs.drop c).drop (m - c) by rw [List.drop_drop]; congr 1; omega, List.append_assoc, List.take_append_drop, List.take_append_drop]
  have hdec := decodeL_three _ _ _ r1 r2 r3 h1 h2 h3
  rw [hcat] at hdec
  have hlen := decodeL_len bs
  rw [hdec] at hlen
  simp only [List.length_append] at hlen
  have ok1 : r1.1.Ok := h1 ▸ runD_ok zero_ok _
  have ok2 : r2.1.Ok := h2 ▸ runD_ok ok1 _
  have ok3 : r3.1.Ok := h3 ▸ runD_ok ok2 _
  have s1 : Sl w w.heap.size .u8 (some ⟨b, o, none⟩) c ((bs.take c).map Int.ofNat) := by rw [List.map_take]; exact hs.take (by omega)
  have s2 : ∀ q, (m - c = 0 ∨ q = o + c) → Sl w w.heap.size .u8 (some ⟨b, q, none⟩) (m - c) (((bs.drop c).take (m - c)).map Int.ofNat) := fun q hq => by
    have h := (hs.drop (c := c) (by omega)).take (c := m - c) (by omega)
    rw [← List.map_drop, ← List.map_take] at h
    rcases hq with h0 | rfl
    · exact ⟨h.1, fun hp => absurd hp (by omega)⟩
    · exact h
  have s3 : ∀ q, (n - m = 0 ∨ q = o + m) → Sl w w.heap.size .u8 (some ⟨b, q, none⟩) (n - m) ((bs.drop m).map Int.ofNat) := fun q hq => by
    have h := hs.drop (c := m) (by omega)
    rw [← List.map_drop] at h
    rcases hq with h0 | rfl
    · exact ⟨h.1, fun hp => absurd hp (by omega)⟩
    · exact h
  have l1 : ∀ x ∈ bs.take c, x < 256 := fun x hx => hlt x (List.mem_of_mem_take hx)
  have l2 : ∀ x ∈ (bs.drop c).take (m - c), x < 256 := fun x hx => hlt x (List.mem_of_mem_drop (List.mem_of_mem_take hx))
  have l3 : ∀ x ∈ bs.drop m, x < 256 := fun x hx => hlt x (List.mem_of_mem_drop hx)
  replace h1 := Kp.mk h1; replace h2 := Kp.mk h2; replace h3 := Kp.mk h3; replace hdec := Kp.mk hdec
  clear hcat
  have g1 : ¬ (2000 : Int) < n := by omega
  have g2 : ¬ (c : Int) < 0 := by omega
  have g3 : ¬ (n : Int) < c := by omega
  have g4 : ¬ (m : Int) < c := by omega
  have g5 : ¬ (n : Int) < m := by omega
  have g6 : (0 : Int) ≤ c := by omega
  have g7 : (c : Int) ≤ m := by omega
  have g8 : (m : Int) ≤ n := by omega
  have g9 : (n : Int) ≤ cap := by omega
  have g10 : (c : Int) ≤ cap := by omega
  have g11 : (m : Int) ≤ cap := by omega
  replace s2 := Kp.mk s2; replace s3 := Kp.mk s3
  have kc : c ≤ cap := by omega
  rcases (show (0 < cap - c ∧ 0 < cap - m) ∨ (0 < cap - c ∧ cap - m = 0) ∨ (cap - c = 0 ∧ cap - m = 0) by omega) with ⟨u1, u2⟩ | ⟨u1, u2⟩ | ⟨u1, u2⟩
  all_goals
    go_enter Try.func5, Try.ntmps5
    go_wp2_with fail
    refine (known_any _).mono ?_
    rintro _ w1 ⟨rfl, hb1⟩
    go_wp2_with fail
    refine (New_to _).mono ?_
    rintro _ w2 ⟨rfl, hw2⟩
    have M0 : St w1.heap.size (w1.alloc (.cells D.zero.cells 43)) D.zero [] none 0 0 w2 := by
      rw [hw2]; exact ⟨Box.new _ _ _, Own.nil _ _ _ _, World.grownBy.refl _ _, by simp⟩
    clear hw2
    go_wp2_with fail
    have O0 : Own (w2.alloc (.cells #[] 21)) (w1.alloc (.cells D.zero.cells 43)).heap.size 21 .i32 (some ⟨w2.heap.size, 0, none⟩) 0 0 [] := World.ownsRow_made w2 #[] 0 M0.k.size (by simp [maxLen]) rfl
    have M1 : St w1.heap.size (w1.alloc (.cells D.zero.cells 43)) D.zero [] (some ⟨w2.heap.size, 0, none⟩) 0 0 (w2.alloc (.cells #[] 21)) := ⟨M0.b.alloc _, O0, M0.k.trans (World.grownBy_alloc _ _ _), M0.g⟩
    clear M0 O0
    refine (Put_to D.zero _ _ _ _ (bs.take c) _ r1 h1.out zero_ok M1.b (src_of s1 (below_of hb1 M1.k) hb1.size l1) (by omega)).mono ?_
    rintro _ x1 ⟨A1, n1, cap1, rfl, P1⟩
    replace M1 := M1.put P1
    have q1 := P1.o.len
    have p1 := M1.o.len
    have y1 := M1.k.size
    have t1 := P1.o.sl
    go_wp2_with (at_builtin; refine wpList_append_ints rfl _ _ 27 rfl (w1.alloc (.cells D.zero.cells 43)).heap.size 21 i0 (.int .i32 0) 4 Try.underlying27 hi hz0 hz1 hz2 rfl .i32 _ _ _ _ rfl M1.o _ _ _ _ _ rfl t1 ?c1 ?c2 ?c3 ?_)
    case c1 => unfold maxLen; (try simp at q1); (try simp at p1); omega
    case c2 => (try simp at q1); (try simp at p1); omega
    case c3 => exact y1
    intro B1 bap1 z1 hown hgrow hor
    clear hor
    have M2 := M1.app2 hown (by simp) hgrow
    clear hown hgrow t1 P1 y1 p1 M1
    go_wp2_with fail
    refine (Put_to r1.1 _ _ _ _ ((bs.drop c).take (m - c)) _ r2 h2.out ok1 M2.b (src_of (s2.out _ (by first | exact .inr rfl | (left; omega))) (below_of hb1 M2.k) hb1.size l2) (by omega)).mono ?_
    rintro _ x2 ⟨A2, n2, cap2, rfl, P2⟩
    replace M2 := M2.put P2
    have q2 := P2.o.len
    have p2 := M2.o.len
    have y2 := M2.k.size
    have t2 := P2.o.sl
    go_wp2_with (at_builtin; refine wpList_append_ints rfl _ _ 27 rfl (w1.alloc (.cells D.zero.cells 43)).heap.size 21 i0 (.int .i32 0) 4 Try.underlying27 hi hz0 hz1 hz2 rfl .i32 _ _ _ _ rfl M2.o _ _ _ _ _ rfl t2 ?c1 ?c2 ?c3 ?_)
    case c1 => unfold maxLen; (try simp at q2); (try simp at p2); omega
    case c2 => (try simp at q2); (try simp at p2); omega
    case c3 => exact y2
    intro B2 bap2 z2 hown hgrow hor
    clear hor
    have M3 := M2.app2 hown (by simp) hgrow
    clear hown hgrow t2 P2 y2 p2 M2
    go_wp2_with fail
    refine (Put_to r2.1 _ _ _ _ (bs.drop m) _ r3 h3.out ok2 M3.b (src_of (s3.out _ (by first | exact .inr rfl | (left; omega))) (below_of hb1 M3.k) hb1.size l3) (by omega)).mono ?_
    rintro _ x3 ⟨A3, n3, cap3, rfl, P3⟩
    replace M3 := M3.put P3
    have q3 := P3.o.len
    have p3 := M3.o.len
    have y3 := M3.k.size
    have t3 := P3.o.sl
    go_wp2_with (at_builtin; refine wpList_append_ints rfl _ _ 27 rfl (w1.alloc (.cells D.zero.cells 43)).heap.size 21 i0 (.int .i32 0) 4 Try.underlying27 hi hz0 hz1 hz2 rfl .i32 _ _ _ _ rfl M3.o _ _ _ _ _ rfl t3 ?c1 ?c2 ?c3 ?_)
    case c1 => unfold maxLen; (try simp at q3); (try simp at p3); omega
    case c2 => (try simp at q3); (try simp at p3); omega
    case c3 => exact y3
    intro B3 bap3 z3 hown hgrow hor
    clear hor
    have M4 := M3.app2 hown (by simp) hgrow
    clear hown hgrow t3 P3 y3 p3 M3
    go_wp2_with fail
    refine (End_to r3.1 _ _ _ rfl ok3 M4.b).mono ?_
    rintro _ w9 ⟨A9, n9, cap9, rfl, P9⟩
    replace M4 := M4.put P9
    have q9 := P9.o.len
    have p9 := M4.o.len
    have y9 := M4.k.size
    have t9 := P9.o.sl
    go_wp2_with (at_builtin; refine wpList_append_ints rfl _ _ 27 rfl (w1.alloc (.cells D.zero.cells 43)).heap.size 21 i0 (.int .i32 0) 4 Try.underlying27 hi hz0 hz1 hz2 rfl .i32 _ _ _ _ rfl M4.o _ _ _ _ _ rfl t9 ?c1 ?c2 ?c3 ?_)
    case c1 => unfold maxLen; (try simp at q9); (try simp at p9); omega
    case c2 => (try simp at q9); (try simp at p9); omega
    case c3 => exact y9
    intro B9 bap9 z9 hown hgrow hor
    clear hor
    have M5 := M4.app2 hown (by simp) hgrow
    clear hown hgrow t9 P9 y9 p9 M4
    go_wp2_with fail
    have v9 := M5.o.len
    have Hb := below_of hb1 M5.k
    have hz9 := M5.b.lt
    refine (Decode_to _ n cap bs _ _ hdec.out ((hs.keep Hb (Nat.le_refl _)).more Hb.size) hlt (by omega)).mono ?_
    rintro _ w10 ⟨A10, cap10, rfl, O10, H10⟩
    have L10 := Hb.trans (H10.mono Hb.size)
    have B10 := M5.b.keep H10 hz9
    have s10 := (M5.o.sl.keep H10 (Nat.le_refl _)).more H10.size
    have t10 := O10.sl
    have e0 : ((D.zero.had : Nat) : Int) = 0 := rfl
    have eN : n1 + n2 + n3 + n9 = (r1.2 ++ (r2.2 ++ (r3.2 ++ endL r3.1))).length := v9.symm
    have eR : (r1.2 ++ (r2.2 ++ (r3.2 ++ endL r3.1))).length ≤ n := by simp only [List.length_append]; omega
    clear hlen hdec h1 h2 h3 ok1 ok2 ok3 l1 l2 l3 s1 s2 s3
    clear M5 O10 q1 q2 q3 q9 v9
    generalize n1 + n2 + n3 + n9 = nn at *
    generalize r1.2 ++ (r2.2 ++ (r3.2 ++ endL r3.1)) = res at *
    subst eN
    have e1 : ((res.length : Nat) : Int) ≤ n := by omega
    go_wp2_with fail
    refine (same_to _ _ _ _ _ _ res res _ true (decide_eq_true rfl) s10 t10 (by omega) (by omega)).mono ?_
    rintro _ w11 ⟨rfl, H11⟩
    have L11 := L10.trans (H11.mono L10.size)
    have B11 := B10.keep H11 B10.lt
    clear s10 t10 H10 H11 B10 L10 Hb
    go_wp2_with fail
    refine (Held_to _ _ _ B11).mono ?_
    rintro _ w12 ⟨rfl, H12⟩
    have L12 := L11.trans (H12.mono L11.size)
    go_wp2_with fail
    exact bodyPost_ret (v := .bool true) (by simp [results, Try.results5, go_sem]) rfl ⟨rfl, L12⟩
set_option maxRecDepth 100000 in
set_option maxHeartbeats 4000000 in
theorem pieces_nil (A : Option Addr) (cap : Nat) (w : World) :
    Calls Try.prog 5 #[.slice A 0 cap, .int .i64 0, .int .i64 0] w fun e w' => e = .returned (.bool true) ∧ Below w.heap.size w w' := by
  obtain ⟨i0, hi, hz0, hz1, hz2⟩ := info_parts info21
  have hlt : ∀ x ∈ ([] : List Nat), x < 256 := by simp
  have g9 : (0 : Int) ≤ cap := by omega
  rcases (show cap = 0 ∨ 0 < cap by omega) with rfl | u1
  all_goals
    go_enter Try.func5, Try.ntmps5
    go_wp2_with fail
    refine (known_any _).mono ?_
    rintro _ w1 ⟨rfl, hb1⟩
    go_wp2_with fail
    refine (New_to _).mono ?_
    rintro _ w2 ⟨rfl, hw2⟩
    have M0 : St w1.heap.size (w1.alloc (.cells D.zero.cells 43)) D.zero [] none 0 0 w2 := by
      rw [hw2]; exact ⟨Box.new _ _ _, Own.nil _ _ _ _, World.grownBy.refl _ _, by simp⟩
    clear hw2
    go_wp2_with fail
    have O0 : Own (w2.alloc (.cells #[] 21)) (w1.alloc (.cells D.zero.cells 43)).heap.size 21 .i32 (some ⟨w2.heap.size, 0, none⟩) 0 0 [] := World.ownsRow_made w2 #[] 0 M0.k.size (by simp [maxLen]) rfl
    have M1 : St w1.heap.size (w1.alloc (.cells D.zero.cells 43)) D.zero [] (some ⟨w2.heap.size, 0, none⟩) 0 0 (w2.alloc (.cells #[] 21)) := ⟨M0.b.alloc _, O0, M0.k.trans (World.grownBy_alloc _ _ _), M0.g⟩
    clear M0 O0
    refine (Put_to D.zero _ _ _ _ [] _ (D.zero, []) rfl zero_ok M1.b (src_of (Sl.nil w w.heap.size .u8 _) (below_of hb1 M1.k) hb1.size hlt) (by omega)).mono ?_
    rintro _ x1 ⟨A1, n1, cap1, rfl, P1⟩
    replace M1 := M1.put P1
    obtain rfl : n1 = 0 := by simpa using P1.o.len.symm
    have p1 := M1.o.len
    have y1 := M1.k.size
    have t1 := P1.o.sl
    go_wp2_with (at_builtin; refine wpList_append_ints rfl _ _ 27 rfl (w1.alloc (.cells D.zero.cells 43)).heap.size 21 i0 (.int .i32 0) 4 Try.underlying27 hi hz0 hz1 hz2 rfl .i32 _ _ _ _ rfl M1.o _ _ _ _ _ rfl t1 ?c1 ?c2 ?c3 ?_)
    case c1 => unfold maxLen; (try simp at p1); omega
    case c2 => (try simp at p1); omega
    case c3 => exact y1
    intro B1 bap1 z1 hown hgrow hor
    clear hor
    have M2 := M1.app2 hown (by simp) hgrow
    clear hown hgrow t1 P1 y1 p1 M1
    go_wp2_with fail
    refine (Put_to D.zero _ _ _ _ [] _ (D.zero, []) rfl zero_ok M2.b (src_of (Sl.nil w w.heap.size .u8 _) (below_of hb1 M2.k) hb1.size hlt) (by omega)).mono ?_
    rintro _ x2 ⟨A2, n2, cap2, rfl, P2⟩
    replace M2 := M2.put P2
    obtain rfl : n2 = 0 := by simpa using P2.o.len.symm
    have p2 := M2.o.len
    have y2 := M2.k.size
    have t2 := P2.o.sl
    go_wp2_with (at_builtin; refine wpList_append_ints rfl _ _ 27 rfl (w1.alloc (.cells D.zero.cells 43)).heap.size 21 i0 (.int .i32 0) 4 Try.underlying27 hi hz0 hz1 hz2 rfl .i32 _ _ _ _ rfl M2.o _ _ _ _ _ rfl t2 ?c1 ?c2 ?c3 ?_)
    case c1 => unfold maxLen; (try simp at p2); omega
    case c2 => (try simp at p2); omega
    case c3 => exact y2
    intro B2 bap2 z2 hown hgrow hor
    clear hor
    have M3 := M2.app2 hown (by simp) hgrow
    clear hown hgrow t2 P2 y2 p2 M2
    go_wp2_with fail
    refine (Put_to D.zero _ _ _ _ [] _ (D.zero, []) rfl zero_ok M3.b (src_of (Sl.nil w w.heap.size .u8 _) (below_of hb1 M3.k) hb1.size hlt) (by omega)).mono ?_
    rintro _ x3 ⟨A3, n3, cap3, rfl, P3⟩
    replace M3 := M3.put P3
    obtain rfl : n3 = 0 := by simpa using P3.o.len.symm
    have p3 := M3.o.len
    have y3 := M3.k.size
    have t3 := P3.o.sl
    go_wp2_with (at_builtin; refine wpList_append_ints rfl _ _ 27 rfl (w1.alloc (.cells D.zero.cells 43)).heap.size 21 i0 (.int .i32 0) 4 Try.underlying27 hi hz0 hz1 hz2 rfl .i32 _ _ _ _ rfl M3.o _ _ _ _ _ rfl t3 ?c1 ?c2 ?c3 ?_)
    case c1 => unfold maxLen; (try simp at p3); omega
    case c2 => (try simp at p3); omega
    case c3 => exact y3
    intro B3 bap3 z3 hown hgrow hor
    clear hor
    have M4 := M3.app2 hown (by simp) hgrow
    clear hown hgrow t3 P3 y3 p3 M3
    go_wp2_with fail
    refine (End_to D.zero _ _ _ rfl zero_ok M4.b).mono ?_
    rintro _ w9 ⟨A9, n9, cap9, rfl, P9⟩
    simp only [show endL D.zero = ([] : List Int) from rfl] at P9
    replace M4 := M4.put P9
    obtain rfl : n9 = 0 := by simpa using P9.o.len.symm
    have p9 := M4.o.len
    have y9 := M4.k.size
    have t9 := P9.o.sl
    go_wp2_with (at_builtin; refine wpList_append_ints rfl _ _ 27 rfl (w1.alloc (.cells D.zero.cells 43)).heap.size 21 i0 (.int .i32 0) 4 Try.underlying27 hi hz0 hz1 hz2 rfl .i32 _ _ _ _ rfl M4.o _ _ _ _ _ rfl t9 ?c1 ?c2 ?c3 ?_)
    case c1 => unfold maxLen; (try simp at p9); omega
    case c2 => (try simp at p9); omega
    case c3 => exact y9
    intro B9 bap9 z9 hown hgrow hor
    clear hor
    have M5 := M4.app2 hown (by simp) hgrow
    clear hown hgrow t9 P9 y9 p9 M4
    go_wp2_with fail
    have v9 := M5.o.len
    have Hb := below_of hb1 M5.k
    have hz9 := M5.b.lt
    refine (Decode_to _ 0 _ [] _ [] rfl (Sl.nil _ _ .u8 _) hlt (by omega)).mono ?_
    rintro _ w10 ⟨A10, cap10, rfl, O10, H10⟩
    have L10 := Hb.trans (H10.mono Hb.size)
    have B10 := M5.b.keep H10 hz9
    have s10 := (M5.o.sl.keep H10 (Nat.le_refl _)).more H10.size
    have t10 : Sl w10 w10.heap.size .i32 A10 0 [] := O10.sl
    clear M5 O10
    have e0 : ((D.zero.had : Nat) : Int) = 0 := rfl
    go_wp2_with fail
    refine (same_to _ _ _ _ _ _ [] [] _ true (decide_eq_true rfl) s10 t10 (by omega) (by omega)).mono ?_
    rintro _ w11 ⟨rfl, H11⟩
    have L11 := L10.trans (H11.mono L10.size)
    have B11 := B10.keep H11 B10.lt
    clear s10 t10 H10 H11 B10 L10 Hb
    go_wp2_with fail
    refine (Held_to _ _ _ B11).mono ?_
    rintro _ w12 ⟨rfl, H12⟩
    have L12 := L11.trans (H12.mono L11.size)
    go_wp2_with fail
    exact bodyPost_ret (v := .bool true) (by simp [results, Try.results5, go_sem]) rfl ⟨rfl, L12⟩

set_option maxRecDepth 100000 in
set_option maxHeartbeats 4000000 in
theorem pieces_out (A : Option Addr) (n cap : Nat) (c m : Int) (w : World) (h : 2000 < (n : Int) ∨ c < 0 ∨ (n : Int) < c ∨ m < c ∨ (n : Int) < m) :
    Calls Try.prog 5 #[.slice A n cap, .int .i64 c, .int .i64 m] w fun e w' => e = .returned (.bool true) ∧ Below w.heap.size w w' := by
  by_cases h1 : 2000 < (n : Int)
  rotate_left
  by_cases h2 : c < 0
  rotate_left
  by_cases h3 : (n : Int) < c
  rotate_left
  by_cases h4 : m < c
  rotate_left
  have h5 : (n : Int) < m := by omega
  all_goals
    go_enter Try.func5, Try.ntmps5
    go_wp2_with fail
    refine (known_any _).mono ?_
    rintro _ w1 ⟨rfl, hb1⟩
    go_wp2_with fail
    exact bodyPost_ret (v := .bool true) (by simp [results, Try.results5, go_sem]) rfl ⟨rfl, hb1⟩
theorem pieces_any (A : Option Addr) (n cap : Nat) (zs : List Int) (c m : Int) (w : World) (hs : SlIn w .u8 A n cap zs) :
    Calls Try.prog 5 #[.slice A n cap, .int .i64 c, .int .i64 m] w fun e w' => e = .returned (.bool true) ∧ Below w.heap.size w w' := by
  by_cases h : 2000 < (n : Int) ∨ c < 0 ∨ (n : Int) < c ∨ m < c ∨ (n : Int) < m
  · exact pieces_out A n cap c m w h
  · obtain ⟨c, rfl⟩ := Int.eq_ofNat_of_zero_le (show 0 ≤ c by omega)
    obtain ⟨m, rfl⟩ := Int.eq_ofNat_of_zero_le (show 0 ≤ m by omega)
    obtain ⟨h1, h2, h3, h4⟩ := hs
    obtain ⟨bs, rfl, hb⟩ := nat_bytes zs h4
    by_cases h0 : 0 < n
    · obtain ⟨b, o, rfl, _, _⟩ := h1.2 h0
      exact pieces_in b o n cap bs c m w h1 hb h2 (by omega) (by omega) (by omega)
    · obtain rfl : n = 0 := by omega
      obtain rfl : c = 0 := by omega
      obtain rfl : m = 0 := by omega
      exact pieces_nil A cap w
end Go.Proofs.Ytfogblcjccoeiaa
