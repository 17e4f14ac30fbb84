/- The walk of Put (layer 10): a decoder that is there, any bytes up to 9000. Printed by genH.py. -/
import Derived.Test.YtfogblcjccoeiaaX
namespace Go.Proofs.Ytfogblcjccoeiaa
open Go.RowKit
set_option linter.unusedSimpArgs false

/-- The state in Put. -/
structure St (g : Nat) (w0 : World) (e : D) (out : List Int) (A : Option Addr) (n cap : Nat) (W : World) : Prop where
  b : Box W g 43 e.cells
  o : Own W w0.heap.size 21 .i32 A n cap out
  k : w0.grownBy W (some g)
  g : g < w0.heap.size
section
variable {g : Nat} {w0 W W' : World} {e e' : D} {out : List Int} {A : Option Addr} {n cap : Nat}
theorem Own.grown1 {base : Nat} {t : TypeId} {k : IntKind} {zs : List Int} (h : Own W base t k A n cap zs) (hk : W.grownBy W' (some g)) (hg : g < base) : Own W' base t k A n cap zs := by
  refine World.ownsRow.kept h hk (.inr ?_)
  intro e
  have := World.ownsRow.lt h g e
  omega
theorem St.begun (h : St g w0 e out A n cap W) (K : W.grownBy W' (some g)) (B : Box W' g 43 e'.cells) : St g w0 e' out A n cap W' := ⟨B, h.o.grown1 K h.g, h.k.trans K, h.g⟩
theorem src1 (W : World) (z : Int) : Sl (W.alloc (.cells #[.int .i32 z] 21)) (W.alloc (.cells #[.int .i32 z] 21)).heap.size .i32 (some ⟨W.heap.size, 0, none⟩) 1 [z] :=
  (Own.lit (base := 0) W 21 .i32 [z] #[.int .i32 z] rfl (Nat.zero_le _) (by simp [maxLen])).sl
theorem St.app (h : St g w0 e out A n cap W) {z : Int} {o : Obj} {A3 : Option Addr} {cap3 m : Nat} {W3 : World} (hown : Own W3 w0.heap.size 21 .i32 A3 m cap3 (out ++ [z]))
    (hgrow : (W.alloc o).grownBy W3 (Value.slice A n cap).ownBlock) : St g w0 e (out ++ [z]) A3 m cap3 W3 := by
  have hr : ∀ j, (Value.slice A n cap).ownBlock = some j → w0.heap.size ≤ j := fun j hj => (World.ownsRow.lt h.o j hj).1
  refine ⟨(h.b.alloc o).grown hgrow (fun e => ?_), hown, World.grownBy.andThen (h.k.trans (World.grownBy_alloc W o _)) hgrow (fun j hj => .inl (hr j hj)), h.g⟩
  have := hr g e.symm; have := h.g; omega
theorem St.drewN (h : St g w0 e out A n cap W) (m : Nat) : St g w0 e out A n cap (W.drewN m) := ⟨h.b.drewN m, h.o.drewN m, ⟨h.k.os, h.k.tape, h.k.output, h.k.size, h.k.block⟩, h.g⟩
theorem St.cleared (h : St g w0 e out A n cap W) : St g w0 D.zero out A n cap (((((W.setCell ⟨g, 0, none⟩ (.int .i32 0)).setCell ⟨g, 1, none⟩ (.int .i64 0)).setCell ⟨g, 2, none⟩ (.int .i64 0)).setCell ⟨g, 3, none⟩ (.int .u8 0)).setCell ⟨g, 4, none⟩ (.int .u8 0)) :=
  h.begun (gset (gset (gset (gset (gset (World.grownBy.refl W _) 0 _) 1 _) 2 _) 3 _) 4 _) (((((h.b.put 0 _).put 1 _).put 2 _).put 3 _).put 4 _)
end

theorem info21 : (Try.prog.info? 21).map (fun i => (i.zero, i.size, i.bytes)) = some (some (.int .i32 0), 1, 4) := by kernel_rfl
theorem beginD_code {x : Nat} (hx : x < 256) : (beginD x).code < 256 := by
  unfold beginD
  split
  · exact hx
  split
  · show x % 32 < 256; omega
  split
  · show x % 16 < 256; omega
  split
  · show x % 8 < 256; omega
  · decide
theorem first_fit {x : Nat} (h : fitB x = true) : firstD x = wholeD (beginD x) := by unfold firstD; rw [h]; simp
theorem first_told {x c l u : Nat} (h : firstD x = wholeD ⟨c, 1, 1, l, u⟩) : firstD x = (D.zero, [(c : Int)]) := by rw [h]; rfl
theorem first_kept {x c w l u : Nat} (h : firstD x = wholeD ⟨c, 1, w, l, u⟩) (hw : ¬ w = 1) : firstD x = (⟨c, 1, w, l, u⟩, []) := by
  rw [h]; unfold wholeD; rw [if_neg (by simp; omega)]
theorem first_none {x : Nat} (h : fitB x = false) : firstD x = (D.zero, [65533]) := by unfold firstD; rw [beginD_none h, h]; rfl
theorem step_first {d : D} {x : Nat} (h : d.had = 0) : stepD d x = ((firstD x).1, [] ++ (firstD x).2) := by unfold stepD; rw [if_pos h]; rfl
theorem step_bad {d : D} {x : Nat} (h : ¬ d.had = 0) (hr : ¬ (d.low ≤ x ∧ x ≤ d.high)) : stepD d x = ((firstD x).1, [65533] ++ (firstD x).2) := by unfold stepD; rw [if_neg h, if_neg hr]; rfl
theorem step_told {d e : D} {x : Nat} {pre ys : List Int} (h : stepD d x = ((firstD x).1, pre ++ (firstD x).2)) (h1 : firstD x = (e, ys)) : stepD d x = (e, pre ++ ys) := by rw [h, h1]
theorem step_kept {d e : D} {x : Nat} {pre : List Int} (h : stepD d x = ((firstD x).1, pre ++ (firstD x).2)) (h1 : firstD x = (e, [])) : stepD d x = (e, pre) := by rw [h, h1]; simp
theorem step_in {d : D} {x : Nat} (h : ¬ d.had = 0) (hr : d.low ≤ x ∧ x ≤ d.high) : stepD d x = wholeD ⟨d.code * 64 + x % 64, d.had + 1, d.want, 128, 191⟩ := by unfold stepD; rw [if_neg h, if_pos hr]
theorem whole_told {c h w l u : Nat} (h0 : 0 < h) (e : h = w) : wholeD ⟨c, h, w, l, u⟩ = (D.zero, [(c : Int)]) := if_pos ⟨h0, e⟩
theorem whole_kept {c h w l u : Nat} (e : ¬ h = w) : wholeD ⟨c, h, w, l, u⟩ = (⟨c, h, w, l, u⟩, []) := if_neg fun k => e k.2

/-- Put's loop behind k bytes. -/
def PutMem (d : D) (bs : List Nat) (g : Nat) (w0 : World) (k : Nat) (A : Option Addr) (n cap : Nat) (wr : World) : Prop := St g w0 (runD d (bs.take k)).1 (runD d (bs.take k)).2 A n cap wr
theorem put_next {d : D} {bs : List Nat} {g : Nat} {w0 : World} {k : Nat} {A : Option Addr} {n cap : Nat} {wr : World} {x : Nat} {e e' : D} {out ys : List Int} (hx : bs[k]? = some x)
    (he : (runD d (bs.take k)).1 = e) (ho : (runD d (bs.take k)).2 = out) (hs : stepD e x = (e', ys)) (M : St g w0 e' (out ++ ys) A n cap wr) : PutMem d bs g w0 (k + 1) A n cap wr := by
  unfold PutMem
  have ht : bs.take (k + 1) = bs.take k ++ [x] := by rw [List.take_add_one, hx]; rfl
  rw [ht, runD_snoc, he, ho, hs]
  exact M
theorem put_next2 {d : D} {bs : List Nat} {g : Nat} {w0 : World} {k : Nat} {A : Option Addr} {n cap : Nat} {wr : World} {x : Nat} {e e' : D} {out o2 ys : List Int} (hx : bs[k]? = some x)
    (he : (runD d (bs.take k)).1 = e) (ho : (runD d (bs.take k)).2 = out) (hs : stepD e x = (e', ys)) (M : St g w0 e' o2 A n cap wr) (h2 : o2 = out ++ ys) : PutMem d bs g w0 (k + 1) A n cap wr :=
  put_next hx he ho hs (h2 ▸ M)

set_option maxRecDepth 100000 in
set_option maxHeartbeats 8000000 in
theorem Put_there (d : D) (g : Nat) (A : Option Addr) (n cap : Nat) (bs : List Nat) (w : World) (hd : d.Ok) (hb : Box w g 43 d.cells) (hs : Src w g A n bs) (hn : n ≤ 9000) :
    Calls Try.prog 17 #[.pointer (some ⟨g, 0, none⟩), .slice A n cap] w fun e w' => ∃ A2 n2 cap2, e = .returned (.slice A2 n2 cap2) ∧ PutMem d bs g w n A2 n2 cap2 w' := by
  obtain ⟨i0, hi, hz0, hz1, hz2⟩ := info_parts info21
  have hg := hb.lt
  have M0 : PutMem d bs g w 0 none 0 0 w := ⟨by simpa [runD] using hb, by simpa [runD] using Own.nil w w.heap.size 21 .i32, World.grownBy.refl w _, hg⟩
  clear hb
  go_enter Try.func17, Try.ntmps17
  go_wp2_with fail
  go_loopw [5, 14] (fun out i wr => ∃ (k m : Nat) (A2 : Option Addr) (cap2 : Nat), out = .slice A2 m cap2 ∧ i = .int .i64 k ∧ k ≤ n ∧ PutMem d bs g w k A2 m cap2 wr) (fun _ i _ => n - (intOf i).toNat)
  case atStart => exact ⟨0, 0, none, 0, rfl, rfl, Nat.zero_le _, M0⟩
  case round =>
    obtain ⟨k, m, A2, cap2, rfl, rfl, hk, hM⟩ := hrel
    clear M0
    by_cases hlt : k < n
    · obtain ⟨bk, o, x, rfl, hbg, hbk, hx, hxs, hc⟩ := hs.at hlt
      replace hxs := Kp.mk hxs
      have hcw := hM.k.cell hc (by simp [hbg])
      obtain ⟨e, he⟩ : ∃ e, (runD d (bs.take k)).1 = e := ⟨_, rfl⟩
      obtain ⟨out, hout⟩ : ∃ out, (runD d (bs.take k)).2 = out := ⟨_, rfl⟩
      have heo : e.Ok := he ▸ runD_ok hd _
      have hml : out.length ≤ 2 * n := by rw [← hout]; have := runD_len d (bs.take k); rw [List.length_take] at this; omega
      unfold PutMem at hM
      rw [he, hout] at hM
      have hco := heo.code
      have hby := heo.byte
      have hha := heo.had
      clear heo
      replace he := Kp.mk he
      replace hout := Kp.mk hout
      have f0 := hM.b.frozen 0; have f1 := hM.b.frozen 1; have f2 := hM.b.frozen 2; have f3 := hM.b.frozen 3; have f4 := hM.b.frozen 4
      have c0 : wr.cell? ⟨g, 0, none⟩ = some (.int .i32 e.code) := hM.b.cell 0
      have c1 : wr.cell? ⟨g, 1, none⟩ = some (.int .i64 e.had) := hM.b.cell 1
      have c2 : wr.cell? ⟨g, 2, none⟩ = some (.int .i64 e.want) := hM.b.cell 2
      have c3 := hM.b.cell 3; have c4 := hM.b.cell 4; simp [D.cells, D.zero] at c3 c4
      have hl := hM.b.lt
      by_cases h0 : e.had = 0
      · have h0' : (e.had : Int) = 0 := by omega
        go_wp2_with fail
        apply wp_scope_fwd
        go_wp2_with fail
        apply wp_goto
        show ∃ rest, findLabel _ 0 = some rest ∧ _
        refine ⟨_, rfl, ?_⟩
        go_wp2_with fail
        clear c0 c1 c2 c3 c4 f0 f1 f2 f3 f4 hl h0'
        refine (begin_to e g x _ hx hM.b).mono ?_
        rintro _ w1 ⟨rfl, B1, K1⟩
        replace hM := hM.begun K1 B1
        clear B1 K1
        have hst := Kp.mk (step_first h0 (x := x))
        cases hfit : fitB x with
        | true =>
          have hh := beginD_had hfit
          have hfi := Kp.mk (first_fit hfit)
          replace hfit := Kp.mk hfit
          obtain ⟨b, hb⟩ : ∃ b, beginD x = b := ⟨_, rfl⟩
          rw [hb] at hM hh hfi
          have hbo : b.code < 256 := by rw [← hb]; exact beginD_code hx
          obtain ⟨bc, bh, bw, bl, bu⟩ := b
          replace hb := Kp.mk hb
          replace hh : bh = 1 := hh
          subst hh
          replace hbo : bc < 256 := hbo
          have e5 : (0 : Int) < 1 := by omega
          have f0 := hM.b.frozen 0; have f1 := hM.b.frozen 1; have f2 := hM.b.frozen 2; have f3 := hM.b.frozen 3; have f4 := hM.b.frozen 4
          have c0 : w1.cell? ⟨g, 0, none⟩ = some (.int .i32 bc) := hM.b.cell 0
          have c1 : w1.cell? ⟨g, 1, none⟩ = some (.int .i64 ((1 : Nat) : Int)) := hM.b.cell 1
          have c2 : w1.cell? ⟨g, 2, none⟩ = some (.int .i64 bw) := hM.b.cell 2
          have c3 := hM.b.cell 3; have c4 := hM.b.cell 4; simp [D.cells, D.zero] at c3 c4
          have hl := hM.b.lt
          by_cases hw : bw = 1
          · subst hw
            have hft := Kp.mk (first_told (hfi.out))
            go_wp2_with fail
            apply wp_label
            go_wp2_with fail
            go_quiet (fail)
            go_wp2_with (at_builtin; refine wpList_append_ints rfl _ _ 27 rfl w.heap.size 21 i0 (.int .i32 0) 4 Try.underlying27 hi hz0 hz1 hz2 rfl .i32 _ _ _ _ rfl ((hM.drewN _).o.alloc _) _ _ _ _ [bc] rfl (src1 _ bc) ?c1 ?c2 ?c3 ?_)
            case c1 =>
              have := hM.o.len; try simp at this
              unfold maxLen; omega
            case c2 =>
              have := hM.o.len; try simp at this
              omega
            case c3 => have := hM.k.size; simp; omega
            intro A3 cap3 w3 hown hgrow _
            replace hM := (hM.drewN _).app hown hgrow
            clear hown hgrow
            clear f0 f1 f2 f3 f4 c0 c1 c2 c3 c4 hl
            have f0 := hM.b.frozen 0; have f1 := hM.b.frozen 1; have f2 := hM.b.frozen 2; have f3 := hM.b.frozen 3; have f4 := hM.b.frozen 4
            have c0 : w3.cell? ⟨g, 0, none⟩ = some (.int .i32 bc) := hM.b.cell 0
            have c1 : w3.cell? ⟨g, 1, none⟩ = some (.int .i64 ((1 : Nat) : Int)) := hM.b.cell 1
            have c2 : w3.cell? ⟨g, 2, none⟩ = some (.int .i64 ((1 : Nat) : Int)) := hM.b.cell 2
            have c3 := hM.b.cell 3; have c4 := hM.b.cell 4; simp [D.cells, D.zero] at c3 c4
            have hl := hM.b.lt
            go_wp2_with fail
            first | rw [Exit.noGoto_normal] | rw [Exit.fwd_normal]
            go_wp2_with fail
            go_roundw
            case rel => exact ⟨k + 1, _, _, _, rfl, by go_num, by omega, put_next2 hxs.out he.out hout.out (step_told hst.out hft.out) (hM.cleared) (by simp)⟩
            case measure => simp [intOf]; omega
          · have hw' : ¬ (1 : Int) = bw := by omega
            have hft := Kp.mk (first_kept (hfi.out) hw)
            go_wp2_with fail
            apply wp_label
            go_wp2_with fail
            go_quiet (fail)
            go_wp2_with fail
            first | rw [Exit.noGoto_normal] | rw [Exit.fwd_normal]
            go_wp2_with fail
            go_roundw
            case rel => exact ⟨k + 1, _, _, _, rfl, by go_num, by omega, put_next2 hxs.out he.out hout.out (step_kept hst.out hft.out) (hM.drewN _) (by simp)⟩
            case measure => simp [intOf]; omega
        | false =>
          have hz := beginD_none hfit
          have hfi := Kp.mk (first_none hfit)
          replace hfit := Kp.mk hfit
          rw [hz] at hM
          clear hz
          go_wp2_with (at_builtin; refine wpList_append_ints rfl _ _ 27 rfl w.heap.size 21 i0 (.int .i32 0) 4 Try.underlying27 hi hz0 hz1 hz2 rfl .i32 _ _ _ _ rfl (hM.o.alloc _) _ _ _ _ [65533] rfl (src1 _ 65533) ?c1 ?c2 ?c3 ?_)
          case c1 =>
            have := hM.o.len; try simp at this
            unfold maxLen; omega
          case c2 =>
            have := hM.o.len; try simp at this
            omega
          case c3 => have := hM.k.size; simp; omega
          intro A3 cap3 w3 hown hgrow _
          replace hM := hM.app hown hgrow
          clear hown hgrow

          have f0 := hM.b.frozen 0; have f1 := hM.b.frozen 1; have f2 := hM.b.frozen 2; have f3 := hM.b.frozen 3; have f4 := hM.b.frozen 4
          have c0 : w3.cell? ⟨g, 0, none⟩ = some (.int .i32 ((0 : Nat) : Int)) := hM.b.cell 0
          have c1 : w3.cell? ⟨g, 1, none⟩ = some (.int .i64 ((0 : Nat) : Int)) := hM.b.cell 1
          have c2 : w3.cell? ⟨g, 2, none⟩ = some (.int .i64 ((0 : Nat) : Int)) := hM.b.cell 2
          have c3 := hM.b.cell 3; have c4 := hM.b.cell 4; simp [D.cells, D.zero] at c3 c4
          have hl := hM.b.lt
          go_wp2_with fail
          apply wp_label
          go_wp2_with fail
          go_quiet (fail)
          go_wp2_with fail
          first | rw [Exit.noGoto_normal] | rw [Exit.fwd_normal]
          go_wp2_with fail
          go_roundw
          case rel => exact ⟨k + 1, _, _, _, rfl, by go_num, by omega, put_next2 hxs.out he.out hout.out (step_told hst.out hfi.out) (hM.drewN _) (by simp)⟩
          case measure => simp [intOf]; omega
      · have h0' : ¬ (e.had : Int) = 0 := by omega
        by_cases hr : e.low ≤ x ∧ x ≤ e.high
        · have r1 : (e.low : Int) ≤ x := by omega
          have r2 : (x : Int) ≤ e.high := by omega
          have m1 := u8_and63 (x := x) (by omega) (by omega)
          have j1 := i32_or6 (x := e.code * 64) (y := x % 64) (by omega) (by omega) (by omega) (by omega) (by omega)
          have hin := Kp.mk (step_in h0 hr)
          go_wp2_with fail
          apply wp_scope_fwd
          go_wp2_with fail
          apply wp_goto
          show ∃ rest, findLabel _ 1 = some rest ∧ _
          refine ⟨_, rfl, ?_⟩
          replace hM : St g w ⟨e.code * 64 + x % 64, e.had + 1, e.want, 128, 191⟩ out A2 m cap2 ((((wr.setCell ⟨g, 0, none⟩ (.int .i32 ((e.code : Int) * 64 + (x : Int) % 64))).setCell ⟨g, 1, none⟩ (.int .i64 ((e.had : Int) + 1))).setCell ⟨g, 3, none⟩ (.int .u8 128)).setCell ⟨g, 4, none⟩ (.int .u8 191)) :=
            hM.begun (gset (gset (gset (gset (World.grownBy.refl wr _) 0 _) 1 _) 3 _) 4 _) (Box.to ((((hM.b.put 0 _).put 1 _).put 3 _).put 4 _) (by simp [D.cells]))
          clear c0 c1 c2 c3 c4 f0 f1 f2 f3 f4 hl m1 j1 r1 r2
          generalize ((((wr.setCell ⟨g, 0, none⟩ (.int .i32 ((e.code : Int) * 64 + (x : Int) % 64))).setCell ⟨g, 1, none⟩ (.int .i64 ((e.had : Int) + 1))).setCell ⟨g, 3, none⟩ (.int .u8 128)).setCell ⟨g, 4, none⟩ (.int .u8 191)) = W1 at *
          have hl := hM.b.lt
          have f0 := hM.b.frozen 0; have f1 := hM.b.frozen 1; have f2 := hM.b.frozen 2; have f3 := hM.b.frozen 3; have f4 := hM.b.frozen 4
          have c0 : W1.cell? ⟨g, 0, none⟩ = some (.int .i32 (e.code * 64 + x % 64 : Nat)) := hM.b.cell 0
          have c1 : W1.cell? ⟨g, 1, none⟩ = some (.int .i64 (e.had + 1 : Nat)) := hM.b.cell 1
          have c2 : W1.cell? ⟨g, 2, none⟩ = some (.int .i64 e.want) := hM.b.cell 2
          have e5 : (0 : Int) < ((e.had + 1 : Nat) : Int) := by omega
          by_cases ht : e.had + 1 = e.want
          · have e6 : (((e.had + 1 : Nat) : Int) == e.want) = true := by simp; omega
            have hft := Kp.mk (whole_told (c := e.code * 64 + x % 64) (l := 128) (u := 191) (Nat.succ_pos e.had) ht)
            replace ht := Kp.mk ht
            go_wp2_with fail
            go_quiet (fail)
            go_wp2_with (at_builtin; refine wpList_append_ints rfl _ _ 27 rfl w.heap.size 21 i0 (.int .i32 0) 4 Try.underlying27 hi hz0 hz1 hz2 rfl .i32 _ _ _ _ rfl ((hM.drewN _).o.alloc _) _ _ _ _ [(e.code * 64 + x % 64 : Nat)] rfl (src1 _ (e.code * 64 + x % 64 : Nat)) ?c1 ?c2 ?c3 ?_)
            case c1 =>
              have := hM.o.len; try simp at this
              unfold maxLen; omega
            case c2 =>
              have := hM.o.len; try simp at this
              omega
            case c3 => have := hM.k.size; simp; omega
            intro A3 cap3 w3 hown hgrow _
            replace hM := (hM.drewN _).app hown hgrow
            clear hown hgrow
            clear f0 f1 f2 f3 f4 c0 c1 c2 hl
            have hl := hM.b.lt
            have f0 := hM.b.frozen 0; have f1 := hM.b.frozen 1; have f2 := hM.b.frozen 2; have f3 := hM.b.frozen 3; have f4 := hM.b.frozen 4
            have c0 : w3.cell? ⟨g, 0, none⟩ = some (.int .i32 (e.code * 64 + x % 64 : Nat)) := hM.b.cell 0
            have c1 : w3.cell? ⟨g, 1, none⟩ = some (.int .i64 (e.had + 1 : Nat)) := hM.b.cell 1
            have c2 : w3.cell? ⟨g, 2, none⟩ = some (.int .i64 e.want) := hM.b.cell 2
            have c3 : w3.cell? ⟨g, 3, none⟩ = some (.int .u8 128) := hM.b.cell 3
            have c4 : w3.cell? ⟨g, 4, none⟩ = some (.int .u8 191) := hM.b.cell 4
            go_wp2_with fail
            first | rw [Exit.noGoto_normal] | rw [Exit.fwd_normal]
            go_wp2_with fail
            go_roundw
            case rel => exact ⟨k + 1, _, _, _, rfl, by go_num, by omega, put_next2 hxs.out he.out hout.out (hin.out.trans hft.out) (hM.cleared) (by simp)⟩
            case measure => simp [intOf]; omega
          · have e6 : (((e.had + 1 : Nat) : Int) == e.want) = false := by simp; omega
            have hft := Kp.mk (whole_kept (c := e.code * 64 + x % 64) (l := 128) (u := 191) ht)
            replace ht := Kp.mk ht
            go_wp2_with fail
            go_quiet (fail)
            go_wp2_with fail
            first | rw [Exit.noGoto_normal] | rw [Exit.fwd_normal]
            go_wp2_with fail
            go_roundw
            case rel => exact ⟨k + 1, _, _, _, rfl, by go_num, by omega, put_next2 hxs.out he.out hout.out (hin.out.trans hft.out) (hM.drewN _) (by simp)⟩
            case measure => simp [intOf]; omega
        · have hst0 := Kp.mk (step_bad (x := x) h0 hr)
          have rd : (decide ((e.low : Int) ≤ x) && decide ((x : Int) ≤ e.high)) = false := by
            by_cases q1 : e.low ≤ x <;> by_cases q2 : x ≤ e.high <;> simp <;> omega
          rcases (show x < e.low ∨ (e.low ≤ x ∧ e.high < x) by omega) with r1 | ⟨r1, r2⟩
          all_goals
            replace hr := Kp.mk hr
            clear rd
            go_wp2_with fail
            apply wp_scope_fwd
            go_wp2_with (at_builtin; refine wpList_append_ints rfl _ _ 27 rfl w.heap.size 21 i0 (.int .i32 0) 4 Try.underlying27 hi hz0 hz1 hz2 rfl .i32 _ _ _ _ rfl (hM.o.alloc _) _ _ _ _ [65533] rfl (src1 _ 65533) ?c1 ?c2 ?c3 ?_)
            case c1 =>
              have := hM.o.len; try simp at this
              unfold maxLen; omega
            case c2 =>
              have := hM.o.len; try simp at this
              omega
            case c3 => have := hM.k.size; simp; omega
            intro A3 cap3 w3 hown hgrow _
            replace hM := hM.app hown hgrow
            clear hown hgrow
            clear f0 f1 f2 f3 f4 c0 c1 c2 c3 c4 hl
            have hml2 : (out ++ [65533]).length ≤ 2 * n + 1 := by simp; omega
            generalize hO2 : out ++ [65533] = o2 at hM hml2
            replace hO2 := Kp.mk hO2
            go_wp2_with fail
            apply wp_label
            go_wp2_with fail
            refine (begin_to e g x _ hx hM.b).mono ?_
            rintro _ w1 ⟨rfl, B1, K1⟩
            replace hM := hM.begun K1 B1
            clear B1 K1
            have hst := Kp.mk (step_bad h0 hr.out (x := x))
            cases hfit : fitB x with
            | true =>
              have hh := beginD_had hfit
              have hfi := Kp.mk (first_fit hfit)
              replace hfit := Kp.mk hfit
              obtain ⟨b, hb⟩ : ∃ b, beginD x = b := ⟨_, rfl⟩
              rw [hb] at hM hh hfi
              have hbo : b.code < 256 := by rw [← hb]; exact beginD_code hx
              obtain ⟨bc, bh, bw, bl, bu⟩ := b
              replace hb := Kp.mk hb
              replace hh : bh = 1 := hh
              subst hh
              replace hbo : bc < 256 := hbo
              have e5 : (0 : Int) < 1 := by omega
              have f0 := hM.b.frozen 0; have f1 := hM.b.frozen 1; have f2 := hM.b.frozen 2; have f3 := hM.b.frozen 3; have f4 := hM.b.frozen 4
              have c0 : w1.cell? ⟨g, 0, none⟩ = some (.int .i32 bc) := hM.b.cell 0
              have c1 : w1.cell? ⟨g, 1, none⟩ = some (.int .i64 ((1 : Nat) : Int)) := hM.b.cell 1
              have c2 : w1.cell? ⟨g, 2, none⟩ = some (.int .i64 bw) := hM.b.cell 2
              have c3 := hM.b.cell 3; have c4 := hM.b.cell 4; simp [D.cells, D.zero] at c3 c4
              have hl := hM.b.lt
              by_cases hw : bw = 1
              · subst hw
                have hft := Kp.mk (first_told (hfi.out))
                go_wp2_with fail
                apply wp_label
                go_wp2_with fail
                go_quiet (fail)
                go_wp2_with (at_builtin; refine wpList_append_ints rfl _ _ 27 rfl w.heap.size 21 i0 (.int .i32 0) 4 Try.underlying27 hi hz0 hz1 hz2 rfl .i32 _ _ _ _ rfl ((hM.drewN _).o.alloc _) _ _ _ _ [bc] rfl (src1 _ bc) ?c1 ?c2 ?c3 ?_)
                case c1 =>
                  have := hM.o.len; try simp at this
                  unfold maxLen; omega
                case c2 =>
                  have := hM.o.len; try simp at this
                  omega
                case c3 => have := hM.k.size; simp; omega
                intro A3 cap3 w4 hown hgrow _
                replace hM := (hM.drewN _).app hown hgrow
                clear hown hgrow
                clear f0 f1 f2 f3 f4 c0 c1 c2 c3 c4 hl
                have f0 := hM.b.frozen 0; have f1 := hM.b.frozen 1; have f2 := hM.b.frozen 2; have f3 := hM.b.frozen 3; have f4 := hM.b.frozen 4
                have c0 : w4.cell? ⟨g, 0, none⟩ = some (.int .i32 bc) := hM.b.cell 0
                have c1 : w4.cell? ⟨g, 1, none⟩ = some (.int .i64 ((1 : Nat) : Int)) := hM.b.cell 1
                have c2 : w4.cell? ⟨g, 2, none⟩ = some (.int .i64 ((1 : Nat) : Int)) := hM.b.cell 2
                have c3 := hM.b.cell 3; have c4 := hM.b.cell 4; simp [D.cells, D.zero] at c3 c4
                have hl := hM.b.lt
                go_wp2_with fail
                first | rw [Exit.noGoto_normal] | rw [Exit.fwd_normal]
                go_wp2_with fail
                go_roundw
                case rel => exact ⟨k + 1, _, _, _, rfl, by go_num, by omega, put_next2 hxs.out he.out hout.out (step_told hst.out hft.out) (hM.cleared) (by rw [← hO2.out] <;> simp)⟩
                case measure => simp [intOf]; omega
              · have hw' : ¬ (1 : Int) = bw := by omega
                have hft := Kp.mk (first_kept (hfi.out) hw)
                go_wp2_with fail
                apply wp_label
                go_wp2_with fail
                go_quiet (fail)
                go_wp2_with fail
                first | rw [Exit.noGoto_normal] | rw [Exit.fwd_normal]
                go_wp2_with fail
                go_roundw
                case rel => exact ⟨k + 1, _, _, _, rfl, by go_num, by omega, put_next2 hxs.out he.out hout.out (step_kept hst.out hft.out) (hM.drewN _) (by rw [← hO2.out] <;> simp)⟩
                case measure => simp [intOf]; omega
            | false =>
              have hz := beginD_none hfit
              have hfi := Kp.mk (first_none hfit)
              replace hfit := Kp.mk hfit
              rw [hz] at hM
              clear hz
              go_wp2_with (at_builtin; refine wpList_append_ints rfl _ _ 27 rfl w.heap.size 21 i0 (.int .i32 0) 4 Try.underlying27 hi hz0 hz1 hz2 rfl .i32 _ _ _ _ rfl (hM.o.alloc _) _ _ _ _ [65533] rfl (src1 _ 65533) ?c1 ?c2 ?c3 ?_)
              case c1 =>
                have := hM.o.len; try simp at this
                unfold maxLen; omega
              case c2 =>
                have := hM.o.len; try simp at this
                omega
              case c3 => have := hM.k.size; simp; omega
              intro A3 cap3 w4 hown hgrow _
              replace hM := hM.app hown hgrow
              clear hown hgrow

              have f0 := hM.b.frozen 0; have f1 := hM.b.frozen 1; have f2 := hM.b.frozen 2; have f3 := hM.b.frozen 3; have f4 := hM.b.frozen 4
              have c0 : w4.cell? ⟨g, 0, none⟩ = some (.int .i32 ((0 : Nat) : Int)) := hM.b.cell 0
              have c1 : w4.cell? ⟨g, 1, none⟩ = some (.int .i64 ((0 : Nat) : Int)) := hM.b.cell 1
              have c2 : w4.cell? ⟨g, 2, none⟩ = some (.int .i64 ((0 : Nat) : Int)) := hM.b.cell 2
              have c3 := hM.b.cell 3; have c4 := hM.b.cell 4; simp [D.cells, D.zero] at c3 c4
              have hl := hM.b.lt
              go_wp2_with fail
              apply wp_label
              go_wp2_with fail
              go_quiet (fail)
              go_wp2_with fail
              first | rw [Exit.noGoto_normal] | rw [Exit.fwd_normal]
              go_wp2_with fail
              go_roundw
              case rel => exact ⟨k + 1, _, _, _, rfl, by go_num, by omega, put_next2 hxs.out he.out hout.out (step_told hst.out hfi.out) (hM.drewN _) (by rw [← hO2.out] <;> simp)⟩
              case measure => simp [intOf]; omega
    · have hkn : k = n := by omega
      go_wp2_with fail
      refine bodyPost_ret (v := .slice A2 m cap2) (by simp [results, Try.results17, go_sem]) rfl ⟨_, _, _, rfl, hkn ▸ hM⟩
end Go.Proofs.Ytfogblcjccoeiaa
