/- The memory at the start of turn's range. -/
import Derived.Test.YtgdphdnghackfaaR6
namespace Go.Proofs.Ytgdphdnghackfaa
open Go.RowKit Go.Shelf
theorem box_old {W : World} {g : Nat} {t : TypeId} {cs : Array Value} (h : Box W g t cs) (d : Array Value) (t' : TypeId) : Box (W.alloc (.cells d t')) g t cs := h.keep ((Below.refl _ _).alloc (Nat.le_refl _) _) h.lt
theorem box_new {W : World} {g : Nat} (t : TypeId) (cs : Array Value) (e : g = W.heap.size) : Box (W.alloc (.cells cs t)) g t cs := by subst e; exact Box.new _ _ _
theorem turn_start (w : World) (gn gk from_ nonce n cap : Nat) (A : Option Addr) (key : List Nat) (zs : List Int) (tx : List Nat) (htx : tx.length = n)
    (hb : Box w gn 23 #[.int .u64 (nonce : Nat)]) (hK : Arr w gk 22 key) (hs : SlIn w .u8 A n cap zs)
    (h0 : madeCells #[.int .u8 0] n = u8s (List.replicate n 0)) :
    TnMem w A n cap zs (trS key nonce from_ tx []) ((((((((w.alloc (.cells #[.slice A n cap] 25)).alloc (.cells (madeCells #[.int .u8 0] n) 5)).alloc (.cells #[.slice (some ⟨w.heap.size + 1, 0, none⟩) n n] 25)).alloc (.cells #[.int .i64 0] 3)).alloc (.cells #[.int .i64 ((from_ : Int) % 16)] 3)).alloc (.cells #[blkF gn gk] 38)).alloc (.cells #[.int .i64 ((from_ : Int) / 16)] 3)).alloc (.cells #[.int .i64 ((n : Int) / 16 + 2)] 3)) ∧
    WkMem (w.heap.size + 7) (w.heap.size + 6) (w.heap.size + 5) gn gk (n / 16 + 2) (from_ / 16) nonce key ((((((((w.alloc (.cells #[.slice A n cap] 25)).alloc (.cells (madeCells #[.int .u8 0] n) 5)).alloc (.cells #[.slice (some ⟨w.heap.size + 1, 0, none⟩) n n] 25)).alloc (.cells #[.int .i64 0] 3)).alloc (.cells #[.int .i64 ((from_ : Int) % 16)] 3)).alloc (.cells #[blkF gn gk] 38)).alloc (.cells #[.int .i64 ((from_ : Int) / 16)] 3)).alloc (.cells #[.int .i64 ((n : Int) / 16 + 2)] 3)) := by
  have ht : trS key nonce from_ tx [] = ⟨0, from_ % 16, List.replicate n 0⟩ := by rw [← htx]; rfl
  have bel : Below w.heap.size w ((((((((w.alloc (.cells #[.slice A n cap] 25)).alloc (.cells (madeCells #[.int .u8 0] n) 5)).alloc (.cells #[.slice (some ⟨w.heap.size + 1, 0, none⟩) n n] 25)).alloc (.cells #[.int .i64 0] 3)).alloc (.cells #[.int .i64 ((from_ : Int) % 16)] 3)).alloc (.cells #[blkF gn gk] 38)).alloc (.cells #[.int .i64 ((from_ : Int) / 16)] 3)).alloc (.cells #[.int .i64 ((n : Int) / 16 + 2)] 3)) := by
    refine Below.alloc (Below.alloc (Below.alloc (Below.alloc (Below.alloc (Below.alloc (Below.alloc (Below.alloc (Below.refl _ _) ?_ _) ?_ _) ?_ _) ?_ _) ?_ _) ?_ _) ?_ _) ?_ _ <;> ((try simp); try omega)
  refine ⟨⟨?_, ?_, ?_, ?_, ?_, ?_, bel⟩, ⟨?_, ?_, ?_, ?_, ?_⟩⟩
  · exact box_old (box_old (box_old (box_old (box_old (box_old (box_old (box_new 25 _ rfl) _ _) _ _) _ _) _ _) _ _) _ _) _ _
  · rw [ht, h0]
    exact box_old (box_old (box_old (box_old (box_old (box_old (box_new 5 (u8s (List.replicate n 0)) (by simp)) _ _) _ _) _ _) _ _) _ _) _ _
  · exact box_old (box_old (box_old (box_old (box_old (box_new 25 _ (by simp)) _ _) _ _) _ _) _ _) _ _
  · rw [ht]
    exact box_old (box_old (box_old (box_old (box_new 3 #[.int .i64 0] (by simp)) _ _) _ _) _ _) _ _
  · rw [ht]
    exact box_old (box_old (box_old (box_new 3 #[.int .i64 ((from_ : Int) % 16)] (by simp)) _ _) _ _) _ _
  · exact hs.1.keep bel (Nat.le_refl _)
  · exact box_new 3 #[.int .i64 ((n : Int) / 16 + 2)] (by simp)
  · exact box_old (box_new 3 #[.int .i64 ((from_ : Int) / 16)] (by simp)) _ _
  · exact box_old (box_old (box_new 38 _ (by simp)) _ _) _ _
  · exact hb.keep bel hb.lt
  · exact hK.keep bel hK.lt
end Go.Proofs.Ytgdphdnghackfaa
