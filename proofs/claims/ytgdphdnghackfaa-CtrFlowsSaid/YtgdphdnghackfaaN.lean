/- The bytes' plain laws: mixing and mixing back, byte by byte; the two tables are each other's way back. No program. -/
import Derived.Test.YtgdphdnghackfaaM
namespace Go.Proofs.Ytgdphdnghackfaa
set_option maxRecDepth 100000
/-- Mixing by 2, 3, 1, 1 and then by 14, 11, 13, 9, a byte's share in each place of its column: itself in its own, nothing elsewhere. -/
theorem mix_back : ∀ x, x < 256 →
    T 14 (T 2 x) ^^^ (T 11 (T 1 x) ^^^ (T 13 (T 1 x) ^^^ T 9 (T 3 x))) = x ∧ T 14 (T 3 x) ^^^ (T 11 (T 2 x) ^^^ (T 13 (T 1 x) ^^^ T 9 (T 1 x))) = 0 ∧
    T 14 (T 1 x) ^^^ (T 11 (T 3 x) ^^^ (T 13 (T 2 x) ^^^ T 9 (T 1 x))) = 0 ∧ T 14 (T 1 x) ^^^ (T 11 (T 1 x) ^^^ (T 13 (T 3 x) ^^^ T 9 (T 2 x))) = 0 := by decide +kernel
theorem mix_forth : ∀ x, x < 256 →
    T 2 (T 14 x) ^^^ (T 3 (T 9 x) ^^^ (T 1 (T 13 x) ^^^ T 1 (T 11 x))) = x ∧ T 2 (T 11 x) ^^^ (T 3 (T 14 x) ^^^ (T 1 (T 9 x) ^^^ T 1 (T 13 x))) = 0 ∧
    T 2 (T 13 x) ^^^ (T 3 (T 11 x) ^^^ (T 1 (T 14 x) ^^^ T 1 (T 9 x))) = 0 ∧ T 2 (T 9 x) ^^^ (T 3 (T 13 x) ^^^ (T 1 (T 11 x) ^^^ T 1 (T 14 x))) = 0 := by decide +kernel
theorem tables_back : ∀ x, x < 256 → backT.getD (swapT.getD x 0) 0 = x ∧ swapT.getD (backT.getD x 0) 0 = x ∧ swapT.getD x 0 < 256 ∧ backT.getD x 0 < 256 := by decide +kernel
end Go.Proofs.Ytgdphdnghackfaa
