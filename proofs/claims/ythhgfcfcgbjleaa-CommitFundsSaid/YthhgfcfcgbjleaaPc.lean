/- A channel that a statement's caller hands in. -/
import Derived.Test.YthhgfcfcgbjleaaLv
import Derived.Test.YthhgfcfcgbjleaaOw
namespace Go.Proofs.Ythhgfcfcgbjleaa
open Go.ChangeShapes
set_option maxRecDepth 100000
def kChn : List IntKind := [.i64, .i64, .i64] ++ List.replicate 32 .u8 ++ [.i64, .i64, .i64, .i64]
theorem chn_open {H : Type} {enc : TypeId × Value → H} {w : World} {base : Nat} {spare : Nat → Bool} {held : Bool} {n : Nat} {cs : List Value} {x : DataW H × List MemPlace}
    (h : DataW.trod enc Try.prog w base spare held n 27 cs = some x) : ∃ (id client peer : Int) (s : Nat → Int) (at_ cap wait window : Int), cs = chnC id client peer s at_ cap wait window ∧ okI id ∧ okI client ∧ okI peer ∧ (∀ i, i < 32 → 0 ≤ s i ∧ s i ≤ 255) ∧ okI at_ ∧ okI cap ∧ okI wait ∧ okI window := by
  have hl : leaves Try.prog 5 27 = some ([3, 3, 3] ++ List.replicate 32 5 ++ [3, 2, 3, 3]) := by kernel_rfl
  have hL := open_leaves 5 hl (.inr (.inl ⟨_, Try.underlying27⟩)) h
  obtain ⟨z, hz, hw⟩ := hL.ints (ks := kChn) (by kernel_rfl)
  have b : ∀ i, kChn[i]? = some .i64 → okI (z i) := fun i hi => bounds_i64 (hw i _ hi)
  refine ⟨z 0, z 1, z 2, fun i => z (3 + i), z 35, z 36, z 37, z 38, hz.trans (by kernel_rfl), b 0 (by kernel_rfl), b 1 (by kernel_rfl), b 2 (by kernel_rfl), fun i hi => ?_, b 35 (by kernel_rfl), b 36 (by kernel_rfl), b 37 (by kernel_rfl), b 38 (by kernel_rfl)⟩
  have := hw (3 + i) .u8 (by
    have e : ∀ j, j < 32 → kChn[3 + j]? = some .u8 := by decide
    exact e i hi)
  simpa [Lit.wf, IntKind.min, IntKind.max, IntKind.signed, IntKind.bits] using this
end Go.Proofs.Ythhgfcfcgbjleaa
