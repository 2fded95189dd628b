/- The out that funds a channel. -/
import Derived.Test.YthhgfcfcgbjleaaOt
import Derived.Deep.RegionHeld3
import Derived.Deep.QuietTactic
import Derived.BigQuiet
namespace Go.Proofs.Ythhgfcfcgbjleaa
open Go.RowKit
set_option maxRecDepth 100000
set_option maxHeartbeats 1000000 in
theorem commit_both (a b : Int) (w : World) :
    Calls Try.prog 67 #[.int .i64 a, .int .i64 b] w fun e w' => e = .returned (.slice (some ⟨w.heap.size, 0, none⟩) 2 2) ∧ w' = w.alloc (.cells #[.int .i64 (min a b), .int .i64 (max a b)] 3 (0, 0)) := by
  go_enter Try.func67, Try.ntmps67
  go_wp2
  all_goals
    go_ret
    refine ⟨rfl, ?_⟩
    first
      | (rw [show min a b = a by omega, show max a b = b by omega]; done)
      | (rw [show min a b = b by omega, show max a b = a by omega]; done)
      | (obtain rfl : a = b := by omega
         simp)
set_option maxHeartbeats 1000000 in
theorem commit_Fund (xs : Array Value) (a b cap : Int) (w : World) (h1 : xs[1]? = some (.int .i64 a)) (h2 : xs[2]? = some (.int .i64 b)) (h3 : xs[36]? = some (.int .i64 cap)) :
    Calls Try.prog 13 #[.agg xs] w fun e w' => (∃ v, e = .returned v ∧ OutIs w' v ⟨cap, [⟨[min a b, max a b], zeros, 0, 0⟩]⟩) ∧ Below w.heap.size w w' := by
  go_enter Try.func13, Try.ntmps13
  go_wp2_with fail
  have c1 := cell_al (cell_new w xs 27 _ _ h1) (.cells #[.int .i64 0, .slice none 0 0] 31 (0, 0))
  have c2 := cell_al (cell_new w xs 27 _ _ h2) (.cells #[.int .i64 0, .slice none 0 0] 31 (0, 0))
  have c3 := cell_al (cell_new w xs 27 _ _ h3) (.cells #[.int .i64 0, .slice none 0 0] 31 (0, 0))
  have r0 := heap_alloc_new (w.alloc (.cells xs 27 (0, 0))) (.cells #[.int .i64 0, .slice none 0 0] 31 (0, 0))
  have e1 : (w.alloc (.cells xs 27 (0, 0))).heap.size = w.heap.size + 1 := by simp
  rw [e1] at r0
  have hlt : ((w.alloc (.cells xs 27 (0, 0))).alloc (.cells #[.int .i64 0, .slice none 0 0] 31 (0, 0))).heap.size = w.heap.size + 2 := by simp
  have hB : Below w.heap.size w ((w.alloc (.cells xs 27 (0, 0))).alloc (.cells #[.int .i64 0, .slice none 0 0] 31 (0, 0))) := ((Below.refl _ w).alloc (Nat.le_refl _) _).alloc (by simp) _
  obtain ⟨W, hW⟩ : ∃ W, W = (w.alloc (.cells xs 27 (0, 0))).alloc (.cells #[.int .i64 0, .slice none 0 0] 31 (0, 0)) := ⟨_, rfl⟩
  rw [← hW] at r0 hlt c1 c2 c3 hB ⊢
  have HB := Hd.mk hB
  clear hW e1 hB
  have hln : w.heap.size < W.heap.size := by omega
  generalize hn : w.heap.size = n at *
  have g1 : W.cell? ⟨n + 1, 0, none⟩ = some (.int .i64 0) := by rw [cell_of_row W _ 0 _ _ _ r0]; rfl
  have g2 : W.cell? ⟨n + 1, 1, none⟩ = some (.slice none 0 0) := by rw [cell_of_row W _ 1 _ _ _ r0]; rfl
  have g3 : W.frozen? ⟨n + 1, 0, none⟩ = false := frozen_row r0
  have g4 : W.frozen? ⟨n + 1, 1, none⟩ = false := frozen_row r0
  have hl2 : n + 1 < W.heap.size := by omega
  clear r0 hlt
  go_region_held3 (fun w' => w'.cell? ⟨n, 1, none⟩ = some (.int .i64 a) ∧ w'.cell? ⟨n, 2, none⟩ = some (.int .i64 b) ∧ w'.cell? ⟨n, 36, none⟩ = some (.int .i64 cap))
    (((repeat' apply And.intro) <;> (repeat (first | assumption | apply cell_dr | apply cell_al | (refine cell_st_ne ?_ (by simp)))))) (first
    | (go_at_call 67; refine (commit_both _ _ _).mono ?_; rintro e w' ⟨rfl, rfl⟩))
  go_wp2
  refine bodyPost_ret (ret_cell rfl _ _ (n + 1) 0 [.int .i64 cap, .slice (some ⟨W.heap.size + 1, 0, none⟩) 1 1] _ rfl ?_ Try.underlying31 rfl (by kernel_rfl)) rfl ?_
  · refine range2 ?_ ?_
    · exact cell_dr (cell_al (cell_al (cell_st_ne (cell_st_same g1 _) (by simp)) _) _)
    · exact cell_dr (cell_al (cell_al (cell_st_same (cell_st_ne g2 (by simp)) _) _) _)
  · obtain ⟨W3, hW3⟩ : ∃ W3, W3 = (W.setCell ⟨n + 1, 0, none⟩ (.int .i64 cap)).setCell ⟨n + 1, 1, none⟩ (.slice (some ⟨W.heap.size + 1, 0, none⟩) 1 1) := ⟨_, rfl⟩
    have hs : W3.heap.size = W.heap.size := by rw [hW3, size_st, size_st]
    have hB : Below n w W3 := by rw [hW3]; exact (HB.out.setCell (by simp) _).setCell (by simp) _
    rw [← hW3, ← hs, hn]
    clear hW3
    refine ⟨⟨_, rfl, _, _, rfl, fun j y hy => ?_, ?_, by simp⟩, (((hB.alloc (by omega) _).alloc (by simp; omega) _).drew)⟩
    · match j, hy with
      | 0, hy =>
        simp at hy
        subst hy
        refine ⟨_, _, rfl, some ⟨W3.heap.size, 0, none⟩, 2, ?_, ?_⟩
        · have := range_new (W3.alloc (.cells #[.int .i64 (min a b), .int .i64 (max a b)] 3 (0, 0))) ((⟨[min a b, max a b], zeros, 0, 0⟩ : Wy).cells (some ⟨W3.heap.size, 0, none⟩) 2) 35
          simpa [zeros, Wy.cells, List.replicate] using this
        · exact ((rd_lit W3 _ _ [min a b, max a b] rfl).below ((Below.refl _ _).alloc (Nat.le_refl _) _)).drew
    · intro y hy
      simp at hy
      subst hy
      exact ⟨rfl, by simp, zeros_ok⟩
end Go.Proofs.Ythhgfcfcgbjleaa
