/- How long a pause is. -/
import Derived.Test.YtddaoelaoncimaaEqv
import Derived.Test.YtddaoelaoncimaaProg
namespace Go.Proofs.Ytddaoelaoncimaa
open Go.RowKit
set_option maxRecDepth 100000
set_option linter.unusedSimpArgs false
set_option linter.unusedVariables false
def pz : Nat → Int
  | 0 => 2
  | k + 1 => min (2 * pz k) 32
theorem pz_le : ∀ k, 2 ≤ pz k ∧ pz k ≤ 32
  | 0 => by decide
  | k + 1 => by have := pz_le k; unfold pz; omega
theorem pz_top0 : ∀ k, pz k = 32 → ∀ j, pz (k + j) = 32
  | k, h, 0 => h
  | k, h, j + 1 => by
    show min (2 * pz (k + j)) 32 = 32
    rw [pz_top0 k h j]; decide
theorem pz_dbl {k : Nat} (h : pz k < 32) : Value.int .i64 (IntKind.i64.wrap (pz k * 2)) = Value.int .i64 (pz (k + 1)) := by
  have := pz_le k
  have e : pz k ≤ 16 := by
    match k, h with
    | 0, _ => decide
    | 1, _ => decide
    | 2, _ => decide
    | 3, _ => decide
    | j + 4, h => rw [show j + 4 = 4 + j by omega, pz_top0 4 rfl j] at h; omega
  rw [wr64 (by omega) (by omega)]
  congr 1
  show _ = min (2 * pz k) 32
  omega
theorem pz_top : ∀ k, pz k = 32 → ∀ j, pz (k + j) = 32
  | k, h, 0 => h
  | k, h, j + 1 => by
    show min (2 * pz (k + j)) 32 = 32
    rw [pz_top k h j]; decide
def pauseZ (t : Int) : Int := pz (min (max t 1 - 1) 16).toNat
theorem ref_end (t : Int) (k : Nat) (hk : (k : Int) ≤ max t 1 - 1) (hq : ¬ ((k : Int) + 1 < t ∧ pz k < 32)) : pz k = pauseZ t := by
  have h4 : pz 4 = 32 := by decide
  unfold pauseZ
  by_cases h : (k : Int) + 1 < t
  · have h32 : pz k = 32 := by have := pz_le k; omega
    have e : ∃ j, (min (max t 1 - 1) 16).toNat = k + j ∨ (min (max t 1 - 1) 16).toNat = 4 + j := by
      by_cases hk16 : k ≤ 16
      · exact ⟨(min (max t 1 - 1) 16).toNat - k, .inl (by omega)⟩
      · exact ⟨12, .inr (by omega)⟩
    obtain ⟨j, e | e⟩ := e
    · rw [e, pz_top k h32, h32]
    · rw [e, pz_top 4 h4, h32]
  · have e : k = (max t 1 - 1).toNat := by omega
    by_cases h16 : (max t 1 - 1) ≤ 16
    · congr 1; omega
    · have e1 : k = 4 + (k - 4) := by omega
      have e2 : (min (max t 1 - 1) 16).toNat = 4 + 12 := by omega
      rw [e2, pz_top 4 h4, e1, pz_top 4 h4]
theorem queue_Pause (t : Int) (ht : -9223372036854775808 ≤ t ∧ t ≤ 9223372036854775807) (w : World) : Calls Try.prog 29 #[.int .i64 t] w fun e w' => e = .returned (.int .i64 (pauseZ t)) ∧ Below w.heap.size w w' := by
  have hO := own_nil w
  have hS := Sep.refl w.heap.size [] w
  refine calls_L Try.func29 rfl 15 [(0, .int .i64 t)] (by kernel_rfl) ?_
  refine CW.seq ?_
  refine CW.region ?_
  refine EL.op (OPW.val (k := 2) (.int .i64 0) rfl (by kernel_rfl) (by kernel_rfl) (by kernel_rfl) ?_)
  refine EL.nil ?_
  refine thenN ?_
  refine CW.seq ?_
  refine CW.region ?_
  refine EL.op (OPW.val (k := 3) (.int .i64 2) rfl (by kernel_rfl) (by kernel_rfl) (by kernel_rfl) ?_)
  refine EL.nil ?_
  refine thenN ?_
  refine CW.seq ?_
  refine CW.seq ?_
  refine CW.region ?_
  refine EL.op (OPW.val (k := 4) (.int .i64 t) rfl (by kernel_rfl) (by kernel_rfl) (by kernel_rfl) ?_)
  refine EL.op (OPW.val (k := 5) (.int .i64 (max t (1 : Int))) rfl (by kernel_rfl) (by kernel_rfl) (run_eq (v := .int .i64 (if (1 : Int) > t then (1 : Int) else t)) (by kernel_rfl) (max2_eq _ _)) ?_)
  refine EL.op (OPW.val (k := 6) (.int .i64 ((max t (1 : Int)) - (1 : Int))) rfl (by kernel_rfl) (by kernel_rfl) (run_eq (v := .int .i64 (IntKind.i64.wrap ((max t (1 : Int)) - (1 : Int)))) (by kernel_rfl) (wr64 (by omega) (by omega))) ?_)
  refine EL.op (OPW.val (k := 7) (.int .i64 (min ((max t (1 : Int)) - (1 : Int)) (16 : Int))) rfl (by kernel_rfl) (by kernel_rfl) (run_eq (v := .int .i64 (if (16 : Int) < ((max t (1 : Int)) - (1 : Int)) then (16 : Int) else ((max t (1 : Int)) - (1 : Int)))) (by kernel_rfl) (min2_eq _ _)) ?_)
  refine EL.op (OPW.val (k := 8) (.int .i64 0) rfl (by kernel_rfl) (by kernel_rfl) (by kernel_rfl) ?_)
  refine EL.nil ?_
  refine thenN ?_
  refine CW.block ?_
  refine CW.loop (fun n l w' => ∃ (k : Nat) (t9 t10 t11 t12 t13 : Value), arr 15 l = arr 15 [(0, .int .i64 t), (2, .int .i64 0), (3, .int .i64 (pz k)), (4, .int .i64 t), (5, .int .i64 (max t (1 : Int))), (6, .int .i64 ((max t (1 : Int)) - (1 : Int))), (7, .int .i64 (min ((max t (1 : Int)) - (1 : Int)) (16 : Int))), (8, .int .i64 (k : Int)), (9, t9), (10, t10), (11, t11), (12, t12), (13, t13)] ∧ w' = w ∧ (0 ≤ (min ((max t (1 : Int)) - (1 : Int)) (16 : Int)) ∧ (k : Int) ≤ (min ((max t (1 : Int)) - (1 : Int)) (16 : Int))) ∧ n = ((min ((max t (1 : Int)) - (1 : Int)) (16 : Int)) - ↑k).toNat) (((min ((max t (1 : Int)) - (1 : Int)) (16 : Int)) - ↑(0:Nat)).toNat) ?_ ?_
  · exact ⟨0, undef, undef, undef, undef, undef, (by kernel_rfl), rfl, ⟨by omega, by omega⟩, rfl⟩
  · rintro _ _ _ ⟨k, t9, t10, t11, t12, t13, hl, rfl, ⟨h0, hk⟩, rfl⟩
    refine CW.eq hl ?_
    clear hl
    refine CW.seq ?_
    refine CW.region ?_
    refine EL.op (OPW.bool (k := 9) (decide ((k : Int) < (min ((max t (1 : Int)) - (1 : Int)) (16 : Int)))) rfl (by kernel_rfl) (by kernel_rfl) (by kernel_rfl) ?_)
    intro b3 hb3
    refine EL.nil ?_
    refine thenN ?_
    refine CW.seq ?_
    refine CW.cond b3 (by kernel_rfl) (fun hc3 => ?_) (fun hc3 => ?_)
    · skip
      subst hc3
      have hlt : (k : Int) < (min ((max t (1 : Int)) - (1 : Int)) (16 : Int)) := by simpa using hb3.symm
      refine CW.skip ?_
      refine thenN ?_
      refine CW.seq ?_
      refine CW.block ?_
      refine CW.region ?_
      refine EL.op (OPW.val (k := 10) (.int .i64 (pz k)) rfl (by kernel_rfl) (by kernel_rfl) (by kernel_rfl) ?_)
      refine EL.op (OPW.val (k := 11) (.int .i64 ((2 : Int) * (pz k))) rfl (by kernel_rfl) (by kernel_rfl) (run_eq (v := .int .i64 (IntKind.i64.wrap ((2 : Int) * (pz k)))) (by kernel_rfl) (wr64 (by have := pz_le k; omega) (by have := pz_le k; omega))) ?_)
      refine EL.op (OPW.val (k := 12) (.int .i64 (min ((2 : Int) * (pz k)) (32 : Int))) rfl (by kernel_rfl) (by kernel_rfl) (run_eq (v := .int .i64 (if (32 : Int) < ((2 : Int) * (pz k)) then (32 : Int) else ((2 : Int) * (pz k)))) (by kernel_rfl) (min2_eq _ _)) ?_)
      refine EL.op (OPW.val (k := 3) (.int .i64 (min ((2 : Int) * (pz k)) (32 : Int))) rfl (by kernel_rfl) (by kernel_rfl) (by kernel_rfl) ?_)
      refine EL.nil ?_
      refine blockN ?_
      refine thenN ?_
      refine CW.region ?_
      refine EL.op (OPW.val (k := 13) (.int .i64 ((k : Int) + (1 : Int))) rfl (by kernel_rfl) (by kernel_rfl) (run_eq (v := .int .i64 (IntKind.i64.wrap ((k : Int) + (1 : Int)))) (by kernel_rfl) (wr64 (by omega) (by omega))) ?_)
      refine EL.op (OPW.val (k := 8) (.int .i64 ((k : Int) + (1 : Int))) rfl (by kernel_rfl) (by kernel_rfl) (by kernel_rfl) ?_)
      refine EL.nil ?_
      exact loopN (((min ((max t (1 : Int)) - (1 : Int)) (16 : Int)) - ↑(k + 1)).toNat) (by omega) ⟨k + 1, Value.bool true, Value.int .i64 (pz k), Value.int .i64 ((2 : Int) * (pz k)), Value.int .i64 (min ((2 : Int) * (pz k)) (32 : Int)), Value.int .i64 ((k : Int) + (1 : Int)), (by kernel_rfl), rfl, ⟨by omega, by omega⟩, rfl⟩
    · skip
      subst hc3
      have hlt : ¬ (k : Int) < (min ((max t (1 : Int)) - (1 : Int)) (16 : Int)) := by simpa using hb3.symm
      refine CW.exit ?_
      refine thenE ?_
      refine thenE ?_
      refine blockE ?_
      refine thenN ?_
      refine CW.seq ?_
      refine CW.region ?_
      refine EL.op (OPW.val (k := 14) (.int .i64 (pz k)) rfl (by kernel_rfl) (by kernel_rfl) (by kernel_rfl) ?_)
      refine EL.op (OPW.val (k := 2) (.int .i64 (pz k)) rfl (by kernel_rfl) (by kernel_rfl) (by kernel_rfl) ?_)
      refine EL.nil ?_
      refine thenN ?_
      refine CW.ret ?_
      refine bp_ret (v := .int .i64 (pz k)) (by kernel_rfl) ?_
      refine ⟨?_, hS.toBelow⟩
      refine congrArg (fun x => Ending.returned (Value.int .i64 x)) ?_
      unfold pauseZ
      congr 1
      omega
theorem ref_pause (t : Int) (ht : -9223372036854775808 ≤ t ∧ t ≤ 9223372036854775807) (w : World) : Calls Try.prog 30 #[.int .i64 t] w fun e w' => e = .returned (.int .i64 (pauseZ t)) ∧ Below w.heap.size w w' := by
  have hO := own_nil w
  have hS := Sep.refl w.heap.size [] w
  refine calls_L Try.func30 rfl 17 [(0, .int .i64 t)] (by kernel_rfl) ?_
  refine CW.seq ?_
  refine CW.region ?_
  refine EL.op (OPW.val (k := 2) (.int .i64 0) rfl (by kernel_rfl) (by kernel_rfl) (by kernel_rfl) ?_)
  refine EL.nil ?_
  refine thenN ?_
  refine CW.seq ?_
  refine CW.region ?_
  refine EL.op (OPW.val (k := 3) (.int .i64 2) rfl (by kernel_rfl) (by kernel_rfl) (by kernel_rfl) ?_)
  refine EL.nil ?_
  refine thenN ?_
  refine CW.seq ?_
  refine CW.seq ?_
  refine CW.region ?_
  refine EL.op (OPW.val (k := 4) (.int .i64 1) rfl (by kernel_rfl) (by kernel_rfl) (by kernel_rfl) ?_)
  refine EL.nil ?_
  refine thenN ?_
  refine CW.block ?_
  refine CW.loop (fun n l w' => ∃ (k : Nat) (t5 t6 t7 t8 t9 t10 t11 t12 t13 t14 t15 : Value), arr 17 l = arr 17 [(0, .int .i64 t), (2, .int .i64 0), (3, .int .i64 (pz k)), (4, .int .i64 ((k : Int) + 1)), (5, t5), (6, t6), (7, t7), (8, t8), (9, t9), (10, t10), (11, t11), (12, t12), (13, t13), (14, t14), (15, t15)] ∧ w' = w ∧ ((k : Int) ≤ max t 1 - 1 ∧ True) ∧ n = (max t 1 - 1 - ↑k).toNat) ((max t 1 - 1 - ↑(0:Nat)).toNat) ?_ ?_
  · exact ⟨0, undef, undef, undef, undef, undef, undef, undef, undef, undef, undef, undef, (by kernel_rfl), rfl, ⟨by omega, trivial⟩, rfl⟩
  · rintro _ _ _ ⟨k, t5, t6, t7, t8, t9, t10, t11, t12, t13, t14, t15, hl, rfl, ⟨hk, hp⟩, rfl⟩
    refine CW.eq hl ?_
    clear hl
    refine CW.seq ?_
    refine CW.seq ?_
    refine CW.region ?_
    refine EL.op (OPW.val (k := 5) (.int .i64 ((k : Int) + 1)) rfl (by kernel_rfl) (by kernel_rfl) (by kernel_rfl) ?_)
    refine EL.op (OPW.val (k := 6) (.int .i64 t) rfl (by kernel_rfl) (by kernel_rfl) (by kernel_rfl) ?_)
    refine EL.op (OPW.bool (k := 7) (decide (((k : Int) + 1) < t)) rfl (by kernel_rfl) (by kernel_rfl) (by kernel_rfl) ?_)
    intro b3 hb3
    refine EL.op (OPW.val (k := 8) (.bool b3) rfl (by kernel_rfl) (by kernel_rfl) (by kernel_rfl) ?_)
    refine EL.op (OPW.gT (k := 9) b3 (.int .i64 (pz k)) rfl (by kernel_rfl) rfl (by kernel_rfl) (by rintro rfl; kernel_rfl) ?_)
    refine EL.op (OPW.gT (k := 10) b3 (.bool (decide ((pz k) < (32 : Int)))) rfl (by kernel_rfl) rfl (by kernel_rfl) (by rintro rfl; kernel_rfl) ?_)
    refine EL.op (OPW.bool (k := 11) (b3 && (decide ((pz k) < (32 : Int)))) rfl (by kernel_rfl) (by kernel_rfl) (pick_and rfl (by kernel_rfl) (by rintro rfl; kernel_rfl) (by kernel_rfl)) ?_)
    intro b4 hb4
    refine EL.nil ?_
    refine thenN ?_
    have q3 : b4 = (decide ((k : Int) + 1 < t) && decide (pz k < 32)) := by simp only [hb3, hb4, Bool.and_assoc, Bool.or_assoc]
    refine CW.cond b4 (by kernel_rfl) (fun hc3 => ?_) (fun hc3 => ?_)
    · skip
      subst hc3
      have hq : (k : Int) + 1 < t ∧ pz k < 32 := by simpa using q3.symm
      refine CW.skip ?_
      refine thenN ?_
      refine CW.seq ?_
      refine CW.block ?_
      refine CW.region ?_
      refine EL.op (OPW.val (k := 14) (.int .i64 (pz k)) rfl (by kernel_rfl) (by kernel_rfl) (by kernel_rfl) ?_)
      refine EL.op (OPW.val (k := 15) (.int .i64 (pz (k + 1))) rfl (by kernel_rfl) (by kernel_rfl) (run_eq (v := .int .i64 (IntKind.i64.wrap ((pz k) * (2 : Int)))) (by kernel_rfl) (pz_dbl hq.2)) ?_)
      refine EL.op (OPW.val (k := 3) (.int .i64 (pz (k + 1))) rfl (by kernel_rfl) (by kernel_rfl) (by kernel_rfl) ?_)
      refine EL.nil ?_
      refine blockN ?_
      refine thenN ?_
      refine CW.region ?_
      refine EL.op (OPW.val (k := 12) (.int .i64 ((k : Int) + 1)) rfl (by kernel_rfl) (by kernel_rfl) (by kernel_rfl) ?_)
      refine EL.op (OPW.val (k := 13) (.int .i64 (((k : Int) + 1) + (1 : Int))) rfl (by kernel_rfl) (by kernel_rfl) (run_eq (v := .int .i64 (IntKind.i64.wrap (((k : Int) + 1) + (1 : Int)))) (by kernel_rfl) (wr64 (by omega) (by omega))) ?_)
      refine EL.op (OPW.val (k := 4) (.int .i64 (((k : Int) + 1) + (1 : Int))) rfl (by kernel_rfl) (by kernel_rfl) (by kernel_rfl) ?_)
      refine EL.nil ?_
      exact loopN ((max t 1 - 1 - ↑(k + 1)).toNat) (by omega) ⟨k + 1, Value.int .i64 ((k : Int) + 1), Value.int .i64 t, Value.bool b3, Value.bool b3, (bif b3 then Value.int .i64 (pz k) else undef), (bif b3 then Value.bool (decide ((pz k) < (32 : Int))) else undef), Value.bool true, Value.int .i64 ((k : Int) + 1), Value.int .i64 (((k : Int) + 1) + (1 : Int)), Value.int .i64 (pz k), Value.int .i64 (pz (k + 1)), (by kernel_rfl), rfl, ⟨by omega, hp⟩, rfl⟩
    · skip
      subst hc3
      have hq : ¬ ((k : Int) + 1 < t ∧ pz k < 32) := by simpa using q3.symm
      refine CW.exit ?_
      refine thenE ?_
      refine thenE ?_
      refine blockE ?_
      refine thenN ?_
      refine CW.seq ?_
      refine CW.region ?_
      refine EL.op (OPW.val (k := 16) (.int .i64 (pz k)) rfl (by kernel_rfl) (by kernel_rfl) (by kernel_rfl) ?_)
      refine EL.op (OPW.val (k := 2) (.int .i64 (pz k)) rfl (by kernel_rfl) (by kernel_rfl) (by kernel_rfl) ?_)
      refine EL.nil ?_
      refine thenN ?_
      refine CW.ret ?_
      refine bp_ret (v := .int .i64 (pz k)) (by kernel_rfl) ?_
      refine ⟨?_, hS.toBelow⟩
      refine congrArg (fun x => Ending.returned (Value.int .i64 x)) ?_
      exact ref_end t k hk hq
end Go.Proofs.Ytddaoelaoncimaa
