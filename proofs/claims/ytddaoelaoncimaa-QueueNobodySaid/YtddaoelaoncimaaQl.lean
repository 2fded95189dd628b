/- The walks of the statements QueuePauses and QueueNobody. -/
import Derived.Test.YtddaoelaoncimaaQa
namespace Go.Proofs.Ytddaoelaoncimaa
open Go.RowKit
set_option maxRecDepth 100000
set_option linter.unusedSimpArgs false
set_option linter.unusedVariables false
theorem lawPauses (t : Int) (ht : -9223372036854775808 ≤ t ∧ t ≤ 9223372036854775807) (w : World) : Calls Try.prog 7 #[.int .i64 t] w fun e w' => e = .returned (.bool true) ∧ Below w.heap.size w w' := by
  have hO := own_nil w
  have hS := Sep.refl w.heap.size [] w
  refine calls_L Try.func7 rfl 11 [(0, .int .i64 t)] (by kernel_rfl) ?_
  refine CW.seq ?_
  refine CW.region ?_
  refine EL.op (OPW.val (k := 2) (.bool false) rfl (by kernel_rfl) (by kernel_rfl) (by kernel_rfl) ?_)
  refine EL.nil ?_
  refine thenN ?_
  refine CW.seq ?_
  refine CW.region ?_
  refine EL.op (OPW.val (k := 3) (.int .i64 t) rfl (by kernel_rfl) (by kernel_rfl) (by kernel_rfl) ?_)
  refine EL.op (OPW.call (k := 4) rfl (by kernel_rfl) (by kernel_rfl) (by kernel_rfl) (queue_Pause t ht _) ?_)
  rintro e1 w1 ⟨rfl, hb1⟩
  refine ⟨_, rfl, ?_⟩
  have hO1 := hO.below hb1 (Nat.le_refl _)
  have hS1 := hS.below (Nat.le_refl _) hb1
  refine EL.op (OPW.val (k := 5) (.int .i64 t) rfl (by kernel_rfl) (by kernel_rfl) (by kernel_rfl) ?_)
  refine EL.op (OPW.call (k := 6) rfl (by kernel_rfl) (by kernel_rfl) (by kernel_rfl) (ref_pause t ht _) ?_)
  rintro e2 w2 ⟨rfl, hb2⟩
  refine ⟨_, rfl, ?_⟩
  have hO2 := hO1.below hb2 (Nat.le_refl _)
  have hS2 := hS1.below (Nat.le_refl _) hb2
  refine EL.op (OPW.val (k := 7) (.bool true) rfl (by kernel_rfl) (by kernel_rfl) (run_eq (v := .bool ((pauseZ t) == (pauseZ t))) (by kernel_rfl) (by rw [show ((pauseZ t) == (pauseZ t)) = true from (beq_self_eq_true _)])) ?_)
  refine EL.op (OPW.val (k := 8) (.bool true) rfl (by kernel_rfl) (by kernel_rfl) (by kernel_rfl) ?_)
  refine EL.op (OPW.call (k := 9) rfl (by kernel_rfl) (by kernel_rfl) (by kernel_rfl) (awake24 _) ?_)
  rintro e3 w3 ⟨rfl, hb3⟩
  refine ⟨_, rfl, ?_⟩
  have hO3 := hO2.below hb3 (Nat.le_refl _)
  have hS3 := hS2.below (Nat.le_refl _) hb3
  refine EL.op (OPW.val (k := 10) (.bool true) rfl (by kernel_rfl) (by kernel_rfl) (by kernel_rfl) ?_)
  refine EL.op (OPW.val (k := 2) (.bool true) rfl (by kernel_rfl) (by kernel_rfl) (by kernel_rfl) ?_)
  refine EL.nil ?_
  refine thenN ?_
  refine CW.ret ?_
  refine bp_ret (v := .bool true) (by kernel_rfl) ?_
  exact ⟨rfl, hS3.toBelow⟩
theorem get_nil (id : Int) (w : World) : Calls Try.prog 37 #[.pointer none, .int .i64 id] w fun e w' => e = .returned (.tuple #[.agg #[.int .i64 0, .int .i64 0, .int .i64 0, .int .i64 0], .bool false]) ∧ Below w.heap.size w w' := by
  have hO := own_nil w
  have hS := Sep.refl w.heap.size [] w
  refine calls_L Try.func37 rfl 24 [(0, .pointer none), (1, .int .i64 id)] (by kernel_rfl) ?_
  refine CW.seq ?_
  refine CW.region ?_
  refine EL.op (OPW.new (k := 4) (ob := cellsO [.int .i64 0, .int .i64 0, .int .i64 0, .int .i64 0] 63) mkP rfl (by kernel_rfl) (by kernel_rfl) (by kernel_rfl) ?_)
  intro g1 w1 hg1 hw1
  have hO1 : Own w1 [(g1, [.int .i64 0, .int .i64 0, .int .i64 0, .int .i64 0], 63)] := (hO.alloc hg1 hw1).norm (by kernel_rfl)
  have hS1 := hS.alloc (Nat.le_refl _) hw1
  have hn1 : w.heap.size ≤ g1 := hg1 ▸ hS.size
  refine EL.op (OPW.val (k := 5) (.bool false) rfl (by kernel_rfl) (by kernel_rfl) (by kernel_rfl) ?_)
  refine EL.nil ?_
  refine thenN ?_
  refine CW.seq ?_
  refine CW.seq ?_
  refine CW.region ?_
  refine EL.op (OPW.val (k := 6) (.pointer none) rfl (by kernel_rfl) (by kernel_rfl) (by kernel_rfl) ?_)
  refine EL.op (OPW.val (k := 7) (.bool true) rfl (by kernel_rfl) (by kernel_rfl) (by kernel_rfl) ?_)
  refine EL.op (OPW.val (k := 8) (.bool true) rfl (by kernel_rfl) (by kernel_rfl) (by kernel_rfl) ?_)
  refine EL.op (OPW.skipT (k := 9) rfl (by kernel_rfl) (by kernel_rfl) ?_)
  refine EL.op (OPW.skipT (k := 10) rfl (by kernel_rfl) (by kernel_rfl) ?_)
  refine EL.op (OPW.skipT (k := 11) rfl (by kernel_rfl) (by kernel_rfl) ?_)
  refine EL.op (OPW.skipT (k := 12) rfl (by kernel_rfl) (by kernel_rfl) ?_)
  refine EL.op (OPW.val (k := 13) (.bool true) rfl (by kernel_rfl) (by kernel_rfl) (by kernel_rfl) ?_)
  refine EL.nil ?_
  refine thenN ?_
  refine CW.condT (by kernel_rfl) ?_
  refine CW.seq ?_
  refine CW.region ?_
  refine EL.op (OPW.val (k := 14) (.agg #[.int .i64 0, .int .i64 0, .int .i64 0, .int .i64 0]) rfl (by kernel_rfl) (by kernel_rfl) (by kernel_rfl) ?_)
  refine EL.op (OPW.store (b := g1) (i := 0) [.int .i64 0, .int .i64 0, .int .i64 0, .int .i64 0] rfl (by kernel_rfl) rfl (by kernel_rfl) (by kernel_rfl) (by kernel_rfl) (by kernel_rfl) (hO1.there 0 rfl (Nat.le_of_ble_eq_true (by kernel_rfl))) ?_)
  intro w2 hw2
  have hO2 : Own w2 [(g1, [.int .i64 0, .int .i64 0, .int .i64 0, .int .i64 0], 63)] := (hO1.set' 0 (vs := [.int .i64 0, .int .i64 0, .int .i64 0, .int .i64 0]) rfl (Nat.le_of_ble_eq_true (by kernel_rfl)) hw2).norm (by kernel_rfl)
  have hS2 := hS1.set' (.inl hn1) hw2
  refine EL.op (OPW.val (k := 5) (.bool false) rfl (by kernel_rfl) (by kernel_rfl) (by kernel_rfl) ?_)
  refine EL.nil ?_
  refine thenN ?_
  refine CW.ret ?_
  refine thenR ?_
  refine bp_ret (v := .tuple #[.agg #[.int .i64 0, .int .i64 0, .int .i64 0, .int .i64 0], .bool false]) (res2 rfl (res_cellN (b := g1) (i := 0) (by kernel_rfl) (by kernel_rfl) (by kernel_rfl) (hO2.range 0 (vs := [.int .i64 0, .int .i64 0, .int .i64 0, .int .i64 0]) rfl (by kernel_rfl))) (res_tmp (by kernel_rfl))) ?_
  exact ⟨rfl, hS2.toBelow⟩
theorem put_nil (id now : Int) (w : World) : Calls Try.prog 39 #[.pointer none, .int .i64 id, .int .i64 now] w fun e w' => e = .returned (.int .i64 1) ∧ Below w.heap.size w w' := by
  have hO := own_nil w
  have hS := Sep.refl w.heap.size [] w
  refine calls_L Try.func39 rfl 43 [(0, .pointer none), (1, .int .i64 id), (2, .int .i64 now)] (by kernel_rfl) ?_
  refine CW.seq ?_
  refine CW.region ?_
  refine EL.op (OPW.val (k := 6) (.int .i64 0) rfl (by kernel_rfl) (by kernel_rfl) (by kernel_rfl) ?_)
  refine EL.nil ?_
  refine thenN ?_
  refine CW.seq ?_
  refine CW.block ?_
  refine CW.seq ?_
  refine CW.region ?_
  refine EL.op (OPW.val (k := 8) (.pointer none) rfl (by kernel_rfl) (by kernel_rfl) (by kernel_rfl) ?_)
  refine EL.op (OPW.val (k := 9) (.bool true) rfl (by kernel_rfl) (by kernel_rfl) (by kernel_rfl) ?_)
  refine EL.op (OPW.val (k := 10) (.bool true) rfl (by kernel_rfl) (by kernel_rfl) (by kernel_rfl) ?_)
  refine EL.op (OPW.skipT (k := 11) rfl (by kernel_rfl) (by kernel_rfl) ?_)
  refine EL.op (OPW.skipT (k := 12) rfl (by kernel_rfl) (by kernel_rfl) ?_)
  refine EL.op (OPW.val (k := 13) (.bool true) rfl (by kernel_rfl) (by kernel_rfl) (by kernel_rfl) ?_)
  refine EL.op (OPW.val (k := 14) (.bool true) rfl (by kernel_rfl) (by kernel_rfl) (by kernel_rfl) ?_)
  refine EL.op (OPW.skipT (k := 15) rfl (by kernel_rfl) (by kernel_rfl) ?_)
  refine EL.op (OPW.skipT (k := 16) rfl (by kernel_rfl) (by kernel_rfl) ?_)
  refine EL.op (OPW.val (k := 17) (.bool true) rfl (by kernel_rfl) (by kernel_rfl) (by kernel_rfl) ?_)
  refine EL.op (OPW.val (k := 7) (.bool true) rfl (by kernel_rfl) (by kernel_rfl) (by kernel_rfl) ?_)
  refine EL.nil ?_
  refine thenN ?_
  refine CW.condT (by kernel_rfl) ?_
  refine CW.seq ?_
  refine CW.region ?_
  refine EL.op (OPW.val (k := 6) (.int .i64 1) rfl (by kernel_rfl) (by kernel_rfl) (by kernel_rfl) ?_)
  refine EL.nil ?_
  refine thenN ?_
  refine CW.ret ?_
  refine blockR ?_
  refine thenR ?_
  refine bp_ret (v := .int .i64 1) (by kernel_rfl) ?_
  exact ⟨rfl, hS.toBelow⟩
theorem tried_nil (id now by_ : Int) (w : World) : Calls Try.prog 40 #[.pointer none, .int .i64 id, .int .i64 now, .int .i64 by_] w fun e w' => e = .returned (.int .i64 1) ∧ Below w.heap.size w w' := by
  have hO := own_nil w
  have hS := Sep.refl w.heap.size [] w
  refine calls_L Try.func40 rfl 53 [(0, .pointer none), (1, .int .i64 id), (2, .int .i64 now), (3, .int .i64 by_)] (by kernel_rfl) ?_
  refine CW.seq ?_
  refine CW.region ?_
  refine EL.op (OPW.val (k := 8) (.int .i64 0) rfl (by kernel_rfl) (by kernel_rfl) (by kernel_rfl) ?_)
  refine EL.nil ?_
  refine thenN ?_
  refine CW.seq ?_
  refine CW.seq ?_
  refine CW.region ?_
  refine EL.op (OPW.val (k := 11) (.pointer none) rfl (by kernel_rfl) (by kernel_rfl) (by kernel_rfl) ?_)
  refine EL.op (OPW.val (k := 12) (.bool true) rfl (by kernel_rfl) (by kernel_rfl) (by kernel_rfl) ?_)
  refine EL.op (OPW.val (k := 13) (.bool true) rfl (by kernel_rfl) (by kernel_rfl) (by kernel_rfl) ?_)
  refine EL.op (OPW.skipT (k := 14) rfl (by kernel_rfl) (by kernel_rfl) ?_)
  refine EL.op (OPW.skipT (k := 15) rfl (by kernel_rfl) (by kernel_rfl) ?_)
  refine EL.op (OPW.val (k := 16) (.bool true) rfl (by kernel_rfl) (by kernel_rfl) (by kernel_rfl) ?_)
  refine EL.op (OPW.val (k := 17) (.bool true) rfl (by kernel_rfl) (by kernel_rfl) (by kernel_rfl) ?_)
  refine EL.op (OPW.skipT (k := 18) rfl (by kernel_rfl) (by kernel_rfl) ?_)
  refine EL.op (OPW.skipT (k := 19) rfl (by kernel_rfl) (by kernel_rfl) ?_)
  refine EL.op (OPW.val (k := 20) (.bool true) rfl (by kernel_rfl) (by kernel_rfl) (by kernel_rfl) ?_)
  refine EL.nil ?_
  refine thenN ?_
  refine CW.condT (by kernel_rfl) ?_
  refine CW.seq ?_
  refine CW.region ?_
  refine EL.op (OPW.val (k := 8) (.int .i64 1) rfl (by kernel_rfl) (by kernel_rfl) (by kernel_rfl) ?_)
  refine EL.nil ?_
  refine thenN ?_
  refine CW.ret ?_
  refine thenR ?_
  refine bp_ret (v := .int .i64 1) (by kernel_rfl) ?_
  exact ⟨rfl, hS.toBelow⟩
theorem done_nil (id : Int) (w : World) : Calls Try.prog 41 #[.pointer none, .int .i64 id] w fun e w' => e = .returned (.int .i64 7) ∧ Below w.heap.size w w' := by
  have hO := own_nil w
  have hS := Sep.refl w.heap.size [] w
  refine calls_L Try.func41 rfl 35 [(0, .pointer none), (1, .int .i64 id)] (by kernel_rfl) ?_
  refine CW.seq ?_
  refine CW.region ?_
  refine EL.op (OPW.val (k := 4) (.int .i64 0) rfl (by kernel_rfl) (by kernel_rfl) (by kernel_rfl) ?_)
  refine EL.nil ?_
  refine thenN ?_
  refine CW.seq ?_
  refine CW.seq ?_
  refine CW.region ?_
  refine EL.op (OPW.val (k := 6) (.pointer none) rfl (by kernel_rfl) (by kernel_rfl) (by kernel_rfl) ?_)
  refine EL.op (OPW.val (k := 7) (.bool true) rfl (by kernel_rfl) (by kernel_rfl) (by kernel_rfl) ?_)
  refine EL.op (OPW.val (k := 8) (.bool true) rfl (by kernel_rfl) (by kernel_rfl) (by kernel_rfl) ?_)
  refine EL.op (OPW.skipT (k := 9) rfl (by kernel_rfl) (by kernel_rfl) ?_)
  refine EL.op (OPW.skipT (k := 10) rfl (by kernel_rfl) (by kernel_rfl) ?_)
  refine EL.op (OPW.skipT (k := 11) rfl (by kernel_rfl) (by kernel_rfl) ?_)
  refine EL.op (OPW.skipT (k := 12) rfl (by kernel_rfl) (by kernel_rfl) ?_)
  refine EL.op (OPW.val (k := 13) (.bool true) rfl (by kernel_rfl) (by kernel_rfl) (by kernel_rfl) ?_)
  refine EL.nil ?_
  refine thenN ?_
  refine CW.condT (by kernel_rfl) ?_
  refine CW.seq ?_
  refine CW.region ?_
  refine EL.op (OPW.val (k := 4) (.int .i64 7) rfl (by kernel_rfl) (by kernel_rfl) (by kernel_rfl) ?_)
  refine EL.nil ?_
  refine thenN ?_
  refine CW.ret ?_
  refine thenR ?_
  refine bp_ret (v := .int .i64 7) (by kernel_rfl) ?_
  exact ⟨rfl, hS.toBelow⟩
theorem full_nil  (w : World) : Calls Try.prog 36 #[.pointer none] w fun e w' => e = .returned (.bool true) ∧ Below w.heap.size w w' := by
  have hO := own_nil w
  have hS := Sep.refl w.heap.size [] w
  refine calls_L Try.func36 rfl 17 [(0, .pointer none)] (by kernel_rfl) ?_
  refine CW.seq ?_
  refine CW.region ?_
  refine EL.op (OPW.val (k := 2) (.bool false) rfl (by kernel_rfl) (by kernel_rfl) (by kernel_rfl) ?_)
  refine EL.nil ?_
  refine thenN ?_
  refine CW.seq ?_
  refine ED.start (fun w' => Sep w.drew.heap.size [] w.drew w') (by kernel_rfl) ?_
  rintro _ rfl
  have hO2 := hO.drew
  have hS3 := hS.drew
  have hT1 : Sep w.drew.heap.size [] w.drew w.drew := .refl _ _ _
  refine ED.take (k := 3) 0 (.pointer none) rfl rfl (by kernel_rfl) (by kernel_rfl) (by kernel_rfl) (by kernel_rfl) (fun _ _ _ h => h) (YI.val (by kernel_rfl) (fun _ _ => (by kernel_rfl))) hT1 ?_
  refine ED.take (k := 4) 1 (.bool true) rfl rfl (by kernel_rfl) (by kernel_rfl) (by kernel_rfl) (by kernel_rfl) (fun _ _ _ h => h) (YI.val (by kernel_rfl) (fun _ _ => (by kernel_rfl))) hT1 ?_
  refine ED.take (k := 5) 2 (.bool true) rfl rfl (by kernel_rfl) (by kernel_rfl) (by kernel_rfl) (by kernel_rfl) (fun _ _ _ h => h) (YI.val (by kernel_rfl) (fun _ _ => (by kernel_rfl))) hT1 ?_
  refine ED.take (k := 6) 3 undef rfl rfl (by kernel_rfl) (by kernel_rfl) (by kernel_rfl) (by kernel_rfl) (fun _ _ _ h => h) (YI.skip (by kernel_rfl)) hT1 ?_
  refine ED.take (k := 7) 4 undef rfl rfl (by kernel_rfl) (by kernel_rfl) (by kernel_rfl) (by kernel_rfl) (fun _ _ _ h => h) (YI.skip (by kernel_rfl)) hT1 ?_
  refine ED.take (k := 8) 5 undef rfl rfl (by kernel_rfl) (by kernel_rfl) (by kernel_rfl) (by kernel_rfl) (fun _ _ _ h => h) (YI.skip (by kernel_rfl)) hT1 ?_
  refine ED.take (k := 9) 6 undef rfl rfl (by kernel_rfl) (by kernel_rfl) (by kernel_rfl) (by kernel_rfl) (fun _ _ _ h => h) (YI.skip (by kernel_rfl)) hT1 ?_
  refine ED.take (k := 10) 7 undef rfl rfl (by kernel_rfl) (by kernel_rfl) (by kernel_rfl) (by kernel_rfl) (fun _ _ _ h => h) (YI.skip (by kernel_rfl)) hT1 ?_
  refine ED.take (k := 11) 8 undef rfl rfl (by kernel_rfl) (by kernel_rfl) (by kernel_rfl) (by kernel_rfl) (fun _ _ _ h => h) (YI.skip (by kernel_rfl)) hT1 ?_
  refine ED.take (k := 12) 9 undef rfl rfl (by kernel_rfl) (by kernel_rfl) (by kernel_rfl) (by kernel_rfl) (fun _ _ _ h => h) (YI.skip (by kernel_rfl)) hT1 ?_
  refine ED.take (k := 13) 10 undef rfl rfl (by kernel_rfl) (by kernel_rfl) (by kernel_rfl) (by kernel_rfl) (fun _ _ _ h => h) (YI.skip (by kernel_rfl)) hT1 ?_
  refine ED.take (k := 14) 11 undef rfl rfl (by kernel_rfl) (by kernel_rfl) (by kernel_rfl) (by kernel_rfl) (fun _ _ _ h => h) (YI.skip (by kernel_rfl)) hT1 ?_
  refine ED.take (k := 15) 12 undef rfl rfl (by kernel_rfl) (by kernel_rfl) (by kernel_rfl) (by kernel_rfl) (fun _ _ _ h => h) (YI.skip (by kernel_rfl)) hT1 ?_
  refine ED.take (k := 16) 13 (.bool true) rfl rfl (by kernel_rfl) (by kernel_rfl) (by kernel_rfl) (by kernel_rfl) (fun _ _ _ h => h) (YI.val (by kernel_rfl) (fun _ _ => (by kernel_rfl))) hT1 ?_
  refine ED.take (k := 2) 14 (.bool true) rfl rfl (by kernel_rfl) (by kernel_rfl) (by kernel_rfl) (by kernel_rfl) (fun _ _ _ h => h) (YI.val (by kernel_rfl) (fun _ _ => (by kernel_rfl))) hT1 ?_
  refine ED.done (by kernel_rfl) ?_
  refine thenN ?_
  refine CW.ret ?_
  refine bp_ret (v := .bool true) (by kernel_rfl) ?_
  exact ⟨rfl, hS3.toBelow⟩
theorem len_nil  (w : World) : Calls Try.prog 35 #[.pointer none] w fun e w' => e = .returned (.int .i64 0) ∧ Below w.heap.size w w' := by
  have hO := own_nil w
  have hS := Sep.refl w.heap.size [] w
  refine calls_L Try.func35 rfl 10 [(0, .pointer none)] (by kernel_rfl) ?_
  refine CW.seq ?_
  refine CW.region ?_
  refine EL.op (OPW.val (k := 2) (.int .i64 0) rfl (by kernel_rfl) (by kernel_rfl) (by kernel_rfl) ?_)
  refine EL.nil ?_
  refine thenN ?_
  refine CW.seq ?_
  refine CW.seq ?_
  refine CW.region ?_
  refine EL.op (OPW.val (k := 3) (.pointer none) rfl (by kernel_rfl) (by kernel_rfl) (by kernel_rfl) ?_)
  refine EL.op (OPW.val (k := 4) (.bool true) rfl (by kernel_rfl) (by kernel_rfl) (by kernel_rfl) ?_)
  refine EL.nil ?_
  refine thenN ?_
  refine CW.condT (by kernel_rfl) ?_
  refine CW.seq ?_
  refine CW.region ?_
  refine EL.op (OPW.val (k := 2) (.int .i64 0) rfl (by kernel_rfl) (by kernel_rfl) (by kernel_rfl) ?_)
  refine EL.nil ?_
  refine thenN ?_
  refine CW.ret ?_
  refine thenR ?_
  refine bp_ret (v := .int .i64 0) (by kernel_rfl) ?_
  exact ⟨rfl, hS.toBelow⟩
theorem all_nil  (w : World) : Calls Try.prog 34 #[.pointer none] w fun e w' => e = .returned (.slice none 0 0) ∧ Below w.heap.size w w' := by
  have hO := own_nil w
  have hS := Sep.refl w.heap.size [] w
  refine calls_L Try.func34 rfl 10 [(0, .pointer none)] (by kernel_rfl) ?_
  refine CW.seq ?_
  refine CW.region ?_
  refine EL.op (OPW.val (k := 2) (.slice none 0 0) rfl (by kernel_rfl) (by kernel_rfl) (by kernel_rfl) ?_)
  refine EL.nil ?_
  refine thenN ?_
  refine CW.seq ?_
  refine CW.seq ?_
  refine CW.region ?_
  refine EL.op (OPW.val (k := 3) (.pointer none) rfl (by kernel_rfl) (by kernel_rfl) (by kernel_rfl) ?_)
  refine EL.op (OPW.val (k := 4) (.bool true) rfl (by kernel_rfl) (by kernel_rfl) (by kernel_rfl) ?_)
  refine EL.nil ?_
  refine thenN ?_
  refine CW.condT (by kernel_rfl) ?_
  refine CW.seq ?_
  refine CW.region ?_
  refine EL.op (OPW.val (k := 2) (.slice none 0 0) rfl (by kernel_rfl) (by kernel_rfl) (by kernel_rfl) ?_)
  refine EL.nil ?_
  refine thenN ?_
  refine CW.ret ?_
  refine thenR ?_
  refine bp_ret (v := .slice none 0 0) (by kernel_rfl) ?_
  exact ⟨rfl, hS.toBelow⟩
theorem due_nil (now : Int) (w : World) : Calls Try.prog 38 #[.pointer none, .int .i64 now] w fun e w' => e = .returned (.slice none 0 0) ∧ Below w.heap.size w w' := by
  have hO := own_nil w
  have hS := Sep.refl w.heap.size [] w
  refine calls_L Try.func38 rfl 25 [(0, .pointer none), (1, .int .i64 now)] (by kernel_rfl) ?_
  refine CW.seq ?_
  refine CW.region ?_
  refine EL.op (OPW.val (k := 4) (.slice none 0 0) rfl (by kernel_rfl) (by kernel_rfl) (by kernel_rfl) ?_)
  refine EL.nil ?_
  refine thenN ?_
  refine CW.seq ?_
  refine CW.region ?_
  refine EL.op (OPW.val (k := 5) (.slice none 0 0) rfl (by kernel_rfl) (by kernel_rfl) (by kernel_rfl) ?_)
  refine EL.nil ?_
  refine thenN ?_
  refine CW.seq ?_
  refine CW.seq ?_
  refine CW.region ?_
  refine EL.op (OPW.val (k := 8) (.pointer none) rfl (by kernel_rfl) (by kernel_rfl) (by kernel_rfl) ?_)
  refine EL.op (OPW.call (k := 9) rfl (by kernel_rfl) (by kernel_rfl) (by kernel_rfl) (all_nil _) ?_)
  rintro e1 w1 ⟨rfl, hb1⟩
  refine ⟨_, rfl, ?_⟩
  have hO1 := hO.below hb1 (Nat.le_refl _)
  have hS1 := hS.below (Nat.le_refl _) hb1
  refine EL.op (OPW.val (k := 10) (.int .i64 0) rfl (by kernel_rfl) (by kernel_rfl) (by kernel_rfl) ?_)
  refine EL.op (OPW.val (k := 11) (.int .i64 0) rfl (by kernel_rfl) (by kernel_rfl) (by kernel_rfl) ?_)
  refine EL.nil ?_
  refine thenN ?_
  refine CW.block ?_
  refine CW.rounds 1 ?_
  refine CW.seq ?_
  refine CW.region ?_
  refine EL.op (OPW.val (k := 12) (.bool false) rfl (by kernel_rfl) (by kernel_rfl) (by kernel_rfl) ?_)
  refine EL.nil ?_
  refine thenN ?_
  refine CW.seq ?_
  refine CW.condF (by kernel_rfl) ?_
  refine CW.exit ?_
  refine thenE ?_
  refine thenE ?_
  refine blockE ?_
  refine thenN ?_
  refine CW.seq ?_
  refine CW.region ?_
  refine EL.op (OPW.val (k := 24) (.slice none 0 0) rfl (by kernel_rfl) (by kernel_rfl) (by kernel_rfl) ?_)
  refine EL.op (OPW.val (k := 4) (.slice none 0 0) rfl (by kernel_rfl) (by kernel_rfl) (by kernel_rfl) ?_)
  refine EL.nil ?_
  refine thenN ?_
  refine CW.ret ?_
  refine bp_ret (v := .slice none 0 0) (by kernel_rfl) ?_
  exact ⟨rfl, hS1.toBelow⟩
theorem lawNobody (id now : Int) (w : World) : Calls Try.prog 9 #[.int .i64 id, .int .i64 now] w fun e w' => e = .returned (.bool true) ∧ Below w.heap.size w w' := by
  have hO := own_nil w
  have hS := Sep.refl w.heap.size [] w
  refine calls_L Try.func9 rfl 55 [(0, .int .i64 id), (1, .int .i64 now)] (by kernel_rfl) ?_
  refine CW.seq ?_
  refine CW.region ?_
  refine EL.op (OPW.val (k := 4) (.bool false) rfl (by kernel_rfl) (by kernel_rfl) (by kernel_rfl) ?_)
  refine EL.nil ?_
  refine thenN ?_
  refine CW.seq ?_
  refine CW.region ?_
  refine EL.op (OPW.val (k := 5) (.pointer none) rfl (by kernel_rfl) (by kernel_rfl) (by kernel_rfl) ?_)
  refine EL.nil ?_
  refine thenN ?_
  refine CW.seq ?_
  refine CW.region ?_
  refine EL.op (OPW.val (k := 9) (.pointer none) rfl (by kernel_rfl) (by kernel_rfl) (by kernel_rfl) ?_)
  refine EL.op (OPW.val (k := 10) (.int .i64 id) rfl (by kernel_rfl) (by kernel_rfl) (by kernel_rfl) ?_)
  refine EL.op (OPW.call (k := 11) rfl (by kernel_rfl) (by kernel_rfl) (by kernel_rfl) (get_nil id _) ?_)
  rintro e1 w1 ⟨rfl, hb1⟩
  refine ⟨_, rfl, ?_⟩
  have hO1 := hO.below hb1 (Nat.le_refl _)
  have hS1 := hS.below (Nat.le_refl _) hb1
  refine EL.op (OPW.val (k := 8) (.tuple #[.agg #[.int .i64 0, .int .i64 0, .int .i64 0, .int .i64 0], .bool false]) rfl (by kernel_rfl) (by kernel_rfl) (by kernel_rfl) ?_)
  refine EL.op (OPW.val (k := 12) (.agg #[.int .i64 0, .int .i64 0, .int .i64 0, .int .i64 0]) rfl (by kernel_rfl) (by kernel_rfl) (by kernel_rfl) ?_)
  refine EL.op (OPW.val (k := 13) (.bool false) rfl (by kernel_rfl) (by kernel_rfl) (by kernel_rfl) ?_)
  refine EL.op (OPW.new (k := 6) (ob := cellsO [.int .i64 0, .int .i64 0, .int .i64 0, .int .i64 0] 63) mkP rfl (by kernel_rfl) (by kernel_rfl) (by kernel_rfl) ?_)
  intro g2 w2 hg2 hw2
  have hO2 : Own w2 [(g2, [.int .i64 0, .int .i64 0, .int .i64 0, .int .i64 0], 63)] := (hO1.alloc hg2 hw2).norm (by kernel_rfl)
  have hS2 := hS1.alloc (Nat.le_refl _) hw2
  have hn2 : w.heap.size ≤ g2 := hg2 ▸ hS1.size
  refine EL.op (OPW.store (b := g2) (i := 0) [.int .i64 0, .int .i64 0, .int .i64 0, .int .i64 0] rfl (by kernel_rfl) rfl (by kernel_rfl) (by kernel_rfl) (by kernel_rfl) (by kernel_rfl) (hO2.there 0 rfl (Nat.le_of_ble_eq_true (by kernel_rfl))) ?_)
  intro w3 hw3
  have hO3 : Own w3 [(g2, [.int .i64 0, .int .i64 0, .int .i64 0, .int .i64 0], 63)] := (hO2.set' 0 (vs := [.int .i64 0, .int .i64 0, .int .i64 0, .int .i64 0]) rfl (Nat.le_of_ble_eq_true (by kernel_rfl)) hw3).norm (by kernel_rfl)
  have hS3 := hS2.set' (.inl hn2) hw3
  refine EL.op (OPW.val (k := 7) (.bool false) rfl (by kernel_rfl) (by kernel_rfl) (by kernel_rfl) ?_)
  refine EL.nil ?_
  refine thenN ?_
  refine CW.seq ?_
  refine CW.region ?_
  refine EL.op (OPW.val (k := 14) (.pointer none) rfl (by kernel_rfl) (by kernel_rfl) (by kernel_rfl) ?_)
  refine EL.op (OPW.val (k := 15) (.int .i64 id) rfl (by kernel_rfl) (by kernel_rfl) (by kernel_rfl) ?_)
  refine EL.op (OPW.call (k := 16) rfl (by kernel_rfl) (by kernel_rfl) (by kernel_rfl) (put_nil id 1 _) ?_)
  rintro e4 w4 ⟨rfl, hb4⟩
  refine ⟨_, rfl, ?_⟩
  have hO4 := hO3.below hb4 (Nat.le_refl _)
  have hS4 := hS3.below (Nat.le_refl _) hb4
  refine EL.op (OPW.val (k := 17) (.bool true) rfl (by kernel_rfl) (by kernel_rfl) (by kernel_rfl) ?_)
  refine EL.op (OPW.val (k := 18) (.bool true) rfl (by kernel_rfl) (by kernel_rfl) (by kernel_rfl) ?_)
  refine EL.op (OPW.val (k := 19) (.pointer none) rfl (by kernel_rfl) (by kernel_rfl) (by kernel_rfl) ?_)
  refine EL.op (OPW.val (k := 20) (.int .i64 id) rfl (by kernel_rfl) (by kernel_rfl) (by kernel_rfl) ?_)
  refine EL.op (OPW.call (k := 21) rfl (by kernel_rfl) (by kernel_rfl) (by kernel_rfl) (tried_nil id 1 1 _) ?_)
  rintro e5 w5 ⟨rfl, hb5⟩
  refine ⟨_, rfl, ?_⟩
  have hO5 := hO4.below hb5 (Nat.le_refl _)
  have hS5 := hS4.below (Nat.le_refl _) hb5
  refine EL.op (OPW.val (k := 22) (.bool true) rfl (by kernel_rfl) (by kernel_rfl) (by kernel_rfl) ?_)
  refine EL.op (OPW.val (k := 23) (.bool true) rfl (by kernel_rfl) (by kernel_rfl) (by kernel_rfl) ?_)
  refine EL.op (OPW.val (k := 24) (.bool true) rfl (by kernel_rfl) (by kernel_rfl) (by kernel_rfl) ?_)
  refine EL.op (OPW.val (k := 25) (.pointer none) rfl (by kernel_rfl) (by kernel_rfl) (by kernel_rfl) ?_)
  refine EL.op (OPW.val (k := 26) (.int .i64 id) rfl (by kernel_rfl) (by kernel_rfl) (by kernel_rfl) ?_)
  refine EL.op (OPW.call (k := 27) rfl (by kernel_rfl) (by kernel_rfl) (by kernel_rfl) (done_nil id _) ?_)
  rintro e6 w6 ⟨rfl, hb6⟩
  refine ⟨_, rfl, ?_⟩
  have hO6 := hO5.below hb6 (Nat.le_refl _)
  have hS6 := hS5.below (Nat.le_refl _) hb6
  refine EL.op (OPW.val (k := 28) (.bool true) rfl (by kernel_rfl) (by kernel_rfl) (by kernel_rfl) ?_)
  refine EL.op (OPW.val (k := 29) (.bool true) rfl (by kernel_rfl) (by kernel_rfl) (by kernel_rfl) ?_)
  refine EL.op (OPW.val (k := 30) (.bool true) rfl (by kernel_rfl) (by kernel_rfl) (by kernel_rfl) ?_)
  refine EL.op (OPW.val (k := 31) (.bool false) rfl (by kernel_rfl) (by kernel_rfl) (by kernel_rfl) ?_)
  refine EL.op (OPW.val (k := 32) (.bool true) rfl (by kernel_rfl) (by kernel_rfl) (by kernel_rfl) ?_)
  refine EL.op (OPW.val (k := 33) (.bool true) rfl (by kernel_rfl) (by kernel_rfl) (by kernel_rfl) ?_)
  refine EL.op (OPW.val (k := 34) (.bool true) rfl (by kernel_rfl) (by kernel_rfl) (by kernel_rfl) ?_)
  refine EL.op (OPW.val (k := 35) (.pointer none) rfl (by kernel_rfl) (by kernel_rfl) (by kernel_rfl) ?_)
  refine EL.op (OPW.call (k := 36) rfl (by kernel_rfl) (by kernel_rfl) (by kernel_rfl) (full_nil _) ?_)
  rintro e7 w7 ⟨rfl, hb7⟩
  refine ⟨_, rfl, ?_⟩
  have hO7 := hO6.below hb7 (Nat.le_refl _)
  have hS7 := hS6.below (Nat.le_refl _) hb7
  refine EL.op (OPW.val (k := 37) (.bool true) rfl (by kernel_rfl) (by kernel_rfl) (by kernel_rfl) ?_)
  refine EL.op (OPW.val (k := 38) (.bool true) rfl (by kernel_rfl) (by kernel_rfl) (by kernel_rfl) ?_)
  refine EL.op (OPW.val (k := 39) (.pointer none) rfl (by kernel_rfl) (by kernel_rfl) (by kernel_rfl) ?_)
  refine EL.op (OPW.call (k := 40) rfl (by kernel_rfl) (by kernel_rfl) (by kernel_rfl) (len_nil _) ?_)
  rintro e8 w8 ⟨rfl, hb8⟩
  refine ⟨_, rfl, ?_⟩
  have hO8 := hO7.below hb8 (Nat.le_refl _)
  have hS8 := hS7.below (Nat.le_refl _) hb8
  refine EL.op (OPW.val (k := 41) (.pointer none) rfl (by kernel_rfl) (by kernel_rfl) (by kernel_rfl) ?_)
  refine EL.op (OPW.call (k := 42) rfl (by kernel_rfl) (by kernel_rfl) (by kernel_rfl) (all_nil _) ?_)
  rintro e9 w9 ⟨rfl, hb9⟩
  refine ⟨_, rfl, ?_⟩
  have hO9 := hO8.below hb9 (Nat.le_refl _)
  have hS9 := hS8.below (Nat.le_refl _) hb9
  refine EL.op (OPW.val (k := 43) (.int .i64 0) rfl (by kernel_rfl) (by kernel_rfl) (by kernel_rfl) ?_)
  refine EL.op (OPW.val (k := 44) (.int .i64 0) rfl (by kernel_rfl) (by kernel_rfl) (by kernel_rfl) ?_)
  refine EL.op (OPW.val (k := 45) (.pointer none) rfl (by kernel_rfl) (by kernel_rfl) (by kernel_rfl) ?_)
  refine EL.op (OPW.val (k := 46) (.int .i64 now) rfl (by kernel_rfl) (by kernel_rfl) (by kernel_rfl) ?_)
  refine EL.op (OPW.call (k := 47) rfl (by kernel_rfl) (by kernel_rfl) (by kernel_rfl) (due_nil now _) ?_)
  rintro e10 w10 ⟨rfl, hb10⟩
  refine ⟨_, rfl, ?_⟩
  have hO10 := hO9.below hb10 (Nat.le_refl _)
  have hS10 := hS9.below (Nat.le_refl _) hb10
  refine EL.op (OPW.val (k := 48) (.int .i64 0) rfl (by kernel_rfl) (by kernel_rfl) (by kernel_rfl) ?_)
  refine EL.op (OPW.val (k := 49) (.int .i64 0) rfl (by kernel_rfl) (by kernel_rfl) (by kernel_rfl) ?_)
  refine EL.op (OPW.val (k := 50) (.bool true) rfl (by kernel_rfl) (by kernel_rfl) (by kernel_rfl) ?_)
  refine EL.op (OPW.val (k := 51) (.bool true) rfl (by kernel_rfl) (by kernel_rfl) (by kernel_rfl) ?_)
  refine EL.op (OPW.val (k := 52) (.bool true) rfl (by kernel_rfl) (by kernel_rfl) (by kernel_rfl) ?_)
  refine EL.op (OPW.call (k := 53) rfl (by kernel_rfl) (by kernel_rfl) (by kernel_rfl) (awake24 _) ?_)
  rintro e11 w11 ⟨rfl, hb11⟩
  refine ⟨_, rfl, ?_⟩
  have hO11 := hO10.below hb11 (Nat.le_refl _)
  have hS11 := hS10.below (Nat.le_refl _) hb11
  refine EL.op (OPW.val (k := 54) (.bool true) rfl (by kernel_rfl) (by kernel_rfl) (by kernel_rfl) ?_)
  refine EL.op (OPW.val (k := 4) (.bool true) rfl (by kernel_rfl) (by kernel_rfl) (by kernel_rfl) ?_)
  refine EL.nil ?_
  refine thenN ?_
  refine CW.ret ?_
  refine bp_ret (v := .bool true) (by kernel_rfl) ?_
  exact ⟨rfl, hS11.toBelow⟩
end Go.Proofs.Ytddaoelaoncimaa
