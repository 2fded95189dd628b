/- The example of chapter 14. -/
import Derived.Test.YthhgfcfcgbjleaaOw2
import Derived.Test.YthhgfcfcgbjleaaBu
namespace Go.Proofs.Ythhgfcfcgbjleaa
open Go.RowKit
set_option maxRecDepth 100000
def c0 : Chn := ⟨0, 1, 2, zeros, 0, 5, 4, 3⟩
def c1 : Chn := ⟨0, 1, 2, zeros, 0, 5, 3, 3⟩
def s0 : Sta := ⟨0, 5, 0, 1 :: List.replicate 31 0, 2 :: List.replicate 31 0⟩
def T0 : Txx := buildT c0 2 1 0 5 (2 :: List.replicate 31 0)
theorem rc_4 (w : World) : Calls Try.prog 39 #[.agg c0.cells.toArray] w fun e w' => e = .returned (.bool true) ∧ Below w.heap.size w w' := commit_RightChannel c0 rfl w
theorem rc_3 (w : World) : Calls Try.prog 39 #[.agg c1.cells.toArray] w fun e w' => e = .returned (.bool false) ∧ Below w.heap.size w w' := commit_RightChannel c1 rfl w
theorem ow_1 (v : Value) (w : World) (h : TxIs w v T0) : Calls Try.prog 46 #[.agg c0.cells.toArray, v] w fun e w' => e = .returned (.int .i64 1) ∧ Below w.heap.size w w' :=
  commit_Owner c0 rfl (by decide) (by decide) v T0 w h
set_option maxHeartbeats 1000000 in
theorem awake14 (w : World) : Calls Try.prog 14 #[] w fun e w' => e = .returned (.bool true) ∧ Below w.heap.size w w' := by
  have hO := own_nil w
  have hS := Sep.refl w.heap.size [] w
  refine calls_L Try.func14 rfl 40 [] (by kernel_rfl) ?_
  refine CW.seq ?_
  refine CW.region ?_
  refine EL.op (OPW.val (k := 0) (.bool false) rfl (by kernel_rfl) (by kernel_rfl) (by kernel_rfl) ?_)
  refine EL.nil ?_
  refine thenN ?_
  refine CW.seq ?_
  refine CW.region ?_
  refine EL.op (OPW.val (k := 5) (.agg ((cat [[.int .i64 0, .int .i64 1, .int .i64 2], sumV (fun _ => 0), [.int .i64 0, .int .i64 5, .int .i64 4, .int .i64 3]])).toArray) rfl (by kernel_rfl) (by kernel_rfl) (by kernel_rfl) ?_)
  refine EL.op (OPW.new (k := 1) (ob := cellsO (cat [[.int .i64 0, .int .i64 0, .int .i64 0], sumV (fun _ => 0), [.int .i64 0, .int .i64 0, .int .i64 0, .int .i64 0]]) 27) mkP rfl (by kernel_rfl) (by kernel_rfl) (by kernel_rfl) ?_)
  intro g1 w1 hg1 hw1
  have hO1 : Own w1 [(g1, (cat [[.int .i64 0, .int .i64 0, .int .i64 0], sumV (fun _ => 0), [.int .i64 0, .int .i64 0, .int .i64 0, .int .i64 0]]), 27)] := (hO.alloc hg1 hw1).norm (by kernel_rfl)
  have hS1 := hS.alloc (Nat.le_refl _) hw1
  have hn1 : w.heap.size ≤ g1 := hg1 ▸ hS.size
  refine EL.op (OPW.store (b := g1) (i := 0) (cat [[.int .i64 0, .int .i64 1, .int .i64 2], sumV (fun _ => 0), [.int .i64 0, .int .i64 5, .int .i64 4, .int .i64 3]]) rfl (by kernel_rfl) rfl (by kernel_rfl) (by kernel_rfl) (by kernel_rfl) (by kernel_rfl) (hO1.there 0 rfl (Nat.le_of_ble_eq_true (by kernel_rfl))) ?_)
  intro w2 hw2
  have hO2 : Own w2 [(g1, (cat [[.int .i64 0, .int .i64 1, .int .i64 2], sumV (fun _ => 0), [.int .i64 0, .int .i64 5, .int .i64 4, .int .i64 3]]), 27)] := (hO1.set' 0 (vs := (cat [[.int .i64 0, .int .i64 1, .int .i64 2], sumV (fun _ => 0), [.int .i64 0, .int .i64 5, .int .i64 4, .int .i64 3]])) rfl (Nat.le_of_ble_eq_true (by kernel_rfl)) hw2).norm (by kernel_rfl)
  have hS2 := hS1.set' (.inl hn1) hw2
  refine EL.nil ?_
  refine thenN ?_
  refine CW.seq ?_
  refine CW.region ?_
  refine EL.op (OPW.val (k := 6) (.agg ((cat [[.int .i64 0, .int .i64 1, .int .i64 2], sumV (fun _ => 0), [.int .i64 0, .int .i64 5, .int .i64 4, .int .i64 3]])).toArray) rfl (by kernel_rfl) (by kernel_rfl) (loadN (b := g1) (i := 0) rfl (by kernel_rfl) (by kernel_rfl) (by kernel_rfl) (hO2.range 0 (vs := (cat [[.int .i64 0, .int .i64 1, .int .i64 2], sumV (fun _ => 0), [.int .i64 0, .int .i64 5, .int .i64 4, .int .i64 3]])) rfl (by kernel_rfl))) ?_)
  refine EL.op (OPW.new (k := 2) (ob := cellsO (cat [[.int .i64 0, .int .i64 0, .int .i64 0], sumV (fun _ => 0), [.int .i64 0, .int .i64 0, .int .i64 0, .int .i64 0]]) 27) mkP rfl (by kernel_rfl) (by kernel_rfl) (by kernel_rfl) ?_)
  intro g3 w3 hg3 hw3
  have hO3 : Own w3 [(g3, (cat [[.int .i64 0, .int .i64 0, .int .i64 0], sumV (fun _ => 0), [.int .i64 0, .int .i64 0, .int .i64 0, .int .i64 0]]), 27), (g1, (cat [[.int .i64 0, .int .i64 1, .int .i64 2], sumV (fun _ => 0), [.int .i64 0, .int .i64 5, .int .i64 4, .int .i64 3]]), 27)] := (hO2.alloc hg3 hw3).norm (by kernel_rfl)
  have hS3 := hS2.alloc (Nat.le_refl _) hw3
  have hn3 : w.heap.size ≤ g3 := hg3 ▸ hS2.size
  refine EL.op (OPW.store (b := g3) (i := 0) (cat [[.int .i64 0, .int .i64 1, .int .i64 2], sumV (fun _ => 0), [.int .i64 0, .int .i64 5, .int .i64 4, .int .i64 3]]) rfl (by kernel_rfl) rfl (by kernel_rfl) (by kernel_rfl) (by kernel_rfl) (by kernel_rfl) (hO3.there 0 rfl (Nat.le_of_ble_eq_true (by kernel_rfl))) ?_)
  intro w4 hw4
  have hO4 : Own w4 [(g3, (cat [[.int .i64 0, .int .i64 1, .int .i64 2], sumV (fun _ => 0), [.int .i64 0, .int .i64 5, .int .i64 4, .int .i64 3]]), 27), (g1, (cat [[.int .i64 0, .int .i64 1, .int .i64 2], sumV (fun _ => 0), [.int .i64 0, .int .i64 5, .int .i64 4, .int .i64 3]]), 27)] := (hO3.set' 0 (vs := (cat [[.int .i64 0, .int .i64 1, .int .i64 2], sumV (fun _ => 0), [.int .i64 0, .int .i64 5, .int .i64 4, .int .i64 3]])) rfl (Nat.le_of_ble_eq_true (by kernel_rfl)) hw4).norm (by kernel_rfl)
  have hS4 := hS3.set' (.inl hn3) hw4
  refine EL.nil ?_
  refine thenN ?_
  refine CW.seq ?_
  refine CW.region ?_
  refine EL.op (OPW.val (k := 7) (.pointer (some ⟨g3, 37, none⟩)) rfl (by kernel_rfl) (by kernel_rfl) (by kernel_rfl) ?_)
  refine EL.op (OPW.store (b := g3) (i := 37) [.int .i64 3] rfl (by kernel_rfl) rfl (by kernel_rfl) (by kernel_rfl) (by kernel_rfl) (by kernel_rfl) (hO4.there 0 rfl (Nat.le_of_ble_eq_true (by kernel_rfl))) ?_)
  intro w5 hw5
  have hO5 : Own w5 [(g3, (cat [[.int .i64 0, .int .i64 1, .int .i64 2], sumV (fun _ => 0), [.int .i64 0, .int .i64 5, .int .i64 3, .int .i64 3]]), 27), (g1, (cat [[.int .i64 0, .int .i64 1, .int .i64 2], sumV (fun _ => 0), [.int .i64 0, .int .i64 5, .int .i64 4, .int .i64 3]]), 27)] := (hO4.set' 0 (vs := [.int .i64 3]) rfl (Nat.le_of_ble_eq_true (by kernel_rfl)) hw5).norm (by kernel_rfl)
  have hS5 := hS4.set' (.inl hn3) hw5
  refine EL.nil ?_
  refine thenN ?_
  refine CW.seq ?_
  refine CW.region ?_
  refine EL.op (OPW.val (k := 9) (.agg ((cat [[.int .i64 0, .int .i64 1, .int .i64 2], sumV (fun _ => 0), [.int .i64 0, .int .i64 5, .int .i64 4, .int .i64 3]])).toArray) rfl (by kernel_rfl) (by kernel_rfl) (loadN (b := g1) (i := 0) rfl (by kernel_rfl) (by kernel_rfl) (by kernel_rfl) (hO5.range 1 (vs := (cat [[.int .i64 0, .int .i64 1, .int .i64 2], sumV (fun _ => 0), [.int .i64 0, .int .i64 5, .int .i64 4, .int .i64 3]])) rfl (by kernel_rfl))) ?_)
  refine EL.op (OPW.val (k := 10) (.agg #[.int .u8 1, .int .u8 0, .int .u8 0, .int .u8 0, .int .u8 0, .int .u8 0, .int .u8 0, .int .u8 0, .int .u8 0, .int .u8 0, .int .u8 0, .int .u8 0, .int .u8 0, .int .u8 0, .int .u8 0, .int .u8 0, .int .u8 0, .int .u8 0, .int .u8 0, .int .u8 0, .int .u8 0, .int .u8 0, .int .u8 0, .int .u8 0, .int .u8 0, .int .u8 0, .int .u8 0, .int .u8 0, .int .u8 0, .int .u8 0, .int .u8 0, .int .u8 0]) rfl (by kernel_rfl) (by kernel_rfl) (by kernel_rfl) ?_)
  refine EL.op (OPW.val (k := 11) (.agg #[.int .u8 2, .int .u8 0, .int .u8 0, .int .u8 0, .int .u8 0, .int .u8 0, .int .u8 0, .int .u8 0, .int .u8 0, .int .u8 0, .int .u8 0, .int .u8 0, .int .u8 0, .int .u8 0, .int .u8 0, .int .u8 0, .int .u8 0, .int .u8 0, .int .u8 0, .int .u8 0, .int .u8 0, .int .u8 0, .int .u8 0, .int .u8 0, .int .u8 0, .int .u8 0, .int .u8 0, .int .u8 0, .int .u8 0, .int .u8 0, .int .u8 0, .int .u8 0]) rfl (by kernel_rfl) (by kernel_rfl) (by kernel_rfl) ?_)
  refine EL.op (OPW.val (k := 12) (.agg #[.int .u8 1, .int .u8 0, .int .u8 0, .int .u8 0, .int .u8 0, .int .u8 0, .int .u8 0, .int .u8 0, .int .u8 0, .int .u8 0, .int .u8 0, .int .u8 0, .int .u8 0, .int .u8 0, .int .u8 0, .int .u8 0, .int .u8 0, .int .u8 0, .int .u8 0, .int .u8 0, .int .u8 0, .int .u8 0, .int .u8 0, .int .u8 0, .int .u8 0, .int .u8 0, .int .u8 0, .int .u8 0, .int .u8 0, .int .u8 0, .int .u8 0, .int .u8 0, .int .u8 2, .int .u8 0, .int .u8 0, .int .u8 0, .int .u8 0, .int .u8 0, .int .u8 0, .int .u8 0, .int .u8 0, .int .u8 0, .int .u8 0, .int .u8 0, .int .u8 0, .int .u8 0, .int .u8 0, .int .u8 0, .int .u8 0, .int .u8 0, .int .u8 0, .int .u8 0, .int .u8 0, .int .u8 0, .int .u8 0, .int .u8 0, .int .u8 0, .int .u8 0, .int .u8 0, .int .u8 0, .int .u8 0, .int .u8 0, .int .u8 0, .int .u8 0]) rfl (by kernel_rfl) (by kernel_rfl) (by kernel_rfl) ?_)
  refine EL.op (OPW.val (k := 13) (.agg #[.int .i64 0, .int .i64 5, .int .i64 0, .int .u8 1, .int .u8 0, .int .u8 0, .int .u8 0, .int .u8 0, .int .u8 0, .int .u8 0, .int .u8 0, .int .u8 0, .int .u8 0, .int .u8 0, .int .u8 0, .int .u8 0, .int .u8 0, .int .u8 0, .int .u8 0, .int .u8 0, .int .u8 0, .int .u8 0, .int .u8 0, .int .u8 0, .int .u8 0, .int .u8 0, .int .u8 0, .int .u8 0, .int .u8 0, .int .u8 0, .int .u8 0, .int .u8 0, .int .u8 0, .int .u8 0, .int .u8 0, .int .u8 2, .int .u8 0, .int .u8 0, .int .u8 0, .int .u8 0, .int .u8 0, .int .u8 0, .int .u8 0, .int .u8 0, .int .u8 0, .int .u8 0, .int .u8 0, .int .u8 0, .int .u8 0, .int .u8 0, .int .u8 0, .int .u8 0, .int .u8 0, .int .u8 0, .int .u8 0, .int .u8 0, .int .u8 0, .int .u8 0, .int .u8 0, .int .u8 0, .int .u8 0, .int .u8 0, .int .u8 0, .int .u8 0, .int .u8 0, .int .u8 0, .int .u8 0]) rfl (by kernel_rfl) (by kernel_rfl) (by kernel_rfl) ?_)
  refine EL.op (OPW.call (k := 14) rfl (by kernel_rfl) (by kernel_rfl) (by kernel_rfl) (commit_Build1 c0 s0 rfl rfl rfl (by decide) (by decide) _) ?_)
  rintro e6 w6 ⟨⟨v, rfl, ht⟩, hb6⟩
  obtain ⟨cs, A, a, B, b, D, d, S, sg, rfl, hx⟩ := ht
  obtain rfl := hx.cells
  refine ⟨_, rfl, ?_⟩
  have hO6 := hO5.below hb6 (Nat.le_refl _)
  have hS6 := hS5.below (Nat.le_refl _) hb6
  have hq7 := Sep.refl w6.heap.size [] w6
  refine EL.op (OPW.val (k := 8) (.tuple #[.agg (txCells T0 A a B b D d S sg).toArray, .int .i64 0]) rfl (by kernel_rfl) (by kernel_rfl) (by kernel_rfl) ?_)
  refine EL.op (OPW.val (k := 15) (.agg (txCells T0 A a B b D d S sg).toArray) rfl (by kernel_rfl) (by kernel_rfl) (by kernel_rfl) ?_)
  refine EL.op (OPW.val (k := 16) (.int .i64 0) rfl (by kernel_rfl) (by kernel_rfl) (by kernel_rfl) ?_)
  refine EL.op (OPW.new (k := 3) (ob := cellsO (cat [[.slice none 0 0, .slice none 0 0, .int .i64 0, .int .i64 0, .int .i64 0, .int .i64 0], sumV (fun _ => 0), [.slice none 0 0, .slice none 0 0]]) 45) mkP rfl (by kernel_rfl) (by kernel_rfl) (by kernel_rfl) ?_)
  intro g8 w8 hg8 hw8
  have hO8 : Own w8 [(g8, (cat [[.slice none 0 0, .slice none 0 0, .int .i64 0, .int .i64 0, .int .i64 0, .int .i64 0], sumV (fun _ => 0), [.slice none 0 0, .slice none 0 0]]), 45), (g3, (cat [[.int .i64 0, .int .i64 1, .int .i64 2], sumV (fun _ => 0), [.int .i64 0, .int .i64 5, .int .i64 3, .int .i64 3]]), 27), (g1, (cat [[.int .i64 0, .int .i64 1, .int .i64 2], sumV (fun _ => 0), [.int .i64 0, .int .i64 5, .int .i64 4, .int .i64 3]]), 27)] := (hO6.alloc hg8 hw8).norm (by kernel_rfl)
  have hS8 := hS6.alloc (Nat.le_refl _) hw8
  have hn8 : w.heap.size ≤ g8 := hg8 ▸ hS6.size
  have hqf9 : w6.heap.size ≤ g8 := hg8 ▸ hq7.size
  have hq10 := hq7.alloc (Nat.le_refl _) hw8
  refine EL.op (OPW.store (b := g8) (i := 0) (txCells T0 A a B b D d S sg) rfl (by kernel_rfl) rfl (by kernel_rfl) (by kernel_rfl) (by kernel_rfl) (by kernel_rfl) (hO8.there 0 rfl (Nat.le_of_ble_eq_true (by kernel_rfl))) ?_)
  intro w11 hw11
  have hO11 : Own w11 [(g8, (txCells T0 A a B b D d S sg), 45), (g3, (cat [[.int .i64 0, .int .i64 1, .int .i64 2], sumV (fun _ => 0), [.int .i64 0, .int .i64 5, .int .i64 3, .int .i64 3]]), 27), (g1, (cat [[.int .i64 0, .int .i64 1, .int .i64 2], sumV (fun _ => 0), [.int .i64 0, .int .i64 5, .int .i64 4, .int .i64 3]]), 27)] := (hO8.set' 0 (vs := (txCells T0 A a B b D d S sg)) rfl (Nat.le_of_ble_eq_true (by kernel_rfl)) hw11).norm (by kernel_rfl)
  have hS11 := hS8.set' (.inl hn8) hw11
  have hq12 := hq10.set' (.inl hqf9) hw11
  refine EL.op (OPW.val (k := 4) (.int .i64 0) rfl (by kernel_rfl) (by kernel_rfl) (by kernel_rfl) ?_)
  refine EL.nil ?_
  refine thenN ?_
  refine CW.seq ?_
  refine CW.region ?_
  refine EL.op (OPW.val (k := 17) (.agg ((cat [[.int .i64 0, .int .i64 1, .int .i64 2], sumV (fun _ => 0), [.int .i64 0, .int .i64 5, .int .i64 4, .int .i64 3]])).toArray) rfl (by kernel_rfl) (by kernel_rfl) (loadN (b := g1) (i := 0) rfl (by kernel_rfl) (by kernel_rfl) (by kernel_rfl) (hO11.range 2 (vs := (cat [[.int .i64 0, .int .i64 1, .int .i64 2], sumV (fun _ => 0), [.int .i64 0, .int .i64 5, .int .i64 4, .int .i64 3]])) rfl (by kernel_rfl))) ?_)
  refine EL.op (OPW.call (k := 18) rfl (by kernel_rfl) (by kernel_rfl) (by kernel_rfl) (rc_4 _) ?_)
  rintro e13 w13 ⟨rfl, hb13⟩
  refine ⟨_, rfl, ?_⟩
  have hO13 := hO11.below hb13 (Nat.le_refl _)
  have hS13 := hS11.below (Nat.le_refl _) hb13
  have hq14 := hq12.below (Nat.le_refl _) hb13
  refine EL.op (OPW.val (k := 19) (.bool true) rfl (by kernel_rfl) (by kernel_rfl) (by kernel_rfl) ?_)
  refine EL.op (OPW.val (k := 20) (.agg ((cat [[.int .i64 0, .int .i64 1, .int .i64 2], sumV (fun _ => 0), [.int .i64 0, .int .i64 5, .int .i64 3, .int .i64 3]])).toArray) rfl (by kernel_rfl) (by kernel_rfl) (loadN (b := g3) (i := 0) rfl (by kernel_rfl) (by kernel_rfl) (by kernel_rfl) (hO13.range 1 (vs := (cat [[.int .i64 0, .int .i64 1, .int .i64 2], sumV (fun _ => 0), [.int .i64 0, .int .i64 5, .int .i64 3, .int .i64 3]])) rfl (by kernel_rfl))) ?_)
  refine EL.op (OPW.call (k := 21) rfl (by kernel_rfl) (by kernel_rfl) (by kernel_rfl) (rc_3 _) ?_)
  rintro e15 w15 ⟨rfl, hb15⟩
  refine ⟨_, rfl, ?_⟩
  have hO15 := hO13.below hb15 (Nat.le_refl _)
  have hS15 := hS13.below (Nat.le_refl _) hb15
  have hq16 := hq14.below (Nat.le_refl _) hb15
  refine EL.op (OPW.val (k := 22) (.bool true) rfl (by kernel_rfl) (by kernel_rfl) (by kernel_rfl) ?_)
  refine EL.op (OPW.val (k := 23) (.bool true) rfl (by kernel_rfl) (by kernel_rfl) (by kernel_rfl) ?_)
  refine EL.op (OPW.val (k := 24) (.bool true) rfl (by kernel_rfl) (by kernel_rfl) (by kernel_rfl) ?_)
  refine EL.op (OPW.val (k := 25) (.int .i64 0) rfl (by kernel_rfl) (by kernel_rfl) (by kernel_rfl) ?_)
  refine EL.op (OPW.val (k := 26) (.bool true) rfl (by kernel_rfl) (by kernel_rfl) (by kernel_rfl) ?_)
  refine EL.op (OPW.val (k := 27) (.bool true) rfl (by kernel_rfl) (by kernel_rfl) (by kernel_rfl) ?_)
  refine EL.op (OPW.val (k := 28) (.bool true) rfl (by kernel_rfl) (by kernel_rfl) (by kernel_rfl) ?_)
  refine EL.op (OPW.val (k := 29) (.pointer (some ⟨g8, 1, none⟩)) rfl (by kernel_rfl) (by kernel_rfl) (by kernel_rfl) ?_)
  refine EL.op (OPW.val (k := 30) (.slice B 2 b) rfl (by kernel_rfl) (by kernel_rfl) (load1 (b := g8) (i := 1) rfl (by kernel_rfl) (by kernel_rfl) (hO15.cell 0 rfl (by kernel_rfl))) ?_)
  refine EL.op (OPW.val (k := 31) (.int .i64 2) rfl (by kernel_rfl) (by kernel_rfl) (by kernel_rfl) ?_)
  refine EL.op (OPW.val (k := 32) (.bool true) rfl (by kernel_rfl) (by kernel_rfl) (by kernel_rfl) ?_)
  refine EL.op (OPW.val (k := 33) (.bool true) rfl (by kernel_rfl) (by kernel_rfl) (by kernel_rfl) ?_)
  refine EL.op (OPW.val (k := 34) (.bool true) rfl (by kernel_rfl) (by kernel_rfl) (by kernel_rfl) ?_)
  refine EL.op (OPW.val (k := 35) (.agg ((cat [[.int .i64 0, .int .i64 1, .int .i64 2], sumV (fun _ => 0), [.int .i64 0, .int .i64 5, .int .i64 4, .int .i64 3]])).toArray) rfl (by kernel_rfl) (by kernel_rfl) (loadN (b := g1) (i := 0) rfl (by kernel_rfl) (by kernel_rfl) (by kernel_rfl) (hO15.range 2 (vs := (cat [[.int .i64 0, .int .i64 1, .int .i64 2], sumV (fun _ => 0), [.int .i64 0, .int .i64 5, .int .i64 4, .int .i64 3]])) rfl (by kernel_rfl))) ?_)
  refine EL.op (OPW.val (k := 36) (.agg ((txCells T0 A a B b D d S sg)).toArray) rfl (by kernel_rfl) (by kernel_rfl) (loadN (b := g8) (i := 0) rfl (by kernel_rfl) (by kernel_rfl) (by kernel_rfl) (hO15.range 0 (vs := (txCells T0 A a B b D d S sg)) rfl (by kernel_rfl))) ?_)
  have hy : TxIs w15 (.agg (txCells T0 A a B b D d S sg).toArray) T0 := TxIs.below ⟨_, _, _, _, _, _, _, _, _, rfl, hx⟩ (hq16.toBelow)
  refine EL.op (OPW.call (k := 37) rfl (by kernel_rfl) (by kernel_rfl) (by kernel_rfl) (ow_1 _ _ hy) ?_)
  rintro e17 w17 ⟨rfl, hb17⟩
  refine ⟨_, rfl, ?_⟩
  have hO17 := hO15.below hb17 (Nat.le_refl _)
  have hS17 := hS15.below (Nat.le_refl _) hb17
  have hq18 := hq16.below (Nat.le_refl _) hb17
  refine EL.op (OPW.val (k := 38) (.bool true) rfl (by kernel_rfl) (by kernel_rfl) (by kernel_rfl) ?_)
  refine EL.op (OPW.val (k := 39) (.bool true) rfl (by kernel_rfl) (by kernel_rfl) (by kernel_rfl) ?_)
  refine EL.op (OPW.val (k := 0) (.bool true) rfl (by kernel_rfl) (by kernel_rfl) (by kernel_rfl) ?_)
  refine EL.nil ?_
  refine thenN ?_
  refine CW.ret ?_
  refine bp_ret (v := .bool true) (by kernel_rfl) ?_
  exact ⟨rfl, hS17.toBelow⟩
end Go.Proofs.Ythhgfcfcgbjleaa
