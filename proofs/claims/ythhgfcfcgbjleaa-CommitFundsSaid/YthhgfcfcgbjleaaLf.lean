/- The walk of the statement CommitFunds. -/
import Derived.Test.YthhgfcfcgbjleaaAw14
import Derived.Test.YthhgfcfcgbjleaaCf
namespace Go.Proofs.Ythhgfcfcgbjleaa
open Go.RowKit
set_option maxRecDepth 100000
theorem same_T (u v : Value) (o1 o2 : Ou) (w : World) (h1 : OutIs w u o1) (h2 : OutIs w v o2) (h : o1 = o2) : Calls Try.prog 12 #[u, v] w fun e w' => e = .returned (.bool true) ∧ Below w.heap.size w w' := by
  have := lock_Same u v o1 o2 w h1 h2
  rwa [decide_eq_true h] at this
theorem rd_rng {w : World} {b o : Nat} {l : List Int} (h : w.rangeAt b o (l.map (Value.int .i64))) : Rd (Value.int .i64) w (some ⟨b, o, none⟩) l := Rd.mk fun j x hx => h j _ (by simp [hx])
theorem fund_gt {a b cap : Int} (h : true = decide (a > b)) : (⟨cap, [⟨[min a b, max a b], zeros, 0, 0⟩]⟩ : Ou) = ⟨cap, [⟨[b, a], zeros, 0, 0⟩]⟩ := by
  have : a > b := by simpa using h.symm
  rw [show min a b = b by omega, show max a b = a by omega]
theorem fund_le {a b cap : Int} (h : false = decide (a > b)) : (⟨cap, [⟨[min a b, max a b], zeros, 0, 0⟩]⟩ : Ou) = ⟨cap, [⟨[a, b], zeros, 0, 0⟩]⟩ := by
  have : ¬ a > b := by simpa using h.symm
  rw [show min a b = a by omega, show max a b = b by omega]
set_option maxHeartbeats 1000000 in
theorem lawFunds (id a b at_ cap wait window : Int) (s : Nat → Int) (w : World) :
    Calls Try.prog 3 #[.agg (chnC id a b s at_ cap wait window).toArray] w fun e w' => e = .returned (.bool true) ∧ Below w.heap.size w w' := by
  have hO := own_nil w
  have hS := Sep.refl w.heap.size [] w
  refine calls_L Try.func3 rfl 28 [(0, .agg (chnC id a b s at_ cap wait window).toArray)] (by kernel_rfl) ?_
  refine CW.seq ?_
  refine CW.region ?_
  refine EL.op (OPW.new (k := 1) (ob := cellsO (chnC id a b s at_ cap wait window) 27) mkP rfl (by kernel_rfl) (by kernel_rfl) (by kernel_rfl) ?_)
  intro g1 w1 hg1 hw1
  have hO1 : Own w1 [(g1, (chnC id a b s at_ cap wait window), 27)] := (hO.alloc hg1 hw1).norm (by kernel_rfl)
  have hS1 := hS.alloc (Nat.le_refl _) hw1
  have hn1 : w.heap.size ≤ g1 := hg1 ▸ hS.size
  refine EL.op (OPW.val (k := 2) (.bool false) rfl (by kernel_rfl) (by kernel_rfl) (by kernel_rfl) ?_)
  refine EL.nil ?_
  refine thenN ?_
  refine CW.seq ?_
  refine ED.start (fun w' => Sep w1.drew.heap.size [] w1.drew w') (by kernel_rfl) ?_
  rintro _ rfl
  have hO3 := hO1.drew
  have hS4 := hS1.drew
  have hT1 : Sep w1.drew.heap.size [] w1.drew w1.drew := .refl _ _ _
  refine ED.take (k := 5) 0 (.pointer (some ⟨g1, 1, none⟩)) rfl rfl (by kernel_rfl) (by kernel_rfl) (by kernel_rfl) (by kernel_rfl) (fun _ _ _ h => h) (YI.val (by kernel_rfl) (fun _ _ => (by kernel_rfl))) hT1 ?_
  refine ED.take (k := 6) 1 (.int .i64 a) rfl rfl (by kernel_rfl) (by kernel_rfl) (by kernel_rfl) (by kernel_rfl) (fun _ _ _ h => h) (YI.val (by kernel_rfl) (fun _ hS' => load1 (b := g1) (i := 1) rfl (by kernel_rfl) (by kernel_rfl) (hS'.cell (hO3.lt 0 rfl) (by simp) (hO3.cell 0 rfl (by kernel_rfl))))) hT1 ?_
  refine ED.take (k := 7) 2 (.pointer (some ⟨g1, 2, none⟩)) rfl rfl (by kernel_rfl) (by kernel_rfl) (by kernel_rfl) (by kernel_rfl) (fun _ _ _ h => h) (YI.val (by kernel_rfl) (fun _ _ => (by kernel_rfl))) hT1 ?_
  refine ED.take (k := 8) 3 (.int .i64 b) rfl rfl (by kernel_rfl) (by kernel_rfl) (by kernel_rfl) (by kernel_rfl) (fun _ _ _ h => h) (YI.val (by kernel_rfl) (fun _ hS' => load1 (b := g1) (i := 2) rfl (by kernel_rfl) (by kernel_rfl) (hS'.cell (hO3.lt 0 rfl) (by simp) (hO3.cell 0 rfl (by kernel_rfl))))) hT1 ?_
  refine ED.take (k := 3) 4 (.int .i64 a) rfl rfl (by kernel_rfl) (by kernel_rfl) (by kernel_rfl) (by kernel_rfl) (fun _ _ _ h => h) (YI.val (by kernel_rfl) (fun _ _ => (by kernel_rfl))) hT1 ?_
  refine ED.take (k := 4) 5 (.int .i64 b) rfl rfl (by kernel_rfl) (by kernel_rfl) (by kernel_rfl) (by kernel_rfl) (fun _ _ _ h => h) (YI.val (by kernel_rfl) (fun _ _ => (by kernel_rfl))) hT1 ?_
  refine ED.done (by kernel_rfl) ?_
  refine thenN ?_
  refine CW.seq ?_
  refine CW.seq ?_
  refine CW.region ?_
  refine EL.op (OPW.val (k := 9) (.int .i64 a) rfl (by kernel_rfl) (by kernel_rfl) (by kernel_rfl) ?_)
  refine EL.op (OPW.val (k := 10) (.int .i64 b) rfl (by kernel_rfl) (by kernel_rfl) (by kernel_rfl) ?_)
  refine EL.op (OPW.bool (k := 11) (decide (a > b)) rfl (by kernel_rfl) (by kernel_rfl) (by kernel_rfl) ?_)
  intro b5 hb5
  refine EL.nil ?_
  refine thenN ?_
  refine CW.cond b5 (by kernel_rfl) (fun hc2 => ?_) (fun hc2 => ?_)
  · skip
    subst hc2
    refine CW.region ?_
    refine EL.op (OPW.val (k := 12) (.int .i64 b) rfl (by kernel_rfl) (by kernel_rfl) (by kernel_rfl) ?_)
    refine EL.op (OPW.val (k := 13) (.int .i64 a) rfl (by kernel_rfl) (by kernel_rfl) (by kernel_rfl) ?_)
    refine EL.op (OPW.val (k := 3) (.int .i64 b) rfl (by kernel_rfl) (by kernel_rfl) (by kernel_rfl) ?_)
    refine EL.op (OPW.val (k := 4) (.int .i64 a) rfl (by kernel_rfl) (by kernel_rfl) (by kernel_rfl) ?_)
    refine EL.nil ?_
    refine thenN ?_
    refine CW.seq ?_
    refine ED.start (fun w' => Sep w1.drew.drew.heap.size [] w1.drew.drew w') (by kernel_rfl) ?_
    rintro _ rfl
    have hO7 := hO3.drew
    have hS8 := hS4.drew
    have hT4 : Sep w1.drew.drew.heap.size [] w1.drew.drew w1.drew.drew := .refl _ _ _
    refine ED.take (k := 14) 0 (.agg ((chnC id a b s at_ cap wait window)).toArray) rfl rfl (by kernel_rfl) (by kernel_rfl) (by kernel_rfl) (by kernel_rfl) (fun _ _ _ h => h) (YI.val (by kernel_rfl) (fun _ hS' => loadN (b := g1) (i := 0) rfl (by kernel_rfl) (by kernel_rfl) (by kernel_rfl) (hS'.range (hO7.lt 0 rfl) (by simp) (hO7.range 0 (vs := (chnC id a b s at_ cap wait window)) rfl (by kernel_rfl))))) hT4 ?_
    refine ED.take (k := 16) 2 (.pointer (some ⟨g1, 36, none⟩)) rfl rfl (by kernel_rfl) (by kernel_rfl) (by kernel_rfl) (by kernel_rfl) (fun _ _ _ h => h) (YI.val (by kernel_rfl) (fun _ _ => (by kernel_rfl))) hT4 ?_
    refine ED.take (k := 17) 3 (.int .i64 cap) rfl rfl (by kernel_rfl) (by kernel_rfl) (by kernel_rfl) (by kernel_rfl) (fun _ _ _ h => h) (YI.val (by kernel_rfl) (fun _ hS' => load1 (b := g1) (i := 36) rfl (by kernel_rfl) (by kernel_rfl) (hS'.cell (hO7.lt 0 rfl) (by simp) (hO7.cell 0 rfl (by kernel_rfl))))) hT4 ?_
    refine ED.take (k := 18) 4 (.int .i64 b) rfl rfl (by kernel_rfl) (by kernel_rfl) (by kernel_rfl) (by kernel_rfl) (fun _ _ _ h => h) (YI.val (by kernel_rfl) (fun _ _ => (by kernel_rfl))) hT4 ?_
    refine ED.take (k := 19) 5 (.int .i64 a) rfl rfl (by kernel_rfl) (by kernel_rfl) (by kernel_rfl) (by kernel_rfl) (fun _ _ _ h => h) (YI.val (by kernel_rfl) (fun _ _ => (by kernel_rfl))) hT4 ?_
    refine ED.all [1, 6] (by kernel_rfl) (by simp) ?_
    refine EDo.cons rfl ?_ ?_
    · skip
      refine (OPW.call (k := 15) rfl (by kernel_rfl) (by kernel_rfl) (by kernel_rfl) (commit_Fund (chnC id a b s at_ cap wait window).toArray a b cap _ (by kernel_rfl) (by kernel_rfl) (by kernel_rfl)) ?_)
      rintro e9 w9 ⟨⟨v, rfl, hv⟩, hb9⟩
      obtain ⟨Av, cv, rfl, hv⟩ := hv
      refine ⟨_, rfl, ?_⟩
      have hO9 := hO7.below hb9 (Nat.le_refl _)
      have hS9 := hS8.below (Nat.le_refl _) hb9
      have hq10 := Sep.refl w9.heap.size [] w9
      have hT11 : Sep w1.drew.drew.heap.size [] w1.drew.drew w9 := hT4.below (Nat.le_refl _) hb9
      refine ⟨hT11, ?_⟩
      refine ED.all [6] (by kernel_rfl) (by simp) ?_
      refine EDo.cons rfl ?_ EDo.nil
      refine (OPW.new (k := 20) (ob := cellsO [.int .i64 b, .int .i64 a] 3) (mkS 2) rfl (by kernel_rfl) (by kernel_rfl) (by kernel_rfl) ?_)
      intro g12 w12 hg12 hw12
      have hO12 : Own w12 [(g12, [.int .i64 b, .int .i64 a], 3), (g1, (chnC id a b s at_ cap wait window), 27)] := (hO9.alloc hg12 hw12).norm (by kernel_rfl)
      have hS12 := hS9.alloc (Nat.le_refl _) hw12
      have hn12 : w.heap.size ≤ g12 := hg12 ▸ hS9.size
      have hqf13 : w9.heap.size ≤ g12 := hg12 ▸ hq10.size
      have hq14 := hq10.alloc (Nat.le_refl _) hw12
      have hr15 : w1.drew.drew.heap.size ≤ g12 := hg12 ▸ hT11.size
      have hT16 : Sep w1.drew.drew.heap.size [] w1.drew.drew w12 := hT11.alloc (Nat.le_refl _) hw12
      refine ⟨hT16, ?_⟩
      refine ED.take (k := 21) 7 (.agg ((cat [[.slice (some ⟨g12, 0, none⟩) 2 2], sumV (fun _ => 0), [.int .i64 0, .int .i64 0]])).toArray) rfl rfl (by kernel_rfl) (by kernel_rfl) (by kernel_rfl) (by kernel_rfl) (fun _ _ _ h => h) (YI.val (by kernel_rfl) (fun _ _ => (by kernel_rfl))) hT16 ?_
      refine ED.all [8] (by kernel_rfl) (by simp) ?_
      refine EDo.cons rfl ?_ EDo.nil
      refine (OPW.new (k := 22) (ob := cellsO (cat [[.slice (some ⟨g12, 0, none⟩) 2 2], sumV (fun _ => 0), [.int .i64 0, .int .i64 0]]) 35) (mkS 1) rfl (by kernel_rfl) (by kernel_rfl) (by kernel_rfl) ?_)
      intro g17 w17 hg17 hw17
      have hO17 : Own w17 [(g17, (cat [[.slice (some ⟨g12, 0, none⟩) 2 2], sumV (fun _ => 0), [.int .i64 0, .int .i64 0]]), 35), (g12, [.int .i64 b, .int .i64 a], 3), (g1, (chnC id a b s at_ cap wait window), 27)] := (hO12.alloc hg17 hw17).norm (by kernel_rfl)
      have hS17 := hS12.alloc (Nat.le_refl _) hw17
      have hn17 : w.heap.size ≤ g17 := hg17 ▸ hS12.size
      have hqf18 : w9.heap.size ≤ g17 := hg17 ▸ hq14.size
      have hq19 := hq14.alloc (Nat.le_refl _) hw17
      have hr20 : w1.drew.drew.heap.size ≤ g17 := hg17 ▸ hT16.size
      have hT21 : Sep w1.drew.drew.heap.size [] w1.drew.drew w17 := hT16.alloc (Nat.le_refl _) hw17
      refine ⟨hT21, ?_⟩
      refine ED.take (k := 23) 9 (.agg #[.int .i64 cap, .slice (some ⟨g17, 0, none⟩) 1 1]) rfl rfl (by kernel_rfl) (by kernel_rfl) (by kernel_rfl) (by kernel_rfl) (fun _ _ _ h => h) (YI.val (by kernel_rfl) (fun _ _ => (by kernel_rfl))) hT21 ?_
      refine ED.all [10] (by kernel_rfl) (by simp) ?_
      refine EDo.cons rfl ?_ EDo.nil
      have hy1 : OutIs w17 (.agg #[.int .i64 cap, .slice Av 1 cv]) _ := OutIs.below ⟨_, _, rfl, hv⟩ (hq19.toBelow)
      have hy2 : OutIs w17 (.agg #[.int .i64 cap, .slice (some ⟨g17, 0, none⟩) 1 1]) ⟨cap, [⟨[b, a], zeros, 0, 0⟩]⟩ := outIs_new (K := some ⟨g12, 0, none⟩) (c := 2) rfl ⟨rfl, by simp, zeros_ok⟩ (hO17.range 0 (j := 0) (vs := Wy.cells ⟨[b, a], zeros, 0, 0⟩ (some ⟨g12, 0, none⟩) 2) rfl (by kernel_rfl)) (rd_rng (o := 0) (l := [b, a]) (hO17.range 1 (j := 0) (vs := [.int .i64 b, .int .i64 a]) rfl (by kernel_rfl)))
      refine (OPW.call (k := 24) rfl (by kernel_rfl) (by kernel_rfl) (by kernel_rfl) (same_T _ _ _ _ _ hy1 hy2 (fund_gt hb5)) ?_)
      rintro e22 w22 ⟨rfl, hb22⟩
      refine ⟨_, rfl, ?_⟩
      have hO22 := hO17.below hb22 (Nat.le_refl _)
      have hS22 := hS17.below (Nat.le_refl _) hb22
      have hq23 := hq19.below (Nat.le_refl _) hb22
      have hT24 : Sep w1.drew.drew.heap.size [] w1.drew.drew w22 := hT21.below (Nat.le_refl _) hb22
      refine ⟨hT24, ?_⟩
      refine ED.take (k := 25) 11 (.bool true) rfl rfl (by kernel_rfl) (by kernel_rfl) (by kernel_rfl) (by kernel_rfl) (fun _ _ _ h => h) (YI.val (by kernel_rfl) (fun _ _ => (by kernel_rfl))) hT24 ?_
      refine ED.all [12] (by kernel_rfl) (by simp) ?_
      refine EDo.cons rfl ?_ EDo.nil
      refine (OPW.call (k := 26) rfl (by kernel_rfl) (by kernel_rfl) (by kernel_rfl) (awake14 _) ?_)
      rintro e25 w25 ⟨rfl, hb25⟩
      refine ⟨_, rfl, ?_⟩
      have hO25 := hO22.below hb25 (Nat.le_refl _)
      have hS25 := hS22.below (Nat.le_refl _) hb25
      have hq26 := hq23.below (Nat.le_refl _) hb25
      have hT27 : Sep w1.drew.drew.heap.size [] w1.drew.drew w25 := hT24.below (Nat.le_refl _) hb25
      refine ⟨hT27, ?_⟩
      refine ED.take (k := 27) 13 (.bool true) rfl rfl (by kernel_rfl) (by kernel_rfl) (by kernel_rfl) (by kernel_rfl) (fun _ _ _ h => h) (YI.val (by kernel_rfl) (fun _ _ => (by kernel_rfl))) hT27 ?_
      refine ED.take (k := 2) 14 (.bool true) rfl rfl (by kernel_rfl) (by kernel_rfl) (by kernel_rfl) (by kernel_rfl) (fun _ _ _ h => h) (YI.val (by kernel_rfl) (fun _ _ => (by kernel_rfl))) hT27 ?_
      refine ED.done (by kernel_rfl) ?_
      refine thenN ?_
      refine CW.ret ?_
      refine bp_ret (v := .bool true) (by kernel_rfl) ?_
      exact ⟨rfl, hS25.toBelow⟩
    refine EDo.cons rfl ?_ ?_
    · skip
      refine (OPW.new (k := 20) (ob := cellsO [.int .i64 b, .int .i64 a] 3) (mkS 2) rfl (by kernel_rfl) (by kernel_rfl) (by kernel_rfl) ?_)
      intro g28 w28 hg28 hw28
      have hO28 : Own w28 [(g28, [.int .i64 b, .int .i64 a], 3), (g1, (chnC id a b s at_ cap wait window), 27)] := (hO7.alloc hg28 hw28).norm (by kernel_rfl)
      have hS28 := hS8.alloc (Nat.le_refl _) hw28
      have hn28 : w.heap.size ≤ g28 := hg28 ▸ hS8.size
      have hr29 : w1.drew.drew.heap.size ≤ g28 := hg28 ▸ hT4.size
      have hT30 : Sep w1.drew.drew.heap.size [] w1.drew.drew w28 := hT4.alloc (Nat.le_refl _) hw28
      refine ⟨hT30, ?_⟩
      refine ED.take (k := 21) 7 (.agg ((cat [[.slice (some ⟨g28, 0, none⟩) 2 2], sumV (fun _ => 0), [.int .i64 0, .int .i64 0]])).toArray) rfl rfl (by kernel_rfl) (by kernel_rfl) (by kernel_rfl) (by kernel_rfl) (fun _ _ _ h => h) (YI.val (by kernel_rfl) (fun _ _ => (by kernel_rfl))) hT30 ?_
      refine ED.all [1, 8] (by kernel_rfl) (by simp) ?_
      refine EDo.cons rfl ?_ ?_
      · skip
        refine (OPW.call (k := 15) rfl (by kernel_rfl) (by kernel_rfl) (by kernel_rfl) (commit_Fund (chnC id a b s at_ cap wait window).toArray a b cap _ (by kernel_rfl) (by kernel_rfl) (by kernel_rfl)) ?_)
        rintro e31 w31 ⟨⟨v, rfl, hv⟩, hb31⟩
        obtain ⟨Av, cv, rfl, hv⟩ := hv
        refine ⟨_, rfl, ?_⟩
        have hO31 := hO28.below hb31 (Nat.le_refl _)
        have hS31 := hS28.below (Nat.le_refl _) hb31
        have hq32 := Sep.refl w31.heap.size [] w31
        have hT33 : Sep w1.drew.drew.heap.size [] w1.drew.drew w31 := hT30.below (Nat.le_refl _) hb31
        refine ⟨hT33, ?_⟩
        refine ED.all [8] (by kernel_rfl) (by simp) ?_
        refine EDo.cons rfl ?_ EDo.nil
        refine (OPW.new (k := 22) (ob := cellsO (cat [[.slice (some ⟨g28, 0, none⟩) 2 2], sumV (fun _ => 0), [.int .i64 0, .int .i64 0]]) 35) (mkS 1) rfl (by kernel_rfl) (by kernel_rfl) (by kernel_rfl) ?_)
        intro g34 w34 hg34 hw34
        have hO34 : Own w34 [(g34, (cat [[.slice (some ⟨g28, 0, none⟩) 2 2], sumV (fun _ => 0), [.int .i64 0, .int .i64 0]]), 35), (g28, [.int .i64 b, .int .i64 a], 3), (g1, (chnC id a b s at_ cap wait window), 27)] := (hO31.alloc hg34 hw34).norm (by kernel_rfl)
        have hS34 := hS31.alloc (Nat.le_refl _) hw34
        have hn34 : w.heap.size ≤ g34 := hg34 ▸ hS31.size
        have hqf35 : w31.heap.size ≤ g34 := hg34 ▸ hq32.size
        have hq36 := hq32.alloc (Nat.le_refl _) hw34
        have hr37 : w1.drew.drew.heap.size ≤ g34 := hg34 ▸ hT33.size
        have hT38 : Sep w1.drew.drew.heap.size [] w1.drew.drew w34 := hT33.alloc (Nat.le_refl _) hw34
        refine ⟨hT38, ?_⟩
        refine ED.take (k := 23) 9 (.agg #[.int .i64 cap, .slice (some ⟨g34, 0, none⟩) 1 1]) rfl rfl (by kernel_rfl) (by kernel_rfl) (by kernel_rfl) (by kernel_rfl) (fun _ _ _ h => h) (YI.val (by kernel_rfl) (fun _ _ => (by kernel_rfl))) hT38 ?_
        refine ED.all [10] (by kernel_rfl) (by simp) ?_
        refine EDo.cons rfl ?_ EDo.nil
        have hy1 : OutIs w34 (.agg #[.int .i64 cap, .slice Av 1 cv]) _ := OutIs.below ⟨_, _, rfl, hv⟩ (hq36.toBelow)
        have hy2 : OutIs w34 (.agg #[.int .i64 cap, .slice (some ⟨g34, 0, none⟩) 1 1]) ⟨cap, [⟨[b, a], zeros, 0, 0⟩]⟩ := outIs_new (K := some ⟨g28, 0, none⟩) (c := 2) rfl ⟨rfl, by simp, zeros_ok⟩ (hO34.range 0 (j := 0) (vs := Wy.cells ⟨[b, a], zeros, 0, 0⟩ (some ⟨g28, 0, none⟩) 2) rfl (by kernel_rfl)) (rd_rng (o := 0) (l := [b, a]) (hO34.range 1 (j := 0) (vs := [.int .i64 b, .int .i64 a]) rfl (by kernel_rfl)))
        refine (OPW.call (k := 24) rfl (by kernel_rfl) (by kernel_rfl) (by kernel_rfl) (same_T _ _ _ _ _ hy1 hy2 (fund_gt hb5)) ?_)
        rintro e39 w39 ⟨rfl, hb39⟩
        refine ⟨_, rfl, ?_⟩
        have hO39 := hO34.below hb39 (Nat.le_refl _)
        have hS39 := hS34.below (Nat.le_refl _) hb39
        have hq40 := hq36.below (Nat.le_refl _) hb39
        have hT41 : Sep w1.drew.drew.heap.size [] w1.drew.drew w39 := hT38.below (Nat.le_refl _) hb39
        refine ⟨hT41, ?_⟩
        refine ED.take (k := 25) 11 (.bool true) rfl rfl (by kernel_rfl) (by kernel_rfl) (by kernel_rfl) (by kernel_rfl) (fun _ _ _ h => h) (YI.val (by kernel_rfl) (fun _ _ => (by kernel_rfl))) hT41 ?_
        refine ED.all [12] (by kernel_rfl) (by simp) ?_
        refine EDo.cons rfl ?_ EDo.nil
        refine (OPW.call (k := 26) rfl (by kernel_rfl) (by kernel_rfl) (by kernel_rfl) (awake14 _) ?_)
        rintro e42 w42 ⟨rfl, hb42⟩
        refine ⟨_, rfl, ?_⟩
        have hO42 := hO39.below hb42 (Nat.le_refl _)
        have hS42 := hS39.below (Nat.le_refl _) hb42
        have hq43 := hq40.below (Nat.le_refl _) hb42
        have hT44 : Sep w1.drew.drew.heap.size [] w1.drew.drew w42 := hT41.below (Nat.le_refl _) hb42
        refine ⟨hT44, ?_⟩
        refine ED.take (k := 27) 13 (.bool true) rfl rfl (by kernel_rfl) (by kernel_rfl) (by kernel_rfl) (by kernel_rfl) (fun _ _ _ h => h) (YI.val (by kernel_rfl) (fun _ _ => (by kernel_rfl))) hT44 ?_
        refine ED.take (k := 2) 14 (.bool true) rfl rfl (by kernel_rfl) (by kernel_rfl) (by kernel_rfl) (by kernel_rfl) (fun _ _ _ h => h) (YI.val (by kernel_rfl) (fun _ _ => (by kernel_rfl))) hT44 ?_
        refine ED.done (by kernel_rfl) ?_
        refine thenN ?_
        refine CW.ret ?_
        refine bp_ret (v := .bool true) (by kernel_rfl) ?_
        exact ⟨rfl, hS42.toBelow⟩
      refine EDo.cons rfl ?_ ?_
      · skip
        refine (OPW.new (k := 22) (ob := cellsO (cat [[.slice (some ⟨g28, 0, none⟩) 2 2], sumV (fun _ => 0), [.int .i64 0, .int .i64 0]]) 35) (mkS 1) rfl (by kernel_rfl) (by kernel_rfl) (by kernel_rfl) ?_)
        intro g45 w45 hg45 hw45
        have hO45 : Own w45 [(g45, (cat [[.slice (some ⟨g28, 0, none⟩) 2 2], sumV (fun _ => 0), [.int .i64 0, .int .i64 0]]), 35), (g28, [.int .i64 b, .int .i64 a], 3), (g1, (chnC id a b s at_ cap wait window), 27)] := (hO28.alloc hg45 hw45).norm (by kernel_rfl)
        have hS45 := hS28.alloc (Nat.le_refl _) hw45
        have hn45 : w.heap.size ≤ g45 := hg45 ▸ hS28.size
        have hr46 : w1.drew.drew.heap.size ≤ g45 := hg45 ▸ hT30.size
        have hT47 : Sep w1.drew.drew.heap.size [] w1.drew.drew w45 := hT30.alloc (Nat.le_refl _) hw45
        refine ⟨hT47, ?_⟩
        refine ED.take (k := 23) 9 (.agg #[.int .i64 cap, .slice (some ⟨g45, 0, none⟩) 1 1]) rfl rfl (by kernel_rfl) (by kernel_rfl) (by kernel_rfl) (by kernel_rfl) (fun _ _ _ h => h) (YI.val (by kernel_rfl) (fun _ _ => (by kernel_rfl))) hT47 ?_
        refine ED.all [1] (by kernel_rfl) (by simp) ?_
        refine EDo.cons rfl ?_ EDo.nil
        refine (OPW.call (k := 15) rfl (by kernel_rfl) (by kernel_rfl) (by kernel_rfl) (commit_Fund (chnC id a b s at_ cap wait window).toArray a b cap _ (by kernel_rfl) (by kernel_rfl) (by kernel_rfl)) ?_)
        rintro e48 w48 ⟨⟨v, rfl, hv⟩, hb48⟩
        obtain ⟨Av, cv, rfl, hv⟩ := hv
        refine ⟨_, rfl, ?_⟩
        have hO48 := hO45.below hb48 (Nat.le_refl _)
        have hS48 := hS45.below (Nat.le_refl _) hb48
        have hq49 := Sep.refl w48.heap.size [] w48
        have hT50 : Sep w1.drew.drew.heap.size [] w1.drew.drew w48 := hT47.below (Nat.le_refl _) hb48
        refine ⟨hT50, ?_⟩
        refine ED.all [10] (by kernel_rfl) (by simp) ?_
        refine EDo.cons rfl ?_ EDo.nil
        have hy1 : OutIs w48 (.agg #[.int .i64 cap, .slice Av 1 cv]) _ := OutIs.below ⟨_, _, rfl, hv⟩ (hq49.toBelow)
        have hy2 : OutIs w48 (.agg #[.int .i64 cap, .slice (some ⟨g45, 0, none⟩) 1 1]) ⟨cap, [⟨[b, a], zeros, 0, 0⟩]⟩ := outIs_new (K := some ⟨g28, 0, none⟩) (c := 2) rfl ⟨rfl, by simp, zeros_ok⟩ (hO48.range 0 (j := 0) (vs := Wy.cells ⟨[b, a], zeros, 0, 0⟩ (some ⟨g28, 0, none⟩) 2) rfl (by kernel_rfl)) (rd_rng (o := 0) (l := [b, a]) (hO48.range 1 (j := 0) (vs := [.int .i64 b, .int .i64 a]) rfl (by kernel_rfl)))
        refine (OPW.call (k := 24) rfl (by kernel_rfl) (by kernel_rfl) (by kernel_rfl) (same_T _ _ _ _ _ hy1 hy2 (fund_gt hb5)) ?_)
        rintro e51 w51 ⟨rfl, hb51⟩
        refine ⟨_, rfl, ?_⟩
        have hO51 := hO48.below hb51 (Nat.le_refl _)
        have hS51 := hS48.below (Nat.le_refl _) hb51
        have hq52 := hq49.below (Nat.le_refl _) hb51
        have hT53 : Sep w1.drew.drew.heap.size [] w1.drew.drew w51 := hT50.below (Nat.le_refl _) hb51
        refine ⟨hT53, ?_⟩
        refine ED.take (k := 25) 11 (.bool true) rfl rfl (by kernel_rfl) (by kernel_rfl) (by kernel_rfl) (by kernel_rfl) (fun _ _ _ h => h) (YI.val (by kernel_rfl) (fun _ _ => (by kernel_rfl))) hT53 ?_
        refine ED.all [12] (by kernel_rfl) (by simp) ?_
        refine EDo.cons rfl ?_ EDo.nil
        refine (OPW.call (k := 26) rfl (by kernel_rfl) (by kernel_rfl) (by kernel_rfl) (awake14 _) ?_)
        rintro e54 w54 ⟨rfl, hb54⟩
        refine ⟨_, rfl, ?_⟩
        have hO54 := hO51.below hb54 (Nat.le_refl _)
        have hS54 := hS51.below (Nat.le_refl _) hb54
        have hq55 := hq52.below (Nat.le_refl _) hb54
        have hT56 : Sep w1.drew.drew.heap.size [] w1.drew.drew w54 := hT53.below (Nat.le_refl _) hb54
        refine ⟨hT56, ?_⟩
        refine ED.take (k := 27) 13 (.bool true) rfl rfl (by kernel_rfl) (by kernel_rfl) (by kernel_rfl) (by kernel_rfl) (fun _ _ _ h => h) (YI.val (by kernel_rfl) (fun _ _ => (by kernel_rfl))) hT56 ?_
        refine ED.take (k := 2) 14 (.bool true) rfl rfl (by kernel_rfl) (by kernel_rfl) (by kernel_rfl) (by kernel_rfl) (fun _ _ _ h => h) (YI.val (by kernel_rfl) (fun _ _ => (by kernel_rfl))) hT56 ?_
        refine ED.done (by kernel_rfl) ?_
        refine thenN ?_
        refine CW.ret ?_
        refine bp_ret (v := .bool true) (by kernel_rfl) ?_
        exact ⟨rfl, hS54.toBelow⟩
      exact EDo.nil
    exact EDo.nil
  · skip
    subst hc2
    refine CW.skip ?_
    refine thenN ?_
    refine CW.seq ?_
    refine ED.start (fun w' => Sep w1.drew.drew.heap.size [] w1.drew.drew w') (by kernel_rfl) ?_
    rintro _ rfl
    have hO58 := hO3.drew
    have hS59 := hS4.drew
    have hT4 : Sep w1.drew.drew.heap.size [] w1.drew.drew w1.drew.drew := .refl _ _ _
    refine ED.take (k := 14) 0 (.agg ((chnC id a b s at_ cap wait window)).toArray) rfl rfl (by kernel_rfl) (by kernel_rfl) (by kernel_rfl) (by kernel_rfl) (fun _ _ _ h => h) (YI.val (by kernel_rfl) (fun _ hS' => loadN (b := g1) (i := 0) rfl (by kernel_rfl) (by kernel_rfl) (by kernel_rfl) (hS'.range (hO58.lt 0 rfl) (by simp) (hO58.range 0 (vs := (chnC id a b s at_ cap wait window)) rfl (by kernel_rfl))))) hT4 ?_
    refine ED.take (k := 16) 2 (.pointer (some ⟨g1, 36, none⟩)) rfl rfl (by kernel_rfl) (by kernel_rfl) (by kernel_rfl) (by kernel_rfl) (fun _ _ _ h => h) (YI.val (by kernel_rfl) (fun _ _ => (by kernel_rfl))) hT4 ?_
    refine ED.take (k := 17) 3 (.int .i64 cap) rfl rfl (by kernel_rfl) (by kernel_rfl) (by kernel_rfl) (by kernel_rfl) (fun _ _ _ h => h) (YI.val (by kernel_rfl) (fun _ hS' => load1 (b := g1) (i := 36) rfl (by kernel_rfl) (by kernel_rfl) (hS'.cell (hO58.lt 0 rfl) (by simp) (hO58.cell 0 rfl (by kernel_rfl))))) hT4 ?_
    refine ED.take (k := 18) 4 (.int .i64 a) rfl rfl (by kernel_rfl) (by kernel_rfl) (by kernel_rfl) (by kernel_rfl) (fun _ _ _ h => h) (YI.val (by kernel_rfl) (fun _ _ => (by kernel_rfl))) hT4 ?_
    refine ED.take (k := 19) 5 (.int .i64 b) rfl rfl (by kernel_rfl) (by kernel_rfl) (by kernel_rfl) (by kernel_rfl) (fun _ _ _ h => h) (YI.val (by kernel_rfl) (fun _ _ => (by kernel_rfl))) hT4 ?_
    refine ED.all [1, 6] (by kernel_rfl) (by simp) ?_
    refine EDo.cons rfl ?_ ?_
    · skip
      refine (OPW.call (k := 15) rfl (by kernel_rfl) (by kernel_rfl) (by kernel_rfl) (commit_Fund (chnC id a b s at_ cap wait window).toArray a b cap _ (by kernel_rfl) (by kernel_rfl) (by kernel_rfl)) ?_)
      rintro e60 w60 ⟨⟨v, rfl, hv⟩, hb60⟩
      obtain ⟨Av, cv, rfl, hv⟩ := hv
      refine ⟨_, rfl, ?_⟩
      have hO60 := hO58.below hb60 (Nat.le_refl _)
      have hS60 := hS59.below (Nat.le_refl _) hb60
      have hq61 := Sep.refl w60.heap.size [] w60
      have hT62 : Sep w1.drew.drew.heap.size [] w1.drew.drew w60 := hT4.below (Nat.le_refl _) hb60
      refine ⟨hT62, ?_⟩
      refine ED.all [6] (by kernel_rfl) (by simp) ?_
      refine EDo.cons rfl ?_ EDo.nil
      refine (OPW.new (k := 20) (ob := cellsO [.int .i64 a, .int .i64 b] 3) (mkS 2) rfl (by kernel_rfl) (by kernel_rfl) (by kernel_rfl) ?_)
      intro g63 w63 hg63 hw63
      have hO63 : Own w63 [(g63, [.int .i64 a, .int .i64 b], 3), (g1, (chnC id a b s at_ cap wait window), 27)] := (hO60.alloc hg63 hw63).norm (by kernel_rfl)
      have hS63 := hS60.alloc (Nat.le_refl _) hw63
      have hn63 : w.heap.size ≤ g63 := hg63 ▸ hS60.size
      have hqf64 : w60.heap.size ≤ g63 := hg63 ▸ hq61.size
      have hq65 := hq61.alloc (Nat.le_refl _) hw63
      have hr66 : w1.drew.drew.heap.size ≤ g63 := hg63 ▸ hT62.size
      have hT67 : Sep w1.drew.drew.heap.size [] w1.drew.drew w63 := hT62.alloc (Nat.le_refl _) hw63
      refine ⟨hT67, ?_⟩
      refine ED.take (k := 21) 7 (.agg ((cat [[.slice (some ⟨g63, 0, none⟩) 2 2], sumV (fun _ => 0), [.int .i64 0, .int .i64 0]])).toArray) rfl rfl (by kernel_rfl) (by kernel_rfl) (by kernel_rfl) (by kernel_rfl) (fun _ _ _ h => h) (YI.val (by kernel_rfl) (fun _ _ => (by kernel_rfl))) hT67 ?_
      refine ED.all [8] (by kernel_rfl) (by simp) ?_
      refine EDo.cons rfl ?_ EDo.nil
      refine (OPW.new (k := 22) (ob := cellsO (cat [[.slice (some ⟨g63, 0, none⟩) 2 2], sumV (fun _ => 0), [.int .i64 0, .int .i64 0]]) 35) (mkS 1) rfl (by kernel_rfl) (by kernel_rfl) (by kernel_rfl) ?_)
      intro g68 w68 hg68 hw68
      have hO68 : Own w68 [(g68, (cat [[.slice (some ⟨g63, 0, none⟩) 2 2], sumV (fun _ => 0), [.int .i64 0, .int .i64 0]]), 35), (g63, [.int .i64 a, .int .i64 b], 3), (g1, (chnC id a b s at_ cap wait window), 27)] := (hO63.alloc hg68 hw68).norm (by kernel_rfl)
      have hS68 := hS63.alloc (Nat.le_refl _) hw68
      have hn68 : w.heap.size ≤ g68 := hg68 ▸ hS63.size
      have hqf69 : w60.heap.size ≤ g68 := hg68 ▸ hq65.size
      have hq70 := hq65.alloc (Nat.le_refl _) hw68
      have hr71 : w1.drew.drew.heap.size ≤ g68 := hg68 ▸ hT67.size
      have hT72 : Sep w1.drew.drew.heap.size [] w1.drew.drew w68 := hT67.alloc (Nat.le_refl _) hw68
      refine ⟨hT72, ?_⟩
      refine ED.take (k := 23) 9 (.agg #[.int .i64 cap, .slice (some ⟨g68, 0, none⟩) 1 1]) rfl rfl (by kernel_rfl) (by kernel_rfl) (by kernel_rfl) (by kernel_rfl) (fun _ _ _ h => h) (YI.val (by kernel_rfl) (fun _ _ => (by kernel_rfl))) hT72 ?_
      refine ED.all [10] (by kernel_rfl) (by simp) ?_
      refine EDo.cons rfl ?_ EDo.nil
      have hy1 : OutIs w68 (.agg #[.int .i64 cap, .slice Av 1 cv]) _ := OutIs.below ⟨_, _, rfl, hv⟩ (hq70.toBelow)
      have hy2 : OutIs w68 (.agg #[.int .i64 cap, .slice (some ⟨g68, 0, none⟩) 1 1]) ⟨cap, [⟨[a, b], zeros, 0, 0⟩]⟩ := outIs_new (K := some ⟨g63, 0, none⟩) (c := 2) rfl ⟨rfl, by simp, zeros_ok⟩ (hO68.range 0 (j := 0) (vs := Wy.cells ⟨[a, b], zeros, 0, 0⟩ (some ⟨g63, 0, none⟩) 2) rfl (by kernel_rfl)) (rd_rng (o := 0) (l := [a, b]) (hO68.range 1 (j := 0) (vs := [.int .i64 a, .int .i64 b]) rfl (by kernel_rfl)))
      refine (OPW.call (k := 24) rfl (by kernel_rfl) (by kernel_rfl) (by kernel_rfl) (same_T _ _ _ _ _ hy1 hy2 (fund_le hb5)) ?_)
      rintro e73 w73 ⟨rfl, hb73⟩
      refine ⟨_, rfl, ?_⟩
      have hO73 := hO68.below hb73 (Nat.le_refl _)
      have hS73 := hS68.below (Nat.le_refl _) hb73
      have hq74 := hq70.below (Nat.le_refl _) hb73
      have hT75 : Sep w1.drew.drew.heap.size [] w1.drew.drew w73 := hT72.below (Nat.le_refl _) hb73
      refine ⟨hT75, ?_⟩
      refine ED.take (k := 25) 11 (.bool true) rfl rfl (by kernel_rfl) (by kernel_rfl) (by kernel_rfl) (by kernel_rfl) (fun _ _ _ h => h) (YI.val (by kernel_rfl) (fun _ _ => (by kernel_rfl))) hT75 ?_
      refine ED.all [12] (by kernel_rfl) (by simp) ?_
      refine EDo.cons rfl ?_ EDo.nil
      refine (OPW.call (k := 26) rfl (by kernel_rfl) (by kernel_rfl) (by kernel_rfl) (awake14 _) ?_)
      rintro e76 w76 ⟨rfl, hb76⟩
      refine ⟨_, rfl, ?_⟩
      have hO76 := hO73.below hb76 (Nat.le_refl _)
      have hS76 := hS73.below (Nat.le_refl _) hb76
      have hq77 := hq74.below (Nat.le_refl _) hb76
      have hT78 : Sep w1.drew.drew.heap.size [] w1.drew.drew w76 := hT75.below (Nat.le_refl _) hb76
      refine ⟨hT78, ?_⟩
      refine ED.take (k := 27) 13 (.bool true) rfl rfl (by kernel_rfl) (by kernel_rfl) (by kernel_rfl) (by kernel_rfl) (fun _ _ _ h => h) (YI.val (by kernel_rfl) (fun _ _ => (by kernel_rfl))) hT78 ?_
      refine ED.take (k := 2) 14 (.bool true) rfl rfl (by kernel_rfl) (by kernel_rfl) (by kernel_rfl) (by kernel_rfl) (fun _ _ _ h => h) (YI.val (by kernel_rfl) (fun _ _ => (by kernel_rfl))) hT78 ?_
      refine ED.done (by kernel_rfl) ?_
      refine thenN ?_
      refine CW.ret ?_
      refine bp_ret (v := .bool true) (by kernel_rfl) ?_
      exact ⟨rfl, hS76.toBelow⟩
    refine EDo.cons rfl ?_ ?_
    · skip
      refine (OPW.new (k := 20) (ob := cellsO [.int .i64 a, .int .i64 b] 3) (mkS 2) rfl (by kernel_rfl) (by kernel_rfl) (by kernel_rfl) ?_)
      intro g79 w79 hg79 hw79
      have hO79 : Own w79 [(g79, [.int .i64 a, .int .i64 b], 3), (g1, (chnC id a b s at_ cap wait window), 27)] := (hO58.alloc hg79 hw79).norm (by kernel_rfl)
      have hS79 := hS59.alloc (Nat.le_refl _) hw79
      have hn79 : w.heap.size ≤ g79 := hg79 ▸ hS59.size
      have hr80 : w1.drew.drew.heap.size ≤ g79 := hg79 ▸ hT4.size
      have hT81 : Sep w1.drew.drew.heap.size [] w1.drew.drew w79 := hT4.alloc (Nat.le_refl _) hw79
      refine ⟨hT81, ?_⟩
      refine ED.take (k := 21) 7 (.agg ((cat [[.slice (some ⟨g79, 0, none⟩) 2 2], sumV (fun _ => 0), [.int .i64 0, .int .i64 0]])).toArray) rfl rfl (by kernel_rfl) (by kernel_rfl) (by kernel_rfl) (by kernel_rfl) (fun _ _ _ h => h) (YI.val (by kernel_rfl) (fun _ _ => (by kernel_rfl))) hT81 ?_
      refine ED.all [1, 8] (by kernel_rfl) (by simp) ?_
      refine EDo.cons rfl ?_ ?_
      · skip
        refine (OPW.call (k := 15) rfl (by kernel_rfl) (by kernel_rfl) (by kernel_rfl) (commit_Fund (chnC id a b s at_ cap wait window).toArray a b cap _ (by kernel_rfl) (by kernel_rfl) (by kernel_rfl)) ?_)
        rintro e82 w82 ⟨⟨v, rfl, hv⟩, hb82⟩
        obtain ⟨Av, cv, rfl, hv⟩ := hv
        refine ⟨_, rfl, ?_⟩
        have hO82 := hO79.below hb82 (Nat.le_refl _)
        have hS82 := hS79.below (Nat.le_refl _) hb82
        have hq83 := Sep.refl w82.heap.size [] w82
        have hT84 : Sep w1.drew.drew.heap.size [] w1.drew.drew w82 := hT81.below (Nat.le_refl _) hb82
        refine ⟨hT84, ?_⟩
        refine ED.all [8] (by kernel_rfl) (by simp) ?_
        refine EDo.cons rfl ?_ EDo.nil
        refine (OPW.new (k := 22) (ob := cellsO (cat [[.slice (some ⟨g79, 0, none⟩) 2 2], sumV (fun _ => 0), [.int .i64 0, .int .i64 0]]) 35) (mkS 1) rfl (by kernel_rfl) (by kernel_rfl) (by kernel_rfl) ?_)
        intro g85 w85 hg85 hw85
        have hO85 : Own w85 [(g85, (cat [[.slice (some ⟨g79, 0, none⟩) 2 2], sumV (fun _ => 0), [.int .i64 0, .int .i64 0]]), 35), (g79, [.int .i64 a, .int .i64 b], 3), (g1, (chnC id a b s at_ cap wait window), 27)] := (hO82.alloc hg85 hw85).norm (by kernel_rfl)
        have hS85 := hS82.alloc (Nat.le_refl _) hw85
        have hn85 : w.heap.size ≤ g85 := hg85 ▸ hS82.size
        have hqf86 : w82.heap.size ≤ g85 := hg85 ▸ hq83.size
        have hq87 := hq83.alloc (Nat.le_refl _) hw85
        have hr88 : w1.drew.drew.heap.size ≤ g85 := hg85 ▸ hT84.size
        have hT89 : Sep w1.drew.drew.heap.size [] w1.drew.drew w85 := hT84.alloc (Nat.le_refl _) hw85
        refine ⟨hT89, ?_⟩
        refine ED.take (k := 23) 9 (.agg #[.int .i64 cap, .slice (some ⟨g85, 0, none⟩) 1 1]) rfl rfl (by kernel_rfl) (by kernel_rfl) (by kernel_rfl) (by kernel_rfl) (fun _ _ _ h => h) (YI.val (by kernel_rfl) (fun _ _ => (by kernel_rfl))) hT89 ?_
        refine ED.all [10] (by kernel_rfl) (by simp) ?_
        refine EDo.cons rfl ?_ EDo.nil
        have hy1 : OutIs w85 (.agg #[.int .i64 cap, .slice Av 1 cv]) _ := OutIs.below ⟨_, _, rfl, hv⟩ (hq87.toBelow)
        have hy2 : OutIs w85 (.agg #[.int .i64 cap, .slice (some ⟨g85, 0, none⟩) 1 1]) ⟨cap, [⟨[a, b], zeros, 0, 0⟩]⟩ := outIs_new (K := some ⟨g79, 0, none⟩) (c := 2) rfl ⟨rfl, by simp, zeros_ok⟩ (hO85.range 0 (j := 0) (vs := Wy.cells ⟨[a, b], zeros, 0, 0⟩ (some ⟨g79, 0, none⟩) 2) rfl (by kernel_rfl)) (rd_rng (o := 0) (l := [a, b]) (hO85.range 1 (j := 0) (vs := [.int .i64 a, .int .i64 b]) rfl (by kernel_rfl)))
        refine (OPW.call (k := 24) rfl (by kernel_rfl) (by kernel_rfl) (by kernel_rfl) (same_T _ _ _ _ _ hy1 hy2 (fund_le hb5)) ?_)
        rintro e90 w90 ⟨rfl, hb90⟩
        refine ⟨_, rfl, ?_⟩
        have hO90 := hO85.below hb90 (Nat.le_refl _)
        have hS90 := hS85.below (Nat.le_refl _) hb90
        have hq91 := hq87.below (Nat.le_refl _) hb90
        have hT92 : Sep w1.drew.drew.heap.size [] w1.drew.drew w90 := hT89.below (Nat.le_refl _) hb90
        refine ⟨hT92, ?_⟩
        refine ED.take (k := 25) 11 (.bool true) rfl rfl (by kernel_rfl) (by kernel_rfl) (by kernel_rfl) (by kernel_rfl) (fun _ _ _ h => h) (YI.val (by kernel_rfl) (fun _ _ => (by kernel_rfl))) hT92 ?_
        refine ED.all [12] (by kernel_rfl) (by simp) ?_
        refine EDo.cons rfl ?_ EDo.nil
        refine (OPW.call (k := 26) rfl (by kernel_rfl) (by kernel_rfl) (by kernel_rfl) (awake14 _) ?_)
        rintro e93 w93 ⟨rfl, hb93⟩
        refine ⟨_, rfl, ?_⟩
        have hO93 := hO90.below hb93 (Nat.le_refl _)
        have hS93 := hS90.below (Nat.le_refl _) hb93
        have hq94 := hq91.below (Nat.le_refl _) hb93
        have hT95 : Sep w1.drew.drew.heap.size [] w1.drew.drew w93 := hT92.below (Nat.le_refl _) hb93
        refine ⟨hT95, ?_⟩
        refine ED.take (k := 27) 13 (.bool true) rfl rfl (by kernel_rfl) (by kernel_rfl) (by kernel_rfl) (by kernel_rfl) (fun _ _ _ h => h) (YI.val (by kernel_rfl) (fun _ _ => (by kernel_rfl))) hT95 ?_
        refine ED.take (k := 2) 14 (.bool true) rfl rfl (by kernel_rfl) (by kernel_rfl) (by kernel_rfl) (by kernel_rfl) (fun _ _ _ h => h) (YI.val (by kernel_rfl) (fun _ _ => (by kernel_rfl))) hT95 ?_
        refine ED.done (by kernel_rfl) ?_
        refine thenN ?_
        refine CW.ret ?_
        refine bp_ret (v := .bool true) (by kernel_rfl) ?_
        exact ⟨rfl, hS93.toBelow⟩
      refine EDo.cons rfl ?_ ?_
      · skip
        refine (OPW.new (k := 22) (ob := cellsO (cat [[.slice (some ⟨g79, 0, none⟩) 2 2], sumV (fun _ => 0), [.int .i64 0, .int .i64 0]]) 35) (mkS 1) rfl (by kernel_rfl) (by kernel_rfl) (by kernel_rfl) ?_)
        intro g96 w96 hg96 hw96
        have hO96 : Own w96 [(g96, (cat [[.slice (some ⟨g79, 0, none⟩) 2 2], sumV (fun _ => 0), [.int .i64 0, .int .i64 0]]), 35), (g79, [.int .i64 a, .int .i64 b], 3), (g1, (chnC id a b s at_ cap wait window), 27)] := (hO79.alloc hg96 hw96).norm (by kernel_rfl)
        have hS96 := hS79.alloc (Nat.le_refl _) hw96
        have hn96 : w.heap.size ≤ g96 := hg96 ▸ hS79.size
        have hr97 : w1.drew.drew.heap.size ≤ g96 := hg96 ▸ hT81.size
        have hT98 : Sep w1.drew.drew.heap.size [] w1.drew.drew w96 := hT81.alloc (Nat.le_refl _) hw96
        refine ⟨hT98, ?_⟩
        refine ED.take (k := 23) 9 (.agg #[.int .i64 cap, .slice (some ⟨g96, 0, none⟩) 1 1]) rfl rfl (by kernel_rfl) (by kernel_rfl) (by kernel_rfl) (by kernel_rfl) (fun _ _ _ h => h) (YI.val (by kernel_rfl) (fun _ _ => (by kernel_rfl))) hT98 ?_
        refine ED.all [1] (by kernel_rfl) (by simp) ?_
        refine EDo.cons rfl ?_ EDo.nil
        refine (OPW.call (k := 15) rfl (by kernel_rfl) (by kernel_rfl) (by kernel_rfl) (commit_Fund (chnC id a b s at_ cap wait window).toArray a b cap _ (by kernel_rfl) (by kernel_rfl) (by kernel_rfl)) ?_)
        rintro e99 w99 ⟨⟨v, rfl, hv⟩, hb99⟩
        obtain ⟨Av, cv, rfl, hv⟩ := hv
        refine ⟨_, rfl, ?_⟩
        have hO99 := hO96.below hb99 (Nat.le_refl _)
        have hS99 := hS96.below (Nat.le_refl _) hb99
        have hq100 := Sep.refl w99.heap.size [] w99
        have hT101 : Sep w1.drew.drew.heap.size [] w1.drew.drew w99 := hT98.below (Nat.le_refl _) hb99
        refine ⟨hT101, ?_⟩
        refine ED.all [10] (by kernel_rfl) (by simp) ?_
        refine EDo.cons rfl ?_ EDo.nil
        have hy1 : OutIs w99 (.agg #[.int .i64 cap, .slice Av 1 cv]) _ := OutIs.below ⟨_, _, rfl, hv⟩ (hq100.toBelow)
        have hy2 : OutIs w99 (.agg #[.int .i64 cap, .slice (some ⟨g96, 0, none⟩) 1 1]) ⟨cap, [⟨[a, b], zeros, 0, 0⟩]⟩ := outIs_new (K := some ⟨g79, 0, none⟩) (c := 2) rfl ⟨rfl, by simp, zeros_ok⟩ (hO99.range 0 (j := 0) (vs := Wy.cells ⟨[a, b], zeros, 0, 0⟩ (some ⟨g79, 0, none⟩) 2) rfl (by kernel_rfl)) (rd_rng (o := 0) (l := [a, b]) (hO99.range 1 (j := 0) (vs := [.int .i64 a, .int .i64 b]) rfl (by kernel_rfl)))
        refine (OPW.call (k := 24) rfl (by kernel_rfl) (by kernel_rfl) (by kernel_rfl) (same_T _ _ _ _ _ hy1 hy2 (fund_le hb5)) ?_)
        rintro e102 w102 ⟨rfl, hb102⟩
        refine ⟨_, rfl, ?_⟩
        have hO102 := hO99.below hb102 (Nat.le_refl _)
        have hS102 := hS99.below (Nat.le_refl _) hb102
        have hq103 := hq100.below (Nat.le_refl _) hb102
        have hT104 : Sep w1.drew.drew.heap.size [] w1.drew.drew w102 := hT101.below (Nat.le_refl _) hb102
        refine ⟨hT104, ?_⟩
        refine ED.take (k := 25) 11 (.bool true) rfl rfl (by kernel_rfl) (by kernel_rfl) (by kernel_rfl) (by kernel_rfl) (fun _ _ _ h => h) (YI.val (by kernel_rfl) (fun _ _ => (by kernel_rfl))) hT104 ?_
        refine ED.all [12] (by kernel_rfl) (by simp) ?_
        refine EDo.cons rfl ?_ EDo.nil
        refine (OPW.call (k := 26) rfl (by kernel_rfl) (by kernel_rfl) (by kernel_rfl) (awake14 _) ?_)
        rintro e105 w105 ⟨rfl, hb105⟩
        refine ⟨_, rfl, ?_⟩
        have hO105 := hO102.below hb105 (Nat.le_refl _)
        have hS105 := hS102.below (Nat.le_refl _) hb105
        have hq106 := hq103.below (Nat.le_refl _) hb105
        have hT107 : Sep w1.drew.drew.heap.size [] w1.drew.drew w105 := hT104.below (Nat.le_refl _) hb105
        refine ⟨hT107, ?_⟩
        refine ED.take (k := 27) 13 (.bool true) rfl rfl (by kernel_rfl) (by kernel_rfl) (by kernel_rfl) (by kernel_rfl) (fun _ _ _ h => h) (YI.val (by kernel_rfl) (fun _ _ => (by kernel_rfl))) hT107 ?_
        refine ED.take (k := 2) 14 (.bool true) rfl rfl (by kernel_rfl) (by kernel_rfl) (by kernel_rfl) (by kernel_rfl) (fun _ _ _ h => h) (YI.val (by kernel_rfl) (fun _ _ => (by kernel_rfl))) hT107 ?_
        refine ED.done (by kernel_rfl) ?_
        refine thenN ?_
        refine CW.ret ?_
        refine bp_ret (v := .bool true) (by kernel_rfl) ?_
        exact ⟨rfl, hS105.toBelow⟩
      exact EDo.nil
    exact EDo.nil
end Go.Proofs.Ythhgfcfcgbjleaa
