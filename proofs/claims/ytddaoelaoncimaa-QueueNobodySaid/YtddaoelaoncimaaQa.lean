/- The example of chapter 24. -/
import Derived.Test.YtddaoelaoncimaaQp
namespace Go.Proofs.Ytddaoelaoncimaa
open Go.RowKit
set_option maxRecDepth 100000
set_option linter.unusedSimpArgs false
set_option linter.unusedVariables false
theorem own_one {w : World} {g : Nat} {cs : List Value} {t : TypeId} (h : w.heap[g]? = some (.cells cs.toArray t (0, 0))) : Own w [(g, cs, t)] := ⟨by simpa using h, by simp⟩
theorem sep_over {n : Nat} {w0 w w' : World} {q : Nat} (h : Sep n [] w0 w) (h1 : Sep w.heap.size [q] w w') (hq : n ≤ q) (hn : n ≤ w.heap.size) : Sep n [] w0 w' :=
  h.trans ⟨h1.os, h1.tape, h1.output, h1.size, fun k hk _ => h1.block k (by omega) (by simp; omega)⟩
def QT : TypeId := 84
theorem len64_1 (w : World) : Calls Try.prog 82 #[.int .u64 1] w fun e w' => e = .returned (.int .i64 1) ∧ Below w.heap.size w w' := by
  have hO := own_nil w
  have hS := Sep.refl w.heap.size [] w
  refine calls_L Try.func82 rfl 25 [(0, .int .u64 1)] (by kernel_rfl) ?_
  refine CW.seq ?_
  refine CW.region ?_
  refine EL.op (OPW.val (k := 2) (.int .i64 0) rfl (by kernel_rfl) (by kernel_rfl) (by kernel_rfl) ?_)
  refine EL.nil ?_
  refine thenN ?_
  refine CW.seq ?_
  refine CW.seq ?_
  refine CW.region ?_
  refine EL.op (OPW.val (k := 3) (.int .u64 1) rfl (by kernel_rfl) (by kernel_rfl) (by kernel_rfl) ?_)
  refine EL.op (OPW.val (k := 4) (.bool false) rfl (by kernel_rfl) (by kernel_rfl) (by kernel_rfl) ?_)
  refine EL.nil ?_
  refine thenN ?_
  refine CW.condF (by kernel_rfl) ?_
  refine CW.skip ?_
  refine thenN ?_
  refine CW.seq ?_
  refine CW.seq ?_
  refine CW.region ?_
  refine EL.op (OPW.val (k := 7) (.int .u64 1) rfl (by kernel_rfl) (by kernel_rfl) (by kernel_rfl) ?_)
  refine EL.op (OPW.val (k := 8) (.bool false) rfl (by kernel_rfl) (by kernel_rfl) (by kernel_rfl) ?_)
  refine EL.nil ?_
  refine thenN ?_
  refine CW.condF (by kernel_rfl) ?_
  refine CW.skip ?_
  refine thenN ?_
  refine CW.seq ?_
  refine CW.seq ?_
  refine CW.region ?_
  refine EL.op (OPW.val (k := 13) (.int .u64 1) rfl (by kernel_rfl) (by kernel_rfl) (by kernel_rfl) ?_)
  refine EL.op (OPW.val (k := 14) (.bool false) rfl (by kernel_rfl) (by kernel_rfl) (by kernel_rfl) ?_)
  refine EL.nil ?_
  refine thenN ?_
  refine CW.condF (by kernel_rfl) ?_
  refine CW.skip ?_
  refine thenN ?_
  refine CW.seq ?_
  refine CW.region ?_
  refine EL.op (OPW.val (k := 19) (.int .i64 0) rfl (by kernel_rfl) (by kernel_rfl) (by kernel_rfl) ?_)
  refine EL.op (OPW.val (k := 20) (.int .u64 1) rfl (by kernel_rfl) (by kernel_rfl) (by kernel_rfl) ?_)
  refine EL.op (OPW.val (k := 21) (.int .u8 1) rfl (by kernel_rfl) (by kernel_rfl) (by kernel_rfl) ?_)
  refine EL.op (OPW.val (k := 22) (.int .u8 1) rfl (by kernel_rfl) (by kernel_rfl) (by kernel_rfl) ?_)
  refine EL.op (OPW.val (k := 23) (.int .i64 1) rfl (by kernel_rfl) (by kernel_rfl) (by kernel_rfl) ?_)
  refine EL.op (OPW.val (k := 24) (.int .i64 1) rfl (by kernel_rfl) (by kernel_rfl) (by kernel_rfl) ?_)
  refine EL.op (OPW.val (k := 2) (.int .i64 1) rfl (by kernel_rfl) (by kernel_rfl) (by kernel_rfl) ?_)
  refine EL.nil ?_
  refine thenN ?_
  refine CW.ret ?_
  refine bp_ret (v := .int .i64 1) (by kernel_rfl) ?_
  exact ⟨rfl, hS.toBelow⟩
theorem len_1 (w : World) : Calls Try.prog 70 #[.int .u64 1] w fun e w' => e = .returned (.int .i64 1) ∧ Below w.heap.size w w' := by
  have hO := own_nil w
  have hS := Sep.refl w.heap.size [] w
  refine calls_L Try.func70 rfl 8 [(0, .int .u64 1)] (by kernel_rfl) ?_
  refine CW.seq ?_
  refine CW.region ?_
  refine EL.op (OPW.val (k := 2) (.int .i64 0) rfl (by kernel_rfl) (by kernel_rfl) (by kernel_rfl) ?_)
  refine EL.nil ?_
  refine thenN ?_
  refine CW.seq ?_
  refine CW.condF (by kernel_rfl) ?_
  refine CW.skip ?_
  refine thenN ?_
  refine CW.seq ?_
  refine CW.region ?_
  refine EL.op (OPW.val (k := 6) (.int .u64 1) rfl (by kernel_rfl) (by kernel_rfl) (by kernel_rfl) ?_)
  refine EL.op (OPW.call (k := 7) rfl (by kernel_rfl) (by kernel_rfl) (by kernel_rfl) (len64_1 _) ?_)
  rintro e1 w1 ⟨rfl, hb1⟩
  refine ⟨_, rfl, ?_⟩
  have hO1 := hO.below hb1 (Nat.le_refl _)
  have hS1 := hS.below (Nat.le_refl _) hb1
  refine EL.op (OPW.val (k := 2) (.int .i64 1) rfl (by kernel_rfl) (by kernel_rfl) (by kernel_rfl) ?_)
  refine EL.nil ?_
  refine thenN ?_
  refine CW.ret ?_
  refine bp_ret (v := .int .i64 1) (by kernel_rfl) ?_
  exact ⟨rfl, hS1.toBelow⟩
theorem ins_1 (A : Option Addr) (c : Nat) (f : Value) (w : World) : Calls Try.prog 73 #[.slice A 1 c, .int .i64 0, .int .i64 1, f] w fun e w' => e = .returned (.tuple #[]) ∧ Below w.heap.size w w' := by
  have hO := own_nil w
  have hS := Sep.refl w.heap.size [] w
  refine calls_L Try.func73 rfl 53 [(0, .slice A 1 c), (1, .int .i64 0), (2, .int .i64 1), (3, f)] (by kernel_rfl) ?_
  refine CW.seq ?_
  refine CW.region ?_
  refine EL.op (OPW.val (k := 10) (.int .i64 0) rfl (by kernel_rfl) (by kernel_rfl) (by kernel_rfl) ?_)
  refine EL.op (OPW.val (k := 11) (.int .i64 1) rfl (by kernel_rfl) (by kernel_rfl) (by kernel_rfl) ?_)
  refine EL.op (OPW.val (k := 8) (.int .i64 1) rfl (by kernel_rfl) (by kernel_rfl) (by kernel_rfl) ?_)
  refine EL.nil ?_
  refine thenN ?_
  refine CW.block ?_
  refine CW.rounds 1 ?_
  refine CW.seq ?_
  refine CW.seq ?_
  refine CW.region ?_
  refine EL.op (OPW.val (k := 12) (.int .i64 1) rfl (by kernel_rfl) (by kernel_rfl) (by kernel_rfl) ?_)
  refine EL.op (OPW.val (k := 13) (.int .i64 1) rfl (by kernel_rfl) (by kernel_rfl) (by kernel_rfl) ?_)
  refine EL.op (OPW.val (k := 14) (.bool false) rfl (by kernel_rfl) (by kernel_rfl) (by kernel_rfl) ?_)
  refine EL.nil ?_
  refine thenN ?_
  refine CW.condF (by kernel_rfl) ?_
  refine CW.exit ?_
  refine thenE ?_
  refine thenE ?_
  refine blockE ?_
  refine bp_norm (v := .tuple #[]) (by kernel_rfl) ?_
  exact ⟨rfl, hS.toBelow⟩
theorem pdq_1 (A : Option Addr) (c : Nat) (f : Value) (w : World) : Calls Try.prog 69 #[.slice A 1 c, .int .i64 0, .int .i64 1, .int .i64 1, f] w fun e w' => e = .returned (.tuple #[]) ∧ Below w.heap.size w w' := by
  have hO := own_nil w
  have hS := Sep.refl w.heap.size [] w
  refine calls_L Try.func69 rfl 148 [(0, .slice A 1 c), (1, .int .i64 0), (2, .int .i64 1), (3, .int .i64 1), (4, f)] (by kernel_rfl) ?_
  refine CW.seq ?_
  refine CW.region ?_
  refine EL.op (OPW.val (k := 10) (.bool true) rfl (by kernel_rfl) (by kernel_rfl) (by kernel_rfl) ?_)
  refine EL.nil ?_
  refine thenN ?_
  refine CW.seq ?_
  refine CW.region ?_
  refine EL.op (OPW.val (k := 11) (.bool true) rfl (by kernel_rfl) (by kernel_rfl) (by kernel_rfl) ?_)
  refine EL.nil ?_
  refine thenN ?_
  refine CW.block ?_
  refine CW.rounds 1 ?_
  refine CW.block ?_
  refine CW.seq ?_
  refine CW.region ?_
  refine EL.op (OPW.val (k := 21) (.int .i64 1) rfl (by kernel_rfl) (by kernel_rfl) (by kernel_rfl) ?_)
  refine EL.op (OPW.val (k := 22) (.int .i64 0) rfl (by kernel_rfl) (by kernel_rfl) (by kernel_rfl) ?_)
  refine EL.op (OPW.val (k := 23) (.int .i64 1) rfl (by kernel_rfl) (by kernel_rfl) (by kernel_rfl) ?_)
  refine EL.op (OPW.val (k := 12) (.int .i64 1) rfl (by kernel_rfl) (by kernel_rfl) (by kernel_rfl) ?_)
  refine EL.nil ?_
  refine thenN ?_
  refine CW.seq ?_
  refine CW.seq ?_
  refine CW.region ?_
  refine EL.op (OPW.val (k := 24) (.int .i64 1) rfl (by kernel_rfl) (by kernel_rfl) (by kernel_rfl) ?_)
  refine EL.op (OPW.val (k := 25) (.bool true) rfl (by kernel_rfl) (by kernel_rfl) (by kernel_rfl) ?_)
  refine EL.nil ?_
  refine thenN ?_
  refine CW.condT (by kernel_rfl) ?_
  refine CW.seq ?_
  refine CW.region ?_
  refine EL.op (OPW.val (k := 26) (.slice A 1 c) rfl (by kernel_rfl) (by kernel_rfl) (by kernel_rfl) ?_)
  refine EL.op (OPW.val (k := 27) (.int .i64 0) rfl (by kernel_rfl) (by kernel_rfl) (by kernel_rfl) ?_)
  refine EL.op (OPW.val (k := 28) (.int .i64 1) rfl (by kernel_rfl) (by kernel_rfl) (by kernel_rfl) ?_)
  refine EL.op (OPW.val (k := 29) (f) rfl (by kernel_rfl) (by kernel_rfl) (by kernel_rfl) ?_)
  refine EL.op (OPW.call (k := 30) rfl (by kernel_rfl) (by kernel_rfl) (by kernel_rfl) (ins_1 A c f _) ?_)
  rintro e1 w1 ⟨rfl, hb1⟩
  refine ⟨_, rfl, ?_⟩
  have hO1 := hO.below hb1 (Nat.le_refl _)
  have hS1 := hS.below (Nat.le_refl _) hb1
  refine EL.nil ?_
  refine thenN ?_
  refine CW.ret ?_
  refine thenR ?_
  refine blockR ?_
  refine thenR ?_
  refine blockR ?_
  refine bp_ret (v := .tuple #[]) (by kernel_rfl) ?_
  exact ⟨rfl, hS1.toBelow⟩
theorem sort_1 (A : Option Addr) (c : Nat) (f : Value) (w : World) : Calls Try.prog 58 #[.slice A 1 c, f] w fun e w' => e = .returned (.tuple #[]) ∧ Below w.heap.size w w' := by
  have hO := own_nil w
  have hS := Sep.refl w.heap.size [] w
  refine calls_L Try.func58 rfl 14 [(0, .slice A 1 c), (1, f)] (by kernel_rfl) ?_
  refine CW.seq ?_
  refine CW.region ?_
  refine EL.op (OPW.val (k := 5) (.slice A 1 c) rfl (by kernel_rfl) (by kernel_rfl) (by kernel_rfl) ?_)
  refine EL.op (OPW.val (k := 6) (.int .i64 1) rfl (by kernel_rfl) (by kernel_rfl) (by kernel_rfl) ?_)
  refine EL.op (OPW.val (k := 4) (.int .i64 1) rfl (by kernel_rfl) (by kernel_rfl) (by kernel_rfl) ?_)
  refine EL.nil ?_
  refine thenN ?_
  refine CW.region ?_
  refine EL.op (OPW.val (k := 7) (.slice A 1 c) rfl (by kernel_rfl) (by kernel_rfl) (by kernel_rfl) ?_)
  refine EL.op (OPW.val (k := 8) (.int .i64 1) rfl (by kernel_rfl) (by kernel_rfl) (by kernel_rfl) ?_)
  refine EL.op (OPW.val (k := 9) (.int .i64 1) rfl (by kernel_rfl) (by kernel_rfl) (by kernel_rfl) ?_)
  refine EL.op (OPW.val (k := 10) (.int .u64 1) rfl (by kernel_rfl) (by kernel_rfl) (by kernel_rfl) ?_)
  refine EL.op (OPW.call (k := 11) rfl (by kernel_rfl) (by kernel_rfl) (by kernel_rfl) (len_1 _) ?_)
  rintro e1 w1 ⟨rfl, hb1⟩
  refine ⟨_, rfl, ?_⟩
  have hO1 := hO.below hb1 (Nat.le_refl _)
  have hS1 := hS.below (Nat.le_refl _) hb1
  refine EL.op (OPW.val (k := 12) (f) rfl (by kernel_rfl) (by kernel_rfl) (by kernel_rfl) ?_)
  refine EL.op (OPW.call (k := 13) rfl (by kernel_rfl) (by kernel_rfl) (by kernel_rfl) (pdq_1 A c f _) ?_)
  rintro e2 w2 ⟨rfl, hb2⟩
  refine ⟨_, rfl, ?_⟩
  have hO2 := hO1.below hb2 (Nat.le_refl _)
  have hS2 := hS1.below (Nat.le_refl _) hb2
  refine EL.nil ?_
  refine bp_norm (v := .tuple #[]) (by kernel_rfl) ?_
  exact ⟨rfl, hS2.toBelow⟩
theorem at1_ (a b c d id : Int) (p : Nat) (w : World) (hO : Own w [(p, [.int .i64 id], 3)]) : Calls Try.prog 68 #[.agg #[.int .i64 a, .int .i64 b, .int .i64 c, .int .i64 d], .pointer (some ⟨p, 0, none⟩)] w fun e w' => e = .returned (.bool (a == id)) ∧ Below w.heap.size w w' := by
  have hS := Sep.refl w.heap.size [] w
  refine calls_L Try.func68 rfl 8 [(0, .agg #[.int .i64 a, .int .i64 b, .int .i64 c, .int .i64 d]), (1, .pointer (some ⟨p, 0, none⟩))] (by kernel_rfl) ?_
  refine CW.seq ?_
  refine CW.region ?_
  refine EL.op (OPW.new (k := 2) (ob := cellsO [.int .i64 a, .int .i64 b, .int .i64 c, .int .i64 d] 63) mkP rfl (by kernel_rfl) (by kernel_rfl) (by kernel_rfl) ?_)
  intro g1 w1 hg1 hw1
  have hO1 : Own w1 [(g1, [.int .i64 a, .int .i64 b, .int .i64 c, .int .i64 d], 63), (p, [.int .i64 id], 3)] := (hO.alloc hg1 hw1).norm (by kernel_rfl)
  have hS1 := hS.alloc (Nat.le_refl _) hw1
  have hn1 : w.heap.size ≤ g1 := hg1 ▸ hS.size
  refine EL.op (OPW.val (k := 3) (.bool false) rfl (by kernel_rfl) (by kernel_rfl) (by kernel_rfl) ?_)
  refine EL.nil ?_
  refine thenN ?_
  refine CW.seq ?_
  refine CW.region ?_
  refine EL.op (OPW.val (k := 4) (.pointer (some ⟨g1, 0, none⟩)) rfl (by kernel_rfl) (by kernel_rfl) (by kernel_rfl) ?_)
  refine EL.op (OPW.val (k := 5) (.int .i64 a) rfl (by kernel_rfl) (by kernel_rfl) (load1 (b := g1) (i := 0) rfl (by kernel_rfl) (by kernel_rfl) (hO1.cell 0 rfl (by kernel_rfl))) ?_)
  refine EL.op (OPW.val (k := 6) (.int .i64 id) rfl (by kernel_rfl) (by kernel_rfl) (load1 (b := p) (i := 0) rfl (by kernel_rfl) (by kernel_rfl) (hO1.cell 1 rfl (by kernel_rfl))) ?_)
  refine EL.op (OPW.bool (k := 7) (a == id) rfl (by kernel_rfl) (by kernel_rfl) (by kernel_rfl) ?_)
  intro b2 hb2
  refine EL.op (OPW.val (k := 3) (.bool b2) rfl (by kernel_rfl) (by kernel_rfl) (by kernel_rfl) ?_)
  refine EL.nil ?_
  refine thenN ?_
  refine CW.ret ?_
  refine bp_ret (v := .bool b2) (by kernel_rfl) ?_
  exact ⟨by rw [hb2], hS1.toBelow⟩
theorem idx_0 (id : Int) (p : Nat) (w : World) (hO : Own w [(p, [.int .i64 id], 3)]) : Calls Try.prog 67 #[.slice none 0 0, .func (.func 68) #[] #[.pointer (some ⟨p, 0, none⟩)]] w fun e w' => e = .returned (.int .i64 (-1)) ∧ Below w.heap.size w w' := by
  have hS := Sep.refl w.heap.size [] w
  refine calls_L Try.func67 rfl 19 [(0, .slice none 0 0), (1, .func (.func 68) #[] #[.pointer (some ⟨p, 0, none⟩)])] (by kernel_rfl) ?_
  refine CW.seq ?_
  refine CW.region ?_
  refine EL.op (OPW.val (k := 4) (.int .i64 0) rfl (by kernel_rfl) (by kernel_rfl) (by kernel_rfl) ?_)
  refine EL.nil ?_
  refine thenN ?_
  refine CW.seq ?_
  refine CW.seq ?_
  refine CW.region ?_
  refine EL.op (OPW.val (k := 6) (.slice none 0 0) rfl (by kernel_rfl) (by kernel_rfl) (by kernel_rfl) ?_)
  refine EL.op (OPW.val (k := 7) (.int .i64 0) rfl (by kernel_rfl) (by kernel_rfl) (by kernel_rfl) ?_)
  refine EL.op (OPW.val (k := 8) (.int .i64 0) rfl (by kernel_rfl) (by kernel_rfl) (by kernel_rfl) ?_)
  refine EL.nil ?_
  refine thenN ?_
  refine CW.block ?_
  refine CW.rounds 1 ?_
  refine CW.seq ?_
  refine CW.region ?_
  refine EL.op (OPW.val (k := 9) (.bool false) rfl (by kernel_rfl) (by kernel_rfl) (by kernel_rfl) ?_)
  refine EL.nil ?_
  refine thenN ?_
  refine CW.seq ?_
  refine CW.condF (by kernel_rfl) ?_
  refine CW.exit ?_
  refine thenE ?_
  refine thenE ?_
  refine blockE ?_
  refine thenN ?_
  refine CW.seq ?_
  refine CW.region ?_
  refine EL.op (OPW.val (k := 4) (.int .i64 (-1)) rfl (by kernel_rfl) (by kernel_rfl) (by kernel_rfl) ?_)
  refine EL.nil ?_
  refine thenN ?_
  refine CW.ret ?_
  refine bp_ret (v := .int .i64 (-1)) (by kernel_rfl) ?_
  exact ⟨rfl, hS.toBelow⟩
theorem idx_1 (g c : Nat) (id : Int) (p : Nat) (hid : ((5 : Int) == id) = false) (w : World) (hO : Own w [(p, [.int .i64 id], 3)]) (hr : w.rangeAt g 0 [.int .i64 5, .int .i64 0, .int .i64 0, .int .i64 (-1)]) (hx : g < w.heap.size) :
    Calls Try.prog 67 #[.slice (some ⟨g, 0, none⟩) 1 c, .func (.func 68) #[] #[.pointer (some ⟨p, 0, none⟩)]] w fun e w' => e = .returned (.int .i64 (-1)) ∧ Below w.heap.size w w' := by
  have hS := Sep.refl w.heap.size [] w
  refine calls_L Try.func67 rfl 19 [(0, .slice (some ⟨g, 0, none⟩) 1 c), (1, .func (.func 68) #[] #[.pointer (some ⟨p, 0, none⟩)])] (by kernel_rfl) ?_
  refine CW.seq ?_
  refine CW.region ?_
  refine EL.op (OPW.val (k := 4) (.int .i64 0) rfl (by kernel_rfl) (by kernel_rfl) (by kernel_rfl) ?_)
  refine EL.nil ?_
  refine thenN ?_
  refine CW.seq ?_
  refine CW.seq ?_
  refine CW.region ?_
  refine EL.op (OPW.val (k := 6) (.slice (some ⟨g, 0, none⟩) 1 c) rfl (by kernel_rfl) (by kernel_rfl) (by kernel_rfl) ?_)
  refine EL.op (OPW.val (k := 7) (.int .i64 1) rfl (by kernel_rfl) (by kernel_rfl) (by kernel_rfl) ?_)
  refine EL.op (OPW.val (k := 8) (.int .i64 0) rfl (by kernel_rfl) (by kernel_rfl) (by kernel_rfl) ?_)
  refine EL.nil ?_
  refine thenN ?_
  refine CW.block ?_
  refine CW.rounds 1 ?_
  refine CW.seq ?_
  refine CW.region ?_
  refine EL.op (OPW.val (k := 9) (.bool true) rfl (by kernel_rfl) (by kernel_rfl) (by kernel_rfl) ?_)
  refine EL.nil ?_
  refine thenN ?_
  refine CW.seq ?_
  refine CW.condT (by kernel_rfl) ?_
  refine CW.skip ?_
  refine thenN ?_
  refine CW.seq ?_
  refine CW.block ?_
  refine CW.seq ?_
  refine CW.region ?_
  refine EL.op (OPW.val (k := 10) (.int .i64 0) rfl (by kernel_rfl) (by kernel_rfl) (by kernel_rfl) ?_)
  refine EL.op (OPW.val (k := 5) (.int .i64 0) rfl (by kernel_rfl) (by kernel_rfl) (by kernel_rfl) ?_)
  refine EL.nil ?_
  refine thenN ?_
  refine CW.seq ?_
  refine CW.region ?_
  refine EL.op (OPW.val (k := 11) (.func (.func 68) #[] #[.pointer (some ⟨p, 0, none⟩)]) rfl (by kernel_rfl) (by kernel_rfl) (by kernel_rfl) ?_)
  refine EL.op (OPW.val (k := 12) (.slice (some ⟨g, 0, none⟩) 1 c) rfl (by kernel_rfl) (by kernel_rfl) (by kernel_rfl) ?_)
  refine EL.op (OPW.val (k := 13) (.int .i64 0) rfl (by kernel_rfl) (by kernel_rfl) (by kernel_rfl) ?_)
  refine EL.op (OPW.val (k := 14) (.pointer (some ⟨g, 0, none⟩)) rfl (by kernel_rfl) (by kernel_rfl) (by kernel_rfl) ?_)
  refine EL.op (OPW.val (k := 15) (.agg #[.int .i64 5, .int .i64 0, .int .i64 0, .int .i64 (-1)]) rfl (by kernel_rfl) (by kernel_rfl) (loadN (b := g) (i := 0) rfl (by kernel_rfl) (by kernel_rfl) (by kernel_rfl) (hS.range hx (by simp) (rng_sub hr 0 (vs := [.int .i64 5, .int .i64 0, .int .i64 0, .int .i64 (-1)]) (by kernel_rfl)))) ?_)
  refine EL.op (OPW.call (k := 16) rfl (by kernel_rfl) (by kernel_rfl) (by kernel_rfl) (at1_ 5 0 0 (-1) id p _ hO) ?_)
  rintro e1 w1 ⟨rfl, hb1⟩
  refine ⟨_, rfl, ?_⟩
  have hO1 := hO.below hb1 (Nat.le_refl _)
  have hS1 := hS.below (Nat.le_refl _) hb1
  refine EL.nil ?_
  refine thenN ?_
  refine CW.cond ((5 : Int) == id) (by kernel_rfl) (fun hc4 => ?_) (fun hc4 => ?_)
  · exact absurd ((hid).symm.trans hc4) (by decide)
  refine CW.skip ?_
  refine blockN ?_
  refine thenN ?_
  refine CW.region ?_
  refine EL.op (OPW.val (k := 18) (.int .i64 1) rfl (by kernel_rfl) (by kernel_rfl) (by kernel_rfl) ?_)
  refine EL.op (OPW.val (k := 8) (.int .i64 1) rfl (by kernel_rfl) (by kernel_rfl) (by kernel_rfl) ?_)
  refine EL.nil ?_
  refine roundN ?_
  refine CW.seq ?_
  refine CW.region ?_
  refine EL.op (OPW.val (k := 9) (.bool false) rfl (by kernel_rfl) (by kernel_rfl) (by kernel_rfl) ?_)
  refine EL.nil ?_
  refine thenN ?_
  refine CW.seq ?_
  refine CW.condF (by kernel_rfl) ?_
  refine CW.exit ?_
  refine thenE ?_
  refine thenE ?_
  refine blockE ?_
  refine thenN ?_
  refine CW.seq ?_
  refine CW.region ?_
  refine EL.op (OPW.val (k := 4) (.int .i64 (-1)) rfl (by kernel_rfl) (by kernel_rfl) (by kernel_rfl) ?_)
  refine EL.nil ?_
  refine thenN ?_
  refine CW.ret ?_
  refine bp_ret (v := .int .i64 (-1)) (by kernel_rfl) ?_
  exact ⟨rfl, hS1.toBelow⟩
theorem at_0 (id : Int) (q : Nat) (w : World) (hO : Own w [(q, [.slice none 0 0, .int .i64 1], 84)]) : Calls Try.prog 57 #[.pointer (some ⟨q, 0, none⟩), .int .i64 id] w fun e w' => e = .returned (.int .i64 (-1)) ∧ Below w.heap.size w w' := by
  have hS := Sep.refl w.heap.size [] w
  refine calls_L Try.func57 rfl 11 [(0, .pointer (some ⟨q, 0, none⟩)), (1, .int .i64 id)] (by kernel_rfl) ?_
  refine CW.seq ?_
  refine CW.region ?_
  refine EL.op (OPW.new (k := 3) (ob := cellsO [.int .i64 id] 3) mkP rfl (by kernel_rfl) (by kernel_rfl) (by kernel_rfl) ?_)
  intro g1 w1 hg1 hw1
  have hO1 : Own w1 [(g1, [.int .i64 id], 3), (q, [.slice none 0 0, .int .i64 1], 84)] := (hO.alloc hg1 hw1).norm (by kernel_rfl)
  have hS1 := hS.alloc (Nat.le_refl _) hw1
  have hn1 : w.heap.size ≤ g1 := hg1 ▸ hS.size
  refine EL.op (OPW.val (k := 4) (.int .i64 0) rfl (by kernel_rfl) (by kernel_rfl) (by kernel_rfl) ?_)
  refine EL.nil ?_
  refine thenN ?_
  refine CW.seq ?_
  refine CW.region ?_
  refine EL.op (OPW.val (k := 5) (.pointer (some ⟨q, 0, none⟩)) rfl (by kernel_rfl) (by kernel_rfl) (by kernel_rfl) ?_)
  refine EL.op (OPW.val (k := 6) (.pointer (some ⟨q, 0, none⟩)) rfl (by kernel_rfl) (by kernel_rfl) (by kernel_rfl) ?_)
  refine EL.op (OPW.val (k := 7) (.pointer (some ⟨q, 0, none⟩)) rfl (by kernel_rfl) (by kernel_rfl) (by kernel_rfl) ?_)
  refine EL.op (OPW.val (k := 8) (.slice none 0 0) rfl (by kernel_rfl) (by kernel_rfl) (load1 (b := q) (i := 0) rfl (by kernel_rfl) (by kernel_rfl) (hO1.cell 1 rfl (by kernel_rfl))) ?_)
  refine EL.op (OPW.val (k := 9) (.func (.func 68) #[] #[.pointer (some ⟨g1, 0, none⟩)]) rfl (by kernel_rfl) (by kernel_rfl) (by kernel_rfl) ?_)
  refine EL.op (OPW.call (k := 10) rfl (by kernel_rfl) (by kernel_rfl) (by kernel_rfl) (idx_0 id g1 _ (own_one (hO1.at 0 rfl))) ?_)
  rintro e2 w2 ⟨rfl, hb2⟩
  refine ⟨_, rfl, ?_⟩
  have hO2 := hO1.below hb2 (Nat.le_refl _)
  have hS2 := hS1.below (Nat.le_refl _) hb2
  refine EL.op (OPW.val (k := 4) (.int .i64 (-1)) rfl (by kernel_rfl) (by kernel_rfl) (by kernel_rfl) ?_)
  refine EL.nil ?_
  refine thenN ?_
  refine CW.ret ?_
  refine bp_ret (v := .int .i64 (-1)) (by kernel_rfl) ?_
  exact ⟨rfl, hS2.toBelow⟩
theorem full_0 (q : Nat) (w : World) (hO : Own w [(q, [.slice none 0 0, .int .i64 1], 84)]) : Calls Try.prog 36 #[.pointer (some ⟨q, 0, none⟩)] w fun e w' => e = .returned (.bool false) ∧ Below w.heap.size w w' := by
  have hS := Sep.refl w.heap.size [] w
  refine calls_L Try.func36 rfl 17 [(0, .pointer (some ⟨q, 0, none⟩))] (by kernel_rfl) ?_
  refine CW.seq ?_
  refine CW.region ?_
  refine EL.op (OPW.val (k := 2) (.bool false) rfl (by kernel_rfl) (by kernel_rfl) (by kernel_rfl) ?_)
  refine EL.nil ?_
  refine thenN ?_
  refine CW.seq ?_
  refine ED.start (fun w' => Sep w.drew.heap.size [] w.drew w') (by kernel_rfl) ?_
  rintro _ rfl
  have hO2 := hO.drew
  have hS3 := hS.drew
  have hT1 : Sep w.drew.heap.size [] w.drew w.drew := .refl _ _ _
  refine ED.take (k := 3) 0 (.pointer (some ⟨q, 0, none⟩)) rfl rfl (by kernel_rfl) (by kernel_rfl) (by kernel_rfl) (by kernel_rfl) (fun _ _ _ h => h) (YI.val (by kernel_rfl) (fun _ _ => (by kernel_rfl))) hT1 ?_
  refine ED.take (k := 4) 1 (.bool false) rfl rfl (by kernel_rfl) (by kernel_rfl) (by kernel_rfl) (by kernel_rfl) (fun _ _ _ h => h) (YI.val (by kernel_rfl) (fun _ _ => (by kernel_rfl))) hT1 ?_
  refine ED.take (k := 5) 2 (.bool false) rfl rfl (by kernel_rfl) (by kernel_rfl) (by kernel_rfl) (by kernel_rfl) (fun _ _ _ h => h) (YI.val (by kernel_rfl) (fun _ _ => (by kernel_rfl))) hT1 ?_
  refine ED.take (k := 6) 3 (.pointer (some ⟨q, 0, none⟩)) rfl rfl (by kernel_rfl) (by kernel_rfl) (by kernel_rfl) (by kernel_rfl) (fun _ _ _ h => h) (YI.val (by kernel_rfl) (fun _ _ => (by kernel_rfl))) hT1 ?_
  refine ED.take (k := 7) 4 (.pointer (some ⟨q, 0, none⟩)) rfl rfl (by kernel_rfl) (by kernel_rfl) (by kernel_rfl) (by kernel_rfl) (fun _ _ _ h => h) (YI.val (by kernel_rfl) (fun _ _ => (by kernel_rfl))) hT1 ?_
  refine ED.take (k := 8) 5 (.pointer (some ⟨q, 0, none⟩)) rfl rfl (by kernel_rfl) (by kernel_rfl) (by kernel_rfl) (by kernel_rfl) (fun _ _ _ h => h) (YI.val (by kernel_rfl) (fun _ _ => (by kernel_rfl))) hT1 ?_
  refine ED.take (k := 9) 6 (.slice none 0 0) rfl rfl (by kernel_rfl) (by kernel_rfl) (by kernel_rfl) (by kernel_rfl) (fun _ _ _ h => h) (YI.val (by kernel_rfl) (fun _ hS' => load1 (b := q) (i := 0) rfl (by kernel_rfl) (by kernel_rfl) (hS'.cell (hO2.lt 0 rfl) (by simp) (hO2.cell 0 rfl (by kernel_rfl))))) hT1 ?_
  refine ED.take (k := 10) 7 (.int .i64 0) rfl rfl (by kernel_rfl) (by kernel_rfl) (by kernel_rfl) (by kernel_rfl) (fun _ _ _ h => h) (YI.val (by kernel_rfl) (fun _ _ => (by kernel_rfl))) hT1 ?_
  refine ED.take (k := 11) 8 (.pointer (some ⟨q, 0, none⟩)) rfl rfl (by kernel_rfl) (by kernel_rfl) (by kernel_rfl) (by kernel_rfl) (fun _ _ _ h => h) (YI.val (by kernel_rfl) (fun _ _ => (by kernel_rfl))) hT1 ?_
  refine ED.take (k := 12) 9 (.pointer (some ⟨q, 0, none⟩)) rfl rfl (by kernel_rfl) (by kernel_rfl) (by kernel_rfl) (by kernel_rfl) (fun _ _ _ h => h) (YI.val (by kernel_rfl) (fun _ _ => (by kernel_rfl))) hT1 ?_
  refine ED.take (k := 13) 10 (.pointer (some ⟨q, 1, none⟩)) rfl rfl (by kernel_rfl) (by kernel_rfl) (by kernel_rfl) (by kernel_rfl) (fun _ _ _ h => h) (YI.val (by kernel_rfl) (fun _ _ => (by kernel_rfl))) hT1 ?_
  refine ED.take (k := 14) 11 (.int .i64 1) rfl rfl (by kernel_rfl) (by kernel_rfl) (by kernel_rfl) (by kernel_rfl) (fun _ _ _ h => h) (YI.val (by kernel_rfl) (fun _ hS' => load1 (b := q) (i := 1) rfl (by kernel_rfl) (by kernel_rfl) (hS'.cell (hO2.lt 0 rfl) (by simp) (hO2.cell 0 rfl (by kernel_rfl))))) hT1 ?_
  refine ED.take (k := 15) 12 (.bool false) rfl rfl (by kernel_rfl) (by kernel_rfl) (by kernel_rfl) (by kernel_rfl) (fun _ _ _ h => h) (YI.val (by kernel_rfl) (fun _ _ => (by kernel_rfl))) hT1 ?_
  refine ED.take (k := 16) 13 (.bool false) rfl rfl (by kernel_rfl) (by kernel_rfl) (by kernel_rfl) (by kernel_rfl) (fun _ _ _ h => h) (YI.val (by kernel_rfl) (fun _ _ => (by kernel_rfl))) hT1 ?_
  refine ED.take (k := 2) 14 (.bool false) rfl rfl (by kernel_rfl) (by kernel_rfl) (by kernel_rfl) (by kernel_rfl) (fun _ _ _ h => h) (YI.val (by kernel_rfl) (fun _ _ => (by kernel_rfl))) hT1 ?_
  refine ED.done (by kernel_rfl) ?_
  refine thenN ?_
  refine CW.ret ?_
  refine bp_ret (v := .bool false) (by kernel_rfl) ?_
  exact ⟨rfl, hS3.toBelow⟩
section
variable (g c : Nat) (id : Int) (hid : ((5 : Int) == id) = false) (q : Nat) (w : World) (hO : Own w [(q, [.slice (some ⟨g, 0, none⟩) 1 c, .int .i64 1], 84)])
include hO
theorem full_1 : Calls Try.prog 36 #[.pointer (some ⟨q, 0, none⟩)] w fun e w' => e = .returned (.bool true) ∧ Below w.heap.size w w' := by
  have hS := Sep.refl w.heap.size [] w
  refine calls_L Try.func36 rfl 17 [(0, .pointer (some ⟨q, 0, none⟩))] (by kernel_rfl) ?_
  refine CW.seq ?_
  refine CW.region ?_
  refine EL.op (OPW.val (k := 2) (.bool false) rfl (by kernel_rfl) (by kernel_rfl) (by kernel_rfl) ?_)
  refine EL.nil ?_
  refine thenN ?_
  refine CW.seq ?_
  refine ED.start (fun w' => Sep w.drew.heap.size [] w.drew w') (by kernel_rfl) ?_
  rintro _ rfl
  have hO2 := hO.drew
  have hS3 := hS.drew
  have hT1 : Sep w.drew.heap.size [] w.drew w.drew := .refl _ _ _
  refine ED.take (k := 3) 0 (.pointer (some ⟨q, 0, none⟩)) rfl rfl (by kernel_rfl) (by kernel_rfl) (by kernel_rfl) (by kernel_rfl) (fun _ _ _ h => h) (YI.val (by kernel_rfl) (fun _ _ => (by kernel_rfl))) hT1 ?_
  refine ED.take (k := 4) 1 (.bool false) rfl rfl (by kernel_rfl) (by kernel_rfl) (by kernel_rfl) (by kernel_rfl) (fun _ _ _ h => h) (YI.val (by kernel_rfl) (fun _ _ => (by kernel_rfl))) hT1 ?_
  refine ED.take (k := 5) 2 (.bool false) rfl rfl (by kernel_rfl) (by kernel_rfl) (by kernel_rfl) (by kernel_rfl) (fun _ _ _ h => h) (YI.val (by kernel_rfl) (fun _ _ => (by kernel_rfl))) hT1 ?_
  refine ED.take (k := 6) 3 (.pointer (some ⟨q, 0, none⟩)) rfl rfl (by kernel_rfl) (by kernel_rfl) (by kernel_rfl) (by kernel_rfl) (fun _ _ _ h => h) (YI.val (by kernel_rfl) (fun _ _ => (by kernel_rfl))) hT1 ?_
  refine ED.take (k := 7) 4 (.pointer (some ⟨q, 0, none⟩)) rfl rfl (by kernel_rfl) (by kernel_rfl) (by kernel_rfl) (by kernel_rfl) (fun _ _ _ h => h) (YI.val (by kernel_rfl) (fun _ _ => (by kernel_rfl))) hT1 ?_
  refine ED.take (k := 8) 5 (.pointer (some ⟨q, 0, none⟩)) rfl rfl (by kernel_rfl) (by kernel_rfl) (by kernel_rfl) (by kernel_rfl) (fun _ _ _ h => h) (YI.val (by kernel_rfl) (fun _ _ => (by kernel_rfl))) hT1 ?_
  refine ED.take (k := 9) 6 (.slice (some ⟨g, 0, none⟩) 1 c) rfl rfl (by kernel_rfl) (by kernel_rfl) (by kernel_rfl) (by kernel_rfl) (fun _ _ _ h => h) (YI.val (by kernel_rfl) (fun _ hS' => load1 (b := q) (i := 0) rfl (by kernel_rfl) (by kernel_rfl) (hS'.cell (hO2.lt 0 rfl) (by simp) (hO2.cell 0 rfl (by kernel_rfl))))) hT1 ?_
  refine ED.take (k := 10) 7 (.int .i64 1) rfl rfl (by kernel_rfl) (by kernel_rfl) (by kernel_rfl) (by kernel_rfl) (fun _ _ _ h => h) (YI.val (by kernel_rfl) (fun _ _ => (by kernel_rfl))) hT1 ?_
  refine ED.take (k := 11) 8 (.pointer (some ⟨q, 0, none⟩)) rfl rfl (by kernel_rfl) (by kernel_rfl) (by kernel_rfl) (by kernel_rfl) (fun _ _ _ h => h) (YI.val (by kernel_rfl) (fun _ _ => (by kernel_rfl))) hT1 ?_
  refine ED.take (k := 12) 9 (.pointer (some ⟨q, 0, none⟩)) rfl rfl (by kernel_rfl) (by kernel_rfl) (by kernel_rfl) (by kernel_rfl) (fun _ _ _ h => h) (YI.val (by kernel_rfl) (fun _ _ => (by kernel_rfl))) hT1 ?_
  refine ED.take (k := 13) 10 (.pointer (some ⟨q, 1, none⟩)) rfl rfl (by kernel_rfl) (by kernel_rfl) (by kernel_rfl) (by kernel_rfl) (fun _ _ _ h => h) (YI.val (by kernel_rfl) (fun _ _ => (by kernel_rfl))) hT1 ?_
  refine ED.take (k := 14) 11 (.int .i64 1) rfl rfl (by kernel_rfl) (by kernel_rfl) (by kernel_rfl) (by kernel_rfl) (fun _ _ _ h => h) (YI.val (by kernel_rfl) (fun _ hS' => load1 (b := q) (i := 1) rfl (by kernel_rfl) (by kernel_rfl) (hS'.cell (hO2.lt 0 rfl) (by simp) (hO2.cell 0 rfl (by kernel_rfl))))) hT1 ?_
  refine ED.take (k := 15) 12 (.bool true) rfl rfl (by kernel_rfl) (by kernel_rfl) (by kernel_rfl) (by kernel_rfl) (fun _ _ _ h => h) (YI.val (by kernel_rfl) (fun _ _ => (by kernel_rfl))) hT1 ?_
  refine ED.take (k := 16) 13 (.bool true) rfl rfl (by kernel_rfl) (by kernel_rfl) (by kernel_rfl) (by kernel_rfl) (fun _ _ _ h => h) (YI.val (by kernel_rfl) (fun _ _ => (by kernel_rfl))) hT1 ?_
  refine ED.take (k := 2) 14 (.bool true) rfl rfl (by kernel_rfl) (by kernel_rfl) (by kernel_rfl) (by kernel_rfl) (fun _ _ _ h => h) (YI.val (by kernel_rfl) (fun _ _ => (by kernel_rfl))) hT1 ?_
  refine ED.done (by kernel_rfl) ?_
  refine thenN ?_
  refine CW.ret ?_
  refine bp_ret (v := .bool true) (by kernel_rfl) ?_
  exact ⟨rfl, hS3.toBelow⟩
variable (hr : w.rangeAt g 0 [.int .i64 5, .int .i64 0, .int .i64 0, .int .i64 (-1)]) (hx : g < w.heap.size)
include hr hx
include hid in
theorem at_1 : Calls Try.prog 57 #[.pointer (some ⟨q, 0, none⟩), .int .i64 id] w fun e w' => e = .returned (.int .i64 (-1)) ∧ Below w.heap.size w w' := by
  have hS := Sep.refl w.heap.size [] w
  refine calls_L Try.func57 rfl 11 [(0, .pointer (some ⟨q, 0, none⟩)), (1, .int .i64 id)] (by kernel_rfl) ?_
  refine CW.seq ?_
  refine CW.region ?_
  refine EL.op (OPW.new (k := 3) (ob := cellsO [.int .i64 id] 3) mkP rfl (by kernel_rfl) (by kernel_rfl) (by kernel_rfl) ?_)
  intro g1 w1 hg1 hw1
  have hO1 : Own w1 [(g1, [.int .i64 id], 3), (q, [.slice (some ⟨g, 0, none⟩) 1 c, .int .i64 1], 84)] := (hO.alloc hg1 hw1).norm (by kernel_rfl)
  have hS1 := hS.alloc (Nat.le_refl _) hw1
  have hn1 : w.heap.size ≤ g1 := hg1 ▸ hS.size
  refine EL.op (OPW.val (k := 4) (.int .i64 0) rfl (by kernel_rfl) (by kernel_rfl) (by kernel_rfl) ?_)
  refine EL.nil ?_
  refine thenN ?_
  refine CW.seq ?_
  refine CW.region ?_
  refine EL.op (OPW.val (k := 5) (.pointer (some ⟨q, 0, none⟩)) rfl (by kernel_rfl) (by kernel_rfl) (by kernel_rfl) ?_)
  refine EL.op (OPW.val (k := 6) (.pointer (some ⟨q, 0, none⟩)) rfl (by kernel_rfl) (by kernel_rfl) (by kernel_rfl) ?_)
  refine EL.op (OPW.val (k := 7) (.pointer (some ⟨q, 0, none⟩)) rfl (by kernel_rfl) (by kernel_rfl) (by kernel_rfl) ?_)
  refine EL.op (OPW.val (k := 8) (.slice (some ⟨g, 0, none⟩) 1 c) rfl (by kernel_rfl) (by kernel_rfl) (load1 (b := q) (i := 0) rfl (by kernel_rfl) (by kernel_rfl) (hO1.cell 1 rfl (by kernel_rfl))) ?_)
  refine EL.op (OPW.val (k := 9) (.func (.func 68) #[] #[.pointer (some ⟨g1, 0, none⟩)]) rfl (by kernel_rfl) (by kernel_rfl) (by kernel_rfl) ?_)
  refine EL.op (OPW.call (k := 10) rfl (by kernel_rfl) (by kernel_rfl) (by kernel_rfl) (idx_1 g c id g1 hid _ (own_one (hO1.at 0 rfl)) (hS1.range hx (by simp) hr) (Nat.lt_of_lt_of_le hx hS1.size)) ?_)
  rintro e2 w2 ⟨rfl, hb2⟩
  refine ⟨_, rfl, ?_⟩
  have hO2 := hO1.below hb2 (Nat.le_refl _)
  have hS2 := hS1.below (Nat.le_refl _) hb2
  refine EL.op (OPW.val (k := 4) (.int .i64 (-1)) rfl (by kernel_rfl) (by kernel_rfl) (by kernel_rfl) ?_)
  refine EL.nil ?_
  refine thenN ?_
  refine CW.ret ?_
  refine bp_ret (v := .int .i64 (-1)) (by kernel_rfl) ?_
  exact ⟨rfl, hS2.toBelow⟩
theorem put_1 : Calls Try.prog 39 #[.pointer (some ⟨q, 0, none⟩), .int .i64 6, .int .i64 0] w fun e w' => e = .returned (.int .i64 6) ∧ Below w.heap.size w w' := by
  have hS := Sep.refl w.heap.size [] w
  refine calls_L Try.func39 rfl 43 [(0, .pointer (some ⟨q, 0, none⟩)), (1, .int .i64 6), (2, .int .i64 0)] (by kernel_rfl) ?_
  refine CW.seq ?_
  refine CW.region ?_
  refine EL.op (OPW.val (k := 6) (.int .i64 0) rfl (by kernel_rfl) (by kernel_rfl) (by kernel_rfl) ?_)
  refine EL.nil ?_
  refine thenN ?_
  refine CW.seq ?_
  refine CW.block ?_
  refine CW.seq ?_
  refine CW.region ?_
  refine EL.op (OPW.val (k := 8) (.pointer (some ⟨q, 0, none⟩)) rfl (by kernel_rfl) (by kernel_rfl) (by kernel_rfl) ?_)
  refine EL.op (OPW.val (k := 9) (.bool false) rfl (by kernel_rfl) (by kernel_rfl) (by kernel_rfl) ?_)
  refine EL.op (OPW.val (k := 10) (.bool false) rfl (by kernel_rfl) (by kernel_rfl) (by kernel_rfl) ?_)
  refine EL.op (OPW.val (k := 11) (.int .i64 0) rfl (by kernel_rfl) (by kernel_rfl) (by kernel_rfl) ?_)
  refine EL.op (OPW.val (k := 12) (.bool false) rfl (by kernel_rfl) (by kernel_rfl) (by kernel_rfl) ?_)
  refine EL.op (OPW.val (k := 13) (.bool false) rfl (by kernel_rfl) (by kernel_rfl) (by kernel_rfl) ?_)
  refine EL.op (OPW.val (k := 14) (.bool false) rfl (by kernel_rfl) (by kernel_rfl) (by kernel_rfl) ?_)
  refine EL.op (OPW.val (k := 15) (.int .i64 0) rfl (by kernel_rfl) (by kernel_rfl) (by kernel_rfl) ?_)
  refine EL.op (OPW.val (k := 16) (.bool false) rfl (by kernel_rfl) (by kernel_rfl) (by kernel_rfl) ?_)
  refine EL.op (OPW.val (k := 17) (.bool false) rfl (by kernel_rfl) (by kernel_rfl) (by kernel_rfl) ?_)
  refine EL.op (OPW.val (k := 7) (.bool false) rfl (by kernel_rfl) (by kernel_rfl) (by kernel_rfl) ?_)
  refine EL.nil ?_
  refine thenN ?_
  refine CW.condF (by kernel_rfl) ?_
  refine CW.seq ?_
  refine CW.region ?_
  refine EL.op (OPW.val (k := 19) (.pointer (some ⟨q, 0, none⟩)) rfl (by kernel_rfl) (by kernel_rfl) (by kernel_rfl) ?_)
  refine EL.op (OPW.val (k := 20) (.int .i64 6) rfl (by kernel_rfl) (by kernel_rfl) (by kernel_rfl) ?_)
  refine EL.op (OPW.call (k := 21) rfl (by kernel_rfl) (by kernel_rfl) (by kernel_rfl) (at_1 g c 6 rfl q _ hO (hS.range hx (by simp) hr) (Nat.lt_of_lt_of_le hx hS.size)) ?_)
  rintro e1 w1 ⟨rfl, hb1⟩
  refine ⟨_, rfl, ?_⟩
  have hO1 := hO.below hb1 (Nat.le_refl _)
  have hS1 := hS.below (Nat.le_refl _) hb1
  refine EL.op (OPW.val (k := 22) (.bool false) rfl (by kernel_rfl) (by kernel_rfl) (by kernel_rfl) ?_)
  refine EL.op (OPW.val (k := 18) (.bool false) rfl (by kernel_rfl) (by kernel_rfl) (by kernel_rfl) ?_)
  refine EL.nil ?_
  refine thenN ?_
  refine CW.condF (by kernel_rfl) ?_
  refine CW.seq ?_
  refine CW.region ?_
  refine EL.op (OPW.val (k := 24) (.pointer (some ⟨q, 0, none⟩)) rfl (by kernel_rfl) (by kernel_rfl) (by kernel_rfl) ?_)
  refine EL.op (OPW.call (k := 25) rfl (by kernel_rfl) (by kernel_rfl) (by kernel_rfl) (full_1 g c q _ hO1) ?_)
  rintro e2 w2 ⟨rfl, hb2⟩
  refine ⟨_, rfl, ?_⟩
  have hO2 := hO1.below hb2 (Nat.le_refl _)
  have hS2 := hS1.below (Nat.le_refl _) hb2
  refine EL.op (OPW.val (k := 23) (.bool true) rfl (by kernel_rfl) (by kernel_rfl) (by kernel_rfl) ?_)
  refine EL.nil ?_
  refine thenN ?_
  refine CW.condT (by kernel_rfl) ?_
  refine CW.seq ?_
  refine CW.region ?_
  refine EL.op (OPW.val (k := 6) (.int .i64 6) rfl (by kernel_rfl) (by kernel_rfl) (by kernel_rfl) ?_)
  refine EL.nil ?_
  refine thenN ?_
  refine CW.ret ?_
  refine blockR ?_
  refine thenR ?_
  refine bp_ret (v := .int .i64 6) (by kernel_rfl) ?_
  exact ⟨rfl, hS2.toBelow⟩
end
theorem put_0 (q : Nat) (w : World) (hO : Own w [(q, [.slice none 0 0, .int .i64 1], 84)]) : Calls Try.prog 39 #[.pointer (some ⟨q, 0, none⟩), .int .i64 5, .int .i64 0] w fun e w' => e = .returned (.int .i64 0) ∧
    ∃ g c, Own w' [(q, [.slice (some ⟨g, 0, none⟩) 1 c, .int .i64 1], 84)] ∧ w'.rangeAt g 0 [.int .i64 5, .int .i64 0, .int .i64 0, .int .i64 (-1)] ∧ g < w'.heap.size ∧ Sep w.heap.size [q] w w' := by
  have hS := Sep.refl w.heap.size [q] w
  refine calls_L Try.func39 rfl 43 [(0, .pointer (some ⟨q, 0, none⟩)), (1, .int .i64 5), (2, .int .i64 0)] (by kernel_rfl) ?_
  refine CW.seq ?_
  refine CW.region ?_
  refine EL.op (OPW.val (k := 6) (.int .i64 0) rfl (by kernel_rfl) (by kernel_rfl) (by kernel_rfl) ?_)
  refine EL.nil ?_
  refine thenN ?_
  refine CW.seq ?_
  refine CW.block ?_
  refine CW.seq ?_
  refine CW.region ?_
  refine EL.op (OPW.val (k := 8) (.pointer (some ⟨q, 0, none⟩)) rfl (by kernel_rfl) (by kernel_rfl) (by kernel_rfl) ?_)
  refine EL.op (OPW.val (k := 9) (.bool false) rfl (by kernel_rfl) (by kernel_rfl) (by kernel_rfl) ?_)
  refine EL.op (OPW.val (k := 10) (.bool false) rfl (by kernel_rfl) (by kernel_rfl) (by kernel_rfl) ?_)
  refine EL.op (OPW.val (k := 11) (.int .i64 0) rfl (by kernel_rfl) (by kernel_rfl) (by kernel_rfl) ?_)
  refine EL.op (OPW.val (k := 12) (.bool false) rfl (by kernel_rfl) (by kernel_rfl) (by kernel_rfl) ?_)
  refine EL.op (OPW.val (k := 13) (.bool false) rfl (by kernel_rfl) (by kernel_rfl) (by kernel_rfl) ?_)
  refine EL.op (OPW.val (k := 14) (.bool false) rfl (by kernel_rfl) (by kernel_rfl) (by kernel_rfl) ?_)
  refine EL.op (OPW.val (k := 15) (.int .i64 0) rfl (by kernel_rfl) (by kernel_rfl) (by kernel_rfl) ?_)
  refine EL.op (OPW.val (k := 16) (.bool false) rfl (by kernel_rfl) (by kernel_rfl) (by kernel_rfl) ?_)
  refine EL.op (OPW.val (k := 17) (.bool false) rfl (by kernel_rfl) (by kernel_rfl) (by kernel_rfl) ?_)
  refine EL.op (OPW.val (k := 7) (.bool false) rfl (by kernel_rfl) (by kernel_rfl) (by kernel_rfl) ?_)
  refine EL.nil ?_
  refine thenN ?_
  refine CW.condF (by kernel_rfl) ?_
  refine CW.seq ?_
  refine CW.region ?_
  refine EL.op (OPW.val (k := 19) (.pointer (some ⟨q, 0, none⟩)) rfl (by kernel_rfl) (by kernel_rfl) (by kernel_rfl) ?_)
  refine EL.op (OPW.val (k := 20) (.int .i64 5) rfl (by kernel_rfl) (by kernel_rfl) (by kernel_rfl) ?_)
  refine EL.op (OPW.call (k := 21) rfl (by kernel_rfl) (by kernel_rfl) (by kernel_rfl) (at_0 5 q _ hO) ?_)
  rintro e1 w1 ⟨rfl, hb1⟩
  refine ⟨_, rfl, ?_⟩
  have hO1 := hO.below hb1 (Nat.le_refl _)
  have hS1 := hS.below (Nat.le_refl _) hb1
  refine EL.op (OPW.val (k := 22) (.bool false) rfl (by kernel_rfl) (by kernel_rfl) (by kernel_rfl) ?_)
  refine EL.op (OPW.val (k := 18) (.bool false) rfl (by kernel_rfl) (by kernel_rfl) (by kernel_rfl) ?_)
  refine EL.nil ?_
  refine thenN ?_
  refine CW.condF (by kernel_rfl) ?_
  refine CW.seq ?_
  refine CW.region ?_
  refine EL.op (OPW.val (k := 24) (.pointer (some ⟨q, 0, none⟩)) rfl (by kernel_rfl) (by kernel_rfl) (by kernel_rfl) ?_)
  refine EL.op (OPW.call (k := 25) rfl (by kernel_rfl) (by kernel_rfl) (by kernel_rfl) (full_0 q _ hO1) ?_)
  rintro e2 w2 ⟨rfl, hb2⟩
  refine ⟨_, rfl, ?_⟩
  have hO2 := hO1.below hb2 (Nat.le_refl _)
  have hS2 := hS1.below (Nat.le_refl _) hb2
  refine EL.op (OPW.val (k := 23) (.bool false) rfl (by kernel_rfl) (by kernel_rfl) (by kernel_rfl) ?_)
  refine EL.nil ?_
  refine thenN ?_
  refine CW.condF (by kernel_rfl) ?_
  refine CW.skip ?_
  refine blockN ?_
  refine thenN ?_
  refine CW.seq ?_
  refine CW.region ?_
  refine EL.op (OPW.val (k := 26) (.pointer (some ⟨q, 0, none⟩)) rfl (by kernel_rfl) (by kernel_rfl) (by kernel_rfl) ?_)
  refine EL.op (OPW.val (k := 27) (.pointer (some ⟨q, 0, none⟩)) rfl (by kernel_rfl) (by kernel_rfl) (by kernel_rfl) ?_)
  refine EL.op (OPW.val (k := 28) (.pointer (some ⟨q, 0, none⟩)) rfl (by kernel_rfl) (by kernel_rfl) (by kernel_rfl) ?_)
  refine EL.op (OPW.val (k := 29) (.pointer (some ⟨q, 0, none⟩)) rfl (by kernel_rfl) (by kernel_rfl) (by kernel_rfl) ?_)
  refine EL.op (OPW.val (k := 30) (.slice none 0 0) rfl (by kernel_rfl) (by kernel_rfl) (load1 (b := q) (i := 0) rfl (by kernel_rfl) (by kernel_rfl) (hO2.cell 0 rfl (by kernel_rfl))) ?_)
  refine EL.op (OPW.val (k := 31) (.int .i64 5) rfl (by kernel_rfl) (by kernel_rfl) (by kernel_rfl) ?_)
  refine EL.op (OPW.val (k := 32) (.int .i64 0) rfl (by kernel_rfl) (by kernel_rfl) (by kernel_rfl) ?_)
  refine EL.op (OPW.val (k := 33) (.agg #[.int .i64 5, .int .i64 0, .int .i64 0, .int .i64 (-1)]) rfl (by kernel_rfl) (by kernel_rfl) (by kernel_rfl) ?_)
  refine EL.op (OPW.new (k := 34) (ob := cellsO [.int .i64 5, .int .i64 0, .int .i64 0, .int .i64 (-1)] 63) (mkS 1) rfl (by kernel_rfl) (by kernel_rfl) (by kernel_rfl) ?_)
  intro g3 w3 hg3 hw3
  have hO3 : Own w3 [(g3, [.int .i64 5, .int .i64 0, .int .i64 0, .int .i64 (-1)], 63), (q, [.slice none 0 0, .int .i64 1], 84)] := (hO2.alloc hg3 hw3).norm (by kernel_rfl)
  have hS3 := hS2.alloc (Nat.le_refl _) hw3
  have hn3 : w.heap.size ≤ g3 := hg3 ▸ hS2.size
  refine EL.op (app_nil (zv := .agg #[.int .i64 0, .int .i64 0, .int .i64 0, .int .i64 0]) (size := 4) (bytes := 32) (k := 35) (g := g3) (m := 1) (c := 1) (cs := [.int .i64 5, .int .i64 0, .int .i64 0, .int .i64 (-1)]) rfl (by kernel_rfl) (by kernel_rfl) rfl Try.underlying56 (by kernel_rfl) (by kernel_rfl) (by kernel_rfl) (by kernel_rfl) (hO3.range 0 (j := 0) (vs := [.int .i64 5, .int .i64 0, .int .i64 0, .int .i64 (-1)]) rfl (by kernel_rfl)) (by kernel_rfl) (by kernel_rfl) (by decide) ?_)
  intro g4 c4 w4 hn4 hl4 hr4 hx4 hb4
  have hne5 : g4 ≠ g3 := Nat.ne_of_gt (Nat.lt_of_lt_of_le (hO3.lt 0 rfl) hn4)
  have hne6 : g4 ≠ q := Nat.ne_of_gt (Nat.lt_of_lt_of_le (hO3.lt 1 rfl) hn4)
  have hO4 := hO3.below hb4 (Nat.le_refl _)
  have hS4 := hS3.below (Nat.le_refl _) hb4
  have hq7 := Sep.refl w4.heap.size [] w4
  refine EL.op (OPW.val (k := 36) (.pointer (some ⟨q, 0, none⟩)) rfl (by kernel_rfl) (by kernel_rfl) (by kernel_rfl) ?_)
  refine EL.op (OPW.val (k := 37) (.pointer (some ⟨q, 0, none⟩)) rfl (by kernel_rfl) (by kernel_rfl) (by kernel_rfl) ?_)
  refine EL.op (OPW.store (b := q) (i := 0) [.slice (some ⟨g4, 0, none⟩) 1 c4] rfl (by kernel_rfl) rfl (by kernel_rfl) (by kernel_rfl) (by kernel_rfl) (by kernel_rfl) (hO4.there 1 rfl (Nat.le_of_ble_eq_true (by kernel_rfl))) ?_)
  intro w8 hw8
  have hO8 : Own w8 [(g3, [.int .i64 5, .int .i64 0, .int .i64 0, .int .i64 (-1)], 63), (q, [.slice (some ⟨g4, 0, none⟩) 1 c4, .int .i64 1], 84)] := (hO4.set' 1 (vs := [.slice (some ⟨g4, 0, none⟩) 1 c4]) rfl (Nat.le_of_ble_eq_true (by kernel_rfl)) hw8).norm (by kernel_rfl)
  have hS8 := hS4.set' (.inr (by simp)) hw8
  have hq9 := (hq7.widen [q]).set' (.inr (by simp)) hw8
  refine EL.nil ?_
  refine thenN ?_
  refine CW.seq ?_
  refine CW.region ?_
  refine EL.op (OPW.val (k := 38) (.pointer (some ⟨q, 0, none⟩)) rfl (by kernel_rfl) (by kernel_rfl) (by kernel_rfl) ?_)
  refine EL.op (OPW.val (k := 39) (.pointer (some ⟨q, 0, none⟩)) rfl (by kernel_rfl) (by kernel_rfl) (by kernel_rfl) ?_)
  refine EL.op (OPW.val (k := 40) (.pointer (some ⟨q, 0, none⟩)) rfl (by kernel_rfl) (by kernel_rfl) (by kernel_rfl) ?_)
  refine EL.op (OPW.val (k := 41) (.slice (some ⟨g4, 0, none⟩) 1 c4) rfl (by kernel_rfl) (by kernel_rfl) (load1 (b := q) (i := 0) rfl (by kernel_rfl) (by kernel_rfl) (hO8.cell 1 rfl (by kernel_rfl))) ?_)
  refine EL.op (OPW.call (k := 42) rfl (by kernel_rfl) (by kernel_rfl) (by kernel_rfl) (sort_1 (some ⟨g4, 0, none⟩) c4 (.func (.func 59) #[] #[]) _) ?_)
  rintro e10 w10 ⟨rfl, hb10⟩
  refine ⟨_, rfl, ?_⟩
  have hO10 := hO8.below hb10 (Nat.le_refl _)
  have hS10 := hS8.below (Nat.le_refl _) hb10
  have hq11 := hq9.below (Nat.le_refl _) hb10
  refine EL.nil ?_
  refine thenN ?_
  refine CW.seq ?_
  refine CW.region ?_
  refine EL.op (OPW.val (k := 6) (.int .i64 0) rfl (by kernel_rfl) (by kernel_rfl) (by kernel_rfl) ?_)
  refine EL.nil ?_
  refine thenN ?_
  refine CW.ret ?_
  refine bp_ret (v := .int .i64 0) (by kernel_rfl) ?_
  exact ⟨rfl, _, _, own_one (hO10.at 1 rfl), (hq11.range hx4 (by simp [hne6]) hr4), Nat.lt_of_lt_of_le hx4 hq11.size, hS10⟩
theorem new_1 (w : World) : Calls Try.prog 32 #[.int .i64 1] w fun e w' => ∃ q, e = .returned (.tuple #[.pointer (some ⟨q, 0, none⟩), .int .i64 0]) ∧ w.heap.size ≤ q ∧ Own w' [(q, [.slice none 0 0, .int .i64 1], 84)] ∧ Below w.heap.size w w' := by
  have hO := own_nil w
  have hS := Sep.refl w.heap.size [] w
  refine calls_L Try.func32 rfl 13 [(0, .int .i64 1)] (by kernel_rfl) ?_
  refine CW.seq ?_
  refine CW.region ?_
  refine EL.op (OPW.val (k := 2) (.pointer none) rfl (by kernel_rfl) (by kernel_rfl) (by kernel_rfl) ?_)
  refine EL.op (OPW.val (k := 3) (.int .i64 0) rfl (by kernel_rfl) (by kernel_rfl) (by kernel_rfl) ?_)
  refine EL.nil ?_
  refine thenN ?_
  refine CW.seq ?_
  refine CW.seq ?_
  refine CW.region ?_
  refine EL.op (OPW.val (k := 4) (.int .i64 1) rfl (by kernel_rfl) (by kernel_rfl) (by kernel_rfl) ?_)
  refine EL.op (OPW.val (k := 5) (.bool false) rfl (by kernel_rfl) (by kernel_rfl) (by kernel_rfl) ?_)
  refine EL.op (OPW.val (k := 6) (.bool false) rfl (by kernel_rfl) (by kernel_rfl) (by kernel_rfl) ?_)
  refine EL.op (OPW.val (k := 7) (.int .i64 1) rfl (by kernel_rfl) (by kernel_rfl) (by kernel_rfl) ?_)
  refine EL.op (OPW.val (k := 8) (.bool false) rfl (by kernel_rfl) (by kernel_rfl) (by kernel_rfl) ?_)
  refine EL.op (OPW.val (k := 9) (.bool false) rfl (by kernel_rfl) (by kernel_rfl) (by kernel_rfl) ?_)
  refine EL.nil ?_
  refine thenN ?_
  refine CW.condF (by kernel_rfl) ?_
  refine CW.skip ?_
  refine thenN ?_
  refine CW.seq ?_
  refine CW.region ?_
  refine EL.op (OPW.val (k := 10) (.int .i64 1) rfl (by kernel_rfl) (by kernel_rfl) (by kernel_rfl) ?_)
  refine EL.op (OPW.val (k := 11) (.agg #[.slice none 0 0, .int .i64 1]) rfl (by kernel_rfl) (by kernel_rfl) (by kernel_rfl) ?_)
  refine EL.op (OPW.new (k := 12) (ob := cellsO [.slice none 0 0, .int .i64 1] 84) mkP rfl (by kernel_rfl) (by kernel_rfl) (by kernel_rfl) ?_)
  intro g1 w1 hg1 hw1
  have hO1 : Own w1 [(g1, [.slice none 0 0, .int .i64 1], 84)] := (hO.alloc hg1 hw1).norm (by kernel_rfl)
  have hS1 := hS.alloc (Nat.le_refl _) hw1
  have hn1 : w.heap.size ≤ g1 := hg1 ▸ hS.size
  refine EL.op (OPW.val (k := 2) (.pointer (some ⟨g1, 0, none⟩)) rfl (by kernel_rfl) (by kernel_rfl) (by kernel_rfl) ?_)
  refine EL.op (OPW.val (k := 3) (.int .i64 0) rfl (by kernel_rfl) (by kernel_rfl) (by kernel_rfl) ?_)
  refine EL.nil ?_
  refine thenN ?_
  refine CW.ret ?_
  refine bp_ret (v := .tuple #[.pointer (some ⟨g1, 0, none⟩), .int .i64 0]) (by kernel_rfl) ?_
  exact ⟨_, rfl, hn1, hO1, hS1.toBelow⟩
theorem awake24 (w : World) : Calls Try.prog 31 #[] w fun e w' => e = .returned (.bool true) ∧ Below w.heap.size w w' := by
  have hO := own_nil w
  have hS := Sep.refl w.heap.size [] w
  refine calls_L Try.func31 rfl 35 [] (by kernel_rfl) ?_
  refine CW.seq ?_
  refine CW.region ?_
  refine EL.op (OPW.val (k := 0) (.bool false) rfl (by kernel_rfl) (by kernel_rfl) (by kernel_rfl) ?_)
  refine EL.nil ?_
  refine thenN ?_
  refine CW.seq ?_
  refine CW.region ?_
  refine EL.op (OPW.call (k := 4) rfl (by kernel_rfl) (by kernel_rfl) (by kernel_rfl) (new_1 _) ?_)
  rintro e1 w1 ⟨q, rfl, hqn, hQ, hb1⟩
  refine ⟨_, rfl, ?_⟩
  have hO1 := hO.below hb1 (Nat.le_refl _)
  have hS1 := hS.below (Nat.le_refl _) hb1
  skip
  have hSq : Sep w1.heap.size [q] w1 w1 := .refl _ _ _
  refine EL.op (OPW.val (k := 3) (.tuple #[.pointer (some ⟨q, 0, none⟩), .int .i64 0]) rfl (by kernel_rfl) (by kernel_rfl) (by kernel_rfl) ?_)
  refine EL.op (OPW.val (k := 5) (.pointer (some ⟨q, 0, none⟩)) rfl (by kernel_rfl) (by kernel_rfl) (by kernel_rfl) ?_)
  refine EL.op (OPW.val (k := 6) (.int .i64 0) rfl (by kernel_rfl) (by kernel_rfl) (by kernel_rfl) ?_)
  refine EL.op (OPW.val (k := 1) (.pointer (some ⟨q, 0, none⟩)) rfl (by kernel_rfl) (by kernel_rfl) (by kernel_rfl) ?_)
  refine EL.op (OPW.val (k := 2) (.int .i64 0) rfl (by kernel_rfl) (by kernel_rfl) (by kernel_rfl) ?_)
  refine EL.nil ?_
  refine thenN ?_
  refine CW.seq ?_
  refine CW.region ?_
  refine EL.op (OPW.val (k := 7) (.int .i64 0) rfl (by kernel_rfl) (by kernel_rfl) (by kernel_rfl) ?_)
  refine EL.op (OPW.val (k := 8) (.bool true) rfl (by kernel_rfl) (by kernel_rfl) (by kernel_rfl) ?_)
  refine EL.op (OPW.val (k := 9) (.bool true) rfl (by kernel_rfl) (by kernel_rfl) (by kernel_rfl) ?_)
  refine EL.op (OPW.val (k := 10) (.pointer (some ⟨q, 0, none⟩)) rfl (by kernel_rfl) (by kernel_rfl) (by kernel_rfl) ?_)
  refine EL.op (OPW.call (k := 11) rfl (by kernel_rfl) (by kernel_rfl) (by kernel_rfl) (put_0 q _ hQ) ?_)
  rintro _ w2 ⟨rfl, g, c, hQ1, hr, hx, hs1⟩
  refine ⟨_, rfl, ?_⟩
  have hO2 := own_nil w2
  have hS2 : Sep w.heap.size [] w w2 := sep_over hS1 hs1 hqn hS1.size
  refine EL.op (OPW.val (k := 12) (.bool true) rfl (by kernel_rfl) (by kernel_rfl) (by kernel_rfl) ?_)
  refine EL.op (OPW.val (k := 13) (.bool true) rfl (by kernel_rfl) (by kernel_rfl) (by kernel_rfl) ?_)
  refine EL.op (OPW.val (k := 14) (.bool true) rfl (by kernel_rfl) (by kernel_rfl) (by kernel_rfl) ?_)
  refine EL.op (OPW.val (k := 15) (.pointer (some ⟨q, 0, none⟩)) rfl (by kernel_rfl) (by kernel_rfl) (by kernel_rfl) ?_)
  refine EL.op (OPW.call (k := 16) rfl (by kernel_rfl) (by kernel_rfl) (by kernel_rfl) (put_1 g c q _ hQ1 hr hx) ?_)
  rintro e3 w3 ⟨rfl, hb3⟩
  refine ⟨_, rfl, ?_⟩
  have hO3 := hO2.below hb3 (Nat.le_refl _)
  have hS3 := hS2.below (Nat.le_refl _) hb3
  refine EL.op (OPW.val (k := 17) (.bool true) rfl (by kernel_rfl) (by kernel_rfl) (by kernel_rfl) ?_)
  refine EL.op (OPW.val (k := 18) (.bool true) rfl (by kernel_rfl) (by kernel_rfl) (by kernel_rfl) ?_)
  refine EL.op (OPW.val (k := 19) (.bool true) rfl (by kernel_rfl) (by kernel_rfl) (by kernel_rfl) ?_)
  refine EL.op (OPW.call (k := 20) rfl (by kernel_rfl) (by kernel_rfl) (by kernel_rfl) (queue_Pause 1 (by decide) _) ?_)
  rintro e4 w4 ⟨rfl, hb4⟩
  refine ⟨_, rfl, ?_⟩
  have hO4 := hO3.below hb4 (Nat.le_refl _)
  have hS4 := hS3.below (Nat.le_refl _) hb4
  refine EL.op (OPW.val (k := 21) (.bool true) rfl (by kernel_rfl) (by kernel_rfl) (by kernel_rfl) ?_)
  refine EL.op (OPW.val (k := 22) (.bool true) rfl (by kernel_rfl) (by kernel_rfl) (by kernel_rfl) ?_)
  refine EL.op (OPW.val (k := 23) (.bool true) rfl (by kernel_rfl) (by kernel_rfl) (by kernel_rfl) ?_)
  refine EL.op (OPW.call (k := 24) rfl (by kernel_rfl) (by kernel_rfl) (by kernel_rfl) (queue_Pause 4 (by decide) _) ?_)
  rintro e5 w5 ⟨rfl, hb5⟩
  refine ⟨_, rfl, ?_⟩
  have hO5 := hO4.below hb5 (Nat.le_refl _)
  have hS5 := hS4.below (Nat.le_refl _) hb5
  refine EL.op (OPW.val (k := 25) (.bool true) rfl (by kernel_rfl) (by kernel_rfl) (by kernel_rfl) ?_)
  refine EL.op (OPW.val (k := 26) (.bool true) rfl (by kernel_rfl) (by kernel_rfl) (by kernel_rfl) ?_)
  refine EL.op (OPW.val (k := 27) (.bool true) rfl (by kernel_rfl) (by kernel_rfl) (by kernel_rfl) ?_)
  refine EL.op (OPW.call (k := 28) rfl (by kernel_rfl) (by kernel_rfl) (by kernel_rfl) (queue_Pause 9 (by decide) _) ?_)
  rintro e6 w6 ⟨rfl, hb6⟩
  refine ⟨_, rfl, ?_⟩
  have hO6 := hO5.below hb6 (Nat.le_refl _)
  have hS6 := hS5.below (Nat.le_refl _) hb6
  refine EL.op (OPW.val (k := 29) (.bool true) rfl (by kernel_rfl) (by kernel_rfl) (by kernel_rfl) ?_)
  refine EL.op (OPW.val (k := 30) (.bool true) rfl (by kernel_rfl) (by kernel_rfl) (by kernel_rfl) ?_)
  refine EL.op (OPW.val (k := 31) (.bool true) rfl (by kernel_rfl) (by kernel_rfl) (by kernel_rfl) ?_)
  refine EL.op (OPW.val (k := 32) (.bool true) rfl (by kernel_rfl) (by kernel_rfl) (by kernel_rfl) ?_)
  refine EL.op (OPW.val (k := 33) (.bool true) rfl (by kernel_rfl) (by kernel_rfl) (by kernel_rfl) ?_)
  refine EL.op (OPW.val (k := 34) (.bool true) rfl (by kernel_rfl) (by kernel_rfl) (by kernel_rfl) ?_)
  refine EL.op (OPW.val (k := 0) (.bool true) rfl (by kernel_rfl) (by kernel_rfl) (by kernel_rfl) ?_)
  refine EL.nil ?_
  refine thenN ?_
  refine CW.ret ?_
  refine bp_ret (v := .bool true) (by kernel_rfl) ?_
  exact ⟨rfl, hS6.toBelow⟩
end Go.Proofs.Ytddaoelaoncimaa
