/- commit.Owner: whose commitment a transaction is. -/
import Derived.Test.YthhgfcfcgbjleaaEqv
import Derived.Test.YthhgfcfcgbjleaaTx
namespace Go.Proofs.Ythhgfcfcgbjleaa
open Go.RowKit
set_option maxRecDepth 100000
set_option linter.unusedSimpArgs false
set_option linter.unusedVariables false
theorem rng_lt {w : World} {b o : Nat} {v : Value} {cs : List Value} (h : w.rangeAt b o (v :: cs)) : b < w.heap.size := World.block_lt_of_cell? w _ (h 0 v rfl)
theorem rng_sub {w : World} {b o : Nat} {cs : List Value} (h : w.rangeAt b o cs) (i : Nat) {vs : List Value} (hv : (cs.drop i).take vs.length = vs) : w.rangeAt b (o + i) vs := fun j v hj => by
  rw [Nat.add_assoc]
  refine h _ _ ?_
  rw [← hv] at hj
  have hlt : j < vs.length := by
    have := (List.getElem?_eq_some_iff.1 hj).1
    rw [hv] at this
    exact this
  rw [List.getElem?_take_of_lt hlt, List.getElem?_drop] at hj
  exact hj
theorem wrap_spec (x : Int) : ∃ k, IntKind.i64.wrap x = x - 18446744073709551616 * k ∧ -9223372036854775808 ≤ IntKind.i64.wrap x ∧ IntKind.i64.wrap x ≤ 9223372036854775807 := by
  have e : IntKind.i64.wrap x = if x % 18446744073709551616 ≥ 9223372036854775808 then x % 18446744073709551616 - 18446744073709551616 else x % 18446744073709551616 := by
    simp [IntKind.wrap, IntKind.signed, IntKind.bits]
  rw [e]
  split
  · exact ⟨x / 18446744073709551616 + 1, by omega, by omega, by omega⟩
  · exact ⟨x / 18446744073709551616, by omega, by omega, by omega⟩
theorem wr_l {a b : Int} (h : -9223372036854775808 ≤ b ∧ b ≤ 9223372036854775807) : Value.int .i64 (IntKind.i64.wrap (IntKind.i64.wrap (a + b) - a)) = Value.int .i64 b := by
  obtain ⟨k, h1, h2, h3⟩ := wrap_spec (a + b)
  obtain ⟨m, h4, h5, h6⟩ := wrap_spec (IntKind.i64.wrap (a + b) - a)
  congr 1
  omega
theorem wr_r {a b : Int} (h : -9223372036854775808 ≤ a ∧ a ≤ 9223372036854775807) : Value.int .i64 (IntKind.i64.wrap (IntKind.i64.wrap (a + b) - b)) = Value.int .i64 a := by
  obtain ⟨k, h1, h2, h3⟩ := wrap_spec (a + b)
  obtain ⟨m, h4, h5, h6⟩ := wrap_spec (IntKind.i64.wrap (a + b) - b)
  congr 1
  omega
def chnC (id client peer : Int) (s : Nat → Int) (at_ cap wait window : Int) : List Value := cat [[.int .i64 id, .int .i64 client, .int .i64 peer], sumV s, [.int .i64 at_, .int .i64 cap, .int .i64 wait, .int .i64 window]]
def txC (I O : Value) (kind tower channel amount : Int) (r : Nat → Int) (D : Option Addr) (nD d : Nat) (S : Option Addr) (nS sg : Nat) : List Value := cat [[I, O, .int .i64 kind, .int .i64 tower, .int .i64 channel, .int .i64 amount], sumV r, [.slice D nD d, .slice S nS sg]]
def inC (x : Nat → Int) (at_ way : Int) (A : Option Addr) (n c : Nat) : List Value := cat [sumV x, [.int .i64 at_, .int .i64 way, .slice A n c]]
def wyC (K : Value) (h : Nat → Int) (af wt : Int) : List Value := cat [[K], sumV h, [.int .i64 af, .int .i64 wt]]
def ownT (k0 wt0 af0 q0 wt1 af1 wait me other : Int) (h0 h1 : Nat → Int) (sole : Bool) : Bool :=
  k0 == me && wt0 == wait && af0 == 0 && sumEq h0 (fun _ => 0) && q0 == other && wt1 == 0 && af1 == 0 && !(sumEq h1 (fun _ => 0)) && sole
def ownI (no t0 t1 : Bool) : Int := bif no then -1 else bif t0 then 0 else bif t1 then 1 else -1
section
variable (id client peer at_ cap wait window kind tower channel amount : Int) (s r : Nat → Int) (w : World) (D S : Option Addr) (nD d nS sg ci co : Nat)
def OwnerR (w : World) (I O : Value) (res : Int) : Prop := Calls Try.prog 46 #[.agg (chnC id client peer s at_ cap wait window).toArray, .agg (txC I O kind tower channel amount r D nD d S nS sg).toArray] w fun e w' => e = .returned (.int .i64 res) ∧ Below w.heap.size w w'
theorem owner0 (A B : Option Addr) (n nO : Nat) (hn : ((n : Int) != (1 : Int)) = true) : OwnerR id client peer at_ cap wait window kind tower channel amount s r D S nD d nS sg w (.slice A n ci) (.slice B nO co) (-1) := by
  have hO := own_nil w
  have hS := Sep.refl w.heap.size [] w
  refine calls_L Try.func46 rfl 145 [(0, .agg (chnC id client peer s at_ cap wait window).toArray), (1, .agg (txC (.slice A n ci) (.slice B nO co) kind tower channel amount r D nD d S nS sg).toArray)] (by kernel_rfl) ?_
  refine CW.seq ?_
  refine CW.region ?_
  refine EL.op (OPW.new (k := 2) (ob := cellsO (chnC id client peer s at_ cap wait window) 27) mkP rfl (by kernel_rfl) (by kernel_rfl) (by kernel_rfl) ?_)
  intro g1 w1 hg1 hw1
  have hO1 : Own w1 [(g1, (chnC id client peer s at_ cap wait window), 27)] := (hO.alloc hg1 hw1).norm (by kernel_rfl)
  have hS1 := hS.alloc (Nat.le_refl _) hw1
  have hn1 : w.heap.size ≤ g1 := hg1 ▸ hS.size
  refine EL.op (OPW.new (k := 3) (ob := cellsO (txC (.slice A n ci) (.slice B nO co) kind tower channel amount r D nD d S nS sg) 45) mkP rfl (by kernel_rfl) (by kernel_rfl) (by kernel_rfl) ?_)
  intro g2 w2 hg2 hw2
  have hO2 : Own w2 [(g2, (txC (.slice A n ci) (.slice B nO co) kind tower channel amount r D nD d S nS sg), 45), (g1, (chnC id client peer s at_ cap wait window), 27)] := (hO1.alloc hg2 hw2).norm (by kernel_rfl)
  have hS2 := hS1.alloc (Nat.le_refl _) hw2
  have hn2 : w.heap.size ≤ g2 := hg2 ▸ hS1.size
  refine EL.op (OPW.val (k := 4) (.int .i64 0) rfl (by kernel_rfl) (by kernel_rfl) (by kernel_rfl) ?_)
  refine EL.nil ?_
  refine thenN ?_
  refine CW.seq ?_
  refine CW.seq ?_
  refine ED.start (fun w' => Sep w2.drew.heap.size [] w2.drew w') (by kernel_rfl) ?_
  rintro _ rfl
  have hO4 := hO2.drew
  have hS5 := hS2.drew
  have hT1 : Sep w2.drew.heap.size [] w2.drew w2.drew := .refl _ _ _
  refine ED.take (k := 10) 0 (.pointer (some ⟨g2, 0, none⟩)) rfl rfl (by kernel_rfl) (by kernel_rfl) (by kernel_rfl) (by kernel_rfl) (fun _ _ _ h => h) (YI.val (by kernel_rfl) (fun _ _ => (by kernel_rfl))) hT1 ?_
  refine ED.take (k := 11) 1 (.slice A n ci) rfl rfl (by kernel_rfl) (by kernel_rfl) (by kernel_rfl) (by kernel_rfl) (fun _ _ _ h => h) (YI.val (by kernel_rfl) (fun _ hS' => load1 (b := g2) (i := 0) rfl (by kernel_rfl) (by kernel_rfl) (hS'.cell (hO4.lt 0 rfl) (by simp) (hO4.cell 0 rfl (by kernel_rfl))))) hT1 ?_
  refine ED.take (k := 12) 2 (.int .i64 (n : Int)) rfl rfl (by kernel_rfl) (by kernel_rfl) (by kernel_rfl) (by kernel_rfl) (fun _ _ _ h => h) (YI.val (by kernel_rfl) (fun _ _ => (by kernel_rfl))) hT1 ?_
  refine ED.take (k := 13) 3 (.bool true) rfl rfl (by kernel_rfl) (by kernel_rfl) (by kernel_rfl) (by kernel_rfl) (fun _ _ _ h => h) (YI.val (by kernel_rfl) (fun _ _ => (run_eq (v := .bool ((n : Int) != (1 : Int))) (by kernel_rfl) (by rw [show ((n : Int) != (1 : Int)) = true from hn])))) hT1 ?_
  refine ED.take (k := 14) 4 (.bool true) rfl rfl (by kernel_rfl) (by kernel_rfl) (by kernel_rfl) (by kernel_rfl) (fun _ _ _ h => h) (YI.val (by kernel_rfl) (fun _ _ => (by kernel_rfl))) hT1 ?_
  refine ED.take (k := 15) 5 undef rfl rfl (by kernel_rfl) (by kernel_rfl) (by kernel_rfl) (by kernel_rfl) (fun _ _ _ h => h) (YI.skip (by kernel_rfl)) hT1 ?_
  refine ED.take (k := 16) 6 undef rfl rfl (by kernel_rfl) (by kernel_rfl) (by kernel_rfl) (by kernel_rfl) (fun _ _ _ h => h) (YI.skip (by kernel_rfl)) hT1 ?_
  refine ED.take (k := 17) 7 undef rfl rfl (by kernel_rfl) (by kernel_rfl) (by kernel_rfl) (by kernel_rfl) (fun _ _ _ h => h) (YI.skip (by kernel_rfl)) hT1 ?_
  refine ED.take (k := 18) 8 undef rfl rfl (by kernel_rfl) (by kernel_rfl) (by kernel_rfl) (by kernel_rfl) (fun _ _ _ h => h) (YI.skip (by kernel_rfl)) hT1 ?_
  refine ED.take (k := 19) 9 undef rfl rfl (by kernel_rfl) (by kernel_rfl) (by kernel_rfl) (by kernel_rfl) (fun _ _ _ h => h) (YI.skip (by kernel_rfl)) hT1 ?_
  refine ED.take (k := 20) 10 undef rfl rfl (by kernel_rfl) (by kernel_rfl) (by kernel_rfl) (by kernel_rfl) (fun _ _ _ h => h) (YI.skip (by kernel_rfl)) hT1 ?_
  refine ED.take (k := 21) 11 undef rfl rfl (by kernel_rfl) (by kernel_rfl) (by kernel_rfl) (by kernel_rfl) (fun _ _ _ h => h) (YI.skip (by kernel_rfl)) hT1 ?_
  refine ED.take (k := 22) 12 undef rfl rfl (by kernel_rfl) (by kernel_rfl) (by kernel_rfl) (by kernel_rfl) (fun _ _ _ h => h) (YI.skip (by kernel_rfl)) hT1 ?_
  refine ED.take (k := 23) 13 (.bool true) rfl rfl (by kernel_rfl) (by kernel_rfl) (by kernel_rfl) (by kernel_rfl) (fun _ _ _ h => h) (YI.val (by kernel_rfl) (fun _ _ => (by kernel_rfl))) hT1 ?_
  refine ED.take (k := 24) 14 (.bool true) rfl rfl (by kernel_rfl) (by kernel_rfl) (by kernel_rfl) (by kernel_rfl) (fun _ _ _ h => h) (YI.val (by kernel_rfl) (fun _ _ => (by kernel_rfl))) hT1 ?_
  refine ED.take (k := 25) 15 undef rfl rfl (by kernel_rfl) (by kernel_rfl) (by kernel_rfl) (by kernel_rfl) (fun _ _ _ h => h) (YI.skip (by kernel_rfl)) hT1 ?_
  refine ED.take (k := 26) 16 undef rfl rfl (by kernel_rfl) (by kernel_rfl) (by kernel_rfl) (by kernel_rfl) (fun _ _ _ h => h) (YI.skip (by kernel_rfl)) hT1 ?_
  refine ED.take (k := 27) 17 undef rfl rfl (by kernel_rfl) (by kernel_rfl) (by kernel_rfl) (by kernel_rfl) (fun _ _ _ h => h) (YI.skip (by kernel_rfl)) hT1 ?_
  refine ED.take (k := 28) 18 undef rfl rfl (by kernel_rfl) (by kernel_rfl) (by kernel_rfl) (by kernel_rfl) (fun _ _ _ h => h) (YI.skip (by kernel_rfl)) hT1 ?_
  refine ED.take (k := 29) 19 (.bool true) rfl rfl (by kernel_rfl) (by kernel_rfl) (by kernel_rfl) (by kernel_rfl) (fun _ _ _ h => h) (YI.val (by kernel_rfl) (fun _ _ => (by kernel_rfl))) hT1 ?_
  refine ED.take (k := 30) 20 (.bool true) rfl rfl (by kernel_rfl) (by kernel_rfl) (by kernel_rfl) (by kernel_rfl) (fun _ _ _ h => h) (YI.val (by kernel_rfl) (fun _ _ => (by kernel_rfl))) hT1 ?_
  refine ED.take (k := 31) 21 undef rfl rfl (by kernel_rfl) (by kernel_rfl) (by kernel_rfl) (by kernel_rfl) (fun _ _ _ h => h) (YI.skip (by kernel_rfl)) hT1 ?_
  refine ED.take (k := 32) 22 undef rfl rfl (by kernel_rfl) (by kernel_rfl) (by kernel_rfl) (by kernel_rfl) (fun _ _ _ h => h) (YI.skip (by kernel_rfl)) hT1 ?_
  refine ED.take (k := 33) 23 undef rfl rfl (by kernel_rfl) (by kernel_rfl) (by kernel_rfl) (by kernel_rfl) (fun _ _ _ h => h) (YI.skip (by kernel_rfl)) hT1 ?_
  refine ED.take (k := 34) 24 undef rfl rfl (by kernel_rfl) (by kernel_rfl) (by kernel_rfl) (by kernel_rfl) (fun _ _ _ h => h) (YI.skip (by kernel_rfl)) hT1 ?_
  refine ED.take (k := 35) 25 undef rfl rfl (by kernel_rfl) (by kernel_rfl) (by kernel_rfl) (by kernel_rfl) (fun _ _ _ h => h) (YI.skip (by kernel_rfl)) hT1 ?_
  refine ED.take (k := 36) 26 undef rfl rfl (by kernel_rfl) (by kernel_rfl) (by kernel_rfl) (by kernel_rfl) (fun _ _ _ h => h) (YI.skip (by kernel_rfl)) hT1 ?_
  refine ED.take (k := 37) 27 undef rfl rfl (by kernel_rfl) (by kernel_rfl) (by kernel_rfl) (by kernel_rfl) (fun _ _ _ h => h) (YI.skip (by kernel_rfl)) hT1 ?_
  refine ED.take (k := 38) 28 (.bool true) rfl rfl (by kernel_rfl) (by kernel_rfl) (by kernel_rfl) (by kernel_rfl) (fun _ _ _ h => h) (YI.val (by kernel_rfl) (fun _ _ => (by kernel_rfl))) hT1 ?_
  refine ED.take (k := 39) 29 (.bool true) rfl rfl (by kernel_rfl) (by kernel_rfl) (by kernel_rfl) (by kernel_rfl) (fun _ _ _ h => h) (YI.val (by kernel_rfl) (fun _ _ => (by kernel_rfl))) hT1 ?_
  refine ED.take (k := 40) 30 undef rfl rfl (by kernel_rfl) (by kernel_rfl) (by kernel_rfl) (by kernel_rfl) (fun _ _ _ h => h) (YI.skip (by kernel_rfl)) hT1 ?_
  refine ED.take (k := 41) 31 undef rfl rfl (by kernel_rfl) (by kernel_rfl) (by kernel_rfl) (by kernel_rfl) (fun _ _ _ h => h) (YI.skip (by kernel_rfl)) hT1 ?_
  refine ED.take (k := 42) 32 undef rfl rfl (by kernel_rfl) (by kernel_rfl) (by kernel_rfl) (by kernel_rfl) (fun _ _ _ h => h) (YI.skip (by kernel_rfl)) hT1 ?_
  refine ED.take (k := 43) 33 undef rfl rfl (by kernel_rfl) (by kernel_rfl) (by kernel_rfl) (by kernel_rfl) (fun _ _ _ h => h) (YI.skip (by kernel_rfl)) hT1 ?_
  refine ED.take (k := 44) 34 (.bool true) rfl rfl (by kernel_rfl) (by kernel_rfl) (by kernel_rfl) (by kernel_rfl) (fun _ _ _ h => h) (YI.val (by kernel_rfl) (fun _ _ => (by kernel_rfl))) hT1 ?_
  refine ED.done (by kernel_rfl) ?_
  refine thenN ?_
  refine CW.condT (by kernel_rfl) ?_
  refine CW.seq ?_
  refine CW.region ?_
  refine EL.op (OPW.val (k := 4) (.int .i64 (-1)) rfl (by kernel_rfl) (by kernel_rfl) (by kernel_rfl) ?_)
  refine EL.nil ?_
  refine thenN ?_
  refine CW.ret ?_
  refine thenR ?_
  refine bp_ret (v := .int .i64 (-1)) (by kernel_rfl) ?_
  refine ⟨?_, hS5.toBelow⟩
  rfl
section
variable (bi oi : Nat) (xi : Nat → Int) (iat iway : Int) (Ai : Option Addr) (ni ai : Nat) (hI : w.rangeAt bi oi (inC xi iat iway Ai ni ai))
include hI
theorem owner1 (B : Option Addr) (n : Nat) (hn : ((n : Int) != (2 : Int)) = true) : OwnerR id client peer at_ cap wait window kind tower channel amount s r D S nD d nS sg w (.slice (some ⟨bi, oi, none⟩) 1 ci) (.slice B n co) (-1) := by
  have hO := own_nil w
  have hS := Sep.refl w.heap.size [] w
  refine calls_L Try.func46 rfl 145 [(0, .agg (chnC id client peer s at_ cap wait window).toArray), (1, .agg (txC (.slice (some ⟨bi, oi, none⟩) 1 ci) (.slice B n co) kind tower channel amount r D nD d S nS sg).toArray)] (by kernel_rfl) ?_
  refine CW.seq ?_
  refine CW.region ?_
  refine EL.op (OPW.new (k := 2) (ob := cellsO (chnC id client peer s at_ cap wait window) 27) mkP rfl (by kernel_rfl) (by kernel_rfl) (by kernel_rfl) ?_)
  intro g1 w1 hg1 hw1
  have hO1 : Own w1 [(g1, (chnC id client peer s at_ cap wait window), 27)] := (hO.alloc hg1 hw1).norm (by kernel_rfl)
  have hS1 := hS.alloc (Nat.le_refl _) hw1
  have hn1 : w.heap.size ≤ g1 := hg1 ▸ hS.size
  refine EL.op (OPW.new (k := 3) (ob := cellsO (txC (.slice (some ⟨bi, oi, none⟩) 1 ci) (.slice B n co) kind tower channel amount r D nD d S nS sg) 45) mkP rfl (by kernel_rfl) (by kernel_rfl) (by kernel_rfl) ?_)
  intro g2 w2 hg2 hw2
  have hO2 : Own w2 [(g2, (txC (.slice (some ⟨bi, oi, none⟩) 1 ci) (.slice B n co) kind tower channel amount r D nD d S nS sg), 45), (g1, (chnC id client peer s at_ cap wait window), 27)] := (hO1.alloc hg2 hw2).norm (by kernel_rfl)
  have hS2 := hS1.alloc (Nat.le_refl _) hw2
  have hn2 : w.heap.size ≤ g2 := hg2 ▸ hS1.size
  refine EL.op (OPW.val (k := 4) (.int .i64 0) rfl (by kernel_rfl) (by kernel_rfl) (by kernel_rfl) ?_)
  refine EL.nil ?_
  refine thenN ?_
  refine CW.seq ?_
  refine CW.seq ?_
  refine ED.start (fun w' => Sep w2.drew.heap.size [] w2.drew w') (by kernel_rfl) ?_
  rintro _ rfl
  have hO4 := hO2.drew
  have hS5 := hS2.drew
  have hT1 : Sep w2.drew.heap.size [] w2.drew w2.drew := .refl _ _ _
  refine ED.take (k := 10) 0 (.pointer (some ⟨g2, 0, none⟩)) rfl rfl (by kernel_rfl) (by kernel_rfl) (by kernel_rfl) (by kernel_rfl) (fun _ _ _ h => h) (YI.val (by kernel_rfl) (fun _ _ => (by kernel_rfl))) hT1 ?_
  refine ED.take (k := 11) 1 (.slice (some ⟨bi, oi, none⟩) 1 ci) rfl rfl (by kernel_rfl) (by kernel_rfl) (by kernel_rfl) (by kernel_rfl) (fun _ _ _ h => h) (YI.val (by kernel_rfl) (fun _ hS' => load1 (b := g2) (i := 0) rfl (by kernel_rfl) (by kernel_rfl) (hS'.cell (hO4.lt 0 rfl) (by simp) (hO4.cell 0 rfl (by kernel_rfl))))) hT1 ?_
  refine ED.take (k := 12) 2 (.int .i64 1) rfl rfl (by kernel_rfl) (by kernel_rfl) (by kernel_rfl) (by kernel_rfl) (fun _ _ _ h => h) (YI.val (by kernel_rfl) (fun _ _ => (by kernel_rfl))) hT1 ?_
  refine ED.take (k := 13) 3 (.bool false) rfl rfl (by kernel_rfl) (by kernel_rfl) (by kernel_rfl) (by kernel_rfl) (fun _ _ _ h => h) (YI.val (by kernel_rfl) (fun _ _ => (by kernel_rfl))) hT1 ?_
  refine ED.take (k := 14) 4 (.bool false) rfl rfl (by kernel_rfl) (by kernel_rfl) (by kernel_rfl) (by kernel_rfl) (fun _ _ _ h => h) (YI.val (by kernel_rfl) (fun _ _ => (by kernel_rfl))) hT1 ?_
  refine ED.take (k := 15) 5 (.pointer (some ⟨g2, 0, none⟩)) rfl rfl (by kernel_rfl) (by kernel_rfl) (by kernel_rfl) (by kernel_rfl) (fun _ _ _ h => h) (YI.val (by kernel_rfl) (fun _ _ => (by kernel_rfl))) hT1 ?_
  refine ED.take (k := 16) 6 (.slice (some ⟨bi, oi, none⟩) 1 ci) rfl rfl (by kernel_rfl) (by kernel_rfl) (by kernel_rfl) (by kernel_rfl) (fun _ _ _ h => h) (YI.val (by kernel_rfl) (fun _ hS' => load1 (b := g2) (i := 0) rfl (by kernel_rfl) (by kernel_rfl) (hS'.cell (hO4.lt 0 rfl) (by simp) (hO4.cell 0 rfl (by kernel_rfl))))) hT1 ?_
  refine ED.take (k := 17) 7 (.pointer (some ⟨bi, oi, none⟩)) rfl rfl (by kernel_rfl) (by kernel_rfl) (by kernel_rfl) (by kernel_rfl) (fun _ _ _ h => h) (YI.val (by kernel_rfl) (fun _ _ => (by kernel_rfl))) hT1 ?_
  refine ED.take (k := 18) 8 (.pointer (some ⟨bi, oi, none⟩)) rfl rfl (by kernel_rfl) (by kernel_rfl) (by kernel_rfl) (by kernel_rfl) (fun _ _ _ h => h) (YI.val (by kernel_rfl) (fun _ _ => (by kernel_rfl))) hT1 ?_
  refine ED.take (k := 19) 9 (.agg ((cat [sumV xi, [.int .i64 iat]])).toArray) rfl rfl (by kernel_rfl) (by kernel_rfl) (by kernel_rfl) (by kernel_rfl) (fun _ _ _ h => h) (YI.val (by kernel_rfl) (fun _ hS' => loadN (b := bi) (i := oi) rfl (by kernel_rfl) (by kernel_rfl) (by kernel_rfl) (hS'.range (Nat.lt_of_lt_of_le (rng_lt hI) hS5.size) (by simp) (hS5.range (rng_lt hI) (by simp) (rng_sub hI 0 (vs := (cat [sumV xi, [.int .i64 iat]])) (by kernel_rfl)))))) hT1 ?_
  refine ED.take (k := 20) 10 (.pointer (some ⟨g1, 3, none⟩)) rfl rfl (by kernel_rfl) (by kernel_rfl) (by kernel_rfl) (by kernel_rfl) (fun _ _ _ h => h) (YI.val (by kernel_rfl) (fun _ _ => (by kernel_rfl))) hT1 ?_
  refine ED.take (k := 21) 11 (.agg ((cat [sumV s, [.int .i64 at_]])).toArray) rfl rfl (by kernel_rfl) (by kernel_rfl) (by kernel_rfl) (by kernel_rfl) (fun _ _ _ h => h) (YI.val (by kernel_rfl) (fun _ hS' => loadN (b := g1) (i := 3) rfl (by kernel_rfl) (by kernel_rfl) (by kernel_rfl) (hS'.range (hO4.lt 1 rfl) (by simp) (hO4.range 1 (vs := (cat [sumV s, [.int .i64 at_]])) rfl (by kernel_rfl))))) hT1 ?_
  refine ED.takeB (k := 22) 12 (!(((sumEq xi s) && ((iat == at_) && true)))) rfl rfl (by kernel_rfl) (by kernel_rfl) (by kernel_rfl) (by kernel_rfl) (fun _ _ _ h => h) (YI.val (by kernel_rfl) (fun _ _ => (neq_run (b := ((sumEq xi s) && ((iat == at_) && true))) rfl (by kernel_rfl) (by kernel_rfl) (by kernel_rfl) (by kernel_rfl)))) hT1 ?_
  intro b6 hb6
  refine ED.take (k := 23) 13 (.bool b6) rfl rfl (by kernel_rfl) (by kernel_rfl) (by kernel_rfl) (by kernel_rfl) (fun _ _ _ h => h) (YI.val (by kernel_rfl) (fun _ _ => (by kernel_rfl))) hT1 ?_
  refine ED.take (k := 24) 14 (.bool b6) rfl rfl (by kernel_rfl) (by kernel_rfl) (by kernel_rfl) (by kernel_rfl) (fun _ _ _ h => h) (YI.val (by kernel_rfl) (fun _ _ => (by kernel_rfl))) hT1 ?_
  refine ED.take (k := 25) 15 ((bif b6 then undef else Value.pointer (some ⟨g2, 1, none⟩))) rfl rfl (by kernel_rfl) (by kernel_rfl) (by kernel_rfl) (by kernel_rfl) (fun _ _ _ h => h) (YI.gF b6 rfl (by kernel_rfl) (by rintro rfl; intro _ _; kernel_rfl)) hT1 ?_
  refine ED.take (k := 26) 16 ((bif b6 then undef else Value.slice B n co)) rfl rfl (by kernel_rfl) (by kernel_rfl) (by kernel_rfl) (by kernel_rfl) (fun _ _ _ h => h) (YI.gF b6 rfl (by kernel_rfl) (by rintro rfl; exact fun _ hS' => load1 (b := g2) (i := 1) rfl (by kernel_rfl) (by kernel_rfl) (hS'.cell (hO4.lt 0 rfl) (by simp) (hO4.cell 0 rfl (by kernel_rfl))))) hT1 ?_
  refine ED.take (k := 27) 17 ((bif b6 then undef else Value.int .i64 (n : Int))) rfl rfl (by kernel_rfl) (by kernel_rfl) (by kernel_rfl) (by kernel_rfl) (fun _ _ _ h => h) (YI.gF b6 rfl (by kernel_rfl) (by rintro rfl; intro _ _; kernel_rfl)) hT1 ?_
  refine ED.take (k := 28) 18 ((bif b6 then undef else Value.bool true)) rfl rfl (by kernel_rfl) (by kernel_rfl) (by kernel_rfl) (by kernel_rfl) (fun _ _ _ h => h) (YI.gF b6 rfl (by kernel_rfl) (by rintro rfl; exact fun _ _ => (run_eq (v := .bool ((n : Int) != (2 : Int))) (by kernel_rfl) (by rw [show ((n : Int) != (2 : Int)) = true from hn])))) hT1 ?_
  refine ED.take (k := 29) 19 (.bool true) rfl rfl (by kernel_rfl) (by kernel_rfl) (by kernel_rfl) (by kernel_rfl) (fun _ _ _ h => h) (YI.val (by kernel_rfl) (fun _ _ => (run_eq (v := .bool (bif b6 then true else true)) (pick_run rfl (by kernel_rfl) (fun _ => (by kernel_rfl)) (by rintro rfl; kernel_rfl)) (by cases b6 <;> rfl)))) hT1 ?_
  refine ED.take (k := 30) 20 (.bool true) rfl rfl (by kernel_rfl) (by kernel_rfl) (by kernel_rfl) (by kernel_rfl) (fun _ _ _ h => h) (YI.val (by kernel_rfl) (fun _ _ => (by kernel_rfl))) hT1 ?_
  refine ED.take (k := 31) 21 undef rfl rfl (by kernel_rfl) (by kernel_rfl) (by kernel_rfl) (by kernel_rfl) (fun _ _ _ h => h) (YI.skip (by kernel_rfl)) hT1 ?_
  refine ED.take (k := 32) 22 undef rfl rfl (by kernel_rfl) (by kernel_rfl) (by kernel_rfl) (by kernel_rfl) (fun _ _ _ h => h) (YI.skip (by kernel_rfl)) hT1 ?_
  refine ED.take (k := 33) 23 undef rfl rfl (by kernel_rfl) (by kernel_rfl) (by kernel_rfl) (by kernel_rfl) (fun _ _ _ h => h) (YI.skip (by kernel_rfl)) hT1 ?_
  refine ED.take (k := 34) 24 undef rfl rfl (by kernel_rfl) (by kernel_rfl) (by kernel_rfl) (by kernel_rfl) (fun _ _ _ h => h) (YI.skip (by kernel_rfl)) hT1 ?_
  refine ED.take (k := 35) 25 undef rfl rfl (by kernel_rfl) (by kernel_rfl) (by kernel_rfl) (by kernel_rfl) (fun _ _ _ h => h) (YI.skip (by kernel_rfl)) hT1 ?_
  refine ED.take (k := 36) 26 undef rfl rfl (by kernel_rfl) (by kernel_rfl) (by kernel_rfl) (by kernel_rfl) (fun _ _ _ h => h) (YI.skip (by kernel_rfl)) hT1 ?_
  refine ED.take (k := 37) 27 undef rfl rfl (by kernel_rfl) (by kernel_rfl) (by kernel_rfl) (by kernel_rfl) (fun _ _ _ h => h) (YI.skip (by kernel_rfl)) hT1 ?_
  refine ED.take (k := 38) 28 (.bool true) rfl rfl (by kernel_rfl) (by kernel_rfl) (by kernel_rfl) (by kernel_rfl) (fun _ _ _ h => h) (YI.val (by kernel_rfl) (fun _ _ => (by kernel_rfl))) hT1 ?_
  refine ED.take (k := 39) 29 (.bool true) rfl rfl (by kernel_rfl) (by kernel_rfl) (by kernel_rfl) (by kernel_rfl) (fun _ _ _ h => h) (YI.val (by kernel_rfl) (fun _ _ => (by kernel_rfl))) hT1 ?_
  refine ED.take (k := 40) 30 undef rfl rfl (by kernel_rfl) (by kernel_rfl) (by kernel_rfl) (by kernel_rfl) (fun _ _ _ h => h) (YI.skip (by kernel_rfl)) hT1 ?_
  refine ED.take (k := 41) 31 undef rfl rfl (by kernel_rfl) (by kernel_rfl) (by kernel_rfl) (by kernel_rfl) (fun _ _ _ h => h) (YI.skip (by kernel_rfl)) hT1 ?_
  refine ED.take (k := 42) 32 undef rfl rfl (by kernel_rfl) (by kernel_rfl) (by kernel_rfl) (by kernel_rfl) (fun _ _ _ h => h) (YI.skip (by kernel_rfl)) hT1 ?_
  refine ED.take (k := 43) 33 undef rfl rfl (by kernel_rfl) (by kernel_rfl) (by kernel_rfl) (by kernel_rfl) (fun _ _ _ h => h) (YI.skip (by kernel_rfl)) hT1 ?_
  refine ED.take (k := 44) 34 (.bool true) rfl rfl (by kernel_rfl) (by kernel_rfl) (by kernel_rfl) (by kernel_rfl) (fun _ _ _ h => h) (YI.val (by kernel_rfl) (fun _ _ => (by kernel_rfl))) hT1 ?_
  refine ED.done (by kernel_rfl) ?_
  refine thenN ?_
  refine CW.condT (by kernel_rfl) ?_
  refine CW.seq ?_
  refine CW.region ?_
  refine EL.op (OPW.val (k := 4) (.int .i64 (-1)) rfl (by kernel_rfl) (by kernel_rfl) (by kernel_rfl) ?_)
  refine EL.nil ?_
  refine thenN ?_
  refine CW.ret ?_
  refine thenR ?_
  refine bp_ret (v := .int .i64 (-1)) (by kernel_rfl) ?_
  refine ⟨?_, hS5.toBelow⟩
  rfl
variable (bo oo : Nat) (am1 am2 : Int) (B1 B2 : Option Addr) (n2 cw c2 : Nat)
theorem owner2 (n : Nat) (hT : w.rangeAt bo oo [.int .i64 am1, .slice B1 n cw, .int .i64 am2, .slice B2 n2 c2]) (hn : ((n : Int) != (2 : Int)) = true) :
    OwnerR id client peer at_ cap wait window kind tower channel amount s r D S nD d nS sg w (.slice (some ⟨bi, oi, none⟩) 1 ci) (.slice (some ⟨bo, oo, none⟩) 2 co) (-1) := by
  have hO := own_nil w
  have hS := Sep.refl w.heap.size [] w
  refine calls_L Try.func46 rfl 145 [(0, .agg (chnC id client peer s at_ cap wait window).toArray), (1, .agg (txC (.slice (some ⟨bi, oi, none⟩) 1 ci) (.slice (some ⟨bo, oo, none⟩) 2 co) kind tower channel amount r D nD d S nS sg).toArray)] (by kernel_rfl) ?_
  refine CW.seq ?_
  refine CW.region ?_
  refine EL.op (OPW.new (k := 2) (ob := cellsO (chnC id client peer s at_ cap wait window) 27) mkP rfl (by kernel_rfl) (by kernel_rfl) (by kernel_rfl) ?_)
  intro g1 w1 hg1 hw1
  have hO1 : Own w1 [(g1, (chnC id client peer s at_ cap wait window), 27)] := (hO.alloc hg1 hw1).norm (by kernel_rfl)
  have hS1 := hS.alloc (Nat.le_refl _) hw1
  have hn1 : w.heap.size ≤ g1 := hg1 ▸ hS.size
  refine EL.op (OPW.new (k := 3) (ob := cellsO (txC (.slice (some ⟨bi, oi, none⟩) 1 ci) (.slice (some ⟨bo, oo, none⟩) 2 co) kind tower channel amount r D nD d S nS sg) 45) mkP rfl (by kernel_rfl) (by kernel_rfl) (by kernel_rfl) ?_)
  intro g2 w2 hg2 hw2
  have hO2 : Own w2 [(g2, (txC (.slice (some ⟨bi, oi, none⟩) 1 ci) (.slice (some ⟨bo, oo, none⟩) 2 co) kind tower channel amount r D nD d S nS sg), 45), (g1, (chnC id client peer s at_ cap wait window), 27)] := (hO1.alloc hg2 hw2).norm (by kernel_rfl)
  have hS2 := hS1.alloc (Nat.le_refl _) hw2
  have hn2 : w.heap.size ≤ g2 := hg2 ▸ hS1.size
  refine EL.op (OPW.val (k := 4) (.int .i64 0) rfl (by kernel_rfl) (by kernel_rfl) (by kernel_rfl) ?_)
  refine EL.nil ?_
  refine thenN ?_
  refine CW.seq ?_
  refine CW.seq ?_
  refine ED.start (fun w' => Sep w2.drew.heap.size [] w2.drew w') (by kernel_rfl) ?_
  rintro _ rfl
  have hO4 := hO2.drew
  have hS5 := hS2.drew
  have hT1 : Sep w2.drew.heap.size [] w2.drew w2.drew := .refl _ _ _
  refine ED.take (k := 10) 0 (.pointer (some ⟨g2, 0, none⟩)) rfl rfl (by kernel_rfl) (by kernel_rfl) (by kernel_rfl) (by kernel_rfl) (fun _ _ _ h => h) (YI.val (by kernel_rfl) (fun _ _ => (by kernel_rfl))) hT1 ?_
  refine ED.take (k := 11) 1 (.slice (some ⟨bi, oi, none⟩) 1 ci) rfl rfl (by kernel_rfl) (by kernel_rfl) (by kernel_rfl) (by kernel_rfl) (fun _ _ _ h => h) (YI.val (by kernel_rfl) (fun _ hS' => load1 (b := g2) (i := 0) rfl (by kernel_rfl) (by kernel_rfl) (hS'.cell (hO4.lt 0 rfl) (by simp) (hO4.cell 0 rfl (by kernel_rfl))))) hT1 ?_
  refine ED.take (k := 12) 2 (.int .i64 1) rfl rfl (by kernel_rfl) (by kernel_rfl) (by kernel_rfl) (by kernel_rfl) (fun _ _ _ h => h) (YI.val (by kernel_rfl) (fun _ _ => (by kernel_rfl))) hT1 ?_
  refine ED.take (k := 13) 3 (.bool false) rfl rfl (by kernel_rfl) (by kernel_rfl) (by kernel_rfl) (by kernel_rfl) (fun _ _ _ h => h) (YI.val (by kernel_rfl) (fun _ _ => (by kernel_rfl))) hT1 ?_
  refine ED.take (k := 14) 4 (.bool false) rfl rfl (by kernel_rfl) (by kernel_rfl) (by kernel_rfl) (by kernel_rfl) (fun _ _ _ h => h) (YI.val (by kernel_rfl) (fun _ _ => (by kernel_rfl))) hT1 ?_
  refine ED.take (k := 15) 5 (.pointer (some ⟨g2, 0, none⟩)) rfl rfl (by kernel_rfl) (by kernel_rfl) (by kernel_rfl) (by kernel_rfl) (fun _ _ _ h => h) (YI.val (by kernel_rfl) (fun _ _ => (by kernel_rfl))) hT1 ?_
  refine ED.take (k := 16) 6 (.slice (some ⟨bi, oi, none⟩) 1 ci) rfl rfl (by kernel_rfl) (by kernel_rfl) (by kernel_rfl) (by kernel_rfl) (fun _ _ _ h => h) (YI.val (by kernel_rfl) (fun _ hS' => load1 (b := g2) (i := 0) rfl (by kernel_rfl) (by kernel_rfl) (hS'.cell (hO4.lt 0 rfl) (by simp) (hO4.cell 0 rfl (by kernel_rfl))))) hT1 ?_
  refine ED.take (k := 17) 7 (.pointer (some ⟨bi, oi, none⟩)) rfl rfl (by kernel_rfl) (by kernel_rfl) (by kernel_rfl) (by kernel_rfl) (fun _ _ _ h => h) (YI.val (by kernel_rfl) (fun _ _ => (by kernel_rfl))) hT1 ?_
  refine ED.take (k := 18) 8 (.pointer (some ⟨bi, oi, none⟩)) rfl rfl (by kernel_rfl) (by kernel_rfl) (by kernel_rfl) (by kernel_rfl) (fun _ _ _ h => h) (YI.val (by kernel_rfl) (fun _ _ => (by kernel_rfl))) hT1 ?_
  refine ED.take (k := 19) 9 (.agg ((cat [sumV xi, [.int .i64 iat]])).toArray) rfl rfl (by kernel_rfl) (by kernel_rfl) (by kernel_rfl) (by kernel_rfl) (fun _ _ _ h => h) (YI.val (by kernel_rfl) (fun _ hS' => loadN (b := bi) (i := oi) rfl (by kernel_rfl) (by kernel_rfl) (by kernel_rfl) (hS'.range (Nat.lt_of_lt_of_le (rng_lt hI) hS5.size) (by simp) (hS5.range (rng_lt hI) (by simp) (rng_sub hI 0 (vs := (cat [sumV xi, [.int .i64 iat]])) (by kernel_rfl)))))) hT1 ?_
  refine ED.take (k := 20) 10 (.pointer (some ⟨g1, 3, none⟩)) rfl rfl (by kernel_rfl) (by kernel_rfl) (by kernel_rfl) (by kernel_rfl) (fun _ _ _ h => h) (YI.val (by kernel_rfl) (fun _ _ => (by kernel_rfl))) hT1 ?_
  refine ED.take (k := 21) 11 (.agg ((cat [sumV s, [.int .i64 at_]])).toArray) rfl rfl (by kernel_rfl) (by kernel_rfl) (by kernel_rfl) (by kernel_rfl) (fun _ _ _ h => h) (YI.val (by kernel_rfl) (fun _ hS' => loadN (b := g1) (i := 3) rfl (by kernel_rfl) (by kernel_rfl) (by kernel_rfl) (hS'.range (hO4.lt 1 rfl) (by simp) (hO4.range 1 (vs := (cat [sumV s, [.int .i64 at_]])) rfl (by kernel_rfl))))) hT1 ?_
  refine ED.takeB (k := 22) 12 (!(((sumEq xi s) && ((iat == at_) && true)))) rfl rfl (by kernel_rfl) (by kernel_rfl) (by kernel_rfl) (by kernel_rfl) (fun _ _ _ h => h) (YI.val (by kernel_rfl) (fun _ _ => (neq_run (b := ((sumEq xi s) && ((iat == at_) && true))) rfl (by kernel_rfl) (by kernel_rfl) (by kernel_rfl) (by kernel_rfl)))) hT1 ?_
  intro b6 hb6
  refine ED.take (k := 23) 13 (.bool b6) rfl rfl (by kernel_rfl) (by kernel_rfl) (by kernel_rfl) (by kernel_rfl) (fun _ _ _ h => h) (YI.val (by kernel_rfl) (fun _ _ => (by kernel_rfl))) hT1 ?_
  refine ED.take (k := 24) 14 (.bool b6) rfl rfl (by kernel_rfl) (by kernel_rfl) (by kernel_rfl) (by kernel_rfl) (fun _ _ _ h => h) (YI.val (by kernel_rfl) (fun _ _ => (by kernel_rfl))) hT1 ?_
  refine ED.take (k := 25) 15 ((bif b6 then undef else Value.pointer (some ⟨g2, 1, none⟩))) rfl rfl (by kernel_rfl) (by kernel_rfl) (by kernel_rfl) (by kernel_rfl) (fun _ _ _ h => h) (YI.gF b6 rfl (by kernel_rfl) (by rintro rfl; intro _ _; kernel_rfl)) hT1 ?_
  refine ED.take (k := 26) 16 ((bif b6 then undef else Value.slice (some ⟨bo, oo, none⟩) 2 co)) rfl rfl (by kernel_rfl) (by kernel_rfl) (by kernel_rfl) (by kernel_rfl) (fun _ _ _ h => h) (YI.gF b6 rfl (by kernel_rfl) (by rintro rfl; exact fun _ hS' => load1 (b := g2) (i := 1) rfl (by kernel_rfl) (by kernel_rfl) (hS'.cell (hO4.lt 0 rfl) (by simp) (hO4.cell 0 rfl (by kernel_rfl))))) hT1 ?_
  refine ED.take (k := 27) 17 ((bif b6 then undef else Value.int .i64 2)) rfl rfl (by kernel_rfl) (by kernel_rfl) (by kernel_rfl) (by kernel_rfl) (fun _ _ _ h => h) (YI.gF b6 rfl (by kernel_rfl) (by rintro rfl; intro _ _; kernel_rfl)) hT1 ?_
  refine ED.take (k := 28) 18 ((bif b6 then undef else Value.bool false)) rfl rfl (by kernel_rfl) (by kernel_rfl) (by kernel_rfl) (by kernel_rfl) (fun _ _ _ h => h) (YI.gF b6 rfl (by kernel_rfl) (by rintro rfl; intro _ _; kernel_rfl)) hT1 ?_
  refine ED.take (k := 29) 19 (.bool b6) rfl rfl (by kernel_rfl) (by kernel_rfl) (by kernel_rfl) (by kernel_rfl) (fun _ _ _ h => h) (YI.val (by kernel_rfl) (fun _ _ => (run_eq (v := .bool (bif b6 then true else false)) (pick_run (b := b6) (p := true) (q := false) rfl (by kernel_rfl) (fun _ => (by kernel_rfl)) (by rintro rfl; kernel_rfl)) (by cases b6 <;> rfl)))) hT1 ?_
  refine ED.take (k := 30) 20 (.bool b6) rfl rfl (by kernel_rfl) (by kernel_rfl) (by kernel_rfl) (by kernel_rfl) (fun _ _ _ h => h) (YI.val (by kernel_rfl) (fun _ _ => (by kernel_rfl))) hT1 ?_
  refine ED.take (k := 31) 21 ((bif b6 then undef else Value.pointer (some ⟨g2, 1, none⟩))) rfl rfl (by kernel_rfl) (by kernel_rfl) (by kernel_rfl) (by kernel_rfl) (fun _ _ _ h => h) (YI.gF b6 rfl (by kernel_rfl) (by rintro rfl; intro _ _; kernel_rfl)) hT1 ?_
  refine ED.take (k := 32) 22 ((bif b6 then undef else Value.slice (some ⟨bo, oo, none⟩) 2 co)) rfl rfl (by kernel_rfl) (by kernel_rfl) (by kernel_rfl) (by kernel_rfl) (fun _ _ _ h => h) (YI.gF b6 rfl (by kernel_rfl) (by rintro rfl; exact fun _ hS' => load1 (b := g2) (i := 1) rfl (by kernel_rfl) (by kernel_rfl) (hS'.cell (hO4.lt 0 rfl) (by simp) (hO4.cell 0 rfl (by kernel_rfl))))) hT1 ?_
  refine ED.take (k := 33) 23 ((bif b6 then undef else Value.pointer (some ⟨bo, oo, none⟩))) rfl rfl (by kernel_rfl) (by kernel_rfl) (by kernel_rfl) (by kernel_rfl) (fun _ _ _ h => h) (YI.gF b6 rfl (by kernel_rfl) (by rintro rfl; intro _ _; kernel_rfl)) hT1 ?_
  refine ED.take (k := 34) 24 ((bif b6 then undef else Value.pointer (some ⟨bo, oo + 1, none⟩))) rfl rfl (by kernel_rfl) (by kernel_rfl) (by kernel_rfl) (by kernel_rfl) (fun _ _ _ h => h) (YI.gF b6 rfl (by kernel_rfl) (by rintro rfl; intro _ _; kernel_rfl)) hT1 ?_
  refine ED.take (k := 35) 25 ((bif b6 then undef else Value.slice B1 n cw)) rfl rfl (by kernel_rfl) (by kernel_rfl) (by kernel_rfl) (by kernel_rfl) (fun _ _ _ h => h) (YI.gF b6 rfl (by kernel_rfl) (by rintro rfl; exact fun _ hS' => load1 (b := bo) (i := oo + 1) rfl (by kernel_rfl) (by kernel_rfl) (hS'.cell (Nat.lt_of_lt_of_le (rng_lt hT) hS5.size) (by simp) (hS5.cell (rng_lt hT) (by simp) (hT 1 _ (by kernel_rfl)))))) hT1 ?_
  refine ED.take (k := 36) 26 ((bif b6 then undef else Value.int .i64 (n : Int))) rfl rfl (by kernel_rfl) (by kernel_rfl) (by kernel_rfl) (by kernel_rfl) (fun _ _ _ h => h) (YI.gF b6 rfl (by kernel_rfl) (by rintro rfl; intro _ _; kernel_rfl)) hT1 ?_
  refine ED.take (k := 37) 27 ((bif b6 then undef else Value.bool true)) rfl rfl (by kernel_rfl) (by kernel_rfl) (by kernel_rfl) (by kernel_rfl) (fun _ _ _ h => h) (YI.gF b6 rfl (by kernel_rfl) (by rintro rfl; exact fun _ _ => (run_eq (v := .bool ((n : Int) != (2 : Int))) (by kernel_rfl) (by rw [show ((n : Int) != (2 : Int)) = true from hn])))) hT1 ?_
  refine ED.take (k := 38) 28 (.bool true) rfl rfl (by kernel_rfl) (by kernel_rfl) (by kernel_rfl) (by kernel_rfl) (fun _ _ _ h => h) (YI.val (by kernel_rfl) (fun _ _ => (run_eq (v := .bool (bif b6 then true else true)) (pick_run rfl (by kernel_rfl) (fun _ => (by kernel_rfl)) (by rintro rfl; kernel_rfl)) (by cases b6 <;> rfl)))) hT1 ?_
  refine ED.take (k := 39) 29 (.bool true) rfl rfl (by kernel_rfl) (by kernel_rfl) (by kernel_rfl) (by kernel_rfl) (fun _ _ _ h => h) (YI.val (by kernel_rfl) (fun _ _ => (by kernel_rfl))) hT1 ?_
  refine ED.take (k := 40) 30 undef rfl rfl (by kernel_rfl) (by kernel_rfl) (by kernel_rfl) (by kernel_rfl) (fun _ _ _ h => h) (YI.skip (by kernel_rfl)) hT1 ?_
  refine ED.take (k := 41) 31 undef rfl rfl (by kernel_rfl) (by kernel_rfl) (by kernel_rfl) (by kernel_rfl) (fun _ _ _ h => h) (YI.skip (by kernel_rfl)) hT1 ?_
  refine ED.take (k := 42) 32 undef rfl rfl (by kernel_rfl) (by kernel_rfl) (by kernel_rfl) (by kernel_rfl) (fun _ _ _ h => h) (YI.skip (by kernel_rfl)) hT1 ?_
  refine ED.take (k := 43) 33 undef rfl rfl (by kernel_rfl) (by kernel_rfl) (by kernel_rfl) (by kernel_rfl) (fun _ _ _ h => h) (YI.skip (by kernel_rfl)) hT1 ?_
  refine ED.take (k := 44) 34 (.bool true) rfl rfl (by kernel_rfl) (by kernel_rfl) (by kernel_rfl) (by kernel_rfl) (fun _ _ _ h => h) (YI.val (by kernel_rfl) (fun _ _ => (by kernel_rfl))) hT1 ?_
  refine ED.done (by kernel_rfl) ?_
  refine thenN ?_
  refine CW.condT (by kernel_rfl) ?_
  refine CW.seq ?_
  refine CW.region ?_
  refine EL.op (OPW.val (k := 4) (.int .i64 (-1)) rfl (by kernel_rfl) (by kernel_rfl) (by kernel_rfl) ?_)
  refine EL.nil ?_
  refine thenN ?_
  refine CW.ret ?_
  refine thenR ?_
  refine bp_ret (v := .int .i64 (-1)) (by kernel_rfl) ?_
  refine ⟨?_, hS5.toBelow⟩
  rfl
variable (bw ow : Nat) (hT : w.rangeAt bo oo [.int .i64 am1, .slice (some ⟨bw, ow, none⟩) 2 cw, .int .i64 am2, .slice B2 n2 c2]) (h0 h1 : Nat → Int) (af0 wt0 af1 wt1 : Int)
include hT
variable (hclient : -9223372036854775808 ≤ client ∧ client ≤ 9223372036854775807) (hpeer : -9223372036854775808 ≤ peer ∧ peer ≤ 9223372036854775807)
include hclient hpeer
set_option maxHeartbeats 1000000 in
theorem owner3 (K L : Option Addr) (n m ck cq : Nat) (hW : w.rangeAt bw ow (cat [wyC (.slice K n ck) h0 af0 wt0, wyC (.slice L m cq) h1 af1 wt1])) (hn : ((n : Int) == (1 : Int)) = false) :
    OwnerR id client peer at_ cap wait window kind tower channel amount s r D S nD d nS sg w (.slice (some ⟨bi, oi, none⟩) 1 ci) (.slice (some ⟨bo, oo, none⟩) 2 co) (-1) := by
  have hO := own_nil w
  have hS := Sep.refl w.heap.size [] w
  refine calls_L Try.func46 rfl 145 [(0, .agg (chnC id client peer s at_ cap wait window).toArray), (1, .agg (txC (.slice (some ⟨bi, oi, none⟩) 1 ci) (.slice (some ⟨bo, oo, none⟩) 2 co) kind tower channel amount r D nD d S nS sg).toArray)] (by kernel_rfl) ?_
  refine CW.seq ?_
  refine CW.region ?_
  refine EL.op (OPW.new (k := 2) (ob := cellsO (chnC id client peer s at_ cap wait window) 27) mkP rfl (by kernel_rfl) (by kernel_rfl) (by kernel_rfl) ?_)
  intro g1 w1 hg1 hw1
  have hO1 : Own w1 [(g1, (chnC id client peer s at_ cap wait window), 27)] := (hO.alloc hg1 hw1).norm (by kernel_rfl)
  have hS1 := hS.alloc (Nat.le_refl _) hw1
  have hn1 : w.heap.size ≤ g1 := hg1 ▸ hS.size
  refine EL.op (OPW.new (k := 3) (ob := cellsO (txC (.slice (some ⟨bi, oi, none⟩) 1 ci) (.slice (some ⟨bo, oo, none⟩) 2 co) kind tower channel amount r D nD d S nS sg) 45) mkP rfl (by kernel_rfl) (by kernel_rfl) (by kernel_rfl) ?_)
  intro g2 w2 hg2 hw2
  have hO2 : Own w2 [(g2, (txC (.slice (some ⟨bi, oi, none⟩) 1 ci) (.slice (some ⟨bo, oo, none⟩) 2 co) kind tower channel amount r D nD d S nS sg), 45), (g1, (chnC id client peer s at_ cap wait window), 27)] := (hO1.alloc hg2 hw2).norm (by kernel_rfl)
  have hS2 := hS1.alloc (Nat.le_refl _) hw2
  have hn2 : w.heap.size ≤ g2 := hg2 ▸ hS1.size
  refine EL.op (OPW.val (k := 4) (.int .i64 0) rfl (by kernel_rfl) (by kernel_rfl) (by kernel_rfl) ?_)
  refine EL.nil ?_
  refine thenN ?_
  refine CW.seq ?_
  refine CW.seq ?_
  refine ED.start (fun w' => Sep w2.drew.heap.size [] w2.drew w') (by kernel_rfl) ?_
  rintro _ rfl
  have hO4 := hO2.drew
  have hS5 := hS2.drew
  have hT1 : Sep w2.drew.heap.size [] w2.drew w2.drew := .refl _ _ _
  refine ED.take (k := 10) 0 (.pointer (some ⟨g2, 0, none⟩)) rfl rfl (by kernel_rfl) (by kernel_rfl) (by kernel_rfl) (by kernel_rfl) (fun _ _ _ h => h) (YI.val (by kernel_rfl) (fun _ _ => (by kernel_rfl))) hT1 ?_
  refine ED.take (k := 11) 1 (.slice (some ⟨bi, oi, none⟩) 1 ci) rfl rfl (by kernel_rfl) (by kernel_rfl) (by kernel_rfl) (by kernel_rfl) (fun _ _ _ h => h) (YI.val (by kernel_rfl) (fun _ hS' => load1 (b := g2) (i := 0) rfl (by kernel_rfl) (by kernel_rfl) (hS'.cell (hO4.lt 0 rfl) (by simp) (hO4.cell 0 rfl (by kernel_rfl))))) hT1 ?_
  refine ED.take (k := 12) 2 (.int .i64 1) rfl rfl (by kernel_rfl) (by kernel_rfl) (by kernel_rfl) (by kernel_rfl) (fun _ _ _ h => h) (YI.val (by kernel_rfl) (fun _ _ => (by kernel_rfl))) hT1 ?_
  refine ED.take (k := 13) 3 (.bool false) rfl rfl (by kernel_rfl) (by kernel_rfl) (by kernel_rfl) (by kernel_rfl) (fun _ _ _ h => h) (YI.val (by kernel_rfl) (fun _ _ => (by kernel_rfl))) hT1 ?_
  refine ED.take (k := 14) 4 (.bool false) rfl rfl (by kernel_rfl) (by kernel_rfl) (by kernel_rfl) (by kernel_rfl) (fun _ _ _ h => h) (YI.val (by kernel_rfl) (fun _ _ => (by kernel_rfl))) hT1 ?_
  refine ED.take (k := 15) 5 (.pointer (some ⟨g2, 0, none⟩)) rfl rfl (by kernel_rfl) (by kernel_rfl) (by kernel_rfl) (by kernel_rfl) (fun _ _ _ h => h) (YI.val (by kernel_rfl) (fun _ _ => (by kernel_rfl))) hT1 ?_
  refine ED.take (k := 16) 6 (.slice (some ⟨bi, oi, none⟩) 1 ci) rfl rfl (by kernel_rfl) (by kernel_rfl) (by kernel_rfl) (by kernel_rfl) (fun _ _ _ h => h) (YI.val (by kernel_rfl) (fun _ hS' => load1 (b := g2) (i := 0) rfl (by kernel_rfl) (by kernel_rfl) (hS'.cell (hO4.lt 0 rfl) (by simp) (hO4.cell 0 rfl (by kernel_rfl))))) hT1 ?_
  refine ED.take (k := 17) 7 (.pointer (some ⟨bi, oi, none⟩)) rfl rfl (by kernel_rfl) (by kernel_rfl) (by kernel_rfl) (by kernel_rfl) (fun _ _ _ h => h) (YI.val (by kernel_rfl) (fun _ _ => (by kernel_rfl))) hT1 ?_
  refine ED.take (k := 18) 8 (.pointer (some ⟨bi, oi, none⟩)) rfl rfl (by kernel_rfl) (by kernel_rfl) (by kernel_rfl) (by kernel_rfl) (fun _ _ _ h => h) (YI.val (by kernel_rfl) (fun _ _ => (by kernel_rfl))) hT1 ?_
  refine ED.take (k := 19) 9 (.agg ((cat [sumV xi, [.int .i64 iat]])).toArray) rfl rfl (by kernel_rfl) (by kernel_rfl) (by kernel_rfl) (by kernel_rfl) (fun _ _ _ h => h) (YI.val (by kernel_rfl) (fun _ hS' => loadN (b := bi) (i := oi) rfl (by kernel_rfl) (by kernel_rfl) (by kernel_rfl) (hS'.range (Nat.lt_of_lt_of_le (rng_lt hI) hS5.size) (by simp) (hS5.range (rng_lt hI) (by simp) (rng_sub hI 0 (vs := (cat [sumV xi, [.int .i64 iat]])) (by kernel_rfl)))))) hT1 ?_
  refine ED.take (k := 20) 10 (.pointer (some ⟨g1, 3, none⟩)) rfl rfl (by kernel_rfl) (by kernel_rfl) (by kernel_rfl) (by kernel_rfl) (fun _ _ _ h => h) (YI.val (by kernel_rfl) (fun _ _ => (by kernel_rfl))) hT1 ?_
  refine ED.take (k := 21) 11 (.agg ((cat [sumV s, [.int .i64 at_]])).toArray) rfl rfl (by kernel_rfl) (by kernel_rfl) (by kernel_rfl) (by kernel_rfl) (fun _ _ _ h => h) (YI.val (by kernel_rfl) (fun _ hS' => loadN (b := g1) (i := 3) rfl (by kernel_rfl) (by kernel_rfl) (by kernel_rfl) (hS'.range (hO4.lt 1 rfl) (by simp) (hO4.range 1 (vs := (cat [sumV s, [.int .i64 at_]])) rfl (by kernel_rfl))))) hT1 ?_
  refine ED.takeB (k := 22) 12 (!(((sumEq xi s) && ((iat == at_) && true)))) rfl rfl (by kernel_rfl) (by kernel_rfl) (by kernel_rfl) (by kernel_rfl) (fun _ _ _ h => h) (YI.val (by kernel_rfl) (fun _ _ => (neq_run (b := ((sumEq xi s) && ((iat == at_) && true))) rfl (by kernel_rfl) (by kernel_rfl) (by kernel_rfl) (by kernel_rfl)))) hT1 ?_
  intro b6 hb6
  refine ED.take (k := 23) 13 (.bool b6) rfl rfl (by kernel_rfl) (by kernel_rfl) (by kernel_rfl) (by kernel_rfl) (fun _ _ _ h => h) (YI.val (by kernel_rfl) (fun _ _ => (by kernel_rfl))) hT1 ?_
  refine ED.take (k := 24) 14 (.bool b6) rfl rfl (by kernel_rfl) (by kernel_rfl) (by kernel_rfl) (by kernel_rfl) (fun _ _ _ h => h) (YI.val (by kernel_rfl) (fun _ _ => (by kernel_rfl))) hT1 ?_
  refine ED.take (k := 25) 15 ((bif b6 then undef else Value.pointer (some ⟨g2, 1, none⟩))) rfl rfl (by kernel_rfl) (by kernel_rfl) (by kernel_rfl) (by kernel_rfl) (fun _ _ _ h => h) (YI.gF b6 rfl (by kernel_rfl) (by rintro rfl; intro _ _; kernel_rfl)) hT1 ?_
  refine ED.take (k := 26) 16 ((bif b6 then undef else Value.slice (some ⟨bo, oo, none⟩) 2 co)) rfl rfl (by kernel_rfl) (by kernel_rfl) (by kernel_rfl) (by kernel_rfl) (fun _ _ _ h => h) (YI.gF b6 rfl (by kernel_rfl) (by rintro rfl; exact fun _ hS' => load1 (b := g2) (i := 1) rfl (by kernel_rfl) (by kernel_rfl) (hS'.cell (hO4.lt 0 rfl) (by simp) (hO4.cell 0 rfl (by kernel_rfl))))) hT1 ?_
  refine ED.take (k := 27) 17 ((bif b6 then undef else Value.int .i64 2)) rfl rfl (by kernel_rfl) (by kernel_rfl) (by kernel_rfl) (by kernel_rfl) (fun _ _ _ h => h) (YI.gF b6 rfl (by kernel_rfl) (by rintro rfl; intro _ _; kernel_rfl)) hT1 ?_
  refine ED.take (k := 28) 18 ((bif b6 then undef else Value.bool false)) rfl rfl (by kernel_rfl) (by kernel_rfl) (by kernel_rfl) (by kernel_rfl) (fun _ _ _ h => h) (YI.gF b6 rfl (by kernel_rfl) (by rintro rfl; intro _ _; kernel_rfl)) hT1 ?_
  refine ED.take (k := 29) 19 (.bool b6) rfl rfl (by kernel_rfl) (by kernel_rfl) (by kernel_rfl) (by kernel_rfl) (fun _ _ _ h => h) (YI.val (by kernel_rfl) (fun _ _ => (run_eq (v := .bool (bif b6 then true else false)) (pick_run (b := b6) (p := true) (q := false) rfl (by kernel_rfl) (fun _ => (by kernel_rfl)) (by rintro rfl; kernel_rfl)) (by cases b6 <;> rfl)))) hT1 ?_
  refine ED.take (k := 30) 20 (.bool b6) rfl rfl (by kernel_rfl) (by kernel_rfl) (by kernel_rfl) (by kernel_rfl) (fun _ _ _ h => h) (YI.val (by kernel_rfl) (fun _ _ => (by kernel_rfl))) hT1 ?_
  refine ED.take (k := 31) 21 ((bif b6 then undef else Value.pointer (some ⟨g2, 1, none⟩))) rfl rfl (by kernel_rfl) (by kernel_rfl) (by kernel_rfl) (by kernel_rfl) (fun _ _ _ h => h) (YI.gF b6 rfl (by kernel_rfl) (by rintro rfl; intro _ _; kernel_rfl)) hT1 ?_
  refine ED.take (k := 32) 22 ((bif b6 then undef else Value.slice (some ⟨bo, oo, none⟩) 2 co)) rfl rfl (by kernel_rfl) (by kernel_rfl) (by kernel_rfl) (by kernel_rfl) (fun _ _ _ h => h) (YI.gF b6 rfl (by kernel_rfl) (by rintro rfl; exact fun _ hS' => load1 (b := g2) (i := 1) rfl (by kernel_rfl) (by kernel_rfl) (hS'.cell (hO4.lt 0 rfl) (by simp) (hO4.cell 0 rfl (by kernel_rfl))))) hT1 ?_
  refine ED.take (k := 33) 23 ((bif b6 then undef else Value.pointer (some ⟨bo, oo, none⟩))) rfl rfl (by kernel_rfl) (by kernel_rfl) (by kernel_rfl) (by kernel_rfl) (fun _ _ _ h => h) (YI.gF b6 rfl (by kernel_rfl) (by rintro rfl; intro _ _; kernel_rfl)) hT1 ?_
  refine ED.take (k := 34) 24 ((bif b6 then undef else Value.pointer (some ⟨bo, oo + 1, none⟩))) rfl rfl (by kernel_rfl) (by kernel_rfl) (by kernel_rfl) (by kernel_rfl) (fun _ _ _ h => h) (YI.gF b6 rfl (by kernel_rfl) (by rintro rfl; intro _ _; kernel_rfl)) hT1 ?_
  refine ED.take (k := 35) 25 ((bif b6 then undef else Value.slice (some ⟨bw, ow, none⟩) 2 cw)) rfl rfl (by kernel_rfl) (by kernel_rfl) (by kernel_rfl) (by kernel_rfl) (fun _ _ _ h => h) (YI.gF b6 rfl (by kernel_rfl) (by rintro rfl; exact fun _ hS' => load1 (b := bo) (i := oo + 1) rfl (by kernel_rfl) (by kernel_rfl) (hS'.cell (Nat.lt_of_lt_of_le (rng_lt hT) hS5.size) (by simp) (hS5.cell (rng_lt hT) (by simp) (hT 1 _ (by kernel_rfl)))))) hT1 ?_
  refine ED.take (k := 36) 26 ((bif b6 then undef else Value.int .i64 2)) rfl rfl (by kernel_rfl) (by kernel_rfl) (by kernel_rfl) (by kernel_rfl) (fun _ _ _ h => h) (YI.gF b6 rfl (by kernel_rfl) (by rintro rfl; intro _ _; kernel_rfl)) hT1 ?_
  refine ED.take (k := 37) 27 ((bif b6 then undef else Value.bool false)) rfl rfl (by kernel_rfl) (by kernel_rfl) (by kernel_rfl) (by kernel_rfl) (fun _ _ _ h => h) (YI.gF b6 rfl (by kernel_rfl) (by rintro rfl; intro _ _; kernel_rfl)) hT1 ?_
  refine ED.take (k := 38) 28 (.bool b6) rfl rfl (by kernel_rfl) (by kernel_rfl) (by kernel_rfl) (by kernel_rfl) (fun _ _ _ h => h) (YI.val (by kernel_rfl) (fun _ _ => (run_eq (v := .bool (bif b6 then true else false)) (pick_run (b := b6) (p := true) (q := false) rfl (by kernel_rfl) (fun _ => (by kernel_rfl)) (by rintro rfl; kernel_rfl)) (by cases b6 <;> rfl)))) hT1 ?_
  refine ED.take (k := 39) 29 (.bool b6) rfl rfl (by kernel_rfl) (by kernel_rfl) (by kernel_rfl) (by kernel_rfl) (fun _ _ _ h => h) (YI.val (by kernel_rfl) (fun _ _ => (by kernel_rfl))) hT1 ?_
  refine ED.take (k := 40) 30 ((bif b6 then undef else Value.pointer (some ⟨g2, 2, none⟩))) rfl rfl (by kernel_rfl) (by kernel_rfl) (by kernel_rfl) (by kernel_rfl) (fun _ _ _ h => h) (YI.gF b6 rfl (by kernel_rfl) (by rintro rfl; intro _ _; kernel_rfl)) hT1 ?_
  refine ED.take (k := 41) 31 ((bif b6 then undef else Value.pointer (some ⟨g2, 2, none⟩))) rfl rfl (by kernel_rfl) (by kernel_rfl) (by kernel_rfl) (by kernel_rfl) (fun _ _ _ h => h) (YI.gF b6 rfl (by kernel_rfl) (by rintro rfl; intro _ _; kernel_rfl)) hT1 ?_
  refine ED.take (k := 42) 32 ((bif b6 then undef else Value.int .i64 kind)) rfl rfl (by kernel_rfl) (by kernel_rfl) (by kernel_rfl) (by kernel_rfl) (fun _ _ _ h => h) (YI.gF b6 rfl (by kernel_rfl) (by rintro rfl; exact fun _ hS' => load1 (b := g2) (i := 2) rfl (by kernel_rfl) (by kernel_rfl) (hS'.cell (hO4.lt 0 rfl) (by simp) (hO4.cell 0 rfl (by kernel_rfl))))) hT1 ?_
  refine ED.take (k := 43) 33 ((bif b6 then undef else Value.bool (kind != (0 : Int)))) rfl rfl (by kernel_rfl) (by kernel_rfl) (by kernel_rfl) (by kernel_rfl) (fun _ _ _ h => h) (YI.gF b6 rfl (by kernel_rfl) (by rintro rfl; intro _ _; kernel_rfl)) hT1 ?_
  refine ED.takeB (k := 44) 34 (b6 || (kind != (0 : Int))) rfl rfl (by kernel_rfl) (by kernel_rfl) (by kernel_rfl) (by kernel_rfl) (fun _ _ _ h => h) (YI.val (by kernel_rfl) (fun _ _ => (pick_or rfl (by kernel_rfl) (by kernel_rfl) (by rintro rfl; kernel_rfl)))) hT1 ?_
  intro b7 hb7
  refine ED.done (by kernel_rfl) ?_
  refine thenN ?_
  refine CW.cond b7 (by kernel_rfl) (fun hc1 => ?_) (fun hc1 => ?_)
  · skip
    subst hc1
    refine CW.seq ?_
    refine CW.region ?_
    refine EL.op (OPW.val (k := 4) (.int .i64 (-1)) rfl (by kernel_rfl) (by kernel_rfl) (by kernel_rfl) ?_)
    refine EL.nil ?_
    refine thenN ?_
    refine CW.ret ?_
    refine thenR ?_
    refine bp_ret (v := .int .i64 (-1)) (by kernel_rfl) ?_
    refine ⟨?_, hS5.toBelow⟩
    rfl
  · skip
    subst hc1
    refine CW.skip ?_
    refine thenN ?_
    refine CW.seq ?_
    refine ED.start (fun w' => Sep w2.drew.drew.heap.size [] w2.drew.drew w') (by kernel_rfl) ?_
    rintro _ rfl
    have hO9 := hO4.drew
    have hS10 := hS5.drew
    have hT3 : Sep w2.drew.drew.heap.size [] w2.drew.drew w2.drew.drew := .refl _ _ _
    refine ED.take (k := 45) 0 (.pointer (some ⟨g2, 1, none⟩)) rfl rfl (by kernel_rfl) (by kernel_rfl) (by kernel_rfl) (by kernel_rfl) (fun _ _ _ h => h) (YI.val (by kernel_rfl) (fun _ _ => (by kernel_rfl))) hT3 ?_
    refine ED.take (k := 46) 1 (.slice (some ⟨bo, oo, none⟩) 2 co) rfl rfl (by kernel_rfl) (by kernel_rfl) (by kernel_rfl) (by kernel_rfl) (fun _ _ _ h => h) (YI.val (by kernel_rfl) (fun _ hS' => load1 (b := g2) (i := 1) rfl (by kernel_rfl) (by kernel_rfl) (hS'.cell (hO9.lt 0 rfl) (by simp) (hO9.cell 0 rfl (by kernel_rfl))))) hT3 ?_
    refine ED.take (k := 47) 2 (.pointer (some ⟨bo, oo, none⟩)) rfl rfl (by kernel_rfl) (by kernel_rfl) (by kernel_rfl) (by kernel_rfl) (fun _ _ _ h => h) (YI.val (by kernel_rfl) (fun _ _ => (by kernel_rfl))) hT3 ?_
    refine ED.take (k := 48) 3 (.pointer (some ⟨bo, oo + 1, none⟩)) rfl rfl (by kernel_rfl) (by kernel_rfl) (by kernel_rfl) (by kernel_rfl) (fun _ _ _ h => h) (YI.val (by kernel_rfl) (fun _ _ => (by kernel_rfl))) hT3 ?_
    refine ED.take (k := 49) 4 (.slice (some ⟨bw, ow, none⟩) 2 cw) rfl rfl (by kernel_rfl) (by kernel_rfl) (by kernel_rfl) (by kernel_rfl) (fun _ _ _ h => h) (YI.val (by kernel_rfl) (fun _ hS' => load1 (b := bo) (i := oo + 1) rfl (by kernel_rfl) (by kernel_rfl) (hS'.cell (Nat.lt_of_lt_of_le (rng_lt hT) hS10.size) (by simp) (hS10.cell (rng_lt hT) (by simp) (hT 1 _ (by kernel_rfl)))))) hT3 ?_
    refine ED.take (k := 50) 5 (.pointer (some ⟨bw, ow, none⟩)) rfl rfl (by kernel_rfl) (by kernel_rfl) (by kernel_rfl) (by kernel_rfl) (fun _ _ _ h => h) (YI.val (by kernel_rfl) (fun _ _ => (by kernel_rfl))) hT3 ?_
    refine ED.take (k := 51) 6 (.agg ((cat [[.slice K n ck], sumV h0, [.int .i64 af0, .int .i64 wt0]])).toArray) rfl rfl (by kernel_rfl) (by kernel_rfl) (by kernel_rfl) (by kernel_rfl) (fun _ _ _ h => h) (YI.val (by kernel_rfl) (fun _ hS' => loadN (b := bw) (i := ow) rfl (by kernel_rfl) (by kernel_rfl) (by kernel_rfl) (hS'.range (Nat.lt_of_lt_of_le (rng_lt hW) hS10.size) (by simp) (hS10.range (rng_lt hW) (by simp) (rng_sub hW 0 (vs := (cat [[.slice K n ck], sumV h0, [.int .i64 af0, .int .i64 wt0]])) (by kernel_rfl)))))) hT3 ?_
    refine ED.take (k := 52) 7 (.pointer (some ⟨g2, 1, none⟩)) rfl rfl (by kernel_rfl) (by kernel_rfl) (by kernel_rfl) (by kernel_rfl) (fun _ _ _ h => h) (YI.val (by kernel_rfl) (fun _ _ => (by kernel_rfl))) hT3 ?_
    refine ED.take (k := 53) 8 (.slice (some ⟨bo, oo, none⟩) 2 co) rfl rfl (by kernel_rfl) (by kernel_rfl) (by kernel_rfl) (by kernel_rfl) (fun _ _ _ h => h) (YI.val (by kernel_rfl) (fun _ hS' => load1 (b := g2) (i := 1) rfl (by kernel_rfl) (by kernel_rfl) (hS'.cell (hO9.lt 0 rfl) (by simp) (hO9.cell 0 rfl (by kernel_rfl))))) hT3 ?_
    refine ED.take (k := 54) 9 (.pointer (some ⟨bo, oo, none⟩)) rfl rfl (by kernel_rfl) (by kernel_rfl) (by kernel_rfl) (by kernel_rfl) (fun _ _ _ h => h) (YI.val (by kernel_rfl) (fun _ _ => (by kernel_rfl))) hT3 ?_
    refine ED.take (k := 55) 10 (.pointer (some ⟨bo, oo + 1, none⟩)) rfl rfl (by kernel_rfl) (by kernel_rfl) (by kernel_rfl) (by kernel_rfl) (fun _ _ _ h => h) (YI.val (by kernel_rfl) (fun _ _ => (by kernel_rfl))) hT3 ?_
    refine ED.take (k := 56) 11 (.slice (some ⟨bw, ow, none⟩) 2 cw) rfl rfl (by kernel_rfl) (by kernel_rfl) (by kernel_rfl) (by kernel_rfl) (fun _ _ _ h => h) (YI.val (by kernel_rfl) (fun _ hS' => load1 (b := bo) (i := oo + 1) rfl (by kernel_rfl) (by kernel_rfl) (hS'.cell (Nat.lt_of_lt_of_le (rng_lt hT) hS10.size) (by simp) (hS10.cell (rng_lt hT) (by simp) (hT 1 _ (by kernel_rfl)))))) hT3 ?_
    refine ED.take (k := 57) 12 (.pointer (some ⟨bw, ow + 35, none⟩)) rfl rfl (by kernel_rfl) (by kernel_rfl) (by kernel_rfl) (by kernel_rfl) (fun _ _ _ h => h) (YI.val (by kernel_rfl) (fun _ _ => (by kernel_rfl))) hT3 ?_
    refine ED.take (k := 58) 13 (.agg ((cat [[.slice L m cq], sumV h1, [.int .i64 af1, .int .i64 wt1]])).toArray) rfl rfl (by kernel_rfl) (by kernel_rfl) (by kernel_rfl) (by kernel_rfl) (fun _ _ _ h => h) (YI.val (by kernel_rfl) (fun _ hS' => loadN (b := bw) (i := ow + 35) rfl (by kernel_rfl) (by kernel_rfl) (by kernel_rfl) (hS'.range (Nat.lt_of_lt_of_le (rng_lt hW) hS10.size) (by simp) (hS10.range (rng_lt hW) (by simp) (rng_sub hW 35 (vs := (cat [[.slice L m cq], sumV h1, [.int .i64 af1, .int .i64 wt1]])) (by kernel_rfl)))))) hT3 ?_
    refine ED.all [14, 15] (by kernel_rfl) (by simp) ?_
    refine EDo.cons rfl ?_ ?_
    · skip
      refine (OPW.new (k := 5) (ob := cellsO (cat [[.slice none 0 0], sumV (fun _ => 0), [.int .i64 0, .int .i64 0]]) 35) mkP rfl (by kernel_rfl) (by kernel_rfl) (by kernel_rfl) ?_)
      intro g11 w11 hg11 hw11
      have hO11 : Own w11 [(g11, (cat [[.slice none 0 0], sumV (fun _ => 0), [.int .i64 0, .int .i64 0]]), 35), (g2, (txC (.slice (some ⟨bi, oi, none⟩) 1 ci) (.slice (some ⟨bo, oo, none⟩) 2 co) kind tower channel amount r D nD d S nS sg), 45), (g1, (chnC id client peer s at_ cap wait window), 27)] := (hO9.alloc hg11 hw11).norm (by kernel_rfl)
      have hS11 := hS10.alloc (Nat.le_refl _) hw11
      have hn11 : w.heap.size ≤ g11 := hg11 ▸ hS10.size
      have hr12 : w2.drew.drew.heap.size ≤ g11 := hg11 ▸ hT3.size
      have hT13 : Sep w2.drew.drew.heap.size [] w2.drew.drew w11 := hT3.alloc (Nat.le_refl _) hw11
      refine ⟨hT13, ?_⟩
      refine ED.all [15] (by kernel_rfl) (by simp) ?_
      refine EDo.cons rfl ?_ EDo.nil
      refine (OPW.new (k := 6) (ob := cellsO (cat [[.slice none 0 0], sumV (fun _ => 0), [.int .i64 0, .int .i64 0]]) 35) mkP rfl (by kernel_rfl) (by kernel_rfl) (by kernel_rfl) ?_)
      intro g14 w14 hg14 hw14
      have hO14 : Own w14 [(g14, (cat [[.slice none 0 0], sumV (fun _ => 0), [.int .i64 0, .int .i64 0]]), 35), (g11, (cat [[.slice none 0 0], sumV (fun _ => 0), [.int .i64 0, .int .i64 0]]), 35), (g2, (txC (.slice (some ⟨bi, oi, none⟩) 1 ci) (.slice (some ⟨bo, oo, none⟩) 2 co) kind tower channel amount r D nD d S nS sg), 45), (g1, (chnC id client peer s at_ cap wait window), 27)] := (hO11.alloc hg14 hw14).norm (by kernel_rfl)
      have hS14 := hS11.alloc (Nat.le_refl _) hw14
      have hn14 : w.heap.size ≤ g14 := hg14 ▸ hS11.size
      have hr15 : w2.drew.drew.heap.size ≤ g14 := hg14 ▸ hT13.size
      have hT16 : Sep w2.drew.drew.heap.size [] w2.drew.drew w14 := hT13.alloc (Nat.le_refl _) hw14
      refine ⟨hT16, ?_⟩
      refine ED.all [16] (by kernel_rfl) (by simp) ?_
      refine EDo.cons rfl ?_ EDo.nil
      refine (OPW.store (b := g11) (i := 0) (cat [[.slice K n ck], sumV h0, [.int .i64 af0, .int .i64 wt0]]) rfl (by kernel_rfl) rfl (by kernel_rfl) (by kernel_rfl) (by kernel_rfl) (by kernel_rfl) (hO14.there 1 rfl (Nat.le_of_ble_eq_true (by kernel_rfl))) ?_)
      intro w17 hw17
      have hO17 : Own w17 [(g14, (cat [[.slice none 0 0], sumV (fun _ => 0), [.int .i64 0, .int .i64 0]]), 35), (g11, (cat [[.slice K n ck], sumV h0, [.int .i64 af0, .int .i64 wt0]]), 35), (g2, (txC (.slice (some ⟨bi, oi, none⟩) 1 ci) (.slice (some ⟨bo, oo, none⟩) 2 co) kind tower channel amount r D nD d S nS sg), 45), (g1, (chnC id client peer s at_ cap wait window), 27)] := (hO14.set' 1 (vs := (cat [[.slice K n ck], sumV h0, [.int .i64 af0, .int .i64 wt0]])) rfl (Nat.le_of_ble_eq_true (by kernel_rfl)) hw17).norm (by kernel_rfl)
      have hS17 := hS14.set' (.inl hn11) hw17
      have hT18 : Sep w2.drew.drew.heap.size [] w2.drew.drew w17 := hT16.set' (.inl hr12) hw17
      refine ⟨hT18, ?_⟩
      refine ED.all [17] (by kernel_rfl) (by simp) ?_
      refine EDo.cons rfl ?_ EDo.nil
      refine (OPW.store (b := g14) (i := 0) (cat [[.slice L m cq], sumV h1, [.int .i64 af1, .int .i64 wt1]]) rfl (by kernel_rfl) rfl (by kernel_rfl) (by kernel_rfl) (by kernel_rfl) (by kernel_rfl) (hO17.there 0 rfl (Nat.le_of_ble_eq_true (by kernel_rfl))) ?_)
      intro w19 hw19
      have hO19 : Own w19 [(g14, (cat [[.slice L m cq], sumV h1, [.int .i64 af1, .int .i64 wt1]]), 35), (g11, (cat [[.slice K n ck], sumV h0, [.int .i64 af0, .int .i64 wt0]]), 35), (g2, (txC (.slice (some ⟨bi, oi, none⟩) 1 ci) (.slice (some ⟨bo, oo, none⟩) 2 co) kind tower channel amount r D nD d S nS sg), 45), (g1, (chnC id client peer s at_ cap wait window), 27)] := (hO17.set' 0 (vs := (cat [[.slice L m cq], sumV h1, [.int .i64 af1, .int .i64 wt1]])) rfl (Nat.le_of_ble_eq_true (by kernel_rfl)) hw19).norm (by kernel_rfl)
      have hS19 := hS17.set' (.inl hn14) hw19
      have hT20 : Sep w2.drew.drew.heap.size [] w2.drew.drew w19 := hT18.set' (.inl hr15) hw19
      refine ⟨hT20, ?_⟩
      refine ED.done (by kernel_rfl) ?_
      refine thenN ?_
      refine CW.seq ?_
      refine CW.seq ?_
      refine CW.region ?_
      refine EL.op (OPW.val (k := 59) (.pointer (some ⟨g1, 1, none⟩)) rfl (by kernel_rfl) (by kernel_rfl) (by kernel_rfl) ?_)
      refine EL.op (OPW.val (k := 60) (.int .i64 client) rfl (by kernel_rfl) (by kernel_rfl) (load1 (b := g1) (i := 1) rfl (by kernel_rfl) (by kernel_rfl) (hO19.cell 3 rfl (by kernel_rfl))) ?_)
      refine EL.op (OPW.val (k := 61) (.pointer (some ⟨g1, 2, none⟩)) rfl (by kernel_rfl) (by kernel_rfl) (by kernel_rfl) ?_)
      refine EL.op (OPW.val (k := 62) (.int .i64 peer) rfl (by kernel_rfl) (by kernel_rfl) (load1 (b := g1) (i := 2) rfl (by kernel_rfl) (by kernel_rfl) (hO19.cell 3 rfl (by kernel_rfl))) ?_)
      refine EL.op (OPW.val (k := 63) (.agg #[.int .i64 client, .int .i64 peer]) rfl (by kernel_rfl) (by kernel_rfl) (by kernel_rfl) ?_)
      refine EL.op (OPW.val (k := 64) (.int .i64 0) rfl (by kernel_rfl) (by kernel_rfl) (by kernel_rfl) ?_)
      refine EL.nil ?_
      refine thenN ?_
      refine CW.block ?_
      refine CW.rounds 2 ?_
      refine CW.seq ?_
      refine CW.region ?_
      refine EL.op (OPW.val (k := 65) (.bool true) rfl (by kernel_rfl) (by kernel_rfl) (by kernel_rfl) ?_)
      refine EL.nil ?_
      refine thenN ?_
      refine CW.seq ?_
      refine CW.condT (by kernel_rfl) ?_
      refine CW.skip ?_
      refine thenN ?_
      refine CW.seq ?_
      refine CW.block ?_
      refine CW.seq ?_
      refine CW.region ?_
      refine EL.op (OPW.val (k := 66) (.int .i64 0) rfl (by kernel_rfl) (by kernel_rfl) (by kernel_rfl) ?_)
      refine EL.op (OPW.val (k := 67) (.int .i64 client) rfl (by kernel_rfl) (by kernel_rfl) (by kernel_rfl) ?_)
      refine EL.op (OPW.val (k := 7) (.int .i64 0) rfl (by kernel_rfl) (by kernel_rfl) (by kernel_rfl) ?_)
      refine EL.op (OPW.val (k := 8) (.int .i64 client) rfl (by kernel_rfl) (by kernel_rfl) (by kernel_rfl) ?_)
      refine EL.nil ?_
      refine thenN ?_
      refine CW.seq ?_
      refine CW.region ?_
      refine EL.op (OPW.val (k := 68) (.pointer (some ⟨g1, 1, none⟩)) rfl (by kernel_rfl) (by kernel_rfl) (by kernel_rfl) ?_)
      refine EL.op (OPW.val (k := 69) (.int .i64 client) rfl (by kernel_rfl) (by kernel_rfl) (load1 (b := g1) (i := 1) rfl (by kernel_rfl) (by kernel_rfl) (hO19.cell 3 rfl (by kernel_rfl))) ?_)
      refine EL.op (OPW.val (k := 70) (.pointer (some ⟨g1, 2, none⟩)) rfl (by kernel_rfl) (by kernel_rfl) (by kernel_rfl) ?_)
      refine EL.op (OPW.val (k := 71) (.int .i64 peer) rfl (by kernel_rfl) (by kernel_rfl) (load1 (b := g1) (i := 2) rfl (by kernel_rfl) (by kernel_rfl) (hO19.cell 3 rfl (by kernel_rfl))) ?_)
      refine EL.op (OPW.val (k := 72) (.int .i64 (IntKind.i64.wrap (client + peer))) rfl (by kernel_rfl) (by kernel_rfl) (by kernel_rfl) ?_)
      refine EL.op (OPW.val (k := 73) (.int .i64 client) rfl (by kernel_rfl) (by kernel_rfl) (by kernel_rfl) ?_)
      refine EL.op (OPW.val (k := 74) (.int .i64 peer) rfl (by kernel_rfl) (by kernel_rfl) (run_eq (v := .int .i64 (IntKind.i64.wrap ((IntKind.i64.wrap (client + peer)) - client))) (by kernel_rfl) (wr_l hpeer)) ?_)
      refine EL.op (OPW.val (k := 9) (.int .i64 peer) rfl (by kernel_rfl) (by kernel_rfl) (by kernel_rfl) ?_)
      refine EL.nil ?_
      refine thenN ?_
      refine CW.seq ?_
      refine CW.region ?_
      refine EL.opA (OPW.val (k := 75) (.pointer (some ⟨g11, 0, none⟩)) rfl (by kernel_rfl) (by kernel_rfl) (by kernel_rfl) ?_)
      refine EL.opA (OPW.val (k := 76) (.slice K n ck) rfl (by kernel_rfl) (by kernel_rfl) (load1 (b := g11) (i := 0) rfl (by kernel_rfl) (by kernel_rfl) (hO19.cell 1 rfl (by kernel_rfl))) ?_)
      refine EL.opA (OPW.val (k := 77) (.int .i64 (n : Int)) rfl (by kernel_rfl) (by kernel_rfl) (by kernel_rfl) ?_)
      refine EL.opA (OPW.val (k := 78) (.bool false) rfl (by kernel_rfl) (by kernel_rfl) (run_eq (v := .bool ((n : Int) == (1 : Int))) (by kernel_rfl) (by rw [show ((n : Int) == (1 : Int)) = false from hn])) ?_)
      refine EL.opA (OPW.val (k := 79) (.bool false) rfl (by kernel_rfl) (by kernel_rfl) (by kernel_rfl) ?_)
      refine EL.opA (OPW.skipT (k := 80) rfl (by kernel_rfl) (by kernel_rfl) ?_)
      refine EL.opA (OPW.skipT (k := 81) rfl (by kernel_rfl) (by kernel_rfl) ?_)
      refine EL.opA (OPW.skipT (k := 82) rfl (by kernel_rfl) (by kernel_rfl) ?_)
      refine EL.opA (OPW.skipT (k := 83) rfl (by kernel_rfl) (by kernel_rfl) ?_)
      refine EL.opA (OPW.skipT (k := 84) rfl (by kernel_rfl) (by kernel_rfl) ?_)
      refine EL.opA (OPW.skipT (k := 85) rfl (by kernel_rfl) (by kernel_rfl) ?_)
      refine EL.opA (OPW.val (k := 86) (.bool false) rfl (by kernel_rfl) (by kernel_rfl) (by kernel_rfl) ?_)
      refine EL.opA (OPW.val (k := 87) (.bool false) rfl (by kernel_rfl) (by kernel_rfl) (by kernel_rfl) ?_)
      refine EL.opA (OPW.skipT (k := 88) rfl (by kernel_rfl) (by kernel_rfl) ?_)
      refine EL.opA (OPW.skipT (k := 89) rfl (by kernel_rfl) (by kernel_rfl) ?_)
      refine EL.opA (OPW.skipT (k := 90) rfl (by kernel_rfl) (by kernel_rfl) ?_)
      refine EL.opA (OPW.skipT (k := 91) rfl (by kernel_rfl) (by kernel_rfl) ?_)
      refine EL.opA (OPW.skipT (k := 92) rfl (by kernel_rfl) (by kernel_rfl) ?_)
      refine EL.opA (OPW.val (k := 93) (.bool false) rfl (by kernel_rfl) (by kernel_rfl) (by kernel_rfl) ?_)
      refine EL.opA (OPW.val (k := 94) (.bool false) rfl (by kernel_rfl) (by kernel_rfl) (by kernel_rfl) ?_)
      refine EL.opA (OPW.skipT (k := 95) rfl (by kernel_rfl) (by kernel_rfl) ?_)
      refine EL.opA (OPW.skipT (k := 96) rfl (by kernel_rfl) (by kernel_rfl) ?_)
      refine EL.opA (OPW.skipT (k := 97) rfl (by kernel_rfl) (by kernel_rfl) ?_)
      refine EL.opA (OPW.val (k := 98) (.bool false) rfl (by kernel_rfl) (by kernel_rfl) (by kernel_rfl) ?_)
      refine EL.opA (OPW.val (k := 99) (.bool false) rfl (by kernel_rfl) (by kernel_rfl) (by kernel_rfl) ?_)
      refine EL.opA (OPW.skipT (k := 100) rfl (by kernel_rfl) (by kernel_rfl) ?_)
      refine EL.opA (OPW.skipT (k := 101) rfl (by kernel_rfl) (by kernel_rfl) ?_)
      refine EL.opA (OPW.skipT (k := 102) rfl (by kernel_rfl) (by kernel_rfl) ?_)
      refine EL.opA (OPW.skipT (k := 103) rfl (by kernel_rfl) (by kernel_rfl) ?_)
      refine EL.opA (OPW.val (k := 104) (.bool false) rfl (by kernel_rfl) (by kernel_rfl) (by kernel_rfl) ?_)
      refine EL.opA (OPW.val (k := 105) (.bool false) rfl (by kernel_rfl) (by kernel_rfl) (by kernel_rfl) ?_)
      refine EL.opA (OPW.skipT (k := 106) rfl (by kernel_rfl) (by kernel_rfl) ?_)
      refine EL.opA (OPW.skipT (k := 107) rfl (by kernel_rfl) (by kernel_rfl) ?_)
      refine EL.opA (OPW.skipT (k := 108) rfl (by kernel_rfl) (by kernel_rfl) ?_)
      refine EL.nilA ?_
      refine EL.op (OPW.skipT (k := 109) rfl (by kernel_rfl) (by kernel_rfl) ?_)
      refine EL.op (OPW.val (k := 110) (.bool false) rfl (by kernel_rfl) (by kernel_rfl) (by kernel_rfl) ?_)
      refine EL.op (OPW.val (k := 111) (.bool false) rfl (by kernel_rfl) (by kernel_rfl) (by kernel_rfl) ?_)
      refine EL.op (OPW.skipT (k := 112) rfl (by kernel_rfl) (by kernel_rfl) ?_)
      refine EL.op (OPW.skipT (k := 113) rfl (by kernel_rfl) (by kernel_rfl) ?_)
      refine EL.op (OPW.skipT (k := 114) rfl (by kernel_rfl) (by kernel_rfl) ?_)
      refine EL.op (OPW.skipT (k := 115) rfl (by kernel_rfl) (by kernel_rfl) ?_)
      refine EL.op (OPW.skipT (k := 116) rfl (by kernel_rfl) (by kernel_rfl) ?_)
      refine EL.op (OPW.skipT (k := 117) rfl (by kernel_rfl) (by kernel_rfl) ?_)
      refine EL.op (OPW.val (k := 118) (.bool false) rfl (by kernel_rfl) (by kernel_rfl) (by kernel_rfl) ?_)
      refine EL.op (OPW.val (k := 119) (.bool false) rfl (by kernel_rfl) (by kernel_rfl) (by kernel_rfl) ?_)
      refine EL.op (OPW.skipT (k := 120) rfl (by kernel_rfl) (by kernel_rfl) ?_)
      refine EL.op (OPW.skipT (k := 121) rfl (by kernel_rfl) (by kernel_rfl) ?_)
      refine EL.op (OPW.skipT (k := 122) rfl (by kernel_rfl) (by kernel_rfl) ?_)
      refine EL.op (OPW.val (k := 123) (.bool false) rfl (by kernel_rfl) (by kernel_rfl) (by kernel_rfl) ?_)
      refine EL.op (OPW.val (k := 124) (.bool false) rfl (by kernel_rfl) (by kernel_rfl) (by kernel_rfl) ?_)
      refine EL.op (OPW.skipT (k := 125) rfl (by kernel_rfl) (by kernel_rfl) ?_)
      refine EL.op (OPW.skipT (k := 126) rfl (by kernel_rfl) (by kernel_rfl) ?_)
      refine EL.op (OPW.skipT (k := 127) rfl (by kernel_rfl) (by kernel_rfl) ?_)
      refine EL.op (OPW.val (k := 128) (.bool false) rfl (by kernel_rfl) (by kernel_rfl) (by kernel_rfl) ?_)
      refine EL.op (OPW.val (k := 129) (.bool false) rfl (by kernel_rfl) (by kernel_rfl) (by kernel_rfl) ?_)
      refine EL.op (OPW.skipT (k := 130) rfl (by kernel_rfl) (by kernel_rfl) ?_)
      refine EL.op (OPW.skipT (k := 131) rfl (by kernel_rfl) (by kernel_rfl) ?_)
      refine EL.op (OPW.skipT (k := 132) rfl (by kernel_rfl) (by kernel_rfl) ?_)
      refine EL.op (OPW.skipT (k := 133) rfl (by kernel_rfl) (by kernel_rfl) ?_)
      refine EL.op (OPW.val (k := 134) (.bool false) rfl (by kernel_rfl) (by kernel_rfl) (by kernel_rfl) ?_)
      refine EL.op (OPW.val (k := 135) (.bool false) rfl (by kernel_rfl) (by kernel_rfl) (by kernel_rfl) ?_)
      refine EL.op (OPW.skipT (k := 136) rfl (by kernel_rfl) (by kernel_rfl) ?_)
      refine EL.op (OPW.skipT (k := 137) rfl (by kernel_rfl) (by kernel_rfl) ?_)
      refine EL.op (OPW.skipT (k := 138) rfl (by kernel_rfl) (by kernel_rfl) ?_)
      refine EL.op (OPW.skipT (k := 139) rfl (by kernel_rfl) (by kernel_rfl) ?_)
      refine EL.op (OPW.skipT (k := 140) rfl (by kernel_rfl) (by kernel_rfl) ?_)
      refine EL.op (OPW.skipT (k := 141) rfl (by kernel_rfl) (by kernel_rfl) ?_)
      refine EL.op (OPW.val (k := 142) (.bool false) rfl (by kernel_rfl) (by kernel_rfl) (by kernel_rfl) ?_)
      refine EL.nil ?_
      refine thenN ?_
      refine CW.condF (by kernel_rfl) ?_
      refine CW.skip ?_
      refine blockN ?_
      refine thenN ?_
      refine CW.region ?_
      refine EL.op (OPW.val (k := 144) (.int .i64 1) rfl (by kernel_rfl) (by kernel_rfl) (by kernel_rfl) ?_)
      refine EL.op (OPW.val (k := 64) (.int .i64 1) rfl (by kernel_rfl) (by kernel_rfl) (by kernel_rfl) ?_)
      refine EL.nil ?_
      refine roundN ?_
      refine CW.seq ?_
      refine CW.region ?_
      refine EL.op (OPW.val (k := 65) (.bool true) rfl (by kernel_rfl) (by kernel_rfl) (by kernel_rfl) ?_)
      refine EL.nil ?_
      refine thenN ?_
      refine CW.seq ?_
      refine CW.condT (by kernel_rfl) ?_
      refine CW.skip ?_
      refine thenN ?_
      refine CW.seq ?_
      refine CW.block ?_
      refine CW.seq ?_
      refine CW.region ?_
      refine EL.op (OPW.val (k := 66) (.int .i64 1) rfl (by kernel_rfl) (by kernel_rfl) (by kernel_rfl) ?_)
      refine EL.op (OPW.val (k := 67) (.int .i64 peer) rfl (by kernel_rfl) (by kernel_rfl) (by kernel_rfl) ?_)
      refine EL.op (OPW.val (k := 7) (.int .i64 1) rfl (by kernel_rfl) (by kernel_rfl) (by kernel_rfl) ?_)
      refine EL.op (OPW.val (k := 8) (.int .i64 peer) rfl (by kernel_rfl) (by kernel_rfl) (by kernel_rfl) ?_)
      refine EL.nil ?_
      refine thenN ?_
      refine CW.seq ?_
      refine CW.region ?_
      refine EL.op (OPW.val (k := 68) (.pointer (some ⟨g1, 1, none⟩)) rfl (by kernel_rfl) (by kernel_rfl) (by kernel_rfl) ?_)
      refine EL.op (OPW.val (k := 69) (.int .i64 client) rfl (by kernel_rfl) (by kernel_rfl) (load1 (b := g1) (i := 1) rfl (by kernel_rfl) (by kernel_rfl) (hO19.cell 3 rfl (by kernel_rfl))) ?_)
      refine EL.op (OPW.val (k := 70) (.pointer (some ⟨g1, 2, none⟩)) rfl (by kernel_rfl) (by kernel_rfl) (by kernel_rfl) ?_)
      refine EL.op (OPW.val (k := 71) (.int .i64 peer) rfl (by kernel_rfl) (by kernel_rfl) (load1 (b := g1) (i := 2) rfl (by kernel_rfl) (by kernel_rfl) (hO19.cell 3 rfl (by kernel_rfl))) ?_)
      refine EL.op (OPW.val (k := 72) (.int .i64 (IntKind.i64.wrap (client + peer))) rfl (by kernel_rfl) (by kernel_rfl) (by kernel_rfl) ?_)
      refine EL.op (OPW.val (k := 73) (.int .i64 peer) rfl (by kernel_rfl) (by kernel_rfl) (by kernel_rfl) ?_)
      refine EL.op (OPW.val (k := 74) (.int .i64 client) rfl (by kernel_rfl) (by kernel_rfl) (run_eq (v := .int .i64 (IntKind.i64.wrap ((IntKind.i64.wrap (client + peer)) - peer))) (by kernel_rfl) (wr_r hclient)) ?_)
      refine EL.op (OPW.val (k := 9) (.int .i64 client) rfl (by kernel_rfl) (by kernel_rfl) (by kernel_rfl) ?_)
      refine EL.nil ?_
      refine thenN ?_
      refine CW.seq ?_
      refine CW.region ?_
      refine EL.opA (OPW.val (k := 75) (.pointer (some ⟨g11, 0, none⟩)) rfl (by kernel_rfl) (by kernel_rfl) (by kernel_rfl) ?_)
      refine EL.opA (OPW.val (k := 76) (.slice K n ck) rfl (by kernel_rfl) (by kernel_rfl) (load1 (b := g11) (i := 0) rfl (by kernel_rfl) (by kernel_rfl) (hO19.cell 1 rfl (by kernel_rfl))) ?_)
      refine EL.opA (OPW.val (k := 77) (.int .i64 (n : Int)) rfl (by kernel_rfl) (by kernel_rfl) (by kernel_rfl) ?_)
      refine EL.opA (OPW.val (k := 78) (.bool false) rfl (by kernel_rfl) (by kernel_rfl) (run_eq (v := .bool ((n : Int) == (1 : Int))) (by kernel_rfl) (by rw [show ((n : Int) == (1 : Int)) = false from hn])) ?_)
      refine EL.opA (OPW.val (k := 79) (.bool false) rfl (by kernel_rfl) (by kernel_rfl) (by kernel_rfl) ?_)
      refine EL.opA (OPW.skipT (k := 80) rfl (by kernel_rfl) (by kernel_rfl) ?_)
      refine EL.opA (OPW.skipT (k := 81) rfl (by kernel_rfl) (by kernel_rfl) ?_)
      refine EL.opA (OPW.skipT (k := 82) rfl (by kernel_rfl) (by kernel_rfl) ?_)
      refine EL.opA (OPW.skipT (k := 83) rfl (by kernel_rfl) (by kernel_rfl) ?_)
      refine EL.opA (OPW.skipT (k := 84) rfl (by kernel_rfl) (by kernel_rfl) ?_)
      refine EL.opA (OPW.skipT (k := 85) rfl (by kernel_rfl) (by kernel_rfl) ?_)
      refine EL.opA (OPW.val (k := 86) (.bool false) rfl (by kernel_rfl) (by kernel_rfl) (by kernel_rfl) ?_)
      refine EL.opA (OPW.val (k := 87) (.bool false) rfl (by kernel_rfl) (by kernel_rfl) (by kernel_rfl) ?_)
      refine EL.opA (OPW.skipT (k := 88) rfl (by kernel_rfl) (by kernel_rfl) ?_)
      refine EL.opA (OPW.skipT (k := 89) rfl (by kernel_rfl) (by kernel_rfl) ?_)
      refine EL.opA (OPW.skipT (k := 90) rfl (by kernel_rfl) (by kernel_rfl) ?_)
      refine EL.opA (OPW.skipT (k := 91) rfl (by kernel_rfl) (by kernel_rfl) ?_)
      refine EL.opA (OPW.skipT (k := 92) rfl (by kernel_rfl) (by kernel_rfl) ?_)
      refine EL.opA (OPW.val (k := 93) (.bool false) rfl (by kernel_rfl) (by kernel_rfl) (by kernel_rfl) ?_)
      refine EL.opA (OPW.val (k := 94) (.bool false) rfl (by kernel_rfl) (by kernel_rfl) (by kernel_rfl) ?_)
      refine EL.opA (OPW.skipT (k := 95) rfl (by kernel_rfl) (by kernel_rfl) ?_)
      refine EL.opA (OPW.skipT (k := 96) rfl (by kernel_rfl) (by kernel_rfl) ?_)
      refine EL.opA (OPW.skipT (k := 97) rfl (by kernel_rfl) (by kernel_rfl) ?_)
      refine EL.opA (OPW.val (k := 98) (.bool false) rfl (by kernel_rfl) (by kernel_rfl) (by kernel_rfl) ?_)
      refine EL.opA (OPW.val (k := 99) (.bool false) rfl (by kernel_rfl) (by kernel_rfl) (by kernel_rfl) ?_)
      refine EL.opA (OPW.skipT (k := 100) rfl (by kernel_rfl) (by kernel_rfl) ?_)
      refine EL.opA (OPW.skipT (k := 101) rfl (by kernel_rfl) (by kernel_rfl) ?_)
      refine EL.opA (OPW.skipT (k := 102) rfl (by kernel_rfl) (by kernel_rfl) ?_)
      refine EL.opA (OPW.skipT (k := 103) rfl (by kernel_rfl) (by kernel_rfl) ?_)
      refine EL.opA (OPW.val (k := 104) (.bool false) rfl (by kernel_rfl) (by kernel_rfl) (by kernel_rfl) ?_)
      refine EL.opA (OPW.val (k := 105) (.bool false) rfl (by kernel_rfl) (by kernel_rfl) (by kernel_rfl) ?_)
      refine EL.opA (OPW.skipT (k := 106) rfl (by kernel_rfl) (by kernel_rfl) ?_)
      refine EL.opA (OPW.skipT (k := 107) rfl (by kernel_rfl) (by kernel_rfl) ?_)
      refine EL.opA (OPW.skipT (k := 108) rfl (by kernel_rfl) (by kernel_rfl) ?_)
      refine EL.nilA ?_
      refine EL.op (OPW.skipT (k := 109) rfl (by kernel_rfl) (by kernel_rfl) ?_)
      refine EL.op (OPW.val (k := 110) (.bool false) rfl (by kernel_rfl) (by kernel_rfl) (by kernel_rfl) ?_)
      refine EL.op (OPW.val (k := 111) (.bool false) rfl (by kernel_rfl) (by kernel_rfl) (by kernel_rfl) ?_)
      refine EL.op (OPW.skipT (k := 112) rfl (by kernel_rfl) (by kernel_rfl) ?_)
      refine EL.op (OPW.skipT (k := 113) rfl (by kernel_rfl) (by kernel_rfl) ?_)
      refine EL.op (OPW.skipT (k := 114) rfl (by kernel_rfl) (by kernel_rfl) ?_)
      refine EL.op (OPW.skipT (k := 115) rfl (by kernel_rfl) (by kernel_rfl) ?_)
      refine EL.op (OPW.skipT (k := 116) rfl (by kernel_rfl) (by kernel_rfl) ?_)
      refine EL.op (OPW.skipT (k := 117) rfl (by kernel_rfl) (by kernel_rfl) ?_)
      refine EL.op (OPW.val (k := 118) (.bool false) rfl (by kernel_rfl) (by kernel_rfl) (by kernel_rfl) ?_)
      refine EL.op (OPW.val (k := 119) (.bool false) rfl (by kernel_rfl) (by kernel_rfl) (by kernel_rfl) ?_)
      refine EL.op (OPW.skipT (k := 120) rfl (by kernel_rfl) (by kernel_rfl) ?_)
      refine EL.op (OPW.skipT (k := 121) rfl (by kernel_rfl) (by kernel_rfl) ?_)
      refine EL.op (OPW.skipT (k := 122) rfl (by kernel_rfl) (by kernel_rfl) ?_)
      refine EL.op (OPW.val (k := 123) (.bool false) rfl (by kernel_rfl) (by kernel_rfl) (by kernel_rfl) ?_)
      refine EL.op (OPW.val (k := 124) (.bool false) rfl (by kernel_rfl) (by kernel_rfl) (by kernel_rfl) ?_)
      refine EL.op (OPW.skipT (k := 125) rfl (by kernel_rfl) (by kernel_rfl) ?_)
      refine EL.op (OPW.skipT (k := 126) rfl (by kernel_rfl) (by kernel_rfl) ?_)
      refine EL.op (OPW.skipT (k := 127) rfl (by kernel_rfl) (by kernel_rfl) ?_)
      refine EL.op (OPW.val (k := 128) (.bool false) rfl (by kernel_rfl) (by kernel_rfl) (by kernel_rfl) ?_)
      refine EL.op (OPW.val (k := 129) (.bool false) rfl (by kernel_rfl) (by kernel_rfl) (by kernel_rfl) ?_)
      refine EL.op (OPW.skipT (k := 130) rfl (by kernel_rfl) (by kernel_rfl) ?_)
      refine EL.op (OPW.skipT (k := 131) rfl (by kernel_rfl) (by kernel_rfl) ?_)
      refine EL.op (OPW.skipT (k := 132) rfl (by kernel_rfl) (by kernel_rfl) ?_)
      refine EL.op (OPW.skipT (k := 133) rfl (by kernel_rfl) (by kernel_rfl) ?_)
      refine EL.op (OPW.val (k := 134) (.bool false) rfl (by kernel_rfl) (by kernel_rfl) (by kernel_rfl) ?_)
      refine EL.op (OPW.val (k := 135) (.bool false) rfl (by kernel_rfl) (by kernel_rfl) (by kernel_rfl) ?_)
      refine EL.op (OPW.skipT (k := 136) rfl (by kernel_rfl) (by kernel_rfl) ?_)
      refine EL.op (OPW.skipT (k := 137) rfl (by kernel_rfl) (by kernel_rfl) ?_)
      refine EL.op (OPW.skipT (k := 138) rfl (by kernel_rfl) (by kernel_rfl) ?_)
      refine EL.op (OPW.skipT (k := 139) rfl (by kernel_rfl) (by kernel_rfl) ?_)
      refine EL.op (OPW.skipT (k := 140) rfl (by kernel_rfl) (by kernel_rfl) ?_)
      refine EL.op (OPW.skipT (k := 141) rfl (by kernel_rfl) (by kernel_rfl) ?_)
      refine EL.op (OPW.val (k := 142) (.bool false) rfl (by kernel_rfl) (by kernel_rfl) (by kernel_rfl) ?_)
      refine EL.nil ?_
      refine thenN ?_
      refine CW.condF (by kernel_rfl) ?_
      refine CW.skip ?_
      refine blockN ?_
      refine thenN ?_
      refine CW.region ?_
      refine EL.op (OPW.val (k := 144) (.int .i64 2) rfl (by kernel_rfl) (by kernel_rfl) (by kernel_rfl) ?_)
      refine EL.op (OPW.val (k := 64) (.int .i64 2) rfl (by kernel_rfl) (by kernel_rfl) (by kernel_rfl) ?_)
      refine EL.nil ?_
      refine roundN ?_
      refine CW.seq ?_
      refine CW.region ?_
      refine EL.op (OPW.val (k := 65) (.bool false) rfl (by kernel_rfl) (by kernel_rfl) (by kernel_rfl) ?_)
      refine EL.nil ?_
      refine thenN ?_
      refine CW.seq ?_
      refine CW.condF (by kernel_rfl) ?_
      refine CW.exit ?_
      refine thenE ?_
      refine thenE ?_
      refine blockE ?_
      refine thenN ?_
      refine CW.seq ?_
      refine CW.region ?_
      refine EL.op (OPW.val (k := 4) (.int .i64 (-1)) rfl (by kernel_rfl) (by kernel_rfl) (by kernel_rfl) ?_)
      refine EL.nil ?_
      refine thenN ?_
      refine CW.ret ?_
      refine bp_ret (v := .int .i64 (-1)) (by kernel_rfl) ?_
      refine ⟨?_, hS19.toBelow⟩
      rfl
    refine EDo.cons rfl ?_ ?_
    · skip
      refine (OPW.new (k := 6) (ob := cellsO (cat [[.slice none 0 0], sumV (fun _ => 0), [.int .i64 0, .int .i64 0]]) 35) mkP rfl (by kernel_rfl) (by kernel_rfl) (by kernel_rfl) ?_)
      intro g21 w21 hg21 hw21
      have hO21 : Own w21 [(g21, (cat [[.slice none 0 0], sumV (fun _ => 0), [.int .i64 0, .int .i64 0]]), 35), (g2, (txC (.slice (some ⟨bi, oi, none⟩) 1 ci) (.slice (some ⟨bo, oo, none⟩) 2 co) kind tower channel amount r D nD d S nS sg), 45), (g1, (chnC id client peer s at_ cap wait window), 27)] := (hO9.alloc hg21 hw21).norm (by kernel_rfl)
      have hS21 := hS10.alloc (Nat.le_refl _) hw21
      have hn21 : w.heap.size ≤ g21 := hg21 ▸ hS10.size
      have hr22 : w2.drew.drew.heap.size ≤ g21 := hg21 ▸ hT3.size
      have hT23 : Sep w2.drew.drew.heap.size [] w2.drew.drew w21 := hT3.alloc (Nat.le_refl _) hw21
      refine ⟨hT23, ?_⟩
      refine ED.all [14] (by kernel_rfl) (by simp) ?_
      refine EDo.cons rfl ?_ EDo.nil
      refine (OPW.new (k := 5) (ob := cellsO (cat [[.slice none 0 0], sumV (fun _ => 0), [.int .i64 0, .int .i64 0]]) 35) mkP rfl (by kernel_rfl) (by kernel_rfl) (by kernel_rfl) ?_)
      intro g24 w24 hg24 hw24
      have hO24 : Own w24 [(g24, (cat [[.slice none 0 0], sumV (fun _ => 0), [.int .i64 0, .int .i64 0]]), 35), (g21, (cat [[.slice none 0 0], sumV (fun _ => 0), [.int .i64 0, .int .i64 0]]), 35), (g2, (txC (.slice (some ⟨bi, oi, none⟩) 1 ci) (.slice (some ⟨bo, oo, none⟩) 2 co) kind tower channel amount r D nD d S nS sg), 45), (g1, (chnC id client peer s at_ cap wait window), 27)] := (hO21.alloc hg24 hw24).norm (by kernel_rfl)
      have hS24 := hS21.alloc (Nat.le_refl _) hw24
      have hn24 : w.heap.size ≤ g24 := hg24 ▸ hS21.size
      have hr25 : w2.drew.drew.heap.size ≤ g24 := hg24 ▸ hT23.size
      have hT26 : Sep w2.drew.drew.heap.size [] w2.drew.drew w24 := hT23.alloc (Nat.le_refl _) hw24
      refine ⟨hT26, ?_⟩
      refine ED.all [16] (by kernel_rfl) (by simp) ?_
      refine EDo.cons rfl ?_ EDo.nil
      refine (OPW.store (b := g24) (i := 0) (cat [[.slice K n ck], sumV h0, [.int .i64 af0, .int .i64 wt0]]) rfl (by kernel_rfl) rfl (by kernel_rfl) (by kernel_rfl) (by kernel_rfl) (by kernel_rfl) (hO24.there 0 rfl (Nat.le_of_ble_eq_true (by kernel_rfl))) ?_)
      intro w27 hw27
      have hO27 : Own w27 [(g24, (cat [[.slice K n ck], sumV h0, [.int .i64 af0, .int .i64 wt0]]), 35), (g21, (cat [[.slice none 0 0], sumV (fun _ => 0), [.int .i64 0, .int .i64 0]]), 35), (g2, (txC (.slice (some ⟨bi, oi, none⟩) 1 ci) (.slice (some ⟨bo, oo, none⟩) 2 co) kind tower channel amount r D nD d S nS sg), 45), (g1, (chnC id client peer s at_ cap wait window), 27)] := (hO24.set' 0 (vs := (cat [[.slice K n ck], sumV h0, [.int .i64 af0, .int .i64 wt0]])) rfl (Nat.le_of_ble_eq_true (by kernel_rfl)) hw27).norm (by kernel_rfl)
      have hS27 := hS24.set' (.inl hn24) hw27
      have hT28 : Sep w2.drew.drew.heap.size [] w2.drew.drew w27 := hT26.set' (.inl hr25) hw27
      refine ⟨hT28, ?_⟩
      refine ED.all [17] (by kernel_rfl) (by simp) ?_
      refine EDo.cons rfl ?_ EDo.nil
      refine (OPW.store (b := g21) (i := 0) (cat [[.slice L m cq], sumV h1, [.int .i64 af1, .int .i64 wt1]]) rfl (by kernel_rfl) rfl (by kernel_rfl) (by kernel_rfl) (by kernel_rfl) (by kernel_rfl) (hO27.there 1 rfl (Nat.le_of_ble_eq_true (by kernel_rfl))) ?_)
      intro w29 hw29
      have hO29 : Own w29 [(g24, (cat [[.slice K n ck], sumV h0, [.int .i64 af0, .int .i64 wt0]]), 35), (g21, (cat [[.slice L m cq], sumV h1, [.int .i64 af1, .int .i64 wt1]]), 35), (g2, (txC (.slice (some ⟨bi, oi, none⟩) 1 ci) (.slice (some ⟨bo, oo, none⟩) 2 co) kind tower channel amount r D nD d S nS sg), 45), (g1, (chnC id client peer s at_ cap wait window), 27)] := (hO27.set' 1 (vs := (cat [[.slice L m cq], sumV h1, [.int .i64 af1, .int .i64 wt1]])) rfl (Nat.le_of_ble_eq_true (by kernel_rfl)) hw29).norm (by kernel_rfl)
      have hS29 := hS27.set' (.inl hn21) hw29
      have hT30 : Sep w2.drew.drew.heap.size [] w2.drew.drew w29 := hT28.set' (.inl hr22) hw29
      refine ⟨hT30, ?_⟩
      refine ED.done (by kernel_rfl) ?_
      refine thenN ?_
      refine CW.seq ?_
      refine CW.seq ?_
      refine CW.region ?_
      refine EL.op (OPW.val (k := 59) (.pointer (some ⟨g1, 1, none⟩)) rfl (by kernel_rfl) (by kernel_rfl) (by kernel_rfl) ?_)
      refine EL.op (OPW.val (k := 60) (.int .i64 client) rfl (by kernel_rfl) (by kernel_rfl) (load1 (b := g1) (i := 1) rfl (by kernel_rfl) (by kernel_rfl) (hO29.cell 3 rfl (by kernel_rfl))) ?_)
      refine EL.op (OPW.val (k := 61) (.pointer (some ⟨g1, 2, none⟩)) rfl (by kernel_rfl) (by kernel_rfl) (by kernel_rfl) ?_)
      refine EL.op (OPW.val (k := 62) (.int .i64 peer) rfl (by kernel_rfl) (by kernel_rfl) (load1 (b := g1) (i := 2) rfl (by kernel_rfl) (by kernel_rfl) (hO29.cell 3 rfl (by kernel_rfl))) ?_)
      refine EL.op (OPW.val (k := 63) (.agg #[.int .i64 client, .int .i64 peer]) rfl (by kernel_rfl) (by kernel_rfl) (by kernel_rfl) ?_)
      refine EL.op (OPW.val (k := 64) (.int .i64 0) rfl (by kernel_rfl) (by kernel_rfl) (by kernel_rfl) ?_)
      refine EL.nil ?_
      refine thenN ?_
      refine CW.block ?_
      refine CW.rounds 2 ?_
      refine CW.seq ?_
      refine CW.region ?_
      refine EL.op (OPW.val (k := 65) (.bool true) rfl (by kernel_rfl) (by kernel_rfl) (by kernel_rfl) ?_)
      refine EL.nil ?_
      refine thenN ?_
      refine CW.seq ?_
      refine CW.condT (by kernel_rfl) ?_
      refine CW.skip ?_
      refine thenN ?_
      refine CW.seq ?_
      refine CW.block ?_
      refine CW.seq ?_
      refine CW.region ?_
      refine EL.op (OPW.val (k := 66) (.int .i64 0) rfl (by kernel_rfl) (by kernel_rfl) (by kernel_rfl) ?_)
      refine EL.op (OPW.val (k := 67) (.int .i64 client) rfl (by kernel_rfl) (by kernel_rfl) (by kernel_rfl) ?_)
      refine EL.op (OPW.val (k := 7) (.int .i64 0) rfl (by kernel_rfl) (by kernel_rfl) (by kernel_rfl) ?_)
      refine EL.op (OPW.val (k := 8) (.int .i64 client) rfl (by kernel_rfl) (by kernel_rfl) (by kernel_rfl) ?_)
      refine EL.nil ?_
      refine thenN ?_
      refine CW.seq ?_
      refine CW.region ?_
      refine EL.op (OPW.val (k := 68) (.pointer (some ⟨g1, 1, none⟩)) rfl (by kernel_rfl) (by kernel_rfl) (by kernel_rfl) ?_)
      refine EL.op (OPW.val (k := 69) (.int .i64 client) rfl (by kernel_rfl) (by kernel_rfl) (load1 (b := g1) (i := 1) rfl (by kernel_rfl) (by kernel_rfl) (hO29.cell 3 rfl (by kernel_rfl))) ?_)
      refine EL.op (OPW.val (k := 70) (.pointer (some ⟨g1, 2, none⟩)) rfl (by kernel_rfl) (by kernel_rfl) (by kernel_rfl) ?_)
      refine EL.op (OPW.val (k := 71) (.int .i64 peer) rfl (by kernel_rfl) (by kernel_rfl) (load1 (b := g1) (i := 2) rfl (by kernel_rfl) (by kernel_rfl) (hO29.cell 3 rfl (by kernel_rfl))) ?_)
      refine EL.op (OPW.val (k := 72) (.int .i64 (IntKind.i64.wrap (client + peer))) rfl (by kernel_rfl) (by kernel_rfl) (by kernel_rfl) ?_)
      refine EL.op (OPW.val (k := 73) (.int .i64 client) rfl (by kernel_rfl) (by kernel_rfl) (by kernel_rfl) ?_)
      refine EL.op (OPW.val (k := 74) (.int .i64 peer) rfl (by kernel_rfl) (by kernel_rfl) (run_eq (v := .int .i64 (IntKind.i64.wrap ((IntKind.i64.wrap (client + peer)) - client))) (by kernel_rfl) (wr_l hpeer)) ?_)
      refine EL.op (OPW.val (k := 9) (.int .i64 peer) rfl (by kernel_rfl) (by kernel_rfl) (by kernel_rfl) ?_)
      refine EL.nil ?_
      refine thenN ?_
      refine CW.seq ?_
      refine CW.region ?_
      refine EL.opA (OPW.val (k := 75) (.pointer (some ⟨g24, 0, none⟩)) rfl (by kernel_rfl) (by kernel_rfl) (by kernel_rfl) ?_)
      refine EL.opA (OPW.val (k := 76) (.slice K n ck) rfl (by kernel_rfl) (by kernel_rfl) (load1 (b := g24) (i := 0) rfl (by kernel_rfl) (by kernel_rfl) (hO29.cell 0 rfl (by kernel_rfl))) ?_)
      refine EL.opA (OPW.val (k := 77) (.int .i64 (n : Int)) rfl (by kernel_rfl) (by kernel_rfl) (by kernel_rfl) ?_)
      refine EL.opA (OPW.val (k := 78) (.bool false) rfl (by kernel_rfl) (by kernel_rfl) (run_eq (v := .bool ((n : Int) == (1 : Int))) (by kernel_rfl) (by rw [show ((n : Int) == (1 : Int)) = false from hn])) ?_)
      refine EL.opA (OPW.val (k := 79) (.bool false) rfl (by kernel_rfl) (by kernel_rfl) (by kernel_rfl) ?_)
      refine EL.opA (OPW.skipT (k := 80) rfl (by kernel_rfl) (by kernel_rfl) ?_)
      refine EL.opA (OPW.skipT (k := 81) rfl (by kernel_rfl) (by kernel_rfl) ?_)
      refine EL.opA (OPW.skipT (k := 82) rfl (by kernel_rfl) (by kernel_rfl) ?_)
      refine EL.opA (OPW.skipT (k := 83) rfl (by kernel_rfl) (by kernel_rfl) ?_)
      refine EL.opA (OPW.skipT (k := 84) rfl (by kernel_rfl) (by kernel_rfl) ?_)
      refine EL.opA (OPW.skipT (k := 85) rfl (by kernel_rfl) (by kernel_rfl) ?_)
      refine EL.opA (OPW.val (k := 86) (.bool false) rfl (by kernel_rfl) (by kernel_rfl) (by kernel_rfl) ?_)
      refine EL.opA (OPW.val (k := 87) (.bool false) rfl (by kernel_rfl) (by kernel_rfl) (by kernel_rfl) ?_)
      refine EL.opA (OPW.skipT (k := 88) rfl (by kernel_rfl) (by kernel_rfl) ?_)
      refine EL.opA (OPW.skipT (k := 89) rfl (by kernel_rfl) (by kernel_rfl) ?_)
      refine EL.opA (OPW.skipT (k := 90) rfl (by kernel_rfl) (by kernel_rfl) ?_)
      refine EL.opA (OPW.skipT (k := 91) rfl (by kernel_rfl) (by kernel_rfl) ?_)
      refine EL.opA (OPW.skipT (k := 92) rfl (by kernel_rfl) (by kernel_rfl) ?_)
      refine EL.opA (OPW.val (k := 93) (.bool false) rfl (by kernel_rfl) (by kernel_rfl) (by kernel_rfl) ?_)
      refine EL.opA (OPW.val (k := 94) (.bool false) rfl (by kernel_rfl) (by kernel_rfl) (by kernel_rfl) ?_)
      refine EL.opA (OPW.skipT (k := 95) rfl (by kernel_rfl) (by kernel_rfl) ?_)
      refine EL.opA (OPW.skipT (k := 96) rfl (by kernel_rfl) (by kernel_rfl) ?_)
      refine EL.opA (OPW.skipT (k := 97) rfl (by kernel_rfl) (by kernel_rfl) ?_)
      refine EL.opA (OPW.val (k := 98) (.bool false) rfl (by kernel_rfl) (by kernel_rfl) (by kernel_rfl) ?_)
      refine EL.opA (OPW.val (k := 99) (.bool false) rfl (by kernel_rfl) (by kernel_rfl) (by kernel_rfl) ?_)
      refine EL.opA (OPW.skipT (k := 100) rfl (by kernel_rfl) (by kernel_rfl) ?_)
      refine EL.opA (OPW.skipT (k := 101) rfl (by kernel_rfl) (by kernel_rfl) ?_)
      refine EL.opA (OPW.skipT (k := 102) rfl (by kernel_rfl) (by kernel_rfl) ?_)
      refine EL.opA (OPW.skipT (k := 103) rfl (by kernel_rfl) (by kernel_rfl) ?_)
      refine EL.opA (OPW.val (k := 104) (.bool false) rfl (by kernel_rfl) (by kernel_rfl) (by kernel_rfl) ?_)
      refine EL.opA (OPW.val (k := 105) (.bool false) rfl (by kernel_rfl) (by kernel_rfl) (by kernel_rfl) ?_)
      refine EL.opA (OPW.skipT (k := 106) rfl (by kernel_rfl) (by kernel_rfl) ?_)
      refine EL.opA (OPW.skipT (k := 107) rfl (by kernel_rfl) (by kernel_rfl) ?_)
      refine EL.opA (OPW.skipT (k := 108) rfl (by kernel_rfl) (by kernel_rfl) ?_)
      refine EL.nilA ?_
      refine EL.op (OPW.skipT (k := 109) rfl (by kernel_rfl) (by kernel_rfl) ?_)
      refine EL.op (OPW.val (k := 110) (.bool false) rfl (by kernel_rfl) (by kernel_rfl) (by kernel_rfl) ?_)
      refine EL.op (OPW.val (k := 111) (.bool false) rfl (by kernel_rfl) (by kernel_rfl) (by kernel_rfl) ?_)
      refine EL.op (OPW.skipT (k := 112) rfl (by kernel_rfl) (by kernel_rfl) ?_)
      refine EL.op (OPW.skipT (k := 113) rfl (by kernel_rfl) (by kernel_rfl) ?_)
      refine EL.op (OPW.skipT (k := 114) rfl (by kernel_rfl) (by kernel_rfl) ?_)
      refine EL.op (OPW.skipT (k := 115) rfl (by kernel_rfl) (by kernel_rfl) ?_)
      refine EL.op (OPW.skipT (k := 116) rfl (by kernel_rfl) (by kernel_rfl) ?_)
      refine EL.op (OPW.skipT (k := 117) rfl (by kernel_rfl) (by kernel_rfl) ?_)
      refine EL.op (OPW.val (k := 118) (.bool false) rfl (by kernel_rfl) (by kernel_rfl) (by kernel_rfl) ?_)
      refine EL.op (OPW.val (k := 119) (.bool false) rfl (by kernel_rfl) (by kernel_rfl) (by kernel_rfl) ?_)
      refine EL.op (OPW.skipT (k := 120) rfl (by kernel_rfl) (by kernel_rfl) ?_)
      refine EL.op (OPW.skipT (k := 121) rfl (by kernel_rfl) (by kernel_rfl) ?_)
      refine EL.op (OPW.skipT (k := 122) rfl (by kernel_rfl) (by kernel_rfl) ?_)
      refine EL.op (OPW.val (k := 123) (.bool false) rfl (by kernel_rfl) (by kernel_rfl) (by kernel_rfl) ?_)
      refine EL.op (OPW.val (k := 124) (.bool false) rfl (by kernel_rfl) (by kernel_rfl) (by kernel_rfl) ?_)
      refine EL.op (OPW.skipT (k := 125) rfl (by kernel_rfl) (by kernel_rfl) ?_)
      refine EL.op (OPW.skipT (k := 126) rfl (by kernel_rfl) (by kernel_rfl) ?_)
      refine EL.op (OPW.skipT (k := 127) rfl (by kernel_rfl) (by kernel_rfl) ?_)
      refine EL.op (OPW.val (k := 128) (.bool false) rfl (by kernel_rfl) (by kernel_rfl) (by kernel_rfl) ?_)
      refine EL.op (OPW.val (k := 129) (.bool false) rfl (by kernel_rfl) (by kernel_rfl) (by kernel_rfl) ?_)
      refine EL.op (OPW.skipT (k := 130) rfl (by kernel_rfl) (by kernel_rfl) ?_)
      refine EL.op (OPW.skipT (k := 131) rfl (by kernel_rfl) (by kernel_rfl) ?_)
      refine EL.op (OPW.skipT (k := 132) rfl (by kernel_rfl) (by kernel_rfl) ?_)
      refine EL.op (OPW.skipT (k := 133) rfl (by kernel_rfl) (by kernel_rfl) ?_)
      refine EL.op (OPW.val (k := 134) (.bool false) rfl (by kernel_rfl) (by kernel_rfl) (by kernel_rfl) ?_)
      refine EL.op (OPW.val (k := 135) (.bool false) rfl (by kernel_rfl) (by kernel_rfl) (by kernel_rfl) ?_)
      refine EL.op (OPW.skipT (k := 136) rfl (by kernel_rfl) (by kernel_rfl) ?_)
      refine EL.op (OPW.skipT (k := 137) rfl (by kernel_rfl) (by kernel_rfl) ?_)
      refine EL.op (OPW.skipT (k := 138) rfl (by kernel_rfl) (by kernel_rfl) ?_)
      refine EL.op (OPW.skipT (k := 139) rfl (by kernel_rfl) (by kernel_rfl) ?_)
      refine EL.op (OPW.skipT (k := 140) rfl (by kernel_rfl) (by kernel_rfl) ?_)
      refine EL.op (OPW.skipT (k := 141) rfl (by kernel_rfl) (by kernel_rfl) ?_)
      refine EL.op (OPW.val (k := 142) (.bool false) rfl (by kernel_rfl) (by kernel_rfl) (by kernel_rfl) ?_)
      refine EL.nil ?_
      refine thenN ?_
      refine CW.condF (by kernel_rfl) ?_
      refine CW.skip ?_
      refine blockN ?_
      refine thenN ?_
      refine CW.region ?_
      refine EL.op (OPW.val (k := 144) (.int .i64 1) rfl (by kernel_rfl) (by kernel_rfl) (by kernel_rfl) ?_)
      refine EL.op (OPW.val (k := 64) (.int .i64 1) rfl (by kernel_rfl) (by kernel_rfl) (by kernel_rfl) ?_)
      refine EL.nil ?_
      refine roundN ?_
      refine CW.seq ?_
      refine CW.region ?_
      refine EL.op (OPW.val (k := 65) (.bool true) rfl (by kernel_rfl) (by kernel_rfl) (by kernel_rfl) ?_)
      refine EL.nil ?_
      refine thenN ?_
      refine CW.seq ?_
      refine CW.condT (by kernel_rfl) ?_
      refine CW.skip ?_
      refine thenN ?_
      refine CW.seq ?_
      refine CW.block ?_
      refine CW.seq ?_
      refine CW.region ?_
      refine EL.op (OPW.val (k := 66) (.int .i64 1) rfl (by kernel_rfl) (by kernel_rfl) (by kernel_rfl) ?_)
      refine EL.op (OPW.val (k := 67) (.int .i64 peer) rfl (by kernel_rfl) (by kernel_rfl) (by kernel_rfl) ?_)
      refine EL.op (OPW.val (k := 7) (.int .i64 1) rfl (by kernel_rfl) (by kernel_rfl) (by kernel_rfl) ?_)
      refine EL.op (OPW.val (k := 8) (.int .i64 peer) rfl (by kernel_rfl) (by kernel_rfl) (by kernel_rfl) ?_)
      refine EL.nil ?_
      refine thenN ?_
      refine CW.seq ?_
      refine CW.region ?_
      refine EL.op (OPW.val (k := 68) (.pointer (some ⟨g1, 1, none⟩)) rfl (by kernel_rfl) (by kernel_rfl) (by kernel_rfl) ?_)
      refine EL.op (OPW.val (k := 69) (.int .i64 client) rfl (by kernel_rfl) (by kernel_rfl) (load1 (b := g1) (i := 1) rfl (by kernel_rfl) (by kernel_rfl) (hO29.cell 3 rfl (by kernel_rfl))) ?_)
      refine EL.op (OPW.val (k := 70) (.pointer (some ⟨g1, 2, none⟩)) rfl (by kernel_rfl) (by kernel_rfl) (by kernel_rfl) ?_)
      refine EL.op (OPW.val (k := 71) (.int .i64 peer) rfl (by kernel_rfl) (by kernel_rfl) (load1 (b := g1) (i := 2) rfl (by kernel_rfl) (by kernel_rfl) (hO29.cell 3 rfl (by kernel_rfl))) ?_)
      refine EL.op (OPW.val (k := 72) (.int .i64 (IntKind.i64.wrap (client + peer))) rfl (by kernel_rfl) (by kernel_rfl) (by kernel_rfl) ?_)
      refine EL.op (OPW.val (k := 73) (.int .i64 peer) rfl (by kernel_rfl) (by kernel_rfl) (by kernel_rfl) ?_)
      refine EL.op (OPW.val (k := 74) (.int .i64 client) rfl (by kernel_rfl) (by kernel_rfl) (run_eq (v := .int .i64 (IntKind.i64.wrap ((IntKind.i64.wrap (client + peer)) - peer))) (by kernel_rfl) (wr_r hclient)) ?_)
      refine EL.op (OPW.val (k := 9) (.int .i64 client) rfl (by kernel_rfl) (by kernel_rfl) (by kernel_rfl) ?_)
      refine EL.nil ?_
      refine thenN ?_
      refine CW.seq ?_
      refine CW.region ?_
      refine EL.opA (OPW.val (k := 75) (.pointer (some ⟨g24, 0, none⟩)) rfl (by kernel_rfl) (by kernel_rfl) (by kernel_rfl) ?_)
      refine EL.opA (OPW.val (k := 76) (.slice K n ck) rfl (by kernel_rfl) (by kernel_rfl) (load1 (b := g24) (i := 0) rfl (by kernel_rfl) (by kernel_rfl) (hO29.cell 0 rfl (by kernel_rfl))) ?_)
      refine EL.opA (OPW.val (k := 77) (.int .i64 (n : Int)) rfl (by kernel_rfl) (by kernel_rfl) (by kernel_rfl) ?_)
      refine EL.opA (OPW.val (k := 78) (.bool false) rfl (by kernel_rfl) (by kernel_rfl) (run_eq (v := .bool ((n : Int) == (1 : Int))) (by kernel_rfl) (by rw [show ((n : Int) == (1 : Int)) = false from hn])) ?_)
      refine EL.opA (OPW.val (k := 79) (.bool false) rfl (by kernel_rfl) (by kernel_rfl) (by kernel_rfl) ?_)
      refine EL.opA (OPW.skipT (k := 80) rfl (by kernel_rfl) (by kernel_rfl) ?_)
      refine EL.opA (OPW.skipT (k := 81) rfl (by kernel_rfl) (by kernel_rfl) ?_)
      refine EL.opA (OPW.skipT (k := 82) rfl (by kernel_rfl) (by kernel_rfl) ?_)
      refine EL.opA (OPW.skipT (k := 83) rfl (by kernel_rfl) (by kernel_rfl) ?_)
      refine EL.opA (OPW.skipT (k := 84) rfl (by kernel_rfl) (by kernel_rfl) ?_)
      refine EL.opA (OPW.skipT (k := 85) rfl (by kernel_rfl) (by kernel_rfl) ?_)
      refine EL.opA (OPW.val (k := 86) (.bool false) rfl (by kernel_rfl) (by kernel_rfl) (by kernel_rfl) ?_)
      refine EL.opA (OPW.val (k := 87) (.bool false) rfl (by kernel_rfl) (by kernel_rfl) (by kernel_rfl) ?_)
      refine EL.opA (OPW.skipT (k := 88) rfl (by kernel_rfl) (by kernel_rfl) ?_)
      refine EL.opA (OPW.skipT (k := 89) rfl (by kernel_rfl) (by kernel_rfl) ?_)
      refine EL.opA (OPW.skipT (k := 90) rfl (by kernel_rfl) (by kernel_rfl) ?_)
      refine EL.opA (OPW.skipT (k := 91) rfl (by kernel_rfl) (by kernel_rfl) ?_)
      refine EL.opA (OPW.skipT (k := 92) rfl (by kernel_rfl) (by kernel_rfl) ?_)
      refine EL.opA (OPW.val (k := 93) (.bool false) rfl (by kernel_rfl) (by kernel_rfl) (by kernel_rfl) ?_)
      refine EL.opA (OPW.val (k := 94) (.bool false) rfl (by kernel_rfl) (by kernel_rfl) (by kernel_rfl) ?_)
      refine EL.opA (OPW.skipT (k := 95) rfl (by kernel_rfl) (by kernel_rfl) ?_)
      refine EL.opA (OPW.skipT (k := 96) rfl (by kernel_rfl) (by kernel_rfl) ?_)
      refine EL.opA (OPW.skipT (k := 97) rfl (by kernel_rfl) (by kernel_rfl) ?_)
      refine EL.opA (OPW.val (k := 98) (.bool false) rfl (by kernel_rfl) (by kernel_rfl) (by kernel_rfl) ?_)
      refine EL.opA (OPW.val (k := 99) (.bool false) rfl (by kernel_rfl) (by kernel_rfl) (by kernel_rfl) ?_)
      refine EL.opA (OPW.skipT (k := 100) rfl (by kernel_rfl) (by kernel_rfl) ?_)
      refine EL.opA (OPW.skipT (k := 101) rfl (by kernel_rfl) (by kernel_rfl) ?_)
      refine EL.opA (OPW.skipT (k := 102) rfl (by kernel_rfl) (by kernel_rfl) ?_)
      refine EL.opA (OPW.skipT (k := 103) rfl (by kernel_rfl) (by kernel_rfl) ?_)
      refine EL.opA (OPW.val (k := 104) (.bool false) rfl (by kernel_rfl) (by kernel_rfl) (by kernel_rfl) ?_)
      refine EL.opA (OPW.val (k := 105) (.bool false) rfl (by kernel_rfl) (by kernel_rfl) (by kernel_rfl) ?_)
      refine EL.opA (OPW.skipT (k := 106) rfl (by kernel_rfl) (by kernel_rfl) ?_)
      refine EL.opA (OPW.skipT (k := 107) rfl (by kernel_rfl) (by kernel_rfl) ?_)
      refine EL.opA (OPW.skipT (k := 108) rfl (by kernel_rfl) (by kernel_rfl) ?_)
      refine EL.nilA ?_
      refine EL.op (OPW.skipT (k := 109) rfl (by kernel_rfl) (by kernel_rfl) ?_)
      refine EL.op (OPW.val (k := 110) (.bool false) rfl (by kernel_rfl) (by kernel_rfl) (by kernel_rfl) ?_)
      refine EL.op (OPW.val (k := 111) (.bool false) rfl (by kernel_rfl) (by kernel_rfl) (by kernel_rfl) ?_)
      refine EL.op (OPW.skipT (k := 112) rfl (by kernel_rfl) (by kernel_rfl) ?_)
      refine EL.op (OPW.skipT (k := 113) rfl (by kernel_rfl) (by kernel_rfl) ?_)
      refine EL.op (OPW.skipT (k := 114) rfl (by kernel_rfl) (by kernel_rfl) ?_)
      refine EL.op (OPW.skipT (k := 115) rfl (by kernel_rfl) (by kernel_rfl) ?_)
      refine EL.op (OPW.skipT (k := 116) rfl (by kernel_rfl) (by kernel_rfl) ?_)
      refine EL.op (OPW.skipT (k := 117) rfl (by kernel_rfl) (by kernel_rfl) ?_)
      refine EL.op (OPW.val (k := 118) (.bool false) rfl (by kernel_rfl) (by kernel_rfl) (by kernel_rfl) ?_)
      refine EL.op (OPW.val (k := 119) (.bool false) rfl (by kernel_rfl) (by kernel_rfl) (by kernel_rfl) ?_)
      refine EL.op (OPW.skipT (k := 120) rfl (by kernel_rfl) (by kernel_rfl) ?_)
      refine EL.op (OPW.skipT (k := 121) rfl (by kernel_rfl) (by kernel_rfl) ?_)
      refine EL.op (OPW.skipT (k := 122) rfl (by kernel_rfl) (by kernel_rfl) ?_)
      refine EL.op (OPW.val (k := 123) (.bool false) rfl (by kernel_rfl) (by kernel_rfl) (by kernel_rfl) ?_)
      refine EL.op (OPW.val (k := 124) (.bool false) rfl (by kernel_rfl) (by kernel_rfl) (by kernel_rfl) ?_)
      refine EL.op (OPW.skipT (k := 125) rfl (by kernel_rfl) (by kernel_rfl) ?_)
      refine EL.op (OPW.skipT (k := 126) rfl (by kernel_rfl) (by kernel_rfl) ?_)
      refine EL.op (OPW.skipT (k := 127) rfl (by kernel_rfl) (by kernel_rfl) ?_)
      refine EL.op (OPW.val (k := 128) (.bool false) rfl (by kernel_rfl) (by kernel_rfl) (by kernel_rfl) ?_)
      refine EL.op (OPW.val (k := 129) (.bool false) rfl (by kernel_rfl) (by kernel_rfl) (by kernel_rfl) ?_)
      refine EL.op (OPW.skipT (k := 130) rfl (by kernel_rfl) (by kernel_rfl) ?_)
      refine EL.op (OPW.skipT (k := 131) rfl (by kernel_rfl) (by kernel_rfl) ?_)
      refine EL.op (OPW.skipT (k := 132) rfl (by kernel_rfl) (by kernel_rfl) ?_)
      refine EL.op (OPW.skipT (k := 133) rfl (by kernel_rfl) (by kernel_rfl) ?_)
      refine EL.op (OPW.val (k := 134) (.bool false) rfl (by kernel_rfl) (by kernel_rfl) (by kernel_rfl) ?_)
      refine EL.op (OPW.val (k := 135) (.bool false) rfl (by kernel_rfl) (by kernel_rfl) (by kernel_rfl) ?_)
      refine EL.op (OPW.skipT (k := 136) rfl (by kernel_rfl) (by kernel_rfl) ?_)
      refine EL.op (OPW.skipT (k := 137) rfl (by kernel_rfl) (by kernel_rfl) ?_)
      refine EL.op (OPW.skipT (k := 138) rfl (by kernel_rfl) (by kernel_rfl) ?_)
      refine EL.op (OPW.skipT (k := 139) rfl (by kernel_rfl) (by kernel_rfl) ?_)
      refine EL.op (OPW.skipT (k := 140) rfl (by kernel_rfl) (by kernel_rfl) ?_)
      refine EL.op (OPW.skipT (k := 141) rfl (by kernel_rfl) (by kernel_rfl) ?_)
      refine EL.op (OPW.val (k := 142) (.bool false) rfl (by kernel_rfl) (by kernel_rfl) (by kernel_rfl) ?_)
      refine EL.nil ?_
      refine thenN ?_
      refine CW.condF (by kernel_rfl) ?_
      refine CW.skip ?_
      refine blockN ?_
      refine thenN ?_
      refine CW.region ?_
      refine EL.op (OPW.val (k := 144) (.int .i64 2) rfl (by kernel_rfl) (by kernel_rfl) (by kernel_rfl) ?_)
      refine EL.op (OPW.val (k := 64) (.int .i64 2) rfl (by kernel_rfl) (by kernel_rfl) (by kernel_rfl) ?_)
      refine EL.nil ?_
      refine roundN ?_
      refine CW.seq ?_
      refine CW.region ?_
      refine EL.op (OPW.val (k := 65) (.bool false) rfl (by kernel_rfl) (by kernel_rfl) (by kernel_rfl) ?_)
      refine EL.nil ?_
      refine thenN ?_
      refine CW.seq ?_
      refine CW.condF (by kernel_rfl) ?_
      refine CW.exit ?_
      refine thenE ?_
      refine thenE ?_
      refine blockE ?_
      refine thenN ?_
      refine CW.seq ?_
      refine CW.region ?_
      refine EL.op (OPW.val (k := 4) (.int .i64 (-1)) rfl (by kernel_rfl) (by kernel_rfl) (by kernel_rfl) ?_)
      refine EL.nil ?_
      refine thenN ?_
      refine CW.ret ?_
      refine bp_ret (v := .int .i64 (-1)) (by kernel_rfl) ?_
      refine ⟨?_, hS29.toBelow⟩
      rfl
    exact EDo.nil
variable (bk ok : Nat) (k0 : Int) (hK : w.rangeAt bk ok [.int .i64 k0])
include hK
set_option maxHeartbeats 1000000 in
theorem owner4 (L : Option Addr) (m ck cq : Nat) (hW : w.rangeAt bw ow (cat [wyC (.slice (some ⟨bk, ok, none⟩) 1 ck) h0 af0 wt0, wyC (.slice L m cq) h1 af1 wt1])) (hm : ((m : Int) == (1 : Int)) = false) :
    OwnerR id client peer at_ cap wait window kind tower channel amount s r D S nD d nS sg w (.slice (some ⟨bi, oi, none⟩) 1 ci) (.slice (some ⟨bo, oo, none⟩) 2 co) (-1) := by
  have hO := own_nil w
  have hS := Sep.refl w.heap.size [] w
  refine calls_L Try.func46 rfl 145 [(0, .agg (chnC id client peer s at_ cap wait window).toArray), (1, .agg (txC (.slice (some ⟨bi, oi, none⟩) 1 ci) (.slice (some ⟨bo, oo, none⟩) 2 co) kind tower channel amount r D nD d S nS sg).toArray)] (by kernel_rfl) ?_
  refine CW.seq ?_
  refine CW.region ?_
  refine EL.op (OPW.new (k := 2) (ob := cellsO (chnC id client peer s at_ cap wait window) 27) mkP rfl (by kernel_rfl) (by kernel_rfl) (by kernel_rfl) ?_)
  intro g1 w1 hg1 hw1
  have hO1 : Own w1 [(g1, (chnC id client peer s at_ cap wait window), 27)] := (hO.alloc hg1 hw1).norm (by kernel_rfl)
  have hS1 := hS.alloc (Nat.le_refl _) hw1
  have hn1 : w.heap.size ≤ g1 := hg1 ▸ hS.size
  refine EL.op (OPW.new (k := 3) (ob := cellsO (txC (.slice (some ⟨bi, oi, none⟩) 1 ci) (.slice (some ⟨bo, oo, none⟩) 2 co) kind tower channel amount r D nD d S nS sg) 45) mkP rfl (by kernel_rfl) (by kernel_rfl) (by kernel_rfl) ?_)
  intro g2 w2 hg2 hw2
  have hO2 : Own w2 [(g2, (txC (.slice (some ⟨bi, oi, none⟩) 1 ci) (.slice (some ⟨bo, oo, none⟩) 2 co) kind tower channel amount r D nD d S nS sg), 45), (g1, (chnC id client peer s at_ cap wait window), 27)] := (hO1.alloc hg2 hw2).norm (by kernel_rfl)
  have hS2 := hS1.alloc (Nat.le_refl _) hw2
  have hn2 : w.heap.size ≤ g2 := hg2 ▸ hS1.size
  refine EL.op (OPW.val (k := 4) (.int .i64 0) rfl (by kernel_rfl) (by kernel_rfl) (by kernel_rfl) ?_)
  refine EL.nil ?_
  refine thenN ?_
  refine CW.seq ?_
  refine CW.seq ?_
  refine ED.start (fun w' => Sep w2.drew.heap.size [] w2.drew w') (by kernel_rfl) ?_
  rintro _ rfl
  have hO4 := hO2.drew
  have hS5 := hS2.drew
  have hT1 : Sep w2.drew.heap.size [] w2.drew w2.drew := .refl _ _ _
  refine ED.take (k := 10) 0 (.pointer (some ⟨g2, 0, none⟩)) rfl rfl (by kernel_rfl) (by kernel_rfl) (by kernel_rfl) (by kernel_rfl) (fun _ _ _ h => h) (YI.val (by kernel_rfl) (fun _ _ => (by kernel_rfl))) hT1 ?_
  refine ED.take (k := 11) 1 (.slice (some ⟨bi, oi, none⟩) 1 ci) rfl rfl (by kernel_rfl) (by kernel_rfl) (by kernel_rfl) (by kernel_rfl) (fun _ _ _ h => h) (YI.val (by kernel_rfl) (fun _ hS' => load1 (b := g2) (i := 0) rfl (by kernel_rfl) (by kernel_rfl) (hS'.cell (hO4.lt 0 rfl) (by simp) (hO4.cell 0 rfl (by kernel_rfl))))) hT1 ?_
  refine ED.take (k := 12) 2 (.int .i64 1) rfl rfl (by kernel_rfl) (by kernel_rfl) (by kernel_rfl) (by kernel_rfl) (fun _ _ _ h => h) (YI.val (by kernel_rfl) (fun _ _ => (by kernel_rfl))) hT1 ?_
  refine ED.take (k := 13) 3 (.bool false) rfl rfl (by kernel_rfl) (by kernel_rfl) (by kernel_rfl) (by kernel_rfl) (fun _ _ _ h => h) (YI.val (by kernel_rfl) (fun _ _ => (by kernel_rfl))) hT1 ?_
  refine ED.take (k := 14) 4 (.bool false) rfl rfl (by kernel_rfl) (by kernel_rfl) (by kernel_rfl) (by kernel_rfl) (fun _ _ _ h => h) (YI.val (by kernel_rfl) (fun _ _ => (by kernel_rfl))) hT1 ?_
  refine ED.take (k := 15) 5 (.pointer (some ⟨g2, 0, none⟩)) rfl rfl (by kernel_rfl) (by kernel_rfl) (by kernel_rfl) (by kernel_rfl) (fun _ _ _ h => h) (YI.val (by kernel_rfl) (fun _ _ => (by kernel_rfl))) hT1 ?_
  refine ED.take (k := 16) 6 (.slice (some ⟨bi, oi, none⟩) 1 ci) rfl rfl (by kernel_rfl) (by kernel_rfl) (by kernel_rfl) (by kernel_rfl) (fun _ _ _ h => h) (YI.val (by kernel_rfl) (fun _ hS' => load1 (b := g2) (i := 0) rfl (by kernel_rfl) (by kernel_rfl) (hS'.cell (hO4.lt 0 rfl) (by simp) (hO4.cell 0 rfl (by kernel_rfl))))) hT1 ?_
  refine ED.take (k := 17) 7 (.pointer (some ⟨bi, oi, none⟩)) rfl rfl (by kernel_rfl) (by kernel_rfl) (by kernel_rfl) (by kernel_rfl) (fun _ _ _ h => h) (YI.val (by kernel_rfl) (fun _ _ => (by kernel_rfl))) hT1 ?_
  refine ED.take (k := 18) 8 (.pointer (some ⟨bi, oi, none⟩)) rfl rfl (by kernel_rfl) (by kernel_rfl) (by kernel_rfl) (by kernel_rfl) (fun _ _ _ h => h) (YI.val (by kernel_rfl) (fun _ _ => (by kernel_rfl))) hT1 ?_
  refine ED.take (k := 19) 9 (.agg ((cat [sumV xi, [.int .i64 iat]])).toArray) rfl rfl (by kernel_rfl) (by kernel_rfl) (by kernel_rfl) (by kernel_rfl) (fun _ _ _ h => h) (YI.val (by kernel_rfl) (fun _ hS' => loadN (b := bi) (i := oi) rfl (by kernel_rfl) (by kernel_rfl) (by kernel_rfl) (hS'.range (Nat.lt_of_lt_of_le (rng_lt hI) hS5.size) (by simp) (hS5.range (rng_lt hI) (by simp) (rng_sub hI 0 (vs := (cat [sumV xi, [.int .i64 iat]])) (by kernel_rfl)))))) hT1 ?_
  refine ED.take (k := 20) 10 (.pointer (some ⟨g1, 3, none⟩)) rfl rfl (by kernel_rfl) (by kernel_rfl) (by kernel_rfl) (by kernel_rfl) (fun _ _ _ h => h) (YI.val (by kernel_rfl) (fun _ _ => (by kernel_rfl))) hT1 ?_
  refine ED.take (k := 21) 11 (.agg ((cat [sumV s, [.int .i64 at_]])).toArray) rfl rfl (by kernel_rfl) (by kernel_rfl) (by kernel_rfl) (by kernel_rfl) (fun _ _ _ h => h) (YI.val (by kernel_rfl) (fun _ hS' => loadN (b := g1) (i := 3) rfl (by kernel_rfl) (by kernel_rfl) (by kernel_rfl) (hS'.range (hO4.lt 1 rfl) (by simp) (hO4.range 1 (vs := (cat [sumV s, [.int .i64 at_]])) rfl (by kernel_rfl))))) hT1 ?_
  refine ED.takeB (k := 22) 12 (!(((sumEq xi s) && ((iat == at_) && true)))) rfl rfl (by kernel_rfl) (by kernel_rfl) (by kernel_rfl) (by kernel_rfl) (fun _ _ _ h => h) (YI.val (by kernel_rfl) (fun _ _ => (neq_run (b := ((sumEq xi s) && ((iat == at_) && true))) rfl (by kernel_rfl) (by kernel_rfl) (by kernel_rfl) (by kernel_rfl)))) hT1 ?_
  intro b6 hb6
  refine ED.take (k := 23) 13 (.bool b6) rfl rfl (by kernel_rfl) (by kernel_rfl) (by kernel_rfl) (by kernel_rfl) (fun _ _ _ h => h) (YI.val (by kernel_rfl) (fun _ _ => (by kernel_rfl))) hT1 ?_
  refine ED.take (k := 24) 14 (.bool b6) rfl rfl (by kernel_rfl) (by kernel_rfl) (by kernel_rfl) (by kernel_rfl) (fun _ _ _ h => h) (YI.val (by kernel_rfl) (fun _ _ => (by kernel_rfl))) hT1 ?_
  refine ED.take (k := 25) 15 ((bif b6 then undef else Value.pointer (some ⟨g2, 1, none⟩))) rfl rfl (by kernel_rfl) (by kernel_rfl) (by kernel_rfl) (by kernel_rfl) (fun _ _ _ h => h) (YI.gF b6 rfl (by kernel_rfl) (by rintro rfl; intro _ _; kernel_rfl)) hT1 ?_
  refine ED.take (k := 26) 16 ((bif b6 then undef else Value.slice (some ⟨bo, oo, none⟩) 2 co)) rfl rfl (by kernel_rfl) (by kernel_rfl) (by kernel_rfl) (by kernel_rfl) (fun _ _ _ h => h) (YI.gF b6 rfl (by kernel_rfl) (by rintro rfl; exact fun _ hS' => load1 (b := g2) (i := 1) rfl (by kernel_rfl) (by kernel_rfl) (hS'.cell (hO4.lt 0 rfl) (by simp) (hO4.cell 0 rfl (by kernel_rfl))))) hT1 ?_
  refine ED.take (k := 27) 17 ((bif b6 then undef else Value.int .i64 2)) rfl rfl (by kernel_rfl) (by kernel_rfl) (by kernel_rfl) (by kernel_rfl) (fun _ _ _ h => h) (YI.gF b6 rfl (by kernel_rfl) (by rintro rfl; intro _ _; kernel_rfl)) hT1 ?_
  refine ED.take (k := 28) 18 ((bif b6 then undef else Value.bool false)) rfl rfl (by kernel_rfl) (by kernel_rfl) (by kernel_rfl) (by kernel_rfl) (fun _ _ _ h => h) (YI.gF b6 rfl (by kernel_rfl) (by rintro rfl; intro _ _; kernel_rfl)) hT1 ?_
  refine ED.take (k := 29) 19 (.bool b6) rfl rfl (by kernel_rfl) (by kernel_rfl) (by kernel_rfl) (by kernel_rfl) (fun _ _ _ h => h) (YI.val (by kernel_rfl) (fun _ _ => (run_eq (v := .bool (bif b6 then true else false)) (pick_run (b := b6) (p := true) (q := false) rfl (by kernel_rfl) (fun _ => (by kernel_rfl)) (by rintro rfl; kernel_rfl)) (by cases b6 <;> rfl)))) hT1 ?_
  refine ED.take (k := 30) 20 (.bool b6) rfl rfl (by kernel_rfl) (by kernel_rfl) (by kernel_rfl) (by kernel_rfl) (fun _ _ _ h => h) (YI.val (by kernel_rfl) (fun _ _ => (by kernel_rfl))) hT1 ?_
  refine ED.take (k := 31) 21 ((bif b6 then undef else Value.pointer (some ⟨g2, 1, none⟩))) rfl rfl (by kernel_rfl) (by kernel_rfl) (by kernel_rfl) (by kernel_rfl) (fun _ _ _ h => h) (YI.gF b6 rfl (by kernel_rfl) (by rintro rfl; intro _ _; kernel_rfl)) hT1 ?_
  refine ED.take (k := 32) 22 ((bif b6 then undef else Value.slice (some ⟨bo, oo, none⟩) 2 co)) rfl rfl (by kernel_rfl) (by kernel_rfl) (by kernel_rfl) (by kernel_rfl) (fun _ _ _ h => h) (YI.gF b6 rfl (by kernel_rfl) (by rintro rfl; exact fun _ hS' => load1 (b := g2) (i := 1) rfl (by kernel_rfl) (by kernel_rfl) (hS'.cell (hO4.lt 0 rfl) (by simp) (hO4.cell 0 rfl (by kernel_rfl))))) hT1 ?_
  refine ED.take (k := 33) 23 ((bif b6 then undef else Value.pointer (some ⟨bo, oo, none⟩))) rfl rfl (by kernel_rfl) (by kernel_rfl) (by kernel_rfl) (by kernel_rfl) (fun _ _ _ h => h) (YI.gF b6 rfl (by kernel_rfl) (by rintro rfl; intro _ _; kernel_rfl)) hT1 ?_
  refine ED.take (k := 34) 24 ((bif b6 then undef else Value.pointer (some ⟨bo, oo + 1, none⟩))) rfl rfl (by kernel_rfl) (by kernel_rfl) (by kernel_rfl) (by kernel_rfl) (fun _ _ _ h => h) (YI.gF b6 rfl (by kernel_rfl) (by rintro rfl; intro _ _; kernel_rfl)) hT1 ?_
  refine ED.take (k := 35) 25 ((bif b6 then undef else Value.slice (some ⟨bw, ow, none⟩) 2 cw)) rfl rfl (by kernel_rfl) (by kernel_rfl) (by kernel_rfl) (by kernel_rfl) (fun _ _ _ h => h) (YI.gF b6 rfl (by kernel_rfl) (by rintro rfl; exact fun _ hS' => load1 (b := bo) (i := oo + 1) rfl (by kernel_rfl) (by kernel_rfl) (hS'.cell (Nat.lt_of_lt_of_le (rng_lt hT) hS5.size) (by simp) (hS5.cell (rng_lt hT) (by simp) (hT 1 _ (by kernel_rfl)))))) hT1 ?_
  refine ED.take (k := 36) 26 ((bif b6 then undef else Value.int .i64 2)) rfl rfl (by kernel_rfl) (by kernel_rfl) (by kernel_rfl) (by kernel_rfl) (fun _ _ _ h => h) (YI.gF b6 rfl (by kernel_rfl) (by rintro rfl; intro _ _; kernel_rfl)) hT1 ?_
  refine ED.take (k := 37) 27 ((bif b6 then undef else Value.bool false)) rfl rfl (by kernel_rfl) (by kernel_rfl) (by kernel_rfl) (by kernel_rfl) (fun _ _ _ h => h) (YI.gF b6 rfl (by kernel_rfl) (by rintro rfl; intro _ _; kernel_rfl)) hT1 ?_
  refine ED.take (k := 38) 28 (.bool b6) rfl rfl (by kernel_rfl) (by kernel_rfl) (by kernel_rfl) (by kernel_rfl) (fun _ _ _ h => h) (YI.val (by kernel_rfl) (fun _ _ => (run_eq (v := .bool (bif b6 then true else false)) (pick_run (b := b6) (p := true) (q := false) rfl (by kernel_rfl) (fun _ => (by kernel_rfl)) (by rintro rfl; kernel_rfl)) (by cases b6 <;> rfl)))) hT1 ?_
  refine ED.take (k := 39) 29 (.bool b6) rfl rfl (by kernel_rfl) (by kernel_rfl) (by kernel_rfl) (by kernel_rfl) (fun _ _ _ h => h) (YI.val (by kernel_rfl) (fun _ _ => (by kernel_rfl))) hT1 ?_
  refine ED.take (k := 40) 30 ((bif b6 then undef else Value.pointer (some ⟨g2, 2, none⟩))) rfl rfl (by kernel_rfl) (by kernel_rfl) (by kernel_rfl) (by kernel_rfl) (fun _ _ _ h => h) (YI.gF b6 rfl (by kernel_rfl) (by rintro rfl; intro _ _; kernel_rfl)) hT1 ?_
  refine ED.take (k := 41) 31 ((bif b6 then undef else Value.pointer (some ⟨g2, 2, none⟩))) rfl rfl (by kernel_rfl) (by kernel_rfl) (by kernel_rfl) (by kernel_rfl) (fun _ _ _ h => h) (YI.gF b6 rfl (by kernel_rfl) (by rintro rfl; intro _ _; kernel_rfl)) hT1 ?_
  refine ED.take (k := 42) 32 ((bif b6 then undef else Value.int .i64 kind)) rfl rfl (by kernel_rfl) (by kernel_rfl) (by kernel_rfl) (by kernel_rfl) (fun _ _ _ h => h) (YI.gF b6 rfl (by kernel_rfl) (by rintro rfl; exact fun _ hS' => load1 (b := g2) (i := 2) rfl (by kernel_rfl) (by kernel_rfl) (hS'.cell (hO4.lt 0 rfl) (by simp) (hO4.cell 0 rfl (by kernel_rfl))))) hT1 ?_
  refine ED.take (k := 43) 33 ((bif b6 then undef else Value.bool (kind != (0 : Int)))) rfl rfl (by kernel_rfl) (by kernel_rfl) (by kernel_rfl) (by kernel_rfl) (fun _ _ _ h => h) (YI.gF b6 rfl (by kernel_rfl) (by rintro rfl; intro _ _; kernel_rfl)) hT1 ?_
  refine ED.takeB (k := 44) 34 (b6 || (kind != (0 : Int))) rfl rfl (by kernel_rfl) (by kernel_rfl) (by kernel_rfl) (by kernel_rfl) (fun _ _ _ h => h) (YI.val (by kernel_rfl) (fun _ _ => (pick_or rfl (by kernel_rfl) (by kernel_rfl) (by rintro rfl; kernel_rfl)))) hT1 ?_
  intro b7 hb7
  refine ED.done (by kernel_rfl) ?_
  refine thenN ?_
  refine CW.cond b7 (by kernel_rfl) (fun hc1 => ?_) (fun hc1 => ?_)
  · skip
    subst hc1
    refine CW.seq ?_
    refine CW.region ?_
    refine EL.op (OPW.val (k := 4) (.int .i64 (-1)) rfl (by kernel_rfl) (by kernel_rfl) (by kernel_rfl) ?_)
    refine EL.nil ?_
    refine thenN ?_
    refine CW.ret ?_
    refine thenR ?_
    refine bp_ret (v := .int .i64 (-1)) (by kernel_rfl) ?_
    refine ⟨?_, hS5.toBelow⟩
    rfl
  · skip
    subst hc1
    refine CW.skip ?_
    refine thenN ?_
    refine CW.seq ?_
    refine ED.start (fun w' => Sep w2.drew.drew.heap.size [] w2.drew.drew w') (by kernel_rfl) ?_
    rintro _ rfl
    have hO9 := hO4.drew
    have hS10 := hS5.drew
    have hT3 : Sep w2.drew.drew.heap.size [] w2.drew.drew w2.drew.drew := .refl _ _ _
    refine ED.take (k := 45) 0 (.pointer (some ⟨g2, 1, none⟩)) rfl rfl (by kernel_rfl) (by kernel_rfl) (by kernel_rfl) (by kernel_rfl) (fun _ _ _ h => h) (YI.val (by kernel_rfl) (fun _ _ => (by kernel_rfl))) hT3 ?_
    refine ED.take (k := 46) 1 (.slice (some ⟨bo, oo, none⟩) 2 co) rfl rfl (by kernel_rfl) (by kernel_rfl) (by kernel_rfl) (by kernel_rfl) (fun _ _ _ h => h) (YI.val (by kernel_rfl) (fun _ hS' => load1 (b := g2) (i := 1) rfl (by kernel_rfl) (by kernel_rfl) (hS'.cell (hO9.lt 0 rfl) (by simp) (hO9.cell 0 rfl (by kernel_rfl))))) hT3 ?_
    refine ED.take (k := 47) 2 (.pointer (some ⟨bo, oo, none⟩)) rfl rfl (by kernel_rfl) (by kernel_rfl) (by kernel_rfl) (by kernel_rfl) (fun _ _ _ h => h) (YI.val (by kernel_rfl) (fun _ _ => (by kernel_rfl))) hT3 ?_
    refine ED.take (k := 48) 3 (.pointer (some ⟨bo, oo + 1, none⟩)) rfl rfl (by kernel_rfl) (by kernel_rfl) (by kernel_rfl) (by kernel_rfl) (fun _ _ _ h => h) (YI.val (by kernel_rfl) (fun _ _ => (by kernel_rfl))) hT3 ?_
    refine ED.take (k := 49) 4 (.slice (some ⟨bw, ow, none⟩) 2 cw) rfl rfl (by kernel_rfl) (by kernel_rfl) (by kernel_rfl) (by kernel_rfl) (fun _ _ _ h => h) (YI.val (by kernel_rfl) (fun _ hS' => load1 (b := bo) (i := oo + 1) rfl (by kernel_rfl) (by kernel_rfl) (hS'.cell (Nat.lt_of_lt_of_le (rng_lt hT) hS10.size) (by simp) (hS10.cell (rng_lt hT) (by simp) (hT 1 _ (by kernel_rfl)))))) hT3 ?_
    refine ED.take (k := 50) 5 (.pointer (some ⟨bw, ow, none⟩)) rfl rfl (by kernel_rfl) (by kernel_rfl) (by kernel_rfl) (by kernel_rfl) (fun _ _ _ h => h) (YI.val (by kernel_rfl) (fun _ _ => (by kernel_rfl))) hT3 ?_
    refine ED.take (k := 51) 6 (.agg ((cat [[.slice (some ⟨bk, ok, none⟩) 1 ck], sumV h0, [.int .i64 af0, .int .i64 wt0]])).toArray) rfl rfl (by kernel_rfl) (by kernel_rfl) (by kernel_rfl) (by kernel_rfl) (fun _ _ _ h => h) (YI.val (by kernel_rfl) (fun _ hS' => loadN (b := bw) (i := ow) rfl (by kernel_rfl) (by kernel_rfl) (by kernel_rfl) (hS'.range (Nat.lt_of_lt_of_le (rng_lt hW) hS10.size) (by simp) (hS10.range (rng_lt hW) (by simp) (rng_sub hW 0 (vs := (cat [[.slice (some ⟨bk, ok, none⟩) 1 ck], sumV h0, [.int .i64 af0, .int .i64 wt0]])) (by kernel_rfl)))))) hT3 ?_
    refine ED.take (k := 52) 7 (.pointer (some ⟨g2, 1, none⟩)) rfl rfl (by kernel_rfl) (by kernel_rfl) (by kernel_rfl) (by kernel_rfl) (fun _ _ _ h => h) (YI.val (by kernel_rfl) (fun _ _ => (by kernel_rfl))) hT3 ?_
    refine ED.take (k := 53) 8 (.slice (some ⟨bo, oo, none⟩) 2 co) rfl rfl (by kernel_rfl) (by kernel_rfl) (by kernel_rfl) (by kernel_rfl) (fun _ _ _ h => h) (YI.val (by kernel_rfl) (fun _ hS' => load1 (b := g2) (i := 1) rfl (by kernel_rfl) (by kernel_rfl) (hS'.cell (hO9.lt 0 rfl) (by simp) (hO9.cell 0 rfl (by kernel_rfl))))) hT3 ?_
    refine ED.take (k := 54) 9 (.pointer (some ⟨bo, oo, none⟩)) rfl rfl (by kernel_rfl) (by kernel_rfl) (by kernel_rfl) (by kernel_rfl) (fun _ _ _ h => h) (YI.val (by kernel_rfl) (fun _ _ => (by kernel_rfl))) hT3 ?_
    refine ED.take (k := 55) 10 (.pointer (some ⟨bo, oo + 1, none⟩)) rfl rfl (by kernel_rfl) (by kernel_rfl) (by kernel_rfl) (by kernel_rfl) (fun _ _ _ h => h) (YI.val (by kernel_rfl) (fun _ _ => (by kernel_rfl))) hT3 ?_
    refine ED.take (k := 56) 11 (.slice (some ⟨bw, ow, none⟩) 2 cw) rfl rfl (by kernel_rfl) (by kernel_rfl) (by kernel_rfl) (by kernel_rfl) (fun _ _ _ h => h) (YI.val (by kernel_rfl) (fun _ hS' => load1 (b := bo) (i := oo + 1) rfl (by kernel_rfl) (by kernel_rfl) (hS'.cell (Nat.lt_of_lt_of_le (rng_lt hT) hS10.size) (by simp) (hS10.cell (rng_lt hT) (by simp) (hT 1 _ (by kernel_rfl)))))) hT3 ?_
    refine ED.take (k := 57) 12 (.pointer (some ⟨bw, ow + 35, none⟩)) rfl rfl (by kernel_rfl) (by kernel_rfl) (by kernel_rfl) (by kernel_rfl) (fun _ _ _ h => h) (YI.val (by kernel_rfl) (fun _ _ => (by kernel_rfl))) hT3 ?_
    refine ED.take (k := 58) 13 (.agg ((cat [[.slice L m cq], sumV h1, [.int .i64 af1, .int .i64 wt1]])).toArray) rfl rfl (by kernel_rfl) (by kernel_rfl) (by kernel_rfl) (by kernel_rfl) (fun _ _ _ h => h) (YI.val (by kernel_rfl) (fun _ hS' => loadN (b := bw) (i := ow + 35) rfl (by kernel_rfl) (by kernel_rfl) (by kernel_rfl) (hS'.range (Nat.lt_of_lt_of_le (rng_lt hW) hS10.size) (by simp) (hS10.range (rng_lt hW) (by simp) (rng_sub hW 35 (vs := (cat [[.slice L m cq], sumV h1, [.int .i64 af1, .int .i64 wt1]])) (by kernel_rfl)))))) hT3 ?_
    refine ED.all [14, 15] (by kernel_rfl) (by simp) ?_
    refine EDo.cons rfl ?_ ?_
    · skip
      refine (OPW.new (k := 5) (ob := cellsO (cat [[.slice none 0 0], sumV (fun _ => 0), [.int .i64 0, .int .i64 0]]) 35) mkP rfl (by kernel_rfl) (by kernel_rfl) (by kernel_rfl) ?_)
      intro g11 w11 hg11 hw11
      have hO11 : Own w11 [(g11, (cat [[.slice none 0 0], sumV (fun _ => 0), [.int .i64 0, .int .i64 0]]), 35), (g2, (txC (.slice (some ⟨bi, oi, none⟩) 1 ci) (.slice (some ⟨bo, oo, none⟩) 2 co) kind tower channel amount r D nD d S nS sg), 45), (g1, (chnC id client peer s at_ cap wait window), 27)] := (hO9.alloc hg11 hw11).norm (by kernel_rfl)
      have hS11 := hS10.alloc (Nat.le_refl _) hw11
      have hn11 : w.heap.size ≤ g11 := hg11 ▸ hS10.size
      have hr12 : w2.drew.drew.heap.size ≤ g11 := hg11 ▸ hT3.size
      have hT13 : Sep w2.drew.drew.heap.size [] w2.drew.drew w11 := hT3.alloc (Nat.le_refl _) hw11
      refine ⟨hT13, ?_⟩
      refine ED.all [15] (by kernel_rfl) (by simp) ?_
      refine EDo.cons rfl ?_ EDo.nil
      refine (OPW.new (k := 6) (ob := cellsO (cat [[.slice none 0 0], sumV (fun _ => 0), [.int .i64 0, .int .i64 0]]) 35) mkP rfl (by kernel_rfl) (by kernel_rfl) (by kernel_rfl) ?_)
      intro g14 w14 hg14 hw14
      have hO14 : Own w14 [(g14, (cat [[.slice none 0 0], sumV (fun _ => 0), [.int .i64 0, .int .i64 0]]), 35), (g11, (cat [[.slice none 0 0], sumV (fun _ => 0), [.int .i64 0, .int .i64 0]]), 35), (g2, (txC (.slice (some ⟨bi, oi, none⟩) 1 ci) (.slice (some ⟨bo, oo, none⟩) 2 co) kind tower channel amount r D nD d S nS sg), 45), (g1, (chnC id client peer s at_ cap wait window), 27)] := (hO11.alloc hg14 hw14).norm (by kernel_rfl)
      have hS14 := hS11.alloc (Nat.le_refl _) hw14
      have hn14 : w.heap.size ≤ g14 := hg14 ▸ hS11.size
      have hr15 : w2.drew.drew.heap.size ≤ g14 := hg14 ▸ hT13.size
      have hT16 : Sep w2.drew.drew.heap.size [] w2.drew.drew w14 := hT13.alloc (Nat.le_refl _) hw14
      refine ⟨hT16, ?_⟩
      refine ED.all [16] (by kernel_rfl) (by simp) ?_
      refine EDo.cons rfl ?_ EDo.nil
      refine (OPW.store (b := g11) (i := 0) (cat [[.slice (some ⟨bk, ok, none⟩) 1 ck], sumV h0, [.int .i64 af0, .int .i64 wt0]]) rfl (by kernel_rfl) rfl (by kernel_rfl) (by kernel_rfl) (by kernel_rfl) (by kernel_rfl) (hO14.there 1 rfl (Nat.le_of_ble_eq_true (by kernel_rfl))) ?_)
      intro w17 hw17
      have hO17 : Own w17 [(g14, (cat [[.slice none 0 0], sumV (fun _ => 0), [.int .i64 0, .int .i64 0]]), 35), (g11, (cat [[.slice (some ⟨bk, ok, none⟩) 1 ck], sumV h0, [.int .i64 af0, .int .i64 wt0]]), 35), (g2, (txC (.slice (some ⟨bi, oi, none⟩) 1 ci) (.slice (some ⟨bo, oo, none⟩) 2 co) kind tower channel amount r D nD d S nS sg), 45), (g1, (chnC id client peer s at_ cap wait window), 27)] := (hO14.set' 1 (vs := (cat [[.slice (some ⟨bk, ok, none⟩) 1 ck], sumV h0, [.int .i64 af0, .int .i64 wt0]])) rfl (Nat.le_of_ble_eq_true (by kernel_rfl)) hw17).norm (by kernel_rfl)
      have hS17 := hS14.set' (.inl hn11) hw17
      have hT18 : Sep w2.drew.drew.heap.size [] w2.drew.drew w17 := hT16.set' (.inl hr12) hw17
      refine ⟨hT18, ?_⟩
      refine ED.all [17] (by kernel_rfl) (by simp) ?_
      refine EDo.cons rfl ?_ EDo.nil
      refine (OPW.store (b := g14) (i := 0) (cat [[.slice L m cq], sumV h1, [.int .i64 af1, .int .i64 wt1]]) rfl (by kernel_rfl) rfl (by kernel_rfl) (by kernel_rfl) (by kernel_rfl) (by kernel_rfl) (hO17.there 0 rfl (Nat.le_of_ble_eq_true (by kernel_rfl))) ?_)
      intro w19 hw19
      have hO19 : Own w19 [(g14, (cat [[.slice L m cq], sumV h1, [.int .i64 af1, .int .i64 wt1]]), 35), (g11, (cat [[.slice (some ⟨bk, ok, none⟩) 1 ck], sumV h0, [.int .i64 af0, .int .i64 wt0]]), 35), (g2, (txC (.slice (some ⟨bi, oi, none⟩) 1 ci) (.slice (some ⟨bo, oo, none⟩) 2 co) kind tower channel amount r D nD d S nS sg), 45), (g1, (chnC id client peer s at_ cap wait window), 27)] := (hO17.set' 0 (vs := (cat [[.slice L m cq], sumV h1, [.int .i64 af1, .int .i64 wt1]])) rfl (Nat.le_of_ble_eq_true (by kernel_rfl)) hw19).norm (by kernel_rfl)
      have hS19 := hS17.set' (.inl hn14) hw19
      have hT20 : Sep w2.drew.drew.heap.size [] w2.drew.drew w19 := hT18.set' (.inl hr15) hw19
      refine ⟨hT20, ?_⟩
      refine ED.done (by kernel_rfl) ?_
      refine thenN ?_
      refine CW.seq ?_
      refine CW.seq ?_
      refine CW.region ?_
      refine EL.op (OPW.val (k := 59) (.pointer (some ⟨g1, 1, none⟩)) rfl (by kernel_rfl) (by kernel_rfl) (by kernel_rfl) ?_)
      refine EL.op (OPW.val (k := 60) (.int .i64 client) rfl (by kernel_rfl) (by kernel_rfl) (load1 (b := g1) (i := 1) rfl (by kernel_rfl) (by kernel_rfl) (hO19.cell 3 rfl (by kernel_rfl))) ?_)
      refine EL.op (OPW.val (k := 61) (.pointer (some ⟨g1, 2, none⟩)) rfl (by kernel_rfl) (by kernel_rfl) (by kernel_rfl) ?_)
      refine EL.op (OPW.val (k := 62) (.int .i64 peer) rfl (by kernel_rfl) (by kernel_rfl) (load1 (b := g1) (i := 2) rfl (by kernel_rfl) (by kernel_rfl) (hO19.cell 3 rfl (by kernel_rfl))) ?_)
      refine EL.op (OPW.val (k := 63) (.agg #[.int .i64 client, .int .i64 peer]) rfl (by kernel_rfl) (by kernel_rfl) (by kernel_rfl) ?_)
      refine EL.op (OPW.val (k := 64) (.int .i64 0) rfl (by kernel_rfl) (by kernel_rfl) (by kernel_rfl) ?_)
      refine EL.nil ?_
      refine thenN ?_
      refine CW.block ?_
      refine CW.rounds 2 ?_
      refine CW.seq ?_
      refine CW.region ?_
      refine EL.op (OPW.val (k := 65) (.bool true) rfl (by kernel_rfl) (by kernel_rfl) (by kernel_rfl) ?_)
      refine EL.nil ?_
      refine thenN ?_
      refine CW.seq ?_
      refine CW.condT (by kernel_rfl) ?_
      refine CW.skip ?_
      refine thenN ?_
      refine CW.seq ?_
      refine CW.block ?_
      refine CW.seq ?_
      refine CW.region ?_
      refine EL.op (OPW.val (k := 66) (.int .i64 0) rfl (by kernel_rfl) (by kernel_rfl) (by kernel_rfl) ?_)
      refine EL.op (OPW.val (k := 67) (.int .i64 client) rfl (by kernel_rfl) (by kernel_rfl) (by kernel_rfl) ?_)
      refine EL.op (OPW.val (k := 7) (.int .i64 0) rfl (by kernel_rfl) (by kernel_rfl) (by kernel_rfl) ?_)
      refine EL.op (OPW.val (k := 8) (.int .i64 client) rfl (by kernel_rfl) (by kernel_rfl) (by kernel_rfl) ?_)
      refine EL.nil ?_
      refine thenN ?_
      refine CW.seq ?_
      refine CW.region ?_
      refine EL.op (OPW.val (k := 68) (.pointer (some ⟨g1, 1, none⟩)) rfl (by kernel_rfl) (by kernel_rfl) (by kernel_rfl) ?_)
      refine EL.op (OPW.val (k := 69) (.int .i64 client) rfl (by kernel_rfl) (by kernel_rfl) (load1 (b := g1) (i := 1) rfl (by kernel_rfl) (by kernel_rfl) (hO19.cell 3 rfl (by kernel_rfl))) ?_)
      refine EL.op (OPW.val (k := 70) (.pointer (some ⟨g1, 2, none⟩)) rfl (by kernel_rfl) (by kernel_rfl) (by kernel_rfl) ?_)
      refine EL.op (OPW.val (k := 71) (.int .i64 peer) rfl (by kernel_rfl) (by kernel_rfl) (load1 (b := g1) (i := 2) rfl (by kernel_rfl) (by kernel_rfl) (hO19.cell 3 rfl (by kernel_rfl))) ?_)
      refine EL.op (OPW.val (k := 72) (.int .i64 (IntKind.i64.wrap (client + peer))) rfl (by kernel_rfl) (by kernel_rfl) (by kernel_rfl) ?_)
      refine EL.op (OPW.val (k := 73) (.int .i64 client) rfl (by kernel_rfl) (by kernel_rfl) (by kernel_rfl) ?_)
      refine EL.op (OPW.val (k := 74) (.int .i64 peer) rfl (by kernel_rfl) (by kernel_rfl) (run_eq (v := .int .i64 (IntKind.i64.wrap ((IntKind.i64.wrap (client + peer)) - client))) (by kernel_rfl) (wr_l hpeer)) ?_)
      refine EL.op (OPW.val (k := 9) (.int .i64 peer) rfl (by kernel_rfl) (by kernel_rfl) (by kernel_rfl) ?_)
      refine EL.nil ?_
      refine thenN ?_
      refine CW.seq ?_
      refine CW.region ?_
      refine EL.opA (OPW.val (k := 75) (.pointer (some ⟨g11, 0, none⟩)) rfl (by kernel_rfl) (by kernel_rfl) (by kernel_rfl) ?_)
      refine EL.opA (OPW.val (k := 76) (.slice (some ⟨bk, ok, none⟩) 1 ck) rfl (by kernel_rfl) (by kernel_rfl) (load1 (b := g11) (i := 0) rfl (by kernel_rfl) (by kernel_rfl) (hO19.cell 1 rfl (by kernel_rfl))) ?_)
      refine EL.opA (OPW.val (k := 77) (.int .i64 1) rfl (by kernel_rfl) (by kernel_rfl) (by kernel_rfl) ?_)
      refine EL.opA (OPW.val (k := 78) (.bool true) rfl (by kernel_rfl) (by kernel_rfl) (by kernel_rfl) ?_)
      refine EL.opA (OPW.val (k := 79) (.bool true) rfl (by kernel_rfl) (by kernel_rfl) (by kernel_rfl) ?_)
      refine EL.opA (OPW.val (k := 80) (.pointer (some ⟨g11, 0, none⟩)) rfl (by kernel_rfl) (by kernel_rfl) (by kernel_rfl) ?_)
      refine EL.opA (OPW.val (k := 81) (.slice (some ⟨bk, ok, none⟩) 1 ck) rfl (by kernel_rfl) (by kernel_rfl) (load1 (b := g11) (i := 0) rfl (by kernel_rfl) (by kernel_rfl) (hO19.cell 1 rfl (by kernel_rfl))) ?_)
      refine EL.opA (OPW.val (k := 82) (.pointer (some ⟨bk, ok, none⟩)) rfl (by kernel_rfl) (by kernel_rfl) (by kernel_rfl) ?_)
      refine EL.opA (OPW.val (k := 83) (.int .i64 k0) rfl (by kernel_rfl) (by kernel_rfl) (load1 (b := bk) (i := ok) rfl (by kernel_rfl) (by kernel_rfl) (hS19.cell (rng_lt hK) (by simp) (hK 0 _ (by kernel_rfl)))) ?_)
      refine EL.opA (OPW.val (k := 84) (.int .i64 client) rfl (by kernel_rfl) (by kernel_rfl) (by kernel_rfl) ?_)
      refine EL.opA (OPW.bool (k := 85) (k0 == client) rfl (by kernel_rfl) (by kernel_rfl) (by kernel_rfl) ?_)
      intro b21 hb21
      refine EL.opA (OPW.val (k := 86) (.bool b21) rfl (by kernel_rfl) (by kernel_rfl) (by kernel_rfl) ?_)
      refine EL.opA (OPW.val (k := 87) (.bool b21) rfl (by kernel_rfl) (by kernel_rfl) (by kernel_rfl) ?_)
      refine EL.opA (OPW.gT (k := 88) b21 (.pointer (some ⟨g11, 34, none⟩)) rfl (by kernel_rfl) rfl (by kernel_rfl) (by rintro rfl; kernel_rfl) ?_)
      refine EL.opA (OPW.gT (k := 89) b21 (.int .i64 wt0) rfl (by kernel_rfl) rfl (by kernel_rfl) (by rintro rfl; exact (load1 (b := g11) (i := 34) rfl (by kernel_rfl) (by kernel_rfl) (hO19.cell 1 rfl (by kernel_rfl)))) ?_)
      refine EL.opA (OPW.gT (k := 90) b21 (.pointer (some ⟨g1, 37, none⟩)) rfl (by kernel_rfl) rfl (by kernel_rfl) (by rintro rfl; kernel_rfl) ?_)
      refine EL.opA (OPW.gT (k := 91) b21 (.int .i64 wait) rfl (by kernel_rfl) rfl (by kernel_rfl) (by rintro rfl; exact (load1 (b := g1) (i := 37) rfl (by kernel_rfl) (by kernel_rfl) (hO19.cell 3 rfl (by kernel_rfl)))) ?_)
      refine EL.opA (OPW.gT (k := 92) b21 (.bool (wt0 == wait)) rfl (by kernel_rfl) rfl (by kernel_rfl) (by rintro rfl; kernel_rfl) ?_)
      refine EL.opA (OPW.bool (k := 93) (b21 && (wt0 == wait)) rfl (by kernel_rfl) (by kernel_rfl) (pick_and rfl (by kernel_rfl) (by rintro rfl; kernel_rfl) (by kernel_rfl)) ?_)
      intro b22 hb22
      refine EL.opA (OPW.val (k := 94) (.bool b22) rfl (by kernel_rfl) (by kernel_rfl) (by kernel_rfl) ?_)
      refine EL.opA (OPW.gT (k := 95) b22 (.pointer (some ⟨g11, 33, none⟩)) rfl (by kernel_rfl) rfl (by kernel_rfl) (by rintro rfl; kernel_rfl) ?_)
      refine EL.opA (OPW.gT (k := 96) b22 (.int .i64 af0) rfl (by kernel_rfl) rfl (by kernel_rfl) (by rintro rfl; exact (load1 (b := g11) (i := 33) rfl (by kernel_rfl) (by kernel_rfl) (hO19.cell 1 rfl (by kernel_rfl)))) ?_)
      refine EL.opA (OPW.gT (k := 97) b22 (.bool (af0 == (0 : Int))) rfl (by kernel_rfl) rfl (by kernel_rfl) (by rintro rfl; kernel_rfl) ?_)
      refine EL.opA (OPW.bool (k := 98) (b22 && (af0 == (0 : Int))) rfl (by kernel_rfl) (by kernel_rfl) (pick_and rfl (by kernel_rfl) (by rintro rfl; kernel_rfl) (by kernel_rfl)) ?_)
      intro b23 hb23
      refine EL.opA (OPW.val (k := 99) (.bool b23) rfl (by kernel_rfl) (by kernel_rfl) (by kernel_rfl) ?_)
      refine EL.opA (OPW.gT (k := 100) b23 (.pointer (some ⟨g11, 1, none⟩)) rfl (by kernel_rfl) rfl (by kernel_rfl) (by rintro rfl; kernel_rfl) ?_)
      refine EL.opA (OPW.gT (k := 101) b23 (.agg (sumV h0).toArray) rfl (by kernel_rfl) rfl (by kernel_rfl) (by rintro rfl; exact (loadN (b := g11) (i := 1) rfl (by kernel_rfl) (by kernel_rfl) (by kernel_rfl) (hO19.range 1 (vs := sumV h0) rfl (by kernel_rfl)))) ?_)
      refine EL.opA (OPW.gT (k := 102) b23 (.agg (sumV (fun _ => 0)).toArray) rfl (by kernel_rfl) rfl (by kernel_rfl) (by rintro rfl; kernel_rfl) ?_)
      refine EL.opA (OPW.gT (k := 103) b23 (.bool ((sumEq h0 (fun _ => 0)))) rfl (by kernel_rfl) rfl (by kernel_rfl) (by rintro rfl; exact (eq_run rfl (by kernel_rfl) (by kernel_rfl) (by kernel_rfl) (by kernel_rfl))) ?_)
      refine EL.opA (OPW.bool (k := 104) (b23 && ((sumEq h0 (fun _ => 0)))) rfl (by kernel_rfl) (by kernel_rfl) (pick_and rfl (by kernel_rfl) (by rintro rfl; kernel_rfl) (by kernel_rfl)) ?_)
      intro b24 hb24
      refine EL.opA (OPW.val (k := 105) (.bool b24) rfl (by kernel_rfl) (by kernel_rfl) (by kernel_rfl) ?_)
      refine EL.opA (OPW.gT (k := 106) b24 (.pointer (some ⟨g14, 0, none⟩)) rfl (by kernel_rfl) rfl (by kernel_rfl) (by rintro rfl; kernel_rfl) ?_)
      refine EL.opA (OPW.gT (k := 107) b24 (.slice L m cq) rfl (by kernel_rfl) rfl (by kernel_rfl) (by rintro rfl; exact (load1 (b := g14) (i := 0) rfl (by kernel_rfl) (by kernel_rfl) (hO19.cell 0 rfl (by kernel_rfl)))) ?_)
      refine EL.opA (OPW.gT (k := 108) b24 (.int .i64 (m : Int)) rfl (by kernel_rfl) rfl (by kernel_rfl) (by rintro rfl; kernel_rfl) ?_)
      refine EL.nilA ?_
      refine EL.op (OPW.gT (k := 109) b24 (.bool false) rfl (by kernel_rfl) rfl (by kernel_rfl) (by rintro rfl; exact (run_eq (v := .bool ((m : Int) == (1 : Int))) (by kernel_rfl) (by rw [show ((m : Int) == (1 : Int)) = false from hm]))) ?_)
      refine EL.op (OPW.val (k := 110) (.bool false) rfl (by kernel_rfl) (by kernel_rfl) (run_eq (v := .bool (bif b24 then false else false)) (pick_run rfl (by kernel_rfl) (by rintro rfl; kernel_rfl) (fun _ => (by kernel_rfl))) (by cases b24 <;> rfl)) ?_)
      refine EL.op (OPW.val (k := 111) (.bool false) rfl (by kernel_rfl) (by kernel_rfl) (by kernel_rfl) ?_)
      refine EL.op (OPW.skipT (k := 112) rfl (by kernel_rfl) (by kernel_rfl) ?_)
      refine EL.op (OPW.skipT (k := 113) rfl (by kernel_rfl) (by kernel_rfl) ?_)
      refine EL.op (OPW.skipT (k := 114) rfl (by kernel_rfl) (by kernel_rfl) ?_)
      refine EL.op (OPW.skipT (k := 115) rfl (by kernel_rfl) (by kernel_rfl) ?_)
      refine EL.op (OPW.skipT (k := 116) rfl (by kernel_rfl) (by kernel_rfl) ?_)
      refine EL.op (OPW.skipT (k := 117) rfl (by kernel_rfl) (by kernel_rfl) ?_)
      refine EL.op (OPW.val (k := 118) (.bool false) rfl (by kernel_rfl) (by kernel_rfl) (by kernel_rfl) ?_)
      refine EL.op (OPW.val (k := 119) (.bool false) rfl (by kernel_rfl) (by kernel_rfl) (by kernel_rfl) ?_)
      refine EL.op (OPW.skipT (k := 120) rfl (by kernel_rfl) (by kernel_rfl) ?_)
      refine EL.op (OPW.skipT (k := 121) rfl (by kernel_rfl) (by kernel_rfl) ?_)
      refine EL.op (OPW.skipT (k := 122) rfl (by kernel_rfl) (by kernel_rfl) ?_)
      refine EL.op (OPW.val (k := 123) (.bool false) rfl (by kernel_rfl) (by kernel_rfl) (by kernel_rfl) ?_)
      refine EL.op (OPW.val (k := 124) (.bool false) rfl (by kernel_rfl) (by kernel_rfl) (by kernel_rfl) ?_)
      refine EL.op (OPW.skipT (k := 125) rfl (by kernel_rfl) (by kernel_rfl) ?_)
      refine EL.op (OPW.skipT (k := 126) rfl (by kernel_rfl) (by kernel_rfl) ?_)
      refine EL.op (OPW.skipT (k := 127) rfl (by kernel_rfl) (by kernel_rfl) ?_)
      refine EL.op (OPW.val (k := 128) (.bool false) rfl (by kernel_rfl) (by kernel_rfl) (by kernel_rfl) ?_)
      refine EL.op (OPW.val (k := 129) (.bool false) rfl (by kernel_rfl) (by kernel_rfl) (by kernel_rfl) ?_)
      refine EL.op (OPW.skipT (k := 130) rfl (by kernel_rfl) (by kernel_rfl) ?_)
      refine EL.op (OPW.skipT (k := 131) rfl (by kernel_rfl) (by kernel_rfl) ?_)
      refine EL.op (OPW.skipT (k := 132) rfl (by kernel_rfl) (by kernel_rfl) ?_)
      refine EL.op (OPW.skipT (k := 133) rfl (by kernel_rfl) (by kernel_rfl) ?_)
      refine EL.op (OPW.val (k := 134) (.bool false) rfl (by kernel_rfl) (by kernel_rfl) (by kernel_rfl) ?_)
      refine EL.op (OPW.val (k := 135) (.bool false) rfl (by kernel_rfl) (by kernel_rfl) (by kernel_rfl) ?_)
      refine EL.op (OPW.skipT (k := 136) rfl (by kernel_rfl) (by kernel_rfl) ?_)
      refine EL.op (OPW.skipT (k := 137) rfl (by kernel_rfl) (by kernel_rfl) ?_)
      refine EL.op (OPW.skipT (k := 138) rfl (by kernel_rfl) (by kernel_rfl) ?_)
      refine EL.op (OPW.skipT (k := 139) rfl (by kernel_rfl) (by kernel_rfl) ?_)
      refine EL.op (OPW.skipT (k := 140) rfl (by kernel_rfl) (by kernel_rfl) ?_)
      refine EL.op (OPW.skipT (k := 141) rfl (by kernel_rfl) (by kernel_rfl) ?_)
      refine EL.op (OPW.val (k := 142) (.bool false) rfl (by kernel_rfl) (by kernel_rfl) (by kernel_rfl) ?_)
      refine EL.nil ?_
      refine thenN ?_
      refine CW.condF (by kernel_rfl) ?_
      refine CW.skip ?_
      refine blockN ?_
      refine thenN ?_
      refine CW.region ?_
      refine EL.op (OPW.val (k := 144) (.int .i64 1) rfl (by kernel_rfl) (by kernel_rfl) (by kernel_rfl) ?_)
      refine EL.op (OPW.val (k := 64) (.int .i64 1) rfl (by kernel_rfl) (by kernel_rfl) (by kernel_rfl) ?_)
      refine EL.nil ?_
      refine roundN ?_
      refine CW.seq ?_
      refine CW.region ?_
      refine EL.op (OPW.val (k := 65) (.bool true) rfl (by kernel_rfl) (by kernel_rfl) (by kernel_rfl) ?_)
      refine EL.nil ?_
      refine thenN ?_
      refine CW.seq ?_
      refine CW.condT (by kernel_rfl) ?_
      refine CW.skip ?_
      refine thenN ?_
      refine CW.seq ?_
      refine CW.block ?_
      refine CW.seq ?_
      refine CW.region ?_
      refine EL.op (OPW.val (k := 66) (.int .i64 1) rfl (by kernel_rfl) (by kernel_rfl) (by kernel_rfl) ?_)
      refine EL.op (OPW.val (k := 67) (.int .i64 peer) rfl (by kernel_rfl) (by kernel_rfl) (by kernel_rfl) ?_)
      refine EL.op (OPW.val (k := 7) (.int .i64 1) rfl (by kernel_rfl) (by kernel_rfl) (by kernel_rfl) ?_)
      refine EL.op (OPW.val (k := 8) (.int .i64 peer) rfl (by kernel_rfl) (by kernel_rfl) (by kernel_rfl) ?_)
      refine EL.nil ?_
      refine thenN ?_
      refine CW.seq ?_
      refine CW.region ?_
      refine EL.op (OPW.val (k := 68) (.pointer (some ⟨g1, 1, none⟩)) rfl (by kernel_rfl) (by kernel_rfl) (by kernel_rfl) ?_)
      refine EL.op (OPW.val (k := 69) (.int .i64 client) rfl (by kernel_rfl) (by kernel_rfl) (load1 (b := g1) (i := 1) rfl (by kernel_rfl) (by kernel_rfl) (hO19.cell 3 rfl (by kernel_rfl))) ?_)
      refine EL.op (OPW.val (k := 70) (.pointer (some ⟨g1, 2, none⟩)) rfl (by kernel_rfl) (by kernel_rfl) (by kernel_rfl) ?_)
      refine EL.op (OPW.val (k := 71) (.int .i64 peer) rfl (by kernel_rfl) (by kernel_rfl) (load1 (b := g1) (i := 2) rfl (by kernel_rfl) (by kernel_rfl) (hO19.cell 3 rfl (by kernel_rfl))) ?_)
      refine EL.op (OPW.val (k := 72) (.int .i64 (IntKind.i64.wrap (client + peer))) rfl (by kernel_rfl) (by kernel_rfl) (by kernel_rfl) ?_)
      refine EL.op (OPW.val (k := 73) (.int .i64 peer) rfl (by kernel_rfl) (by kernel_rfl) (by kernel_rfl) ?_)
      refine EL.op (OPW.val (k := 74) (.int .i64 client) rfl (by kernel_rfl) (by kernel_rfl) (run_eq (v := .int .i64 (IntKind.i64.wrap ((IntKind.i64.wrap (client + peer)) - peer))) (by kernel_rfl) (wr_r hclient)) ?_)
      refine EL.op (OPW.val (k := 9) (.int .i64 client) rfl (by kernel_rfl) (by kernel_rfl) (by kernel_rfl) ?_)
      refine EL.nil ?_
      refine thenN ?_
      refine CW.seq ?_
      refine CW.region ?_
      refine EL.opA (OPW.val (k := 75) (.pointer (some ⟨g11, 0, none⟩)) rfl (by kernel_rfl) (by kernel_rfl) (by kernel_rfl) ?_)
      refine EL.opA (OPW.val (k := 76) (.slice (some ⟨bk, ok, none⟩) 1 ck) rfl (by kernel_rfl) (by kernel_rfl) (load1 (b := g11) (i := 0) rfl (by kernel_rfl) (by kernel_rfl) (hO19.cell 1 rfl (by kernel_rfl))) ?_)
      refine EL.opA (OPW.val (k := 77) (.int .i64 1) rfl (by kernel_rfl) (by kernel_rfl) (by kernel_rfl) ?_)
      refine EL.opA (OPW.val (k := 78) (.bool true) rfl (by kernel_rfl) (by kernel_rfl) (by kernel_rfl) ?_)
      refine EL.opA (OPW.val (k := 79) (.bool true) rfl (by kernel_rfl) (by kernel_rfl) (by kernel_rfl) ?_)
      refine EL.opA (OPW.val (k := 80) (.pointer (some ⟨g11, 0, none⟩)) rfl (by kernel_rfl) (by kernel_rfl) (by kernel_rfl) ?_)
      refine EL.opA (OPW.val (k := 81) (.slice (some ⟨bk, ok, none⟩) 1 ck) rfl (by kernel_rfl) (by kernel_rfl) (load1 (b := g11) (i := 0) rfl (by kernel_rfl) (by kernel_rfl) (hO19.cell 1 rfl (by kernel_rfl))) ?_)
      refine EL.opA (OPW.val (k := 82) (.pointer (some ⟨bk, ok, none⟩)) rfl (by kernel_rfl) (by kernel_rfl) (by kernel_rfl) ?_)
      refine EL.opA (OPW.val (k := 83) (.int .i64 k0) rfl (by kernel_rfl) (by kernel_rfl) (load1 (b := bk) (i := ok) rfl (by kernel_rfl) (by kernel_rfl) (hS19.cell (rng_lt hK) (by simp) (hK 0 _ (by kernel_rfl)))) ?_)
      refine EL.opA (OPW.val (k := 84) (.int .i64 peer) rfl (by kernel_rfl) (by kernel_rfl) (by kernel_rfl) ?_)
      refine EL.opA (OPW.bool (k := 85) (k0 == peer) rfl (by kernel_rfl) (by kernel_rfl) (by kernel_rfl) ?_)
      intro b25 hb25
      refine EL.opA (OPW.val (k := 86) (.bool b25) rfl (by kernel_rfl) (by kernel_rfl) (by kernel_rfl) ?_)
      refine EL.opA (OPW.val (k := 87) (.bool b25) rfl (by kernel_rfl) (by kernel_rfl) (by kernel_rfl) ?_)
      refine EL.opA (OPW.gT (k := 88) b25 (.pointer (some ⟨g11, 34, none⟩)) rfl (by kernel_rfl) rfl (by kernel_rfl) (by rintro rfl; kernel_rfl) ?_)
      refine EL.opA (OPW.gT (k := 89) b25 (.int .i64 wt0) rfl (by kernel_rfl) rfl (by kernel_rfl) (by rintro rfl; exact (load1 (b := g11) (i := 34) rfl (by kernel_rfl) (by kernel_rfl) (hO19.cell 1 rfl (by kernel_rfl)))) ?_)
      refine EL.opA (OPW.gT (k := 90) b25 (.pointer (some ⟨g1, 37, none⟩)) rfl (by kernel_rfl) rfl (by kernel_rfl) (by rintro rfl; kernel_rfl) ?_)
      refine EL.opA (OPW.gT (k := 91) b25 (.int .i64 wait) rfl (by kernel_rfl) rfl (by kernel_rfl) (by rintro rfl; exact (load1 (b := g1) (i := 37) rfl (by kernel_rfl) (by kernel_rfl) (hO19.cell 3 rfl (by kernel_rfl)))) ?_)
      refine EL.opA (OPW.gT (k := 92) b25 (.bool (wt0 == wait)) rfl (by kernel_rfl) rfl (by kernel_rfl) (by rintro rfl; kernel_rfl) ?_)
      refine EL.opA (OPW.bool (k := 93) (b25 && (wt0 == wait)) rfl (by kernel_rfl) (by kernel_rfl) (pick_and rfl (by kernel_rfl) (by rintro rfl; kernel_rfl) (by kernel_rfl)) ?_)
      intro b26 hb26
      refine EL.opA (OPW.val (k := 94) (.bool b26) rfl (by kernel_rfl) (by kernel_rfl) (by kernel_rfl) ?_)
      refine EL.opA (OPW.gT (k := 95) b26 (.pointer (some ⟨g11, 33, none⟩)) rfl (by kernel_rfl) rfl (by kernel_rfl) (by rintro rfl; kernel_rfl) ?_)
      refine EL.opA (OPW.gT (k := 96) b26 (.int .i64 af0) rfl (by kernel_rfl) rfl (by kernel_rfl) (by rintro rfl; exact (load1 (b := g11) (i := 33) rfl (by kernel_rfl) (by kernel_rfl) (hO19.cell 1 rfl (by kernel_rfl)))) ?_)
      refine EL.opA (OPW.gT (k := 97) b26 (.bool (af0 == (0 : Int))) rfl (by kernel_rfl) rfl (by kernel_rfl) (by rintro rfl; kernel_rfl) ?_)
      refine EL.opA (OPW.bool (k := 98) (b26 && (af0 == (0 : Int))) rfl (by kernel_rfl) (by kernel_rfl) (pick_and rfl (by kernel_rfl) (by rintro rfl; kernel_rfl) (by kernel_rfl)) ?_)
      intro b27 hb27
      refine EL.opA (OPW.val (k := 99) (.bool b27) rfl (by kernel_rfl) (by kernel_rfl) (by kernel_rfl) ?_)
      refine EL.opA (OPW.gT (k := 100) b27 (.pointer (some ⟨g11, 1, none⟩)) rfl (by kernel_rfl) rfl (by kernel_rfl) (by rintro rfl; kernel_rfl) ?_)
      refine EL.opA (OPW.gT (k := 101) b27 (.agg (sumV h0).toArray) rfl (by kernel_rfl) rfl (by kernel_rfl) (by rintro rfl; exact (loadN (b := g11) (i := 1) rfl (by kernel_rfl) (by kernel_rfl) (by kernel_rfl) (hO19.range 1 (vs := sumV h0) rfl (by kernel_rfl)))) ?_)
      refine EL.opA (OPW.gT (k := 102) b27 (.agg (sumV (fun _ => 0)).toArray) rfl (by kernel_rfl) rfl (by kernel_rfl) (by rintro rfl; kernel_rfl) ?_)
      refine EL.opA (OPW.gT (k := 103) b27 (.bool ((sumEq h0 (fun _ => 0)))) rfl (by kernel_rfl) rfl (by kernel_rfl) (by rintro rfl; exact (eq_run rfl (by kernel_rfl) (by kernel_rfl) (by kernel_rfl) (by kernel_rfl))) ?_)
      refine EL.opA (OPW.bool (k := 104) (b27 && ((sumEq h0 (fun _ => 0)))) rfl (by kernel_rfl) (by kernel_rfl) (pick_and rfl (by kernel_rfl) (by rintro rfl; kernel_rfl) (by kernel_rfl)) ?_)
      intro b28 hb28
      refine EL.opA (OPW.val (k := 105) (.bool b28) rfl (by kernel_rfl) (by kernel_rfl) (by kernel_rfl) ?_)
      refine EL.opA (OPW.gT (k := 106) b28 (.pointer (some ⟨g14, 0, none⟩)) rfl (by kernel_rfl) rfl (by kernel_rfl) (by rintro rfl; kernel_rfl) ?_)
      refine EL.opA (OPW.gT (k := 107) b28 (.slice L m cq) rfl (by kernel_rfl) rfl (by kernel_rfl) (by rintro rfl; exact (load1 (b := g14) (i := 0) rfl (by kernel_rfl) (by kernel_rfl) (hO19.cell 0 rfl (by kernel_rfl)))) ?_)
      refine EL.opA (OPW.gT (k := 108) b28 (.int .i64 (m : Int)) rfl (by kernel_rfl) rfl (by kernel_rfl) (by rintro rfl; kernel_rfl) ?_)
      refine EL.nilA ?_
      refine EL.op (OPW.gT (k := 109) b28 (.bool false) rfl (by kernel_rfl) rfl (by kernel_rfl) (by rintro rfl; exact (run_eq (v := .bool ((m : Int) == (1 : Int))) (by kernel_rfl) (by rw [show ((m : Int) == (1 : Int)) = false from hm]))) ?_)
      refine EL.op (OPW.val (k := 110) (.bool false) rfl (by kernel_rfl) (by kernel_rfl) (run_eq (v := .bool (bif b28 then false else false)) (pick_run rfl (by kernel_rfl) (by rintro rfl; kernel_rfl) (fun _ => (by kernel_rfl))) (by cases b28 <;> rfl)) ?_)
      refine EL.op (OPW.val (k := 111) (.bool false) rfl (by kernel_rfl) (by kernel_rfl) (by kernel_rfl) ?_)
      refine EL.op (OPW.skipT (k := 112) rfl (by kernel_rfl) (by kernel_rfl) ?_)
      refine EL.op (OPW.skipT (k := 113) rfl (by kernel_rfl) (by kernel_rfl) ?_)
      refine EL.op (OPW.skipT (k := 114) rfl (by kernel_rfl) (by kernel_rfl) ?_)
      refine EL.op (OPW.skipT (k := 115) rfl (by kernel_rfl) (by kernel_rfl) ?_)
      refine EL.op (OPW.skipT (k := 116) rfl (by kernel_rfl) (by kernel_rfl) ?_)
      refine EL.op (OPW.skipT (k := 117) rfl (by kernel_rfl) (by kernel_rfl) ?_)
      refine EL.op (OPW.val (k := 118) (.bool false) rfl (by kernel_rfl) (by kernel_rfl) (by kernel_rfl) ?_)
      refine EL.op (OPW.val (k := 119) (.bool false) rfl (by kernel_rfl) (by kernel_rfl) (by kernel_rfl) ?_)
      refine EL.op (OPW.skipT (k := 120) rfl (by kernel_rfl) (by kernel_rfl) ?_)
      refine EL.op (OPW.skipT (k := 121) rfl (by kernel_rfl) (by kernel_rfl) ?_)
      refine EL.op (OPW.skipT (k := 122) rfl (by kernel_rfl) (by kernel_rfl) ?_)
      refine EL.op (OPW.val (k := 123) (.bool false) rfl (by kernel_rfl) (by kernel_rfl) (by kernel_rfl) ?_)
      refine EL.op (OPW.val (k := 124) (.bool false) rfl (by kernel_rfl) (by kernel_rfl) (by kernel_rfl) ?_)
      refine EL.op (OPW.skipT (k := 125) rfl (by kernel_rfl) (by kernel_rfl) ?_)
      refine EL.op (OPW.skipT (k := 126) rfl (by kernel_rfl) (by kernel_rfl) ?_)
      refine EL.op (OPW.skipT (k := 127) rfl (by kernel_rfl) (by kernel_rfl) ?_)
      refine EL.op (OPW.val (k := 128) (.bool false) rfl (by kernel_rfl) (by kernel_rfl) (by kernel_rfl) ?_)
      refine EL.op (OPW.val (k := 129) (.bool false) rfl (by kernel_rfl) (by kernel_rfl) (by kernel_rfl) ?_)
      refine EL.op (OPW.skipT (k := 130) rfl (by kernel_rfl) (by kernel_rfl) ?_)
      refine EL.op (OPW.skipT (k := 131) rfl (by kernel_rfl) (by kernel_rfl) ?_)
      refine EL.op (OPW.skipT (k := 132) rfl (by kernel_rfl) (by kernel_rfl) ?_)
      refine EL.op (OPW.skipT (k := 133) rfl (by kernel_rfl) (by kernel_rfl) ?_)
      refine EL.op (OPW.val (k := 134) (.bool false) rfl (by kernel_rfl) (by kernel_rfl) (by kernel_rfl) ?_)
      refine EL.op (OPW.val (k := 135) (.bool false) rfl (by kernel_rfl) (by kernel_rfl) (by kernel_rfl) ?_)
      refine EL.op (OPW.skipT (k := 136) rfl (by kernel_rfl) (by kernel_rfl) ?_)
      refine EL.op (OPW.skipT (k := 137) rfl (by kernel_rfl) (by kernel_rfl) ?_)
      refine EL.op (OPW.skipT (k := 138) rfl (by kernel_rfl) (by kernel_rfl) ?_)
      refine EL.op (OPW.skipT (k := 139) rfl (by kernel_rfl) (by kernel_rfl) ?_)
      refine EL.op (OPW.skipT (k := 140) rfl (by kernel_rfl) (by kernel_rfl) ?_)
      refine EL.op (OPW.skipT (k := 141) rfl (by kernel_rfl) (by kernel_rfl) ?_)
      refine EL.op (OPW.val (k := 142) (.bool false) rfl (by kernel_rfl) (by kernel_rfl) (by kernel_rfl) ?_)
      refine EL.nil ?_
      refine thenN ?_
      refine CW.condF (by kernel_rfl) ?_
      refine CW.skip ?_
      refine blockN ?_
      refine thenN ?_
      refine CW.region ?_
      refine EL.op (OPW.val (k := 144) (.int .i64 2) rfl (by kernel_rfl) (by kernel_rfl) (by kernel_rfl) ?_)
      refine EL.op (OPW.val (k := 64) (.int .i64 2) rfl (by kernel_rfl) (by kernel_rfl) (by kernel_rfl) ?_)
      refine EL.nil ?_
      refine roundN ?_
      refine CW.seq ?_
      refine CW.region ?_
      refine EL.op (OPW.val (k := 65) (.bool false) rfl (by kernel_rfl) (by kernel_rfl) (by kernel_rfl) ?_)
      refine EL.nil ?_
      refine thenN ?_
      refine CW.seq ?_
      refine CW.condF (by kernel_rfl) ?_
      refine CW.exit ?_
      refine thenE ?_
      refine thenE ?_
      refine blockE ?_
      refine thenN ?_
      refine CW.seq ?_
      refine CW.region ?_
      refine EL.op (OPW.val (k := 4) (.int .i64 (-1)) rfl (by kernel_rfl) (by kernel_rfl) (by kernel_rfl) ?_)
      refine EL.nil ?_
      refine thenN ?_
      refine CW.ret ?_
      refine bp_ret (v := .int .i64 (-1)) (by kernel_rfl) ?_
      refine ⟨?_, hS19.toBelow⟩
      rfl
    refine EDo.cons rfl ?_ ?_
    · skip
      refine (OPW.new (k := 6) (ob := cellsO (cat [[.slice none 0 0], sumV (fun _ => 0), [.int .i64 0, .int .i64 0]]) 35) mkP rfl (by kernel_rfl) (by kernel_rfl) (by kernel_rfl) ?_)
      intro g29 w29 hg29 hw29
      have hO29 : Own w29 [(g29, (cat [[.slice none 0 0], sumV (fun _ => 0), [.int .i64 0, .int .i64 0]]), 35), (g2, (txC (.slice (some ⟨bi, oi, none⟩) 1 ci) (.slice (some ⟨bo, oo, none⟩) 2 co) kind tower channel amount r D nD d S nS sg), 45), (g1, (chnC id client peer s at_ cap wait window), 27)] := (hO9.alloc hg29 hw29).norm (by kernel_rfl)
      have hS29 := hS10.alloc (Nat.le_refl _) hw29
      have hn29 : w.heap.size ≤ g29 := hg29 ▸ hS10.size
      have hr30 : w2.drew.drew.heap.size ≤ g29 := hg29 ▸ hT3.size
      have hT31 : Sep w2.drew.drew.heap.size [] w2.drew.drew w29 := hT3.alloc (Nat.le_refl _) hw29
      refine ⟨hT31, ?_⟩
      refine ED.all [14] (by kernel_rfl) (by simp) ?_
      refine EDo.cons rfl ?_ EDo.nil
      refine (OPW.new (k := 5) (ob := cellsO (cat [[.slice none 0 0], sumV (fun _ => 0), [.int .i64 0, .int .i64 0]]) 35) mkP rfl (by kernel_rfl) (by kernel_rfl) (by kernel_rfl) ?_)
      intro g32 w32 hg32 hw32
      have hO32 : Own w32 [(g32, (cat [[.slice none 0 0], sumV (fun _ => 0), [.int .i64 0, .int .i64 0]]), 35), (g29, (cat [[.slice none 0 0], sumV (fun _ => 0), [.int .i64 0, .int .i64 0]]), 35), (g2, (txC (.slice (some ⟨bi, oi, none⟩) 1 ci) (.slice (some ⟨bo, oo, none⟩) 2 co) kind tower channel amount r D nD d S nS sg), 45), (g1, (chnC id client peer s at_ cap wait window), 27)] := (hO29.alloc hg32 hw32).norm (by kernel_rfl)
      have hS32 := hS29.alloc (Nat.le_refl _) hw32
      have hn32 : w.heap.size ≤ g32 := hg32 ▸ hS29.size
      have hr33 : w2.drew.drew.heap.size ≤ g32 := hg32 ▸ hT31.size
      have hT34 : Sep w2.drew.drew.heap.size [] w2.drew.drew w32 := hT31.alloc (Nat.le_refl _) hw32
      refine ⟨hT34, ?_⟩
      refine ED.all [16] (by kernel_rfl) (by simp) ?_
      refine EDo.cons rfl ?_ EDo.nil
      refine (OPW.store (b := g32) (i := 0) (cat [[.slice (some ⟨bk, ok, none⟩) 1 ck], sumV h0, [.int .i64 af0, .int .i64 wt0]]) rfl (by kernel_rfl) rfl (by kernel_rfl) (by kernel_rfl) (by kernel_rfl) (by kernel_rfl) (hO32.there 0 rfl (Nat.le_of_ble_eq_true (by kernel_rfl))) ?_)
      intro w35 hw35
      have hO35 : Own w35 [(g32, (cat [[.slice (some ⟨bk, ok, none⟩) 1 ck], sumV h0, [.int .i64 af0, .int .i64 wt0]]), 35), (g29, (cat [[.slice none 0 0], sumV (fun _ => 0), [.int .i64 0, .int .i64 0]]), 35), (g2, (txC (.slice (some ⟨bi, oi, none⟩) 1 ci) (.slice (some ⟨bo, oo, none⟩) 2 co) kind tower channel amount r D nD d S nS sg), 45), (g1, (chnC id client peer s at_ cap wait window), 27)] := (hO32.set' 0 (vs := (cat [[.slice (some ⟨bk, ok, none⟩) 1 ck], sumV h0, [.int .i64 af0, .int .i64 wt0]])) rfl (Nat.le_of_ble_eq_true (by kernel_rfl)) hw35).norm (by kernel_rfl)
      have hS35 := hS32.set' (.inl hn32) hw35
      have hT36 : Sep w2.drew.drew.heap.size [] w2.drew.drew w35 := hT34.set' (.inl hr33) hw35
      refine ⟨hT36, ?_⟩
      refine ED.all [17] (by kernel_rfl) (by simp) ?_
      refine EDo.cons rfl ?_ EDo.nil
      refine (OPW.store (b := g29) (i := 0) (cat [[.slice L m cq], sumV h1, [.int .i64 af1, .int .i64 wt1]]) rfl (by kernel_rfl) rfl (by kernel_rfl) (by kernel_rfl) (by kernel_rfl) (by kernel_rfl) (hO35.there 1 rfl (Nat.le_of_ble_eq_true (by kernel_rfl))) ?_)
      intro w37 hw37
      have hO37 : Own w37 [(g32, (cat [[.slice (some ⟨bk, ok, none⟩) 1 ck], sumV h0, [.int .i64 af0, .int .i64 wt0]]), 35), (g29, (cat [[.slice L m cq], sumV h1, [.int .i64 af1, .int .i64 wt1]]), 35), (g2, (txC (.slice (some ⟨bi, oi, none⟩) 1 ci) (.slice (some ⟨bo, oo, none⟩) 2 co) kind tower channel amount r D nD d S nS sg), 45), (g1, (chnC id client peer s at_ cap wait window), 27)] := (hO35.set' 1 (vs := (cat [[.slice L m cq], sumV h1, [.int .i64 af1, .int .i64 wt1]])) rfl (Nat.le_of_ble_eq_true (by kernel_rfl)) hw37).norm (by kernel_rfl)
      have hS37 := hS35.set' (.inl hn29) hw37
      have hT38 : Sep w2.drew.drew.heap.size [] w2.drew.drew w37 := hT36.set' (.inl hr30) hw37
      refine ⟨hT38, ?_⟩
      refine ED.done (by kernel_rfl) ?_
      refine thenN ?_
      refine CW.seq ?_
      refine CW.seq ?_
      refine CW.region ?_
      refine EL.op (OPW.val (k := 59) (.pointer (some ⟨g1, 1, none⟩)) rfl (by kernel_rfl) (by kernel_rfl) (by kernel_rfl) ?_)
      refine EL.op (OPW.val (k := 60) (.int .i64 client) rfl (by kernel_rfl) (by kernel_rfl) (load1 (b := g1) (i := 1) rfl (by kernel_rfl) (by kernel_rfl) (hO37.cell 3 rfl (by kernel_rfl))) ?_)
      refine EL.op (OPW.val (k := 61) (.pointer (some ⟨g1, 2, none⟩)) rfl (by kernel_rfl) (by kernel_rfl) (by kernel_rfl) ?_)
      refine EL.op (OPW.val (k := 62) (.int .i64 peer) rfl (by kernel_rfl) (by kernel_rfl) (load1 (b := g1) (i := 2) rfl (by kernel_rfl) (by kernel_rfl) (hO37.cell 3 rfl (by kernel_rfl))) ?_)
      refine EL.op (OPW.val (k := 63) (.agg #[.int .i64 client, .int .i64 peer]) rfl (by kernel_rfl) (by kernel_rfl) (by kernel_rfl) ?_)
      refine EL.op (OPW.val (k := 64) (.int .i64 0) rfl (by kernel_rfl) (by kernel_rfl) (by kernel_rfl) ?_)
      refine EL.nil ?_
      refine thenN ?_
      refine CW.block ?_
      refine CW.rounds 2 ?_
      refine CW.seq ?_
      refine CW.region ?_
      refine EL.op (OPW.val (k := 65) (.bool true) rfl (by kernel_rfl) (by kernel_rfl) (by kernel_rfl) ?_)
      refine EL.nil ?_
      refine thenN ?_
      refine CW.seq ?_
      refine CW.condT (by kernel_rfl) ?_
      refine CW.skip ?_
      refine thenN ?_
      refine CW.seq ?_
      refine CW.block ?_
      refine CW.seq ?_
      refine CW.region ?_
      refine EL.op (OPW.val (k := 66) (.int .i64 0) rfl (by kernel_rfl) (by kernel_rfl) (by kernel_rfl) ?_)
      refine EL.op (OPW.val (k := 67) (.int .i64 client) rfl (by kernel_rfl) (by kernel_rfl) (by kernel_rfl) ?_)
      refine EL.op (OPW.val (k := 7) (.int .i64 0) rfl (by kernel_rfl) (by kernel_rfl) (by kernel_rfl) ?_)
      refine EL.op (OPW.val (k := 8) (.int .i64 client) rfl (by kernel_rfl) (by kernel_rfl) (by kernel_rfl) ?_)
      refine EL.nil ?_
      refine thenN ?_
      refine CW.seq ?_
      refine CW.region ?_
      refine EL.op (OPW.val (k := 68) (.pointer (some ⟨g1, 1, none⟩)) rfl (by kernel_rfl) (by kernel_rfl) (by kernel_rfl) ?_)
      refine EL.op (OPW.val (k := 69) (.int .i64 client) rfl (by kernel_rfl) (by kernel_rfl) (load1 (b := g1) (i := 1) rfl (by kernel_rfl) (by kernel_rfl) (hO37.cell 3 rfl (by kernel_rfl))) ?_)
      refine EL.op (OPW.val (k := 70) (.pointer (some ⟨g1, 2, none⟩)) rfl (by kernel_rfl) (by kernel_rfl) (by kernel_rfl) ?_)
      refine EL.op (OPW.val (k := 71) (.int .i64 peer) rfl (by kernel_rfl) (by kernel_rfl) (load1 (b := g1) (i := 2) rfl (by kernel_rfl) (by kernel_rfl) (hO37.cell 3 rfl (by kernel_rfl))) ?_)
      refine EL.op (OPW.val (k := 72) (.int .i64 (IntKind.i64.wrap (client + peer))) rfl (by kernel_rfl) (by kernel_rfl) (by kernel_rfl) ?_)
      refine EL.op (OPW.val (k := 73) (.int .i64 client) rfl (by kernel_rfl) (by kernel_rfl) (by kernel_rfl) ?_)
      refine EL.op (OPW.val (k := 74) (.int .i64 peer) rfl (by kernel_rfl) (by kernel_rfl) (run_eq (v := .int .i64 (IntKind.i64.wrap ((IntKind.i64.wrap (client + peer)) - client))) (by kernel_rfl) (wr_l hpeer)) ?_)
      refine EL.op (OPW.val (k := 9) (.int .i64 peer) rfl (by kernel_rfl) (by kernel_rfl) (by kernel_rfl) ?_)
      refine EL.nil ?_
      refine thenN ?_
      refine CW.seq ?_
      refine CW.region ?_
      refine EL.opA (OPW.val (k := 75) (.pointer (some ⟨g32, 0, none⟩)) rfl (by kernel_rfl) (by kernel_rfl) (by kernel_rfl) ?_)
      refine EL.opA (OPW.val (k := 76) (.slice (some ⟨bk, ok, none⟩) 1 ck) rfl (by kernel_rfl) (by kernel_rfl) (load1 (b := g32) (i := 0) rfl (by kernel_rfl) (by kernel_rfl) (hO37.cell 0 rfl (by kernel_rfl))) ?_)
      refine EL.opA (OPW.val (k := 77) (.int .i64 1) rfl (by kernel_rfl) (by kernel_rfl) (by kernel_rfl) ?_)
      refine EL.opA (OPW.val (k := 78) (.bool true) rfl (by kernel_rfl) (by kernel_rfl) (by kernel_rfl) ?_)
      refine EL.opA (OPW.val (k := 79) (.bool true) rfl (by kernel_rfl) (by kernel_rfl) (by kernel_rfl) ?_)
      refine EL.opA (OPW.val (k := 80) (.pointer (some ⟨g32, 0, none⟩)) rfl (by kernel_rfl) (by kernel_rfl) (by kernel_rfl) ?_)
      refine EL.opA (OPW.val (k := 81) (.slice (some ⟨bk, ok, none⟩) 1 ck) rfl (by kernel_rfl) (by kernel_rfl) (load1 (b := g32) (i := 0) rfl (by kernel_rfl) (by kernel_rfl) (hO37.cell 0 rfl (by kernel_rfl))) ?_)
      refine EL.opA (OPW.val (k := 82) (.pointer (some ⟨bk, ok, none⟩)) rfl (by kernel_rfl) (by kernel_rfl) (by kernel_rfl) ?_)
      refine EL.opA (OPW.val (k := 83) (.int .i64 k0) rfl (by kernel_rfl) (by kernel_rfl) (load1 (b := bk) (i := ok) rfl (by kernel_rfl) (by kernel_rfl) (hS37.cell (rng_lt hK) (by simp) (hK 0 _ (by kernel_rfl)))) ?_)
      refine EL.opA (OPW.val (k := 84) (.int .i64 client) rfl (by kernel_rfl) (by kernel_rfl) (by kernel_rfl) ?_)
      refine EL.opA (OPW.bool (k := 85) (k0 == client) rfl (by kernel_rfl) (by kernel_rfl) (by kernel_rfl) ?_)
      intro b39 hb39
      refine EL.opA (OPW.val (k := 86) (.bool b39) rfl (by kernel_rfl) (by kernel_rfl) (by kernel_rfl) ?_)
      refine EL.opA (OPW.val (k := 87) (.bool b39) rfl (by kernel_rfl) (by kernel_rfl) (by kernel_rfl) ?_)
      refine EL.opA (OPW.gT (k := 88) b39 (.pointer (some ⟨g32, 34, none⟩)) rfl (by kernel_rfl) rfl (by kernel_rfl) (by rintro rfl; kernel_rfl) ?_)
      refine EL.opA (OPW.gT (k := 89) b39 (.int .i64 wt0) rfl (by kernel_rfl) rfl (by kernel_rfl) (by rintro rfl; exact (load1 (b := g32) (i := 34) rfl (by kernel_rfl) (by kernel_rfl) (hO37.cell 0 rfl (by kernel_rfl)))) ?_)
      refine EL.opA (OPW.gT (k := 90) b39 (.pointer (some ⟨g1, 37, none⟩)) rfl (by kernel_rfl) rfl (by kernel_rfl) (by rintro rfl; kernel_rfl) ?_)
      refine EL.opA (OPW.gT (k := 91) b39 (.int .i64 wait) rfl (by kernel_rfl) rfl (by kernel_rfl) (by rintro rfl; exact (load1 (b := g1) (i := 37) rfl (by kernel_rfl) (by kernel_rfl) (hO37.cell 3 rfl (by kernel_rfl)))) ?_)
      refine EL.opA (OPW.gT (k := 92) b39 (.bool (wt0 == wait)) rfl (by kernel_rfl) rfl (by kernel_rfl) (by rintro rfl; kernel_rfl) ?_)
      refine EL.opA (OPW.bool (k := 93) (b39 && (wt0 == wait)) rfl (by kernel_rfl) (by kernel_rfl) (pick_and rfl (by kernel_rfl) (by rintro rfl; kernel_rfl) (by kernel_rfl)) ?_)
      intro b40 hb40
      refine EL.opA (OPW.val (k := 94) (.bool b40) rfl (by kernel_rfl) (by kernel_rfl) (by kernel_rfl) ?_)
      refine EL.opA (OPW.gT (k := 95) b40 (.pointer (some ⟨g32, 33, none⟩)) rfl (by kernel_rfl) rfl (by kernel_rfl) (by rintro rfl; kernel_rfl) ?_)
      refine EL.opA (OPW.gT (k := 96) b40 (.int .i64 af0) rfl (by kernel_rfl) rfl (by kernel_rfl) (by rintro rfl; exact (load1 (b := g32) (i := 33) rfl (by kernel_rfl) (by kernel_rfl) (hO37.cell 0 rfl (by kernel_rfl)))) ?_)
      refine EL.opA (OPW.gT (k := 97) b40 (.bool (af0 == (0 : Int))) rfl (by kernel_rfl) rfl (by kernel_rfl) (by rintro rfl; kernel_rfl) ?_)
      refine EL.opA (OPW.bool (k := 98) (b40 && (af0 == (0 : Int))) rfl (by kernel_rfl) (by kernel_rfl) (pick_and rfl (by kernel_rfl) (by rintro rfl; kernel_rfl) (by kernel_rfl)) ?_)
      intro b41 hb41
      refine EL.opA (OPW.val (k := 99) (.bool b41) rfl (by kernel_rfl) (by kernel_rfl) (by kernel_rfl) ?_)
      refine EL.opA (OPW.gT (k := 100) b41 (.pointer (some ⟨g32, 1, none⟩)) rfl (by kernel_rfl) rfl (by kernel_rfl) (by rintro rfl; kernel_rfl) ?_)
      refine EL.opA (OPW.gT (k := 101) b41 (.agg (sumV h0).toArray) rfl (by kernel_rfl) rfl (by kernel_rfl) (by rintro rfl; exact (loadN (b := g32) (i := 1) rfl (by kernel_rfl) (by kernel_rfl) (by kernel_rfl) (hO37.range 0 (vs := sumV h0) rfl (by kernel_rfl)))) ?_)
      refine EL.opA (OPW.gT (k := 102) b41 (.agg (sumV (fun _ => 0)).toArray) rfl (by kernel_rfl) rfl (by kernel_rfl) (by rintro rfl; kernel_rfl) ?_)
      refine EL.opA (OPW.gT (k := 103) b41 (.bool ((sumEq h0 (fun _ => 0)))) rfl (by kernel_rfl) rfl (by kernel_rfl) (by rintro rfl; exact (eq_run rfl (by kernel_rfl) (by kernel_rfl) (by kernel_rfl) (by kernel_rfl))) ?_)
      refine EL.opA (OPW.bool (k := 104) (b41 && ((sumEq h0 (fun _ => 0)))) rfl (by kernel_rfl) (by kernel_rfl) (pick_and rfl (by kernel_rfl) (by rintro rfl; kernel_rfl) (by kernel_rfl)) ?_)
      intro b42 hb42
      refine EL.opA (OPW.val (k := 105) (.bool b42) rfl (by kernel_rfl) (by kernel_rfl) (by kernel_rfl) ?_)
      refine EL.opA (OPW.gT (k := 106) b42 (.pointer (some ⟨g29, 0, none⟩)) rfl (by kernel_rfl) rfl (by kernel_rfl) (by rintro rfl; kernel_rfl) ?_)
      refine EL.opA (OPW.gT (k := 107) b42 (.slice L m cq) rfl (by kernel_rfl) rfl (by kernel_rfl) (by rintro rfl; exact (load1 (b := g29) (i := 0) rfl (by kernel_rfl) (by kernel_rfl) (hO37.cell 1 rfl (by kernel_rfl)))) ?_)
      refine EL.opA (OPW.gT (k := 108) b42 (.int .i64 (m : Int)) rfl (by kernel_rfl) rfl (by kernel_rfl) (by rintro rfl; kernel_rfl) ?_)
      refine EL.nilA ?_
      refine EL.op (OPW.gT (k := 109) b42 (.bool false) rfl (by kernel_rfl) rfl (by kernel_rfl) (by rintro rfl; exact (run_eq (v := .bool ((m : Int) == (1 : Int))) (by kernel_rfl) (by rw [show ((m : Int) == (1 : Int)) = false from hm]))) ?_)
      refine EL.op (OPW.val (k := 110) (.bool false) rfl (by kernel_rfl) (by kernel_rfl) (run_eq (v := .bool (bif b42 then false else false)) (pick_run rfl (by kernel_rfl) (by rintro rfl; kernel_rfl) (fun _ => (by kernel_rfl))) (by cases b42 <;> rfl)) ?_)
      refine EL.op (OPW.val (k := 111) (.bool false) rfl (by kernel_rfl) (by kernel_rfl) (by kernel_rfl) ?_)
      refine EL.op (OPW.skipT (k := 112) rfl (by kernel_rfl) (by kernel_rfl) ?_)
      refine EL.op (OPW.skipT (k := 113) rfl (by kernel_rfl) (by kernel_rfl) ?_)
      refine EL.op (OPW.skipT (k := 114) rfl (by kernel_rfl) (by kernel_rfl) ?_)
      refine EL.op (OPW.skipT (k := 115) rfl (by kernel_rfl) (by kernel_rfl) ?_)
      refine EL.op (OPW.skipT (k := 116) rfl (by kernel_rfl) (by kernel_rfl) ?_)
      refine EL.op (OPW.skipT (k := 117) rfl (by kernel_rfl) (by kernel_rfl) ?_)
      refine EL.op (OPW.val (k := 118) (.bool false) rfl (by kernel_rfl) (by kernel_rfl) (by kernel_rfl) ?_)
      refine EL.op (OPW.val (k := 119) (.bool false) rfl (by kernel_rfl) (by kernel_rfl) (by kernel_rfl) ?_)
      refine EL.op (OPW.skipT (k := 120) rfl (by kernel_rfl) (by kernel_rfl) ?_)
      refine EL.op (OPW.skipT (k := 121) rfl (by kernel_rfl) (by kernel_rfl) ?_)
      refine EL.op (OPW.skipT (k := 122) rfl (by kernel_rfl) (by kernel_rfl) ?_)
      refine EL.op (OPW.val (k := 123) (.bool false) rfl (by kernel_rfl) (by kernel_rfl) (by kernel_rfl) ?_)
      refine EL.op (OPW.val (k := 124) (.bool false) rfl (by kernel_rfl) (by kernel_rfl) (by kernel_rfl) ?_)
      refine EL.op (OPW.skipT (k := 125) rfl (by kernel_rfl) (by kernel_rfl) ?_)
      refine EL.op (OPW.skipT (k := 126) rfl (by kernel_rfl) (by kernel_rfl) ?_)
      refine EL.op (OPW.skipT (k := 127) rfl (by kernel_rfl) (by kernel_rfl) ?_)
      refine EL.op (OPW.val (k := 128) (.bool false) rfl (by kernel_rfl) (by kernel_rfl) (by kernel_rfl) ?_)
      refine EL.op (OPW.val (k := 129) (.bool false) rfl (by kernel_rfl) (by kernel_rfl) (by kernel_rfl) ?_)
      refine EL.op (OPW.skipT (k := 130) rfl (by kernel_rfl) (by kernel_rfl) ?_)
      refine EL.op (OPW.skipT (k := 131) rfl (by kernel_rfl) (by kernel_rfl) ?_)
      refine EL.op (OPW.skipT (k := 132) rfl (by kernel_rfl) (by kernel_rfl) ?_)
      refine EL.op (OPW.skipT (k := 133) rfl (by kernel_rfl) (by kernel_rfl) ?_)
      refine EL.op (OPW.val (k := 134) (.bool false) rfl (by kernel_rfl) (by kernel_rfl) (by kernel_rfl) ?_)
      refine EL.op (OPW.val (k := 135) (.bool false) rfl (by kernel_rfl) (by kernel_rfl) (by kernel_rfl) ?_)
      refine EL.op (OPW.skipT (k := 136) rfl (by kernel_rfl) (by kernel_rfl) ?_)
      refine EL.op (OPW.skipT (k := 137) rfl (by kernel_rfl) (by kernel_rfl) ?_)
      refine EL.op (OPW.skipT (k := 138) rfl (by kernel_rfl) (by kernel_rfl) ?_)
      refine EL.op (OPW.skipT (k := 139) rfl (by kernel_rfl) (by kernel_rfl) ?_)
      refine EL.op (OPW.skipT (k := 140) rfl (by kernel_rfl) (by kernel_rfl) ?_)
      refine EL.op (OPW.skipT (k := 141) rfl (by kernel_rfl) (by kernel_rfl) ?_)
      refine EL.op (OPW.val (k := 142) (.bool false) rfl (by kernel_rfl) (by kernel_rfl) (by kernel_rfl) ?_)
      refine EL.nil ?_
      refine thenN ?_
      refine CW.condF (by kernel_rfl) ?_
      refine CW.skip ?_
      refine blockN ?_
      refine thenN ?_
      refine CW.region ?_
      refine EL.op (OPW.val (k := 144) (.int .i64 1) rfl (by kernel_rfl) (by kernel_rfl) (by kernel_rfl) ?_)
      refine EL.op (OPW.val (k := 64) (.int .i64 1) rfl (by kernel_rfl) (by kernel_rfl) (by kernel_rfl) ?_)
      refine EL.nil ?_
      refine roundN ?_
      refine CW.seq ?_
      refine CW.region ?_
      refine EL.op (OPW.val (k := 65) (.bool true) rfl (by kernel_rfl) (by kernel_rfl) (by kernel_rfl) ?_)
      refine EL.nil ?_
      refine thenN ?_
      refine CW.seq ?_
      refine CW.condT (by kernel_rfl) ?_
      refine CW.skip ?_
      refine thenN ?_
      refine CW.seq ?_
      refine CW.block ?_
      refine CW.seq ?_
      refine CW.region ?_
      refine EL.op (OPW.val (k := 66) (.int .i64 1) rfl (by kernel_rfl) (by kernel_rfl) (by kernel_rfl) ?_)
      refine EL.op (OPW.val (k := 67) (.int .i64 peer) rfl (by kernel_rfl) (by kernel_rfl) (by kernel_rfl) ?_)
      refine EL.op (OPW.val (k := 7) (.int .i64 1) rfl (by kernel_rfl) (by kernel_rfl) (by kernel_rfl) ?_)
      refine EL.op (OPW.val (k := 8) (.int .i64 peer) rfl (by kernel_rfl) (by kernel_rfl) (by kernel_rfl) ?_)
      refine EL.nil ?_
      refine thenN ?_
      refine CW.seq ?_
      refine CW.region ?_
      refine EL.op (OPW.val (k := 68) (.pointer (some ⟨g1, 1, none⟩)) rfl (by kernel_rfl) (by kernel_rfl) (by kernel_rfl) ?_)
      refine EL.op (OPW.val (k := 69) (.int .i64 client) rfl (by kernel_rfl) (by kernel_rfl) (load1 (b := g1) (i := 1) rfl (by kernel_rfl) (by kernel_rfl) (hO37.cell 3 rfl (by kernel_rfl))) ?_)
      refine EL.op (OPW.val (k := 70) (.pointer (some ⟨g1, 2, none⟩)) rfl (by kernel_rfl) (by kernel_rfl) (by kernel_rfl) ?_)
      refine EL.op (OPW.val (k := 71) (.int .i64 peer) rfl (by kernel_rfl) (by kernel_rfl) (load1 (b := g1) (i := 2) rfl (by kernel_rfl) (by kernel_rfl) (hO37.cell 3 rfl (by kernel_rfl))) ?_)
      refine EL.op (OPW.val (k := 72) (.int .i64 (IntKind.i64.wrap (client + peer))) rfl (by kernel_rfl) (by kernel_rfl) (by kernel_rfl) ?_)
      refine EL.op (OPW.val (k := 73) (.int .i64 peer) rfl (by kernel_rfl) (by kernel_rfl) (by kernel_rfl) ?_)
      refine EL.op (OPW.val (k := 74) (.int .i64 client) rfl (by kernel_rfl) (by kernel_rfl) (run_eq (v := .int .i64 (IntKind.i64.wrap ((IntKind.i64.wrap (client + peer)) - peer))) (by kernel_rfl) (wr_r hclient)) ?_)
      refine EL.op (OPW.val (k := 9) (.int .i64 client) rfl (by kernel_rfl) (by kernel_rfl) (by kernel_rfl) ?_)
      refine EL.nil ?_
      refine thenN ?_
      refine CW.seq ?_
      refine CW.region ?_
      refine EL.opA (OPW.val (k := 75) (.pointer (some ⟨g32, 0, none⟩)) rfl (by kernel_rfl) (by kernel_rfl) (by kernel_rfl) ?_)
      refine EL.opA (OPW.val (k := 76) (.slice (some ⟨bk, ok, none⟩) 1 ck) rfl (by kernel_rfl) (by kernel_rfl) (load1 (b := g32) (i := 0) rfl (by kernel_rfl) (by kernel_rfl) (hO37.cell 0 rfl (by kernel_rfl))) ?_)
      refine EL.opA (OPW.val (k := 77) (.int .i64 1) rfl (by kernel_rfl) (by kernel_rfl) (by kernel_rfl) ?_)
      refine EL.opA (OPW.val (k := 78) (.bool true) rfl (by kernel_rfl) (by kernel_rfl) (by kernel_rfl) ?_)
      refine EL.opA (OPW.val (k := 79) (.bool true) rfl (by kernel_rfl) (by kernel_rfl) (by kernel_rfl) ?_)
      refine EL.opA (OPW.val (k := 80) (.pointer (some ⟨g32, 0, none⟩)) rfl (by kernel_rfl) (by kernel_rfl) (by kernel_rfl) ?_)
      refine EL.opA (OPW.val (k := 81) (.slice (some ⟨bk, ok, none⟩) 1 ck) rfl (by kernel_rfl) (by kernel_rfl) (load1 (b := g32) (i := 0) rfl (by kernel_rfl) (by kernel_rfl) (hO37.cell 0 rfl (by kernel_rfl))) ?_)
      refine EL.opA (OPW.val (k := 82) (.pointer (some ⟨bk, ok, none⟩)) rfl (by kernel_rfl) (by kernel_rfl) (by kernel_rfl) ?_)
      refine EL.opA (OPW.val (k := 83) (.int .i64 k0) rfl (by kernel_rfl) (by kernel_rfl) (load1 (b := bk) (i := ok) rfl (by kernel_rfl) (by kernel_rfl) (hS37.cell (rng_lt hK) (by simp) (hK 0 _ (by kernel_rfl)))) ?_)
      refine EL.opA (OPW.val (k := 84) (.int .i64 peer) rfl (by kernel_rfl) (by kernel_rfl) (by kernel_rfl) ?_)
      refine EL.opA (OPW.bool (k := 85) (k0 == peer) rfl (by kernel_rfl) (by kernel_rfl) (by kernel_rfl) ?_)
      intro b43 hb43
      refine EL.opA (OPW.val (k := 86) (.bool b43) rfl (by kernel_rfl) (by kernel_rfl) (by kernel_rfl) ?_)
      refine EL.opA (OPW.val (k := 87) (.bool b43) rfl (by kernel_rfl) (by kernel_rfl) (by kernel_rfl) ?_)
      refine EL.opA (OPW.gT (k := 88) b43 (.pointer (some ⟨g32, 34, none⟩)) rfl (by kernel_rfl) rfl (by kernel_rfl) (by rintro rfl; kernel_rfl) ?_)
      refine EL.opA (OPW.gT (k := 89) b43 (.int .i64 wt0) rfl (by kernel_rfl) rfl (by kernel_rfl) (by rintro rfl; exact (load1 (b := g32) (i := 34) rfl (by kernel_rfl) (by kernel_rfl) (hO37.cell 0 rfl (by kernel_rfl)))) ?_)
      refine EL.opA (OPW.gT (k := 90) b43 (.pointer (some ⟨g1, 37, none⟩)) rfl (by kernel_rfl) rfl (by kernel_rfl) (by rintro rfl; kernel_rfl) ?_)
      refine EL.opA (OPW.gT (k := 91) b43 (.int .i64 wait) rfl (by kernel_rfl) rfl (by kernel_rfl) (by rintro rfl; exact (load1 (b := g1) (i := 37) rfl (by kernel_rfl) (by kernel_rfl) (hO37.cell 3 rfl (by kernel_rfl)))) ?_)
      refine EL.opA (OPW.gT (k := 92) b43 (.bool (wt0 == wait)) rfl (by kernel_rfl) rfl (by kernel_rfl) (by rintro rfl; kernel_rfl) ?_)
      refine EL.opA (OPW.bool (k := 93) (b43 && (wt0 == wait)) rfl (by kernel_rfl) (by kernel_rfl) (pick_and rfl (by kernel_rfl) (by rintro rfl; kernel_rfl) (by kernel_rfl)) ?_)
      intro b44 hb44
      refine EL.opA (OPW.val (k := 94) (.bool b44) rfl (by kernel_rfl) (by kernel_rfl) (by kernel_rfl) ?_)
      refine EL.opA (OPW.gT (k := 95) b44 (.pointer (some ⟨g32, 33, none⟩)) rfl (by kernel_rfl) rfl (by kernel_rfl) (by rintro rfl; kernel_rfl) ?_)
      refine EL.opA (OPW.gT (k := 96) b44 (.int .i64 af0) rfl (by kernel_rfl) rfl (by kernel_rfl) (by rintro rfl; exact (load1 (b := g32) (i := 33) rfl (by kernel_rfl) (by kernel_rfl) (hO37.cell 0 rfl (by kernel_rfl)))) ?_)
      refine EL.opA (OPW.gT (k := 97) b44 (.bool (af0 == (0 : Int))) rfl (by kernel_rfl) rfl (by kernel_rfl) (by rintro rfl; kernel_rfl) ?_)
      refine EL.opA (OPW.bool (k := 98) (b44 && (af0 == (0 : Int))) rfl (by kernel_rfl) (by kernel_rfl) (pick_and rfl (by kernel_rfl) (by rintro rfl; kernel_rfl) (by kernel_rfl)) ?_)
      intro b45 hb45
      refine EL.opA (OPW.val (k := 99) (.bool b45) rfl (by kernel_rfl) (by kernel_rfl) (by kernel_rfl) ?_)
      refine EL.opA (OPW.gT (k := 100) b45 (.pointer (some ⟨g32, 1, none⟩)) rfl (by kernel_rfl) rfl (by kernel_rfl) (by rintro rfl; kernel_rfl) ?_)
      refine EL.opA (OPW.gT (k := 101) b45 (.agg (sumV h0).toArray) rfl (by kernel_rfl) rfl (by kernel_rfl) (by rintro rfl; exact (loadN (b := g32) (i := 1) rfl (by kernel_rfl) (by kernel_rfl) (by kernel_rfl) (hO37.range 0 (vs := sumV h0) rfl (by kernel_rfl)))) ?_)
      refine EL.opA (OPW.gT (k := 102) b45 (.agg (sumV (fun _ => 0)).toArray) rfl (by kernel_rfl) rfl (by kernel_rfl) (by rintro rfl; kernel_rfl) ?_)
      refine EL.opA (OPW.gT (k := 103) b45 (.bool ((sumEq h0 (fun _ => 0)))) rfl (by kernel_rfl) rfl (by kernel_rfl) (by rintro rfl; exact (eq_run rfl (by kernel_rfl) (by kernel_rfl) (by kernel_rfl) (by kernel_rfl))) ?_)
      refine EL.opA (OPW.bool (k := 104) (b45 && ((sumEq h0 (fun _ => 0)))) rfl (by kernel_rfl) (by kernel_rfl) (pick_and rfl (by kernel_rfl) (by rintro rfl; kernel_rfl) (by kernel_rfl)) ?_)
      intro b46 hb46
      refine EL.opA (OPW.val (k := 105) (.bool b46) rfl (by kernel_rfl) (by kernel_rfl) (by kernel_rfl) ?_)
      refine EL.opA (OPW.gT (k := 106) b46 (.pointer (some ⟨g29, 0, none⟩)) rfl (by kernel_rfl) rfl (by kernel_rfl) (by rintro rfl; kernel_rfl) ?_)
      refine EL.opA (OPW.gT (k := 107) b46 (.slice L m cq) rfl (by kernel_rfl) rfl (by kernel_rfl) (by rintro rfl; exact (load1 (b := g29) (i := 0) rfl (by kernel_rfl) (by kernel_rfl) (hO37.cell 1 rfl (by kernel_rfl)))) ?_)
      refine EL.opA (OPW.gT (k := 108) b46 (.int .i64 (m : Int)) rfl (by kernel_rfl) rfl (by kernel_rfl) (by rintro rfl; kernel_rfl) ?_)
      refine EL.nilA ?_
      refine EL.op (OPW.gT (k := 109) b46 (.bool false) rfl (by kernel_rfl) rfl (by kernel_rfl) (by rintro rfl; exact (run_eq (v := .bool ((m : Int) == (1 : Int))) (by kernel_rfl) (by rw [show ((m : Int) == (1 : Int)) = false from hm]))) ?_)
      refine EL.op (OPW.val (k := 110) (.bool false) rfl (by kernel_rfl) (by kernel_rfl) (run_eq (v := .bool (bif b46 then false else false)) (pick_run rfl (by kernel_rfl) (by rintro rfl; kernel_rfl) (fun _ => (by kernel_rfl))) (by cases b46 <;> rfl)) ?_)
      refine EL.op (OPW.val (k := 111) (.bool false) rfl (by kernel_rfl) (by kernel_rfl) (by kernel_rfl) ?_)
      refine EL.op (OPW.skipT (k := 112) rfl (by kernel_rfl) (by kernel_rfl) ?_)
      refine EL.op (OPW.skipT (k := 113) rfl (by kernel_rfl) (by kernel_rfl) ?_)
      refine EL.op (OPW.skipT (k := 114) rfl (by kernel_rfl) (by kernel_rfl) ?_)
      refine EL.op (OPW.skipT (k := 115) rfl (by kernel_rfl) (by kernel_rfl) ?_)
      refine EL.op (OPW.skipT (k := 116) rfl (by kernel_rfl) (by kernel_rfl) ?_)
      refine EL.op (OPW.skipT (k := 117) rfl (by kernel_rfl) (by kernel_rfl) ?_)
      refine EL.op (OPW.val (k := 118) (.bool false) rfl (by kernel_rfl) (by kernel_rfl) (by kernel_rfl) ?_)
      refine EL.op (OPW.val (k := 119) (.bool false) rfl (by kernel_rfl) (by kernel_rfl) (by kernel_rfl) ?_)
      refine EL.op (OPW.skipT (k := 120) rfl (by kernel_rfl) (by kernel_rfl) ?_)
      refine EL.op (OPW.skipT (k := 121) rfl (by kernel_rfl) (by kernel_rfl) ?_)
      refine EL.op (OPW.skipT (k := 122) rfl (by kernel_rfl) (by kernel_rfl) ?_)
      refine EL.op (OPW.val (k := 123) (.bool false) rfl (by kernel_rfl) (by kernel_rfl) (by kernel_rfl) ?_)
      refine EL.op (OPW.val (k := 124) (.bool false) rfl (by kernel_rfl) (by kernel_rfl) (by kernel_rfl) ?_)
      refine EL.op (OPW.skipT (k := 125) rfl (by kernel_rfl) (by kernel_rfl) ?_)
      refine EL.op (OPW.skipT (k := 126) rfl (by kernel_rfl) (by kernel_rfl) ?_)
      refine EL.op (OPW.skipT (k := 127) rfl (by kernel_rfl) (by kernel_rfl) ?_)
      refine EL.op (OPW.val (k := 128) (.bool false) rfl (by kernel_rfl) (by kernel_rfl) (by kernel_rfl) ?_)
      refine EL.op (OPW.val (k := 129) (.bool false) rfl (by kernel_rfl) (by kernel_rfl) (by kernel_rfl) ?_)
      refine EL.op (OPW.skipT (k := 130) rfl (by kernel_rfl) (by kernel_rfl) ?_)
      refine EL.op (OPW.skipT (k := 131) rfl (by kernel_rfl) (by kernel_rfl) ?_)
      refine EL.op (OPW.skipT (k := 132) rfl (by kernel_rfl) (by kernel_rfl) ?_)
      refine EL.op (OPW.skipT (k := 133) rfl (by kernel_rfl) (by kernel_rfl) ?_)
      refine EL.op (OPW.val (k := 134) (.bool false) rfl (by kernel_rfl) (by kernel_rfl) (by kernel_rfl) ?_)
      refine EL.op (OPW.val (k := 135) (.bool false) rfl (by kernel_rfl) (by kernel_rfl) (by kernel_rfl) ?_)
      refine EL.op (OPW.skipT (k := 136) rfl (by kernel_rfl) (by kernel_rfl) ?_)
      refine EL.op (OPW.skipT (k := 137) rfl (by kernel_rfl) (by kernel_rfl) ?_)
      refine EL.op (OPW.skipT (k := 138) rfl (by kernel_rfl) (by kernel_rfl) ?_)
      refine EL.op (OPW.skipT (k := 139) rfl (by kernel_rfl) (by kernel_rfl) ?_)
      refine EL.op (OPW.skipT (k := 140) rfl (by kernel_rfl) (by kernel_rfl) ?_)
      refine EL.op (OPW.skipT (k := 141) rfl (by kernel_rfl) (by kernel_rfl) ?_)
      refine EL.op (OPW.val (k := 142) (.bool false) rfl (by kernel_rfl) (by kernel_rfl) (by kernel_rfl) ?_)
      refine EL.nil ?_
      refine thenN ?_
      refine CW.condF (by kernel_rfl) ?_
      refine CW.skip ?_
      refine blockN ?_
      refine thenN ?_
      refine CW.region ?_
      refine EL.op (OPW.val (k := 144) (.int .i64 2) rfl (by kernel_rfl) (by kernel_rfl) (by kernel_rfl) ?_)
      refine EL.op (OPW.val (k := 64) (.int .i64 2) rfl (by kernel_rfl) (by kernel_rfl) (by kernel_rfl) ?_)
      refine EL.nil ?_
      refine roundN ?_
      refine CW.seq ?_
      refine CW.region ?_
      refine EL.op (OPW.val (k := 65) (.bool false) rfl (by kernel_rfl) (by kernel_rfl) (by kernel_rfl) ?_)
      refine EL.nil ?_
      refine thenN ?_
      refine CW.seq ?_
      refine CW.condF (by kernel_rfl) ?_
      refine CW.exit ?_
      refine thenE ?_
      refine thenE ?_
      refine blockE ?_
      refine thenN ?_
      refine CW.seq ?_
      refine CW.region ?_
      refine EL.op (OPW.val (k := 4) (.int .i64 (-1)) rfl (by kernel_rfl) (by kernel_rfl) (by kernel_rfl) ?_)
      refine EL.nil ?_
      refine thenN ?_
      refine CW.ret ?_
      refine bp_ret (v := .int .i64 (-1)) (by kernel_rfl) ?_
      refine ⟨?_, hS37.toBelow⟩
      rfl
    exact EDo.nil
variable (bq oq : Nat) (q0 : Int) (hQ : w.rangeAt bq oq [.int .i64 q0]) (o2 : Ou) (hout : OutIs w (.agg #[.int .i64 am2, .slice B2 n2 c2]) o2)
include hQ hout
set_option maxHeartbeats 2000000 in
theorem owner5 (ck cq : Nat) (hW : w.rangeAt bw ow (cat [wyC (.slice (some ⟨bk, ok, none⟩) 1 ck) h0 af0 wt0, wyC (.slice (some ⟨bq, oq, none⟩) 1 cq) h1 af1 wt1])) :
    OwnerR id client peer at_ cap wait window kind tower channel amount s r D S nD d nS sg w (.slice (some ⟨bi, oi, none⟩) 1 ci) (.slice (some ⟨bo, oo, none⟩) 2 co)
      (ownI (!(sumEq xi s && (iat == at_ && true)) || kind != (0 : Int)) (ownT k0 wt0 af0 q0 wt1 af1 wait client peer h0 h1 (soleB o2 peer)) (ownT k0 wt0 af0 q0 wt1 af1 wait peer client h0 h1 (soleB o2 client))) := by
  have hO := own_nil w
  have hS := Sep.refl w.heap.size [] w
  refine calls_L Try.func46 rfl 145 [(0, .agg (chnC id client peer s at_ cap wait window).toArray), (1, .agg (txC (.slice (some ⟨bi, oi, none⟩) 1 ci) (.slice (some ⟨bo, oo, none⟩) 2 co) kind tower channel amount r D nD d S nS sg).toArray)] (by kernel_rfl) ?_
  refine CW.seq ?_
  refine CW.region ?_
  refine EL.op (OPW.new (k := 2) (ob := cellsO (chnC id client peer s at_ cap wait window) 27) mkP rfl (by kernel_rfl) (by kernel_rfl) (by kernel_rfl) ?_)
  intro g1 w1 hg1 hw1
  have hO1 : Own w1 [(g1, (chnC id client peer s at_ cap wait window), 27)] := (hO.alloc hg1 hw1).norm (by kernel_rfl)
  have hS1 := hS.alloc (Nat.le_refl _) hw1
  have hn1 : w.heap.size ≤ g1 := hg1 ▸ hS.size
  refine EL.op (OPW.new (k := 3) (ob := cellsO (txC (.slice (some ⟨bi, oi, none⟩) 1 ci) (.slice (some ⟨bo, oo, none⟩) 2 co) kind tower channel amount r D nD d S nS sg) 45) mkP rfl (by kernel_rfl) (by kernel_rfl) (by kernel_rfl) ?_)
  intro g2 w2 hg2 hw2
  have hO2 : Own w2 [(g2, (txC (.slice (some ⟨bi, oi, none⟩) 1 ci) (.slice (some ⟨bo, oo, none⟩) 2 co) kind tower channel amount r D nD d S nS sg), 45), (g1, (chnC id client peer s at_ cap wait window), 27)] := (hO1.alloc hg2 hw2).norm (by kernel_rfl)
  have hS2 := hS1.alloc (Nat.le_refl _) hw2
  have hn2 : w.heap.size ≤ g2 := hg2 ▸ hS1.size
  refine EL.op (OPW.val (k := 4) (.int .i64 0) rfl (by kernel_rfl) (by kernel_rfl) (by kernel_rfl) ?_)
  refine EL.nil ?_
  refine thenN ?_
  refine CW.seq ?_
  refine CW.seq ?_
  refine ED.start (fun w' => Sep w2.drew.heap.size [] w2.drew w') (by kernel_rfl) ?_
  rintro _ rfl
  have hO4 := hO2.drew
  have hS5 := hS2.drew
  have hT1 : Sep w2.drew.heap.size [] w2.drew w2.drew := .refl _ _ _
  refine ED.take (k := 10) 0 (.pointer (some ⟨g2, 0, none⟩)) rfl rfl (by kernel_rfl) (by kernel_rfl) (by kernel_rfl) (by kernel_rfl) (fun _ _ _ h => h) (YI.val (by kernel_rfl) (fun _ _ => (by kernel_rfl))) hT1 ?_
  refine ED.take (k := 11) 1 (.slice (some ⟨bi, oi, none⟩) 1 ci) rfl rfl (by kernel_rfl) (by kernel_rfl) (by kernel_rfl) (by kernel_rfl) (fun _ _ _ h => h) (YI.val (by kernel_rfl) (fun _ hS' => load1 (b := g2) (i := 0) rfl (by kernel_rfl) (by kernel_rfl) (hS'.cell (hO4.lt 0 rfl) (by simp) (hO4.cell 0 rfl (by kernel_rfl))))) hT1 ?_
  refine ED.take (k := 12) 2 (.int .i64 1) rfl rfl (by kernel_rfl) (by kernel_rfl) (by kernel_rfl) (by kernel_rfl) (fun _ _ _ h => h) (YI.val (by kernel_rfl) (fun _ _ => (by kernel_rfl))) hT1 ?_
  refine ED.take (k := 13) 3 (.bool false) rfl rfl (by kernel_rfl) (by kernel_rfl) (by kernel_rfl) (by kernel_rfl) (fun _ _ _ h => h) (YI.val (by kernel_rfl) (fun _ _ => (by kernel_rfl))) hT1 ?_
  refine ED.take (k := 14) 4 (.bool false) rfl rfl (by kernel_rfl) (by kernel_rfl) (by kernel_rfl) (by kernel_rfl) (fun _ _ _ h => h) (YI.val (by kernel_rfl) (fun _ _ => (by kernel_rfl))) hT1 ?_
  refine ED.take (k := 15) 5 (.pointer (some ⟨g2, 0, none⟩)) rfl rfl (by kernel_rfl) (by kernel_rfl) (by kernel_rfl) (by kernel_rfl) (fun _ _ _ h => h) (YI.val (by kernel_rfl) (fun _ _ => (by kernel_rfl))) hT1 ?_
  refine ED.take (k := 16) 6 (.slice (some ⟨bi, oi, none⟩) 1 ci) rfl rfl (by kernel_rfl) (by kernel_rfl) (by kernel_rfl) (by kernel_rfl) (fun _ _ _ h => h) (YI.val (by kernel_rfl) (fun _ hS' => load1 (b := g2) (i := 0) rfl (by kernel_rfl) (by kernel_rfl) (hS'.cell (hO4.lt 0 rfl) (by simp) (hO4.cell 0 rfl (by kernel_rfl))))) hT1 ?_
  refine ED.take (k := 17) 7 (.pointer (some ⟨bi, oi, none⟩)) rfl rfl (by kernel_rfl) (by kernel_rfl) (by kernel_rfl) (by kernel_rfl) (fun _ _ _ h => h) (YI.val (by kernel_rfl) (fun _ _ => (by kernel_rfl))) hT1 ?_
  refine ED.take (k := 18) 8 (.pointer (some ⟨bi, oi, none⟩)) rfl rfl (by kernel_rfl) (by kernel_rfl) (by kernel_rfl) (by kernel_rfl) (fun _ _ _ h => h) (YI.val (by kernel_rfl) (fun _ _ => (by kernel_rfl))) hT1 ?_
  refine ED.take (k := 19) 9 (.agg ((cat [sumV xi, [.int .i64 iat]])).toArray) rfl rfl (by kernel_rfl) (by kernel_rfl) (by kernel_rfl) (by kernel_rfl) (fun _ _ _ h => h) (YI.val (by kernel_rfl) (fun _ hS' => loadN (b := bi) (i := oi) rfl (by kernel_rfl) (by kernel_rfl) (by kernel_rfl) (hS'.range (Nat.lt_of_lt_of_le (rng_lt hI) hS5.size) (by simp) (hS5.range (rng_lt hI) (by simp) (rng_sub hI 0 (vs := (cat [sumV xi, [.int .i64 iat]])) (by kernel_rfl)))))) hT1 ?_
  refine ED.take (k := 20) 10 (.pointer (some ⟨g1, 3, none⟩)) rfl rfl (by kernel_rfl) (by kernel_rfl) (by kernel_rfl) (by kernel_rfl) (fun _ _ _ h => h) (YI.val (by kernel_rfl) (fun _ _ => (by kernel_rfl))) hT1 ?_
  refine ED.take (k := 21) 11 (.agg ((cat [sumV s, [.int .i64 at_]])).toArray) rfl rfl (by kernel_rfl) (by kernel_rfl) (by kernel_rfl) (by kernel_rfl) (fun _ _ _ h => h) (YI.val (by kernel_rfl) (fun _ hS' => loadN (b := g1) (i := 3) rfl (by kernel_rfl) (by kernel_rfl) (by kernel_rfl) (hS'.range (hO4.lt 1 rfl) (by simp) (hO4.range 1 (vs := (cat [sumV s, [.int .i64 at_]])) rfl (by kernel_rfl))))) hT1 ?_
  refine ED.takeB (k := 22) 12 (!(((sumEq xi s) && ((iat == at_) && true)))) rfl rfl (by kernel_rfl) (by kernel_rfl) (by kernel_rfl) (by kernel_rfl) (fun _ _ _ h => h) (YI.val (by kernel_rfl) (fun _ _ => (neq_run (b := ((sumEq xi s) && ((iat == at_) && true))) rfl (by kernel_rfl) (by kernel_rfl) (by kernel_rfl) (by kernel_rfl)))) hT1 ?_
  intro b6 hb6
  refine ED.take (k := 23) 13 (.bool b6) rfl rfl (by kernel_rfl) (by kernel_rfl) (by kernel_rfl) (by kernel_rfl) (fun _ _ _ h => h) (YI.val (by kernel_rfl) (fun _ _ => (by kernel_rfl))) hT1 ?_
  refine ED.take (k := 24) 14 (.bool b6) rfl rfl (by kernel_rfl) (by kernel_rfl) (by kernel_rfl) (by kernel_rfl) (fun _ _ _ h => h) (YI.val (by kernel_rfl) (fun _ _ => (by kernel_rfl))) hT1 ?_
  refine ED.take (k := 25) 15 ((bif b6 then undef else Value.pointer (some ⟨g2, 1, none⟩))) rfl rfl (by kernel_rfl) (by kernel_rfl) (by kernel_rfl) (by kernel_rfl) (fun _ _ _ h => h) (YI.gF b6 rfl (by kernel_rfl) (by rintro rfl; intro _ _; kernel_rfl)) hT1 ?_
  refine ED.take (k := 26) 16 ((bif b6 then undef else Value.slice (some ⟨bo, oo, none⟩) 2 co)) rfl rfl (by kernel_rfl) (by kernel_rfl) (by kernel_rfl) (by kernel_rfl) (fun _ _ _ h => h) (YI.gF b6 rfl (by kernel_rfl) (by rintro rfl; exact fun _ hS' => load1 (b := g2) (i := 1) rfl (by kernel_rfl) (by kernel_rfl) (hS'.cell (hO4.lt 0 rfl) (by simp) (hO4.cell 0 rfl (by kernel_rfl))))) hT1 ?_
  refine ED.take (k := 27) 17 ((bif b6 then undef else Value.int .i64 2)) rfl rfl (by kernel_rfl) (by kernel_rfl) (by kernel_rfl) (by kernel_rfl) (fun _ _ _ h => h) (YI.gF b6 rfl (by kernel_rfl) (by rintro rfl; intro _ _; kernel_rfl)) hT1 ?_
  refine ED.take (k := 28) 18 ((bif b6 then undef else Value.bool false)) rfl rfl (by kernel_rfl) (by kernel_rfl) (by kernel_rfl) (by kernel_rfl) (fun _ _ _ h => h) (YI.gF b6 rfl (by kernel_rfl) (by rintro rfl; intro _ _; kernel_rfl)) hT1 ?_
  refine ED.take (k := 29) 19 (.bool b6) rfl rfl (by kernel_rfl) (by kernel_rfl) (by kernel_rfl) (by kernel_rfl) (fun _ _ _ h => h) (YI.val (by kernel_rfl) (fun _ _ => (run_eq (v := .bool (bif b6 then true else false)) (pick_run (b := b6) (p := true) (q := false) rfl (by kernel_rfl) (fun _ => (by kernel_rfl)) (by rintro rfl; kernel_rfl)) (by cases b6 <;> rfl)))) hT1 ?_
  refine ED.take (k := 30) 20 (.bool b6) rfl rfl (by kernel_rfl) (by kernel_rfl) (by kernel_rfl) (by kernel_rfl) (fun _ _ _ h => h) (YI.val (by kernel_rfl) (fun _ _ => (by kernel_rfl))) hT1 ?_
  refine ED.take (k := 31) 21 ((bif b6 then undef else Value.pointer (some ⟨g2, 1, none⟩))) rfl rfl (by kernel_rfl) (by kernel_rfl) (by kernel_rfl) (by kernel_rfl) (fun _ _ _ h => h) (YI.gF b6 rfl (by kernel_rfl) (by rintro rfl; intro _ _; kernel_rfl)) hT1 ?_
  refine ED.take (k := 32) 22 ((bif b6 then undef else Value.slice (some ⟨bo, oo, none⟩) 2 co)) rfl rfl (by kernel_rfl) (by kernel_rfl) (by kernel_rfl) (by kernel_rfl) (fun _ _ _ h => h) (YI.gF b6 rfl (by kernel_rfl) (by rintro rfl; exact fun _ hS' => load1 (b := g2) (i := 1) rfl (by kernel_rfl) (by kernel_rfl) (hS'.cell (hO4.lt 0 rfl) (by simp) (hO4.cell 0 rfl (by kernel_rfl))))) hT1 ?_
  refine ED.take (k := 33) 23 ((bif b6 then undef else Value.pointer (some ⟨bo, oo, none⟩))) rfl rfl (by kernel_rfl) (by kernel_rfl) (by kernel_rfl) (by kernel_rfl) (fun _ _ _ h => h) (YI.gF b6 rfl (by kernel_rfl) (by rintro rfl; intro _ _; kernel_rfl)) hT1 ?_
  refine ED.take (k := 34) 24 ((bif b6 then undef else Value.pointer (some ⟨bo, oo + 1, none⟩))) rfl rfl (by kernel_rfl) (by kernel_rfl) (by kernel_rfl) (by kernel_rfl) (fun _ _ _ h => h) (YI.gF b6 rfl (by kernel_rfl) (by rintro rfl; intro _ _; kernel_rfl)) hT1 ?_
  refine ED.take (k := 35) 25 ((bif b6 then undef else Value.slice (some ⟨bw, ow, none⟩) 2 cw)) rfl rfl (by kernel_rfl) (by kernel_rfl) (by kernel_rfl) (by kernel_rfl) (fun _ _ _ h => h) (YI.gF b6 rfl (by kernel_rfl) (by rintro rfl; exact fun _ hS' => load1 (b := bo) (i := oo + 1) rfl (by kernel_rfl) (by kernel_rfl) (hS'.cell (Nat.lt_of_lt_of_le (rng_lt hT) hS5.size) (by simp) (hS5.cell (rng_lt hT) (by simp) (hT 1 _ (by kernel_rfl)))))) hT1 ?_
  refine ED.take (k := 36) 26 ((bif b6 then undef else Value.int .i64 2)) rfl rfl (by kernel_rfl) (by kernel_rfl) (by kernel_rfl) (by kernel_rfl) (fun _ _ _ h => h) (YI.gF b6 rfl (by kernel_rfl) (by rintro rfl; intro _ _; kernel_rfl)) hT1 ?_
  refine ED.take (k := 37) 27 ((bif b6 then undef else Value.bool false)) rfl rfl (by kernel_rfl) (by kernel_rfl) (by kernel_rfl) (by kernel_rfl) (fun _ _ _ h => h) (YI.gF b6 rfl (by kernel_rfl) (by rintro rfl; intro _ _; kernel_rfl)) hT1 ?_
  refine ED.take (k := 38) 28 (.bool b6) rfl rfl (by kernel_rfl) (by kernel_rfl) (by kernel_rfl) (by kernel_rfl) (fun _ _ _ h => h) (YI.val (by kernel_rfl) (fun _ _ => (run_eq (v := .bool (bif b6 then true else false)) (pick_run (b := b6) (p := true) (q := false) rfl (by kernel_rfl) (fun _ => (by kernel_rfl)) (by rintro rfl; kernel_rfl)) (by cases b6 <;> rfl)))) hT1 ?_
  refine ED.take (k := 39) 29 (.bool b6) rfl rfl (by kernel_rfl) (by kernel_rfl) (by kernel_rfl) (by kernel_rfl) (fun _ _ _ h => h) (YI.val (by kernel_rfl) (fun _ _ => (by kernel_rfl))) hT1 ?_
  refine ED.take (k := 40) 30 ((bif b6 then undef else Value.pointer (some ⟨g2, 2, none⟩))) rfl rfl (by kernel_rfl) (by kernel_rfl) (by kernel_rfl) (by kernel_rfl) (fun _ _ _ h => h) (YI.gF b6 rfl (by kernel_rfl) (by rintro rfl; intro _ _; kernel_rfl)) hT1 ?_
  refine ED.take (k := 41) 31 ((bif b6 then undef else Value.pointer (some ⟨g2, 2, none⟩))) rfl rfl (by kernel_rfl) (by kernel_rfl) (by kernel_rfl) (by kernel_rfl) (fun _ _ _ h => h) (YI.gF b6 rfl (by kernel_rfl) (by rintro rfl; intro _ _; kernel_rfl)) hT1 ?_
  refine ED.take (k := 42) 32 ((bif b6 then undef else Value.int .i64 kind)) rfl rfl (by kernel_rfl) (by kernel_rfl) (by kernel_rfl) (by kernel_rfl) (fun _ _ _ h => h) (YI.gF b6 rfl (by kernel_rfl) (by rintro rfl; exact fun _ hS' => load1 (b := g2) (i := 2) rfl (by kernel_rfl) (by kernel_rfl) (hS'.cell (hO4.lt 0 rfl) (by simp) (hO4.cell 0 rfl (by kernel_rfl))))) hT1 ?_
  refine ED.take (k := 43) 33 ((bif b6 then undef else Value.bool (kind != (0 : Int)))) rfl rfl (by kernel_rfl) (by kernel_rfl) (by kernel_rfl) (by kernel_rfl) (fun _ _ _ h => h) (YI.gF b6 rfl (by kernel_rfl) (by rintro rfl; intro _ _; kernel_rfl)) hT1 ?_
  refine ED.takeB (k := 44) 34 (b6 || (kind != (0 : Int))) rfl rfl (by kernel_rfl) (by kernel_rfl) (by kernel_rfl) (by kernel_rfl) (fun _ _ _ h => h) (YI.val (by kernel_rfl) (fun _ _ => (pick_or rfl (by kernel_rfl) (by kernel_rfl) (by rintro rfl; kernel_rfl)))) hT1 ?_
  intro b7 hb7
  refine ED.done (by kernel_rfl) ?_
  refine thenN ?_
  have q1 : b7 = (!(sumEq xi s && (iat == at_ && true)) || kind != (0 : Int)) := by simp only [hb6, hb7, Bool.and_assoc, Bool.or_assoc]
  refine CW.cond b7 (by kernel_rfl) (fun hc1 => ?_) (fun hc1 => ?_)
  · skip
    subst hc1
    refine CW.seq ?_
    refine CW.region ?_
    refine EL.op (OPW.val (k := 4) (.int .i64 (-1)) rfl (by kernel_rfl) (by kernel_rfl) (by kernel_rfl) ?_)
    refine EL.nil ?_
    refine thenN ?_
    refine CW.ret ?_
    refine thenR ?_
    refine bp_ret (v := .int .i64 (-1)) (by kernel_rfl) ?_
    refine ⟨?_, hS5.toBelow⟩
    unfold ownI
    rw [← q1]
    rfl
  · skip
    subst hc1
    refine CW.skip ?_
    refine thenN ?_
    refine CW.seq ?_
    refine ED.start (fun w' => Sep w2.drew.drew.heap.size [] w2.drew.drew w') (by kernel_rfl) ?_
    rintro _ rfl
    have hO9 := hO4.drew
    have hS10 := hS5.drew
    have hT3 : Sep w2.drew.drew.heap.size [] w2.drew.drew w2.drew.drew := .refl _ _ _
    refine ED.take (k := 45) 0 (.pointer (some ⟨g2, 1, none⟩)) rfl rfl (by kernel_rfl) (by kernel_rfl) (by kernel_rfl) (by kernel_rfl) (fun _ _ _ h => h) (YI.val (by kernel_rfl) (fun _ _ => (by kernel_rfl))) hT3 ?_
    refine ED.take (k := 46) 1 (.slice (some ⟨bo, oo, none⟩) 2 co) rfl rfl (by kernel_rfl) (by kernel_rfl) (by kernel_rfl) (by kernel_rfl) (fun _ _ _ h => h) (YI.val (by kernel_rfl) (fun _ hS' => load1 (b := g2) (i := 1) rfl (by kernel_rfl) (by kernel_rfl) (hS'.cell (hO9.lt 0 rfl) (by simp) (hO9.cell 0 rfl (by kernel_rfl))))) hT3 ?_
    refine ED.take (k := 47) 2 (.pointer (some ⟨bo, oo, none⟩)) rfl rfl (by kernel_rfl) (by kernel_rfl) (by kernel_rfl) (by kernel_rfl) (fun _ _ _ h => h) (YI.val (by kernel_rfl) (fun _ _ => (by kernel_rfl))) hT3 ?_
    refine ED.take (k := 48) 3 (.pointer (some ⟨bo, oo + 1, none⟩)) rfl rfl (by kernel_rfl) (by kernel_rfl) (by kernel_rfl) (by kernel_rfl) (fun _ _ _ h => h) (YI.val (by kernel_rfl) (fun _ _ => (by kernel_rfl))) hT3 ?_
    refine ED.take (k := 49) 4 (.slice (some ⟨bw, ow, none⟩) 2 cw) rfl rfl (by kernel_rfl) (by kernel_rfl) (by kernel_rfl) (by kernel_rfl) (fun _ _ _ h => h) (YI.val (by kernel_rfl) (fun _ hS' => load1 (b := bo) (i := oo + 1) rfl (by kernel_rfl) (by kernel_rfl) (hS'.cell (Nat.lt_of_lt_of_le (rng_lt hT) hS10.size) (by simp) (hS10.cell (rng_lt hT) (by simp) (hT 1 _ (by kernel_rfl)))))) hT3 ?_
    refine ED.take (k := 50) 5 (.pointer (some ⟨bw, ow, none⟩)) rfl rfl (by kernel_rfl) (by kernel_rfl) (by kernel_rfl) (by kernel_rfl) (fun _ _ _ h => h) (YI.val (by kernel_rfl) (fun _ _ => (by kernel_rfl))) hT3 ?_
    refine ED.take (k := 51) 6 (.agg ((cat [[.slice (some ⟨bk, ok, none⟩) 1 ck], sumV h0, [.int .i64 af0, .int .i64 wt0]])).toArray) rfl rfl (by kernel_rfl) (by kernel_rfl) (by kernel_rfl) (by kernel_rfl) (fun _ _ _ h => h) (YI.val (by kernel_rfl) (fun _ hS' => loadN (b := bw) (i := ow) rfl (by kernel_rfl) (by kernel_rfl) (by kernel_rfl) (hS'.range (Nat.lt_of_lt_of_le (rng_lt hW) hS10.size) (by simp) (hS10.range (rng_lt hW) (by simp) (rng_sub hW 0 (vs := (cat [[.slice (some ⟨bk, ok, none⟩) 1 ck], sumV h0, [.int .i64 af0, .int .i64 wt0]])) (by kernel_rfl)))))) hT3 ?_
    refine ED.take (k := 52) 7 (.pointer (some ⟨g2, 1, none⟩)) rfl rfl (by kernel_rfl) (by kernel_rfl) (by kernel_rfl) (by kernel_rfl) (fun _ _ _ h => h) (YI.val (by kernel_rfl) (fun _ _ => (by kernel_rfl))) hT3 ?_
    refine ED.take (k := 53) 8 (.slice (some ⟨bo, oo, none⟩) 2 co) rfl rfl (by kernel_rfl) (by kernel_rfl) (by kernel_rfl) (by kernel_rfl) (fun _ _ _ h => h) (YI.val (by kernel_rfl) (fun _ hS' => load1 (b := g2) (i := 1) rfl (by kernel_rfl) (by kernel_rfl) (hS'.cell (hO9.lt 0 rfl) (by simp) (hO9.cell 0 rfl (by kernel_rfl))))) hT3 ?_
    refine ED.take (k := 54) 9 (.pointer (some ⟨bo, oo, none⟩)) rfl rfl (by kernel_rfl) (by kernel_rfl) (by kernel_rfl) (by kernel_rfl) (fun _ _ _ h => h) (YI.val (by kernel_rfl) (fun _ _ => (by kernel_rfl))) hT3 ?_
    refine ED.take (k := 55) 10 (.pointer (some ⟨bo, oo + 1, none⟩)) rfl rfl (by kernel_rfl) (by kernel_rfl) (by kernel_rfl) (by kernel_rfl) (fun _ _ _ h => h) (YI.val (by kernel_rfl) (fun _ _ => (by kernel_rfl))) hT3 ?_
    refine ED.take (k := 56) 11 (.slice (some ⟨bw, ow, none⟩) 2 cw) rfl rfl (by kernel_rfl) (by kernel_rfl) (by kernel_rfl) (by kernel_rfl) (fun _ _ _ h => h) (YI.val (by kernel_rfl) (fun _ hS' => load1 (b := bo) (i := oo + 1) rfl (by kernel_rfl) (by kernel_rfl) (hS'.cell (Nat.lt_of_lt_of_le (rng_lt hT) hS10.size) (by simp) (hS10.cell (rng_lt hT) (by simp) (hT 1 _ (by kernel_rfl)))))) hT3 ?_
    refine ED.take (k := 57) 12 (.pointer (some ⟨bw, ow + 35, none⟩)) rfl rfl (by kernel_rfl) (by kernel_rfl) (by kernel_rfl) (by kernel_rfl) (fun _ _ _ h => h) (YI.val (by kernel_rfl) (fun _ _ => (by kernel_rfl))) hT3 ?_
    refine ED.take (k := 58) 13 (.agg ((cat [[.slice (some ⟨bq, oq, none⟩) 1 cq], sumV h1, [.int .i64 af1, .int .i64 wt1]])).toArray) rfl rfl (by kernel_rfl) (by kernel_rfl) (by kernel_rfl) (by kernel_rfl) (fun _ _ _ h => h) (YI.val (by kernel_rfl) (fun _ hS' => loadN (b := bw) (i := ow + 35) rfl (by kernel_rfl) (by kernel_rfl) (by kernel_rfl) (hS'.range (Nat.lt_of_lt_of_le (rng_lt hW) hS10.size) (by simp) (hS10.range (rng_lt hW) (by simp) (rng_sub hW 35 (vs := (cat [[.slice (some ⟨bq, oq, none⟩) 1 cq], sumV h1, [.int .i64 af1, .int .i64 wt1]])) (by kernel_rfl)))))) hT3 ?_
    refine ED.all [14, 15] (by kernel_rfl) (by simp) ?_
    refine EDo.cons rfl ?_ ?_
    · skip
      refine (OPW.new (k := 5) (ob := cellsO (cat [[.slice none 0 0], sumV (fun _ => 0), [.int .i64 0, .int .i64 0]]) 35) mkP rfl (by kernel_rfl) (by kernel_rfl) (by kernel_rfl) ?_)
      intro g11 w11 hg11 hw11
      have hO11 : Own w11 [(g11, (cat [[.slice none 0 0], sumV (fun _ => 0), [.int .i64 0, .int .i64 0]]), 35), (g2, (txC (.slice (some ⟨bi, oi, none⟩) 1 ci) (.slice (some ⟨bo, oo, none⟩) 2 co) kind tower channel amount r D nD d S nS sg), 45), (g1, (chnC id client peer s at_ cap wait window), 27)] := (hO9.alloc hg11 hw11).norm (by kernel_rfl)
      have hS11 := hS10.alloc (Nat.le_refl _) hw11
      have hn11 : w.heap.size ≤ g11 := hg11 ▸ hS10.size
      have hr12 : w2.drew.drew.heap.size ≤ g11 := hg11 ▸ hT3.size
      have hT13 : Sep w2.drew.drew.heap.size [] w2.drew.drew w11 := hT3.alloc (Nat.le_refl _) hw11
      refine ⟨hT13, ?_⟩
      refine ED.all [15] (by kernel_rfl) (by simp) ?_
      refine EDo.cons rfl ?_ EDo.nil
      refine (OPW.new (k := 6) (ob := cellsO (cat [[.slice none 0 0], sumV (fun _ => 0), [.int .i64 0, .int .i64 0]]) 35) mkP rfl (by kernel_rfl) (by kernel_rfl) (by kernel_rfl) ?_)
      intro g14 w14 hg14 hw14
      have hO14 : Own w14 [(g14, (cat [[.slice none 0 0], sumV (fun _ => 0), [.int .i64 0, .int .i64 0]]), 35), (g11, (cat [[.slice none 0 0], sumV (fun _ => 0), [.int .i64 0, .int .i64 0]]), 35), (g2, (txC (.slice (some ⟨bi, oi, none⟩) 1 ci) (.slice (some ⟨bo, oo, none⟩) 2 co) kind tower channel amount r D nD d S nS sg), 45), (g1, (chnC id client peer s at_ cap wait window), 27)] := (hO11.alloc hg14 hw14).norm (by kernel_rfl)
      have hS14 := hS11.alloc (Nat.le_refl _) hw14
      have hn14 : w.heap.size ≤ g14 := hg14 ▸ hS11.size
      have hr15 : w2.drew.drew.heap.size ≤ g14 := hg14 ▸ hT13.size
      have hT16 : Sep w2.drew.drew.heap.size [] w2.drew.drew w14 := hT13.alloc (Nat.le_refl _) hw14
      refine ⟨hT16, ?_⟩
      refine ED.all [16] (by kernel_rfl) (by simp) ?_
      refine EDo.cons rfl ?_ EDo.nil
      refine (OPW.store (b := g11) (i := 0) (cat [[.slice (some ⟨bk, ok, none⟩) 1 ck], sumV h0, [.int .i64 af0, .int .i64 wt0]]) rfl (by kernel_rfl) rfl (by kernel_rfl) (by kernel_rfl) (by kernel_rfl) (by kernel_rfl) (hO14.there 1 rfl (Nat.le_of_ble_eq_true (by kernel_rfl))) ?_)
      intro w17 hw17
      have hO17 : Own w17 [(g14, (cat [[.slice none 0 0], sumV (fun _ => 0), [.int .i64 0, .int .i64 0]]), 35), (g11, (cat [[.slice (some ⟨bk, ok, none⟩) 1 ck], sumV h0, [.int .i64 af0, .int .i64 wt0]]), 35), (g2, (txC (.slice (some ⟨bi, oi, none⟩) 1 ci) (.slice (some ⟨bo, oo, none⟩) 2 co) kind tower channel amount r D nD d S nS sg), 45), (g1, (chnC id client peer s at_ cap wait window), 27)] := (hO14.set' 1 (vs := (cat [[.slice (some ⟨bk, ok, none⟩) 1 ck], sumV h0, [.int .i64 af0, .int .i64 wt0]])) rfl (Nat.le_of_ble_eq_true (by kernel_rfl)) hw17).norm (by kernel_rfl)
      have hS17 := hS14.set' (.inl hn11) hw17
      have hT18 : Sep w2.drew.drew.heap.size [] w2.drew.drew w17 := hT16.set' (.inl hr12) hw17
      refine ⟨hT18, ?_⟩
      refine ED.all [17] (by kernel_rfl) (by simp) ?_
      refine EDo.cons rfl ?_ EDo.nil
      refine (OPW.store (b := g14) (i := 0) (cat [[.slice (some ⟨bq, oq, none⟩) 1 cq], sumV h1, [.int .i64 af1, .int .i64 wt1]]) rfl (by kernel_rfl) rfl (by kernel_rfl) (by kernel_rfl) (by kernel_rfl) (by kernel_rfl) (hO17.there 0 rfl (Nat.le_of_ble_eq_true (by kernel_rfl))) ?_)
      intro w19 hw19
      have hO19 : Own w19 [(g14, (cat [[.slice (some ⟨bq, oq, none⟩) 1 cq], sumV h1, [.int .i64 af1, .int .i64 wt1]]), 35), (g11, (cat [[.slice (some ⟨bk, ok, none⟩) 1 ck], sumV h0, [.int .i64 af0, .int .i64 wt0]]), 35), (g2, (txC (.slice (some ⟨bi, oi, none⟩) 1 ci) (.slice (some ⟨bo, oo, none⟩) 2 co) kind tower channel amount r D nD d S nS sg), 45), (g1, (chnC id client peer s at_ cap wait window), 27)] := (hO17.set' 0 (vs := (cat [[.slice (some ⟨bq, oq, none⟩) 1 cq], sumV h1, [.int .i64 af1, .int .i64 wt1]])) rfl (Nat.le_of_ble_eq_true (by kernel_rfl)) hw19).norm (by kernel_rfl)
      have hS19 := hS17.set' (.inl hn14) hw19
      have hT20 : Sep w2.drew.drew.heap.size [] w2.drew.drew w19 := hT18.set' (.inl hr15) hw19
      refine ⟨hT20, ?_⟩
      refine ED.done (by kernel_rfl) ?_
      refine thenN ?_
      refine CW.seq ?_
      refine CW.seq ?_
      refine CW.region ?_
      refine EL.op (OPW.val (k := 59) (.pointer (some ⟨g1, 1, none⟩)) rfl (by kernel_rfl) (by kernel_rfl) (by kernel_rfl) ?_)
      refine EL.op (OPW.val (k := 60) (.int .i64 client) rfl (by kernel_rfl) (by kernel_rfl) (load1 (b := g1) (i := 1) rfl (by kernel_rfl) (by kernel_rfl) (hO19.cell 3 rfl (by kernel_rfl))) ?_)
      refine EL.op (OPW.val (k := 61) (.pointer (some ⟨g1, 2, none⟩)) rfl (by kernel_rfl) (by kernel_rfl) (by kernel_rfl) ?_)
      refine EL.op (OPW.val (k := 62) (.int .i64 peer) rfl (by kernel_rfl) (by kernel_rfl) (load1 (b := g1) (i := 2) rfl (by kernel_rfl) (by kernel_rfl) (hO19.cell 3 rfl (by kernel_rfl))) ?_)
      refine EL.op (OPW.val (k := 63) (.agg #[.int .i64 client, .int .i64 peer]) rfl (by kernel_rfl) (by kernel_rfl) (by kernel_rfl) ?_)
      refine EL.op (OPW.val (k := 64) (.int .i64 0) rfl (by kernel_rfl) (by kernel_rfl) (by kernel_rfl) ?_)
      refine EL.nil ?_
      refine thenN ?_
      refine CW.block ?_
      refine CW.rounds 2 ?_
      refine CW.seq ?_
      refine CW.region ?_
      refine EL.op (OPW.val (k := 65) (.bool true) rfl (by kernel_rfl) (by kernel_rfl) (by kernel_rfl) ?_)
      refine EL.nil ?_
      refine thenN ?_
      refine CW.seq ?_
      refine CW.condT (by kernel_rfl) ?_
      refine CW.skip ?_
      refine thenN ?_
      refine CW.seq ?_
      refine CW.block ?_
      refine CW.seq ?_
      refine CW.region ?_
      refine EL.op (OPW.val (k := 66) (.int .i64 0) rfl (by kernel_rfl) (by kernel_rfl) (by kernel_rfl) ?_)
      refine EL.op (OPW.val (k := 67) (.int .i64 client) rfl (by kernel_rfl) (by kernel_rfl) (by kernel_rfl) ?_)
      refine EL.op (OPW.val (k := 7) (.int .i64 0) rfl (by kernel_rfl) (by kernel_rfl) (by kernel_rfl) ?_)
      refine EL.op (OPW.val (k := 8) (.int .i64 client) rfl (by kernel_rfl) (by kernel_rfl) (by kernel_rfl) ?_)
      refine EL.nil ?_
      refine thenN ?_
      refine CW.seq ?_
      refine CW.region ?_
      refine EL.op (OPW.val (k := 68) (.pointer (some ⟨g1, 1, none⟩)) rfl (by kernel_rfl) (by kernel_rfl) (by kernel_rfl) ?_)
      refine EL.op (OPW.val (k := 69) (.int .i64 client) rfl (by kernel_rfl) (by kernel_rfl) (load1 (b := g1) (i := 1) rfl (by kernel_rfl) (by kernel_rfl) (hO19.cell 3 rfl (by kernel_rfl))) ?_)
      refine EL.op (OPW.val (k := 70) (.pointer (some ⟨g1, 2, none⟩)) rfl (by kernel_rfl) (by kernel_rfl) (by kernel_rfl) ?_)
      refine EL.op (OPW.val (k := 71) (.int .i64 peer) rfl (by kernel_rfl) (by kernel_rfl) (load1 (b := g1) (i := 2) rfl (by kernel_rfl) (by kernel_rfl) (hO19.cell 3 rfl (by kernel_rfl))) ?_)
      refine EL.op (OPW.val (k := 72) (.int .i64 (IntKind.i64.wrap (client + peer))) rfl (by kernel_rfl) (by kernel_rfl) (by kernel_rfl) ?_)
      refine EL.op (OPW.val (k := 73) (.int .i64 client) rfl (by kernel_rfl) (by kernel_rfl) (by kernel_rfl) ?_)
      refine EL.op (OPW.val (k := 74) (.int .i64 peer) rfl (by kernel_rfl) (by kernel_rfl) (run_eq (v := .int .i64 (IntKind.i64.wrap ((IntKind.i64.wrap (client + peer)) - client))) (by kernel_rfl) (wr_l hpeer)) ?_)
      refine EL.op (OPW.val (k := 9) (.int .i64 peer) rfl (by kernel_rfl) (by kernel_rfl) (by kernel_rfl) ?_)
      refine EL.nil ?_
      refine thenN ?_
      refine CW.seq ?_
      refine CW.region ?_
      refine EL.opA (OPW.val (k := 75) (.pointer (some ⟨g11, 0, none⟩)) rfl (by kernel_rfl) (by kernel_rfl) (by kernel_rfl) ?_)
      refine EL.opA (OPW.val (k := 76) (.slice (some ⟨bk, ok, none⟩) 1 ck) rfl (by kernel_rfl) (by kernel_rfl) (load1 (b := g11) (i := 0) rfl (by kernel_rfl) (by kernel_rfl) (hO19.cell 1 rfl (by kernel_rfl))) ?_)
      refine EL.opA (OPW.val (k := 77) (.int .i64 1) rfl (by kernel_rfl) (by kernel_rfl) (by kernel_rfl) ?_)
      refine EL.opA (OPW.val (k := 78) (.bool true) rfl (by kernel_rfl) (by kernel_rfl) (by kernel_rfl) ?_)
      refine EL.opA (OPW.val (k := 79) (.bool true) rfl (by kernel_rfl) (by kernel_rfl) (by kernel_rfl) ?_)
      refine EL.opA (OPW.val (k := 80) (.pointer (some ⟨g11, 0, none⟩)) rfl (by kernel_rfl) (by kernel_rfl) (by kernel_rfl) ?_)
      refine EL.opA (OPW.val (k := 81) (.slice (some ⟨bk, ok, none⟩) 1 ck) rfl (by kernel_rfl) (by kernel_rfl) (load1 (b := g11) (i := 0) rfl (by kernel_rfl) (by kernel_rfl) (hO19.cell 1 rfl (by kernel_rfl))) ?_)
      refine EL.opA (OPW.val (k := 82) (.pointer (some ⟨bk, ok, none⟩)) rfl (by kernel_rfl) (by kernel_rfl) (by kernel_rfl) ?_)
      refine EL.opA (OPW.val (k := 83) (.int .i64 k0) rfl (by kernel_rfl) (by kernel_rfl) (load1 (b := bk) (i := ok) rfl (by kernel_rfl) (by kernel_rfl) (hS19.cell (rng_lt hK) (by simp) (hK 0 _ (by kernel_rfl)))) ?_)
      refine EL.opA (OPW.val (k := 84) (.int .i64 client) rfl (by kernel_rfl) (by kernel_rfl) (by kernel_rfl) ?_)
      refine EL.opA (OPW.bool (k := 85) (k0 == client) rfl (by kernel_rfl) (by kernel_rfl) (by kernel_rfl) ?_)
      intro b21 hb21
      refine EL.opA (OPW.val (k := 86) (.bool b21) rfl (by kernel_rfl) (by kernel_rfl) (by kernel_rfl) ?_)
      refine EL.opA (OPW.val (k := 87) (.bool b21) rfl (by kernel_rfl) (by kernel_rfl) (by kernel_rfl) ?_)
      refine EL.opA (OPW.gT (k := 88) b21 (.pointer (some ⟨g11, 34, none⟩)) rfl (by kernel_rfl) rfl (by kernel_rfl) (by rintro rfl; kernel_rfl) ?_)
      refine EL.opA (OPW.gT (k := 89) b21 (.int .i64 wt0) rfl (by kernel_rfl) rfl (by kernel_rfl) (by rintro rfl; exact (load1 (b := g11) (i := 34) rfl (by kernel_rfl) (by kernel_rfl) (hO19.cell 1 rfl (by kernel_rfl)))) ?_)
      refine EL.opA (OPW.gT (k := 90) b21 (.pointer (some ⟨g1, 37, none⟩)) rfl (by kernel_rfl) rfl (by kernel_rfl) (by rintro rfl; kernel_rfl) ?_)
      refine EL.opA (OPW.gT (k := 91) b21 (.int .i64 wait) rfl (by kernel_rfl) rfl (by kernel_rfl) (by rintro rfl; exact (load1 (b := g1) (i := 37) rfl (by kernel_rfl) (by kernel_rfl) (hO19.cell 3 rfl (by kernel_rfl)))) ?_)
      refine EL.opA (OPW.gT (k := 92) b21 (.bool (wt0 == wait)) rfl (by kernel_rfl) rfl (by kernel_rfl) (by rintro rfl; kernel_rfl) ?_)
      refine EL.opA (OPW.bool (k := 93) (b21 && (wt0 == wait)) rfl (by kernel_rfl) (by kernel_rfl) (pick_and rfl (by kernel_rfl) (by rintro rfl; kernel_rfl) (by kernel_rfl)) ?_)
      intro b22 hb22
      refine EL.opA (OPW.val (k := 94) (.bool b22) rfl (by kernel_rfl) (by kernel_rfl) (by kernel_rfl) ?_)
      refine EL.opA (OPW.gT (k := 95) b22 (.pointer (some ⟨g11, 33, none⟩)) rfl (by kernel_rfl) rfl (by kernel_rfl) (by rintro rfl; kernel_rfl) ?_)
      refine EL.opA (OPW.gT (k := 96) b22 (.int .i64 af0) rfl (by kernel_rfl) rfl (by kernel_rfl) (by rintro rfl; exact (load1 (b := g11) (i := 33) rfl (by kernel_rfl) (by kernel_rfl) (hO19.cell 1 rfl (by kernel_rfl)))) ?_)
      refine EL.opA (OPW.gT (k := 97) b22 (.bool (af0 == (0 : Int))) rfl (by kernel_rfl) rfl (by kernel_rfl) (by rintro rfl; kernel_rfl) ?_)
      refine EL.opA (OPW.bool (k := 98) (b22 && (af0 == (0 : Int))) rfl (by kernel_rfl) (by kernel_rfl) (pick_and rfl (by kernel_rfl) (by rintro rfl; kernel_rfl) (by kernel_rfl)) ?_)
      intro b23 hb23
      refine EL.opA (OPW.val (k := 99) (.bool b23) rfl (by kernel_rfl) (by kernel_rfl) (by kernel_rfl) ?_)
      refine EL.opA (OPW.gT (k := 100) b23 (.pointer (some ⟨g11, 1, none⟩)) rfl (by kernel_rfl) rfl (by kernel_rfl) (by rintro rfl; kernel_rfl) ?_)
      refine EL.opA (OPW.gT (k := 101) b23 (.agg (sumV h0).toArray) rfl (by kernel_rfl) rfl (by kernel_rfl) (by rintro rfl; exact (loadN (b := g11) (i := 1) rfl (by kernel_rfl) (by kernel_rfl) (by kernel_rfl) (hO19.range 1 (vs := sumV h0) rfl (by kernel_rfl)))) ?_)
      refine EL.opA (OPW.gT (k := 102) b23 (.agg (sumV (fun _ => 0)).toArray) rfl (by kernel_rfl) rfl (by kernel_rfl) (by rintro rfl; kernel_rfl) ?_)
      refine EL.opA (OPW.gT (k := 103) b23 (.bool ((sumEq h0 (fun _ => 0)))) rfl (by kernel_rfl) rfl (by kernel_rfl) (by rintro rfl; exact (eq_run rfl (by kernel_rfl) (by kernel_rfl) (by kernel_rfl) (by kernel_rfl))) ?_)
      refine EL.opA (OPW.bool (k := 104) (b23 && ((sumEq h0 (fun _ => 0)))) rfl (by kernel_rfl) (by kernel_rfl) (pick_and rfl (by kernel_rfl) (by rintro rfl; kernel_rfl) (by kernel_rfl)) ?_)
      intro b24 hb24
      refine EL.opA (OPW.val (k := 105) (.bool b24) rfl (by kernel_rfl) (by kernel_rfl) (by kernel_rfl) ?_)
      refine EL.opA (OPW.gT (k := 106) b24 (.pointer (some ⟨g14, 0, none⟩)) rfl (by kernel_rfl) rfl (by kernel_rfl) (by rintro rfl; kernel_rfl) ?_)
      refine EL.opA (OPW.gT (k := 107) b24 (.slice (some ⟨bq, oq, none⟩) 1 cq) rfl (by kernel_rfl) rfl (by kernel_rfl) (by rintro rfl; exact (load1 (b := g14) (i := 0) rfl (by kernel_rfl) (by kernel_rfl) (hO19.cell 0 rfl (by kernel_rfl)))) ?_)
      refine EL.opA (OPW.gT (k := 108) b24 (.int .i64 1) rfl (by kernel_rfl) rfl (by kernel_rfl) (by rintro rfl; kernel_rfl) ?_)
      refine EL.nilA ?_
      refine EL.op (OPW.gT (k := 109) b24 (.bool true) rfl (by kernel_rfl) rfl (by kernel_rfl) (by rintro rfl; kernel_rfl) ?_)
      refine EL.op (OPW.val (k := 110) (.bool b24) rfl (by kernel_rfl) (by kernel_rfl) (run_eq (v := .bool (bif b24 then true else false)) (pick_run (b := b24) (p := true) (q := false) rfl (by kernel_rfl) (by rintro rfl; kernel_rfl) (fun _ => (by kernel_rfl))) (by cases b24 <;> rfl)) ?_)
      refine EL.op (OPW.val (k := 111) (.bool b24) rfl (by kernel_rfl) (by kernel_rfl) (by kernel_rfl) ?_)
      refine EL.op (OPW.gT (k := 112) b24 (.pointer (some ⟨g14, 0, none⟩)) rfl (by kernel_rfl) rfl (by kernel_rfl) (by rintro rfl; kernel_rfl) ?_)
      refine EL.op (OPW.gT (k := 113) b24 (.slice (some ⟨bq, oq, none⟩) 1 cq) rfl (by kernel_rfl) rfl (by kernel_rfl) (by rintro rfl; exact (load1 (b := g14) (i := 0) rfl (by kernel_rfl) (by kernel_rfl) (hO19.cell 0 rfl (by kernel_rfl)))) ?_)
      refine EL.op (OPW.gT (k := 114) b24 (.pointer (some ⟨bq, oq, none⟩)) rfl (by kernel_rfl) rfl (by kernel_rfl) (by rintro rfl; kernel_rfl) ?_)
      refine EL.op (OPW.gT (k := 115) b24 (.int .i64 q0) rfl (by kernel_rfl) rfl (by kernel_rfl) (by rintro rfl; exact (load1 (b := bq) (i := oq) rfl (by kernel_rfl) (by kernel_rfl) (hS19.cell (rng_lt hQ) (by simp) (hQ 0 _ (by kernel_rfl))))) ?_)
      refine EL.op (OPW.gT (k := 116) b24 (.int .i64 peer) rfl (by kernel_rfl) rfl (by kernel_rfl) (by rintro rfl; kernel_rfl) ?_)
      refine EL.op (OPW.gT (k := 117) b24 (.bool (q0 == peer)) rfl (by kernel_rfl) rfl (by kernel_rfl) (by rintro rfl; kernel_rfl) ?_)
      refine EL.op (OPW.bool (k := 118) (b24 && (q0 == peer)) rfl (by kernel_rfl) (by kernel_rfl) (pick_and rfl (by kernel_rfl) (by rintro rfl; kernel_rfl) (by kernel_rfl)) ?_)
      intro b25 hb25
      refine EL.op (OPW.val (k := 119) (.bool b25) rfl (by kernel_rfl) (by kernel_rfl) (by kernel_rfl) ?_)
      refine EL.op (OPW.gT (k := 120) b25 (.pointer (some ⟨g14, 34, none⟩)) rfl (by kernel_rfl) rfl (by kernel_rfl) (by rintro rfl; kernel_rfl) ?_)
      refine EL.op (OPW.gT (k := 121) b25 (.int .i64 wt1) rfl (by kernel_rfl) rfl (by kernel_rfl) (by rintro rfl; exact (load1 (b := g14) (i := 34) rfl (by kernel_rfl) (by kernel_rfl) (hO19.cell 0 rfl (by kernel_rfl)))) ?_)
      refine EL.op (OPW.gT (k := 122) b25 (.bool (wt1 == (0 : Int))) rfl (by kernel_rfl) rfl (by kernel_rfl) (by rintro rfl; kernel_rfl) ?_)
      refine EL.op (OPW.bool (k := 123) (b25 && (wt1 == (0 : Int))) rfl (by kernel_rfl) (by kernel_rfl) (pick_and rfl (by kernel_rfl) (by rintro rfl; kernel_rfl) (by kernel_rfl)) ?_)
      intro b26 hb26
      refine EL.op (OPW.val (k := 124) (.bool b26) rfl (by kernel_rfl) (by kernel_rfl) (by kernel_rfl) ?_)
      refine EL.op (OPW.gT (k := 125) b26 (.pointer (some ⟨g14, 33, none⟩)) rfl (by kernel_rfl) rfl (by kernel_rfl) (by rintro rfl; kernel_rfl) ?_)
      refine EL.op (OPW.gT (k := 126) b26 (.int .i64 af1) rfl (by kernel_rfl) rfl (by kernel_rfl) (by rintro rfl; exact (load1 (b := g14) (i := 33) rfl (by kernel_rfl) (by kernel_rfl) (hO19.cell 0 rfl (by kernel_rfl)))) ?_)
      refine EL.op (OPW.gT (k := 127) b26 (.bool (af1 == (0 : Int))) rfl (by kernel_rfl) rfl (by kernel_rfl) (by rintro rfl; kernel_rfl) ?_)
      refine EL.op (OPW.bool (k := 128) (b26 && (af1 == (0 : Int))) rfl (by kernel_rfl) (by kernel_rfl) (pick_and rfl (by kernel_rfl) (by rintro rfl; kernel_rfl) (by kernel_rfl)) ?_)
      intro b27 hb27
      refine EL.op (OPW.val (k := 129) (.bool b27) rfl (by kernel_rfl) (by kernel_rfl) (by kernel_rfl) ?_)
      refine EL.op (OPW.gT (k := 130) b27 (.pointer (some ⟨g14, 1, none⟩)) rfl (by kernel_rfl) rfl (by kernel_rfl) (by rintro rfl; kernel_rfl) ?_)
      refine EL.op (OPW.gT (k := 131) b27 (.agg (sumV h1).toArray) rfl (by kernel_rfl) rfl (by kernel_rfl) (by rintro rfl; exact (loadN (b := g14) (i := 1) rfl (by kernel_rfl) (by kernel_rfl) (by kernel_rfl) (hO19.range 0 (vs := sumV h1) rfl (by kernel_rfl)))) ?_)
      refine EL.op (OPW.gT (k := 132) b27 (.agg (sumV (fun _ => 0)).toArray) rfl (by kernel_rfl) rfl (by kernel_rfl) (by rintro rfl; kernel_rfl) ?_)
      refine EL.op (OPW.gT (k := 133) b27 (.bool (!((sumEq h1 (fun _ => 0))))) rfl (by kernel_rfl) rfl (by kernel_rfl) (by rintro rfl; exact (neq_run (b := (sumEq h1 (fun _ => 0))) rfl (by kernel_rfl) (by kernel_rfl) (by kernel_rfl) (by kernel_rfl))) ?_)
      refine EL.op (OPW.bool (k := 134) (b27 && (!((sumEq h1 (fun _ => 0))))) rfl (by kernel_rfl) (by kernel_rfl) (pick_and rfl (by kernel_rfl) (by rintro rfl; kernel_rfl) (by kernel_rfl)) ?_)
      intro b28 hb28
      refine EL.op (OPW.val (k := 135) (.bool b28) rfl (by kernel_rfl) (by kernel_rfl) (by kernel_rfl) ?_)
      refine EL.op (OPW.gT (k := 136) b28 (.pointer (some ⟨g2, 1, none⟩)) rfl (by kernel_rfl) rfl (by kernel_rfl) (by rintro rfl; kernel_rfl) ?_)
      refine EL.op (OPW.gT (k := 137) b28 (.slice (some ⟨bo, oo, none⟩) 2 co) rfl (by kernel_rfl) rfl (by kernel_rfl) (by rintro rfl; exact (load1 (b := g2) (i := 1) rfl (by kernel_rfl) (by kernel_rfl) (hO19.cell 2 rfl (by kernel_rfl)))) ?_)
      refine EL.op (OPW.gT (k := 138) b28 (.pointer (some ⟨bo, oo + 2, none⟩)) rfl (by kernel_rfl) rfl (by kernel_rfl) (by rintro rfl; kernel_rfl) ?_)
      refine EL.op (OPW.gT (k := 139) b28 (.agg #[.int .i64 am2, .slice B2 n2 c2]) rfl (by kernel_rfl) rfl (by kernel_rfl) (by rintro rfl; exact (loadN (b := bo) (i := oo + 2) rfl (by kernel_rfl) (by kernel_rfl) (by kernel_rfl) (hS19.range (rng_lt hT) (by simp) (rng_sub hT 2 (vs := [.int .i64 am2, .slice B2 n2 c2]) (by kernel_rfl))))) ?_)
      refine EL.op (OPW.gT (k := 140) b28 (.int .i64 peer) rfl (by kernel_rfl) rfl (by kernel_rfl) (by rintro rfl; kernel_rfl) ?_)
      refine EL.op (OPW.gcT (k := 141) b28 (.bool (soleB o2 peer)) rfl (by kernel_rfl) rfl (by kernel_rfl) (by rintro rfl; kernel_rfl) (by rintro rfl; exact lock_Sole _ o2 peer _ (hout.below hS19.toBelow)) ?_)
      intro w29 hb29
      have hO29 := hO19.below hb29 (Nat.le_refl _)
      have hS29 := hS19.below (Nat.le_refl _) hb29
      refine EL.op (OPW.bool (k := 142) (b28 && (soleB o2 peer)) rfl (by kernel_rfl) (by kernel_rfl) (pick_and rfl (by kernel_rfl) (by rintro rfl; kernel_rfl) (by kernel_rfl)) ?_)
      intro b30 hb30
      refine EL.nil ?_
      refine thenN ?_
      have q2 : b30 = (ownT k0 wt0 af0 q0 wt1 af1 wait client peer h0 h1 (soleB o2 peer)) := by simp only [hb6, hb7, hb21, hb22, hb23, hb24, hb25, hb26, hb27, hb28, hb30, ownT, Bool.and_assoc, Bool.or_assoc]
      refine CW.cond b30 (by kernel_rfl) (fun hc8 => ?_) (fun hc8 => ?_)
      · skip
        subst hc8
        refine CW.seq ?_
        refine CW.region ?_
        refine EL.op (OPW.val (k := 143) (.int .i64 0) rfl (by kernel_rfl) (by kernel_rfl) (by kernel_rfl) ?_)
        refine EL.op (OPW.val (k := 4) (.int .i64 0) rfl (by kernel_rfl) (by kernel_rfl) (by kernel_rfl) ?_)
        refine EL.nil ?_
        refine thenN ?_
        refine CW.ret ?_
        refine blockR ?_
        refine thenR ?_
        refine thenR ?_
        refine blockR ?_
        refine thenR ?_
        refine bp_ret (v := .int .i64 0) (by kernel_rfl) ?_
        refine ⟨?_, hS29.toBelow⟩
        unfold ownI
        rw [← q1, ← q2]
        rfl
      · skip
        subst hc8
        refine CW.skip ?_
        refine blockN ?_
        refine thenN ?_
        refine CW.region ?_
        refine EL.op (OPW.val (k := 144) (.int .i64 1) rfl (by kernel_rfl) (by kernel_rfl) (by kernel_rfl) ?_)
        refine EL.op (OPW.val (k := 64) (.int .i64 1) rfl (by kernel_rfl) (by kernel_rfl) (by kernel_rfl) ?_)
        refine EL.nil ?_
        refine roundN ?_
        refine CW.seq ?_
        refine CW.region ?_
        refine EL.op (OPW.val (k := 65) (.bool true) rfl (by kernel_rfl) (by kernel_rfl) (by kernel_rfl) ?_)
        refine EL.nil ?_
        refine thenN ?_
        refine CW.seq ?_
        refine CW.condT (by kernel_rfl) ?_
        refine CW.skip ?_
        refine thenN ?_
        refine CW.seq ?_
        refine CW.block ?_
        refine CW.seq ?_
        refine CW.region ?_
        refine EL.op (OPW.val (k := 66) (.int .i64 1) rfl (by kernel_rfl) (by kernel_rfl) (by kernel_rfl) ?_)
        refine EL.op (OPW.val (k := 67) (.int .i64 peer) rfl (by kernel_rfl) (by kernel_rfl) (by kernel_rfl) ?_)
        refine EL.op (OPW.val (k := 7) (.int .i64 1) rfl (by kernel_rfl) (by kernel_rfl) (by kernel_rfl) ?_)
        refine EL.op (OPW.val (k := 8) (.int .i64 peer) rfl (by kernel_rfl) (by kernel_rfl) (by kernel_rfl) ?_)
        refine EL.nil ?_
        refine thenN ?_
        refine CW.seq ?_
        refine CW.region ?_
        refine EL.op (OPW.val (k := 68) (.pointer (some ⟨g1, 1, none⟩)) rfl (by kernel_rfl) (by kernel_rfl) (by kernel_rfl) ?_)
        refine EL.op (OPW.val (k := 69) (.int .i64 client) rfl (by kernel_rfl) (by kernel_rfl) (load1 (b := g1) (i := 1) rfl (by kernel_rfl) (by kernel_rfl) (hO29.cell 3 rfl (by kernel_rfl))) ?_)
        refine EL.op (OPW.val (k := 70) (.pointer (some ⟨g1, 2, none⟩)) rfl (by kernel_rfl) (by kernel_rfl) (by kernel_rfl) ?_)
        refine EL.op (OPW.val (k := 71) (.int .i64 peer) rfl (by kernel_rfl) (by kernel_rfl) (load1 (b := g1) (i := 2) rfl (by kernel_rfl) (by kernel_rfl) (hO29.cell 3 rfl (by kernel_rfl))) ?_)
        refine EL.op (OPW.val (k := 72) (.int .i64 (IntKind.i64.wrap (client + peer))) rfl (by kernel_rfl) (by kernel_rfl) (by kernel_rfl) ?_)
        refine EL.op (OPW.val (k := 73) (.int .i64 peer) rfl (by kernel_rfl) (by kernel_rfl) (by kernel_rfl) ?_)
        refine EL.op (OPW.val (k := 74) (.int .i64 client) rfl (by kernel_rfl) (by kernel_rfl) (run_eq (v := .int .i64 (IntKind.i64.wrap ((IntKind.i64.wrap (client + peer)) - peer))) (by kernel_rfl) (wr_r hclient)) ?_)
        refine EL.op (OPW.val (k := 9) (.int .i64 client) rfl (by kernel_rfl) (by kernel_rfl) (by kernel_rfl) ?_)
        refine EL.nil ?_
        refine thenN ?_
        refine CW.seq ?_
        refine CW.region ?_
        refine EL.opA (OPW.val (k := 75) (.pointer (some ⟨g11, 0, none⟩)) rfl (by kernel_rfl) (by kernel_rfl) (by kernel_rfl) ?_)
        refine EL.opA (OPW.val (k := 76) (.slice (some ⟨bk, ok, none⟩) 1 ck) rfl (by kernel_rfl) (by kernel_rfl) (load1 (b := g11) (i := 0) rfl (by kernel_rfl) (by kernel_rfl) (hO29.cell 1 rfl (by kernel_rfl))) ?_)
        refine EL.opA (OPW.val (k := 77) (.int .i64 1) rfl (by kernel_rfl) (by kernel_rfl) (by kernel_rfl) ?_)
        refine EL.opA (OPW.val (k := 78) (.bool true) rfl (by kernel_rfl) (by kernel_rfl) (by kernel_rfl) ?_)
        refine EL.opA (OPW.val (k := 79) (.bool true) rfl (by kernel_rfl) (by kernel_rfl) (by kernel_rfl) ?_)
        refine EL.opA (OPW.val (k := 80) (.pointer (some ⟨g11, 0, none⟩)) rfl (by kernel_rfl) (by kernel_rfl) (by kernel_rfl) ?_)
        refine EL.opA (OPW.val (k := 81) (.slice (some ⟨bk, ok, none⟩) 1 ck) rfl (by kernel_rfl) (by kernel_rfl) (load1 (b := g11) (i := 0) rfl (by kernel_rfl) (by kernel_rfl) (hO29.cell 1 rfl (by kernel_rfl))) ?_)
        refine EL.opA (OPW.val (k := 82) (.pointer (some ⟨bk, ok, none⟩)) rfl (by kernel_rfl) (by kernel_rfl) (by kernel_rfl) ?_)
        refine EL.opA (OPW.val (k := 83) (.int .i64 k0) rfl (by kernel_rfl) (by kernel_rfl) (load1 (b := bk) (i := ok) rfl (by kernel_rfl) (by kernel_rfl) (hS29.cell (rng_lt hK) (by simp) (hK 0 _ (by kernel_rfl)))) ?_)
        refine EL.opA (OPW.val (k := 84) (.int .i64 peer) rfl (by kernel_rfl) (by kernel_rfl) (by kernel_rfl) ?_)
        refine EL.opA (OPW.bool (k := 85) (k0 == peer) rfl (by kernel_rfl) (by kernel_rfl) (by kernel_rfl) ?_)
        intro b31 hb31
        refine EL.opA (OPW.val (k := 86) (.bool b31) rfl (by kernel_rfl) (by kernel_rfl) (by kernel_rfl) ?_)
        refine EL.opA (OPW.val (k := 87) (.bool b31) rfl (by kernel_rfl) (by kernel_rfl) (by kernel_rfl) ?_)
        refine EL.opA (OPW.gT (k := 88) b31 (.pointer (some ⟨g11, 34, none⟩)) rfl (by kernel_rfl) rfl (by kernel_rfl) (by rintro rfl; kernel_rfl) ?_)
        refine EL.opA (OPW.gT (k := 89) b31 (.int .i64 wt0) rfl (by kernel_rfl) rfl (by kernel_rfl) (by rintro rfl; exact (load1 (b := g11) (i := 34) rfl (by kernel_rfl) (by kernel_rfl) (hO29.cell 1 rfl (by kernel_rfl)))) ?_)
        refine EL.opA (OPW.gT (k := 90) b31 (.pointer (some ⟨g1, 37, none⟩)) rfl (by kernel_rfl) rfl (by kernel_rfl) (by rintro rfl; kernel_rfl) ?_)
        refine EL.opA (OPW.gT (k := 91) b31 (.int .i64 wait) rfl (by kernel_rfl) rfl (by kernel_rfl) (by rintro rfl; exact (load1 (b := g1) (i := 37) rfl (by kernel_rfl) (by kernel_rfl) (hO29.cell 3 rfl (by kernel_rfl)))) ?_)
        refine EL.opA (OPW.gT (k := 92) b31 (.bool (wt0 == wait)) rfl (by kernel_rfl) rfl (by kernel_rfl) (by rintro rfl; kernel_rfl) ?_)
        refine EL.opA (OPW.bool (k := 93) (b31 && (wt0 == wait)) rfl (by kernel_rfl) (by kernel_rfl) (pick_and rfl (by kernel_rfl) (by rintro rfl; kernel_rfl) (by kernel_rfl)) ?_)
        intro b32 hb32
        refine EL.opA (OPW.val (k := 94) (.bool b32) rfl (by kernel_rfl) (by kernel_rfl) (by kernel_rfl) ?_)
        refine EL.opA (OPW.gT (k := 95) b32 (.pointer (some ⟨g11, 33, none⟩)) rfl (by kernel_rfl) rfl (by kernel_rfl) (by rintro rfl; kernel_rfl) ?_)
        refine EL.opA (OPW.gT (k := 96) b32 (.int .i64 af0) rfl (by kernel_rfl) rfl (by kernel_rfl) (by rintro rfl; exact (load1 (b := g11) (i := 33) rfl (by kernel_rfl) (by kernel_rfl) (hO29.cell 1 rfl (by kernel_rfl)))) ?_)
        refine EL.opA (OPW.gT (k := 97) b32 (.bool (af0 == (0 : Int))) rfl (by kernel_rfl) rfl (by kernel_rfl) (by rintro rfl; kernel_rfl) ?_)
        refine EL.opA (OPW.bool (k := 98) (b32 && (af0 == (0 : Int))) rfl (by kernel_rfl) (by kernel_rfl) (pick_and rfl (by kernel_rfl) (by rintro rfl; kernel_rfl) (by kernel_rfl)) ?_)
        intro b33 hb33
        refine EL.opA (OPW.val (k := 99) (.bool b33) rfl (by kernel_rfl) (by kernel_rfl) (by kernel_rfl) ?_)
        refine EL.opA (OPW.gT (k := 100) b33 (.pointer (some ⟨g11, 1, none⟩)) rfl (by kernel_rfl) rfl (by kernel_rfl) (by rintro rfl; kernel_rfl) ?_)
        refine EL.opA (OPW.gT (k := 101) b33 (.agg (sumV h0).toArray) rfl (by kernel_rfl) rfl (by kernel_rfl) (by rintro rfl; exact (loadN (b := g11) (i := 1) rfl (by kernel_rfl) (by kernel_rfl) (by kernel_rfl) (hO29.range 1 (vs := sumV h0) rfl (by kernel_rfl)))) ?_)
        refine EL.opA (OPW.gT (k := 102) b33 (.agg (sumV (fun _ => 0)).toArray) rfl (by kernel_rfl) rfl (by kernel_rfl) (by rintro rfl; kernel_rfl) ?_)
        refine EL.opA (OPW.gT (k := 103) b33 (.bool ((sumEq h0 (fun _ => 0)))) rfl (by kernel_rfl) rfl (by kernel_rfl) (by rintro rfl; exact (eq_run rfl (by kernel_rfl) (by kernel_rfl) (by kernel_rfl) (by kernel_rfl))) ?_)
        refine EL.opA (OPW.bool (k := 104) (b33 && ((sumEq h0 (fun _ => 0)))) rfl (by kernel_rfl) (by kernel_rfl) (pick_and rfl (by kernel_rfl) (by rintro rfl; kernel_rfl) (by kernel_rfl)) ?_)
        intro b34 hb34
        refine EL.opA (OPW.val (k := 105) (.bool b34) rfl (by kernel_rfl) (by kernel_rfl) (by kernel_rfl) ?_)
        refine EL.opA (OPW.gT (k := 106) b34 (.pointer (some ⟨g14, 0, none⟩)) rfl (by kernel_rfl) rfl (by kernel_rfl) (by rintro rfl; kernel_rfl) ?_)
        refine EL.opA (OPW.gT (k := 107) b34 (.slice (some ⟨bq, oq, none⟩) 1 cq) rfl (by kernel_rfl) rfl (by kernel_rfl) (by rintro rfl; exact (load1 (b := g14) (i := 0) rfl (by kernel_rfl) (by kernel_rfl) (hO29.cell 0 rfl (by kernel_rfl)))) ?_)
        refine EL.opA (OPW.gT (k := 108) b34 (.int .i64 1) rfl (by kernel_rfl) rfl (by kernel_rfl) (by rintro rfl; kernel_rfl) ?_)
        refine EL.nilA ?_
        refine EL.op (OPW.gT (k := 109) b34 (.bool true) rfl (by kernel_rfl) rfl (by kernel_rfl) (by rintro rfl; kernel_rfl) ?_)
        refine EL.op (OPW.val (k := 110) (.bool b34) rfl (by kernel_rfl) (by kernel_rfl) (run_eq (v := .bool (bif b34 then true else false)) (pick_run (b := b34) (p := true) (q := false) rfl (by kernel_rfl) (by rintro rfl; kernel_rfl) (fun _ => (by kernel_rfl))) (by cases b34 <;> rfl)) ?_)
        refine EL.op (OPW.val (k := 111) (.bool b34) rfl (by kernel_rfl) (by kernel_rfl) (by kernel_rfl) ?_)
        refine EL.op (OPW.gT (k := 112) b34 (.pointer (some ⟨g14, 0, none⟩)) rfl (by kernel_rfl) rfl (by kernel_rfl) (by rintro rfl; kernel_rfl) ?_)
        refine EL.op (OPW.gT (k := 113) b34 (.slice (some ⟨bq, oq, none⟩) 1 cq) rfl (by kernel_rfl) rfl (by kernel_rfl) (by rintro rfl; exact (load1 (b := g14) (i := 0) rfl (by kernel_rfl) (by kernel_rfl) (hO29.cell 0 rfl (by kernel_rfl)))) ?_)
        refine EL.op (OPW.gT (k := 114) b34 (.pointer (some ⟨bq, oq, none⟩)) rfl (by kernel_rfl) rfl (by kernel_rfl) (by rintro rfl; kernel_rfl) ?_)
        refine EL.op (OPW.gT (k := 115) b34 (.int .i64 q0) rfl (by kernel_rfl) rfl (by kernel_rfl) (by rintro rfl; exact (load1 (b := bq) (i := oq) rfl (by kernel_rfl) (by kernel_rfl) (hS29.cell (rng_lt hQ) (by simp) (hQ 0 _ (by kernel_rfl))))) ?_)
        refine EL.op (OPW.gT (k := 116) b34 (.int .i64 client) rfl (by kernel_rfl) rfl (by kernel_rfl) (by rintro rfl; kernel_rfl) ?_)
        refine EL.op (OPW.gT (k := 117) b34 (.bool (q0 == client)) rfl (by kernel_rfl) rfl (by kernel_rfl) (by rintro rfl; kernel_rfl) ?_)
        refine EL.op (OPW.bool (k := 118) (b34 && (q0 == client)) rfl (by kernel_rfl) (by kernel_rfl) (pick_and rfl (by kernel_rfl) (by rintro rfl; kernel_rfl) (by kernel_rfl)) ?_)
        intro b35 hb35
        refine EL.op (OPW.val (k := 119) (.bool b35) rfl (by kernel_rfl) (by kernel_rfl) (by kernel_rfl) ?_)
        refine EL.op (OPW.gT (k := 120) b35 (.pointer (some ⟨g14, 34, none⟩)) rfl (by kernel_rfl) rfl (by kernel_rfl) (by rintro rfl; kernel_rfl) ?_)
        refine EL.op (OPW.gT (k := 121) b35 (.int .i64 wt1) rfl (by kernel_rfl) rfl (by kernel_rfl) (by rintro rfl; exact (load1 (b := g14) (i := 34) rfl (by kernel_rfl) (by kernel_rfl) (hO29.cell 0 rfl (by kernel_rfl)))) ?_)
        refine EL.op (OPW.gT (k := 122) b35 (.bool (wt1 == (0 : Int))) rfl (by kernel_rfl) rfl (by kernel_rfl) (by rintro rfl; kernel_rfl) ?_)
        refine EL.op (OPW.bool (k := 123) (b35 && (wt1 == (0 : Int))) rfl (by kernel_rfl) (by kernel_rfl) (pick_and rfl (by kernel_rfl) (by rintro rfl; kernel_rfl) (by kernel_rfl)) ?_)
        intro b36 hb36
        refine EL.op (OPW.val (k := 124) (.bool b36) rfl (by kernel_rfl) (by kernel_rfl) (by kernel_rfl) ?_)
        refine EL.op (OPW.gT (k := 125) b36 (.pointer (some ⟨g14, 33, none⟩)) rfl (by kernel_rfl) rfl (by kernel_rfl) (by rintro rfl; kernel_rfl) ?_)
        refine EL.op (OPW.gT (k := 126) b36 (.int .i64 af1) rfl (by kernel_rfl) rfl (by kernel_rfl) (by rintro rfl; exact (load1 (b := g14) (i := 33) rfl (by kernel_rfl) (by kernel_rfl) (hO29.cell 0 rfl (by kernel_rfl)))) ?_)
        refine EL.op (OPW.gT (k := 127) b36 (.bool (af1 == (0 : Int))) rfl (by kernel_rfl) rfl (by kernel_rfl) (by rintro rfl; kernel_rfl) ?_)
        refine EL.op (OPW.bool (k := 128) (b36 && (af1 == (0 : Int))) rfl (by kernel_rfl) (by kernel_rfl) (pick_and rfl (by kernel_rfl) (by rintro rfl; kernel_rfl) (by kernel_rfl)) ?_)
        intro b37 hb37
        refine EL.op (OPW.val (k := 129) (.bool b37) rfl (by kernel_rfl) (by kernel_rfl) (by kernel_rfl) ?_)
        refine EL.op (OPW.gT (k := 130) b37 (.pointer (some ⟨g14, 1, none⟩)) rfl (by kernel_rfl) rfl (by kernel_rfl) (by rintro rfl; kernel_rfl) ?_)
        refine EL.op (OPW.gT (k := 131) b37 (.agg (sumV h1).toArray) rfl (by kernel_rfl) rfl (by kernel_rfl) (by rintro rfl; exact (loadN (b := g14) (i := 1) rfl (by kernel_rfl) (by kernel_rfl) (by kernel_rfl) (hO29.range 0 (vs := sumV h1) rfl (by kernel_rfl)))) ?_)
        refine EL.op (OPW.gT (k := 132) b37 (.agg (sumV (fun _ => 0)).toArray) rfl (by kernel_rfl) rfl (by kernel_rfl) (by rintro rfl; kernel_rfl) ?_)
        refine EL.op (OPW.gT (k := 133) b37 (.bool (!((sumEq h1 (fun _ => 0))))) rfl (by kernel_rfl) rfl (by kernel_rfl) (by rintro rfl; exact (neq_run (b := (sumEq h1 (fun _ => 0))) rfl (by kernel_rfl) (by kernel_rfl) (by kernel_rfl) (by kernel_rfl))) ?_)
        refine EL.op (OPW.bool (k := 134) (b37 && (!((sumEq h1 (fun _ => 0))))) rfl (by kernel_rfl) (by kernel_rfl) (pick_and rfl (by kernel_rfl) (by rintro rfl; kernel_rfl) (by kernel_rfl)) ?_)
        intro b38 hb38
        refine EL.op (OPW.val (k := 135) (.bool b38) rfl (by kernel_rfl) (by kernel_rfl) (by kernel_rfl) ?_)
        refine EL.op (OPW.gT (k := 136) b38 (.pointer (some ⟨g2, 1, none⟩)) rfl (by kernel_rfl) rfl (by kernel_rfl) (by rintro rfl; kernel_rfl) ?_)
        refine EL.op (OPW.gT (k := 137) b38 (.slice (some ⟨bo, oo, none⟩) 2 co) rfl (by kernel_rfl) rfl (by kernel_rfl) (by rintro rfl; exact (load1 (b := g2) (i := 1) rfl (by kernel_rfl) (by kernel_rfl) (hO29.cell 2 rfl (by kernel_rfl)))) ?_)
        refine EL.op (OPW.gT (k := 138) b38 (.pointer (some ⟨bo, oo + 2, none⟩)) rfl (by kernel_rfl) rfl (by kernel_rfl) (by rintro rfl; kernel_rfl) ?_)
        refine EL.op (OPW.gT (k := 139) b38 (.agg #[.int .i64 am2, .slice B2 n2 c2]) rfl (by kernel_rfl) rfl (by kernel_rfl) (by rintro rfl; exact (loadN (b := bo) (i := oo + 2) rfl (by kernel_rfl) (by kernel_rfl) (by kernel_rfl) (hS29.range (rng_lt hT) (by simp) (rng_sub hT 2 (vs := [.int .i64 am2, .slice B2 n2 c2]) (by kernel_rfl))))) ?_)
        refine EL.op (OPW.gT (k := 140) b38 (.int .i64 client) rfl (by kernel_rfl) rfl (by kernel_rfl) (by rintro rfl; kernel_rfl) ?_)
        refine EL.op (OPW.gcT (k := 141) b38 (.bool (soleB o2 client)) rfl (by kernel_rfl) rfl (by kernel_rfl) (by rintro rfl; kernel_rfl) (by rintro rfl; exact lock_Sole _ o2 client _ (hout.below hS29.toBelow)) ?_)
        intro w39 hb39
        have hO39 := hO29.below hb39 (Nat.le_refl _)
        have hS39 := hS29.below (Nat.le_refl _) hb39
        refine EL.op (OPW.bool (k := 142) (b38 && (soleB o2 client)) rfl (by kernel_rfl) (by kernel_rfl) (pick_and rfl (by kernel_rfl) (by rintro rfl; kernel_rfl) (by kernel_rfl)) ?_)
        intro b40 hb40
        refine EL.nil ?_
        refine thenN ?_
        have q3 : b40 = (ownT k0 wt0 af0 q0 wt1 af1 wait peer client h0 h1 (soleB o2 client)) := by simp only [hb6, hb7, hb21, hb22, hb23, hb24, hb25, hb26, hb27, hb28, hb30, hb31, hb32, hb33, hb34, hb35, hb36, hb37, hb38, hb40, ownT, Bool.and_assoc, Bool.or_assoc]
        refine CW.cond b40 (by kernel_rfl) (fun hc8 => ?_) (fun hc8 => ?_)
        · skip
          subst hc8
          refine CW.seq ?_
          refine CW.region ?_
          refine EL.op (OPW.val (k := 143) (.int .i64 1) rfl (by kernel_rfl) (by kernel_rfl) (by kernel_rfl) ?_)
          refine EL.op (OPW.val (k := 4) (.int .i64 1) rfl (by kernel_rfl) (by kernel_rfl) (by kernel_rfl) ?_)
          refine EL.nil ?_
          refine thenN ?_
          refine CW.ret ?_
          refine blockR ?_
          refine thenR ?_
          refine thenR ?_
          refine blockR ?_
          refine thenR ?_
          refine bp_ret (v := .int .i64 1) (by kernel_rfl) ?_
          refine ⟨?_, hS39.toBelow⟩
          unfold ownI
          rw [← q1, ← q2, ← q3]
          rfl
        · skip
          subst hc8
          refine CW.skip ?_
          refine blockN ?_
          refine thenN ?_
          refine CW.region ?_
          refine EL.op (OPW.val (k := 144) (.int .i64 2) rfl (by kernel_rfl) (by kernel_rfl) (by kernel_rfl) ?_)
          refine EL.op (OPW.val (k := 64) (.int .i64 2) rfl (by kernel_rfl) (by kernel_rfl) (by kernel_rfl) ?_)
          refine EL.nil ?_
          refine roundN ?_
          refine CW.seq ?_
          refine CW.region ?_
          refine EL.op (OPW.val (k := 65) (.bool false) rfl (by kernel_rfl) (by kernel_rfl) (by kernel_rfl) ?_)
          refine EL.nil ?_
          refine thenN ?_
          refine CW.seq ?_
          refine CW.condF (by kernel_rfl) ?_
          refine CW.exit ?_
          refine thenE ?_
          refine thenE ?_
          refine blockE ?_
          refine thenN ?_
          refine CW.seq ?_
          refine CW.region ?_
          refine EL.op (OPW.val (k := 4) (.int .i64 (-1)) rfl (by kernel_rfl) (by kernel_rfl) (by kernel_rfl) ?_)
          refine EL.nil ?_
          refine thenN ?_
          refine CW.ret ?_
          refine bp_ret (v := .int .i64 (-1)) (by kernel_rfl) ?_
          refine ⟨?_, hS39.toBelow⟩
          unfold ownI
          rw [← q1, ← q2, ← q3]
          rfl
    refine EDo.cons rfl ?_ ?_
    · skip
      refine (OPW.new (k := 6) (ob := cellsO (cat [[.slice none 0 0], sumV (fun _ => 0), [.int .i64 0, .int .i64 0]]) 35) mkP rfl (by kernel_rfl) (by kernel_rfl) (by kernel_rfl) ?_)
      intro g41 w41 hg41 hw41
      have hO41 : Own w41 [(g41, (cat [[.slice none 0 0], sumV (fun _ => 0), [.int .i64 0, .int .i64 0]]), 35), (g2, (txC (.slice (some ⟨bi, oi, none⟩) 1 ci) (.slice (some ⟨bo, oo, none⟩) 2 co) kind tower channel amount r D nD d S nS sg), 45), (g1, (chnC id client peer s at_ cap wait window), 27)] := (hO9.alloc hg41 hw41).norm (by kernel_rfl)
      have hS41 := hS10.alloc (Nat.le_refl _) hw41
      have hn41 : w.heap.size ≤ g41 := hg41 ▸ hS10.size
      have hr42 : w2.drew.drew.heap.size ≤ g41 := hg41 ▸ hT3.size
      have hT43 : Sep w2.drew.drew.heap.size [] w2.drew.drew w41 := hT3.alloc (Nat.le_refl _) hw41
      refine ⟨hT43, ?_⟩
      refine ED.all [14] (by kernel_rfl) (by simp) ?_
      refine EDo.cons rfl ?_ EDo.nil
      refine (OPW.new (k := 5) (ob := cellsO (cat [[.slice none 0 0], sumV (fun _ => 0), [.int .i64 0, .int .i64 0]]) 35) mkP rfl (by kernel_rfl) (by kernel_rfl) (by kernel_rfl) ?_)
      intro g44 w44 hg44 hw44
      have hO44 : Own w44 [(g44, (cat [[.slice none 0 0], sumV (fun _ => 0), [.int .i64 0, .int .i64 0]]), 35), (g41, (cat [[.slice none 0 0], sumV (fun _ => 0), [.int .i64 0, .int .i64 0]]), 35), (g2, (txC (.slice (some ⟨bi, oi, none⟩) 1 ci) (.slice (some ⟨bo, oo, none⟩) 2 co) kind tower channel amount r D nD d S nS sg), 45), (g1, (chnC id client peer s at_ cap wait window), 27)] := (hO41.alloc hg44 hw44).norm (by kernel_rfl)
      have hS44 := hS41.alloc (Nat.le_refl _) hw44
      have hn44 : w.heap.size ≤ g44 := hg44 ▸ hS41.size
      have hr45 : w2.drew.drew.heap.size ≤ g44 := hg44 ▸ hT43.size
      have hT46 : Sep w2.drew.drew.heap.size [] w2.drew.drew w44 := hT43.alloc (Nat.le_refl _) hw44
      refine ⟨hT46, ?_⟩
      refine ED.all [16] (by kernel_rfl) (by simp) ?_
      refine EDo.cons rfl ?_ EDo.nil
      refine (OPW.store (b := g44) (i := 0) (cat [[.slice (some ⟨bk, ok, none⟩) 1 ck], sumV h0, [.int .i64 af0, .int .i64 wt0]]) rfl (by kernel_rfl) rfl (by kernel_rfl) (by kernel_rfl) (by kernel_rfl) (by kernel_rfl) (hO44.there 0 rfl (Nat.le_of_ble_eq_true (by kernel_rfl))) ?_)
      intro w47 hw47
      have hO47 : Own w47 [(g44, (cat [[.slice (some ⟨bk, ok, none⟩) 1 ck], sumV h0, [.int .i64 af0, .int .i64 wt0]]), 35), (g41, (cat [[.slice none 0 0], sumV (fun _ => 0), [.int .i64 0, .int .i64 0]]), 35), (g2, (txC (.slice (some ⟨bi, oi, none⟩) 1 ci) (.slice (some ⟨bo, oo, none⟩) 2 co) kind tower channel amount r D nD d S nS sg), 45), (g1, (chnC id client peer s at_ cap wait window), 27)] := (hO44.set' 0 (vs := (cat [[.slice (some ⟨bk, ok, none⟩) 1 ck], sumV h0, [.int .i64 af0, .int .i64 wt0]])) rfl (Nat.le_of_ble_eq_true (by kernel_rfl)) hw47).norm (by kernel_rfl)
      have hS47 := hS44.set' (.inl hn44) hw47
      have hT48 : Sep w2.drew.drew.heap.size [] w2.drew.drew w47 := hT46.set' (.inl hr45) hw47
      refine ⟨hT48, ?_⟩
      refine ED.all [17] (by kernel_rfl) (by simp) ?_
      refine EDo.cons rfl ?_ EDo.nil
      refine (OPW.store (b := g41) (i := 0) (cat [[.slice (some ⟨bq, oq, none⟩) 1 cq], sumV h1, [.int .i64 af1, .int .i64 wt1]]) rfl (by kernel_rfl) rfl (by kernel_rfl) (by kernel_rfl) (by kernel_rfl) (by kernel_rfl) (hO47.there 1 rfl (Nat.le_of_ble_eq_true (by kernel_rfl))) ?_)
      intro w49 hw49
      have hO49 : Own w49 [(g44, (cat [[.slice (some ⟨bk, ok, none⟩) 1 ck], sumV h0, [.int .i64 af0, .int .i64 wt0]]), 35), (g41, (cat [[.slice (some ⟨bq, oq, none⟩) 1 cq], sumV h1, [.int .i64 af1, .int .i64 wt1]]), 35), (g2, (txC (.slice (some ⟨bi, oi, none⟩) 1 ci) (.slice (some ⟨bo, oo, none⟩) 2 co) kind tower channel amount r D nD d S nS sg), 45), (g1, (chnC id client peer s at_ cap wait window), 27)] := (hO47.set' 1 (vs := (cat [[.slice (some ⟨bq, oq, none⟩) 1 cq], sumV h1, [.int .i64 af1, .int .i64 wt1]])) rfl (Nat.le_of_ble_eq_true (by kernel_rfl)) hw49).norm (by kernel_rfl)
      have hS49 := hS47.set' (.inl hn41) hw49
      have hT50 : Sep w2.drew.drew.heap.size [] w2.drew.drew w49 := hT48.set' (.inl hr42) hw49
      refine ⟨hT50, ?_⟩
      refine ED.done (by kernel_rfl) ?_
      refine thenN ?_
      refine CW.seq ?_
      refine CW.seq ?_
      refine CW.region ?_
      refine EL.op (OPW.val (k := 59) (.pointer (some ⟨g1, 1, none⟩)) rfl (by kernel_rfl) (by kernel_rfl) (by kernel_rfl) ?_)
      refine EL.op (OPW.val (k := 60) (.int .i64 client) rfl (by kernel_rfl) (by kernel_rfl) (load1 (b := g1) (i := 1) rfl (by kernel_rfl) (by kernel_rfl) (hO49.cell 3 rfl (by kernel_rfl))) ?_)
      refine EL.op (OPW.val (k := 61) (.pointer (some ⟨g1, 2, none⟩)) rfl (by kernel_rfl) (by kernel_rfl) (by kernel_rfl) ?_)
      refine EL.op (OPW.val (k := 62) (.int .i64 peer) rfl (by kernel_rfl) (by kernel_rfl) (load1 (b := g1) (i := 2) rfl (by kernel_rfl) (by kernel_rfl) (hO49.cell 3 rfl (by kernel_rfl))) ?_)
      refine EL.op (OPW.val (k := 63) (.agg #[.int .i64 client, .int .i64 peer]) rfl (by kernel_rfl) (by kernel_rfl) (by kernel_rfl) ?_)
      refine EL.op (OPW.val (k := 64) (.int .i64 0) rfl (by kernel_rfl) (by kernel_rfl) (by kernel_rfl) ?_)
      refine EL.nil ?_
      refine thenN ?_
      refine CW.block ?_
      refine CW.rounds 2 ?_
      refine CW.seq ?_
      refine CW.region ?_
      refine EL.op (OPW.val (k := 65) (.bool true) rfl (by kernel_rfl) (by kernel_rfl) (by kernel_rfl) ?_)
      refine EL.nil ?_
      refine thenN ?_
      refine CW.seq ?_
      refine CW.condT (by kernel_rfl) ?_
      refine CW.skip ?_
      refine thenN ?_
      refine CW.seq ?_
      refine CW.block ?_
      refine CW.seq ?_
      refine CW.region ?_
      refine EL.op (OPW.val (k := 66) (.int .i64 0) rfl (by kernel_rfl) (by kernel_rfl) (by kernel_rfl) ?_)
      refine EL.op (OPW.val (k := 67) (.int .i64 client) rfl (by kernel_rfl) (by kernel_rfl) (by kernel_rfl) ?_)
      refine EL.op (OPW.val (k := 7) (.int .i64 0) rfl (by kernel_rfl) (by kernel_rfl) (by kernel_rfl) ?_)
      refine EL.op (OPW.val (k := 8) (.int .i64 client) rfl (by kernel_rfl) (by kernel_rfl) (by kernel_rfl) ?_)
      refine EL.nil ?_
      refine thenN ?_
      refine CW.seq ?_
      refine CW.region ?_
      refine EL.op (OPW.val (k := 68) (.pointer (some ⟨g1, 1, none⟩)) rfl (by kernel_rfl) (by kernel_rfl) (by kernel_rfl) ?_)
      refine EL.op (OPW.val (k := 69) (.int .i64 client) rfl (by kernel_rfl) (by kernel_rfl) (load1 (b := g1) (i := 1) rfl (by kernel_rfl) (by kernel_rfl) (hO49.cell 3 rfl (by kernel_rfl))) ?_)
      refine EL.op (OPW.val (k := 70) (.pointer (some ⟨g1, 2, none⟩)) rfl (by kernel_rfl) (by kernel_rfl) (by kernel_rfl) ?_)
      refine EL.op (OPW.val (k := 71) (.int .i64 peer) rfl (by kernel_rfl) (by kernel_rfl) (load1 (b := g1) (i := 2) rfl (by kernel_rfl) (by kernel_rfl) (hO49.cell 3 rfl (by kernel_rfl))) ?_)
      refine EL.op (OPW.val (k := 72) (.int .i64 (IntKind.i64.wrap (client + peer))) rfl (by kernel_rfl) (by kernel_rfl) (by kernel_rfl) ?_)
      refine EL.op (OPW.val (k := 73) (.int .i64 client) rfl (by kernel_rfl) (by kernel_rfl) (by kernel_rfl) ?_)
      refine EL.op (OPW.val (k := 74) (.int .i64 peer) rfl (by kernel_rfl) (by kernel_rfl) (run_eq (v := .int .i64 (IntKind.i64.wrap ((IntKind.i64.wrap (client + peer)) - client))) (by kernel_rfl) (wr_l hpeer)) ?_)
      refine EL.op (OPW.val (k := 9) (.int .i64 peer) rfl (by kernel_rfl) (by kernel_rfl) (by kernel_rfl) ?_)
      refine EL.nil ?_
      refine thenN ?_
      refine CW.seq ?_
      refine CW.region ?_
      refine EL.opA (OPW.val (k := 75) (.pointer (some ⟨g44, 0, none⟩)) rfl (by kernel_rfl) (by kernel_rfl) (by kernel_rfl) ?_)
      refine EL.opA (OPW.val (k := 76) (.slice (some ⟨bk, ok, none⟩) 1 ck) rfl (by kernel_rfl) (by kernel_rfl) (load1 (b := g44) (i := 0) rfl (by kernel_rfl) (by kernel_rfl) (hO49.cell 0 rfl (by kernel_rfl))) ?_)
      refine EL.opA (OPW.val (k := 77) (.int .i64 1) rfl (by kernel_rfl) (by kernel_rfl) (by kernel_rfl) ?_)
      refine EL.opA (OPW.val (k := 78) (.bool true) rfl (by kernel_rfl) (by kernel_rfl) (by kernel_rfl) ?_)
      refine EL.opA (OPW.val (k := 79) (.bool true) rfl (by kernel_rfl) (by kernel_rfl) (by kernel_rfl) ?_)
      refine EL.opA (OPW.val (k := 80) (.pointer (some ⟨g44, 0, none⟩)) rfl (by kernel_rfl) (by kernel_rfl) (by kernel_rfl) ?_)
      refine EL.opA (OPW.val (k := 81) (.slice (some ⟨bk, ok, none⟩) 1 ck) rfl (by kernel_rfl) (by kernel_rfl) (load1 (b := g44) (i := 0) rfl (by kernel_rfl) (by kernel_rfl) (hO49.cell 0 rfl (by kernel_rfl))) ?_)
      refine EL.opA (OPW.val (k := 82) (.pointer (some ⟨bk, ok, none⟩)) rfl (by kernel_rfl) (by kernel_rfl) (by kernel_rfl) ?_)
      refine EL.opA (OPW.val (k := 83) (.int .i64 k0) rfl (by kernel_rfl) (by kernel_rfl) (load1 (b := bk) (i := ok) rfl (by kernel_rfl) (by kernel_rfl) (hS49.cell (rng_lt hK) (by simp) (hK 0 _ (by kernel_rfl)))) ?_)
      refine EL.opA (OPW.val (k := 84) (.int .i64 client) rfl (by kernel_rfl) (by kernel_rfl) (by kernel_rfl) ?_)
      refine EL.opA (OPW.bool (k := 85) (k0 == client) rfl (by kernel_rfl) (by kernel_rfl) (by kernel_rfl) ?_)
      intro b51 hb51
      refine EL.opA (OPW.val (k := 86) (.bool b51) rfl (by kernel_rfl) (by kernel_rfl) (by kernel_rfl) ?_)
      refine EL.opA (OPW.val (k := 87) (.bool b51) rfl (by kernel_rfl) (by kernel_rfl) (by kernel_rfl) ?_)
      refine EL.opA (OPW.gT (k := 88) b51 (.pointer (some ⟨g44, 34, none⟩)) rfl (by kernel_rfl) rfl (by kernel_rfl) (by rintro rfl; kernel_rfl) ?_)
      refine EL.opA (OPW.gT (k := 89) b51 (.int .i64 wt0) rfl (by kernel_rfl) rfl (by kernel_rfl) (by rintro rfl; exact (load1 (b := g44) (i := 34) rfl (by kernel_rfl) (by kernel_rfl) (hO49.cell 0 rfl (by kernel_rfl)))) ?_)
      refine EL.opA (OPW.gT (k := 90) b51 (.pointer (some ⟨g1, 37, none⟩)) rfl (by kernel_rfl) rfl (by kernel_rfl) (by rintro rfl; kernel_rfl) ?_)
      refine EL.opA (OPW.gT (k := 91) b51 (.int .i64 wait) rfl (by kernel_rfl) rfl (by kernel_rfl) (by rintro rfl; exact (load1 (b := g1) (i := 37) rfl (by kernel_rfl) (by kernel_rfl) (hO49.cell 3 rfl (by kernel_rfl)))) ?_)
      refine EL.opA (OPW.gT (k := 92) b51 (.bool (wt0 == wait)) rfl (by kernel_rfl) rfl (by kernel_rfl) (by rintro rfl; kernel_rfl) ?_)
      refine EL.opA (OPW.bool (k := 93) (b51 && (wt0 == wait)) rfl (by kernel_rfl) (by kernel_rfl) (pick_and rfl (by kernel_rfl) (by rintro rfl; kernel_rfl) (by kernel_rfl)) ?_)
      intro b52 hb52
      refine EL.opA (OPW.val (k := 94) (.bool b52) rfl (by kernel_rfl) (by kernel_rfl) (by kernel_rfl) ?_)
      refine EL.opA (OPW.gT (k := 95) b52 (.pointer (some ⟨g44, 33, none⟩)) rfl (by kernel_rfl) rfl (by kernel_rfl) (by rintro rfl; kernel_rfl) ?_)
      refine EL.opA (OPW.gT (k := 96) b52 (.int .i64 af0) rfl (by kernel_rfl) rfl (by kernel_rfl) (by rintro rfl; exact (load1 (b := g44) (i := 33) rfl (by kernel_rfl) (by kernel_rfl) (hO49.cell 0 rfl (by kernel_rfl)))) ?_)
      refine EL.opA (OPW.gT (k := 97) b52 (.bool (af0 == (0 : Int))) rfl (by kernel_rfl) rfl (by kernel_rfl) (by rintro rfl; kernel_rfl) ?_)
      refine EL.opA (OPW.bool (k := 98) (b52 && (af0 == (0 : Int))) rfl (by kernel_rfl) (by kernel_rfl) (pick_and rfl (by kernel_rfl) (by rintro rfl; kernel_rfl) (by kernel_rfl)) ?_)
      intro b53 hb53
      refine EL.opA (OPW.val (k := 99) (.bool b53) rfl (by kernel_rfl) (by kernel_rfl) (by kernel_rfl) ?_)
      refine EL.opA (OPW.gT (k := 100) b53 (.pointer (some ⟨g44, 1, none⟩)) rfl (by kernel_rfl) rfl (by kernel_rfl) (by rintro rfl; kernel_rfl) ?_)
      refine EL.opA (OPW.gT (k := 101) b53 (.agg (sumV h0).toArray) rfl (by kernel_rfl) rfl (by kernel_rfl) (by rintro rfl; exact (loadN (b := g44) (i := 1) rfl (by kernel_rfl) (by kernel_rfl) (by kernel_rfl) (hO49.range 0 (vs := sumV h0) rfl (by kernel_rfl)))) ?_)
      refine EL.opA (OPW.gT (k := 102) b53 (.agg (sumV (fun _ => 0)).toArray) rfl (by kernel_rfl) rfl (by kernel_rfl) (by rintro rfl; kernel_rfl) ?_)
      refine EL.opA (OPW.gT (k := 103) b53 (.bool ((sumEq h0 (fun _ => 0)))) rfl (by kernel_rfl) rfl (by kernel_rfl) (by rintro rfl; exact (eq_run rfl (by kernel_rfl) (by kernel_rfl) (by kernel_rfl) (by kernel_rfl))) ?_)
      refine EL.opA (OPW.bool (k := 104) (b53 && ((sumEq h0 (fun _ => 0)))) rfl (by kernel_rfl) (by kernel_rfl) (pick_and rfl (by kernel_rfl) (by rintro rfl; kernel_rfl) (by kernel_rfl)) ?_)
      intro b54 hb54
      refine EL.opA (OPW.val (k := 105) (.bool b54) rfl (by kernel_rfl) (by kernel_rfl) (by kernel_rfl) ?_)
      refine EL.opA (OPW.gT (k := 106) b54 (.pointer (some ⟨g41, 0, none⟩)) rfl (by kernel_rfl) rfl (by kernel_rfl) (by rintro rfl; kernel_rfl) ?_)
      refine EL.opA (OPW.gT (k := 107) b54 (.slice (some ⟨bq, oq, none⟩) 1 cq) rfl (by kernel_rfl) rfl (by kernel_rfl) (by rintro rfl; exact (load1 (b := g41) (i := 0) rfl (by kernel_rfl) (by kernel_rfl) (hO49.cell 1 rfl (by kernel_rfl)))) ?_)
      refine EL.opA (OPW.gT (k := 108) b54 (.int .i64 1) rfl (by kernel_rfl) rfl (by kernel_rfl) (by rintro rfl; kernel_rfl) ?_)
      refine EL.nilA ?_
      refine EL.op (OPW.gT (k := 109) b54 (.bool true) rfl (by kernel_rfl) rfl (by kernel_rfl) (by rintro rfl; kernel_rfl) ?_)
      refine EL.op (OPW.val (k := 110) (.bool b54) rfl (by kernel_rfl) (by kernel_rfl) (run_eq (v := .bool (bif b54 then true else false)) (pick_run (b := b54) (p := true) (q := false) rfl (by kernel_rfl) (by rintro rfl; kernel_rfl) (fun _ => (by kernel_rfl))) (by cases b54 <;> rfl)) ?_)
      refine EL.op (OPW.val (k := 111) (.bool b54) rfl (by kernel_rfl) (by kernel_rfl) (by kernel_rfl) ?_)
      refine EL.op (OPW.gT (k := 112) b54 (.pointer (some ⟨g41, 0, none⟩)) rfl (by kernel_rfl) rfl (by kernel_rfl) (by rintro rfl; kernel_rfl) ?_)
      refine EL.op (OPW.gT (k := 113) b54 (.slice (some ⟨bq, oq, none⟩) 1 cq) rfl (by kernel_rfl) rfl (by kernel_rfl) (by rintro rfl; exact (load1 (b := g41) (i := 0) rfl (by kernel_rfl) (by kernel_rfl) (hO49.cell 1 rfl (by kernel_rfl)))) ?_)
      refine EL.op (OPW.gT (k := 114) b54 (.pointer (some ⟨bq, oq, none⟩)) rfl (by kernel_rfl) rfl (by kernel_rfl) (by rintro rfl; kernel_rfl) ?_)
      refine EL.op (OPW.gT (k := 115) b54 (.int .i64 q0) rfl (by kernel_rfl) rfl (by kernel_rfl) (by rintro rfl; exact (load1 (b := bq) (i := oq) rfl (by kernel_rfl) (by kernel_rfl) (hS49.cell (rng_lt hQ) (by simp) (hQ 0 _ (by kernel_rfl))))) ?_)
      refine EL.op (OPW.gT (k := 116) b54 (.int .i64 peer) rfl (by kernel_rfl) rfl (by kernel_rfl) (by rintro rfl; kernel_rfl) ?_)
      refine EL.op (OPW.gT (k := 117) b54 (.bool (q0 == peer)) rfl (by kernel_rfl) rfl (by kernel_rfl) (by rintro rfl; kernel_rfl) ?_)
      refine EL.op (OPW.bool (k := 118) (b54 && (q0 == peer)) rfl (by kernel_rfl) (by kernel_rfl) (pick_and rfl (by kernel_rfl) (by rintro rfl; kernel_rfl) (by kernel_rfl)) ?_)
      intro b55 hb55
      refine EL.op (OPW.val (k := 119) (.bool b55) rfl (by kernel_rfl) (by kernel_rfl) (by kernel_rfl) ?_)
      refine EL.op (OPW.gT (k := 120) b55 (.pointer (some ⟨g41, 34, none⟩)) rfl (by kernel_rfl) rfl (by kernel_rfl) (by rintro rfl; kernel_rfl) ?_)
      refine EL.op (OPW.gT (k := 121) b55 (.int .i64 wt1) rfl (by kernel_rfl) rfl (by kernel_rfl) (by rintro rfl; exact (load1 (b := g41) (i := 34) rfl (by kernel_rfl) (by kernel_rfl) (hO49.cell 1 rfl (by kernel_rfl)))) ?_)
      refine EL.op (OPW.gT (k := 122) b55 (.bool (wt1 == (0 : Int))) rfl (by kernel_rfl) rfl (by kernel_rfl) (by rintro rfl; kernel_rfl) ?_)
      refine EL.op (OPW.bool (k := 123) (b55 && (wt1 == (0 : Int))) rfl (by kernel_rfl) (by kernel_rfl) (pick_and rfl (by kernel_rfl) (by rintro rfl; kernel_rfl) (by kernel_rfl)) ?_)
      intro b56 hb56
      refine EL.op (OPW.val (k := 124) (.bool b56) rfl (by kernel_rfl) (by kernel_rfl) (by kernel_rfl) ?_)
      refine EL.op (OPW.gT (k := 125) b56 (.pointer (some ⟨g41, 33, none⟩)) rfl (by kernel_rfl) rfl (by kernel_rfl) (by rintro rfl; kernel_rfl) ?_)
      refine EL.op (OPW.gT (k := 126) b56 (.int .i64 af1) rfl (by kernel_rfl) rfl (by kernel_rfl) (by rintro rfl; exact (load1 (b := g41) (i := 33) rfl (by kernel_rfl) (by kernel_rfl) (hO49.cell 1 rfl (by kernel_rfl)))) ?_)
      refine EL.op (OPW.gT (k := 127) b56 (.bool (af1 == (0 : Int))) rfl (by kernel_rfl) rfl (by kernel_rfl) (by rintro rfl; kernel_rfl) ?_)
      refine EL.op (OPW.bool (k := 128) (b56 && (af1 == (0 : Int))) rfl (by kernel_rfl) (by kernel_rfl) (pick_and rfl (by kernel_rfl) (by rintro rfl; kernel_rfl) (by kernel_rfl)) ?_)
      intro b57 hb57
      refine EL.op (OPW.val (k := 129) (.bool b57) rfl (by kernel_rfl) (by kernel_rfl) (by kernel_rfl) ?_)
      refine EL.op (OPW.gT (k := 130) b57 (.pointer (some ⟨g41, 1, none⟩)) rfl (by kernel_rfl) rfl (by kernel_rfl) (by rintro rfl; kernel_rfl) ?_)
      refine EL.op (OPW.gT (k := 131) b57 (.agg (sumV h1).toArray) rfl (by kernel_rfl) rfl (by kernel_rfl) (by rintro rfl; exact (loadN (b := g41) (i := 1) rfl (by kernel_rfl) (by kernel_rfl) (by kernel_rfl) (hO49.range 1 (vs := sumV h1) rfl (by kernel_rfl)))) ?_)
      refine EL.op (OPW.gT (k := 132) b57 (.agg (sumV (fun _ => 0)).toArray) rfl (by kernel_rfl) rfl (by kernel_rfl) (by rintro rfl; kernel_rfl) ?_)
      refine EL.op (OPW.gT (k := 133) b57 (.bool (!((sumEq h1 (fun _ => 0))))) rfl (by kernel_rfl) rfl (by kernel_rfl) (by rintro rfl; exact (neq_run (b := (sumEq h1 (fun _ => 0))) rfl (by kernel_rfl) (by kernel_rfl) (by kernel_rfl) (by kernel_rfl))) ?_)
      refine EL.op (OPW.bool (k := 134) (b57 && (!((sumEq h1 (fun _ => 0))))) rfl (by kernel_rfl) (by kernel_rfl) (pick_and rfl (by kernel_rfl) (by rintro rfl; kernel_rfl) (by kernel_rfl)) ?_)
      intro b58 hb58
      refine EL.op (OPW.val (k := 135) (.bool b58) rfl (by kernel_rfl) (by kernel_rfl) (by kernel_rfl) ?_)
      refine EL.op (OPW.gT (k := 136) b58 (.pointer (some ⟨g2, 1, none⟩)) rfl (by kernel_rfl) rfl (by kernel_rfl) (by rintro rfl; kernel_rfl) ?_)
      refine EL.op (OPW.gT (k := 137) b58 (.slice (some ⟨bo, oo, none⟩) 2 co) rfl (by kernel_rfl) rfl (by kernel_rfl) (by rintro rfl; exact (load1 (b := g2) (i := 1) rfl (by kernel_rfl) (by kernel_rfl) (hO49.cell 2 rfl (by kernel_rfl)))) ?_)
      refine EL.op (OPW.gT (k := 138) b58 (.pointer (some ⟨bo, oo + 2, none⟩)) rfl (by kernel_rfl) rfl (by kernel_rfl) (by rintro rfl; kernel_rfl) ?_)
      refine EL.op (OPW.gT (k := 139) b58 (.agg #[.int .i64 am2, .slice B2 n2 c2]) rfl (by kernel_rfl) rfl (by kernel_rfl) (by rintro rfl; exact (loadN (b := bo) (i := oo + 2) rfl (by kernel_rfl) (by kernel_rfl) (by kernel_rfl) (hS49.range (rng_lt hT) (by simp) (rng_sub hT 2 (vs := [.int .i64 am2, .slice B2 n2 c2]) (by kernel_rfl))))) ?_)
      refine EL.op (OPW.gT (k := 140) b58 (.int .i64 peer) rfl (by kernel_rfl) rfl (by kernel_rfl) (by rintro rfl; kernel_rfl) ?_)
      refine EL.op (OPW.gcT (k := 141) b58 (.bool (soleB o2 peer)) rfl (by kernel_rfl) rfl (by kernel_rfl) (by rintro rfl; kernel_rfl) (by rintro rfl; exact lock_Sole _ o2 peer _ (hout.below hS49.toBelow)) ?_)
      intro w59 hb59
      have hO59 := hO49.below hb59 (Nat.le_refl _)
      have hS59 := hS49.below (Nat.le_refl _) hb59
      refine EL.op (OPW.bool (k := 142) (b58 && (soleB o2 peer)) rfl (by kernel_rfl) (by kernel_rfl) (pick_and rfl (by kernel_rfl) (by rintro rfl; kernel_rfl) (by kernel_rfl)) ?_)
      intro b60 hb60
      refine EL.nil ?_
      refine thenN ?_
      have q2 : b60 = (ownT k0 wt0 af0 q0 wt1 af1 wait client peer h0 h1 (soleB o2 peer)) := by simp only [hb6, hb7, hb51, hb52, hb53, hb54, hb55, hb56, hb57, hb58, hb60, ownT, Bool.and_assoc, Bool.or_assoc]
      refine CW.cond b60 (by kernel_rfl) (fun hc8 => ?_) (fun hc8 => ?_)
      · skip
        subst hc8
        refine CW.seq ?_
        refine CW.region ?_
        refine EL.op (OPW.val (k := 143) (.int .i64 0) rfl (by kernel_rfl) (by kernel_rfl) (by kernel_rfl) ?_)
        refine EL.op (OPW.val (k := 4) (.int .i64 0) rfl (by kernel_rfl) (by kernel_rfl) (by kernel_rfl) ?_)
        refine EL.nil ?_
        refine thenN ?_
        refine CW.ret ?_
        refine blockR ?_
        refine thenR ?_
        refine thenR ?_
        refine blockR ?_
        refine thenR ?_
        refine bp_ret (v := .int .i64 0) (by kernel_rfl) ?_
        refine ⟨?_, hS59.toBelow⟩
        unfold ownI
        rw [← q1, ← q2]
        rfl
      · skip
        subst hc8
        refine CW.skip ?_
        refine blockN ?_
        refine thenN ?_
        refine CW.region ?_
        refine EL.op (OPW.val (k := 144) (.int .i64 1) rfl (by kernel_rfl) (by kernel_rfl) (by kernel_rfl) ?_)
        refine EL.op (OPW.val (k := 64) (.int .i64 1) rfl (by kernel_rfl) (by kernel_rfl) (by kernel_rfl) ?_)
        refine EL.nil ?_
        refine roundN ?_
        refine CW.seq ?_
        refine CW.region ?_
        refine EL.op (OPW.val (k := 65) (.bool true) rfl (by kernel_rfl) (by kernel_rfl) (by kernel_rfl) ?_)
        refine EL.nil ?_
        refine thenN ?_
        refine CW.seq ?_
        refine CW.condT (by kernel_rfl) ?_
        refine CW.skip ?_
        refine thenN ?_
        refine CW.seq ?_
        refine CW.block ?_
        refine CW.seq ?_
        refine CW.region ?_
        refine EL.op (OPW.val (k := 66) (.int .i64 1) rfl (by kernel_rfl) (by kernel_rfl) (by kernel_rfl) ?_)
        refine EL.op (OPW.val (k := 67) (.int .i64 peer) rfl (by kernel_rfl) (by kernel_rfl) (by kernel_rfl) ?_)
        refine EL.op (OPW.val (k := 7) (.int .i64 1) rfl (by kernel_rfl) (by kernel_rfl) (by kernel_rfl) ?_)
        refine EL.op (OPW.val (k := 8) (.int .i64 peer) rfl (by kernel_rfl) (by kernel_rfl) (by kernel_rfl) ?_)
        refine EL.nil ?_
        refine thenN ?_
        refine CW.seq ?_
        refine CW.region ?_
        refine EL.op (OPW.val (k := 68) (.pointer (some ⟨g1, 1, none⟩)) rfl (by kernel_rfl) (by kernel_rfl) (by kernel_rfl) ?_)
        refine EL.op (OPW.val (k := 69) (.int .i64 client) rfl (by kernel_rfl) (by kernel_rfl) (load1 (b := g1) (i := 1) rfl (by kernel_rfl) (by kernel_rfl) (hO59.cell 3 rfl (by kernel_rfl))) ?_)
        refine EL.op (OPW.val (k := 70) (.pointer (some ⟨g1, 2, none⟩)) rfl (by kernel_rfl) (by kernel_rfl) (by kernel_rfl) ?_)
        refine EL.op (OPW.val (k := 71) (.int .i64 peer) rfl (by kernel_rfl) (by kernel_rfl) (load1 (b := g1) (i := 2) rfl (by kernel_rfl) (by kernel_rfl) (hO59.cell 3 rfl (by kernel_rfl))) ?_)
        refine EL.op (OPW.val (k := 72) (.int .i64 (IntKind.i64.wrap (client + peer))) rfl (by kernel_rfl) (by kernel_rfl) (by kernel_rfl) ?_)
        refine EL.op (OPW.val (k := 73) (.int .i64 peer) rfl (by kernel_rfl) (by kernel_rfl) (by kernel_rfl) ?_)
        refine EL.op (OPW.val (k := 74) (.int .i64 client) rfl (by kernel_rfl) (by kernel_rfl) (run_eq (v := .int .i64 (IntKind.i64.wrap ((IntKind.i64.wrap (client + peer)) - peer))) (by kernel_rfl) (wr_r hclient)) ?_)
        refine EL.op (OPW.val (k := 9) (.int .i64 client) rfl (by kernel_rfl) (by kernel_rfl) (by kernel_rfl) ?_)
        refine EL.nil ?_
        refine thenN ?_
        refine CW.seq ?_
        refine CW.region ?_
        refine EL.opA (OPW.val (k := 75) (.pointer (some ⟨g44, 0, none⟩)) rfl (by kernel_rfl) (by kernel_rfl) (by kernel_rfl) ?_)
        refine EL.opA (OPW.val (k := 76) (.slice (some ⟨bk, ok, none⟩) 1 ck) rfl (by kernel_rfl) (by kernel_rfl) (load1 (b := g44) (i := 0) rfl (by kernel_rfl) (by kernel_rfl) (hO59.cell 0 rfl (by kernel_rfl))) ?_)
        refine EL.opA (OPW.val (k := 77) (.int .i64 1) rfl (by kernel_rfl) (by kernel_rfl) (by kernel_rfl) ?_)
        refine EL.opA (OPW.val (k := 78) (.bool true) rfl (by kernel_rfl) (by kernel_rfl) (by kernel_rfl) ?_)
        refine EL.opA (OPW.val (k := 79) (.bool true) rfl (by kernel_rfl) (by kernel_rfl) (by kernel_rfl) ?_)
        refine EL.opA (OPW.val (k := 80) (.pointer (some ⟨g44, 0, none⟩)) rfl (by kernel_rfl) (by kernel_rfl) (by kernel_rfl) ?_)
        refine EL.opA (OPW.val (k := 81) (.slice (some ⟨bk, ok, none⟩) 1 ck) rfl (by kernel_rfl) (by kernel_rfl) (load1 (b := g44) (i := 0) rfl (by kernel_rfl) (by kernel_rfl) (hO59.cell 0 rfl (by kernel_rfl))) ?_)
        refine EL.opA (OPW.val (k := 82) (.pointer (some ⟨bk, ok, none⟩)) rfl (by kernel_rfl) (by kernel_rfl) (by kernel_rfl) ?_)
        refine EL.opA (OPW.val (k := 83) (.int .i64 k0) rfl (by kernel_rfl) (by kernel_rfl) (load1 (b := bk) (i := ok) rfl (by kernel_rfl) (by kernel_rfl) (hS59.cell (rng_lt hK) (by simp) (hK 0 _ (by kernel_rfl)))) ?_)
        refine EL.opA (OPW.val (k := 84) (.int .i64 peer) rfl (by kernel_rfl) (by kernel_rfl) (by kernel_rfl) ?_)
        refine EL.opA (OPW.bool (k := 85) (k0 == peer) rfl (by kernel_rfl) (by kernel_rfl) (by kernel_rfl) ?_)
        intro b61 hb61
        refine EL.opA (OPW.val (k := 86) (.bool b61) rfl (by kernel_rfl) (by kernel_rfl) (by kernel_rfl) ?_)
        refine EL.opA (OPW.val (k := 87) (.bool b61) rfl (by kernel_rfl) (by kernel_rfl) (by kernel_rfl) ?_)
        refine EL.opA (OPW.gT (k := 88) b61 (.pointer (some ⟨g44, 34, none⟩)) rfl (by kernel_rfl) rfl (by kernel_rfl) (by rintro rfl; kernel_rfl) ?_)
        refine EL.opA (OPW.gT (k := 89) b61 (.int .i64 wt0) rfl (by kernel_rfl) rfl (by kernel_rfl) (by rintro rfl; exact (load1 (b := g44) (i := 34) rfl (by kernel_rfl) (by kernel_rfl) (hO59.cell 0 rfl (by kernel_rfl)))) ?_)
        refine EL.opA (OPW.gT (k := 90) b61 (.pointer (some ⟨g1, 37, none⟩)) rfl (by kernel_rfl) rfl (by kernel_rfl) (by rintro rfl; kernel_rfl) ?_)
        refine EL.opA (OPW.gT (k := 91) b61 (.int .i64 wait) rfl (by kernel_rfl) rfl (by kernel_rfl) (by rintro rfl; exact (load1 (b := g1) (i := 37) rfl (by kernel_rfl) (by kernel_rfl) (hO59.cell 3 rfl (by kernel_rfl)))) ?_)
        refine EL.opA (OPW.gT (k := 92) b61 (.bool (wt0 == wait)) rfl (by kernel_rfl) rfl (by kernel_rfl) (by rintro rfl; kernel_rfl) ?_)
        refine EL.opA (OPW.bool (k := 93) (b61 && (wt0 == wait)) rfl (by kernel_rfl) (by kernel_rfl) (pick_and rfl (by kernel_rfl) (by rintro rfl; kernel_rfl) (by kernel_rfl)) ?_)
        intro b62 hb62
        refine EL.opA (OPW.val (k := 94) (.bool b62) rfl (by kernel_rfl) (by kernel_rfl) (by kernel_rfl) ?_)
        refine EL.opA (OPW.gT (k := 95) b62 (.pointer (some ⟨g44, 33, none⟩)) rfl (by kernel_rfl) rfl (by kernel_rfl) (by rintro rfl; kernel_rfl) ?_)
        refine EL.opA (OPW.gT (k := 96) b62 (.int .i64 af0) rfl (by kernel_rfl) rfl (by kernel_rfl) (by rintro rfl; exact (load1 (b := g44) (i := 33) rfl (by kernel_rfl) (by kernel_rfl) (hO59.cell 0 rfl (by kernel_rfl)))) ?_)
        refine EL.opA (OPW.gT (k := 97) b62 (.bool (af0 == (0 : Int))) rfl (by kernel_rfl) rfl (by kernel_rfl) (by rintro rfl; kernel_rfl) ?_)
        refine EL.opA (OPW.bool (k := 98) (b62 && (af0 == (0 : Int))) rfl (by kernel_rfl) (by kernel_rfl) (pick_and rfl (by kernel_rfl) (by rintro rfl; kernel_rfl) (by kernel_rfl)) ?_)
        intro b63 hb63
        refine EL.opA (OPW.val (k := 99) (.bool b63) rfl (by kernel_rfl) (by kernel_rfl) (by kernel_rfl) ?_)
        refine EL.opA (OPW.gT (k := 100) b63 (.pointer (some ⟨g44, 1, none⟩)) rfl (by kernel_rfl) rfl (by kernel_rfl) (by rintro rfl; kernel_rfl) ?_)
        refine EL.opA (OPW.gT (k := 101) b63 (.agg (sumV h0).toArray) rfl (by kernel_rfl) rfl (by kernel_rfl) (by rintro rfl; exact (loadN (b := g44) (i := 1) rfl (by kernel_rfl) (by kernel_rfl) (by kernel_rfl) (hO59.range 0 (vs := sumV h0) rfl (by kernel_rfl)))) ?_)
        refine EL.opA (OPW.gT (k := 102) b63 (.agg (sumV (fun _ => 0)).toArray) rfl (by kernel_rfl) rfl (by kernel_rfl) (by rintro rfl; kernel_rfl) ?_)
        refine EL.opA (OPW.gT (k := 103) b63 (.bool ((sumEq h0 (fun _ => 0)))) rfl (by kernel_rfl) rfl (by kernel_rfl) (by rintro rfl; exact (eq_run rfl (by kernel_rfl) (by kernel_rfl) (by kernel_rfl) (by kernel_rfl))) ?_)
        refine EL.opA (OPW.bool (k := 104) (b63 && ((sumEq h0 (fun _ => 0)))) rfl (by kernel_rfl) (by kernel_rfl) (pick_and rfl (by kernel_rfl) (by rintro rfl; kernel_rfl) (by kernel_rfl)) ?_)
        intro b64 hb64
        refine EL.opA (OPW.val (k := 105) (.bool b64) rfl (by kernel_rfl) (by kernel_rfl) (by kernel_rfl) ?_)
        refine EL.opA (OPW.gT (k := 106) b64 (.pointer (some ⟨g41, 0, none⟩)) rfl (by kernel_rfl) rfl (by kernel_rfl) (by rintro rfl; kernel_rfl) ?_)
        refine EL.opA (OPW.gT (k := 107) b64 (.slice (some ⟨bq, oq, none⟩) 1 cq) rfl (by kernel_rfl) rfl (by kernel_rfl) (by rintro rfl; exact (load1 (b := g41) (i := 0) rfl (by kernel_rfl) (by kernel_rfl) (hO59.cell 1 rfl (by kernel_rfl)))) ?_)
        refine EL.opA (OPW.gT (k := 108) b64 (.int .i64 1) rfl (by kernel_rfl) rfl (by kernel_rfl) (by rintro rfl; kernel_rfl) ?_)
        refine EL.nilA ?_
        refine EL.op (OPW.gT (k := 109) b64 (.bool true) rfl (by kernel_rfl) rfl (by kernel_rfl) (by rintro rfl; kernel_rfl) ?_)
        refine EL.op (OPW.val (k := 110) (.bool b64) rfl (by kernel_rfl) (by kernel_rfl) (run_eq (v := .bool (bif b64 then true else false)) (pick_run (b := b64) (p := true) (q := false) rfl (by kernel_rfl) (by rintro rfl; kernel_rfl) (fun _ => (by kernel_rfl))) (by cases b64 <;> rfl)) ?_)
        refine EL.op (OPW.val (k := 111) (.bool b64) rfl (by kernel_rfl) (by kernel_rfl) (by kernel_rfl) ?_)
        refine EL.op (OPW.gT (k := 112) b64 (.pointer (some ⟨g41, 0, none⟩)) rfl (by kernel_rfl) rfl (by kernel_rfl) (by rintro rfl; kernel_rfl) ?_)
        refine EL.op (OPW.gT (k := 113) b64 (.slice (some ⟨bq, oq, none⟩) 1 cq) rfl (by kernel_rfl) rfl (by kernel_rfl) (by rintro rfl; exact (load1 (b := g41) (i := 0) rfl (by kernel_rfl) (by kernel_rfl) (hO59.cell 1 rfl (by kernel_rfl)))) ?_)
        refine EL.op (OPW.gT (k := 114) b64 (.pointer (some ⟨bq, oq, none⟩)) rfl (by kernel_rfl) rfl (by kernel_rfl) (by rintro rfl; kernel_rfl) ?_)
        refine EL.op (OPW.gT (k := 115) b64 (.int .i64 q0) rfl (by kernel_rfl) rfl (by kernel_rfl) (by rintro rfl; exact (load1 (b := bq) (i := oq) rfl (by kernel_rfl) (by kernel_rfl) (hS59.cell (rng_lt hQ) (by simp) (hQ 0 _ (by kernel_rfl))))) ?_)
        refine EL.op (OPW.gT (k := 116) b64 (.int .i64 client) rfl (by kernel_rfl) rfl (by kernel_rfl) (by rintro rfl; kernel_rfl) ?_)
        refine EL.op (OPW.gT (k := 117) b64 (.bool (q0 == client)) rfl (by kernel_rfl) rfl (by kernel_rfl) (by rintro rfl; kernel_rfl) ?_)
        refine EL.op (OPW.bool (k := 118) (b64 && (q0 == client)) rfl (by kernel_rfl) (by kernel_rfl) (pick_and rfl (by kernel_rfl) (by rintro rfl; kernel_rfl) (by kernel_rfl)) ?_)
        intro b65 hb65
        refine EL.op (OPW.val (k := 119) (.bool b65) rfl (by kernel_rfl) (by kernel_rfl) (by kernel_rfl) ?_)
        refine EL.op (OPW.gT (k := 120) b65 (.pointer (some ⟨g41, 34, none⟩)) rfl (by kernel_rfl) rfl (by kernel_rfl) (by rintro rfl; kernel_rfl) ?_)
        refine EL.op (OPW.gT (k := 121) b65 (.int .i64 wt1) rfl (by kernel_rfl) rfl (by kernel_rfl) (by rintro rfl; exact (load1 (b := g41) (i := 34) rfl (by kernel_rfl) (by kernel_rfl) (hO59.cell 1 rfl (by kernel_rfl)))) ?_)
        refine EL.op (OPW.gT (k := 122) b65 (.bool (wt1 == (0 : Int))) rfl (by kernel_rfl) rfl (by kernel_rfl) (by rintro rfl; kernel_rfl) ?_)
        refine EL.op (OPW.bool (k := 123) (b65 && (wt1 == (0 : Int))) rfl (by kernel_rfl) (by kernel_rfl) (pick_and rfl (by kernel_rfl) (by rintro rfl; kernel_rfl) (by kernel_rfl)) ?_)
        intro b66 hb66
        refine EL.op (OPW.val (k := 124) (.bool b66) rfl (by kernel_rfl) (by kernel_rfl) (by kernel_rfl) ?_)
        refine EL.op (OPW.gT (k := 125) b66 (.pointer (some ⟨g41, 33, none⟩)) rfl (by kernel_rfl) rfl (by kernel_rfl) (by rintro rfl; kernel_rfl) ?_)
        refine EL.op (OPW.gT (k := 126) b66 (.int .i64 af1) rfl (by kernel_rfl) rfl (by kernel_rfl) (by rintro rfl; exact (load1 (b := g41) (i := 33) rfl (by kernel_rfl) (by kernel_rfl) (hO59.cell 1 rfl (by kernel_rfl)))) ?_)
        refine EL.op (OPW.gT (k := 127) b66 (.bool (af1 == (0 : Int))) rfl (by kernel_rfl) rfl (by kernel_rfl) (by rintro rfl; kernel_rfl) ?_)
        refine EL.op (OPW.bool (k := 128) (b66 && (af1 == (0 : Int))) rfl (by kernel_rfl) (by kernel_rfl) (pick_and rfl (by kernel_rfl) (by rintro rfl; kernel_rfl) (by kernel_rfl)) ?_)
        intro b67 hb67
        refine EL.op (OPW.val (k := 129) (.bool b67) rfl (by kernel_rfl) (by kernel_rfl) (by kernel_rfl) ?_)
        refine EL.op (OPW.gT (k := 130) b67 (.pointer (some ⟨g41, 1, none⟩)) rfl (by kernel_rfl) rfl (by kernel_rfl) (by rintro rfl; kernel_rfl) ?_)
        refine EL.op (OPW.gT (k := 131) b67 (.agg (sumV h1).toArray) rfl (by kernel_rfl) rfl (by kernel_rfl) (by rintro rfl; exact (loadN (b := g41) (i := 1) rfl (by kernel_rfl) (by kernel_rfl) (by kernel_rfl) (hO59.range 1 (vs := sumV h1) rfl (by kernel_rfl)))) ?_)
        refine EL.op (OPW.gT (k := 132) b67 (.agg (sumV (fun _ => 0)).toArray) rfl (by kernel_rfl) rfl (by kernel_rfl) (by rintro rfl; kernel_rfl) ?_)
        refine EL.op (OPW.gT (k := 133) b67 (.bool (!((sumEq h1 (fun _ => 0))))) rfl (by kernel_rfl) rfl (by kernel_rfl) (by rintro rfl; exact (neq_run (b := (sumEq h1 (fun _ => 0))) rfl (by kernel_rfl) (by kernel_rfl) (by kernel_rfl) (by kernel_rfl))) ?_)
        refine EL.op (OPW.bool (k := 134) (b67 && (!((sumEq h1 (fun _ => 0))))) rfl (by kernel_rfl) (by kernel_rfl) (pick_and rfl (by kernel_rfl) (by rintro rfl; kernel_rfl) (by kernel_rfl)) ?_)
        intro b68 hb68
        refine EL.op (OPW.val (k := 135) (.bool b68) rfl (by kernel_rfl) (by kernel_rfl) (by kernel_rfl) ?_)
        refine EL.op (OPW.gT (k := 136) b68 (.pointer (some ⟨g2, 1, none⟩)) rfl (by kernel_rfl) rfl (by kernel_rfl) (by rintro rfl; kernel_rfl) ?_)
        refine EL.op (OPW.gT (k := 137) b68 (.slice (some ⟨bo, oo, none⟩) 2 co) rfl (by kernel_rfl) rfl (by kernel_rfl) (by rintro rfl; exact (load1 (b := g2) (i := 1) rfl (by kernel_rfl) (by kernel_rfl) (hO59.cell 2 rfl (by kernel_rfl)))) ?_)
        refine EL.op (OPW.gT (k := 138) b68 (.pointer (some ⟨bo, oo + 2, none⟩)) rfl (by kernel_rfl) rfl (by kernel_rfl) (by rintro rfl; kernel_rfl) ?_)
        refine EL.op (OPW.gT (k := 139) b68 (.agg #[.int .i64 am2, .slice B2 n2 c2]) rfl (by kernel_rfl) rfl (by kernel_rfl) (by rintro rfl; exact (loadN (b := bo) (i := oo + 2) rfl (by kernel_rfl) (by kernel_rfl) (by kernel_rfl) (hS59.range (rng_lt hT) (by simp) (rng_sub hT 2 (vs := [.int .i64 am2, .slice B2 n2 c2]) (by kernel_rfl))))) ?_)
        refine EL.op (OPW.gT (k := 140) b68 (.int .i64 client) rfl (by kernel_rfl) rfl (by kernel_rfl) (by rintro rfl; kernel_rfl) ?_)
        refine EL.op (OPW.gcT (k := 141) b68 (.bool (soleB o2 client)) rfl (by kernel_rfl) rfl (by kernel_rfl) (by rintro rfl; kernel_rfl) (by rintro rfl; exact lock_Sole _ o2 client _ (hout.below hS59.toBelow)) ?_)
        intro w69 hb69
        have hO69 := hO59.below hb69 (Nat.le_refl _)
        have hS69 := hS59.below (Nat.le_refl _) hb69
        refine EL.op (OPW.bool (k := 142) (b68 && (soleB o2 client)) rfl (by kernel_rfl) (by kernel_rfl) (pick_and rfl (by kernel_rfl) (by rintro rfl; kernel_rfl) (by kernel_rfl)) ?_)
        intro b70 hb70
        refine EL.nil ?_
        refine thenN ?_
        have q3 : b70 = (ownT k0 wt0 af0 q0 wt1 af1 wait peer client h0 h1 (soleB o2 client)) := by simp only [hb6, hb7, hb51, hb52, hb53, hb54, hb55, hb56, hb57, hb58, hb60, hb61, hb62, hb63, hb64, hb65, hb66, hb67, hb68, hb70, ownT, Bool.and_assoc, Bool.or_assoc]
        refine CW.cond b70 (by kernel_rfl) (fun hc8 => ?_) (fun hc8 => ?_)
        · skip
          subst hc8
          refine CW.seq ?_
          refine CW.region ?_
          refine EL.op (OPW.val (k := 143) (.int .i64 1) rfl (by kernel_rfl) (by kernel_rfl) (by kernel_rfl) ?_)
          refine EL.op (OPW.val (k := 4) (.int .i64 1) rfl (by kernel_rfl) (by kernel_rfl) (by kernel_rfl) ?_)
          refine EL.nil ?_
          refine thenN ?_
          refine CW.ret ?_
          refine blockR ?_
          refine thenR ?_
          refine thenR ?_
          refine blockR ?_
          refine thenR ?_
          refine bp_ret (v := .int .i64 1) (by kernel_rfl) ?_
          refine ⟨?_, hS69.toBelow⟩
          unfold ownI
          rw [← q1, ← q2, ← q3]
          rfl
        · skip
          subst hc8
          refine CW.skip ?_
          refine blockN ?_
          refine thenN ?_
          refine CW.region ?_
          refine EL.op (OPW.val (k := 144) (.int .i64 2) rfl (by kernel_rfl) (by kernel_rfl) (by kernel_rfl) ?_)
          refine EL.op (OPW.val (k := 64) (.int .i64 2) rfl (by kernel_rfl) (by kernel_rfl) (by kernel_rfl) ?_)
          refine EL.nil ?_
          refine roundN ?_
          refine CW.seq ?_
          refine CW.region ?_
          refine EL.op (OPW.val (k := 65) (.bool false) rfl (by kernel_rfl) (by kernel_rfl) (by kernel_rfl) ?_)
          refine EL.nil ?_
          refine thenN ?_
          refine CW.seq ?_
          refine CW.condF (by kernel_rfl) ?_
          refine CW.exit ?_
          refine thenE ?_
          refine thenE ?_
          refine blockE ?_
          refine thenN ?_
          refine CW.seq ?_
          refine CW.region ?_
          refine EL.op (OPW.val (k := 4) (.int .i64 (-1)) rfl (by kernel_rfl) (by kernel_rfl) (by kernel_rfl) ?_)
          refine EL.nil ?_
          refine thenN ?_
          refine CW.ret ?_
          refine bp_ret (v := .int .i64 (-1)) (by kernel_rfl) ?_
          refine ⟨?_, hS69.toBelow⟩
          unfold ownI
          rw [← q1, ← q2, ← q3]
          rfl
    exact EDo.nil
end
end
end Go.Proofs.Ythhgfcfcgbjleaa
