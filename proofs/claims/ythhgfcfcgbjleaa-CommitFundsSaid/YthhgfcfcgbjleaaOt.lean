/- Outs and ways in memory: what they read as. -/
import Derived.Test.YthhgfcfcgbjleaaCo
import Derived.Deep.MidRow
import Derived.Tactics
import Derived.BigFrame
import Derived.Deep.Draws
namespace Go.Proofs.Ythhgfcfcgbjleaa
open Go.RowKit

/-- A way: its keys, its hash's bytes, and what it waits for. -/
structure Wy where
  keys : List Int
  hash : List Int
  after : Int
  wait : Int
  deriving DecidableEq
/-- An out. -/
structure Ou where
  amount : Int
  ways : List Wy
  deriving DecidableEq
def zeros : List Int := List.replicate 32 0
theorem zeros_ok : ∀ x ∈ zeros, 0 ≤ x ∧ x ≤ 255 := by decide
/-- its cells, its keys' slice being K with capacity c -/
def Wy.cells (y : Wy) (K : Option Addr) (c : Nat) : List Value :=
  .slice K y.keys.length c :: (y.hash.map (Value.int .u8) ++ [.int .i64 y.after, .int .i64 y.wait])
/-- a way that may lie in memory -/
structure Wy.ok (y : Wy) : Prop where
  len : y.hash.length = 32
  keys : y.keys.length ≤ 4611686018427387904
  hash : ∀ x ∈ y.hash, 0 ≤ x ∧ x ≤ 255
/-- The cells at b, from o on, are a way. -/
def WyAt (w : World) (b o : Nat) (y : Wy) : Prop := ∃ K c, w.rangeAt b o (y.cells K c) ∧ Rd (Value.int .i64) w K y.keys
/-- The slice at A reads as ways. -/
def RdW (w : World) (A : Option Addr) (ys : List Wy) : Prop :=
  ∀ j y, ys[j]? = some y → ∃ b o, A = some ⟨b, o, none⟩ ∧ WyAt w b (o + j * 35) y
/-- The value is an out. -/
def OutIs (w : World) (v : Value) (o : Ou) : Prop := ∃ A c, v = .agg #[.int .i64 o.amount, .slice A o.ways.length c] ∧ RdW w A o.ways ∧ (∀ y ∈ o.ways, y.ok) ∧ o.ways.length ≤ 4611686018427387904

theorem cell_below {n : Nat} {w w' : World} (h : Below n w w') (hn : w.heap.size ≤ n) {a : Addr} {v : Value} (hc : w.cell? a = some v) : w'.cell? a = some v :=
  (h.cell (p := a) (Nat.lt_of_lt_of_le (World.block_lt_of_cell? w _ hc) hn)).trans hc
theorem WyAt.below {w w' : World} {b o : Nat} {y : Wy} (h : WyAt w b o y) (hb : Below w.heap.size w w') : WyAt w' b o y := by
  obtain ⟨K, c, h1, h2⟩ := h
  exact ⟨K, c, fun j v hv => cell_below hb (Nat.le_refl _) (h1 j v hv), h2.below hb⟩
theorem RdW.below {w w' : World} {A : Option Addr} {ys : List Wy} (h : RdW w A ys) (hb : Below w.heap.size w w') : RdW w' A ys := fun j y hy => by
  obtain ⟨b, o, e, h1⟩ := h j y hy
  exact ⟨b, o, e, h1.below hb⟩
theorem OutIs.below {w w' : World} {v : Value} {o : Ou} (h : OutIs w v o) (hb : Below w.heap.size w w') : OutIs w' v o := by
  obtain ⟨A, c, e, h1, h2, h3⟩ := h
  exact ⟨A, c, e, h1.below hb, h2, h3⟩

theorem cell_new (w : World) (xs : Array Value) (t : TypeId) (i : Nat) (v : Value) (h : xs[i]? = some v) : (w.alloc (.cells xs t (0, 0))).cell? ⟨w.heap.size, i, none⟩ = some v := by
  have := heap_alloc_new w (.cells xs t (0, 0))
  rw [cell_of_row _ _ _ _ _ _ this]
  exact h
theorem cell_al {w : World} {a : Addr} {v : Value} (h : w.cell? a = some v) (o : Obj) : (w.alloc o).cell? a = some v := by
  rw [World.cell?_alloc_lt _ _ _ (World.block_lt_of_cell? w a h)]; exact h
theorem cell_dr {w : World} {a : Addr} {v : Value} (h : w.cell? a = some v) : w.drew.cell? a = some v := h
theorem cell_st_ne {w : World} {a p : Addr} {v u : Value} (h : w.cell? a = some v) (hp : p ≠ a) : (w.setCell p u).cell? a = some v := by
  rw [World.cell?_setCell_other w p a u hp]; exact h
theorem range_al {w : World} {b o : Nat} {l : List Value} (h : w.rangeAt b o l) (x : Obj) : (w.alloc x).rangeAt b o l := World.rangeAt_alloc h x
theorem range_new (w : World) (xs : List Value) (t : TypeId) : (w.alloc (.cells xs.toArray t (0, 0))).rangeAt w.heap.size 0 xs := fun j v hv => by
  rw [Nat.zero_add]
  exact cell_new w _ t j v (by simpa using hv)
theorem frozen_row {w : World} {b i : Nat} {cs : Array Value} {t : TypeId} (h : w.heap[b]? = some (.cells cs t (0, 0))) : w.frozen? ⟨b, i, none⟩ = false := by simp [World.frozen?, h]
theorem range2 {w : World} {b : Nat} {u v : Value} (h0 : w.cell? ⟨b, 0, none⟩ = some u) (h1 : w.cell? ⟨b, 1, none⟩ = some v) : w.rangeAt b 0 [u, v] := fun j x hx => by
  match j, hx with
  | 0, hx => simp at hx; subst hx; exact h0
  | 1, hx => simp at hx; subst hx; exact h1
theorem cell_st_same {w : World} {a : Addr} {u : Value} (h : w.cell? a = some u) (v : Value) : (w.setCell a v).cell? a = some v := World.cell?_setCell_same _ _ _ h
theorem size_st (w : World) (a : Addr) (v : Value) : (w.setCell a v).heap.size = w.heap.size := by simp [World.setCell]
/-- A function's result that lies in memory. -/
theorem ret_cell {P : Program} {fn : Func} {p : Tmp} {ty : TypeId} (h : fn.results = #[.cell p ty]) (tmps : Array Value) (w : World) (g o : Nat) (cs : List Value) (d : TypeDesc)
    (hp : tmps.getD p undef = .pointer (some ⟨g, o, none⟩)) (hc : w.rangeAt g o cs) (hu : P.underlying ty = some d) (hd : d.isRow = true) (hi : (P.info? ty).map (·.size) = some cs.length) :
    (results fn tmps).run P w = .ok (.agg cs.toArray) w := by
  have hp' : tmps[p]?.getD undef = .pointer (some ⟨g, o, none⟩) := by simpa using hp
  simp [results, h, hp', asAddr, run_loadVar_mid w g o ty cs d hc hu hd hi]
/-- .. and another one that does not. -/
theorem ret_cell_tmp {P : Program} {fn : Func} {p u : Tmp} {ty : TypeId} (h : fn.results = #[.cell p ty, .tmp u]) (tmps : Array Value) (w : World) (g o : Nat) (cs : List Value) (d : TypeDesc)
    (hp : tmps.getD p undef = .pointer (some ⟨g, o, none⟩)) (hc : w.rangeAt g o cs) (hu : P.underlying ty = some d) (hd : d.isRow = true) (hi : (P.info? ty).map (·.size) = some cs.length) :
    (results fn tmps).run P w = .ok (.tuple #[.agg cs.toArray, tmps.getD u undef]) w := by
  have hp' : tmps[p]?.getD undef = .pointer (some ⟨g, o, none⟩) := by simpa using hp
  simp [results, h, hp', asAddr, run_loadVar_mid w g o ty cs d hc hu hd hi]
/-- AN OPERATION THAT LOADS, by its run; under whatever guard. -/
theorem wpList_ld {P : Program} {ops : Array Oper} {rest : List Oper} {op : Oper} {a : Act} {w : World} {Q : Exit → Act → World → Prop} {v : Value} {b o : Nat} (hw : Region.wanted op (yielded ops a.tmps) = true) (ty : TypeId) (x : Operand) (ho : op.op = .load ty x)
    (hx : a.eval x = .pointer (some ⟨b, o, none⟩)) (run : (Instr.loadAt ty (.pointer (some ⟨b, o, none⟩))).run P w = .ok v w) (h : wpList P ops Q rest (a.put op.dst v) w) : wpList P ops Q (op :: rest) a w :=
  BigFrame.wpList_want hw fun _ hK => by
    unfold Oper.wp execOp
    simp only [ho, hx, Sem.run_bind, run, Result.andThen_ok]
    exact hK _ _ h
/-- .. that stores. -/
theorem wpList_sto {P : Program} {ops : Array Oper} {rest : List Oper} {op : Oper} {a : Act} {w w' : World} {Q : Exit → Act → World → Prop} {v : Value} {b o : Nat} (hw : Region.wanted op (yielded ops a.tmps) = true) (ty : TypeId) (x y : Operand) (ho : op.op = .store ty x y)
    (hx : a.eval x = .pointer (some ⟨b, o, none⟩)) (hy : a.eval y = v) (run : (Instr.storeAt ty (.pointer (some ⟨b, o, none⟩)) v).run P w = .ok () w') (h : wpList P ops Q rest (a.put op.dst undef) w') : wpList P ops Q (op :: rest) a w :=
  BigFrame.wpList_want hw fun _ hK => by
    unfold Oper.wp execOp
    simp only [ho, hx, hy, Sem.run_bind, run, Result.andThen_ok]
    exact hK _ _ h
theorem below_drewN {B : Nat} {a w : World} (h : Below B a w) (n : Nat) : Below B a (w.drewN n) := ⟨h.os, h.tape, h.output, h.size, h.block⟩
theorem below_setCell {n : Nat} {w w' : World} (h : Below n w w') {p : Addr} (v : Value) (hp : n ≤ p.block) : Below n w (w'.setCell p v) := by
  exact h.setCell hp _
end Go.Proofs.Ythhgfcfcgbjleaa
