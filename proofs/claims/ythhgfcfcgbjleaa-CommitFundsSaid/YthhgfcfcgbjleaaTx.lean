/- Transactions in memory: what they read as. -/
import Derived.Test.YthhgfcfcgbjleaaTo
import Derived.Test.YthhgfcfcgbjleaaSt
namespace Go.Proofs.Ythhgfcfcgbjleaa
open Go.RowKit

/-- An in: what it spends, by which way, and what it shows. -/
structure Inn where
  tx : List Int
  at_ : Int
  way : Int
  pre : List Int
/-- What a transaction does with a bond. -/
structure Opp where
  kind : Int
  tower : Int
  channel : Int
  amount : Int
  root : List Int
  data : List Int
structure Sig where
  key : Int
  of : List Int
structure Txx where
  ins : List Inn
  outs : List Ou
  op : Opp
  signs : List Sig
def opp0 : Opp := ⟨0, 0, 0, 0, zeros, []⟩
def Inn.cells (i : Inn) (D : Option Addr) (d : Nat) : List Value := i.tx.map (Value.int .u8) ++ [.int .i64 i.at_, .int .i64 i.way, .slice D i.pre.length d]
def Opp.cells (p : Opp) (D : Option Addr) (d : Nat) : List Value :=
  .int .i64 p.kind :: .int .i64 p.tower :: .int .i64 p.channel :: .int .i64 p.amount :: (p.root.map (Value.int .u8) ++ [.slice D p.data.length d])
def Sig.cells (s : Sig) : List Value := .int .i64 s.key :: s.of.map (Value.int .u8)
structure Inn.ok (i : Inn) : Prop where
  len : i.tx.length = 32
  pre : i.pre.length ≤ 4611686018427387904
structure Opp.ok (p : Opp) : Prop where
  len : p.root.length = 32
  data : p.data.length ≤ 4611686018427387904
/-- The slice at A reads as ins. -/
def RdI (w : World) (A : Option Addr) (xs : List Inn) : Prop :=
  ∀ j x, xs[j]? = some x → ∃ b o, A = some ⟨b, o, none⟩ ∧ ∃ D d, w.rangeAt b (o + j * 35) (x.cells D d) ∧ Rd (Value.int .u8) w D x.pre
/-- The slice at A reads as outs. -/
def RdO (w : World) (A : Option Addr) (xs : List Ou) : Prop :=
  ∀ j x, xs[j]? = some x → ∃ b o, A = some ⟨b, o, none⟩ ∧ ∃ B c, w.rangeAt b (o + j * 2) [.int .i64 x.amount, .slice B x.ways.length c] ∧ RdW w B x.ways ∧ (∀ y ∈ x.ways, y.ok) ∧ x.ways.length ≤ 4611686018427387904
def RdS (w : World) (A : Option Addr) (xs : List Sig) : Prop :=
  ∀ j x, xs[j]? = some x → ∃ b o, A = some ⟨b, o, none⟩ ∧ w.rangeAt b (o + j * 33) x.cells ∧ x.of.length = 32
/-- A transaction's cells. -/
def txCells (T : Txx) (A : Option Addr) (a : Nat) (B : Option Addr) (b : Nat) (D : Option Addr) (d : Nat) (S : Option Addr) (s : Nat) : List Value :=
  .slice A T.ins.length a :: .slice B T.outs.length b :: (T.op.cells D d ++ [.slice S T.signs.length s])
/-- The cells are a transaction's. -/
structure TxCells (w : World) (cs : List Value) (T : Txx) (A : Option Addr) (a : Nat) (B : Option Addr) (b : Nat) (D : Option Addr) (d : Nat) (S : Option Addr) (s : Nat) : Prop where
  cells : cs = txCells T A a B b D d S s
  ins : RdI w A T.ins
  insOk : ∀ x ∈ T.ins, x.ok
  insLen : T.ins.length ≤ 4611686018427387904
  outs : RdO w B T.outs
  outsLen : T.outs.length ≤ 4611686018427387904
  opOk : T.op.ok
  data : Rd (Value.int .u8) w D T.op.data
  signs : RdS w S T.signs
  signsLen : T.signs.length ≤ 4611686018427387904
/-- The value is a transaction. -/
def TxIs (w : World) (v : Value) (T : Txx) : Prop := ∃ cs A a B b D d S s, v = .agg cs.toArray ∧ TxCells w cs T A a B b D d S s

theorem RdI.below {w w' : World} {A : Option Addr} {xs : List Inn} (h : RdI w A xs) (hb : Below w.heap.size w w') : RdI w' A xs := fun j x hx => by
  obtain ⟨b, o, e, D, d, h1, h2⟩ := h j x hx
  exact ⟨b, o, e, D, d, range_below hb (Nat.le_refl _) h1, h2.below hb⟩
theorem RdO.below {w w' : World} {A : Option Addr} {xs : List Ou} (h : RdO w A xs) (hb : Below w.heap.size w w') : RdO w' A xs := fun j x hx => by
  obtain ⟨b, o, e, B, c, h1, h2, h3⟩ := h j x hx
  exact ⟨b, o, e, B, c, range_below hb (Nat.le_refl _) h1, h2.below hb, h3⟩
theorem RdS.below {w w' : World} {A : Option Addr} {xs : List Sig} (h : RdS w A xs) (hb : Below w.heap.size w w') : RdS w' A xs := fun j x hx => by
  obtain ⟨b, o, e, h1, h2⟩ := h j x hx
  exact ⟨b, o, e, range_below hb (Nat.le_refl _) h1, h2⟩
theorem TxCells.below {w w' : World} {cs : List Value} {T : Txx} {A B D S : Option Addr} {a b d s : Nat} (h : TxCells w cs T A a B b D d S s) (hb : Below w.heap.size w w') : TxCells w' cs T A a B b D d S s :=
  ⟨h.cells, h.ins.below hb, h.insOk, h.insLen, h.outs.below hb, h.outsLen, h.opOk, h.data.below hb, h.signs.below hb, h.signsLen⟩
theorem TxIs.below {w w' : World} {v : Value} {T : Txx} (h : TxIs w v T) (hb : Below w.heap.size w w') : TxIs w' v T := by
  obtain ⟨cs, A, a, B, b, D, d, S, s, e, h⟩ := h
  exact ⟨cs, A, a, B, b, D, d, S, s, e, h.below hb⟩
theorem txCells_length {T : Txx} (h : T.op.root.length = 32) (A : Option Addr) (a : Nat) (B : Option Addr) (b : Nat) (D : Option Addr) (d : Nat) (S : Option Addr) (s : Nat) : (txCells T A a B b D d S s).length = 40 := by
  simp [txCells, Opp.cells, h]
/-- A transaction in memory, cell by cell. -/
structure TxAt (w : World) (g : Nat) (T : Txx) (A : Option Addr) (a : Nat) (B : Option Addr) (b : Nat) (D : Option Addr) (d : Nat) (S : Option Addr) (s : Nat) : Prop where
  ins : w.cell? ⟨g, 0, none⟩ = some (.slice A T.ins.length a)
  outs : w.cell? ⟨g, 1, none⟩ = some (.slice B T.outs.length b)
  kind : w.cell? ⟨g, 2, none⟩ = some (.int .i64 T.op.kind)
  tower : w.cell? ⟨g, 3, none⟩ = some (.int .i64 T.op.tower)
  channel : w.cell? ⟨g, 4, none⟩ = some (.int .i64 T.op.channel)
  amount : w.cell? ⟨g, 5, none⟩ = some (.int .i64 T.op.amount)
  root : w.rangeAt g 6 (T.op.root.map (Value.int .u8))
  data : w.cell? ⟨g, 38, none⟩ = some (.slice D T.op.data.length d)
  signs : w.cell? ⟨g, 39, none⟩ = some (.slice S T.signs.length s)
theorem TxAt.of {w : World} {g : Nat} {T : Txx} {A B D S : Option Addr} {a b d s : Nat} (h : w.rangeAt g 0 (txCells T A a B b D d S s)) (hl : T.op.root.length = 32) : TxAt w g T A a B b D d S s := by
  have k : ∀ j v, (txCells T A a B b D d S s)[j]? = some v → w.cell? ⟨g, j, none⟩ = some v := fun j v hv => by have := h j v hv; rwa [Nat.zero_add] at this
  refine ⟨k 0 _ rfl, k 1 _ rfl, k 2 _ rfl, k 3 _ rfl, k 4 _ rfl, k 5 _ rfl, fun j v hv => ?_, k 38 _ (by simp [txCells, Opp.cells, hl]), k 39 _ (by simp [txCells, Opp.cells, hl])⟩
  have hj := (List.getElem?_eq_some_iff.1 hv).1
  rw [Nat.add_comm 6 j]
  refine k (j + 6) v ?_
  show (Value.slice A T.ins.length a :: .slice B T.outs.length b :: .int .i64 T.op.kind :: .int .i64 T.op.tower :: .int .i64 T.op.channel :: .int .i64 T.op.amount :: ((T.op.root.map (Value.int .u8) ++ [.slice D T.op.data.length d]) ++ [.slice S T.signs.length s]))[j + 6]? = some v
  simp only [List.getElem?_cons_succ]
  rw [List.append_assoc, List.getElem?_append_left hj]
  exact hv
/-- The transaction of no ins and no outs. -/
def tx0 : Txx := ⟨[], [], opp0, []⟩
theorem tx0_cells (w : World) : TxCells w (txCells tx0 none 0 none 0 none 0 none 0) tx0 none 0 none 0 none 0 none 0 :=
  ⟨rfl, fun j x hx => by simp [tx0] at hx, by simp [tx0], by simp [tx0], fun j x hx => by simp [tx0] at hx, by simp [tx0], ⟨rfl, by simp [tx0, opp0]⟩, fun j x hx => by simp [tx0, opp0] at hx, fun j x hx => by simp [tx0] at hx, by simp [tx0]⟩
end Go.Proofs.Ythhgfcfcgbjleaa
