/- What two values of a type are compared to, as a function: plain lemmas over any program. -/
import Derived.Test.YtddaoelaoncimaaEn
import Derived.ChangeKeysEq
import Derived.Laws.StructEq
namespace Go.Proofs.Ytddaoelaoncimaa
open Go.RowKit Go.Op

/-- 32 bytes, by a function. -/
def sumL (s : Nat → Int) : List Int := (List.range 32).map s
def sumV (s : Nat → Int) : List Value := (List.range 32).map fun i => .int .u8 (s i)
def sumEq (s t : Nat → Int) : Bool := ((List.range 32).map fun i => s i == t i).foldr (· && ·) true
theorem sumV_eq (s : Nat → Int) : sumV s = (sumL s).map (Value.int .u8) := by simp [sumV, sumL]
theorem sumL_length (s : Nat → Int) : (sumL s).length = 32 := by simp [sumL]
theorem sumL_of {l : List Int} (h : l.length = 32) : ∃ s, l = sumL s := ⟨fun i => l.getD i 0, List.ext_getElem (by simp [sumL, h]) fun i h1 h2 => by simp [sumL, h1]⟩
theorem foldr_and : ∀ l : List Bool, l.foldr (· && ·) true = true ↔ ∀ b ∈ l, b = true
  | [] => by simp
  | b :: l => by simp [foldr_and l]
theorem sumEq_iff (s t : Nat → Int) : sumEq s t = decide (sumL s = sumL t) := by
  rw [Bool.eq_iff_iff, decide_eq_true_iff]
  unfold sumEq sumL
  rw [foldr_and]
  constructor
  · intro h
    refine List.map_congr_left fun i hi => ?_
    simpa using h (s i == t i) (List.mem_map.2 ⟨i, hi, rfl⟩)
  · intro h b hb
    obtain ⟨i, hi, rfl⟩ := List.mem_map.1 hb
    have := List.map_inj_left.1 h i hi
    simp [this]

def allV {α : Type} (f : α → Option Bool) : List α → Option Bool
  | [] => some true
  | a :: r => match f a, allV f r with
    | some b, some c => some (b && c)
    | _, _ => none
def partV (P : Program) (t : TypeId) (cs : Array Value) (off : Nat) : Option Value :=
  match P.underlying t, P.info? t with
  | some d, some i => if d.isRow then some (.agg (cs.extract off (off + i.size))) else cs[off]?
  | _, _ => none
def eqV (P : Program) : Nat → TypeId → Value → Value → Option Bool
  | 0, _, _, _ => none
  | d + 1, t, x, y => match P.underlying t, x, y with
    | some .bool, .bool a, .bool b => some (a == b)
    | some (.int _), .int k a, .int k' b => if k = k' then some (a == b) else none
    | some (.struct fs), .agg xs, .agg ys =>
      if P.stoodInHeld t then none
      else allV (fun f : Field => if f.name ≠ "_" then (match partV P f.type xs f.offset, partV P f.type ys f.offset with
        | some u, some v => eqV P d f.type u v
        | _, _ => none) else some true) fs.toList
    | some (.array n e), .agg xs, .agg ys =>
      match P.info? e with
      | some i => allV (fun j => match partV P e xs (j * i.size), partV P e ys (j * i.size) with
        | some u, some v => eqV P d e u v
        | _, _ => none) (List.range n)
      | none => none
    | _, _, _ => none
section
variable {P : Program} {w : World}
theorem part_run {t : TypeId} {cs : Array Value} {off : Nat} {v : Value} (h : partV P t cs off = some v) : (part t cs off).run P w = .ok v w := by
  unfold partV at h
  split at h
  · rename_i d i hd hi
    have hagg : (isAgg t).run P w = .ok d.isRow w := by
      unfold isAgg
      rw [Sem.run_bind, run_underlying hd w]
      cases d <;> rfl
    unfold part
    rw [Sem.run_bind, hagg]
    simp only [Result.andThen_ok]
    split at h
    · rename_i hr
      rw [if_pos hr]
      cases h
      simp [sizeOf, typeInfo, Sem.run_bind, hi]
    · rename_i hr
      rw [if_neg hr, h]
      rfl
  · cases h
theorem eqV_run : ∀ (d : Nat) (t : TypeId) (x y : Value) (b : Bool), eqV P d t x y = some b → (Op.equalIn d t x y).run P w = .ok b w
  | 0, _, _, _, _, h => by cases h
  | d + 1, t, x, y, b, h => by
    unfold eqV at h
    split at h
    · rename_i a c hu
      cases h
      exact run_equalIn_bool w d t a c hu
    · rename_i k k1 a k2 c hu
      split at h
      · rename_i hk
        subst hk
        cases h
        exact run_equalIn_int w d t k1 k a c hu
      · cases h
    · rename_i fs xs ys hu
      split at h
      · cases h
      rename_i hst
      have hf : P.fieldsOf t = fs := by simp [Program.fieldsOf, hu]
      rw [run_equalIn_struct w d t xs ys (by rw [hf]; exact hu) (by simpa using hst), hf]
      generalize fs.toList = l at h
      clear hu hf
      induction l generalizing b with
      | nil => cases h; rfl
      | cons f l ih =>
        simp only [allV] at h
        split at h
        · rename_i b1 c1 h1 h2
          cases h
          simp only [Op.eqFields]
          split at h1
          · rename_i hn
            rw [if_pos hn]
            split at h1
            · rename_i u v hp hq
              simp only [Sem.run_bind, part_run hp, part_run hq, Result.andThen_ok, eqV_run d _ _ _ _ h1]
              cases b1
              · rfl
              · simpa using ih _ h2
            · cases h1
          · rename_i hn
            cases h1
            rw [if_neg hn]
            simpa using ih _ h2
        · cases h
    · rename_i n e xs ys hu
      split at h
      · rename_i i hi
        rw [run_equalIn_array w d xs ys hu hi]
        have hc : P.cellsOf e = i.size := by simp [Program.cellsOf, hi]
        rw [hc]
        generalize List.range n = l at h
        induction l generalizing b with
        | nil => cases h; rfl
        | cons f l ih =>
          simp only [allV] at h
          split at h
          · rename_i b1 c1 h1 h2
            cases h
            simp only [Op.eqItems]
            split at h1
            · rename_i u v hp hq
              simp only [Sem.run_bind, part_run hp, part_run hq, Result.andThen_ok, eqV_run d _ _ _ _ h1]
              cases b1
              · rfl
              · simpa using ih _ h2
            · cases h1
          · cases h
      · cases h
    · cases h
def isAggV : Value → Bool
  | .agg _ => true
  | _ => false
theorem eq_run {o : Oper} {z : Nat} {l : List (Nat × Value)} {X Y : Operand} {t t' : TypeId} {b : Bool} (ho : o.op = .binOp .eql t X Y t') (hx : isAggV (fev z l X) = true) (hy : isAggV (fev z l Y) = true) (hg : P.eqGuardType P.depth t = false)
    (he : eqV P 10000 t (fev z l X) (fev z l Y) = some b) : (execOp (fev z l) o).run P w = .ok (.value (.bool b)) w := by
  unfold execOp
  simp only [ho]
  generalize fev z l X = x at *
  generalize fev z l Y = y at *
  match x, y, hx, hy, he with
  | .agg xs, .agg ys, _, _, he =>
  simp only [Sem.run_bind, run_eqGuard_agg w _ t X Y _ _ hg, Result.andThen_ok, run_eql_struct, eqV_run 10000 t _ _ b he]
  rfl
theorem neq_run {o : Oper} {z : Nat} {l : List (Nat × Value)} {X Y : Operand} {t t' : TypeId} {b : Bool} (ho : o.op = .binOp .neq t X Y t') (hx : isAggV (fev z l X) = true) (hy : isAggV (fev z l Y) = true) (hg : P.eqGuardType P.depth t = false)
    (he : eqV P 10000 t (fev z l X) (fev z l Y) = some b) : (execOp (fev z l) o).run P w = .ok (.value (.bool (!b))) w := by
  unfold execOp
  simp only [ho]
  generalize fev z l X = x at *
  generalize fev z l Y = y at *
  match x, y, hx, hy, he with
  | .agg xs, .agg ys, _, _, he =>
  simp only [Sem.run_bind, run_eqGuard_agg w _ t X Y _ _ hg, Result.andThen_ok, run_neq_struct, eqV_run 10000 t _ _ b he]
  rfl
end
end Go.Proofs.Ytddaoelaoncimaa
