/- Two arrays of bytes, compared. -/
import Derived.Test.YthhgfcfcgbjleaaOt
import Derived.ChangeKeysEq
import Derived.Laws.StructEq
namespace Go.Proofs.Ythhgfcfcgbjleaa
open Go.RowKit Go.Op

def bytesV (l : List Int) : Array Value := (l.map (Value.int .u8)).toArray

theorem run_eqItems_bytes {P : Program} (d : Nat) {e : TypeId} (he : P.underlying e = some (.int .u8)) (w : World) (l1 l2 : List Int) (hl : l1.length = l2.length) :
    ∀ (k s : Nat), s + k = l1.length → (Op.eqItems (d + 1) e 1 (bytesV l1) (bytesV l2) (List.range' s k)).run P w = .ok (decide (l1.drop s = l2.drop s)) w
  | 0, s, h => by
    simp only [List.range'_zero, Op.eqItems, Sem.run_pure]
    rw [List.drop_eq_nil_of_le (by omega), List.drop_eq_nil_of_le (by omega)]
    rfl
  | k + 1, s, h => by
    have hs1 : s < l1.length := by omega
    have hs2 : s < l2.length := by omega
    have pe : P.plainKey e = true := by simp [Program.plainKey, he]
    have p1 : (part e (bytesV l1) (s * 1)).run P w = .ok (.int .u8 l1[s]) w := run_part_plain w pe (by simp [bytesV, List.getElem?_eq_getElem hs1])
    have p2 : (part e (bytesV l2) (s * 1)).run P w = .ok (.int .u8 l2[s]) w := run_part_plain w pe (by simp [bytesV, List.getElem?_eq_getElem hs2])
    simp only [List.range'_succ, Op.eqItems, Sem.run_bind, p1, p2, Result.andThen_ok, run_equalIn_int w d e .u8 .u8 _ _ he]
    have e1 : l1.drop s = l1[s] :: l1.drop (s + 1) := List.drop_eq_getElem_cons hs1
    have e2 : l2.drop s = l2[s] :: l2.drop (s + 1) := List.drop_eq_getElem_cons hs2
    by_cases hx : l1[s] = l2[s]
    · have hb : (l1[s] == l2[s]) = true := by simpa using hx
      rw [hb]
      simp only [Bool.not_true, Bool.false_eq_true, if_false]
      rw [run_eqItems_bytes d he w l1 l2 hl k (s + 1) (by omega), e1, e2]
      simp only [List.cons.injEq, hx, true_and]
    · have hb : (l1[s] == l2[s]) = false := by simpa using hx
      rw [hb, e1, e2]
      simp only [List.cons.injEq, hx, false_and, decide_false, Bool.not_false, if_true, Sem.run_pure]

theorem run_equalIn_sum (d : Nat) (w : World) (l1 l2 : List Int) (h1 : l1.length = 32) (h2 : l2.length = 32) :
    (Op.equalIn (d + 2) 23 (.agg (bytesV l1)) (.agg (bytesV l2))).run Try.prog w = .ok (decide (l1 = l2)) w := by
  have he : Try.prog.underlying 5 = some (.int .u8) := Try.underlying5
  have hi : ∃ i, Try.prog.info? 5 = some i := by
    cases h : Try.prog.info? 5 with
    | some i => exact ⟨i, rfl⟩
    | none => simp [Program.underlying, h] at he
  obtain ⟨i, hi⟩ := hi
  rw [run_equalIn_array w (d + 1) _ _ Try.underlying23 hi, show Try.prog.cellsOf 5 = 1 by kernel_rfl, List.range_eq_range']
  rw [run_eqItems_bytes d he w l1 l2 (by omega) 32 0 (by omega)]
  simp
theorem run_eql_sum (w : World) (l1 l2 : List Int) (h1 : l1.length = 32) (h2 : l2.length = 32) :
    (binOp .eql 23 (.agg (bytesV l1)) (.agg (bytesV l2))).run Try.prog w = .ok (.bool (decide (l1 = l2))) w := by
  rw [run_eql_struct, run_equalIn_sum 9998 w l1 l2 h1 h2]; rfl
theorem run_neq_sum (w : World) (l1 l2 : List Int) (h1 : l1.length = 32) (h2 : l2.length = 32) :
    (binOp .neq 23 (.agg (bytesV l1)) (.agg (bytesV l2))).run Try.prog w = .ok (.bool (!decide (l1 = l2))) w := by
  rw [run_neq_struct, run_equalIn_sum 9998 w l1 l2 h1 h2]; rfl
theorem load_sum {w : World} {b o : Nat} {l : List Int} (h : w.rangeAt b o (l.map (Value.int .u8))) (hl : l.length = 32) :
    (Instr.loadAt 23 (.pointer (some ⟨b, o, none⟩))).run Try.prog w = .ok (.agg (bytesV l)) w :=
  run_loadAt_mid w b o _ _ _ h Try.underlying23 rfl (by rw [List.length_map, hl]; kernel_rfl)
end Go.Proofs.Ythhgfcfcgbjleaa
