/- Channels: which may be. -/
import Derived.Test.YthhgfcfcgbjleaaEq
import Derived.Deep.QuietTactic
import Derived.BigQuiet
namespace Go.Proofs.Ythhgfcfcgbjleaa
open Go.RowKit
set_option maxRecDepth 100000

/-- A channel. -/
structure Chn where
  id : Int
  client : Int
  peer : Int
  tx : List Int
  at_ : Int
  cap : Int
  wait : Int
  window : Int
def Chn.cells (c : Chn) : List Value :=
  .int .i64 c.id :: .int .i64 c.client :: .int .i64 c.peer :: (c.tx.map (Value.int .u8) ++ [.int .i64 c.at_, .int .i64 c.cap, .int .i64 c.wait, .int .i64 c.window])
/-- A channel in memory, cell by cell. -/
structure ChnAt (w : World) (b : Nat) (c : Chn) : Prop where
  id : w.cell? ⟨b, 0, none⟩ = some (.int .i64 c.id)
  client : w.cell? ⟨b, 1, none⟩ = some (.int .i64 c.client)
  peer : w.cell? ⟨b, 2, none⟩ = some (.int .i64 c.peer)
  tx : w.rangeAt b 3 (c.tx.map (Value.int .u8))
  at_ : w.cell? ⟨b, 35, none⟩ = some (.int .i64 c.at_)
  cap : w.cell? ⟨b, 36, none⟩ = some (.int .i64 c.cap)
  wait : w.cell? ⟨b, 37, none⟩ = some (.int .i64 c.wait)
  window : w.cell? ⟨b, 38, none⟩ = some (.int .i64 c.window)
theorem Chn.cells_length {c : Chn} (h : c.tx.length = 32) : c.cells.length = 39 := by simp [Chn.cells, h]
theorem Chn.cells_0 (c : Chn) : c.cells[0]? = some (.int .i64 c.id) := rfl
theorem Chn.cells_1 (c : Chn) : c.cells[1]? = some (.int .i64 c.client) := rfl
theorem Chn.cells_2 (c : Chn) : c.cells[2]? = some (.int .i64 c.peer) := rfl
theorem Chn.cells_35 {c : Chn} (h : c.tx.length = 32) : c.cells[35]? = some (.int .i64 c.at_) := by simp [Chn.cells, h]
theorem Chn.cells_36 {c : Chn} (h : c.tx.length = 32) : c.cells[36]? = some (.int .i64 c.cap) := by simp [Chn.cells, h]
theorem Chn.cells_37 {c : Chn} (h : c.tx.length = 32) : c.cells[37]? = some (.int .i64 c.wait) := by simp [Chn.cells, h]
theorem Chn.cells_38 {c : Chn} (h : c.tx.length = 32) : c.cells[38]? = some (.int .i64 c.window) := by simp [Chn.cells, h]
theorem ChnAt.of {w : World} {b : Nat} {c : Chn} (h : w.rangeAt b 0 c.cells) (ht : c.tx.length = 32) : ChnAt w b c := by
  have g : ∀ j v, c.cells[j]? = some v → w.cell? ⟨b, j, none⟩ = some v := fun j v hv => by have := h j v hv; rwa [Nat.zero_add] at this
  refine ⟨g 0 _ rfl, g 1 _ rfl, g 2 _ rfl, fun j v hv => ?_, g 35 _ (Chn.cells_35 ht), g 36 _ (Chn.cells_36 ht), g 37 _ (Chn.cells_37 ht), g 38 _ (Chn.cells_38 ht)⟩
  have hj := (List.getElem?_eq_some_iff.1 hv).1
  rw [Nat.add_comm 3 j]
  refine g (j + 3) v ?_
  show (Value.int .i64 c.id :: .int .i64 c.client :: .int .i64 c.peer :: (c.tx.map (Value.int .u8) ++ [.int .i64 c.at_, .int .i64 c.cap, .int .i64 c.wait, .int .i64 c.window]))[j + 3]? = some v
  rw [List.getElem?_cons_succ, List.getElem?_cons_succ, List.getElem?_cons_succ, List.getElem?_append_left hj]
  exact hv

/-- may a channel be? -/
def rcB (c : Chn) : Bool := decide (0 ≤ c.id ∧ c.id ≤ 1048576 ∧ 0 ≤ c.client ∧ c.client ≤ 255 ∧ 0 ≤ c.peer ∧ c.peer ≤ 255 ∧ c.client ≠ c.peer ∧ 1 ≤ c.cap ∧ c.cap ≤ 1125899906842624 ∧ 1 ≤ c.window ∧ c.window < c.wait ∧ c.wait ≤ 65536 ∧ 0 ≤ c.at_ ∧ c.at_ < 16)

theorem rc_eq (id client peer at_ cap wait window : Int) (tx : List Int) : rcB ⟨id, client, peer, tx, at_, cap, wait, window⟩ = decide (0 ≤ id ∧ id ≤ 1048576 ∧ 0 ≤ client ∧ client ≤ 255 ∧ 0 ≤ peer ∧ peer ≤ 255 ∧ client ≠ peer ∧ 1 ≤ cap ∧ cap ≤ 1125899906842624 ∧ 1 ≤ window ∧ window < wait ∧ wait ≤ 65536 ∧ 0 ≤ at_ ∧ at_ < 16) := rfl
set_option maxHeartbeats 4000000 in
theorem commit_RightChannel (c : Chn) (ht : c.tx.length = 32) (w : World) :
    Calls Try.prog 39 #[.agg c.cells.toArray] w fun e w' => e = .returned (.bool (rcB c)) ∧ Below w.heap.size w w' := by
  obtain ⟨W, hW⟩ : ∃ W, w.alloc (.cells c.cells.toArray 27 (0, 0)) = W := ⟨_, rfl⟩
  have hB : Below w.heap.size w W := by rw [← hW]; exact (Below.refl _ w).alloc (Nat.le_refl _) _
  have hA : ChnAt W w.heap.size c := .of (by rw [← hW]; exact range_new _ _ _) ht
  have HB := Hd.mk hB
  clear hB
  obtain ⟨C, hC⟩ : ∃ C, c.cells.toArray = C := ⟨_, rfl⟩
  rw [hC] at hW ⊢
  clear hC ht
  obtain ⟨id, client, peer, tx, at_, cap, wait, window⟩ := c
  obtain ⟨c0, c1, c2, _, c35, c36, c37, c38⟩ := hA
  simp only at c0 c1 c2 c35 c36 c37 c38
  go_enter Try.func39, Try.ntmps39
  go_wp2_with (go_at_call 77; refine (coin_Right _ _).mono ?_; rintro e w' ⟨rfl, rfl⟩)
  all_goals
    go_ret
    refine ⟨?_, HB.out⟩
    (try simp only [rightB, decide_eq_true_eq] at *)
    refine congrArg (fun b => Ending.returned (Value.bool b)) ?_
    rw [rc_eq]
    symm
    first
      | exact decide_eq_true (by omega)
      | exact decide_eq_false (by omega)
      | (rw [Bool.eq_iff_iff]
         simp
         omega)
end Go.Proofs.Ythhgfcfcgbjleaa
