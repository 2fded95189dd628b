/- States of a channel: which may be. -/
import Derived.Test.YthhgfcfcgbjleaaCh
namespace Go.Proofs.Ythhgfcfcgbjleaa
open Go.RowKit
set_option maxRecDepth 100000

/-- A state. -/
structure Sta where
  n : Int
  client : Int
  peer : Int
  h0 : List Int
  h1 : List Int
def Sta.cells (s : Sta) : List Value :=
  .int .i64 s.n :: .int .i64 s.client :: .int .i64 s.peer :: (s.h0.map (Value.int .u8) ++ s.h1.map (Value.int .u8))
structure StaAt (w : World) (b : Nat) (s : Sta) : Prop where
  n : w.cell? ⟨b, 0, none⟩ = some (.int .i64 s.n)
  client : w.cell? ⟨b, 1, none⟩ = some (.int .i64 s.client)
  peer : w.cell? ⟨b, 2, none⟩ = some (.int .i64 s.peer)
  h0 : w.rangeAt b 3 (s.h0.map (Value.int .u8))
  h1 : w.rangeAt b 35 (s.h1.map (Value.int .u8))
theorem Sta.cells_length {s : Sta} (h : s.h0.length = 32) (g : s.h1.length = 32) : s.cells.length = 67 := by simp [Sta.cells, h, g]
theorem StaAt.of {w : World} {b : Nat} {s : Sta} (h : w.rangeAt b 0 s.cells) (ht : s.h0.length = 32) : StaAt w b s := by
  have g : ∀ j v, s.cells[j]? = some v → w.cell? ⟨b, j, none⟩ = some v := fun j v hv => by have := h j v hv; rwa [Nat.zero_add] at this
  have e : ∀ j, s.cells[j + 3]? = (s.h0.map (Value.int .u8) ++ s.h1.map (Value.int .u8))[j]? := fun j => by
    show (Value.int .i64 s.n :: .int .i64 s.client :: .int .i64 s.peer :: (s.h0.map (Value.int .u8) ++ s.h1.map (Value.int .u8)))[j + 3]? = _
    rw [List.getElem?_cons_succ, List.getElem?_cons_succ, List.getElem?_cons_succ]
  refine ⟨g 0 _ rfl, g 1 _ rfl, g 2 _ rfl, fun j v hv => ?_, fun j v hv => ?_⟩
  · have hj := (List.getElem?_eq_some_iff.1 hv).1
    rw [Nat.add_comm 3 j]
    refine g (j + 3) v ?_
    rw [e, List.getElem?_append_left hj]
    exact hv
  · rw [show 35 + j = (32 + j) + 3 by omega]
    refine g _ v ?_
    rw [e, List.getElem?_append_right (by simp [ht]), List.length_map, ht, Nat.add_sub_cancel_left]
    exact hv
theorem range_below {n : Nat} {w w' : World} (h : Below n w w') (hn : w.heap.size ≤ n) {b o : Nat} {l : List Value} (hc : w.rangeAt b o l) : w'.rangeAt b o l := fun j v hv => cell_below h hn (hc j v hv)
theorem ChnAt.below {n : Nat} {w w' : World} (h : Below n w w') (hn : w.heap.size ≤ n) {b : Nat} {c : Chn} (hc : ChnAt w b c) : ChnAt w' b c :=
  ⟨cell_below h hn hc.id, cell_below h hn hc.client, cell_below h hn hc.peer, range_below h hn hc.tx, cell_below h hn hc.at_, cell_below h hn hc.cap, cell_below h hn hc.wait, cell_below h hn hc.window⟩
theorem StaAt.below {n : Nat} {w w' : World} (h : Below n w w') (hn : w.heap.size ≤ n) {b : Nat} {s : Sta} (hc : StaAt w b s) : StaAt w' b s :=
  ⟨cell_below h hn hc.n, cell_below h hn hc.client, cell_below h hn hc.peer, range_below h hn hc.h0, range_below h hn hc.h1⟩
theorem load_chn {w : World} {b o : Nat} {c : Chn} (h : w.rangeAt b o c.cells) (ht : c.tx.length = 32) :
    (Instr.loadAt 27 (.pointer (some ⟨b, o, none⟩))).run Try.prog w = .ok (.agg c.cells.toArray) w :=
  run_loadAt_mid w b o _ _ _ h Try.underlying27 rfl (by rw [Chn.cells_length ht]; kernel_rfl)
theorem load_sta {w : World} {b o : Nat} {s : Sta} (h : w.rangeAt b o s.cells) (ht : s.h0.length = 32) (hg : s.h1.length = 32) :
    (Instr.loadAt 77 (.pointer (some ⟨b, o, none⟩))).run Try.prog w = .ok (.agg s.cells.toArray) w :=
  run_loadAt_mid w b o _ _ _ h Try.underlying77 rfl (by rw [Sta.cells_length ht hg]; kernel_rfl)

/-- may a state be of a channel? -/
def rsB (c : Chn) (s : Sta) : Bool :=
  rcB c && decide (0 ≤ s.n ∧ s.n ≤ 1048576) && !decide (s.h0 = zeros) && !decide (s.h1 = zeros) && decide ((addL 0 [s.client, s.peer]).2 = 0) && decide ((addL 0 [s.client, s.peer]).1 = c.cap)

/-- What stands behind the channel's own test. -/
structure AfterRC (c : Chn) (s : Sta) (w W w1 : World) : Prop where
  n : w1.cell? ⟨w.heap.size + 1, 0, none⟩ = some (.int .i64 s.n)
  client : w1.cell? ⟨w.heap.size + 1, 1, none⟩ = some (.int .i64 s.client)
  peer : w1.cell? ⟨w.heap.size + 1, 2, none⟩ = some (.int .i64 s.peer)
  l0 : Hd ((Instr.loadAt 23 (.pointer (some ⟨w.heap.size + 1, 3, none⟩))).run Try.prog w1 = .ok (.agg (bytesV s.h0)) w1)
  l1 : Hd ((Instr.loadAt 23 (.pointer (some ⟨w.heap.size + 1, 35, none⟩))).run Try.prog w1 = .ok (.agg (bytesV s.h1)) w1)
  cap : w1.cell? ⟨w.heap.size, 36, none⟩ = some (.int .i64 c.cap)
  below : Hd (Below w.heap.size w w1)
  rd : Hd (Rd (Value.int .i64) (w1.alloc (.cells #[.int .i64 s.client, .int .i64 s.peer] 2 (0, 0))) (some ⟨w1.heap.size, 0, none⟩) [s.client, s.peer])
  cap2 : (w1.alloc (.cells #[.int .i64 s.client, .int .i64 s.peer] 2 (0, 0))).cell? ⟨w.heap.size, 36, none⟩ = some (.int .i64 c.cap)
  below2 : Hd (Below w.heap.size w (w1.alloc (.cells #[.int .i64 s.client, .int .i64 s.peer] 2 (0, 0))))
set_option maxHeartbeats 4000000 in
theorem commit_Right (c : Chn) (s : Sta) (ht : c.tx.length = 32) (hh : s.h0.length = 32) (hg : s.h1.length = 32) (w : World) :
    Calls Try.prog 41 #[.agg c.cells.toArray, .agg s.cells.toArray] w fun e w' => e = .returned (.bool (rsB c s)) ∧ Below w.heap.size w w' := by
  obtain ⟨W, hW⟩ : ∃ W, (w.alloc (.cells c.cells.toArray 27 (0, 0))).alloc (.cells s.cells.toArray 77 (0, 0)) = W := ⟨_, rfl⟩
  have hB : Below w.heap.size w W := by rw [← hW]; exact ((Below.refl _ w).alloc (Nat.le_refl _) _).alloc (by simp) _
  have rC : W.rangeAt w.heap.size 0 c.cells := by rw [← hW]; exact range_al (range_new _ _ _) _
  have rS : W.rangeAt (w.heap.size + 1) 0 s.cells := by
    rw [← hW]
    have := range_new (w.alloc (.cells c.cells.toArray 27 (0, 0))) s.cells 77
    simpa using this
  have hA : ChnAt W w.heap.size c := .of rC ht
  have hS : StaAt W (w.heap.size + 1) s := .of rS hh
  have LC := Hd.mk (load_chn rC ht)
  have hsz := hB.size
  have HB := Hd.mk hB
  have HA := Hd.mk hA
  have HS := Hd.mk hS
  clear hB hA hS rC rS
  obtain ⟨C, hC⟩ : ∃ C, c.cells.toArray = C := ⟨_, rfl⟩
  obtain ⟨S, hS⟩ : ∃ S, s.cells.toArray = S := ⟨_, rfl⟩
  rw [hC, hS] at hW
  rw [hC, hS]
  rw [hC] at LC
  have HC := Hd.mk hC
  clear hC hS
  have HT := Hd.mk ht
  have HH := Hd.mk hh
  have HG := Hd.mk hg
  clear ht hh hg
  have hz : (#[.int .u8 0, .int .u8 0, .int .u8 0, .int .u8 0, .int .u8 0, .int .u8 0, .int .u8 0, .int .u8 0, .int .u8 0, .int .u8 0, .int .u8 0, .int .u8 0, .int .u8 0, .int .u8 0, .int .u8 0, .int .u8 0, .int .u8 0, .int .u8 0, .int .u8 0, .int .u8 0, .int .u8 0, .int .u8 0, .int .u8 0, .int .u8 0, .int .u8 0, .int .u8 0, .int .u8 0, .int .u8 0, .int .u8 0, .int .u8 0, .int .u8 0, .int .u8 0] : Array Value) = bytesV zeros := rfl
  cases hr : rcB c
  · have R := Hd.mk hr
    clear hr
    go_enter Try.func41, Try.ntmps41
    go_wp2_with (first
      | (go_at_call 39; rw [← HC.out]; refine (commit_RightChannel c HT.out _).mono ?_; rw [HC.out]; rintro e w1 ⟨rfl, hb⟩; rw [R.out])
      | (refine wpList_ld (by rfl) 27 (.tmp 2) (by rfl) (by rfl) LC.out ?_))
    go_ret
    exact ⟨by simp [rsB, R.out], HB.out.trans (hb.mono hsz)⟩
  · have R := Hd.mk hr
    clear hr
    obtain ⟨r, hrs⟩ : ∃ r, rsB c s = r := ⟨_, rfl⟩
    have hrr := hrs
    rw [rsB, R.out, Bool.true_and] at hrr
    rw [hrs]
    clear hrs
    obtain ⟨x, hx⟩ : ∃ x, (addL 0 [s.client, s.peer]).1 = x := ⟨_, rfl⟩
    obtain ⟨y, hy⟩ : ∃ y, (addL 0 [s.client, s.peer]).2 = y := ⟨_, rfl⟩
    rw [hx, hy] at hrr
    have HX := Hd.mk hx
    have HY := Hd.mk hy
    clear hx hy
    have E0 := fun w : World => run_equalIn_sum 9998 w s.h0 zeros HH.out rfl
    have E1 := fun w : World => run_equalIn_sum 9998 w s.h1 zeros HG.out rfl
    have RC : Calls Try.prog 39 #[.agg C] W fun e w1 => e = .returned (.bool true) ∧ AfterRC c s w W w1 := by
      rw [← HC.out]
      refine (commit_RightChannel c HT.out _).mono ?_
      rintro e w1 ⟨rfl, hb⟩
      rw [R.out]
      have s1 := HS.out.below hb (Nat.le_refl _)
      have a6 := (HA.out.below hb (Nat.le_refl _)).cap
      have HB1 := HB.out.trans (hb.mono hsz)
      exact ⟨rfl, s1.n, s1.client, s1.peer, ⟨load_sum s1.h0 HH.out⟩, ⟨load_sum s1.h1 HG.out⟩, a6, ⟨HB1⟩, ⟨rd_lit w1 #[.int .i64 s.client, .int .i64 s.peer] 2 [s.client, s.peer] rfl⟩,
        cell_al a6 (.cells #[.int .i64 s.client, .int .i64 s.peer] 2 (0, 0)), ⟨HB1.alloc HB1.size (.cells #[.int .i64 s.client, .int .i64 s.peer] 2 (0, 0))⟩⟩
    have hn3 : s.n < 0 ∨ (0 ≤ s.n ∧ 1048576 < s.n) ∨ (0 ≤ s.n ∧ s.n ≤ 1048576) := by omega
    have hn4 : (s.n < 0) = True ∨ ((s.n < 0) = False ∧ (1048576 < s.n) = True) ∨ ((s.n < 0) = False ∧ (1048576 < s.n) = False) := by
      rcases hn3 with h | ⟨h, h'⟩ | ⟨h, h'⟩
      · exact .inl (eq_true h)
      · exact .inr (.inl ⟨eq_false (by omega), eq_true h'⟩)
      · exact .inr (.inr ⟨eq_false (by omega), eq_false (by omega)⟩)
    clear hn3
    rcases hn4 with hn | ⟨hn, hm⟩ | ⟨hn, hm⟩ <;> cases q0 : decide (s.h0 = zeros) <;> cases q1 : decide (s.h1 = zeros)
    all_goals
      rw [q0] at E0 hrr
      rw [q1] at E1 hrr
      simp only [Bool.not_true, Bool.not_false, Bool.and_true, Bool.and_false, Bool.false_and] at hrr
      have HRR := Hd.mk hrr
      clear hrr q0 q1
      go_enter Try.func41, Try.ntmps41
      go_wp2_with (first
        | (go_at_call 39; refine RC.mono ?_; rintro e w1 ⟨rfl, s0, s2, s3, L0, L1, a6, HB1, RD, a7, HB2⟩)
        | (refine wpList_ld (by rfl) 27 (.tmp 2) (by rfl) (by rfl) LC.out ?_)
        | (refine wpList_ld (by rfl) 23 (.tmp 22) (by rfl) (by rfl) L0.out ?_)
        | (refine wpList_ld (by rfl) 23 (.tmp 29) (by rfl) (by rfl) L1.out ?_)
        | (go_at_call 54; refine (coin_Add _ 2 [s.client, s.peer] _ RD.out (by simp)).mono ?_; rw [HX.out, HY.out]; rintro e w2 ⟨rfl, rfl⟩))
      all_goals
        go_ret
        refine ⟨?_, by first | exact HB1.out | exact HB2.out⟩
        have hq := HRR.out
        rw [← hq]
        refine congrArg (fun b => Ending.returned (Value.bool b)) ?_
        first
          | rfl
          | (have hn' := Int.not_lt.1 (of_eq_false hn)
             have hm' := Int.not_lt.1 (of_eq_false hm)
             rw [Bool.eq_iff_iff]
             simp
             omega)
          | (refine Eq.symm ?_
             rw [Bool.eq_false_iff]
             simp at *
             omega)
end Go.Proofs.Ythhgfcfcgbjleaa
