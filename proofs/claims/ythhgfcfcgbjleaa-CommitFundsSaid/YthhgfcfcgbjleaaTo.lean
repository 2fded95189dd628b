/- lock.To, lock.Sole. -/
import Derived.Test.YthhgfcfcgbjleaaSw
import Derived.Deep.QuietTactic
import Derived.BigQuiet
namespace Go.Proofs.Ythhgfcfcgbjleaa
open Go.RowKit
set_option maxRecDepth 100000

theorem heap_dr {w : World} {k : Nat} {x : Obj} (h : w.heap[k]? = some x) : w.drew.heap[k]? = some x := h
theorem heap_al {w : World} {o x : Obj} {k : Nat} (h : w.heap[k]? = some x) : (w.alloc o).heap[k]? = some x :=
  (Below.heap_alloc w o k (Array.getElem?_eq_some_iff.1 h).1).trans h
theorem heap_at {w : World} {o : Obj} {k : Nat} (h : k = w.heap.size) : (w.alloc o).heap[k]? = some o := by
  rw [h]; exact heap_alloc_new w o
theorem range_of {w : World} {g : Nat} {xs : List Value} {t : TypeId} (h : w.heap[g]? = some (.cells xs.toArray t (0, 0))) : w.rangeAt g 0 xs := fun j v hv => by
  rw [Nat.zero_add, cell_of_row _ _ _ _ _ _ h]
  simpa using hv
theorem rd_of {w : World} {g : Nat} {k : Int} {t : TypeId} (h : w.heap[g]? = some (.cells #[.int .i64 k] t (0, 0))) : Rd (Value.int .i64) w (some ⟨g, 0, none⟩) [k] := Rd.mk fun j x hx => by
  match j, hx with
  | 0, hx =>
    simp at hx
    subst hx
    rw [cell_of_row _ _ _ _ _ _ h]
    rfl
/-- It holds in every world that agrees on the blocks from n on. -/
def Fresh (n : Nat) (w : World) (φ : World → Prop) : Prop := ∀ W' : World, (∀ k, n ≤ k → k < w.heap.size → W'.heap[k]? = w.heap[k]?) → φ W'
theorem Fresh.now {n : Nat} {w : World} {φ : World → Prop} (h : Fresh n w φ) : φ w := h w fun _ _ _ => rfl
theorem heap_lt {w : World} {k : Nat} {x : Obj} (h : w.heap[k]? = some x) : k < w.heap.size := (Array.getElem?_eq_some_iff.1 h).1
/-- An out's slice of one new way. -/
theorem outIs_new {w : World} {A K : Option Addr} {am : Int} {y : Wy} {g : Nat} (hA : A = some ⟨g, 0, none⟩) (hy : y.ok) {c c' : Nat} (h : w.rangeAt g 0 (y.cells K c)) (hK : Rd (Value.int .i64) w K y.keys) :
    OutIs w (.agg #[.int .i64 am, .slice A 1 c']) ⟨am, [y]⟩ := by
  subst hA
  refine ⟨_, c', rfl, fun j z hz => ?_, fun z hz => ?_, by simp⟩
  · match j, hz with
    | 0, hz =>
      simp at hz
      subst hz
      exact ⟨_, _, rfl, K, c, h, hK⟩
  · simp at hz
    subst hz
    exact hy

set_option maxHeartbeats 1000000 in
theorem lock_To (key amount : Int) (w : World) :
    Calls Try.prog 43 #[.int .i64 key, .int .i64 amount] w fun e w' => (∃ A c, e = .returned (.agg #[.int .i64 amount, .slice A 1 c]) ∧ Fresh w.heap.size w' fun W => OutIs W (.agg #[.int .i64 amount, .slice A 1 c]) ⟨amount, [⟨[key], zeros, 0, 0⟩]⟩) ∧ Below w.heap.size w w' := by
  go_enter Try.func43, Try.ntmps43
  go_wp2
  refine bodyPost_ret (ret_cell rfl _ _ w.heap.size 0 [.int .i64 amount, .slice (some ⟨w.heap.size + 1 + 1, 0, none⟩) 1 1] _ rfl (range_of (t := 31) ?_) Try.underlying31 rfl (by kernel_rfl)) rfl ⟨⟨_, _, rfl, fun W' hW => ?_⟩, ?_⟩
  · repeat (first | exact heap_at (by simp) | refine heap_al ?_)
  · refine outIs_new (K := some ⟨w.heap.size + 1, 0, none⟩) (c := 1) rfl ⟨rfl, by simp, zeros_ok⟩ (range_of (t := 35) ?_) (rd_of (t := 3) ?_)
    · rw [hW _ (by omega) (by simp)]
      repeat (first | exact heap_at (by simp) | refine heap_al ?_)
    · rw [hW _ (by omega) (by simp)]
      repeat (first | exact heap_at (by simp) | refine heap_al ?_)
  · repeat (first | exact Below.refl _ _ | refine Below.alloc ?_ (by simp; try omega) _)

/-- is an out spent by a key alone, and at once? -/
def soleB (o : Ou) (key : Int) : Bool := decide (o.ways = [⟨[key], zeros, 0, 0⟩])

set_option maxHeartbeats 2000000 in
theorem lock_Sole (v : Value) (o : Ou) (key : Int) (w : World) (h : OutIs w v o) :
    Calls Try.prog 72 #[v, .int .i64 key] w fun e w' => e = .returned (.bool (soleB o key)) ∧ Below w.heap.size w w' := by
  obtain ⟨A, c, rfl, r, ok, l⟩ := h
  obtain ⟨am, ways⟩ := o
  simp only at r ok l
  obtain ⟨n, hn⟩ : ∃ n, ways.length = n := ⟨_, rfl⟩
  simp only [hn]
  obtain ⟨W, hW⟩ : ∃ W, (w.alloc (.cells #[.int .i64 am, .slice A n c] 31 (0, 0))) = W := ⟨_, rfl⟩
  have hB : Below w.heap.size w W := by rw [← hW]; exact (Below.refl _ w).alloc (Nat.le_refl _) _
  have a1 : W.cell? ⟨w.heap.size, 1, none⟩ = some (.slice A n c) := by rw [← hW]; exact cell_new _ _ _ _ _ rfl
  have HB := Hd.mk hB
  by_cases h1 : n = 1
  · subst h1
    have hz : (#[.int .u8 0, .int .u8 0, .int .u8 0, .int .u8 0, .int .u8 0, .int .u8 0, .int .u8 0, .int .u8 0, .int .u8 0, .int .u8 0, .int .u8 0, .int .u8 0, .int .u8 0, .int .u8 0, .int .u8 0, .int .u8 0, .int .u8 0, .int .u8 0, .int .u8 0, .int .u8 0, .int .u8 0, .int .u8 0, .int .u8 0, .int .u8 0, .int .u8 0, .int .u8 0, .int .u8 0, .int .u8 0, .int .u8 0, .int .u8 0, .int .u8 0, .int .u8 0] : Array Value) = bytesV zeros := rfl
    match ways, hn, r, ok with
    | [y], hn, r, ok =>
    have oky := ok y (by simp)
    obtain ⟨b, o, rfl, K, d, hr, hK⟩ := (r.below hB) 0 y rfl
    rw [Nat.zero_mul, Nat.add_zero] at hr
    have x := WyCells.of hr oky
    obtain ⟨k0, hh, ka, kw⟩ := x
    have L1 := Hd.mk (load_sum hh oky.len)
    have E := fun w : World => run_equalIn_sum 9998 w y.hash zeros oky.len rfl
    have hs : soleB ⟨am, [y]⟩ key = (decide (y.keys = [key]) && decide (y.hash = zeros) && (y.after == 0) && (y.wait == 0)) := by
      have := way_eq y ⟨[key], zeros, 0, 0⟩
      simp only at this
      rw [← this]
      simp [soleB]
    rw [hs]
    clear hs hh hr ok oky hB r hn
    obtain ⟨keys, hash, af, wt⟩ := y
    simp only at *
    obtain ⟨m, hm⟩ : ∃ m, keys.length = m := ⟨_, rfl⟩
    simp only [hm] at k0
    by_cases h2 : m = 1
    · subst h2
      match keys, hm, hK with
      | [z], hm, hK =>
      obtain ⟨b2, o2, rfl, kz⟩ := hK 0 z rfl
      rw [Nat.add_zero] at kz
      have hs : (decide ([z] = [key])) = (z == key) := by simp; rfl
      rw [hs]
      clear hs hK hm
      have cs : (z == key) = false ∨ ((z == key) = true ∧ decide (hash = zeros) = false) ∨ ((z == key) = true ∧ decide (hash = zeros) = true ∧ (af == 0) = false) ∨ ((z == key) = true ∧ decide (hash = zeros) = true ∧ (af == 0) = true ∧ (wt == 0) = false) ∨ ((z == key) = true ∧ decide (hash = zeros) = true ∧ (af == 0) = true ∧ (wt == 0) = true) := by
        cases (z == key) <;> cases decide (hash = zeros) <;> cases (af == 0) <;> cases (wt == 0) <;> simp
      obtain ⟨rr, hrr⟩ : ∃ rr, ((z == key) && decide (hash = zeros) && (af == 0) && (wt == 0)) = rr := ⟨_, rfl⟩
      rw [hrr]
      rcases cs with q1 | ⟨q1, q2⟩ | ⟨q1, q2, q3⟩ | ⟨q1, q2, q3, q4⟩ | ⟨q1, q2, q3, q4⟩
      all_goals
        rw [q1] at hrr
        try rw [q2] at hrr E
        try rw [q3] at hrr
        try rw [q4] at hrr
        try clear q2
        simp only [Bool.and_true, Bool.and_false, Bool.false_and] at hrr
        subst hrr
        go_enter Try.func72, Try.ntmps72
        go_wp2_with (refine wpList_ld (by rfl) 23 (.tmp 33) (by rfl) (by rfl) L1.out ?_)
        go_ret
        exact ⟨rfl, HB.out⟩
    · have hb : ((m : Int) == 1) = false := by simp; omega
      have hs : (decide (keys = [key])) = false := by
        simp
        intro e
        rw [e] at hm
        exact h2 hm.symm
      rw [hs]
      clear hs E hK hm h2 L1
      go_enter Try.func72, Try.ntmps72
      go_wp2
      go_ret
      exact ⟨by simp only [Bool.false_and]; rfl, HB.out⟩
  · have hb : ((n : Int) == 1) = false := by simp; omega
    have hs : soleB ⟨am, ways⟩ key = false := by
      simp [soleB]
      intro e
      rw [e] at hn
      exact h1 hn.symm
    rw [hs]
    clear hs hn h1 r ok l hB
    go_enter Try.func72, Try.ntmps72
    go_wp2
    go_ret
    exact ⟨rfl, HB.out⟩
end Go.Proofs.Ythhgfcfcgbjleaa
