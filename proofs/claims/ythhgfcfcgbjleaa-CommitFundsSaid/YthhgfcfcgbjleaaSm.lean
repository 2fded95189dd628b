/- lock.Same: are two outs alike? -/
import Derived.Test.YthhgfcfcgbjleaaEq
import Derived.Deep.QuietTactic
import Derived.BigQuiet
import Derived.Deep.WholeRow
namespace Go.Proofs.Ythhgfcfcgbjleaa
open Go.RowKit
set_option maxRecDepth 100000

set_option maxHeartbeats 400000 in
theorem slices_Equal_int (A B : Option Addr) (c d : Nat) (xs ys : List Int) (w : World) (hx : Rd (Value.int .i64) w A xs) (hy : Rd (Value.int .i64) w B ys) (hl : xs.length ≤ 4611686018427387904) :
    Calls Try.prog 66 #[.slice A xs.length c, .slice B ys.length d] w fun e w' => e = .returned (.bool (decide (xs = ys))) ∧ ∃ n, w' = w.drewN n := by
  by_cases hlen : xs.length = ys.length
  · have hb : ((xs.length : Int) != (ys.length : Int)) = false := by simp [hlen]
    go_enter Try.func66, Try.ntmps66
    go_wp2
    go_loopw [13] (fun i wr => ∃ k : Nat, k ≤ xs.length ∧ i = .int .i64 k ∧ (∃ n, wr = w.drewN n) ∧ ∀ j, j < k → xs[j]? = ys[j]?) (fun i _ => xs.length - (intOf i).toNat)
    case atStart => exact ⟨0, Nat.zero_le _, rfl, ⟨0, rfl⟩, fun j hj => by omega⟩
    case round =>
      obtain ⟨k, hk, rfl, ⟨m, rfl⟩, hs⟩ := hrel
      have HS := Hd.mk hs
      clear hs
      by_cases hlt : k < xs.length
      · obtain ⟨b1, o1, rfl, hc1⟩ := hx.some_ (by omega)
        obtain ⟨b2, o2, rfl, hc2⟩ := hy.some_ (by omega)
        have hck1 := hc1 k xs[k] (List.getElem?_eq_getElem hlt)
        have hck2 := hc2 k ys[k] (List.getElem?_eq_getElem (by omega))
        clear hc1 hc2
        have g1 : xs[k]? = some xs[k] := List.getElem?_eq_getElem hlt
        have g2 : ys[k]? = some ys[k] := List.getElem?_eq_getElem (by omega)
        have hl2 : k < ys.length := by omega
        generalize ys[k] = v at *
        generalize xs[k] = u at *
        have G1 := Hd.mk g1
        have G2 := Hd.mk g2
        clear g1 g2
        by_cases he : (u != v) = true
        · go_wp2_with fail
          go_quiet (fail)
          go_wp2
          go_ret
          refine ⟨?_, _, World.drewN_drewN w m _⟩
          have : ¬ xs = ys := fun h => by
            have e : some u = some v := by rw [← G1.out, ← G2.out, h]
            simp at e he
            exact he e
          simp [this]
        · have he' : (u != v) = false := by simpa using he
          clear he
          go_wp2_with fail
          go_quiet (fail)
          go_wp2
          go_roundw
          case rel =>
            refine ⟨k + 1, by omega, by go_num, ⟨_, rfl⟩, fun j hj => ?_⟩
            by_cases hjk : j < k
            · exact HS.out j hjk
            · obtain rfl : j = k := by omega
              rw [G1.out, G2.out]
              simp at he'
              rw [he']
          case measure => simp [intOf]; omega
      · go_wp2
        go_ret
        have : xs = ys := List.ext_getElem? fun j => by
          by_cases hj : j < xs.length
          · exact HS.out j (by omega)
          · rw [List.getElem?_eq_none (by omega), List.getElem?_eq_none (by omega)]
        exact ⟨by simp [this], _, rfl⟩
  · have hb : ((xs.length : Int) != (ys.length : Int)) = true := by simp; omega
    go_enter Try.func66, Try.ntmps66
    go_wp2
    go_ret
    exact ⟨by simp; intro h; exact absurd (by rw [h]) hlen, 0, rfl⟩

theorem Wy.cells_length {y : Wy} (h : y.ok) (K : Option Addr) (c : Nat) : (y.cells K c).length = 35 := by simp [Wy.cells, h.len]
theorem Wy.cells_0 (y : Wy) (K : Option Addr) (c : Nat) : (y.cells K c)[0]? = some (.slice K y.keys.length c) := rfl
theorem Wy.cells_33 {y : Wy} (h : y.ok) (K : Option Addr) (c : Nat) : (y.cells K c)[33]? = some (.int .i64 y.after) := by
  simp [Wy.cells, h.len]
theorem Wy.cells_34 {y : Wy} (h : y.ok) (K : Option Addr) (c : Nat) : (y.cells K c)[34]? = some (.int .i64 y.wait) := by
  simp [Wy.cells, h.len]
/-- A way in memory, cell by cell. -/
structure WyCells (w : World) (b o : Nat) (y : Wy) (K : Option Addr) (c : Nat) : Prop where
  keys : w.cell? ⟨b, o, none⟩ = some (.slice K y.keys.length c)
  hash : w.rangeAt b (o + 1) (y.hash.map (Value.int .u8))
  after : w.cell? ⟨b, o + 33, none⟩ = some (.int .i64 y.after)
  wait : w.cell? ⟨b, o + 34, none⟩ = some (.int .i64 y.wait)
theorem WyCells.of {w : World} {b o : Nat} {y : Wy} {K : Option Addr} {c : Nat} (h : w.rangeAt b o (y.cells K c)) (hy : y.ok) : WyCells w b o y K c := by
  refine ⟨?_, fun j v hv => ?_, h 33 _ (Wy.cells_33 hy K c), h 34 _ (Wy.cells_34 hy K c)⟩
  · exact h 0 _ (Wy.cells_0 y K c)
  · have hj := (List.getElem?_eq_some_iff.1 hv).1
    rw [Nat.add_assoc, Nat.add_comm 1 j]
    refine h (j + 1) v ?_
    show ((Value.slice K y.keys.length c :: (y.hash.map (Value.int .u8) ++ [.int .i64 y.after, .int .i64 y.wait])))[j + 1]? = some v
    rw [List.getElem?_cons_succ, List.getElem?_append_left hj]
    exact hv
theorem way_eq (y1 y2 : Wy) : decide (y1 = y2) = (decide (y1.keys = y2.keys) && decide (y1.hash = y2.hash) && (y1.after == y2.after) && (y1.wait == y2.wait)) := by
  obtain ⟨a, b, c, d⟩ := y1
  obtain ⟨a', b', c', d'⟩ := y2
  simp [Bool.decide_and, Bool.and_assoc]
  rfl
set_option maxHeartbeats 1000000 in
theorem same_way (y1 y2 : Wy) (K1 K2 : Option Addr) (c1 c2 : Nat) (w : World) (h1 : Rd (Value.int .i64) w K1 y1.keys) (h2 : Rd (Value.int .i64) w K2 y2.keys) (o1 : y1.ok) (o2 : y2.ok) :
    Calls Try.prog 65 #[.agg (y1.cells K1 c1).toArray, .agg (y2.cells K2 c2).toArray] w fun e w' => e = .returned (.bool (decide (y1 = y2))) ∧ Below w.heap.size w w' := by
  obtain ⟨C1, hC1⟩ : ∃ C1, C1 = (y1.cells K1 c1).toArray := ⟨_, rfl⟩
  obtain ⟨C2, hC2⟩ : ∃ C2, C2 = (y2.cells K2 c2).toArray := ⟨_, rfl⟩
  obtain ⟨W, hW⟩ : ∃ W, (w.alloc (.cells C1 35 (0, 0))).alloc (.cells C2 35 (0, 0)) = W := ⟨_, rfl⟩
  have hB : Below w.heap.size w W := by rw [← hW]; exact ((Below.refl _ w).alloc (Nat.le_refl _) _).alloc (by simp) _
  have x1 : WyCells W w.heap.size 0 y1 K1 c1 := .of (by rw [← hW, hC1]; exact range_al (range_new _ _ _) _) o1
  have x2 : WyCells W (w.heap.size + 1) 0 y2 K2 c2 := .of (by
    rw [← hW, hC2]
    have := range_new (w.alloc (.cells C1 35 (0, 0))) (y2.cells K2 c2) 35
    simpa using this) o2
  have HB := Hd.mk hB
  have l1 := fun n => load_sum (w := W.drewN n) x1.hash o1.len
  have l2 := fun n => load_sum (w := W.drewN n) x2.hash o2.len
  have L1 := Hd.mk l1
  have L2 := Hd.mk l2
  clear l1 l2
  obtain ⟨k1, _, a1, t1⟩ := x1
  obtain ⟨k2, _, a2, t2⟩ := x2
  simp only [Nat.zero_add] at L1 L2 a1 a2 t1 t2
  rw [← hC1, ← hC2]
  have E := fun n => run_equalIn_sum 9998 (W.drewN n) y1.hash y2.hash o1.len o2.len
  clear hB hC1 hC2
  have E2 := way_eq y1 y2
  obtain ⟨r, hr⟩ : ∃ r, decide (y1 = y2) = r := ⟨_, rfl⟩
  rw [hr] at E2 ⊢
  clear hr
  have HE := Hd.mk E2
  clear E2
  have cs : decide (y1.keys = y2.keys) = false ∨ (decide (y1.keys = y2.keys) = true ∧ decide (y1.hash = y2.hash) = false) ∨ (decide (y1.keys = y2.keys) = true ∧ decide (y1.hash = y2.hash) = true ∧ (y1.after == y2.after) = false) ∨ (decide (y1.keys = y2.keys) = true ∧ decide (y1.hash = y2.hash) = true ∧ (y1.after == y2.after) = true ∧ (y1.wait == y2.wait) = false) ∨ (decide (y1.keys = y2.keys) = true ∧ decide (y1.hash = y2.hash) = true ∧ (y1.after == y2.after) = true ∧ (y1.wait == y2.wait) = true) := by
    cases decide (y1.keys = y2.keys) <;> cases decide (y1.hash = y2.hash) <;> cases (y1.after == y2.after) <;> cases (y1.wait == y2.wait) <;> simp
  have H1 := h1.below HB.out
  have H2 := h2.below HB.out
  have K1' := o1.keys
  rcases cs with q1 | ⟨q1, q2⟩ | ⟨q1, q2, q3⟩ | ⟨q1, q2, q3, q4⟩ | ⟨q1, q2, q3, q4⟩
  all_goals
    have X1 := Hd.mk q1
    have hr : Hd (r = _) := HE
    rw [q1] at hr
    clear q1
    try rw [q2] at E hr
    try clear q2
    try rw [q3] at hr
    try rw [q4] at hr
    simp only [Bool.and_true, Bool.and_false, Bool.false_and] at hr
    go_enter Try.func65, Try.ntmps65
    go_wp2_with (first
      | (go_at_call 66; refine (slices_Equal_int _ _ _ _ _ _ _ H1 H2 K1').mono ?_; rintro e w' ⟨rfl, n, rfl⟩; rw [X1.out])
      | (refine wpList_ld (by rfl) 23 _ (by rfl) (by rfl) (L1.out _) ?_)
      | (refine wpList_ld (by rfl) 23 _ (by rfl) (by rfl) (L2.out _) ?_))
    go_ret
    exact ⟨by rw [hr.out]; rfl, below_drewN HB.out _⟩

end Go.Proofs.Ythhgfcfcgbjleaa
