/- lock.Same: are two outs alike? (The rest.) -/
import Derived.Test.YthhgfcfcgbjleaaSm
namespace Go.Proofs.Ythhgfcfcgbjleaa
open Go.RowKit
set_option maxRecDepth 100000

theorem load_way {w : World} {b o : Nat} {y : Wy} {K : Option Addr} {c : Nat} (h : w.rangeAt b o (y.cells K c)) (hy : y.ok) :
    (Instr.loadAt 35 (.pointer (some ⟨b, o, none⟩))).run Try.prog w = .ok (.agg (y.cells K c).toArray) w :=
  run_loadAt_mid w b o _ _ _ h Try.underlying35 rfl (by rw [Wy.cells_length hy]; kernel_rfl)
theorem load_cells {w : World} {b : Nat} {C : Array Value} {t : TypeId} (h : w.heap[b]? = some (.cells C 35 (0, 0))) (hs : C.size = 35) (_ht : t = 35) :
    (Instr.loadAt 35 (.pointer (some ⟨b, 0, none⟩))).run Try.prog w = .ok (.agg C) w := by
  have hr : w.rangeAt b 0 C.toList := fun j v hv => by
    rw [Nat.zero_add, cell_of_row _ _ _ _ _ _ h]
    simpa using hv
  have := run_loadAt_mid (P := Try.prog) w b 0 35 C.toList _ hr Try.underlying35 rfl (by rw [Array.length_toList, hs]; kernel_rfl)
  simpa using this
theorem store_new_way (w : World) (C c : Array Value) (hC : C.size = 35) (h1 : C.all (·.oneCell') = true) (hc : c.size = 35) :
    (Instr.storeAt 35 (.pointer (some ⟨w.heap.size, 0, none⟩)) (.agg C)).run Try.prog (w.alloc (.cells c 35)) = .ok () (w.alloc (.cells C 35)) :=
  run_storeAt_new w 35 c C (by rw [hC]; kernel_rfl) (by omega) h1
theorem Wy.cells_one (y : Wy) (K : Option Addr) (c : Nat) : (y.cells K c).toArray.all (·.oneCell') = true := by
  apply all_oneCell_toArray
  intro v hv
  simp [Wy.cells] at hv
  rcases hv with rfl | ⟨a, _, rfl⟩ | rfl | rfl <;> rfl

set_option maxHeartbeats 4000000 in
theorem ways_Equal (A B : Option Addr) (c d : Nat) (xs ys : List Wy) (w : World) (hx : RdW w A xs) (hy : RdW w B ys) (hl : xs.length ≤ 4611686018427387904) (ox : ∀ y ∈ xs, y.ok) (oy : ∀ y ∈ ys, y.ok) :
    Calls Try.prog 64 #[.slice A xs.length c, .slice B ys.length d, .func (.func 65) #[] #[]] w fun e w' => e = .returned (.bool (decide (xs = ys))) ∧ Below w.heap.size w w' := by
  by_cases hlen : xs.length = ys.length
  · obtain ⟨n, hn⟩ : ∃ n, xs.length = n := ⟨_, rfl⟩
    have HM : Hd (ys.length = n) := ⟨by omega⟩
    rw [hn] at hl ⊢
    rw [HM.out]
    have HN := Hd.mk hn
    clear hlen hn
    go_enter Try.func64, Try.ntmps64
    go_wp2
    go_loopw [17] (fun i wr => ∃ k : Nat, k ≤ n ∧ i = .int .i64 k ∧ Below w.heap.size w wr ∧ ∀ j, j < k → xs[j]? = ys[j]?) (fun i _ => n - (intOf i).toNat)
    case atStart => exact ⟨0, Nat.zero_le _, rfl, Below.refl _ _, fun j hj => by omega⟩
    case round =>
      obtain ⟨k, hk, rfl, hB, hs⟩ := hrel
      have HS := Hd.mk hs
      clear hs
      by_cases hlt : k < n
      · have hk1 : k < xs.length := by rw [HN.out]; exact hlt
        have hk2 : k < ys.length := by rw [HM.out]; exact hlt
        have g1 : xs[k]? = some xs[k] := List.getElem?_eq_getElem hk1
        have g2 : ys[k]? = some ys[k] := List.getElem?_eq_getElem hk2
        obtain ⟨b1, q1, rfl, hw1⟩ := (hx.below hB) k _ g1
        obtain ⟨b2, q2, rfl, hw2⟩ := (hy.below hB) k _ g2
        have z1 := ox xs[k] (List.getElem_mem hk1)
        have z2 := oy ys[k] (List.getElem_mem hk2)
        generalize ys[k] = y2 at *
        generalize xs[k] = y1 at *
        obtain ⟨K1, d1, r1, e1⟩ := hw1
        obtain ⟨K2, d2, r2, e2⟩ := hw2
        have L1 := Hd.mk (load_way r1 z1)
        obtain ⟨C1, hC1⟩ : ∃ C1, C1 = (y1.cells K1 d1).toArray := ⟨_, rfl⟩
        obtain ⟨C2, hC2⟩ : ∃ C2, C2 = (y2.cells K2 d2).toArray := ⟨_, rfl⟩
        have s1 : C1.size = 35 := by rw [hC1, List.size_toArray, Wy.cells_length z1]
        have s2 : C2.size = 35 := by rw [hC2, List.size_toArray, Wy.cells_length z2]
        have n1 := Wy.cells_one y1 K1 d1
        have n2 := Wy.cells_one y2 K2 d2
        rw [← hC1] at L1 n1
        rw [← hC2] at n2
        obtain ⟨W1, hW1⟩ : ∃ W1, wr.alloc (.cells C1 35 (0, 0)) = W1 := ⟨_, rfl⟩
        obtain ⟨W2, hW2⟩ : ∃ W2, W1.alloc (.cells C2 35 (0, 0)) = W2 := ⟨_, rfl⟩
        have hb1 : Below wr.heap.size wr W1 := by rw [← hW1]; exact (Below.refl _ _).alloc (Nat.le_refl _) _
        have hz1 : W1.heap.size = wr.heap.size + 1 := by rw [← hW1]; simp
        have hb2 : Below wr.heap.size wr W2 := by rw [← hW2]; exact hb1.alloc (by omega) _
        have L2 := Hd.mk (load_way (w := W1) (fun j v hv => cell_below hb1 (Nat.le_refl _) (r2 j v hv)) z2)
        rw [← hC2] at L2
        obtain ⟨Z, hZ⟩ : ∃ Z, (#[.slice none 0 0, .int .u8 0, .int .u8 0, .int .u8 0, .int .u8 0, .int .u8 0, .int .u8 0, .int .u8 0, .int .u8 0, .int .u8 0, .int .u8 0, .int .u8 0, .int .u8 0, .int .u8 0, .int .u8 0, .int .u8 0, .int .u8 0, .int .u8 0, .int .u8 0, .int .u8 0, .int .u8 0, .int .u8 0, .int .u8 0, .int .u8 0, .int .u8 0, .int .u8 0, .int .u8 0, .int .u8 0, .int .u8 0, .int .u8 0, .int .u8 0, .int .u8 0, .int .u8 0, .int .i64 0, .int .i64 0] : Array Value) = Z := ⟨_, rfl⟩
        have sZ : Z.size = 35 := by rw [← hZ]; rfl
        have S1 := Hd.mk (store_new_way wr C1 Z s1 n1 sZ)
        have S2 := Hd.mk (store_new_way W1 C2 Z s2 n2 sZ)
        clear sZ
        rw [hW1] at S1
        rw [hW2, hz1] at S2
        have a1 : W2.heap[wr.heap.size]? = some (.cells C1 35 (0, 0)) := by
          rw [← hW2, Below.heap_alloc _ _ _ (by omega), ← hW1]; exact heap_alloc_new _ _
        have a2 : W2.heap[wr.heap.size + 1]? = some (.cells C2 35 (0, 0)) := by
          rw [← hW2, ← hz1]; exact heap_alloc_new _ _
        have L3 := Hd.mk (load_cells a1 s1 rfl)
        have L4 := Hd.mk (load_cells a2 s2 rfl)
        have HB := Hd.mk (hB.trans (hb2.mono hB.size))
        have T1 := Hd.mk (e1.below hb2)
        have T2 := Hd.mk (e2.below hb2)
        have X1 := Hd.mk hC1
        have X2 := Hd.mk hC2
        have HX := Hd.mk hx
        have HY := Hd.mk hy
        have G1 := Hd.mk g1
        have G2 := Hd.mk g2
        clear hk1 hk2 g1 g2 a1 a2 hb1 hb2 hB r1 r2 e1 e2 hC1 hC2 n1 n2 s1 s2 hx hy
        have hsz2 : w.heap.size ≤ W2.heap.size := HB.out.size
        cases hr : decide (y1 = y2)
        · have R := Hd.mk hr
          clear hr
          go_wp2_with (first
            | (go_at_call 65; rw [X1.out, X2.out]; refine (same_way y1 y2 K1 K2 d1 d2 _ T1.out T2.out z1 z2).mono ?_; rintro e w' ⟨rfl, hb3⟩; rw [R.out])
            | (refine wpList_ld (by rfl) 35 (.tmp 20) (by rfl) (by rfl) L1.out ?_)
            | (refine wpList_ld (by rfl) 35 (.tmp 24) (by rfl) (by rfl) L2.out ?_)
            | (refine wpList_ld (by rfl) 35 (.tmp 8) (by rfl) (by rfl) L3.out ?_)
            | (refine wpList_ld (by rfl) 35 (.tmp 9) (by rfl) (by rfl) L4.out ?_)
            | (refine wpList_sto (by rfl) 35 (.tmp 8) (.tmp 21) (by rfl) (by rfl) (by rfl) S1.out ?_)
            | (refine wpList_sto (by rfl) 35 (.tmp 9) (.tmp 25) (by rfl) (by rfl) (by rfl) S2.out ?_))
          go_ret
          refine ⟨?_, HB.out.trans (hb3.mono hsz2)⟩
          have : ¬ xs = ys := fun h => by
            have e : some y1 = some y2 := by rw [← G1.out, ← G2.out, h]
            have := R.out
            simp at e this
            exact this e
          simp [this]
        · have R := Hd.mk hr
          clear hr
          go_wp2_with (first
            | (go_at_call 65; rw [X1.out, X2.out]; refine (same_way y1 y2 K1 K2 d1 d2 _ T1.out T2.out z1 z2).mono ?_; rintro e w' ⟨rfl, hb3⟩; rw [R.out])
            | (refine wpList_ld (by rfl) 35 (.tmp 20) (by rfl) (by rfl) L1.out ?_)
            | (refine wpList_ld (by rfl) 35 (.tmp 24) (by rfl) (by rfl) L2.out ?_)
            | (refine wpList_ld (by rfl) 35 (.tmp 8) (by rfl) (by rfl) L3.out ?_)
            | (refine wpList_ld (by rfl) 35 (.tmp 9) (by rfl) (by rfl) L4.out ?_)
            | (refine wpList_sto (by rfl) 35 (.tmp 8) (.tmp 21) (by rfl) (by rfl) (by rfl) S1.out ?_)
            | (refine wpList_sto (by rfl) 35 (.tmp 9) (.tmp 25) (by rfl) (by rfl) (by rfl) S2.out ?_))
          go_roundw
          case rel =>
            refine ⟨k + 1, by omega, by go_num, HB.out.trans (hb3.mono hsz2), fun j hj => ?_⟩
            by_cases hjk : j < k
            · exact HS.out j hjk
            · obtain rfl : j = k := by omega
              have := R.out
              simp at this
              rw [G1.out, G2.out, this]
          case measure => simp [intOf]; omega
      · go_wp2
        go_ret
        have : xs = ys := List.ext_getElem? fun j => by
          have h1 := HN.out
          have h2 := HM.out
          by_cases hj : j < xs.length
          · exact HS.out j (by omega)
          · rw [List.getElem?_eq_none (by omega), List.getElem?_eq_none (by omega)]
        exact ⟨by simp [this], hB⟩
  · have hb : ((xs.length : Int) != (ys.length : Int)) = true := by simp; omega
    go_enter Try.func64, Try.ntmps64
    go_wp2
    go_ret
    exact ⟨by simp; intro h; exact absurd (by rw [h]) hlen, Below.refl _ _⟩

set_option maxHeartbeats 1000000 in
theorem lock_Same (u v : Value) (o1 o2 : Ou) (w : World) (h1 : OutIs w u o1) (h2 : OutIs w v o2) :
    Calls Try.prog 12 #[u, v] w fun e w' => e = .returned (.bool (decide (o1 = o2))) ∧ Below w.heap.size w w' := by
  obtain ⟨A, c, rfl, r1, k1, l1⟩ := h1
  obtain ⟨B, d, rfl, r2, k2, l2⟩ := h2
  obtain ⟨W, hW⟩ : ∃ W, (w.alloc (.cells #[.int .i64 o1.amount, .slice A o1.ways.length c] 31 (0, 0))).alloc (.cells #[.int .i64 o2.amount, .slice B o2.ways.length d] 31 (0, 0)) = W := ⟨_, rfl⟩
  have hB : Below w.heap.size w W := by rw [← hW]; exact ((Below.refl _ w).alloc (Nat.le_refl _) _).alloc (by simp) _
  have a0 : W.cell? ⟨w.heap.size, 0, none⟩ = some (.int .i64 o1.amount) := by rw [← hW]; exact cell_al (cell_new _ _ _ _ _ rfl) _
  have a1 : W.cell? ⟨w.heap.size, 1, none⟩ = some (.slice A o1.ways.length c) := by rw [← hW]; exact cell_al (cell_new _ _ _ _ _ rfl) _
  have hs : (w.alloc (.cells #[.int .i64 o1.amount, .slice A o1.ways.length c] 31 (0, 0))).heap.size = w.heap.size + 1 := by simp
  have b0 : W.cell? ⟨w.heap.size + 1, 0, none⟩ = some (.int .i64 o2.amount) := by rw [← hW, ← hs]; exact cell_new _ _ _ _ _ rfl
  have b1 : W.cell? ⟨w.heap.size + 1, 1, none⟩ = some (.slice B o2.ways.length d) := by rw [← hW, ← hs]; exact cell_new _ _ _ _ _ rfl
  have hsz : w.heap.size ≤ W.heap.size := hB.size
  have HB := Hd.mk hB
  have R1 := Hd.mk (r1.below hB)
  have R2 := Hd.mk (r2.below hB)
  clear hs hB r1 r2
  have hd : decide (o1 = o2) = ((o1.amount == o2.amount) && decide (o1.ways = o2.ways)) := by
    obtain ⟨a, b⟩ := o1
    obtain ⟨a', b'⟩ := o2
    simp [Bool.decide_and]
    rfl
  rw [hd]
  clear hd
  cases hq : (o1.amount == o2.amount)
  all_goals
    go_enter Try.func12, Try.ntmps12
    go_wp2_with (go_at_call 64; refine (ways_Equal A B c d _ _ _ R1.out R2.out l1 k1 k2).mono ?_; rintro e w' ⟨rfl, hb⟩)
    go_ret
    first
      | exact ⟨rfl, HB.out⟩
      | exact ⟨rfl, HB.out.trans (hb.mono hsz)⟩
end Go.Proofs.Ythhgfcfcgbjleaa
