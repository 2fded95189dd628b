/- commit.Build: the commitment of a state. -/
import Derived.Test.YthhgfcfcgbjleaaTx
import Derived.Deep.DeepCutAuto
import Derived.Deep.CutRange
import Derived.Deep.RegionHeld3
import Derived.Deep.MidRow
namespace Go.Proofs.Ythhgfcfcgbjleaa
open Go.RowKit
set_option maxRecDepth 100000
set_option linter.unusedSimpArgs false

theorem range_dr {w : World} {b o : Nat} {l : List Value} (h : w.rangeAt b o l) : w.drew.rangeAt b o l := h
theorem list32 {l : List Int} (h : l.length = 32) : ∃ x0 x1 x2 x3 x4 x5 x6 x7 x8 x9 x10 x11 x12 x13 x14 x15 x16 x17 x18 x19 x20 x21 x22 x23 x24 x25 x26 x27 x28 x29 x30 x31, l = [x0, x1, x2, x3, x4, x5, x6, x7, x8, x9, x10, x11, x12, x13, x14, x15, x16, x17, x18, x19, x20, x21, x22, x23, x24, x25, x26, x27, x28, x29, x30, x31] := by
  match l, h with
  | [x0, x1, x2, x3, x4, x5, x6, x7, x8, x9, x10, x11, x12, x13, x14, x15, x16, x17, x18, x19, x20, x21, x22, x23, x24, x25, x26, x27, x28, x29, x30, x31], _ => exact ⟨x0, x1, x2, x3, x4, x5, x6, x7, x8, x9, x10, x11, x12, x13, x14, x15, x16, x17, x18, x19, x20, x21, x22, x23, x24, x25, x26, x27, x28, x29, x30, x31, rfl⟩
/-- Two new ways. -/
theorem ways2 {w : World} {g : Nat} {y0 y1 : Wy} {K0 K1 : Option Addr} {c0 c1 : Nat} {t : TypeId} (h : w.heap[g]? = some (.cells (y0.cells K0 c0 ++ y1.cells K1 c1).toArray t (0, 0))) (ok0 : y0.ok) (_ok1 : y1.ok)
    (r0 : Rd (Value.int .i64) w K0 y0.keys) (r1 : Rd (Value.int .i64) w K1 y1.keys) : RdW w (some ⟨g, 0, none⟩) [y0, y1] := fun j y hy => by
  have hr := range_of h
  have l0 := Wy.cells_length ok0 K0 c0
  match j, hy with
  | 0, hy =>
    simp at hy
    subst hy
    refine ⟨g, 0, rfl, K0, c0, fun i v hv => ?_, r0⟩
    have := hr i v (by rw [List.getElem?_append_left (List.getElem?_eq_some_iff.1 hv).1]; exact hv)
    simpa using this
  | 1, hy =>
    simp at hy
    subst hy
    refine ⟨g, 0, rfl, K1, c1, fun i v hv => ?_, r1⟩
    have := hr (35 + i) v (by rw [List.getElem?_append_right (by omega), l0, Nat.add_sub_cancel_left]; exact hv)
    simpa using this
/-- What lies behind the owner's part. -/
def OwnOut (W w' : World) (v : Value) (am : Int) (ys : List Wy) : Prop :=
  ∃ g B, v = .pointer (some ⟨g, 0, none⟩) ∧ W.heap.size ≤ g ∧ w'.rangeAt g 0 [.int .i64 am, .slice B 2 2] ∧ (Fresh W.heap.size w' fun W' => RdW W' B ys) ∧ Below W.heap.size W w'
theorem ownOut_mk {W w' : World} {g bB k0 k1 : Nat} {am me other wt : Int} {hs : List Int} (ok : hs.length = 32) (okx : ∀ x ∈ hs, 0 ≤ x ∧ x ≤ 255)
    (hO : w'.heap[g]? = some (.cells #[.int .i64 am, .slice (some ⟨bB, 0, none⟩) 2 2] 31 (0, 0)))
    (hW : w'.heap[bB]? = some (.cells ((⟨[me], zeros, 0, wt⟩ : Wy).cells (some ⟨k0, 0, none⟩) 1 ++ (⟨[other], hs, 0, 0⟩ : Wy).cells (some ⟨k1, 0, none⟩) 1).toArray 35 (0, 0)))
    (h0 : w'.heap[k0]? = some (.cells #[.int .i64 me] 3 (0, 0))) (h1 : w'.heap[k1]? = some (.cells #[.int .i64 other] 3 (0, 0))) (hB : Below W.heap.size W w') (hg : W.heap.size ≤ g) (gB : W.heap.size ≤ bB) (g0 : W.heap.size ≤ k0) (g1 : W.heap.size ≤ k1) :
    OwnOut W w' (.pointer (some ⟨g, 0, none⟩)) am [⟨[me], zeros, 0, wt⟩, ⟨[other], hs, 0, 0⟩] :=
  ⟨_, _, rfl, hg, range_of hO, fun W' hE => ways2 ((hE _ gB (heap_lt hW)).trans hW) ⟨rfl, by simp, zeros_ok⟩ ⟨ok, by simp, okx⟩ (rd_of ((hE _ g0 (heap_lt h0)).trans h0)) (rd_of ((hE _ g1 (heap_lt h1)).trans h1)), hB⟩
theorem there_dr {w : World} {b o n : Nat} (h : w.there b o n) : w.drew.there b o n := h
theorem there_below {w w' : World} (hb : Below w.heap.size w w') {b o n : Nat} (h : w.there b o n) : w'.there b o n := fun j hj => by
  obtain ⟨h1, h2⟩ := h j hj
  obtain ⟨u, hu⟩ := Option.isSome_iff_exists.1 h1
  have hlt := World.block_lt_of_cell? w _ hu
  exact ⟨by rw [hb.cell hlt]; exact h1, by rw [hb.frozen hlt]; exact h2⟩
theorem cell_stc {w : World} {a : Addr} {v : Value} {b o : Nat} {l : List Value} (h : w.cell? a = some v) (hb : a.block ≠ b) : (w.setCells b o l).cell? a = some v := by
  rw [World.cell?_setCells_out b l o w a (fun e _ => absurd e hb)]
  exact h
/-- The commitment, by its owner's key and amount, and the other one's. -/
def buildT (c : Chn) (me other mine hers : Int) (hash : List Int) : Txx :=
  ⟨[⟨c.tx, c.at_, 0, []⟩], [⟨mine, [⟨[me], zeros, 0, c.wait⟩, ⟨[other], hash, 0, 0⟩]⟩, ⟨hers, [⟨[other], zeros, 0, 0⟩]⟩], opp0, []⟩

theorem heap_sc_eq (b k : Nat) (hk : k ≠ b) : ∀ (l : List Value) (o : Nat) (w : World), (w.setCells b o l).heap[k]? = w.heap[k]?
  | [], _, _ => rfl
  | v :: r, o, w => by
    rw [World.setCells, heap_sc_eq b k hk r (o + 1) _, Below.heap_setCell _ _ _ _ hk]
theorem heap_sc {w : World} {b o : Nat} {l : List Value} {k : Nat} {x : Obj} (h : w.heap[k]? = some x) (hk : k ≠ b) : (w.setCells b o l).heap[k]? = some x :=
  (heap_sc_eq b k hk l o w).trans h
/-- The commitment, off the blocks that hold it. -/
theorem buildT_is {Wf : World} {ia oa : Nat} {c : Chn} {me other mine hers : Int} {hash : List Int} {B C' : Option Addr} {c' : Nat} {ti to_ : TypeId} (ht : c.tx.length = 32)
    (hI : Wf.heap[ia]? = some (.cells ((⟨c.tx, c.at_, 0, []⟩ : Inn).cells none 0).toArray ti (0, 0)))
    (hO : Wf.heap[oa]? = some (.cells #[.int .i64 mine, .slice B 2 2, .int .i64 hers, .slice C' 1 c'] to_ (0, 0)))
    (hB : RdW Wf B [⟨[me], zeros, 0, c.wait⟩, ⟨[other], hash, 0, 0⟩]) (hh : hash.length = 32) (hx : ∀ x ∈ hash, 0 ≤ x ∧ x ≤ 255)
    (hC : OutIs Wf (.agg #[.int .i64 hers, .slice C' 1 c']) ⟨hers, [⟨[other], zeros, 0, 0⟩]⟩) :
    TxIs Wf (.agg (txCells (buildT c me other mine hers hash) (some ⟨ia, 0, none⟩) 1 (some ⟨oa, 0, none⟩) 2 none 0 none 0).toArray) (buildT c me other mine hers hash) := by
  obtain ⟨A2, c2, e2, hC1, hC2, hC3⟩ := hC
  simp at e2
  obtain ⟨rfl, rfl⟩ := e2
  refine ⟨_, _, _, _, _, _, _, _, _, rfl, rfl, fun j x hj => ?_, ?_, by simp [buildT], fun j x hj => ?_, by simp [buildT], ⟨rfl, by simp [buildT, opp0]⟩, fun j x hj => by simp [buildT, opp0] at hj, fun j x hj => by simp [buildT] at hj, by simp [buildT]⟩
  · match j, hj with
    | 0, hj =>
      simp [buildT] at hj
      subst hj
      exact ⟨_, _, rfl, none, 0, by simpa using range_of hI, fun j x hj => by simp at hj⟩
  · intro x hx'
    simp [buildT] at hx'
    subst hx'
    exact ⟨ht, by simp⟩
  · have hr := range_of hO
    match j, hj with
    | 0, hj =>
      simp [buildT] at hj
      subst hj
      refine ⟨_, _, rfl, B, 2, fun i v hv => ?_, hB, ?_, by simp⟩
      · have := hr i v (by match i, hv with | 0, hv => exact hv | 1, hv => exact hv)
        simpa using this
      · intro y hy
        simp at hy
        rcases hy with rfl | rfl
        · exact ⟨rfl, by simp, zeros_ok⟩
        · exact ⟨hh, by simp, hx⟩
    | 1, hj =>
      simp [buildT] at hj
      subst hj
      refine ⟨_, _, rfl, C', c', fun i v hv => ?_, hC1, hC2, by simp⟩
      have := hr (2 + i) v (by match i, hv with | 0, hv => exact hv | 1, hv => exact hv)
      simpa using this
theorem heap_bl {n : Nat} {w w' : World} {k : Nat} {x : Obj} (h : w.heap[k]? = some x) (hb : Below n w w') (hn : n = w.heap.size) : w'.heap[k]? = some x := by
  rw [hb.block k (by rw [hn]; exact heap_lt h)]; exact h
theorem bel_call {n B : Nat} {a w w' : World} (h : Below B a w) (hb : Below n w w') (hn : B ≤ n) : Below B a w' := h.trans (hb.mono hn)
theorem bel_sc {B : Nat} {a : World} {b : Nat} (hb : B ≤ b) : ∀ (l : List Value) (o : Nat) (w : World), Below B a w → Below B a (w.setCells b o l)
  | [], _, _, h => h
  | v :: r, o, w, h => by
    rw [World.setCells]
    exact bel_sc hb r (o + 1) _ (h.setCell hb v)
/-- What stands behind the state's own test. -/
structure AfterR (c : Chn) (s : Sta) (w w1 : World) : Prop where
  chn : Hd (ChnAt w1 w.heap.size c)
  sta : Hd (StaAt w1 (w.heap.size + 1) s)
  tx : Hd (w1.heap[w.heap.size + 2]? = some (.cells (txCells tx0 none 0 none 0 none 0 none 0).toArray 45 (0, 0)))
  below : Hd (Below w.heap.size w w1)
  size : w.heap.size + 3 ≤ w1.heap.size

/-- The world behind the boxes. -/
structure Boxed (c : Chn) (s : Sta) (w W : World) (C S : Array Value) : Prop where
  world : ((w.alloc (.cells C 27 (0, 0))).alloc (.cells S 77 (0, 0))).alloc (.cells (txCells tx0 none 0 none 0 none 0 none 0).toArray 45 (0, 0)) = W
  lc : Hd ((Instr.loadAt 27 (.pointer (some ⟨w.heap.size, 0, none⟩))).run Try.prog W = .ok (.agg C) W)
  ls : Hd ((Instr.loadAt 77 (.pointer (some ⟨w.heap.size + 1, 0, none⟩))).run Try.prog W = .ok (.agg S) W)
  right : ∀ b, rsB c s = b → Calls Try.prog 41 #[.agg C, .agg S] W fun e w1 => e = .returned (.bool b) ∧ AfterR c s w w1

theorem boxed (c : Chn) (s : Sta) (ht : c.tx.length = 32) (hh : s.h0.length = 32) (hg : s.h1.length = 32) (w : World) : ∃ W, Boxed c s w W c.cells.toArray s.cells.toArray := by
  obtain ⟨W, hW⟩ : ∃ W, ((w.alloc (.cells c.cells.toArray 27 (0, 0))).alloc (.cells s.cells.toArray 77 (0, 0))).alloc (.cells (txCells tx0 none 0 none 0 none 0 none 0).toArray 45 (0, 0)) = W := ⟨_, rfl⟩
  have z1 : (w.alloc (.cells c.cells.toArray 27 (0, 0))).heap.size = w.heap.size + 1 := by simp
  have z2 : ((w.alloc (.cells c.cells.toArray 27 (0, 0))).alloc (.cells s.cells.toArray 77 (0, 0))).heap.size = w.heap.size + 2 := by simp
  have z3 : W.heap.size = w.heap.size + 3 := by rw [← hW]; simp
  have hB : Below w.heap.size w W := by rw [← hW]; exact (((Below.refl _ w).alloc (Nat.le_refl _) _).alloc (by simp) _).alloc (by rw [z2]; omega) _
  have rC : W.rangeAt w.heap.size 0 c.cells := by rw [← hW]; exact range_al (range_al (range_new _ _ _) _) _
  have rS : W.rangeAt (w.heap.size + 1) 0 s.cells := by
    rw [← hW, ← z1]
    exact range_al (range_new _ _ _) _
  have hT : W.heap[w.heap.size + 2]? = some (.cells (txCells tx0 none 0 none 0 none 0 none 0).toArray 45 (0, 0)) := by
    rw [← hW, ← z2]
    exact heap_alloc_new _ _
  refine ⟨W, hW, ⟨load_chn rC ht⟩, ⟨load_sta rS hh hg⟩, fun b hb => ?_⟩
  refine (commit_Right c s ht hh hg W).mono ?_
  rintro e w1 ⟨rfl, hb1⟩
  rw [hb]
  refine ⟨rfl, ⟨(ChnAt.of rC ht).below hb1 (Nat.le_refl _)⟩, ⟨(StaAt.of rS hh).below hb1 (Nat.le_refl _)⟩, ⟨?_⟩, ⟨hB.trans (hb1.mono hB.size)⟩, by have := hb1.size; omega⟩
  rw [hb1.block _ (by omega)]
  exact hT

set_option maxHeartbeats 4000000 in
theorem commit_Build1 (c : Chn) (s : Sta) (ht : c.tx.length = 32) (hh : s.h0.length = 32) (hg : s.h1.length = 32) (hok : ∀ x ∈ s.h1, 0 ≤ x ∧ x ≤ 255) (hr : rsB c s = true) (w : World) :
    Calls Try.prog 37 #[.agg c.cells.toArray, .agg s.cells.toArray, .int .i64 1] w fun e w' =>
      (∃ v, e = .returned (.tuple #[v, .int .i64 0]) ∧ TxIs w' v (buildT c c.peer c.client s.peer s.client s.h1)) ∧ Below w.heap.size w w' := by
  obtain ⟨W, hb⟩ := boxed c s ht hh hg w
  generalize c.cells.toArray = C at *
  generalize s.cells.toArray = S at *
  obtain ⟨hW, LC, LS, hR⟩ := hb
  have RT := hR true hr
  clear hR hr
  obtain ⟨Z, hZ⟩ : ∃ Z, (txCells tx0 none 0 none 0 none 0 none 0).toArray = Z := ⟨_, rfl⟩
  rw [hZ] at hW
  have HT := Hd.mk ht
  have HH := Hd.mk hh
  have HG := Hd.mk hg
  clear ht hh hg
  have HZ := Hd.mk hZ
  have hZ' : (#[.slice none 0 0, .slice none 0 0, .int .i64 0, .int .i64 0, .int .i64 0, .int .i64 0, .int .u8 0, .int .u8 0, .int .u8 0, .int .u8 0, .int .u8 0, .int .u8 0, .int .u8 0, .int .u8 0, .int .u8 0, .int .u8 0, .int .u8 0, .int .u8 0, .int .u8 0, .int .u8 0, .int .u8 0, .int .u8 0, .int .u8 0, .int .u8 0, .int .u8 0, .int .u8 0, .int .u8 0, .int .u8 0, .int .u8 0, .int .u8 0, .int .u8 0, .int .u8 0, .int .u8 0, .int .u8 0, .int .u8 0, .int .u8 0, .int .u8 0, .int .u8 0, .slice none 0 0, .slice none 0 0] : Array Value) = Z := hZ
  clear hZ
  go_enter Try.func37, Try.ntmps37
  go_upto_region 3 with (first
    | (go_at_call 41; refine RT.mono ?_; rintro e w1 ⟨rfl, hA⟩)
    | (refine wpList_ld (by rfl) 27 (.tmp 3) (by rfl) (by rfl) LC.out ?_)
    | (refine wpList_ld (by rfl) 77 (.tmp 4) (by rfl) (by rfl) LS.out ?_))
  obtain ⟨H1, H2, H3, H4, hsz⟩ := hA
  obtain ⟨-, c1, c2, hfund, hat, -, c5, -⟩ := H1.out
  obtain ⟨-, s1, s2, -, h1⟩ := H2.out
  have L1 := fun n => load_sum (w := w1.drewN n) h1 HG.out
  have HL := Hd.mk L1
  have HF := Hd.mk hfund
  have HA := Hd.mk hat
  clear h1 hfund L1 hat
  go_quiet (fail)
  rename Nat => n1
  go_upto_region 5 with (fail)
  go_quiet (fail)
  rename Nat => n2
  go_upto_region 6 with (fail)
  obtain ⟨W2, hW2⟩ : ∃ W2, W2 = (w1.drewN n1).drewN n2 := ⟨_, rfl⟩
  rw [← hW2]
  have k5 : W2.cell? ⟨w.heap.size, 37, none⟩ = some (.int .i64 c.wait) := by rw [hW2]; exact c5
  obtain ⟨hs, hhs⟩ : ∃ hs, s.h1 = hs := ⟨_, rfl⟩
  obtain ⟨x0, x1, x2, x3, x4, x5, x6, x7, x8, x9, x10, x11, x12, x13, x14, x15, x16, x17, x18, x19, x20, x21, x22, x23, x24, x25, x26, x27, x28, x29, x30, x31, hx⟩ := list32 HG.out
  have kr : W2.rangeAt (w.heap.size + 1) 35 [.int .u8 x0, .int .u8 x1, .int .u8 x2, .int .u8 x3, .int .u8 x4, .int .u8 x5, .int .u8 x6, .int .u8 x7, .int .u8 x8, .int .u8 x9, .int .u8 x10, .int .u8 x11, .int .u8 x12, .int .u8 x13, .int .u8 x14, .int .u8 x15, .int .u8 x16, .int .u8 x17, .int .u8 x18, .int .u8 x19, .int .u8 x20, .int .u8 x21, .int .u8 x22, .int .u8 x23, .int .u8 x24, .int .u8 x25, .int .u8 x26, .int .u8 x27, .int .u8 x28, .int .u8 x29, .int .u8 x30, .int .u8 x31] := by
    have := H2.out.h1
    rw [hx] at this
    rw [hW2]
    exact this
  have HW := Hd.mk hW2
  have HXS := Hd.mk hx
  have hu := Try.underlying23
  have hi : (Try.prog.info? 23).map (·.size) = some 32 := by kernel_rfl
  clear hW2 hx hhs hs c1 c2 s1 s2 c5
  have okx : ∀ x ∈ [x0, x1, x2, x3, x4, x5, x6, x7, x8, x9, x10, x11, x12, x13, x14, x15, x16, x17, x18, x19, x20, x21, x22, x23, x24, x25, x26, x27, x28, x29, x30, x31], 0 ≤ x ∧ x ≤ 255 := by rw [← HXS.out]; exact hok
  have HOK := Hd.mk okx
  clear okx hok
  go_cut [12] from 44 to 58 (fun s12 w' => OwnOut W2 w' s12 s.peer [⟨[c.peer], zeros, 0, c.wait⟩, ⟨[c.client], [x0, x1, x2, x3, x4, x5, x6, x7, x8, x9, x10, x11, x12, x13, x14, x15, x16, x17, x18, x19, x20, x21, x22, x23, x24, x25, x26, x27, x28, x29, x30, x31], 0, 0⟩])
  case first =>
    go_region_held3 (fun w' => w'.cell? ⟨w.heap.size, 37, none⟩ = some (.int .i64 c.wait) ∧ w'.rangeAt (w.heap.size + 1) 35 [.int .u8 x0, .int .u8 x1, .int .u8 x2, .int .u8 x3, .int .u8 x4, .int .u8 x5, .int .u8 x6, .int .u8 x7, .int .u8 x8, .int .u8 x9, .int .u8 x10, .int .u8 x11, .int .u8 x12, .int .u8 x13, .int .u8 x14, .int .u8 x15, .int .u8 x16, .int .u8 x17, .int .u8 x18, .int .u8 x19, .int .u8 x20, .int .u8 x21, .int .u8 x22, .int .u8 x23, .int .u8 x24, .int .u8 x25, .int .u8 x26, .int .u8 x27, .int .u8 x28, .int .u8 x29, .int .u8 x30, .int .u8 x31])
      (((repeat' apply And.intro) <;> (repeat (first | assumption | apply cell_dr | (refine range_dr ?_) | apply cell_al | apply range_al)))) (first | fail)
    all_goals
      go_wp2_with fail
      go_meet
      case rel =>
        apply ownOut_mk rfl HOK.out
        case hO => repeat (first | exact heap_at (by simp) | refine heap_dr ?_ | refine heap_al ?_)
        case hW => repeat (first | exact heap_at (by simp) | refine heap_dr ?_ | refine heap_al ?_)
        case h0 => repeat (first | exact heap_at (by simp) | refine heap_dr ?_ | refine heap_al ?_)
        case h1 => repeat (first | exact heap_at (by simp) | refine heap_dr ?_ | refine heap_al ?_)
        case hg => omega
        case gB => omega
        case g0 => omega
        case g1 => omega
        case hB => repeat (first | exact Below.refl _ _ | refine Below.drew ?_ | refine Below.alloc ?_ (by simp; try omega) _)
  case rest =>
    obtain ⟨g, B, rfl, hgW, hO, hWays, hB2⟩ := hcut
    have hgn : g ≠ w.heap.size + 2 := by have := hgW; rw [HW.out] at this; have h3 : w1.heap.size ≤ g := this; omega
    have c0 : wc.cell? ⟨g, 0, none⟩ = some (.int .i64 s.peer) := hO 0 _ rfl
    have c1 : wc.cell? ⟨g, 1, none⟩ = some (.slice B 2 2) := hO 1 _ rfl
    have h12 : Below w1.heap.size w1 W2 := by rw [HW.out]; exact below_drewN (below_drewN (Below.refl _ _) _) _
    have hz2 : W2.heap.size = w1.heap.size := by rw [HW.out]; rfl
    have h1c : Below w1.heap.size w1 wc := h12.trans (by rw [← hz2]; exact hB2)
    obtain ⟨y0, y1, y2, y3, y4, y5, y6, y7, y8, y9, y10, y11, y12, y13, y14, y15, y16, y17, y18, y19, y20, y21, y22, y23, y24, y25, y26, y27, y28, y29, y30, y31, hy⟩ := list32 HT.out
    have hF : wc.rangeAt w.heap.size 3 [.int .u8 y0, .int .u8 y1, .int .u8 y2, .int .u8 y3, .int .u8 y4, .int .u8 y5, .int .u8 y6, .int .u8 y7, .int .u8 y8, .int .u8 y9, .int .u8 y10, .int .u8 y11, .int .u8 y12, .int .u8 y13, .int .u8 y14, .int .u8 y15, .int .u8 y16, .int .u8 y17, .int .u8 y18, .int .u8 y19, .int .u8 y20, .int .u8 y21, .int .u8 y22, .int .u8 y23, .int .u8 y24, .int .u8 y25, .int .u8 y26, .int .u8 y27, .int .u8 y28, .int .u8 y29, .int .u8 y30, .int .u8 y31, .int .i64 c.at_] := by
      have h3 := range_below h1c (Nat.le_refl _) HF.out
      have h4 := cell_below h1c (Nat.le_refl _) HA.out
      rw [hy] at h3
      intro j v hv
      by_cases hj : j < 32
      · refine h3 j v ?_
        rw [← hv]
        show ([y0, y1, y2, y3, y4, y5, y6, y7, y8, y9, y10, y11, y12, y13, y14, y15, y16, y17, y18, y19, y20, y21, y22, y23, y24, y25, y26, y27, y28, y29, y30, y31].map (Value.int .u8))[j]? = (([y0, y1, y2, y3, y4, y5, y6, y7, y8, y9, y10, y11, y12, y13, y14, y15, y16, y17, y18, y19, y20, y21, y22, y23, y24, y25, y26, y27, y28, y29, y30, y31].map (Value.int .u8)) ++ [.int .i64 c.at_])[j]?
        rw [List.getElem?_append_left (by simpa using hj)]
      · have hl := (List.getElem?_eq_some_iff.1 hv).1
        have : j = 32 := by
          simp at hl
          omega
        subst this
        simp at hv
        subst hv
        exact h4
    have hT : wc.heap[w.heap.size + 2]? = some (.cells Z 45 (0, 0)) := by
      rw [h1c.block _ (by omega), ← hZ']
      exact H3.out
    have hThere : wc.there (w.heap.size + 2) 0 40 := fun j hj => by
      refine ⟨?_, frozen_row hT⟩
      rw [Nat.zero_add, cell_of_row _ _ _ _ _ _ hT, ← hZ']
      rw [Array.getElem?_eq_getElem (by simpa using hj)]
      rfl
    have hgn2 : w.heap.size + 2 < W2.heap.size := by have h3 : W2.heap.size = w1.heap.size := hz2; omega
    have HB1 := Hd.mk (H4.out.trans (h1c.mono (by omega)))
    have HWays := Hd.mk hWays
    have HO := Hd.mk hO
    have HY := Hd.mk hy
    have hng : w.heap.size + 2 < wc.heap.size := by have := h1c.size; omega
    have hu25 := Try.underlying25
    have hi25 : (Try.prog.info? 25).map (·.size) = some 33 := by kernel_rfl
    have hu45 := Try.underlying45
    have hi45 : (Try.prog.info? 45).map (·.size) = some 40 := by kernel_rfl
    clear hO hWays h12 hz2 h1c hy hT hB2 hu hi hZ'
    go_upto_region 7 with (fail)
    refine wp_region_noPanic ?_
    refine wp_region_held_drew (S := fun w' => w'.rangeAt w.heap.size 3 [.int .u8 y0, .int .u8 y1, .int .u8 y2, .int .u8 y3, .int .u8 y4, .int .u8 y5, .int .u8 y6, .int .u8 y7, .int .u8 y8, .int .u8 y9, .int .u8 y10, .int .u8 y11, .int .u8 y12, .int .u8 y13, .int .u8 y14, .int .u8 y15, .int .u8 y16, .int .u8 y17, .int .u8 y18, .int .u8 y19, .int .u8 y20, .int .u8 y21, .int .u8 y22, .int .u8 y23, .int .u8 y24, .int .u8 y25, .int .u8 y26, .int .u8 y27, .int .u8 y28, .int .u8 y29, .int .u8 y30, .int .u8 y31, .int .i64 c.at_] ∧ w'.cell? ⟨g, 0, none⟩ = some (.int .i64 s.peer) ∧ w'.cell? ⟨g, 1, none⟩ = some (.slice B 2 2) ∧ w'.there (w.heap.size + 2) 0 40) (by kernel_rfl) ?_ (fun hHeld => ?_)
    · exact ⟨hF, c0, c1, hThere⟩
    refine wpAnyH_take (i := 0) (oi := { dst := some 59, op := Go.Op.fieldAddr 27 (Go.Operand.tmp 3) 3, type := 0, pos := "commit.go:51", after := #[], guard := none }) (v := ?_) rfl (by kernel_rfl) (by kernel_rfl) (by kernel_rfl) (fun _ _ _ h => h) (Or.inl ⟨by rfl, ?_⟩) (by assumption) ?_
    rotate_left
    · intro w hSw
      (try dsimp only at hSw)
      go_simp
      (try with_reducible rfl)
    try simp only [Act.put, List.setIfInBounds_toArray, List.set_cons_zero, List.set_cons_succ]
    refine wpAnyH_take (i := 1) (oi := { dst := some 60, op := Go.Op.load 25 (Go.Operand.tmp 59), type := 25, pos := "commit.go:51", after := #[{ on := 0, ground := Go.Ground.data }], guard := none }) (v := _) rfl (by kernel_rfl) (by kernel_rfl) (by kernel_rfl) (fun _ _ _ h => h) (yieldsIf_load_mid (by rfl) _ _ (by rfl) _ _ (by rfl) _ _ (fun w h => h.1) hu25 rfl hi25) (by assumption) ?_
    try simp only [Act.put, List.setIfInBounds_toArray, List.set_cons_zero, List.set_cons_succ]
    refine wpAnyH_take (i := 2) (oi := { dst := some 61, op := Go.Op.build 83 #[(0, Go.Operand.tmp 60)], type := 83, pos := "commit.go:51", after := #[{ on := 1, ground := Go.Ground.data }], guard := none }) (v := ?_) rfl (by kernel_rfl) (by kernel_rfl) (by kernel_rfl) (fun _ _ _ h => h) (Or.inl ⟨by rfl, ?_⟩) (by assumption) ?_
    rotate_left
    · intro w hSw
      (try dsimp only at hSw)
      go_simp
      (try with_reducible rfl)
    try simp only [Act.put, List.setIfInBounds_toArray, List.set_cons_zero, List.set_cons_succ]
    refine wpAnyH_take (i := 4) (oi := { dst := some 63, op := Go.Op.load 31 (Go.Operand.tmp 12), type := 31, pos := "commit.go:51", after := #[], guard := none }) (v := ?_) rfl (by kernel_rfl) (by kernel_rfl) (by kernel_rfl) (fun _ _ _ h => h) (Or.inl ⟨by rfl, ?_⟩) (by assumption) ?_
    rotate_left
    · intro w hSw
      (try dsimp only at hSw)
      go_simp
      (try with_reducible rfl)
    try simp only [Act.put, List.setIfInBounds_toArray, List.set_cons_zero, List.set_cons_succ]
    refine wpAnyH_take (i := 5) (oi := { dst := some 64, op := Go.Op.move (Go.Operand.tmp 9), type := 3, pos := "commit.go:51", after := #[], guard := none }) (v := ?_) rfl (by kernel_rfl) (by kernel_rfl) (by kernel_rfl) (fun _ _ _ h => h) (Or.inl ⟨by rfl, ?_⟩) (by assumption) ?_
    rotate_left
    · intro w hSw
      (try dsimp only at hSw)
      go_simp
      (try with_reducible rfl)
    try simp only [Act.put, List.setIfInBounds_toArray, List.set_cons_zero, List.set_cons_succ]
    refine wpAnyH_take (i := 6) (oi := { dst := some 65, op := Go.Op.move (Go.Operand.tmp 11), type := 2, pos := "commit.go:51", after := #[], guard := none }) (v := ?_) rfl (by kernel_rfl) (by kernel_rfl) (by kernel_rfl) (fun _ _ _ h => h) (Or.inl ⟨by rfl, ?_⟩) (by assumption) ?_
    rotate_left
    · intro w hSw
      (try dsimp only at hSw)
      go_simp
      (try with_reducible rfl)
    try simp only [Act.put, List.setIfInBounds_toArray, List.set_cons_zero, List.set_cons_succ]
    refine wpAnyH_ready (rs := [3, 7]) (by kernel_rfl) (by simp) ?_
    refine AllReadyH.cons (o := { dst := some 62, op := Go.Op.buildSlice 38 1 #[(0, Go.Operand.tmp 61)], type := 38, pos := "commit.go:51", after := #[{ on := 2, ground := Go.Ground.data }], guard := none }) rfl (fun K hK => ?_) ?_
    · go_simp
      refine hK.out _ _ ?_ (fun hHeld => ?_)
      · obtain ⟨k1, k2, k3, k4⟩ := hHeld
        exact ⟨range_al k1 _, cell_al k2 _, cell_al k3 _, World.there_alloc k4 _⟩
      clear hK K
      try simp only [Act.put, List.setIfInBounds_toArray, List.set_cons_zero, List.set_cons_succ]
      refine wpAnyH_ready (rs := [7]) (by kernel_rfl) (by simp) ?_
      refine AllReadyH.cons (o := { dst := some 66, op := Go.Op.call { callee := Go.Callee.value (Go.Operand.func 43), args := #[Go.Operand.tmp 64, Go.Operand.tmp 65], argTypes := #[3, 2] }, type := 31, pos := "commit.go:51", after := #[{ on := 5, ground := Go.Ground.data }, { on := 6, ground := Go.Ground.data }], guard := none }) rfl (fun K hK => ?_) ?_
      · go_simp
        go_at_call 43
        refine (lock_To _ _ _).mono ?_
        rintro e w' ⟨⟨C', c', rfl, hv⟩, hb⟩
        go_wp2_with fail
        refine hK.out _ _ ?_ (fun hHeld => ?_)
        · obtain ⟨k1, k2, k3, k4⟩ := hHeld
          exact ⟨range_below hb (Nat.le_refl _) k1, cell_below hb (Nat.le_refl _) k2, cell_below hb (Nat.le_refl _) k3, there_below hb k4⟩
        clear hK K
        try simp only [Act.put, List.setIfInBounds_toArray, List.set_cons_zero, List.set_cons_succ]
        refine wpAnyH_ready (rs := [8]) (by kernel_rfl) (by simp) ?_
        refine AllReadyH.cons (o := { dst := some 67, op := Go.Op.buildSlice 39 2 #[(0, Go.Operand.tmp 63), (1, Go.Operand.tmp 66)], type := 39, pos := "commit.go:51", after := #[{ on := 4, ground := Go.Ground.data }, { on := 7, ground := Go.Ground.data }], guard := none }) rfl (fun K hK => ?_) ?_
        · go_simp
          refine hK.out _ _ ?_ (fun hHeld => ?_)
          · obtain ⟨k1, k2, k3, k4⟩ := hHeld
            exact ⟨range_al k1 _, cell_al k2 _, cell_al k3 _, World.there_alloc k4 _⟩
          clear hK K
          try simp only [Act.put, List.setIfInBounds_toArray, List.set_cons_zero, List.set_cons_succ]
          refine wpAnyH_take (i := 9) (oi := { dst := some 68, op := Go.Op.build 45 #[(0, Go.Operand.tmp 62), (1, Go.Operand.tmp 67)], type := 45, pos := "commit.go:51", after := #[{ on := 3, ground := Go.Ground.data }, { on := 8, ground := Go.Ground.data }], guard := none }) (v := ?_) rfl (by kernel_rfl) (by kernel_rfl) (by kernel_rfl) (fun _ _ _ h => h) (Or.inl ⟨by rfl, ?_⟩) (by assumption) ?_
          rotate_left
          · intro w hSw
            (try dsimp only at hSw)
            go_simp
            (try with_reducible rfl)
          try simp only [Act.put, List.setIfInBounds_toArray, List.set_cons_zero, List.set_cons_succ]
          refine wpAnyH_ready (rs := [10]) (by kernel_rfl) (by simp) ?_
          refine AllReadyH.cons (o := { dst := none, op := Go.Op.store 45 (Go.Operand.tmp 6) (Go.Operand.tmp 68), type := 0, pos := "commit.go:51", after := #[{ on := 9, ground := Go.Ground.data }, { on := 7, ground := Go.Ground.chain }, { on := 0, ground := Go.Ground.phase }, { on := 1, ground := Go.Ground.phase }, { on := 2, ground := Go.Ground.phase }, { on := 3, ground := Go.Ground.phase }, { on := 4, ground := Go.Ground.phase }, { on := 5, ground := Go.Ground.phase }, { on := 6, ground := Go.Ground.phase }, { on := 7, ground := Go.Ground.phase }, { on := 8, ground := Go.Ground.phase }, { on := 9, ground := Go.Ground.phase }], guard := none }) rfl (fun K hK => ?_) ?_
          · have hTH := hHeld.2.2.2
            rw [if_pos (by rfl)]
            refine wp_store_mid 45 (.tmp 6) (.tmp 68) rfl _ _ (List.toArray _) rfl rfl ?_ ?_ ?_ ?_
            · exact hHeld.2.2.2
            · exact hi45
            · simp [Value.oneCell']
            simp only [Act.put, List.setIfInBounds_toArray, List.set_cons_zero, List.set_cons_succ, List.toList_toArray]
            refine hK.out _ _ ?_ (fun hHeld => ?_)
            · obtain ⟨k1, k2, k3, k4⟩ := hHeld
              exact ⟨World.rangeAt_setCells_apart k1 _ _ _ (.inl (by omega)), cell_stc k2 hgn, cell_stc k3 hgn, World.there_setCells k4 _ _ _⟩
            clear hK K
            try simp only [Act.put, List.setIfInBounds_toArray, List.set_cons_zero, List.set_cons_succ]
            refine wpAnyH_take (i := 11) (oi := { dst := some 7, op := Go.Op.assign (Go.Operand.const (Go.Value.int Go.IntKind.i64 0)), type := 51, pos := "commit.go:51", after := #[{ on := 10, ground := Go.Ground.chain }, { on := 0, ground := Go.Ground.phase }, { on := 1, ground := Go.Ground.phase }, { on := 2, ground := Go.Ground.phase }, { on := 3, ground := Go.Ground.phase }, { on := 4, ground := Go.Ground.phase }, { on := 5, ground := Go.Ground.phase }, { on := 6, ground := Go.Ground.phase }, { on := 7, ground := Go.Ground.phase }, { on := 8, ground := Go.Ground.phase }, { on := 9, ground := Go.Ground.phase }, { on := 10, ground := Go.Ground.phase }], guard := none }) (v := ?_) rfl (by kernel_rfl) (by kernel_rfl) (by kernel_rfl) (fun _ _ _ h => h) (Or.inl ⟨by rfl, ?_⟩) (by assumption) ?_
            rotate_left
            · intro w hSw
              (try dsimp only at hSw)
              go_simp
              (try with_reducible rfl)
            try simp only [Act.put, List.setIfInBounds_toArray, List.set_cons_zero, List.set_cons_succ]
            refine wpAnyH_done (by kernel_rfl) ?_ _
            refine NoPanic.normal ?_
            go_wp2
            rw [HXS.out]
            refine bodyPost_ret (ret_cell_tmp rfl _ _ (w.heap.size + 2) 0 _ _ rfl (World.rangeAt_setCells_same _ _ _ _ hTH) Try.underlying45 rfl hi45) rfl ?_
            refine ⟨⟨_, rfl, ?_⟩, ?_⟩
            · have hbs := hb.size
              simp at hbs
              apply buildT_is HT.out (hh := rfl) (hx := HOK.out)
              case hI =>
                rw [HY.out]
                refine heap_sc ?_ (by simp; omega)
                repeat (first | exact heap_at (by simp) | refine heap_al ?_ | refine heap_bl ?_ hb (by simp))
              case hO =>
                refine heap_sc ?_ (by simp; omega)
                repeat (first | exact heap_at (by simp) | refine heap_al ?_ | refine heap_bl ?_ hb (by simp))
              case hB =>
                refine HWays.out _ fun k hk hk2 => (heap_sc_eq _ _ (by have := hgn2; simp; omega) _ _ _).trans (Below.block (B := wc.heap.size) ?_ k hk2)
                repeat (first | exact Below.refl _ _ | refine bel_call ?_ hb (by first | omega | (simp; omega) | simp) | refine Below.alloc ?_ (by first | omega | (simp; omega) | simp) _ | refine Below.drew ?_)
              case hC =>
                refine hv _ fun k hk hk2 => (heap_sc_eq _ _ (by simp at hk; simp; omega) _ _ _).trans (Below.block (B := w'.heap.size) ?_ k hk2)
                repeat (first | exact Below.refl _ _ | refine Below.alloc ?_ (by first | omega | (simp; omega) | simp) _ | refine Below.drew ?_)
            · have hbs := hb.size
              simp at hbs
              have hb1 := HB1.out.size
              refine bel_sc (by first | omega | (simp; omega) | simp) _ _ _ ?_
              repeat (first | exact HB1.out | refine bel_call ?_ hb (by first | omega | (simp; omega) | simp) | refine Below.alloc ?_ (by first | omega | (simp; omega) | simp) _ | refine Below.drew ?_)
          exact AllReadyH.nil
        exact AllReadyH.nil
      exact AllReadyH.nil
    refine AllReadyH.cons (o := { dst := some 66, op := Go.Op.call { callee := Go.Callee.value (Go.Operand.func 43), args := #[Go.Operand.tmp 64, Go.Operand.tmp 65], argTypes := #[3, 2] }, type := 31, pos := "commit.go:51", after := #[{ on := 5, ground := Go.Ground.data }, { on := 6, ground := Go.Ground.data }], guard := none }) rfl (fun K hK => ?_) ?_
    · go_simp
      go_at_call 43
      refine (lock_To _ _ _).mono ?_
      rintro e w' ⟨⟨C', c', rfl, hv⟩, hb⟩
      go_wp2_with fail
      refine hK.out _ _ ?_ (fun hHeld => ?_)
      · obtain ⟨k1, k2, k3, k4⟩ := hHeld
        exact ⟨range_below hb (Nat.le_refl _) k1, cell_below hb (Nat.le_refl _) k2, cell_below hb (Nat.le_refl _) k3, there_below hb k4⟩
      clear hK K
      try simp only [Act.put, List.setIfInBounds_toArray, List.set_cons_zero, List.set_cons_succ]
      refine wpAnyH_ready (rs := [3, 8]) (by kernel_rfl) (by simp) ?_
      refine AllReadyH.cons (o := { dst := some 62, op := Go.Op.buildSlice 38 1 #[(0, Go.Operand.tmp 61)], type := 38, pos := "commit.go:51", after := #[{ on := 2, ground := Go.Ground.data }], guard := none }) rfl (fun K hK => ?_) ?_
      · go_simp
        refine hK.out _ _ ?_ (fun hHeld => ?_)
        · obtain ⟨k1, k2, k3, k4⟩ := hHeld
          exact ⟨range_al k1 _, cell_al k2 _, cell_al k3 _, World.there_alloc k4 _⟩
        clear hK K
        try simp only [Act.put, List.setIfInBounds_toArray, List.set_cons_zero, List.set_cons_succ]
        refine wpAnyH_ready (rs := [8]) (by kernel_rfl) (by simp) ?_
        refine AllReadyH.cons (o := { dst := some 67, op := Go.Op.buildSlice 39 2 #[(0, Go.Operand.tmp 63), (1, Go.Operand.tmp 66)], type := 39, pos := "commit.go:51", after := #[{ on := 4, ground := Go.Ground.data }, { on := 7, ground := Go.Ground.data }], guard := none }) rfl (fun K hK => ?_) ?_
        · go_simp
          refine hK.out _ _ ?_ (fun hHeld => ?_)
          · obtain ⟨k1, k2, k3, k4⟩ := hHeld
            exact ⟨range_al k1 _, cell_al k2 _, cell_al k3 _, World.there_alloc k4 _⟩
          clear hK K
          try simp only [Act.put, List.setIfInBounds_toArray, List.set_cons_zero, List.set_cons_succ]
          refine wpAnyH_take (i := 9) (oi := { dst := some 68, op := Go.Op.build 45 #[(0, Go.Operand.tmp 62), (1, Go.Operand.tmp 67)], type := 45, pos := "commit.go:51", after := #[{ on := 3, ground := Go.Ground.data }, { on := 8, ground := Go.Ground.data }], guard := none }) (v := ?_) rfl (by kernel_rfl) (by kernel_rfl) (by kernel_rfl) (fun _ _ _ h => h) (Or.inl ⟨by rfl, ?_⟩) (by assumption) ?_
          rotate_left
          · intro w hSw
            (try dsimp only at hSw)
            go_simp
            (try with_reducible rfl)
          try simp only [Act.put, List.setIfInBounds_toArray, List.set_cons_zero, List.set_cons_succ]
          refine wpAnyH_ready (rs := [10]) (by kernel_rfl) (by simp) ?_
          refine AllReadyH.cons (o := { dst := none, op := Go.Op.store 45 (Go.Operand.tmp 6) (Go.Operand.tmp 68), type := 0, pos := "commit.go:51", after := #[{ on := 9, ground := Go.Ground.data }, { on := 7, ground := Go.Ground.chain }, { on := 0, ground := Go.Ground.phase }, { on := 1, ground := Go.Ground.phase }, { on := 2, ground := Go.Ground.phase }, { on := 3, ground := Go.Ground.phase }, { on := 4, ground := Go.Ground.phase }, { on := 5, ground := Go.Ground.phase }, { on := 6, ground := Go.Ground.phase }, { on := 7, ground := Go.Ground.phase }, { on := 8, ground := Go.Ground.phase }, { on := 9, ground := Go.Ground.phase }], guard := none }) rfl (fun K hK => ?_) ?_
          · have hTH := hHeld.2.2.2
            rw [if_pos (by rfl)]
            refine wp_store_mid 45 (.tmp 6) (.tmp 68) rfl _ _ (List.toArray _) rfl rfl ?_ ?_ ?_ ?_
            · exact hHeld.2.2.2
            · exact hi45
            · simp [Value.oneCell']
            simp only [Act.put, List.setIfInBounds_toArray, List.set_cons_zero, List.set_cons_succ, List.toList_toArray]
            refine hK.out _ _ ?_ (fun hHeld => ?_)
            · obtain ⟨k1, k2, k3, k4⟩ := hHeld
              exact ⟨World.rangeAt_setCells_apart k1 _ _ _ (.inl (by omega)), cell_stc k2 hgn, cell_stc k3 hgn, World.there_setCells k4 _ _ _⟩
            clear hK K
            try simp only [Act.put, List.setIfInBounds_toArray, List.set_cons_zero, List.set_cons_succ]
            refine wpAnyH_take (i := 11) (oi := { dst := some 7, op := Go.Op.assign (Go.Operand.const (Go.Value.int Go.IntKind.i64 0)), type := 51, pos := "commit.go:51", after := #[{ on := 10, ground := Go.Ground.chain }, { on := 0, ground := Go.Ground.phase }, { on := 1, ground := Go.Ground.phase }, { on := 2, ground := Go.Ground.phase }, { on := 3, ground := Go.Ground.phase }, { on := 4, ground := Go.Ground.phase }, { on := 5, ground := Go.Ground.phase }, { on := 6, ground := Go.Ground.phase }, { on := 7, ground := Go.Ground.phase }, { on := 8, ground := Go.Ground.phase }, { on := 9, ground := Go.Ground.phase }, { on := 10, ground := Go.Ground.phase }], guard := none }) (v := ?_) rfl (by kernel_rfl) (by kernel_rfl) (by kernel_rfl) (fun _ _ _ h => h) (Or.inl ⟨by rfl, ?_⟩) (by assumption) ?_
            rotate_left
            · intro w hSw
              (try dsimp only at hSw)
              go_simp
              (try with_reducible rfl)
            try simp only [Act.put, List.setIfInBounds_toArray, List.set_cons_zero, List.set_cons_succ]
            refine wpAnyH_done (by kernel_rfl) ?_ _
            refine NoPanic.normal ?_
            go_wp2
            rw [HXS.out]
            refine bodyPost_ret (ret_cell_tmp rfl _ _ (w.heap.size + 2) 0 _ _ rfl (World.rangeAt_setCells_same _ _ _ _ hTH) Try.underlying45 rfl hi45) rfl ?_
            refine ⟨⟨_, rfl, ?_⟩, ?_⟩
            · have hbs := hb.size
              simp at hbs
              apply buildT_is HT.out (hh := rfl) (hx := HOK.out)
              case hI =>
                rw [HY.out]
                refine heap_sc ?_ (by simp; omega)
                repeat (first | exact heap_at (by simp) | refine heap_al ?_ | refine heap_bl ?_ hb (by simp))
              case hO =>
                refine heap_sc ?_ (by simp; omega)
                repeat (first | exact heap_at (by simp) | refine heap_al ?_ | refine heap_bl ?_ hb (by simp))
              case hB =>
                refine HWays.out _ fun k hk hk2 => (heap_sc_eq _ _ (by have := hgn2; simp; omega) _ _ _).trans (Below.block (B := wc.heap.size) ?_ k hk2)
                repeat (first | exact Below.refl _ _ | refine bel_call ?_ hb (by first | omega | (simp; omega) | simp) | refine Below.alloc ?_ (by first | omega | (simp; omega) | simp) _ | refine Below.drew ?_)
              case hC =>
                refine hv _ fun k hk hk2 => (heap_sc_eq _ _ (by simp at hk; simp; omega) _ _ _).trans (Below.block (B := w'.heap.size) ?_ k hk2)
                repeat (first | exact Below.refl _ _ | refine Below.alloc ?_ (by first | omega | (simp; omega) | simp) _ | refine Below.drew ?_)
            · have hbs := hb.size
              simp at hbs
              have hb1 := HB1.out.size
              refine bel_sc (by first | omega | (simp; omega) | simp) _ _ _ ?_
              repeat (first | exact HB1.out | refine bel_call ?_ hb (by first | omega | (simp; omega) | simp) | refine Below.alloc ?_ (by first | omega | (simp; omega) | simp) _ | refine Below.drew ?_)
          exact AllReadyH.nil
        exact AllReadyH.nil
      refine AllReadyH.cons (o := { dst := some 67, op := Go.Op.buildSlice 39 2 #[(0, Go.Operand.tmp 63), (1, Go.Operand.tmp 66)], type := 39, pos := "commit.go:51", after := #[{ on := 4, ground := Go.Ground.data }, { on := 7, ground := Go.Ground.data }], guard := none }) rfl (fun K hK => ?_) ?_
      · go_simp
        refine hK.out _ _ ?_ (fun hHeld => ?_)
        · obtain ⟨k1, k2, k3, k4⟩ := hHeld
          exact ⟨range_al k1 _, cell_al k2 _, cell_al k3 _, World.there_alloc k4 _⟩
        clear hK K
        try simp only [Act.put, List.setIfInBounds_toArray, List.set_cons_zero, List.set_cons_succ]
        refine wpAnyH_ready (rs := [3]) (by kernel_rfl) (by simp) ?_
        refine AllReadyH.cons (o := { dst := some 62, op := Go.Op.buildSlice 38 1 #[(0, Go.Operand.tmp 61)], type := 38, pos := "commit.go:51", after := #[{ on := 2, ground := Go.Ground.data }], guard := none }) rfl (fun K hK => ?_) ?_
        · go_simp
          refine hK.out _ _ ?_ (fun hHeld => ?_)
          · obtain ⟨k1, k2, k3, k4⟩ := hHeld
            exact ⟨range_al k1 _, cell_al k2 _, cell_al k3 _, World.there_alloc k4 _⟩
          clear hK K
          try simp only [Act.put, List.setIfInBounds_toArray, List.set_cons_zero, List.set_cons_succ]
          refine wpAnyH_take (i := 9) (oi := { dst := some 68, op := Go.Op.build 45 #[(0, Go.Operand.tmp 62), (1, Go.Operand.tmp 67)], type := 45, pos := "commit.go:51", after := #[{ on := 3, ground := Go.Ground.data }, { on := 8, ground := Go.Ground.data }], guard := none }) (v := ?_) rfl (by kernel_rfl) (by kernel_rfl) (by kernel_rfl) (fun _ _ _ h => h) (Or.inl ⟨by rfl, ?_⟩) (by assumption) ?_
          rotate_left
          · intro w hSw
            (try dsimp only at hSw)
            go_simp
            (try with_reducible rfl)
          try simp only [Act.put, List.setIfInBounds_toArray, List.set_cons_zero, List.set_cons_succ]
          refine wpAnyH_ready (rs := [10]) (by kernel_rfl) (by simp) ?_
          refine AllReadyH.cons (o := { dst := none, op := Go.Op.store 45 (Go.Operand.tmp 6) (Go.Operand.tmp 68), type := 0, pos := "commit.go:51", after := #[{ on := 9, ground := Go.Ground.data }, { on := 7, ground := Go.Ground.chain }, { on := 0, ground := Go.Ground.phase }, { on := 1, ground := Go.Ground.phase }, { on := 2, ground := Go.Ground.phase }, { on := 3, ground := Go.Ground.phase }, { on := 4, ground := Go.Ground.phase }, { on := 5, ground := Go.Ground.phase }, { on := 6, ground := Go.Ground.phase }, { on := 7, ground := Go.Ground.phase }, { on := 8, ground := Go.Ground.phase }, { on := 9, ground := Go.Ground.phase }], guard := none }) rfl (fun K hK => ?_) ?_
          · have hTH := hHeld.2.2.2
            rw [if_pos (by rfl)]
            refine wp_store_mid 45 (.tmp 6) (.tmp 68) rfl _ _ (List.toArray _) rfl rfl ?_ ?_ ?_ ?_
            · exact hHeld.2.2.2
            · exact hi45
            · simp [Value.oneCell']
            simp only [Act.put, List.setIfInBounds_toArray, List.set_cons_zero, List.set_cons_succ, List.toList_toArray]
            refine hK.out _ _ ?_ (fun hHeld => ?_)
            · obtain ⟨k1, k2, k3, k4⟩ := hHeld
              exact ⟨World.rangeAt_setCells_apart k1 _ _ _ (.inl (by omega)), cell_stc k2 hgn, cell_stc k3 hgn, World.there_setCells k4 _ _ _⟩
            clear hK K
            try simp only [Act.put, List.setIfInBounds_toArray, List.set_cons_zero, List.set_cons_succ]
            refine wpAnyH_take (i := 11) (oi := { dst := some 7, op := Go.Op.assign (Go.Operand.const (Go.Value.int Go.IntKind.i64 0)), type := 51, pos := "commit.go:51", after := #[{ on := 10, ground := Go.Ground.chain }, { on := 0, ground := Go.Ground.phase }, { on := 1, ground := Go.Ground.phase }, { on := 2, ground := Go.Ground.phase }, { on := 3, ground := Go.Ground.phase }, { on := 4, ground := Go.Ground.phase }, { on := 5, ground := Go.Ground.phase }, { on := 6, ground := Go.Ground.phase }, { on := 7, ground := Go.Ground.phase }, { on := 8, ground := Go.Ground.phase }, { on := 9, ground := Go.Ground.phase }, { on := 10, ground := Go.Ground.phase }], guard := none }) (v := ?_) rfl (by kernel_rfl) (by kernel_rfl) (by kernel_rfl) (fun _ _ _ h => h) (Or.inl ⟨by rfl, ?_⟩) (by assumption) ?_
            rotate_left
            · intro w hSw
              (try dsimp only at hSw)
              go_simp
              (try with_reducible rfl)
            try simp only [Act.put, List.setIfInBounds_toArray, List.set_cons_zero, List.set_cons_succ]
            refine wpAnyH_done (by kernel_rfl) ?_ _
            refine NoPanic.normal ?_
            go_wp2
            rw [HXS.out]
            refine bodyPost_ret (ret_cell_tmp rfl _ _ (w.heap.size + 2) 0 _ _ rfl (World.rangeAt_setCells_same _ _ _ _ hTH) Try.underlying45 rfl hi45) rfl ?_
            refine ⟨⟨_, rfl, ?_⟩, ?_⟩
            · have hbs := hb.size
              simp at hbs
              apply buildT_is HT.out (hh := rfl) (hx := HOK.out)
              case hI =>
                rw [HY.out]
                refine heap_sc ?_ (by simp; omega)
                repeat (first | exact heap_at (by simp) | refine heap_al ?_ | refine heap_bl ?_ hb (by simp))
              case hO =>
                refine heap_sc ?_ (by simp; omega)
                repeat (first | exact heap_at (by simp) | refine heap_al ?_ | refine heap_bl ?_ hb (by simp))
              case hB =>
                refine HWays.out _ fun k hk hk2 => (heap_sc_eq _ _ (by have := hgn2; simp; omega) _ _ _).trans (Below.block (B := wc.heap.size) ?_ k hk2)
                repeat (first | exact Below.refl _ _ | refine bel_call ?_ hb (by first | omega | (simp; omega) | simp) | refine Below.alloc ?_ (by first | omega | (simp; omega) | simp) _ | refine Below.drew ?_)
              case hC =>
                refine hv _ fun k hk hk2 => (heap_sc_eq _ _ (by simp at hk; simp; omega) _ _ _).trans (Below.block (B := w'.heap.size) ?_ k hk2)
                repeat (first | exact Below.refl _ _ | refine Below.alloc ?_ (by first | omega | (simp; omega) | simp) _ | refine Below.drew ?_)
            · have hbs := hb.size
              simp at hbs
              have hb1 := HB1.out.size
              refine bel_sc (by first | omega | (simp; omega) | simp) _ _ _ ?_
              repeat (first | exact HB1.out | refine bel_call ?_ hb (by first | omega | (simp; omega) | simp) | refine Below.alloc ?_ (by first | omega | (simp; omega) | simp) _ | refine Below.drew ?_)
          exact AllReadyH.nil
        exact AllReadyH.nil
      exact AllReadyH.nil
    exact AllReadyH.nil
end Go.Proofs.Ythhgfcfcgbjleaa
