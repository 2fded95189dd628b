/- Slices that are read, as lists: whatever address, nil and empty ones too. Plain lemmas over any program. -/
import Derived.WalkKit
import Derived.WalkSpells
import Derived.WalkLawsBesides
namespace Go.Proofs.Ytddaoelaoncimaa
open Go.RowKit

/-- A fact that the walk doesn't look into. -/
structure Hd (p : Prop) : Prop where out : p
/-- The slice at A reads, in w, as the list xs; enc: how an element lies in its one cell. -/
def Rd {α : Type} (enc : α → Value) (w : World) (A : Option Addr) (xs : List α) : Prop :=
  ∀ j x, xs[j]? = some x → ∃ b o, A = some ⟨b, o, none⟩ ∧ w.cell? ⟨b, o + j, none⟩ = some (enc x)
section
variable {α : Type} {enc : α → Value} {w w1 : World} {A : Option Addr} {xs : List α}
theorem Rd.below (h : Rd enc w A xs) (hb : Below w.heap.size w w1) : Rd enc w1 A xs := fun j x hx => by
  obtain ⟨b, o, e, hc⟩ := h j x hx
  exact ⟨b, o, e, (hb.cell (p := ⟨b, o + j, none⟩) (World.block_lt_of_cell? w _ hc)).trans hc⟩
theorem Rd.drew (h : Rd enc w A xs) : Rd enc w.drew A xs := fun j x hx => h j x hx
theorem Rd.nil (enc : α → Value) (w : World) (A : Option Addr) : Rd enc w A [] := fun j x hx => by simp at hx
theorem Rd.some_ (h : Rd enc w A xs) (hn : 0 < xs.length) : ∃ b o, A = some ⟨b, o, none⟩ ∧ ∀ j x, xs[j]? = some x → w.cell? ⟨b, o + j, none⟩ = some (enc x) := by
  obtain ⟨b, o, e, _⟩ := h 0 xs[0] (List.getElem?_eq_getElem hn)
  subst e
  exact ⟨b, o, rfl, fun j x hx => by
    obtain ⟨b', o', e', hc⟩ := h j x hx
    cases e'
    exact hc⟩
theorem Rd.mk {b o : Nat} (h : ∀ j x, xs[j]? = some x → w.cell? ⟨b, o + j, none⟩ = some (enc x)) : Rd enc w (some ⟨b, o, none⟩) xs := fun j x hx => ⟨b, o, rfl, h j x hx⟩
end

theorem rd_lit {α : Type} {enc : α → Value} (w : World) (cs : Array Value) (e : TypeId) (xs : List α) (h : cs.toList = xs.map enc) : Rd enc (w.alloc (.cells cs e)) (some ⟨w.heap.size, 0, none⟩) xs := by
  refine Rd.mk fun j x hx => ?_
  rw [cell_of_row _ _ _ cs e (0, 0) (heap_alloc_new w _), ← Array.getElem?_toList, h]
  simp [hx]
theorem add_none (g j : Nat) : (⟨g, 0, none⟩ : Addr).add j = ⟨g, j, none⟩ := by unfold Addr.add; split <;> simp_all
/-- A row of the call's own, read. -/
theorem own_rd {α : Type} {enc : α → Value} {w : World} {base : Nat} {e : TypeId} {v : Value} {xs : List α} {n : Nat} (h : w.ownsRow base e 1 v n (xs.map enc)) :
    n = xs.length ∧ ∃ A c, v = .slice A xs.length c ∧ xs.length ≤ c ∧ Rd enc w A xs ∧ (∀ b o, A = some ⟨b, o, none⟩ → base ≤ b ∧ ∃ cur, w.heap[b]? = some (.cells cur e (0, 0))) := by
  have hl : xs.length = n := by have := h.1; simpa using this
  refine ⟨hl.symm, ?_⟩
  subst hl
  rcases h.2 with ⟨rfl, h0⟩ | ⟨g, cap, cur, rfl, hb, hg, hn, _, _, _⟩
  · have : xs = [] := List.eq_nil_of_length_eq_zero h0
    subst this
    exact ⟨none, 0, rfl, Nat.le_refl _, Rd.nil _ _ _, fun b o e => by cases e⟩
  · refine ⟨_, cap, rfl, hn, Rd.mk fun j x hx => ?_, fun b o e => ?_⟩
    · have := h.cells (g := g) rfl j (enc x) (by simp [hx])
      rw [add_none] at this
      simpa using this
    · injection e with e
      injection e with e1 e2
      subst e1
      exact ⟨hb, cur, hg⟩
theorem one1 (v : Value) (h : v.oneCell' = true) : ∀ u ∈ (#[v] : Array Value).toList, u.oneCell' = true := fun u hu => by simp at hu; rw [hu]; exact h
/-- Two rows of unlike element types lie in two blocks. -/
theorem own_apart {w : World} {b b' : Nat} {e e' : TypeId} {s s' n n' : Nat} {v v' : Value} {xs xs' : List Value} (h : w.ownsRow b e s v n xs) (h' : w.ownsRow b' e' s' v' n' xs') (hne : e ≠ e') : v.ownBlock = none ∨ v.ownBlock ≠ v'.ownBlock := by
  rcases h.2 with ⟨rfl, _⟩ | ⟨g, cap, cur, rfl, _, hh, _⟩
  · exact .inl rfl
  · refine .inr fun hk => ?_
    rcases h'.2 with ⟨rfl, _⟩ | ⟨g', cap', cur', rfl, _, hh', _⟩
    · simp [Value.ownBlock] at hk
    · have : g = g' := by simpa [Value.ownBlock] using hk
      subst this
      rw [hh] at hh'
      injection hh' with hh'
      injection hh' with _ ht
      exact hne ht
theorem own_lit0 {B : Nat} (w : World) (e : TypeId) (h : B ≤ w.heap.size) : (w.alloc (.cells #[] e)).ownsRow B e 1 (.slice (some ⟨w.heap.size, 0, none⟩) 0 0) 0 [] :=
  World.ownsRow_made (size := 1) w #[] 0 h (by simp [maxLen]) rfl
theorem run_append_none0 {P : Program} (w : World) (base : Nat) (t ty e : TypeId) (i : TypeInfo) (ht : P.underlying t = some (.slice e)) (hi : P.info? e = some i)
    (v : Value) (n : Nat) (xs : List Value) {size : Nat} (hown : w.ownsRow base e size v n xs) (c : Nat) :
    (Builtin.append_ #[t, t] ty #[v, .slice none 0 c]).run P w = .ok v w := by
  rcases hown.2 with ⟨rfl, _⟩ | ⟨g, cap, cur, rfl, _, _, hn, _⟩
  · simp [Builtin.append_, run_underlying ht, sizeOf, typeInfo, hi, Builtin.lenOf, Builtin.firstCells]
  · simp [Builtin.append_, run_underlying ht, sizeOf, typeInfo, hi, Builtin.lenOf, Builtin.firstCells, hn, storeCells]
section
variable {P : Program} {ops : Array Oper} {rest : List Oper} {o : Oper} {a : Act} {Q : Exit → Act → World → Prop}
/-- append(v, x): x's cells lie in the newest block. -/
theorem wp_app1 {W : World} (base : Nat) (hgd : o.guard = none) (s x : Operand) (t e : TypeId) (z : Value) (size bytes : Nat)
    (ho : o.op = .call { callee := .builtin .append, args := #[s, x], argTypes := #[t, t] })
    (ht : P.underlying t = some (.slice e)) (hinfo : (P.info? e).map (fun i => (i.zero, i.size, i.bytes)) = some (some z, size, bytes)) (hz : z.cells.size = size) (hs0 : 0 < size) (hb0 : 0 < bytes)
    (v : Value) (n : Nat) (xs : List Value) (cs : Array Value) (HO : W.ownsRow base e size v n xs) (hs : a.eval s = v) (hx : a.eval x = .slice (some ⟨W.heap.size, 0, none⟩) 1 1) (hcs : cs.size = size) (h1 : ∀ u ∈ cs.toList, u.oneCell' = true)
    (hbase : base ≤ W.heap.size) (hl : (n + 1) * bytes ≤ 140737488355328)
    (h : ∀ v1 w1, w1.ownsRow base e size v1 (n + 1) (xs ++ cs.toList) → W.grownBy w1 v.ownBlock → (v1.ownBlock = v.ownBlock ∨ ∃ b, v1.ownBlock = some b ∧ W.heap.size ≤ b) → wpList P ops Q rest (a.put o.dst v1) w1) :
    wpList P ops Q (o :: rest) a (W.alloc (.cells cs e)) := by
  obtain ⟨i0, hi, hzz⟩ := Option.map_eq_some_iff.1 hinfo
  simp only [Prod.mk.injEq] at hzz
  obtain ⟨hz0, hz1, hz2⟩ := hzz
  have hlen : n + 1 ≤ 140737488355328 := Nat.le_trans (Nat.le_mul_of_pos_right _ hb0) hl
  refine wpList_append_own_at (W.alloc (.cells cs e)) hgd s x t ho base e i0 z size bytes ht hi hz0 hz1 hz2 hz hs0 v n xs hs (HO.alloc _) ⟨W.heap.size, 0, none⟩ 1 1 cs.toList hx (by simpa using hcs)
    (fun j u hu => by rw [add_none, cell_of_row _ _ _ cs e (0, 0) (heap_alloc_new W _)]; simpa using hu) h1 (by simp only [maxLen]; omega) hl (by simp; omega) ?_
  intro v1 w1 hown hg _ hat
  refine h v1 w1 hown (World.grownBy.trans (World.grownBy_alloc W _ _) hg) ?_
  rcases hat with hat | hat
  · exact .inl hat
  · exact .inr ⟨_, hat, by simp⟩
/-- append(v, ys...): ys a slice that is read, nil let in; one cell an element. -/
theorem wp_apps {α : Type} {enc : α → Value} {W : World} (base : Nat) (hgd : o.guard = none) (s x : Operand) (t e : TypeId) (z : Value) (bytes : Nat)
    (ho : o.op = .call { callee := .builtin .append, args := #[s, x], argTypes := #[t, t] })
    (ht : P.underlying t = some (.slice e)) (hinfo : (P.info? e).map (fun i => (i.zero, i.size, i.bytes)) = some (some z, 1, bytes)) (hz : z.cells.size = 1) (hb0 : 0 < bytes)
    (v : Value) (n : Nat) (xs : List Value) (ys : List α) (m : Nat) (hm : ys.length = m) (A : Option Addr) (c : Nat) (HO : W.ownsRow base e 1 v n xs) (hA : Rd enc W A ys) (hs : a.eval s = v) (hx : a.eval x = .slice A m c) (h1 : ∀ y, (enc y).oneCell' = true)
    (hbase : base ≤ W.heap.size) (hl : (n + m) * bytes ≤ 140737488355328)
    (h : ∀ v1 w1, w1.ownsRow base e 1 v1 (n + m) (xs ++ ys.map enc) → W.grownBy w1 v.ownBlock → (v1.ownBlock = v.ownBlock ∨ ∃ b, v1.ownBlock = some b ∧ W.heap.size ≤ b) → wpList P ops Q rest (a.put o.dst v1) w1) :
    wpList P ops Q (o :: rest) a W := by
  subst hm
  obtain ⟨i0, hi, hzz⟩ := Option.map_eq_some_iff.1 hinfo
  simp only [Prod.mk.injEq] at hzz
  obtain ⟨hz0, hz1, hz2⟩ := hzz
  have hlen : n + ys.length ≤ 140737488355328 := Nat.le_trans (Nat.le_mul_of_pos_right _ hb0) hl
  cases A with
  | some ad =>
    refine wpList_append_own_at W hgd s x t ho base e i0 z 1 bytes ht hi hz0 hz1 hz2 hz (by omega) v n xs hs HO ad ys.length c (ys.map enc) hx (by simp)
      (fun j u hu => ?_) (fun u hu => by obtain ⟨y, _, rfl⟩ := List.mem_map.1 hu; exact h1 y) (by simp only [maxLen]; omega) hl hbase ?_
    · simp only [List.getElem?_map, Option.map_eq_some_iff] at hu
      obtain ⟨y, hy, rfl⟩ := hu
      obtain ⟨b, o', e1, hc⟩ := hA j y hy
      injection e1 with e1
      subst e1
      have : (⟨b, o', none⟩ : Addr).add j = ⟨b, o' + j, none⟩ := by unfold Addr.add; split <;> simp_all
      rw [this]
      exact hc
    · intro v1 w1 hown hg _ hat
      refine h v1 w1 hown hg ?_
      rcases hat with hat | hat
      · exact .inl hat
      · exact .inr ⟨_, hat, Nat.le_refl _⟩
  | none =>
    have hy : ys = [] := by
      cases ys with
      | nil => rfl
      | cons y r => obtain ⟨b, o', e1, _⟩ := hA 0 y rfl; cases e1
    subst hy
    refine wpList_plain hgd fun K hK => ?_
    have hrun := run_append_none0 (P := P) W base t o.type e i0 ht hi v n xs HO c
    have hx' : a.eval x = .slice none 0 c := hx
    unfold Oper.wp
    simp [execOp, ho, resolve, invoke, builtin, hs, hx', hrun, Result.andThen]
    refine hK _ _ (h v W ?_ ⟨rfl, rfl, rfl, Nat.le_refl _, fun _ _ _ => rfl⟩ (.inl rfl))
    simpa using HO
end
end Go.Proofs.Ytddaoelaoncimaa
