/- Opening structs and arrays that a statement's caller hands in, cell by cell: plain lemmas over any program. -/
import Derived.Test.YthhgfcfcgbjleaaOg
namespace Go.Proofs.Ythhgfcfcgbjleaa
open Go.ChangeShapes

/-- The types of a type's cells; none: it is not laid as one thinks. -/
def leavesF (f : TypeId → Option (List TypeId)) (P : Program) : List Field → Nat → Option (List TypeId)
  | [], _ => some []
  | x :: r, off => if x.offset = off then
      match f x.type, leavesF f P r (off + P.cellsOf x.type) with
      | some a, some b => if a.length = P.cellsOf x.type then some (a ++ b) else none
      | _, _ => none
    else none
def leaves (P : Program) : Nat → TypeId → Option (List TypeId)
  | 0, _ => none
  | d + 1, t => match P.underlying t with
    | some (.struct fs) => match leavesF (leaves P d) P fs.toList 0 with
      | some l => if l.length = P.cellsOf t then some l else none
      | none => none
    | some (.array n e) => match leaves P d e with
      | some l => if l.length = P.cellsOf e ∧ n * l.length = P.cellsOf t then some ((List.replicate n l).flatten) else none
      | none => none
    | _ => some [t]
section
variable {H : Type} {enc : TypeId × Value → H} {P : Program} {w : World} {base : Nat} {spare : Nat → Bool} {held : Bool}
/-- Each cell is its own type's. -/
def Leafy (enc : TypeId × Value → H) (P : Program) (w : World) (base : Nat) (spare : Nat → Bool) (held : Bool) (ls : List TypeId) (cs : List Value) : Prop :=
  cs.length = ls.length ∧ ∀ i lt, ls[i]? = some lt → ∃ m y, DataW.trod enc P w base spare held m lt ((cs.drop i).take 1) = some y
theorem leafy_app {l1 l2 : List TypeId} {cs : List Value} (h1 : Leafy enc P w base spare held l1 (cs.take l1.length)) (h2 : Leafy enc P w base spare held l2 (cs.drop l1.length)) : Leafy enc P w base spare held (l1 ++ l2) cs := by
  obtain ⟨a1, b1⟩ := h1
  obtain ⟨a2, b2⟩ := h2
  simp at a1 a2
  refine ⟨by simp; omega, fun i lt hi => ?_⟩
  by_cases hlt : i < l1.length
  · rw [List.getElem?_append_left hlt] at hi
    obtain ⟨m, y, h⟩ := b1 i lt hi
    refine ⟨m, y, ?_⟩
    rw [← h, List.drop_take, List.take_take, Nat.min_eq_left (by omega)]
  · rw [List.getElem?_append_right (by omega)] at hi
    obtain ⟨m, y, h⟩ := b2 _ lt hi
    refine ⟨m, y, ?_⟩
    rw [← h, List.drop_drop]
    congr 3
    omega
theorem leafy_rep {l : List TypeId} : ∀ (n : Nat) (cs : List Value), cs.length = n * l.length → (∀ i, i < n → Leafy enc P w base spare held l ((cs.drop (i * l.length)).take l.length)) → Leafy enc P w base spare held ((List.replicate n l).flatten) cs
  | 0, cs, hl, _ => ⟨by simpa using hl, by simp⟩
  | n + 1, cs, hl, h => by
    rw [List.replicate_succ, List.flatten_cons]
    refine leafy_app (by simpa using h 0 (by omega)) (leafy_rep n _ (by simp [hl, Nat.add_mul]) fun i hi => ?_)
    have := h (i + 1) (by omega)
    rw [List.drop_drop]
    rwa [show l.length + i * l.length = (i + 1) * l.length by rw [Nat.add_mul]; omega]
theorem open_leaves : ∀ (d : Nat) {t : TypeId} {ls : List TypeId} {fuel : Nat} {cs : List Value} {x : DataW H × List MemPlace}, leaves P d t = some ls → (cs.length = 1 ∨ (∃ fs, P.underlying t = some (.struct fs)) ∨ ∃ n e, P.underlying t = some (.array n e)) →
    DataW.trod enc P w base spare held fuel t cs = some x → Leafy enc P w base spare held ls cs
  | 0, _, _, _, _, _, h, _, _ => by cases h
  | d + 1, t, ls, fuel, cs, x, h, h1, ht => by
    unfold leaves at h
    split at h
    · rename_i fs hu
      obtain ⟨xs, m, _, _, hl, hn, hg⟩ := DataW.trod_struct hu ht
      split at h
      · rename_i l hf
        split at h
        · rename_i hll
          cases h
          have key : ∀ (fl : List Field) (off : Nat) (ls : List TypeId) (cs : List Value), leavesF (leaves P d) P fl off = some ls → cs.length = ls.length →
              (∀ f ∈ fl, ∃ y, DataW.trod enc P w base spare held m f.type (((cs.drop (f.offset - off)).take (P.cellsOf f.type))) = some y ∧ off ≤ f.offset) → Leafy enc P w base spare held ls cs := by
            intro fl
            induction fl with
            | nil => intro off ls cs hf hl _; cases hf; exact ⟨hl, by simp⟩
            | cons f fl ih =>
              intro off ls cs hf hl hall
              unfold leavesF at hf
              split at hf
              · rename_i ho
                split at hf
                · rename_i a b ha hb
                  split at hf
                  · rename_i hla
                    cases hf
                    simp at hl
                    obtain ⟨y, hy, _⟩ := hall f (by simp)
                    rw [ho, Nat.sub_self, List.drop_zero, ← hla] at hy
                    refine leafy_app (open_leaves d ha ?_ hy) (ih _ _ _ hb (by simp; omega) fun g hg => ?_)
                    · cases d with
                      | zero => cases ha
                      | succ d =>
                        unfold leaves at ha
                        split at ha
                        · rename_i fs' hu'
                          exact .inr (.inl ⟨fs', hu'⟩)
                        · rename_i n' e' hu'
                          exact .inr (.inr ⟨n', e', hu'⟩)
                        · cases ha
                          exact .inl (by simp; simp at hl; omega)
                    · obtain ⟨y, hy, ho'⟩ := hall g (by simp [hg])
                      have hge := leavesF_le hb g hg
                      refine ⟨y, ?_, hge⟩
                      rw [← hy, List.drop_drop]
                      congr 3
                      omega
                  · cases hf
                · cases hf
              · cases hf
          refine key _ _ _ _ hf (by omega) fun f hfm => ?_
          obtain ⟨i, hi⟩ := List.getElem?_of_mem hfm
          rw [Array.getElem?_toList] at hi
          have := hg i f hi
          have hlt : i < xs.length := by have := (Array.getElem?_eq_some_iff.1 hi).1; omega
          rw [List.getElem?_eq_getElem hlt] at this
          exact ⟨_, by rw [Nat.sub_zero]; exact this, Nat.zero_le _⟩
        · cases h
      · cases h
    · rename_i n e hu
      obtain ⟨xs, m, _, _, hl, hn, hg⟩ := DataW.trod_array hu ht
      split at h
      · rename_i l hf
        split at h
        · rename_i hll
          cases h
          refine leafy_rep n cs (by omega) fun i hi => ?_
          have := hg i hi
          rw [List.getElem?_eq_getElem (by omega), ← hll.1] at this
          refine open_leaves d hf ?_ this
          cases d with
          | zero => cases hf
          | succ d =>
            unfold leaves at hf
            split at hf
            · rename_i fs' hu'
              exact .inr (.inl ⟨fs', hu'⟩)
            · rename_i n' e' hu'
              exact .inr (.inr ⟨n', e', hu'⟩)
            · cases hf
              refine .inl ?_
              simp at hll ⊢
              have := Nat.mul_le_mul_right 1 hi
              omega
        · cases h
      · cases h
    · rename_i h2 h3
      cases h
      have hc : cs.length = 1 := by
        rcases h1 with h1 | ⟨fs, h1⟩ | ⟨n, e, h1⟩
        · exact h1
        · exact absurd h1 (h2 fs)
        · exact absurd h1 (h3 n e)
      refine ⟨by simpa using hc, fun i lt hi => ?_⟩
      match i, hi with
      | 0, hi =>
        cases hi
        exact ⟨fuel, x, by rw [List.drop_zero, List.take_of_length_le (by omega)]; exact ht⟩
where
  leavesF_le {P : Program} {f : TypeId → Option (List TypeId)} : ∀ {fl : List Field} {off : Nat} {ls : List TypeId}, leavesF f P fl off = some ls → ∀ g ∈ fl, off ≤ g.offset
    | [], _, _, _, g, hg => by cases hg
    | x :: r, off, ls, h, g, hg => by
      unfold leavesF at h
      split at h
      · rename_i ho
        split at h
        · rename_i a b ha hb
          rcases List.mem_cons.1 hg with rfl | hg
          · omega
          · have := leavesF_le hb g hg
            omega
        · cases h
      · cases h
/-- The cells that are numbers, by one function. -/
theorem Leafy.int {ls : List TypeId} {cs : List Value} (h : Leafy enc P w base spare held ls cs) : ∃ z : Nat → Int, ∀ (i : Nat) (lt : TypeId) (k : IntKind), ls[i]? = some lt → P.underlying lt = some (.int k) → cs[i]? = some (.int k (z i)) ∧ (Lit.int k (z i)).wf = true := by
  refine ⟨fun i => match cs[i]? with
    | some (.int _ n) => n
    | _ => 0, fun i lt k hi hu => ?_⟩
  obtain ⟨m, y, hy⟩ := h.2 i lt hi
  obtain ⟨n, hc, _, hw⟩ := DataW.trod_int hu hy
  have : cs[i]? = some (.int k n) := by
    have h0 := congrArg (·[0]?) hc
    simpa using h0
  simp only [this]
  exact ⟨trivial, hw⟩
/-- .. all of them. -/
theorem Leafy.ints {ls : List TypeId} {cs : List Value} {ks : List IntKind} (h : Leafy enc P w base spare held ls cs) (hk : ls.map P.underlying = ks.map (fun k => some (.int k))) : ∃ z : Nat → Int, cs = (ks.zipIdx).map (fun p => Value.int p.1 (z p.2)) ∧ ∀ i k, ks[i]? = some k → (Lit.int k (z i)).wf = true := by
  obtain ⟨z, hz⟩ := h.int
  have hl : ls.length = ks.length := by simpa using congrArg List.length hk
  have hk' : ∀ (i : Nat) k, ks[i]? = some k → ∃ lt, ls[i]? = some lt ∧ P.underlying lt = some (.int k) := fun i k hi => by
    have := congrArg (fun l : List (Option TypeDesc) => l[i]?) hk
    simp only [List.getElem?_map, hi, Option.map_some, Option.map_eq_some_iff] at this
    exact this
  refine ⟨z, List.ext_getElem? fun i => ?_, fun i k hi => ?_⟩
  · by_cases hlt : i < ks.length
    · obtain ⟨lt, h1, h2⟩ := hk' i _ (List.getElem?_eq_getElem hlt)
      rw [(hz i lt _ h1 h2).1]
      simp [hlt]
    · rw [List.getElem?_eq_none (by have := h.1; omega), List.getElem?_eq_none (by simp; omega)]
  · obtain ⟨lt, h1, h2⟩ := hk' i k hi
    exact (hz i lt k h1 h2).2
end
end Go.Proofs.Ythhgfcfcgbjleaa
