/- Opening the data that a statement's caller hands in: a slice as a list. -/
import Derived.Test.YthhgfcfcgbjleaaSl
import Derived.OpenShut
import Derived.Deep.Slices
import Derived.SizedLaws
namespace Go.Proofs.Ythhgfcfcgbjleaa
open Go.ChangeShapes
def okI (n : Int) : Prop := -9223372036854775808 ≤ n ∧ n ≤ 9223372036854775807
/-- The slice at A reads as xs, each of sz cells. -/
def RdN {α : Type} (enc : α → List Value) (sz : Nat) (w : World) (A : Option Addr) (xs : List α) : Prop :=
  ∀ j x, xs[j]? = some x → ∃ b o, A = some ⟨b, o, none⟩ ∧ ∀ k u, (enc x)[k]? = some u → w.cell? ⟨b, o + (j * sz + k), none⟩ = some u

theorem spot_of_cell {w : World} {b o : Nat} {s : Option Nat} {v : Value} (h : w.cell? ⟨b, o, s⟩ = some v) : s = none := by
  unfold World.cell? at h
  split at h
  · split at h
    · cases h
    · rename_i hs
      simpa using hs
  · cases h

theorem list_of_lt {α : Type} (p : Nat → α → Prop) (n : Nat) (h : ∀ i, i < n → ∃ x, p i x) : ∃ xs : List α, xs.length = n ∧ ∀ i x, xs[i]? = some x → p i x := by
  induction n with
  | zero => exact ⟨[], rfl, fun i x hx => by simp at hx⟩
  | succ n ih =>
    obtain ⟨xs, hl, hp⟩ := ih fun i hi => h i (by omega)
    obtain ⟨x, hx⟩ := h n (by omega)
    refine ⟨xs ++ [x], by simp [hl], fun i y hy => ?_⟩
    by_cases hi : i < n
    · rw [List.getElem?_append_left (by omega)] at hy
      exact hp i y hy
    · rw [List.getElem?_append_right (by omega)] at hy
      have hi' : i = n := by
        have := (List.getElem?_eq_some_iff.1 hy).1
        simp at this
        omega
      subst hi'
      simp [hl] at hy
      subst hy
      exact hx

/-- A SLICE OPENED AS A LIST: 'p' is what each element is. -/
theorem open_list {H : Type} {enc : TypeId × Value → H} {P : Program} {w : World} {base : Nat} {spare : Nat → Bool} {held : Bool} {α : Type} {E : α → List Value} {ok : α → Prop} {sz : Nat} {t e : TypeId} {fuel : Nat} {cs : List Value} {x : DataW H × List MemPlace}
    (ht : P.underlying t = some (.slice e)) (hsz : P.cellsOf e = sz) (hpos : 0 < sz)
    (hel : ∀ n cs' y, DataW.trod enc P w base spare held n e cs' = some y → ∃ x, cs' = E x ∧ ok x)
    (h : DataW.trod enc P w base spare held fuel t cs = some x) :
    ∃ (A : Option Addr) (xs : List α) (c : Nat), cs = [.slice A xs.length c] ∧ RdN E sz w A xs ∧ (∀ x ∈ xs, ok x) ∧ xs.length ≤ c ∧ c ≤ maxLen ∧ ((xs = [] ∧ A = none ∧ c = 0 ∧ x.1 = .nil) ∨ ∃ el sp, x.1 = .slice el sp ∧ el.length = xs.length) := by
  rcases Go.Deep.open_slice ht h with ⟨rfl, rfl⟩ | ⟨a, len, cap, m, n, D, Pl, rfl, hb, hl, hm, hmm, rfl, hx⟩
  · exact ⟨none, [], 0, rfl, fun j x hx => by simp at hx, by simp, Nat.le_refl _, by decide, .inl ⟨rfl, rfl, rfl, rfl⟩⟩
  · have hle : len ≤ m := by rw [hmm]; split <;> omega
    have hspot : 0 < len → a.spot = none := fun h0 => by
      obtain ⟨cs', h1, h2⟩ := hx 0 (by omega)
      rw [hsz] at h1
      obtain ⟨_, h3, h4⟩ := World.cells?_some h1
      have h5 := h4 0 hpos
      rw [List.getElem?_eq_getElem (by omega)] at h5
      have : (a.add (0 * sz)).add 0 = a := by simp [Addr.add]
      rw [this] at h5
      obtain ⟨b, o, s⟩ := a
      exact spot_of_cell h5
    obtain ⟨xs, hlen, hp⟩ := list_of_lt (fun i (x : α) => (∀ k u, (E x)[k]? = some u → w.cell? ⟨a.block, a.off + (i * sz + k), none⟩ = some u) ∧ ok x) len fun i hi => by
      obtain ⟨cs', h1, h2⟩ := hx i (by omega)
      obtain ⟨x, rfl, hok⟩ := hel _ _ _ h2
      rw [hsz] at h1
      obtain ⟨_, h3, h4⟩ := World.cells?_some h1
      refine ⟨x, fun k u hk => ?_, hok⟩
      have h5 := h4 k (by have := (List.getElem?_eq_some_iff.1 hk).1; omega)
      rw [hk] at h5
      rw [← h5]
      congr 1
      have hs := hspot (by omega)
      obtain ⟨b, o, s⟩ := a
      simp only at hs
      subst hs
      simp only [Addr.add]
      split <;> split <;> simp_all [Nat.add_assoc]
    refine ⟨some a, xs, cap, by rw [hlen], fun j y hy => ?_, fun y hy => ?_, by omega, hm, .inr ⟨_, _, rfl, by simp [hlen]⟩⟩
    · have hj := (List.getElem?_eq_some_iff.1 hy).1
      have hs := hspot (by omega)
      obtain ⟨b, o, s⟩ := a
      simp only at hs
      subst hs
      exact ⟨b, o, rfl, (hp j y hy).1⟩
    · obtain ⟨j, hj⟩ := List.getElem?_of_mem hy
      exact (hp j y hj).2

/-- A STRUCT OF WHOLE NUMBERS, OPENED. -/
theorem open_int_struct {H : Type} {enc : TypeId × Value → H} {P : Program} {w : World} {base : Nat} {spare : Nat → Bool} {held : Bool} {t : TypeId} {fs : Array Field} {k n : Nat} {cs : List Value} {x : DataW H × List MemPlace}
    (ht : P.underlying t = some (.struct fs)) (hc : P.cellsOf t = k) (hk : fs.size = k) (hf : ∀ (i : Nat) (h : i < fs.size), fs[i].offset = i ∧ P.cellsOf fs[i].type = 1 ∧ P.underlying fs[i].type = some (.int .i64))
    (h : DataW.trod enc P w base spare held n t cs = some x) : ∃ zs : List Int, cs = zs.map (Value.int .i64) ∧ zs.length = k ∧ ∀ z ∈ zs, okI z := by
  obtain ⟨ys, m, _, rfl, hl, hlen, hg⟩ := DataW.trod_struct ht h
  obtain ⟨zs, hz, hp⟩ := list_of_lt (fun i (z : Int) => cs[i]? = some (.int .i64 z) ∧ okI z) k fun i hi => by
    obtain ⟨h1, h2, h3⟩ := hf i (by omega)
    have h4 := hg i fs[i] (Array.getElem?_eq_getElem (by omega))
    rw [h1, h2, List.getElem?_eq_getElem (by omega)] at h4
    obtain ⟨z, hz, _, hw⟩ := DataW.trod_int h3 h4
    refine ⟨z, ?_, bounds_i64 hw⟩
    have := congrArg (·[0]?) hz
    simpa using this
  refine ⟨zs, List.ext_getElem? fun i => ?_, hz, fun z hz => ?_⟩
  · by_cases hi : i < k
    · rw [(hp i zs[i] (List.getElem?_eq_getElem (by omega))).1]
      simp [List.getElem?_eq_getElem (show i < zs.length by omega)]
    · rw [List.getElem?_eq_none (by omega), List.getElem?_eq_none (by simp; omega)]
  · obtain ⟨j, hj⟩ := List.getElem?_of_mem hz
    exact (hp j z hj).2

/-- How much the caller may hand: an element of at least one byte. -/
theorem len_of_sized {H : Type} {P : Program} {ts : List TypeId} {ds : List (DataW H)} (h : (DataW.weightsEach P ts ds).all (· ≤ reachBytes) = true) {j : Nat} {t e : TypeId} {el sp : List (DataW H)} (ht : ts[j]? = some t) (hd : ds[j]? = some (.slice el sp)) (hu : P.underlying t = some (.slice e)) (hb : 0 < P.bytesOf e) :
    el.length ≤ 140737488355328 := by
  have h1 := sized_slice h ht hd hu
  have h2 := reachBytes_lt
  have h3 : el.length + sp.length ≤ (el.length + sp.length) * P.bytesOf e := Nat.le_mul_of_pos_right _ hb
  have h4 : (2 : Nat) ^ 47 = 140737488355328 := by decide
  omega
end Go.Proofs.Ythhgfcfcgbjleaa
