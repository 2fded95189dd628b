/- Maps of the call's own as association lists: look-up, store, delete, len, by the entries' order of making. Plain lemmas over any program; nothing is assumed. -/
import Derived.Maps.OwnOps
import Derived.Maps.OwnSet
import Derived.Maps.RangeWalk
import Derived.WalkKit
namespace Go.Proofs.Ytmpjofbmoagkiaa.Mp
open Go.RowKit Go.Maps Go.ChangeMaps
variable {α β : Type}
section
variable [DecidableEq α]

/-- What a key has. -/
def lk : List (α × β) → α → Option β
  | [], _ => none
  | (k, v) :: r, x => if k = x then some v else lk r x
/-- A key has something else from now on. -/
def put : List (α × β) → α → β → List (α × β)
  | [], x, u => [(x, u)]
  | (k, v) :: r, x, u => if k = x then (x, u) :: r else (k, v) :: put r x u
/-- A key has nothing any more. -/
def del : List (α × β) → α → List (α × β)
  | [], _ => []
  | (k, v) :: r, x => if k = x then r else (k, v) :: del r x

theorem lk_put (m : List (α × β)) (x y : α) (u : β) : lk (put m x u) y = if x = y then some u else lk m y := by
  induction m with
  | nil => simp [put, lk]
  | cons p r ih =>
    obtain ⟨k, v⟩ := p
    by_cases h : k = x
    · subst h; by_cases h2 : k = y <;> simp [put, lk, h2]
    · by_cases h2 : k = y
      · subst h2; simp [put, lk, h, Ne.symm h]
      · simp [put, lk, h, h2, ih]
theorem keys_put (m : List (α × β)) (x : α) (u : β) : (put m x u).map (·.1) = if x ∈ m.map (·.1) then m.map (·.1) else m.map (·.1) ++ [x] := by
  induction m with
  | nil => simp [put]
  | cons p r ih =>
    obtain ⟨k, v⟩ := p
    by_cases h : k = x
    · subst h; simp [put]
    · by_cases h2 : x ∈ r.map (·.1)
      · rw [if_pos h2] at ih
        rw [if_pos (by simp only [List.map_cons, List.mem_cons]; exact .inr h2)]
        simp [put, h, ih]
      · rw [if_neg h2] at ih
        rw [if_neg (by simp only [List.map_cons, List.mem_cons]; rintro (e | e); exact h e.symm; exact h2 e)]
        simp [put, h, ih]
theorem put_of_not (m : List (α × β)) (x : α) (u : β) (h : x ∉ m.map (·.1)) : put m x u = m ++ [(x, u)] := by
  induction m with
  | nil => rfl
  | cons p r ih =>
    obtain ⟨k, v⟩ := p
    simp only [List.map_cons, List.mem_cons, not_or] at h
    simp [put, Ne.symm h.1, ih h.2]
theorem lk_none (m : List (α × β)) (x : α) : lk m x = none ↔ x ∉ m.map (·.1) := by
  induction m with
  | nil => simp [lk]
  | cons p r ih =>
    obtain ⟨k, v⟩ := p
    by_cases h : k = x
    · subst h; simp [lk]
    · simp only [lk, h, if_false, ih, List.map_cons, List.mem_cons, Ne.symm h, false_or]
theorem lk_mem (m : List (α × β)) (x : α) (u : β) (h : lk m x = some u) : (x, u) ∈ m := by
  induction m with
  | nil => simp [lk] at h
  | cons p r ih =>
    obtain ⟨k, v⟩ := p
    by_cases e : k = x
    · subst e; simp [lk] at h; subst h; exact List.mem_cons_self
    · simp [lk, e] at h; exact List.mem_cons_of_mem _ (ih h)
theorem lk_of_mem (m : List (α × β)) (hn : (m.map (·.1)).Nodup) (x : α) (u : β) (h : (x, u) ∈ m) : lk m x = some u := by
  induction m with
  | nil => simp at h
  | cons p r ih =>
    obtain ⟨k, v⟩ := p
    simp only [List.map_cons, List.nodup_cons] at hn
    rcases List.mem_cons.1 h with h | h
    · injection h with h1 h2; subst h1; subst h2; simp [lk]
    · have : k ≠ x := fun e => hn.1 (e ▸ List.mem_map.2 ⟨_, h, rfl⟩)
      simp [lk, this, ih hn.2 h]
theorem keys_del (m : List (α × β)) (x : α) : (del m x).map (·.1) = (m.map (·.1)).erase x := by
  induction m with
  | nil => rfl
  | cons p r ih =>
    obtain ⟨k, v⟩ := p
    by_cases h : k = x
    · subst h; simp [del]
    · simp [del, h, ih]
theorem lk_del (m : List (α × β)) (hn : (m.map (·.1)).Nodup) (x y : α) : lk (del m x) y = if x = y then none else lk m y := by
  induction m with
  | nil => simp [del, lk]
  | cons p r ih =>
    obtain ⟨k, v⟩ := p
    simp only [List.map_cons, List.nodup_cons] at hn
    by_cases h : k = x
    · subst h
      by_cases h2 : k = y
      · subst h2; simp [del]; exact (lk_none r k).2 hn.1
      · simp [del, lk, h2]
    · by_cases h2 : k = y
      · subst h2; simp [del, lk, h, Ne.symm h]
      · simp [del, lk, h, h2, ih hn.2]
theorem nodup_put (m : List (α × β)) (hn : (m.map (·.1)).Nodup) (x : α) (u : β) : ((put m x u).map (·.1)).Nodup := by
  rw [keys_put]
  split
  · exact hn
  · rename_i h
    exact List.nodup_append.2 ⟨hn, by simp, fun a ha b hb e => by simp at hb; subst hb; subst e; exact h ha⟩
theorem nodup_del (m : List (α × β)) (hn : (m.map (·.1)).Nodup) (x : α) : ((del m x).map (·.1)).Nodup := by
  rw [keys_del]; exact hn.erase x

end
/-- How keys lie in memory: each that may be reads as a key, and no two alike. -/
structure KeyEnc (P : Program) (kt : TypeId) (ek : α → Value) (okK : α → Prop) : Prop where
  keyed : Keyed P kt
  key : ∀ x, okK x → ∃ l, keyOf P kt (ek x) = some l
  inj : ∀ x y, ek x = ek y → x = y

/-- Block r of w is a map that holds the pairs m, in the order of their making. -/
def MapAt (ek : α → Value) (ev : β → Value) (okK : α → Prop) (w : World) (r : Nat) (m : List (α × β)) : Prop :=
  ∃ es clock, w.heap[r]? = some (.map es clock) ∧ MapKept.Stamped es clock ∧ es.toList.map (fun e => (e.key, e.val)) = m.map (fun p => (ek p.1, ev p.2)) ∧ ∀ p ∈ m, okK p.1
section
variable {ek : α → Value} {ev : β → Value} {okK : α → Prop} {w : World} {r : Nat} {m : List (α × β)}
theorem MapAt.lt (h : MapAt ek ev okK w r m) : r < w.heap.size := by
  obtain ⟨es, clock, hb, _⟩ := h
  exact (Array.getElem?_eq_some_iff.1 hb).1
theorem MapAt.of_heap {w' : World} (h : MapAt ek ev okK w r m) (hh : w'.heap[r]? = w.heap[r]?) : MapAt ek ev okK w' r m := by
  obtain ⟨es, clock, hb, h⟩ := h
  exact ⟨es, clock, hh.trans hb, h⟩
theorem MapAt.below {w' : World} (h : MapAt ek ev okK w r m) (hb : Below w.heap.size w w') : MapAt ek ev okK w' r m := h.of_heap (hb.block r h.lt)
theorem MapAt.made (ek : α → Value) (ev : β → Value) (okK : α → Prop) (w : World) : MapAt ek ev okK (w.alloc (.map #[] 0)) w.heap.size [] :=
  ⟨#[], 0, (MapKept.heap_alloc w _).1, MapKept.stamped_empty 0, rfl, fun _ h => by simp at h⟩
theorem MapAt.nodup (h : MapAt ek ev okK w r m) : (m.map (·.1)).Nodup := by
  obtain ⟨es, clock, hb, hs, he, _⟩ := h
  have h3 := hs.2.2
  have e1 : es.toList.map (·.key) = m.map (fun p => ek p.1) := by
    have := congrArg (List.map Prod.fst) he
    simpa [List.map_map, Function.comp_def] using this
  rw [e1] at h3
  have e2 : m.map (fun p => ek p.1) = (m.map (·.1)).map ek := by simp [List.map_map, Function.comp_def]
  rw [e2] at h3
  exact List.Pairwise.of_map ek (fun a b hab e => hab (by rw [e])) h3
theorem MapAt.ok (h : MapAt ek ev okK w r m) : ∀ p ∈ m, okK p.1 := by
  obtain ⟨es, clock, hb, hs, he, ho⟩ := h
  exact ho
/-- Where the entries' keys stand. -/
theorem find_pairs [DecidableEq α] (hinj : ∀ x y, ek x = ek y → x = y) : ∀ (es : List MapEntry) (m : List (α × β)), es.map (fun e => (e.key, e.val)) = m.map (fun p => (ek p.1, ev p.2)) → ∀ x : α,
    ((∀ e ∈ es, e.key ≠ ek x) → lk m x = none) ∧ ∀ (j : Nat) (e : MapEntry), es[j]? = some e → e.key = ek x → (es.map (·.key)).Nodup →
      ∃ v, lk m x = some v ∧ e.val = ev v ∧ m[j]? = some (x, v) ∧ (∀ u, (es.set j { e with key := ek x, val := ev u }).map (fun e => (e.key, e.val)) = (put m x u).map (fun p => (ek p.1, ev p.2))) ∧
        (es.eraseIdx j).map (fun e => (e.key, e.val)) = (del m x).map (fun p => (ek p.1, ev p.2))
  | [], [], _, x => ⟨fun _ => rfl, fun j e h => by simp at h⟩
  | [], _ :: _, h, _ => by simp at h
  | _ :: _, [], h, _ => by simp at h
  | e0 :: es, (k, v) :: m, h, x => by
    simp only [List.map_cons, List.cons.injEq, Prod.mk.injEq] at h
    obtain ⟨⟨hk, hv⟩, hr⟩ := h
    obtain ⟨i1, i2⟩ := find_pairs hinj es m hr x
    refine ⟨fun hn => ?_, fun j e hj hek hnd => ?_⟩
    · have : k ≠ x := fun e => hn e0 List.mem_cons_self (by rw [hk, e])
      simp [lk, this, i1 (fun e he => hn e (List.mem_cons_of_mem _ he))]
    · cases j with
      | zero =>
        simp at hj; subst hj
        have : k = x := hinj _ _ (hk.symm.trans hek)
        subst this
        exact ⟨v, by simp [lk], hv, rfl, fun u => by simp [put, hr], by simp [del, hr]⟩
      | succ j =>
        simp at hj
        simp only [List.map_cons, List.nodup_cons] at hnd
        have hne : k ≠ x := fun e2 => hnd.1 (List.mem_map.2 ⟨e, List.mem_of_getElem? hj, by rw [hek, hk, e2]⟩)
        obtain ⟨u, h1, h2, h3, h4, h5⟩ := i2 j e hj hek hnd.2
        exact ⟨u, by simp [lk, hne, h1], h2, by simpa using h3, fun y => by simp [put, hne, hk, hv]; simpa using h4 y, by simp [del, hne, hk, hv]; simpa using h5⟩
variable {P : Program} {kt et t : TypeId}
theorem MapAt.keysOk (h : ∀ p ∈ m, okK p.1) (K : KeyEnc P kt ek okK) {es : List MapEntry} (he : es.map (fun e => (e.key, e.val)) = m.map (fun p => (ek p.1, ev p.2))) : ∀ e ∈ es, ∃ l, keyOf P kt e.key = some l := by
  intro e hm
  have : (e.key, e.val) ∈ m.map (fun p => (ek p.1, ev p.2)) := he ▸ List.mem_map.2 ⟨e, hm, rfl⟩
  obtain ⟨p, hp, e1⟩ := List.mem_map.1 this
  injection e1 with e1 _
  rw [← e1]
  exact K.key _ (h p hp)
/-- m[k], and 'v, ok := m[k]'. -/
theorem MapAt.look [DecidableEq α] (c : Bool) (K : KeyEnc P kt ek okK) (ht : P.underlying t = some (.map kt et)) {z : Value} (hz : (zeroValue et).run P w = .ok z w) (h : MapAt ek ev okK w r m) (x : α) (hx : okK x) :
    (Instr.lookup t (.map (some r)) (ek x) c).run P w = .ok (if c then .tuple #[((lk m x).map ev).getD z, .bool (lk m x).isSome] else ((lk m x).map ev).getD z) w := by
  obtain ⟨es, clock, hb, hs, he, ho⟩ := h
  obtain ⟨l, hl⟩ := K.key x hx
  obtain ⟨f1, f2⟩ := find_pairs K.inj es.toList m he x
  rcases K.keyed.find w hl es.toList (MapAt.keysOk ho K he) with ⟨h1, h2⟩ | ⟨j, e0, h1, h2, h3⟩
  · have hn := f1 h2
    simp [Instr.lookup, run_underlying ht, MapKept.run_getObj_map hb, K.keyed.check w _ hl, h1, hz, Result.andThen, hn]
  · obtain ⟨v, g1, g2, _⟩ := f2 j e0 h2 h3 hs.2.2
    simp [Instr.lookup, run_underlying ht, MapKept.run_getObj_map hb, K.keyed.check w _ hl, h1, Result.andThen, g1, g2]
/-- A look-up in a nil map. -/
theorem look_nil (c : Bool) (K : KeyEnc P kt ek okK) (ht : P.underlying t = some (.map kt et)) {z : Value} (hz : (zeroValue et).run P w = .ok z w) (x : α) (hx : okK x) :
    (Instr.lookup t (.map none) (ek x) c).run P w = .ok (if c then .tuple #[z, .bool false] else z) w := by
  obtain ⟨l, hl⟩ := K.key x hx
  rcases K.keyed.find w hl [] (fun _ h => by simp at h) with ⟨h1, h2⟩ | ⟨j, e0, h1, h2, h3⟩
  · simp [Instr.lookup, run_underlying ht, K.keyed.check w _ hl, h1, hz, Result.andThen]
  · simp at h2
/-- m[k] = v -/
theorem MapAt.store [DecidableEq α] (K : KeyEnc P kt ek okK) (ht : P.underlying t = some (.map kt et)) (h : MapAt ek ev okK w r m) (x : α) (hx : okK x) (u : β) :
    ∃ w', (Instr.mapUpdate t (.map (some r)) (ek x) (ev u)).run P w = .ok () w' ∧ MapAt ek ev okK w' r (put m x u) ∧ w.grownBy w' (some r) ∧ w'.heap.size = w.heap.size := by
  obtain ⟨es, clock, hb, hs, he, ho⟩ := h
  obtain ⟨l, hl⟩ := K.key x hx
  obtain ⟨f1, f2⟩ := find_pairs K.inj es.toList m he x
  have hput : ∀ p ∈ put m x u, okK p.1 := by
    intro p hp
    have h1 : p.1 ∈ (put m x u).map (·.1) := List.mem_map.2 ⟨p, hp, rfl⟩
    rw [keys_put] at h1
    have h2 : p.1 ∈ m.map (·.1) ∨ p.1 = x := by
      split at h1
      · exact .inl h1
      · rcases List.mem_append.1 h1 with h1 | h1
        · exact .inl h1
        · exact .inr (by simpa using h1)
    rcases h2 with h2 | h2
    · obtain ⟨q, hq, e⟩ := List.mem_map.1 h2; rw [← e]; exact ho q hq
    · rw [h2]; exact hx
  have hgr : ∀ o, w.grownBy (setBlock w r o) (some r) := fun o => ⟨rfl, rfl, rfl, by simp [setBlock], fun i _ hi => heap_setBlock_other hb _ (fun e => hi (by rw [e]))⟩
  rcases K.keyed.find w hl es.toList (MapAt.keysOk ho K he) with ⟨h1, h2⟩ | ⟨j, e0, h1, h2, h3⟩
  · have hn := f1 h2
    refine ⟨setBlock w r (.map (es.push ⟨ek x, ev u, clock⟩) (clock + 1)), ?_, ⟨_, _, heap_setBlock_same hb _, MapKept.stamped_push hs h2, ?_, hput⟩, hgr _, by simp [setBlock]⟩
    · simp [Instr.mapUpdate, run_underlying ht, MapKept.run_getObj_map hb, K.keyed.check w false hl, h1, MapKept.run_setObj_map _ hb, Result.andThen, setBlock]
    · rw [put_of_not m x u ((lk_none m x).1 hn)]; simp [he]
  · obtain ⟨v, g1, g2, g3, g4, g5⟩ := f2 j e0 h2 h3 hs.2.2
    have hj : es[j]? = some e0 := by simpa using h2
    have hlist : (es.modify j (fun e' => { e' with key := ek x, val := ev u })).toList = es.toList.set j { e0 with key := ek x, val := ev u } := by rw [Array.toList_modify, modify_eq_set _ _ _ _ h2]
    refine ⟨setBlock w r (.map (es.modify j (fun e' => { e' with key := ek x, val := ev u })) clock), ?_, ⟨_, _, heap_setBlock_same hb _, MapKept.stamped_modify hs _ _ (fun _ _ => rfl) (fun e' _ he' => ?_), ?_, hput⟩, hgr _, by simp [setBlock]⟩
    · simp [Instr.mapUpdate, run_underlying ht, MapKept.run_getObj_map hb, K.keyed.check w false hl, h1, hj, h3, K.keyed.stays w hl, MapKept.run_setObj_map _ hb, Result.andThen, setBlock]
    · rw [hj] at he'; cases he'; exact h3.symm
    · rw [hlist]; exact g4 u
/-- delete(m, k) -/
theorem MapAt.drop [DecidableEq α] (K : KeyEnc P kt ek okK) (ht : P.underlying t = some (.map kt et)) (ty : TypeId) (h : MapAt ek ev okK w r m) (x : α) (hx : okK x) :
    ∃ w', (Builtin.delete_ #[t, kt] ty #[.map (some r), ek x]).run P w = .ok (.tuple #[]) w' ∧ MapAt ek ev okK w' r (del m x) ∧ w.grownBy w' (some r) ∧ w'.heap.size = w.heap.size := by
  obtain ⟨es, clock, hb, hs, he, ho⟩ := h
  obtain ⟨l, hl⟩ := K.key x hx
  obtain ⟨f1, f2⟩ := find_pairs K.inj es.toList m he x
  have hsub : ∀ (m : List (α × β)) p, p ∈ del m x → p ∈ m := by
    intro m
    induction m with
    | nil => intro p hp; simp [del] at hp
    | cons q s ih =>
      obtain ⟨k, v⟩ := q
      intro p hp
      by_cases e : k = x
      · simp [del, e] at hp; exact List.mem_cons_of_mem _ hp
      · simp only [del, e, if_false, List.mem_cons] at hp
        rcases hp with hp | hp
        · exact hp ▸ List.mem_cons_self
        · exact List.mem_cons_of_mem _ (ih p hp)
  have hdel : ∀ p ∈ del m x, okK p.1 := fun p hp => ho p (hsub m p hp)
  have hgr : ∀ o, w.grownBy (setBlock w r o) (some r) := fun o => ⟨rfl, rfl, rfl, by simp [setBlock], fun i _ hi => heap_setBlock_other hb _ (fun e => hi (by rw [e]))⟩
  rcases K.keyed.find w hl es.toList (MapAt.keysOk ho K he) with ⟨h1, h2⟩ | ⟨j, e0, h1, h2, h3⟩
  · have hn := f1 h2
    have hd : del m x = m := by
      have := (lk_none m x).1 hn
      clear he ho hdel hn h2 f1 f2
      induction m with
      | nil => rfl
      | cons q s ih =>
        obtain ⟨k, v⟩ := q
        simp only [List.map_cons, List.mem_cons, not_or] at this
        simp [del, Ne.symm this.1, ih this.2]
    refine ⟨setBlock w r (.map es clock), ?_, ⟨_, _, heap_setBlock_same hb _, hs, by rw [hd]; exact he, hdel⟩, hgr _, by simp [setBlock]⟩
    simp [Builtin.delete_, run_underlying ht, MapKept.run_getObj_map hb, K.keyed.check w _ hl, h1, MapKept.run_setObj_map _ hb, Result.andThen, setBlock]
  · obtain ⟨v, g1, g2, g3, g4, g5⟩ := f2 j e0 h2 h3 hs.2.2
    have hjl : j < es.toList.length := (List.getElem?_eq_some_iff.1 h2).1
    have hjs : j < es.size := by simpa using hjl
    have hsub : (es.eraseIdxIfInBounds j).toList = es.toList.eraseIdx j := by
      unfold Array.eraseIdxIfInBounds
      rw [dif_pos hjs]
      simp
    refine ⟨setBlock w r (.map (es.eraseIdxIfInBounds j) clock), ?_, ⟨_, _, heap_setBlock_same hb _, MapKept.stamped_erase hs j, by rw [hsub]; exact g5, hdel⟩, hgr _, by simp [setBlock]⟩
    simp [Builtin.delete_, run_underlying ht, MapKept.run_getObj_map hb, K.keyed.check w _ hl, h1, MapKept.run_setObj_map _ hb, Result.andThen, setBlock]
/-- len(m) -/
theorem MapAt.len (ty : TypeId) (ht : P.underlying t = some (.map kt et)) (h : MapAt ek ev okK w r m) : (Builtin.len_ #[t] ty #[.map (some r)]).run P w = .ok (.int .i64 m.length) w := by
  obtain ⟨es, clock, hb, hs, he, ho⟩ := h
  have : es.size = m.length := by have := congrArg List.length he; simpa using this
  simp [Builtin.len_, run_underlying ht, MapKept.run_getObj_map hb, Result.andThen, this, goInt]
/-- m[k] = v, at the operation. -/
theorem MapAt.wp_store [DecidableEq α] (K : KeyEnc P kt ek okK) (ht : P.underlying t = some (.map kt et)) {ops : Array Oper} {rest : List Oper} {o : Oper} {a : Act} {Q : Exit → Act → World → Prop}
    (h : MapAt ek ev okK w r m) (hg : o.guard = none) (mo xo vo : Operand) (hop : o.op = Op.mapUpdate t mo xo vo) (x : α) (hx : okK x) (u : β)
    (em : a.eval mo = .map (some r)) (ex : a.eval xo = ek x) (eu : a.eval vo = ev u)
    (hK : ∀ w', MapAt ek ev okK w' r (put m x u) → w.grownBy w' (some r) → w'.heap.size = w.heap.size → wpList P ops Q rest (a.put o.dst undef) w') : wpList P ops Q (o :: rest) a w := by
  refine wpList_plain hg fun K' hK' => ?_
  obtain ⟨w', hrun, r1, r2, r3⟩ := h.store K ht x hx u
  unfold Oper.wp
  simp [execOp, hop, em, ex, eu, hrun, Result.andThen]
  exact hK' _ _ (hK w' r1 r2 r3)
/-- delete(m, k), at the operation. -/
theorem MapAt.wp_drop [DecidableEq α] (K : KeyEnc P kt ek okK) (ht : P.underlying t = some (.map kt et)) {ops : Array Oper} {rest : List Oper} {o : Oper} {a : Act} {Q : Exit → Act → World → Prop}
    (h : MapAt ek ev okK w r m) (hg : o.guard = none) (mo xo : Operand) (hop : o.op = Op.call { callee := Callee.builtin Builtin.delete, args := #[mo, xo], argTypes := #[t, kt] }) (x : α) (hx : okK x)
    (em : a.eval mo = .map (some r)) (ex : a.eval xo = ek x)
    (hK : ∀ w', MapAt ek ev okK w' r (del m x) → w.grownBy w' (some r) → w'.heap.size = w.heap.size → wpList P ops Q rest (a.put o.dst (.tuple #[])) w') : wpList P ops Q (o :: rest) a w := by
  refine wpList_plain hg fun K' hK' => ?_
  obtain ⟨w', hrun, r1, r2, r3⟩ := h.drop K ht o.type x hx
  unfold Oper.wp
  simp [execOp, hop, resolve, invoke, builtin, em, ex, hrun, Result.andThen]
  exact hK' _ _ (hK w' r1 r2 r3)
end
end Go.Proofs.Ytmpjofbmoagkiaa.Mp
