/- Steps of a walk over frames that are lists: plain lemmas over any program. -/
import Derived.Test.YtddaoelaoncimaaSl
import Derived.Deep.MidRow
import Derived.Deep.Draws
import Derived.OrdersHeld
import Derived.Tactics
import Derived.KernelRfl
namespace Go.Proofs.Ytddaoelaoncimaa
open Go.RowKit

/-! ### Ranges -/
theorem rng_lt {w : World} {b o : Nat} {v : Value} {cs : List Value} (h : w.rangeAt b o (v :: cs)) : b < w.heap.size := World.block_lt_of_cell? w _ (h 0 v rfl)
theorem rng_sub {w : World} {b o : Nat} {cs : List Value} (h : w.rangeAt b o cs) (i : Nat) {vs : List Value} (hv : (cs.drop i).take vs.length = vs) : w.rangeAt b (o + i) vs := fun j v hj => by
  rw [Nat.add_assoc]
  refine h _ _ ?_
  rw [← hv] at hj
  have hlt : j < vs.length := by
    have := (List.getElem?_eq_some_iff.1 hj).1
    rw [hv] at this
    exact this
  rw [List.getElem?_take_of_lt hlt, List.getElem?_drop] at hj
  exact hj

/-! ### Frames -/
/-- A slot, by what was written last. -/
def lk : List (Nat × Value) → Nat → Value
  | [], _ => undef
  | p :: r, t => bif Nat.beq p.1 t then p.2 else lk r t
/-- A frame of n slots. -/
def arr (n : Nat) (l : List (Nat × Value)) : Array Value := ((List.range n).map (lk l)).toArray
def fev (n : Nat) (l : List (Nat × Value)) : Operand → Value
  | .tmp t => bif Nat.blt t n then lk l t else undef
  | .const v => v
  | .global g => .pointer (some ⟨g, 0, none⟩)
  | .func f => .func (.func f) #[] #[]
theorem blt_eq (t n : Nat) : Nat.blt t n = decide (t < n) := by
  rw [Bool.eq_iff_iff, decide_eq_true_iff]
  unfold Nat.blt
  rw [Nat.ble_eq]
  exact Iff.rfl
theorem arr_get (n : Nat) (l : List (Nat × Value)) (t : Nat) : (arr n l)[t]? = if t < n then some (lk l t) else none := by
  unfold arr
  rw [List.getElem?_toArray, List.getElem?_map]
  split
  · rename_i h; simp [h]
  · rename_i h; rw [List.getElem?_eq_none (by simp; omega)]; rfl
theorem eval_fr (n : Nat) (l : List (Nat × Value)) (d : List Deferred) : (Act.mk (arr n l) d).eval = fev n l := funext fun x => by
  cases x <;> try rfl
  rename_i t
  show (arr n l).getD t undef = (bif Nat.blt t n then lk l t else undef)
  rw [blt_eq]
  have := arr_get n l t
  by_cases h : t < n
  · rw [if_pos h] at this
    simp [this, h]
  · rw [if_neg h] at this
    simp [this, h]
def fy (n : Nat) (ops : Array Oper) (l : List (Nat × Value)) (j : Nat) : Option Bool :=
  match (ops.toList[j]?).bind (·.dst) with
  | some t => match fev n l (.tmp t) with
    | .bool b => some b
    | _ => none
  | none => none
theorem yielded_fr (n : Nat) (ops : Array Oper) (l : List (Nat × Value)) : yielded ops (arr n l) = fy n ops l := funext fun j => by
  unfold yielded fy fev
  rw [Array.getElem?_toList]
  cases (ops[j]?).bind (·.dst) with
  | none => rfl
  | some t =>
    simp only [Option.bind_some, blt_eq, arr_get]
    by_cases h : t < n
    · simp only [h, if_true, decide_true, cond_true]
      cases lk l t <;> rfl
    · simp only [h, if_false, decide_false, cond_false]
      rfl
def fw (n : Nat) (ops : Array Oper) (o : Oper) (l : List (Nat × Value)) : Bool :=
  match o.guard with
  | none => true
  | some (j, want) => fy n ops l j == some want
theorem wanted_fr (n : Nat) (ops : Array Oper) (o : Oper) (l : List (Nat × Value)) : Region.wanted o (yielded ops (arr n l)) = fw n ops o l := by
  rw [yielded_fr]
  unfold Region.wanted fw
  cases o.guard <;> rfl
theorem arr_put (n : Nat) (l : List (Nat × Value)) {k : Nat} (hk : k < n) (v : Value) : (arr n l).setIfInBounds k v = arr n ((k, v) :: l) := by
  apply Array.ext_getElem?
  intro i
  rw [Array.getElem?_setIfInBounds, arr_get, arr_get]
  have hs : (arr n l).size = n := by simp [arr]
  by_cases h : k = i
  · subst h
    simp [hs, hk, lk]
  · have hb : Nat.beq k i = false := by
      rw [← Bool.not_eq_true]
      intro e
      exact h (Nat.eq_of_beq_eq_true e)
    simp [h, lk, hb]
theorem put_fr (n : Nat) (l : List (Nat × Value)) {k : Nat} (hk : k < n) (v : Value) (d : List Deferred) : (Act.mk (arr n l) d).put (some k) v = ⟨arr n ((k, v) :: l), d⟩ := by
  simp only [Act.put, arr_put n l hk]
theorem put_none (a : Act) (v : Value) : a.put none v = a := rfl
theorem lt_of_blt {k n : Nat} (h : Nat.blt k n = true) : k < n := by simpa [blt_eq] using h

section
variable {P : Program} {z : Nat} {Q : Exit → Act → World → Prop} {l l' : List (Nat × Value)} {w w' : World} {ops : Array Oper} {o : Oper} {rest : List Oper}

/-- Lists in a row. -/
def cat (l : List (List Value)) : List Value := l.flatten
def cellsO (l : List Value) (t : TypeId) : Obj := .cells l.toArray t (0, 0)

/-! ### Code -/
structure CW (P : Program) (z : Nat) (Q : Exit → Act → World → Prop) (c : Code) (l : List (Nat × Value)) (w : World) : Prop where
  out : c.wp P Q ⟨arr z l, []⟩ w
structure EL (P : Program) (z : Nat) (ops : Array Oper) (Q : Exit → Act → World → Prop) (rest : List Oper) (l : List (Nat × Value)) (w : World) : Prop where
  out : wpList P ops Q rest ⟨arr z l, []⟩ w

theorem calls_L {f : FuncId} {fn : Func} {c : Code} {args : Array Value} {R : Ending → World → Prop} (hf : P.funcs[f]? = some fn) (hb : fn.body = some c)
    (z : Nat) (l : List (Nat × Value)) (hl : args ++ Array.replicate (fn.ntmps - args.size) undef = arr z l) (h : CW P z (bodyPost P fn R) c l w) : Calls P f args w R :=
  calls_of_wp hf hb (by rw [hl]; exact h.out)
/-- What holds at each way out, over frames that are lists. -/
structure QN (z : Nat) (Q : Exit → Act → World → Prop) (e : Exit) (l : List (Nat × Value)) (w : World) : Prop where
  out : Q e ⟨arr z l, []⟩ w
theorem CW.seq {x y : Code} (h : CW P z (Exit.then (fun a w => y.wp P Q a w) Q) x l w) : CW P z Q (.seq x y) l w := ⟨wp_seq h.out⟩
theorem thenN {y : Code} {Q' : Exit → Act → World → Prop} (h : CW P z Q y l w) : QN z (Exit.then (fun a w => y.wp P Q a w) Q') .normal l w := ⟨h.out⟩
theorem CW.skip (h : QN z Q .normal l w) : CW P z Q .skip l w := ⟨wp_skip h.out⟩
theorem CW.ret (h : QN z Q .ret l w) : CW P z Q .ret l w := ⟨wp_ret h.out⟩
theorem CW.exit {i : Nat} (h : QN z Q (.exit i) l w) : CW P z Q (.exit i) l w := ⟨wp_exit h.out⟩
theorem CW.block {i : Nat} {c : Code} (h : CW P z (Exit.inBlock i Q) c l w) : CW P z Q (.block i c) l w := ⟨wp_block h.out⟩
theorem CW.cond {x y : Code} {c : Operand} (b : Bool) (hc : fev z l c = .bool b) (ht : b = true → CW P z Q x l w) (hf : b = false → CW P z Q y l w) : CW P z Q (.cond c x y) l w :=
  ⟨wp_cond_split (by rw [eval_fr]; exact hc) (fun h => (ht h).out) (fun h => (hf h).out)⟩
theorem CW.condT {x y : Code} {c : Operand} (hc : fev z l c = .bool true) (ht : CW P z Q x l w) : CW P z Q (.cond c x y) l w := ⟨wp_cond_true (by rw [eval_fr]; exact hc) ht.out⟩
theorem CW.condF {x y : Code} {c : Operand} (hc : fev z l c = .bool false) (hf : CW P z Q y l w) : CW P z Q (.cond c x y) l w := ⟨wp_cond_false (by rw [eval_fr]; exact hc) hf.out⟩
theorem CW.eq {c : Code} (hl : arr z l = arr z l') (h : CW P z Q c l' w) : CW P z Q c l w := ⟨by rw [hl]; exact h.out⟩
theorem CW.region {id : Nat} {k : List Oper} (h : EL P z k.toArray Q k l w) : CW P z Q (.region id k.toArray false) l w := ⟨wp_region_lit h.out⟩
theorem thenR {K : Act → World → Prop} (h : QN z Q .ret l w) : QN z (Exit.then K Q) .ret l w := ⟨h.out⟩
theorem thenE {K : Act → World → Prop} {i : Nat} (h : QN z Q (.exit i) l w) : QN z (Exit.then K Q) (.exit i) l w := ⟨h.out⟩
theorem blockN {i : Nat} (h : QN z Q .normal l w) : QN z (Exit.inBlock i Q) .normal l w := ⟨h.out⟩
theorem blockR {i : Nat} (h : QN z Q .ret l w) : QN z (Exit.inBlock i Q) .ret l w := ⟨h.out⟩
theorem blockE {i : Nat} (h : QN z Q .normal l w) : QN z (Exit.inBlock i Q) (.exit i) l w := ⟨by simp [Exit.inBlock, h.out]⟩
theorem blockX {i j : Nat} (hne : j ≠ i) (h : QN z Q (.exit j) l w) : QN z (Exit.inBlock i Q) (.exit j) l w := ⟨by simp [Exit.inBlock, hne, h.out]⟩
/-- A join: what holds behind x. -/
theorem CW.seq_cut {x y : Code} (M : List (Nat × Value) → World → Prop) (hx : CW P z (Exit.then (fun a w => ∃ l, a = ⟨arr z l, []⟩ ∧ M l w) Q) x l w) (hy : ∀ l w, M l w → CW P z Q y l w) : CW P z Q (.seq x y) l w :=
  ⟨wp_seq (wp_mono hx.out fun e a w h => by
    cases e <;> first | exact h | (obtain ⟨l, rfl, hm⟩ := h; exact (hy l w hm).out))⟩
theorem thenM {M : List (Nat × Value) → World → Prop} (h : M l w) : QN z (Exit.then (fun a w => ∃ l, a = ⟨arr z l, []⟩ ∧ M l w) Q) .normal l w := ⟨l, rfl, h⟩
/-- A loop, by what holds at each round's head, under a number that falls. -/
theorem CW.loop {c : Code} (I : Nat → List (Nat × Value) → World → Prop) (n : Nat) (h0 : I n l w)
    (round : ∀ n l w, I n l w → CW P z (Exit.then (fun a' w' => ∃ l', a' = ⟨arr z l', []⟩ ∧ ∃ m, m < n ∧ I m l' w') Q) c l w) : CW P z Q (.loop c) l w := by
  refine ⟨fun b k cs => ?_⟩
  have key : ∀ n l w, I n l w → ∃ e a' w', Q e a' w' ∧ Arrives P (lone (b.at ⟨arr z l, []⟩ (.code c :: .inLoop c :: k)) cs w) b k cs e a' w' := by
    intro n
    induction n using Nat.strongRecOn with
    | _ n ih =>
      intro l w hI
      obtain ⟨e, a₁, w₁, hq, harr⟩ := (round n l w hI).out b (.inLoop c :: k) cs
      cases e with
      | normal =>
        obtain ⟨l1, rfl, m, hlt, hI1⟩ := hq
        obtain ⟨e₂, a₂, w₂, hq₂, harr₂⟩ := ih m hlt l1 w₁ hI1
        exact ⟨e₂, a₂, w₂, hq₂, .of_steps (Steps.trans harr (.one step_inLoop)) harr₂⟩
      | exit id => exact ⟨_, a₁, w₁, hq, .pass (x := .inLoop c) rfl (fun _ _ => .inl (by simp)) harr⟩
      | goto l => exact ⟨_, a₁, w₁, hq, .pass (x := .inLoop c) rfl (fun _ _ => .inl (by simp)) harr⟩
      | ret => exact ⟨_, a₁, w₁, hq, .pass (x := .inLoop c) rfl (fun _ _ => .inl (by simp)) harr⟩
      | panic ch => exact ⟨_, a₁, w₁, hq, .pass (x := .inLoop c) rfl (fun _ _ => .inl (by simp)) harr⟩
      | outgrown => exact ⟨_, a₁, w₁, hq, .pass (x := .inLoop c) rfl (fun _ _ => .inl (by simp)) harr⟩
  obtain ⟨e, a', w', hq, harr⟩ := key n l w h0
  exact ⟨e, a', w', hq, .of_steps (.one step_loop) harr⟩
theorem loopN {I : Nat → List (Nat × Value) → World → Prop} {n : Nat} (m : Nat) (hm : m < n) (h : I m l w) : QN z (Exit.then (fun a' w' => ∃ l', a' = ⟨arr z l', []⟩ ∧ ∃ m, m < n ∧ I m l' w') Q) .normal l w := ⟨l, rfl, m, hm, h⟩

theorem bp_ret {fn : Func} {R : Ending → World → Prop} {v : Value} (hr : (results fn (arr z l)).run P w = .ok v w) (hR : R (.returned v) w) : QN z (bodyPost P fn R) .ret l w := ⟨rfl, v, hr, hR⟩
theorem bp_norm {fn : Func} {R : Ending → World → Prop} {v : Value} (hr : (results fn (arr z l)).run P w = .ok v w) (hR : R (.returned v) w) : QN z (bodyPost P fn R) .normal l w := ⟨rfl, v, hr, hR⟩

/-! ### One operation -/
/-- What one operation is to do, with K behind it. -/
structure OPW (P : Program) (z : Nat) (ops : Array Oper) (Q : Exit → Act → World → Prop) (o : Oper) (l : List (Nat × Value)) (w : World) (K : List (Nat × Value) → World → Prop) : Prop where
  out : if fw z ops o l then o.wp P ⟨arr z l, []⟩ w (fun a w' => ∃ l', a = ⟨arr z l', []⟩ ∧ K l' w') Q else ∃ l', (Act.mk (arr z l) []).put o.dst undef = ⟨arr z l', []⟩ ∧ K l' w
theorem EL.op (h : OPW P z ops Q o l w (EL P z ops Q rest)) : EL P z ops Q (o :: rest) l w := by
  refine ⟨?_⟩
  unfold wpList
  rw [wanted_fr]
  have h := h.out
  split at h
  · rename_i hw
    rw [if_pos hw]
    exact .inl (Oper.wp_mono (fun a w ⟨l', e, hk⟩ => by rw [e]; exact hk.out) h)
  · rename_i hw
    rw [if_neg hw]
    obtain ⟨l', e, hk⟩ := h
    rw [e]
    exact hk.out
theorem EL.opA {r k2 : List Oper} (h : OPW P z ops Q o l w (EL P z ops Q (List.append r k2))) : EL P z ops Q (List.append (o :: r) k2) l w := EL.op h
theorem EL.nilA {k2 : List Oper} (h : EL P z ops Q k2 l w) : EL P z ops Q (List.append [] k2) l w := h
theorem EL.nil (h : QN z Q .normal l w) : EL P z ops Q [] l w := ⟨h.out⟩
theorem QN.eq {e : Exit} (hl : arr z l = arr z l') (h : QN z Q e l' w) : QN z Q e l w := ⟨by rw [hl]; exact h.out⟩
variable {K : List (Nat × Value) → World → Prop}
theorem OPW.run {r : Result Next} (hw : fw z ops o l = true) (run : (execOp (fev z l) o).run P w = r) (h : o.upon P ⟨arr z l, []⟩ (fun a w' => ∃ l', a = ⟨arr z l', []⟩ ∧ K l' w') Q r) : OPW P z ops Q o l w K := by
  refine ⟨?_⟩
  rw [if_pos hw]
  unfold Oper.wp
  rw [eval_fr, run]
  exact h
/-- .. that gives a value. -/
theorem OPW.valW {k : Tmp} (v : Value) (hd : o.dst = some k) (hk : Nat.blt k z = true) (hw : fw z ops o l = true) (run : (execOp (fev z l) o).run P w = .ok (.value v) w') (h : K ((k, v) :: l) w') : OPW P z ops Q o l w K :=
  .run hw run ⟨_, by rw [hd]; exact put_fr z l (lt_of_blt hk) v [], h⟩
theorem OPW.val {k : Tmp} (v : Value) (hd : o.dst = some k) (hk : Nat.blt k z = true) (hw : fw z ops o l = true) (run : (execOp (fev z l) o).run P w = .ok (.value v) w) (h : K ((k, v) :: l) w) : OPW P z ops Q o l w K := .valW v hd hk hw run h
/-- .. that gives none. -/
theorem OPW.non (hd : o.dst = none) (hw : fw z ops o l = true) (run : (execOp (fev z l) o).run P w = .ok .skip w') (h : K l w') : OPW P z ops Q o l w K :=
  .run hw run ⟨_, by rw [hd]; rfl, h⟩
/-- .. whose guard says no. -/
theorem OPW.skipT {k : Tmp} (hd : o.dst = some k) (hk : Nat.blt k z = true) (hw : fw z ops o l = false) (h : K ((k, undef) :: l) w) : OPW P z ops Q o l w K := by
  refine ⟨?_⟩
  rw [if_neg (by simp [hw])]
  exact ⟨_, by rw [hd]; exact put_fr z l (lt_of_blt hk) undef [], h⟩
theorem OPW.skipN (hd : o.dst = none) (hw : fw z ops o l = false) (h : K l w) : OPW P z ops Q o l w K := by
  refine ⟨?_⟩
  rw [if_neg (by simp [hw])]
  exact ⟨_, by rw [hd]; rfl, h⟩
/-- .. that calls. -/
theorem OPW.call {k : Tmp} {f : FuncId} {args : Array Value} {R : Ending → World → Prop} (hd : o.dst = some k) (hk : Nat.blt k z = true) (hw : fw z ops o l = true) (run : (execOp (fev z l) o).run P w = .ok (.enter f args) w)
    (hc : Calls P f args w R) (h : ∀ e w', R e w' → ∃ v, e = .returned v ∧ K ((k, v) :: l) w') : OPW P z ops Q o l w K :=
  .run hw run (Calls.mono hc fun e w' hr => by
    obtain ⟨v, rfl, hq⟩ := h e w' hr
    exact ⟨_, by rw [hd]; exact put_fr z l (lt_of_blt hk) v [], hq⟩)
/-- .. whose result is thrown away. -/
theorem OPW.callN {f : FuncId} {args : Array Value} {R : Ending → World → Prop} (hd : o.dst = none) (hw : fw z ops o l = true) (run : (execOp (fev z l) o).run P w = .ok (.enter f args) w)
    (hc : Calls P f args w R) (h : ∀ e w', R e w' → ∃ v, e = .returned v ∧ K l w') : OPW P z ops Q o l w K :=
  .run hw run (Calls.mono hc fun e w' hr => by
    obtain ⟨v, rfl, hk⟩ := h e w' hr
    exact ⟨_, by rw [hd]; rfl, hk⟩)
/-- A guard that is a Bool variable. -/
theorem fw_T {g : Nat} {b : Bool} (hg : o.guard = some (g, true)) (hy : fy z ops l g = some b) : fw z ops o l = b := by
  unfold fw
  rw [hg]
  simp only [hy]
  cases b <;> rfl
theorem fw_F {g : Nat} {b : Bool} (hg : o.guard = some (g, false)) (hy : fy z ops l g = some b) : fw z ops o l = !b := by
  unfold fw
  rw [hg]
  simp only [hy]
  cases b <;> rfl
theorem OPW.gT {g : Nat} {k : Tmp} (b : Bool) (v : Value) (hd : o.dst = some k) (hk : Nat.blt k z = true) (hg : o.guard = some (g, true)) (hy : fy z ops l g = some b) (run : b = true → (execOp (fev z l) o).run P w = .ok (.value v) w)
    (h : K ((k, bif b then v else undef) :: l) w) : OPW P z ops Q o l w K := by
  cases b with
  | true => exact .val v hd hk (fw_T hg hy) (run rfl) h
  | false => exact .skipT hd hk (fw_T hg hy) h
theorem OPW.gF {g : Nat} {k : Tmp} (b : Bool) (v : Value) (hd : o.dst = some k) (hk : Nat.blt k z = true) (hg : o.guard = some (g, false)) (hy : fy z ops l g = some b) (run : b = false → (execOp (fev z l) o).run P w = .ok (.value v) w)
    (h : K ((k, bif b then undef else v) :: l) w) : OPW P z ops Q o l w K := by
  cases b with
  | false => exact .val v hd hk (fw_F hg hy) (run rfl) h
  | true => exact .skipT hd hk (fw_F hg hy) h
/-- A guarded call that only reads, and makes memory. -/
theorem OPW.gcT {g : Nat} {k : Tmp} {f : FuncId} {args : Array Value} (b : Bool) (v : Value) (hd : o.dst = some k) (hk : Nat.blt k z = true) (hg : o.guard = some (g, true)) (hy : fy z ops l g = some b) (run : b = true → (execOp (fev z l) o).run P w = .ok (.enter f args) w)
    (hc : b = true → Calls P f args w fun e w' => e = .returned v ∧ Below w.heap.size w w') (h : ∀ w', Below w.heap.size w w' → K ((k, bif b then v else undef) :: l) w') : OPW P z ops Q o l w K := by
  cases b with
  | true => exact .call hd hk (fw_T hg hy) (run rfl) (hc rfl) fun e w' ⟨he, hb⟩ => ⟨v, he, h w' hb⟩
  | false => exact .skipT hd hk (fw_T hg hy) (h w (Below.refl _ _))
theorem OPW.gcF {g : Nat} {k : Tmp} {f : FuncId} {args : Array Value} (b : Bool) (v : Value) (hd : o.dst = some k) (hk : Nat.blt k z = true) (hg : o.guard = some (g, false)) (hy : fy z ops l g = some b) (run : b = false → (execOp (fev z l) o).run P w = .ok (.enter f args) w)
    (hc : b = false → Calls P f args w fun e w' => e = .returned v ∧ Below w.heap.size w w') (h : ∀ w', Below w.heap.size w w' → K ((k, bif b then undef else v) :: l) w') : OPW P z ops Q o l w K := by
  cases b with
  | false => exact .call hd hk (fw_F hg hy) (run rfl) (hc rfl) fun e w' ⟨he, hb⟩ => ⟨v, he, h w' hb⟩
  | true => exact .skipT hd hk (fw_F hg hy) (h w (Below.refl _ _))
/-- Memory that is made. -/
theorem OPW.new {k : Tmp} {ob : Obj} (mk : Nat → Value) (hd : o.dst = some k) (hk : Nat.blt k z = true) (hw : fw z ops o l = true) (run : (execOp (fev z l) o).run P w = .ok (.value (mk w.heap.size)) (w.alloc ob))
    (h : ∀ g w', g = w.heap.size → w' = w.alloc ob → K ((k, mk g) :: l) w') : OPW P z ops Q o l w K :=
  .valW _ hd hk hw run (h _ _ rfl rfl)
def mkP (g : Nat) : Value := .pointer (some ⟨g, 0, none⟩)
def mkS (n : Nat) (g : Nat) : Value := .slice (some ⟨g, 0, none⟩) n n
/-- A pick. -/
theorem pick_run {c x y : Operand} {b p q : Bool} (ho : o.op = .pick c x y) (hc : fev z l c = .bool b) (hx : b = true → fev z l x = .bool p) (hy : b = false → fev z l y = .bool q) :
    (execOp (fev z l) o).run P w = .ok (.value (.bool (bif b then p else q))) w := by
  unfold execOp
  cases b with
  | true => simp [ho, hc, hx rfl, asBool]
  | false => simp [ho, hc, hy rfl, asBool]
theorem pick_and {c x y : Operand} {b p : Bool} (ho : o.op = .pick c x y) (hc : fev z l c = .bool b) (hx : b = true → fev z l x = .bool p) (hy : fev z l y = .bool false) :
    (execOp (fev z l) o).run P w = .ok (.value (.bool (b && p))) w := by
  rw [pick_run ho hc hx (fun _ => hy)]
  cases b <;> rfl
theorem pick_or {c x y : Operand} {b q : Bool} (ho : o.op = .pick c x y) (hc : fev z l c = .bool b) (hx : fev z l x = .bool true) (hy : b = false → fev z l y = .bool q) :
    (execOp (fev z l) o).run P w = .ok (.value (.bool (b || q))) w := by
  rw [pick_run ho hc (fun _ => hx) hy]
  cases b <;> rfl
/-- A Bool under a name of its own. -/
theorem OPW.bool {k : Tmp} (p : Bool) (hd : o.dst = some k) (hk : Nat.blt k z = true) (hw : fw z ops o l = true) (run : (execOp (fev z l) o).run P w = .ok (.value (.bool p)) w) (h : ∀ b, b = p → K ((k, .bool b) :: l) w) : OPW P z ops Q o l w K :=
  .val _ hd hk hw run (h p rfl)

/-! ### Loads and stores -/
theorem load1 {ty : TypeId} {x : Operand} {b i : Nat} {v : Value} (ho : o.op = .load ty x) (hx : fev z l x = .pointer (some ⟨b, i, none⟩)) (hu : (P.underlying ty).map TypeDesc.isRow = some false) (hc : w.cell? ⟨b, i, none⟩ = some v) :
    (execOp (fev z l) o).run P w = .ok (.value v) w := by
  unfold execOp
  obtain ⟨d, hd, hr⟩ := Option.map_eq_some_iff.1 hu
  have hagg : (isAgg ty).run P w = .ok false w := by
    unfold isAgg
    rw [Sem.run_bind, run_underlying hd w]
    cases d <;> simp_all
  simp [ho, hx, Instr.loadAt, Instr.sureAddr, loadVar, Sem.run_bind, hagg, load, Sem.run, hc]
theorem loadN {ty : TypeId} {x : Operand} {b i : Nat} {cs : List Value} (ho : o.op = .load ty x) (hx : fev z l x = .pointer (some ⟨b, i, none⟩)) (hu : (P.underlying ty).map TypeDesc.isRow = some true) (hi : (P.info? ty).map (·.size) = some cs.length)
    (hc : w.rangeAt b i cs) : (execOp (fev z l) o).run P w = .ok (.value (.agg cs.toArray)) w := by
  unfold execOp
  obtain ⟨d, hd, hr⟩ := Option.map_eq_some_iff.1 hu
  simp only [ho, hx, Sem.run_bind, run_loadAt_mid w b i ty cs d hc hd hr hi, Result.andThen_ok]
  rfl
theorem storeN {ty : TypeId} {x y : Operand} {b i : Nat} {vs : List Value} (ho : o.op = .store ty x y) (hx : fev z l x = .pointer (some ⟨b, i, none⟩)) (hy : (fev z l y).cells = vs.toArray) (hi : (P.info? ty).map (·.size) = some vs.length)
    (h1 : vs.all (·.oneCell') = true) (ht : w.there b i vs.length) : (execOp (fev z l) o).run P w = .ok .skip (w.setCells b i vs) := by
  have := run_storeCells_cells (P := P) b i vs 0 w (fun j hj => by simpa using (ht j hj).1) (fun j hj => by simpa using (ht j hj).2) (fun v hv => List.all_eq_true.1 h1 v hv)
  unfold execOp
  obtain ⟨d, hd, hs⟩ := Option.map_eq_some_iff.1 hi
  simp only [Nat.add_zero] at this
  simp [ho, hx, Instr.storeAt, Instr.sureAddr, storeVar, sizeOf, typeInfo, hd, hs, hy, this]

/-! ### Results -/
def resOne (tmps : Array Value) : ResultVar → Sem Value
  | .tmp t => pure (tmps.getD t undef)
  | .cell a t => do loadVar t (← asAddr (tmps.getD a undef))
section
variable {fn : Func} {tmps : Array Value} {r1 r2 r3 r4 : ResultVar} {v1 v2 v3 v4 : Value}
theorem results_eq : results fn tmps = (do let vs ← fn.results.mapM (resOne tmps); pure (if h : vs.size = 1 then vs[0] else .tuple vs)) := rfl
theorem res1 (h : fn.results = #[r1]) (h1 : (resOne tmps r1).run P w = .ok v1 w) : (results fn tmps).run P w = .ok v1 w := by
  rw [results_eq, h]
  simp [h1]
theorem res2 (h : fn.results = #[r1, r2]) (h1 : (resOne tmps r1).run P w = .ok v1 w) (h2 : (resOne tmps r2).run P w = .ok v2 w) : (results fn tmps).run P w = .ok (.tuple #[v1, v2]) w := by
  rw [results_eq, h]
  simp [Sem.run_bind, h1, h2]
theorem res3 (h : fn.results = #[r1, r2, r3]) (h1 : (resOne tmps r1).run P w = .ok v1 w) (h2 : (resOne tmps r2).run P w = .ok v2 w) (h3 : (resOne tmps r3).run P w = .ok v3 w) : (results fn tmps).run P w = .ok (.tuple #[v1, v2, v3]) w := by
  rw [results_eq, h]
  simp [Sem.run_bind, h1, h2, h3]
theorem res4 (h : fn.results = #[r1, r2, r3, r4]) (h1 : (resOne tmps r1).run P w = .ok v1 w) (h2 : (resOne tmps r2).run P w = .ok v2 w) (h3 : (resOne tmps r3).run P w = .ok v3 w) (h4 : (resOne tmps r4).run P w = .ok v4 w) : (results fn tmps).run P w = .ok (.tuple #[v1, v2, v3, v4]) w := by
  rw [results_eq, h]
  simp [Sem.run_bind, h1, h2, h3, h4]
end
theorem res_tmp {tmps : Array Value} {t : Tmp} {v : Value} (h : tmps.getD t undef = v) : (resOne tmps (.tmp t)).run P w = .ok v w := by
  subst h
  rfl
theorem res_cellN {tmps : Array Value} {a : Tmp} {ty : TypeId} {b i : Nat} {cs : List Value} (hp : tmps.getD a undef = .pointer (some ⟨b, i, none⟩)) (hu : (P.underlying ty).map TypeDesc.isRow = some true) (hi : (P.info? ty).map (·.size) = some cs.length) (hc : w.rangeAt b i cs) :
    (resOne tmps (.cell a ty)).run P w = .ok (.agg cs.toArray) w := by
  obtain ⟨d, hd, hr⟩ := Option.map_eq_some_iff.1 hu
  show ((asAddr (tmps.getD a undef)).bind (loadVar ty)).run P w = _
  rw [hp]
  show (loadVar ty ⟨b, i, none⟩).run P w = _
  simp only [run_loadVar_mid w b i ty cs d hc hd hr hi]
theorem res_cell1 {tmps : Array Value} {a : Tmp} {ty : TypeId} {b i : Nat} {v : Value} (hp : tmps.getD a undef = .pointer (some ⟨b, i, none⟩)) (hu : (P.underlying ty).map TypeDesc.isRow = some false) (hc : w.cell? ⟨b, i, none⟩ = some v) :
    (resOne tmps (.cell a ty)).run P w = .ok v w := by
  obtain ⟨d, hd, hr⟩ := Option.map_eq_some_iff.1 hu
  have hagg : (isAgg ty).run P w = .ok false w := by
    unfold isAgg
    rw [Sem.run_bind, run_underlying hd w]
    cases d <;> simp_all
  show ((asAddr (tmps.getD a undef)).bind (loadVar ty)).run P w = _
  rw [hp]
  show (loadVar ty ⟨b, i, none⟩).run P w = _
  simp [loadVar, Sem.run_bind, hagg, load, Sem.run, hc]

/-! ### Blocks that are known -/
/-- Blocks, and all that they hold. -/
structure Own (w : World) (bs : List (Nat × List Value × TypeId)) : Prop where
  block : ∀ p ∈ bs, w.heap[p.1]? = some (.cells p.2.1.toArray p.2.2 (0, 0))
  apart : bs.Pairwise (·.1 ≠ ·.1)
theorem own_nil (w : World) : Own w [] := ⟨by simp, .nil⟩
variable {bs : List (Nat × List Value × TypeId)} {g : Nat} {cs : List Value} {t : TypeId}
theorem Own.at (h : Own w bs) (i : Nat) (hi : bs[i]? = some (g, cs, t)) : w.heap[g]? = some (.cells cs.toArray t (0, 0)) := h.block _ (List.mem_of_getElem? hi)
theorem Own.cell (h : Own w bs) (i : Nat) {j : Nat} {v : Value} (hi : bs[i]? = some (g, cs, t)) (hj : cs[j]? = some v) : w.cell? ⟨g, j, none⟩ = some v := by
  rw [cell_of_row _ _ _ _ _ _ (h.at i hi)]
  simpa using hj
theorem Own.range (h : Own w bs) (i : Nat) {j : Nat} {vs : List Value} (hi : bs[i]? = some (g, cs, t)) (hj : (cs.drop j).take vs.length = vs) : w.rangeAt g j vs := fun k v hk => by
  refine h.cell i hi ?_
  rw [← hj] at hk
  have hlt : k < vs.length := by
    have := (List.getElem?_eq_some_iff.1 hk).1
    rw [hj] at this
    exact this
  rw [List.getElem?_take_of_lt hlt, List.getElem?_drop] at hk
  exact hk
theorem Own.lt (h : Own w bs) (i : Nat) (hi : bs[i]? = some (g, cs, t)) : g < w.heap.size := (Array.getElem?_eq_some_iff.1 (h.at i hi)).1
theorem Own.there (h : Own w bs) (i : Nat) {j n : Nat} (hi : bs[i]? = some (g, cs, t)) (hj : j + n ≤ cs.length) : w.there g j n := fun k hk => by
  have hb := h.at i hi
  refine ⟨?_, by simp [World.frozen?, hb]⟩
  rw [cell_of_row _ _ _ _ _ _ hb]
  simp
  omega
theorem Own.alloc (h : Own w bs) (hg : g = w.heap.size) (hw : w' = w.alloc (.cells cs.toArray t (0, 0))) : Own w' ((g, cs, t) :: bs) := by
  subst hg hw
  refine ⟨fun p hp => ?_, List.pairwise_cons.2 ⟨fun p hp e => ?_, h.apart⟩⟩
  · simp only [List.mem_cons] at hp
    rcases hp with rfl | hp
    · exact heap_alloc_new _ _
    · have := h.block p hp
      rw [Below.heap_alloc _ _ _ (Array.getElem?_eq_some_iff.1 this).1]
      exact this
  · have := (Array.getElem?_eq_some_iff.1 (h.block p hp)).1
    simp only at e
    omega
theorem Own.drew (h : Own w bs) : Own w.drew bs := ⟨h.block, h.apart⟩
def splice (cs : List Value) (j : Nat) (vs : List Value) : List Value := cs.take j ++ (vs ++ cs.drop (j + vs.length))
theorem heap_setCells_ne (b k : Nat) (hk : k ≠ b) : ∀ (vs : List Value) (i : Nat) (w : World), (w.setCells b i vs).heap[k]? = w.heap[k]?
  | [], _, _ => rfl
  | v :: r, i, w => by rw [World.setCells, heap_setCells_ne b k hk r (i + 1) _, Below.heap_setCell _ _ _ _ hk]
theorem heap_setCells_eq (b : Nat) (t : TypeId) : ∀ (vs : List Value) (i : Nat) (cs : List Value) (w : World), w.heap[b]? = some (.cells cs.toArray t (0, 0)) → i + vs.length ≤ cs.length →
    (w.setCells b i vs).heap[b]? = some (.cells (splice cs i vs).toArray t (0, 0))
  | [], i, cs, w, h, hl => by
    show w.heap[b]? = _
    rw [h]
    simp [splice]
  | v :: r, i, cs, w, h, hl => by
    have h1 : (w.setCell ⟨b, i, none⟩ v).heap[b]? = some (.cells (cs.set i v).toArray t (0, 0)) := by
      simp only [World.setCell, Array.getElem?_modify, if_true, h, Option.map_some]
      simp
    rw [World.setCells, heap_setCells_eq b t r (i + 1) (cs.set i v) _ h1 (by simp at hl ⊢; omega)]
    congr 2
    simp only [splice, List.length_cons] at hl ⊢
    rw [List.take_set, List.drop_set_of_lt (by omega)]
    have hlt : i < cs.length := by omega
    have e1 : ((cs.take (i + 1)).set i v) = cs.take i ++ [v] := by
      rw [List.take_succ_eq_append_getElem hlt, List.set_append_right _ _ (by simp; omega)]
      simp [Nat.min_eq_left (Nat.le_of_lt hlt)]
    rw [e1]
    simp [Nat.add_comm, Nat.add_left_comm]
theorem size_setCells (b : Nat) : ∀ (vs : List Value) (i : Nat) (w : World), (w.setCells b i vs).heap.size = w.heap.size
  | [], _, _ => rfl
  | v :: r, i, w => by rw [World.setCells, size_setCells b r]; simp [World.setCell]
theorem pairwise_set_ne {α : Type} {f : α → Nat} : ∀ {l : List α} {i : Nat} {x y : α}, l[i]? = some x → f y = f x → l.Pairwise (fun a b => f a ≠ f b) → (l.set i y).Pairwise (fun a b => f a ≠ f b)
  | a :: l, 0, x, y, h, e, hp => by
    simp at h
    subst h
    rw [List.pairwise_cons] at hp
    exact List.pairwise_cons.2 ⟨fun b hb => by rw [e]; exact hp.1 b hb, hp.2⟩
  | a :: l, i + 1, x, y, h, e, hp => by
    rw [List.pairwise_cons] at hp
    refine List.pairwise_cons.2 ⟨fun b hb => ?_, pairwise_set_ne (by simpa using h) e hp.2⟩
    rcases List.mem_or_eq_of_mem_set hb with hb | rfl
    · exact hp.1 b hb
    · rw [e]
      exact hp.1 x (List.mem_of_getElem? (by simpa using h))
theorem pairwise_idx {α : Type} {f : α → Nat} {l : List α} (hp : l.Pairwise (fun a b => f a ≠ f b)) {i k : Nat} {x y : α} (hi : l[i]? = some x) (hk : l[k]? = some y) (hne : i ≠ k) : f x ≠ f y := by
  obtain ⟨h1, rfl⟩ := List.getElem?_eq_some_iff.1 hi
  obtain ⟨h2, rfl⟩ := List.getElem?_eq_some_iff.1 hk
  rcases Nat.lt_or_gt_of_ne hne with h | h
  · exact List.pairwise_iff_getElem.1 hp i k h1 h2 h
  · exact (List.pairwise_iff_getElem.1 hp k i h2 h1 h).symm
theorem Own.set (h : Own w bs) (i : Nat) {j : Nat} {vs : List Value} (hi : bs[i]? = some (g, cs, t)) (hj : j + vs.length ≤ cs.length) : Own (w.setCells g j vs) (bs.set i (g, splice cs j vs, t)) := by
  refine ⟨fun p hp => ?_, pairwise_set_ne (f := (·.1)) (y := (g, splice cs j vs, t)) hi rfl h.apart⟩
  obtain ⟨k, hk⟩ := List.getElem?_of_mem hp
  by_cases e : i = k
  · subst e
    have hlt : i < bs.length := (List.getElem?_eq_some_iff.1 hi).1
    rw [List.getElem?_set_self hlt] at hk
    cases hk
    exact heap_setCells_eq g t vs j cs w (h.at i hi) hj
  · rw [List.getElem?_set_ne e] at hk
    rw [heap_setCells_ne _ _ (fun e' => pairwise_idx (f := (·.1)) h.apart hi hk e e'.symm)]
    exact h.block p (List.mem_of_getElem? hk)
theorem Own.below {n : Nat} (h : Own w bs) (hb : Below n w w') (hn : w.heap.size ≤ n) : Own w' bs :=
  ⟨fun p hp => by
    have := h.block p hp
    rw [hb.block _ (Nat.lt_of_lt_of_le (Array.getElem?_eq_some_iff.1 this).1 hn)]
    exact this, h.apart⟩

/-! ### What stays -/
/-- All blocks ahead of n, but those of M, are as they were. -/
structure Sep (n : Nat) (M : List Nat) (w w' : World) : Prop where
  os : w'.os = w.os
  tape : w'.tape = w.tape
  output : w'.output = w.output
  size : w.heap.size ≤ w'.heap.size
  block : ∀ k, k < n → k ∉ M → w'.heap[k]? = w.heap[k]?
theorem Sep.refl (n : Nat) (M : List Nat) (w : World) : Sep n M w w := ⟨rfl, rfl, rfl, Nat.le_refl _, fun _ _ _ => rfl⟩
theorem Sep.toBelow {n : Nat} (h : Sep n [] w w') : Below n w w' := ⟨h.os, h.tape, h.output, h.size, fun k hk => h.block k hk (by simp)⟩
theorem Sep.ofBelow {n : Nat} (h : Below n w w') (M : List Nat) : Sep n M w w' := ⟨h.os, h.tape, h.output, h.size, fun k hk _ => h.block k hk⟩
variable {n : Nat} {M : List Nat} {w0 : World}
theorem Sep.trans {w1 w2 : World} (h : Sep n M w0 w1) (k : Sep n M w1 w2) : Sep n M w0 w2 :=
  ⟨k.os.trans h.os, k.tape.trans h.tape, k.output.trans h.output, Nat.le_trans h.size k.size, fun i hi hm => (k.block i hi hm).trans (h.block i hi hm)⟩
theorem Sep.alloc (h : Sep n M w0 w) (hn : n ≤ w0.heap.size) {ob : Obj} (hw : w' = w.alloc ob) : Sep n M w0 w' := by
  subst hw
  exact h.trans ⟨rfl, rfl, rfl, by simp, fun k hk _ => Below.heap_alloc _ _ _ (Nat.lt_of_lt_of_le hk (Nat.le_trans hn h.size))⟩
theorem Sep.drew (h : Sep n M w0 w) : Sep n M w0 w.drew := ⟨h.os, h.tape, h.output, h.size, h.block⟩
theorem setCells_rest (b : Nat) : ∀ (vs : List Value) (i : Nat) (w : World), (w.setCells b i vs).os = w.os ∧ (w.setCells b i vs).tape = w.tape ∧ (w.setCells b i vs).output = w.output
  | [], _, _ => ⟨rfl, rfl, rfl⟩
  | v :: r, i, w => by rw [World.setCells]; exact setCells_rest b r (i + 1) _
theorem Sep.set (h : Sep n M w0 w) {b : Nat} (hb : n ≤ b ∨ b ∈ M) (j : Nat) (vs : List Value) : Sep n M w0 (w.setCells b j vs) := by
  refine h.trans ⟨?_, ?_, ?_, by rw [size_setCells]; exact Nat.le_refl _, fun k hk hm => heap_setCells_ne _ _ (fun e => ?_) _ _ _⟩
  · exact (setCells_rest b vs j w).1
  · exact (setCells_rest b vs j w).2.1
  · exact (setCells_rest b vs j w).2.2
  · rcases hb with hb | hb
    · omega
    · exact hm (e ▸ hb)
theorem Sep.widen (h : Sep n M w0 w) (M' : List Nat) (hm : ∀ k ∈ M, k ∈ M' := by simp) : Sep n M' w0 w := ⟨h.os, h.tape, h.output, h.size, fun k hk hk' => h.block k hk fun e => hk' (hm k e)⟩
theorem Sep.below (h : Sep n M w0 w) (hn : n ≤ w0.heap.size) (hb : Below w.heap.size w w') : Sep n M w0 w' :=
  h.trans (.ofBelow (hb.mono (Nat.le_trans hn h.size)) M)
/-- Facts on memory that came in. -/
theorem Sep.cell (h : Sep n M w0 w) {b i : Nat} {v : Value} (hb : b < n) (hm : b ∉ M) (hc : w0.cell? ⟨b, i, none⟩ = some v) : w.cell? ⟨b, i, none⟩ = some v := by
  rw [← hc]
  exact World.cell?_of_block (w := w0) (h.block b hb hm)
theorem Sep.range (h : Sep n M w0 w) {b i : Nat} (hb : b < n) (hm : b ∉ M) (hc : w0.rangeAt b i cs) : w.rangeAt b i cs := fun j v hj => h.cell hb hm (hc j v hj)

theorem Own.norm {bs' : List (Nat × List Value × TypeId)} (h : Own w bs) (e : bs = bs') : Own w bs' := e ▸ h
theorem Own.set' (h : Own w bs) (i : Nat) {j : Nat} {vs : List Value} (hi : bs[i]? = some (g, cs, t)) (hj : j + vs.length ≤ cs.length) (hw : w' = w.setCells g j vs) : Own w' (bs.set i (g, splice cs j vs, t)) := by
  subst hw
  exact h.set i hi hj
theorem Sep.set' (h : Sep n M w0 w) {b j : Nat} {vs : List Value} (hb : n ≤ b ∨ b ∈ M) (hw : w' = w.setCells b j vs) : Sep n M w0 w' := by
  subst hw
  exact h.set hb j vs
/-- A store. -/
theorem OPW.store {K : List (Nat × Value) → World → Prop} {ty : TypeId} {x y : Operand} {b i : Nat} (vs : List Value) (hd : o.dst = none) (hw : fw z ops o l = true) (ho : o.op = .store ty x y) (hx : fev z l x = .pointer (some ⟨b, i, none⟩)) (hy : (fev z l y).cells = vs.toArray)
    (hi : (P.info? ty).map (·.size) = some vs.length) (h1 : vs.all (·.oneCell') = true) (ht : w.there b i vs.length) (h : ∀ w', w' = w.setCells b i vs → K l w') : OPW P z ops Q o l w K :=
  .non hd hw (storeN ho hx hy hi h1 ht) (h _ rfl)
theorem run_eq {v v' : Value} {s : Sem Next} (h : s.run P w = .ok (.value v) w') (e : v = v') : s.run P w = .ok (.value v') w' := e ▸ h
theorem wr64 {x : Int} (h1 : -9223372036854775808 ≤ x) (h2 : x ≤ 9223372036854775807) : Value.int .i64 (IntKind.i64.wrap x) = Value.int .i64 x := by
  rw [IntWalk.i64_in x ⟨h1, h2⟩]
theorem max2_eq {k : IntKind} (x y : Int) : Value.int k (if y > x then y else x) = Value.int k (max x y) := by
  congr 1
  split <;> omega
theorem min2_eq {k : IntKind} (x y : Int) : Value.int k (if y < x then y else x) = Value.int k (min x y) := by
  congr 1
  split <;> omega
/-- The place of an element. -/
theorem idx_slice {ty e : TypeId} {X I : Operand} {kd : IntKind} {b i len cap s : Nat} {k : Int} (ho : o.op = .indexAddr ty X I) (hx : fev z l X = .slice (some ⟨b, i, none⟩) len cap) (hi : fev z l I = .int kd k) (h0 : 0 ≤ k) (h1 : k < len)
    (hu : P.underlying ty = some (.slice e)) (hs : (P.info? e).map (·.size) = some s) (m : Nat) (hm : k.toNat * s = m) : (execOp (fev z l) o).run P w = .ok (.value (.pointer (some ⟨b, i + m, none⟩))) w := by
  unfold execOp
  obtain ⟨d, hd, hs'⟩ := Option.map_eq_some_iff.1 hs
  subst hm
  simp [ho, hx, hi, Instr.indexAt, asIntOf, run_underlying hu, sizeOf, typeInfo, hd, hs', h0, h1, Addr.add_mid]

/-- append(nil, xs...): a new row. -/
theorem app_nil {K : List (Nat × Value) → World → Prop} {k : Tmp} {X Y : Operand} {ty e : TypeId} {g m c : Nat} {cs : List Value} {zv : Value} {size bytes : Nat} (hd : o.dst = some k) (hk : Nat.blt k z = true) (hw : fw z ops o l = true)
    (ho : o.op = .call { callee := .builtin .append, args := #[X, Y], argTypes := #[ty, ty] }) (ht : P.underlying ty = some (.slice e)) (hi : (P.info? e).map (fun i => (i.zero, i.size, i.bytes)) = some (some zv, size, bytes)) (hz : Nat.beq zv.cells.size size = true)
    (hx : fev z l X = .slice none 0 0) (hy : fev z l Y = .slice (some ⟨g, 0, none⟩) m c) (hr : w.rangeAt g 0 cs) (hl : Nat.beq cs.length (m * size) = true) (h1 : cs.all (·.oneCell') = true) (hm : 0 < m ∧ 0 < size ∧ m * bytes ≤ 140737488355328 ∧ m ≤ 140737488355328)
    (h : ∀ g' c' w', w.heap.size ≤ g' → m ≤ c' → w'.rangeAt g' 0 cs → g' < w'.heap.size → Below w.heap.size w w' → K ((k, .slice (some ⟨g', 0, none⟩) m c') :: l) w') : OPW P z ops Q o l w K := by
  obtain ⟨i0, hi0, hzz⟩ := Option.map_eq_some_iff.1 hi
  simp only [Prod.mk.injEq] at hzz
  obtain ⟨hz0, hz1, hz2⟩ := hzz
  have hown : w.ownsRow w.heap.size e size (.slice none 0 0) 0 [] := ⟨by simp, .inl ⟨rfl, rfl⟩⟩
  have hadd : ∀ j, (⟨g, 0, none⟩ : Addr).add j = ⟨g, 0 + j, none⟩ := fun j => by unfold Addr.add; split <;> simp_all
  have hlen := Nat.eq_of_beq_eq_true hl
  obtain ⟨v', w', hrun, hown', hgr, _⟩ := run_append_own (P := P) w w.heap.size ty o.type e i0 zv size bytes ht hi0 hz0 hz1 hz2 (Nat.eq_of_beq_eq_true hz) hm.2.1 (.slice none 0 0) 0 [] hown ⟨g, 0, none⟩ m c cs hlen
    (fun j u hu => by rw [hadd]; exact hr j u hu) (fun u hu => List.all_eq_true.1 h1 u hu) (by simp only [maxLen]; omega) (by simpa using hm.2.2.1) (Nat.le_refl _)
  simp only [List.nil_append, Nat.zero_add] at hown'
  have hb : Below w.heap.size w w' := ⟨hgr.os, hgr.tape, hgr.output, hgr.size, fun k hk => hgr.block k hk (by simp [Value.ownBlock])⟩
  have hrun' : (execOp (fev z l) o).run P w = .ok (.value v') w' := by
    unfold execOp
    simp only [ho, resolve, invoke, builtin, Sem.run_bind, Sem.run_pure, Result.andThen_ok, List.map_toArray, List.map_cons, List.map_nil, hx, hy, hrun]
  rcases hown'.2 with ⟨_, hm0⟩ | ⟨g', cap, cur, rfl, hbase, hg', hn, _, _, _⟩
  · omega
  · refine OPW.valW _ hd hk hw hrun' (h g' cap w' hbase hn (fun j u hu => ?_) (Array.getElem?_eq_some_iff.1 hg').1 hb)
    have hc := hown'.cells (g := g') rfl j u hu
    have hadd' : (⟨g', 0, none⟩ : Addr).add j = ⟨g', 0 + j, none⟩ := by unfold Addr.add; split <;> simp_all
    rw [hadd'] at hc
    exact hc

/-! ### Regions that draw their order -/
structure ED (P : Program) (z : Nat) (ops : Array Oper) (Q : Exit → Act → World → Prop) (S : World → Prop) (fuel : Nat) (listed : Array Bool) (l : List (Nat × Value)) (w : World) : Prop where
  out : wpAnyH P .any ops Q S fuel listed ⟨arr z l, []⟩ w
structure YI (P : Program) (z : Nat) (ops : Array Oper) (S : World → Prop) (o : Oper) (v : Value) (l : List (Nat × Value)) : Prop where
  out : (fw z ops o l = true ∧ ∀ w, S w → (execOp (fev z l) o).run P w = .ok (.value v) w) ∨ (fw z ops o l = false ∧ v = undef)
variable {S : World → Prop} {fuel : Nat} {listed : Array Bool} {v : Value}
theorem ED.start {id : Nat} {k : List Oper} (S : World → Prop) (hm : P.follows .mixedOrders = true) (h : ∀ w', w' = w.drew → ED P z k.toArray Q S k.toArray.size (Array.replicate k.toArray.size false) l w') : CW P z Q (.region id k.toArray true) l w :=
  ⟨wp_region_held hm (h _ rfl).out⟩
theorem ED.take {k : Tmp} (i : Nat) (v : Value) (hi : ops[i]? = some o) (hd : o.dst = some k) (hk : Nat.blt k z = true) (hs : Region.noSelect ops = true) (hf : Region.free .any ops listed i = true) (hr : (Region.ready .any ops listed).contains i = true)
    (hQ : ∀ c a w, Q (.panic c) (a.put (some k) v) w → Q (.panic c) a w) (hy : YI P z ops S o v l) (hS : S w) (h : ED P z ops Q S fuel (listed.setIfInBounds i true) ((k, v) :: l) w) : ED P z ops Q S (fuel + 1) listed l w := by
  refine ⟨wpAnyH_take hi hs hf hr (by rw [hd]; exact hQ) ?_ hS (by rw [hd, put_fr z l (lt_of_blt hk)]; exact h.out)⟩
  unfold YieldsIf
  rw [wanted_fr, eval_fr]
  exact hy.out
theorem ED.takeB {k : Tmp} (i : Nat) (p : Bool) (hi : ops[i]? = some o) (hd : o.dst = some k) (hk : Nat.blt k z = true) (hs : Region.noSelect ops = true) (hf : Region.free .any ops listed i = true) (hr : (Region.ready .any ops listed).contains i = true)
    (hQ : ∀ c a w, Q (.panic c) (a.put (some k) (.bool p)) w → Q (.panic c) a w) (hy : YI P z ops S o (.bool p) l) (hS : S w) (h : ∀ b, b = p → ED P z ops Q S fuel (listed.setIfInBounds i true) ((k, .bool b) :: l) w) : ED P z ops Q S (fuel + 1) listed l w :=
  ED.take i _ hi hd hk hs hf hr hQ hy hS (h p rfl)
theorem YI.val (hw : fw z ops o l = true) (run : ∀ w, S w → (execOp (fev z l) o).run P w = .ok (.value v) w) : YI P z ops S o v l := ⟨.inl ⟨hw, run⟩⟩
theorem YI.skip (hw : fw z ops o l = false) : YI P z ops S o undef l := ⟨.inr ⟨hw, rfl⟩⟩
theorem YI.gT {g : Nat} (b : Bool) (hg : o.guard = some (g, true)) (hy : fy z ops l g = some b) (run : b = true → ∀ w, S w → (execOp (fev z l) o).run P w = .ok (.value v) w) : YI P z ops S o (bif b then v else undef) l := by
  cases b with
  | true => exact ⟨.inl ⟨fw_T hg hy, run rfl⟩⟩
  | false => exact ⟨.inr ⟨fw_T hg hy, rfl⟩⟩
theorem YI.gF {g : Nat} (b : Bool) (hg : o.guard = some (g, false)) (hy : fy z ops l g = some b) (run : b = false → ∀ w, S w → (execOp (fev z l) o).run P w = .ok (.value v) w) : YI P z ops S o (bif b then undef else v) l := by
  cases b with
  | false => exact ⟨.inl ⟨fw_F hg hy, run rfl⟩⟩
  | true => exact ⟨.inr ⟨fw_F hg hy, rfl⟩⟩
theorem wpOp_of {i : Nat} {K : List (Nat × Value) → World → Prop} {K' : Act → World → Prop} (ho : ops[i]? = some o) (h : OPW P z ops Q o l w K) (hk : ∀ l w, K l w → K' ⟨arr z l, []⟩ w) : wpOp P ops Q i K' ⟨arr z l, []⟩ w := by
  unfold wpOp
  simp only [ho]
  have h := h.out
  rw [wanted_fr]
  split at h
  · rename_i hw
    rw [if_pos hw]
    exact .inl (Oper.wp_mono (fun a w ⟨l', e, k⟩ => by rw [e]; exact hk _ _ k) h)
  · rename_i hw
    rw [if_neg hw]
    obtain ⟨l', e, h⟩ := h
    rw [e]
    exact hk _ _ h
/-- What operation i is to do. -/
structure EDo (P : Program) (z : Nat) (ops : Array Oper) (Q : Exit → Act → World → Prop) (S : World → Prop) (fuel : Nat) (listed : Array Bool) (l : List (Nat × Value)) (w : World) (i : Nat) : Prop where
  out : ∃ o, ops[i]? = some o ∧ OPW P z ops Q o l w (fun l' w' => S w' ∧ ED P z ops Q S fuel (listed.setIfInBounds i true) l' w')
theorem ED.all (rs : List Nat) (hr : Region.ready .any ops listed = rs) (hne : rs ≠ []) (h : ∀ i ∈ rs, EDo P z ops Q S fuel listed l w i) : ED P z ops Q S (fuel + 1) listed l w :=
  ⟨wpAnyH_all hr hne fun i hi => by
    obtain ⟨o, ho, h⟩ := (h i hi).out
    exact wpOp_of ho h fun _ _ k => ⟨k.1, k.2.out⟩⟩
theorem EDo.nil : ∀ i ∈ ([] : List Nat), EDo P z ops Q S fuel listed l w i := by simp
theorem EDo.cons {i : Nat} {r : List Nat} (ho : ops[i]? = some o) (h : OPW P z ops Q o l w (fun l' w' => S w' ∧ ED P z ops Q S fuel (listed.setIfInBounds i true) l' w')) (hr : ∀ i ∈ r, EDo P z ops Q S fuel listed l w i) : ∀ j ∈ i :: r, EDo P z ops Q S fuel listed l w j :=
  List.forall_mem_cons.2 ⟨⟨o, ho, h⟩, hr⟩
theorem ED.done (hr : Region.ready .any ops listed = []) (h : QN z Q .normal l w) : ED P z ops Q S fuel listed l w := ⟨wpAnyH_done hr h.out _⟩
theorem CW.rounds {c : Code} (n : Nat) (h : CW P z (Exit.then (Code.rounds P c Q n) Q) c l w) : CW P z Q (.loop c) l w := ⟨wp_loop_rounds (n + 1) h.out⟩
theorem roundN {c : Code} {n : Nat} (h : CW P z (Exit.then (Code.rounds P c Q n) Q) c l w) : QN z (Exit.then (Code.rounds P c Q (n + 1)) Q) .normal l w := ⟨h.out⟩
end
end Go.Proofs.Ytddaoelaoncimaa
