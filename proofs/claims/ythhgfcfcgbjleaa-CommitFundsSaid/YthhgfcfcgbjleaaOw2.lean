/- commit.Owner, of any channel and transaction. -/
import Derived.Test.YthhgfcfcgbjleaaOw
namespace Go.Proofs.Ythhgfcfcgbjleaa
open Go.RowKit
set_option maxRecDepth 100000
theorem sum0 : sumL (fun _ => 0) = zeros := by rfl
theorem sumEq_zeros (s : Nat → Int) : sumEq s (fun _ => 0) = decide (sumL s = zeros) := by rw [sumEq_iff, sum0]
/-- whose commitment a transaction is -/
def ownerF (c : Chn) (T : Txx) : Int :=
  match T.ins, T.outs with
  | [i], [o1, o2] => match o1.ways with
    | [y0, y1] =>
      if i.tx = c.tx ∧ i.at_ = c.at_ ∧ T.op.kind = 0 then
        if y0.keys = [c.client] ∧ y0.wait = c.wait ∧ y0.after = 0 ∧ y0.hash = zeros ∧ y1.keys = [c.peer] ∧ y1.wait = 0 ∧ y1.after = 0 ∧ y1.hash ≠ zeros ∧ soleB o2 c.peer = true then 0
        else if y0.keys = [c.peer] ∧ y0.wait = c.wait ∧ y0.after = 0 ∧ y0.hash = zeros ∧ y1.keys = [c.client] ∧ y1.wait = 0 ∧ y1.after = 0 ∧ y1.hash ≠ zeros ∧ soleB o2 c.client = true then 1
        else -1
      else -1
    | _ => -1
  | _, _ => -1
theorem ownerF_ins (c : Chn) {ins : List Inn} {outs : List Ou} {op : Opp} {sg : List Sig} (h : ins.length ≠ 1) : ownerF c ⟨ins, outs, op, sg⟩ = -1 := by
  match ins, h with
  | [], _ => rfl
  | _ :: _ :: _, _ => rfl
theorem ownerF_outs (c : Chn) {i : Inn} {outs : List Ou} {op : Opp} {sg : List Sig} (h : outs.length ≠ 2) : ownerF c ⟨[i], outs, op, sg⟩ = -1 := by
  match outs, h with
  | [], _ => rfl
  | [_], _ => rfl
  | _ :: _ :: _ :: _, _ => rfl
theorem ownerF_ways (c : Chn) {i : Inn} {am : Int} {ws : List Wy} {o2 : Ou} {op : Opp} {sg : List Sig} (h : ws.length ≠ 2) : ownerF c ⟨[i], [⟨am, ws⟩, o2], op, sg⟩ = -1 := by
  match ws, h with
  | [], _ => rfl
  | [_], _ => rfl
  | _ :: _ :: _ :: _, _ => rfl
theorem rng_app {w : World} {b o n : Nat} {xs ys : List Value} (h1 : w.rangeAt b o xs) (h2 : w.rangeAt b (o + n) ys) (hn : xs.length = n) : w.rangeAt b o (xs ++ ys) := fun j v hj => by
  subst hn
  by_cases hlt : j < xs.length
  · exact h1 j v (by rwa [List.getElem?_append_left hlt] at hj)
  · rw [List.getElem?_append_right (by omega)] at hj
    have := h2 _ v hj
    rw [show o + xs.length + (j - xs.length) = o + j by omega] at this
    exact this
theorem rd1 {w : World} {K : Option Addr} {k : Int} (h : Rd (Value.int .i64) w K [k]) : ∃ b o, K = some ⟨b, o, none⟩ ∧ w.rangeAt b o [.int .i64 k] := by
  obtain ⟨b, o, e, hc⟩ := h 0 k rfl
  refine ⟨b, o, e, fun j v hj => ?_⟩
  match j, hj with
  | 0, hj => cases hj; exact hc
theorem Inn.cells_eq (x : Nat → Int) (a y : Int) (p : List Int) (D : Option Addr) (d : Nat) : (⟨sumL x, a, y, p⟩ : Inn).cells D d = inC x a y D p.length d := by kernel_rfl
theorem Wy.cells_eq (h : Nat → Int) (ks : List Int) (a y : Int) (K : Option Addr) (c : Nat) : (⟨ks, sumL h, a, y⟩ : Wy).cells K c = wyC (.slice K ks.length c) h a y := by kernel_rfl
theorem Chn.cells_eq (id client peer : Int) (s : Nat → Int) (at_ cap wait window : Int) : (⟨id, client, peer, sumL s, at_, cap, wait, window⟩ : Chn).cells = chnC id client peer s at_ cap wait window := by kernel_rfl
theorem txCells_eq (ins : List Inn) (outs : List Ou) (kind tower channel amount : Int) (r : Nat → Int) (data : List Int) (signs : List Sig) (A : Option Addr) (a : Nat) (B : Option Addr) (b : Nat) (D : Option Addr) (d : Nat) (S : Option Addr) (s : Nat) :
    txCells ⟨ins, outs, ⟨kind, tower, channel, amount, sumL r, data⟩, signs⟩ A a B b D d S s = txC (.slice A ins.length a) (.slice B outs.length b) kind tower channel amount r D data.length d S signs.length s := by kernel_rfl
theorem ne_len {n : Nat} (m : Nat) (h : n ≠ m) : ((n : Int) != (m : Int)) = true := by simp; omega
theorem eq_len {n : Nat} (m : Nat) (h : n ≠ m) : ((n : Int) == (m : Int)) = false := by simp; omega

theorem ownI_eq (a b c : Prop) [Decidable a] [Decidable b] [Decidable c] (no t0 t1 : Bool) (h0 : no = !decide a) (h1 : t0 = decide b) (h2 : t1 = decide c) : ownI no t0 t1 = if a then (if b then 0 else if c then 1 else -1) else -1 := by
  subst h0 h1 h2
  unfold ownI
  by_cases a <;> by_cases b <;> by_cases c <;> simp [*]
theorem commit_Owner (c : Chn) (hc : c.tx.length = 32) (hclient : -9223372036854775808 ≤ c.client ∧ c.client ≤ 9223372036854775807) (hpeer : -9223372036854775808 ≤ c.peer ∧ c.peer ≤ 9223372036854775807)
    (v : Value) (T : Txx) (w : World) (h : TxIs w v T) : Calls Try.prog 46 #[.agg c.cells.toArray, v] w fun e w' => e = .returned (.int .i64 (ownerF c T)) ∧ Below w.heap.size w w' := by
  obtain ⟨cs, A, a, B, b, D, d, S, s, rfl, h⟩ := h
  obtain ⟨id, client, peer, tx, at_, cap, wait, window⟩ := c
  obtain ⟨sx, rfl⟩ := sumL_of hc
  obtain ⟨ins, outs, ⟨kind, tower, channel, amount, root, data⟩, signs⟩ := T
  obtain ⟨r, rfl⟩ := sumL_of h.opOk.len
  rw [h.cells, Chn.cells_eq, txCells_eq]
  simp only at hclient hpeer
  have hI := h.ins
  have hT := h.outs
  simp only at hI hT
  by_cases l : ins.length = 1
  case neg =>
    rw [ownerF_ins _ l]
    apply owner0 (hn := ne_len 1 l)
  match ins, hI, h.insOk, l with
  | [i], hI, iok, _ =>
  obtain ⟨bi, oi, rfl, Ai, ai, hi, -⟩ := hI 0 i rfl
  have iok := (iok i (by simp)).len
  obtain ⟨itx, iat, iway, ipre⟩ := i
  obtain ⟨xi, rfl⟩ := sumL_of iok
  rw [Inn.cells_eq] at hi
  simp only [Nat.zero_mul, Nat.add_zero] at hi
  by_cases l : outs.length = 2
  case neg =>
    rw [ownerF_outs _ l]
    apply owner1 (hI := hi) (hn := ne_len 2 l)
  match outs, hT, l with
  | [o1, o2], hT, _ =>
  obtain ⟨bo, oo, rfl, B1, cw, ho1, hw1, hok1, -⟩ := hT 0 o1 rfl
  obtain ⟨bo', oo', e, B2, c2, ho2, hw2, hok2, hl2⟩ := hT 1 o2 rfl
  cases e
  have hO : w.rangeAt bo oo [.int .i64 o1.amount, .slice B1 o1.ways.length cw, .int .i64 o2.amount, .slice B2 o2.ways.length c2] := rng_app (n := 2) (by simpa using ho1) (by simpa using ho2) rfl
  have hout : OutIs w (.agg #[.int .i64 o2.amount, .slice B2 o2.ways.length c2]) o2 := ⟨_, _, rfl, hw2, hok2, hl2⟩
  clear ho1 ho2
  obtain ⟨am1, ws1⟩ := o1
  simp only at hO hw1 hok1
  by_cases l : ws1.length = 2
  case neg =>
    rw [ownerF_ways _ l]
    apply owner2 (hI := hi) (hT := hO) (hn := ne_len 2 l)
  match ws1, hO, hw1, hok1, l with
  | [y0, y1], hO, hw1, hok1, _ =>
  obtain ⟨bw, ow, rfl, K, ck, hy0, hk0⟩ := hw1 0 y0 rfl
  obtain ⟨bw', ow', e, L, cq, hy1, hk1⟩ := hw1 1 y1 rfl
  cases e
  have z0 := (hok1 y0 (by simp)).len
  have z1 := (hok1 y1 (by simp)).len
  obtain ⟨ks0, hh0, af0, wt0⟩ := y0
  obtain ⟨ks1, hh1, af1, wt1⟩ := y1
  obtain ⟨h0, rfl⟩ := sumL_of z0
  obtain ⟨h1, rfl⟩ := sumL_of z1
  rw [Wy.cells_eq] at hy0 hy1
  simp only [Nat.zero_mul, Nat.add_zero, Nat.one_mul] at hy0 hy1 hk0 hk1
  have hW : w.rangeAt bw ow (cat [wyC (.slice K ks0.length ck) h0 af0 wt0, wyC (.slice L ks1.length cq) h1 af1 wt1]) := by
    have := rng_app hy0 hy1 (by kernel_rfl)
    simpa [cat] using this
  clear hy0 hy1
  have hno : ∀ (k : Int) (ks : List Int), ks.length ≠ 1 → ks ≠ [k] := fun k ks h e => h (by rw [e]; rfl)
  by_cases l0 : ks0.length = 1
  case neg =>
    have e0 : ownerF ⟨id, client, peer, sumL sx, at_, cap, wait, window⟩ ⟨[⟨sumL xi, iat, iway, ipre⟩], [⟨am1, [⟨ks0, sumL h0, af0, wt0⟩, ⟨ks1, sumL h1, af1, wt1⟩]⟩, o2], ⟨kind, tower, channel, amount, sumL r, data⟩, signs⟩ = -1 := by
      simp [ownerF, hno client ks0 l0, hno peer ks0 l0]
    rw [e0]
    apply owner3 (hI := hi) (hT := hO) (hclient := hclient) (hpeer := hpeer) (hW := hW) (hn := eq_len 1 l0)
  match ks0, l0, hk0, hW with
  | [k0], _, hk0, hW =>
  obtain ⟨bk, ok, rfl, hK⟩ := rd1 hk0
  by_cases l1 : ks1.length = 1
  case neg =>
    have e0 : ownerF ⟨id, client, peer, sumL sx, at_, cap, wait, window⟩ ⟨[⟨sumL xi, iat, iway, ipre⟩], [⟨am1, [⟨[k0], sumL h0, af0, wt0⟩, ⟨ks1, sumL h1, af1, wt1⟩]⟩, o2], ⟨kind, tower, channel, amount, sumL r, data⟩, signs⟩ = -1 := by
      simp [ownerF, hno client ks1 l1, hno peer ks1 l1]
    rw [e0]
    apply owner4 (hI := hi) (hT := hO) (hclient := hclient) (hpeer := hpeer) (hK := hK) (hW := hW) (hm := eq_len 1 l1)
  match ks1, l1, hk1, hW with
  | [q0], _, hk1, hW =>
  obtain ⟨bq, oq, rfl, hQ⟩ := rd1 hk1
  have := owner5 (id := id) (cap := cap) (window := window) (tower := tower) (channel := channel) (amount := amount) (s := sx) (r := r) (D := D) (S := S) (nD := data.length) (d := d) (nS := signs.length) (sg := s) (ci := a) (co := b) (at_ := at_) (wait := wait) (kind := kind) (hI := hi) (hT := hO) (hclient := hclient) (hpeer := hpeer) (hK := hK) (hQ := hQ) (hout := hout) (hW := hW)
  rw [ownI_eq (sumL xi = sumL sx ∧ iat = at_ ∧ kind = 0) (k0 = client ∧ wt0 = wait ∧ af0 = 0 ∧ sumL h0 = zeros ∧ q0 = peer ∧ wt1 = 0 ∧ af1 = 0 ∧ sumL h1 ≠ zeros ∧ soleB o2 peer = true) (k0 = peer ∧ wt0 = wait ∧ af0 = 0 ∧ sumL h0 = zeros ∧ q0 = client ∧ wt1 = 0 ∧ af1 = 0 ∧ sumL h1 ≠ zeros ∧ soleB o2 client = true)] at this
  · unfold OwnerR at this
    refine this.mono fun e w' ⟨e1, e2⟩ => ⟨?_, e2⟩
    rw [e1]
    simp only [ownerF, List.cons.injEq, and_true]
  · rw [sumEq_iff, Bool.eq_iff_iff]
    simp [Classical.or_iff_not_imp_left]
  · unfold ownT
    rw [sumEq_zeros, sumEq_zeros, Bool.eq_iff_iff]
    simp [and_assoc]
  · unfold ownT
    rw [sumEq_zeros, sumEq_zeros, Bool.eq_iff_iff]
    simp [and_assoc]
end Go.Proofs.Ythhgfcfcgbjleaa
