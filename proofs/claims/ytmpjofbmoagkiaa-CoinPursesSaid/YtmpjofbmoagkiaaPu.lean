/- The purse of package coin: what Put, Has and Pay do to it. -/
import Derived.Test.YtmpjofbmoagkiaaCo
import Derived.Test.YtmpjofbmoagkiaaMp
namespace Go.Proofs.Ytmpjofbmoagkiaa
open Go.RowKit Go.Maps Mp

/-- What has turned from w to w': new blocks, and blocks of S. -/
structure Ch (S : Nat → Prop) (w w' : World) : Prop where
  os : w'.os = w.os
  tape : w'.tape = w.tape
  output : w'.output = w.output
  size : w.heap.size ≤ w'.heap.size
  block : ∀ k, k < w.heap.size → ¬ S k → w'.heap[k]? = w.heap[k]?
theorem Ch.refl (S : Nat → Prop) (w : World) : Ch S w w := ⟨rfl, rfl, rfl, Nat.le_refl _, fun _ _ _ => rfl⟩
theorem Ch.trans {S T : Nat → Prop} {a b c : World} (h : Ch S a b) (k : Ch T b c) (hT : ∀ i, i < a.heap.size → T i → S i) : Ch S a c :=
  ⟨k.os.trans h.os, k.tape.trans h.tape, k.output.trans h.output, Nat.le_trans h.size k.size, fun i hi hn => (k.block i (Nat.lt_of_lt_of_le hi h.size) (fun ht => hn (hT i hi ht))).trans (h.block i hi hn)⟩
theorem Ch.alloc {S : Nat → Prop} {a w : World} (h : Ch S a w) (o : Obj) : Ch S a (w.alloc o) :=
  ⟨h.os, h.tape, h.output, Nat.le_trans h.size (by simp), fun k hk hn => (Below.heap_alloc _ _ _ (Nat.lt_of_lt_of_le hk h.size)).trans (h.block k hk hn)⟩
theorem Ch.drew {S : Nat → Prop} {a w : World} (h : Ch S a w) : Ch S a w.drew := ⟨h.os, h.tape, h.output, h.size, h.block⟩
theorem Ch.setCell {S : Nat → Prop} {a w : World} (h : Ch S a w) (p : Addr) (hp : p.block < a.heap.size → S p.block) (u : Value) : Ch S a (w.setCell p u) :=
  ⟨h.os, h.tape, h.output, by simp [World.setCell]; exact h.size, fun k hk hn => (Below.heap_setCell _ _ _ _ (fun e => hn (by rw [e]; exact hp (by rw [← e]; exact hk)))).trans (h.block k hk hn)⟩
theorem Ch.grown {S : Nat → Prop} {a w w' : World} (h : Ch S a w) {row : Option Nat} (hg : w.grownBy w' row) (hr : ∀ k, row = some k → k < a.heap.size → S k) : Ch S a w' :=
  ⟨hg.os.trans h.os, hg.tape.trans h.tape, hg.output.trans h.output, Nat.le_trans h.size hg.size, fun k hk hn => (hg.block k (Nat.lt_of_lt_of_le hk h.size) (fun e => hn (hr k e.symm hk))).trans (h.block k hk hn)⟩
theorem Ch.mono {S T : Nat → Prop} {a w : World} (h : Ch S a w) (hST : ∀ k, k < a.heap.size → S k → T k) : Ch T a w :=
  ⟨h.os, h.tape, h.output, h.size, fun k hk hn => h.block k hk (fun hs => hn (hST k hk hs))⟩

def okI (n : Int) : Prop := -9223372036854775808 ≤ n ∧ n ≤ 9223372036854775807
theorem okI_wf {n : Int} (h : okI n) : (Lit.int .i64 n).wf = true := WalkArith.wf_i64 h
theorem purse_keys : KeyEnc Try.prog 3 (Value.int .i64) okI where
  keyed := int_keyed Try.underlying3
  key := fun x hx => ⟨_, keyOf_int_mk Try.underlying3 (okI_wf hx)⟩
  inj := fun x y h => by injection h
theorem zero_i64 (w : World) : (zeroValue 2).run Try.prog w = .ok (.int .i64 0) w := by kernel_rfl

/-- The purse at block p has the amounts m. -/
def PurseAt (w : World) (p : Nat) (mo : Option Nat) (m : List (Int × Int)) : Prop :=
  w.heap[p]? = some (.cells #[.map mo] 26 (0, 0)) ∧ ((mo = none ∧ m = []) ∨ ∃ r, mo = some r ∧ MapAt (Value.int .i64) (Value.int .i64) okI w r m)
/-- what a key has -/
def has (m : List (Int × Int)) (k : Int) : Int := (lk m k).getD 0

theorem PurseAt.cell {w : World} {p : Nat} {mo : Option Nat} {m : List (Int × Int)} (h : PurseAt w p mo m) : w.cell? ⟨p, 0, none⟩ = some (.map mo) := by
  rw [cell_of_row w p 0 _ _ _ h.1]; rfl
theorem PurseAt.look {w : World} {p : Nat} {mo : Option Nat} {m : List (Int × Int)} (h : PurseAt w p mo m) (k : Int) (hk : okI k) :
    (Instr.lookup 24 (.map mo) (.int .i64 k) false).run Try.prog w = .ok (.int .i64 (has m k)) w := by
  rcases h.2 with ⟨rfl, rfl⟩ | ⟨r, rfl, hm⟩
  · exact (look_nil false purse_keys Try.underlying24 (zero_i64 w) k hk).trans (by simp [has, lk])
  · exact (hm.look false purse_keys Try.underlying24 (zero_i64 w) k hk).trans (by unfold has; cases lk m k <;> rfl)

set_option maxHeartbeats 400000 in
theorem purse_Has (p : Nat) (mo : Option Nat) (m : List (Int × Int)) (key : Int) (hk : okI key) (w : World) (h : PurseAt w p mo m) :
    Calls Try.prog 15 #[.pointer (some ⟨p, 0, none⟩), .int .i64 key] w fun e w' => e = .returned (.int .i64 (has m key)) ∧ w = w' := by
  have hc := h.cell
  have hl := h.look key hk
  go_enter Try.func15, Try.ntmps15
  go_wp2
  go_ret
  exact ⟨rfl, rfl⟩
set_option maxHeartbeats 400000 in
theorem purse_Has_nil (key : Int) (w : World) :
    Calls Try.prog 15 #[.pointer none, .int .i64 key] w fun e w' => e = .returned (.int .i64 0) ∧ w = w' := by
  go_enter Try.func15, Try.ntmps15
  go_wp2
  go_ret
  exact ⟨rfl, rfl⟩

theorem PurseAt.alloc {w : World} {p : Nat} {mo : Option Nat} {m : List (Int × Int)} (h : PurseAt w p mo m) (o : Obj) : PurseAt (w.alloc o) p mo m := by
  have hp : p < w.heap.size := (Array.getElem?_eq_some_iff.1 h.1).1
  refine ⟨(Below.heap_alloc w o p hp).trans h.1, ?_⟩
  rcases h.2 with h2 | ⟨r, e, hm⟩
  · exact .inl h2
  · exact .inr ⟨r, e, hm.of_heap (Below.heap_alloc w o r hm.lt)⟩
/-- what Put answers, and the amounts behind it -/
def putE (m : List (Int × Int)) (k n : Int) : Int := (addL 0 [has m k, n]).2
def putM (m : List (Int × Int)) (k n : Int) : List (Int × Int) := if putE m k n = 0 then put m k (addL 0 [has m k, n]).1 else m

set_option maxRecDepth 100000 in
set_option maxHeartbeats 400000 in
theorem purse_Put (p : Nat) (mo : Option Nat) (m : List (Int × Int)) (key n : Int) (hk : okI key) (w : World) (h : PurseAt w p mo m) :
    Calls Try.prog 11 #[.pointer (some ⟨p, 0, none⟩), .int .i64 key, .int .i64 n] w fun e w' => e = .returned (.int .i64 (putE m key n)) ∧
      ∃ mo', PurseAt w' p mo' (putM m key n) ∧ Ch (fun k => k = p ∨ some k = mo) w w' ∧ (mo' = mo ∨ ∃ r, mo' = some r ∧ w.heap.size ≤ r) := by
  have hc := h.cell
  have hl := h.look key hk
  have hr2 := addL_range [has m key, n] 0 (by omega) (by omega)
  have hf : w.frozen? ⟨p, 0, none⟩ = false := frozen_of_row w p 0 _ _ h.1
  have hmm := @run_makeMap Try.prog
  go_enter Try.func11, Try.ntmps11
  go_wp2_with fail
  refine (coin_Add _ _ [has m key, n] _ (rd_lit _ _ _ _ rfl) (by simp)).mono ?_
  rintro e w1 ⟨rfl, hw⟩
  have h1 : PurseAt w1 p mo m := by rw [← hw]; exact h.alloc _
  have c1 : Ch (fun k => k = p ∨ some k = mo) w w1 := by rw [← hw]; exact (Ch.refl _ _).alloc _
  clear hw hc hl hf
  by_cases he : putE m key n = 0
  · have he' : ((addL 0 [has m key, n]).2 == 0) = true := by simpa [putE] using he
    have HM : Hd (putM m key n = put m key (addL 0 [has m key, n]).1) := ⟨by rw [putM, if_pos he]⟩
    have HE := Hd.mk he
    have hc1 := h1.cell
    have hf1 : w1.frozen? ⟨p, 0, none⟩ = false := frozen_of_row w1 p 0 _ _ h1.1
    have hlt : p < w1.heap.size := (Array.getElem?_eq_some_iff.1 h1.1).1
    rcases h1.2 with ⟨rfl, rfl⟩ | ⟨r, rfl, hm⟩
    · have hne := run_eql_map_nil (P := Try.prog) w1 24 3 2 none Try.underlying24
      have hM : MapAt (Value.int .i64) (Value.int .i64) okI ((w1.setCell ⟨p, 0, none⟩ (.map (some w1.heap.size))).alloc (.map #[] 0)) w1.heap.size [] := by
        have h := MapAt.made (Value.int .i64) (Value.int .i64) okI (w1.setCell ⟨p, 0, none⟩ (.map (some w1.heap.size)))
        simpa using h
      have hb2 : ((w1.setCell ⟨p, 0, none⟩ (.map (some w1.heap.size))).alloc (.map #[] 0)).heap[p]? = some (.cells #[.map (some w1.heap.size)] 26 (0, 0)) := by
        rw [Below.heap_alloc _ _ _ (by simpa using hlt)]
        exact (heap_setCell_same w1 p 0 _ _ _ h1.1).trans rfl
      have c2 : Ch (fun k => k = p ∨ some k = none) w ((w1.setCell ⟨p, 0, none⟩ (.map (some w1.heap.size))).alloc (.map #[] 0)) := (c1.setCell _ (fun _ => .inl rfl) _).alloc _
      have HB := Hd.mk hb2
      clear hb2
      go_wp2_with (at_mapUpdate; refine hM.wp_store purse_keys Try.underlying24 rfl _ _ _ rfl key hk (addL 0 [has [] key, n]).1 rfl rfl rfl ?_; intro w2 hm2 hg2 _)
      go_ret
      refine ⟨by rw [HE.out]; rfl, some w1.heap.size, ⟨(hg2.block p (by simp; omega) (fun e => by injection e; omega)).trans HB.out, .inr ⟨_, rfl, by rw [HM.out]; exact hm2⟩⟩, c2.grown hg2 (fun k e hk => by injection e with e; have := c1.size; omega), .inr ⟨_, rfl, c1.size⟩⟩
    · have hne := run_eql_map_nil (P := Try.prog) w1 24 3 2 (some r) Try.underlying24
      go_wp2_with (at_mapUpdate; refine hm.wp_store purse_keys Try.underlying24 rfl _ _ _ rfl key hk (addL 0 [has m key, n]).1 rfl rfl rfl ?_; intro w2 hm2 hg2 _)
      go_ret
      have hpr : p ≠ r := by
        rintro rfl
        obtain ⟨es, clock, hb, _⟩ := hm
        rw [h1.1] at hb
        cases hb
      refine ⟨by rw [HE.out]; rfl, some r, ⟨(hg2.block p (by omega) (fun e => hpr (by injection e))).trans h1.1, .inr ⟨_, rfl, by rw [HM.out]; exact hm2⟩⟩, c1.grown hg2 (fun k e hk => .inr e.symm), .inl rfl⟩
  · have he' : ((addL 0 [has m key, n]).2 == 0) = false := by simpa [putE] using he
    have HM : Hd (putM m key n = m) := ⟨by rw [putM, if_neg he]⟩
    clear he
    go_wp2_with fail
    go_ret
    exact ⟨rfl, mo, by rw [HM.out]; exact h1, c1, .inl rfl⟩

/-- what Pay answers, and the amounts behind it -/
def payE (m : List (Int × Int)) (a b n : Int) : Int := if (subL (has m a) [n]).2 = 0 then (if a = b ∨ n = 0 then 0 else putE m b n) else (subL (has m a) [n]).2
def payM (m : List (Int × Int)) (a b n : Int) : List (Int × Int) :=
  if (subL (has m a) [n]).2 = 0 ∧ ¬ (a = b ∨ n = 0) ∧ putE m b n = 0 then put (putM m b n) a (subL (has m a) [n]).1 else m

theorem PurseAt.some_ {w : World} {p : Nat} {mo : Option Nat} {m : List (Int × Int)} {x u : Int} (h : PurseAt w p mo (put m x u)) : ∃ r, mo = some r ∧ MapAt (Value.int .i64) (Value.int .i64) okI w r (put m x u) := by
  rcases h.2 with ⟨_, h2⟩ | h2
  · exfalso
    cases m with
    | nil => simp [put] at h2
    | cons q r => obtain ⟨k, v⟩ := q; by_cases e : k = x <;> simp [put, e] at h2
  · exact h2

set_option maxHeartbeats 800000 in
theorem purse_Pay (p : Nat) (mo : Option Nat) (m : List (Int × Int)) (a b n : Int) (ha : okI a) (hb : okI b) (w : World) (h : PurseAt w p mo m) :
    Calls Try.prog 14 #[.pointer (some ⟨p, 0, none⟩), .int .i64 a, .int .i64 b, .int .i64 n] w fun e w' => e = .returned (.int .i64 (payE m a b n)) ∧
      ∃ mo', PurseAt w' p mo' (payM m a b n) ∧ Ch (fun k => k = p ∨ some k = mo) w w' ∧ (mo' = mo ∨ ∃ r, mo' = some r ∧ w.heap.size ≤ r) := by
  go_enter Try.func14, Try.ntmps14
  go_wp2_with fail
  refine (purse_Has p mo m a ha _ h).mono ?_
  rintro e w' ⟨rfl, rfl⟩
  go_wp2_with fail
  refine (coin_Sub (has m a) _ _ [n] _ (rd_lit _ _ _ _ rfl) (by simp)).mono ?_
  rintro e w1 ⟨rfl, hw⟩
  have h1 : PurseAt w1 p mo m := by rw [← hw]; exact h.alloc _
  have c1 : Ch (fun k => k = p ∨ some k = mo) w w1 := by rw [← hw]; exact (Ch.refl _ _).alloc _
  clear hw
  by_cases he : (subL (has m a) [n]).2 = 0
  · have he' : ((subL (has m a) [n]).2 == 0) = true := by simpa using he
    by_cases hs : a = b ∨ n = 0
    · have HE : Hd (payE m a b n = 0) := ⟨by rw [payE, if_pos he, if_pos hs]⟩
      have HM : Hd (payM m a b n = m) := ⟨by rw [payM, if_neg (fun h => h.2.1 hs)]⟩
      have hs' : (a == b) = true ∨ ((a == b) = false ∧ (n == 0) = true) := by
        by_cases e : a = b
        · exact .inl (by simpa using e)
        · exact .inr ⟨by simpa using e, by simpa [e] using hs⟩
      clear hs he
      rcases hs' with h2 | ⟨h2, h3⟩
      · go_wp2_with fail
        go_ret
        exact ⟨by rw [HE.out]; rfl, mo, by rw [HM.out]; exact h1, c1, .inl rfl⟩
      · go_wp2_with fail
        go_ret
        exact ⟨by rw [HE.out]; rfl, mo, by rw [HM.out]; exact h1, c1, .inl rfl⟩
    · have HS := Hd.mk hs
      have hs1 : (a == b) = false := by simpa using fun e => hs (.inl e)
      have hs2 : (n == 0) = false := by simpa using fun e => hs (.inr e)
      have HE : Hd (payE m a b n = putE m b n) := ⟨by rw [payE, if_pos he, if_neg hs]⟩
      have HN := Hd.mk he
      clear hs he
      go_wp2_with fail
      refine (purse_Put p mo m b n hb _ h1).mono ?_
      rintro e w2 ⟨rfl, mo', h2, c2, hmo⟩
      have c3 : Ch (fun k => k = p ∨ some k = mo) w w2 := c1.trans c2 (fun _ _ h => h)
      have hmo' : mo' = mo ∨ ∃ r, mo' = some r ∧ w.heap.size ≤ r := hmo.imp id (fun ⟨r, e, hr⟩ => ⟨r, e, Nat.le_trans c1.size hr⟩)
      clear c1 c2 hmo
      by_cases hp : putE m b n = 0
      · have hp' : (putE m b n == 0) = true := by simpa using hp
        have HM : Hd (payM m a b n = put (putM m b n) a (subL (has m a) [n]).1) := ⟨by rw [payM, if_pos ⟨HN.out, HS.out, hp⟩]⟩
        have h3 : PurseAt w2 p mo' (put m b (addL 0 [has m b, n]).1) := by have := h2; rwa [putM, if_pos hp] at this
        obtain ⟨r, hr, hm⟩ := h3.some_
        have hm2 : MapAt (Value.int .i64) (Value.int .i64) okI w2 r (putM m b n) := by rw [putM, if_pos hp]; exact hm
        have HP := Hd.mk hp
        clear hp h3 hm
        have hc := h2.cell
        rw [hr] at hc
        have HR := Hd.mk hr
        clear hr
        go_wp2_with (at_mapUpdate; refine hm2.wp_store purse_keys Try.underlying24 rfl _ _ _ rfl a ha (subL (has m a) [n]).1 rfl rfl rfl ?_; intro w3 hm3 hg3 _)
        go_ret
        have hpr : p ≠ r := by
          rintro rfl
          obtain ⟨es, clock, hb, _⟩ := hm2
          rw [h2.1] at hb
          cases hb
        have hp2 : p < w2.heap.size := (Array.getElem?_eq_some_iff.1 h2.1).1
        refine ⟨by rw [HE.out, HP.out]; rfl, mo', ⟨(hg3.block p hp2 (fun e => hpr (by injection e))).trans h2.1, .inr ⟨r, HR.out, by rw [HM.out]; exact hm3⟩⟩, c3.grown hg3 (fun k e hk => ?_), hmo'⟩
        injection e with e
        subst e
        rcases hmo' with e | ⟨q, e, hq⟩
        · exact .inr (by rw [← e, HR.out])
        · rw [HR.out] at e; injection e with e; omega
      · have hp' : (putE m b n == 0) = false := by simpa using hp
        have HM : Hd (payM m a b n = m) := ⟨by rw [payM, if_neg (fun h => hp h.2.2)]⟩
        have h3 : PurseAt w2 p mo' m := by have := h2; rwa [putM, if_neg hp] at this
        clear hp
        go_wp2_with fail
        go_ret
        exact ⟨by rw [HE.out]; rfl, mo', by rw [HM.out]; exact h3, c3, hmo'⟩
  · have he' : ((subL (has m a) [n]).2 == 0) = false := by simpa using he
    have HE : Hd (payE m a b n = (subL (has m a) [n]).2) := ⟨by rw [payE, if_neg he]⟩
    have HM : Hd (payM m a b n = m) := ⟨by rw [payM, if_neg (fun h => he h.1)]⟩
    clear he
    go_wp2_with fail
    go_ret
    exact ⟨by rw [HE.out]; rfl, mo, by rw [HM.out]; exact h1, c1, .inl rfl⟩

set_option maxHeartbeats 400000 in
theorem purse_Put_nil (key n : Int) (w : World) :
    Calls Try.prog 11 #[.pointer none, .int .i64 key, .int .i64 n] w fun e w' => e = .returned (.int .i64 1) ∧ w = w' := by
  go_enter Try.func11, Try.ntmps11
  go_wp2_with fail
  go_ret
  exact ⟨rfl, rfl⟩
set_option maxHeartbeats 400000 in
theorem purse_Pay_nil (a b n : Int) (w : World) :
    Calls Try.prog 14 #[.pointer none, .int .i64 a, .int .i64 b, .int .i64 n] w fun e w' => e = .returned (.int .i64 1) ∧ w = w' := by
  go_enter Try.func14, Try.ntmps14
  go_wp2_with fail
  go_ret
  exact ⟨rfl, rfl⟩
end Go.Proofs.Ytmpjofbmoagkiaa
