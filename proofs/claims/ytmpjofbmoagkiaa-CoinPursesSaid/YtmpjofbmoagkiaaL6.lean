/- The functions of the statement CoinPurses. -/
import Derived.Test.YtmpjofbmoagkiaaPu
namespace Go.Proofs.Ytmpjofbmoagkiaa
open Go.RowKit Go.Maps Mp
set_option maxRecDepth 100000

set_option maxHeartbeats 400000 in
theorem law6_right (n : Int) (w : World) :
    Calls Try.prog 13 #[.int .i64 n] w fun e w' => e = .returned (.bool (rightB n)) ∧ w = w' := by
  by_cases h0 : 0 ≤ n
  · by_cases h1 : n ≤ 1125899906842624
    all_goals
      go_enter Try.func13, Try.ntmps13
      go_wp2
      go_ret
      exact ⟨by simp [rightB, *], rfl⟩
  · go_enter Try.func13, Try.ntmps13
    go_wp2
    go_ret
    exact ⟨by simp [rightB]; omega, rfl⟩

set_option maxHeartbeats 400000 in
theorem law6_add (A : Option Addr) (c : Nat) (xs : List Int) (w : World) (hx : Rd (Value.int .i64) w A xs) (hl : xs.length ≤ 4611686018427387904) :
    Calls Try.prog 9 #[.slice A xs.length c] w fun e w' => e = .returned (.tuple #[.int .i64 (addL 0 xs).1, .int .i64 (addL 0 xs).2]) ∧ w = w' := by
  go_enter Try.func9, Try.ntmps9
  go_wp2
  go_loop [4, 5] (fun s i => ∃ (k : Nat) (t : Int), k ≤ xs.length ∧ i = .int .i64 k ∧ s = .int .i64 t ∧ rightB t = true ∧ addL t (xs.drop k) = addL 0 xs) (fun _ i => xs.length - (intOf i).toNat)
  case atStart => exact ⟨0, 0, Nat.zero_le _, rfl, rfl, rfl, rfl⟩
  case round =>
    obtain ⟨k, t, hk, rfl, rfl, ht, hs⟩ := hrel
    have ht' : 0 ≤ t ∧ t ≤ 1125899906842624 := by simpa [rightB] using ht
    have HS := Hd.mk hs
    clear hs
    by_cases hlt : k < xs.length
    · obtain ⟨b, o, rfl, hc⟩ := hx.some_ (by omega)
      have hck := hc k xs[k] (List.getElem?_eq_getElem hlt)
      clear hc
      have hd : xs.drop k = xs[k] :: xs.drop (k + 1) := List.drop_eq_getElem_cons hlt
      have hstep : addL t (xs.drop k) = if rightB xs[k] then (if 1125899906842624 < t + xs[k] then (0, 10) else addL (t + xs[k]) (xs.drop (k + 1))) else (0, 5) := by rw [hd]; rfl
      rw [HS.out] at hstep
      have HT := Hd.mk hstep
      clear hstep hd HS
      by_cases hr : rightB xs[k] = true
      · have hb : 0 ≤ xs[k] ∧ xs[k] ≤ 1125899906842624 := by simpa [rightB] using hr
        by_cases hov : rightB (t + xs[k]) = true
        · go_wp2_with (go_at_call 13; refine (law6_right _ _).mono ?_; rintro e w' ⟨rfl, rfl⟩)
          go_round
          have hov' : 0 ≤ t + xs[k] ∧ t + xs[k] ≤ 1125899906842624 := by simpa [rightB] using hov
          case rel => exact ⟨k + 1, t + xs[k], by omega, by go_num, rfl, hov, by rw [HT.out, if_pos hr, if_neg (by omega)]⟩
          case measure => simp [intOf]; omega
        · have hov' : rightB (t + xs[k]) = false := by simpa using hov
          have hov2 : 1125899906842624 < t + xs[k] := by simp [rightB] at hov'; omega
          clear hov
          go_wp2_with (go_at_call 13; refine (law6_right _ _).mono ?_; rintro e w' ⟨rfl, rfl⟩)
          go_ret2
          exact ⟨by rw [HT.out, if_pos hr, if_pos (by omega)]; rfl, rfl⟩
      · have hr' : rightB xs[k] = false := by simpa using hr
        clear hr
        go_wp2_with (go_at_call 13; refine (law6_right _ _).mono ?_; rintro e w' ⟨rfl, rfl⟩)
        go_ret2
        exact ⟨by rw [HT.out, hr']; rfl, rfl⟩
    · go_wp2
      go_ret2
      have : k = xs.length := by omega
      exact ⟨by rw [← HS.out, this, List.drop_length]; rfl, rfl⟩

/-- The reference's two lists: keys, and what each has. -/
structure Ref (w : World) (A B : Option Addr) (q : List (Int × Int)) : Prop where
  keys : Rd (Value.int .i64) w A (q.map (·.1))
  vals : Rd (Value.int .i64) w B (q.map (·.2))
theorem Ref.at_ {w : World} {A B : Option Addr} {q : List (Int × Int)} (h : Ref w A B q) (k : Nat) (hk : k < q.length) :
    ∃ b o b2 o2, A = some ⟨b, o, none⟩ ∧ B = some ⟨b2, o2, none⟩ ∧ w.cell? ⟨b, o + k, none⟩ = some (.int .i64 q[k].1) ∧ w.cell? ⟨b2, o2 + k, none⟩ = some (.int .i64 q[k].2) := by
  obtain ⟨b, o, e, h1⟩ := h.keys k q[k].1 (by simp [List.getElem?_eq_getElem hk])
  obtain ⟨b2, o2, e2, h2⟩ := h.vals k q[k].2 (by simp [List.getElem?_eq_getElem hk])
  exact ⟨b, o, b2, o2, e, e2, h1, h2⟩
theorem lk_drop (q : List (Int × Int)) (k : Nat) (hk : k < q.length) (key : Int) : lk (q.drop k) key = if q[k].1 = key then some q[k].2 else lk (q.drop (k + 1)) key := by
  rw [List.drop_eq_getElem_cons hk]
  show lk ((q[k].1, q[k].2) :: _) key = _
  rfl

set_option maxHeartbeats 400000 in
theorem law6_has (A B : Option Addr) (c d : Nat) (q : List (Int × Int)) (key : Int) (w : World) (h : Ref w A B q) (hl : q.length ≤ 4611686018427387904) :
    Calls Try.prog 10 #[.slice A q.length c, .slice B q.length d, .int .i64 key] w fun e w' => e = .returned (.int .i64 (has q key)) ∧ w = w' := by
  go_enter Try.func10, Try.ntmps10
  go_wp2
  go_loop [7] (fun i => ∃ (k : Nat), k ≤ q.length ∧ i = .int .i64 k ∧ lk (q.drop k) key = lk q key) (fun i => q.length - (intOf i).toNat)
  case atStart => exact ⟨0, Nat.zero_le _, rfl, rfl⟩
  case round =>
    obtain ⟨k, hk, rfl, hs⟩ := hrel
    have HS := Hd.mk hs
    clear hs
    by_cases hlt : k < q.length
    · obtain ⟨b, o, b2, o2, rfl, rfl, hc1, hc2⟩ := h.at_ k hlt
      have HT := Hd.mk ((lk_drop q k hlt key).symm.trans HS.out)
      by_cases he : q[k].1 = key
      · have he' : (q[k].1 == key) = true := by simpa using he
        have HE := Hd.mk he
        clear he
        go_wp2
        go_ret
        exact ⟨by rw [has, ← HT.out, if_pos HE.out]; rfl, rfl⟩
      · have he' : (q[k].1 == key) = false := by simpa using he
        have HE := Hd.mk he
        clear he
        go_wp2
        go_round
        case rel => exact ⟨k + 1, by omega, by go_num, by rw [← HT.out, if_neg HE.out]⟩
        case measure => simp [intOf]; omega
    · go_wp2
      go_ret
      have : k = q.length := by omega
      exact ⟨by rw [has, ← HS.out, this, List.drop_length]; rfl, rfl⟩

theorem info_i64 : (Try.prog.info? 2).map (fun i => (i.zero, i.size, i.bytes)) = some (some (.int .i64 0), 1, 8) := by kernel_rfl
theorem info_int : (Try.prog.info? 3).map (fun i => (i.zero, i.size, i.bytes)) = some (some (.int .i64 0), 1, 8) := by kernel_rfl


/-- what put has gathered behind k rounds -/
def outL (q : List (Int × Int)) (key n : Int) (k : Nat) : List Int := (q.take k).map fun p => if p.1 = key then n else p.2
def fnd (q : List (Int × Int)) (key : Int) (k : Nat) : Bool := (q.take k).any fun p => p.1 == key
theorem outL_succ (q : List (Int × Int)) (key n : Int) (k : Nat) (h : k < q.length) : outL q key n (k + 1) = outL q key n k ++ [if q[k].1 = key then n else q[k].2] := by
  rw [outL, List.take_succ_eq_append_getElem h, List.map_append]; rfl
theorem fnd_succ (q : List (Int × Int)) (key : Int) (k : Nat) (h : k < q.length) : fnd q key (k + 1) = (fnd q key k || (q[k].1 == key)) := by
  rw [fnd, List.take_succ_eq_append_getElem h, List.any_append]; simp [fnd]
theorem outL_length (q : List (Int × Int)) (key n : Int) (k : Nat) (h : k ≤ q.length) : (outL q key n k).length = k := by simp [outL]; omega
theorem fnd_mem (q : List (Int × Int)) (key : Int) : fnd q key q.length = true ↔ key ∈ q.map (·.1) := by
  simp only [fnd, List.take_length, List.any_eq_true, List.mem_map, beq_iff_eq]
theorem put_found (q : List (Int × Int)) (key n : Int) (hn : (q.map (·.1)).Nodup) (h : key ∈ q.map (·.1)) : (put q key n).map (·.1) = q.map (·.1) ∧ (put q key n).map (·.2) = outL q key n q.length := by
  refine ⟨by rw [keys_put, if_pos h], ?_⟩
  rw [outL, List.take_length]
  induction q with
  | nil => simp at h
  | cons p r ih =>
    obtain ⟨k, v⟩ := p
    simp only [List.map_cons, List.nodup_cons] at hn
    by_cases e : k = key
    · subst e
      have : ∀ x ∈ r, ¬ x.1 = k := fun x hx e => hn.1 (List.mem_map.2 ⟨x, hx, e⟩)
      simp only [put, if_true, List.map_cons, List.cons.injEq, true_and]
      refine List.map_congr_left fun x hx => ?_
      rw [if_neg (this x hx)]
    · have h2 : key ∈ r.map (·.1) := by
        simp only [List.map_cons, List.mem_cons] at h
        rcases h with h | h
        · exact absurd h.symm e
        · exact h
      simp [put, e, ih hn.2 h2]
theorem put_absent (q : List (Int × Int)) (key n : Int) (h : key ∉ q.map (·.1)) : (put q key n).map (·.1) = q.map (·.1) ++ [key] ∧ (put q key n).map (·.2) = outL q key n q.length ++ [n] ∧ (put q key n).length = q.length + 1 := by
  rw [put_of_not q key n h]
  refine ⟨by simp, ?_, by simp⟩
  rw [outL, List.take_length, List.map_append]
  congr 1
  refine List.map_congr_left fun x hx => ?_
  rw [if_neg (fun e => h (List.mem_map.2 ⟨x, hx, e⟩))]

def PutPost (w : World) (q' : List (Int × Int)) (e : Ending) (w' : World) : Prop := Below w.heap.size w w' ∧
      ∃ A' c' B' d', e = .returned (.tuple #[.slice A' q'.length c', .slice B' q'.length d']) ∧ Ref w' A' B' q'
set_option maxHeartbeats 1000000 in
theorem law6_put (A B : Option Addr) (c d : Nat) (q : List (Int × Int)) (key n : Int) (w : World) (h : Ref w A B q) (hn : (q.map (·.1)).Nodup) (hl : q.length ≤ 1000000) :
    Calls Try.prog 12 #[.slice A q.length c, .slice B q.length d, .int .i64 key, .int .i64 n] w (PutPost w (put q key n)) := by
  go_enter Try.func12, Try.ntmps12
  go_wp2
  go_loopw [10, 11, 12] (fun v f i wr => ∃ (k : Nat), k ≤ q.length ∧ i = .int .i64 k ∧ f = .bool (fnd q key k) ∧ wr.ownsRow w.heap.size 2 1 v k ((outL q key n k).map (Value.int .i64)) ∧ Below w.heap.size w wr) (fun _ _ i _ => q.length - (intOf i).toNat)
  case atStart => exact ⟨0, Nat.zero_le _, rfl, rfl, World.ownsRow_nil _ _ _ _, Below.refl _ _⟩
  case round =>
    obtain ⟨k, hk, rfl, rfl, hown, hbel⟩ := hrel
    have hbs := hbel.size
    by_cases hlt : k < q.length
    · obtain ⟨b, o, b2, o2, rfl, rfl, hc1, hc2⟩ := h.at_ k hlt
      have hc1' := (hbel.cell (p := ⟨b, o + k, none⟩) (World.block_lt_of_cell? w _ hc1)).trans hc1
      have hc2' := (hbel.cell (p := ⟨b2, o2 + k, none⟩) (World.block_lt_of_cell? w _ hc2)).trans hc2
      clear hc1 hc2
      have HO := Hd.mk (outL_succ q key n k hlt)
      have HF := Hd.mk (fnd_succ q key k hlt)
      by_cases he : q[k].1 = key
      · have he' : (q[k].1 == key) = true := by simpa using he
        have HE := Hd.mk he
        clear he
        go_wp2_with (at_builtin; refine wp_app1 w.heap.size rfl _ _ 28 2 (.int .i64 0) 1 8 rfl Try.underlying28 info_i64 rfl (by omega) (by omega) _ k _ #[.int .i64 n] hown rfl rfl rfl (one1 _ rfl) hbs (by omega) ?_; intro v1 w1 hown1 hg1 hat1)
        go_roundw
        case rel => exact ⟨k + 1, by omega, by go_num, by rw [HF.out, he', Bool.or_true], by rw [HO.out, if_pos HE.out, List.map_append]; exact hown1, hbel.grown hg1 hbs (fun j hj => (World.ownsRow.lt hown j hj).1)⟩
        case measure => simp [intOf]; omega
      · have he' : (q[k].1 == key) = false := by simpa using he
        have HE := Hd.mk he
        clear he
        go_wp2_with (at_builtin; refine wp_app1 w.heap.size rfl _ _ 28 2 (.int .i64 0) 1 8 rfl Try.underlying28 info_i64 rfl (by omega) (by omega) _ k _ #[.int .i64 q[k].2] hown rfl rfl rfl (one1 _ rfl) hbs (by omega) ?_; intro v1 w1 hown1 hg1 hat1)
        go_roundw
        case rel => exact ⟨k + 1, by omega, by go_num, by rw [HF.out, he', Bool.or_false], by rw [HO.out, if_neg HE.out, List.map_append]; exact hown1, hbel.grown hg1 hbs (fun j hj => (World.ownsRow.lt hown j hj).1)⟩
        case measure => simp [intOf]; omega
    · have hkl : k = q.length := by omega
      subst hkl
      by_cases hm : key ∈ q.map (·.1)
      · obtain ⟨f1, f2⟩ := put_found q key n hn hm
        have hfl : (put q key n).length = q.length := by have := congrArg List.length f1; simpa using this
        have hf : fnd q key q.length = true := (fnd_mem q key).2 hm
        have H1 := Hd.mk f1
        have H2 := Hd.mk f2
        have H3 := Hd.mk hfl
        clear f1 f2 hfl hm
        rw [hf]
        go_wp2
        go_ret2
        obtain ⟨_, A', c', rfl, hcc, hrd, _⟩ := own_rd hown
        refine ⟨hbel, A, c, A', c', ?_, ?_, ?_⟩
        · rw [H3.out, ← H2.out]; simp [H3.out]
        · rw [H1.out]; exact h.keys.below hbel
        · rw [H2.out]; exact hrd
      · obtain ⟨f1, f2, f3⟩ := put_absent q key n hm
        have hf : fnd q key q.length = false := by
          cases hx : fnd q key q.length with
          | false => rfl
          | true => exact absurd ((fnd_mem q key).1 hx) hm
        have H1 := Hd.mk f1
        have H2 := Hd.mk f2
        have H3 := Hd.mk f3
        clear f1 f2 f3 hm
        rw [hf]
        have hown0 := hown.alloc (.cells #[] 3)
        have hap : Below w.heap.size w (wr.alloc (.cells #[] 3)) := hbel.alloc hbs _
        go_wp2_with (first
          | (at_builtin; refine wp_apps w.heap.size rfl (.tmp 46) (.tmp 47) 27 3 (.int .i64 0) 8 rfl Try.underlying27 info_int rfl (by omega) _ 0 [] (q.map (·.1)) q.length (by simp) A c (own_lit0 wr 3 hbs) ((h.keys.below hbel).below ((Below.refl _ _).alloc (Nat.le_refl _) _)) rfl rfl (fun _ => rfl) (by simp; omega) (by omega) ?_; intro v1 w1 hown1 hg1 _; have hown2 := hown0.kept hg1 (own_apart hown0 (own_lit0 wr 3 hbs) (by decide)); have hap1 := hap.grown hg1 (by simp; omega) (fun j hj => ((own_lit0 wr 3 hbs).lt j hj).1); have hbs1 := hap1.size)
          | (at_builtin; refine wp_app1 w.heap.size rfl (.tmp 49) (.tmp 51) 27 3 (.int .i64 0) 1 8 rfl Try.underlying27 info_int rfl (by omega) (by omega) _ (0 + q.length) _ #[.int .i64 key] hown1 rfl rfl rfl (one1 _ rfl) hbs1 (by omega) ?_; intro v2 w2 hown3 hg2 _; have hown4 := hown2.kept hg2 (own_apart hown2 hown1 (by decide)); have hap2 := hap1.grown hg2 hbs1 (fun j hj => (hown1.lt j hj).1); have hbs2 := hap2.size)
          | (at_builtin; refine wp_app1 w.heap.size rfl _ _ 28 2 (.int .i64 0) 1 8 rfl Try.underlying28 info_i64 rfl (by omega) (by omega) _ q.length _ #[.int .i64 n] hown4 rfl rfl rfl (one1 _ rfl) hbs2 (by omega) ?_; intro v3 w3 hown5 hg3 _; have hown6 := hown3.kept hg3 (own_apart hown3 hown4 (by decide)); have hap3 := hap2.grown hg3 hbs2 (fun j hj => (hown4.lt j hj).1)))
        go_ret2
        have hk : [] ++ (q.map (·.1)).map (Value.int .i64) ++ (#[Value.int .i64 key] : Array Value).toList = ((put q key n).map (·.1)).map (Value.int .i64) := by rw [H1.out]; simp
        have hv : (outL q key n q.length).map (Value.int .i64) ++ (#[Value.int .i64 n] : Array Value).toList = ((put q key n).map (·.2)).map (Value.int .i64) := by rw [H2.out]; simp
        rw [hk] at hown6
        rw [hv] at hown5
        obtain ⟨_, A', c', rfl, hcc, hrd, _⟩ := own_rd hown6
        obtain ⟨_, B', d', rfl, hcd, hrd2, _⟩ := own_rd hown5
        refine ⟨hap3, A', c', B', d', ?_, hrd, hrd2⟩
        simp

theorem mk3 (w : World) : (Instr.makeSlice 28 (.int .i64 3) (.int .i64 3)).run Try.prog w = .ok (.slice (some ⟨w.heap.size, 0, none⟩) 3 3) (w.alloc (.cells #[.int .i64 0, .int .i64 0, .int .i64 0] 2)) := by kernel_rfl
set_option maxHeartbeats 1000000 in
theorem coin_Split3 (w : World) :
    Calls Try.prog 42 #[.int .i64 10, .int .i64 3] w fun e w' => e = .returned (.slice (some ⟨w.heap.size, 0, none⟩) 3 3) ∧ w.alloc (.cells #[.int .i64 4, .int .i64 3, .int .i64 3] 2) = w' := by
  have hm := mk3
  go_enter Try.func42, Try.ntmps42
  go_wp2_with (go_at_call 69; refine (coin_Right _ _).mono ?_; rintro e w' ⟨rfl, rfl⟩)
  refine wp_loop_rounds 4 ?_
  rw [rounds_succ]
  go_wp2
  rw [rounds_succ]
  go_wp2
  rw [rounds_succ]
  go_wp2
  rw [rounds_succ]
  go_wp2
  go_ret
  exact ⟨rfl, rfl⟩

set_option maxHeartbeats 1000000 in
theorem law6_awake (w : World) :
    Calls Try.prog 16 #[] w fun e w' => e = .returned (.bool true) ∧ Below w.heap.size w w' := by
  go_enter Try.func16, Try.ntmps16
  go_wp2_with (go_at_call 42; refine (coin_Split3 _).mono ?_; rintro e w' ⟨rfl, rfl⟩)
  go_ret
  exact ⟨rfl, (Below.refl _ _).alloc (Nat.le_refl _) _⟩

/-- A call of the script. -/
structure COp where
  kind : Int
  src : Int
  dst : Int
  n : Int
def COp.cells (o : COp) : List Value := [.int .i64 o.kind, .int .i64 o.src, .int .i64 o.dst, .int .i64 o.n]
/-- The slice at A reads as xs, sz cells an element. -/
def RdN {α : Type} (enc : α → List Value) (sz : Nat) (w : World) (A : Option Addr) (xs : List α) : Prop :=
  ∀ j x, xs[j]? = some x → ∃ b o, A = some ⟨b, o, none⟩ ∧ ∀ i u, (enc x)[i]? = some u → w.cell? ⟨b, o + (j * sz + i), none⟩ = some u

end Go.Proofs.Ytmpjofbmoagkiaa
