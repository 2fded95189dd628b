/- The plain law of CoinPurses: the purse's amounts and the reference's lists go together. -/
import Derived.Test.YtmpjofbmoagkiaaPu
namespace Go.Proofs.Ytmpjofbmoagkiaa
open Mp

theorem has_put (m : List (Int × Int)) (k x u : Int) : has (put m k u) x = if k = x then u else has m x := by
  unfold has; rw [lk_put]; split <;> rfl
/-- The purse and the reference's lists go together. -/
structure Both (m q : List (Int × Int)) : Prop where
  same : ∀ k, has m k = has q k
  nodup : (q.map (·.1)).Nodup
  right : ∀ k, 0 ≤ has q k ∧ has q k ≤ 1125899906842624
  ok : ∀ p ∈ q, okI p.1
theorem put_ok {q : List (Int × Int)} {k u : Int} (h : ∀ p ∈ q, okI p.1) (hk : okI k) : ∀ p ∈ put q k u, okI p.1 := by
  intro p hp
  have h1 : p.1 ∈ (put q k u).map (·.1) := List.mem_map.2 ⟨p, hp, rfl⟩
  rw [keys_put] at h1
  split at h1
  · obtain ⟨r, hr, e⟩ := List.mem_map.1 h1; rw [← e]; exact h r hr
  · rcases List.mem_append.1 h1 with h1 | h1
    · obtain ⟨r, hr, e⟩ := List.mem_map.1 h1; rw [← e]; exact h r hr
    · have : p.1 = k := by simpa using h1
      rw [this]; exact hk
theorem put_length (q : List (Int × Int)) (k u : Int) : (put q k u).length ≤ q.length + 1 := by
  have h := congrArg List.length (keys_put q k u)
  split at h <;> simp at h <;> omega
theorem Both.put_ {m q : List (Int × Int)} (h : Both m q) {k u : Int} (hk : okI k) (h0 : 0 ≤ u) (h1 : u ≤ 1125899906842624) : Both (put m k u) (put q k u) :=
  ⟨fun x => by rw [has_put, has_put, h.same], nodup_put q h.nodup k u, fun x => by rw [has_put]; split; exact ⟨h0, h1⟩; exact h.right x, put_ok h.ok hk⟩
theorem Both.put2 {m q : List (Int × Int)} (h : Both m q) {k n : Int} (hk : okI k) (h0 : (addL 0 [has q k, n]).2 = 0) : Both (putM m k n) (put q k (addL 0 [has q k, n]).1) := by
  have hr := addL_range [has q k, n] 0 (by omega) (by omega)
  have e : putM m k n = put m k (addL 0 [has q k, n]).1 := by rw [putM, putE, h.same, if_pos h0]
  rw [e]
  exact h.put_ hk hr.1 hr.2.1
theorem putM_same {m q : List (Int × Int)} (h : Both m q) {k n : Int} (h0 : (addL 0 [has q k, n]).2 ≠ 0) : putM m k n = m := by
  rw [putM, putE, h.same, if_neg h0]

/-- what the reference says of Pay -/
def wantE (q : List (Int × Int)) (a b n : Int) : Int := if rightB n then (if has q a < n then 14 else if a ≠ b ∧ rightB (has q b + n) = false then 10 else 0) else 5
theorem add1 (n : Int) : addL 0 [n] = if rightB n then (n, 0) else (0, 5) := by
  unfold addL
  by_cases h : rightB n = true
  · have : 0 ≤ n ∧ n ≤ 1125899906842624 := by simpa [rightB] using h
    rw [if_pos h, if_pos h, if_neg (by omega), Int.zero_add]; rfl
  · rw [if_neg h, if_neg h]
theorem add2 (u n : Int) (h0 : 0 ≤ u) (h1 : u ≤ 1125899906842624) : addL 0 [u, n] = if rightB n then (if 1125899906842624 < u + n then (0, 10) else (u + n, 0)) else (0, 5) := by
  have hu : rightB u = true := by simp [rightB]; omega
  unfold addL
  rw [if_pos hu, if_neg (by omega), Int.zero_add]
  unfold addL
  rfl
theorem payE_eq {m q : List (Int × Int)} (h : Both m q) (a b n : Int) : payE m a b n = wantE q a b n := by
  have ra := h.right a
  have rb := h.right b
  have hra : rightB (has q a) = true := by simp [rightB]; omega
  unfold payE wantE subL putE
  rw [h.same, h.same, add1, hra, if_pos rfl, add2 _ _ rb.1 rb.2]
  by_cases hn : rightB n = true
  · have hn' : 0 ≤ n ∧ n ≤ 1125899906842624 := by simpa [rightB] using hn
    simp only [hn, if_true]
    by_cases h1 : has q a < n
    · simp [h1]
    · simp only [h1, if_false, if_true]
      by_cases h2 : a = b
      · simp [h2]
      · by_cases h3 : n = 0
        · subst h3
          have : rightB (has q b) = true := by simp [rightB]; omega
          simp [h2, this]
        · by_cases h4 : 1125899906842624 < has q b + n
          · have : rightB (has q b + n) = false := by simp [rightB]; omega
            simp [h2, h3, h4, this]
          · have : rightB (has q b + n) = true := by simp [rightB]; omega
            simp [h2, h3, h4, this]
  · have hn' : rightB n = false := by simpa using hn
    simp [hn']
/-- what the reference's lists come to behind Pay -/
def payQ (q : List (Int × Int)) (a b n : Int) : List (Int × Int) := if wantE q a b n = 0 ∧ a ≠ b then put (put q a (has q a - n)) b (has q b + n) else q
theorem wantE_zero {q : List (Int × Int)} {a b n : Int} (h : wantE q a b n = 0) : rightB n = true ∧ ¬ has q a < n ∧ (a ≠ b → rightB (has q b + n) = true) := by
  unfold wantE at h
  split at h
  · rename_i h1
    split at h
    · cases h
    · rename_i h2
      split at h
      · cases h
      · rename_i h3
        refine ⟨h1, h2, fun hne => ?_⟩
        cases hb : rightB (has q b + n) with
        | true => rfl
        | false => exact absurd ⟨hne, hb⟩ h3
  · cases h
theorem payQ_length (q : List (Int × Int)) (a b n : Int) : (payQ q a b n).length ≤ q.length + 2 := by
  unfold payQ
  split
  · have := put_length (put q a (has q a - n)) b (has q b + n)
    have := put_length q a (has q a - n)
    omega
  · omega
theorem Both.pay {m q : List (Int × Int)} (h : Both m q) {a b n : Int} (ha : okI a) (hb : okI b) : Both (payM m a b n) (payQ q a b n) := by
  have ra := h.right a
  have rb := h.right b
  have hE := payE_eq h a b n
  by_cases hw : wantE q a b n = 0
  · obtain ⟨w1, w2, w3⟩ := wantE_zero hw
    have hn' : 0 ≤ n ∧ n ≤ 1125899906842624 := by simpa [rightB] using w1
    have hra : rightB (has q a) = true := by simp [rightB]; omega
    have hsub : subL (has m a) [n] = (has q a - n, 0) := by
      unfold subL
      rw [h.same, hra, if_pos rfl, add1, w1, if_pos rfl]
      simp [w2]
    by_cases hab : a = b
    · have e1 : payM m a b n = m := by rw [payM, if_neg (fun hx => hx.2.1 (.inl hab))]
      have e2 : payQ q a b n = q := by rw [payQ, if_neg (fun hx => hx.2 hab)]
      rw [e1, e2]; exact h
    · have w4 := w3 hab
      have w5 : 0 ≤ has q b + n ∧ has q b + n ≤ 1125899906842624 := by simpa [rightB] using w4
      have e2 : payQ q a b n = put (put q a (has q a - n)) b (has q b + n) := by rw [payQ, if_pos ⟨hw, hab⟩]
      have hput : addL 0 [has m b, n] = (has q b + n, 0) := by rw [h.same, add2 _ _ rb.1 rb.2, w1, if_pos rfl, if_neg (by omega)]
      have hB2 : ∀ x, 0 ≤ has (payQ q a b n) x ∧ has (payQ q a b n) x ≤ 1125899906842624 := by
        intro x
        rw [e2, has_put, has_put]
        split
        · exact w5
        · split
          · omega
          · exact h.right x
      refine ⟨fun x => ?_, by rw [e2]; exact nodup_put _ (nodup_put q h.nodup _ _) _ _, hB2, by rw [e2]; exact put_ok (put_ok h.ok ha) hb⟩
      rw [e2]
      by_cases hz : n = 0
      · have e1 : payM m a b n = m := by rw [payM, if_neg (fun hx => hx.2.1 (.inr hz))]
        rw [e1, has_put, has_put, h.same x, hz]
        by_cases hx : b = x
        · subst hx; simp
        · by_cases hx2 : a = x
          · subst hx2; simp [hx]
          · simp [hx, hx2]
      · have e1 : payM m a b n = put (put m b (has q b + n)) a (has q a - n) := by
          rw [payM, if_pos ⟨by rw [hsub], by simp [hab, hz], by rw [putE, hput]⟩, putM, putE, hput, hsub]; rfl
        rw [e1, has_put, has_put, has_put, has_put, h.same x]
        by_cases hx : b = x
        · subst hx
          have : ¬ a = b := hab
          simp [this]
        · simp [hx]
  · have e2 : payQ q a b n = q := by rw [payQ, if_neg (fun hx => hw hx.1)]
    have e1 : payM m a b n = m := by
      unfold payM
      rw [if_neg]
      rintro ⟨x1, x2, x3⟩
      exact hw (by rw [← hE, payE, if_pos x1, if_neg x2, x3])
    rw [e1, e2]; exact h
theorem has_at {q : List (Int × Int)} (h : (q.map (·.1)).Nodup) (k : Nat) (hk : k < q.length) : has q q[k].1 = q[k].2 := by
  have : (q[k].1, q[k].2) ∈ q := List.getElem_mem hk
  rw [has, lk_of_mem q h _ _ this]; rfl
end Go.Proofs.Ytmpjofbmoagkiaa
