/- What package coin's functions come to, as contracts over whatever slice. -/
import Derived.Test.YtmpjofbmoagkiaaProg
import Derived.Test.YtmpjofbmoagkiaaSl
namespace Go.Proofs.Ytmpjofbmoagkiaa
open Go.RowKit

/-- may an amount be? -/
def rightB (n : Int) : Bool := decide (0 ≤ n ∧ n ≤ 1125899906842624)
/-- all together: the sum, and the error's number -/
def addL : Int → List Int → Int × Int
  | s, [] => (s, 0)
  | s, n :: r => if rightB n then (if 1125899906842624 < s + n then (0, 10) else addL (s + n) r) else (0, 5)

set_option maxHeartbeats 400000 in
theorem coin_Right (n : Int) (w : World) :
    Calls Try.prog 69 #[.int .i64 n] w fun e w' => e = .returned (.bool (rightB n)) ∧ w = w' := by
  by_cases h0 : 0 ≤ n
  · by_cases h1 : n ≤ 1125899906842624
    all_goals
      go_enter Try.func69, Try.ntmps69
      go_wp2
      go_ret
      exact ⟨by simp [rightB, *], rfl⟩
  · go_enter Try.func69, Try.ntmps69
    go_wp2
    go_ret
    exact ⟨by simp [rightB]; omega, rfl⟩

set_option maxHeartbeats 400000 in
theorem coin_Add (A : Option Addr) (c : Nat) (xs : List Int) (w : World) (hx : Rd (Value.int .i64) w A xs) (hl : xs.length ≤ 4611686018427387904) :
    Calls Try.prog 40 #[.slice A xs.length c] w fun e w' => e = .returned (.tuple #[.int .i64 (addL 0 xs).1, .int .i64 (addL 0 xs).2]) ∧ w = w' := by
  go_enter Try.func40, Try.ntmps40
  go_wp2
  go_loop [4, 9] (fun s i => ∃ (k : Nat) (t : Int), k ≤ xs.length ∧ i = .int .i64 k ∧ s = .int .i64 t ∧ rightB t = true ∧ addL t (xs.drop k) = addL 0 xs) (fun _ i => xs.length - (intOf i).toNat)
  case atStart => exact ⟨0, 0, Nat.zero_le _, rfl, rfl, rfl, rfl⟩
  case round =>
    obtain ⟨k, t, hk, rfl, rfl, ht, hs⟩ := hrel
    have ht' : 0 ≤ t ∧ t ≤ 1125899906842624 := by simpa [rightB] using ht
    have HS := Hd.mk hs
    clear hs
    by_cases hlt : k < xs.length
    · obtain ⟨b, o, rfl, hc⟩ := hx.some_ (by omega)
      have hck := hc k xs[k] (List.getElem?_eq_getElem hlt)
      clear hc
      have hd : xs.drop k = xs[k] :: xs.drop (k + 1) := List.drop_eq_getElem_cons hlt
      have hstep : addL t (xs.drop k) = if rightB xs[k] then (if 1125899906842624 < t + xs[k] then (0, 10) else addL (t + xs[k]) (xs.drop (k + 1))) else (0, 5) := by rw [hd]; rfl
      rw [HS.out] at hstep
      have HT := Hd.mk hstep
      clear hstep hd HS
      by_cases hr : rightB xs[k] = true
      · have hb : 0 ≤ xs[k] ∧ xs[k] ≤ 1125899906842624 := by simpa [rightB] using hr
        by_cases hov : 1125899906842624 < t + xs[k]
        · go_wp2_with (go_at_call 69; refine (coin_Right _ _).mono ?_; rintro e w' ⟨rfl, rfl⟩)
          go_ret2
          exact ⟨by rw [HT.out, if_pos hr, if_pos (by omega)]; rfl, rfl⟩
        · go_wp2_with (go_at_call 69; refine (coin_Right _ _).mono ?_; rintro e w' ⟨rfl, rfl⟩)
          go_round
          case rel => exact ⟨k + 1, t + xs[k], by omega, by go_num, rfl, by simp [rightB]; omega, by rw [HT.out, if_pos hr, if_neg (by omega)]⟩
          case measure => simp [intOf]; omega
      · have hr' : rightB xs[k] = false := by simpa using hr
        clear hr
        go_wp2_with (go_at_call 69; refine (coin_Right _ _).mono ?_; rintro e w' ⟨rfl, rfl⟩)
        go_ret2
        exact ⟨by rw [HT.out, hr']; rfl, rfl⟩
    · go_wp2
      go_ret2
      have : k = xs.length := by omega
      exact ⟨by rw [← HS.out, this, List.drop_length]; rfl, rfl⟩

/-- what is left of n -/
def subL (n : Int) (l : List Int) : Int × Int :=
  if rightB n then (if (addL 0 l).2 = 0 then (if n < (addL 0 l).1 then (0, 14) else (n - (addL 0 l).1, 0)) else (0, (addL 0 l).2)) else (0, 5)
theorem addL_range : ∀ (l : List Int) (s : Int), 0 ≤ s → s ≤ 1125899906842624 → 0 ≤ (addL s l).1 ∧ (addL s l).1 ≤ 1125899906842624 ∧ ((addL s l).2 = 0 ∨ (addL s l).2 = 5 ∨ (addL s l).2 = 10)
  | [], s, h0, h1 => by simp [addL, h0, h1]
  | n :: r, s, h0, h1 => by
    unfold addL
    by_cases hr : rightB n = true
    · have hb : 0 ≤ n ∧ n ≤ 1125899906842624 := by simpa [rightB] using hr
      rw [if_pos hr]
      by_cases ho : 1125899906842624 < s + n
      · rw [if_pos ho]; simp
      · rw [if_neg ho]; exact addL_range r (s + n) (by omega) (by omega)
    · rw [if_neg hr]; simp

set_option maxHeartbeats 400000 in
theorem coin_Sub (n : Int) (A : Option Addr) (c : Nat) (xs : List Int) (w : World) (hx : Rd (Value.int .i64) w A xs) (hl : xs.length ≤ 4611686018427387904) :
    Calls Try.prog 41 #[.int .i64 n, .slice A xs.length c] w fun e w' => e = .returned (.tuple #[.int .i64 (subL n xs).1, .int .i64 (subL n xs).2]) ∧ w = w' := by
  have hr := addL_range xs 0 (by omega) (by omega)
  have key : ∃ r, subL n xs = r ∧ ((rightB n = false ∧ r = (0, 5)) ∨ (rightB n = true ∧ (0 ≤ n ∧ n ≤ 1125899906842624) ∧ ((addL 0 xs).2 == 0) = false ∧ r = (0, (addL 0 xs).2)) ∨
      (rightB n = true ∧ (0 ≤ n ∧ n ≤ 1125899906842624) ∧ ((addL 0 xs).2 == 0) = true ∧ n < (addL 0 xs).1 ∧ r = (0, 14)) ∨ (rightB n = true ∧ (0 ≤ n ∧ n ≤ 1125899906842624) ∧ ((addL 0 xs).2 == 0) = true ∧ ¬ n < (addL 0 xs).1 ∧ r = (n - (addL 0 xs).1, 0))) := by
    refine ⟨_, rfl, ?_⟩
    unfold subL
    by_cases h1 : rightB n = true
    · have hb : 0 ≤ n ∧ n ≤ 1125899906842624 := by simpa [rightB] using h1
      by_cases h2 : (addL 0 xs).2 = 0
      · by_cases h3 : n < (addL 0 xs).1 <;> simp [h1, h2, h3, hb]
      · simp [h1, h2, hb]
    · simp [h1]
  obtain ⟨r, hs, hk⟩ := key
  have HS := Hd.mk hs
  clear hs
  rcases hk with ⟨h1, rfl⟩ | ⟨h1, h2, h3, rfl⟩ | ⟨h1, h2, h3, h4, rfl⟩ | ⟨h1, h2, h3, h4, rfl⟩
  all_goals
    go_enter Try.func41, Try.ntmps41
    go_wp2_with (first | (go_at_call 69; refine (coin_Right _ _).mono ?_; rintro e w' ⟨rfl, rfl⟩) | (go_at_call 40; refine (coin_Add _ _ _ _ hx hl).mono ?_; rintro e w' ⟨rfl, rfl⟩))
    go_ret2
    exact ⟨by rw [HS.out]; rfl, rfl⟩
end Go.Proofs.Ytmpjofbmoagkiaa
