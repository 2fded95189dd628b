/- What package coin's functions come to, as contracts over whatever slice. -/
import Derived.Test.YthhgfcfcgbjleaaProg
import Derived.Test.YthhgfcfcgbjleaaSl
namespace Go.Proofs.Ythhgfcfcgbjleaa
open Go.RowKit

/-- may an amount be? -/
def rightB (n : Int) : Bool := decide (0 ≤ n ∧ n ≤ 1125899906842624)
/-- all together: the sum, and the error's number -/
def addL : Int → List Int → Int × Int
  | s, [] => (s, 0)
  | s, n :: r => if rightB n then (if 1125899906842624 < s + n then (0, 10) else addL (s + n) r) else (0, 5)

set_option maxHeartbeats 400000 in
theorem coin_Right (n : Int) (w : World) :
    Calls Try.prog 77 #[.int .i64 n] w fun e w' => e = .returned (.bool (rightB n)) ∧ w = w' := by
  by_cases h0 : 0 ≤ n
  · by_cases h1 : n ≤ 1125899906842624
    all_goals
      go_enter Try.func77, Try.ntmps77
      go_wp2
      go_ret
      exact ⟨by simp [rightB, *], rfl⟩
  · go_enter Try.func77, Try.ntmps77
    go_wp2
    go_ret
    exact ⟨by simp [rightB]; omega, rfl⟩

set_option maxHeartbeats 400000 in
theorem coin_Add (A : Option Addr) (c : Nat) (xs : List Int) (w : World) (hx : Rd (Value.int .i64) w A xs) (hl : xs.length ≤ 4611686018427387904) :
    Calls Try.prog 54 #[.slice A xs.length c] w fun e w' => e = .returned (.tuple #[.int .i64 (addL 0 xs).1, .int .i64 (addL 0 xs).2]) ∧ w = w' := by
  go_enter Try.func54, Try.ntmps54
  go_wp2
  go_loop [4, 9] (fun s i => ∃ (k : Nat) (t : Int), k ≤ xs.length ∧ i = .int .i64 k ∧ s = .int .i64 t ∧ rightB t = true ∧ addL t (xs.drop k) = addL 0 xs) (fun _ i => xs.length - (intOf i).toNat)
  case atStart => exact ⟨0, 0, Nat.zero_le _, rfl, rfl, rfl, rfl⟩
  case round =>
    obtain ⟨k, t, hk, rfl, rfl, ht, hs⟩ := hrel
    have ht' : 0 ≤ t ∧ t ≤ 1125899906842624 := by simpa [rightB] using ht
    have HS := Hd.mk hs
    clear hs
    by_cases hlt : k < xs.length
    · obtain ⟨b, o, rfl, hc⟩ := hx.some_ (by omega)
      have hck := hc k xs[k] (List.getElem?_eq_getElem hlt)
      clear hc
      have hd : xs.drop k = xs[k] :: xs.drop (k + 1) := List.drop_eq_getElem_cons hlt
      have hstep : addL t (xs.drop k) = if rightB xs[k] then (if 1125899906842624 < t + xs[k] then (0, 10) else addL (t + xs[k]) (xs.drop (k + 1))) else (0, 5) := by rw [hd]; rfl
      rw [HS.out] at hstep
      have HT := Hd.mk hstep
      clear hstep hd HS
      by_cases hr : rightB xs[k] = true
      · have hb : 0 ≤ xs[k] ∧ xs[k] ≤ 1125899906842624 := by simpa [rightB] using hr
        by_cases hov : 1125899906842624 < t + xs[k]
        · go_wp2_with (go_at_call 77; refine (coin_Right _ _).mono ?_; rintro e w' ⟨rfl, rfl⟩)
          go_ret2
          exact ⟨by rw [HT.out, if_pos hr, if_pos (by omega)]; rfl, rfl⟩
        · go_wp2_with (go_at_call 77; refine (coin_Right _ _).mono ?_; rintro e w' ⟨rfl, rfl⟩)
          go_round
          case rel => exact ⟨k + 1, t + xs[k], by omega, by go_num, rfl, by simp [rightB]; omega, by rw [HT.out, if_pos hr, if_neg (by omega)]⟩
          case measure => simp [intOf]; omega
      · have hr' : rightB xs[k] = false := by simpa using hr
        clear hr
        go_wp2_with (go_at_call 77; refine (coin_Right _ _).mono ?_; rintro e w' ⟨rfl, rfl⟩)
        go_ret2
        exact ⟨by rw [HT.out, hr']; rfl, rfl⟩
    · go_wp2
      go_ret2
      have : k = xs.length := by omega
      exact ⟨by rw [← HS.out, this, List.drop_length]; rfl, rfl⟩

end Go.Proofs.Ythhgfcfcgbjleaa
