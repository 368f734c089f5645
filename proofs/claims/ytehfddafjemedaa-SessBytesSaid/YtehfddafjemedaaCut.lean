/- Contract: catenaryref01.Cut. -/
import Derived.Test.YtehfddafjemedaaMem
import Derived.Test.YtehfddafjemedaaProg
namespace Go.Proofs.Ytehfddafjemedaa
open Go.RowKit
set_option linter.unusedSimpArgs false
set_option linter.unusedVariables false

theorem cut_any (A : Option Addr) (n c m : Nat) (w : World) (hm : m ≤ 1000000) (hc : n ≤ c) : Calls Try.prog 31 #[.slice A n c, .int .i64 (m : Int)] w fun e w' => e = .returned (.slice A (min n m) c) ∧ w = w' := by
  by_cases h : m < n
  · have H : Hid (min n m = m) := Lib.hid (by omega)
    have t : (m : Int) < (n : Int) := by omega
    go_enter Try.func31, Try.ntmps31
    go_wp2_with fail
    go_ret
    exact ⟨by rw [H.out]; rfl, rfl⟩
  · have H : Hid (min n m = n) := Lib.hid (by omega)
    have t : ¬ (m : Int) < (n : Int) := by omega
    go_enter Try.func31, Try.ntmps31
    go_wp2_with fail
    go_ret
    exact ⟨by rw [H.out]; rfl, rfl⟩
theorem rd_cut {w : World} {A : Option Addr} {n m : Nat} {xs : List UInt8} (h : Rd w A n xs) : Rd w A (min n m) (xs.take m) := by
  by_cases hm : m ≤ n
  · rw [Nat.min_eq_right hm]
    exact h.take hm
  · rw [Nat.min_eq_left (by omega), List.take_of_length_le (by rw [h.1]; omega)]
    exact h
end Go.Proofs.Ytehfddafjemedaa
