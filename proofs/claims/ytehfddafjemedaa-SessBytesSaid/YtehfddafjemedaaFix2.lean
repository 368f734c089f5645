/- Contracts: number. -/
import Derived.Test.YtehfddafjemedaaFix1
import Derived.Laws.BitsLemmas
namespace Go.Proofs.Ytehfddafjemedaa
open Go.RowKit
set_option linter.unusedSimpArgs false
set_option linter.unusedVariables false

theorem u64_or8 {x y : Int} (hx₀ : 0 ≤ x) (hx₁ : x < 72057594037927936) (hy₀ : 0 ≤ y) (hy : y < 256) : bits .or .u64 (x * 256) y = x * 256 + y :=
  bits_join .u64 64 (by decide) (fun n h0 h1 => by rw [IntKind.wrap_u64]; omega) 8 (x * 256) y (by omega) (by omega) (by omega) hy₀ (by omega) (by omega)

set_option maxHeartbeats 1000000 in
theorem number_any (A : Option Addr) (n c : Nat) (xs : List UInt8) (w : World) (ha : Rd w A n xs) (hn : n ≤ 8) : Calls Try.prog 68 #[.slice A n c] w fun e w' => e = .returned (.int .u64 (beN xs : Int)) ∧ w = w' := by
  have HX := Lib.hid ha.1
  go_enter Try.func68, Try.ntmps68
  go_wp2_with fail
  go_loop [3, 8] (fun v i => ∃ k : Nat, k ≤ n ∧ i = .int .i64 (k : Int) ∧ v = .int .u64 ((beN (xs.take k) : Nat) : Int)) (fun _ i => n - (intOf i).toNat)
  case atStart => exact ⟨0, Nat.zero_le _, rfl, rfl⟩
  case round =>
    obtain ⟨k, hk, rfl, rfl⟩ := hrel
    by_cases hlt : k < n
    · obtain ⟨b, o, rfl, hc⟩ := ha.at_ k hlt
      have hbl := block_lt_of_cell hc
      have hlt2 := beN_take_lt xs k
      have hp : 256 ^ k ≤ 256 ^ 7 := Nat.pow_le_pow_right (by omega) (by omega)
      have hsucc := beN_take_succ xs k (by rw [HX.out]; exact hlt)
      obtain ⟨x, hx⟩ : ∃ x, xs.getD k 0 = x := ⟨_, rfl⟩
      rw [hx] at hc hsucc
      obtain ⟨m, hm⟩ : ∃ m, beN (xs.take k) = m := ⟨_, rfl⟩
      rw [hm] at hlt2 hsucc
      have hx8 := x.toNat_lt
      have hm7 : m < 256 ^ 7 := by omega
      have HS := Lib.hid hsucc
      rw [hm]
      simp only at hbl
      clear hx hm hsucc hlt2 hp
      have hm7' : (m : Int) < 72057594037927936 := by omega
      have hx8' : (x.toNat : Int) < 256 := by omega
      clear hm7 hx8
      go_wp2_with fail
      rw [u64_or8 (by omega) hm7' (by omega) hx8']
      exact ⟨⟨k + 1, by omega, rfl, by rw [HS.out]; rfl⟩, by simp [intOf]; omega⟩
    · obtain rfl : k = n := by omega
      have e := List.take_of_length_le (l := xs) (i := k) (by rw [HX.out]; omega)
      rw [e]
      clear hlt e
      go_wp2_with fail
      go_ret
      exact ⟨rfl, rfl⟩
end Go.Proofs.Ytehfddafjemedaa
