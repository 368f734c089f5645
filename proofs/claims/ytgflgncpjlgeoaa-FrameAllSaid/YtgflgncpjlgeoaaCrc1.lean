/- Contracts: crc's halved, byte32, Slow; catenaryref02's Half, On, Other, Of, More, At. -/
import Derived.Test.YtgflgncpjlgeoaaCrcP
import Derived.Test.YtgflgncpjlgeoaaMem
import Derived.Test.YtgflgncpjlgeoaaProg
import Derived.Laws.BitsAllLaws
import Derived.Laws.BitsLemmas
import Derived.Laws.OwnMore
namespace Go.Proofs.Ytgflgncpjlgeoaa
open Go.RowKit
set_option linter.unusedSimpArgs false
set_option linter.unusedVariables false

theorem and_one (s : Nat) (h : s < 4294967296) : bits .and .u32 (s : Int) 1 = ((s % 2 : Nat) : Int) := by
  have := u32_and_nat s 1 h (by omega)
  rw [show ((1 : Nat) : Int) = 1 from rfl] at this
  rw [this, Nat.and_one_is_mod]
theorem xor_poly (s : Nat) (h : s < 4294967296) : bits .xor .u32 (s : Int) 3988292384 = ((s ^^^ 3988292384 : Nat) : Int) := u32_xor_nat s 3988292384 h (by omega)
theorem oth_sub (s : Nat) (h : s < 4294967296) : oth s = 4294967295 - s := by
  unfold oth
  apply Nat.eq_of_testBit_eq
  intro i
  rw [Nat.testBit_xor, show 4294967295 - s = 2 ^ 32 - (s + 1) by omega, Nat.testBit_two_pow_sub_succ (by omega), show (4294967295 : Nat) = 2 ^ 32 - 1 by rfl, Nat.testBit_two_pow_sub_one]
  by_cases hi : i < 32
  · simp [hi]
  · have : s.testBit i = false := Nat.testBit_lt_two_pow (Nat.lt_of_lt_of_le h (by rw [show 4294967296 = 2 ^ 32 by rfl]; exact Nat.pow_le_pow_right (by omega) (by omega)))
    simp [hi, this]
theorem half_odd (s : Nat) (h : s % 2 = 1) : half s = s / 2 ^^^ 3988292384 := by unfold half; rw [if_pos h]
theorem half_even (s : Nat) (h : ¬ s % 2 = 1) : half s = s / 2 := by unfold half; rw [if_neg h]

set_option maxHeartbeats 1000000 in
theorem halved_any (s : Nat) (hs : s < 4294967296) (w : World) : Calls Try.prog 75 #[.int .u32 (s : Int)] w fun e w' => e = .returned (.int .u32 ((halfN 8 s : Nat) : Int)) ∧ w = w' := by
  obtain ⟨H, hH⟩ : ∃ z, halfN 8 s = z := ⟨_, rfl⟩
  rw [hH]
  go_enter Try.func75, Try.ntmps75
  go_wp2_with fail
  go_loop [0, 4] (fun v i => ∃ (k x : Nat), k ≤ 8 ∧ i = .int .i64 (k : Int) ∧ v = .int .u32 (x : Int) ∧ x < 4294967296 ∧ Hid (halfN (8 - k) x = H)) (fun _ i => 8 - (intOf i).toNat)
  case atStart => exact ⟨0, s, by omega, rfl, rfl, hs, Lib.hid hH⟩
  case round =>
    obtain ⟨k, x, hk, rfl, rfl, hx, HH⟩ := hrel
    clear hH hs
    by_cases hlt : k < 8
    · have HS : Hid (halfN (8 - (k + 1)) (half x) = H) := Lib.hid (by rw [← HH.out, show 8 - k = (8 - (k + 1)) + 1 by omega]; rfl)
      have hand := and_one x hx
      have hx2 : x / 2 < 4294967296 := by omega
      have hxp := xor_poly (x / 2) hx2
      have hhl := half_lt hx
      by_cases ho : x % 2 = 1
      · rw [ho] at hand
        rw [half_odd x ho] at HS hhl
        clear ho
        go_wp2_with fail
        refine ⟨⟨k + 1, _, by omega, rfl, ?_, hhl, HS⟩, by simp [intOf]; omega⟩
        rw [← hxp]
        rfl
      · rw [show x % 2 = 0 by omega] at hand
        rw [half_even x ho] at HS hhl
        clear ho
        go_wp2_with fail
        exact ⟨⟨k + 1, _, by omega, rfl, rfl, hhl, HS⟩, by simp [intOf]; omega⟩
    · obtain rfl : k = 8 := by omega
      have h1 : x = H := HH.out
      subst h1
      clear hlt
      go_wp2_with fail
      go_ret
      exact ⟨rfl, rfl⟩

theorem refHalf_any (s : Nat) (hs : s < 4294967296) (w : World) : Calls Try.prog 66 #[.int .u32 (s : Int)] w fun e w' => e = .returned (.int .u32 ((half s : Nat) : Int)) ∧ w = w' := by
  have hx2 : s / 2 < 4294967296 := by omega
  have hxp := xor_poly (s / 2) hx2
  rw [show ((s / 2 : Nat) : Int) = (s : Int) / 2 by omega] at hxp
  by_cases ho : s % 2 = 1
  · rw [half_odd s ho]
    have t : ((s : Int) % 2 == 1) = true := by simp; omega
    clear ho
    go_enter Try.func66, Try.ntmps66
    go_wp2_with fail
    go_ret
    exact ⟨rfl, rfl⟩
  · rw [half_even s ho]
    have t : ((s : Int) % 2 == 1) = false := by simp; omega
    clear ho
    go_enter Try.func66, Try.ntmps66
    go_wp2_with fail
    go_ret
    exact ⟨rfl, rfl⟩

theorem refOther_any (s : Nat) (hs : s < 4294967296) (w : World) : Calls Try.prog 58 #[.int .u32 (s : Int)] w fun e w' => e = .returned (.int .u32 ((oth s : Nat) : Int)) ∧ w = w' := by
  have hx : bits .xor .u32 (s : Int) 4294967295 = ((s ^^^ 4294967295 : Nat) : Int) := u32_xor_nat s 4294967295 hs (by omega)
  go_enter Try.func58, Try.ntmps58
  go_wp2_with fail
  go_ret
  exact ⟨rfl, rfl⟩

theorem xor_byte (s : Nat) (c : UInt8) (h : s < 4294967296) : bits .xor .u32 (s : Int) ((c.toNat : Int) % 4294967296) = ((s ^^^ c.toNat : Nat) : Int) := by
  have hc := c.toNat_lt
  rw [show ((c.toNat : Int) % 4294967296) = (c.toNat : Int) by omega]
  exact u32_xor_nat s c.toNat h (u8_lt32 c)

set_option maxHeartbeats 1000000 in
theorem refOn_any (s : Nat) (hs : s < 4294967296) (A : Option Addr) (n c : Nat) (xs : List UInt8) (w : World) (ha : Rd w A n xs) :
    Calls Try.prog 59 #[.int .u32 (s : Int), .slice A n c] w fun e w' => e = .returned (.int .u32 ((onC s xs : Nat) : Int)) ∧ w = w' := by
  have hn := ha.2.1
  have HX := Lib.hid ha.1
  go_enter Try.func59, Try.ntmps59
  go_wp2_with fail
  go_loop [0, 5] (fun v i => ∃ k : Nat, k ≤ n ∧ i = .int .i64 (k : Int) ∧ v = .int .u32 ((onC s (xs.take k) : Nat) : Int)) (fun _ i => n - (intOf i).toNat)
  case atStart => exact ⟨0, Nat.zero_le _, rfl, rfl⟩
  case round =>
    obtain ⟨k, hk, rfl, rfl⟩ := hrel
    have hlo := onC_lt (xs.take k) hs
    by_cases hlt : k < n
    · obtain ⟨b, o, rfl, hc⟩ := ha.at_ k hlt
      have hbl := block_lt_of_cell hc
      simp only at hbl
      have hsucc : onC s (xs.take (k + 1)) = halfN 8 (onC s (xs.take k) ^^^ (xs.getD k 0).toNat) := by rw [take_succ_getD xs k 0 (by rw [HX.out]; exact hlt), onC_snoc]
      obtain ⟨x, hx⟩ : ∃ x, xs.getD k 0 = x := ⟨_, rfl⟩
      rw [hx] at hc hsucc
      obtain ⟨m, hm⟩ : ∃ m, onC s (xs.take k) = m := ⟨_, rfl⟩
      rw [hm] at hlo hsucc ⊢
      have hxb := xor_byte m x hlo
      have hxl := xor_lt32 hlo (u8_lt32 x)
      obtain ⟨q, hq⟩ : ∃ q, m ^^^ x.toNat = q := ⟨_, rfl⟩
      rw [hq] at hxb hxl hsucc
      obtain ⟨H, hH⟩ : ∃ z, halfN 8 q = z := ⟨_, rfl⟩
      rw [hH] at hsucc
      have HS := Lib.hid hsucc
      clear hsucc hm hx hq
      go_wp2_with fail
      go_loop [0, 6] (fun v i => ∃ (j y : Nat), j ≤ 8 ∧ i = .int .i64 (j : Int) ∧ v = .int .u32 (y : Int) ∧ y < 4294967296 ∧ Hid (halfN (8 - j) y = H)) (fun _ i => 8 - (intOf i).toNat)
      case atStart => exact ⟨0, q, by omega, rfl, rfl, hxl, Lib.hid hH⟩
      case round =>
        obtain ⟨j, y, hj, rfl, rfl, hy, HH⟩ := hrel
        clear hH
        by_cases hj8 : j < 8
        · have HS2 : Hid (halfN (8 - (j + 1)) (half y) = H) := Lib.hid (by rw [← HH.out, show 8 - j = (8 - (j + 1)) + 1 by omega]; rfl)
          have hhl := half_lt hy
          go_wp2_with fail
          refine (refHalf_any y hy w).mono ?_
          rintro e w1 ⟨rfl, rfl⟩
          go_wp2_with fail
          exact ⟨⟨j + 1, _, by omega, rfl, rfl, hhl, HS2⟩, by simp [intOf]; omega⟩
        · obtain rfl : j = 8 := by omega
          have h1 : y = H := HH.out
          subst h1
          clear hj8
          go_wp2_with fail
          exact ⟨⟨k + 1, by omega, rfl, by rw [HS.out]⟩, by simp [intOf]; omega⟩
    · obtain rfl : k = n := by omega
      have e := List.take_of_length_le (l := xs) (i := k) (by rw [HX.out]; omega)
      rw [e]
      clear hlt e
      go_wp2_with fail
      go_ret
      exact ⟨rfl, rfl⟩

theorem refOf_any (A : Option Addr) (n c : Nat) (xs : List UInt8) (w : World) (ha : Rd w A n xs) :
    Calls Try.prog 42 #[.slice A n c] w fun e w' => e = .returned (.int .u32 ((crcOf xs : Nat) : Int)) ∧ w = w' := by
  have hlt := onC_lt (s := 4294967295) xs (by omega)
  have hon := refOn_any 4294967295 (by omega) A n c xs w ha
  rw [show ((4294967295 : Nat) : Int) = 4294967295 from rfl] at hon
  go_enter Try.func42, Try.ntmps42
  go_wp2_with fail
  refine hon.mono ?_
  rintro e w1 ⟨rfl, rfl⟩
  go_wp2_with fail
  refine (refOther_any _ hlt w).mono ?_
  rintro e w1 ⟨rfl, rfl⟩
  go_wp2_with fail
  go_ret
  exact ⟨rfl, rfl⟩
theorem xor_shr (a s : Nat) (ha : a < 4294967296) (hs : s < 4294967296) : bits .xor .u32 (a : Int) ((s : Int) / 256) = ((a ^^^ s / 256 : Nat) : Int) := by
  have := u32_xor_nat a (s / 256) ha (by omega)
  rw [← this]
  rfl
theorem xor_all (s : Nat) (hs : s < 4294967296) : bits .xor .u32 IntKind.u32.max (s : Int) = ((oth s : Nat) : Int) := by
  rw [show IntKind.u32.max = 4294967295 from rfl]
  have := u32_xor_nat 4294967295 s (by omega) hs
  rw [show ((4294967295 : Nat) : Int) = 4294967295 from rfl] at this
  rw [this, Nat.xor_comm]
  rfl

end Go.Proofs.Ytgflgncpjlgeoaa
