/- Contracts: crc's halved, byte32, Slow; catenaryref02's Half, On, Other, Of, More, At. -/
import Derived.Test.YtihokijndmigoaaCrcP
import Derived.Test.YtihokijndmigoaaMem
import Derived.Test.YtihokijndmigoaaProg
import Derived.Laws.BitsAllLaws
import Derived.Laws.BitsLemmas
import Derived.Laws.OwnMore
namespace Go.Proofs.Ytihokijndmigoaa
open Go.RowKit
set_option linter.unusedSimpArgs false
set_option linter.unusedVariables false

theorem and_one (s : Nat) (h : s < 4294967296) : bits .and .u32 (s : Int) 1 = ((s % 2 : Nat) : Int) := by
  have := u32_and_nat s 1 h (by omega)
  rw [show ((1 : Nat) : Int) = 1 from rfl] at this
  rw [this, Nat.and_one_is_mod]
theorem xor_poly (s : Nat) (h : s < 4294967296) : bits .xor .u32 (s : Int) 3988292384 = ((s ^^^ 3988292384 : Nat) : Int) := u32_xor_nat s 3988292384 h (by omega)
theorem oth_sub (s : Nat) (h : s < 4294967296) : oth s = 4294967295 - s := by
  unfold oth
  apply Nat.eq_of_testBit_eq
  intro i
  rw [Nat.testBit_xor, show 4294967295 - s = 2 ^ 32 - (s + 1) by omega, Nat.testBit_two_pow_sub_succ (by omega), show (4294967295 : Nat) = 2 ^ 32 - 1 by rfl, Nat.testBit_two_pow_sub_one]
  by_cases hi : i < 32
  · simp [hi]
  · have : s.testBit i = false := Nat.testBit_lt_two_pow (Nat.lt_of_lt_of_le h (by rw [show 4294967296 = 2 ^ 32 by rfl]; exact Nat.pow_le_pow_right (by omega) (by omega)))
    simp [hi, this]
theorem half_odd (s : Nat) (h : s % 2 = 1) : half s = s / 2 ^^^ 3988292384 := by unfold half; rw [if_pos h]
theorem half_even (s : Nat) (h : ¬ s % 2 = 1) : half s = s / 2 := by unfold half; rw [if_neg h]

set_option maxHeartbeats 1000000 in
theorem halved_any (s : Nat) (hs : s < 4294967296) (w : World) : Calls Try.prog 30 #[.int .u32 (s : Int)] w fun e w' => e = .returned (.int .u32 ((halfN 8 s : Nat) : Int)) ∧ w = w' := by
  obtain ⟨H, hH⟩ : ∃ z, halfN 8 s = z := ⟨_, rfl⟩
  rw [hH]
  go_enter Try.func30, Try.ntmps30
  go_wp2_with fail
  go_loop [0, 4] (fun v i => ∃ (k x : Nat), k ≤ 8 ∧ i = .int .i64 (k : Int) ∧ v = .int .u32 (x : Int) ∧ x < 4294967296 ∧ Hid (halfN (8 - k) x = H)) (fun _ i => 8 - (intOf i).toNat)
  case atStart => exact ⟨0, s, by omega, rfl, rfl, hs, Lib.hid hH⟩
  case round =>
    obtain ⟨k, x, hk, rfl, rfl, hx, HH⟩ := hrel
    clear hH hs
    by_cases hlt : k < 8
    · have HS : Hid (halfN (8 - (k + 1)) (half x) = H) := Lib.hid (by rw [← HH.out, show 8 - k = (8 - (k + 1)) + 1 by omega]; rfl)
      have hand := and_one x hx
      have hx2 : x / 2 < 4294967296 := by omega
      have hxp := xor_poly (x / 2) hx2
      have hhl := half_lt hx
      by_cases ho : x % 2 = 1
      · rw [ho] at hand
        rw [half_odd x ho] at HS hhl
        clear ho
        go_wp2_with fail
        refine ⟨⟨k + 1, _, by omega, rfl, ?_, hhl, HS⟩, by simp [intOf]; omega⟩
        rw [← hxp]
        rfl
      · rw [show x % 2 = 0 by omega] at hand
        rw [half_even x ho] at HS hhl
        clear ho
        go_wp2_with fail
        exact ⟨⟨k + 1, _, by omega, rfl, rfl, hhl, HS⟩, by simp [intOf]; omega⟩
    · obtain rfl : k = 8 := by omega
      have h1 : x = H := HH.out
      subst h1
      clear hlt
      go_wp2_with fail
      go_ret
      exact ⟨rfl, rfl⟩

theorem byte32_any (s : Nat) (c : UInt8) (hs : s < 4294967296) (w : World) : Calls Try.prog 31 #[.int .u32 (s : Int), .int .u8 (c.toNat : Int)] w fun e w' => e = .returned (.int .u32 (((s % 256) ^^^ c.toNat : Nat) : Int)) ∧ w = w' := by
  have hc := c.toNat_lt
  have hx := u8_xor_nat (s % 256) c.toNat (by omega) (by omega)
  rw [show ((s % 256 : Nat) : Int) = (s : Int) % 256 by omega] at hx
  have hlt : s % 256 ^^^ c.toNat < 256 := Nat.xor_lt_two_pow (n := 8) (by omega) (by omega)
  go_enter Try.func31, Try.ntmps31
  go_wp2_with fail
  go_ret
  exact ⟨rfl, rfl⟩
theorem refHalf_any (s : Nat) (hs : s < 4294967296) (w : World) : Calls Try.prog 40 #[.int .u32 (s : Int)] w fun e w' => e = .returned (.int .u32 ((half s : Nat) : Int)) ∧ w = w' := by
  have hx2 : s / 2 < 4294967296 := by omega
  have hxp := xor_poly (s / 2) hx2
  rw [show ((s / 2 : Nat) : Int) = (s : Int) / 2 by omega] at hxp
  by_cases ho : s % 2 = 1
  · rw [half_odd s ho]
    have t : ((s : Int) % 2 == 1) = true := by simp; omega
    clear ho
    go_enter Try.func40, Try.ntmps40
    go_wp2_with fail
    go_ret
    exact ⟨rfl, rfl⟩
  · rw [half_even s ho]
    have t : ((s : Int) % 2 == 1) = false := by simp; omega
    clear ho
    go_enter Try.func40, Try.ntmps40
    go_wp2_with fail
    go_ret
    exact ⟨rfl, rfl⟩

theorem refOther_any (s : Nat) (hs : s < 4294967296) (w : World) : Calls Try.prog 28 #[.int .u32 (s : Int)] w fun e w' => e = .returned (.int .u32 ((oth s : Nat) : Int)) ∧ w = w' := by
  have hx : bits .xor .u32 (s : Int) 4294967295 = ((s ^^^ 4294967295 : Nat) : Int) := u32_xor_nat s 4294967295 hs (by omega)
  go_enter Try.func28, Try.ntmps28
  go_wp2_with fail
  go_ret
  exact ⟨rfl, rfl⟩

theorem xor_byte (s : Nat) (c : UInt8) (h : s < 4294967296) : bits .xor .u32 (s : Int) ((c.toNat : Int) % 4294967296) = ((s ^^^ c.toNat : Nat) : Int) := by
  have hc := c.toNat_lt
  rw [show ((c.toNat : Int) % 4294967296) = (c.toNat : Int) by omega]
  exact u32_xor_nat s c.toNat h (u8_lt32 c)

set_option maxHeartbeats 1000000 in
theorem refOn_any (s : Nat) (hs : s < 4294967296) (A : Option Addr) (n c : Nat) (xs : List UInt8) (w : World) (ha : Rd w A n xs) :
    Calls Try.prog 29 #[.int .u32 (s : Int), .slice A n c] w fun e w' => e = .returned (.int .u32 ((onC s xs : Nat) : Int)) ∧ w = w' := by
  have hn := ha.2.1
  have HX := Lib.hid ha.1
  go_enter Try.func29, Try.ntmps29
  go_wp2_with fail
  go_loop [0, 5] (fun v i => ∃ k : Nat, k ≤ n ∧ i = .int .i64 (k : Int) ∧ v = .int .u32 ((onC s (xs.take k) : Nat) : Int)) (fun _ i => n - (intOf i).toNat)
  case atStart => exact ⟨0, Nat.zero_le _, rfl, rfl⟩
  case round =>
    obtain ⟨k, hk, rfl, rfl⟩ := hrel
    have hlo := onC_lt (xs.take k) hs
    by_cases hlt : k < n
    · obtain ⟨b, o, rfl, hc⟩ := ha.at_ k hlt
      have hbl := block_lt_of_cell hc
      simp only at hbl
      have hsucc : onC s (xs.take (k + 1)) = halfN 8 (onC s (xs.take k) ^^^ (xs.getD k 0).toNat) := by rw [take_succ_getD xs k 0 (by rw [HX.out]; exact hlt), onC_snoc]
      obtain ⟨x, hx⟩ : ∃ x, xs.getD k 0 = x := ⟨_, rfl⟩
      rw [hx] at hc hsucc
      obtain ⟨m, hm⟩ : ∃ m, onC s (xs.take k) = m := ⟨_, rfl⟩
      rw [hm] at hlo hsucc ⊢
      have hxb := xor_byte m x hlo
      have hxl := xor_lt32 hlo (u8_lt32 x)
      obtain ⟨q, hq⟩ : ∃ q, m ^^^ x.toNat = q := ⟨_, rfl⟩
      rw [hq] at hxb hxl hsucc
      obtain ⟨H, hH⟩ : ∃ z, halfN 8 q = z := ⟨_, rfl⟩
      rw [hH] at hsucc
      have HS := Lib.hid hsucc
      clear hsucc hm hx hq
      go_wp2_with fail
      go_loop [0, 6] (fun v i => ∃ (j y : Nat), j ≤ 8 ∧ i = .int .i64 (j : Int) ∧ v = .int .u32 (y : Int) ∧ y < 4294967296 ∧ Hid (halfN (8 - j) y = H)) (fun _ i => 8 - (intOf i).toNat)
      case atStart => exact ⟨0, q, by omega, rfl, rfl, hxl, Lib.hid hH⟩
      case round =>
        obtain ⟨j, y, hj, rfl, rfl, hy, HH⟩ := hrel
        clear hH
        by_cases hj8 : j < 8
        · have HS2 : Hid (halfN (8 - (j + 1)) (half y) = H) := Lib.hid (by rw [← HH.out, show 8 - j = (8 - (j + 1)) + 1 by omega]; rfl)
          have hhl := half_lt hy
          go_wp2_with fail
          refine (refHalf_any y hy w).mono ?_
          rintro e w1 ⟨rfl, rfl⟩
          go_wp2_with fail
          exact ⟨⟨j + 1, _, by omega, rfl, rfl, hhl, HS2⟩, by simp [intOf]; omega⟩
        · obtain rfl : j = 8 := by omega
          have h1 : y = H := HH.out
          subst h1
          clear hj8
          go_wp2_with fail
          exact ⟨⟨k + 1, by omega, rfl, by rw [HS.out]⟩, by simp [intOf]; omega⟩
    · obtain rfl : k = n := by omega
      have e := List.take_of_length_le (l := xs) (i := k) (by rw [HX.out]; omega)
      rw [e]
      clear hlt e
      go_wp2_with fail
      go_ret
      exact ⟨rfl, rfl⟩

theorem refOf_any (A : Option Addr) (n c : Nat) (xs : List UInt8) (w : World) (ha : Rd w A n xs) :
    Calls Try.prog 12 #[.slice A n c] w fun e w' => e = .returned (.int .u32 ((crcOf xs : Nat) : Int)) ∧ w = w' := by
  have hlt := onC_lt (s := 4294967295) xs (by omega)
  have hon := refOn_any 4294967295 (by omega) A n c xs w ha
  rw [show ((4294967295 : Nat) : Int) = 4294967295 from rfl] at hon
  go_enter Try.func12, Try.ntmps12
  go_wp2_with fail
  refine hon.mono ?_
  rintro e w1 ⟨rfl, rfl⟩
  go_wp2_with fail
  refine (refOther_any _ hlt w).mono ?_
  rintro e w1 ⟨rfl, rfl⟩
  go_wp2_with fail
  go_ret
  exact ⟨rfl, rfl⟩
theorem refMore_any (s : Nat) (hs : s < 4294967296) (A : Option Addr) (n c : Nat) (xs : List UInt8) (w : World) (ha : Rd w A n xs) :
    Calls Try.prog 15 #[.int .u32 (s : Int), .slice A n c] w fun e w' => e = .returned (.int .u32 ((crcMore s xs : Nat) : Int)) ∧ w = w' := by
  have hlt := onC_lt (s := oth s) xs (oth_lt hs)
  go_enter Try.func15, Try.ntmps15
  go_wp2_with fail
  refine (refOther_any _ hs w).mono ?_
  rintro e w1 ⟨rfl, rfl⟩
  go_wp2_with fail
  refine (refOn_any (oth s) (oth_lt hs) A n c xs w ha).mono ?_
  rintro e w1 ⟨rfl, rfl⟩
  go_wp2_with fail
  refine (refOther_any _ hlt w).mono ?_
  rintro e w1 ⟨rfl, rfl⟩
  go_wp2_with fail
  go_ret
  exact ⟨rfl, rfl⟩

/-- A number of the table. -/
def atC (i : Int) : Nat := if i < 0 ∨ 255 < i then 0 else halfN 8 i.toNat
theorem refAt_any (i : Int) (w : World) : Calls Try.prog 17 #[.int .i64 i] w fun e w' => e = .returned (.int .u32 ((atC i : Nat) : Int)) ∧ Below w.heap.size w w' := by
  by_cases h : i < 0
  · have H : Hid (atC i = 0) := Lib.hid (by unfold atC; rw [if_pos (.inl h)])
    go_enter Try.func17, Try.ntmps17
    go_wp2_with fail
    go_ret
    exact ⟨by rw [H.out]; rfl, Below.refl _ _⟩
  · by_cases h2 : 255 < i
    · have H : Hid (atC i = 0) := Lib.hid (by unfold atC; rw [if_pos (.inr h2)])
      go_enter Try.func17, Try.ntmps17
      go_wp2_with fail
      go_ret
      exact ⟨by rw [H.out]; rfl, Below.refl _ _⟩
    · obtain ⟨k, rfl⟩ : ∃ k : Nat, i = k := ⟨i.toNat, by omega⟩
      have H : Hid (onC 0 [UInt8.ofNat k] = atC (k : Int)) := Lib.hid (by
        unfold atC
        rw [if_neg (by omega)]
        have : (UInt8.ofNat k).toNat = k := by rw [UInt8.toNat_ofNat']; omega
        simp [onC, this])
      have hw8 : IntKind.u8.wrap (k : Int) = (k : Int) := by rw [IntKind.wrap_u8]; omega
      have hk8 : (k : Int) % 256 = (k : Int) := by omega
      have hr : Rd (w.alloc (.cells #[.int .u8 (k : Int)] 5)) (some ⟨w.heap.size, 0, none⟩) 1 [UInt8.ofNat k] :=
        ⟨rfl, by omega, fun _ => ⟨_, 0, rfl, fun j hj => by
          have : j = 0 := by omega
          subst this
          rw [(Blk.new w 5 #[.int .u8 (k : Int)]).cell]
          have h2 : (UInt8.ofNat k).toNat = k := by rw [UInt8.toNat_ofNat']; omega
          simp [h2]⟩⟩
      have hon := refOn_any 0 (by omega) _ 1 1 _ _ hr
      rw [show ((0 : Nat) : Int) = 0 from rfl, H.out] at hon
      clear hr
      go_enter Try.func17, Try.ntmps17
      go_wp2_with fail
      refine hon.mono ?_
      rintro e w1 ⟨rfl, rfl⟩
      clear hon
      go_wp2_with fail
      go_ret
      exact ⟨rfl, (Below.refl _ _).alloc (Nat.le_refl _) _⟩
theorem xor_shr (a s : Nat) (ha : a < 4294967296) (hs : s < 4294967296) : bits .xor .u32 (a : Int) ((s : Int) / 256) = ((a ^^^ s / 256 : Nat) : Int) := by
  have := u32_xor_nat a (s / 256) ha (by omega)
  rw [← this]
  rfl
theorem xor_all (s : Nat) (hs : s < 4294967296) : bits .xor .u32 IntKind.u32.max (s : Int) = ((oth s : Nat) : Int) := by
  rw [show IntKind.u32.max = 4294967295 from rfl]
  have := u32_xor_nat 4294967295 s (by omega) hs
  rw [show ((4294967295 : Nat) : Int) = 4294967295 from rfl] at this
  rw [this, Nat.xor_comm]
  rfl

set_option maxHeartbeats 1000000 in
theorem slow_any (A : Option Addr) (n c : Nat) (xs : List UInt8) (w : World) (ha : Rd w A n xs) :
    Calls Try.prog 14 #[.slice A n c] w fun e w' => e = .returned (.int .u32 ((crcOf xs : Nat) : Int)) ∧ w = w' := by
  have hn := ha.2.1
  have HX := Lib.hid ha.1
  go_enter Try.func14, Try.ntmps14
  go_wp2_with fail
  go_loop [3, 8] (fun v i => ∃ k : Nat, k ≤ n ∧ i = .int .i64 (k : Int) ∧ v = .int .u32 ((onC 4294967295 (xs.take k) : Nat) : Int)) (fun _ i => n - (intOf i).toNat)
  case atStart => exact ⟨0, Nat.zero_le _, rfl, rfl⟩
  case round =>
    obtain ⟨k, hk, rfl, rfl⟩ := hrel
    have hlo := onC_lt (s := 4294967295) (xs.take k) (by omega)
    by_cases hlt : k < n
    · obtain ⟨b, o, rfl, hc⟩ := ha.at_ k hlt
      have hbl := block_lt_of_cell hc
      simp only at hbl
      have hsucc : onC 4294967295 (xs.take (k + 1)) = halfN 8 ((onC 4294967295 (xs.take k) % 256) ^^^ (xs.getD k 0).toNat) ^^^ onC 4294967295 (xs.take k) / 256 := by rw [take_succ_getD xs k 0 (by rw [HX.out]; exact hlt), onC_snoc, on_table]
      obtain ⟨x, hx⟩ : ∃ x, xs.getD k 0 = x := ⟨_, rfl⟩
      rw [hx] at hc hsucc
      obtain ⟨m, hm⟩ : ∃ m, onC 4294967295 (xs.take k) = m := ⟨_, rfl⟩
      rw [hm] at hlo hsucc ⊢
      have hxl : m % 256 ^^^ x.toNat < 4294967296 := xor_lt32 (by omega) (u8_lt32 x)
      have hb32 := byte32_any m x hlo w
      obtain ⟨q, hq⟩ : ∃ q, m % 256 ^^^ x.toNat = q := ⟨_, rfl⟩
      rw [hq] at hxl hsucc hb32
      have hH := halfN_lt 8 hxl
      have hhv := halved_any q hxl w
      obtain ⟨H, hHH⟩ : ∃ z, halfN 8 q = z := ⟨_, rfl⟩
      rw [hHH] at hsucc hH hhv
      have hxs := xor_shr H m hH hlo
      have HS := Lib.hid hsucc
      clear hsucc hm hx hq hHH
      go_wp2_with fail
      refine hb32.mono ?_
      rintro e w1 ⟨rfl, rfl⟩
      clear hb32
      go_wp2_with fail
      refine hhv.mono ?_
      rintro e w1 ⟨rfl, rfl⟩
      clear hhv
      go_wp2_with fail
      exact ⟨⟨k + 1, by omega, rfl, by rw [HS.out]⟩, by simp [intOf]; omega⟩
    · obtain rfl : k = n := by omega
      have e := List.take_of_length_le (l := xs) (i := k) (by rw [HX.out]; omega)
      rw [e] at hlo ⊢
      have hxa := xor_all _ hlo
      clear hlt e
      go_wp2_with fail
      go_ret
      exact ⟨rfl, rfl⟩
end Go.Proofs.Ytihokijndmigoaa
