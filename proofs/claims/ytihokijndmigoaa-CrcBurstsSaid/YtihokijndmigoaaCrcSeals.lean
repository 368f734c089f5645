/- The walks of CrcSeals, CrcBursts. -/
import Derived.Test.YtihokijndmigoaaCrcSums
import Derived.Test.YtihokijndmigoaaCrc5
import Derived.Test.YtihokijndmigoaaCrc6
import Derived.Test.YtihokijndmigoaaCrc7
namespace Go.Proofs.Ytihokijndmigoaa
open Go.RowKit
set_option linter.unusedSimpArgs false
set_option linter.unusedVariables false

set_option maxRecDepth 100000 in
set_option maxHeartbeats 2000000 in
theorem CrcSeals_walk (A : Option Addr) (n c : Nat) (xs : List UInt8) (bit : Int) (p : Nat) (w : World) (ha : Rd w A n xs) (hc : n ≤ c) (hp : p < 4294967296) (hbm : bit ≤ 9223372036854775807) :
    Calls Try.prog 6 #[.slice A n c, .int .i64 bit, .int .u32 (p : Int)] w fun e w' => e = .returned (.bool true) ∧ Below w.heap.size w w' := by
  have hcut := cut_any A n c 300 w (by omega) hc
  have hr0 := rd_cut (m := 300) ha
  obtain ⟨N0, hN0⟩ : ∃ z, min n 300 = z := ⟨_, rfl⟩
  obtain ⟨X0, hX0⟩ : ∃ z, xs.take 300 = z := ⟨_, rfl⟩
  rw [hN0] at hcut hr0
  rw [hX0] at hr0
  have hN2 : N0 ≤ 300 ∧ N0 ≤ c := by omega
  have hga : 0 < N0 → ∀ ad, A = some ad → ad.block ≠ w.heap.size := fun h0 ad e => Nat.ne_of_lt (hr0.lt h0 ad e)
  have hT := new_table w
  have hX : Below w.heap.size w (w.alloc (.cells Try.zeroCells55 55)) := (Below.refl _ _).alloc (Nat.le_refl _) _
  clear hN0 hX0 ha
  go_enter Try.func6, Try.ntmps6
  go_wp2_with fail
  refine hcut.mono ?_
  rintro e w0 ⟨rfl, rfl⟩
  clear hcut
  go_wp2_with fail
  generalize (w.alloc (.cells Try.zeroCells55 55)) = w1 at hT hX ⊢
  have hr1 := hr0.below_ hX
  have hg1 := hT.lt
  refine (seal_any _ false A N0 c X0 w1 hT hr1 hN2.2 (by omega) hga).mono ?_
  rintro e w2 ⟨⟨A2, c2, rfl, ho2⟩, h2, hk2⟩
  have hB2 : Below w.heap.size w w2 := hX.trans (hk2.below hX.size (by simp))
  have hr2 := hr0.below_ hB2
  obtain ⟨S, hS⟩ : ∃ z, sealB X0 = z := ⟨_, rfl⟩
  have hfs := fits_seal X0
  have hrs := refSeal_any A N0 c X0 w2 hr2 hN2.2 (by omega)
  rw [hS] at ho2 hfs hrs
  have hs2 := hB2.size
  have hga2 : 0 < N0 + 4 → ∀ ad, A2 = some ad → ad.block ≠ w.heap.size := fun _ ad e => by
    have := own_ge ho2 ad.block (by rw [e]; rfl)
    omega
  obtain ⟨_, _, hv2, hlc2, _⟩ := own_form ho2
  have hc2 : N0 + 4 ≤ c2 := by injection hv2; omega
  have hq2 := Rd.of_own ho2
  clear hk2 hT hX hr1 ho2 hS hv2 hlc2
  go_wp2_with fail
  refine hrs.mono ?_
  rintro e w3 ⟨⟨A3, c3, rfl, ho3⟩, hb3⟩
  have hB3 := hB2.trans (hb3.mono hB2.size)
  have hq3 := hq2.below_ hb3
  have h3 := h2.below hb3
  have hr3 := hr0.below_ hB3
  have hsame := Same_any A2 A3 (N0 + 4) (N0 + 4) c2 c3 S S w3 hq3 (Rd.of_own ho3)
  clear hrs hb3 ho3 hB2 h2 hr2 hq2
  go_wp2_with fail
  refine hsame.mono ?_
  rintro e w4 ⟨he4, hd4⟩
  obtain rfl : e = .returned (.bool true) := by rw [he4]; simp
  have hb4 := hd4.below w3.heap.size
  have hB4 := hB3.trans (hb4.mono hB3.size)
  have hq4 := hq3.below_ hb4
  have h4 := h3.below hb4
  have hr4 := hr0.below_ hB4
  have hft := fits_any _ true A2 (N0 + 4) c2 S w4 h4 hq4 hc2 (by omega) hga2
  rw [hfs] at hft
  clear he4 hsame hd4 hb4 hB3 h3 hq3 hr3
  go_wp2_with fail
  refine hft.mono ?_
  rintro e w5 ⟨rfl, h5, hk5⟩
  have hB5 : Below w.heap.size w w5 := hB4.trans (hk5.below hB4.size (by simp))
  have hr5 := hr0.below_ hB5
  have hft2 := fits_any _ true A N0 c X0 w5 h5 hr5 hN2.2 (by omega) hga
  obtain ⟨F, hF⟩ : ∃ z, fitsC X0 = z := ⟨_, rfl⟩
  rw [hF] at hft2
  have HF := Lib.hid hF
  clear hft hk5 hq4 hB4 h4 hr4 hF
  go_wp2_with fail
  refine hft2.mono ?_
  rintro e w6 ⟨rfl, h6, hk6⟩
  have hB6 : Below w.heap.size w w6 := hB5.trans (hk6.below hB5.size (by simp))
  have hr6 := hr0.below_ hB6
  have hrf := refFits_any A N0 c X0 w6 hr6 hN2.2 (by omega)
  rw [HF.out] at hrf
  have tF : (F == F) = true := by simp
  clear hft2 hk6 hB5 h5 hr5
  go_wp2_with fail
  refine hrf.mono ?_
  rintro e w7 ⟨rfl, hb7⟩
  have hB7 := hB6.trans (hb7.mono hB6.size)
  have hr7 := hr0.below_ hB7
  have htu := turn_any A N0 c X0 bit p w7 hr7 hN2.2 (by omega) hp hbm
  have hTl := turnB_len X0 bit p
  obtain ⟨T, hTT⟩ : ∃ z, turnB X0 bit p = z := ⟨_, rfl⟩
  rw [hTT] at htu
  have HT := Lib.hid hTT
  clear hrf hb7 hB6 h6 hr6 hTT hTl
  go_wp2_with fail
  refine htu.mono ?_
  rintro e w8 ⟨⟨A8, c8, rfl, ho8⟩, hb8⟩
  have hB8 := hB7.trans (hb8.mono hB7.size)
  have hr8 := hr0.below_ hB8
  have hrt := refTurn_any A N0 c X0 bit p w8 hr8 hN2.2 (by omega) hp hbm
  rw [HT.out] at hrt
  have hq8 := Rd.of_own ho8
  clear htu hb8 hB7 hr7 ho8
  go_wp2_with fail
  refine hrt.mono ?_
  rintro e w10 ⟨⟨A10, c10, rfl, ho10⟩, hb10⟩
  have hB10 := hB8.trans (hb10.mono hB8.size)
  have hsame := Same_any A8 A10 N0 N0 c8 c10 T T w10 (hq8.below_ hb10) (Rd.of_own ho10)
  clear hrt hb10 hB8 hr8 ho10 hq8
  go_wp2_with fail
  refine hsame.mono ?_
  rintro e w11 ⟨he11, hd11⟩
  obtain rfl : e = .returned (.bool true) := by rw [he11]; simp
  have hB11 := hB10.trans (hd11.below _)
  clear hsame he11 hd11 hB10
  go_wp2_with fail
  refine (awake02 w11).mono ?_
  rintro e w9 ⟨rfl, hb9⟩
  have hfin := hB11.trans (hb9.mono hB11.size)
  clear hb9
  go_wp2_with fail
  go_ret
  exact ⟨rfl, hfin⟩

set_option maxRecDepth 100000 in
set_option maxHeartbeats 2000000 in
theorem CrcBursts_walk (A : Option Addr) (n c : Nat) (xs : List UInt8) (bit p : Nat) (w : World) (ha : Rd w A n xs) (hc : n ≤ c) (hp : p < 4294967296) (hbm : bit < 65536) :
    Calls Try.prog 7 #[.slice A n c, .int .u16 (bit : Int), .int .u32 (p : Int)] w fun e w' => e = .returned (.bool true) ∧ Below w.heap.size w w' := by
  have hcut := cut_any A n c 300 w (by omega) hc
  have hr0 := rd_cut (m := 300) ha
  obtain ⟨N0, hN0⟩ : ∃ z, min n 300 = z := ⟨_, rfl⟩
  obtain ⟨X0, hX0⟩ : ∃ z, xs.take 300 = z := ⟨_, rfl⟩
  rw [hN0] at hcut hr0
  rw [hX0] at hr0
  have hN2 : N0 ≤ 300 ∧ N0 ≤ c := by omega
  have hga : 0 < N0 → ∀ ad, A = some ad → ad.block ≠ w.heap.size := fun h0 ad e => Nat.ne_of_lt (hr0.lt h0 ad e)
  have hXl := Lib.hid hr0.1
  clear hN0 hX0 ha
  go_enter Try.func7, Try.ntmps7
  go_wp2_with fail
  refine hcut.mono ?_
  rintro e w0 ⟨rfl, rfl⟩
  clear hcut
  go_wp2_with fail
  refine (crcNew_any w).mono ?_
  rintro e w1 ⟨rfl, h1, hb1⟩
  have hr1 := hr0.below_ hb1
  go_wp2_with fail
  refine (seal_any _ false A N0 c X0 w1 h1 hr1 hN2.2 (by omega) hga).mono ?_
  rintro e w2 ⟨⟨A2, c2, rfl, ho2⟩, h2, hk2⟩
  have hs12 := hk2.size
  have hB2 : Below w.heap.size w w2 := hb1.trans (hk2.below hb1.size (by simp))
  have hfs := fits_seal X0
  have hSl := sealB_len X0
  obtain ⟨S, hS⟩ : ∃ z, sealB X0 = z := ⟨_, rfl⟩
  rw [hS] at ho2 hfs hSl
  rw [hXl.out] at hSl
  have hs1 := hb1.size
  have hs2 := hB2.size
  have hg1 := h1.lt
  have hga2 : 0 < N0 + 4 → ∀ ad, A2 = some ad → ad.block ≠ w.heap.size := fun _ ad e => by
    have := own_ge ho2 ad.block (by rw [e]; rfl)
    omega
  obtain ⟨_, _, hv2, hlc2, _⟩ := own_form ho2
  have hc2 : N0 + 4 ≤ c2 := by injection hv2; omega
  have hq2 := Rd.of_own ho2
  have hw1 : IntKind.i64.wrap ((N0 : Int) + 4) = (N0 : Int) + 4 := by rw [IntKind.wrap_i64]; omega
  have hw2 : IntKind.i64.wrap (bit : Int) = (bit : Int) := by rw [IntKind.wrap_i64]; omega
  have hw3 : IntKind.i64.wrap (8 * ((N0 : Int) + 4)) = ((8 * (N0 + 4) : Nat) : Int) := by rw [IntKind.wrap_i64]; omega
  obtain ⟨M8, hM8⟩ : ∃ z, 8 * (N0 + 4) = z := ⟨_, rfl⟩
  rw [hM8] at hw3
  have hM0 : ((M8 : Int) == 0) = false := by simp; omega
  have hM0' : ¬ (M8 : Int) = 0 := by omega
  have hrem : (bit : Int).tmod (M8 : Int) = ((bit % M8 : Nat) : Int) := rfl
  have hremn : (bit : Int) % (M8 : Int) = ((bit % M8 : Nat) : Int) := rfl
  obtain ⟨R, hR⟩ : ∃ z, bit % M8 = z := ⟨_, rfl⟩
  rw [hR] at hrem hremn
  have hR9 : R < 10000000 := by rw [← hR]; exact Nat.lt_of_le_of_lt (Nat.mod_le _ _) (by omega)
  have hbu := fits_burst S (R : Int) p (by omega) hfs
  have htu := turn_any A2 (N0 + 4) c2 S (R : Int) p w2 hq2 hc2 (by omega) hp (by omega)
  have hTl := turnB_len S (R : Int) p
  obtain ⟨T, hTT⟩ : ∃ z, turnB S (R : Int) p = z := ⟨_, rfl⟩
  rw [hTT] at htu hbu
  have HBU := Lib.hid hbu
  clear hk2 h1 hb1 hr1 ho2 hS hv2 hlc2 hM8 hR hSl hTl hTT hfs hbu
  go_wp2_with fail
  refine htu.mono ?_
  rintro e w3 ⟨⟨A3, c3, rfl, ho3⟩, hb3⟩
  have hB3 := hB2.trans (hb3.mono hB2.size)
  have h3 := h2.below hb3
  have hq3 := hq2.below_ hb3
  have hga3 : 0 < N0 + 4 → ∀ ad, A3 = some ad → ad.block ≠ w.heap.size := fun _ ad e => by
    have := own_ge ho3 ad.block (by rw [e]; rfl)
    omega
  obtain ⟨_, _, hv3, hlc3, _⟩ := own_form ho3
  have hc3 : N0 + 4 ≤ c3 := by injection hv3; omega
  have hr3 := Rd.of_own ho3
  have hft := fits_any _ true A3 (N0 + 4) c3 T w3 h3 hr3 hc3 (by omega) hga3
  rw [HBU.out] at hft
  have hga2' := hga2
  clear htu hb3 hB2 h2 hq2 ho3 hv3 hlc3 hga2
  go_wp2_with fail
  refine hft.mono ?_
  rintro e w4 ⟨rfl, h4, hk4⟩
  have hB4 : Below w.heap.size w w4 := hB3.trans (hk4.below hB3.size (by simp))
  have hr4 := hr3.keeps hk4 (fun h0 ad e hm => hga3 h0 ad e (by simpa using hm))
  have hq4 : Rd w4 A2 (N0 + 4) S := hq3.keeps hk4 (fun h0 ad e hm => hga2' h0 ad e (by simpa using hm))
  have hsame := Same_any A3 A2 (N0 + 4) (N0 + 4) c3 c2 T S w4 hr4 hq4
  obtain ⟨E, hE⟩ : ∃ z, decide (T = S) = z := ⟨_, rfl⟩
  rw [hE] at hsame ⊢
  have tE : (E == E) = true := by simp
  clear hft hk4 hB3 h3 hq3 hr3 hE hr4 hq4
  go_wp2_with fail
  refine hsame.mono ?_
  rintro e w5 ⟨rfl, hd5⟩
  have hB5 := hB4.trans (hd5.below _)
  clear hsame hd5 hB4
  go_wp2_with fail
  refine (awake02 w5).mono ?_
  rintro e w9 ⟨rfl, hb9⟩
  have hfin := hB5.trans (hb9.mono hB5.size)
  clear hb9
  go_wp2_with fail
  go_ret
  exact ⟨rfl, hfin⟩
end Go.Proofs.Ytihokijndmigoaa
