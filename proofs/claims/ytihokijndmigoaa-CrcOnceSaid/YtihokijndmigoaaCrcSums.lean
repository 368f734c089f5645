/- The law's awake (layer 2); the walk of CrcSums. -/
import Derived.Test.YtihokijndmigoaaCrc4
import Derived.Test.YtihokijndmigoaaCut
import Derived.Lib.SlBytesConst
namespace Go.Proofs.Ytihokijndmigoaa
open Go.RowKit
set_option linter.unusedSimpArgs false
set_option linter.unusedVariables false

def nine : List UInt8 := [49, 50, 51, 52, 53, 54, 55, 56, 57]
theorem nine_crc : crcOf nine = 3421780262 := by kernel_rfl
theorem nine_rd (w : World) : Rd (w.alloc (.cells #[.int .u8 49, .int .u8 50, .int .u8 51, .int .u8 52, .int .u8 53, .int .u8 54, .int .u8 55, .int .u8 56, .int .u8 57] 5 (9, 10))) (some ⟨w.heap.size, 0, none⟩) 9 nine :=
  ⟨rfl, by omega, fun _ => ⟨_, 0, rfl, fun j hj => by
    rw [cell_of_row _ _ _ _ _ _ (heap_alloc_new w _)]
    have : j = 0 ∨ j = 1 ∨ j = 2 ∨ j = 3 ∨ j = 4 ∨ j = 5 ∨ j = 6 ∨ j = 7 ∨ j = 8 := by omega
    rcases this with rfl | rfl | rfl | rfl | rfl | rfl | rfl | rfl | rfl <;> rfl⟩⟩

set_option maxRecDepth 100000 in
set_option maxHeartbeats 2000000 in
theorem awake02 (w : World) : Calls Try.prog 13 #[] w fun e w' => e = .returned (.bool true) ∧ Below w.heap.size w w' := by
  have kc := fun (w : World) (C : Array Value) (n c : Nat) => Lib.run_convert_bytes_const (P := Try.prog) w 25 5 C n c Try.underlying25 Try.underlying5
  go_enter Try.func13, Try.ntmps13
  go_wp2_with fail
  refine (crcNew_any w).mono ?_
  rintro e w1 ⟨rfl, h1, hb1⟩
  go_wp2_with fail
  refine (made_any _ false w1 h1).mono ?_
  rintro e w2 ⟨rfl, rfl⟩
  rw [show tabN false = 0 from rfl]
  go_wp2_with fail
  have hbY : Below w1.heap.size w1 (w1.alloc (.cells #[.int .u8 49, .int .u8 50, .int .u8 51, .int .u8 52, .int .u8 53, .int .u8 54, .int .u8 55, .int .u8 56, .int .u8 57] 5 (9, 10))) := (Below.refl _ _).alloc (Nat.le_refl _) _
  have hrY := nine_rd w1
  have eY : w1.heap.size + 1 = (w1.alloc (.cells #[.int .u8 49, .int .u8 50, .int .u8 51, .int .u8 52, .int .u8 53, .int .u8 54, .int .u8 55, .int .u8 56, .int .u8 57] 5 (9, 10))).heap.size := by simp
  rw [eY]
  generalize hYY : w1.alloc (.cells #[.int .u8 49, .int .u8 50, .int .u8 51, .int .u8 52, .int .u8 53, .int .u8 54, .int .u8 55, .int .u8 56, .int .u8 57] 5 (9, 10)) = Y at hbY hrY eY ⊢
  have hTY := h1.below hbY
  have hBY := hb1.trans (hbY.mono hb1.size)
  have hgY := hTY.lt
  have hX : Below Y.heap.size Y (Y.alloc (.cells #[.slice (some ⟨w1.heap.size, 0, none⟩) 9 9] 25)) := (Below.refl _ _).alloc (Nat.le_refl _) _
  have hx := Blk.new Y 25 #[.slice (some ⟨w1.heap.size, 0, none⟩) 9 9]
  have hg1 := h1.lt
  obtain ⟨hP, hO⟩ := one_part hrY (Nat.le_refl 9) hX hx hgY (fun _ ad e => by injection e with e; subst e; simp; omega)
  generalize (Y.alloc (.cells #[.slice (some ⟨w1.heap.size, 0, none⟩) 9 9] 25)) = Z at hX hx hP ⊢
  have hof := of_any _ false _ 1 1 _ Z (hTY.below hX) hP hO
  rw [cat_one, nine_crc] at hof
  refine hof.mono ?_
  rintro e w2 ⟨rfl, h2, hk2⟩
  have hBZ := hBY.trans (hX.mono hBY.size)
  have hB2 : Below w.heap.size w w2 := hBZ.trans (hk2.below hBZ.size (by simp))
  clear hof hP hO hx hX hTY hrY hYY eY hbY hBY hBZ hk2 h1
  go_wp2_with fail
  refine (made_any _ true w2 h2).mono ?_
  rintro e w3 ⟨rfl, rfl⟩
  rw [show tabN true = 1 from rfl]
  go_wp2_with fail
  have hrY := nine_rd w2
  have hbY : Below w2.heap.size w2 (w2.alloc (.cells #[.int .u8 49, .int .u8 50, .int .u8 51, .int .u8 52, .int .u8 53, .int .u8 54, .int .u8 55, .int .u8 56, .int .u8 57] 5 (9, 10))) := (Below.refl _ _).alloc (Nat.le_refl _) _
  generalize hYY : w2.alloc (.cells #[.int .u8 49, .int .u8 50, .int .u8 51, .int .u8 52, .int .u8 53, .int .u8 54, .int .u8 55, .int .u8 56, .int .u8 57] 5 (9, 10)) = Y2 at hbY hrY ⊢
  have hsl := slow_any _ 9 9 nine Y2 hrY
  rw [nine_crc] at hsl
  have hBY := hB2.trans (hbY.mono hB2.size)
  refine hsl.mono ?_
  rintro e w3 ⟨rfl, rfl⟩
  clear hsl hrY hbY hYY
  go_wp2_with fail
  go_ret
  exact ⟨rfl, hBY⟩

set_option maxRecDepth 100000 in
set_option maxHeartbeats 2000000 in
theorem CrcSums_walk (A : Option Addr) (n c : Nat) (xs : List UInt8) (sum : Nat) (i : Int) (w : World) (ha : Rd w A n xs) (hc : n ≤ c) (hs : sum < 4294967296) :
    Calls Try.prog 4 #[.slice A n c, .int .u32 (sum : Int), .int .i64 i] w fun e w' => e = .returned (.bool true) ∧ Below w.heap.size w w' := by
  have hcut := cut_any A n c 300 w (by omega) hc
  have hr0 := rd_cut (m := 300) ha
  obtain ⟨N0, hN0⟩ : ∃ z, min n 300 = z := ⟨_, rfl⟩
  obtain ⟨X0, hX0⟩ : ∃ z, xs.take 300 = z := ⟨_, rfl⟩
  rw [hN0] at hcut hr0
  rw [hX0] at hr0
  have hN2 : N0 ≤ 300 ∧ N0 ≤ c := by omega
  have hga : 0 < N0 → ∀ ad, A = some ad → ad.block ≠ w.heap.size := fun h0 ad e => Nat.ne_of_lt (hr0.lt h0 ad e)
  clear hN0 hX0 ha
  go_enter Try.func4, Try.ntmps4
  go_wp2_with fail
  refine hcut.mono ?_
  rintro e w0 ⟨rfl, rfl⟩
  clear hcut
  go_wp2_with fail
  refine (crcNew_any w).mono ?_
  rintro e w1 ⟨rfl, h1, hb1⟩
  have hg1 := h1.lt
  have hX : Below w1.heap.size w1 (w1.alloc (.cells #[.slice A N0 c] 25)) := (Below.refl _ _).alloc (Nat.le_refl _) _
  have hx := Blk.new w1 25 #[.slice A N0 c]
  obtain ⟨hP, hO⟩ := one_part (hr0.below_ hb1) hN2.2 hX hx hg1 hga
  go_wp2_with fail
  generalize (w1.alloc (.cells #[.slice A N0 c] 25)) = Z at hX hx hP ⊢
  have hof := of_any _ false _ 1 1 _ Z (h1.below hX) hP hO
  rw [cat_one] at hof
  refine hof.mono ?_
  rintro e w2 ⟨rfl, h2, hk2⟩
  have hBZ := hb1.trans (hX.mono hb1.size)
  have hB2 : Below w.heap.size w w2 := hBZ.trans (hk2.below hBZ.size (by simp))
  have hr2 := hr0.below_ hB2
  clear hof hP hO hx hX hBZ hk2 h1 hb1
  go_wp2_with fail
  refine (refOf_any A N0 c X0 w2 hr2).mono ?_
  rintro e w3 ⟨rfl, rfl⟩
  go_wp2_with fail
  refine (slow_any A N0 c X0 w2 hr2).mono ?_
  rintro e w3 ⟨rfl, rfl⟩
  go_wp2_with fail
  refine (refOf_any A N0 c X0 w2 hr2).mono ?_
  rintro e w3 ⟨rfl, rfl⟩
  go_wp2_with fail
  refine (more_any _ true sum hs A N0 c X0 w2 h2 hr2 hga).mono ?_
  rintro e w3 ⟨rfl, h3, hk3⟩
  have hB3 : Below w.heap.size w w3 := hB2.trans (hk3.below hB2.size (by simp))
  clear hr2 hB2 hk3 h2
  go_wp2_with fail
  refine (refMore_any sum hs A N0 c X0 w3 (hr0.below_ hB3)).mono ?_
  rintro e w4 ⟨rfl, rfl⟩
  go_wp2_with fail
  refine (at_any _ true i w3 h3).mono ?_
  rintro e w4 ⟨rfl, h4, hk4⟩
  have hB4 : Below w.heap.size w w4 := hB3.trans (hk4.below hB3.size (by simp))
  clear hB3 hk4 h3
  go_wp2_with fail
  refine (refAt_any i w4).mono ?_
  rintro e w5 ⟨rfl, hb5⟩
  have hB5 := hB4.trans (hb5.mono hB4.size)
  clear hB4 hb5 h4
  go_wp2_with fail
  refine (awake02 w5).mono ?_
  rintro e w9 ⟨rfl, hb9⟩
  have hfin := hB5.trans (hb9.mono hB5.size)
  clear hb9
  go_wp2_with fail
  go_ret
  exact ⟨rfl, hfin⟩
end Go.Proofs.Ytihokijndmigoaa
