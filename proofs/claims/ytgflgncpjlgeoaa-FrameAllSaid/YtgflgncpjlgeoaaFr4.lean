/- Contracts: ours, like; package frame at nil; the walk of FrameNil. -/
import Derived.Test.YtgflgncpjlgeoaaFr3
namespace Go.Proofs.Ytgflgncpjlgeoaa
open Go.RowKit
set_option linter.unusedSimpArgs false
set_option linter.unusedVariables false

/-- A frame by value. -/
def frV (k : UInt8) (A : Option Addr) (n c : Nat) : Value := .agg #[.int .u8 (k.toNat : Int), .slice A n c]

set_option maxHeartbeats 1000000 in
theorem ours03_any (k : UInt8) (A : Option Addr) (n c : Nat) (w : World) : Calls Try.prog 17 #[frV k A n c] w fun e w' => e = .returned (frV k A n c) ∧ Below w.heap.size w w' := by
  unfold frV
  go_enter Try.func17, Try.ntmps17
  go_wp2
  exact bodyPost_ret (by simp [results, Try.results17, go_sem]) rfl ⟨rfl, by repeat (first | exact Below.refl _ _ | refine Below.alloc ?_ (by simp) _)⟩

theorem u8_eq_int (a b : UInt8) : ((a.toNat : Int) == (b.toNat : Int)) = decide (a = b) := by
  by_cases h : a = b
  · subst h
    simp
  · have : ¬ (a.toNat : Int) = (b.toNat : Int) := fun e => h (UInt8.toNat_inj.1 (by omega))
    simp [h, this]

set_option maxRecDepth 100000 in
set_option maxHeartbeats 2000000 in
theorem like_any (k k2 : UInt8) (A B : Option Addr) (n m c d : Nat) (xs ys : List UInt8) (w : World) (ha : Rd w A n xs) (hb : Rd w B m ys) :
    Calls Try.prog 14 #[frV k A n c, frV k2 B m d] w fun e w' => e = .returned (.bool (decide (k = k2 ∧ xs = ys))) ∧ Below w.heap.size w w' := by
  unfold frV
  have hX : Below w.heap.size w (w.alloc (.cells #[.int .u8 (k.toNat : Int), .slice A n c] 39)) := (Below.refl _ _).alloc (Nat.le_refl _) _
  have hx := Blk.new w 39 #[.int .u8 (k.toNat : Int), .slice A n c]
  have hY := fun (W : World) => ((Below.refl W.heap.size W).alloc (Nat.le_refl _) (.cells #[.int .u8 (k2.toNat : Int), .slice B m d] 25))
  have he := u8_eq_int k k2
  by_cases hk : k = k2
  · have HF : Hid (decide (k = k2 ∧ xs = ys) = decide (xs = ys)) := Lib.hid (by simp [hk])
    rw [decide_eq_true hk] at he
    clear hk
    go_enter Try.func14, Try.ntmps14
    go_wp2_with fail
    have hb2 := hX.trans ((hY _).mono hX.size)
    generalize ((w.alloc (.cells #[.int .u8 (k.toNat : Int), .slice A n c] 39)).alloc (.cells #[.int .u8 (k2.toNat : Int), .slice B m d] 25)) = w2 at hb2 ⊢
    refine (Same_any A B n m c d xs ys w2 (ha.below_ hb2) (hb.below_ hb2)).mono ?_
    rintro e w3 ⟨rfl, hd3⟩
    have hB3 := hb2.trans ((hd3.below _).mono hb2.size)
    clear hX hx hY hd3 hb2
    go_wp2_with fail
    go_ret
    exact ⟨by rw [HF.out]; rfl, hB3⟩
  · have HF : Hid (decide (k = k2 ∧ xs = ys) = false) := Lib.hid (by simp [hk])
    rw [decide_eq_false hk] at he
    have hb2 := hX.trans ((hY _).mono hX.size)
    clear hk
    go_enter Try.func14, Try.ntmps14
    go_wp2_with fail
    go_ret
    exact ⟨by rw [HF.out]; rfl, hb2⟩

theorem framePut_nil (v : Value) (k : UInt8) (A : Option Addr) (n c : Nat) (w : World) : Calls Try.prog 16 #[.pointer none, frV k A n c] w fun e w' => e = .returned (.tuple #[.slice none 0 0, .int .i64 2]) ∧ Below w.heap.size w w' := by
  unfold frV
  go_enter Try.func16, Try.ntmps16
  go_wp2_with fail
  exact bodyPost_ret (v := .tuple #[.slice none 0 0, .int .i64 2]) (by simp [results, Try.results16, go_sem]) rfl ⟨rfl, (Below.refl _ _).alloc (Nat.le_refl _) _⟩
theorem frameCut_nil (v : Value) (w : World) : Calls Try.prog 18 #[.pointer none, v] w fun e w' => e = .returned (.tuple #[frV 0 none 0 0, .int .i64 0, .int .i64 2]) ∧ Below w.heap.size w w' := by
  unfold frV
  go_enter Try.func18, Try.ntmps18
  go_wp2_with fail
  exact bodyPost_ret (v := .tuple #[.agg #[.int .u8 0, .slice none 0 0], .int .i64 0, .int .i64 2]) (by simp [results, Try.results18, go_sem]) rfl ⟨rfl, by repeat (first | exact Below.refl _ _ | refine Below.setCell ?_ (by simp) _ | refine Below.alloc ?_ (by simp) _)⟩
theorem frameGet_nil (v : Value) (w : World) : Calls Try.prog 19 #[.pointer none, v] w fun e w' => e = .returned (.tuple #[frV 0 none 0 0, .int .i64 2]) ∧ Below w.heap.size w w' := by
  unfold frV
  go_enter Try.func19, Try.ntmps19
  go_wp2_with fail
  exact bodyPost_ret (v := .tuple #[.agg #[.int .u8 0, .slice none 0 0], .int .i64 2]) (by simp [results, Try.results19, go_sem]) rfl ⟨rfl, by repeat (first | exact Below.refl _ _ | refine Below.setCell ?_ (by simp) _ | refine Below.alloc ?_ (by simp) _)⟩
theorem frameAll_nil (v : Value) (w : World) : Calls Try.prog 12 #[.pointer none, v] w fun e w' => e = .returned (.tuple #[.slice none 0 0, .int .i64 0, .int .i64 2]) ∧ w = w' := by
  go_enter Try.func12, Try.ntmps12
  go_wp2_with fail
  exact bodyPost_ret (v := .tuple #[.slice none 0 0, .int .i64 0, .int .i64 2]) (by simp [results, Try.results12, go_sem]) rfl ⟨rfl, rfl⟩
theorem frameCounts_nil (w : World) : Calls Try.prog 15 #[.pointer none] w fun e w' => e = .returned (.tuple #[.int .u64 0, .int .u64 0]) ∧ w = w' := by
  go_enter Try.func15, Try.ntmps15
  go_wp2_with fail
  exact bodyPost_ret (v := .tuple #[.int .u64 0, .int .u64 0]) (by simp [results, Try.results15, go_sem]) rfl ⟨rfl, rfl⟩

set_option maxRecDepth 100000 in
set_option maxHeartbeats 4000000 in
theorem FrameNil_walk (k : UInt8) (A : Option Addr) (n c : Nat) (B : Option Addr) (m d : Nat) (w : World) :
    Calls Try.prog 4 #[frV k A n c, .slice B m d] w fun e w' => e = .returned (.bool true) ∧ Below w.heap.size w w' := by
  have hours := fun W => ours03_any k A n c W
  have hput := fun W => framePut_nil undef k A n c W
  have hcut := fun W => frameCut_nil (.slice B m d) W
  have hget := fun W => frameGet_nil (.slice B m d) W
  have hlk := fun W => like_any 0 0 none none 0 0 0 0 [] [] W (Rd.nil _ _) (Rd.nil _ _)
  rw [show decide ((0 : UInt8) = 0 ∧ ([] : List UInt8) = []) = true by simp] at hlk
  unfold frV at hours hput hcut hget hlk ⊢
  rw [show (((0 : UInt8).toNat : Nat) : Int) = 0 from rfl] at hcut hget hlk
  go_enter Try.func4, Try.ntmps4
  go_wp2_with fail
  have hb0 : Below w.heap.size w (w.alloc (.cells #[.int .u8 (k.toNat : Int), .slice A n c] 25)) := (Below.refl _ _).alloc (Nat.le_refl _) _
  generalize (w.alloc (.cells #[.int .u8 (k.toNat : Int), .slice A n c] 25)) = v0 at hb0 ⊢
  refine (hours v0).mono ?_
  rintro e v1 ⟨rfl, hb1⟩
  have hB1 := hb0.trans (hb1.mono hb0.size)
  clear hb1 hours hb0
  go_wp2_with fail
  refine (hput v1).mono ?_
  rintro e v2 ⟨rfl, hb2⟩
  have hB2 := hB1.trans (hb2.mono hB1.size)
  clear hb2 hput hB1
  go_wp2_with fail
  refine (hcut v2).mono ?_
  rintro e w3 ⟨rfl, hb3⟩
  have hB3 := hB2.trans (hb3.mono hB2.size)
  clear hb3 hcut hB2
  have hX3 : Below w3.heap.size w3 (w3.alloc (.cells #[.int .u8 0, .slice none 0 0] 39)) := (Below.refl _ _).alloc (Nat.le_refl _) _
  have hx3 := Blk.new w3 39 #[.int .u8 0, .slice none 0 0]
  go_wp2_with fail
  generalize (w3.alloc (.cells #[.int .u8 0, .slice none 0 0] 39)) = v3 at hX3 hx3 ⊢
  have hB4 := hB3.trans (hX3.mono hB3.size)
  refine (hget v3).mono ?_
  rintro e w4 ⟨rfl, hb4⟩
  have hB5 := hB4.trans (hb4.mono hB4.size)
  have hx3' := hx3.below hb4 hx3.lt
  have hs4 := hb4.size
  have hl3 := hx3.lt
  clear hget hB4 hx3 hb4 hB3 hX3
  have hX4 : Below w4.heap.size w4 (w4.alloc (.cells #[.int .u8 0, .slice none 0 0] 39)) := (Below.refl _ _).alloc (Nat.le_refl _) _
  have hx4 := Blk.new w4 39 #[.int .u8 0, .slice none 0 0]
  have hx5 := hx3'.below hX4 hx3'.lt
  go_wp2_with fail
  generalize (w4.alloc (.cells #[.int .u8 0, .slice none 0 0] 39)) = v4 at hX4 hx4 hx5 ⊢
  have hB6 := hB5.trans (hX4.mono hB5.size)
  clear hB5 hX4 hx3'
  refine (frameAll_nil _ v4).mono ?_
  rintro e v5 ⟨rfl, rfl⟩
  go_wp2_with fail
  refine (frameCounts_nil v4).mono ?_
  rintro e v5 ⟨rfl, rfl⟩
  have x0 := hx5.cell 0
  have x1 := hx5.cell 1
  have xl := hx5.lt
  simp only [List.getElem?_toArray, List.getElem?_cons_zero, List.getElem?_cons_succ] at x0 x1
  go_wp2_with fail
  refine (hlk v4).mono ?_
  rintro e v5 ⟨rfl, hb5⟩
  have hB7 := hB6.trans (hb5.mono hB6.size)
  have hx6 := hx4.below hb5 hx4.lt
  have y0 := hx6.cell 0
  have y1 := hx6.cell 1
  have yl := hx6.lt
  simp only [List.getElem?_toArray, List.getElem?_cons_zero, List.getElem?_cons_succ] at y0 y1
  clear x0 x1 xl hb5 hB6 hx4 hx5
  go_wp2_with fail
  refine (hlk v5).mono ?_
  rintro e v6 ⟨rfl, hb6⟩
  have hB8 := hB7.trans (hb6.mono hB7.size)
  clear y0 y1 yl hb6 hB7 hlk hx6
  go_wp2_with fail
  refine (awake03 v6).mono ?_
  rintro e v7 ⟨rfl, hb7⟩
  have hB9 := hB8.trans (hb7.mono hB8.size)
  clear hb7
  go_wp2_with fail
  go_ret
  exact ⟨rfl, hB9⟩
end Go.Proofs.Ytgflgncpjlgeoaa
