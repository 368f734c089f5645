/- Contracts of package sess at nil; the walk of SessNil. -/
import Derived.Test.YtehfddafjemedaaSess3
import Derived.Test.YtehfddafjemedaaFixOut2
namespace Go.Proofs.Ytehfddafjemedaa
open Go.RowKit
set_option linter.unusedSimpArgs false
set_option linter.unusedVariables false

theorem Get_nil (who : Int) (w : World) : Calls Try.prog 13 #[.pointer none, .int .i64 who] w fun e w' => e = .returned (.tuple #[SRow.zero.val, .bool false]) ∧ Below w.heap.size w w' := by
  go_enter Try.func13, Try.ntmps13
  go_wp2_with fail
  exact bodyPost_ret (by simp [results, Try.results13, go_sem, SRow.val, SRow.zero]) rfl ⟨rfl, (Below.refl _ _).alloc (Nat.le_refl _) _⟩
theorem Judge_nil (who num : Int) (w : World) : Calls Try.prog 14 #[.pointer none, .int .i64 who, .int .u64 num] w fun e w' => e = .returned (.int .i64 2) ∧ w = w' := by
  go_enter Try.func14, Try.ntmps14
  go_wp2_with fail
  go_ret
  exact ⟨rfl, rfl⟩
theorem Set_nil (r : SRow) (w : World) : Calls Try.prog 15 #[.pointer none, r.val] w fun e w' => e = .returned (.int .i64 2) ∧ Below w.heap.size w w' := by
  obtain ⟨a, b, c, d, f⟩ := r
  simp only [SRow.val]
  go_enter Try.func15, Try.ntmps15
  go_wp2_with fail
  go_ret
  exact ⟨rfl, (Below.refl _ _).alloc (Nat.le_refl _) _⟩
theorem SPut_nil (v : Value) (w : World) : Calls Try.prog 26 #[.pointer none, v] w fun e w' => e = .returned (.tuple #[]) ∧ w = w' := by
  go_enter Try.func26, Try.ntmps26
  go_wp2_with fail
  first
    | refine bodyPost_end (by simp [results, Try.results26, go_sem]) rfl ⟨rfl, rfl⟩
    | refine bodyPost_ret (results_none rfl _ _ _) rfl ⟨rfl, rfl⟩
set_option maxHeartbeats 1000000 in
theorem All_nil (w : World) : Calls Try.prog 23 #[.pointer none] w fun e w' => e = .returned (.slice none 0 0) ∧ Below w.heap.size w w' := by
  go_enter Try.func23, Try.ntmps23
  go_wp2_with fail
  go_loopw [3, 7] (fun v i wr => ∃ k : Nat, k ≤ 6 ∧ i = .int .i64 (k : Int) ∧ v = .slice none 0 0 ∧ Below w.heap.size w wr) (fun _ i _ => 6 - (intOf i).toNat)
  case atStart => exact ⟨0, by omega, rfl, rfl, Below.refl _ _⟩
  case round =>
    obtain ⟨k, hk, rfl, rfl, hb⟩ := hrel
    have hs := hb.size
    by_cases hlt : k < 6
    · go_wp2_with fail
      refine (Get_nil _ wr).mono ?_
      rintro e w1 ⟨rfl, hb1⟩
      have hs1 := hb1.size
      simp only [SRow.val, SRow.zero]
      go_wp2_with fail
      exact ⟨⟨k + 1, by omega, rfl, rfl, (hb.trans (hb1.mono hs)).alloc (by omega) _⟩, by simp [intOf]; omega⟩
    · go_wp2_with fail
      go_ret
      exact ⟨rfl, hb⟩
theorem Len_nil (w : World) : Calls Try.prog 21 #[.pointer none] w fun e w' => e = .returned (.int .i64 0) ∧ Below w.heap.size w w' := by
  go_enter Try.func21, Try.ntmps21
  go_wp2_with fail
  refine (All_nil w).mono ?_
  rintro e w1 ⟨rfl, hb⟩
  go_wp2_with fail
  go_ret
  exact ⟨rfl, hb⟩

set_option maxRecDepth 100000 in
set_option maxHeartbeats 2000000 in
theorem SessNil_walk (r : SRow) (who num : Int) (w : World) : Calls Try.prog 5 #[r.val, .int .i64 who, .int .u64 num] w fun e w' => e = .returned (.bool true) ∧ Below w.heap.size w w' := by
  have hours := fun W => ours_any r W
  have hset := fun W => Set_nil r W
  obtain ⟨a, b, c, d, f⟩ := r
  simp only [SRow.val] at hours hset ⊢
  have hnew := fun W => fixNew_any 50 W
  simp only [show max (50 : Int) 0 = 50 from rfl] at hnew
  go_enter Try.func5, Try.ntmps5
  go_wp2_with fail
  have hX := Blk.new w 31 #[.int .i64 a, .int .u64 b, .int .u64 c, .int .i64 d, .int .u64 f]
  have hbX : Below w.heap.size w (w.alloc (.cells #[.int .i64 a, .int .u64 b, .int .u64 c, .int .i64 d, .int .u64 f] 31)) := (Below.refl _ _).alloc (Nat.le_refl _) _
  generalize (w.alloc (.cells #[.int .i64 a, .int .u64 b, .int .u64 c, .int .i64 d, .int .u64 f] 31)) = X at hX hbX ⊢
  refine (hnew X).mono ?_
  rintro e w1 ⟨rfl, h1, hb1⟩
  have hX1 := hX.below hb1 hX.lt
  have hB1 := hbX.trans (hb1.mono hbX.size)
  clear hnew hX hb1
  go_wp2_with fail
  refine (SPut_nil _ w1).mono ?_
  rintro e w2 ⟨rfl, rfl⟩
  go_wp2_with fail
  refine (outDone_any _ _ _ _ w1 h1 (by simp)).mono ?_
  rw [show doneB ⟨[], 50, 0⟩ = [] from rfl]
  rintro e w2 ⟨⟨A2, c2, rfl, ho2⟩, hb2⟩
  have hX2 := hX1.below hb2 hX1.lt
  have hB2 := hB1.trans (hb2.mono hB1.size)
  simp only [List.length_nil]
  clear h1 ho2 hX1 hb2
  go_wp2_with fail
  refine (Get_nil _ w2).mono ?_
  rintro e w3 ⟨rfl, hb3⟩
  simp only [SRow.val, SRow.zero]
  have hX3 := hX2.below hb3 hX2.lt
  have hB3 := hB2.trans (hb3.mono hB2.size)
  clear hX2 hb3
  go_wp2_with fail
  have hY := Blk.new w3 28 #[.int .i64 0, .int .u64 0, .int .u64 0, .int .i64 0, .int .u64 0]
  have hX4 := hX3.alloc (.cells #[.int .i64 0, .int .u64 0, .int .u64 0, .int .i64 0, .int .u64 0] 28)
  have hB4 : Below w.heap.size w (w3.alloc (.cells #[.int .i64 0, .int .u64 0, .int .u64 0, .int .i64 0, .int .u64 0] 28)) := hB3.alloc hB3.size _
  generalize (w3.alloc (.cells #[.int .i64 0, .int .u64 0, .int .u64 0, .int .i64 0, .int .u64 0] 28)) = Y at hY hX4 hB4 ⊢
  clear hX3
  have x0 := hX4.cell 0
  have x1 := hX4.cell 1
  have x2 := hX4.cell 2
  have x3 := hX4.cell 3
  have x4 := hX4.cell 4
  have xl := hX4.lt
  simp only [List.getElem?_toArray, List.getElem?_cons_zero, List.getElem?_cons_succ] at x0 x1 x2 x3 x4
  refine (Judge_nil _ _ Y).mono ?_
  rintro e w4 ⟨rfl, rfl⟩
  go_wp2_with fail
  refine (hours Y).mono ?_
  rintro e w4 ⟨rfl, hb4⟩
  have hs4 := hb4.size
  clear x0 x1 x2 x3 x4 xl hours
  go_wp2_with fail
  refine (hset w4).mono ?_
  rintro e w5 ⟨rfl, hb5⟩
  have hY5 := (hY.below hb4 hY.lt).below hb5 (by have := hY.lt; omega)
  have hB5 := (hB4.trans (hb4.mono hB4.size)).trans (hb5.mono (by have := hB4.size; omega))
  have y0 := hY5.cell 0
  have y1 := hY5.cell 1
  have y2 := hY5.cell 2
  have y3 := hY5.cell 3
  have y4 := hY5.cell 4
  have yl := hY5.lt
  simp only [List.getElem?_toArray, List.getElem?_cons_zero, List.getElem?_cons_succ] at y0 y1 y2 y3 y4
  clear hset hb4 hb5
  go_wp2_with fail
  clear y0 y1 y2 y3 y4 yl
  refine (All_nil w5).mono ?_
  rintro e w6 ⟨rfl, hb6⟩
  have hB6 := hB5.trans (hb6.mono hB5.size)
  go_wp2_with fail
  refine (Len_nil w6).mono ?_
  rintro e w7 ⟨rfl, hb7⟩
  have hB7 := hB6.trans (hb7.mono hB6.size)
  go_wp2_with fail
  refine (awake16 w7).mono ?_
  rintro e w8 ⟨rfl, hb8⟩
  have hB8 := hB7.trans (hb8.mono hB7.size)
  go_wp2_with fail
  go_ret
  exact ⟨rfl, hB8⟩
end Go.Proofs.Ytehfddafjemedaa
