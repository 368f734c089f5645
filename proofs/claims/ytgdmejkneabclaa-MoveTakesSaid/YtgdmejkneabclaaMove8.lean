/- The law's awake (layer 21). -/
import Derived.Test.YtgdmejkneabclaaMove7
import Derived.Lib.SlBytesConst
import Derived.Outline
namespace Go.Proofs.Ytgdmejkneabclaa
open Go.RowKit
set_option linter.unusedSimpArgs false
set_option linter.unusedVariables false

theorem cell?_alloc_frozen (W : World) (u : UInt8) : (W.alloc (.cells #[.int .u8 (u.toNat : Int)] 5 (1, 2))).cell? ⟨W.heap.size, 0 + 0, none⟩ = some (.int .u8 ((([u] : List UInt8).getD 0 0).toNat : Int)) := by
  rw [cell_of_row _ _ _ _ _ _ (heap_alloc_new W _)]
  rfl

set_option maxRecDepth 100000 in
set_option maxHeartbeats 2000000 in
theorem awake21 (w : World) : Calls Try.prog 11 #[] w fun e w' => e = .returned (.bool true) ∧ Below w.heap.size w w' := by
  obtain ⟨i0, hi0, hz0, hz1, hz2⟩ := info_parts info_u8
  go_enter Try.func11, Try.ntmps11
  go_wp2_with (refine wpList_make_full _ rfl (.const (.int .i64 2050)) (.const (.int .i64 2050)) _ rfl w.heap.size 5 i0 _ 1 Try.underlying23 hi0 hz0 hz1 .i64 .i64 _ _ 2050 rfl rfl rfl rfl ?b2 ?b3 ?b4 ?hK)
  case b2 => rw [hz2]; omega
  case b3 => unfold maxLen; omega
  case b4 => omega
  case hK =>
    intro w1 ho1 hg1
    have hb1 : Below w.heap.size w w1 := (Keeps.of_grown hg1).nil_below
    have hz : (madeCells (Value.int .u8 0).cells (2050 * 1)).toList = (List.replicate 2050 (0 : UInt8)).map bv := by
      rw [show (Value.int .u8 0).cells = #[.int .u8 0] from rfl, Nat.mul_one, toList_madeCells_one, List.map_replicate]; rfl
    have hz' : (madeCells #[Value.int .u8 0] 2050).toList = (List.replicate 2050 (0 : UInt8)).map bv := by rw [toList_madeCells_one, List.map_replicate]; rfl
    rw [hz'] at ho1
    obtain ⟨X, hX⟩ : ∃ X, List.replicate 2050 (0 : UInt8) = X := ⟨_, rfl⟩
    have hXl : X.length = 2050 := by rw [← hX]; simp
    rw [hX] at ho1
    clear hz hz' hX
    have hs1 := hb1.size
    go_wp2_with fail
    refine (moveNew_any 7 _ 2050 2050 X w1 (Rd.of_own ho1) (Nat.le_refl _) (by omega)).mono ?_
    rintro e w2 ⟨rfl, hO, hb2⟩
    have hn : nparts X.length = 3 := by rw [hXl]; decide
    have hB2 : Below w.heap.size w w2 := hb1.trans (hb2.mono hs1)
    go_wp2_with fail
    refine (outPart_any _ _ 7 X 2 w2 hO (by omega) (by omega)).mono ?_
    rintro e w3 ⟨⟨A3, c3, rfl, ho3⟩, hb3⟩
    have hO3 := hO.below hb3
    have hpl : (partOf X 2).length = 2 := by unfold partOf; simp [hXl]
    rw [hpl]
    have hB3 : Below w.heap.size w w3 := hB2.trans (hb3.mono hB2.size)
    clear ho3
    go_wp2_with fail
    refine (inBegin_any w3).mono ?_
    rintro e w4 ⟨rfl, hI4, hb4, hs4⟩
    have hO4 := hO3.below hb4
    have hB4 : Below w.heap.size w w4 := hB3.trans (hb4.mono hB3.size)
    have kc := fun (w : World) (C : Array Value) (n c : Nat) => Lib.run_convert_bytes_const (P := Try.prog) w 23 5 C n c Try.underlying23 Try.underlying5
    have HS4 := Lib.hid hs4
    clear hs4
    go_wp2_with fail
    have one : ∀ (W : World) (u : UInt8), Rd (W.alloc (.cells #[.int .u8 (u.toNat : Int)] 5 (1, 2))) (some ⟨W.heap.size, 0, none⟩) 1 [u] := fun W u =>
      ⟨rfl, by omega, fun _ => ⟨_, 0, rfl, fun j hj => by
        have : j = 0 := by omega
        subst this
        exact (cell?_alloc_frozen W u)⟩⟩
    have hbY : Below w4.heap.size w4 (w4.alloc (.cells #[.int .u8 97] 5 (1, 2))) := (Below.refl _ _).alloc (Nat.le_refl _) _
    have hrY := one w4 97
    have hsY : (w4.alloc (.cells #[.int .u8 97] 5 (1, 2))).heap.size = w4.heap.size + 1 := by simp
    have hrY' : Rd (w4.alloc (.cells #[.int .u8 97] 5 (1, 2))) (some ⟨w4.heap.size, 0, none⟩) 1 [97] := hrY
    generalize (w4.alloc (.cells #[.int .u8 97] 5 (1, 2))) = Y at hbY hsY hrY' ⊢
    have hIY := hI4.below hbY
    have hOY := hO4.below hbY
    have hBY : Below w.heap.size w Y := hB4.trans (hbY.mono hB4.size)
    have hg4 := hI4.blk.lt
    refine (Take_fresh _ _ _ _ 7 2 _ 1 1 [97] Y hIY (by have := HS4.out; omega) hrY' (Nat.le_refl _) ?_ (by unfold takeBad; simp [InS.new]) (by unfold takeNew; simp [InS.new])).mono ?_
    · intro _ ad e
      injection e with e
      subst e
      show w4.heap.size ≠ w3.heap.size
      omega
    rintro e w5 ⟨hT, hk5⟩
    rcases hT with ⟨_, rfl, sl5, hI5, hf5⟩ | ⟨hno, _⟩
    rotate_left
    · exact absurd (by simp [InS.new]) hno
    have hs5 := hk5.size
    have hB35 : Below w3.heap.size w3 w5 := (hb4.trans (hbY.mono (by have := HS4.out; omega))).trans (hk5.below (by have := HS4.out; omega) (by simp))
    have hO5 := hO3.below hB35
    have hB5 : Below w.heap.size w w5 := hB3.trans (hB35.mono hB3.size)
    clear hO4 hOY hb4 hbY hB4 hBY hIY hrY hrY' hI4
    go_wp2_with fail
    have hbZ : Below w5.heap.size w5 (w5.alloc (.cells #[.int .u8 98] 5 (1, 2))) := (Below.refl _ _).alloc (Nat.le_refl _) _
    have hrZ : Rd (w5.alloc (.cells #[.int .u8 98] 5 (1, 2))) (some ⟨w5.heap.size, 0, none⟩) 1 [98] := one w5 98
    have hsZ : (w5.alloc (.cells #[.int .u8 98] 5 (1, 2))).heap.size = w5.heap.size + 1 := by simp
    generalize (w5.alloc (.cells #[.int .u8 98] 5 (1, 2))) = Z at hbZ hsZ hrZ ⊢
    have hIZ := hI5.below hbZ
    have hg5 := hI5.blk.lt
    have hs4 := HS4.out
    refine (Take_old _ _ _ _ 7 1 2 _ 1 1 [98] Z hIZ (by omega) (by simp [InS.new]) hrZ (Nat.le_refl _) ?_ (by unfold takeBad; simp [InS.new]) (by unfold takeNew; simp [InS.new]) (by simp [InS.new])).mono ?_
    · intro _ ad e
      injection e with e
      subst e
      show w5.heap.size ≠ w3.heap.size
      omega
    rintro e w6 ⟨hT, hk6⟩
    rcases hT with ⟨hno, _⟩ | ⟨_, A6, c6, rfl, ho6, _, _⟩
    · exact absurd hno (by simp [InS.new])
    have hB36 : Below w3.heap.size w3 w6 := (hB35.trans (hbZ.mono (by omega))).trans (hk6.below (by omega) fun k hk => by
      rcases List.mem_cons.1 hk with rfl | hk
      · exact Nat.le_refl _
      · rcases hf5 with h | h
        · rw [h] at hk; simp at hk
        · have := h k (by simpa using hk); omega)
    have hO6 := hO3.below hB36
    have hB6 : Below w.heap.size w w6 := hB3.trans (hB36.mono hB3.size)
    have hrd6 : Rd w6 (some ⟨0, 0, none⟩) 0 [] := Rd.nil _ _
    have hl6 : ((InS.new 7).b ++ [97] ++ [98]).length = 2 := rfl
    simp only [hl6] at ho6 ⊢
    clear hO hO3 hO5 hI5 hIZ hk5 hk6 hbZ hrZ hf5 hB35 hB36 hB5 hB3 hB2 hb3 hb2 hb1 hrd6 hpl
    go_wp2_with fail
    refine (outParts_any _ _ 7 X w6 hO6 (by omega)).mono ?_
    rintro e w7 ⟨rfl, rfl⟩
    rw [hn]
    go_wp2_with fail
    refine (outAt_any _ _ 7 X w6 hO6).mono ?_
    rintro e w7 ⟨rfl, rfl⟩
    have hcv := conv_bytes (P := Try.prog) 23 5 9 Try.underlying23 Try.underlying5 Try.underlying9 A6 2 c6 [97, 98] w6 (Rd.of_own ho6)
    go_wp2_with fail
    go_ret
    exact ⟨ret_bool (by decide), hB6⟩
end Go.Proofs.Ytgdmejkneabclaa
