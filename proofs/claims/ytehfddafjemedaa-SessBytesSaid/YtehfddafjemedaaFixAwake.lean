/- The law's awake (layer 1). -/
import Derived.Test.YtehfddafjemedaaFixIn3
import Derived.Lib.SlBytesConst
namespace Go.Proofs.Ytehfddafjemedaa
open Go.RowKit
set_option linter.unusedSimpArgs false
set_option linter.unusedVariables false

set_option maxRecDepth 100000 in
set_option maxHeartbeats 2000000 in
theorem awake01 (w : World) : Calls Try.prog 29 #[] w fun e w' => e = .returned (.bool true) ∧ Below w.heap.size w w' := by
  go_enter Try.func29, Try.ntmps29
  go_wp2_with fail
  refine (fixNew_any 9 w).mono ?_
  rintro e w1 ⟨rfl, h1, hb1⟩
  have hg1 := h1.blk.lt
  have e1 : putN ⟨[], max 9 0, 0⟩ ((258 : Nat) : Int) 2 = ⟨[1, 2], 9, 0⟩ := by kernel_rfl
  go_wp2_with fail
  refine (outPut_any w.heap.size w.heap.size _ _ 258 2 w1 h1 hb1.size ⟨by decide, by decide, by decide⟩ (by omega)).mono ?_
  rw [e1]
  rintro e w2 ⟨rfl, sl2, h2, hk2, hf2⟩
  have hf2' : ∀ k ∈ sl2.ownBlock, w1.heap.size ≤ k := fun k hk => by
    rcases hf2 with h | h
    · rw [h] at hk; simp [Value.ownBlock] at hk
    · exact h k hk
  have hB2 : Below w.heap.size w w2 := hb1.trans (hk2.below hb1.size fun k hk => by
    rcases List.mem_cons.1 hk with rfl | hk
    · exact Nat.le_refl _
    · simp [Value.ownBlock] at hk)
  have hs2 := hk2.size
  have e2 : boolS ⟨[1, 2], 9, 0⟩ true = ⟨[1, 2, 1], 9, 0⟩ := by kernel_rfl
  clear h1 hk2 hf2 e1
  go_wp2_with fail
  refine (outBool_any w.heap.size w.heap.size _ _ true w2 h2 hB2.size ⟨by decide, by decide, by decide⟩).mono ?_
  rw [e2]
  rintro e w3 ⟨rfl, sl3, h3, hk3, hf3⟩
  have hs3 := hk3.size
  have hf3' : ∀ k ∈ sl3.ownBlock, w1.heap.size ≤ k := fun k hk => by
    rcases hf3 with h | h
    · rw [h] at hk; exact hf2' k hk
    · have := h k hk; omega
  have hB3 : Below w.heap.size w w3 := hB2.trans (hk3.below hB2.size fun k hk => by
    rcases List.mem_cons.1 hk with rfl | hk
    · exact Nat.le_refl _
    · have := hf2' k (by simpa using hk); have := hb1.size; omega)
  have kc := fun (w : World) (C : Array Value) (n c : Nat) => Lib.run_convert_bytes_const (P := Try.prog) w 51 5 C n c Try.underlying51 Try.underlying5
  clear h2 hk3 hf3 e2 hf2' hB2
  go_wp2_with fail
  have hbY : Below w3.heap.size w3 (w3.alloc (.cells #[.int .u8 97] 5 (1, 2))) := (Below.refl _ _).alloc (Nat.le_refl _) _
  have hrY : Rd (w3.alloc (.cells #[.int .u8 97] 5 (1, 2))) (some ⟨w3.heap.size, 0, none⟩) 1 [97] :=
    ⟨rfl, by omega, fun _ => ⟨_, 0, rfl, fun j hj => by
      have : j = 0 := by omega
      subst this
      rw [cell_of_row _ _ _ _ _ _ (heap_alloc_new w3 _)]
      rfl⟩⟩
  generalize (w3.alloc (.cells #[.int .u8 97] 5 (1, 2))) = Y at hbY hrY ⊢
  have hY := h3.below hbY
  have hBY := hB3.trans (hbY.mono hB3.size)
  have e3 : textS ⟨[1, 2, 1], 9, 0⟩ [97] = ⟨[1, 2, 1, 0, 1, 97], 9, 0⟩ := by kernel_rfl
  refine (outText_any w.heap.size w.heap.size _ _ _ 1 1 [97] Y hY hBY.size ⟨by decide, by decide, by decide⟩ hrY (Nat.le_refl _) (by omega)).mono ?_
  rw [e3]
  rintro e w4 ⟨rfl, sl4, h4, hk4, hf4⟩
  have hB4 : Below w.heap.size w w4 := hBY.trans (hk4.below hBY.size fun k hk => by
    rcases List.mem_cons.1 hk with rfl | hk
    · exact Nat.le_refl _
    · have := hf3' k (by simpa using hk); have := hb1.size; omega)
  clear h3 hY hk4 hf4 e3 hf3' hB3 hbY hrY hBY
  go_wp2_with fail
  refine (outDone_any w.heap.size w.heap.size _ _ w4 h4 (by simp)).mono ?_
  have e4 : doneB ⟨[1, 2, 1, 0, 1, 97], 9, 0⟩ = [1, 2, 1, 0, 1, 97] := rfl
  rw [e4]
  rintro e w5 ⟨⟨A5, c5, rfl, ho5⟩, hb5⟩
  have hl5 : ([1, 2, 1, 0, 1, 97] : List UInt8).length = 6 := rfl
  rw [hl5] at ho5 ⊢
  have hB5 := hB4.trans (hb5.mono hB4.size)
  have hr5 := Rd.of_own ho5
  have hcv := conv_bytes (P := Try.prog) 51 5 9 Try.underlying51 Try.underlying5 Try.underlying9 A5 6 c5 [1, 2, 1, 0, 1, 97] w5 hr5
  obtain ⟨_, _, hv5, hc5, _⟩ := own_form ho5
  have hc5' : 6 ≤ c5 := by injection hv5; omega
  clear h4 hb5 hv5 hc5 ho5 e4 hB4
  go_wp2_with fail
  refine (inOf_any A5 6 c5 _ w5 hr5 hc5' (by omega)).mono ?_
  rintro e w6 ⟨⟨g6, rfl, h6⟩, hb6⟩
  have e6 : uptoN ⟨[1, 2, 1, 0, 1, 97], 0⟩ 2 18446744073709551615 = 258 := by decide
  go_wp2_with fail
  refine (inGet_any _ g6 _ 2 w6 h6).mono ?_
  rw [e6]
  rintro e w7 ⟨rfl, h7, hk7⟩
  have hb7 := hk7.below (B := w5.heap.size) hb6.size fun k hk => by rw [show k = g6 by simpa using hk]; exact h6.ge
  clear hcv
  go_wp2_with fail
  go_ret
  exact ⟨ret_bool (by decide), hB5.trans ((hb6.trans hb7).mono hB5.size)⟩
end Go.Proofs.Ytehfddafjemedaa
