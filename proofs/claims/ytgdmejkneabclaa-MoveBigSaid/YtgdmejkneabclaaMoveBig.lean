/- The walk of MoveBig. -/
import Derived.Test.YtgdmejkneabclaaMove8
import Derived.Outline
namespace Go.Proofs.Ytgdmejkneabclaa
open Go.RowKit
set_option linter.unusedSimpArgs false
set_option linter.unusedVariables false

theorem nparts_last (M : Nat) : (nparts M - 1) * 1024 ≤ M ∧ M - (nparts M - 1) * 1024 ≤ 1024 ∧ 1 ≤ nparts M ∧ nparts M ≤ M + 1 ∧ (0 < M → 0 < M - (nparts M - 1) * 1024) := by
  unfold nparts pieces
  omega
theorem part_len (xs : List UInt8) (i : Nat) : (partOf xs i).length = min 1024 (xs.length - 1024 * i) := by simp [partOf]

set_option maxRecDepth 100000 in
set_option maxHeartbeats 2000000 in
theorem MoveBig_walk (N : Nat) (h1 : (N : Int) ≤ 65535) (w : World) : Calls Try.prog 4 #[.int .u16 (N : Int)] w fun e w' => e = .returned (.bool true) ∧ Below w.heap.size w w' := by
  obtain ⟨i0, hi0, hz0, hz1, hz2⟩ := info_parts info_u8
  have hM : (N : Int) % 9000 = ((N % 9000 : Nat) : Int) := by omega
  have hM1 : N % 9000 < 9000 := by omega
  have h0 : 0 ≤ (N : Int) := by omega
  generalize N % 9000 = M at hM hM1
  go_enter Try.func4, Try.ntmps4
  go_wp2_with (refine wpList_make_full _ rfl (.tmp 10) (.tmp 10) _ rfl w.heap.size 5 i0 _ 1 Try.underlying23 hi0 hz0 hz1 .i64 .i64 _ _ M rfl rfl hM hM ?b2 ?b3 ?b4 ?hK)
  case b2 => rw [hz2]; omega
  case b3 => unfold maxLen; omega
  case b4 => omega
  case hK =>
    intro w1 ho1 hg1
    have hb1 : Below w.heap.size w w1 := (Keeps.of_grown hg1).nil_below
    have hz' : (madeCells #[Value.int .u8 0] M).toList = (List.replicate M (0 : UInt8)).map bv := by
      rw [toList_madeCells_one, List.map_replicate]; rfl
    rw [hz'] at ho1
    obtain ⟨X, hX⟩ : ∃ X, List.replicate M (0 : UInt8) = X := ⟨_, rfl⟩
    have hXl : X.length = M := by rw [← hX]; simp
    rw [hX] at ho1
    clear hz' hX
    have hs1 := hb1.size
    obtain ⟨p1, p2, p3, p4, p5⟩ := nparts_last M
    obtain ⟨P, hP⟩ : ∃ P, nparts M = P + 1 := ⟨nparts M - 1, by omega⟩
    simp only [hP, Nat.add_sub_cancel] at p1 p2 p4 p5
    have hM0 := Lib.hid hM
    have hP0 := Lib.hid hP
    have hX0 := Lib.hid hXl
    clear hM hP hXl p3
    go_wp2_with fail
    refine (moveNew_any 1 _ M M X w1 (Rd.of_own ho1) (Nat.le_refl _) (by omega)).mono ?_
    rintro e w2 ⟨rfl, hO, hb2⟩
    have hB2 : Below w.heap.size w w2 := hb1.trans (hb2.mono hs1)
    clear ho1 hg1
    go_wp2_with fail
    refine (outParts_any _ _ 1 X w2 hO (by rw [hX0.out]; omega)).mono ?_
    rintro e w3 ⟨rfl, rfl⟩
    rw [hX0.out, hP0.out]
    have e1 : IntKind.i64.wrap (((P + 1 : Nat) : Int) - 1) = (P : Int) := by rw [IntKind.wrap_i64]; omega
    go_wp2_with fail
    refine (outPart_any _ _ 1 X P w2 hO (by rw [hX0.out]; omega) (by rw [hX0.out, hP0.out]; omega)).mono ?_
    rintro e w3 ⟨⟨A3, c3, rfl, ho3⟩, hb3⟩
    have hO3 := hO.below hb3
    have hB3 : Below w.heap.size w w3 := hB2.trans (hb3.mono hB2.size)
    obtain ⟨L, hL⟩ : ∃ L, L = (partOf X P).length := ⟨_, rfl⟩
    have hLM : L = M - 1024 * P := by rw [hL, part_len, hX0.out]; omega
    rw [← hL]
    clear ho3 hb3 hO hb2 hB2 hb1 hL
    have hl1 : L ≤ 1024 := by omega
    have hl1' : (L : Int) ≤ 1024 := by omega
    have hs : P * 1024 + L = M := by omega
    have e2 : IntKind.i64.wrap ((P : Int) * 1024) = (P : Int) * 1024 := by rw [IntKind.wrap_i64]; omega
    have e3 : IntKind.i64.wrap ((P : Int) * 1024 + (L : Int)) = (M : Int) := by rw [IntKind.wrap_i64]; omega
    have hpos : 0 < M → 0 < L := by omega
    have HS := Lib.hid hs; have HLM := Lib.hid hLM
    clear hs hLM p1 p2 p5
    go_wp2_with fail
    refine (outParts_any _ _ 1 X w3 hO3 (by rw [hX0.out]; omega)).mono ?_
    rintro e w4 ⟨rfl, rfl⟩
    rw [hX0.out, hP0.out]
    by_cases h0 : M = 0
    · have t1 : ((M : Int) == 0) = true := by simp [h0]
      clear hpos
      have H0 := Lib.hid h0
      clear h0
      go_wp2_with fail
      refine (awake21 w3).mono ?_
      rintro e w5 ⟨rfl, hb5⟩
      go_wp2_with fail
      go_ret
      exact ⟨rfl, hB3.trans (hb5.mono hB3.size)⟩
    · have t1 : ((M : Int) == 0) = false := by simp [h0]
      have t2 : (0 : Int) < (L : Int) := by have := hpos (by omega); omega
      clear hpos h0
      go_wp2_with fail
      refine (awake21 w3).mono ?_
      rintro e w5 ⟨rfl, hb5⟩
      go_wp2_with fail
      go_ret
      exact ⟨rfl, hB3.trans (hb5.mono hB3.size)⟩
end Go.Proofs.Ytgdmejkneabclaa
