/- What the laws of layer 16 are handed: rows. -/
import Derived.Test.YtehfddafjemedaaOpen
import Derived.Test.YtehfddafjemedaaSess3
namespace Go.Proofs.Ytehfddafjemedaa
open Go.ChangeShapes Go.WideShapes Go.ChangeAt Go.RowKit
set_option linter.unusedVariables false
set_option linter.unusedSimpArgs false

theorem c_int : Try.prog.cellsOf 3 = 1 := by kernel_rfl
theorem c_u64 : Try.prog.cellsOf 25 = 1 := by kernel_rfl
theorem c_errno : Try.prog.cellsOf 26 = 1 := by kernel_rfl
theorem c_refrow : Try.prog.cellsOf 31 = 5 := by kernel_rfl

section
variable {H : Type} {enc : TypeId × Value → H} {w : World} {base : Nat} {spare : Nat → Bool} {held : Bool}
theorem reads_refrow : ReadsAs enc Try.prog w base spare held 31 [.int .i64, .int .u64, .int .u64, .int .i64, .int .u64] := by
  refine readsAs_struct Try.underlying31 (by rw [c_refrow]; rfl) ?_ ?_
  · intro i f hi
    match i, hi with
    | 0, hi => simp at hi; subst hi; dsimp only; rw [c_int]; exact readsAs_int Try.underlying3
    | 1, hi => simp at hi; subst hi; dsimp only; rw [c_u64]; exact readsAs_int Try.underlying25
    | 2, hi => simp at hi; subst hi; dsimp only; rw [c_u64]; exact readsAs_int Try.underlying25
    | 3, hi => simp at hi; subst hi; dsimp only; rw [c_errno]; exact readsAs_int Try.underlying26
    | 4, hi => simp at hi; subst hi; dsimp only; rw [c_u64]; exact readsAs_int Try.underlying25
    | (n + 5), hi => simp at hi
  · intro j hj
    match j, hj with
    | 0, _ => exact ⟨0, _, rfl, by simp, by simp [c_int]⟩
    | 1, _ => exact ⟨1, _, rfl, by simp, by simp [c_u64]⟩
    | 2, _ => exact ⟨2, _, rfl, by simp, by simp [c_u64]⟩
    | 3, _ => exact ⟨3, _, rfl, by simp, by simp [c_errno]⟩
    | 4, _ => exact ⟨4, _, rfl, by simp, by simp [c_u64]⟩
    | (n + 5), hj => exact absurd hj (by simp)
end

def SRow.wf (r : SRow) : Prop := -9223372036854775808 ≤ r.cl ∧ r.cl ≤ 9223372036854775807 ∧ 0 ≤ r.num ∧ r.num ≤ 18446744073709551615 ∧ 0 ≤ r.seq ∧ r.seq ≤ 18446744073709551615 ∧
  -9223372036854775808 ≤ r.code ∧ r.code ≤ 9223372036854775807 ∧ 0 ≤ r.ver ∧ r.ver ≤ 18446744073709551615

set_option maxRecDepth 100000 in
theorem open_rows {H : Type} {enc : TypeId × Value → H} {w : World} {base b0 : Nat} {spare : Nat → Bool} {held : Bool} {r : Reach} {v : Value} {d : DataW H} {p : List MemPlace}
    (hval : Value.okWide Try.prog w r b0 22 v) (h : DataW.Trod enc Try.prog w base spare held 22 v d p) :
    ∃ A n c rows, v = .slice A n c ∧ RowsAt w A n rows ∧ (∀ r ∈ rows, SRow.wf r) ∧ n ≤ c := by
  obtain ⟨A, n, c, rfl, hnc, hcm, _, hc⟩ := open_slc Try.underlying22 (by rw [c_refrow]; rfl) reads_refrow hval h
  rcases Nat.eq_zero_or_pos n with h0 | h0
  · subst h0
    exact ⟨A, 0, c, [], rfl, ⟨rfl, Nat.zero_le _, fun h => absurd h (Nat.lt_irrefl 0)⟩, (fun r hr => absurd hr (by simp)), Nat.zero_le _⟩
  obtain ⟨b, o, rfl, hcell⟩ := hc h0 (by simp)
  have key : ∀ i, i < n → ∃ r : SRow, SRow.wf r ∧ ∀ j, j < 5 → w.cell? ⟨b, o + i * 5 + j, none⟩ = some (r.cell j) := by
    intro i hi
    obtain ⟨u0, h0, n0, rfl, l0, g0⟩ := hcell i hi 0 _ rfl
    obtain ⟨u1, h1, n1, rfl, l1, g1⟩ := hcell i hi 1 _ rfl
    obtain ⟨u2, h2, n2, rfl, l2, g2⟩ := hcell i hi 2 _ rfl
    obtain ⟨u3, h3, n3, rfl, l3, g3⟩ := hcell i hi 3 _ rfl
    obtain ⟨u4, h4, n4, rfl, l4, g4⟩ := hcell i hi 4 _ rfl
    refine ⟨⟨n0, n1, n2, n3, n4⟩, ⟨l0, g0, l1, g1, l2, g2, l3, g3, l4, g4⟩, fun j hj => ?_⟩
    have h5 : j = 0 ∨ j = 1 ∨ j = 2 ∨ j = 3 ∨ j = 4 := by omega
    rcases h5 with rfl | rfl | rfl | rfl | rfl <;> assumption
  obtain ⟨rows, hl, hr⟩ := list_of SRow.zero key
  refine ⟨_, n, c, rows, rfl, ⟨hl, by unfold maxLen at hcm; omega, fun _ => ⟨b, o, rfl, fun i j hi hj => (hr i hi).2 j hj⟩⟩, fun r hm => ?_, hnc⟩
  obtain ⟨i, hi, e⟩ := List.getElem_of_mem hm
  have := (hr i (by omega)).1
  rw [List.getD_eq_getElem?_getD, List.getElem?_eq_getElem hi] at this
  rw [← e]
  exact this

set_option maxRecDepth 100000 in
/-- A row by value. -/
theorem open_row {H : Type} {enc : TypeId × Value → H} {w : World} {base b0 : Nat} {spare : Nat → Bool} {held : Bool} {r : Reach} {v : Value} {d : DataW H} {p : List MemPlace}
    (hval : Value.okWide Try.prog w r b0 31 v) (h : DataW.Trod enc Try.prog w base spare held 31 v d p) : ∃ r : SRow, v = r.val ∧ SRow.wf r := by
  obtain ⟨cs, rfl, hsz⟩ := okWide_struct Try.underlying31 hval
  obtain ⟨_, h2⟩ := open_val reads_refrow h
  obtain ⟨u0, h0, n0, rfl, l0, g0⟩ := h2 0 _ rfl
  obtain ⟨u1, h1, n1, rfl, l1, g1⟩ := h2 1 _ rfl
  obtain ⟨u2, h2', n2, rfl, l2, g2⟩ := h2 2 _ rfl
  obtain ⟨u3, h3, n3, rfl, l3, g3⟩ := h2 3 _ rfl
  obtain ⟨u4, h4, n4, rfl, l4, g4⟩ := h2 4 _ rfl
  refine ⟨⟨n0, n1, n2, n3, n4⟩, ?_, ⟨l0, g0, l1, g1, l2, g2, l3, g3, l4, g4⟩⟩
  rw [c_refrow] at hsz
  simp only [Value.cells] at h0 h1 h2' h3 h4
  unfold SRow.val
  congr 1
  apply Array.ext'
  apply List.ext_getElem?
  intro i
  have hi : i = 0 ∨ i = 1 ∨ i = 2 ∨ i = 3 ∨ i = 4 ∨ 5 ≤ i := by omega
  rcases hi with rfl | rfl | rfl | rfl | rfl | hi
  · exact h0
  · exact h1
  · exact h2'
  · exact h3
  · exact h4
  · rw [List.getElem?_eq_none (by simp; omega), List.getElem?_eq_none (by simp; omega)]
end Go.Proofs.Ytehfddafjemedaa
