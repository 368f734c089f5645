/- SessRises: for every list of rows the law returns true; the rows read as they did. No condition. -/
import Derived.Test.YtehfddafjemedaaRows
import Derived.Test.YtehfddafjemedaaOpen
import Derived.Test.YtehfddafjemedaaSess3
namespace Go.Proofs.Ytehfddafjemedaa
open Go.ChangeShapes Go.WideShapes Go.ChangeAt Go.RowKit
set_option linter.unusedVariables false
set_option linter.unusedSimpArgs false

theorem c_int : Try.prog.cellsOf 3 = 1 := by kernel_rfl
theorem c_u64 : Try.prog.cellsOf 25 = 1 := by kernel_rfl
theorem c_errno : Try.prog.cellsOf 26 = 1 := by kernel_rfl
theorem c_refrow : Try.prog.cellsOf 31 = 5 := by kernel_rfl

section
variable {H : Type} {enc : TypeId × Value → H} {w : World} {base : Nat} {spare : Nat → Bool} {held : Bool}
theorem reads_refrow : ReadsAs enc Try.prog w base spare held 31 [.int .i64, .int .u64, .int .u64, .int .i64, .int .u64] := by
  refine readsAs_struct Try.underlying31 (by rw [c_refrow]; rfl) ?_ ?_
  · intro i f hi
    match i, hi with
    | 0, hi => simp at hi; subst hi; dsimp only; rw [c_int]; exact readsAs_int Try.underlying3
    | 1, hi => simp at hi; subst hi; dsimp only; rw [c_u64]; exact readsAs_int Try.underlying25
    | 2, hi => simp at hi; subst hi; dsimp only; rw [c_u64]; exact readsAs_int Try.underlying25
    | 3, hi => simp at hi; subst hi; dsimp only; rw [c_errno]; exact readsAs_int Try.underlying26
    | 4, hi => simp at hi; subst hi; dsimp only; rw [c_u64]; exact readsAs_int Try.underlying25
    | (n + 5), hi => simp at hi
  · intro j hj
    match j, hj with
    | 0, _ => exact ⟨0, _, rfl, by simp, by simp [c_int]⟩
    | 1, _ => exact ⟨1, _, rfl, by simp, by simp [c_u64]⟩
    | 2, _ => exact ⟨2, _, rfl, by simp, by simp [c_u64]⟩
    | 3, _ => exact ⟨3, _, rfl, by simp, by simp [c_errno]⟩
    | 4, _ => exact ⟨4, _, rfl, by simp, by simp [c_u64]⟩
    | (n + 5), hj => exact absurd hj (by simp)
end

def SRow.wf (r : SRow) : Prop := -9223372036854775808 ≤ r.cl ∧ r.cl ≤ 9223372036854775807 ∧ 0 ≤ r.num ∧ r.num ≤ 18446744073709551615 ∧ 0 ≤ r.seq ∧ r.seq ≤ 18446744073709551615 ∧
  -9223372036854775808 ≤ r.code ∧ r.code ≤ 9223372036854775807 ∧ 0 ≤ r.ver ∧ r.ver ≤ 18446744073709551615

set_option maxRecDepth 100000 in
theorem open_rows {H : Type} {enc : TypeId × Value → H} {w : World} {base b0 : Nat} {spare : Nat → Bool} {held : Bool} {r : Reach} {v : Value} {d : DataW H} {p : List MemPlace}
    (hval : Value.okWide Try.prog w r b0 22 v) (h : DataW.Trod enc Try.prog w base spare held 22 v d p) :
    ∃ A n c rows, v = .slice A n c ∧ RowsAt w A n rows ∧ (∀ r ∈ rows, SRow.wf r) ∧ n ≤ c := by
  obtain ⟨A, n, c, rfl, hnc, hcm, _, hc⟩ := open_slc Try.underlying22 (by rw [c_refrow]; rfl) reads_refrow hval h
  rcases Nat.eq_zero_or_pos n with h0 | h0
  · subst h0
    exact ⟨A, 0, c, [], rfl, ⟨rfl, Nat.zero_le _, fun h => absurd h (Nat.lt_irrefl 0)⟩, (fun r hr => absurd hr (by simp)), Nat.zero_le _⟩
  obtain ⟨b, o, rfl, hcell⟩ := hc h0 (by simp)
  have key : ∀ i, i < n → ∃ r : SRow, SRow.wf r ∧ ∀ j, j < 5 → w.cell? ⟨b, o + i * 5 + j, none⟩ = some (r.cell j) := by
    intro i hi
    obtain ⟨u0, h0, n0, rfl, l0, g0⟩ := hcell i hi 0 _ rfl
    obtain ⟨u1, h1, n1, rfl, l1, g1⟩ := hcell i hi 1 _ rfl
    obtain ⟨u2, h2, n2, rfl, l2, g2⟩ := hcell i hi 2 _ rfl
    obtain ⟨u3, h3, n3, rfl, l3, g3⟩ := hcell i hi 3 _ rfl
    obtain ⟨u4, h4, n4, rfl, l4, g4⟩ := hcell i hi 4 _ rfl
    refine ⟨⟨n0, n1, n2, n3, n4⟩, ⟨l0, g0, l1, g1, l2, g2, l3, g3, l4, g4⟩, fun j hj => ?_⟩
    have h5 : j = 0 ∨ j = 1 ∨ j = 2 ∨ j = 3 ∨ j = 4 := by omega
    rcases h5 with rfl | rfl | rfl | rfl | rfl <;> assumption
  obtain ⟨rows, hl, hr⟩ := list_of SRow.zero key
  refine ⟨_, n, c, rows, rfl, ⟨hl, by unfold maxLen at hcm; omega, fun _ => ⟨b, o, rfl, fun i j hi hj => (hr i hi).2 j hj⟩⟩, fun r hm => ?_, hnc⟩
  obtain ⟨i, hi, e⟩ := List.getElem_of_mem hm
  have := (hr i (by omega)).1
  rw [List.getD_eq_getElem?_getD, List.getElem?_eq_getElem hi] at this
  rw [← e]
  exact this

theorem own : ownKnob Try.prog.godebug = none := by kernel_rfl
theorem laidOut : laidOutB Try.prog = true := by kernel_rfl

set_option maxRecDepth 100000 in
theorem SessRises_lifted (os : Os) (started : os.Started) (H : Type) (enc : TypeId × Value → H) :
    ReturnsInHanded {} Try.checked os 3 .any (Rows.sessRisesSpec.pre6 enc Try.prog Try.f3 Rows.sessRisesRow.domain false) (Rows.sessRisesSpec.post enc Try.prog Try.f3 false true false false) := by
  refine returnsInHanded_of_change (C := Try.checked) own started (by kernel_rfl) Try.func3
    (ChangeSpec.witness6 (enc := enc) (C := Try.checked) false ⟨#[], #[.slice none 0 0], []⟩ 8 (by kernel_rfl) (by kernel_rfl) (by kernel_rfl) (by kernel_rfl)) ?_
  intro W base args ds gs before hval0 hW hcnd _
  have hval : ∀ (j : Nat) t v, Try.f3.params[j]? = some t → args[j]? = some v → Value.okWide Try.prog W .any base t v := hval0
  have hW' := hW
  obtain ⟨p, q, hA0, hV, rfl, hfz, hnd⟩ := hW
  have hA : DataW.TrodAll enc Try.prog W 0 (fun _ => true) true Try.f3.params.toList args.toList ds p := hA0
  rw [Try.params3] at hA hval
  obtain ⟨v0, vs0, d0, ds0, p0, q0, hargs, rfl, rfl, h0, r0⟩ := trodAll_cons hA
  obtain ⟨rfl, rfl, rfl⟩ := trodAll_nil r0
  obtain rfl : args = #[v0] := by cases args; simp_all
  obtain ⟨rfl, rfl⟩ := trodVars_none hV
  have k0 := h0
  have lt0 : ∀ x ∈ p0, x.block < W.heap.size := by obtain ⟨m, hm⟩ := k0; exact DataW.trod_lt m _ _ _ hm
  obtain ⟨A0, n0, c0, rows0, rfl, w0, wf0, _⟩ := open_rows (hval 0 _ v0 rfl rfl) h0
  clear hA0 hval0
  refine (SessRises_walk A0 n0 c0 rows0 W w0).mono fun e W' ⟨he, bel⟩ => ?_
  subst he
  exact ⟨_, rfl, _, _, _, [], _, [], hW', trodAll_mk1 (shut_bool Try.underlying4 _), (trodAll_cons_mk (Below.trod laidOut (by kernel_rfl) (of_decide_eq_true (by kernel_rfl)) k0 bel lt0) trodAll_mk0), rfl, bel.frame _, fun h => by cases h⟩

theorem sessRises_holds : Rows.SessRisesSaid :=
  OpenClaim.holds_of_wide 3 Try.f3 rfl rfl rfl rfl rfl rfl rfl ⟨rfl, rfl, rfl, rfl, rfl⟩ rfl rfl rfl rfl rfl (by kernel_rfl) Try.func3 (by kernel_rfl)
    (of_decide_eq_true (by kernel_rfl)) (by unfold Func.isWrapper; first | (rw [if_pos (by decide +kernel)]; kernel_rfl) | (rw [if_neg (by decide +kernel)]; exact ⟨rfl, rfl⟩))
    (fun os started H enc _ => SessRises_lifted os started H enc)
#print axioms sessRises_holds
end Go.Proofs.Ytehfddafjemedaa
