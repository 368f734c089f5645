/- CrcParts: for all inputs the law returns true; the input reads as it did. No condition. -/
import Derived.Test.YtihokijndmigoaaRows
import Derived.Test.YtihokijndmigoaaOpen
import Derived.Test.YtihokijndmigoaaCrcParts
namespace Go.Proofs.Ytihokijndmigoaa
open Go.ChangeShapes Go.WideShapes Go.ChangeAt Go.RowKit
set_option linter.unusedVariables false
set_option linter.unusedSimpArgs false

theorem c_u8 : Try.prog.cellsOf 5 = 1 := by kernel_rfl
theorem c_bytes : Try.prog.cellsOf 25 = 1 := by kernel_rfl
set_option maxRecDepth 100000 in
theorem open_parts2 {H : Type} {enc : TypeId × Value → H} {w : World} {base b0 : Nat} {spare : Nat → Bool} {held : Bool} {r : Reach} {v : Value} {d : DataW H} {p : List MemPlace}
    (hval : Value.okWide Try.prog w r b0 22 v) (h : DataW.Trod enc Try.prog w base spare held 22 v d p) :
    ∃ A n c l, v = .slice A n c ∧ PartsAt w A n l := by
  obtain ⟨A, n, c, rfl, hnc, hcm, _, hc⟩ := open_slc (ks := [.bytes]) Try.underlying22 (by rw [c_bytes]; rfl) (readsAs_bytes Try.underlying25 Try.underlying5 c_u8) hval h
  rcases Nat.eq_zero_or_pos n with h0 | h0
  · subst h0
    exact ⟨A, 0, c, [], rfl, ⟨rfl, Nat.zero_le _, fun h => absurd h (Nat.lt_irrefl 0), fun x hx => absurd hx (by simp)⟩⟩
  obtain ⟨b, o, rfl, hcell⟩ := hc h0 (by simp)
  have key : ∀ i, i < n → ∃ x : PC, w.cell? ⟨b, o + i, none⟩ = some x.val ∧ Rd w x.A x.bs.length x.bs ∧ x.bs.length ≤ x.c := by
    intro i hi
    obtain ⟨u, hu, A', n', c', xs, rfl, h1, h2, h3, h4⟩ := hcell i hi 0 _ rfl
    have hl := h3.1
    subst hl
    exact ⟨⟨A', c', xs⟩, by simpa [PC.val] using hu, h3, h1⟩
  obtain ⟨l, hl, hr⟩ := list_of noPC key
  refine ⟨_, n, c, l, rfl, ⟨hl, by unfold maxLen at hcm; omega, fun _ => ⟨b, o, rfl, fun k hk => (hr k hk).1⟩, fun x hx => ?_⟩⟩
  obtain ⟨i, hi, e⟩ := List.getElem_of_mem hx
  have := (hr i (by omega)).2
  rw [List.getD_eq_getElem?_getD, List.getElem?_eq_getElem hi] at this
  rw [← e]
  exact this

theorem ownCrcParts : ownKnob Try.prog.godebug = none := by kernel_rfl
theorem laidOutCrcParts : laidOutB Try.prog = true := by kernel_rfl

set_option maxRecDepth 100000 in
theorem CrcParts_lifted (os : Os) (started : os.Started) (H : Type) (enc : TypeId × Value → H) :
    ReturnsInHanded {} Try.checked os 3 .any (Rows.crcPartsSpec.pre6 enc Try.prog Try.f3 Rows.crcPartsRow.domain false) (Rows.crcPartsSpec.post enc Try.prog Try.f3 false true false false) := by
  refine returnsInHanded_of_change (C := Try.checked) ownCrcParts started (by kernel_rfl) Try.func3
    (ChangeSpec.witness6 (enc := enc) (C := Try.checked) false ⟨#[], #[.slice none 0 0], []⟩ 8 (by kernel_rfl) (by kernel_rfl) (by kernel_rfl) (by kernel_rfl)) ?_
  intro W base args ds gs before hval0 hW hcnd _
  have hval : ∀ (j : Nat) t v, Try.f3.params[j]? = some t → args[j]? = some v → Value.okWide Try.prog W .any base t v := hval0
  have hW' := hW
  obtain ⟨p, q, hA0, hV, rfl, hfz, hnd⟩ := hW
  have hA : DataW.TrodAll enc Try.prog W 0 (fun _ => true) true Try.f3.params.toList args.toList ds p := hA0
  rw [Try.params3] at hA hval
  obtain ⟨v0, vs0, d0, ds0, p0, q0, hargs, rfl, rfl, h0, r0⟩ := trodAll_cons hA
  obtain ⟨rfl, rfl, rfl⟩ := trodAll_nil r0
  obtain rfl : args = #[v0] := by cases args; simp_all
  obtain ⟨rfl, rfl⟩ := trodVars_none hV
  have lt0 : ∀ x ∈ p0, x.block < W.heap.size := by obtain ⟨m, hm⟩ := h0; exact DataW.trod_lt m _ _ _ hm
  have k0 := h0
  obtain ⟨A0, n0, c0, l0, rfl, w0⟩ := open_parts2 (hval 0 _ v0 rfl rfl) h0
  clear hA0 hval0
  refine (CrcParts_walk A0 n0 c0 l0 W w0).mono fun e W' ⟨he, bel⟩ => ?_
  subst he
  exact ⟨_, rfl, _, _, _, [], _, [], hW', trodAll_mk1 (shut_bool Try.underlying4 _), (trodAll_cons_mk (Below.trod laidOutCrcParts (by kernel_rfl) (of_decide_eq_true (by kernel_rfl)) k0 bel lt0) trodAll_mk0), rfl, bel.frame _, fun h => by cases h⟩

theorem crcParts_holds : Rows.CrcPartsSaid :=
  OpenClaim.holds_of_wide 3 Try.f3 rfl rfl rfl rfl rfl rfl rfl ⟨rfl, rfl, rfl, rfl, rfl⟩ rfl rfl rfl rfl rfl (by kernel_rfl) Try.func3 (by kernel_rfl)
    (of_decide_eq_true (by kernel_rfl)) (by unfold Func.isWrapper; first | (rw [if_pos (by decide +kernel)]; kernel_rfl) | (rw [if_neg (by decide +kernel)]; exact ⟨rfl, rfl⟩))
    (fun os started H enc _ => CrcParts_lifted os started H enc)
#print axioms crcParts_holds
end Go.Proofs.Ytihokijndmigoaa
