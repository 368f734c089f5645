/- FixBack: for all inputs the law returns true; the input reads as it did. No condition. -/
import Derived.Test.YtehfddafjemedaaRows
import Derived.Test.YtehfddafjemedaaOpen
import Derived.Test.YtehfddafjemedaaFixBack
namespace Go.Proofs.Ytehfddafjemedaa
open Go.ChangeShapes Go.WideShapes Go.ChangeAt Go.RowKit
set_option linter.unusedVariables false
set_option linter.unusedSimpArgs false

theorem c_u8 : Try.prog.cellsOf 5 = 1 := by kernel_rfl
theorem c_int : Try.prog.cellsOf 3 = 1 := by kernel_rfl
theorem c_u64 : Try.prog.cellsOf 25 = 1 := by kernel_rfl
theorem c_bytes : Try.prog.cellsOf 51 = 1 := by kernel_rfl
theorem c_item : Try.prog.cellsOf 58 = 4 := by kernel_rfl
section
variable {H : Type} {enc : TypeId × Value → H} {w : World} {base : Nat} {spare : Nat → Bool} {held : Bool}
theorem reads_item : ReadsAs enc Try.prog w base spare held 58 [.int .i64, .int .u64, .int .i64, .bytes] := by
  refine readsAs_struct Try.underlying58 (by rw [c_item]; rfl) ?_ ?_
  · intro i f hi
    match i, hi with
    | 0, hi => simp at hi; subst hi; dsimp only; rw [c_int]; exact readsAs_int Try.underlying3
    | 1, hi => simp at hi; subst hi; dsimp only; rw [c_u64]; exact readsAs_int Try.underlying25
    | 2, hi => simp at hi; subst hi; dsimp only; rw [c_int]; exact readsAs_int Try.underlying3
    | 3, hi => simp at hi; subst hi; dsimp only; rw [c_bytes]; exact readsAs_bytes Try.underlying51 Try.underlying5 c_u8
    | (n + 4), hi => simp at hi
  · intro j hj
    match j, hj with
    | 0, _ => exact ⟨0, _, rfl, by simp, by simp [c_int]⟩
    | 1, _ => exact ⟨1, _, rfl, by simp, by simp [c_u64]⟩
    | 2, _ => exact ⟨2, _, rfl, by simp, by simp [c_int]⟩
    | 3, _ => exact ⟨3, _, rfl, by simp, by simp [c_bytes]⟩
    | (n + 4), hj => exact absurd hj (by simp)
end
set_option maxRecDepth 100000 in
theorem open_items {H : Type} {enc : TypeId × Value → H} {w : World} {base b0 : Nat} {spare : Nat → Bool} {held : Bool} {r : Reach} {v : Value} {d : DataW H} {p : List MemPlace}
    (hval : Value.okWide Try.prog w r b0 55 v) (h : DataW.Trod enc Try.prog w base spare held 55 v d p) :
    ∃ A n c l, v = .slice A n c ∧ n ≤ c ∧ ItmsAt w A n l := by
  obtain ⟨A, n, c, rfl, hnc, hcm, _, hc⟩ := open_slc Try.underlying55 (by rw [c_item]; rfl) reads_item hval h
  rcases Nat.eq_zero_or_pos n with h0 | h0
  · subst h0
    exact ⟨A, 0, c, [], rfl, Nat.zero_le _, ⟨rfl, Nat.zero_le _, fun h => absurd h (Nat.lt_irrefl 0), fun q hq => absurd hq (by simp)⟩⟩
  obtain ⟨b, o, rfl, hcell⟩ := hc h0 (by simp)
  have key : ∀ i, i < n → ∃ q : Itm, (q.num < 18446744073709551616 ∧ -9223372036854775808 ≤ q.kind ∧ q.kind ≤ 9223372036854775807 ∧ Rd w q.x.A q.x.bs.length q.x.bs ∧ q.x.bs.length ≤ q.x.c ∧ q.x.c ≤ 9223372036854775807) ∧ ∀ j, j < 4 → w.cell? ⟨b, o + i * 4 + j, none⟩ = q.arr[j]? := by
    intro i hi
    obtain ⟨u0, h0, n0, rfl, l0, g0⟩ := hcell i hi 0 _ rfl
    obtain ⟨u1, h1, n1, rfl, l1, g1⟩ := hcell i hi 1 _ rfl
    obtain ⟨u2, h2, n2, rfl, l2, g2⟩ := hcell i hi 2 _ rfl
    obtain ⟨u3, h3, A3, m3, c3, xs3, rfl, a3, b3, r3, e3⟩ := hcell i hi 3 _ rfl
    have hl3 := r3.1
    subst hl3
    obtain ⟨N1, rfl⟩ : ∃ N : Nat, n1 = (N : Int) := ⟨n1.toNat, by simp [IntKind.min, IntKind.signed] at l1; omega⟩
    refine ⟨⟨n0, N1, n2, ⟨A3, c3, xs3⟩⟩, ?_, fun j hj => ?_⟩
    · refine ⟨?_, ?_, ?_, r3, a3, by unfold maxLen at b3; simp only; omega⟩ <;> (simp [IntKind.min, IntKind.max, IntKind.signed, IntKind.bits] at l0 g0 g1 ⊢; omega)
    have hh : j = 0 ∨ j = 1 ∨ j = 2 ∨ j = 3 := by omega
    rcases hh with rfl | rfl | rfl | rfl <;> assumption
  obtain ⟨l, hl, hr⟩ := list_of noItm key
  refine ⟨_, n, c, l, rfl, hnc, ⟨hl, by unfold maxLen at hcm; omega, fun _ => ⟨b, o, rfl, fun i j hi hj => (hr i hi).2 j hj⟩, fun q hm => ?_⟩⟩
  obtain ⟨i, hi, e⟩ := List.getElem_of_mem hm
  have := (hr i (by omega)).1
  rw [List.getD_eq_getElem?_getD, List.getElem?_eq_getElem hi] at this
  rw [← e]
  exact this

theorem ownFixBack : ownKnob Try.prog.godebug = none := by kernel_rfl
theorem laidOutFixBack : laidOutB Try.prog = true := by kernel_rfl

set_option maxRecDepth 100000 in
theorem FixBack_lifted (os : Os) (started : os.Started) (H : Type) (enc : TypeId × Value → H) :
    ReturnsInHanded {} Try.checked os 8 .any (Rows.fixBackSpec.pre6 enc Try.prog Try.f8 Rows.fixBackRow.domain false) (Rows.fixBackSpec.post enc Try.prog Try.f8 false true false false) := by
  refine returnsInHanded_of_change (C := Try.checked) ownFixBack started (by kernel_rfl) Try.func8
    (ChangeSpec.witness6 (enc := enc) (C := Try.checked) false ⟨#[], #[.slice none 0 0], []⟩ 8 (by kernel_rfl) (by kernel_rfl) (by kernel_rfl) (by kernel_rfl)) ?_
  intro W base args ds gs before hval0 hW hcnd _
  have hval : ∀ (j : Nat) t v, Try.f8.params[j]? = some t → args[j]? = some v → Value.okWide Try.prog W .any base t v := hval0
  have hW' := hW
  obtain ⟨p, q, hA0, hV, rfl, hfz, hnd⟩ := hW
  have hA : DataW.TrodAll enc Try.prog W 0 (fun _ => true) true Try.f8.params.toList args.toList ds p := hA0
  rw [Try.params8] at hA hval
  obtain ⟨v0, vs0, d0, ds0, p0, q0, hargs, rfl, rfl, h0, r0⟩ := trodAll_cons hA
  obtain ⟨rfl, rfl, rfl⟩ := trodAll_nil r0
  obtain rfl : args = #[v0] := by cases args; simp_all
  obtain ⟨rfl, rfl⟩ := trodVars_none hV
  have lt0 : ∀ x ∈ p0, x.block < W.heap.size := by obtain ⟨m, hm⟩ := h0; exact DataW.trod_lt m _ _ _ hm
  have k0 := h0
  obtain ⟨A0, n0, c0, l0, rfl, _, w0⟩ := open_items (hval 0 _ v0 rfl rfl) h0
  clear hA0 hval0
  refine (FixBack_walk A0 n0 c0 l0 W w0).mono fun e W' ⟨he, bel⟩ => ?_
  subst he
  exact ⟨_, rfl, _, _, _, [], _, [], hW', trodAll_mk1 (shut_bool Try.underlying4 _), (trodAll_cons_mk (Below.trod laidOutFixBack (by kernel_rfl) (of_decide_eq_true (by kernel_rfl)) k0 bel lt0) trodAll_mk0), rfl, bel.frame _, fun h => by cases h⟩

theorem fixBack_holds : Rows.FixBackSaid :=
  OpenClaim.holds_of_wide 8 Try.f8 rfl rfl rfl rfl rfl rfl rfl ⟨rfl, rfl, rfl, rfl, rfl⟩ rfl rfl rfl rfl rfl (by kernel_rfl) Try.func8 (by kernel_rfl)
    (of_decide_eq_true (by kernel_rfl)) (by unfold Func.isWrapper; first | (rw [if_pos (by decide +kernel)]; kernel_rfl) | (rw [if_neg (by decide +kernel)]; exact ⟨rfl, rfl⟩))
    (fun os started H enc _ => FixBack_lifted os started H enc)
#print axioms fixBack_holds
end Go.Proofs.Ytehfddafjemedaa
