/- CrcOnce: for all inputs the law returns true; the input reads as it did. No condition. -/
import Derived.Test.YtihokijndmigoaaRows
import Derived.Test.YtihokijndmigoaaOpen
import Derived.Test.YtihokijndmigoaaCrcOnce
namespace Go.Proofs.Ytihokijndmigoaa
open Go.ChangeShapes Go.WideShapes Go.ChangeAt Go.RowKit
set_option linter.unusedVariables false
set_option linter.unusedSimpArgs false

theorem c_u8 : Try.prog.cellsOf 5 = 1 := by kernel_rfl
theorem c_int : Try.prog.cellsOf 3 = 1 := by kernel_rfl
set_option maxRecDepth 100000 in
theorem open_ints64 {H : Type} {enc : TypeId × Value → H} {w : World} {base b0 : Nat} {spare : Nat → Bool} {held : Bool} {r : Reach} {v : Value} {d : DataW H} {p : List MemPlace}
    (hval : Value.okWide Try.prog w r b0 35 v) (h : DataW.Trod enc Try.prog w base spare held 35 v d p) :
    ∃ A n c l, v = .slice A n c ∧ n ≤ c ∧ IntsAt w A n l := by
  obtain ⟨A, n, c, rfl, hnc, hcm, _, hc⟩ := open_slc (ks := [.int .i64]) Try.underlying35 (by rw [c_int]; rfl) (readsAs_int Try.underlying3) hval h
  rcases Nat.eq_zero_or_pos n with h0 | h0
  · subst h0
    exact ⟨A, 0, c, [], rfl, Nat.zero_le _, ⟨rfl, Nat.zero_le _, fun h => absurd h (Nat.lt_irrefl 0)⟩⟩
  obtain ⟨b, o, rfl, hcell⟩ := hc h0 (by simp)
  have key : ∀ i, i < n → ∃ q : Int, w.cell? ⟨b, o + i, none⟩ = some (.int .i64 q) := by
    intro i hi
    obtain ⟨u, hu, q, rfl, _⟩ := hcell i hi 0 _ rfl
    exact ⟨q, by simpa using hu⟩
  obtain ⟨l, hl, hr⟩ := list_of 0 key
  exact ⟨_, n, c, l, rfl, hnc, ⟨hl, by unfold maxLen at hcm; omega, fun _ => ⟨b, o, rfl, hr⟩⟩⟩

theorem ownCrcOnce : ownKnob Try.prog.godebug = none := by kernel_rfl
theorem laidOutCrcOnce : laidOutB Try.prog = true := by kernel_rfl

set_option maxRecDepth 100000 in
theorem CrcOnce_lifted (os : Os) (started : os.Started) (H : Type) (enc : TypeId × Value → H) :
    ReturnsInHanded {} Try.checked os 5 .any (Rows.crcOnceSpec.pre6 enc Try.prog Try.f5 Rows.crcOnceRow.domain false) (Rows.crcOnceSpec.post enc Try.prog Try.f5 false true false false) := by
  refine returnsInHanded_of_change (C := Try.checked) ownCrcOnce started (by kernel_rfl) Try.func5
    (ChangeSpec.witness6 (enc := enc) (C := Try.checked) false ⟨#[], #[.slice none 0 0, .slice none 0 0], []⟩ 8 (by kernel_rfl) (by kernel_rfl) (by kernel_rfl) (by kernel_rfl)) ?_
  intro W base args ds gs before hval0 hW hcnd _
  have hval : ∀ (j : Nat) t v, Try.f5.params[j]? = some t → args[j]? = some v → Value.okWide Try.prog W .any base t v := hval0
  have hW' := hW
  obtain ⟨p, q, hA0, hV, rfl, hfz, hnd⟩ := hW
  have hA : DataW.TrodAll enc Try.prog W 0 (fun _ => true) true Try.f5.params.toList args.toList ds p := hA0
  rw [Try.params5] at hA hval
  obtain ⟨v0, vs0, d0, ds0, p0, q0, hargs, rfl, rfl, h0, r0⟩ := trodAll_cons hA
  obtain ⟨v1, vs1, d1, ds1, p1, q1, rfl, rfl, rfl, h1, r1⟩ := trodAll_cons r0
  obtain ⟨rfl, rfl, rfl⟩ := trodAll_nil r1
  obtain rfl : args = #[v0, v1] := by cases args; simp_all
  obtain ⟨rfl, rfl⟩ := trodVars_none hV
  have lt0 : ∀ x ∈ p0, x.block < W.heap.size := by obtain ⟨m, hm⟩ := h0; exact DataW.trod_lt m _ _ _ hm
  have lt1 : ∀ x ∈ p1, x.block < W.heap.size := by obtain ⟨m, hm⟩ := h1; exact DataW.trod_lt m _ _ _ hm
  have k0 := h0; have k1 := h1
  obtain ⟨A0, n0, c0, l0, rfl, _, w0⟩ := open_ints64 (hval 0 _ v0 rfl rfl) h0
  obtain ⟨A1, n1, c1, xs1, rfl, hc1, hm1, hr1, _⟩ := open_bytes Try.underlying25 Try.underlying5 c_u8 (hval 1 _ v1 rfl rfl) h1
  clear hA0 hval0
  refine (CrcOnce_walk A0 n0 c0 l0 A1 n1 c1 xs1 W w0 hr1 hc1).mono fun e W' ⟨he, bel⟩ => ?_
  subst he
  exact ⟨_, rfl, _, _, _, [], _, [], hW', trodAll_mk1 (shut_bool Try.underlying4 _), (trodAll_cons_mk (Below.trod laidOutCrcOnce (by kernel_rfl) (of_decide_eq_true (by kernel_rfl)) k0 bel lt0) (trodAll_cons_mk (Below.trod laidOutCrcOnce (by kernel_rfl) (of_decide_eq_true (by kernel_rfl)) k1 bel lt1) trodAll_mk0)), rfl, bel.frame _, fun h => by cases h⟩

theorem crcOnce_holds : Rows.CrcOnceSaid :=
  OpenClaim.holds_of_wide 5 Try.f5 rfl rfl rfl rfl rfl rfl rfl ⟨rfl, rfl, rfl, rfl, rfl⟩ rfl rfl rfl rfl rfl (by kernel_rfl) Try.func5 (by kernel_rfl)
    (of_decide_eq_true (by kernel_rfl)) (by unfold Func.isWrapper; first | (rw [if_pos (by decide +kernel)]; kernel_rfl) | (rw [if_neg (by decide +kernel)]; exact ⟨rfl, rfl⟩))
    (fun os started H enc _ => CrcOnce_lifted os started H enc)
#print axioms crcOnce_holds
end Go.Proofs.Ytihokijndmigoaa
