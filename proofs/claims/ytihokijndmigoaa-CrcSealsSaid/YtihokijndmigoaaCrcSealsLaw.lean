/- CrcSeals: for all inputs the law returns true; the input reads as it did. No condition. -/
import Derived.Test.YtihokijndmigoaaRows
import Derived.Test.YtihokijndmigoaaOpen
import Derived.Test.YtihokijndmigoaaCrcSeals
namespace Go.Proofs.Ytihokijndmigoaa
open Go.ChangeShapes Go.WideShapes Go.ChangeAt Go.RowKit
set_option linter.unusedVariables false
set_option linter.unusedSimpArgs false

theorem c_u8 : Try.prog.cellsOf 5 = 1 := by kernel_rfl

theorem ownCrcSeals : ownKnob Try.prog.godebug = none := by kernel_rfl
theorem laidOutCrcSeals : laidOutB Try.prog = true := by kernel_rfl

set_option maxRecDepth 100000 in
theorem CrcSeals_lifted (os : Os) (started : os.Started) (H : Type) (enc : TypeId × Value → H) :
    ReturnsInHanded {} Try.checked os 6 .any (Rows.crcSealsSpec.pre6 enc Try.prog Try.f6 Rows.crcSealsRow.domain false) (Rows.crcSealsSpec.post enc Try.prog Try.f6 false true false false) := by
  refine returnsInHanded_of_change (C := Try.checked) ownCrcSeals started (by kernel_rfl) Try.func6
    (ChangeSpec.witness6 (enc := enc) (C := Try.checked) false ⟨#[], #[.slice none 0 0, .int .i64 0, .int .u32 0], []⟩ 8 (by kernel_rfl) (by kernel_rfl) (by kernel_rfl) (by kernel_rfl)) ?_
  intro W base args ds gs before hval0 hW hcnd _
  have hval : ∀ (j : Nat) t v, Try.f6.params[j]? = some t → args[j]? = some v → Value.okWide Try.prog W .any base t v := hval0
  have hW' := hW
  obtain ⟨p, q, hA0, hV, rfl, hfz, hnd⟩ := hW
  have hA : DataW.TrodAll enc Try.prog W 0 (fun _ => true) true Try.f6.params.toList args.toList ds p := hA0
  rw [Try.params6] at hA hval
  obtain ⟨v0, vs0, d0, ds0, p0, q0, hargs, rfl, rfl, h0, r0⟩ := trodAll_cons hA
  obtain ⟨v1, vs1, d1, ds1, p1, q1, rfl, rfl, rfl, h1, r1⟩ := trodAll_cons r0
  obtain ⟨v2, vs2, d2, ds2, p2, q2, rfl, rfl, rfl, h2, r2⟩ := trodAll_cons r1
  obtain ⟨rfl, rfl, rfl⟩ := trodAll_nil r2
  obtain rfl : args = #[v0, v1, v2] := by cases args; simp_all
  obtain ⟨rfl, rfl⟩ := trodVars_none hV
  have lt0 : ∀ x ∈ p0, x.block < W.heap.size := by obtain ⟨m, hm⟩ := h0; exact DataW.trod_lt m _ _ _ hm
  have lt1 : ∀ x ∈ p1, x.block < W.heap.size := by obtain ⟨m, hm⟩ := h1; exact DataW.trod_lt m _ _ _ hm
  have lt2 : ∀ x ∈ p2, x.block < W.heap.size := by obtain ⟨m, hm⟩ := h2; exact DataW.trod_lt m _ _ _ hm
  have k0 := h0; have k1 := h1; have k2 := h2
  obtain ⟨A0, n0, c0, xs0, rfl, hc0, hm0, hr0, _⟩ := open_bytes Try.underlying25 Try.underlying5 c_u8 (hval 0 _ v0 rfl rfl) h0
  obtain ⟨n1, rfl, _, _, wf1⟩ := open_int Try.underlying3 (hval 1 _ v1 rfl rfl) h1
  have hb1 := wf_bounds wf1
  obtain ⟨n2, rfl, _, _, wf2⟩ := open_int Try.underlying26 (hval 2 _ v2 rfl rfl) h2
  have hb2 := wf_bounds wf2
  obtain ⟨N2, rfl⟩ : ∃ N : Nat, n2 = (N : Int) := ⟨n2.toNat, by have := hb2.1; simp [IntKind.min, IntKind.signed] at this; omega⟩
  have hN2 : N2 < 4294967296 := by have := hb2.2; simp [IntKind.max, IntKind.signed, IntKind.bits] at this; omega
  clear hA0 hval0
  refine (CrcSeals_walk A0 n0 c0 xs0 n1 N2 W hr0 hc0 hN2 (by have := hb1.2; simpa [IntKind.max, IntKind.signed, IntKind.bits] using this)).mono fun e W' ⟨he, bel⟩ => ?_
  subst he
  exact ⟨_, rfl, _, _, _, [], _, [], hW', trodAll_mk1 (shut_bool Try.underlying4 _), (trodAll_cons_mk (Below.trod laidOutCrcSeals (by kernel_rfl) (of_decide_eq_true (by kernel_rfl)) k0 bel lt0) (trodAll_cons_mk (Below.trod laidOutCrcSeals (by kernel_rfl) (of_decide_eq_true (by kernel_rfl)) k1 bel lt1) (trodAll_cons_mk (Below.trod laidOutCrcSeals (by kernel_rfl) (of_decide_eq_true (by kernel_rfl)) k2 bel lt2) trodAll_mk0))), rfl, bel.frame _, fun h => by cases h⟩

theorem crcSeals_holds : Rows.CrcSealsSaid :=
  OpenClaim.holds_of_wide 6 Try.f6 rfl rfl rfl rfl rfl rfl rfl ⟨rfl, rfl, rfl, rfl, rfl⟩ rfl rfl rfl rfl rfl (by kernel_rfl) Try.func6 (by kernel_rfl)
    (of_decide_eq_true (by kernel_rfl)) (by unfold Func.isWrapper; first | (rw [if_pos (by decide +kernel)]; kernel_rfl) | (rw [if_neg (by decide +kernel)]; exact ⟨rfl, rfl⟩))
    (fun os started H enc _ => CrcSeals_lifted os started H enc)
#print axioms crcSeals_holds
end Go.Proofs.Ytihokijndmigoaa
