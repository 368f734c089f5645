/- FrameAll: for all inputs the law returns true; the input reads as it did. No condition. -/
import Derived.Test.YtgflgncpjlgeoaaRows
import Derived.Test.YtgflgncpjlgeoaaOpen
import Derived.Test.YtgflgncpjlgeoaaFrAllW
namespace Go.Proofs.Ytgflgncpjlgeoaa
open Go.ChangeShapes Go.WideShapes Go.ChangeAt Go.RowKit
set_option linter.unusedVariables false
set_option linter.unusedSimpArgs false

theorem c_u8 : Try.prog.cellsOf 5 = 1 := by kernel_rfl
theorem c_bytes : Try.prog.cellsOf 23 = 1 := by kernel_rfl
theorem c_refframe : Try.prog.cellsOf 25 = 2 := by kernel_rfl
section
variable {H : Type} {enc : TypeId × Value → H} {w : World} {base : Nat} {spare : Nat → Bool} {held : Bool}
theorem reads_refframe : ReadsAs enc Try.prog w base spare held 25 [.int .u8, .bytes] := by
  refine readsAs_struct Try.underlying25 (by rw [c_refframe]; rfl) ?_ ?_
  · intro i f hi
    match i, hi with
    | 0, hi => simp at hi; subst hi; dsimp only; rw [c_u8]; exact readsAs_int Try.underlying5
    | 1, hi => simp at hi; subst hi; dsimp only; rw [c_bytes]; exact readsAs_bytes Try.underlying23 Try.underlying5 c_u8
    | (n + 2), hi => simp at hi
  · intro j hj
    match j, hj with
    | 0, _ => exact ⟨0, _, rfl, by simp, by simp [c_u8]⟩
    | 1, _ => exact ⟨1, _, rfl, by simp, by simp [c_bytes]⟩
    | (n + 2), hj => exact absurd hj (by simp)
end
theorem u8_of {z : Int} (h1 : IntKind.u8.min ≤ z) (h2 : z ≤ IntKind.u8.max) : ∃ k : UInt8, z = (k.toNat : Int) := by
  simp [IntKind.min, IntKind.max, IntKind.signed, IntKind.bits] at h1 h2
  refine ⟨UInt8.ofNat z.toNat, ?_⟩
  rw [UInt8.toNat_ofNat']
  omega
set_option maxRecDepth 100000 in
theorem open_frame {H : Type} {enc : TypeId × Value → H} {w : World} {base b0 : Nat} {spare : Nat → Bool} {held : Bool} {r : Reach} {v : Value} {d : DataW H} {p : List MemPlace}
    (hval : Value.okWide Try.prog w r b0 25 v) (h : DataW.Trod enc Try.prog w base spare held 25 v d p) :
    ∃ k A n c xs, v = frV k A n c ∧ Rd w A n xs ∧ n ≤ c ∧ c ≤ 9223372036854775807 := by
  obtain ⟨cs, rfl, hsz⟩ := okWide_struct Try.underlying25 hval
  obtain ⟨_, h2⟩ := open_val reads_refframe h
  obtain ⟨u0, h0, n0, rfl, l0, g0⟩ := h2 0 _ rfl
  obtain ⟨u1, h1, A', n', c', xs, rfl, a1, a2, a3, a4⟩ := h2 1 _ rfl
  obtain ⟨k, rfl⟩ := u8_of l0 g0
  refine ⟨k, A', n', c', xs, ?_, a3, a1, by unfold maxLen at a2; omega⟩
  rw [c_refframe] at hsz
  simp only [Value.cells] at h0 h1
  unfold frV
  congr 1
  apply Array.ext'
  apply List.ext_getElem?
  intro i
  have hi : i = 0 ∨ i = 1 ∨ 2 ≤ i := by omega
  rcases hi with rfl | rfl | hi
  · exact h0
  · exact h1
  · rw [List.getElem?_eq_none (by simp; omega), List.getElem?_eq_none (by simp; omega)]
set_option maxRecDepth 100000 in
theorem open_frames {H : Type} {enc : TypeId × Value → H} {w : World} {base b0 : Nat} {spare : Nat → Bool} {held : Bool} {r : Reach} {v : Value} {d : DataW H} {p : List MemPlace}
    (hval : Value.okWide Try.prog w r b0 22 v) (h : DataW.Trod enc Try.prog w base spare held 22 v d p) :
    ∃ A n c l, v = .slice A n c ∧ FrsAt w A n l := by
  obtain ⟨A, n, c, rfl, hnc, hcm, _, hc⟩ := open_slc (ks := [.int .u8, .bytes]) Try.underlying22 (by rw [c_refframe]; rfl) reads_refframe hval h
  rcases Nat.eq_zero_or_pos n with h0 | h0
  · subst h0
    exact ⟨A, 0, c, [], rfl, ⟨rfl, Nat.zero_le _, fun h => absurd h (Nat.lt_irrefl 0), fun x hx => absurd hx (by simp)⟩⟩
  obtain ⟨b, o, rfl, hcell⟩ := hc h0 (by simp)
  have key : ∀ i, i < n → ∃ x : FC, (w.cell? ⟨b, o + i * 2, none⟩ = some (.int .u8 (x.k.toNat : Int)) ∧ w.cell? ⟨b, o + i * 2 + 1, none⟩ = some (.slice x.A x.bs.length x.c)) ∧ Rd w x.A x.bs.length x.bs ∧ x.bs.length ≤ x.c := by
    intro i hi
    obtain ⟨u0, h0, n0, rfl, l0, g0⟩ := hcell i hi 0 _ rfl
    obtain ⟨u1, h1, A', n', c', xs, rfl, a1, a2, a3, a4⟩ := hcell i hi 1 _ rfl
    obtain ⟨k, rfl⟩ := u8_of l0 g0
    have hl := a3.1
    subst hl
    exact ⟨⟨k, A', c', xs⟩, ⟨by simpa using h0, by simpa using h1⟩, a3, a1⟩
  obtain ⟨l, hl, hr⟩ := list_of noFC key
  refine ⟨_, n, c, l, rfl, ⟨hl, by unfold maxLen at hcm; omega, fun _ => ⟨b, o, rfl, fun i hi => (hr i hi).1⟩, fun x hx => ?_⟩⟩
  obtain ⟨i, hi, e⟩ := List.getElem_of_mem hx
  have := (hr i (by omega)).2
  rw [List.getD_eq_getElem?_getD, List.getElem?_eq_getElem hi] at this
  rw [← e]
  exact this

theorem ownFrameAll : ownKnob Try.prog.godebug = none := by kernel_rfl
theorem laidOutFrameAll : laidOutB Try.prog = true := by kernel_rfl

set_option maxRecDepth 100000 in
theorem FrameAll_lifted (os : Os) (started : os.Started) (H : Type) (enc : TypeId × Value → H) :
    ReturnsInHanded {} Try.checked os 3 .any (Rows.frameAllSpec.pre6 enc Try.prog Try.f3 Rows.frameAllRow.domain false) (Rows.frameAllSpec.post enc Try.prog Try.f3 false true false false) := by
  refine returnsInHanded_of_change (C := Try.checked) ownFrameAll started (by kernel_rfl) Try.func3
    (ChangeSpec.witness6 (enc := enc) (C := Try.checked) false ⟨#[], #[.slice none 0 0, .slice none 0 0], []⟩ 8 (by kernel_rfl) (by kernel_rfl) (by kernel_rfl) (by kernel_rfl)) ?_
  intro W base args ds gs before hval0 hW hcnd _
  have hval : ∀ (j : Nat) t v, Try.f3.params[j]? = some t → args[j]? = some v → Value.okWide Try.prog W .any base t v := hval0
  have hW' := hW
  obtain ⟨p, q, hA0, hV, rfl, hfz, hnd⟩ := hW
  have hA : DataW.TrodAll enc Try.prog W 0 (fun _ => true) true Try.f3.params.toList args.toList ds p := hA0
  rw [Try.params3] at hA hval
  obtain ⟨v0, vs0, d0, ds0, p0, q0, hargs, rfl, rfl, h0, r0⟩ := trodAll_cons hA
  obtain ⟨v1, vs1, d1, ds1, p1, q1, rfl, rfl, rfl, h1, r1⟩ := trodAll_cons r0
  obtain ⟨rfl, rfl, rfl⟩ := trodAll_nil r1
  obtain rfl : args = #[v0, v1] := by cases args; simp_all
  obtain ⟨rfl, rfl⟩ := trodVars_none hV
  have lt0 : ∀ x ∈ p0, x.block < W.heap.size := by obtain ⟨m, hm⟩ := h0; exact DataW.trod_lt m _ _ _ hm
  have lt1 : ∀ x ∈ p1, x.block < W.heap.size := by obtain ⟨m, hm⟩ := h1; exact DataW.trod_lt m _ _ _ hm
  have k0 := h0; have k1 := h1
  obtain ⟨A0, n0, c0, l0, rfl, w0⟩ := open_frames (hval 0 _ v0 rfl rfl) h0
  obtain ⟨A1, n1, c1, xs1, rfl, hc1, hm1, hr1, _⟩ := open_bytes Try.underlying23 Try.underlying5 c_u8 (hval 1 _ v1 rfl rfl) h1
  clear hA0 hval0
  refine (FrameAll_walk A0 n0 c0 l0 A1 n1 c1 xs1 W w0 hr1 hc1).mono fun e W' ⟨he, bel⟩ => ?_
  subst he
  exact ⟨_, rfl, _, _, _, [], _, [], hW', trodAll_mk1 (shut_bool Try.underlying4 _), (trodAll_cons_mk (Below.trod laidOutFrameAll (by kernel_rfl) (of_decide_eq_true (by kernel_rfl)) k0 bel lt0) (trodAll_cons_mk (Below.trod laidOutFrameAll (by kernel_rfl) (of_decide_eq_true (by kernel_rfl)) k1 bel lt1) trodAll_mk0)), rfl, bel.frame _, fun h => by cases h⟩

theorem frameAll_holds : Rows.FrameAllSaid :=
  OpenClaim.holds_of_wide 3 Try.f3 rfl rfl rfl rfl rfl rfl rfl ⟨rfl, rfl, rfl, rfl, rfl⟩ rfl rfl rfl rfl rfl (by kernel_rfl) Try.func3 (by kernel_rfl)
    (of_decide_eq_true (by kernel_rfl)) (by unfold Func.isWrapper; first | (rw [if_pos (by decide +kernel)]; kernel_rfl) | (rw [if_neg (by decide +kernel)]; exact ⟨rfl, rfl⟩))
    (fun os started H enc _ => FrameAll_lifted os started H enc)
#print axioms frameAll_holds
end Go.Proofs.Ytgflgncpjlgeoaa
