/- What the laws of layer 15 are handed: versions, calls. -/
import Derived.Test.YtgdmejkneabclaaOpen
import Derived.Test.YtgdmejkneabclaaVersPlays
namespace Go.Proofs.Ytgdmejkneabclaa
open Go.ChangeShapes Go.WideShapes Go.ChangeAt Go.RowKit
set_option linter.unusedVariables false
set_option linter.unusedSimpArgs false

theorem c_int : Try.prog.cellsOf 3 = 1 := by kernel_rfl
theorem c_u64 : Try.prog.cellsOf 22 = 1 := by kernel_rfl
theorem c_u8 : Try.prog.cellsOf 5 = 1 := by kernel_rfl
theorem c_bytes : Try.prog.cellsOf 23 = 1 := by kernel_rfl
theorem c_refver : Try.prog.cellsOf 69 = 3 := by kernel_rfl
theorem c_op : Try.prog.cellsOf 71 = 6 := by kernel_rfl
theorem own15 : ownKnob Try.prog.godebug = none := by kernel_rfl
theorem laidOut15 : laidOutB Try.prog = true := by kernel_rfl

section
variable {H : Type} {enc : TypeId × Value → H} {w : World} {base : Nat} {spare : Nat → Bool} {held : Bool}
theorem reads_refver : ReadsAs enc Try.prog w base spare held 69 [.int .u64, .int .u64, .bytes] := by
  refine readsAs_struct Try.underlying69 (by rw [c_refver]; rfl) ?_ ?_
  · intro i f hi
    match i, hi with
    | 0, hi => simp at hi; subst hi; dsimp only; rw [c_u64]; exact readsAs_int Try.underlying22
    | 1, hi => simp at hi; subst hi; dsimp only; rw [c_u64]; exact readsAs_int Try.underlying22
    | 2, hi => simp at hi; subst hi; dsimp only; rw [c_bytes]; exact readsAs_bytes Try.underlying23 Try.underlying5 c_u8
    | (n + 3), hi => simp at hi
  · intro j hj
    match j, hj with
    | 0, _ => exact ⟨0, _, rfl, by simp, by simp [c_u64]⟩
    | 1, _ => exact ⟨1, _, rfl, by simp, by simp [c_u64]⟩
    | 2, _ => exact ⟨2, _, rfl, by simp, by simp [c_bytes]⟩
    | (n + 3), hj => exact absurd hj (by simp)
theorem reads_op : ReadsAs enc Try.prog w base spare held 71 [.int .i64, .int .u64, .int .u64, .bytes, .int .u64, .int .u64] := by
  refine readsAs_struct Try.underlying71 (by rw [c_op]; rfl) ?_ ?_
  · intro i f hi
    match i, hi with
    | 0, hi => simp at hi; subst hi; dsimp only; rw [c_int]; exact readsAs_int Try.underlying3
    | 1, hi => simp at hi; subst hi; dsimp only; rw [c_refver]; exact reads_refver
    | 2, hi => simp at hi; subst hi; dsimp only; rw [c_u64]; exact readsAs_int Try.underlying22
    | 3, hi => simp at hi; subst hi; dsimp only; rw [c_u64]; exact readsAs_int Try.underlying22
    | (n + 4), hi => simp at hi
  · intro j hj
    match j, hj with
    | 0, _ => exact ⟨0, _, rfl, by simp, by simp [c_int]⟩
    | 1, _ => exact ⟨1, _, rfl, by simp, by simp [c_refver]⟩
    | 2, _ => exact ⟨1, _, rfl, by simp, by simp [c_refver]⟩
    | 3, _ => exact ⟨1, _, rfl, by simp, by simp [c_refver]⟩
    | 4, _ => exact ⟨2, _, rfl, by simp, by simp [c_u64]⟩
    | 5, _ => exact ⟨3, _, rfl, by simp, by simp [c_u64]⟩
    | (n + 6), hj => exact absurd hj (by simp)
end

set_option maxRecDepth 100000 in
theorem open_ops {H : Type} {enc : TypeId × Value → H} {w : World} {base b0 : Nat} {spare : Nat → Bool} {held : Bool} {r : Reach} {v : Value} {d : DataW H} {p : List MemPlace}
    (hval : Value.okWide Try.prog w r b0 67 v) (h : DataW.Trod enc Try.prog w base spare held 67 v d p) :
    ∃ A n c ops, v = .slice A n c ∧ OpsAt w A n ops := by
  obtain ⟨A, n, c, rfl, hnc, hcm, _, hc⟩ := open_slc Try.underlying67 (by rw [c_op]; rfl) reads_op hval h
  rcases Nat.eq_zero_or_pos n with h0 | h0
  · subst h0
    exact ⟨A, 0, c, [], rfl, ⟨rfl, Nat.zero_le _, fun h => absurd h (Nat.lt_irrefl 0), fun q hq => absurd hq (by simp)⟩⟩
  obtain ⟨b, o, rfl, hcell⟩ := hc h0 (by simp)
  have key : ∀ i, i < n → ∃ q : POp, (POp.wf q ∧ Rd w q.x.A q.x.v.data.length q.x.v.data) ∧ ∀ j, j < 6 → w.cell? ⟨b, o + i * 6 + j, none⟩ = q.arr[j]? := by
    intro i hi
    obtain ⟨u0, h0, n0, rfl, l0, g0⟩ := hcell i hi 0 _ rfl
    obtain ⟨u1, h1, n1, rfl, l1, g1⟩ := hcell i hi 1 _ rfl
    obtain ⟨u2, h2, n2, rfl, l2, g2⟩ := hcell i hi 2 _ rfl
    obtain ⟨u3, h3, A3, m3, c3, xs3, rfl, a3, b3, r3, e3⟩ := hcell i hi 3 _ rfl
    obtain ⟨u4, h4, n4, rfl, l4, g4⟩ := hcell i hi 4 _ rfl
    obtain ⟨u5, h5, n5, rfl, l5, g5⟩ := hcell i hi 5 _ rfl
    have hl3 := r3.1
    subst hl3
    refine ⟨⟨n0, ⟨⟨n1, n2, xs3⟩, A3, c3⟩, n4, n5⟩, ⟨⟨a3, b3, ⟨l1, g1⟩, ⟨l2, g2⟩, ⟨l5, g5⟩, ⟨l4, g4⟩⟩, r3⟩, fun j hj => ?_⟩
    have h6 : j = 0 ∨ j = 1 ∨ j = 2 ∨ j = 3 ∨ j = 4 ∨ j = 5 := by omega
    rcases h6 with rfl | rfl | rfl | rfl | rfl | rfl <;> assumption
  obtain ⟨ops, hl, hr⟩ := list_of noOp key
  refine ⟨_, n, c, ops, rfl, ⟨hl, by unfold maxLen at hcm; omega, fun _ => ⟨b, o, rfl, fun i j hi hj => (hr i hi).2 j hj⟩, fun q hm => ?_⟩⟩
  obtain ⟨i, hi, e⟩ := List.getElem_of_mem hm
  have := (hr i (by omega)).1
  rw [List.getD_eq_getElem?_getD, List.getElem?_eq_getElem hi] at this
  rw [← e]
  exact this

/-- A version by value. -/
theorem open_ver {H : Type} {enc : TypeId × Value → H} {w : World} {base b0 : Nat} {spare : Nat → Bool} {held : Bool} {r : Reach} {v : Value} {d : DataW H} {p : List MemPlace}
    (hval : Value.okWide Try.prog w r b0 69 v) (h : DataW.Trod enc Try.prog w base spare held 69 v d p) :
    ∃ x : VC, v = x.agg ∧ POp.wf ⟨0, x, 0, 0⟩ ∧ Rd w x.A x.v.data.length x.v.data := by
  obtain ⟨cs, rfl, _⟩ := okWide_struct Try.underlying69 hval
  obtain ⟨h1, h2⟩ := open_val reads_refver h
  obtain ⟨u0, e0, n0, rfl, l0, g0⟩ := h2 0 _ rfl
  obtain ⟨u1, e1, n1, rfl, l1, g1⟩ := h2 1 _ rfl
  obtain ⟨u2, e2, A2, m2, c2, xs2, rfl, a2, b2, r2, _⟩ := h2 2 _ rfl
  have hl2 := r2.1
  subst hl2
  refine ⟨⟨⟨n0, n1, xs2⟩, A2, c2⟩, ?_, ⟨a2, b2, ⟨l0, g0⟩, ⟨l1, g1⟩, ⟨by simp, by simp⟩, ⟨by simp, by simp⟩⟩, r2⟩
  simp only [Value.cells] at h1 e0 e1 e2
  rcases cs with ⟨l⟩
  rcases l with _ | ⟨x, _ | ⟨y, _ | ⟨z, _ | ⟨t, l⟩⟩⟩⟩ <;> simp at h1 e0 e1 e2
  rw [e0, e1, e2]
  rfl
/-- A call by value. -/
theorem open_op {H : Type} {enc : TypeId × Value → H} {w : World} {base b0 : Nat} {spare : Nat → Bool} {held : Bool} {r : Reach} {v : Value} {d : DataW H} {p : List MemPlace}
    (hval : Value.okWide Try.prog w r b0 71 v) (h : DataW.Trod enc Try.prog w base spare held 71 v d p) :
    ∃ q : POp, v = .agg q.arr ∧ POp.wf q ∧ Rd w q.x.A q.x.v.data.length q.x.v.data := by
  obtain ⟨cs, rfl, _⟩ := okWide_struct Try.underlying71 hval
  obtain ⟨h1, h2⟩ := open_val reads_op h
  obtain ⟨u0, e0, n0, rfl, l0, g0⟩ := h2 0 _ rfl
  obtain ⟨u1, e1, n1, rfl, l1, g1⟩ := h2 1 _ rfl
  obtain ⟨u2, e2, n2, rfl, l2, g2⟩ := h2 2 _ rfl
  obtain ⟨u3, e3, A3, m3, c3, xs3, rfl, a3, b3, r3, _⟩ := h2 3 _ rfl
  obtain ⟨u4, e4, n4, rfl, l4, g4⟩ := h2 4 _ rfl
  obtain ⟨u5, e5, n5, rfl, l5, g5⟩ := h2 5 _ rfl
  have hl3 := r3.1
  subst hl3
  refine ⟨⟨n0, ⟨⟨n1, n2, xs3⟩, A3, c3⟩, n4, n5⟩, ?_, ⟨a3, b3, ⟨l1, g1⟩, ⟨l2, g2⟩, ⟨l5, g5⟩, ⟨l4, g4⟩⟩, r3⟩
  simp only [Value.cells] at h1 e0 e1 e2 e3 e4 e5
  rcases cs with ⟨l⟩
  rcases l with _ | ⟨x, _ | ⟨y, _ | ⟨z, _ | ⟨t, _ | ⟨t', _ | ⟨t'', _ | ⟨t''', l⟩⟩⟩⟩⟩⟩⟩ <;> simp at h1 e0 e1 e2 e3 e4 e5
  rw [e0, e1, e2, e3, e4, e5]
  rfl
end Go.Proofs.Ytgdmejkneabclaa
