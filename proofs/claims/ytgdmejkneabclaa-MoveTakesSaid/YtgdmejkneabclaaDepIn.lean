/- The region rule in a round of a range over a function. No program in sight. -/
import Derived.Test.YtgdmejkneabclaaReg
import Derived.OrdersIn
import Derived.RangeFuncCalls
namespace Go.Proofs.Ytgdmejkneabclaa
open Go.RowKit
set_option linter.unusedSimpArgs false
set_option linter.unusedVariables false

def noDefer (o : Oper) : Bool := match o.op with
  | .defer _ => false
  | _ => true
theorem noDefer_ne {o : Oper} (h : noDefer o = true) : ∀ c, o.op ≠ .defer c := by
  intro c hc
  simp [noDefer, hc] at h

section
variable {P : Program} {ops : Array Oper} {Q : Exit → Act → World → Prop} {r n : Nat}
theorem rows_in {row : String} {args : Array Value} {w : World} {R : Value → World → Prop} (h : Rows P row args w R) : RowsIn (Fence.wide.inRound r) n P row args w R :=
  fun c cs _ => let ⟨v, w', hr, hs⟩ := h c cs; ⟨v, w', hr, stepsIn_wide.2 hs⟩
theorem op_in {o : Oper} {a : Act} {w : World} {K : Act → World → Prop} (hd : ∀ c, o.op ≠ .defer c) (h : o.wp P a w K Q) : o.wpIn (Fence.wide.inRound r) n P a w K Q := by
  refine ⟨fun _ _ => trivial, ?_⟩
  unfold Oper.wp at h
  rw [Oper.semAt_eq _ _ _ hd]
  generalize (execOp a.eval o).run P w = res at *
  cases res with
  | ok x w' =>
    cases x <;> simp only [Oper.upon] at h <;> simp only [Oper.uponIn]
    case value v => exact h
    case skip => exact h
    case defer d => exact h
    case enter f args => exact ⟨fun hh => by simp [Fence.wide] at hh, CallsIn.inRound r (callsIn_wide.2 h)⟩
    case row row args => exact ⟨fun hh => by simp [Fence.wide] at hh, rows_in h⟩
  | halt x w' => cases x <;> simp only [Oper.upon] at h <;> simp only [Oper.uponIn] <;> exact h
theorem wpOp_in {i : Nat} {K : Act → World → Prop} {a : Act} {w : World} (hlo : ¬ LetsOut Q) (hd : ∀ o ∈ ops, noDefer o = true) (h : wpOp P ops Q i K a w) : wpOpIn (Fence.wide.inRound r) n P ops Q i K a w := by
  unfold wpOpIn
  unfold wpOp at h
  cases ho : ops[i]? with
  | none => rw [ho] at h; exact h
  | some o =>
    rw [ho] at h
    simp only at h ⊢
    split
    · rename_i hw
      rw [if_pos hw] at h
      exact op_in (noDefer_ne (hd o (Array.mem_of_getElem? ho))) (h.resolve_right fun hh => hlo hh.2)
    · rename_i hw
      rw [if_neg hw] at h
      exact ⟨fun _ _ => trivial, h⟩
theorem wpAny_in {md : Region.Mode} (hlo : ¬ LetsOut Q) (hd : ∀ o ∈ ops, noDefer o = true) : ∀ (fuel : Nat) (L : Array Bool) (a : Act) (w : World), wpAny P md ops Q fuel L a w → wpAnyIn (Fence.wide.inRound r) n P md ops Q fuel L a w := by
  intro fuel
  induction fuel with
  | zero => intro L a w h; exact h
  | succ fuel ih =>
    intro L a w h
    exact ⟨h.1, fun i hi => wpOpIn_mono (fun a w => ih _ a w) (wpOp_in hlo hd (h.2 i hi))⟩

/-- **A region that draws its order, in a round.** -/
theorem wpIn_region_dep {id : Nat} {a : Act} {w : World} {l : List Oper} (m : Nat) (T : Nat → DK) (G0 G : World → World → Prop) (hm : P.follows .mixedOrders = true) (hnd : l.all noDefer = true) (hlo : ¬ LetsOut Q)
    (hS : sideB l.toArray a.tmps.size m = true) (hrefl : ∀ W, G W W) (hrefl0 : ∀ W, G0 W W) (hsub : ∀ W W', G0 W W' → G W W') (htrans : ∀ W1 W2 W3, G W1 W2 → G W2 W3 → G W1 W3) (htrans0 : ∀ W1 W2 W3, G0 W1 W2 → G0 W2 W3 → G0 W1 W3)
    (hst : ∀ k φ, T k = .some_ φ → ∀ v W W', G W W' → φ v W → φ v W') (hla : LastOk l.toArray T G0 m)
    (h : wpDep P l.toArray T G0 G w.drew (fun a' W' => wpList P l.toArray Q (l.drop m) a' W') [] 0 (l.take m) a) : (Code.region id l.toArray true).wpIn (Fence.wide.inRound r) n P Q a w := by
  have S := side_of hS
  refine wpIn_region_any hm (wpAny_in hlo (fun o ho => by simp only [List.all_eq_true] at hnd; exact hnd o (by simpa using ho)) _ _ _ _ ?_)
  have h' : wpDep P l.toArray T G0 G w.drew (fun a' W' => wpList P l.toArray Q (l.toArray.toList.drop m) a' W') [] 0 (l.toArray.toList.take m) a := by simpa using h
  refine wpAny_dep S rfl hrefl hrefl0 hsub htrans htrans0 hst hla h' _ _ _ _ ⟨by simp, hrefl _, fun _ => hrefl0 _, fun t _ => rfl, rfl, rfl, fun i o _ _ hl => ?_, fun i o _ hl => ?_, fun i _ => ?_⟩ ?_
  · rw [rep_false] at hl
    cases hl
  · rw [rep_false] at hl
    cases hl
  · exact rep_false _ _
  · unfold left
    have := List.length_filter_le (fun i => !(Array.replicate l.toArray.size false).getD i false) (List.range l.toArray.size)
    simpa using this
end
end Go.Proofs.Ytgdmejkneabclaa
