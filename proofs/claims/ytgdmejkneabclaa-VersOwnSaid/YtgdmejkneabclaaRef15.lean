/- Contracts of the document's answer, layer 15: Same, Last, Dirty, Clean. -/
import Derived.Test.YtgdmejkneabclaaVersA
import Derived.Test.YtgdmejkneabclaaReg
namespace Go.Proofs.Ytgdmejkneabclaa
open Go.RowKit
set_option linter.unusedSimpArgs false
set_option linter.unusedVariables false

/-- The document's versions: a row of the call's own; their bytes lie anywhere. -/
abbrev RefAt (w : World) (base : Nat) (sl : Value) (l : List VC) : Prop := w.ownsRow base 69 3 sl l.length (l.flatMap VC.cells)
def VC.agg (x : VC) : Value := .agg #[.int .u64 x.v.ver, .int .u64 x.v.seq, .slice x.A x.v.data.length x.c]
def atC (l : List VC) (i : Int) : VC := if 0 ≤ i ∧ i < l.length then l.getD i.toNat noVC else noVC
theorem atC_v (l : List VC) (i : Int) : (atC l i).v = atV l i := by
  unfold atC atV
  split <;> rfl
theorem atC_mem (l : List VC) (i : Int) : atC l i ∈ l ∨ atC l i = noVC := by
  unfold atC
  split
  · rename_i h
    left
    have hi : i.toNat < l.length := by omega
    rw [List.getD_eq_getElem?_getD, List.getElem?_eq_getElem hi]
    exact List.getElem_mem _
  · exact .inr rfl
theorem ref_at {w : World} {base : Nat} {sl : Value} {l : List VC} (h : RefAt w base sl l) (i : Nat) (hi : i < l.length) (d : VC) :
    ∃ b c, sl = .slice (some ⟨b, 0, none⟩) l.length c ∧ b < w.heap.size ∧ w.cell? ⟨b, i * 3, none⟩ = some (.int .u64 (l.getD i d).v.ver) ∧ w.cell? ⟨b, i * 3 + 1, none⟩ = some (.int .u64 (l.getD i d).v.seq) ∧
      w.cell? ⟨b, i * 3 + 2, none⟩ = some (.slice (l.getD i d).A (l.getD i d).v.data.length (l.getD i d).c) := by
  obtain ⟨b, cap, hv, _, hlt⟩ := h.form (by omega)
  refine ⟨b, cap, hv, hlt, ?_, ?_, ?_⟩
  · have := h.cells (g := b) (by rw [hv]; rfl) (i * 3) (.int .u64 (l.getD i d).v.ver) (by have := cells_get l d i 0 hi (by omega); simpa [VC.cells] using this)
    rw [add_lit0] at this
    simpa using this
  · have := h.cells (g := b) (by rw [hv]; rfl) (i * 3 + 1) (.int .u64 (l.getD i d).v.seq) (by have := cells_get l d i 1 hi (by omega); simpa [VC.cells] using this)
    rw [add_lit0] at this
    simpa using this
  · have := h.cells (g := b) (by rw [hv]; rfl) (i * 3 + 2) (l.getD i d).sl (by have := cells_get l d i 2 hi (by omega); simpa [VC.cells] using this)
    rw [add_lit0] at this
    simpa [VC.sl] using this

set_option maxHeartbeats 1000000 in
theorem refSame_any (x y : Ver) (A B : Option Addr) (c d : Nat) (w : World) (ha : Rd w A x.data.length x.data) (hb : Rd w B y.data.length y.data) :
    Calls Try.prog 46 #[.agg #[.int .u64 x.ver, .int .u64 x.seq, .slice A x.data.length c], .agg #[.int .u64 y.ver, .int .u64 y.seq, .slice B y.data.length d]] w fun e w' =>
      e = .returned (.bool (decide (x = y))) ∧ Below w.heap.size w w' := by
  obtain ⟨a, b, p⟩ := x
  obtain ⟨a', b', q⟩ := y
  simp only at ha hb
  have hd : decide ((⟨a, b, p⟩ : Ver) = ⟨a', b', q⟩) = (decide (a = a') && (decide (b = b') && decide (p = q))) := by
    simp only [Ver.mk.injEq, Bool.decide_and]
  rw [hd]
  have ha2 := (ha.alloc (.cells #[.int .u64 a, .int .u64 b, .slice A p.length c] 69)).alloc (.cells #[.int .u64 a', .int .u64 b', .slice B q.length d] 69)
  have hb2 := (hb.alloc (.cells #[.int .u64 a, .int .u64 b, .slice A p.length c] 69)).alloc (.cells #[.int .u64 a', .int .u64 b', .slice B q.length d] 69)
  have hbl : Below w.heap.size w ((w.alloc (.cells #[.int .u64 a, .int .u64 b, .slice A p.length c] 69)).alloc (.cells #[.int .u64 a', .int .u64 b', .slice B q.length d] 69)) :=
    ((Below.refl _ _).alloc (Nat.le_refl _) _).alloc (by simp) _
  clear hd
  go_enter Try.func46, Try.ntmps46
  by_cases h1 : a = a'
  · subst h1
    by_cases h2 : b = b'
    · subst h2
      go_wp2_with fail
      refine (Same_any A B p.length q.length c d p q _ ha2 hb2).mono ?_
      rintro e w1 ⟨rfl, hdr⟩
      go_wp2_with fail
      go_ret
      exact ⟨ret_bool (by simp), hbl.trans (hdr.below _)⟩
    · have t2 : (b == b') = false := by simpa using h2
      have e2 : decide (b = b') = false := by simpa using h2
      clear h2
      go_wp2_with fail
      go_ret
      exact ⟨ret_bool (by simp [e2]), hbl⟩
  · have t1 : (a == a') = false := by simpa using h1
    have e1 : decide (a = a') = false := by simpa using h1
    clear h1
    go_wp2_with fail
    go_ret
    exact ⟨ret_bool (by simp [e1]), hbl⟩

set_option maxHeartbeats 1000000 in
theorem refLast_any (base : Nat) (sl : Value) (l : List VC) (w : World) (h : RefAt w base sl l) (hl : l.length ≤ 1000) :
    Calls Try.prog 41 #[sl] w fun e w' => e = .returned (atC l ((l.length : Int) - 1)).agg ∧ Below w.heap.size w w' := by
  obtain ⟨A, c, hsl, hlc, hcm⟩ := own_form h
  by_cases h0 : l.length = 0
  · have hx : Hid (atC l ((l.length : Int) - 1) = noVC) := by show _ = _; unfold atC; rw [if_neg (by omega)]
    rw [hsl, h0]
    rw [h0] at hx
    clear h0
    go_enter Try.func41, Try.ntmps41
    go_wp2_with fail
    rw [hx.out]
    exact bodyPost_ret (v := noVC.agg) (by simp [results, Try.results41, go_sem, noVC, VC.agg, Ver.none]) rfl ⟨rfl, (Below.refl _ _).alloc (Nat.le_refl _) _⟩
  · obtain ⟨b, c', he, hbl, e0, e1, e2⟩ := ref_at h (l.length - 1) (by omega) noVC
    rw [hsl] at he
    injection he with he1 he2 he3
    subst he1
    subst he3
    have e3 : ((l.length : Int) - 1).toNat = l.length - 1 := by omega
    obtain ⟨x, hx⟩ : ∃ x, x = l.getD (l.length - 1) noVC := ⟨_, rfl⟩
    have hX : Hid (atC l ((l.length : Int) - 1) = x) := by show _ = _; unfold atC; rw [if_pos (by omega), e3, hx]
    rw [← hx] at e0 e1 e2
    have p1 : (0 : Int) ≤ (l.length : Int) - 1 := by omega
    have p2 : (l.length : Int) - 1 < (l.length : Int) := by omega
    have p3 : 0 < l.length := by omega
    have z0 : ((l.length : Int) == 0) = false := beq_eq_false_iff_ne.2 (by omega)
    have wr2 : IntKind.i64.wrap ((l.length : Int) - 1) = (l.length : Int) - 1 := by rw [IntKind.wrap_i64]; omega
    rw [hsl]
    clear hsl hx he2 h0
    go_enter Try.func41, Try.ntmps41
    go_wp2_with fail
    rw [hX.out]
    refine bodyPost_ret (v := x.agg) (by simp [results, Try.results41, go_sem, VC.agg]) rfl ⟨rfl, ?_⟩
    exact (Below.refl _ w).alloc (Nat.le_refl _) _
end Go.Proofs.Ytgdmejkneabclaa
