/- Contracts of package move: Begin, Wants, Held, again. -/
import Derived.Test.YtgdmejkneabclaaMove3
namespace Go.Proofs.Ytgdmejkneabclaa
open Go.RowKit
set_option linter.unusedSimpArgs false
set_option linter.unusedVariables false

/-- A picture that is taken in. -/
structure InS where
  at_ : Int
  parts : Int
  next : Nat
  b : List UInt8
def InS.new (a : Int) : InS := ⟨a, 0, 0, []⟩
structure InAt (w : World) (base g : Nat) (sl : Value) (s : InS) : Prop where
  ge : base ≤ g
  blk : Blk w g 99 #[.int .u64 s.at_, .int .i64 s.parts, .int .i64 (s.next : Int), sl]
  own : w.ownsRow base 5 1 sl s.b.length (s.b.map bv)
theorem InAt.below {w w' : World} {base g : Nat} {sl : Value} {s : InS} (h : InAt w base g sl s) (hb : Below w.heap.size w w') : InAt w' base g sl s := ⟨h.ge, h.blk.below hb h.blk.lt, own_below h.own hb (own_lt h.own)⟩
theorem InAt.keeps {w w' : World} {base g : Nat} {sl : Value} {s : InS} {S : List Nat} (h : InAt w base g sl s) (hk : Keeps S w w') (h1 : g ∉ S) (h2 : ∀ k ∈ sl.ownBlock, k ∉ S) : InAt w' base g sl s := ⟨h.ge, h.blk.keeps hk h1, own_keeps h.own hk h2⟩

theorem inBegin_any (w : World) : Calls Try.prog 27 #[] w fun e w' => e = .returned (.pointer (some ⟨w.heap.size, 0, none⟩)) ∧ InAt w' w.heap.size w.heap.size (.slice none 0 0) (InS.new 0) ∧ Below w.heap.size w w' ∧ w'.heap.size = w.heap.size + 1 := by
  go_enter Try.func27, Try.ntmps27
  go_wp2_with fail
  go_ret
  exact ⟨rfl, ⟨Nat.le_refl _, Blk.new _ _ _, World.ownsRow_nil _ _ _ _⟩, (Below.refl _ _).alloc (Nat.le_refl _) _, by simp⟩
theorem inHeld_any (base g : Nat) (sl : Value) (s : InS) (w : World) (h : InAt w base g sl s) (hl : s.b.length ≤ 1000000) : Calls Try.prog 31 #[.pointer (some ⟨g, 0, none⟩)] w fun e w' => e = .returned (.int .i64 s.b.length) ∧ w = w' := by
  obtain ⟨A, c, hsl, _, _⟩ := own_form h.own
  have c0 := h.blk.cell 3
  have hg := h.blk.lt
  simp only [List.getElem?_toArray, List.getElem?_cons_zero, List.getElem?_cons_succ, hsl] at c0
  clear hsl
  go_enter Try.func31, Try.ntmps31
  go_wp2_with fail
  go_ret
  exact ⟨rfl, rfl⟩
theorem inWants_any (base g : Nat) (sl : Value) (s : InS) (w : World) (h : InAt w base g sl s) : Calls Try.prog 30 #[.pointer (some ⟨g, 0, none⟩)] w fun e w' => e = .returned (.tuple #[.int .u64 s.at_, .int .i64 (s.next : Int)]) ∧ Drawn w w' := by
  have c0 := h.blk.cell 0
  have c2 := h.blk.cell 2
  have hg := h.blk.lt
  simp only [List.getElem?_toArray, List.getElem?_cons_zero, List.getElem?_cons_succ] at c0 c2
  go_enter Try.func30, Try.ntmps30
  go_wp2_with fail
  go_quiet (fail)
  go_wp2_with fail
  exact bodyPost_ret (v := .tuple #[.int .u64 s.at_, .int .i64 (s.next : Int)]) (by simp [results, Try.results30, go_sem]) rfl ⟨rfl, _, rfl⟩
theorem inAgain_any (base g : Nat) (sl : Value) (s : InS) (a : Int) (w : World) (h : InAt w base g sl s) : Calls Try.prog 54 #[.pointer (some ⟨g, 0, none⟩), .int .u64 a] w fun e w' => e = .returned (.tuple #[]) ∧ InAt w' base g (.slice none 0 0) (InS.new a) ∧ Keeps [g] w w' := by
  have c0 := h.blk.cell 0
  have c1 := h.blk.cell 1
  have c2 := h.blk.cell 2
  have c3 := h.blk.cell 3
  have fz := h.blk.frozen
  have hg := h.blk.lt
  simp only [List.getElem?_toArray, List.getElem?_cons_zero, List.getElem?_cons_succ] at c0 c1 c2 c3
  go_enter Try.func54, Try.ntmps54
  go_wp2_with fail
  refine bodyPost_end (by simp [results, Try.results54, go_sem]) rfl ⟨rfl, ⟨h.ge, ?_, World.ownsRow_nil _ _ _ _⟩, ?_⟩
  · exact (((h.blk.set_ 0 (.int .u64 a)).set_ 1 (.int .i64 0)).set_ 2 (.int .i64 0)).set_ 3 (.slice none 0 0)
  · exact ((((Keeps.refl [g] w).setCell (p := ⟨g, 0, none⟩) (.inl (by simp)) _).setCell (p := ⟨g, 1, none⟩) (.inl (by simp)) _).setCell (p := ⟨g, 2, none⟩) (.inl (by simp)) _).setCell (p := ⟨g, 3, none⟩) (.inl (by simp)) _
end Go.Proofs.Ytgdmejkneabclaa
