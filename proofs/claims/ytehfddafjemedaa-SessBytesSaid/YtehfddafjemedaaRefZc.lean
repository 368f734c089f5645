/- Contracts of the document's In over a zone of blocks: Get. -/
import Derived.Test.YtehfddafjemedaaRefZb
namespace Go.Proofs.Ytehfddafjemedaa
open Go.RowKit
set_option linter.unusedSimpArgs false
set_option linter.unusedVariables false


theorem zGet_any (Z : Nat → Prop) (A : Option Addr) (n c : Nat) (s : IS) (k : Int) (w : World) (h : ZIn Z w A n c s) :
    Calls Try.prog 45 #[rinV A n c s.err, .int .i64 k] w fun e w' => ZNum Z (uptoS s k 18446744073709551615) (uptoN s k 18446744073709551615) e w' ∧ Below w.heap.size w w' := by
  obtain ⟨M, hM⟩ : ∃ M, M = 18446744073709551615 := ⟨_, rfl⟩
  rw [← hM]
  have hu := fun W (hW : ZIn Z W A n c s) => zUpto_any Z A n c s k M W hW
  have HM : Hid ((M : Int) = 18446744073709551615) := Lib.hid (by rw [hM]; rfl)
  rw [HM.out] at hu
  clear hM
  unfold ZNum rinV at hu
  unfold rinV
  obtain ⟨E1, hE1⟩ : ∃ z, (uptoS s k M).err = z := ⟨_, rfl⟩
  obtain ⟨N, hN⟩ : ∃ z, uptoN s k M = z := ⟨_, rfl⟩
  rw [hE1, hN] at hu
  have HE := Lib.hid hE1
  have HN := Lib.hid hN
  clear hE1 hN
  go_enter Try.func45, Try.ntmps45
  go_wp2_with fail
  have hX : Below w.heap.size w ((w.alloc (.cells #[.slice A n c, .int .i64 s.err] 76)).alloc (.cells #[.slice none 0 0, .int .i64 0] 76)) := ((Below.refl _ _).alloc (Nat.le_refl _) _).alloc (by simp) _
  have hbr : Blk ((w.alloc (.cells #[.slice A n c, .int .i64 s.err] 76)).alloc (.cells #[.slice none 0 0, .int .i64 0] 76)) (w.heap.size + 1) 76 #[.slice none 0 0, .int .i64 0] := by
    have := Blk.new (w.alloc (.cells #[.slice A n c, .int .i64 s.err] 76)) 76 #[.slice none 0 0, .int .i64 0]
    simpa using this
  generalize ((w.alloc (.cells #[.slice A n c, .int .i64 s.err] 76)).alloc (.cells #[.slice none 0 0, .int .i64 0] 76)) = X at hX hbr ⊢
  refine (hu X (h.below hX)).mono ?_
  rintro e w1 ⟨⟨A1, n1, c1, rfl, h1⟩, hb1⟩
  have hbr1 := hbr.below hb1 hbr.lt
  have hB1 := hX.trans (hb1.mono hX.size)
  have d0 := hbr1.cell 0
  have d1 := hbr1.cell 1
  have dz := hbr1.frozen
  have dl := hbr1.lt
  simp only [List.getElem?_toArray, List.getElem?_cons_zero, List.getElem?_cons_succ] at d0 d1
  clear hu
  go_wp2_with fail
  refine bodyPost_ret (v := .tuple #[.agg #[.slice A1 n1 c1, .int .i64 E1], .int .u64 (N : Int)]) (by simp [results, Try.results45, go_sem, d0, d1, dl]) rfl ?_
  refine ⟨⟨A1, n1, c1, by rw [HE.out, HN.out]; rfl, h1.stored hbr1 _ _⟩, (hB1.setCell (by simp) _).setCell (by simp) _⟩

end Go.Proofs.Ytehfddafjemedaa
