/- A table as bytes, plain. No program in sight. -/
import Derived.Test.YtehfddafjemedaaPure16
import Derived.Test.YtehfddafjemedaaFixOut2
namespace Go.Proofs.Ytehfddafjemedaa
open Go.RowKit
set_option linter.unusedSimpArgs false
set_option linter.unusedVariables false

/-- A row whose numbers are in range, and that is fine. -/
structure RowOk (r : SRow) : Prop where
  fine : r.fine = true
  num : r.num < 18446744073709551616
  seq : r.seq < 18446744073709551616
  ver0 : 0 ≤ r.ver
  ver : r.ver < 18446744073709551616
theorem RowOk.cl {r : SRow} (h : RowOk r) : 1 ≤ r.cl ∧ r.cl ≤ 6 := by have := fine_cl h.fine; omega
theorem RowOk.num1 {r : SRow} (h : RowOk r) : 1 ≤ r.num := by have := fine_cl h.fine; omega
theorem RowOk.seq1 {r : SRow} (h : RowOk r) : 1 ≤ r.seq := by have := fine_cl h.fine; omega
theorem RowOk.code {r : SRow} (h : RowOk r) : 0 ≤ r.code ∧ r.code ≤ 255 := by have := fine_cl h.fine; omega

def rowB (r : SRow) : List UInt8 := beB r.cl.toNat 1 ++ (beB r.num.toNat 8 ++ (beB r.seq.toNat 8 ++ (beB r.code.toNat 1 ++ beB r.ver.toNat 8)))
def tabB (l : List SRow) : List UInt8 := beB l.length 1 ++ l.flatMap rowB
theorem rowB_len (r : SRow) : (rowB r).length = 26 := by simp [rowB, beB_len]
theorem rows_len (l : List SRow) : (l.flatMap rowB).length = 26 * l.length := by
  induction l with
  | nil => rfl
  | cons r l ih => rw [List.flatMap_cons, List.length_append, rowB_len, ih, List.length_cons]; omega
theorem tabB_len (l : List SRow) : (tabB l).length = 1 + 26 * l.length := by simp only [tabB, List.length_append, beB_len, rows_len]
theorem rows_succ (l : List SRow) (k : Nat) (h : k < l.length) : (l.take (k + 1)).flatMap rowB = (l.take k).flatMap rowB ++ rowB (l.getD k .zero) := by
  rw [take_succ_getD l k .zero h, List.flatMap_append]
  simp

theorem put_app (T : List UInt8) (n k : Nat) (h1 : 1 ≤ k ∧ k ≤ 8) (h2 : n < 256 ^ k) (h3 : T.length + k ≤ 500) : putN ⟨T, 500, 0⟩ (n : Int) (k : Int) = ⟨T ++ beB n k, 500, 0⟩ := by
  have e1 : knownB (k : Int) = true := by simp [knownB]; omega
  have e2 : fitsB n k = true := by simpa [fitsB] using h2
  unfold putN
  rw [if_neg (by rw [e1]; simp), Int.toNat_natCast, Int.toNat_natCast, if_neg (by rw [e2]; simp)]
  unfold putS
  rw [if_neg (by simp), if_neg (by simp only [beB_len]; omega)]
end Go.Proofs.Ytehfddafjemedaa
