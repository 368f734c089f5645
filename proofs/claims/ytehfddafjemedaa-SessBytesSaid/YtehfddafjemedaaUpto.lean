/- Reading a number, plain. -/
import Derived.Test.YtehfddafjemedaaFixIn2
namespace Go.Proofs.Ytehfddafjemedaa
open Go.RowKit
set_option linter.unusedSimpArgs false
set_option linter.unusedVariables false

theorem upto_zero (D : List UInt8) (k : Int) (M : Nat) : uptoS ⟨D, 0⟩ k M = (if knownB k = false then inF ⟨D, 0⟩ 1 else if D.length < k.toNat then inF ⟨D, 0⟩ 3 else if M < beN (D.take k.toNat) then inF ⟨D.drop k.toNat, 0⟩ 4 else ⟨D.drop k.toNat, 0⟩) ∧
    uptoN ⟨D, 0⟩ k M = (if knownB k = false then 0 else if D.length < k.toNat then 0 else if M < beN (D.take k.toNat) then 0 else beN (D.take k.toNat)) := by
  unfold uptoS uptoN
  have h0 : ¬ ((⟨D, 0⟩ : IS).err ≠ 0) := by simp
  rw [if_neg h0, if_neg h0]
  by_cases hk : knownB k = false
  · rw [if_pos hk, if_pos hk, if_pos hk, if_pos hk]
    exact ⟨rfl, rfl⟩
  · rw [if_neg hk, if_neg hk, if_neg hk, if_neg hk]
    by_cases hlt : D.length < k.toNat
    · have ho : okN ⟨D, 0⟩ k.toNat = false := by unfold okN; exact decide_eq_false (by simp only; omega)
      rw [if_pos ho, if_pos ho, if_pos hlt, if_pos hlt]
      unfold nextS
      rw [if_neg h0, if_pos hlt]
      exact ⟨rfl, rfl⟩
    · have ho : okN ⟨D, 0⟩ k.toNat = true := by unfold okN; exact decide_eq_true ⟨rfl, by simp only; omega⟩
      have hb : nextB ⟨D, 0⟩ k.toNat = D.take k.toNat := by unfold nextB; rw [if_pos ho]
      have hs : nextS ⟨D, 0⟩ k.toNat = ⟨D.drop k.toNat, 0⟩ := by unfold nextS; rw [if_neg h0, if_neg hlt]
      have ho2 : ¬ okN ⟨D, 0⟩ k.toNat = false := by rw [ho]; simp
      rw [if_neg ho2, if_neg ho2, if_neg hlt, if_neg hlt, hb, hs]
      exact ⟨rfl, rfl⟩

theorem upto_app (X : List UInt8) (n k most : Nat) (hk : 1 ≤ k ∧ k ≤ 8) (hn : n < 256 ^ k) (hm : n ≤ most) : uptoS ⟨beB n k ++ X, 0⟩ k most = ⟨X, 0⟩ ∧ uptoN ⟨beB n k ++ X, 0⟩ k most = n := by
  obtain ⟨e1, e2⟩ := upto_zero (beB n k ++ X) k most
  have hl := beB_len n k
  have h1 : ¬ knownB (k : Int) = false := by rw [show knownB (k : Int) = true by simp [knownB]; omega]; simp
  have h2 : ¬ (beB n k ++ X).length < (k : Int).toNat := by rw [List.length_append, hl, Int.toNat_natCast]; omega
  have h3 : (beB n k ++ X).take (k : Int).toNat = beB n k := by rw [Int.toNat_natCast, List.take_append_of_le_length (by omega), List.take_of_length_le (by omega)]
  have h4 : (beB n k ++ X).drop (k : Int).toNat = X := by rw [Int.toNat_natCast, List.drop_append_of_le_length (by omega), List.drop_of_length_le (by omega)]; rfl
  rw [if_neg h1, if_neg h2, h3, h4, beN_beB n k hn, if_neg (by omega)] at e1
  rw [if_neg h1, if_neg h2, h3, beN_beB n k hn, if_neg (by omega)] at e2
  exact ⟨e1, e2⟩
theorem upto_lt (s : IS) (k most : Nat) (hk : k ≤ 8) : uptoN s k most < 256 ^ k := by
  have hpos := pow256_pos k
  unfold uptoN
  split
  · exact hpos
  · split
    · exact hpos
    · split
      · exact hpos
      · split
        · exact hpos
        · refine Nat.lt_of_lt_of_le (beN_lt _) (Nat.pow_le_pow_right (by omega) ?_)
          rw [Int.toNat_natCast]
          exact nextB_len s k
theorem upto_most (s : IS) (k : Int) (most : Nat) : uptoN s k most ≤ most := by
  unfold uptoN
  repeat' split
  all_goals omega
end Go.Proofs.Ytehfddafjemedaa
