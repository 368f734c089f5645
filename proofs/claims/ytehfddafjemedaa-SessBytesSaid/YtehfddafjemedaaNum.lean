/- Numbers of a fixed width as bytes, plain. No program in sight. -/
import Derived.Test.YtehfddafjemedaaMem
namespace Go.Proofs.Ytehfddafjemedaa
set_option linter.unusedSimpArgs false
set_option linter.unusedVariables false

/-- The last w bytes of a number, the greatest first. -/
def beB (n : Nat) : Nat → List UInt8
  | 0 => []
  | w + 1 => UInt8.ofNat (n / 256 ^ w) :: beB n w
/-- The number that bytes are. -/
def beN (l : List UInt8) : Nat := l.foldl (fun a c => a * 256 + c.toNat) 0

theorem beB_len (n w : Nat) : (beB n w).length = w := by induction w with
  | zero => rfl
  | succ w ih => simp [beB, ih]
theorem beB_snoc (n w : Nat) : beB n (w + 1) = beB (n / 256) w ++ [UInt8.ofNat n] := by
  induction w with
  | zero => simp [beB]
  | succ w ih =>
    have e : n / 256 ^ (w + 1) = n / 256 / 256 ^ w := by rw [Nat.div_div_eq_div_mul, Nat.pow_succ, Nat.mul_comm]
    rw [beB, ih, beB, e]
    rfl
theorem beN_nil : beN [] = 0 := rfl
theorem beN_snoc (l : List UInt8) (c : UInt8) : beN (l ++ [c]) = beN l * 256 + c.toNat := by simp [beN]
theorem pow256_pos (w : Nat) : 0 < 256 ^ w := Nat.pos_of_ne_zero (by simp)
theorem beN_beB (n w : Nat) (h : n < 256 ^ w) : beN (beB n w) = n := by
  induction w generalizing n with
  | zero => simp at h; subst h; rfl
  | succ w ih =>
    rw [beB_snoc, beN_snoc, ih (n / 256) (by rw [Nat.div_lt_iff_lt_mul (by omega)]; rw [Nat.pow_succ] at h; exact h)]
    rw [UInt8.toNat_ofNat']
    omega
theorem beN_lt (l : List UInt8) : beN l < 256 ^ l.length := by
  have key : ∀ (l : List UInt8) (a : Nat), l.foldl (fun a c => a * 256 + c.toNat) a < (a + 1) * 256 ^ l.length := by
    intro l
    induction l with
    | nil => intro a; simp
    | cons c l ih =>
      intro a
      have h1 := ih (a * 256 + c.toNat)
      have hc := c.toNat_lt
      have h2 : (a * 256 + c.toNat + 1) * 256 ^ l.length ≤ ((a + 1) * 256) * 256 ^ l.length := Nat.mul_le_mul_right _ (by omega)
      rw [List.foldl_cons, List.length_cons, Nat.pow_succ, Nat.mul_comm (256 ^ l.length) 256, ← Nat.mul_assoc]
      exact Nat.lt_of_lt_of_le h1 h2
  have := key l 0
  simpa [beN] using this
theorem beB_beN (l : List UInt8) : beB (beN l) l.length = l := by
  have key : ∀ (k : Nat) (l : List UInt8), l.length = k → beB (beN l) k = l := by
    intro k
    induction k with
    | zero => intro l h; rw [List.eq_nil_of_length_eq_zero h]; rfl
    | succ k ih =>
      intro l h
      have hne : l ≠ [] := by intro e; rw [e] at h; simp at h
      obtain ⟨t, c, rfl⟩ : ∃ t c, l = t ++ [c] := ⟨l.dropLast, l.getLast hne, (List.dropLast_concat_getLast hne).symm⟩
      rw [beB_snoc, beN_snoc]
      have hc := c.toNat_lt
      have e1 : (beN t * 256 + c.toNat) / 256 = beN t := by omega
      have e2 : UInt8.ofNat (beN t * 256 + c.toNat) = c := by
        apply UInt8.toNat_inj.1
        rw [UInt8.toNat_ofNat']
        omega
      rw [e1, e2, ih t (by simpa using h)]
  exact key l.length l rfl
theorem beN_take_succ (l : List UInt8) (k : Nat) (h : k < l.length) : beN (l.take (k + 1)) = beN (l.take k) * 256 + (l.getD k 0).toNat := by
  rw [take_succ_getD l k 0 h, beN_snoc]
theorem beN_take_lt (l : List UInt8) (k : Nat) : beN (l.take k) < 256 ^ k := by
  have := beN_lt (l.take k)
  exact Nat.lt_of_lt_of_le this (Nat.pow_le_pow_right (by omega) (List.length_take_le _ _))
/-- A byte of the row that is laid, one at a time from behind. -/
theorem laid_set (n w i : Nat) (h : i < w) : (List.replicate (w - i) (0 : UInt8) ++ beB n i).set (w - 1 - i) (UInt8.ofNat (n / 256 ^ i)) = List.replicate (w - (i + 1)) 0 ++ beB n (i + 1) := by
  obtain ⟨m, hm⟩ : ∃ m, w - i = m + 1 := ⟨w - i - 1, by omega⟩
  have e1 : w - 1 - i = m := by omega
  have e2 : w - (i + 1) = m := by omega
  rw [hm, e1, e2]
  rw [List.set_append_left _ _ (by simp), List.replicate_succ', List.set_append_right _ _ (by simp)]
  simp [beB]
theorem two_pow (k : Nat) : (2 : Int) ^ (8 * k) = ((256 ^ k : Nat) : Int) := by
  have h : (256 : Nat) ^ k = 2 ^ (8 * k) := by rw [Nat.pow_mul]
  rw [h, Int.natCast_pow]
  rfl

def knownB (w : Int) : Bool := decide (1 ≤ w ∧ w ≤ 8)
def fitsB (n k : Nat) : Bool := decide (n < 256 ^ k)
end Go.Proofs.Ytehfddafjemedaa
