/- Frames, plain. -/
import Derived.Test.YtgflgncpjlgeoaaCrcP
import Derived.Test.YtgflgncpjlgeoaaFixIn2
namespace Go.Proofs.Ytgflgncpjlgeoaa
open Go.RowKit
set_option linter.unusedSimpArgs false
set_option linter.unusedVariables false

/-- A frame that is cut off: its kind, body, number of bytes; the error. -/
structure FrR where
  kind : UInt8
  body : List UInt8
  n : Nat
  e : Int
def frBad (e : Int) : FrR := ⟨0, [], 0, e⟩
def lenF (b : List UInt8) : Nat := beN ((b.drop 1).take 2)
def cutF (b : List UInt8) : FrR :=
  if b.length < 3 then frBad 3 else if b.getD 0 0 = 0 then frBad 4 else if 16384 < lenF b then frBad 6 else if b.length < lenF b + 7 then frBad 3
  else if fitsC (b.take (lenF b + 7)) = false then frBad 5 else ⟨b.getD 0 0, (b.drop 3).take (lenF b), lenF b + 7, 0⟩
def getF (b : List UInt8) : FrR := if (cutF b).e = 0 ∧ (cutF b).n < b.length then frBad 4 else cutF b
/-- A frame's bytes. -/
def putE (k : UInt8) (body : List UInt8) : Int := if k = 0 then 4 else if 16384 < body.length then 6 else 0
def putF (k : UInt8) (body : List UInt8) : List UInt8 := if putE k body = 0 then sealB ([k] ++ beB body.length 2 ++ body) else []

theorem upto_zero (D : List UInt8) (k : Int) (M : Nat) : uptoS ⟨D, 0⟩ k M = (if knownB k = false then inF ⟨D, 0⟩ 1 else if D.length < k.toNat then inF ⟨D, 0⟩ 3 else if M < beN (D.take k.toNat) then inF ⟨D.drop k.toNat, 0⟩ 4 else ⟨D.drop k.toNat, 0⟩) ∧
    uptoN ⟨D, 0⟩ k M = (if knownB k = false then 0 else if D.length < k.toNat then 0 else if M < beN (D.take k.toNat) then 0 else beN (D.take k.toNat)) := by
  unfold uptoS uptoN
  have h0 : ¬ ((⟨D, 0⟩ : IS).err ≠ 0) := by simp
  rw [if_neg h0, if_neg h0]
  by_cases hk : knownB k = false
  · rw [if_pos hk, if_pos hk, if_pos hk, if_pos hk]
    exact ⟨rfl, rfl⟩
  · rw [if_neg hk, if_neg hk, if_neg hk, if_neg hk]
    by_cases hlt : D.length < k.toNat
    · have ho : okN ⟨D, 0⟩ k.toNat = false := by unfold okN; exact decide_eq_false (by simp only; omega)
      rw [if_pos ho, if_pos ho, if_pos hlt, if_pos hlt]
      unfold nextS
      rw [if_neg h0, if_pos hlt]
      exact ⟨rfl, rfl⟩
    · have ho : okN ⟨D, 0⟩ k.toNat = true := by unfold okN; exact decide_eq_true ⟨rfl, by simp only; omega⟩
      have hb : nextB ⟨D, 0⟩ k.toNat = D.take k.toNat := by unfold nextB; rw [if_pos ho]
      have hs : nextS ⟨D, 0⟩ k.toNat = ⟨D.drop k.toNat, 0⟩ := by unfold nextS; rw [if_neg h0, if_neg hlt]
      have ho2 : ¬ okN ⟨D, 0⟩ k.toNat = false := by rw [ho]; simp
      rw [if_neg ho2, if_neg ho2, if_neg hlt, if_neg hlt, hb, hs]
      exact ⟨rfl, rfl⟩
theorem upto_ok {D : List UInt8} {j : Nat} (hj : 1 ≤ j ∧ j ≤ 8) (hl : j ≤ D.length) : uptoS ⟨D, 0⟩ (j : Int) 18446744073709551615 = ⟨D.drop j, 0⟩ ∧ uptoN ⟨D, 0⟩ (j : Int) 18446744073709551615 = beN (D.take j) := by
  obtain ⟨e1, e2⟩ := upto_zero D (j : Int) 18446744073709551615
  have hk : ¬ knownB (j : Int) = false := by
    have : knownB (j : Int) = true := decide_eq_true (by omega)
    rw [this]; simp
  have h2 := beN_take_lt D j
  have hp : 256 ^ j ≤ 256 ^ 8 := Nat.pow_le_pow_right (by omega) hj.2
  rw [Int.toNat_natCast] at e1 e2
  rw [e1, e2, if_neg hk, if_neg hk, if_neg (by omega), if_neg (by omega), if_neg (by omega), if_neg (by omega)]
  exact ⟨rfl, rfl⟩
theorem upto_short {D : List UInt8} {j : Nat} (hj : 1 ≤ j ∧ j ≤ 8) (hl : D.length < j) : (uptoS ⟨D, 0⟩ (j : Int) 18446744073709551615).err = 3 := by
  obtain ⟨e1, _⟩ := upto_zero D (j : Int) 18446744073709551615
  have hk : ¬ knownB (j : Int) = false := by
    have : knownB (j : Int) = true := decide_eq_true (by omega)
    rw [this]; simp
  rw [Int.toNat_natCast] at e1
  rw [e1, if_neg hk, if_pos hl]
  rfl
theorem upto_err {s : IS} {k : Int} {M : Nat} (h : s.err ≠ 0) : uptoS s k M = s := by unfold uptoS; rw [if_pos h]
theorem head3 {b : List UInt8} (h : 3 ≤ b.length) : uptoS ⟨b.take 3, 0⟩ 1 18446744073709551615 = ⟨(b.take 3).drop 1, 0⟩ ∧ uptoN ⟨b.take 3, 0⟩ 1 18446744073709551615 = (b.getD 0 0).toNat ∧
    uptoS ⟨(b.take 3).drop 1, 0⟩ 2 18446744073709551615 = ⟨[], 0⟩ ∧ uptoN ⟨(b.take 3).drop 1, 0⟩ 2 18446744073709551615 = lenF b ∧ lenF b < 65536 := by
  match b, h with
  | x :: y :: z :: r, _ =>
    have h1 := @upto_ok [x, y, z] 1 (by omega) (by simp)
    have h2 := @upto_ok [y, z] 2 (by omega) (by simp)
    have h3 : beN [y, z] < 65536 := by have := beN_lt [y, z]; simpa using this
    have h4 : beN [x] = x.toNat := by simp [beN]
    have h5 : lenF (x :: y :: z :: r) = beN [y, z] := rfl
    rw [h5]
    have h6 : uptoN ⟨[x, y, z], 0⟩ 1 18446744073709551615 = x.toNat := h1.2.trans h4
    have h7 : uptoS ⟨[x, y, z], 0⟩ 1 18446744073709551615 = ⟨[y, z], 0⟩ := h1.1
    have h8 : uptoS ⟨[y, z], 0⟩ 2 18446744073709551615 = ⟨[], 0⟩ := h2.1
    have h9 : uptoN ⟨[y, z], 0⟩ 2 18446744073709551615 = beN [y, z] := h2.2
    exact ⟨h7, h6, h8, h9, h3⟩
theorem head_short {b : List UInt8} (h : b.length < 3) : (uptoS (uptoS ⟨b, 0⟩ 1 18446744073709551615) 2 18446744073709551615).err ≠ 0 := by
  by_cases h1 : b.length < 1
  · have e1 := @upto_short b 1 (by omega) h1
    rw [show ((1 : Nat) : Int) = 1 from rfl] at e1
    rw [upto_err (by rw [e1]; omega), e1]
    omega
  · obtain ⟨e1, _⟩ := @upto_ok b 1 (by omega) (by omega)
    rw [show ((1 : Nat) : Int) = 1 from rfl] at e1
    have e2 := @upto_short (b.drop 1) 2 (by omega) (by rw [List.length_drop]; omega)
    rw [show ((2 : Nat) : Int) = 2 from rfl] at e2
    rw [e1, e2]
    omega

/-! ### What is put is got -/
theorem put_len {k : UInt8} {body : List UInt8} (h : putE k body = 0) : (putF k body).length = body.length + 7 := by
  unfold putF
  rw [if_pos h, sealB_len]
  simp [beB_len]
  omega
theorem put_head {k : UInt8} {body : List UInt8} (h : putE k body = 0) : ∃ cs : List UInt8, cs.length = 4 ∧ putF k body = [k] ++ beB body.length 2 ++ body ++ cs ∧ fitsC (putF k body) = true := by
  unfold putF
  rw [if_pos h]
  exact ⟨leB (crcOf ([k] ++ beB body.length 2 ++ body)), rfl, rfl, fits_seal _⟩
theorem putE_zero {k : UInt8} {body : List UInt8} (h : putE k body = 0) : k ≠ 0 ∧ body.length ≤ 16384 := by
  unfold putE at h
  split at h
  · cases h
  · split at h
    · cases h
    · exact ⟨by assumption, by omega⟩
theorem two_bytes (n : Nat) (rest : List UInt8) : ∃ a b, beB n 2 ++ rest = a :: b :: rest ∧ beB n 2 = [a, b] := by
  have h := beB_len n 2
  match hh : beB n 2, h with
  | [a, b], _ => exact ⟨a, b, rfl, rfl⟩
theorem put_parts {k : UInt8} {body : List UInt8} (h : putE k body = 0) : (putF k body).getD 0 0 = k ∧ lenF (putF k body) = body.length ∧ ((putF k body).drop 3).take body.length = body := by
  obtain ⟨cs, hcs, e, _⟩ := put_head h
  obtain ⟨h1, h2⟩ := putE_zero h
  obtain ⟨a, b, _, e2⟩ := two_bytes body.length []
  have e3 := beN_beB body.length 2 (by omega)
  rw [e2] at e e3
  rw [e]
  refine ⟨rfl, ?_, ?_⟩
  · unfold lenF
    simpa using e3
  · simp
theorem cut_put {k : UInt8} {body : List UInt8} (h : putE k body = 0) : cutF (putF k body) = ⟨k, body, body.length + 7, 0⟩ := by
  obtain ⟨h1, h2⟩ := putE_zero h
  obtain ⟨p1, p2, p3⟩ := put_parts h
  obtain ⟨_, _, _, hf⟩ := put_head h
  have hl := put_len h
  unfold cutF
  rw [p1, p2, p3, hl, List.take_of_length_le (by omega), hf, if_neg (by omega), if_neg h1, if_neg (by omega), if_neg (by omega), if_neg (by simp)]
theorem get_put {k : UInt8} {body : List UInt8} (h : putE k body = 0) : getF (putF k body) = ⟨k, body, body.length + 7, 0⟩ := by
  unfold getF
  rw [cut_put h, put_len h, if_neg (by simp)]
/-- Each beginning of it, but all, is too short. -/
theorem cut_short {k : UInt8} {body : List UInt8} (h : putE k body = 0) {i : Nat} (hi : i < body.length + 7) : (cutF ((putF k body).take i)).e = 3 := by
  obtain ⟨h1, h2⟩ := putE_zero h
  obtain ⟨p1, p2, p3⟩ := put_parts h
  have hl := put_len h
  have hil : ((putF k body).take i).length = i := by rw [List.length_take]; omega
  by_cases h3 : i < 3
  · unfold cutF
    rw [hil, if_pos h3]
    rfl
  · have q1 : ((putF k body).take i).getD 0 0 = k := by
      rw [List.getD_eq_getElem?_getD, List.getElem?_take, if_pos (by omega), ← List.getD_eq_getElem?_getD]
      exact p1
    have q2 : lenF ((putF k body).take i) = body.length := by
      rw [← p2]
      unfold lenF
      rw [List.drop_take, List.take_take, Nat.min_eq_left (by omega)]
    unfold cutF
    rw [hil, q1, q2, if_neg h3, if_neg h1, if_neg (by omega), if_pos hi]
    rfl
/-- With bits turned within a window of 32 it is refused, unless it is the same. -/
theorem get_turned {k : UInt8} {body x : List UInt8} (h : putE k body = 0) (bit : Int) (p : Nat) (hx : x = turnB (putF k body) bit p) : ((getF x).e = 0 ↔ x = putF k body) := by
  obtain ⟨_, _, _, hf⟩ := put_head h
  have hl := put_len h
  have hxl : x.length = body.length + 7 := by rw [hx, turnB_len, hl]
  have hb := fits_burst (putF k body) bit p (by omega) hf
  rw [← hx] at hb
  constructor
  · intro he
    unfold getF at he
    split at he
    · cases he
    · rename_i hn
      have hcl : ¬ (cutF x).n < x.length := fun h2 => hn ⟨he, h2⟩
      unfold cutF at he hcl
      split at he
      · cases he
      · rename_i a1
        rw [if_neg a1] at hcl
        split at he
        · cases he
        · rename_i a2
          rw [if_neg a2] at hcl
          split at he
          · cases he
          · rename_i a3
            rw [if_neg a3] at hcl
            split at he
            · cases he
            · rename_i a4
              rw [if_neg a4] at hcl
              split at he
              · cases he
              · rename_i a5
                rw [if_neg a5] at hcl
                simp only at hcl
                rw [List.take_of_length_le (by omega), hb] at a5
                simpa using a5
  · intro e
    rw [e, get_put h]
end Go.Proofs.Ytgflgncpjlgeoaa
