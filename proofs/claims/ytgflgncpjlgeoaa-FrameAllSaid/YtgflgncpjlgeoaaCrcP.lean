/- Sums of 32 bits over bytes, plain. No program in sight. -/
import Derived.Test.YtgflgncpjlgeoaaNum
namespace Go.Proofs.Ytgflgncpjlgeoaa
set_option linter.unusedSimpArgs false
set_option linter.unusedVariables false

/-- A state behind halving once; k times. -/
def half (s : Nat) : Nat := if s % 2 = 1 then s / 2 ^^^ 3988292384 else s / 2
def halfN : Nat → Nat → Nat
  | 0, s => s
  | k + 1, s => halfN k (half s)
def onC (s : Nat) (b : List UInt8) : Nat := b.foldl (fun s c => halfN 8 (s ^^^ c.toNat)) s
def oth (s : Nat) : Nat := s ^^^ 4294967295
def crcOf (b : List UInt8) : Nat := oth (onC 4294967295 b)
def crcMore (sum : Nat) (b : List UInt8) : Nat := oth (onC (oth sum) b)

theorem xor_lt32 {a b : Nat} (ha : a < 4294967296) (hb : b < 4294967296) : a ^^^ b < 4294967296 := Nat.xor_lt_two_pow (n := 32) ha hb
theorem half_lt {s : Nat} (h : s < 4294967296) : half s < 4294967296 := by
  unfold half
  split
  · exact xor_lt32 (by omega) (by omega)
  · omega
theorem halfN_lt {s : Nat} (k : Nat) (h : s < 4294967296) : halfN k s < 4294967296 := by
  induction k generalizing s with
  | zero => exact h
  | succ k ih => exact ih (half_lt h)
theorem oth_lt {s : Nat} (h : s < 4294967296) : oth s < 4294967296 := xor_lt32 h (by omega)
theorem oth_oth (s : Nat) : oth (oth s) = s := by unfold oth; rw [Nat.xor_assoc, Nat.xor_self, Nat.xor_zero]
theorem u8_lt32 (c : UInt8) : c.toNat < 4294967296 := by have := c.toNat_lt; omega
theorem onC_lt {s : Nat} (b : List UInt8) (h : s < 4294967296) : onC s b < 4294967296 := by
  induction b generalizing s with
  | nil => exact h
  | cons c b ih => exact ih (halfN_lt 8 (xor_lt32 h (u8_lt32 c)))
theorem crcOf_lt (b : List UInt8) : crcOf b < 4294967296 := oth_lt (onC_lt b (by omega))
theorem crcMore_lt {s : Nat} (b : List UInt8) (h : s < 4294967296) : crcMore s b < 4294967296 := oth_lt (onC_lt b (oth_lt h))

theorem xor_div2 (a b : Nat) : (a ^^^ b) / 2 = a / 2 ^^^ b / 2 := by
  apply Nat.eq_of_testBit_eq
  intro i
  simp [Nat.testBit_xor, Nat.testBit_div_two]
theorem xor_mod2 (a b : Nat) : (a ^^^ b) % 2 = (a % 2 + b % 2) % 2 := by
  have h := Nat.testBit_xor a b 0
  simp only [Nat.testBit_zero] at h
  have ha : a % 2 = 0 ∨ a % 2 = 1 := by omega
  have hb : b % 2 = 0 ∨ b % 2 = 1 := by omega
  have hx : (a ^^^ b) % 2 = 0 ∨ (a ^^^ b) % 2 = 1 := by omega
  rcases ha with ha | ha <;> rcases hb with hb | hb <;> rcases hx with hx | hx <;> simp [ha, hb, hx] at h ⊢
theorem half_xor (a b : Nat) : half (a ^^^ b) = half a ^^^ half b := by
  unfold half
  rw [xor_mod2, xor_div2]
  have ha : a % 2 = 0 ∨ a % 2 = 1 := by omega
  have hb : b % 2 = 0 ∨ b % 2 = 1 := by omega
  rcases ha with ha | ha <;> rcases hb with hb | hb <;> simp [ha, hb]
  · rw [Nat.xor_assoc]
  · rw [Nat.xor_assoc, Nat.xor_assoc]
    congr 1
    exact Nat.xor_comm _ _
  · rw [Nat.xor_assoc, Nat.xor_comm (b / 2), ← Nat.xor_assoc 3988292384, Nat.xor_self, Nat.zero_xor]
theorem halfN_xor (k a b : Nat) : halfN k (a ^^^ b) = halfN k a ^^^ halfN k b := by
  induction k generalizing a b with
  | zero => rfl
  | succ k ih => rw [halfN, halfN, halfN, half_xor, ih]
theorem half_two (x : Nat) : half (2 * x) = x := by unfold half; rw [if_neg (by omega)]; omega
theorem halfN_two (k x : Nat) : halfN k (2 ^ k * x) = x := by
  induction k generalizing x with
  | zero => simp [halfN]
  | succ k ih =>
    rw [halfN, show 2 ^ (k + 1) * x = 2 * (2 ^ k * x) by rw [Nat.pow_succ, Nat.mul_assoc, Nat.mul_comm 2 x, ← Nat.mul_assoc, Nat.mul_comm 2]; , half_two, ih]
theorem halfN_add (j k s : Nat) : halfN (j + k) s = halfN k (halfN j s) := by
  induction j generalizing s with
  | zero => simp [halfN]
  | succ j ih => rw [show j + 1 + k = (j + k) + 1 by omega, halfN, ih, halfN]
theorem halfN_zero (k : Nat) : halfN k 0 = 0 := by
  have := halfN_two k 0
  simpa using this
theorem split8 (s : Nat) : s = 256 * (s / 256) ^^^ s % 256 := by
  have h : 256 * (s / 256) + s % 256 = s := Nat.div_add_mod s 256
  have h2 := Nat.two_pow_add_eq_or_of_lt (i := 8) (b := s % 256) (by omega) (s / 256)
  have h3 : (256 * (s / 256)) &&& (s % 256) = 0 := by
    apply Nat.eq_of_testBit_eq
    intro i
    rw [Nat.testBit_and, show 256 * (s / 256) = 2 ^ 8 * (s / 256) by rfl, Nat.testBit_two_pow_mul, show s % 256 = s % 2 ^ 8 by rfl, Nat.testBit_mod_two_pow]
    by_cases hi : i < 8 <;> simp [hi]
    omega
  apply Nat.eq_of_testBit_eq
  intro i
  have h4 := congrArg (fun n => n.testBit i) h3
  simp only [Nat.testBit_and, Nat.zero_testBit] at h4
  have h5 : s = 256 * (s / 256) ||| s % 256 := by
    rw [show (256 : Nat) * (s / 256) = 2 ^ 8 * (s / 256) by rfl, ← h2]
    exact h.symm
  have h6 := congrArg (fun n => n.testBit i) h5
  simp only [Nat.testBit_or] at h6
  rw [Nat.testBit_xor, h6]
  clear h h2 h3 h5 h6
  revert h4
  cases (256 * (s / 256)).testBit i <;> cases (s % 256).testBit i <;> simp
/-- A byte more, by the table. -/
theorem on_table (s c : Nat) : halfN 8 (s ^^^ c) = halfN 8 ((s % 256) ^^^ c) ^^^ s / 256 := by
  have h : halfN 8 (s ^^^ c) = halfN 8 ((256 * (s / 256) ^^^ s % 256) ^^^ c) := congrArg (fun n => halfN 8 (n ^^^ c)) (split8 s)
  rw [h, Nat.xor_assoc, halfN_xor, show 256 * (s / 256) = 2 ^ 8 * (s / 256) by rfl, halfN_two, Nat.xor_comm]
theorem onC_append (s : Nat) (a b : List UInt8) : onC s (a ++ b) = onC (onC s a) b := by simp [onC, List.foldl_append]
theorem onC_snoc (s : Nat) (a : List UInt8) (c : UInt8) : onC s (a ++ [c]) = halfN 8 (onC s a ^^^ c.toNat) := by simp [onC]
theorem crcMore_of (a b : List UInt8) : crcMore (crcOf a) b = crcOf (a ++ b) := by
  unfold crcMore crcOf
  rw [oth_oth, onC_append]
theorem crcOf_nil : crcOf [] = 0 := by decide
theorem crcMore_zero (b : List UInt8) : crcMore 0 b = crcOf b := by rw [← crcOf_nil, crcMore_of]; rfl

/-! ### Sealed bytes -/
def leB (v : Nat) : List UInt8 := [UInt8.ofNat v, UInt8.ofNat (v / 256), UInt8.ofNat (v / 65536), UInt8.ofNat (v / 16777216)]
def sealB (b : List UInt8) : List UInt8 := b ++ leB (crcOf b)
def fitsC (b : List UInt8) : Bool := decide (4 ≤ b.length ∧ b.drop (b.length - 4) = leB (crcOf (b.take (b.length - 4))))
theorem sealB_len (b : List UInt8) : (sealB b).length = b.length + 4 := by simp [sealB, leB]
theorem fits_seal (b : List UInt8) : fitsC (sealB b) = true := by
  unfold fitsC
  rw [sealB_len, show b.length + 4 - 4 = b.length by omega]
  apply decide_eq_true
  refine ⟨by omega, ?_⟩
  unfold sealB
  rw [List.drop_left, List.take_left]
theorem fits_iff (b : List UInt8) : fitsC b = decide (4 ≤ b.length ∧ sealB (b.take (b.length - 4)) = b) := by
  unfold fitsC sealB
  apply decide_eq_decide.2
  constructor
  · rintro ⟨h1, h2⟩
    exact ⟨h1, by rw [← h2, List.take_append_drop]⟩
  · rintro ⟨h1, h2⟩
    refine ⟨h1, ?_⟩
    have h3 := congrArg (List.drop (b.length - 4)) h2
    rw [List.drop_left' (by rw [List.length_take]; omega)] at h3
    exact h3.symm

/-! ### Bits -/
def bits8 (c : UInt8) : List Bool := (List.range 8).map c.toNat.testBit
def bitsOf (b : List UInt8) : List Bool := b.flatMap bits8
def onb (s : Nat) (l : List Bool) : Nat := l.foldl (fun s c => half (s ^^^ c.toNat)) s
def numB : List Bool → Nat
  | [] => 0
  | c :: l => 2 * numB l + c.toNat

theorem onb_append (s : Nat) (a b : List Bool) : onb s (a ++ b) = onb (onb s a) b := by simp [onb, List.foldl_append]
theorem xor_bit (x : Nat) (c : Bool) : 2 * x + c.toNat = c.toNat ^^^ 2 * x := by
  apply Nat.eq_of_testBit_eq
  intro i
  cases c
  · simp
  · cases i with
    | zero => rw [Nat.testBit_xor, Nat.testBit_zero, Nat.testBit_zero, Nat.testBit_zero]; simp
    | succ i =>
      rw [Nat.testBit_xor, Nat.testBit_add_one, Nat.testBit_add_one, Nat.testBit_add_one]
      simp
      congr 1
      omega
theorem onb_num (s : Nat) (l : List Bool) : onb s l = halfN l.length (s ^^^ numB l) := by
  induction l generalizing s with
  | nil => simp [onb, numB, halfN]
  | cons c l ih =>
    rw [show onb s (c :: l) = onb (half (s ^^^ c.toNat)) l from rfl, ih, List.length_cons, halfN, numB, xor_bit, ← Nat.xor_assoc, half_xor (s ^^^ c.toNat), half_two]
theorem num_bits8 (c : UInt8) : numB (bits8 c) = c.toNat := by
  have h := c.toNat_lt
  unfold bits8
  generalize c.toNat = n at h
  have e : ∀ i : Nat, (n.testBit i).toNat = n / 2 ^ i % 2 := fun i => Nat.toNat_testBit n i
  simp only [List.range, List.range.loop, List.map_cons, List.map_nil, numB, e]
  omega
theorem onC_bits (s : Nat) (b : List UInt8) : onC s b = onb s (bitsOf b) := by
  induction b generalizing s with
  | nil => rfl
  | cons c b ih =>
    rw [show onC s (c :: b) = onC (halfN 8 (s ^^^ c.toNat)) b from rfl, ih, show bitsOf (c :: b) = bits8 c ++ bitsOf b from rfl, onb_append, onb_num s (bits8 c), num_bits8]
    rfl
theorem xor4 (a b c d : Nat) : (a ^^^ b) ^^^ (c ^^^ d) = (a ^^^ c) ^^^ (b ^^^ d) := by
  apply Nat.eq_of_testBit_eq
  intro i
  simp only [Nat.testBit_xor]
  cases a.testBit i <;> cases b.testBit i <;> cases c.testBit i <;> cases d.testBit i <;> rfl
theorem bool_xor (c d : Bool) : (c ^^ d).toNat = c.toNat ^^^ d.toNat := by cases c <;> cases d <;> rfl
theorem onb_xor (s t : Nat) (l m : List Bool) (h : l.length = m.length) : onb (s ^^^ t) (List.zipWith (· ^^ ·) l m) = onb s l ^^^ onb t m := by
  induction l generalizing s t m with
  | nil =>
    cases m with
    | nil => rfl
    | cons _ _ => simp at h
  | cons c l ih =>
    cases m with
    | nil => simp at h
    | cons d m =>
      rw [List.zipWith_cons_cons, show onb (s ^^^ t) ((c ^^ d) :: List.zipWith (· ^^ ·) l m) = onb (half ((s ^^^ t) ^^^ (c ^^ d).toNat)) (List.zipWith (· ^^ ·) l m) from rfl, bool_xor, xor4, half_xor, ih _ _ m (by simpa using h)]
      rfl

/-! ### What halving tells apart -/
theorem half_zero {s : Nat} (h : s < 4294967296) (h0 : half s = 0) : s = 0 := by
  unfold half at h0
  split at h0
  · have h1 : s / 2 ^^^ 3988292384 ^^^ 3988292384 = 0 ^^^ 3988292384 := by rw [h0]
    rw [Nat.xor_assoc, Nat.xor_self, Nat.xor_zero, Nat.zero_xor] at h1
    omega
  · omega
theorem halfN_eq_zero {s : Nat} (k : Nat) (h : s < 4294967296) (h0 : halfN k s = 0) : s = 0 := by
  induction k generalizing s with
  | zero => exact h0
  | succ k ih => exact half_zero h (ih (half_lt h) h0)
theorem xor_eq_zero {a b : Nat} (h : a ^^^ b = 0) : a = b := by
  have h1 : a ^^^ b ^^^ b = 0 ^^^ b := by rw [h]
  rwa [Nat.xor_assoc, Nat.xor_self, Nat.xor_zero, Nat.zero_xor] at h1
theorem halfN_inj {s t : Nat} (k : Nat) (hs : s < 4294967296) (ht : t < 4294967296) (h : halfN k s = halfN k t) : s = t := by
  apply xor_eq_zero
  apply halfN_eq_zero k (xor_lt32 hs ht)
  rw [halfN_xor, h, Nat.xor_self]
theorem numB_lt (l : List Bool) : numB l < 2 ^ l.length := by
  induction l with
  | nil => simp [numB]
  | cons c l ih =>
    rw [numB, List.length_cons, Nat.pow_succ]
    have : c.toNat ≤ 1 := by cases c <;> simp
    omega
theorem numB_zero {l : List Bool} (h : numB l = 0) : ∀ c ∈ l, c = false := by
  induction l with
  | nil => intro c hc; cases hc
  | cons d l ih =>
    rw [numB] at h
    intro c hc
    rcases List.mem_cons.1 hc with rfl | hc
    · cases c
      · rfl
      · simp at h
    · exact ih (by omega) c hc
theorem onb_false {l : List Bool} (s : Nat) (h : ∀ c ∈ l, c = false) : onb s l = halfN l.length s := by
  have h0 : numB l = 0 := by
    induction l with
    | nil => rfl
    | cons c l ih => rw [numB, ih fun d hd => h d (List.mem_cons_of_mem _ hd), h c List.mem_cons_self]; rfl
  rw [onb_num, h0, Nat.xor_zero]
/-- Bits of a window of 32 that leave nothing were none. -/
theorem onb_window (a : Nat) (D : List Bool) (hw : ∀ t : Nat, D[t]? = some true → a ≤ t ∧ t < a + 32) (h : onb 0 D = 0) : ∀ c ∈ D, c = false := by
  induction a generalizing D with
  | zero =>
    have h2 : ∀ c ∈ D.drop 32, c = false := fun c hc => by
      obtain ⟨i, hi, e⟩ := List.getElem_of_mem hc
      cases c with
      | false => rfl
      | true =>
        have := hw (32 + i) (by rw [← List.getElem?_drop, List.getElem?_eq_getElem hi, e])
        omega
    rw [← List.take_append_drop 32 D, onb_append, onb_false _ h2, onb_num, Nat.zero_xor] at h
    have hlt := numB_lt (D.take 32)
    have hp : 2 ^ (D.take 32).length ≤ 2 ^ 32 := Nat.pow_le_pow_right (by omega) (List.length_take_le _ _)
    have h3 := halfN_eq_zero _ (halfN_lt _ (by omega)) h
    have h4 := halfN_eq_zero _ (by omega) h3
    intro c hc
    rw [← List.take_append_drop 32 D] at hc
    rcases List.mem_append.1 hc with hc | hc
    · exact numB_zero h4 c hc
    · exact h2 c hc
  | succ a ih =>
    cases D with
    | nil => intro c hc; cases hc
    | cons c D =>
      have hc : c = false := by
        cases c with
        | false => rfl
        | true => have := hw 0 rfl; omega
      subst hc
      have h2 : onb 0 (false :: D) = onb 0 D := by simp [onb, half]
      rw [h2] at h
      have := ih D (fun t ht => by have := hw (t + 1) (by simpa using ht); omega) h
      intro c hc
      rcases List.mem_cons.1 hc with rfl | hc
      · rfl
      · exact this c hc

/-! ### Fits, by what is left -/
theorem bits_append (a b : List UInt8) : bitsOf (a ++ b) = bitsOf a ++ bitsOf b := by simp [bitsOf]
theorem leB_num {v : Nat} (h : v < 4294967296) : numB (bitsOf (leB v)) = v := by
  have key : ∀ (c : UInt8) (l : List Bool), numB (bits8 c ++ l) = c.toNat + 256 * numB l := by
    intro c l
    have h := num_bits8 c
    simp only [bits8, List.range, List.range.loop, List.map_cons, List.map_nil, List.cons_append, List.nil_append, numB] at h ⊢
    omega
  simp only [leB, bitsOf, List.flatMap_cons, List.flatMap_nil, key, numB, UInt8.toNat_ofNat']
  omega
theorem leB_bits_len (v : Nat) : (bitsOf (leB v)).length = 32 := by simp [leB, bitsOf, bits8]
theorem onC_le {s v : Nat} (h : v < 4294967296) : onC s (leB v) = halfN 32 (s ^^^ v) := by rw [onC_bits, onb_num, leB_num h, leB_bits_len]
/-- Four bytes are some number's. -/
theorem leB_of (l : List UInt8) (h : l.length = 4) : ∃ v, v < 4294967296 ∧ l = leB v := by
  match l, h with
  | [a, b, c, d], _ =>
    have ha := a.toNat_lt
    have hb := b.toNat_lt
    have hc := c.toNat_lt
    have hd := d.toNat_lt
    refine ⟨a.toNat + 256 * b.toNat + 65536 * c.toNat + 16777216 * d.toNat, by omega, ?_⟩
    have e : ∀ (x : UInt8) (n : Nat), n % 256 = x.toNat → x = UInt8.ofNat n := fun x n h => UInt8.toNat_inj.1 (by rw [UInt8.toNat_ofNat', ← h])
    unfold leB
    rw [← e a _ (by omega), ← e b _ (by omega), ← e c _ (by omega), ← e d _ (by omega)]
theorem leB_inj {u v : Nat} (hu : u < 4294967296) (hv : v < 4294967296) (h : leB u = leB v) : u = v := by
  have h1 := leB_num hu
  rw [h, leB_num hv] at h1
  exact h1.symm
theorem fits_left (x : List UInt8) (h4 : 4 ≤ x.length) : fitsC x = decide (onC 4294967295 x = halfN 32 4294967295) := by
  unfold fitsC
  apply decide_eq_decide.2
  obtain ⟨v, hv, e⟩ := leB_of (x.drop (x.length - 4)) (by rw [List.length_drop]; omega)
  have hlt := onC_lt (s := 4294967295) (x.take (x.length - 4)) (by omega)
  have hx : onC 4294967295 x = halfN 32 (onC 4294967295 (x.take (x.length - 4)) ^^^ v) := by
    rw [← onC_le hv, ← e, ← onC_append, List.take_append_drop]
  rw [hx, e]
  constructor
  · rintro ⟨_, h⟩
    have h1 := leB_inj hv (crcOf_lt _) h
    rw [h1]
    unfold crcOf oth
    rw [← Nat.xor_assoc, Nat.xor_self, Nat.zero_xor]
  · intro h
    refine ⟨h4, ?_⟩
    have h1 := halfN_inj 32 (xor_lt32 hlt hv) (by omega) h
    have h5 : v = crcOf (x.take (x.length - 4)) := by
      unfold crcOf oth
      generalize onC 4294967295 (x.take (x.length - 4)) = q at h1
      rw [← h1, ← Nat.xor_assoc, Nat.xor_self, Nat.zero_xor]
    exact congrArg leB h5

/-! ### Bits that are turned -/
def bitAt (b : List UInt8) (t : Nat) : Bool := (b.getD (t / 8) 0).toNat.testBit (t % 8)
theorem bitsOf_len (b : List UInt8) : (bitsOf b).length = 8 * b.length := by
  induction b with
  | nil => rfl
  | cons c b ih => rw [show bitsOf (c :: b) = bits8 c ++ bitsOf b from rfl, List.length_append, ih, List.length_cons]; simp [bits8]; omega
theorem bitsOf_at (b : List UInt8) (t : Nat) (h : t < 8 * b.length) : (bitsOf b)[t]? = some (bitAt b t) := by
  induction b generalizing t with
  | nil => simp at h
  | cons c b ih =>
    rw [show bitsOf (c :: b) = bits8 c ++ bitsOf b from rfl]
    have hl : (bits8 c).length = 8 := by simp [bits8]
    by_cases h8 : t < 8
    · rw [List.getElem?_append_left (by omega)]
      have e1 : t / 8 = 0 := by omega
      have e2 : t % 8 = t := by omega
      simp [bits8, bitAt, e1, e2, h8]
    · rw [List.getElem?_append_right (by omega), hl, ih (t - 8) (by simp at h; omega)]
      have e1 : t / 8 = (t - 8) / 8 + 1 := by omega
      have e2 : t % 8 = (t - 8) % 8 := by omega
      unfold bitAt
      rw [e1, e2]
      simp
theorem bits_inj {a b : List UInt8} (hl : a.length = b.length) (h : bitsOf a = bitsOf b) : a = b := by
  induction a generalizing b with
  | nil => cases b with
    | nil => rfl
    | cons _ _ => simp at hl
  | cons c a ih => cases b with
    | nil => simp at hl
    | cons d b =>
      rw [show bitsOf (c :: a) = bits8 c ++ bitsOf a from rfl, show bitsOf (d :: b) = bits8 d ++ bitsOf b from rfl] at h
      obtain ⟨h1, h2⟩ := List.append_inj h (by simp [bits8])
      have h3 : c = d := UInt8.toNat_inj.1 (by rw [← num_bits8 c, h1, num_bits8])
      rw [h3, ih (by simpa using hl) h2]
/-- Bytes that differ in a window of 32 bits alone: one fits, and the other one fits just if they are the same. -/
theorem fits_window {s x : List UInt8} (hl : x.length = s.length) (h4 : 4 ≤ s.length) (a : Nat) (hw : ∀ t, t < 8 * s.length → bitAt s t ≠ bitAt x t → a ≤ t ∧ t < a + 32) (hf : fitsC s = true) : fitsC x = decide (x = s) := by
  rw [fits_left x (by omega)]
  rw [fits_left s h4, decide_eq_true_eq] at hf
  apply decide_eq_decide.2
  constructor
  · intro h
    have hlen : (bitsOf s).length = (bitsOf x).length := by rw [bitsOf_len, bitsOf_len, hl]
    have h1 := onb_xor 4294967295 4294967295 (bitsOf s) (bitsOf x) hlen
    rw [← onC_bits, ← onC_bits, h, hf, Nat.xor_self, Nat.xor_self] at h1
    have h2 := onb_window a _ (fun t ht => ?_) h1
    · apply bits_inj hl
      apply List.ext_getElem? 
      intro t
      by_cases ht : t < 8 * s.length
      · rw [bitsOf_at x t (by omega), bitsOf_at s t ht]
        have h3 := h2 (bitAt s t ^^ bitAt x t) (List.mem_of_getElem? (i := t) (by rw [List.getElem?_zipWith, bitsOf_at x t (by omega), bitsOf_at s t ht]))
        cases hs : bitAt s t <;> cases hx : bitAt x t <;> simp_all
      · rw [List.getElem?_eq_none (by rw [bitsOf_len]; omega), List.getElem?_eq_none (by rw [bitsOf_len]; omega)]
    · have htl : t < 8 * s.length := by
        have := (List.getElem?_eq_some_iff.1 ht).1
        rw [List.length_zipWith, bitsOf_len, bitsOf_len] at this
        omega
      rw [List.getElem?_zipWith, bitsOf_at x t (by omega), bitsOf_at s t htl] at ht
      refine hw t htl fun e => ?_
      simp [e] at ht
  · rintro rfl
    exact hf

/-- One bit more. -/
def turn1 (b : List UInt8) (bit p i : Nat) : List UInt8 := if (bit + i) / 8 < b.length ∧ p.testBit i = true then b.set ((bit + i) / 8) (UInt8.ofNat ((b.getD ((bit + i) / 8) 0).toNat ^^^ 2 ^ ((bit + i) % 8))) else b
def turnN (b : List UInt8) (bit p : Nat) : Nat → List UInt8
  | 0 => b
  | k + 1 => turn1 (turnN b bit p k) bit p k
def turnB (b : List UInt8) (bit : Int) (p : Nat) : List UInt8 := if bit < 0 ∨ (b.length : Int) ≤ bit / 8 then b else turnN b bit.toNat p 32
theorem turn1_len (b : List UInt8) (bit p i : Nat) : (turn1 b bit p i).length = b.length := by unfold turn1; split <;> simp
theorem turnN_len (b : List UInt8) (bit p k : Nat) : (turnN b bit p k).length = b.length := by
  induction k with
  | zero => rfl
  | succ k ih => rw [turnN, turn1_len, ih]
theorem turnB_len (b : List UInt8) (bit : Int) (p : Nat) : (turnB b bit p).length = b.length := by unfold turnB; split; rfl; exact turnN_len _ _ _ _
theorem turn1_at (b : List UInt8) (bit p i t : Nat) (h : t ≠ bit + i) : bitAt (turn1 b bit p i) t = bitAt b t := by
  unfold turn1
  split
  · rename_i hh
    unfold bitAt
    by_cases e : (bit + i) / 8 = t / 8
    · rw [← e]
      have hb := (b.getD ((bit + i) / 8) 0).toNat_lt
      have hlt : (b.getD ((bit + i) / 8) 0).toNat ^^^ 2 ^ ((bit + i) % 8) < 2 ^ 8 := Nat.xor_lt_two_pow (n := 8) (by omega) (Nat.pow_lt_pow_right (by omega) (by omega))
      rw [show (b.set ((bit + i) / 8) (UInt8.ofNat ((b.getD ((bit + i) / 8) 0).toNat ^^^ 2 ^ ((bit + i) % 8)))).getD ((bit + i) / 8) 0 = UInt8.ofNat ((b.getD ((bit + i) / 8) 0).toNat ^^^ 2 ^ ((bit + i) % 8)) by simp [List.getD, hh.1]]
      rw [UInt8.toNat_ofNat', Nat.mod_eq_of_lt hlt, Nat.testBit_xor, Nat.testBit_two_pow]
      have : (bit + i) % 8 ≠ t % 8 := by omega
      simp [this]
    · congr 2
      simp [List.getD, List.getElem?_set_ne e]
  · rfl
theorem turnN_at (b : List UInt8) (bit p k t : Nat) (h : ¬ (bit ≤ t ∧ t < bit + k)) : bitAt (turnN b bit p k) t = bitAt b t := by
  induction k with
  | zero => rfl
  | succ k ih => rw [turnN, turn1_at _ _ _ _ _ (by omega), ih (by omega)]
/-- Of what is sealed no turn of up to 32 bits next to one another fits, but one that turns nothing. -/
theorem fits_burst (s : List UInt8) (bit : Int) (p : Nat) (h4 : 4 ≤ s.length) (hf : fitsC s = true) : fitsC (turnB s bit p) = decide (turnB s bit p = s) := by
  refine fits_window (turnB_len _ _ _) h4 bit.toNat (fun t ht hne => ?_) hf
  unfold turnB at hne
  split at hne
  · exact absurd rfl hne
  · apply Classical.byContradiction
    intro hn
    exact hne (turnN_at s bit.toNat p 32 t hn).symm
end Go.Proofs.Ytgflgncpjlgeoaa
