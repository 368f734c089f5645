/- Rows and tables, plain: what the document's Get, Judge, Put say of a table's rows. No program in sight. -/
import Derived.Test.YtehfddafjemedaaSess2
namespace Go.Proofs.Ytehfddafjemedaa
set_option linter.unusedSimpArgs false
set_option linter.unusedVariables false

def findL (l : List SRow) (c : Int) : Option SRow := l.find? fun r => decide (r.cl = c)
def getL (l : List SRow) (c : Int) : SRow := (findL l c).getD .zero
def hasL (l : List SRow) (c : Int) : Bool := (findL l c).isSome
def judgeL (l : List SRow) (c num : Int) : Int :=
  if c < 1 ∨ 6 < c ∨ num = 0 then 2 else if hasL l c = false ∨ (getL l c).num < num then 0 else if (getL l c).num = num then 1 else 2
def dropL (l : List SRow) (c : Int) : List SRow := match l with
  | [] => []
  | y :: t => if y.cl = c then t else y :: t
def putL (l : List SRow) (r : SRow) : List SRow := l.takeWhile (fun y => decide (y.cl < r.cl)) ++ r :: dropL (l.dropWhile fun y => decide (y.cl < r.cl)) r.cl
def setErrL (l : List SRow) (r : SRow) : Int := if r.fine = false then 1 else if judgeL l r.cl r.num ≠ 0 then 12 else 0
def setL (l : List SRow) (r : SRow) : List SRow := if setErrL l r = 0 then putL l r else l

/-- A table's rows, by clients. -/
def rowsL (R : Nat → SRow) (ks : List Nat) : List SRow := (ks.filter fun k => decide ((R k).num ≠ 0)).map R
def rowsOf (R : Nat → SRow) : List SRow := rowsL R (List.range 6)
/-- Each row stands at its client's place. -/
def Placed (R : Nat → SRow) : Prop := ∀ k, k < 6 → (R k).num ≠ 0 → (R k).cl = (k : Int) + 1

theorem rowsL_cons (R : Nat → SRow) (k : Nat) (ks : List Nat) : rowsL R (k :: ks) = if (R k).num ≠ 0 then R k :: rowsL R ks else rowsL R ks := by
  unfold rowsL
  by_cases h : (R k).num = 0 <;> simp [List.filter_cons, h]
theorem rowsL_snoc (R : Nat → SRow) (k : Nat) : rowsL R (List.range (k + 1)) = rowsL R (List.range k) ++ if (R k).num ≠ 0 then [R k] else [] := by
  unfold rowsL
  rw [List.range_succ, List.filter_append, List.map_append]
  by_cases h : (R k).num = 0 <;> simp [List.filter_cons, h]
theorem rowsL_len (R : Nat → SRow) (n : Nat) : (rowsL R (List.range n)).length ≤ n := by
  unfold rowsL
  rw [List.length_map]
  have := List.length_filter_le (fun k => decide ((R k).num ≠ 0)) (List.range n)
  simpa using this

theorem find_rows {R : Nat → SRow} (hp : Placed R) (c : Int) : ∀ ks : List Nat, (∀ k ∈ ks, k < 6) → findL (rowsL R ks) c = if (∃ k ∈ ks, (R k).num ≠ 0 ∧ (k : Int) + 1 = c) then some (R (c - 1).toNat) else none := by
  intro ks
  induction ks with
  | nil => intro _; simp [rowsL, findL]
  | cons k ks ih =>
    intro hk
    have ih := ih fun j hj => hk j (List.mem_cons_of_mem _ hj)
    rw [rowsL_cons]
    by_cases hn : (R k).num = 0
    · rw [if_neg (by simpa using hn), ih]
      congr 1
      apply propext
      constructor
      · rintro ⟨j, hj, h⟩
        exact ⟨j, List.mem_cons_of_mem _ hj, h⟩
      · rintro ⟨j, hj, h1, h2⟩
        rcases List.mem_cons.1 hj with rfl | hj
        · exact absurd hn h1
        · exact ⟨j, hj, h1, h2⟩
    · rw [if_pos hn]
      have hcl := hp k (hk k List.mem_cons_self) hn
      unfold findL at *
      rw [List.find?_cons]
      by_cases hc : (k : Int) + 1 = c
      · rw [if_pos ⟨k, List.mem_cons_self, hn, hc⟩]
        have e : (c - 1).toNat = k := by omega
        simp [hcl, hc, e]
      · have : decide ((R k).cl = c) = false := by rw [hcl]; simpa using hc
        rw [this]
        dsimp only
        rw [ih]
        congr 1
        apply propext
        constructor
        · rintro ⟨j, hj, h⟩
          exact ⟨j, List.mem_cons_of_mem _ hj, h⟩
        · rintro ⟨j, hj, h1, h2⟩
          rcases List.mem_cons.1 hj with rfl | hj
          · exact absurd h2 hc
          · exact ⟨j, hj, h1, h2⟩

theorem find_rowsOf {R : Nat → SRow} (hp : Placed R) (c : Int) : findL (rowsOf R) c = if hasR R c = true then some (R (c - 1).toNat) else none := by
  unfold rowsOf
  rw [find_rows hp c _ (fun k hk => by simpa using hk)]
  congr 1
  apply propext
  unfold hasR inRange
  simp only [Bool.and_eq_true, Bool.not_eq_true', decide_eq_true_eq, decide_eq_false_iff_not]
  constructor
  · rintro ⟨k, hk, h1, h2⟩
    have : (c - 1).toNat = k := by omega
    rw [this]
    exact ⟨by simp at hk; omega, h1⟩
  · rintro ⟨h1, h2⟩
    exact ⟨(c - 1).toNat, by simp; omega, h2, by omega⟩
theorem hasL_rows {R : Nat → SRow} (hp : Placed R) (c : Int) : hasL (rowsOf R) c = hasR R c := by
  unfold hasL
  rw [find_rowsOf hp]
  cases hasR R c <;> simp
theorem getL_rows {R : Nat → SRow} (hp : Placed R) (c : Int) : getL (rowsOf R) c = getR R c := by
  unfold getL getR
  rw [find_rowsOf hp]
  unfold hasR
  cases hr : inRange c with
  | false => simp
  | true =>
    generalize (c - 1).toNat = k
    by_cases h : (R k).num = 0 <;> simp [h]
theorem judgeL_rows {R : Nat → SRow} (hp : Placed R) (hnn : ∀ k, k < 6 → 0 ≤ (R k).num) (c num : Int) (h0 : 0 ≤ num) : judgeL (rowsOf R) c num = judgeR R c num := by
  unfold judgeL judgeR
  rw [hasL_rows hp, getL_rows hp]
  unfold hasR getR
  cases hr : inRange c with
  | false =>
    have := inRange_f hr
    rw [if_pos (by omega), if_pos (by simp)]
  | true =>
    have hb := inRange_t hr
    have hn := hnn (c - 1).toNat (by omega)
    have hc6 : ¬ (c < 1 ∨ 6 < c) := by omega
    generalize (c - 1).toNat = k at *
    by_cases hz : num = 0
    · rw [if_pos (show c < 1 ∨ 6 < c ∨ num = 0 from .inr (.inr hz)), if_pos (show true = false ∨ num = 0 from .inr hz)]
    · rw [if_neg (show ¬ (c < 1 ∨ 6 < c ∨ num = 0) by omega), if_neg (show ¬ (true = false ∨ num = 0) by simp [hz])]
      by_cases hk : (R k).num = 0
      · rw [if_pos (.inl (by simp [hk])), if_pos (show (R k).num < num by omega)]
      · have e1 : (true && !decide ((R k).num = 0)) = true := by simp [hk]
        have e2 : (if true = true ∧ (R k).num ≠ 0 then R k else SRow.zero) = R k := by simp [hk]
        rw [e1, e2]
        by_cases h1 : (R k).num < num
        · rw [if_pos (show true = false ∨ (R k).num < num from .inr h1), if_pos h1]
        · rw [if_neg (show ¬ (true = false ∨ (R k).num < num) by simp; omega), if_neg h1]
          by_cases h2 : (R k).num = num
          · rw [if_pos h2, if_pos h2.symm]
          · rw [if_neg h2, if_neg (show ¬ num = (R k).num by omega)]

theorem takeWhile_far {l : List SRow} {c : Int} (h : ∀ y ∈ l, c < y.cl) : l.takeWhile (fun y => decide (y.cl < c)) = [] ∧ dropL (l.dropWhile fun y => decide (y.cl < c)) c = l := by
  cases l with
  | nil => exact ⟨rfl, rfl⟩
  | cons y t =>
    have hy := h y List.mem_cons_self
    have hd : decide (y.cl < c) = false := by simp; omega
    constructor
    · simp [List.takeWhile_cons, hd]
    · rw [List.dropWhile_cons, hd]
      simp only [Bool.false_eq_true, if_false, dropL]
      rw [if_neg (by omega)]
theorem rowsL_far {R : Nat → SRow} (hp : Placed R) {ks : List Nat} {c : Int} (hk : ∀ k ∈ ks, k < 6 ∧ c < (k : Int) + 1) : ∀ y ∈ rowsL R ks, c < y.cl := by
  intro y hy
  unfold rowsL at hy
  obtain ⟨k, hm, rfl⟩ := List.mem_map.1 hy
  obtain ⟨h1, h2⟩ := List.mem_filter.1 hm
  have := hk k h1
  rw [hp k this.1 (by simpa using h2)]
  exact this.2
theorem rowsL_congr {R S : Nat → SRow} {ks : List Nat} (h : ∀ k ∈ ks, R k = S k) : rowsL R ks = rowsL S ks := by
  induction ks with
  | nil => rfl
  | cons k ks ih =>
    rw [rowsL_cons, rowsL_cons, h k List.mem_cons_self, ih fun j hj => h j (List.mem_cons_of_mem _ hj)]

theorem putL_rows {R : Nat → SRow} (hp : Placed R) {r : SRow} (hn : r.num ≠ 0) : ∀ ks : List Nat, ks.Pairwise (· < ·) → (∀ k ∈ ks, k < 6) → (∃ k ∈ ks, r.cl = (k : Int) + 1) → putL (rowsL R ks) r = rowsL (setR R r) ks := by
  intro ks
  induction ks with
  | nil => rintro _ _ ⟨k, hk, _⟩; cases hk
  | cons k ks ih =>
    intro hs hk hex
    obtain ⟨hs1, hs2⟩ := List.pairwise_cons.1 hs
    have hk6 := hk k List.mem_cons_self
    rw [rowsL_cons, rowsL_cons]
    by_cases he : r.cl = (k : Int) + 1
    · have hset : setR R r k = r := by unfold setR; rw [if_pos (by omega)]
      have hrest : rowsL (setR R r) ks = rowsL R ks := rowsL_congr fun j hj => by
        unfold setR
        have := hs1 j hj
        rw [if_neg (by omega)]
      rw [hset, if_pos hn, hrest]
      have hfar : ∀ y ∈ rowsL R ks, r.cl < y.cl := rowsL_far hp fun j hj => ⟨hk j (List.mem_cons_of_mem _ hj), by have := hs1 j hj; omega⟩
      by_cases hz : (R k).num = 0
      · rw [if_neg (by simpa using hz)]
        unfold putL
        obtain ⟨h1, h2⟩ := takeWhile_far hfar
        rw [h1, h2]
        rfl
      · rw [if_pos hz]
        have hcl := hp k hk6 hz
        have hd : decide ((R k).cl < r.cl) = false := by simp; omega
        unfold putL
        rw [List.takeWhile_cons, List.dropWhile_cons, hd]
        simp only [Bool.false_eq_true, if_false, dropL]
        rw [if_pos (by omega)]
        rfl
    · have hex' : ∃ j ∈ ks, r.cl = (j : Int) + 1 := by
        obtain ⟨j, hj, h⟩ := hex
        rcases List.mem_cons.1 hj with rfl | hj
        · exact absurd h he
        · exact ⟨j, hj, h⟩
      have hlt : (k : Int) + 1 < r.cl := by
        obtain ⟨j, hj, h⟩ := hex'
        have := hs1 j hj
        omega
      have hset : setR R r k = R k := by unfold setR; rw [if_neg (by omega)]
      have ih := ih hs2 (fun j hj => hk j (List.mem_cons_of_mem _ hj)) hex'
      rw [hset, ← ih]
      by_cases hz : (R k).num = 0
      · rw [if_neg (by simpa using hz), if_neg (by simpa using hz)]
      · rw [if_pos hz, if_pos hz]
        have hcl := hp k hk6 hz
        have hd : decide ((R k).cl < r.cl) = true := by simp; omega
        unfold putL
        rw [List.takeWhile_cons, List.dropWhile_cons, hd]
        rfl

theorem fine_cl {r : SRow} (h : r.fine = true) : 1 ≤ r.cl ∧ r.cl ≤ 6 ∧ 1 ≤ r.num ∧ 1 ≤ r.seq ∧ 0 ≤ r.code ∧ r.code ≤ 255 := by simpa [SRow.fine] using h
/-- What a table keeps. -/
structure TabOk (R : Nat → SRow) : Prop where
  placed : Placed R
  pos : ∀ k, k < 6 → 0 ≤ (R k).num
theorem TabOk.zero : TabOk fun _ => SRow.zero := ⟨fun k _ h => absurd rfl h, fun _ _ => Int.le_refl 0⟩
theorem setErr_eq {R : Nat → SRow} (h : TabOk R) (r : SRow) (h0 : 0 ≤ r.num) : setErrL (rowsOf R) r = setErr R r := by
  unfold setErrL setErr
  rw [judgeL_rows h.placed h.pos _ _ h0]
theorem TabOk.set {R : Nat → SRow} (h : TabOk R) (r : SRow) : TabOk (setTab R r) := by
  unfold setTab
  split
  · rename_i he
    have hf : r.fine = true := ((by
      unfold setErr at he
      cases hf : r.fine with
      | true => rfl
      | false => simp [hf] at he))
    obtain ⟨f1, f2, f3, _⟩ := fine_cl hf
    refine ⟨fun k hk hn => ?_, fun k hk => ?_⟩
    · unfold setR at hn ⊢
      split
      · omega
      · rename_i hne
        rw [if_neg hne] at hn
        exact h.placed k hk hn
    · unfold setR
      split
      · omega
      · exact h.pos k hk
  · exact h
theorem setL_rows {R : Nat → SRow} (h : TabOk R) (r : SRow) (h0 : 0 ≤ r.num) : setL (rowsOf R) r = rowsOf (setTab R r) := by
  unfold setL setTab
  rw [setErr_eq h r h0]
  split
  · rename_i he
    have hf : r.fine = true := ((by
      unfold setErr at he
      cases hf : r.fine with
      | true => rfl
      | false => simp [hf] at he))
    obtain ⟨f1, f2, f3, _⟩ := fine_cl hf
    exact putL_rows h.placed (by omega) _ (by decide) (fun k hk => by simpa using hk) ⟨(r.cl - 1).toNat, by simp; omega, by omega⟩
  · rfl
end Go.Proofs.Ytehfddafjemedaa
