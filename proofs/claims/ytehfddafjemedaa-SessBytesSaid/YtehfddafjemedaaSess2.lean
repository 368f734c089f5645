/- Contracts of package sess, and of the reference's Fine: which rows are fine, Set. -/
import Derived.Test.YtehfddafjemedaaSess
namespace Go.Proofs.Ytehfddafjemedaa
open Go.RowKit
set_option linter.unusedSimpArgs false
set_option linter.unusedVariables false

set_option maxHeartbeats 1000000 in
theorem Fine_any (r : SRow) (w : World) : Calls Try.prog 17 #[r.val] w fun e w' => e = .returned (.bool r.fine) ∧ Below w.heap.size w w' := by
  have hend : ∀ X, Below w.heap.size w (w.alloc X) := fun X => (Below.refl _ _).alloc (Nat.le_refl _) _
  obtain ⟨a, b, c, d, e⟩ := r
  unfold SRow.val
  by_cases h1 : 1 ≤ a
  · by_cases h2 : a ≤ 6
    · by_cases h3 : 0 < b
      · by_cases h4 : 0 < c
        · by_cases h5 : 0 ≤ d
          · by_cases h6 : d ≤ 255
            · have hf : Hid (SRow.fine ⟨a, b, c, d, e⟩ = true) := by show _ = _; simp [SRow.fine]; omega
              go_enter Try.func17, Try.ntmps17
              go_wp2
              go_ret
              exact ⟨by rw [hf.out]; first | rfl | exact ret_bool (by simp; omega), hend _⟩
            · have hf : Hid (SRow.fine ⟨a, b, c, d, e⟩ = false) := by show _ = _; simp [SRow.fine]; omega
              go_enter Try.func17, Try.ntmps17
              go_wp2
              go_ret
              exact ⟨by rw [hf.out]; first | rfl | exact ret_bool (by simp; omega), hend _⟩
          · have hf : Hid (SRow.fine ⟨a, b, c, d, e⟩ = false) := by show _ = _; simp [SRow.fine]; omega
            go_enter Try.func17, Try.ntmps17
            go_wp2
            go_ret
            exact ⟨by rw [hf.out]; first | rfl | exact ret_bool (by simp; omega), hend _⟩
        · have hf : Hid (SRow.fine ⟨a, b, c, d, e⟩ = false) := by show _ = _; simp [SRow.fine]; omega
          go_enter Try.func17, Try.ntmps17
          go_wp2
          go_ret
          exact ⟨by rw [hf.out]; first | rfl | exact ret_bool (by simp; omega), hend _⟩
      · have hf : Hid (SRow.fine ⟨a, b, c, d, e⟩ = false) := by show _ = _; simp [SRow.fine]; omega
        go_enter Try.func17, Try.ntmps17
        go_wp2
        go_ret
        exact ⟨by rw [hf.out]; first | rfl | exact ret_bool (by simp; omega), hend _⟩
    · have hf : Hid (SRow.fine ⟨a, b, c, d, e⟩ = false) := by show _ = _; simp [SRow.fine]; omega
      go_enter Try.func17, Try.ntmps17
      go_wp2
      go_ret
      exact ⟨by rw [hf.out]; first | rfl | exact ret_bool (by simp; omega), hend _⟩
  · have hf : Hid (SRow.fine ⟨a, b, c, d, e⟩ = false) := by show _ = _; simp [SRow.fine]; omega
    go_enter Try.func17, Try.ntmps17
    go_wp2
    go_ret
    exact ⟨by rw [hf.out]; first | rfl | exact ret_bool (by simp; omega), hend _⟩

set_option maxHeartbeats 1000000 in
theorem fine_any (r : SRow) (w : World) : Calls Try.prog 56 #[r.val] w fun e w' => e = .returned (.bool r.fine) ∧ Below w.heap.size w w' := by
  have hend : ∀ X, Below w.heap.size w (w.alloc X) := fun X => (Below.refl _ _).alloc (Nat.le_refl _) _
  obtain ⟨a, b, c, d, e⟩ := r
  unfold SRow.val
  cases hr : inRange a with
  | false =>
    have Hr := Lib.hid hr
    have hf : Hid (SRow.fine ⟨a, b, c, d, e⟩ = false) := by show _ = _; simp [SRow.fine, inRange] at *; omega
    clear hr
    go_enter Try.func56, Try.ntmps56
    go_wp2_with (go_at_call 55; refine (client_any _ _).mono ?_; rintro e w' ⟨rfl, rfl⟩; rw [Hr.out])
    go_ret
    exact ⟨by rw [hf.out]; first | rfl | exact ret_bool (by simp; omega), hend _⟩
  | true =>
    have Hr := Lib.hid hr
    have hr2 := inRange_t hr
    clear hr
    by_cases h3 : 1 ≤ b
    · by_cases h4 : 1 ≤ c
      · by_cases h5 : 0 ≤ d
        · by_cases h6 : d ≤ 255
          · have hf : Hid (SRow.fine ⟨a, b, c, d, e⟩ = true) := by show _ = _; simp [SRow.fine, inRange] at *; omega
            go_enter Try.func56, Try.ntmps56
            go_wp2_with (go_at_call 55; refine (client_any _ _).mono ?_; rintro e w' ⟨rfl, rfl⟩; rw [Hr.out])
            go_ret
            exact ⟨by rw [hf.out]; first | rfl | exact ret_bool (by simp; omega), hend _⟩
          · have hf : Hid (SRow.fine ⟨a, b, c, d, e⟩ = false) := by show _ = _; simp [SRow.fine, inRange] at *; omega
            go_enter Try.func56, Try.ntmps56
            go_wp2_with (go_at_call 55; refine (client_any _ _).mono ?_; rintro e w' ⟨rfl, rfl⟩; rw [Hr.out])
            go_ret
            exact ⟨by rw [hf.out]; first | rfl | exact ret_bool (by simp; omega), hend _⟩
        · have hf : Hid (SRow.fine ⟨a, b, c, d, e⟩ = false) := by show _ = _; simp [SRow.fine, inRange] at *; omega
          go_enter Try.func56, Try.ntmps56
          go_wp2_with (go_at_call 55; refine (client_any _ _).mono ?_; rintro e w' ⟨rfl, rfl⟩; rw [Hr.out])
          go_ret
          exact ⟨by rw [hf.out]; first | rfl | exact ret_bool (by simp; omega), hend _⟩
      · have hf : Hid (SRow.fine ⟨a, b, c, d, e⟩ = false) := by show _ = _; simp [SRow.fine, inRange] at *; omega
        go_enter Try.func56, Try.ntmps56
        go_wp2_with (go_at_call 55; refine (client_any _ _).mono ?_; rintro e w' ⟨rfl, rfl⟩; rw [Hr.out])
        go_ret
        exact ⟨by rw [hf.out]; first | rfl | exact ret_bool (by simp; omega), hend _⟩
    · have hf : Hid (SRow.fine ⟨a, b, c, d, e⟩ = false) := by show _ = _; simp [SRow.fine, inRange] at *; omega
      go_enter Try.func56, Try.ntmps56
      go_wp2_with (go_at_call 55; refine (client_any _ _).mono ?_; rintro e w' ⟨rfl, rfl⟩; rw [Hr.out])
      go_ret
      exact ⟨by rw [hf.out]; first | rfl | exact ret_bool (by simp; omega), hend _⟩

/-- The table with a row in its client's place. -/
def setR (R : Nat → SRow) (r : SRow) : Nat → SRow := fun k => if k = (r.cl - 1).toNat then r else R k
def setErr (R : Nat → SRow) (r : SRow) : Int := if r.fine = false then 1 else if judgeR R r.cl r.num ≠ 0 then 12 else 0
def setTab (R : Nat → SRow) (r : SRow) : Nat → SRow := if setErr R r = 0 then setR R r else R

theorem TabAt.far {w : World} {g : Nat} {R : Nat → SRow} (h : TabAt w g R) {a : Addr} (ha : g ≠ a.block) (v : Value) : TabAt (w.setCell a v) g R := h.setOther ha v

theorem tab_set {w : World} {g k : Nat} {R : Nat → SRow} {r : SRow} (h : TabAt w g R) (hk : k < 6) :
    TabAt (((((w.setCell ⟨g, k * 5, none⟩ (.int .i64 r.cl)).setCell ⟨g, k * 5 + 1, none⟩ (.int .u64 r.num)).setCell ⟨g, k * 5 + 2, none⟩ (.int .u64 r.seq)).setCell ⟨g, k * 5 + 3, none⟩ (.int .i64 r.code)).setCell ⟨g, k * 5 + 4, none⟩ (.int .u64 r.ver)) g (fun i => if i = k then r else R i) := by
  unfold TabAt at *
  refine (((((h.set (k * 5) _).set (k * 5 + 1) _).set (k * 5 + 2) _).set (k * 5 + 3) _).set (k * 5 + 4) _).congr ?_
  intro i hi
  dsimp only
  by_cases hik : i / 5 = k
  · obtain ⟨j, hj, rfl⟩ : ∃ j, j < 5 ∧ i = k * 5 + j := ⟨i % 5, by omega, by omega⟩
    have e1 : (k * 5 + j) % 5 = j := by omega
    rw [if_pos hik, e1]
    have h5 : j = 0 ∨ j = 1 ∨ j = 2 ∨ j = 3 ∨ j = 4 := by omega
    rcases h5 with rfl | rfl | rfl | rfl | rfl <;> simp [SRow.cell]
  · rw [if_neg hik, if_neg (by omega), if_neg (by omega), if_neg (by omega), if_neg (by omega), if_neg (by omega)]

set_option maxHeartbeats 1000000 in
theorem Set_any (g : Nat) (r : SRow) (R : Nat → SRow) (w : World) (ht : TabAt w g R) :
    Calls Try.prog 15 #[.pointer (some ⟨g, 0, none⟩), r.val] w fun e w' =>
      e = .returned (.int .i64 (setErr R r)) ∧ TabAt w' g (setTab R r) ∧ Keeps [g] w w' := by
  have hg := ht.lt
  have hg' : ¬ w.heap.size = g := by omega
  cases hf : r.fine with
  | false =>
    have hfin : Hid (setErr R r = 1) := by show _ = _; simp [setErr, hf]
    have hft : Hid (setTab R r = R) := by show _ = _; simp [setTab, hfin.out]
    have Hf := Lib.hid hf; clear hf
    obtain ⟨a, b, c, d, e⟩ := r
    simp only [SRow.val]
    go_enter Try.func15, Try.ntmps15
    go_wp2_with fail
    refine (fine_any ⟨a, b, c, d, e⟩ _).mono ?_
    rintro e w1 ⟨rfl, hb⟩
    rw [Hf.out]
    go_wp2_with fail
    go_ret
    have hb' : Below w.heap.size w w1 := ((Below.refl _ w).alloc (Nat.le_refl _) _).trans (hb.mono (by simp))
    exact ⟨by rw [hfin.out]; rfl, by rw [hft.out]; exact ht.below hb', Keeps.of_below hb' _⟩
  | true =>
    by_cases hj : judgeR R r.cl r.num = 0
    · have hfin : Hid (setErr R r = 0) := by show _ = _; simp [setErr, hf, hj]
      have hft : Hid (setTab R r = setR R r) := by show _ = _; simp [setTab, hfin.out]
      have hjn : (judgeR R r.cl r.num != 0) = false := by simp [hj]
      obtain ⟨k, hk, hcl⟩ : ∃ k : Nat, k < 6 ∧ r.cl = (k : Int) + 1 := by
        have : 1 ≤ r.cl ∧ r.cl ≤ 6 := by simp [SRow.fine] at hf; omega
        exact ⟨(r.cl - 1).toNat, by omega, by omega⟩
      have Hf := Lib.hid hf; have Hj := Lib.hid hj; clear hf hj
      obtain ⟨a, b, c, d, e⟩ := r
      simp only at hcl hjn
      subst hcl
      simp only [SRow.val]
      go_enter Try.func15, Try.ntmps15
      go_wp2_with fail
      refine (fine_any ⟨_, b, c, d, e⟩ _).mono ?_
      rintro e w1 ⟨rfl, hb⟩
      rw [Hf.out]
      have hb' : Below w.heap.size w w1 := ((Below.refl _ w).alloc (Nat.le_refl _) _).trans (hb.mono (by simp))
      have ht1 := ht.below hb'
      have hg1 := ht1.lt
      obtain ⟨hc, hfz⟩ := old_cells hb
      simp only [World.size_alloc] at hc hfz
      go_wp2_with fail
      refine (Judge_any g _ b R w1 ht1).mono ?_
      rintro e2 w2 ⟨rfl, rfl⟩
      have c0 : w.cell? ⟨g, k * 5, none⟩ = some (.int .i64 (R k).cl) := ht.at_ k 0 hk (by omega)
      have c1 : w.cell? ⟨g, k * 5 + 1, none⟩ = some (.int .u64 (R k).num) := ht.at_ k 1 hk (by omega)
      have c2 : w.cell? ⟨g, k * 5 + 2, none⟩ = some (.int .u64 (R k).seq) := ht.at_ k 2 hk (by omega)
      have c3 : w.cell? ⟨g, k * 5 + 3, none⟩ = some (.int .i64 (R k).code) := ht.at_ k 3 hk (by omega)
      have c4 : w.cell? ⟨g, k * 5 + 4, none⟩ = some (.int .u64 (R k).ver) := ht.at_ k 4 hk (by omega)
      have f0 : ∀ i, w.frozen? ⟨g, i, none⟩ = false := fun i => ht.frozen i
      go_wp2_with fail
      go_region
      clear hc hfz c0 c1 c2 c3 c4 f0
      go_wp2_with fail
      go_ret
      have ht2 := tab_set ht1 (r := ⟨(k : Int) + 1, b, c, d, e⟩) hk
      refine ⟨by rw [hfin.out]; rfl, ?_, ?_⟩
      · rw [hft.out]
        have e1 : setR R ⟨(k : Int) + 1, b, c, d, e⟩ = fun i => if i = k then ⟨(k : Int) + 1, b, c, d, e⟩ else R i := by
          funext i
          have : ((k : Int) + 1 - 1).toNat = k := by omega
          simp only [setR, this]
        rw [e1]
        exact ht2
      · exact ((((((Keeps.of_below hb' [g]).setCell (p := ⟨g, _, none⟩) (.inl (by simp)) _).setCell (p := ⟨g, _, none⟩) (.inl (by simp)) _).setCell (p := ⟨g, _, none⟩) (.inl (by simp)) _).setCell (p := ⟨g, _, none⟩) (.inl (by simp)) _).setCell (p := ⟨g, _, none⟩) (.inl (by simp)) _).drew
    · have hfin : Hid (setErr R r = 12) := by show _ = _; simp [setErr, hf, hj]
      have hft : Hid (setTab R r = R) := by show _ = _; simp [setTab, hfin.out]
      have hjn : (judgeR R r.cl r.num != 0) = true := by simp [hj]
      have Hf := Lib.hid hf; have Hj := Lib.hid hj; clear hf hj
      obtain ⟨a, b, c, d, e⟩ := r
      simp only at hjn
      simp only [SRow.val]
      go_enter Try.func15, Try.ntmps15
      go_wp2_with fail
      refine (fine_any ⟨a, b, c, d, e⟩ _).mono ?_
      rintro e w1 ⟨rfl, hb⟩
      rw [Hf.out]
      have hb' : Below w.heap.size w w1 := ((Below.refl _ w).alloc (Nat.le_refl _) _).trans (hb.mono (by simp))
      have ht1 := ht.below hb'
      obtain ⟨hc, hfz⟩ := old_cells hb
      simp only [World.size_alloc] at hc hfz
      go_wp2_with fail
      refine (Judge_any g a b R w1 ht1).mono ?_
      rintro e2 w2 ⟨rfl, rfl⟩
      go_wp2_with fail
      go_ret
      exact ⟨by rw [hfin.out]; rfl, by rw [hft.out]; exact ht1, Keeps.of_below hb' _⟩
end Go.Proofs.Ytehfddafjemedaa
