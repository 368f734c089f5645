/- The walk of the law SessRises. -/
import Derived.Test.YtehfddafjemedaaSess2
namespace Go.Proofs.Ytehfddafjemedaa
open Go.RowKit
set_option linter.unusedSimpArgs false
set_option linter.unusedVariables false

/-- A slice of rows that reads as a list. -/
def RowsAt (w : World) (A : Option Addr) (n : Nat) (rows : List SRow) : Prop :=
  rows.length = n ∧ n ≤ 9223372036854775807 ∧ (0 < n → ∃ b o, A = some ⟨b, o, none⟩ ∧ ∀ i j, i < n → j < 5 → w.cell? ⟨b, o + i * 5 + j, none⟩ = some ((rows.getD i .zero).cell j))
theorem RowsAt.below {w w' : World} {A : Option Addr} {n : Nat} {rows : List SRow} (h : RowsAt w A n rows) (hb : Below w.heap.size w w') : RowsAt w' A n rows :=
  ⟨h.1, h.2.1, fun hn => by
    obtain ⟨b, o, e, hc⟩ := h.2.2 hn
    refine ⟨b, o, e, fun i j hi hj => ?_⟩
    have h1 := hc i j hi hj
    exact (hb.cell (block_lt_of_cell h1)).trans h1⟩

set_option maxHeartbeats 1000000 in
theorem awake16 (w : World) : Calls Try.prog 18 #[] w fun e w' => e = .returned (.bool true) ∧ Below w.heap.size w w' := by
  go_enter Try.func18, Try.ntmps18
  go_wp2_with fail
  refine (New_any _).mono ?_
  rintro e w1 ⟨rfl, ht, hb⟩
  go_wp2_with fail
  refine (Set_any _ ⟨2, 5, 1, 0, 0⟩ _ _ ht).mono ?_
  rintro e w2 ⟨rfl, ht2, hk2⟩
  have e1 : setErr (fun _ => SRow.zero) ⟨2, 5, 1, 0, 0⟩ = 0 := by decide
  rw [e1]
  go_wp2_with fail
  refine (Judge_any _ 2 6 _ _ ht2).mono ?_
  rintro e w3 ⟨rfl, rfl⟩
  have e2 : judgeR (setTab (fun _ => SRow.zero) ⟨2, 5, 1, 0, 0⟩) 2 6 = 0 := by decide
  rw [e2]
  go_wp2_with fail
  refine (Judge_any _ 2 5 _ _ ht2).mono ?_
  rintro e w3 ⟨rfl, rfl⟩
  have e3 : judgeR (setTab (fun _ => SRow.zero) ⟨2, 5, 1, 0, 0⟩) 2 5 = 1 := by decide
  rw [e3]
  go_wp2_with fail
  refine (Judge_any _ 2 4 _ _ ht2).mono ?_
  rintro e w3 ⟨rfl, rfl⟩
  have e4 : judgeR (setTab (fun _ => SRow.zero) ⟨2, 5, 1, 0, 0⟩) 2 4 = 2 := by decide
  rw [e4]
  go_wp2_with fail
  go_ret
  exact ⟨rfl, hb.trans (hk2.below hb.size (by simp))⟩

theorem getR_num_le (R : Nat → SRow) (r : SRow) : (getR R r.cl).num ≤ (getR (setTab R r) r.cl).num := by
  by_cases h : setErr R r = 0
  · have h1 : r.fine = true := by
      cases hf : r.fine with
      | true => rfl
      | false => simp [setErr, hf] at h
    have h2 : judgeR R r.cl r.num = 0 := by
      simp only [setErr, h1] at h
      simp at h
      exact h
    have hr : inRange r.cl = true := by simp [SRow.fine] at h1; simp [inRange]; omega
    have hn : 1 ≤ r.num := by simp [SRow.fine] at h1; omega
    have h3 : (R (r.cl - 1).toNat).num < r.num := by
      simp only [judgeR, hr] at h2
      split at h2
      · omega
      · split at h2
        · assumption
        · split at h2 <;> omega
    simp only [setTab, h, if_true, getR, hr, setR, true_and]
    have h0 : r.num ≠ 0 := by omega
    rw [if_pos h0]
    split
    · omega
    · simp [SRow.zero]; omega
  · simp [setTab, h]

theorem setErr_zero (R : Nat → SRow) (r : SRow) : setErr R r = 0 ↔ (r.fine = true ∧ judgeR R r.cl r.num = 0) := by
  unfold setErr
  cases r.fine <;> simp
theorem getR_same (R : Nat → SRow) (r : SRow) (h : setErr R r ≠ 0) : getR (setTab R r) r.cl = getR R r.cl := by simp [setTab, h]

set_option maxRecDepth 100000 in
set_option maxHeartbeats 2000000 in
theorem SessRises_walk (A : Option Addr) (n c : Nat) (rows : List SRow) (w : World) (ha : RowsAt w A n rows) :
    Calls Try.prog 3 #[.slice A n c] w fun e w' => e = .returned (.bool true) ∧ Below w.heap.size w w' := by
  have hn := ha.2.1
  go_enter Try.func3, Try.ntmps3
  go_wp2_with fail
  refine (New_any _).mono ?_
  rintro e w1 ⟨rfl, ht1, hb1⟩
  go_wp2_with fail
  go_loopw [4] (fun i wr => ∃ (k : Nat) (R : Nat → SRow), k ≤ n ∧ i = .int .i64 k ∧ TabAt wr w.heap.size R ∧ Below w.heap.size w wr) (fun i _ => n - (intOf i).toNat)
  case atStart => exact ⟨0, _, Nat.zero_le _, rfl, ht1, hb1⟩
  case round =>
    obtain ⟨k, R, hk, rfl, ht, hb⟩ := hrel
    by_cases hlt : k < n ∧ k < 40
    · obtain ⟨hl1, hl2⟩ := hlt
      have ha' : RowsAt wr A n rows := ⟨ha.1, ha.2.1, fun h0 => by
        obtain ⟨b, o, e, hc⟩ := ha.2.2 h0
        refine ⟨b, o, e, fun i j hi hj => ?_⟩
        have h1 := hc i j hi hj
        exact (hb.cell (block_lt_of_cell h1)).trans h1⟩
      obtain ⟨b, o, rfl, hc⟩ := ha'.2.2 (by omega)
      obtain ⟨r, hr⟩ : ∃ r, r = rows.getD k .zero := ⟨_, rfl⟩
      have c0 : wr.cell? ⟨b, o + k * 5, none⟩ = some (.int .i64 r.cl) := by rw [hr]; exact hc k 0 hl1 (by omega)
      have c1 : wr.cell? ⟨b, o + k * 5 + 1, none⟩ = some (.int .u64 r.num) := by rw [hr]; exact hc k 1 hl1 (by omega)
      have c2 : wr.cell? ⟨b, o + k * 5 + 2, none⟩ = some (.int .u64 r.seq) := by rw [hr]; exact hc k 2 hl1 (by omega)
      have c3 : wr.cell? ⟨b, o + k * 5 + 3, none⟩ = some (.int .i64 r.code) := by rw [hr]; exact hc k 3 hl1 (by omega)
      have c4 : wr.cell? ⟨b, o + k * 5 + 4, none⟩ = some (.int .u64 r.ver) := by rw [hr]; exact hc k 4 hl1 (by omega)
      clear hr hc
      obtain ⟨x, hx⟩ : ∃ x, getR R r.cl = x := ⟨_, rfl⟩
      obtain ⟨y, hy⟩ : ∃ y, getR (setTab R r) r.cl = y := ⟨_, rfl⟩
      obtain ⟨E, hE⟩ : ∃ E, setErr R r = E := ⟨_, rfl⟩
      obtain ⟨J, hJ⟩ : ∃ J, judgeR R r.cl r.num = J := ⟨_, rfl⟩
      have hxy : x.num ≤ y.num := by rw [← hx, ← hy]; exact getR_num_le R r
      have hz := setErr_zero R r
      have hsame : E ≠ 0 → y = x := fun h => by rw [← hx, ← hy]; exact getR_same R r (by rw [hE]; exact h)
      rw [hE, hJ] at hz
      have Hx := Lib.hid hx; have Hy := Lib.hid hy; have HE := Lib.hid hE; have HJ := Lib.hid hJ; have Hz := Lib.hid hz; have Hsame := Lib.hid hsame
      clear hx hy hE hJ hz hsame
      have hbw : b < wr.heap.size := block_lt_of_cell c0
      have hgw := ht.lt
      have hbn : b ≠ w.heap.size := by
        have h0 := ha.2.2 (by omega)
        obtain ⟨b', o', e', hc'⟩ := h0
        injection e' with e'
        injection e' with e1 e2
        have := block_lt_of_cell (hc' 0 0 (by omega) (by omega))
        simp only at this
        omega
      go_wp2_with fail
      refine (Get_any _ _ R _ ht).mono ?_
      rintro e w2 ⟨rfl, hb2⟩
      obtain ⟨hc2, hf2⟩ := old_cells hb2
      have ht2 := ht.below hb2
      have hs2 := hb2.size
      have l2 : b < w2.heap.size := by omega
      have m2 : w.heap.size < w2.heap.size := by omega
      rw [Hx.out]
      simp only [SRow.val]
      go_wp2_with fail
      go_quiet ((go_at_call 14; exact Calls.quiet_of_same ((Judge_any _ r.cl r.num R _ ((ht2.below ((Below.refl _ _).alloc (Nat.le_refl _) _)).drewN _)).mono fun _ _ h => ⟨h.1, h.2.symm⟩)))
      rw [HJ.out]
      go_wp2_with fail
      refine (ours_any r _).mono ?_
      rintro e w3 ⟨rfl, hb3⟩
      obtain ⟨hc3, hf3⟩ := old_cells hb3
      have hs3 := hb3.size
      simp only [World.size_alloc, World.heap_drewN] at hc3 hf3 hs3
      have l3 : b < w3.heap.size := by omega
      have m3 : w.heap.size < w3.heap.size := by omega
      have n3 : w2.heap.size < w3.heap.size := by omega
      have l2' : b < w2.heap.size + 1 := by omega
      have q1 : w3.cell? ⟨w2.heap.size, 0, none⟩ = some (.int .i64 x.cl) := by rw [hc3 _ _ (by omega)]; go_simp
      have q2 : w3.cell? ⟨w2.heap.size, 1, none⟩ = some (.int .u64 x.num) := by rw [hc3 _ _ (by omega)]; go_simp
      have q3 : w3.cell? ⟨w2.heap.size, 2, none⟩ = some (.int .u64 x.seq) := by rw [hc3 _ _ (by omega)]; go_simp
      have q4 : w3.cell? ⟨w2.heap.size, 3, none⟩ = some (.int .i64 x.code) := by rw [hc3 _ _ (by omega)]; go_simp
      have q5 : w3.cell? ⟨w2.heap.size, 4, none⟩ = some (.int .u64 x.ver) := by rw [hc3 _ _ (by omega)]; go_simp
      have d0 : w3.cell? ⟨b, o + k * 5, none⟩ = some (.int .i64 r.cl) := by rw [hc3 _ _ (by omega)]; go_simp
      have d1 : w3.cell? ⟨b, o + k * 5 + 1, none⟩ = some (.int .u64 r.num) := by rw [hc3 _ _ (by omega)]; go_simp
      have d2 : w3.cell? ⟨b, o + k * 5 + 2, none⟩ = some (.int .u64 r.seq) := by rw [hc3 _ _ (by omega)]; go_simp
      have d3 : w3.cell? ⟨b, o + k * 5 + 3, none⟩ = some (.int .i64 r.code) := by rw [hc3 _ _ (by omega)]; go_simp
      have d4 : w3.cell? ⟨b, o + k * 5 + 4, none⟩ = some (.int .u64 r.ver) := by rw [hc3 _ _ (by omega)]; go_simp
      have ht3 : TabAt w3 w.heap.size R := ((ht2.below ((Below.refl _ _).alloc (Nat.le_refl _) _)).drewN _).below hb3
      have hbw3 : Below w.heap.size w w3 := (hb.trans (hb2.mono (by omega))).trans (((below_drewN ((Below.refl _ w2).alloc (Nat.le_refl _) _) _).mono (by omega)).trans (hb3.mono (by simp; omega)))
      clear c0 c1 c2 c3 c4 hc2 hf2 hc3 hf3
      go_wp2_with fail
      refine (Set_any _ r R _ ht3).mono ?_
      rintro e w4 ⟨rfl, ht4, hk4⟩
      rw [HE.out]
      have hc4 : ∀ b o, b < w3.heap.size → b ≠ w.heap.size → w4.cell? ⟨b, o, none⟩ = w3.cell? ⟨b, o, none⟩ := fun b o h1 h2 => hk4.cell (p := ⟨b, o, none⟩) h1 (by simpa using h2)
      have hs4 := hk4.size
      have l4 : b < w4.heap.size := by omega
      have n4 : w2.heap.size < w4.heap.size := by omega
      have p4 : w2.heap.size ≠ w.heap.size := by omega
      go_wp2_with fail
      refine (Get_any _ _ _ _ ht4).mono ?_
      rintro e w5 ⟨rfl, hb5⟩
      obtain ⟨hc5, hf5⟩ := old_cells hb5
      have hs5 := hb5.size
      have l5 : b < w5.heap.size := by omega
      have n5 : w2.heap.size < w5.heap.size := by omega
      rw [Hy.out]
      simp only [SRow.val]
      have x0 : w5.cell? ⟨b, o + k * 5, none⟩ = some (.int .i64 r.cl) := by rw [hc5 _ _ l4, hc4 _ _ l3 hbn]; exact d0
      have x1 : w5.cell? ⟨b, o + k * 5 + 1, none⟩ = some (.int .u64 r.num) := by rw [hc5 _ _ l4, hc4 _ _ l3 hbn]; exact d1
      have x2 : w5.cell? ⟨b, o + k * 5 + 2, none⟩ = some (.int .u64 r.seq) := by rw [hc5 _ _ l4, hc4 _ _ l3 hbn]; exact d2
      have x3 : w5.cell? ⟨b, o + k * 5 + 3, none⟩ = some (.int .i64 r.code) := by rw [hc5 _ _ l4, hc4 _ _ l3 hbn]; exact d3
      have x4 : w5.cell? ⟨b, o + k * 5 + 4, none⟩ = some (.int .u64 r.ver) := by rw [hc5 _ _ l4, hc4 _ _ l3 hbn]; exact d4
      have y1 : w5.cell? ⟨w2.heap.size, 0, none⟩ = some (.int .i64 x.cl) := by rw [hc5 _ _ n4, hc4 _ _ n3 p4]; exact q1
      have y2 : w5.cell? ⟨w2.heap.size, 1, none⟩ = some (.int .u64 x.num) := by rw [hc5 _ _ n4, hc4 _ _ n3 p4]; exact q2
      have y3 : w5.cell? ⟨w2.heap.size, 2, none⟩ = some (.int .u64 x.seq) := by rw [hc5 _ _ n4, hc4 _ _ n3 p4]; exact q3
      have y4 : w5.cell? ⟨w2.heap.size, 3, none⟩ = some (.int .i64 x.code) := by rw [hc5 _ _ n4, hc4 _ _ n3 p4]; exact q4
      have y5 : w5.cell? ⟨w2.heap.size, 4, none⟩ = some (.int .u64 x.ver) := by rw [hc5 _ _ n4, hc4 _ _ n3 p4]; exact q5
      have ht5 := ht4.below hb5
      have hbw5 : Below w.heap.size w w5 := (hbw3.trans (hk4.below (by omega) (by simp))).trans (hb5.mono (by omega))
      clear q1 q2 q3 q4 q5 d0 d1 d2 d3 d4 hc4 hc5 hf5
      by_cases hE0 : E = 0
      · have b1 : (E == 0) = true := by simp [hE0]
        have b2 : (E != 0) = false := by simp [hE0]
        obtain ⟨hf, hj0⟩ := Hz.out.1 hE0
        have b3 : (J == 0) = true := by simp [hj0]
        have Hf := Lib.hid hf
        clear hf hj0 hE0
        go_wp2_with fail
        refine (Fine_any r _).mono ?_
        rintro e w6 ⟨rfl, hb6⟩
        rw [Hf.out]
        go_wp2_with fail
        have hal : Below w5.heap.size w5 w6 := ((Below.refl _ w5).alloc (Nat.le_refl _) _).trans (hb6.mono (by simp))
        go_roundw
        case rel => exact ⟨k + 1, _, by omega, by go_num, ht5.below hal, hbw5.trans (hal.mono hbw5.size)⟩
        case measure => simp [intOf]; omega
      · have b1 : (E == 0) = false := by simp [hE0]
        have b2 : (E != 0) = true := by simp [hE0]
        have hyx := Hsame.out hE0
        subst hyx
        by_cases hj0 : J = 0
        · have b3 : (J == 0) = true := by simp [hj0]
          have hf : r.fine = false := by
            cases h : r.fine with
            | false => rfl
            | true => exact absurd (Hz.out.2 ⟨h, hj0⟩) hE0
          have Hf := Lib.hid hf
          have Hy2 := Hy
          clear hf hj0 hE0
          go_wp2_with fail
          refine (Fine_any r _).mono ?_
          rintro e w6 ⟨rfl, hb6⟩
          rw [Hf.out]
          have hal : Below w5.heap.size w5 w6 := ((Below.refl _ w5).alloc (Nat.le_refl _) _).trans (hb6.mono (by simp))
          obtain ⟨hc6, hf6⟩ := old_cells hb6
          simp only [World.size_alloc] at hc6 hf6
          go_wp2_with fail
          go_roundw
          case rel => exact ⟨k + 1, _, by omega, by go_num, ht5.below hal, hbw5.trans (hal.mono hbw5.size)⟩
          case measure => simp [intOf]; omega
        · have b3 : (J == 0) = false := by simp [hj0]
          clear hj0 hE0
          have hal : ∀ X, Below w5.heap.size w5 (w5.alloc X) := fun X => (Below.refl _ w5).alloc (Nat.le_refl _) _
          go_wp2_with fail
          go_roundw
          case rel => exact ⟨k + 1, _, by omega, by go_num, ht5.below (hal _), hbw5.trans ((hal _).mono hbw5.size)⟩
          case measure => simp [intOf]; omega
    · have hstop : ¬ (k < n) ∨ ¬ (k < 40) := by omega
      rcases hstop with h1 | h1
      · go_wp2_with fail
        refine (awake16 _).mono ?_
        rintro e w2 ⟨rfl, hb2⟩
        go_wp2_with fail
        go_ret
        exact ⟨rfl, hb.trans (hb2.mono hb.size)⟩
      · by_cases h2 : k < n
        · go_wp2_with fail
          refine (awake16 _).mono ?_
          rintro e w2 ⟨rfl, hb2⟩
          go_wp2_with fail
          go_ret
          exact ⟨rfl, hb.trans (hb2.mono hb.size)⟩
        · go_wp2_with fail
          refine (awake16 _).mono ?_
          rintro e w2 ⟨rfl, hb2⟩
          go_wp2_with fail
          go_ret
          exact ⟨rfl, hb.trans (hb2.mono hb.size)⟩
end Go.Proofs.Ytehfddafjemedaa
