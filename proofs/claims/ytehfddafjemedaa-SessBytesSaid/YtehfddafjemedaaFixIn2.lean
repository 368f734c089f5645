/- Contracts of package fix: Upto, Get, Raw, Text, Bool, Left, Err, Done. -/
import Derived.Test.YtehfddafjemedaaFixIn
namespace Go.Proofs.Ytehfddafjemedaa
open Go.RowKit
set_option linter.unusedSimpArgs false
set_option linter.unusedVariables false

def uptoS (s : IS) (k : Int) (most : Nat) : IS :=
  if s.err ≠ 0 then s else if knownB k = false then inF s 1 else if okN s k.toNat = false then nextS s k.toNat else if most < beN (nextB s k.toNat) then inF (nextS s k.toNat) 4 else nextS s k.toNat
def uptoN (s : IS) (k : Int) (most : Nat) : Nat :=
  if s.err ≠ 0 then 0 else if knownB k = false then 0 else if okN s k.toNat = false then 0 else if most < beN (nextB s k.toNat) then 0 else beN (nextB s k.toNat)

theorem InZ.err {w : World} {Z : Nat → Prop} {g : Nat} {s : IS} (h : InZ w Z g s) : w.cell? ⟨g, 1, none⟩ = some (.int .i64 s.err) ∧ g < w.heap.size := by
  obtain ⟨_, ⟨A, m, c, hb, _⟩, _⟩ := h
  exact ⟨hb.cell 1, hb.lt⟩
theorem nextB_len (s : IS) (n : Nat) : (nextB s n).length ≤ n := by
  unfold nextB
  split
  · exact List.length_take_le _ _
  · simp

set_option maxHeartbeats 1000000 in
theorem inUpto_any (Z : Nat → Prop) (g : Nat) (s : IS) (k : Int) (most : Nat) (w : World) (h : InZ w Z g s) :
    Calls Try.prog 47 #[.pointer (some ⟨g, 0, none⟩), .int .i64 k, .int .u64 (most : Int)] w fun e w' => e = .returned (.int .u64 ((uptoN s k most : Nat) : Int)) ∧ InZ w' Z g (uptoS s k most) ∧ Keeps [g] w w' := by
  obtain ⟨c1, hg⟩ := h.err
  by_cases h0 : s.err = 0
  · have t : (s.err != 0) = false := by simp [h0]
    have hn0 : ¬ s.err ≠ 0 := by simpa using h0
    clear h0
    cases hk : knownB k with
    | false =>
      have H1 : Hid (uptoS s k most = inF s 1) := Lib.hid (by unfold uptoS; rw [if_neg hn0, if_pos hk])
      have H2 : Hid (uptoN s k most = 0) := Lib.hid (by unfold uptoN; rw [if_neg hn0, if_pos hk])
      have HK := Lib.hid hk
      clear hk hn0
      go_enter Try.func47, Try.ntmps47
      go_wp2_with fail
      refine (known_any k w).mono ?_
      rintro e w1 ⟨rfl, rfl⟩
      rw [HK.out]
      go_wp2_with fail
      refine (inFail_any Z g s 1 w h).mono ?_
      rintro e w1 ⟨rfl, h1, hk1⟩
      go_wp2_with fail
      go_ret
      exact ⟨by rw [H2.out]; rfl, by rw [H1.out]; exact h1, hk1⟩
    | true =>
      obtain ⟨j, hj, rfl⟩ : ∃ j : Nat, (1 ≤ j ∧ j ≤ 8) ∧ k = j := ⟨k.toNat, by have := of_decide_eq_true hk; omega, by have := of_decide_eq_true hk; omega⟩
      have HK := Lib.hid hk
      have hnk : ¬ knownB j = false := by rw [hk]; simp
      have hnx := inNext_any Z g s j w h (by omega)
      have hbl := nextB_len s j
      cases ho : okN s j with
      | false =>
        have H1 : Hid (uptoS s j most = nextS s j) := Lib.hid (by unfold uptoS; rw [if_neg hn0, if_neg hnk, Int.toNat_natCast, if_pos ho])
        have H2 : Hid (uptoN s j most = 0) := Lib.hid (by unfold uptoN; rw [if_neg hn0, if_neg hnk, Int.toNat_natCast, if_pos ho])
        unfold NextTold at hnx
        rw [ho] at hnx
        have HO := Lib.hid ho
        clear hk hn0 hnk ho
        go_enter Try.func47, Try.ntmps47
        go_wp2_with fail
        refine (known_any j w).mono ?_
        rintro e w1 ⟨rfl, rfl⟩
        rw [HK.out]
        go_wp2_with fail
        refine hnx.mono ?_
        rintro e w1 ⟨⟨A1, c1', rfl, hr1, hc1, h1⟩, hk1⟩
        clear hnx
        go_wp2_with fail
        go_ret
        exact ⟨by rw [H2.out]; rfl, by rw [H1.out]; exact h1, hk1⟩
      | true =>
        have hno : ¬ okN s j = false := by rw [ho]; simp
        unfold NextTold at hnx
        rw [ho] at hnx
        obtain ⟨N, hN⟩ : ∃ N, beN (nextB s j) = N := ⟨_, rfl⟩
        by_cases hm : most < N
        · have H1 : Hid (uptoS s j most = inF (nextS s j) 4) := Lib.hid (by unfold uptoS; rw [if_neg hn0, if_neg hnk, Int.toNat_natCast, if_neg hno, hN, if_pos hm])
          have H2 : Hid (uptoN s j most = 0) := Lib.hid (by unfold uptoN; rw [if_neg hn0, if_neg hnk, Int.toNat_natCast, if_neg hno, hN, if_pos hm])
          have tm : (most : Int) < (N : Int) := by omega
          have HN := Lib.hid hN
          clear hk hn0 hnk ho hno hN hm
          go_enter Try.func47, Try.ntmps47
          go_wp2_with fail
          refine (known_any j w).mono ?_
          rintro e w1 ⟨rfl, rfl⟩
          rw [HK.out]
          go_wp2_with fail
          refine hnx.mono ?_
          rintro e w1 ⟨⟨A1, c1', rfl, hr1, hc1, h1⟩, hk1⟩
          clear hnx
          go_wp2_with fail
          refine (number_any A1 _ c1' _ w1 hr1 (by omega)).mono ?_
          rintro e w2 ⟨rfl, rfl⟩
          rw [HN.out]
          go_wp2_with fail
          refine (inFail_any Z g _ 4 w1 h1).mono ?_
          rintro e w2 ⟨rfl, h2, hk2⟩
          go_wp2_with fail
          go_ret
          exact ⟨by rw [H2.out]; rfl, by rw [H1.out]; exact h2, hk1.trans hk2 fun i hi => .inl hi⟩
        · have H1 : Hid (uptoS s j most = nextS s j) := Lib.hid (by unfold uptoS; rw [if_neg hn0, if_neg hnk, Int.toNat_natCast, if_neg hno, hN, if_neg hm])
          have H2 : Hid (uptoN s j most = N) := Lib.hid (by unfold uptoN; rw [if_neg hn0, if_neg hnk, Int.toNat_natCast, if_neg hno, hN, if_neg hm])
          have tm : ¬ (most : Int) < (N : Int) := by omega
          have HN := Lib.hid hN
          clear hk hn0 hnk ho hno hN hm
          go_enter Try.func47, Try.ntmps47
          go_wp2_with fail
          refine (known_any j w).mono ?_
          rintro e w1 ⟨rfl, rfl⟩
          rw [HK.out]
          go_wp2_with fail
          refine hnx.mono ?_
          rintro e w1 ⟨⟨A1, c1', rfl, hr1, hc1, h1⟩, hk1⟩
          clear hnx
          go_wp2_with fail
          refine (number_any A1 _ c1' _ w1 hr1 (by omega)).mono ?_
          rintro e w2 ⟨rfl, rfl⟩
          rw [HN.out]
          go_wp2_with fail
          go_ret
          exact ⟨by rw [H2.out]; rfl, by rw [H1.out]; exact h1, hk1⟩
  · have t : (s.err != 0) = true := by simp [h0]
    have H1 : Hid (uptoS s k most = s) := Lib.hid (by unfold uptoS; rw [if_pos h0])
    have H2 : Hid (uptoN s k most = 0) := Lib.hid (by unfold uptoN; rw [if_pos h0])
    clear h0
    go_enter Try.func47, Try.ntmps47
    go_wp2_with fail
    go_ret
    exact ⟨by rw [H2.out]; rfl, by rw [H1.out]; exact h, Keeps.refl _ _⟩

theorem inGet_any (Z : Nat → Prop) (g : Nat) (s : IS) (k : Int) (w : World) (h : InZ w Z g s) :
    Calls Try.prog 33 #[.pointer (some ⟨g, 0, none⟩), .int .i64 k] w fun e w' => e = .returned (.int .u64 ((uptoN s k 18446744073709551615 : Nat) : Int)) ∧ InZ w' Z g (uptoS s k 18446744073709551615) ∧ Keeps [g] w w' := by
  obtain ⟨M, hM⟩ : ∃ M, M = 18446744073709551615 := ⟨_, rfl⟩
  rw [← hM]
  have hu := inUpto_any Z g s k M w h
  have HM : Hid ((M : Int) = 18446744073709551615) := Lib.hid (by rw [hM]; rfl)
  rw [HM.out] at hu
  clear hM
  go_enter Try.func33, Try.ntmps33
  go_wp2_with fail
  refine hu.mono ?_
  rintro e w1 ⟨rfl, h1, hk1⟩
  clear hu
  go_wp2_with fail
  go_ret
  exact ⟨rfl, h1, hk1⟩
theorem inBool_any (Z : Nat → Prop) (g : Nat) (s : IS) (w : World) (h : InZ w Z g s) :
    Calls Try.prog 40 #[.pointer (some ⟨g, 0, none⟩)] w fun e w' => e = .returned (.bool (decide (uptoN s 1 1 = 1))) ∧ InZ w' Z g (uptoS s 1 1) ∧ Keeps [g] w w' := by
  have hu := inUpto_any Z g s 1 1 w h
  obtain ⟨N, hN⟩ : ∃ N, uptoN s 1 1 = N := ⟨_, rfl⟩
  rw [hN] at hu ⊢
  have HN := Lib.hid hN
  clear hN
  go_enter Try.func40, Try.ntmps40
  go_wp2_with fail
  refine hu.mono ?_
  rintro e w1 ⟨rfl, h1, hk1⟩
  clear hu
  go_wp2_with fail
  go_ret
  exact ⟨ret_bool (by show ((N : Int) == 1) = _; rw [Bool.eq_iff_iff]; simp; omega), h1, hk1⟩
theorem inErr_any (Z : Nat → Prop) (g : Nat) (s : IS) (w : World) (h : InZ w Z g s) : Calls Try.prog 34 #[.pointer (some ⟨g, 0, none⟩)] w fun e w' => e = .returned (.int .i64 s.err) ∧ w = w' := by
  obtain ⟨c1, hg⟩ := h.err
  go_enter Try.func34, Try.ntmps34
  go_wp2_with fail
  go_ret
  exact ⟨rfl, rfl⟩
theorem inLeft_any (Z : Nat → Prop) (g : Nat) (s : IS) (w : World) (h : InZ w Z g s) : Calls Try.prog 35 #[.pointer (some ⟨g, 0, none⟩)] w fun e w' => e = .returned (.int .i64 (s.b.length : Int)) ∧ w = w' := by
  obtain ⟨_, ⟨A, n, c, hb, hr, _⟩, _⟩ := h
  have c0 := hb.cell 0
  have hg := hb.lt
  simp only [List.getElem?_toArray, List.getElem?_cons_zero, List.getElem?_cons_succ] at c0
  have HL := Lib.hid hr.1
  go_enter Try.func35, Try.ntmps35
  go_wp2_with fail
  go_ret
  exact ⟨by rw [HL.out]; rfl, rfl⟩
theorem inDone_any (Z : Nat → Prop) (g : Nat) (s : IS) (w : World) (h : InZ w Z g s) : Calls Try.prog 41 #[.pointer (some ⟨g, 0, none⟩)] w fun e w' => e = .returned (.int .i64 (doneS s)) ∧ w = w' := by
  have he := inErr_any Z g s w h
  obtain ⟨_, ⟨A, n, c, hb, hr, _⟩, _⟩ := h
  have c0 := hb.cell 0
  have hg := hb.lt
  simp only [List.getElem?_toArray, List.getElem?_cons_zero, List.getElem?_cons_succ] at c0
  by_cases h0 : s.err = 0
  · have t : (s.err != 0) = false := by simp [h0]
    have hn0 : ¬ s.err ≠ 0 := by simpa using h0
    rcases Nat.eq_zero_or_pos n with hz | hz
    · have H : Hid (doneS s = 0) := Lib.hid (by unfold doneS; rw [if_neg hn0, if_pos (List.eq_nil_of_length_eq_zero (by rw [hr.1, hz]))])
      subst hz
      clear h0 hn0
      go_enter Try.func41, Try.ntmps41
      go_wp2_with fail
      refine he.mono ?_
      rintro e w1 ⟨rfl, rfl⟩
      clear he
      go_wp2_with fail
      go_ret
      exact ⟨by rw [H.out]; rfl, rfl⟩
    · have H : Hid (doneS s = 4) := Lib.hid (by unfold doneS; rw [if_neg hn0, if_neg (fun e => by have := hr.1; rw [e] at this; simp at this; omega)])
      have tz : (0 : Int) < (n : Int) := by omega
      clear h0 hn0
      go_enter Try.func41, Try.ntmps41
      go_wp2_with fail
      refine he.mono ?_
      rintro e w1 ⟨rfl, rfl⟩
      clear he
      go_wp2_with fail
      go_ret
      exact ⟨by rw [H.out]; rfl, rfl⟩
  · have t : (s.err != 0) = true := by simp [h0]
    have H : Hid (doneS s = s.err) := Lib.hid (by unfold doneS; rw [if_pos h0])
    clear h0
    go_enter Try.func41, Try.ntmps41
    go_wp2_with fail
    refine he.mono ?_
    rintro e w1 ⟨rfl, rfl⟩
    clear he
    go_wp2_with fail
    go_ret
    exact ⟨by rw [H.out]; rfl, rfl⟩
end Go.Proofs.Ytehfddafjemedaa
