/- Contracts of package fix: Put, Raw, Text, Bool, Done. -/
import Derived.Test.YtehfddafjemedaaFixOut
namespace Go.Proofs.Ytehfddafjemedaa
open Go.RowKit
set_option linter.unusedSimpArgs false
set_option linter.unusedVariables false

theorem OutStep.after {base g : Nat} {sl : Value} {s' : OutS} {w w1 w' : World} (hb : Below w.heap.size w w1) (h : OutStep base g sl s' w1 w') : OutStep base g sl s' w w' := by
  obtain ⟨sl', h1, h2, h3⟩ := h
  refine ⟨sl', h1, (Keeps.of_below hb _).trans h2 fun i hi => .inl hi, ?_⟩
  rcases h3 with h3 | h3
  · exact .inl h3
  · exact .inr fun k hk => Nat.le_trans hb.size (h3 k hk)

set_option maxRecDepth 100000 in
set_option maxHeartbeats 2000000 in
theorem outPut_any (base g : Nat) (sl : Value) (s : OutS) (n : Nat) (k : Int) (w : World) (h : OutAt w base g sl s) (hbase : base ≤ w.heap.size) (hsm : s.small) (hn : n < 18446744073709551616) :
    Calls Try.prog 36 #[.pointer (some ⟨g, 0, none⟩), .int .u64 (n : Int), .int .i64 k] w fun e w' => e = .returned (.tuple #[]) ∧ OutStep base g sl (putN s n k) w w' := by
  cases hk : knownB k with
  | false =>
    have H : Hid (putN s n k = failS s 1) := Lib.hid (by unfold putN; rw [if_pos hk])
    have HK := Lib.hid hk
    clear hk
    go_enter Try.func36, Try.ntmps36
    go_wp2_with fail
    refine (known_any k w).mono ?_
    rintro e w1 ⟨rfl, rfl⟩
    rw [HK.out]
    go_wp2_with fail
    refine (outFail_any base g sl s 1 w h).mono ?_
    rintro e w1 ⟨rfl, h1, hk1⟩
    go_wp2_with fail
    refine bodyPost_end (by simp [results, Try.results36, go_sem]) rfl ⟨rfl, ?_⟩
    rw [H.out]
    exact OutStep.fail h1 hk1
  | true =>
    obtain ⟨j, hj, rfl⟩ : ∃ j : Nat, (1 ≤ j ∧ j ≤ 8) ∧ k = j := ⟨k.toNat, by have := of_decide_eq_true hk; omega, by have := of_decide_eq_true hk; omega⟩
    have HK := Lib.hid hk
    cases hf : fitsB n j with
    | false =>
      have H : Hid (putN s n j = failS s 4) := Lib.hid (by unfold putN; rw [if_neg (by rw [hk]; simp)]; simp only [Int.toNat_natCast, hf, if_true])
      have HF := Lib.hid hf
      clear hk hf
      go_enter Try.func36, Try.ntmps36
      go_wp2_with fail
      refine (known_any j w).mono ?_
      rintro e w1 ⟨rfl, rfl⟩
      rw [HK.out]
      go_wp2_with fail
      refine (fits_any n j hn hj w).mono ?_
      rintro e w1 ⟨rfl, rfl⟩
      rw [HF.out]
      go_wp2_with fail
      refine (outFail_any base g sl s 4 w h).mono ?_
      rintro e w1 ⟨rfl, h1, hk1⟩
      go_wp2_with fail
      refine bodyPost_end (by simp [results, Try.results36, go_sem]) rfl ⟨rfl, ?_⟩
      rw [H.out]
      exact OutStep.fail h1 hk1
    | true =>
      have H : Hid (putN s n j = putS s (beB n j)) := Lib.hid (by unfold putN; rw [if_neg (by rw [hk]; simp)]; simp [hf])
      have HF := Lib.hid hf
      clear hk hf
      go_enter Try.func36, Try.ntmps36
      go_wp2_with fail
      refine (known_any j w).mono ?_
      rintro e w1 ⟨rfl, rfl⟩
      rw [HK.out]
      go_wp2_with fail
      refine (fits_any n j hn hj w).mono ?_
      rintro e w1 ⟨rfl, rfl⟩
      rw [HF.out]
      go_wp2_with fail
      refine (laid_any n j hn hj w).mono ?_
      rintro e w1 ⟨⟨A1, c1, rfl, ho1⟩, hb1⟩
      obtain ⟨_, _, hv1, hlc1, _⟩ := own_form ho1
      have hc1 : j ≤ c1 := by injection hv1; omega
      clear hv1 hlc1
      go_wp2_with fail
      refine (output_any base g sl s A1 j c1 (beB n j) w1 (h.below hb1) (Nat.le_trans hbase hb1.size) hsm (Rd.of_own ho1) (by omega) (by omega)).mono ?_
      rintro e w2 ⟨rfl, h2⟩
      go_wp2_with fail
      refine bodyPost_end (by simp [results, Try.results36, go_sem]) rfl ⟨rfl, ?_⟩
      rw [H.out]
      exact h2.after hb1

theorem outRaw_any (base g : Nat) (sl : Value) (s : OutS) (A : Option Addr) (n c : Nat) (bs : List UInt8) (w : World) (h : OutAt w base g sl s) (hbase : base ≤ w.heap.size) (hsm : s.small) (hr : Rd w A n bs) (hc : n ≤ c) (hn : n ≤ 10000000) :
    Calls Try.prog 52 #[.pointer (some ⟨g, 0, none⟩), .slice A n c] w fun e w' => e = .returned (.tuple #[]) ∧ OutStep base g sl (putS s bs) w w' := by
  go_enter Try.func52, Try.ntmps52
  go_wp2_with fail
  refine (output_any base g sl s A n c bs w h hbase hsm hr hc hn).mono ?_
  rintro e w1 ⟨rfl, h1⟩
  go_wp2_with fail
  refine bodyPost_end (by simp [results, Try.results52, go_sem]) rfl ⟨rfl, ?_⟩
  exact h1
set_option maxRecDepth 100000 in
set_option maxHeartbeats 2000000 in
theorem outText_any (base g : Nat) (sl : Value) (s : OutS) (A : Option Addr) (n c : Nat) (bs : List UInt8) (w : World) (h : OutAt w base g sl s) (hbase : base ≤ w.heap.size) (hsm : s.small) (hr : Rd w A n bs) (hc : n ≤ c) (hn : n ≤ 9000000) :
    Calls Try.prog 53 #[.pointer (some ⟨g, 0, none⟩), .slice A n c] w fun e w' => e = .returned (.tuple #[]) ∧ OutStep base g sl (textS s bs) w w' := by
  have HB := Lib.hid hr.1
  by_cases hlong : 65535 < n
  · have H : Hid (textS s bs = failS s 4) := Lib.hid (by unfold textS; rw [if_pos (by rw [HB.out]; exact hlong)])
    have t : (65535 : Int) < (n : Int) := by omega
    clear hlong
    go_enter Try.func53, Try.ntmps53
    go_wp2_with fail
    refine (outFail_any base g sl s 4 w h).mono ?_
    rintro e w1 ⟨rfl, h1, hk1⟩
    go_wp2_with fail
    refine bodyPost_end (by simp [results, Try.results53, go_sem]) rfl ⟨rfl, ?_⟩
    rw [H.out]
    exact OutStep.fail h1 hk1
  · have H : Hid (textS s bs = putS s (beB n 2 ++ bs)) := Lib.hid (by unfold textS; rw [if_neg (by rw [HB.out]; exact hlong), HB.out])
    have t : ¬ (65535 : Int) < (n : Int) := by omega
    clear hlong
    go_enter Try.func53, Try.ntmps53
    go_wp2_with fail
    refine (laid_any n 2 (by omega) (by omega) w).mono ?_
    rintro e w1 ⟨⟨A1, c1, rfl, ho1⟩, hb1⟩
    obtain ⟨_, _, hv1, hlc1, _⟩ := own_form ho1
    have hc1 : 2 ≤ c1 := by injection hv1; omega
    have hX : Below w1.heap.size w1 (w1.alloc (.cells #[.slice A1 2 c1, .slice A n c] 51)) := (Below.refl _ _).alloc (Nat.le_refl _) _
    have hx := Blk.new w1 51 #[.slice A1 2 c1, .slice A n c]
    have HC1 := Lib.hid hc1
    clear hv1 hlc1 hc1
    go_wp2_with fail
    generalize (w1.alloc (.cells #[.slice A1 2 c1, .slice A n c] 51)) = w2 at hX hx ⊢
    have hB2 := hb1.trans (hX.mono hb1.size)
    have hl : ([⟨A1, c1, beB n 2⟩, ⟨A, c, bs⟩] : List PC).length = 2 := rfl
    have hcat : cat [⟨A1, c1, beB n 2⟩, ⟨A, c, bs⟩] = beB n 2 ++ bs := by simp [cat]
    refine (Concat_any _ 2 2 [⟨A1, c1, beB n 2⟩, ⟨A, c, bs⟩] w2 rfl (by omega) ?_ ?_ ?_).mono ?_
    · intro k hk
      have h2 : k = 0 ∨ k = 1 := by omega
      rcases h2 with rfl | rfl
      · rw [hx.cell]; simp [PC.val, beB_len]
      · rw [hx.cell]; simp [PC.val, HB.out]
    · intro x hx'
      simp only [List.mem_cons, List.not_mem_nil, or_false] at hx'
      rcases hx' with rfl | rfl
      · refine ⟨?_, by simp [beB_len]; exact HC1.out⟩
        simp only [beB_len]
        exact (Rd.of_own ho1).below_ hX
      · simp only [HB.out]
        exact ⟨hr.below hB2 fun h0 ad e => hr.lt h0 ad e, hc⟩
    · rw [hcat, List.length_append, beB_len, HB.out]; omega
    rw [hcat]
    rintro e w3 ⟨⟨A3, c3, rfl, ho3⟩, hb3⟩
    have hlen : (beB n 2 ++ bs).length = n + 2 := by rw [List.length_append, beB_len, HB.out]; omega
    rw [hlen] at ho3 ⊢
    obtain ⟨_, _, hv3, hlc3, _⟩ := own_form ho3
    have hc3 : n + 2 ≤ c3 := by injection hv3; omega
    have hB3 := hB2.trans (hb3.mono hB2.size)
    clear hl hcat hlen hx hX ho1 hv3 hlc3 hb1 hb3 hB2
    go_wp2_with fail
    refine (output_any base g sl s A3 (n + 2) c3 (beB n 2 ++ bs) w3 (h.below hB3) (Nat.le_trans hbase hB3.size) hsm (Rd.of_own ho3) hc3 (by omega)).mono ?_
    rintro e w4 ⟨rfl, h4⟩
    go_wp2_with fail
    refine bodyPost_end (by simp [results, Try.results53, go_sem]) rfl ⟨rfl, ?_⟩
    rw [H.out]
    exact h4.after hB3

theorem outBool_any (base g : Nat) (sl : Value) (s : OutS) (x : Bool) (w : World) (h : OutAt w base g sl s) (hbase : base ≤ w.heap.size) (hsm : s.small) :
    Calls Try.prog 54 #[.pointer (some ⟨g, 0, none⟩), .bool x] w fun e w' => e = .returned (.tuple #[]) ∧ OutStep base g sl (boolS s x) w w' := by
  cases x with
  | true =>
    go_enter Try.func54, Try.ntmps54
    go_wp2_with fail
    refine (outPut_any base g sl s 1 1 w h hbase hsm (by omega)).mono ?_
    rintro e w1 ⟨rfl, h1⟩
    go_wp2_with fail
    first
      | (refine bodyPost_end (by simp [results, Try.results54, go_sem]) rfl ⟨rfl, ?_⟩; exact h1)
      | (refine bodyPost_ret (results_none rfl _ _ _) rfl ⟨rfl, ?_⟩; exact h1)
  | false =>
    go_enter Try.func54, Try.ntmps54
    go_wp2_with fail
    refine (outPut_any base g sl s 0 1 w h hbase hsm (by omega)).mono ?_
    rintro e w1 ⟨rfl, h1⟩
    go_wp2_with fail
    first
      | (refine bodyPost_end (by simp [results, Try.results54, go_sem]) rfl ⟨rfl, ?_⟩; exact h1)
      | (refine bodyPost_ret (results_none rfl _ _ _) rfl ⟨rfl, ?_⟩; exact h1)

/-- What is told at the end. -/
def doneB (s : OutS) : List UInt8 := if s.err = 0 then s.b else []
set_option maxRecDepth 100000 in
set_option maxHeartbeats 2000000 in
theorem outDone_any (base g : Nat) (sl : Value) (s : OutS) (w : World) (h : OutAt w base g sl s) (hsm : s.b.length ≤ 1000000) :
    Calls Try.prog 27 #[.pointer (some ⟨g, 0, none⟩)] w fun e w' => (∃ A c, e = .returned (.tuple #[.slice A (doneB s).length c, .int .i64 s.err]) ∧ w'.ownsRow w.heap.size 5 1 (.slice A (doneB s).length c) (doneB s).length ((doneB s).map bv)) ∧ Below w.heap.size w w' := by
  obtain ⟨A0, c0', hsl, hlc, hcm⟩ := own_form h.own
  have c0 := h.blk.cell 0
  have c2 := h.blk.cell 2
  have hg := h.blk.lt
  simp only [List.getElem?_toArray, List.getElem?_cons_zero, List.getElem?_cons_succ] at c0 c2
  rw [hsl] at c0
  have hr : Rd w A0 s.b.length s.b := Rd.of_own (by have := h.own; rw [hsl] at this; exact this)
  by_cases h0 : s.err = 0
  · have t : (s.err != 0) = false := by simp [h0]
    have H : Hid (doneB s = s.b) := Lib.hid (by unfold doneB; rw [if_pos h0])
    have H0 := Lib.hid h0
    clear h0 hsl
    go_enter Try.func27, Try.ntmps27
    go_wp2_with fail
    refine (slicesClone_any A0 s.b.length c0' s.b w hr hlc (by omega)).mono ?_
    rintro e w1 ⟨⟨A1, c1, rfl, ho1⟩, hb1⟩
    go_wp2_with fail
    refine bodyPost_ret (v := .tuple #[.slice A1 s.b.length c1, .int .i64 0]) (by simp [results, Try.results27, go_sem]) rfl ⟨⟨A1, c1, by rw [H.out, H0.out], by rw [H.out]; exact ho1⟩, hb1⟩
  · have t : (s.err != 0) = true := by simp [h0]
    have H : Hid (doneB s = []) := Lib.hid (by unfold doneB; rw [if_neg h0])
    clear h0 hsl
    go_enter Try.func27, Try.ntmps27
    go_wp2_with fail
    go_quiet (fail)
    go_wp2_with fail
    refine bodyPost_ret (v := .tuple #[.slice none 0 0, .int .i64 s.err]) (by simp [results, Try.results27, go_sem]) rfl ⟨⟨none, 0, by rw [H.out]; rfl, by rw [H.out]; exact World.ownsRow_nil _ _ _ _⟩, below_drewN (Below.refl _ _) _⟩
end Go.Proofs.Ytehfddafjemedaa
