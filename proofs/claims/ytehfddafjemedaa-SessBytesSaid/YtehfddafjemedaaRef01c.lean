/- Contracts of the document's answer, layer 1: Get, Read, Bool, Done, Cut. -/
import Derived.Test.YtehfddafjemedaaRef01b
import Derived.Test.YtehfddafjemedaaCut
namespace Go.Proofs.Ytehfddafjemedaa
open Go.RowKit
set_option linter.unusedSimpArgs false
set_option linter.unusedVariables false

theorem ref1Get_any (A : Option Addr) (n c : Nat) (s : IS) (k : Int) (w : World) (h : RIn w A n c s) :
    Calls Try.prog 45 #[rinV A n c s.err, .int .i64 k] w fun e w' => NumTold (uptoS s k 18446744073709551615) (uptoN s k 18446744073709551615) e w' ∧ Below w.heap.size w w' := by
  obtain ⟨M, hM⟩ : ∃ M, M = 18446744073709551615 := ⟨_, rfl⟩
  rw [← hM]
  have hu := fun W (hW : RIn W A n c s) => refUpto_any A n c s k M W hW
  have HM : Hid ((M : Int) = 18446744073709551615) := Lib.hid (by rw [hM]; rfl)
  rw [HM.out] at hu
  clear hM
  unfold NumTold rinV at hu
  unfold rinV
  obtain ⟨E1, hE1⟩ : ∃ z, (uptoS s k M).err = z := ⟨_, rfl⟩
  obtain ⟨N, hN⟩ : ∃ z, uptoN s k M = z := ⟨_, rfl⟩
  rw [hE1, hN] at hu
  have HE := Lib.hid hE1
  have HN := Lib.hid hN
  clear hE1 hN
  go_enter Try.func45, Try.ntmps45
  go_wp2_with fail
  have hX : Below w.heap.size w ((w.alloc (.cells #[.slice A n c, .int .i64 s.err] 76)).alloc (.cells #[.slice none 0 0, .int .i64 0] 76)) := ((Below.refl _ _).alloc (Nat.le_refl _) _).alloc (by simp) _
  have hbr : Blk ((w.alloc (.cells #[.slice A n c, .int .i64 s.err] 76)).alloc (.cells #[.slice none 0 0, .int .i64 0] 76)) (w.heap.size + 1) 76 #[.slice none 0 0, .int .i64 0] := by
    have := Blk.new (w.alloc (.cells #[.slice A n c, .int .i64 s.err] 76)) 76 #[.slice none 0 0, .int .i64 0]
    simpa using this
  generalize ((w.alloc (.cells #[.slice A n c, .int .i64 s.err] 76)).alloc (.cells #[.slice none 0 0, .int .i64 0] 76)) = X at hX hbr ⊢
  refine (hu X (h.below hX)).mono ?_
  rintro e w1 ⟨⟨A1, n1, c1, rfl, h1⟩, hb1⟩
  have hbr1 := hbr.below hb1 hbr.lt
  have hB1 := hX.trans (hb1.mono hX.size)
  have d0 := hbr1.cell 0
  have d1 := hbr1.cell 1
  have dz := hbr1.frozen
  have dl := hbr1.lt
  simp only [List.getElem?_toArray, List.getElem?_cons_zero, List.getElem?_cons_succ] at d0 d1
  clear hu
  go_wp2_with fail
  refine bodyPost_ret (v := .tuple #[.agg #[.slice A1 n1 c1, .int .i64 E1], .int .u64 (N : Int)]) (by simp [results, Try.results45, go_sem, d0, d1, dl]) rfl ?_
  refine ⟨⟨A1, n1, c1, by rw [HE.out, HN.out]; rfl, h1.stored hbr1 _ _⟩, (hB1.setCell (by simp) _).setCell (by simp) _⟩

def YesTold (s' : IS) (v : Bool) (e : Ending) (w' : World) : Prop := ∃ A n c, e = .returned (.tuple #[rinV A n c s'.err, .bool v]) ∧ RIn w' A n c s'
theorem refBool_any (A : Option Addr) (n c : Nat) (s : IS) (w : World) (h : RIn w A n c s) :
    Calls Try.prog 50 #[rinV A n c s.err] w fun e w' => YesTold (uptoS s 1 1) (decide (uptoN s 1 1 = 1)) e w' ∧ Below w.heap.size w w' := by
  have hu := fun W (hW : RIn W A n c s) => refUpto_any A n c s 1 1 W hW
  unfold NumTold rinV at hu
  unfold rinV
  obtain ⟨E1, hE1⟩ : ∃ z, (uptoS s 1 1).err = z := ⟨_, rfl⟩
  obtain ⟨N, hN⟩ : ∃ z, uptoN s 1 1 = z := ⟨_, rfl⟩
  rw [hE1, hN] at hu
  rw [hN]
  have HE := Lib.hid hE1
  clear hE1 hN
  go_enter Try.func50, Try.ntmps50
  go_wp2_with fail
  have hX : Below w.heap.size w ((w.alloc (.cells #[.slice A n c, .int .i64 s.err] 76)).alloc (.cells #[.slice none 0 0, .int .i64 0] 76)) := ((Below.refl _ _).alloc (Nat.le_refl _) _).alloc (by simp) _
  have hbr : Blk ((w.alloc (.cells #[.slice A n c, .int .i64 s.err] 76)).alloc (.cells #[.slice none 0 0, .int .i64 0] 76)) (w.heap.size + 1) 76 #[.slice none 0 0, .int .i64 0] := by
    have := Blk.new (w.alloc (.cells #[.slice A n c, .int .i64 s.err] 76)) 76 #[.slice none 0 0, .int .i64 0]
    simpa using this
  generalize ((w.alloc (.cells #[.slice A n c, .int .i64 s.err] 76)).alloc (.cells #[.slice none 0 0, .int .i64 0] 76)) = X at hX hbr ⊢
  refine (hu X (h.below hX)).mono ?_
  rintro e w1 ⟨⟨A1, n1, c1, rfl, h1⟩, hb1⟩
  have hbr1 := hbr.below hb1 hbr.lt
  have hB1 := hX.trans (hb1.mono hX.size)
  have d0 := hbr1.cell 0
  have d1 := hbr1.cell 1
  have dz := hbr1.frozen
  have dl := hbr1.lt
  simp only [List.getElem?_toArray, List.getElem?_cons_zero, List.getElem?_cons_succ] at d0 d1
  obtain ⟨v, hv⟩ : ∃ v : Bool, v = decide (N = 1) := ⟨_, rfl⟩
  have hv' : ((N : Int) == 1) = v := by rw [hv, Bool.eq_iff_iff]; simp; omega
  have HV := Lib.hid hv
  clear hu hv
  go_wp2_with fail
  refine bodyPost_ret (v := .tuple #[.agg #[.slice A1 n1 c1, .int .i64 E1], .bool v]) (by simp [results, Try.results50, go_sem, d0, d1, dl]) rfl ?_
  refine ⟨⟨A1, n1, c1, by rw [HE.out, ← HV.out]; rfl, ?_⟩, by repeat (first | exact hB1 | refine Below.setCell ?_ (by simp) _ | refine Below.alloc ?_ (by have := hB1.size; simp; omega) _ | refine Below.drew ?_)⟩
  first
    | exact (h1.stored hbr1 _ _).below ((Below.refl _ _).alloc (Nat.le_refl _) _)
    | exact (h1.below ((Below.refl _ _).alloc (Nat.le_refl _) _)).stored (hbr1.alloc _) _ _

theorem refDone_any (A : Option Addr) (n c : Nat) (s : IS) (w : World) (h : RIn w A n c s) :
    Calls Try.prog 51 #[rinV A n c s.err] w fun e w' => e = .returned (.int .i64 (doneS s)) ∧ Below w.heap.size w w' := by
  have hl := h.rd.1
  unfold rinV
  by_cases h0 : s.err = 0
  · have hn0 : ¬ s.err ≠ 0 := by simpa using h0
    have t : (s.err == 0) = true := by simp [h0]
    rcases Nat.eq_zero_or_pos n with hz | hz
    · have H : Hid (doneS s = 0) := Lib.hid (by unfold doneS; rw [if_neg hn0, if_pos (List.eq_nil_of_length_eq_zero (by rw [hl, hz]))])
      have H0 := Lib.hid h0
      subst hz
      clear h0 hn0 hl
      go_enter Try.func51, Try.ntmps51
      go_wp2_with fail
      go_ret
      exact ⟨by rw [H.out, ← H0.out]; rfl, (Below.refl _ _).alloc (Nat.le_refl _) _⟩
    · have H : Hid (doneS s = 4) := Lib.hid (by unfold doneS; rw [if_neg hn0, if_neg (fun e => by rw [e] at hl; simp at hl; omega)])
      have tz : (0 : Int) < (n : Int) := by omega
      clear h0 hn0 hl
      go_enter Try.func51, Try.ntmps51
      go_wp2_with fail
      go_ret
      exact ⟨by rw [H.out]; rfl, (Below.refl _ _).alloc (Nat.le_refl _) _⟩
  · have t : (s.err == 0) = false := by simp [h0]
    have H : Hid (doneS s = s.err) := Lib.hid (by unfold doneS; rw [if_pos h0])
    clear h0 hl
    go_enter Try.func51, Try.ntmps51
    go_wp2_with fail
    go_ret
    exact ⟨by rw [H.out]; rfl, (Below.refl _ _).alloc (Nat.le_refl _) _⟩

set_option maxRecDepth 100000 in
set_option maxHeartbeats 2000000 in
theorem refRead_any (A : Option Addr) (n c : Nat) (s : IS) (most : Int) (w : World) (h : RIn w A n c s) :
    Calls Try.prog 49 #[rinV A n c s.err, .int .i64 most] w fun e w' => RawTold (readS s most) (readB s most) e w' ∧ Below w.heap.size w w' := by
  have hu := fun W (hW : RIn W A n c s) => ref1Get_any A n c s 2 W hW
  have hk2 : knownB ((2 : Nat) : Int) = true := rfl
  unfold NumTold rinV at hu
  unfold rinV
  cases ho : okN s 2 with
  | false =>
    have he : (nextS s 2).err ≠ 0 := fun h => by rw [nextS_err, ho] at h; cases h
    have hU := upto_no (s := s) (j := 2) (most := 18446744073709551615) hk2 ho
    have hU1 : uptoS s 2 18446744073709551615 = nextS s 2 := hU.1
    have hU2 : uptoN s 2 18446744073709551615 = 0 := hU.2
    rw [hU1, hU2] at hu
    have H1 : Hid (readS s most = nextS s 2) := Lib.hid (by unfold readS; rw [if_pos ho])
    have H2 : Hid (readB s most = []) := Lib.hid (by unfold readB; rw [if_pos ho])
    obtain ⟨E1, hE1⟩ : ∃ z, (nextS s 2).err = z := ⟨_, rfl⟩
    rw [hE1] at hu he
    have HE := Lib.hid hE1
    have tE : (E1 != 0) = true := by simpa using he
    clear ho hU hU1 hU2 hE1 he hk2
    go_enter Try.func49, Try.ntmps49
    go_wp2_with fail
    have hX : Below w.heap.size w ((w.alloc (.cells #[.slice A n c, .int .i64 s.err] 76)).alloc (.cells #[.slice none 0 0, .int .i64 0] 76)) := ((Below.refl _ _).alloc (Nat.le_refl _) _).alloc (by simp) _
    have hbr : Blk ((w.alloc (.cells #[.slice A n c, .int .i64 s.err] 76)).alloc (.cells #[.slice none 0 0, .int .i64 0] 76)) (w.heap.size + 1) 76 #[.slice none 0 0, .int .i64 0] := by
      have := Blk.new (w.alloc (.cells #[.slice A n c, .int .i64 s.err] 76)) 76 #[.slice none 0 0, .int .i64 0]
      simpa using this
    generalize ((w.alloc (.cells #[.slice A n c, .int .i64 s.err] 76)).alloc (.cells #[.slice none 0 0, .int .i64 0] 76)) = X at hX hbr ⊢
    refine (hu X (h.below hX)).mono ?_
    rintro e w1 ⟨⟨A1, n1, c1, rfl, h1⟩, hb1⟩
    have hbr1 := hbr.below hb1 hbr.lt
    have hB1 := hX.trans (hb1.mono hX.size)
    have d0 := hbr1.cell 0
    have d1 := hbr1.cell 1
    have dz := hbr1.frozen
    have dl := hbr1.lt
    simp only [List.getElem?_toArray, List.getElem?_cons_zero, List.getElem?_cons_succ] at d0 d1
    clear hu
    go_wp2_with fail
    refine bodyPost_ret (v := .tuple #[.agg #[.slice A1 n1 c1, .int .i64 E1], .slice none 0 0]) (by simp [results, Try.results49, go_sem, d0, d1, dl]) rfl ?_
    refine ⟨⟨A1, n1, c1, none, 0, by rw [H1.out, H2.out, HE.out]; rfl, ?_, by rw [H2.out]; exact Rd.nil _ _, by rw [H2.out]; exact Nat.le_refl _⟩, by repeat (first | exact hB1 | refine Below.setCell ?_ (by simp) _ | refine Below.alloc ?_ (by have := hB1.size; simp; omega) _ | refine Below.drew ?_)⟩
    rw [H1.out]
    first
      | exact (h1.stored hbr1 _ _).below ((Below.refl _ _).alloc (Nat.le_refl _) _)
      | exact (h1.below ((Below.refl _ _).alloc (Nat.le_refl _) _)).stored (hbr1.alloc _) _ _
  | true =>
    have he : (nextS s 2).err = 0 := (nextS_err s 2).2 ho
    have hlt := beN_lt (nextB s 2)
    have hp : 256 ^ (nextB s 2).length ≤ 256 ^ 2 := Nat.pow_le_pow_right (by omega) (nextB_len s 2)
    have hU := upto_yes (s := s) (j := 2) (most := 18446744073709551615) hk2 ho
    have hno : ¬ okN s 2 = false := by rw [ho]; simp
    rw [if_neg (by omega), if_neg (by omega)] at hU
    have hU1 : uptoS s 2 18446744073709551615 = nextS s 2 := hU.1
    have hU2 : uptoN s 2 18446744073709551615 = beN (nextB s 2) := hU.2
    rw [hU1, hU2, he] at hu
    obtain ⟨N, hN⟩ : ∃ N, beN (nextB s 2) = N := ⟨_, rfl⟩
    have hN9 : (N : Int) < 65536 := by omega
    rw [hN] at hu
    have HE0 := Lib.hid he
    by_cases hm : most < (N : Int)
    · have H1 : Hid (readS s most = inF (nextS s 2) 6) := Lib.hid (by unfold readS; rw [if_neg hno, hN, if_pos hm])
      have H2 : Hid (readB s most = []) := Lib.hid (by unfold readB; rw [if_neg hno, hN, if_pos hm])
      clear ho hU hU1 hU2 he hk2 hlt hp hno hN
      go_enter Try.func49, Try.ntmps49
      go_wp2_with fail
      have hX : Below w.heap.size w ((w.alloc (.cells #[.slice A n c, .int .i64 s.err] 76)).alloc (.cells #[.slice none 0 0, .int .i64 0] 76)) := ((Below.refl _ _).alloc (Nat.le_refl _) _).alloc (by simp) _
      have hbr : Blk ((w.alloc (.cells #[.slice A n c, .int .i64 s.err] 76)).alloc (.cells #[.slice none 0 0, .int .i64 0] 76)) (w.heap.size + 1) 76 #[.slice none 0 0, .int .i64 0] := by
        have := Blk.new (w.alloc (.cells #[.slice A n c, .int .i64 s.err] 76)) 76 #[.slice none 0 0, .int .i64 0]
        simpa using this
      generalize ((w.alloc (.cells #[.slice A n c, .int .i64 s.err] 76)).alloc (.cells #[.slice none 0 0, .int .i64 0] 76)) = X at hX hbr ⊢
      refine (hu X (h.below hX)).mono ?_
      rintro e w1 ⟨⟨A3, n3, c3, rfl, h3⟩, hb1⟩
      have hbr1 := hbr.below hb1 hbr.lt
      have hB1 := hX.trans (hb1.mono hX.size)
      clear hu
      go_wp2_with fail
      have hY : Below w1.heap.size w1 (w1.alloc (.cells #[.slice A3 n3 c3, .int .i64 0] 76)) := (Below.refl _ _).alloc (Nat.le_refl _) _
      generalize (w1.alloc (.cells #[.slice A3 n3 c3, .int .i64 0] 76)) = w2 at hY ⊢
      have h4 := h3.below hY
      have hfail := refFail_any A3 n3 c3 (nextS s 2) 6 w2 h4
      unfold rinV InTold at hfail
      rw [HE0.out] at hfail
      have hbr2 := hbr1.below hY hbr1.lt
      have hB2 := hB1.trans (hY.mono hB1.size)
      clear h4 h3 hY hbr1 hB1 hb1 hX hbr
      refine hfail.mono ?_
      rintro e w3 ⟨⟨A1, n1, c1, rfl, h1⟩, hb3⟩
      have hbr1 := hbr2.below hb3 hbr2.lt
      have hB1 := hB2.trans (hb3.mono hB2.size)
      obtain ⟨E1, hE1⟩ : ∃ z, (inF (nextS s 2) 6).err = z := ⟨_, rfl⟩
      rw [hE1]
      have HE := Lib.hid hE1
      have d0 := hbr1.cell 0
      have d1 := hbr1.cell 1
      have dz := hbr1.frozen
      have dl := hbr1.lt
      simp only [List.getElem?_toArray, List.getElem?_cons_zero, List.getElem?_cons_succ] at d0 d1
      unfold rinV
      clear hfail hE1
      go_wp2_with fail
      refine bodyPost_ret (v := .tuple #[.agg #[.slice A1 n1 c1, .int .i64 E1], .slice none 0 0]) (by simp [results, Try.results49, go_sem, d0, d1, dl]) rfl ?_
      refine ⟨⟨A1, n1, c1, none, 0, by rw [H1.out, H2.out, HE.out]; rfl, by rw [H1.out]; exact h1.stored hbr1 _ _, by rw [H2.out]; exact Rd.nil _ _, by rw [H2.out]; exact Nat.le_refl _⟩, (hB1.setCell (by simp) _).setCell (by simp) _⟩
    · have H1 : Hid (readS s most = rawS (nextS s 2) (N : Int)) := Lib.hid (by unfold readS; rw [if_neg hno, hN, if_neg hm])
      have H2 : Hid (readB s most = rawB (nextS s 2) (N : Int)) := Lib.hid (by unfold readB; rw [if_neg hno, hN, if_neg hm])
      have tm : decide (most < (N : Int)) = false := by simpa using hm
      clear ho hU hU1 hU2 he hk2 hlt hp hno hN hm
      go_enter Try.func49, Try.ntmps49
      go_wp2_with fail
      have hX : Below w.heap.size w ((w.alloc (.cells #[.slice A n c, .int .i64 s.err] 76)).alloc (.cells #[.slice none 0 0, .int .i64 0] 76)) := ((Below.refl _ _).alloc (Nat.le_refl _) _).alloc (by simp) _
      have hbr : Blk ((w.alloc (.cells #[.slice A n c, .int .i64 s.err] 76)).alloc (.cells #[.slice none 0 0, .int .i64 0] 76)) (w.heap.size + 1) 76 #[.slice none 0 0, .int .i64 0] := by
        have := Blk.new (w.alloc (.cells #[.slice A n c, .int .i64 s.err] 76)) 76 #[.slice none 0 0, .int .i64 0]
        simpa using this
      generalize ((w.alloc (.cells #[.slice A n c, .int .i64 s.err] 76)).alloc (.cells #[.slice none 0 0, .int .i64 0] 76)) = X at hX hbr ⊢
      refine (hu X (h.below hX)).mono ?_
      rintro e w1 ⟨⟨A3, n3, c3, rfl, h3⟩, hb1⟩
      have hbr1 := hbr.below hb1 hbr.lt
      have hB1 := hX.trans (hb1.mono hX.size)
      clear hu
      go_wp2_with fail
      have hY : Below w1.heap.size w1 (w1.alloc (.cells #[.slice A3 n3 c3, .int .i64 0] 76)) := (Below.refl _ _).alloc (Nat.le_refl _) _
      generalize (w1.alloc (.cells #[.slice A3 n3 c3, .int .i64 0] 76)) = w2 at hY ⊢
      have h4 := h3.below hY
      have hraw := refRaw_any A3 n3 c3 (nextS s 2) (N : Int) w2 h4
      unfold rinV RawTold at hraw
      rw [HE0.out] at hraw
      have hbr2 := hbr1.below hY hbr1.lt
      have hB2 := hB1.trans (hY.mono hB1.size)
      clear h4 h3 hY hbr1 hB1 hb1 hX hbr
      refine hraw.mono ?_
      rintro e w3 ⟨⟨A1, n1, c1, A2, c2, rfl, h1, hr1, hc1⟩, hb3⟩
      have hbr1 := hbr2.below hb3 hbr2.lt
      have hB1 := hB2.trans (hb3.mono hB2.size)
      obtain ⟨E1, hE1⟩ : ∃ z, (rawS (nextS s 2) (N : Int)).err = z := ⟨_, rfl⟩
      rw [hE1]
      have HE := Lib.hid hE1
      obtain ⟨B, hB⟩ : ∃ z, rawB (nextS s 2) (N : Int) = z := ⟨_, rfl⟩
      rw [hB] at hr1 hc1 ⊢
      have HB := Lib.hid hB
      have d0 := hbr1.cell 0
      have d1 := hbr1.cell 1
      have dz := hbr1.frozen
      have dl := hbr1.lt
      simp only [List.getElem?_toArray, List.getElem?_cons_zero, List.getElem?_cons_succ] at d0 d1
      unfold rinV
      clear hraw hE1 hB
      go_wp2_with fail
      refine bodyPost_ret (v := .tuple #[.agg #[.slice A1 n1 c1, .int .i64 E1], .slice A2 B.length c2]) (by simp [results, Try.results49, go_sem, d0, d1, dl]) rfl ?_
      have hk2 := ((Keeps.refl [w.heap.size + 1] w3).setCell (p := ⟨w.heap.size + 1, 0, none⟩) (.inl (by simp)) (.slice A1 n1 c1)).setCell (p := ⟨w.heap.size + 1, 1, none⟩) (.inl (by simp)) (.int .i64 E1)
      refine ⟨⟨A1, n1, c1, A2, c2, by rw [H1.out, H2.out, HE.out, HB.out]; rfl, by rw [H1.out]; exact h1.stored hbr1 _ _, by rw [H2.out, HB.out]; exact hr1.keeps hk2 (rd_ne_in hr1 hbr1), by rw [H2.out, HB.out]; exact hc1⟩, (hB1.setCell (by simp) _).setCell (by simp) _⟩
end Go.Proofs.Ytehfddafjemedaa
