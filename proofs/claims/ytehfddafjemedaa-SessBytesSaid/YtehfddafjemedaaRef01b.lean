/- Contracts of the document's answer, layer 1: Upto, Get, Read, Bool, Done, Cut. -/
import Derived.Test.YtehfddafjemedaaRef01
namespace Go.Proofs.Ytehfddafjemedaa
open Go.RowKit
set_option linter.unusedSimpArgs false
set_option linter.unusedVariables false
theorem nextS_err (s : IS) (n : Nat) : (nextS s n).err = 0 ↔ okN s n = true := by
  unfold nextS okN inF
  by_cases h0 : s.err = 0
  · by_cases h1 : s.b.length < n
    · simp [h0, h1]
    · simp [h0, h1]; omega
  · simp [h0]
theorem rawS_nat (s : IS) (n : Nat) : rawS s (n : Int) = nextS s n ∧ rawB s (n : Int) = nextB s n := by
  unfold rawS rawB
  rw [if_neg (by omega), if_neg (by omega), Int.toNat_natCast]
  exact ⟨rfl, rfl⟩
theorem upto_no {s : IS} {j most : Nat} (hk : knownB (j : Int) = true) (ho : okN s j = false) : uptoS s j most = nextS s j ∧ uptoN s j most = 0 := by
  unfold uptoS uptoN
  have hnk : ¬ knownB (j : Int) = false := by rw [hk]; simp
  by_cases hs : s.err ≠ 0
  · rw [if_pos hs, if_pos hs]
    exact ⟨by unfold nextS; rw [if_pos hs], rfl⟩
  · rw [if_neg hs, if_neg hs, if_neg hnk, if_neg hnk, Int.toNat_natCast, if_pos ho, if_pos ho]
    exact ⟨rfl, rfl⟩
theorem upto_yes {s : IS} {j most : Nat} (hk : knownB (j : Int) = true) (ho : okN s j = true) : uptoS s j most = (if most < beN (nextB s j) then inF (nextS s j) 4 else nextS s j) ∧ uptoN s j most = (if most < beN (nextB s j) then 0 else beN (nextB s j)) := by
  unfold uptoS uptoN
  have hnk : ¬ knownB (j : Int) = false := by rw [hk]; simp
  have hs : ¬ s.err ≠ 0 := by have := (of_decide_eq_true ho).1; simpa using this
  have hno : ¬ okN s j = false := by rw [ho]; simp
  rw [if_neg hs, if_neg hs, if_neg hnk, if_neg hnk, Int.toNat_natCast, if_neg hno, if_neg hno]
  exact ⟨rfl, rfl⟩
theorem upto_bad {s : IS} {k : Int} {most : Nat} (hk : knownB k = false) (hok : s.err ≠ 0 → s.b = []) : uptoS s k most = inF s 1 ∧ uptoN s k most = 0 := by
  unfold uptoS uptoN
  by_cases hs : s.err ≠ 0
  · rw [if_pos hs, if_pos hs]
    exact ⟨(inF_same hs hok).symm, rfl⟩
  · rw [if_neg hs, if_neg hs, if_pos hk, if_pos hk]
    exact ⟨rfl, rfl⟩
def NumTold (s' : IS) (v : Nat) (e : Ending) (w' : World) : Prop := ∃ A n c, e = .returned (.tuple #[rinV A n c s'.err, .int .u64 (v : Int)]) ∧ RIn w' A n c s'

set_option maxRecDepth 100000 in
set_option maxHeartbeats 2000000 in
theorem refUpto_any (A : Option Addr) (n c : Nat) (s : IS) (k : Int) (most : Nat) (w : World) (h : RIn w A n c s) :
    Calls Try.prog 46 #[rinV A n c s.err, .int .i64 k, .int .u64 (most : Int)] w fun e w' => NumTold (uptoS s k most) (uptoN s k most) e w' ∧ Below w.heap.size w w' := by
  unfold rinV
  by_cases hk : 1 ≤ k ∧ k ≤ 8
  · obtain ⟨j, rfl⟩ : ∃ j : Nat, k = j := ⟨k.toNat, by omega⟩
    have b1 : ¬ (j : Int) < 1 := by omega
    have b2 : ¬ (8 : Int) < (j : Int) := by omega
    have hkn : knownB (j : Int) = true := decide_eq_true hk
    have hraw := fun W (hW : RIn W A n c s) => refRaw_any A n c s (j : Int) W hW
    rw [(rawS_nat s j).1, (rawS_nat s j).2] at hraw
    have hbl := nextB_len s j
    have hj8 : j ≤ 8 := by omega
    unfold RawTold rinV at hraw
    cases ho : okN s j with
    | false =>
      have he : (nextS s j).err ≠ 0 := fun h => by rw [nextS_err, ho] at h; cases h
      have H1 := Lib.hid (upto_no (most := most) hkn ho)
      obtain ⟨E1, hE1⟩ : ∃ z, (nextS s j).err = z := ⟨_, rfl⟩
      rw [hE1] at hraw he
      have HE := Lib.hid hE1
      have tE : (E1 != 0) = true := by simpa using he
      clear ho hkn hE1 he
      go_enter Try.func46, Try.ntmps46
      go_wp2_with fail
      have hX : Below w.heap.size w ((w.alloc (.cells #[.slice A n c, .int .i64 s.err] 76)).alloc (.cells #[.slice none 0 0, .int .i64 0] 76)) := ((Below.refl _ _).alloc (Nat.le_refl _) _).alloc (by simp) _
      have hbr : Blk ((w.alloc (.cells #[.slice A n c, .int .i64 s.err] 76)).alloc (.cells #[.slice none 0 0, .int .i64 0] 76)) (w.heap.size + 1) 76 #[.slice none 0 0, .int .i64 0] := by
        have := Blk.new (w.alloc (.cells #[.slice A n c, .int .i64 s.err] 76)) 76 #[.slice none 0 0, .int .i64 0]
        simpa using this
      generalize ((w.alloc (.cells #[.slice A n c, .int .i64 s.err] 76)).alloc (.cells #[.slice none 0 0, .int .i64 0] 76)) = X at hX hbr ⊢
      refine (hraw X (h.below hX)).mono ?_
      rintro e w1 ⟨⟨A1, n1, c1, A2, c2, rfl, h1, hr1, hc1⟩, hb1⟩
      have hbr1 := hbr.below hb1 hbr.lt
      have hB1 := hX.trans (hb1.mono hX.size)
      have d0 := hbr1.cell 0
      have d1 := hbr1.cell 1
      have dz := hbr1.frozen
      have dl := hbr1.lt
      simp only [List.getElem?_toArray, List.getElem?_cons_zero, List.getElem?_cons_succ] at d0 d1
      clear hraw
      go_wp2_with fail
      refine bodyPost_ret (v := .tuple #[.agg #[.slice A1 n1 c1, .int .i64 E1], .int .u64 0]) (by simp [results, Try.results46, go_sem, d0, d1, dl]) rfl ?_
      refine ⟨⟨A1, n1, c1, by rw [H1.out.1, H1.out.2, HE.out]; rfl, ?_⟩, by repeat (first | exact hB1 | refine Below.setCell ?_ (by simp) _ | refine Below.alloc ?_ (by have := hB1.size; simp; omega) _ | refine Below.drew ?_)⟩
      rw [H1.out.1]
      first
        | exact (h1.stored hbr1 _ _).below ((Below.refl _ _).alloc (Nat.le_refl _) _)
        | exact (h1.below ((Below.refl _ _).alloc (Nat.le_refl _) _)).stored (hbr1.alloc _) _ _
        | exact h1.stored hbr1 _ _
    | true =>
      have hU := upto_yes (most := most) hkn ho
      have he : (nextS s j).err = 0 := (nextS_err s j).2 ho
      rw [he] at hraw
      obtain ⟨N, hN⟩ : ∃ N, beN (nextB s j) = N := ⟨_, rfl⟩
      rw [hN] at hU
      have HN := Lib.hid hN
      have HE0 := Lib.hid he
      by_cases hm : most < N
      · rw [if_pos hm, if_pos hm] at hU
        have HU := Lib.hid hU
        have tm : (most : Int) < (N : Int) := by omega
        clear hU ho hkn hN he hm
        go_enter Try.func46, Try.ntmps46
        go_wp2_with fail
        have hX : Below w.heap.size w ((w.alloc (.cells #[.slice A n c, .int .i64 s.err] 76)).alloc (.cells #[.slice none 0 0, .int .i64 0] 76)) := ((Below.refl _ _).alloc (Nat.le_refl _) _).alloc (by simp) _
        have hbr : Blk ((w.alloc (.cells #[.slice A n c, .int .i64 s.err] 76)).alloc (.cells #[.slice none 0 0, .int .i64 0] 76)) (w.heap.size + 1) 76 #[.slice none 0 0, .int .i64 0] := by
          have := Blk.new (w.alloc (.cells #[.slice A n c, .int .i64 s.err] 76)) 76 #[.slice none 0 0, .int .i64 0]
          simpa using this
        generalize ((w.alloc (.cells #[.slice A n c, .int .i64 s.err] 76)).alloc (.cells #[.slice none 0 0, .int .i64 0] 76)) = X at hX hbr ⊢
        refine (hraw X (h.below hX)).mono ?_
        rintro e w1 ⟨⟨A3, n3, c3, A2, c2, rfl, h3, hr1, hc1⟩, hb1⟩
        have hbr1 := hbr.below hb1 hbr.lt
        have hB1 := hX.trans (hb1.mono hX.size)
        clear hraw
        go_wp2_with fail
        have hY : Below w1.heap.size w1 (w1.alloc (.cells #[.slice A3 n3 c3, .int .i64 0] 76)) := (Below.refl _ _).alloc (Nat.le_refl _) _
        have hj := Blk.new w1 76 #[.slice A3 n3 c3, .int .i64 0]
        generalize (w1.alloc (.cells #[.slice A3 n3 c3, .int .i64 0] 76)) = w2 at hY hj ⊢
        have h4 := h3.below hY
        refine (num_any A2 _ c2 _ w2 (hr1.below_ hY) (by omega)).mono ?_
        rintro e w3 ⟨rfl, rfl⟩
        rw [HN.out]
        have j0 := hj.cell 0
        have j1 := hj.cell 1
        have jz := hj.frozen
        have jl := hj.lt
        simp only [List.getElem?_toArray, List.getElem?_cons_zero, List.getElem?_cons_succ] at j0 j1
        have hfail := refFail_any A3 n3 c3 (nextS s j) 4 w2 h4
        unfold rinV InTold at hfail
        rw [HE0.out] at hfail
        have hbr2 := hbr1.below hY hbr1.lt
        have hB2 := hB1.trans (hY.mono hB1.size)
        clear hj h4 h3 hY hbr1 hB1 hb1 hX hbr hr1
        go_wp2_with fail
        refine hfail.mono ?_
        rintro e w3 ⟨⟨A1, n1, c1, rfl, h1⟩, hb3⟩
        have hbr1 := hbr2.below hb3 hbr2.lt
        have hB1 := hB2.trans (hb3.mono hB2.size)
        obtain ⟨E1, hE1⟩ : ∃ z, (inF (nextS s j) 4).err = z := ⟨_, rfl⟩
        rw [hE1]
        have HE := Lib.hid hE1
        have d0 := hbr1.cell 0
        have d1 := hbr1.cell 1
        have dz := hbr1.frozen
        have dl := hbr1.lt
        simp only [List.getElem?_toArray, List.getElem?_cons_zero, List.getElem?_cons_succ] at d0 d1
        unfold rinV
        clear hfail hE1 j0 j1 jz jl
        go_wp2_with fail
        refine bodyPost_ret (v := .tuple #[.agg #[.slice A1 n1 c1, .int .i64 E1], .int .u64 0]) (by simp [results, Try.results46, go_sem, d0, d1, dl]) rfl ?_
        refine ⟨⟨A1, n1, c1, by rw [HU.out.1, HU.out.2, HE.out]; rfl, ?_⟩, by repeat (first | exact hB1 | refine Below.setCell ?_ (by simp) _ | refine Below.alloc ?_ (by have := hB1.size; simp; omega) _ | refine Below.drew ?_)⟩
        rw [HU.out.1]
        first
          | exact (h1.stored hbr1 _ _).below ((Below.refl _ _).alloc (Nat.le_refl _) _)
          | exact (h1.below ((Below.refl _ _).alloc (Nat.le_refl _) _)).stored (hbr1.alloc _) _ _
          | exact h1.stored hbr1 _ _
      · rw [if_neg hm, if_neg hm] at hU
        have HU := Lib.hid hU
        have tm : decide (most < N) = false := by simp; omega
        clear hU ho hkn hN he hm
        go_enter Try.func46, Try.ntmps46
        go_wp2_with fail
        have hX : Below w.heap.size w ((w.alloc (.cells #[.slice A n c, .int .i64 s.err] 76)).alloc (.cells #[.slice none 0 0, .int .i64 0] 76)) := ((Below.refl _ _).alloc (Nat.le_refl _) _).alloc (by simp) _
        have hbr : Blk ((w.alloc (.cells #[.slice A n c, .int .i64 s.err] 76)).alloc (.cells #[.slice none 0 0, .int .i64 0] 76)) (w.heap.size + 1) 76 #[.slice none 0 0, .int .i64 0] := by
          have := Blk.new (w.alloc (.cells #[.slice A n c, .int .i64 s.err] 76)) 76 #[.slice none 0 0, .int .i64 0]
          simpa using this
        generalize ((w.alloc (.cells #[.slice A n c, .int .i64 s.err] 76)).alloc (.cells #[.slice none 0 0, .int .i64 0] 76)) = X at hX hbr ⊢
        refine (hraw X (h.below hX)).mono ?_
        rintro e w1 ⟨⟨A3, n3, c3, A2, c2, rfl, h3, hr1, hc1⟩, hb1⟩
        have hbr1 := hbr.below hb1 hbr.lt
        have hB1 := hX.trans (hb1.mono hX.size)
        clear hraw
        go_wp2_with fail
        have hY : Below w1.heap.size w1 (w1.alloc (.cells #[.slice A3 n3 c3, .int .i64 0] 76)) := (Below.refl _ _).alloc (Nat.le_refl _) _
        have hj := Blk.new w1 76 #[.slice A3 n3 c3, .int .i64 0]
        generalize (w1.alloc (.cells #[.slice A3 n3 c3, .int .i64 0] 76)) = w2 at hY hj ⊢
        have h4 := h3.below hY
        have hr2 := hr1.below_ hY
        refine (num_any A2 _ c2 _ w2 hr2 (by omega)).mono ?_
        rintro e w3 ⟨rfl, rfl⟩
        rw [HN.out]
        have hbr2 := hbr1.below hY hbr1.lt
        have hB2 := hB1.trans (hY.mono hB1.size)
        clear h3 hY hbr1 hB1 hb1 hX hbr hr1
        go_wp2_with fail
        have cf : ∀ W, Keeps [] w2.drew W → W.cell? ⟨w1.heap.size, 0, none⟩ = some (.slice A3 n3 c3) ∧ W.cell? ⟨w1.heap.size, 1, none⟩ = some (.int .i64 0) := fun W hk => by
          have hb := (keeps_drew hk).nil_below
          have h1 := hj.below hb hj.lt
          exact ⟨h1.cell 0, h1.cell 1⟩
        refine wp_region_calls 3 [(2, .known (.int .u64 (N : Int)))] (by kernel_rfl) (by kernel_rfl) rfl ⟨trivial, trivial⟩ ?_
        simp only [List.take_succ_cons, List.take_zero, List.drop_succ_cons, List.drop_zero]
        refine dep_reckons rfl (by kernel_rfl) (fun W hG hF => by have hcf := cf W hG; go_simp <;> rfl) (by simp only [Act.put, List.setIfInBounds_toArray, List.set_cons_zero, List.set_cons_succ]; rfl) ?_
        refine dep_reckons rfl (by kernel_rfl) (fun W hG hF => by go_simp <;> rfl) (by simp only [Act.put, List.setIfInBounds_toArray, List.set_cons_zero, List.set_cons_succ]; rfl) ?_
        refine dep_known (c := .int .u64 (N : Int)) rfl (by kernel_rfl) (fun W hG hF => ?_) (by simp only [Act.put, List.setIfInBounds_toArray, List.set_cons_zero, List.set_cons_succ]; rfl) ?_
        · have bw := (keeps_drew hG).nil_below
          unfold opGives
          go_simp
          refine (num_any A2 _ c2 _ W (hr2.below_ bw) (by omega)).mono ?_
          rintro e w3 ⟨rfl, rfl⟩
          exact ⟨_, rfl, by rw [HN.out], Keeps.refl [] _⟩
        refine dep_nil fun W hG hF => ?_
        have hbW := (keeps_drew hG).nil_below
        have hbr1 := hbr2.below hbW hbr2.lt
        have hB1 := hB2.trans (hbW.mono hB2.size)
        have h1 := h4.below hbW
        have d0 := hbr1.cell 0
        have d1 := hbr1.cell 1
        have dz := hbr1.frozen
        have dl := hbr1.lt
        simp only [List.getElem?_toArray, List.getElem?_cons_zero, List.getElem?_cons_succ] at d0 d1
        clear hG hF cf hj h4 hbr2 hB2 hbW hr2
        go_wp2_with fail
        refine bodyPost_ret (v := .tuple #[.agg #[.slice A3 n3 c3, .int .i64 0], .int .u64 (N : Int)]) (by simp [results, Try.results46, go_sem, d0, d1, dl]) rfl ?_
        refine ⟨⟨A3, n3, c3, by rw [HU.out.1, HU.out.2, HE0.out]; rfl, ?_⟩, by repeat (first | exact hB1 | refine Below.setCell ?_ (by simp) _ | refine Below.alloc ?_ (by have := hB1.size; simp; omega) _ | refine Below.drew ?_)⟩
        rw [HU.out.1]
        exact h1.stored hbr1 _ _
  · have hbad : knownB k = false := decide_eq_false hk
    have HU := Lib.hid (upto_bad (most := most) hbad h.ok)
    obtain ⟨E1, hE1⟩ : ∃ z, (inF s 1).err = z := ⟨_, rfl⟩
    have HE := Lib.hid hE1
    clear hbad hE1
    by_cases b1 : k < 1
    · skip
      clear hk
      go_enter Try.func46, Try.ntmps46
      go_wp2_with fail
      have hX : Below w.heap.size w ((w.alloc (.cells #[.slice A n c, .int .i64 s.err] 76)).alloc (.cells #[.slice none 0 0, .int .i64 0] 76)) := ((Below.refl _ _).alloc (Nat.le_refl _) _).alloc (by simp) _
      have hbr : Blk ((w.alloc (.cells #[.slice A n c, .int .i64 s.err] 76)).alloc (.cells #[.slice none 0 0, .int .i64 0] 76)) (w.heap.size + 1) 76 #[.slice none 0 0, .int .i64 0] := by
        have := Blk.new (w.alloc (.cells #[.slice A n c, .int .i64 s.err] 76)) 76 #[.slice none 0 0, .int .i64 0]
        simpa using this
      generalize ((w.alloc (.cells #[.slice A n c, .int .i64 s.err] 76)).alloc (.cells #[.slice none 0 0, .int .i64 0] 76)) = X at hX hbr ⊢
      refine (refFail_any A n c s 1 X (h.below hX)).mono ?_
      rintro e w1 ⟨⟨A1, n1, c1, rfl, h1⟩, hb1⟩
      have hbr1 := hbr.below hb1 hbr.lt
      have hB1 := hX.trans (hb1.mono hX.size)
      rw [HE.out]
      have d0 := hbr1.cell 0
      have d1 := hbr1.cell 1
      have dz := hbr1.frozen
      have dl := hbr1.lt
      simp only [List.getElem?_toArray, List.getElem?_cons_zero, List.getElem?_cons_succ] at d0 d1
      unfold rinV
      go_wp2_with fail
      refine bodyPost_ret (v := .tuple #[.agg #[.slice A1 n1 c1, .int .i64 E1], .int .u64 0]) (by simp [results, Try.results46, go_sem, d0, d1, dl]) rfl ?_
      refine ⟨⟨A1, n1, c1, by rw [HU.out.1, HU.out.2, HE.out]; rfl, ?_⟩, by repeat (first | exact hB1 | refine Below.setCell ?_ (by simp) _ | refine Below.alloc ?_ (by have := hB1.size; simp; omega) _ | refine Below.drew ?_)⟩
      rw [HU.out.1]
      first
        | exact (h1.stored hbr1 _ _).below ((Below.refl _ _).alloc (Nat.le_refl _) _)
        | exact (h1.below ((Below.refl _ _).alloc (Nat.le_refl _) _)).stored (hbr1.alloc _) _ _
        | exact h1.stored hbr1 _ _
    · have b2 : 8 < k := by omega
      clear hk
      go_enter Try.func46, Try.ntmps46
      go_wp2_with fail
      have hX : Below w.heap.size w ((w.alloc (.cells #[.slice A n c, .int .i64 s.err] 76)).alloc (.cells #[.slice none 0 0, .int .i64 0] 76)) := ((Below.refl _ _).alloc (Nat.le_refl _) _).alloc (by simp) _
      have hbr : Blk ((w.alloc (.cells #[.slice A n c, .int .i64 s.err] 76)).alloc (.cells #[.slice none 0 0, .int .i64 0] 76)) (w.heap.size + 1) 76 #[.slice none 0 0, .int .i64 0] := by
        have := Blk.new (w.alloc (.cells #[.slice A n c, .int .i64 s.err] 76)) 76 #[.slice none 0 0, .int .i64 0]
        simpa using this
      generalize ((w.alloc (.cells #[.slice A n c, .int .i64 s.err] 76)).alloc (.cells #[.slice none 0 0, .int .i64 0] 76)) = X at hX hbr ⊢
      refine (refFail_any A n c s 1 X (h.below hX)).mono ?_
      rintro e w1 ⟨⟨A1, n1, c1, rfl, h1⟩, hb1⟩
      have hbr1 := hbr.below hb1 hbr.lt
      have hB1 := hX.trans (hb1.mono hX.size)
      rw [HE.out]
      have d0 := hbr1.cell 0
      have d1 := hbr1.cell 1
      have dz := hbr1.frozen
      have dl := hbr1.lt
      simp only [List.getElem?_toArray, List.getElem?_cons_zero, List.getElem?_cons_succ] at d0 d1
      unfold rinV
      go_wp2_with fail
      refine bodyPost_ret (v := .tuple #[.agg #[.slice A1 n1 c1, .int .i64 E1], .int .u64 0]) (by simp [results, Try.results46, go_sem, d0, d1, dl]) rfl ?_
      refine ⟨⟨A1, n1, c1, by rw [HU.out.1, HU.out.2, HE.out]; rfl, ?_⟩, by repeat (first | exact hB1 | refine Below.setCell ?_ (by simp) _ | refine Below.alloc ?_ (by have := hB1.size; simp; omega) _ | refine Below.drew ?_)⟩
      rw [HU.out.1]
      first
        | exact (h1.stored hbr1 _ _).below ((Below.refl _ _).alloc (Nat.le_refl _) _)
        | exact (h1.below ((Below.refl _ _).alloc (Nat.le_refl _) _)).stored (hbr1.alloc _) _ _
        | exact h1.stored hbr1 _ _
end Go.Proofs.Ytehfddafjemedaa
