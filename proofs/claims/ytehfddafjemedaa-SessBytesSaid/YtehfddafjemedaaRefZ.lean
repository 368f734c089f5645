/- Contracts of the document's In over a zone of blocks: Fail, Raw. -/
import Derived.Test.YtehfddafjemedaaRef01c
namespace Go.Proofs.Ytehfddafjemedaa
open Go.RowKit
set_option linter.unusedSimpArgs false
set_option linter.unusedVariables false

/-- The document's In, by value. -/
structure ZIn (Z : Nat → Prop) (w : World) (A : Option Addr) (n c : Nat) (s : IS) : Prop where
  rd : Rd w A n s.b
  le : n ≤ c
  small : c ≤ 9223372036854775807
  ok : s.err ≠ 0 → s.b = []
  zone : 0 < n → ∀ ad, A = some ad → Z ad.block
theorem ZIn.below {Z : Nat → Prop} {w w' : World} {A : Option Addr} {n c : Nat} {s : IS} (h : ZIn Z w A n c s) (hb : Below w.heap.size w w') : ZIn Z w' A n c s := ⟨h.rd.below_ hb, h.le, h.small, h.ok, h.zone⟩
theorem ZIn.none_ (Z : Nat → Prop) (w : World) (e : Int) : ZIn Z w none 0 0 ⟨[], e⟩ := ⟨Rd.nil _ _, Nat.le_refl _, by omega, fun _ => rfl, fun h => absurd h (Nat.lt_irrefl 0)⟩
def ZTold (Z : Nat → Prop) (s : IS) (e : Ending) (w' : World) : Prop := ∃ A n c, e = .returned (rinV A n c s.err) ∧ ZIn Z w' A n c s

theorem zFail_any (Z : Nat → Prop) (A : Option Addr) (n c : Nat) (s : IS) (e : Int) (w : World) (h : ZIn Z w A n c s) :
    Calls Try.prog 70 #[rinV A n c s.err, .int .i64 e] w fun en w' => ZTold Z (inF s e) en w' ∧ Below w.heap.size w w' := by
  unfold rinV
  by_cases h0 : s.err = 0
  · have t : (s.err != 0) = false := by simp [h0]
    have H : Hid (inF s e = ⟨[], e⟩) := Lib.hid (by unfold inF; rw [if_pos h0])
    clear h0
    go_enter Try.func70, Try.ntmps70
    go_wp2
    refine bodyPost_ret (v := .agg #[.slice none 0 0, .int .i64 e]) (by simp [results, Try.results70, go_sem]) rfl ⟨?_, by repeat (first | exact Below.refl _ _ | refine Below.setCell ?_ (by simp) _ | refine Below.alloc ?_ (by simp) _)⟩
    rw [H.out]
    exact ⟨none, 0, 0, rfl, ZIn.none_ _ _ _⟩
  · have t : (s.err != 0) = true := by simp [h0]
    have H : Hid (inF s e = s) := Lib.hid (inF_same h0 h.ok)
    clear h0
    have hbl : ∀ W, Below w.heap.size w W → ZTold Z s (.returned (.agg #[.slice A n c, .int .i64 s.err])) W := fun W hW => ⟨A, n, c, rfl, h.below hW⟩
    go_enter Try.func70, Try.ntmps70
    go_wp2
    refine bodyPost_ret (v := .agg #[.slice A n c, .int .i64 s.err]) (by simp [results, Try.results70, go_sem]) rfl ⟨?_, by repeat (first | exact Below.refl _ _ | refine Below.setCell ?_ (by simp) _ | refine Below.alloc ?_ (by simp) _)⟩
    rw [H.out]
    exact hbl _ (by repeat (first | exact Below.refl _ _ | refine Below.setCell ?_ (by simp) _ | refine Below.alloc ?_ (by simp) _))

/-- What Raw tells and leaves. -/
def ZRaw (Z : Nat → Prop) (s' : IS) (bs : List UInt8) (e : Ending) (w' : World) : Prop := ∃ A n c A' c', e = .returned (.tuple #[rinV A n c s'.err, .slice A' bs.length c']) ∧ ZIn Z w' A n c s' ∧ Rd w' A' bs.length bs ∧ bs.length ≤ c'
theorem ZIn.stored {Z : Nat → Prop} {w : World} {A A0 : Option Addr} {n c n0 c0 g : Nat} {s : IS} {e : Int} (h : ZIn Z w A n c s) (hv : Blk w g 76 #[.slice A0 n0 c0, .int .i64 e]) (u v : Value) : ZIn Z ((w.setCell ⟨g, 0, none⟩ u).setCell ⟨g, 1, none⟩ v) A n c s :=
  ⟨h.rd.keeps (((Keeps.refl [g] w).setCell (p := ⟨g, 0, none⟩) (.inl (by simp)) u).setCell (p := ⟨g, 1, none⟩) (.inl (by simp)) v) (rd_ne_in h.rd hv), h.le, h.small, h.ok, h.zone⟩
set_option maxHeartbeats 1000000 in
theorem zRaw_any (Z : Nat → Prop) (A : Option Addr) (n c : Nat) (s : IS) (m : Int) (w : World) (h : ZIn Z w A n c s) :
    Calls Try.prog 48 #[rinV A n c s.err, .int .i64 m] w fun e w' => ZRaw Z (rawS s m) (rawB s m) e w' ∧ Below w.heap.size w w' := by
  have HN := Lib.hid h.rd.1
  have hnc := h.le
  have hcm := h.small
  unfold rinV
  by_cases h0 : s.err = 0
  · have t : (s.err != 0) = false := by simp [h0]
    by_cases hneg : m < 0
    · have H1 : Hid (rawS s m = inF s 1) := Lib.hid (by unfold rawS; rw [if_pos hneg])
      have H2 : Hid (rawB s m = []) := Lib.hid (by unfold rawB; rw [if_pos hneg])
      clear h0
      go_enter Try.func48, Try.ntmps48
      go_wp2_with fail
      have hX : Below w.heap.size w ((w.alloc (.cells #[.slice A n c, .int .i64 s.err] 76)).alloc (.cells #[.slice none 0 0, .int .i64 0] 76)) := ((Below.refl _ _).alloc (Nat.le_refl _) _).alloc (by simp) _
      have hbr : Blk ((w.alloc (.cells #[.slice A n c, .int .i64 s.err] 76)).alloc (.cells #[.slice none 0 0, .int .i64 0] 76)) (w.heap.size + 1) 76 #[.slice none 0 0, .int .i64 0] := by
        have := Blk.new (w.alloc (.cells #[.slice A n c, .int .i64 s.err] 76)) 76 #[.slice none 0 0, .int .i64 0]
        simpa using this
      generalize ((w.alloc (.cells #[.slice A n c, .int .i64 s.err] 76)).alloc (.cells #[.slice none 0 0, .int .i64 0] 76)) = X at hX hbr ⊢
      refine (zFail_any Z A n c s 1 X (h.below hX)).mono ?_
      rintro e w1 ⟨⟨A1, n1, c1, rfl, h1⟩, hb1⟩
      have hbr1 := hbr.below hb1 hbr.lt
      have hB1 := hX.trans (hb1.mono hX.size)
      have d0 := hbr1.cell 0
      have d1 := hbr1.cell 1
      have dz := hbr1.frozen
      have dl := hbr1.lt
      simp only [List.getElem?_toArray, List.getElem?_cons_zero, List.getElem?_cons_succ] at d0 d1
      obtain ⟨E1, hE1⟩ : ∃ z, (inF s 1).err = z := ⟨_, rfl⟩
      rw [hE1]
      unfold rinV
      have HE := Lib.hid hE1
      clear hE1
      go_wp2_with fail
      refine bodyPost_ret (v := .tuple #[.agg #[.slice A1 n1 c1, .int .i64 E1], .slice none 0 0]) (by simp [results, Try.results48, go_sem, d0, d1]) rfl ?_
      refine ⟨⟨A1, n1, c1, none, 0, by rw [H1.out, H2.out, HE.out]; rfl, by rw [H1.out]; exact h1.stored hbr1 _ _, by rw [H2.out]; exact Rd.nil _ _, by rw [H2.out]; exact Nat.le_refl _⟩, (hB1.setCell (by simp) _).setCell (by simp) _⟩
    · obtain ⟨j, rfl⟩ : ∃ j : Nat, m = j := ⟨m.toNat, by omega⟩
      by_cases hlt : n < j
      · have H1 : Hid (rawS s j = inF s 3) := Lib.hid (by unfold rawS; rw [if_neg hneg]; unfold nextS; rw [if_neg (by simpa using h0), if_pos (by rw [HN.out]; exact hlt)])
        have H2 : Hid (rawB s j = []) := Lib.hid (by unfold rawB; rw [if_neg hneg]; unfold nextB okN; rw [if_neg (by simp; intro _; rw [HN.out]; omega)])
        have tl : (n : Int) < (j : Int) := by omega
        clear h0 hlt
        go_enter Try.func48, Try.ntmps48
        go_wp2_with fail
        have hX : Below w.heap.size w ((w.alloc (.cells #[.slice A n c, .int .i64 s.err] 76)).alloc (.cells #[.slice none 0 0, .int .i64 0] 76)) := ((Below.refl _ _).alloc (Nat.le_refl _) _).alloc (by simp) _
        have hbr : Blk ((w.alloc (.cells #[.slice A n c, .int .i64 s.err] 76)).alloc (.cells #[.slice none 0 0, .int .i64 0] 76)) (w.heap.size + 1) 76 #[.slice none 0 0, .int .i64 0] := by
          have := Blk.new (w.alloc (.cells #[.slice A n c, .int .i64 s.err] 76)) 76 #[.slice none 0 0, .int .i64 0]
          simpa using this
        generalize ((w.alloc (.cells #[.slice A n c, .int .i64 s.err] 76)).alloc (.cells #[.slice none 0 0, .int .i64 0] 76)) = X at hX hbr ⊢
        refine (zFail_any Z A n c s 3 X (h.below hX)).mono ?_
        rintro e w1 ⟨⟨A1, n1, c1, rfl, h1⟩, hb1⟩
        have hbr1 := hbr.below hb1 hbr.lt
        have hB1 := hX.trans (hb1.mono hX.size)
        have d0 := hbr1.cell 0
        have d1 := hbr1.cell 1
        have dz := hbr1.frozen
        have dl := hbr1.lt
        simp only [List.getElem?_toArray, List.getElem?_cons_zero, List.getElem?_cons_succ] at d0 d1
        obtain ⟨E1, hE1⟩ : ∃ z, (inF s 3).err = z := ⟨_, rfl⟩
        rw [hE1]
        unfold rinV
        have HE := Lib.hid hE1
        clear hE1
        go_wp2_with fail
        refine bodyPost_ret (v := .tuple #[.agg #[.slice A1 n1 c1, .int .i64 E1], .slice none 0 0]) (by simp [results, Try.results48, go_sem, d0, d1]) rfl ?_
        refine ⟨⟨A1, n1, c1, none, 0, by rw [H1.out, H2.out, HE.out]; rfl, by rw [H1.out]; exact h1.stored hbr1 _ _, by rw [H2.out]; exact Rd.nil _ _, by rw [H2.out]; exact Nat.le_refl _⟩, (hB1.setCell (by simp) _).setCell (by simp) _⟩
      · have hok : okN s j = true := by unfold okN; exact decide_eq_true ⟨h0, by rw [HN.out]; omega⟩
        have H1 : Hid (rawS s j = ⟨s.b.drop j, s.err⟩) := Lib.hid (by unfold rawS; rw [if_neg hneg]; unfold nextS; rw [if_neg (by simpa using h0), if_neg (by rw [HN.out]; exact hlt)]; rfl)
        have H2 : Hid (rawB s j = s.b.take j) := Lib.hid (by unfold rawB; rw [if_neg hneg]; unfold nextB; simp only [Int.toNat_natCast]; rw [if_pos hok])
        have HT : Hid ((s.b.take j).length = j) := Lib.hid (by rw [List.length_take, HN.out]; omega)
        have tl : ¬ (n : Int) < (j : Int) := by omega
        have htk := h.rd.take (k := j) (by omega)
        have hdr := h.rd.cut (k := j) (by omega) hnc
        have H0 := Lib.hid h0
        have hjn : j ≤ n := by omega
        clear h0 hlt hok
        by_cases hcj : c = j
        · rw [if_pos hcj] at hdr
          have HD := Lib.hid hdr
          have HC := Lib.hid htk
          clear hdr htk
          obtain rfl : j = c := hcj.symm
          go_enter Try.func48, Try.ntmps48
          go_wp2_with fail
          go_region
          go_wp2_with fail
          refine bodyPost_ret (v := .tuple #[.agg #[.slice A 0 0, .int .i64 0], .slice A j j]) (by simp [results, Try.results48, go_sem]) rfl ?_
          have hdn : s.b.drop j = [] := List.drop_of_length_le (by rw [HN.out]; omega)
          refine ⟨⟨A, 0, 0, A, j, by rw [H1.out, H2.out, HT.out]; dsimp only; rw [H0.out]; rfl, ?_, ?_, by rw [H2.out, HT.out]; exact Nat.le_refl _⟩, (((Below.refl _ _).alloc (Nat.le_refl _) _).alloc (by simp) _).drew⟩
          · rw [H1.out, hdn]
            exact ⟨Rd.nil _ _, Nat.le_refl _, by omega, fun _ => rfl, fun h => absurd h (Nat.lt_irrefl 0)⟩
          · rw [H2.out, HT.out]
            exact (HC.out.below_ (show Below w.heap.size w _ from (((Below.refl _ _).alloc (Nat.le_refl _) _).alloc (by simp) _).drew))
        · rw [if_neg hcj] at hdr
          have HD := Lib.hid hdr
          have HC := Lib.hid htk
          clear hdr htk
          go_enter Try.func48, Try.ntmps48
          go_wp2_with fail
          go_region
          go_wp2_with fail
          refine bodyPost_ret (v := .tuple #[.agg #[.slice (A.map (·.add j)) (n - j) (c - j), .int .i64 0], .slice A j c]) (by simp [results, Try.results48, go_sem]) rfl ?_
          refine ⟨⟨A.map (·.add j), n - j, c - j, A, c, by rw [H1.out, H2.out, HT.out]; dsimp only; rw [H0.out]; rfl, ?_, ?_, by rw [H2.out, HT.out]; omega⟩, (((Below.refl _ _).alloc (Nat.le_refl _) _).alloc (by simp) _).drew⟩
          · rw [H1.out]
            exact ⟨HD.out.below_ (show Below w.heap.size w _ from (((Below.refl _ _).alloc (Nat.le_refl _) _).alloc (by simp) _).drew), by omega, by omega, fun h => absurd H0.out h, fun hp ad e => by
              obtain ⟨ad0, hA, rfl⟩ := Option.map_eq_some_iff.1 e
              have := h.zone (by omega) ad0 hA
              unfold Addr.add
              split <;> simpa using this⟩
          · rw [H2.out, HT.out]
            exact HC.out.below_ (show Below w.heap.size w _ from (((Below.refl _ _).alloc (Nat.le_refl _) _).alloc (by simp) _).drew)
  · have t : (s.err != 0) = true := by simp [h0]
    have H1 : Hid (rawS s m = s) := Lib.hid (by
      unfold rawS
      split
      · exact inF_same h0 h.ok
      · unfold nextS; rw [if_pos h0])
    have H2 : Hid (rawB s m = []) := Lib.hid (by
      unfold rawB
      split
      · rfl
      · unfold nextB okN; rw [if_neg (by simp [h0])])
    clear h0
    go_enter Try.func48, Try.ntmps48
    go_wp2_with fail
    refine bodyPost_ret (v := .tuple #[.agg #[.slice A n c, .int .i64 s.err], .slice none 0 0]) (by simp [results, Try.results48, go_sem]) rfl ?_
    exact ⟨⟨A, n, c, none, 0, by rw [H1.out, H2.out]; rfl, by rw [H1.out]; exact h.below (show Below w.heap.size w _ from ((Below.refl _ _).alloc (Nat.le_refl _) _).alloc (by simp) _), by rw [H2.out]; exact Rd.nil _ _, by rw [H2.out]; exact Nat.le_refl _⟩, ((Below.refl _ _).alloc (Nat.le_refl _) _).alloc (by simp) _⟩
end Go.Proofs.Ytehfddafjemedaa
