/- Contracts of the document's answer, layer 21: Take. -/
import Derived.Test.YtgdmejkneabclaaMoveRef
namespace Go.Proofs.Ytgdmejkneabclaa
open Go.RowKit
set_option linter.unusedSimpArgs false
set_option linter.unusedVariables false

def RV (a p : Int) (sl : Value) : Value := .agg #[.int .u64 a, .int .i64 p, sl]
def refBad (a0 a part parts : Int) (n : Nat) : Prop := parts < 1 ∨ part < 0 ∨ parts ≤ part ∨ 1024 < n ∨ a < a0
def refNew (a0 p0 : Int) (n0 : Nat) (a parts : Int) : Prop := a0 < a ∨ (0 < n0 ∧ parts ≠ p0)

set_option maxRecDepth 100000 in
set_option maxHeartbeats 1000000 in
theorem refTake_bad (a0 p0 : Int) (A0 : Option Addr) (n0 c0 : Nat) (a part parts : Int) (A : Option Addr) (n c : Nat) (w : World) (hn : n ≤ 1000000000) (hb : refBad a0 a part parts n) :
    Calls Try.prog 29 #[RV a0 p0 (.slice A0 n0 c0), .int .u64 a, .int .i64 part, .int .i64 parts, .slice A n c] w fun e w' => e = .returned (.tuple #[RV a0 p0 (.slice A0 n0 c0), .slice none 0 0, .bool false]) ∧ Below w.heap.size w w' := by
  unfold refBad at hb
  by_cases b1 : parts < 1
  · clear hb
    go_enter Try.func29, Try.ntmps29
    simp only [RV]
    go_wp2_with fail
    exact bodyPost_ret (v := .tuple #[.agg #[.int .u64 a0, .int .i64 p0, .slice A0 n0 c0], .slice none 0 0, .bool false]) (by simp [results, Try.results29, go_sem]) rfl ⟨rfl, by repeat (first | exact Below.refl _ _ | refine Below.setCell ?_ (by simp) _ | refine Below.alloc ?_ (by simp) _)⟩
  by_cases b2 : part < 0
  · clear hb
    go_enter Try.func29, Try.ntmps29
    simp only [RV]
    go_wp2_with fail
    exact bodyPost_ret (v := .tuple #[.agg #[.int .u64 a0, .int .i64 p0, .slice A0 n0 c0], .slice none 0 0, .bool false]) (by simp [results, Try.results29, go_sem]) rfl ⟨rfl, by repeat (first | exact Below.refl _ _ | refine Below.setCell ?_ (by simp) _ | refine Below.alloc ?_ (by simp) _)⟩
  by_cases b3 : parts ≤ part
  · clear hb
    go_enter Try.func29, Try.ntmps29
    simp only [RV]
    go_wp2_with fail
    exact bodyPost_ret (v := .tuple #[.agg #[.int .u64 a0, .int .i64 p0, .slice A0 n0 c0], .slice none 0 0, .bool false]) (by simp [results, Try.results29, go_sem]) rfl ⟨rfl, by repeat (first | exact Below.refl _ _ | refine Below.setCell ?_ (by simp) _ | refine Below.alloc ?_ (by simp) _)⟩
  by_cases b4 : 1024 < n
  · have b4' : (1024 : Int) < (n : Int) := by omega
    clear hb b4
    go_enter Try.func29, Try.ntmps29
    simp only [RV]
    go_wp2_with fail
    exact bodyPost_ret (v := .tuple #[.agg #[.int .u64 a0, .int .i64 p0, .slice A0 n0 c0], .slice none 0 0, .bool false]) (by simp [results, Try.results29, go_sem]) rfl ⟨rfl, by repeat (first | exact Below.refl _ _ | refine Below.setCell ?_ (by simp) _ | refine Below.alloc ?_ (by simp) _)⟩
  have b5 : a < a0 := by omega
  have b4' : ¬ (1024 : Int) < (n : Int) := by omega
  clear hb b4
  go_enter Try.func29, Try.ntmps29
  simp only [RV]
  go_wp2_with fail
  exact bodyPost_ret (v := .tuple #[.agg #[.int .u64 a0, .int .i64 p0, .slice A0 n0 c0], .slice none 0 0, .bool false]) (by simp [results, Try.results29, go_sem]) rfl ⟨rfl, by repeat (first | exact Below.refl _ _ | refine Below.setCell ?_ (by simp) _ | refine Below.alloc ?_ (by simp) _)⟩

theorem refBad_not {a0 a part parts : Int} {n : Nat} (h : ¬ refBad a0 a part parts n) : ¬ parts < 1 ∧ ¬ part < 0 ∧ ¬ parts ≤ part ∧ ¬ (1024 : Int) < (n : Int) ∧ ¬ a < a0 := by
  unfold refBad at h
  omega

set_option maxRecDepth 100000 in
set_option maxHeartbeats 1000000 in
theorem refTake_skip_old (a0 p0 : Int) (A0 : Option Addr) (n0 c0 : Nat) (a part parts : Int) (A : Option Addr) (n c : Nat) (w : World) (hgood : ¬ refBad a0 a part parts n) (hnew : ¬ refNew a0 p0 n0 a parts) (hw : part ≠ (n0 : Int)) :
    Calls Try.prog 29 #[RV a0 p0 (.slice A0 n0 c0), .int .u64 a, .int .i64 part, .int .i64 parts, .slice A n c] w fun e w' => e = .returned (.tuple #[RV a0 p0 (.slice A0 n0 c0), .slice none 0 0, .bool false]) ∧ Below w.heap.size w w' := by
  obtain ⟨g1, g2, g3, g4, g5⟩ := refBad_not hgood
  have hat : ¬ a0 < a := by unfold refNew at hnew; omega
  have tw : (part != (n0 : Int)) = true := by simpa using hw
  by_cases hnx : 0 < n0
  · have hps : parts = p0 := by unfold refNew at hnew; omega
    have t1 : (p0 != parts) = false := by simp [hps]
    have t2 : (0 : Int) < (n0 : Int) := by omega
    clear hgood hnew hps hnx hw
    go_enter Try.func29, Try.ntmps29
    simp only [RV]
    go_wp2_with fail
    exact bodyPost_ret (v := .tuple #[.agg #[.int .u64 a0, .int .i64 p0, .slice A0 n0 c0], .slice none 0 0, .bool false]) (by simp [results, Try.results29, go_sem]) rfl ⟨rfl, by repeat (first | exact Below.refl _ _ | refine Below.setCell ?_ (by simp) _ | refine Below.alloc ?_ (by simp) _)⟩
  · obtain rfl : n0 = 0 := by omega
    simp only [Int.natCast_zero] at tw
    clear hgood hnew hnx hw
    go_enter Try.func29, Try.ntmps29
    simp only [RV]
    go_wp2_with fail
    exact bodyPost_ret (v := .tuple #[.agg #[.int .u64 a0, .int .i64 p0, .slice A0 0 c0], .slice none 0 0, .bool false]) (by simp [results, Try.results29, go_sem]) rfl ⟨rfl, by repeat (first | exact Below.refl _ _ | refine Below.setCell ?_ (by simp) _ | refine Below.alloc ?_ (by simp) _)⟩

set_option maxRecDepth 100000 in
set_option maxHeartbeats 1000000 in
theorem refTake_skip_fresh (a0 p0 : Int) (A0 : Option Addr) (n0 c0 : Nat) (a part parts : Int) (A : Option Addr) (n c : Nat) (w : World) (hgood : ¬ refBad a0 a part parts n) (hnew : refNew a0 p0 n0 a parts) (hw : part ≠ 0) :
    Calls Try.prog 29 #[RV a0 p0 (.slice A0 n0 c0), .int .u64 a, .int .i64 part, .int .i64 parts, .slice A n c] w fun e w' => e = .returned (.tuple #[RV a 0 (.slice none 0 0), .slice none 0 0, .bool false]) ∧ Below w.heap.size w w' := by
  obtain ⟨g1, g2, g3, g4, g5⟩ := refBad_not hgood
  have tw : (part != (0 : Int)) = true := by simpa using hw
  by_cases hat : a0 < a
  · clear hgood hnew hw
    go_enter Try.func29, Try.ntmps29
    simp only [RV]
    go_wp2_with fail
    exact bodyPost_ret (v := .tuple #[.agg #[.int .u64 a, .int .i64 0, .slice none 0 0], .slice none 0 0, .bool false]) (by simp [results, Try.results29, go_sem]) rfl ⟨rfl, by repeat (first | exact Below.refl _ _ | refine Below.setCell ?_ (by simp) _ | refine Below.alloc ?_ (by simp) _)⟩
  · have hnx : 0 < n0 ∧ parts ≠ p0 := by unfold refNew at hnew; omega
    have t1 : (p0 != parts) = true := by simpa using fun h => hnx.2 h.symm
    have t2 : (0 : Int) < (n0 : Int) := by omega
    clear hgood hnew hnx hw
    go_enter Try.func29, Try.ntmps29
    simp only [RV]
    go_wp2_with fail
    exact bodyPost_ret (v := .tuple #[.agg #[.int .u64 a, .int .i64 0, .slice none 0 0], .slice none 0 0, .bool false]) (by simp [results, Try.results29, go_sem]) rfl ⟨rfl, by repeat (first | exact Below.refl _ _ | refine Below.setCell ?_ (by simp) _ | refine Below.alloc ?_ (by simp) _)⟩

/-- How a part that is taken is told by the document: there are more, or it was the last. -/
def RefEnd (B : Nat) (a0 a parts : Int) (l : List PC) (e : Ending) (w' : World) : Prop :=
  ((l.length : Int) < parts ∧ ∃ A' c', e = .returned (.tuple #[RV a0 parts (.slice A' l.length c'), .slice none 0 0, .bool false]) ∧ w'.ownsRow B 23 1 (.slice A' l.length c') l.length (l.map PC.val)) ∨
  (¬ (l.length : Int) < parts ∧ ∃ A' c', e = .returned (.tuple #[RV a 0 (.slice none 0 0), .slice A' (cat l).length c', .bool true]) ∧ w'.ownsRow B 5 1 (.slice A' (cat l).length c') (cat l).length ((cat l).map bv))

theorem keeps_grown0 {w w' : World} (h : w.grownBy w' (Value.slice none 0 0).ownBlock) : Keeps [] w w' := Keeps.of_grown (row := none) h
theorem pc_one {l : List PC} : ∀ u ∈ l.map PC.val, u.oneCell' = true := by
  intro u hu
  obtain ⟨y, _, rfl⟩ := List.mem_map.1 hu
  rfl


set_option maxRecDepth 100000 in
set_option maxHeartbeats 2000000 in
theorem refTake_old (base : Nat) (a0 p0 : Int) (A0 : Option Addr) (n0 c0 : Nat) (l : List PC) (a part parts : Int) (x : PC) (w : World) (h : w.ownsRow base 23 1 (.slice A0 n0 c0) n0 (l.map PC.val)) (LX : List PC) (hLX : Hid (LX = l ++ [x])) (hs : PSrcs w LX) (hn0 : n0 ≤ 100)
    (hgood : ¬ refBad a0 a part parts x.bs.length) (hnew : ¬ refNew a0 p0 n0 a parts) (hw : part = (n0 : Int)) :
    Calls Try.prog 29 #[RV a0 p0 (.slice A0 n0 c0), .int .u64 a, .int .i64 part, .int .i64 parts, .slice x.A x.bs.length x.c] w fun e w' => RefEnd w.heap.size a0 a parts LX e w' ∧ Below w.heap.size w w' := by
  obtain ⟨i0, hi0, hz0, hz1, hz2⟩ := info_parts info_bytes
  obtain ⟨g1, g2, g3, g4, g5⟩ := refBad_not hgood
  have hat : ¬ a0 < a := by unfold refNew at hnew; omega
  subst hw
  by_cases hnx : 0 < n0
  · have hps : parts = p0 := by unfold refNew at hnew; omega
    have t1 : (p0 != parts) = false := by simp [hps]
    have t2 : (0 : Int) < (n0 : Int) := by omega
    clear hgood hnew hps hnx
    go_enter Try.func29, Try.ntmps29
    simp only [RV]
    have hX : Below w.heap.size w ((w.alloc (.cells #[.int .u64 a0, .int .i64 parts, .slice A0 n0 c0] 55)).alloc (.cells #[.int .u64 0, .int .i64 0, .slice none 0 0] 55)) := ((Below.refl _ _).alloc (Nat.le_refl _) _).alloc (by simp) _
    have hbx : Blk ((w.alloc (.cells #[.int .u64 a0, .int .i64 parts, .slice A0 n0 c0] 55)).alloc (.cells #[.int .u64 0, .int .i64 0, .slice none 0 0] 55)) w.heap.size 55 #[.int .u64 a0, .int .i64 parts, .slice A0 n0 c0] := (Blk.new w _ _).alloc _
    have hbr : Blk ((w.alloc (.cells #[.int .u64 a0, .int .i64 parts, .slice A0 n0 c0] 55)).alloc (.cells #[.int .u64 0, .int .i64 0, .slice none 0 0] 55)) (w.heap.size + 1) 55 #[.int .u64 0, .int .i64 0, .slice none 0 0] := by
      have := Blk.new (w.alloc (.cells #[.int .u64 a0, .int .i64 parts, .slice A0 n0 c0] 55)) 55 #[.int .u64 0, .int .i64 0, .slice none 0 0]
      simpa using this
    go_wp2_with (at_builtin; refine wpList_append_src rfl (.const (.slice none 0 0)) (.tmp 63) _ rfl w.heap.size 23 i0 _ 1 24 Try.underlying53 hi0 hz0 hz1 hz2 rfl (by omega) (.slice none 0 0) 0 [] rfl ?xd0 A0 n0 c0 (l.map PC.val) rfl ?xd1 ?xd2 ?xd3 ?xd4 ?xd5)
    case xd0 => exact World.ownsRow_nil _ _ _ _
    case xd1 => first | exact Src.of_own (own_below h hX (own_lt h)) pc_one | exact Src.of_own (own_below h hX (own_lt h)) (by simp)
    try (case xd2 => unfold maxLen; omega)
    try (case xd3 => omega)
    try (case xd4 => first | omega | (simp; omega))
    case xd5 =>
      intro v1 W1 ho1 hgr1 _
      have hk1 := keeps_grown0 hgr1
      have hb1 := hbx.keeps hk1 (by simp)
      have hr1 := hbr.keeps hk1 (by simp)
      have hB1 : Below w.heap.size w W1 := hX.trans (hk1.nil_below.mono hX.size)
      have e0 := hb1.cell 0
      have e1 := hb1.cell 1
      have e2 := hb1.cell 2
      have fz := hb1.frozen
      have d0 := hr1.cell 0
      have d1 := hr1.cell 1
      have d2 := hr1.cell 2
      have fr := hr1.frozen
      have l1 := hb1.lt
      have l2 := hr1.lt
      simp only [List.getElem?_toArray, List.getElem?_cons_zero, List.getElem?_cons_succ] at e0 e1 e2 d0 d1 d2
      obtain ⟨A1, c1, hv1, hlc1, hcm1⟩ := own_form ho1
      subst hv1
      have hsx := Src.one W1 #[.slice x.A x.bs.length x.c] 23 (by simp [Value.oneCell'])
      simp only [List.size_toArray, List.length_cons, List.length_nil, Nat.zero_add] at hsx
      have ho1' := own_below ho1 ((Below.refl _ W1).alloc (Nat.le_refl _) (.cells #[.slice x.A x.bs.length x.c] 23)) (own_lt ho1)
      have hX1 : Below w.heap.size w (W1.alloc (.cells #[.slice x.A x.bs.length x.c] 23)) := hB1.trans ((Below.refl _ W1).alloc hB1.size _)
      have hbx1 := hb1.alloc (.cells #[.slice x.A x.bs.length x.c] 23)
      have hrx1 := hr1.alloc (.cells #[.slice x.A x.bs.length x.c] 23)
      clear hk1 hgr1 hX hbx hbr
      go_wp2_with (at_builtin; refine wpList_append_src rfl (.tmp 64) (.tmp 66) _ rfl w.heap.size 23 i0 _ 1 24 Try.underlying53 hi0 hz0 hz1 hz2 rfl (by omega) (.slice A1 n0 c1) n0 (l.map PC.val) rfl ?xe0 (some ⟨W1.heap.size, 0, none⟩) 1 1 [x.val] rfl ?xe1 ?xe2 ?xe3 ?xe4 ?xe5)
      case xe0 => exact ho1'
      case xe1 => exact hsx
      try (case xe2 => unfold maxLen; omega)
      try (case xe3 => omega)
      try (case xe4 => have := hX1.size; simpa using this)
      case xe5 =>
        intro v2 W2 ho2 hgr2 _
        obtain ⟨A2, c2, hv2, hlc2, hcm2⟩ := own_form ho2
        subst hv2
        have hk2 := Keeps.of_grown hgr2
        have hne : ∀ {g : Nat} {cs : Array Value}, Blk (W1.alloc (.cells #[.slice x.A x.bs.length x.c] 23)) g 55 cs → g ∉ (Value.slice A1 n0 c1).ownBlock.toList := fun hg hm => own_blk_ne ho1' hg (by decide) _ (by simpa using hm) rfl
        have hb2 := hbx1.keeps hk2 (hne hbx1)
        have hr2 := hrx1.keeps hk2 (hne hrx1)
        have hB2 : Below w.heap.size w W2 := hX1.trans (hk2.below hX1.size fun k hk => own_ge ho1 k (by simpa using hk))
        clear e0 e1 e2 fz d0 d1 d2 fr l1 l2
        have e0 := hb2.cell 0
        have e1 := hb2.cell 1
        have e2 := hb2.cell 2
        have fz := hb2.frozen
        have d0 := hr2.cell 0
        have d1 := hr2.cell 1
        have d2 := hr2.cell 2
        have fr := hr2.frozen
        have l1 := hb2.lt
        have l2 := hr2.lt
        simp only [List.getElem?_toArray, List.getElem?_cons_zero, List.getElem?_cons_succ] at e0 e1 e2 d0 d1 d2
        clear hk2 hgr2 hbx1 hrx1 hX1 ho1' hsx hb1 hr1 hne ho1 hB1
        have hll : LX.length = n0 + 1 := by rw [hLX.out]; have := h.1; simp at this; simp [this]
        replace ho2 : W2.ownsRow w.heap.size 23 1 (.slice A2 (n0 + 1) c2) (n0 + 1) (LX.map PC.val) := by rw [hLX.out, List.map_append]; exact ho2
        have hnb : ∀ k ∈ (Value.slice A2 (n0 + 1) c2).ownBlock, k ≠ w.heap.size ∧ k ≠ w.heap.size + 1 := fun k hk => ⟨own_blk_ne ho2 hb2 (by decide) k hk, own_blk_ne ho2 hr2 (by decide) k hk⟩
        have HLL := Lib.hid hll
        clear hll
        by_cases hlt : ((n0 + 1 : Nat) : Int) < parts
        · have t9 : (n0 : Int) + 1 < parts := by omega
          clear hlt
          go_wp2_with fail
          refine bodyPost_ret (v := .tuple #[.agg #[.int .u64 a0, .int .i64 parts, .slice A2 (n0 + 1) c2], .slice none 0 0, .bool false]) (by simp [results, Try.results29, go_sem, d0, d1, d2]) rfl ?_
          have hk3 := ((((Keeps.refl [w.heap.size, w.heap.size + 1] W2).setCell (p := ⟨w.heap.size, 2, none⟩) (.inl (by simp)) (.slice A2 (n0 + 1) c2)).setCell (p := ⟨w.heap.size + 1, 0, none⟩) (.inl (by simp)) (.int .u64 a0)).setCell (p := ⟨w.heap.size + 1, 1, none⟩) (.inl (by simp)) (.int .i64 parts)).setCell (p := ⟨w.heap.size + 1, 2, none⟩) (.inl (by simp)) (.slice A2 (n0 + 1) c2)
          refine ⟨.inl ⟨by rw [HLL.out]; omega, A2, c2, by rw [HLL.out]; rfl, ?_⟩, hB2.trans (hk3.below hB2.size (by simp))⟩
          rw [HLL.out]
          exact own_keeps ho2 hk3 fun k hk hm => by
            have := hnb k hk
            simp at hm
            omega
        · have t9 : ¬ (n0 : Int) + 1 < parts := by omega
          clear hlt
          have hk3 := (Keeps.refl [w.heap.size] W2).setCell (p := ⟨w.heap.size, 2, none⟩) (.inl (by simp)) (.slice A2 (n0 + 1) c2)
          have ho3 := own_keeps ho2 hk3 fun k hk hm => (hnb k hk).1 (by simpa using hm)
          have hB3 := hB2.trans (hk3.below hB2.size (by simp))
          have hr3 := hr2.keeps hk3 (by simp)
          have hsB3 := hB3.size
          go_wp2_with fail
          refine (refAll_any _ A2 (n0 + 1) c2 LX _ ho3 (hs.below_ hB3) (by omega)).mono ?_
          rintro e W4 ⟨⟨A4, c4, rfl, ho4⟩, hb4⟩
          have hr4 := hr3.below hb4 hr3.lt
          have hB4 := hB3.trans (hb4.mono hB3.size)
          clear e0 e1 e2 fz d0 d1 d2 fr l1 l2
          have d0 := hr4.cell 0
          have d1 := hr4.cell 1
          have d2 := hr4.cell 2
          have fr := hr4.frozen
          have l2 := hr4.lt
          have hs4 := hb4.size
          simp only [List.getElem?_toArray, List.getElem?_cons_zero, List.getElem?_cons_succ] at d0 d1 d2
          obtain ⟨M, hM⟩ : ∃ M, cat LX = M := ⟨_, rfl⟩
          rw [hM] at ho4 ⊢
          have HM := Lib.hid hM
          clear hM hb4 hr3 ho3 hk3 hB3
          go_wp2_with fail
          refine bodyPost_ret (v := .tuple #[.agg #[.int .u64 a, .int .i64 0, .slice none 0 0], .slice A4 M.length c4, .bool true]) (by simp [results, Try.results29, go_sem, d0, d1, d2]) rfl ?_
          have hk5 := (((Keeps.refl [w.heap.size + 1] W4).setCell (p := ⟨w.heap.size + 1, 0, none⟩) (.inl (by simp)) (.int .u64 a)).setCell (p := ⟨w.heap.size + 1, 1, none⟩) (.inl (by simp)) (.int .i64 0)).setCell (p := ⟨w.heap.size + 1, 2, none⟩) (.inl (by simp)) (.slice none 0 0)
          refine ⟨.inr ⟨by rw [HLL.out]; omega, A4, c4, by rw [HM.out]; rfl, ?_⟩, hB4.trans (hk5.below (by omega) (by simp))⟩
          rw [HM.out]
          exact own_keeps (own_rebase ho4 fun k hk => Nat.le_trans hsB3 (own_ge ho4 k hk)) hk5 fun k hk hm => own_blk_ne ho4 hr4 (by decide) k hk (by simpa using hm)
  · obtain rfl : n0 = 0 := by omega
    obtain rfl : l = [] := by have := h.1; simp at this; exact this
    have t0 : ((0 : Int) != (0 : Int)) = false := rfl
    clear hgood hnew hnx
    simp only [Int.natCast_zero] at g2 g3 ⊢
    go_enter Try.func29, Try.ntmps29
    simp only [RV]
    have hX : Below w.heap.size w ((w.alloc (.cells #[.int .u64 a0, .int .i64 parts, .slice A0 0 c0] 55)).alloc (.cells #[.int .u64 0, .int .i64 0, .slice none 0 0] 55)) := ((Below.refl _ _).alloc (Nat.le_refl _) _).alloc (by simp) _
    have hbx : Blk ((w.alloc (.cells #[.int .u64 a0, .int .i64 parts, .slice A0 0 c0] 55)).alloc (.cells #[.int .u64 0, .int .i64 0, .slice none 0 0] 55)) w.heap.size 55 #[.int .u64 a0, .int .i64 parts, .slice A0 0 c0] := (Blk.new w _ _).alloc _
    have hbr : Blk ((w.alloc (.cells #[.int .u64 a0, .int .i64 parts, .slice A0 0 c0] 55)).alloc (.cells #[.int .u64 0, .int .i64 0, .slice none 0 0] 55)) (w.heap.size + 1) 55 #[.int .u64 0, .int .i64 0, .slice none 0 0] := by
      have := Blk.new (w.alloc (.cells #[.int .u64 a0, .int .i64 parts, .slice A0 0 c0] 55)) 55 #[.int .u64 0, .int .i64 0, .slice none 0 0]
      simpa using this
    go_wp2_with (at_builtin; refine wpList_append_src rfl (.const (.slice none 0 0)) (.tmp 63) _ rfl w.heap.size 23 i0 _ 1 24 Try.underlying53 hi0 hz0 hz1 hz2 rfl (by omega) (.slice none 0 0) 0 [] rfl ?yd0 A0 0 c0 (([] : List PC).map PC.val) rfl ?yd1 ?yd2 ?yd3 ?yd4 ?yd5)
    case yd0 => exact World.ownsRow_nil _ _ _ _
    case yd1 => first | exact Src.of_own (own_below h hX (own_lt h)) pc_one | exact Src.of_own (own_below h hX (own_lt h)) (by simp)
    try (case yd2 => unfold maxLen; omega)
    try (case yd3 => omega)
    try (case yd4 => first | omega | (simp; omega))
    case yd5 =>
      intro v1 W1 ho1 hgr1 _
      have hk1 := keeps_grown0 hgr1
      have hb1 := hbx.keeps hk1 (by simp)
      have hr1 := hbr.keeps hk1 (by simp)
      have hB1 : Below w.heap.size w W1 := hX.trans (hk1.nil_below.mono hX.size)
      have e0 := hb1.cell 0
      have e1 := hb1.cell 1
      have e2 := hb1.cell 2
      have fz := hb1.frozen
      have d0 := hr1.cell 0
      have d1 := hr1.cell 1
      have d2 := hr1.cell 2
      have fr := hr1.frozen
      have l1 := hb1.lt
      have l2 := hr1.lt
      simp only [List.getElem?_toArray, List.getElem?_cons_zero, List.getElem?_cons_succ] at e0 e1 e2 d0 d1 d2
      obtain ⟨A1, c1, hv1, hlc1, hcm1⟩ := own_form ho1
      subst hv1
      have hsx := Src.one W1 #[.slice x.A x.bs.length x.c] 23 (by simp [Value.oneCell'])
      simp only [List.size_toArray, List.length_cons, List.length_nil, Nat.zero_add] at hsx
      have ho1' := own_below ho1 ((Below.refl _ W1).alloc (Nat.le_refl _) (.cells #[.slice x.A x.bs.length x.c] 23)) (own_lt ho1)
      have hX1 : Below w.heap.size w (W1.alloc (.cells #[.slice x.A x.bs.length x.c] 23)) := hB1.trans ((Below.refl _ W1).alloc hB1.size _)
      have hbx1 := hb1.alloc (.cells #[.slice x.A x.bs.length x.c] 23)
      have hrx1 := hr1.alloc (.cells #[.slice x.A x.bs.length x.c] 23)
      clear hk1 hgr1 hX hbx hbr
      go_wp2_with (at_builtin; refine wpList_append_src rfl (.tmp 64) (.tmp 66) _ rfl w.heap.size 23 i0 _ 1 24 Try.underlying53 hi0 hz0 hz1 hz2 rfl (by omega) (.slice A1 0 c1) 0 (([] : List PC).map PC.val) rfl ?ye0 (some ⟨W1.heap.size, 0, none⟩) 1 1 [x.val] rfl ?ye1 ?ye2 ?ye3 ?ye4 ?ye5)
      case ye0 => exact ho1'
      case ye1 => exact hsx
      try (case ye2 => unfold maxLen; omega)
      try (case ye3 => omega)
      try (case ye4 => have := hX1.size; simpa using this)
      case ye5 =>
        intro v2 W2 ho2 hgr2 _
        obtain ⟨A2, c2, hv2, hlc2, hcm2⟩ := own_form ho2
        subst hv2
        have hk2 := Keeps.of_grown hgr2
        have hne : ∀ {g : Nat} {cs : Array Value}, Blk (W1.alloc (.cells #[.slice x.A x.bs.length x.c] 23)) g 55 cs → g ∉ (Value.slice A1 0 c1).ownBlock.toList := fun hg hm => own_blk_ne ho1' hg (by decide) _ (by simpa using hm) rfl
        have hb2 := hbx1.keeps hk2 (hne hbx1)
        have hr2 := hrx1.keeps hk2 (hne hrx1)
        have hB2 : Below w.heap.size w W2 := hX1.trans (hk2.below hX1.size fun k hk => own_ge ho1 k (by simpa using hk))
        clear e0 e1 e2 fz d0 d1 d2 fr l1 l2
        have e0 := hb2.cell 0
        have e1 := hb2.cell 1
        have e2 := hb2.cell 2
        have fz := hb2.frozen
        have d0 := hr2.cell 0
        have d1 := hr2.cell 1
        have d2 := hr2.cell 2
        have fr := hr2.frozen
        have l1 := hb2.lt
        have l2 := hr2.lt
        simp only [List.getElem?_toArray, List.getElem?_cons_zero, List.getElem?_cons_succ] at e0 e1 e2 d0 d1 d2
        clear hk2 hgr2 hbx1 hrx1 hX1 ho1' hsx hb1 hr1 hne ho1 hB1
        have hll : LX.length = 0 + 1 := by rw [hLX.out]; have := h.1; simp at this; simp [this]
        replace ho2 : W2.ownsRow w.heap.size 23 1 (.slice A2 (0 + 1) c2) (0 + 1) (LX.map PC.val) := by rw [hLX.out, List.map_append]; exact ho2
        have hnb : ∀ k ∈ (Value.slice A2 (0 + 1) c2).ownBlock, k ≠ w.heap.size ∧ k ≠ w.heap.size + 1 := fun k hk => ⟨own_blk_ne ho2 hb2 (by decide) k hk, own_blk_ne ho2 hr2 (by decide) k hk⟩
        have HLL := Lib.hid hll
        clear hll
        by_cases hlt : ((0 + 1 : Nat) : Int) < parts
        · have t9 : (0 : Int) + 1 < parts := by omega
          clear hlt
          go_wp2_with fail
          refine bodyPost_ret (v := .tuple #[.agg #[.int .u64 a0, .int .i64 parts, .slice A2 (0 + 1) c2], .slice none 0 0, .bool false]) (by simp [results, Try.results29, go_sem, d0, d1, d2]) rfl ?_
          have hk3 := ((((Keeps.refl [w.heap.size, w.heap.size + 1] W2).setCell (p := ⟨w.heap.size, 2, none⟩) (.inl (by simp)) (.slice A2 (0 + 1) c2)).setCell (p := ⟨w.heap.size + 1, 0, none⟩) (.inl (by simp)) (.int .u64 a0)).setCell (p := ⟨w.heap.size + 1, 1, none⟩) (.inl (by simp)) (.int .i64 parts)).setCell (p := ⟨w.heap.size + 1, 2, none⟩) (.inl (by simp)) (.slice A2 (0 + 1) c2)
          refine ⟨.inl ⟨by rw [HLL.out]; omega, A2, c2, by rw [HLL.out]; rfl, ?_⟩, hB2.trans (hk3.below hB2.size (by simp))⟩
          rw [HLL.out]
          exact own_keeps ho2 hk3 fun k hk hm => by
            have := hnb k hk
            simp at hm
            omega
        · have t9 : ¬ (0 : Int) + 1 < parts := by omega
          clear hlt
          have hk3 := (Keeps.refl [w.heap.size] W2).setCell (p := ⟨w.heap.size, 2, none⟩) (.inl (by simp)) (.slice A2 (0 + 1) c2)
          have ho3 := own_keeps ho2 hk3 fun k hk hm => (hnb k hk).1 (by simpa using hm)
          have hB3 := hB2.trans (hk3.below hB2.size (by simp))
          have hr3 := hr2.keeps hk3 (by simp)
          have hsB3 := hB3.size
          go_wp2_with fail
          refine (refAll_any _ A2 (0 + 1) c2 LX _ ho3 (hs.below_ hB3) (by omega)).mono ?_
          rintro e W4 ⟨⟨A4, c4, rfl, ho4⟩, hb4⟩
          have hr4 := hr3.below hb4 hr3.lt
          have hB4 := hB3.trans (hb4.mono hB3.size)
          clear e0 e1 e2 fz d0 d1 d2 fr l1 l2
          have d0 := hr4.cell 0
          have d1 := hr4.cell 1
          have d2 := hr4.cell 2
          have fr := hr4.frozen
          have l2 := hr4.lt
          have hs4 := hb4.size
          simp only [List.getElem?_toArray, List.getElem?_cons_zero, List.getElem?_cons_succ] at d0 d1 d2
          obtain ⟨M, hM⟩ : ∃ M, cat LX = M := ⟨_, rfl⟩
          rw [hM] at ho4 ⊢
          have HM := Lib.hid hM
          clear hM hb4 hr3 ho3 hk3 hB3
          go_wp2_with fail
          refine bodyPost_ret (v := .tuple #[.agg #[.int .u64 a, .int .i64 0, .slice none 0 0], .slice A4 M.length c4, .bool true]) (by simp [results, Try.results29, go_sem, d0, d1, d2]) rfl ?_
          have hk5 := (((Keeps.refl [w.heap.size + 1] W4).setCell (p := ⟨w.heap.size + 1, 0, none⟩) (.inl (by simp)) (.int .u64 a)).setCell (p := ⟨w.heap.size + 1, 1, none⟩) (.inl (by simp)) (.int .i64 0)).setCell (p := ⟨w.heap.size + 1, 2, none⟩) (.inl (by simp)) (.slice none 0 0)
          refine ⟨.inr ⟨by rw [HLL.out]; omega, A4, c4, by rw [HM.out]; rfl, ?_⟩, hB4.trans (hk5.below (by omega) (by simp))⟩
          rw [HM.out]
          exact own_keeps (own_rebase ho4 fun k hk => Nat.le_trans hsB3 (own_ge ho4 k hk)) hk5 fun k hk hm => own_blk_ne ho4 hr4 (by decide) k hk (by simpa using hm)

set_option maxRecDepth 100000 in
set_option maxHeartbeats 2000000 in
theorem refTake_fresh (a0 p0 : Int) (A0 : Option Addr) (n0 c0 : Nat) (a parts : Int) (x : PC) (w : World) (LX : List PC) (hLX : Hid (LX = ([] : List PC) ++ [x])) (hs : PSrcs w LX)
    (hgood : ¬ refBad a0 a 0 parts x.bs.length) (hnew : refNew a0 p0 n0 a parts) :
    Calls Try.prog 29 #[RV a0 p0 (.slice A0 n0 c0), .int .u64 a, .int .i64 0, .int .i64 parts, .slice x.A x.bs.length x.c] w fun e w' => RefEnd w.heap.size a a parts LX e w' ∧ Below w.heap.size w w' := by
  obtain ⟨i0, hi0, hz0, hz1, hz2⟩ := info_parts info_bytes
  obtain ⟨g1, g2, g3, g4, g5⟩ := refBad_not hgood
  have h : w.ownsRow w.heap.size 23 1 (.slice none 0 0) 0 (([] : List PC).map PC.val) := World.ownsRow_nil _ _ _ _
  have t0 : ((0 : Int) != (0 : Int)) = false := rfl
  by_cases hat : a0 < a
  · clear hgood hnew
    go_enter Try.func29, Try.ntmps29
    simp only [RV]
    have hX : Below w.heap.size w ((w.alloc (.cells #[.int .u64 a, .int .i64 parts, .slice none 0 0] 55)).alloc (.cells #[.int .u64 0, .int .i64 0, .slice none 0 0] 55)) := ((Below.refl _ _).alloc (Nat.le_refl _) _).alloc (by simp) _
    have hbx : Blk ((w.alloc (.cells #[.int .u64 a, .int .i64 parts, .slice none 0 0] 55)).alloc (.cells #[.int .u64 0, .int .i64 0, .slice none 0 0] 55)) w.heap.size 55 #[.int .u64 a, .int .i64 parts, .slice none 0 0] := (Blk.new w _ _).alloc _
    have hbr : Blk ((w.alloc (.cells #[.int .u64 a, .int .i64 parts, .slice none 0 0] 55)).alloc (.cells #[.int .u64 0, .int .i64 0, .slice none 0 0] 55)) (w.heap.size + 1) 55 #[.int .u64 0, .int .i64 0, .slice none 0 0] := by
      have := Blk.new (w.alloc (.cells #[.int .u64 a, .int .i64 parts, .slice none 0 0] 55)) 55 #[.int .u64 0, .int .i64 0, .slice none 0 0]
      simpa using this
    go_wp2_with (at_builtin; refine wpList_append_src rfl (.const (.slice none 0 0)) (.tmp 63) _ rfl w.heap.size 23 i0 _ 1 24 Try.underlying53 hi0 hz0 hz1 hz2 rfl (by omega) (.slice none 0 0) 0 [] rfl ?xd0 none 0 0 (([] : List PC).map PC.val) rfl ?xd1 ?xd2 ?xd3 ?xd4 ?xd5)
    case xd0 => exact World.ownsRow_nil _ _ _ _
    case xd1 => first | exact Src.of_own (own_below h hX (own_lt h)) pc_one | exact Src.of_own (own_below h hX (own_lt h)) (by simp)
    try (case xd2 => unfold maxLen; omega)
    try (case xd3 => omega)
    try (case xd4 => first | omega | (simp; omega))
    case xd5 =>
      intro v1 W1 ho1 hgr1 _
      have hk1 := keeps_grown0 hgr1
      have hb1 := hbx.keeps hk1 (by simp)
      have hr1 := hbr.keeps hk1 (by simp)
      have hB1 : Below w.heap.size w W1 := hX.trans (hk1.nil_below.mono hX.size)
      have e0 := hb1.cell 0
      have e1 := hb1.cell 1
      have e2 := hb1.cell 2
      have fz := hb1.frozen
      have d0 := hr1.cell 0
      have d1 := hr1.cell 1
      have d2 := hr1.cell 2
      have fr := hr1.frozen
      have l1 := hb1.lt
      have l2 := hr1.lt
      simp only [List.getElem?_toArray, List.getElem?_cons_zero, List.getElem?_cons_succ] at e0 e1 e2 d0 d1 d2
      obtain ⟨A1, c1, hv1, hlc1, hcm1⟩ := own_form ho1
      subst hv1
      have hsx := Src.one W1 #[.slice x.A x.bs.length x.c] 23 (by simp [Value.oneCell'])
      simp only [List.size_toArray, List.length_cons, List.length_nil, Nat.zero_add] at hsx
      have ho1' := own_below ho1 ((Below.refl _ W1).alloc (Nat.le_refl _) (.cells #[.slice x.A x.bs.length x.c] 23)) (own_lt ho1)
      have hX1 : Below w.heap.size w (W1.alloc (.cells #[.slice x.A x.bs.length x.c] 23)) := hB1.trans ((Below.refl _ W1).alloc hB1.size _)
      have hbx1 := hb1.alloc (.cells #[.slice x.A x.bs.length x.c] 23)
      have hrx1 := hr1.alloc (.cells #[.slice x.A x.bs.length x.c] 23)
      clear hk1 hgr1 hX hbx hbr
      go_wp2_with (at_builtin; refine wpList_append_src rfl (.tmp 64) (.tmp 66) _ rfl w.heap.size 23 i0 _ 1 24 Try.underlying53 hi0 hz0 hz1 hz2 rfl (by omega) (.slice A1 0 c1) 0 (([] : List PC).map PC.val) rfl ?xe0 (some ⟨W1.heap.size, 0, none⟩) 1 1 [x.val] rfl ?xe1 ?xe2 ?xe3 ?xe4 ?xe5)
      case xe0 => exact ho1'
      case xe1 => exact hsx
      try (case xe2 => unfold maxLen; omega)
      try (case xe3 => omega)
      try (case xe4 => have := hX1.size; simpa using this)
      case xe5 =>
        intro v2 W2 ho2 hgr2 _
        obtain ⟨A2, c2, hv2, hlc2, hcm2⟩ := own_form ho2
        subst hv2
        have hk2 := Keeps.of_grown hgr2
        have hne : ∀ {g : Nat} {cs : Array Value}, Blk (W1.alloc (.cells #[.slice x.A x.bs.length x.c] 23)) g 55 cs → g ∉ (Value.slice A1 0 c1).ownBlock.toList := fun hg hm => own_blk_ne ho1' hg (by decide) _ (by simpa using hm) rfl
        have hb2 := hbx1.keeps hk2 (hne hbx1)
        have hr2 := hrx1.keeps hk2 (hne hrx1)
        have hB2 : Below w.heap.size w W2 := hX1.trans (hk2.below hX1.size fun k hk => own_ge ho1 k (by simpa using hk))
        clear e0 e1 e2 fz d0 d1 d2 fr l1 l2
        have e0 := hb2.cell 0
        have e1 := hb2.cell 1
        have e2 := hb2.cell 2
        have fz := hb2.frozen
        have d0 := hr2.cell 0
        have d1 := hr2.cell 1
        have d2 := hr2.cell 2
        have fr := hr2.frozen
        have l1 := hb2.lt
        have l2 := hr2.lt
        simp only [List.getElem?_toArray, List.getElem?_cons_zero, List.getElem?_cons_succ] at e0 e1 e2 d0 d1 d2
        clear hk2 hgr2 hbx1 hrx1 hX1 ho1' hsx hb1 hr1 hne ho1 hB1
        have hll : LX.length = 0 + 1 := by rw [hLX.out]; have := h.1; simp at this; simp [this]
        replace ho2 : W2.ownsRow w.heap.size 23 1 (.slice A2 (0 + 1) c2) (0 + 1) (LX.map PC.val) := by rw [hLX.out, List.map_append]; exact ho2
        have hnb : ∀ k ∈ (Value.slice A2 (0 + 1) c2).ownBlock, k ≠ w.heap.size ∧ k ≠ w.heap.size + 1 := fun k hk => ⟨own_blk_ne ho2 hb2 (by decide) k hk, own_blk_ne ho2 hr2 (by decide) k hk⟩
        have HLL := Lib.hid hll
        clear hll
        by_cases hlt : ((0 + 1 : Nat) : Int) < parts
        · have t9 : (0 : Int) + 1 < parts := by omega
          clear hlt
          go_wp2_with fail
          refine bodyPost_ret (v := .tuple #[.agg #[.int .u64 a, .int .i64 parts, .slice A2 (0 + 1) c2], .slice none 0 0, .bool false]) (by simp [results, Try.results29, go_sem, d0, d1, d2]) rfl ?_
          have hk3 := ((((Keeps.refl [w.heap.size, w.heap.size + 1] W2).setCell (p := ⟨w.heap.size, 2, none⟩) (.inl (by simp)) (.slice A2 (0 + 1) c2)).setCell (p := ⟨w.heap.size + 1, 0, none⟩) (.inl (by simp)) (.int .u64 a)).setCell (p := ⟨w.heap.size + 1, 1, none⟩) (.inl (by simp)) (.int .i64 parts)).setCell (p := ⟨w.heap.size + 1, 2, none⟩) (.inl (by simp)) (.slice A2 (0 + 1) c2)
          refine ⟨.inl ⟨by rw [HLL.out]; omega, A2, c2, by rw [HLL.out]; rfl, ?_⟩, hB2.trans (hk3.below hB2.size (by simp))⟩
          rw [HLL.out]
          exact own_keeps ho2 hk3 fun k hk hm => by
            have := hnb k hk
            simp at hm
            omega
        · have t9 : ¬ (0 : Int) + 1 < parts := by omega
          clear hlt
          have hk3 := (Keeps.refl [w.heap.size] W2).setCell (p := ⟨w.heap.size, 2, none⟩) (.inl (by simp)) (.slice A2 (0 + 1) c2)
          have ho3 := own_keeps ho2 hk3 fun k hk hm => (hnb k hk).1 (by simpa using hm)
          have hB3 := hB2.trans (hk3.below hB2.size (by simp))
          have hr3 := hr2.keeps hk3 (by simp)
          have hsB3 := hB3.size
          go_wp2_with fail
          refine (refAll_any _ A2 (0 + 1) c2 LX _ ho3 (hs.below_ hB3) (by omega)).mono ?_
          rintro e W4 ⟨⟨A4, c4, rfl, ho4⟩, hb4⟩
          have hr4 := hr3.below hb4 hr3.lt
          have hB4 := hB3.trans (hb4.mono hB3.size)
          clear e0 e1 e2 fz d0 d1 d2 fr l1 l2
          have d0 := hr4.cell 0
          have d1 := hr4.cell 1
          have d2 := hr4.cell 2
          have fr := hr4.frozen
          have l2 := hr4.lt
          have hs4 := hb4.size
          simp only [List.getElem?_toArray, List.getElem?_cons_zero, List.getElem?_cons_succ] at d0 d1 d2
          obtain ⟨M, hM⟩ : ∃ M, cat LX = M := ⟨_, rfl⟩
          rw [hM] at ho4 ⊢
          have HM := Lib.hid hM
          clear hM hb4 hr3 ho3 hk3 hB3
          go_wp2_with fail
          refine bodyPost_ret (v := .tuple #[.agg #[.int .u64 a, .int .i64 0, .slice none 0 0], .slice A4 M.length c4, .bool true]) (by simp [results, Try.results29, go_sem, d0, d1, d2]) rfl ?_
          have hk5 := (((Keeps.refl [w.heap.size + 1] W4).setCell (p := ⟨w.heap.size + 1, 0, none⟩) (.inl (by simp)) (.int .u64 a)).setCell (p := ⟨w.heap.size + 1, 1, none⟩) (.inl (by simp)) (.int .i64 0)).setCell (p := ⟨w.heap.size + 1, 2, none⟩) (.inl (by simp)) (.slice none 0 0)
          refine ⟨.inr ⟨by rw [HLL.out]; omega, A4, c4, by rw [HM.out]; rfl, ?_⟩, hB4.trans (hk5.below (by omega) (by simp))⟩
          rw [HM.out]
          exact own_keeps (own_rebase ho4 fun k hk => Nat.le_trans hsB3 (own_ge ho4 k hk)) hk5 fun k hk hm => own_blk_ne ho4 hr4 (by decide) k hk (by simpa using hm)
  · have hnx : 0 < n0 ∧ parts ≠ p0 := by unfold refNew at hnew; omega
    have t1 : (p0 != parts) = true := by simpa using fun h => hnx.2 h.symm
    have t2 : (0 : Int) < (n0 : Int) := by omega
    clear hgood hnew hnx
    go_enter Try.func29, Try.ntmps29
    simp only [RV]
    have hX : Below w.heap.size w ((w.alloc (.cells #[.int .u64 a, .int .i64 parts, .slice none 0 0] 55)).alloc (.cells #[.int .u64 0, .int .i64 0, .slice none 0 0] 55)) := ((Below.refl _ _).alloc (Nat.le_refl _) _).alloc (by simp) _
    have hbx : Blk ((w.alloc (.cells #[.int .u64 a, .int .i64 parts, .slice none 0 0] 55)).alloc (.cells #[.int .u64 0, .int .i64 0, .slice none 0 0] 55)) w.heap.size 55 #[.int .u64 a, .int .i64 parts, .slice none 0 0] := (Blk.new w _ _).alloc _
    have hbr : Blk ((w.alloc (.cells #[.int .u64 a, .int .i64 parts, .slice none 0 0] 55)).alloc (.cells #[.int .u64 0, .int .i64 0, .slice none 0 0] 55)) (w.heap.size + 1) 55 #[.int .u64 0, .int .i64 0, .slice none 0 0] := by
      have := Blk.new (w.alloc (.cells #[.int .u64 a, .int .i64 parts, .slice none 0 0] 55)) 55 #[.int .u64 0, .int .i64 0, .slice none 0 0]
      simpa using this
    go_wp2_with (at_builtin; refine wpList_append_src rfl (.const (.slice none 0 0)) (.tmp 63) _ rfl w.heap.size 23 i0 _ 1 24 Try.underlying53 hi0 hz0 hz1 hz2 rfl (by omega) (.slice none 0 0) 0 [] rfl ?yd0 none 0 0 (([] : List PC).map PC.val) rfl ?yd1 ?yd2 ?yd3 ?yd4 ?yd5)
    case yd0 => exact World.ownsRow_nil _ _ _ _
    case yd1 => first | exact Src.of_own (own_below h hX (own_lt h)) pc_one | exact Src.of_own (own_below h hX (own_lt h)) (by simp)
    try (case yd2 => unfold maxLen; omega)
    try (case yd3 => omega)
    try (case yd4 => first | omega | (simp; omega))
    case yd5 =>
      intro v1 W1 ho1 hgr1 _
      have hk1 := keeps_grown0 hgr1
      have hb1 := hbx.keeps hk1 (by simp)
      have hr1 := hbr.keeps hk1 (by simp)
      have hB1 : Below w.heap.size w W1 := hX.trans (hk1.nil_below.mono hX.size)
      have e0 := hb1.cell 0
      have e1 := hb1.cell 1
      have e2 := hb1.cell 2
      have fz := hb1.frozen
      have d0 := hr1.cell 0
      have d1 := hr1.cell 1
      have d2 := hr1.cell 2
      have fr := hr1.frozen
      have l1 := hb1.lt
      have l2 := hr1.lt
      simp only [List.getElem?_toArray, List.getElem?_cons_zero, List.getElem?_cons_succ] at e0 e1 e2 d0 d1 d2
      obtain ⟨A1, c1, hv1, hlc1, hcm1⟩ := own_form ho1
      subst hv1
      have hsx := Src.one W1 #[.slice x.A x.bs.length x.c] 23 (by simp [Value.oneCell'])
      simp only [List.size_toArray, List.length_cons, List.length_nil, Nat.zero_add] at hsx
      have ho1' := own_below ho1 ((Below.refl _ W1).alloc (Nat.le_refl _) (.cells #[.slice x.A x.bs.length x.c] 23)) (own_lt ho1)
      have hX1 : Below w.heap.size w (W1.alloc (.cells #[.slice x.A x.bs.length x.c] 23)) := hB1.trans ((Below.refl _ W1).alloc hB1.size _)
      have hbx1 := hb1.alloc (.cells #[.slice x.A x.bs.length x.c] 23)
      have hrx1 := hr1.alloc (.cells #[.slice x.A x.bs.length x.c] 23)
      clear hk1 hgr1 hX hbx hbr
      go_wp2_with (at_builtin; refine wpList_append_src rfl (.tmp 64) (.tmp 66) _ rfl w.heap.size 23 i0 _ 1 24 Try.underlying53 hi0 hz0 hz1 hz2 rfl (by omega) (.slice A1 0 c1) 0 (([] : List PC).map PC.val) rfl ?ye0 (some ⟨W1.heap.size, 0, none⟩) 1 1 [x.val] rfl ?ye1 ?ye2 ?ye3 ?ye4 ?ye5)
      case ye0 => exact ho1'
      case ye1 => exact hsx
      try (case ye2 => unfold maxLen; omega)
      try (case ye3 => omega)
      try (case ye4 => have := hX1.size; simpa using this)
      case ye5 =>
        intro v2 W2 ho2 hgr2 _
        obtain ⟨A2, c2, hv2, hlc2, hcm2⟩ := own_form ho2
        subst hv2
        have hk2 := Keeps.of_grown hgr2
        have hne : ∀ {g : Nat} {cs : Array Value}, Blk (W1.alloc (.cells #[.slice x.A x.bs.length x.c] 23)) g 55 cs → g ∉ (Value.slice A1 0 c1).ownBlock.toList := fun hg hm => own_blk_ne ho1' hg (by decide) _ (by simpa using hm) rfl
        have hb2 := hbx1.keeps hk2 (hne hbx1)
        have hr2 := hrx1.keeps hk2 (hne hrx1)
        have hB2 : Below w.heap.size w W2 := hX1.trans (hk2.below hX1.size fun k hk => own_ge ho1 k (by simpa using hk))
        clear e0 e1 e2 fz d0 d1 d2 fr l1 l2
        have e0 := hb2.cell 0
        have e1 := hb2.cell 1
        have e2 := hb2.cell 2
        have fz := hb2.frozen
        have d0 := hr2.cell 0
        have d1 := hr2.cell 1
        have d2 := hr2.cell 2
        have fr := hr2.frozen
        have l1 := hb2.lt
        have l2 := hr2.lt
        simp only [List.getElem?_toArray, List.getElem?_cons_zero, List.getElem?_cons_succ] at e0 e1 e2 d0 d1 d2
        clear hk2 hgr2 hbx1 hrx1 hX1 ho1' hsx hb1 hr1 hne ho1 hB1
        have hll : LX.length = 0 + 1 := by rw [hLX.out]; have := h.1; simp at this; simp [this]
        replace ho2 : W2.ownsRow w.heap.size 23 1 (.slice A2 (0 + 1) c2) (0 + 1) (LX.map PC.val) := by rw [hLX.out, List.map_append]; exact ho2
        have hnb : ∀ k ∈ (Value.slice A2 (0 + 1) c2).ownBlock, k ≠ w.heap.size ∧ k ≠ w.heap.size + 1 := fun k hk => ⟨own_blk_ne ho2 hb2 (by decide) k hk, own_blk_ne ho2 hr2 (by decide) k hk⟩
        have HLL := Lib.hid hll
        clear hll
        by_cases hlt : ((0 + 1 : Nat) : Int) < parts
        · have t9 : (0 : Int) + 1 < parts := by omega
          clear hlt
          go_wp2_with fail
          refine bodyPost_ret (v := .tuple #[.agg #[.int .u64 a, .int .i64 parts, .slice A2 (0 + 1) c2], .slice none 0 0, .bool false]) (by simp [results, Try.results29, go_sem, d0, d1, d2]) rfl ?_
          have hk3 := ((((Keeps.refl [w.heap.size, w.heap.size + 1] W2).setCell (p := ⟨w.heap.size, 2, none⟩) (.inl (by simp)) (.slice A2 (0 + 1) c2)).setCell (p := ⟨w.heap.size + 1, 0, none⟩) (.inl (by simp)) (.int .u64 a)).setCell (p := ⟨w.heap.size + 1, 1, none⟩) (.inl (by simp)) (.int .i64 parts)).setCell (p := ⟨w.heap.size + 1, 2, none⟩) (.inl (by simp)) (.slice A2 (0 + 1) c2)
          refine ⟨.inl ⟨by rw [HLL.out]; omega, A2, c2, by rw [HLL.out]; rfl, ?_⟩, hB2.trans (hk3.below hB2.size (by simp))⟩
          rw [HLL.out]
          exact own_keeps ho2 hk3 fun k hk hm => by
            have := hnb k hk
            simp at hm
            omega
        · have t9 : ¬ (0 : Int) + 1 < parts := by omega
          clear hlt
          have hk3 := (Keeps.refl [w.heap.size] W2).setCell (p := ⟨w.heap.size, 2, none⟩) (.inl (by simp)) (.slice A2 (0 + 1) c2)
          have ho3 := own_keeps ho2 hk3 fun k hk hm => (hnb k hk).1 (by simpa using hm)
          have hB3 := hB2.trans (hk3.below hB2.size (by simp))
          have hr3 := hr2.keeps hk3 (by simp)
          have hsB3 := hB3.size
          go_wp2_with fail
          refine (refAll_any _ A2 (0 + 1) c2 LX _ ho3 (hs.below_ hB3) (by omega)).mono ?_
          rintro e W4 ⟨⟨A4, c4, rfl, ho4⟩, hb4⟩
          have hr4 := hr3.below hb4 hr3.lt
          have hB4 := hB3.trans (hb4.mono hB3.size)
          clear e0 e1 e2 fz d0 d1 d2 fr l1 l2
          have d0 := hr4.cell 0
          have d1 := hr4.cell 1
          have d2 := hr4.cell 2
          have fr := hr4.frozen
          have l2 := hr4.lt
          have hs4 := hb4.size
          simp only [List.getElem?_toArray, List.getElem?_cons_zero, List.getElem?_cons_succ] at d0 d1 d2
          obtain ⟨M, hM⟩ : ∃ M, cat LX = M := ⟨_, rfl⟩
          rw [hM] at ho4 ⊢
          have HM := Lib.hid hM
          clear hM hb4 hr3 ho3 hk3 hB3
          go_wp2_with fail
          refine bodyPost_ret (v := .tuple #[.agg #[.int .u64 a, .int .i64 0, .slice none 0 0], .slice A4 M.length c4, .bool true]) (by simp [results, Try.results29, go_sem, d0, d1, d2]) rfl ?_
          have hk5 := (((Keeps.refl [w.heap.size + 1] W4).setCell (p := ⟨w.heap.size + 1, 0, none⟩) (.inl (by simp)) (.int .u64 a)).setCell (p := ⟨w.heap.size + 1, 1, none⟩) (.inl (by simp)) (.int .i64 0)).setCell (p := ⟨w.heap.size + 1, 2, none⟩) (.inl (by simp)) (.slice none 0 0)
          refine ⟨.inr ⟨by rw [HLL.out]; omega, A4, c4, by rw [HM.out]; rfl, ?_⟩, hB4.trans (hk5.below (by omega) (by simp))⟩
          rw [HM.out]
          exact own_keeps (own_rebase ho4 fun k hk => Nat.le_trans hsB3 (own_ge ho4 k hk)) hk5 fun k hk hm => own_blk_ne ho4 hr4 (by decide) k hk (by simpa using hm)
end Go.Proofs.Ytgdmejkneabclaa
