/- Contract of package move: Take. -/
import Derived.Test.YtgdmejkneabclaaMove4
namespace Go.Proofs.Ytgdmejkneabclaa
open Go.RowKit
set_option linter.unusedSimpArgs false
set_option linter.unusedVariables false

def takeBad (s : InS) (a part parts : Int) (n : Nat) : Prop := parts < 1 ∨ part < 0 ∨ parts ≤ part ∨ 1024 < n ∨ a < s.at_
def takeNew (s : InS) (a parts : Int) : Prop := s.at_ < a ∨ (0 < s.next ∧ parts ≠ s.parts)


set_option maxRecDepth 100000 in
set_option maxHeartbeats 1000000 in
theorem Take_bad (base g : Nat) (sl : Value) (s : InS) (a part parts : Int) (A : Option Addr) (n c : Nat) (w : World) (h : InAt w base g sl s) (hn : n ≤ 1000000000) (hb : takeBad s a part parts n) :
    Calls Try.prog 28 #[.pointer (some ⟨g, 0, none⟩), .int .u64 a, .int .i64 part, .int .i64 parts, .slice A n c] w fun e w' => e = .returned (.tuple #[.slice none 0 0, .bool false]) ∧ w = w' := by
  have c0 := h.blk.cell 0
  have hg := h.blk.lt
  simp only [List.getElem?_toArray, List.getElem?_cons_zero, List.getElem?_cons_succ] at c0
  unfold takeBad at hb
  by_cases b1 : parts < 1
  · clear hb
    go_enter Try.func28, Try.ntmps28
    go_wp2_with fail
    exact bodyPost_ret (v := .tuple #[.slice none 0 0, .bool false]) (by simp [results, Try.results28, go_sem]) rfl ⟨rfl, rfl⟩
  by_cases b2 : part < 0
  · clear hb
    go_enter Try.func28, Try.ntmps28
    go_wp2_with fail
    exact bodyPost_ret (v := .tuple #[.slice none 0 0, .bool false]) (by simp [results, Try.results28, go_sem]) rfl ⟨rfl, rfl⟩
  by_cases b3 : parts ≤ part
  · clear hb
    go_enter Try.func28, Try.ntmps28
    go_wp2_with fail
    exact bodyPost_ret (v := .tuple #[.slice none 0 0, .bool false]) (by simp [results, Try.results28, go_sem]) rfl ⟨rfl, rfl⟩
  by_cases b4 : 1024 < n
  · have b4' : (1024 : Int) < (n : Int) := by omega
    clear hb b4
    go_enter Try.func28, Try.ntmps28
    go_wp2_with fail
    exact bodyPost_ret (v := .tuple #[.slice none 0 0, .bool false]) (by simp [results, Try.results28, go_sem]) rfl ⟨rfl, rfl⟩
  have b5 : a < s.at_ := by omega
  have b4' : ¬ (1024 : Int) < (n : Int) := by omega
  clear hb b4
  go_enter Try.func28, Try.ntmps28
  go_wp2_with fail
  exact bodyPost_ret (v := .tuple #[.slice none 0 0, .bool false]) (by simp [results, Try.results28, go_sem]) rfl ⟨rfl, rfl⟩

/-- After the first tests, and the reset where it is due, the part is not the one that is wanted. -/
theorem takeBad_not {s : InS} {a part parts : Int} {n : Nat} (h : ¬ takeBad s a part parts n) : ¬ parts < 1 ∧ ¬ part < 0 ∧ ¬ parts ≤ part ∧ ¬ (1024 : Int) < (n : Int) ∧ ¬ a < s.at_ := by
  unfold takeBad at h
  omega


/-- How a part that is taken is told: there are more, or it was the last. -/
def TakeEnd (base g : Nat) (a parts : Int) (bs : List UInt8) (s : InS) (fresh : Value → Prop) (e : Ending) (w' : World) : Prop :=
  ((s.next : Int) + 1 < parts ∧ e = .returned (.tuple #[.slice none 0 0, .bool false]) ∧ ∃ sl', InAt w' base g sl' ⟨s.at_, parts, s.next + 1, s.b ++ bs⟩ ∧ fresh sl') ∨
  (¬ (s.next : Int) + 1 < parts ∧ ∃ A' c', e = .returned (.tuple #[.slice A' (s.b ++ bs).length c', .bool true]) ∧ w'.ownsRow base 5 1 (.slice A' (s.b ++ bs).length c') (s.b ++ bs).length ((s.b ++ bs).map bv) ∧ fresh (.slice A' (s.b ++ bs).length c') ∧ InAt w' base g (.slice none 0 0) (InS.new a))

set_option maxRecDepth 100000 in
set_option maxHeartbeats 2000000 in
theorem Take_old (base g : Nat) (sl : Value) (s : InS) (a part parts : Int) (A : Option Addr) (n c : Nat) (bs : List UInt8) (w : World) (hI : InAt w base g sl s) (hbase : base ≤ w.heap.size) (hsz : s.b.length ≤ 1000000 ∧ s.next ≤ 1000000) (hRd : Rd w A n bs) (hn : n ≤ c) (hA1 : 0 < n → ∀ ad, A = some ad → ad.block ≠ g)
    (hgood : ¬ takeBad s a part parts n) (hnew : ¬ takeNew s a parts) (hw : part = (s.next : Int)) :
    Calls Try.prog 28 #[.pointer (some ⟨g, 0, none⟩), .int .u64 a, .int .i64 part, .int .i64 parts, .slice A n c] w fun e w' =>
      TakeEnd base g a parts bs s (fun v => v.ownBlock = sl.ownBlock ∨ ∀ k ∈ v.ownBlock, w.heap.size ≤ k) e w' ∧ Keeps (g :: sl.ownBlock.toList) w w' := by
  obtain ⟨i0, hi0, hz0, hz1, hz2⟩ := info_parts info_u8
  have hblk := hI.blk
  have c0 := hblk.cell 0
  have c1 := hblk.cell 1
  have c2 := hblk.cell 2
  have c3 := hblk.cell 3
  have fz := hblk.frozen
  have hg := hblk.lt
  simp only [List.getElem?_toArray, List.getElem?_cons_zero, List.getElem?_cons_succ] at c0 c1 c2 c3
  obtain ⟨A0, cc0, hsl, _, _⟩ := own_form hI.own
  rw [hsl] at c3
  obtain ⟨g1, g2, g3, g4, g5⟩ := takeBad_not hgood
  have hat : a = s.at_ := by unfold takeNew at hnew; omega
  subst hw
  subst hat
  have HS := Lib.hid hsl
  by_cases hnx : 0 < s.next
  · have hps : parts = s.parts := by unfold takeNew at hnew; omega
    have t1 : ((parts : Int) != s.parts) = false := by simp [hps]
    have t2 : (0 : Int) < (s.next : Int) := by omega
    clear hgood hnew hsl hps hnx
    go_enter Try.func28, Try.ntmps28
    go_wp2_with (at_builtin; refine wpList_append_src rfl (.tmp 86) (.tmp 87) _ rfl base 5 i0 _ 1 1 Try.underlying23 hi0 hz0 hz1 hz2 rfl (by omega) sl s.b.length (s.b.map bv) ?xd0 ?xd1 A n c (bs.map bv) rfl ?xd2 ?xd3 ?xd4 ?xd5 ?xd6)
    case xd0 => rw [HS.out]; try rfl
    try (case xd5 => simpa using hbase)
    case xd1 => exact own_keeps hI.own (((Keeps.refl [g] w).setCell (p := ⟨g, 1, none⟩) (.inl (by simp)) _).setCell (p := ⟨g, 2, none⟩) (.inl (by simp)) _) fun k hk hm => own_blk_ne hI.own hblk (by decide) k hk (by simpa using hm)
    case xd2 => exact (hRd.keeps (((Keeps.refl [g] w).setCell (p := ⟨g, 1, none⟩) (.inl (by simp)) _).setCell (p := ⟨g, 2, none⟩) (.inl (by simp)) _) fun h0 ad e hm => hA1 h0 ad e (by simpa using hm)).src
    case xd3 => unfold maxLen; omega
    case xd4 => omega
    case xd6 =>
      intro so w' ho' hgr hor
      have hkg := Keeps.of_grown hgr
      obtain ⟨A5, c5, hso, _, _⟩ := own_form ho'
      rw [hso] at ho' hor ⊢
      have hY := (hblk.set_ 1 (.int .i64 parts)).set_ 2 (.int .i64 ((s.next : Int) + 1))
      have hgno : some g ≠ sl.ownBlock := fun e => own_blk_ne hI.own hblk (by decide) g (by rw [← e]; rfl) rfl
      have hY2 := hY.grown hgr hgno
      have e0 := hY2.cell 0
      have e1 := hY2.cell 1
      have e2 := hY2.cell 2
      have e3 := hY2.cell 3
      have fz2 := hY2.frozen
      have hg2 := hY2.lt
      simp only [List.setIfInBounds_toArray, List.set_cons_succ, List.set_cons_zero, List.getElem?_toArray, List.getElem?_cons_zero, List.getElem?_cons_succ, HS.out] at e0 e1 e2 e3
      have hlen : (s.b ++ bs).length = s.b.length + n := by rw [List.length_append, hRd.1]
      have hk2 : Keeps (g :: sl.ownBlock.toList) w (w'.setCell ⟨g, 3, none⟩ (.slice A5 (s.b.length + n) c5)) :=
        ((((Keeps.refl (g :: sl.ownBlock.toList) w).setCell (p := ⟨g, 1, none⟩) (.inl (by simp)) (.int .i64 parts)).setCell (p := ⟨g, 2, none⟩) (.inl (by simp)) (.int .i64 ((s.next : Int) + 1))).trans hkg fun i hi => .inl (List.mem_cons_of_mem _ hi)).setCell (p := ⟨g, 3, none⟩) (.inl (by simp)) _
      have hnew : InAt (w'.setCell ⟨g, 3, none⟩ (.slice A5 (s.b.length + n) c5)) base g (.slice A5 (s.b.length + n) c5) ⟨s.at_, parts, s.next + 1, s.b ++ bs⟩ := by
        refine ⟨hI.ge, by simpa using hY2.set_ 3 (.slice A5 (s.b.length + n) c5), ?_⟩
        rw [hlen, List.map_append]
        exact own_keeps ho' ((Keeps.refl [g] w').setCell (p := ⟨g, 3, none⟩) (.inl (by simp)) _) fun k hk hm => own_blk_ne ho' hY2 (by decide) k hk (by simpa using hm)
      have hfr : (Value.slice A5 (s.b.length + n) c5).ownBlock = sl.ownBlock ∨ ∀ k ∈ (Value.slice A5 (s.b.length + n) c5).ownBlock, w.heap.size ≤ k := by
        rcases hor with h1 | h1
        · exact .inl h1
        · refine .inr fun k hk => ?_
          rw [h1] at hk
          have : w.heap.size = k := by simpa using hk
          omega
      clear hgr hor hY hY2 hgno hkg ho' hso
      by_cases hm : (s.next : Int) + 1 < parts
      · go_wp2_with fail
        refine bodyPost_ret (v := .tuple #[.slice none 0 0, .bool false]) (by simp [results, Try.results28, go_sem]) rfl ?_
        skip
        exact ⟨.inl ⟨hm, rfl, _, hnew, hfr⟩, hk2⟩
      · go_wp2_with fail
        refine (inAgain_any base g _ _ s.at_ _ hnew).mono ?_
        rintro e w3 ⟨rfl, h3, hk3⟩
        go_wp2_with fail
        refine bodyPost_ret (v := .tuple #[.slice A5 (s.b.length + n) c5, .bool true]) (by simp [results, Try.results28, go_sem]) rfl ?_
        have ho3 := own_keeps hnew.own hk3 fun k hk hm => own_blk_ne hnew.own hnew.blk (by decide) k hk (by simpa using hm)
        have hk3' := hk2.trans (T := [g]) hk3 fun i hi => .inl (by rw [show i = g by simpa using hi]; exact List.mem_cons_self)
        simp only [hlen] at ho3
        skip
        refine ⟨.inr ⟨by omega, A5, c5, by rw [hlen], by rw [hlen]; exact ho3, by rw [hlen]; exact id hfr, h3⟩, id hk3'⟩
  · have t2 : s.next = 0 := by omega
    obtain ⟨sa, sp, sn, sb⟩ := s
    simp only at t2 c0 c1 c2 c3 hsz g5 HS hI hblk
    subst t2
    simp only [Int.natCast_zero] at c2 g2 g3
    clear hgood hnew hsl hnx
    go_enter Try.func28, Try.ntmps28
    simp only [Int.natCast_zero]
    go_wp2_with (at_builtin; refine wpList_append_src rfl (.tmp 86) (.tmp 87) _ rfl base 5 i0 _ 1 1 Try.underlying23 hi0 hz0 hz1 hz2 rfl (by omega) sl (⟨sa, sp, 0, sb⟩ : InS).b.length ((⟨sa, sp, 0, sb⟩ : InS).b.map bv) ?yd0 ?yd1 A n c (bs.map bv) rfl ?yd2 ?yd3 ?yd4 ?yd5 ?yd6)
    case yd0 => rw [HS.out]; try rfl
    try (case yd5 => simpa using hbase)
    case yd1 => exact own_keeps hI.own (((Keeps.refl [g] w).setCell (p := ⟨g, 1, none⟩) (.inl (by simp)) _).setCell (p := ⟨g, 2, none⟩) (.inl (by simp)) _) fun k hk hm => own_blk_ne hI.own hblk (by decide) k hk (by simpa using hm)
    case yd2 => exact (hRd.keeps (((Keeps.refl [g] w).setCell (p := ⟨g, 1, none⟩) (.inl (by simp)) _).setCell (p := ⟨g, 2, none⟩) (.inl (by simp)) _) fun h0 ad e hm => hA1 h0 ad e (by simpa using hm)).src
    case yd3 => unfold maxLen; omega
    case yd4 => omega
    case yd6 =>
      intro so w' ho' hgr hor
      have hkg := Keeps.of_grown hgr
      obtain ⟨A5, c5, hso, _, _⟩ := own_form ho'
      rw [hso] at ho' hor ⊢
      have hY := (hblk.set_ 1 (.int .i64 parts)).set_ 2 (.int .i64 (((⟨sa, sp, 0, sb⟩ : InS).next : Int) + 1))
      have hgno : some g ≠ sl.ownBlock := fun e => own_blk_ne hI.own hblk (by decide) g (by rw [← e]; rfl) rfl
      have hY2 := hY.grown hgr hgno
      have e0 := hY2.cell 0
      have e1 := hY2.cell 1
      have e2 := hY2.cell 2
      have e3 := hY2.cell 3
      have fz2 := hY2.frozen
      have hg2 := hY2.lt
      simp only [List.setIfInBounds_toArray, List.set_cons_succ, List.set_cons_zero, List.getElem?_toArray, List.getElem?_cons_zero, List.getElem?_cons_succ, HS.out] at e0 e1 e2 e3
      have hlen : ((⟨sa, sp, 0, sb⟩ : InS).b ++ bs).length = (⟨sa, sp, 0, sb⟩ : InS).b.length + n := by rw [List.length_append, hRd.1]
      have hk2 : Keeps (g :: sl.ownBlock.toList) w (w'.setCell ⟨g, 3, none⟩ (.slice A5 ((⟨sa, sp, 0, sb⟩ : InS).b.length + n) c5)) :=
        ((((Keeps.refl (g :: sl.ownBlock.toList) w).setCell (p := ⟨g, 1, none⟩) (.inl (by simp)) (.int .i64 parts)).setCell (p := ⟨g, 2, none⟩) (.inl (by simp)) (.int .i64 (((⟨sa, sp, 0, sb⟩ : InS).next : Int) + 1))).trans hkg fun i hi => .inl (List.mem_cons_of_mem _ hi)).setCell (p := ⟨g, 3, none⟩) (.inl (by simp)) _
      have hnew : InAt (w'.setCell ⟨g, 3, none⟩ (.slice A5 ((⟨sa, sp, 0, sb⟩ : InS).b.length + n) c5)) base g (.slice A5 ((⟨sa, sp, 0, sb⟩ : InS).b.length + n) c5) ⟨(⟨sa, sp, 0, sb⟩ : InS).at_, parts, (⟨sa, sp, 0, sb⟩ : InS).next + 1, (⟨sa, sp, 0, sb⟩ : InS).b ++ bs⟩ := by
        refine ⟨hI.ge, by simpa using hY2.set_ 3 (.slice A5 ((⟨sa, sp, 0, sb⟩ : InS).b.length + n) c5), ?_⟩
        rw [hlen, List.map_append]
        exact own_keeps ho' ((Keeps.refl [g] w').setCell (p := ⟨g, 3, none⟩) (.inl (by simp)) _) fun k hk hm => own_blk_ne ho' hY2 (by decide) k hk (by simpa using hm)
      have hfr : (Value.slice A5 ((⟨sa, sp, 0, sb⟩ : InS).b.length + n) c5).ownBlock = sl.ownBlock ∨ ∀ k ∈ (Value.slice A5 ((⟨sa, sp, 0, sb⟩ : InS).b.length + n) c5).ownBlock, w.heap.size ≤ k := by
        rcases hor with h1 | h1
        · exact .inl h1
        · refine .inr fun k hk => ?_
          rw [h1] at hk
          have : w.heap.size = k := by simpa using hk
          omega
      clear hgr hor hY hY2 hgno hkg ho' hso
      by_cases hm : ((⟨sa, sp, 0, sb⟩ : InS).next : Int) + 1 < parts
      · go_wp2_with fail
        refine bodyPost_ret (v := .tuple #[.slice none 0 0, .bool false]) (by simp [results, Try.results28, go_sem]) rfl ?_
        skip
        exact ⟨.inl ⟨hm, rfl, _, hnew, hfr⟩, hk2⟩
      · go_wp2_with fail
        refine (inAgain_any base g _ _ sa _ hnew).mono ?_
        rintro e w3 ⟨rfl, h3, hk3⟩
        go_wp2_with fail
        refine bodyPost_ret (v := .tuple #[.slice A5 ((⟨sa, sp, 0, sb⟩ : InS).b.length + n) c5, .bool true]) (by simp [results, Try.results28, go_sem]) rfl ?_
        have ho3 := own_keeps hnew.own hk3 fun k hk hm => own_blk_ne hnew.own hnew.blk (by decide) k hk (by simpa using hm)
        have hk3' := hk2.trans (T := [g]) hk3 fun i hi => .inl (by rw [show i = g by simpa using hi]; exact List.mem_cons_self)
        simp only [hlen] at ho3
        skip
        refine ⟨.inr ⟨by omega, A5, c5, by rw [hlen], by rw [hlen]; exact ho3, by rw [hlen]; exact id hfr, h3⟩, id hk3'⟩

set_option maxRecDepth 100000 in
set_option maxHeartbeats 1000000 in
theorem Take_skip_old (base g : Nat) (sl : Value) (s : InS) (a part parts : Int) (A : Option Addr) (n c : Nat) (w : World) (hI : InAt w base g sl s)
    (hgood : ¬ takeBad s a part parts n) (hnew : ¬ takeNew s a parts) (hw : part ≠ (s.next : Int)) :
    Calls Try.prog 28 #[.pointer (some ⟨g, 0, none⟩), .int .u64 a, .int .i64 part, .int .i64 parts, .slice A n c] w fun e w' => e = .returned (.tuple #[.slice none 0 0, .bool false]) ∧ w = w' := by
  have hblk := hI.blk
  have c0 := hblk.cell 0
  have c1 := hblk.cell 1
  have c2 := hblk.cell 2
  have hg := hblk.lt
  simp only [List.getElem?_toArray, List.getElem?_cons_zero, List.getElem?_cons_succ] at c0 c1 c2
  obtain ⟨g1, g2, g3, g4, g5⟩ := takeBad_not hgood
  have hat : a = s.at_ := by unfold takeNew at hnew; omega
  subst hat
  have tw : (part != (s.next : Int)) = true := by simpa using hw
  by_cases hnx : 0 < s.next
  · have hps : parts = s.parts := by unfold takeNew at hnew; omega
    have t1 : ((parts : Int) != s.parts) = false := by simp [hps]
    have t2 : (0 : Int) < (s.next : Int) := by omega
    clear hgood hnew hps hnx hw
    go_enter Try.func28, Try.ntmps28
    go_wp2_with fail
    exact bodyPost_ret (v := .tuple #[.slice none 0 0, .bool false]) (by simp [results, Try.results28, go_sem]) rfl ⟨rfl, rfl⟩
  · have t2 : s.next = 0 := by omega
    clear hgood hnew hnx hw
    go_enter Try.func28, Try.ntmps28
    obtain ⟨sa, sp, sn, sb⟩ := s
    simp only at t2 c0 c1 c2 g5 tw
    subst t2
    simp only [Int.natCast_zero] at c2 tw
    go_wp2_with fail
    exact bodyPost_ret (v := .tuple #[.slice none 0 0, .bool false]) (by simp [results, Try.results28, go_sem]) rfl ⟨rfl, rfl⟩

set_option maxRecDepth 100000 in
set_option maxHeartbeats 1000000 in
theorem Take_skip_fresh (base g : Nat) (sl : Value) (s : InS) (a part parts : Int) (A : Option Addr) (n c : Nat) (w : World) (hI : InAt w base g sl s)
    (hgood : ¬ takeBad s a part parts n) (hnew : takeNew s a parts) (hw : part ≠ 0) :
    Calls Try.prog 28 #[.pointer (some ⟨g, 0, none⟩), .int .u64 a, .int .i64 part, .int .i64 parts, .slice A n c] w fun e w' => e = .returned (.tuple #[.slice none 0 0, .bool false]) ∧ InAt w' base g (.slice none 0 0) (InS.new a) ∧ Keeps [g] w w' := by
  have hblk := hI.blk
  have c0 := hblk.cell 0
  have c1 := hblk.cell 1
  have c2 := hblk.cell 2
  have fz := hblk.frozen
  have hg := hblk.lt
  simp only [List.getElem?_toArray, List.getElem?_cons_zero, List.getElem?_cons_succ] at c0 c1 c2
  obtain ⟨g1, g2, g3, g4, g5⟩ := takeBad_not hgood
  have tw : (part != (0 : Int)) = true := by simpa using hw
  by_cases hat : s.at_ < a
  · clear hgood hnew hw
    go_enter Try.func28, Try.ntmps28
    go_wp2_with fail
    refine (inAgain_any base g sl s a w hI).mono ?_
    rintro e w1 ⟨rfl, hI1, hk1⟩
    have hs1 := hk1.size
    have hblk1 := hI1.blk
    have d0 := hblk1.cell 0
    have d1 := hblk1.cell 1
    have d2 := hblk1.cell 2
    have d3 := hblk1.cell 3
    have fz1 := hblk1.frozen
    have hg1 := hblk1.lt
    simp only [InS.new, List.getElem?_toArray, List.getElem?_cons_zero, List.getElem?_cons_succ, Int.natCast_zero] at d0 d1 d2 d3
    clear c0 c1 c2 fz hg
    go_wp2_with fail
    exact bodyPost_ret (v := .tuple #[.slice none 0 0, .bool false]) (by simp [results, Try.results28, go_sem]) rfl ⟨rfl, hI1, hk1⟩
  · have hnx : 0 < s.next ∧ parts ≠ s.parts := by unfold takeNew at hnew; omega
    have t1 : ((parts : Int) != s.parts) = true := by simpa using hnx.2
    have t2 : (0 : Int) < (s.next : Int) := by omega
    clear hgood hnew hnx hw
    go_enter Try.func28, Try.ntmps28
    go_wp2_with fail
    refine (inAgain_any base g sl s a w hI).mono ?_
    rintro e w1 ⟨rfl, hI1, hk1⟩
    have hs1 := hk1.size
    have hblk1 := hI1.blk
    have d0 := hblk1.cell 0
    have d1 := hblk1.cell 1
    have d2 := hblk1.cell 2
    have d3 := hblk1.cell 3
    have fz1 := hblk1.frozen
    have hg1 := hblk1.lt
    simp only [InS.new, List.getElem?_toArray, List.getElem?_cons_zero, List.getElem?_cons_succ, Int.natCast_zero] at d0 d1 d2 d3
    clear c0 c1 c2 fz hg
    clear t1 t2
    go_wp2_with fail
    exact bodyPost_ret (v := .tuple #[.slice none 0 0, .bool false]) (by simp [results, Try.results28, go_sem]) rfl ⟨rfl, hI1, hk1⟩

set_option maxRecDepth 100000 in
set_option maxHeartbeats 2000000 in
theorem Take_fresh (base g : Nat) (sl : Value) (s : InS) (a parts : Int) (A : Option Addr) (n c : Nat) (bs : List UInt8) (w : World) (hI0 : InAt w base g sl s) (hbase0 : base ≤ w.heap.size) (hRd0 : Rd w A n bs) (hn : n ≤ c) (hA1 : 0 < n → ∀ ad, A = some ad → ad.block ≠ g)
    (hgood : ¬ takeBad s a 0 parts n) (hnew : takeNew s a parts) :
    Calls Try.prog 28 #[.pointer (some ⟨g, 0, none⟩), .int .u64 a, .int .i64 0, .int .i64 parts, .slice A n c] w fun e w' =>
      TakeEnd base g a parts bs (InS.new a) (fun v => v.ownBlock = none ∨ ∀ k ∈ v.ownBlock, w.heap.size ≤ k) e w' ∧ Keeps [g] w w' := by
  obtain ⟨i0, hi0, hz0, hz1, hz2⟩ := info_parts info_u8
  have hblk0 := hI0.blk
  have c0 := hblk0.cell 0
  have c1 := hblk0.cell 1
  have c2 := hblk0.cell 2
  have fz := hblk0.frozen
  have hg := hblk0.lt
  simp only [List.getElem?_toArray, List.getElem?_cons_zero, List.getElem?_cons_succ] at c0 c1 c2
  obtain ⟨g1, g2, g3, g4, g5⟩ := takeBad_not hgood
  have hI := hI0
  by_cases hat : s.at_ < a
  · clear hgood hnew
    go_enter Try.func28, Try.ntmps28
    go_wp2_with fail
    refine (inAgain_any base g sl s a w hI).mono ?_
    rintro e w1 ⟨rfl, hI1, hk1⟩
    have hs1 := hk1.size
    obtain ⟨S1, hS1⟩ : ∃ z, z = InS.new a := ⟨_, rfl⟩
    obtain ⟨sl1, hsl1⟩ : ∃ z : Value, z = Value.slice none S1.b.length 0 := ⟨_, rfl⟩
    rw [show (Value.slice none 0 0) = sl1 by rw [hsl1, hS1]; rfl, ← hS1] at hI1
    have hblk := hI1.blk
    have d0 := hblk.cell 0
    have d1 := hblk.cell 1
    have d2 := hblk.cell 2
    have d3 := hblk.cell 3
    have fz1 := hblk.frozen
    have hg1 := hblk.lt
    have hsz : S1.b.length ≤ 1000000 ∧ S1.next ≤ 1000000 := by rw [hS1]; simp [InS.new]
    have hSa : S1.at_ = a := by rw [hS1]; rfl
    have hSn : ((0 : Int) != (S1.next : Int)) = false := by rw [hS1]; rfl
    have hRd := hRd0.keeps hk1 (fun h0 ad e hm => hA1 h0 ad e (by simpa using hm))
    have hbase : base ≤ w1.heap.size := by omega
    simp only [List.getElem?_toArray, List.getElem?_cons_zero, List.getElem?_cons_succ, hsl1] at d0 d1 d2 d3
    have hfr1 : ∀ v : Value, (v.ownBlock = sl1.ownBlock ∨ ∀ k ∈ v.ownBlock, w1.heap.size ≤ k) → v.ownBlock = none ∨ ∀ k ∈ v.ownBlock, w.heap.size ≤ k := fun v hv => by
      rcases hv with hv | hv
      · left; rw [hv, hsl1]; rfl
      · exact .inr fun k hk => Nat.le_trans hs1 (hv k hk)
    have hkS : ∀ {W : World}, Keeps (g :: sl1.ownBlock.toList) w1 W → Keeps [g] w W := fun {W} hk => hk1.trans (T := [g]) (hk.mono fun i hi => .inl (by rw [hsl1] at hi; simpa [Value.ownBlock] using hi)) fun i hi => .inl hi
    have HS := Lib.hid hsl1
    have HS1 := Lib.hid hS1
    clear hI
    have hI := hI1
    clear c0 c1 c2 fz hg hsl1 hS1
    go_wp2_with (at_builtin; refine wpList_append_src rfl (.tmp 86) (.tmp 87) _ rfl base 5 i0 _ 1 1 Try.underlying23 hi0 hz0 hz1 hz2 rfl (by omega) sl1 S1.b.length (S1.b.map bv) ?xd0 ?xd1 A n c (bs.map bv) rfl ?xd2 ?xd3 ?xd4 ?xd5 ?xd6)
    case xd0 => rw [HS.out]; try rfl
    try (case xd5 => simpa using hbase)
    case xd1 => exact own_keeps hI.own (((Keeps.refl [g] w1).setCell (p := ⟨g, 1, none⟩) (.inl (by simp)) _).setCell (p := ⟨g, 2, none⟩) (.inl (by simp)) _) fun k hk hm => own_blk_ne hI.own hblk (by decide) k hk (by simpa using hm)
    case xd2 => exact (hRd.keeps (((Keeps.refl [g] w1).setCell (p := ⟨g, 1, none⟩) (.inl (by simp)) _).setCell (p := ⟨g, 2, none⟩) (.inl (by simp)) _) fun h0 ad e hm => hA1 h0 ad e (by simpa using hm)).src
    case xd3 => unfold maxLen; omega
    case xd4 => omega
    case xd6 =>
      intro so w' ho' hgr hor
      have hkg := Keeps.of_grown hgr
      obtain ⟨A5, c5, hso, _, _⟩ := own_form ho'
      rw [hso] at ho' hor ⊢
      have hY := (hblk.set_ 1 (.int .i64 parts)).set_ 2 (.int .i64 ((S1.next : Int) + 1))
      have hgno : some g ≠ sl1.ownBlock := fun e => own_blk_ne hI.own hblk (by decide) g (by rw [← e]; rfl) rfl
      have hY2 := hY.grown hgr hgno
      have e0 := hY2.cell 0
      have e1 := hY2.cell 1
      have e2 := hY2.cell 2
      have e3 := hY2.cell 3
      have fz2 := hY2.frozen
      have hg2 := hY2.lt
      simp only [List.setIfInBounds_toArray, List.set_cons_succ, List.set_cons_zero, List.getElem?_toArray, List.getElem?_cons_zero, List.getElem?_cons_succ, HS.out] at e0 e1 e2 e3
      have hlen : (S1.b ++ bs).length = S1.b.length + n := by rw [List.length_append, hRd.1]
      have hk2 : Keeps (g :: sl1.ownBlock.toList) w1 (w'.setCell ⟨g, 3, none⟩ (.slice A5 (S1.b.length + n) c5)) :=
        ((((Keeps.refl (g :: sl1.ownBlock.toList) w1).setCell (p := ⟨g, 1, none⟩) (.inl (by simp)) (.int .i64 parts)).setCell (p := ⟨g, 2, none⟩) (.inl (by simp)) (.int .i64 ((S1.next : Int) + 1))).trans hkg fun i hi => .inl (List.mem_cons_of_mem _ hi)).setCell (p := ⟨g, 3, none⟩) (.inl (by simp)) _
      have hnew : InAt (w'.setCell ⟨g, 3, none⟩ (.slice A5 (S1.b.length + n) c5)) base g (.slice A5 (S1.b.length + n) c5) ⟨S1.at_, parts, S1.next + 1, S1.b ++ bs⟩ := by
        refine ⟨hI.ge, by simpa using hY2.set_ 3 (.slice A5 (S1.b.length + n) c5), ?_⟩
        rw [hlen, List.map_append]
        exact own_keeps ho' ((Keeps.refl [g] w').setCell (p := ⟨g, 3, none⟩) (.inl (by simp)) _) fun k hk hm => own_blk_ne ho' hY2 (by decide) k hk (by simpa using hm)
      have hfr : (Value.slice A5 (S1.b.length + n) c5).ownBlock = sl1.ownBlock ∨ ∀ k ∈ (Value.slice A5 (S1.b.length + n) c5).ownBlock, w1.heap.size ≤ k := by
        rcases hor with h1 | h1
        · exact .inl h1
        · refine .inr fun k hk => ?_
          rw [h1] at hk
          have : w1.heap.size = k := by simpa using hk
          omega
      clear hgr hor hY hY2 hgno hkg ho' hso
      by_cases hm : (S1.next : Int) + 1 < parts
      · go_wp2_with fail
        refine bodyPost_ret (v := .tuple #[.slice none 0 0, .bool false]) (by simp [results, Try.results28, go_sem]) rfl ?_
        rw [← HS1.out]
        exact ⟨.inl ⟨hm, rfl, _, hnew, hfr1 _ hfr⟩, hkS hk2⟩
      · go_wp2_with fail
        refine (inAgain_any base g _ _ a _ hnew).mono ?_
        rintro e w3 ⟨rfl, h3, hk3⟩
        go_wp2_with fail
        refine bodyPost_ret (v := .tuple #[.slice A5 (S1.b.length + n) c5, .bool true]) (by simp [results, Try.results28, go_sem]) rfl ?_
        have ho3 := own_keeps hnew.own hk3 fun k hk hm => own_blk_ne hnew.own hnew.blk (by decide) k hk (by simpa using hm)
        have hk3' := hk2.trans (T := [g]) hk3 fun i hi => .inl (by rw [show i = g by simpa using hi]; exact List.mem_cons_self)
        simp only [hlen] at ho3
        rw [← HS1.out]
        refine ⟨.inr ⟨by omega, A5, c5, by rw [hlen], by rw [hlen]; exact ho3, by rw [hlen]; exact hfr1 _ hfr, h3⟩, hkS hk3'⟩
  · have hnx : 0 < s.next ∧ parts ≠ s.parts := by unfold takeNew at hnew; omega
    have t1 : ((parts : Int) != s.parts) = true := by simpa using hnx.2
    have t2 : (0 : Int) < (s.next : Int) := by omega
    clear hgood hnew hnx
    go_enter Try.func28, Try.ntmps28
    go_wp2_with fail
    refine (inAgain_any base g sl s a w hI).mono ?_
    rintro e w1 ⟨rfl, hI1, hk1⟩
    have hs1 := hk1.size
    obtain ⟨S1, hS1⟩ : ∃ z, z = InS.new a := ⟨_, rfl⟩
    obtain ⟨sl1, hsl1⟩ : ∃ z : Value, z = Value.slice none S1.b.length 0 := ⟨_, rfl⟩
    rw [show (Value.slice none 0 0) = sl1 by rw [hsl1, hS1]; rfl, ← hS1] at hI1
    have hblk := hI1.blk
    have d0 := hblk.cell 0
    have d1 := hblk.cell 1
    have d2 := hblk.cell 2
    have d3 := hblk.cell 3
    have fz1 := hblk.frozen
    have hg1 := hblk.lt
    have hsz : S1.b.length ≤ 1000000 ∧ S1.next ≤ 1000000 := by rw [hS1]; simp [InS.new]
    have hSa : S1.at_ = a := by rw [hS1]; rfl
    have hSn : ((0 : Int) != (S1.next : Int)) = false := by rw [hS1]; rfl
    have hRd := hRd0.keeps hk1 (fun h0 ad e hm => hA1 h0 ad e (by simpa using hm))
    have hbase : base ≤ w1.heap.size := by omega
    simp only [List.getElem?_toArray, List.getElem?_cons_zero, List.getElem?_cons_succ, hsl1] at d0 d1 d2 d3
    have hfr1 : ∀ v : Value, (v.ownBlock = sl1.ownBlock ∨ ∀ k ∈ v.ownBlock, w1.heap.size ≤ k) → v.ownBlock = none ∨ ∀ k ∈ v.ownBlock, w.heap.size ≤ k := fun v hv => by
      rcases hv with hv | hv
      · left; rw [hv, hsl1]; rfl
      · exact .inr fun k hk => Nat.le_trans hs1 (hv k hk)
    have hkS : ∀ {W : World}, Keeps (g :: sl1.ownBlock.toList) w1 W → Keeps [g] w W := fun {W} hk => hk1.trans (T := [g]) (hk.mono fun i hi => .inl (by rw [hsl1] at hi; simpa [Value.ownBlock] using hi)) fun i hi => .inl hi
    have HS := Lib.hid hsl1
    have HS1 := Lib.hid hS1
    clear hI
    have hI := hI1
    clear c0 c1 c2 fz hg hsl1 hS1
    clear t1 t2
    go_wp2_with (at_builtin; refine wpList_append_src rfl (.tmp 86) (.tmp 87) _ rfl base 5 i0 _ 1 1 Try.underlying23 hi0 hz0 hz1 hz2 rfl (by omega) sl1 S1.b.length (S1.b.map bv) ?yd0 ?yd1 A n c (bs.map bv) rfl ?yd2 ?yd3 ?yd4 ?yd5 ?yd6)
    case yd0 => rw [HS.out]; try rfl
    try (case yd5 => simpa using hbase)
    case yd1 => exact own_keeps hI.own (((Keeps.refl [g] w1).setCell (p := ⟨g, 1, none⟩) (.inl (by simp)) _).setCell (p := ⟨g, 2, none⟩) (.inl (by simp)) _) fun k hk hm => own_blk_ne hI.own hblk (by decide) k hk (by simpa using hm)
    case yd2 => exact (hRd.keeps (((Keeps.refl [g] w1).setCell (p := ⟨g, 1, none⟩) (.inl (by simp)) _).setCell (p := ⟨g, 2, none⟩) (.inl (by simp)) _) fun h0 ad e hm => hA1 h0 ad e (by simpa using hm)).src
    case yd3 => unfold maxLen; omega
    case yd4 => omega
    case yd6 =>
      intro so w' ho' hgr hor
      have hkg := Keeps.of_grown hgr
      obtain ⟨A5, c5, hso, _, _⟩ := own_form ho'
      rw [hso] at ho' hor ⊢
      have hY := (hblk.set_ 1 (.int .i64 parts)).set_ 2 (.int .i64 ((S1.next : Int) + 1))
      have hgno : some g ≠ sl1.ownBlock := fun e => own_blk_ne hI.own hblk (by decide) g (by rw [← e]; rfl) rfl
      have hY2 := hY.grown hgr hgno
      have e0 := hY2.cell 0
      have e1 := hY2.cell 1
      have e2 := hY2.cell 2
      have e3 := hY2.cell 3
      have fz2 := hY2.frozen
      have hg2 := hY2.lt
      simp only [List.setIfInBounds_toArray, List.set_cons_succ, List.set_cons_zero, List.getElem?_toArray, List.getElem?_cons_zero, List.getElem?_cons_succ, HS.out] at e0 e1 e2 e3
      have hlen : (S1.b ++ bs).length = S1.b.length + n := by rw [List.length_append, hRd.1]
      have hk2 : Keeps (g :: sl1.ownBlock.toList) w1 (w'.setCell ⟨g, 3, none⟩ (.slice A5 (S1.b.length + n) c5)) :=
        ((((Keeps.refl (g :: sl1.ownBlock.toList) w1).setCell (p := ⟨g, 1, none⟩) (.inl (by simp)) (.int .i64 parts)).setCell (p := ⟨g, 2, none⟩) (.inl (by simp)) (.int .i64 ((S1.next : Int) + 1))).trans hkg fun i hi => .inl (List.mem_cons_of_mem _ hi)).setCell (p := ⟨g, 3, none⟩) (.inl (by simp)) _
      have hnew : InAt (w'.setCell ⟨g, 3, none⟩ (.slice A5 (S1.b.length + n) c5)) base g (.slice A5 (S1.b.length + n) c5) ⟨S1.at_, parts, S1.next + 1, S1.b ++ bs⟩ := by
        refine ⟨hI.ge, by simpa using hY2.set_ 3 (.slice A5 (S1.b.length + n) c5), ?_⟩
        rw [hlen, List.map_append]
        exact own_keeps ho' ((Keeps.refl [g] w').setCell (p := ⟨g, 3, none⟩) (.inl (by simp)) _) fun k hk hm => own_blk_ne ho' hY2 (by decide) k hk (by simpa using hm)
      have hfr : (Value.slice A5 (S1.b.length + n) c5).ownBlock = sl1.ownBlock ∨ ∀ k ∈ (Value.slice A5 (S1.b.length + n) c5).ownBlock, w1.heap.size ≤ k := by
        rcases hor with h1 | h1
        · exact .inl h1
        · refine .inr fun k hk => ?_
          rw [h1] at hk
          have : w1.heap.size = k := by simpa using hk
          omega
      clear hgr hor hY hY2 hgno hkg ho' hso
      by_cases hm : (S1.next : Int) + 1 < parts
      · go_wp2_with fail
        refine bodyPost_ret (v := .tuple #[.slice none 0 0, .bool false]) (by simp [results, Try.results28, go_sem]) rfl ?_
        rw [← HS1.out]
        exact ⟨.inl ⟨hm, rfl, _, hnew, hfr1 _ hfr⟩, hkS hk2⟩
      · go_wp2_with fail
        refine (inAgain_any base g _ _ a _ hnew).mono ?_
        rintro e w3 ⟨rfl, h3, hk3⟩
        go_wp2_with fail
        refine bodyPost_ret (v := .tuple #[.slice A5 (S1.b.length + n) c5, .bool true]) (by simp [results, Try.results28, go_sem]) rfl ?_
        have ho3 := own_keeps hnew.own hk3 fun k hk hm => own_blk_ne hnew.own hnew.blk (by decide) k hk (by simpa using hm)
        have hk3' := hk2.trans (T := [g]) hk3 fun i hi => .inl (by rw [show i = g by simpa using hi]; exact List.mem_cons_self)
        simp only [hlen] at ho3
        rw [← HS1.out]
        refine ⟨.inr ⟨by omega, A5, c5, by rw [hlen], by rw [hlen]; exact ho3, by rw [hlen]; exact hfr1 _ hfr, h3⟩, hkS hk3'⟩
end Go.Proofs.Ytgdmejkneabclaa
