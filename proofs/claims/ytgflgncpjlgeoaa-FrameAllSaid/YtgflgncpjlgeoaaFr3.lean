/- Contracts of package frame: Cut, Get; the law's awake (layer 3). -/
import Derived.Test.YtgflgncpjlgeoaaFr2
import Derived.Deep.RegionWith
namespace Go.Proofs.Ytgflgncpjlgeoaa
open Go.RowKit
set_option linter.unusedSimpArgs false
set_option linter.unusedVariables false

def moreGood (e : Int) (n : Nat) : Nat := if e = 0 then n + 1 else n
theorem cutF_bad {b : List UInt8} (h : (cutF b).e ≠ 0) : cutF b = frBad (cutF b).e := by
  unfold cutF at h ⊢
  split
  · rfl
  · rename_i a1
    rw [if_neg a1] at h
    split
    · rfl
    · rename_i a2
      rw [if_neg a2] at h
      split
      · rfl
      · rename_i a3
        rw [if_neg a3] at h
        split
        · rfl
        · rename_i a4
          rw [if_neg a4] at h
          split
          · rfl
          · rename_i a5
            rw [if_neg a5] at h
            exact absurd rfl h

/-- A frame and an error, its body in new memory. -/
def GetTold (B : Nat) (R : FrR) (e : Ending) (w' : World) : Prop :=
  ∃ A c, e = .returned (.tuple #[.agg #[.int .u8 (R.kind.toNat : Int), .slice A R.body.length c], .int .i64 R.e]) ∧ w'.ownsRow B 5 1 (.slice A R.body.length c) R.body.length (R.body.map bv)
theorem getTold_bad (B : Nat) (er : Int) (w : World) : GetTold B (frBad er) (.returned (.tuple #[.agg #[.int .u8 0, .slice none 0 0], .int .i64 er])) w := ⟨none, 0, rfl, World.ownsRow_nil _ _ _ _⟩

set_option maxRecDepth 100000 in
set_option maxHeartbeats 4000000 in
theorem frameGet_any (gc gt G Bd : Nat) (st : Bool) (A : Option Addr) (n c : Nat) (xs : List UInt8) (w : World) (h : CD w gc gt st G Bd) (ha : Rd w A n xs) (hc : n ≤ c) (hn : n ≤ 1000000) (hga : 0 < n → ∀ ad, A = some ad → ad.block ≠ gt)
    (hG : G + 1 < 18446744073709551616) (hB : Bd + 1 < 18446744073709551616) :
    Calls Try.prog 19 #[.pointer (some ⟨gc, 0, none⟩), .slice A n c] w fun e w' => GetTold w.heap.size (getF xs) e w' ∧ CDs w' gc gt (moreGood (getF xs).e G) (moreBad (getF xs).e Bd) ∧ Keeps [gc, gt] w w' := by
  have HX := Lib.hid ha.1
  have hgc := h.blk.lt
  have hgt := h.tab.lt
  have hG1 := hG
  by_cases hbad : (cutF xs).e = 0
  · obtain ⟨R, hR⟩ : ∃ z, cutF xs = z := ⟨_, rfl⟩
    rw [hR] at hbad
    obtain ⟨K, BB, N, E⟩ := R
    simp only at hbad
    subst hbad
    have HC := Lib.hid hR
    by_cases hlt : N < n
    · have hg : getF xs = frBad 4 := by unfold getF; rw [hR, if_pos ⟨rfl, by rw [HX.out]; exact hlt⟩]
      have HG := Lib.hid hg
      rw [hg]
      have t : (N : Int) < (n : Int) := Int.ofNat_lt.2 hlt
      have H1 : Hid (moreGood (frBad 4).e G = G) := Lib.hid rfl
      have H2 : Hid (moreBad (frBad 4).e Bd = Bd + 1) := Lib.hid rfl
      rw [H1.out, H2.out]
      clear hR hg hlt
      have hX : Below w.heap.size w (w.alloc (.cells #[.int .u8 0, .slice none 0 0] 39)) := (Below.refl _ _).alloc (Nat.le_refl _) _
      have hx := Blk.new w 39 #[.int .u8 0, .slice none 0 0]
      have h1 := h.below hX
      have ha1 := ha.below_ hX
      have hsX := hX.size
      go_enter Try.func19, Try.ntmps19
      go_wp2_with fail
      generalize (w.alloc (.cells #[.int .u8 0, .slice none 0 0] 39)) = w1 at hX hx h1 ha1 hsX ⊢
      have hxl := hx.lt
      refine (first_any gc gt G Bd st A n c xs w1 h1 ha1 hc hn hga).mono ?_
      rintro e w2 ⟨⟨A6, c6, rfl, ho6⟩, ⟨st2, h2⟩, hk2⟩
      rw [HC.out] at ho6 ⊢
      have hx2 := hx.keeps hk2 (by simp; omega)
      have hs2 := hk2.size
      have hK2 : Keeps [gt] w w2 := (Keeps.of_below hX [gt]).trans hk2 fun i hi => .inl hi
      clear hk2 h1 ha1 hx hX
      have hY : Below w2.heap.size w2 (w2.alloc (.cells #[.int .u8 (K.toNat : Int), .slice A6 BB.length c6] 39)) := (Below.refl _ _).alloc (Nat.le_refl _) _
      have hy := Blk.new w2 39 #[.int .u8 (K.toNat : Int), .slice A6 BB.length c6]
      have h3 := h2.below hY
      have hx3 := hx2.below hY hx2.lt
      have ho7 := own_below ho6 hY (own_lt ho6)
      have hK3 : Keeps [gt] w (w2.alloc (.cells #[.int .u8 (K.toNat : Int), .slice A6 BB.length c6] 39)) := hK2.trans (Keeps.of_below hY []) (fun i hi => by cases hi)
      go_wp2_with fail
      generalize (w2.alloc (.cells #[.int .u8 (K.toNat : Int), .slice A6 BB.length c6] 39)) = w3 at hY hy h3 hx3 ho7 hK3 ⊢
      have hyl := hy.lt
      clear h2 hx2 ho6 hK2 hY
      refine (told_any gc gt G Bd 0 st2 (4) w3 h3 (by omega) hB).mono ?_
      rintro e w4 ⟨rfl, h4, hk4⟩
      have hx4 := hx3.keeps hk4 (by simp; omega)
      have hK4 : Keeps [gc, gt] w w4 := (hK3.mono fun i hi => .inl (by simp at hi; simp [hi])).trans hk4 fun i hi => .inl (by simp at hi; simp [hi])
      rw [show moreBad 4 Bd = Bd + 1 from rfl, Nat.add_zero] at h4
      have x0 := hx4.cell 0
      have x1 := hx4.cell 1
      have xz := hx4.frozen
      have xl := hx4.lt
      simp only [List.getElem?_toArray, List.getElem?_cons_zero, List.getElem?_cons_succ] at x0 x1
      go_wp2_with fail
      have hkW := ((Keeps.refl [w.heap.size] w4).setCell (p := ⟨w.heap.size, 0, none⟩) (.inl (by simp)) (.int .u8 0)).setCell (p := ⟨w.heap.size, 1, none⟩) (.inl (by simp)) (.slice none 0 0)
      have hxW := two_set hx4 (.int .u8 0) (.slice none 0 0)
      generalize (w4.setCell ⟨w.heap.size, 0, none⟩ (.int .u8 0)).setCell ⟨w.heap.size, 1, none⟩ (.slice none 0 0) = W at hkW hxW ⊢
      have y0 := hxW.cell 0
      have y1 := hxW.cell 1
      simp only [List.getElem?_toArray, List.getElem?_cons_zero, List.getElem?_cons_succ] at y0 y1
      refine bodyPost_ret (v := .tuple #[.agg #[.int .u8 0, .slice none 0 0], .int .i64 4]) (by simp [results, Try.results19, go_sem, y0, y1]) rfl ⟨getTold_bad _ _ _, ⟨_, h4.keeps hkW (by simp; omega) (by simp; omega)⟩, ?_⟩
      exact hK4.trans hkW fun i hi => .inr (by simp at hi; omega)
    · have hg : getF xs = ⟨K, BB, N, 0⟩ := by unfold getF; rw [hR, if_neg (fun h => hlt (by have := h.2; rw [HX.out] at this; exact this))]
      rw [hg]
      have t : ¬ (N : Int) < (n : Int) := fun h => hlt (Int.ofNat_lt.1 h)
      have H1 : Hid (moreGood (⟨K, BB, N, 0⟩ : FrR).e G = G + 1) := Lib.hid rfl
      have H2 : Hid (moreBad (⟨K, BB, N, 0⟩ : FrR).e Bd = Bd) := Lib.hid rfl
      rw [H1.out, H2.out]
      clear hR hg hlt
      have hX : Below w.heap.size w (w.alloc (.cells #[.int .u8 0, .slice none 0 0] 39)) := (Below.refl _ _).alloc (Nat.le_refl _) _
      have hx := Blk.new w 39 #[.int .u8 0, .slice none 0 0]
      have h1 := h.below hX
      have ha1 := ha.below_ hX
      have hsX := hX.size
      go_enter Try.func19, Try.ntmps19
      go_wp2_with fail
      generalize (w.alloc (.cells #[.int .u8 0, .slice none 0 0] 39)) = w1 at hX hx h1 ha1 hsX ⊢
      have hxl := hx.lt
      refine (first_any gc gt G Bd st A n c xs w1 h1 ha1 hc hn hga).mono ?_
      rintro e w2 ⟨⟨A6, c6, rfl, ho6⟩, ⟨st2, h2⟩, hk2⟩
      rw [HC.out] at ho6 ⊢
      have hx2 := hx.keeps hk2 (by simp; omega)
      have hs2 := hk2.size
      have hK2 : Keeps [gt] w w2 := (Keeps.of_below hX [gt]).trans hk2 fun i hi => .inl hi
      clear hk2 h1 ha1 hx hX
      have hY : Below w2.heap.size w2 (w2.alloc (.cells #[.int .u8 (K.toNat : Int), .slice A6 BB.length c6] 39)) := (Below.refl _ _).alloc (Nat.le_refl _) _
      have hy := Blk.new w2 39 #[.int .u8 (K.toNat : Int), .slice A6 BB.length c6]
      have h3 := h2.below hY
      have hx3 := hx2.below hY hx2.lt
      have ho7 := own_below ho6 hY (own_lt ho6)
      have hK3 : Keeps [gt] w (w2.alloc (.cells #[.int .u8 (K.toNat : Int), .slice A6 BB.length c6] 39)) := hK2.trans (Keeps.of_below hY []) (fun i hi => by cases hi)
      go_wp2_with fail
      generalize (w2.alloc (.cells #[.int .u8 (K.toNat : Int), .slice A6 BB.length c6] 39)) = w3 at hY hy h3 hx3 ho7 hK3 ⊢
      have hyl := hy.lt
      clear h2 hx2 ho6 hK2 hY
      refine wp_region_writes [gc] 3 2 (fun v W => v = .int .i64 0 ∧ CD W gc gt st2 (G + 1) Bd) [] (by kernel_rfl) (by kernel_rfl) rfl trivial (fun v W W' hk h => ⟨h.1, h.2.below hk.nil_below⟩) (by kernel_rfl) ?_
      simp only [List.take_succ_cons, List.take_zero, List.drop_succ_cons, List.drop_zero]
      refine dep_reckons (c := .agg #[.int .u8 (K.toNat : Int), .slice A6 BB.length c6]) rfl (by kernel_rfl) (fun W hG hF' => ?_) (by simp only [Act.put, List.setIfInBounds_toArray, List.set_cons_zero, List.set_cons_succ]; rfl) ?_
      · have hyW := hy.keeps (keeps_drew hG) (by simp; omega)
        have x0 := hyW.cell 0
        have x1 := hyW.cell 1
        have xz := hyW.frozen
        have xl := hyW.lt
        simp only [List.getElem?_toArray, List.getElem?_cons_zero, List.getElem?_cons_succ] at x0 x1
        go_simp <;> rfl
      iterate 1 refine dep_reckons rfl (by kernel_rfl) (fun W hG hF' => by go_simp <;> rfl) (by simp only [Act.put, List.setIfInBounds_toArray, List.set_cons_zero, List.set_cons_succ]; rfl) ?_
      refine dep_last rfl (by kernel_rfl) (fun W hG hF' => ?_) (fun v2 => ?_)
      · unfold opGives
        go_simp
        refine (told_any gc gt G Bd 1 st2 0 W (h3.below (keeps_drew hG).nil_below) hG1 hB).mono ?_
        rintro e w4 ⟨rfl, h4, hk4⟩
        exact ⟨_, rfl, ⟨rfl, h4⟩, hk4⟩
      simp only [Act.put, List.setIfInBounds_toArray, List.set_cons_zero, List.set_cons_succ]
      refine dep_nil fun w4 hG hF2 => ?_
      obtain ⟨rfl, h4⟩ := hF2 _ List.mem_cons_self
      have hk4 := keeps_drew hG
      have hx4 := hx3.keeps hk4 (by simp; omega)
      have ho4 := own_keeps ho7 hk4 (fun i hi hm => by have := own_ge ho7 i hi; exact absurd (show i = gc by simpa using hm) (by omega))
      have hK4 : Keeps [gc, gt] w w4 := (hK3.mono fun i hi => .inl (by simp at hi; simp [hi])).trans hk4 fun i hi => .inl (by simp at hi; simp [hi])
      clear hF2 hG hk4
      have x0 := hx4.cell 0
      have x1 := hx4.cell 1
      have xz := hx4.frozen
      have xl := hx4.lt
      simp only [List.getElem?_toArray, List.getElem?_cons_zero, List.getElem?_cons_succ] at x0 x1
      go_wp2_with fail
      have hkW := ((Keeps.refl [w.heap.size] w4).setCell (p := ⟨w.heap.size, 0, none⟩) (.inl (by simp)) (.int .u8 (K.toNat : Int))).setCell (p := ⟨w.heap.size, 1, none⟩) (.inl (by simp)) (.slice A6 BB.length c6)
      have hxW := two_set hx4 (.int .u8 (K.toNat : Int)) (.slice A6 BB.length c6)
      generalize (w4.setCell ⟨w.heap.size, 0, none⟩ (.int .u8 (K.toNat : Int))).setCell ⟨w.heap.size, 1, none⟩ (.slice A6 BB.length c6) = W at hkW hxW ⊢
      have y0 := hxW.cell 0
      have y1 := hxW.cell 1
      simp only [List.getElem?_toArray, List.getElem?_cons_zero, List.getElem?_cons_succ] at y0 y1
      refine bodyPost_ret (v := .tuple #[.agg #[.int .u8 (K.toNat : Int), .slice A6 BB.length c6], .int .i64 0]) (by simp [results, Try.results19, go_sem, y0, y1]) rfl ⟨⟨A6, c6, rfl, ?_⟩, ⟨_, h4.keeps hkW (by simp; omega) (by simp; omega)⟩, ?_⟩
      · exact own_rebase (own_keeps ho4 hkW fun i hi hm => own_blk_ne ho4 hx4 (by decide) i hi (by simpa using hm)) fun i hi => Nat.le_trans hsX (own_ge ho4 i hi)
      · exact hK4.trans hkW fun i hi => .inr (by simp at hi; omega)
  · have hcb := cutF_bad hbad
    obtain ⟨E, hE⟩ : ∃ z, (cutF xs).e = z := ⟨_, rfl⟩
    rw [hE] at hbad hcb
    have hg : getF xs = frBad E := by unfold getF; rw [hcb, if_neg (fun h => hbad h.1)]
    rw [hg]
    obtain ⟨K, hK⟩ : ∃ z : UInt8, (0 : UInt8) = z := ⟨_, rfl⟩
    obtain ⟨BB, hBB⟩ : ∃ z : List UInt8, [] = z := ⟨_, rfl⟩
    have HC : Hid (cutF xs = ⟨K, BB, 0, E⟩) := Lib.hid (by rw [hcb, ← hK, ← hBB]; rfl)
    have t : (E == 0) = false := by simp [hbad]
    have t2 : (E != 0) = true := by simp [hbad]
    have H1 : Hid (moreGood (frBad E).e G = G) := Lib.hid (if_neg hbad)
    have H2 : Hid (moreBad (frBad E).e Bd = Bd + 1) := Lib.hid (if_neg hbad)
    have H3 : Hid (moreBad E Bd = Bd + 1) := Lib.hid (if_neg hbad)
    rw [H1.out, H2.out]
    clear hcb hE hg hK hBB hbad
    have hX : Below w.heap.size w (w.alloc (.cells #[.int .u8 0, .slice none 0 0] 39)) := (Below.refl _ _).alloc (Nat.le_refl _) _
    have hx := Blk.new w 39 #[.int .u8 0, .slice none 0 0]
    have h1 := h.below hX
    have ha1 := ha.below_ hX
    have hsX := hX.size
    go_enter Try.func19, Try.ntmps19
    go_wp2_with fail
    generalize (w.alloc (.cells #[.int .u8 0, .slice none 0 0] 39)) = w1 at hX hx h1 ha1 hsX ⊢
    have hxl := hx.lt
    refine (first_any gc gt G Bd st A n c xs w1 h1 ha1 hc hn hga).mono ?_
    rintro e w2 ⟨⟨A6, c6, rfl, ho6⟩, ⟨st2, h2⟩, hk2⟩
    rw [HC.out] at ho6 ⊢
    have hx2 := hx.keeps hk2 (by simp; omega)
    have hs2 := hk2.size
    have hK2 : Keeps [gt] w w2 := (Keeps.of_below hX [gt]).trans hk2 fun i hi => .inl hi
    clear hk2 h1 ha1 hx hX
    have hY : Below w2.heap.size w2 (w2.alloc (.cells #[.int .u8 (K.toNat : Int), .slice A6 BB.length c6] 39)) := (Below.refl _ _).alloc (Nat.le_refl _) _
    have hy := Blk.new w2 39 #[.int .u8 (K.toNat : Int), .slice A6 BB.length c6]
    have h3 := h2.below hY
    have hx3 := hx2.below hY hx2.lt
    have ho7 := own_below ho6 hY (own_lt ho6)
    have hK3 : Keeps [gt] w (w2.alloc (.cells #[.int .u8 (K.toNat : Int), .slice A6 BB.length c6] 39)) := hK2.trans (Keeps.of_below hY []) (fun i hi => by cases hi)
    go_wp2_with fail
    generalize (w2.alloc (.cells #[.int .u8 (K.toNat : Int), .slice A6 BB.length c6] 39)) = w3 at hY hy h3 hx3 ho7 hK3 ⊢
    have hyl := hy.lt
    clear h2 hx2 ho6 hK2 hY
    refine (told_any gc gt G Bd 0 st2 (E) w3 h3 (by omega) hB).mono ?_
    rintro e w4 ⟨rfl, h4, hk4⟩
    have hx4 := hx3.keeps hk4 (by simp; omega)
    have hK4 : Keeps [gc, gt] w w4 := (hK3.mono fun i hi => .inl (by simp at hi; simp [hi])).trans hk4 fun i hi => .inl (by simp at hi; simp [hi])
    rw [H3.out, Nat.add_zero] at h4
    have x0 := hx4.cell 0
    have x1 := hx4.cell 1
    have xz := hx4.frozen
    have xl := hx4.lt
    simp only [List.getElem?_toArray, List.getElem?_cons_zero, List.getElem?_cons_succ] at x0 x1
    go_wp2_with fail
    have hkW := ((Keeps.refl [w.heap.size] w4).setCell (p := ⟨w.heap.size, 0, none⟩) (.inl (by simp)) (.int .u8 0)).setCell (p := ⟨w.heap.size, 1, none⟩) (.inl (by simp)) (.slice none 0 0)
    have hxW := two_set hx4 (.int .u8 0) (.slice none 0 0)
    generalize (w4.setCell ⟨w.heap.size, 0, none⟩ (.int .u8 0)).setCell ⟨w.heap.size, 1, none⟩ (.slice none 0 0) = W at hkW hxW ⊢
    have y0 := hxW.cell 0
    have y1 := hxW.cell 1
    simp only [List.getElem?_toArray, List.getElem?_cons_zero, List.getElem?_cons_succ] at y0 y1
    refine bodyPost_ret (v := .tuple #[.agg #[.int .u8 0, .slice none 0 0], .int .i64 E]) (by simp [results, Try.results19, go_sem, y0, y1]) rfl ⟨getTold_bad _ _ _, ⟨_, h4.keeps hkW (by simp; omega) (by simp; omega)⟩, ?_⟩
    exact hK4.trans hkW fun i hi => .inr (by simp at hi; omega)

/-- A frame, its number of bytes, an error. -/
def CutTold (B : Nat) (R : FrR) (e : Ending) (w' : World) : Prop :=
  ∃ A c, e = .returned (.tuple #[.agg #[.int .u8 (R.kind.toNat : Int), .slice A R.body.length c], .int .i64 (R.n : Int), .int .i64 R.e]) ∧ w'.ownsRow B 5 1 (.slice A R.body.length c) R.body.length (R.body.map bv)
theorem cutTold_bad (B : Nat) (er : Int) (w : World) : CutTold B (frBad er) (.returned (.tuple #[.agg #[.int .u8 0, .slice none 0 0], .int .i64 0, .int .i64 er])) w := ⟨none, 0, rfl, World.ownsRow_nil _ _ _ _⟩
set_option maxRecDepth 100000 in
set_option maxHeartbeats 4000000 in
theorem frameCut_any (gc gt G Bd : Nat) (st : Bool) (A : Option Addr) (n c : Nat) (xs : List UInt8) (w : World) (h : CD w gc gt st G Bd) (ha : Rd w A n xs) (hc : n ≤ c) (hn : n ≤ 1000000) (hga : 0 < n → ∀ ad, A = some ad → ad.block ≠ gt)
    (hG : G + 1 < 18446744073709551616) (hB : Bd + 1 < 18446744073709551616) :
    Calls Try.prog 18 #[.pointer (some ⟨gc, 0, none⟩), .slice A n c] w fun e w' => CutTold w.heap.size (cutF xs) e w' ∧ CDs w' gc gt (moreGood (cutF xs).e G) (moreBad (cutF xs).e Bd) ∧ Keeps [gc, gt] w w' := by
  have HX := Lib.hid ha.1
  have hgc := h.blk.lt
  have hgt := h.tab.lt
  have hG1 := hG
  by_cases hbad : (cutF xs).e = 0
  · obtain ⟨R, hR⟩ : ∃ z, cutF xs = z := ⟨_, rfl⟩
    rw [hR] at hbad ⊢
    obtain ⟨K, BB, N, E⟩ := R
    simp only at hbad
    subst hbad
    have HC := Lib.hid hR
    have H1 : Hid (moreGood (⟨K, BB, N, 0⟩ : FrR).e G = G + 1) := Lib.hid rfl
    have H2 : Hid (moreBad (⟨K, BB, N, 0⟩ : FrR).e Bd = Bd) := Lib.hid rfl
    rw [H1.out, H2.out]
    clear hR
    have hX : Below w.heap.size w (w.alloc (.cells #[.int .u8 0, .slice none 0 0] 39)) := (Below.refl _ _).alloc (Nat.le_refl _) _
    have hx := Blk.new w 39 #[.int .u8 0, .slice none 0 0]
    have h1 := h.below hX
    have ha1 := ha.below_ hX
    have hsX := hX.size
    go_enter Try.func18, Try.ntmps18
    go_wp2_with fail
    generalize (w.alloc (.cells #[.int .u8 0, .slice none 0 0] 39)) = w1 at hX hx h1 ha1 hsX ⊢
    have hxl := hx.lt
    refine (first_any gc gt G Bd st A n c xs w1 h1 ha1 hc hn hga).mono ?_
    rintro e w2 ⟨⟨A6, c6, rfl, ho6⟩, ⟨st2, h2⟩, hk2⟩
    rw [HC.out] at ho6 ⊢
    have hx2 := hx.keeps hk2 (by simp; omega)
    have hs2 := hk2.size
    have hK2 : Keeps [gt] w w2 := (Keeps.of_below hX [gt]).trans hk2 fun i hi => .inl hi
    clear hk2 h1 ha1 hx hX
    have hY : Below w2.heap.size w2 (w2.alloc (.cells #[.int .u8 (K.toNat : Int), .slice A6 BB.length c6] 39)) := (Below.refl _ _).alloc (Nat.le_refl _) _
    have hy := Blk.new w2 39 #[.int .u8 (K.toNat : Int), .slice A6 BB.length c6]
    have h3 := h2.below hY
    have hx3 := hx2.below hY hx2.lt
    have ho7 := own_below ho6 hY (own_lt ho6)
    have hK3 : Keeps [gt] w (w2.alloc (.cells #[.int .u8 (K.toNat : Int), .slice A6 BB.length c6] 39)) := hK2.trans (Keeps.of_below hY []) (fun i hi => by cases hi)
    go_wp2_with fail
    generalize (w2.alloc (.cells #[.int .u8 (K.toNat : Int), .slice A6 BB.length c6] 39)) = w3 at hY hy h3 hx3 ho7 hK3 ⊢
    have hyl := hy.lt
    clear h2 hx2 ho6 hK2 hY
    have z0 := hy.cell 0
    have z1 := hy.cell 1
    have zl := hy.lt
    simp only [List.getElem?_toArray, List.getElem?_cons_zero, List.getElem?_cons_succ] at z0 z1
    have hp1 : w.heap.size ∉ [gc] := by simp; omega
    have hp2 : w2.heap.size ∉ [gc] := by simp; omega
    have htd := told_any gc gt G Bd 1 st2 0 w3.drew ⟨h3.blk, h3.tab, h3.ne⟩ hG1 hB
    rw [show ((1 : Nat) : Int) = 1 from rfl] at htd
    have hq1 := fun (W : World) (hk : Keeps [gc] w3.drew W) => hx3.keeps (keeps_drew hk) hp1
    have hq2 := fun (W : World) (hk : Keeps [gc] w3.drew W) => hy.keeps (keeps_drew hk) hp2
    go_region_with (go_at_call 31; refine htd.mono ?_; rintro e w4 ⟨rfl, h4, hk4⟩; have hx4 := hq1 w4 hk4; have hy4 := hq2 w4 hk4; have x0 := hx4.cell 0; have x1 := hx4.cell 1; have xz := hx4.frozen; have xl := hx4.lt; have u0 := hy4.cell 0; have u1 := hy4.cell 1; have ul := hy4.lt; simp only [List.getElem?_toArray, List.getElem?_cons_zero, List.getElem?_cons_succ] at x0 x1 u0 u1)
    all_goals
      have hk5 := keeps_drew hk4
      have hx5 := hq1 w4 hk4
      have ho4 := own_keeps ho7 hk5 (fun i hi hm => by have := own_ge ho7 i hi; exact absurd (show i = gc by simpa using hm) (by omega))
      have hK4 : Keeps [gc, gt] w w4 := (hK3.mono fun i hi => .inl (by simp at hi; simp [hi])).trans hk5 fun i hi => .inl (by simp at hi; simp [hi])
      clear hq1 hq2 htd
      have x0 := hx5.cell 0
      have x1 := hx5.cell 1
      have xz := hx5.frozen
      have xl := hx5.lt
      simp only [List.getElem?_toArray, List.getElem?_cons_zero, List.getElem?_cons_succ] at x0 x1
      go_wp2_with fail
      have hkW := ((Keeps.refl [w.heap.size] w4).setCell (p := ⟨w.heap.size, 0, none⟩) (.inl (by simp)) (.int .u8 (K.toNat : Int))).setCell (p := ⟨w.heap.size, 1, none⟩) (.inl (by simp)) (.slice A6 BB.length c6)
      have hxW := two_set hx5 (.int .u8 (K.toNat : Int)) (.slice A6 BB.length c6)
      generalize (w4.setCell ⟨w.heap.size, 0, none⟩ (.int .u8 (K.toNat : Int))).setCell ⟨w.heap.size, 1, none⟩ (.slice A6 BB.length c6) = W at hkW hxW ⊢
      have y0 := hxW.cell 0
      have y1 := hxW.cell 1
      simp only [List.getElem?_toArray, List.getElem?_cons_zero, List.getElem?_cons_succ] at y0 y1
      refine bodyPost_ret (v := .tuple #[.agg #[.int .u8 (K.toNat : Int), .slice A6 BB.length c6], .int .i64 (N : Int), .int .i64 0]) (by simp [results, Try.results18, go_sem, y0, y1]) rfl ⟨⟨A6, c6, rfl, ?_⟩, ⟨_, h4.keeps hkW (by simp; omega) (by simp; omega)⟩, ?_⟩
      · exact own_rebase (own_keeps ho4 hkW fun i hi hm => own_blk_ne ho4 hx5 (by decide) i hi (by simpa using hm)) fun i hi => Nat.le_trans hsX (own_ge ho4 i hi)
      · exact hK4.trans hkW fun i hi => .inr (by simp at hi; omega)
  · have hcb := cutF_bad hbad
    obtain ⟨E, hE⟩ : ∃ z, (cutF xs).e = z := ⟨_, rfl⟩
    rw [hE] at hbad hcb
    rw [hcb]
    obtain ⟨K, hK⟩ : ∃ z : UInt8, (0 : UInt8) = z := ⟨_, rfl⟩
    obtain ⟨BB, hBB⟩ : ∃ z : List UInt8, [] = z := ⟨_, rfl⟩
    have HC : Hid (cutF xs = ⟨K, BB, 0, E⟩) := Lib.hid (by rw [hcb, ← hK, ← hBB]; rfl)
    have t : (E == 0) = false := by simp [hbad]
    have t2 : (E != 0) = true := by simp [hbad]
    have H1 : Hid (moreGood (frBad E).e G = G) := Lib.hid (if_neg hbad)
    have H2 : Hid (moreBad (frBad E).e Bd = Bd + 1) := Lib.hid (if_neg hbad)
    have H3 : Hid (moreBad E Bd = Bd + 1) := Lib.hid (if_neg hbad)
    rw [H1.out, H2.out]
    clear hcb hE hK hBB hbad
    have hX : Below w.heap.size w (w.alloc (.cells #[.int .u8 0, .slice none 0 0] 39)) := (Below.refl _ _).alloc (Nat.le_refl _) _
    have hx := Blk.new w 39 #[.int .u8 0, .slice none 0 0]
    have h1 := h.below hX
    have ha1 := ha.below_ hX
    have hsX := hX.size
    go_enter Try.func18, Try.ntmps18
    go_wp2_with fail
    generalize (w.alloc (.cells #[.int .u8 0, .slice none 0 0] 39)) = w1 at hX hx h1 ha1 hsX ⊢
    have hxl := hx.lt
    refine (first_any gc gt G Bd st A n c xs w1 h1 ha1 hc hn hga).mono ?_
    rintro e w2 ⟨⟨A6, c6, rfl, ho6⟩, ⟨st2, h2⟩, hk2⟩
    rw [HC.out] at ho6 ⊢
    have hx2 := hx.keeps hk2 (by simp; omega)
    have hs2 := hk2.size
    have hK2 : Keeps [gt] w w2 := (Keeps.of_below hX [gt]).trans hk2 fun i hi => .inl hi
    clear hk2 h1 ha1 hx hX
    have hY : Below w2.heap.size w2 (w2.alloc (.cells #[.int .u8 (K.toNat : Int), .slice A6 BB.length c6] 39)) := (Below.refl _ _).alloc (Nat.le_refl _) _
    have hy := Blk.new w2 39 #[.int .u8 (K.toNat : Int), .slice A6 BB.length c6]
    have h3 := h2.below hY
    have hx3 := hx2.below hY hx2.lt
    have ho7 := own_below ho6 hY (own_lt ho6)
    have hK3 : Keeps [gt] w (w2.alloc (.cells #[.int .u8 (K.toNat : Int), .slice A6 BB.length c6] 39)) := hK2.trans (Keeps.of_below hY []) (fun i hi => by cases hi)
    go_wp2_with fail
    generalize (w2.alloc (.cells #[.int .u8 (K.toNat : Int), .slice A6 BB.length c6] 39)) = w3 at hY hy h3 hx3 ho7 hK3 ⊢
    have hyl := hy.lt
    clear h2 hx2 ho6 hK2 hY
    refine (told_any gc gt G Bd 0 st2 (E) w3 h3 (by omega) hB).mono ?_
    rintro e w4 ⟨rfl, h4, hk4⟩
    have hx4 := hx3.keeps hk4 (by simp; omega)
    have hK4 : Keeps [gc, gt] w w4 := (hK3.mono fun i hi => .inl (by simp at hi; simp [hi])).trans hk4 fun i hi => .inl (by simp at hi; simp [hi])
    rw [H3.out, Nat.add_zero] at h4
    have x0 := hx4.cell 0
    have x1 := hx4.cell 1
    have xz := hx4.frozen
    have xl := hx4.lt
    simp only [List.getElem?_toArray, List.getElem?_cons_zero, List.getElem?_cons_succ] at x0 x1
    go_wp2_with fail
    have hkW := ((Keeps.refl [w.heap.size] w4).setCell (p := ⟨w.heap.size, 0, none⟩) (.inl (by simp)) (.int .u8 0)).setCell (p := ⟨w.heap.size, 1, none⟩) (.inl (by simp)) (.slice none 0 0)
    have hxW := two_set hx4 (.int .u8 0) (.slice none 0 0)
    generalize (w4.setCell ⟨w.heap.size, 0, none⟩ (.int .u8 0)).setCell ⟨w.heap.size, 1, none⟩ (.slice none 0 0) = W at hkW hxW ⊢
    have y0 := hxW.cell 0
    have y1 := hxW.cell 1
    simp only [List.getElem?_toArray, List.getElem?_cons_zero, List.getElem?_cons_succ] at y0 y1
    refine bodyPost_ret (v := .tuple #[.agg #[.int .u8 0, .slice none 0 0], .int .i64 0, .int .i64 E]) (by simp [results, Try.results18, go_sem, y0, y1]) rfl ⟨cutTold_bad _ _ _, ⟨_, h4.keeps hkW (by simp; omega) (by simp; omega)⟩, ?_⟩
    exact hK4.trans hkW fun i hi => .inr (by simp at hi; omega)

set_option maxRecDepth 100000 in
set_option maxHeartbeats 2000000 in
theorem awake03 (w : World) : Calls Try.prog 8 #[] w fun e w' => e = .returned (.bool true) ∧ Below w.heap.size w w' := by
  have he : putE 7 [] = 0 := by decide
  have hl := put_len he
  have hgp := get_put he
  rw [show ([] : List UInt8).length + 7 = 7 from rfl] at hl hgp
  go_enter Try.func8, Try.ntmps8
  go_wp2_with fail
  refine (frameNew_nil w).mono ?_
  rintro e w1 ⟨⟨gc, rfl, h1, hgc⟩, hb1⟩
  have hpu := framePut_any gc w.heap.size 0 0 false 7 none 0 0 [] w1 h1 (Rd.nil _ _) (Nat.le_refl _) (by omega)
  rw [he] at hpu
  unfold PutTold3 at hpu
  rw [hl] at hpu
  obtain ⟨P, hP⟩ : ∃ z, putF 7 [] = z := ⟨_, rfl⟩
  rw [hP] at hpu hgp hl
  rw [show (((7 : UInt8).toNat : Nat) : Int) = 7 from rfl] at hpu
  clear hP he
  go_wp2_with fail
  refine hpu.mono ?_
  rintro e w2 ⟨⟨A2, c2, rfl, ho2⟩, ⟨st2, h2⟩, hk2⟩
  have hs1 := hb1.size
  have hB2 : Below w.heap.size w w2 := hb1.trans (hk2.below hs1 (by simp))
  obtain ⟨_, _, hv2, hlc2, _⟩ := own_form ho2
  have hc2 : 7 ≤ c2 := by injection hv2; omega
  have hgt1 := h1.tab.lt
  have hga2 : 0 < 7 → ∀ ad, A2 = some ad → ad.block ≠ w.heap.size := fun _ ad e => by
    have := own_ge ho2 ad.block (by rw [e]; rfl)
    omega
  have hge := frameGet_any gc w.heap.size 0 0 st2 A2 7 c2 P w2 h2 (Rd.of_own ho2) hc2 (by omega) hga2 (by omega) (by omega)
  rw [hgp] at hge
  clear hpu hk2 hb1 ho2 hv2 hlc2 h1
  go_wp2_with fail
  refine hge.mono ?_
  rintro e w3 ⟨⟨A3, c3, rfl, ho3⟩, _, hk3⟩
  have hB3 : Below w.heap.size w w3 := hB2.trans (hk3.below hB2.size (by simp; omega))
  have hX : Below w3.heap.size w3 (w3.alloc (.cells #[.int .u8 7, .slice A3 0 c3] 39)) := (Below.refl _ _).alloc (Nat.le_refl _) _
  have hB4 := hB3.trans (hX.mono hB3.size)
  clear hge hk3 ho3 hB2
  simp only [List.length_nil]
  go_wp2_with fail
  go_ret
  exact ⟨rfl, hB4⟩
end Go.Proofs.Ytgflgncpjlgeoaa
