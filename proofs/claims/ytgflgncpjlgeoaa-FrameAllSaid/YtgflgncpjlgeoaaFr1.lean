/- Contracts of package frame: New, told, first. -/
import Derived.Test.YtgflgncpjlgeoaaFrP
import Derived.Test.YtgflgncpjlgeoaaFixOut2
import Derived.Test.YtgflgncpjlgeoaaCrc5
import Derived.Test.YtgflgncpjlgeoaaBytes2
namespace Go.Proofs.Ytgflgncpjlgeoaa
open Go.RowKit
set_option linter.unusedSimpArgs false
set_option linter.unusedVariables false

/-- A codec, its table, its counts. -/
structure CD (w : World) (gc gt : Nat) (st : Bool) (G Bd : Nat) : Prop where
  blk : Blk w gc 74 #[.pointer (some ⟨gt, 0, none⟩), .int .u64 (G : Int), .int .u64 (Bd : Int)]
  tab : TB w gt st
  ne : gc ≠ gt
theorem CD.below {w w' : World} {gc gt G Bd : Nat} {st : Bool} (h : CD w gc gt st G Bd) (hb : Below w.heap.size w w') : CD w' gc gt st G Bd := ⟨h.blk.below hb h.blk.lt, h.tab.below hb, h.ne⟩
theorem CD.keeps {w w' : World} {gc gt G Bd : Nat} {st : Bool} {S : List Nat} (h : CD w gc gt st G Bd) (hk : Keeps S w w') (h1 : gc ∉ S) (h2 : gt ∉ S) : CD w' gc gt st G Bd := ⟨h.blk.keeps hk h1, h.tab.keeps hk h2, h.ne⟩

def moreBad (e : Int) (n : Nat) : Nat := if e = 0 then n else n + 1
set_option maxRecDepth 100000 in
set_option maxHeartbeats 1000000 in
/-- told: the counts, the error. -/
theorem told_any (gc gt G Bd n : Nat) (st : Bool) (e : Int) (w : World) (h : CD w gc gt st G Bd) (hG : G + n < 18446744073709551616) (hB : Bd + 1 < 18446744073709551616) :
    Calls Try.prog 31 #[.pointer (some ⟨gc, 0, none⟩), .int .u64 (n : Int), .int .i64 e] w fun en w' => en = .returned (.int .i64 e) ∧ CD w' gc gt st (G + n) (moreBad e Bd) ∧ Keeps [gc] w w' := by
  have c1 := h.blk.cell 1
  simp only [List.getElem?_toArray, List.getElem?_cons_zero, List.getElem?_cons_succ] at c1
  obtain ⟨M, hM⟩ : ∃ z, G + n = z := ⟨_, rfl⟩
  have hadd := run_call_add (P := Try.prog) Try.func63 (by kernel_rfl) (by kernel_rfl) (by kernel_rfl) .u64 (by kernel_rfl) (y := (n : Int)) (s := (M : Int)) c1 (h.blk.frozen 1) (by
    simp [go_sem]
    rw [IntKind.wrap_u64]
    omega)
  rw [hM] at hG ⊢
  clear hM
  have hk1 := (Keeps.refl [gc] w).setCell (p := ⟨gc, 1, none⟩) (.inl (by simp)) (.int .u64 (M : Int))
  have hb1 := h.blk.set_ 1 (.int .u64 (M : Int))
  have ht1 := h.tab.keeps hk1 (by simpa using fun e => h.ne e.symm)
  by_cases he : e = 0
  · have t : (e != 0) = false := by simp [he]
    have H : Hid (moreBad e Bd = Bd) := Lib.hid (if_pos he)
    clear he
    go_enter Try.func31, Try.ntmps31
    go_wp2
    go_ret
    exact ⟨rfl, by rw [H.out]; exact ⟨hb1, ht1, h.ne⟩, hk1⟩
  · have t : (e != 0) = true := by simp [he]
    have H : Hid (moreBad e Bd = Bd + 1) := Lib.hid (if_neg he)
    have c2 := hb1.cell 2
    have f2 := hb1.frozen 2
    simp only [List.getElem?_toArray, List.getElem?_cons_zero, List.getElem?_cons_succ, List.setIfInBounds_toArray, List.set_cons_zero, List.set_cons_succ] at c2
    obtain ⟨M2, hM2⟩ : ∃ z, Bd + 1 = z := ⟨_, rfl⟩
    rw [hM2] at H
    have hadd2 := run_call_add (P := Try.prog) Try.func63 (by kernel_rfl) (by kernel_rfl) (by kernel_rfl) .u64 (by kernel_rfl) (y := 1) (s := (M2 : Int)) c2 f2 (by
      simp [go_sem]
      rw [IntKind.wrap_u64]
      omega)
    have hk2 := hk1.setCell (p := ⟨gc, 2, none⟩) (.inl (by simp)) (.int .u64 (M2 : Int))
    have hb2 := hb1.set_ 2 (.int .u64 (M2 : Int))
    have ht2 := h.tab.keeps hk2 (by simpa using fun e => h.ne e.symm)
    clear he c2 f2 hM2
    go_enter Try.func31, Try.ntmps31
    go_wp2
    go_ret
    exact ⟨rfl, by rw [H.out]; exact ⟨hb2, ht2, h.ne⟩, hk2⟩

theorem two_set {w : World} {b : Nat} {t : TypeId} {u0 u1 : Value} (h : Blk w b t #[u0, u1]) (v0 v1 : Value) : Blk ((w.setCell ⟨b, 0, none⟩ v0).setCell ⟨b, 1, none⟩ v1) b t #[v0, v1] := (h.set_ 0 v0).set_ 1 v1

/-- What a frame that is cut off is told as, its body in new memory. -/
def FirstTold (B : Nat) (R : FrR) (e : Ending) (w' : World) : Prop :=
  ∃ A c, e = .returned (.tuple #[.agg #[.int .u8 (R.kind.toNat : Int), .slice A R.body.length c], .int .i64 (R.n : Int), .int .i64 R.e]) ∧ w'.ownsRow B 5 1 (.slice A R.body.length c) R.body.length (R.body.map bv)
/-- The state behind it. -/
def CDs (w : World) (gc gt G Bd : Nat) : Prop := ∃ st, CD w gc gt st G Bd
theorem firstTold_bad (B : Nat) (er : Int) (w : World) : FirstTold B (frBad er) (.returned (.tuple #[.agg #[.int .u8 0, .slice none 0 0], .int .i64 0, .int .i64 er])) w := ⟨none, 0, rfl, World.ownsRow_nil _ _ _ _⟩

set_option maxRecDepth 100000 in
set_option maxHeartbeats 8000000 in
theorem first_any (gc gt G Bd : Nat) (st : Bool) (A : Option Addr) (n c : Nat) (xs : List UInt8) (w : World) (h : CD w gc gt st G Bd) (ha : Rd w A n xs) (hc : n ≤ c) (hn : n ≤ 1000000) (hga : 0 < n → ∀ ad, A = some ad → ad.block ≠ gt) :
    Calls Try.prog 30 #[.pointer (some ⟨gc, 0, none⟩), .slice A n c] w fun e w' => FirstTold w.heap.size (cutF xs) e w' ∧ CDs w' gc gt G Bd ∧ Keeps [gt] w w' := by
  have HX := Lib.hid ha.1
  have hgc := h.blk.lt
  have hgt := h.tab.lt
  have hX : Below w.heap.size w (w.alloc (.cells #[.int .u8 0, .slice none 0 0] 39)) := (Below.refl _ _).alloc (Nat.le_refl _) _
  have hx := Blk.new w 39 #[.int .u8 0, .slice none 0 0]
  have h1 := h.below hX
  have ha1 := ha.below_ hX
  have hsX := hX.size
  by_cases h3 : n < 3
  · have HR : Hid (cutF xs = frBad 3) := Lib.hid (by unfold cutF; rw [if_pos (by rw [ha.1]; exact h3)])
    have her := head_short (b := xs) (by rw [ha.1]; exact h3)
    obtain ⟨s1, hs1⟩ : ∃ z, uptoS ⟨xs, 0⟩ 1 18446744073709551615 = z := ⟨_, rfl⟩
    rw [hs1] at her
    obtain ⟨s2, hs2⟩ : ∃ z, uptoS s1 2 18446744073709551615 = z := ⟨_, rfl⟩
    rw [hs2] at her
    have HS1 := Lib.hid hs1
    have HS2 := Lib.hid hs2
    have tE : (s2.err != 0) = true := by simp [her]
    have hmin : min (n : Int) 3 = (n : Int) := by omega
    have hmin2 : ¬ (3 : Int) < (n : Int) := by omega
    have hn3 : (n : Int) < 3 := by omega
    clear her hs1 hs2
    go_enter Try.func30, Try.ntmps30
    go_wp2_with fail
    generalize (w.alloc (.cells #[.int .u8 0, .slice none 0 0] 39)) = w1 at hX hx h1 ha1 hsX ⊢
    have hxl := hx.lt
    refine (inOfZ_any A n c xs w1 ha1 hc (by omega)).mono ?_
    rintro e w2 ⟨⟨gi, rfl, hi2⟩, hb2⟩
    have h2 := h1.below hb2
    have hx2 := hx.below hb2 hx.lt
    have hgi := hi2.zone
    have hk2 : Keeps [gt] w w2 := Keeps.of_below (hX.trans (hb2.mono hX.size)) _
    have hsz2 := hb2.size
    clear hb2 h1 ha1 hx
    go_wp2_with fail
    refine (inGet_any _ gi ⟨xs, 0⟩ 1 w2 hi2).mono ?_
    rw [HS1.out]
    rintro e w3 ⟨rfl, hi3, hk3⟩
    have h3' := h2.keeps hk3 (by simp; omega) (by simp; omega)
    have hx3 := hx2.keeps hk3 (by simp; omega)
    have hK3 : Keeps [gt] w w3 := hk2.trans hk3 (fun i hi => .inr (by rw [show i = gi by simpa using hi]; omega))
    clear hi2 h2 hx2 hk2 hk3
    go_wp2_with fail
    refine (inGet_any _ gi s1 2 w3 hi3).mono ?_
    rw [HS2.out]
    rintro e w4 ⟨rfl, hi4, hk4⟩
    have h4 := h3'.keeps hk4 (by simp; omega) (by simp; omega)
    have hx4 := hx3.keeps hk4 (by simp; omega)
    have hK4 : Keeps [gt] w w4 := hK3.trans hk4 (fun i hi => .inr (by rw [show i = gi by simpa using hi]; omega))
    clear hi3 h3' hx3 hK3 hk4
    go_wp2_with fail
    refine (inErr_any _ gi s2 w4 hi4).mono ?_
    rintro e w5 ⟨rfl, rfl⟩
    clear hi4
    have x0 := hx4.cell 0
    have x1 := hx4.cell 1
    have xz := hx4.frozen
    have xl := hx4.lt
    simp only [List.getElem?_toArray, List.getElem?_cons_zero, List.getElem?_cons_succ] at x0 x1
    go_wp2_with fail
    have hkW := ((Keeps.refl [w.heap.size] w4).setCell (p := ⟨w.heap.size, 0, none⟩) (.inl (by simp)) (.int .u8 0)).setCell (p := ⟨w.heap.size, 1, none⟩) (.inl (by simp)) (.slice none 0 0)
    have hKW := (hK4.setCell (p := ⟨w.heap.size, 0, none⟩) (.inr (Nat.le_refl _)) (.int .u8 0)).setCell (p := ⟨w.heap.size, 1, none⟩) (.inr (Nat.le_refl _)) (.slice none 0 0)
    have hxW := two_set hx4 (.int .u8 0) (.slice none 0 0)
    generalize (w4.setCell ⟨w.heap.size, 0, none⟩ (.int .u8 0)).setCell ⟨w.heap.size, 1, none⟩ (.slice none 0 0) = W at hkW hKW hxW ⊢
    have y0 := hxW.cell 0
    have y1 := hxW.cell 1
    simp only [List.getElem?_toArray, List.getElem?_cons_zero, List.getElem?_cons_succ] at y0 y1
    refine bodyPost_ret (v := .tuple #[.agg #[.int .u8 0, .slice none 0 0], .int .i64 0, .int .i64 3]) (by simp [results, Try.results30, go_sem, y0, y1]) rfl ⟨?_, ?_, ?_⟩
    · rw [HR.out]
      exact firstTold_bad _ _ _
    · exact ⟨_, h4.keeps hkW (by simp; omega) (by simp; omega)⟩
    · exact hKW
  · obtain ⟨e1, e2, e3, e4, hL⟩ := head3 (b := xs) (by rw [ha.1]; omega)
    have hmin : min (n : Int) 3 = 3 := by omega
    have hn3 : ¬ (n : Int) < 3 := by omega
    have hn3' : (3 : Int) ≤ (n : Int) := by omega
    have hc3 : 3 ≤ c := by omega
    have ht3 : Rd w A 3 (xs.take 3) := ha.take (by omega)
    have hcut : cutF xs = if xs.getD 0 0 = 0 then frBad 4 else if 16384 < lenF xs then frBad 6 else if n < lenF xs + 7 then frBad 3
      else if fitsC (xs.take (lenF xs + 7)) = false then frBad 5 else ⟨xs.getD 0 0, (xs.drop 3).take (lenF xs), lenF xs + 7, 0⟩ := by
      unfold cutF
      rw [if_neg (by rw [ha.1]; omega), ha.1]
    obtain ⟨K, hK⟩ : ∃ z, xs.getD 0 0 = z := ⟨_, rfl⟩
    obtain ⟨L, hLL⟩ : ∃ z, lenF xs = z := ⟨_, rfl⟩
    rw [hK, hLL] at hcut
    rw [hK] at e2
    rw [hLL] at e4 hL
    obtain ⟨Y, hY⟩ : ∃ z, xs.take 3 = z := ⟨_, rfl⟩
    rw [hY] at e1 e2 e3 e4 ht3
    have E1 := Lib.hid e1
    have E2 := Lib.hid e2
    have E3 := Lib.hid e3
    have E4 := Lib.hid e4
    have hw1 : IntKind.i64.wrap (L : Int) = (L : Int) := by rw [IntKind.wrap_i64]; omega
    have ht1 := ht3.below_ hX
    have hK8 := K.toNat_lt
    have hw2 : IntKind.i64.wrap (3 + (L : Int)) = 3 + (L : Int) := by rw [IntKind.wrap_i64]; omega
    have hw3 : IntKind.i64.wrap (3 + (L : Int) + 4) = ((L + 7 : Nat) : Int) := by rw [IntKind.wrap_i64]; omega
    obtain ⟨Z, hZ⟩ : ∃ z, L + 7 = z := ⟨_, rfl⟩
    rw [hZ] at hcut hw3
    clear e1 e2 e3 e4 hK hLL hY h3 ht3
    rcases (by omega : n = 3 ∨ 3 < n) with hn33 | hn33
    · subst hn33
      by_cases k0 : K = 0
      · have HR : Hid (cutF xs = frBad 4) := Lib.hid (by rw [hcut, if_pos k0])
        have tk : ((K.toNat : Int) == 0) = true := by rw [k0]; rfl
        clear k0 hcut
        go_enter Try.func30, Try.ntmps30
        go_wp2_with fail
        generalize (w.alloc (.cells #[.int .u8 0, .slice none 0 0] 39)) = w1 at *
        have hxl := hx.lt
        refine (inOfZ_any _ 3 c Y w1 ht1 hc3 (by omega)).mono ?_
        rintro e w2 ⟨⟨gi, rfl, hi2⟩, hb2⟩
        have h2 := h1.below hb2
        have hx2 := hx.below hb2 hx.lt
        have hgi := hi2.zone
        have hk2 : Keeps [gt] w w2 := Keeps.of_below (hX.trans (hb2.mono hX.size)) _
        have hsz2 := hb2.size
        clear hb2 h1 ht1 hx
        go_wp2_with fail
        refine (inGet_any _ gi ⟨Y, 0⟩ 1 w2 hi2).mono ?_
        rw [E1.out, E2.out]
        rintro e w3 ⟨rfl, hi3, hk3⟩
        have h3' := h2.keeps hk3 (by simp; omega) (by simp; omega)
        have hx3 := hx2.keeps hk3 (by simp; omega)
        have hK3 : Keeps [gt] w w3 := hk2.trans hk3 (fun i hi => .inr (by rw [show i = gi by simpa using hi]; omega))
        clear hi2 h2 hx2 hk2 hk3
        go_wp2_with fail
        refine (inGet_any _ gi _ 2 w3 hi3).mono ?_
        rw [E3.out, E4.out]
        rintro e w4 ⟨rfl, hi4, hk4⟩
        have h4 := h3'.keeps hk4 (by simp; omega) (by simp; omega)
        have hx4 := hx3.keeps hk4 (by simp; omega)
        have hK4 : Keeps [gt] w w4 := hK3.trans hk4 (fun i hi => .inr (by rw [show i = gi by simpa using hi]; omega))
        clear hi3 h3' hx3 hK3 hk4
        go_wp2_with fail
        refine (inErr_any _ gi _ w4 hi4).mono ?_
        rintro e w5 ⟨rfl, rfl⟩
        clear hi4
        have x0 := hx4.cell 0
        have x1 := hx4.cell 1
        have xz := hx4.frozen
        have xl := hx4.lt
        simp only [List.getElem?_toArray, List.getElem?_cons_zero, List.getElem?_cons_succ] at x0 x1
        go_wp2_with fail
        have hkW := ((Keeps.refl [w.heap.size] w4).setCell (p := ⟨w.heap.size, 0, none⟩) (.inl (by simp)) (.int .u8 0)).setCell (p := ⟨w.heap.size, 1, none⟩) (.inl (by simp)) (.slice none 0 0)
        have hKW := (hK4.setCell (p := ⟨w.heap.size, 0, none⟩) (.inr (Nat.le_refl _)) (.int .u8 0)).setCell (p := ⟨w.heap.size, 1, none⟩) (.inr (Nat.le_refl _)) (.slice none 0 0)
        have hxW := two_set hx4 (.int .u8 0) (.slice none 0 0)
        generalize (w4.setCell ⟨w.heap.size, 0, none⟩ (.int .u8 0)).setCell ⟨w.heap.size, 1, none⟩ (.slice none 0 0) = W at hkW hKW hxW ⊢
        have y0 := hxW.cell 0
        have y1 := hxW.cell 1
        simp only [List.getElem?_toArray, List.getElem?_cons_zero, List.getElem?_cons_succ] at y0 y1
        refine bodyPost_ret (v := .tuple #[.agg #[.int .u8 0, .slice none 0 0], .int .i64 0, .int .i64 4]) (by simp [results, Try.results30, go_sem, y0, y1]) rfl ⟨?_, ?_, ?_⟩
        · rw [HR.out]
          exact firstTold_bad _ _ _
        · exact ⟨_, h4.keeps hkW (by simp; omega) (by simp; omega)⟩
        · exact hKW
      · have tk : ((K.toNat : Int) == 0) = false := by
          simp
          intro h0
          exact k0 (UInt8.toNat_inj.1 h0)
        rw [if_neg k0] at hcut
        by_cases hlong : 16384 < L
        · have HR : Hid (cutF xs = frBad 6) := Lib.hid (by rw [hcut, if_pos hlong])
          have tl : (16384 : Int) < (L : Int) := by omega
          clear k0 hcut hlong
          go_enter Try.func30, Try.ntmps30
          go_wp2_with fail
          generalize (w.alloc (.cells #[.int .u8 0, .slice none 0 0] 39)) = w1 at *
          have hxl := hx.lt
          refine (inOfZ_any _ 3 c Y w1 ht1 hc3 (by omega)).mono ?_
          rintro e w2 ⟨⟨gi, rfl, hi2⟩, hb2⟩
          have h2 := h1.below hb2
          have hx2 := hx.below hb2 hx.lt
          have hgi := hi2.zone
          have hk2 : Keeps [gt] w w2 := Keeps.of_below (hX.trans (hb2.mono hX.size)) _
          have hsz2 := hb2.size
          clear hb2 h1 ht1 hx
          go_wp2_with fail
          refine (inGet_any _ gi ⟨Y, 0⟩ 1 w2 hi2).mono ?_
          rw [E1.out, E2.out]
          rintro e w3 ⟨rfl, hi3, hk3⟩
          have h3' := h2.keeps hk3 (by simp; omega) (by simp; omega)
          have hx3 := hx2.keeps hk3 (by simp; omega)
          have hK3 : Keeps [gt] w w3 := hk2.trans hk3 (fun i hi => .inr (by rw [show i = gi by simpa using hi]; omega))
          clear hi2 h2 hx2 hk2 hk3
          go_wp2_with fail
          refine (inGet_any _ gi _ 2 w3 hi3).mono ?_
          rw [E3.out, E4.out]
          rintro e w4 ⟨rfl, hi4, hk4⟩
          have h4 := h3'.keeps hk4 (by simp; omega) (by simp; omega)
          have hx4 := hx3.keeps hk4 (by simp; omega)
          have hK4 : Keeps [gt] w w4 := hK3.trans hk4 (fun i hi => .inr (by rw [show i = gi by simpa using hi]; omega))
          clear hi3 h3' hx3 hK3 hk4
          go_wp2_with fail
          refine (inErr_any _ gi _ w4 hi4).mono ?_
          rintro e w5 ⟨rfl, rfl⟩
          clear hi4
          have x0 := hx4.cell 0
          have x1 := hx4.cell 1
          have xz := hx4.frozen
          have xl := hx4.lt
          simp only [List.getElem?_toArray, List.getElem?_cons_zero, List.getElem?_cons_succ] at x0 x1
          go_wp2_with fail
          have hkW := ((Keeps.refl [w.heap.size] w4).setCell (p := ⟨w.heap.size, 0, none⟩) (.inl (by simp)) (.int .u8 0)).setCell (p := ⟨w.heap.size, 1, none⟩) (.inl (by simp)) (.slice none 0 0)
          have hKW := (hK4.setCell (p := ⟨w.heap.size, 0, none⟩) (.inr (Nat.le_refl _)) (.int .u8 0)).setCell (p := ⟨w.heap.size, 1, none⟩) (.inr (Nat.le_refl _)) (.slice none 0 0)
          have hxW := two_set hx4 (.int .u8 0) (.slice none 0 0)
          generalize (w4.setCell ⟨w.heap.size, 0, none⟩ (.int .u8 0)).setCell ⟨w.heap.size, 1, none⟩ (.slice none 0 0) = W at hkW hKW hxW ⊢
          have y0 := hxW.cell 0
          have y1 := hxW.cell 1
          simp only [List.getElem?_toArray, List.getElem?_cons_zero, List.getElem?_cons_succ] at y0 y1
          refine bodyPost_ret (v := .tuple #[.agg #[.int .u8 0, .slice none 0 0], .int .i64 0, .int .i64 6]) (by simp [results, Try.results30, go_sem, y0, y1]) rfl ⟨?_, ?_, ?_⟩
          · rw [HR.out]
            exact firstTold_bad _ _ _
          · exact ⟨_, h4.keeps hkW (by simp; omega) (by simp; omega)⟩
          · exact hKW
        · have tl : ¬ (16384 : Int) < (L : Int) := by omega
          rw [if_neg hlong] at hcut
          by_cases hsh : 3 < Z
          · have HR : Hid (cutF xs = frBad 3) := Lib.hid (by rw [hcut, if_pos hsh])
            have ts : (3 : Int) < (Z : Int) := by omega
            clear k0 hcut hlong hsh
            go_enter Try.func30, Try.ntmps30
            go_wp2_with fail
            generalize (w.alloc (.cells #[.int .u8 0, .slice none 0 0] 39)) = w1 at *
            have hxl := hx.lt
            refine (inOfZ_any _ 3 c Y w1 ht1 hc3 (by omega)).mono ?_
            rintro e w2 ⟨⟨gi, rfl, hi2⟩, hb2⟩
            have h2 := h1.below hb2
            have hx2 := hx.below hb2 hx.lt
            have hgi := hi2.zone
            have hk2 : Keeps [gt] w w2 := Keeps.of_below (hX.trans (hb2.mono hX.size)) _
            have hsz2 := hb2.size
            clear hb2 h1 ht1 hx
            go_wp2_with fail
            refine (inGet_any _ gi ⟨Y, 0⟩ 1 w2 hi2).mono ?_
            rw [E1.out, E2.out]
            rintro e w3 ⟨rfl, hi3, hk3⟩
            have h3' := h2.keeps hk3 (by simp; omega) (by simp; omega)
            have hx3 := hx2.keeps hk3 (by simp; omega)
            have hK3 : Keeps [gt] w w3 := hk2.trans hk3 (fun i hi => .inr (by rw [show i = gi by simpa using hi]; omega))
            clear hi2 h2 hx2 hk2 hk3
            go_wp2_with fail
            refine (inGet_any _ gi _ 2 w3 hi3).mono ?_
            rw [E3.out, E4.out]
            rintro e w4 ⟨rfl, hi4, hk4⟩
            have h4 := h3'.keeps hk4 (by simp; omega) (by simp; omega)
            have hx4 := hx3.keeps hk4 (by simp; omega)
            have hK4 : Keeps [gt] w w4 := hK3.trans hk4 (fun i hi => .inr (by rw [show i = gi by simpa using hi]; omega))
            clear hi3 h3' hx3 hK3 hk4
            go_wp2_with fail
            refine (inErr_any _ gi _ w4 hi4).mono ?_
            rintro e w5 ⟨rfl, rfl⟩
            clear hi4
            have x0 := hx4.cell 0
            have x1 := hx4.cell 1
            have xz := hx4.frozen
            have xl := hx4.lt
            simp only [List.getElem?_toArray, List.getElem?_cons_zero, List.getElem?_cons_succ] at x0 x1
            go_wp2_with fail
            have hkW := ((Keeps.refl [w.heap.size] w4).setCell (p := ⟨w.heap.size, 0, none⟩) (.inl (by simp)) (.int .u8 0)).setCell (p := ⟨w.heap.size, 1, none⟩) (.inl (by simp)) (.slice none 0 0)
            have hKW := (hK4.setCell (p := ⟨w.heap.size, 0, none⟩) (.inr (Nat.le_refl _)) (.int .u8 0)).setCell (p := ⟨w.heap.size, 1, none⟩) (.inr (Nat.le_refl _)) (.slice none 0 0)
            have hxW := two_set hx4 (.int .u8 0) (.slice none 0 0)
            generalize (w4.setCell ⟨w.heap.size, 0, none⟩ (.int .u8 0)).setCell ⟨w.heap.size, 1, none⟩ (.slice none 0 0) = W at hkW hKW hxW ⊢
            have y0 := hxW.cell 0
            have y1 := hxW.cell 1
            simp only [List.getElem?_toArray, List.getElem?_cons_zero, List.getElem?_cons_succ] at y0 y1
            refine bodyPost_ret (v := .tuple #[.agg #[.int .u8 0, .slice none 0 0], .int .i64 0, .int .i64 3]) (by simp [results, Try.results30, go_sem, y0, y1]) rfl ⟨?_, ?_, ?_⟩
            · rw [HR.out]
              exact firstTold_bad _ _ _
            · exact ⟨_, h4.keeps hkW (by simp; omega) (by simp; omega)⟩
            · exact hKW
          · exact absurd (by rw [← hZ]; exact Nat.lt_of_lt_of_le (by decide) (Nat.le_add_left 7 L)) hsh
            all_goals
              have ts : ¬ (3 : Int) < (Z : Int) := by omega
              rw [if_neg hsh] at hcut
              have hZn : Z ≤ 3 := by omega
              have hZc : Z ≤ c := by omega
              have htz : Rd w A Z (xs.take Z) := ha.take hZn
              have htz1 := htz.below_ hX
              obtain ⟨ab, ao, rfl, _⟩ := ha.2.2 (by omega)
              have hgab : ab ≠ gt := hga (by omega) _ rfl
              have hdr := ha.cut (k := 3) (by omega) hc
              rw [if_neg (by omega), Option.map_some, add_lit0] at hdr
              have hbody := hdr.take (k := L) (by omega)
              have hablt : ab < w.heap.size := ha.lt (by omega) _ rfl
              clear hdr
              cases hf : fitsC (xs.take Z) with
              | false =>
                have HR : Hid (cutF xs = frBad 5) := Lib.hid (by rw [hcut, if_pos hf])
                have HF := Lib.hid hf
                clear k0 hcut hlong hsh hf
                go_enter Try.func30, Try.ntmps30
                go_wp2_with fail
                generalize (w.alloc (.cells #[.int .u8 0, .slice none 0 0] 39)) = w1 at *
                have hxl := hx.lt
                refine (inOfZ_any _ 3 c Y w1 ht1 hc3 (by omega)).mono ?_
                rintro e w2 ⟨⟨gi, rfl, hi2⟩, hb2⟩
                have h2 := h1.below hb2
                have hx2 := hx.below hb2 hx.lt
                have hgi := hi2.zone
                have hk2 : Keeps [gt] w w2 := Keeps.of_below (hX.trans (hb2.mono hX.size)) _
                have hsz2 := hb2.size
                clear hb2 h1 ht1 hx
                go_wp2_with fail
                refine (inGet_any _ gi ⟨Y, 0⟩ 1 w2 hi2).mono ?_
                rw [E1.out, E2.out]
                rintro e w3 ⟨rfl, hi3, hk3⟩
                have h3' := h2.keeps hk3 (by simp; omega) (by simp; omega)
                have hx3 := hx2.keeps hk3 (by simp; omega)
                have hK3 : Keeps [gt] w w3 := hk2.trans hk3 (fun i hi => .inr (by rw [show i = gi by simpa using hi]; omega))
                clear hi2 h2 hx2 hk2 hk3
                go_wp2_with fail
                refine (inGet_any _ gi _ 2 w3 hi3).mono ?_
                rw [E3.out, E4.out]
                rintro e w4 ⟨rfl, hi4, hk4⟩
                have h4 := h3'.keeps hk4 (by simp; omega) (by simp; omega)
                have hx4 := hx3.keeps hk4 (by simp; omega)
                have hK4 : Keeps [gt] w w4 := hK3.trans hk4 (fun i hi => .inr (by rw [show i = gi by simpa using hi]; omega))
                clear hi3 h3' hx3 hK3 hk4
                go_wp2_with fail
                refine (inErr_any _ gi _ w4 hi4).mono ?_
                rintro e w5 ⟨rfl, rfl⟩
                clear hi4
                have q0 := h4.blk.cell 0
                have ql := h4.blk.lt
                simp only [List.getElem?_toArray, List.getElem?_cons_zero] at q0
                have htz4 := htz.keeps hK4 (fun _ ad e hm => hgab (by injection e with e; subst e; simpa using hm))
                have hft := crcFits_any gt st (some ⟨ab, ao, none⟩) Z Z (xs.take Z) w4 h4.tab htz4 (Nat.le_refl _) (by omega) (fun _ ad e => by injection e with e; subst e; exact hgab)
                go_wp2_with fail
                clear q0 ql
                rw [HF.out] at hft
                refine hft.mono ?_
                rintro e w5 ⟨rfl, h5t, hk5⟩
                have h5 : CD w5 gc gt true G Bd := ⟨h4.blk.keeps hk5 (by simpa using h4.ne), h5t, h4.ne⟩
                have hx5 := hx4.keeps hk5 (by simp; omega)
                have hK5 : Keeps [gt] w w5 := hK4.trans hk5 (fun i hi => .inl hi)
                clear hft h5t hk5 hx4 hK4 h4
                have x0 := hx5.cell 0
                have x1 := hx5.cell 1
                have xz := hx5.frozen
                have xl := hx5.lt
                simp only [List.getElem?_toArray, List.getElem?_cons_zero, List.getElem?_cons_succ] at x0 x1
                go_wp2_with fail
                have hkW := ((Keeps.refl [w.heap.size] w5).setCell (p := ⟨w.heap.size, 0, none⟩) (.inl (by simp)) (.int .u8 0)).setCell (p := ⟨w.heap.size, 1, none⟩) (.inl (by simp)) (.slice none 0 0)
                have hKW := (hK5.setCell (p := ⟨w.heap.size, 0, none⟩) (.inr (Nat.le_refl _)) (.int .u8 0)).setCell (p := ⟨w.heap.size, 1, none⟩) (.inr (Nat.le_refl _)) (.slice none 0 0)
                have hxW := two_set hx5 (.int .u8 0) (.slice none 0 0)
                generalize (w5.setCell ⟨w.heap.size, 0, none⟩ (.int .u8 0)).setCell ⟨w.heap.size, 1, none⟩ (.slice none 0 0) = W at hkW hKW hxW ⊢
                have y0 := hxW.cell 0
                have y1 := hxW.cell 1
                simp only [List.getElem?_toArray, List.getElem?_cons_zero, List.getElem?_cons_succ] at y0 y1
                refine bodyPost_ret (v := .tuple #[.agg #[.int .u8 0, .slice none 0 0], .int .i64 0, .int .i64 5]) (by simp [results, Try.results30, go_sem, y0, y1]) rfl ⟨?_, ?_, ?_⟩
                · rw [HR.out]
                  exact firstTold_bad _ _ _
                · exact ⟨_, h5.keeps hkW (by simp; omega) (by simp; omega)⟩
                · exact hKW
              | true =>
                have HR : Hid (cutF xs = ⟨K, (xs.drop 3).take L, Z, 0⟩) := Lib.hid (by rw [hcut, if_neg (by rw [hf]; simp)])
                have HF := Lib.hid hf
                have HK256 : Hid ((K.toNat : Int) % 256 = (K.toNat : Int)) := Lib.hid (by clear hw1 hw2 hw3; omega)
                have HKU8 : Hid (IntKind.u8.wrap (K.toNat : Int) = (K.toNat : Int)) := Lib.hid (by rw [IntKind.wrap_u8]; exact HK256.out)
                have hZ3 : ¬ Z = 3 := by omega
                have hZL : (3 : Int) + (L : Int) ≤ (Z : Int) := by omega
                have h3L : (3 : Int) ≤ 3 + (L : Int) := by omega
                have hZL2 : 3 + L ≤ Z := by omega
                clear k0 hcut hlong hsh hf
                go_enter Try.func30, Try.ntmps30
                go_wp2_with fail
                generalize (w.alloc (.cells #[.int .u8 0, .slice none 0 0] 39)) = w1 at *
                have hxl := hx.lt
                refine (inOfZ_any _ 3 c Y w1 ht1 hc3 (by omega)).mono ?_
                rintro e w2 ⟨⟨gi, rfl, hi2⟩, hb2⟩
                have h2 := h1.below hb2
                have hx2 := hx.below hb2 hx.lt
                have hgi := hi2.zone
                have hk2 : Keeps [gt] w w2 := Keeps.of_below (hX.trans (hb2.mono hX.size)) _
                have hsz2 := hb2.size
                clear hb2 h1 ht1 hx
                go_wp2_with fail
                refine (inGet_any _ gi ⟨Y, 0⟩ 1 w2 hi2).mono ?_
                rw [E1.out, E2.out]
                rintro e w3 ⟨rfl, hi3, hk3⟩
                have h3' := h2.keeps hk3 (by simp; omega) (by simp; omega)
                have hx3 := hx2.keeps hk3 (by simp; omega)
                have hK3 : Keeps [gt] w w3 := hk2.trans hk3 (fun i hi => .inr (by rw [show i = gi by simpa using hi]; omega))
                clear hi2 h2 hx2 hk2 hk3
                go_wp2_with fail
                refine (inGet_any _ gi _ 2 w3 hi3).mono ?_
                rw [E3.out, E4.out]
                rintro e w4 ⟨rfl, hi4, hk4⟩
                have h4 := h3'.keeps hk4 (by simp; omega) (by simp; omega)
                have hx4 := hx3.keeps hk4 (by simp; omega)
                have hK4 : Keeps [gt] w w4 := hK3.trans hk4 (fun i hi => .inr (by rw [show i = gi by simpa using hi]; omega))
                clear hi3 h3' hx3 hK3 hk4
                go_wp2_with fail
                refine (inErr_any _ gi _ w4 hi4).mono ?_
                rintro e w5 ⟨rfl, rfl⟩
                clear hi4
                have q0 := h4.blk.cell 0
                have ql := h4.blk.lt
                simp only [List.getElem?_toArray, List.getElem?_cons_zero] at q0
                have htz4 := htz.keeps hK4 (fun _ ad e hm => hgab (by injection e with e; subst e; simpa using hm))
                have hft := crcFits_any gt st (some ⟨ab, ao, none⟩) Z Z (xs.take Z) w4 h4.tab htz4 (Nat.le_refl _) (by omega) (fun _ ad e => by injection e with e; subst e; exact hgab)
                go_wp2_with fail
                clear q0 ql
                rw [HF.out] at hft
                refine hft.mono ?_
                rintro e w5 ⟨rfl, h5t, hk5⟩
                have h5 : CD w5 gc gt true G Bd := ⟨h4.blk.keeps hk5 (by simpa using h4.ne), h5t, h4.ne⟩
                have hx5 := hx4.keeps hk5 (by simp; omega)
                have hK5 : Keeps [gt] w w5 := hK4.trans hk5 (fun i hi => .inl hi)
                have hbd5 := hbody.keeps hK5 (fun _ ad e hm => hgab (by injection e with e; subst e; simpa using hm))
                clear hft h5t hk5 hx4 hK4 h4
                have hku8 := HKU8.out
                have hk256 := HK256.out
                have hLZ : L ≤ Z - 3 := Nat.le_sub_of_add_le (by rw [Nat.add_comm]; exact hZL2)
                have hL6 : L ≤ 1000000 := Nat.le_of_lt (Nat.lt_trans hL (by decide))
                go_wp2_with fail
                clear hku8 hk256 hw1 hw2 hw3
                refine (bytesClone_any (some ⟨ab, ao + 3, none⟩) L (Z - 3) _ w5 hbd5 hLZ hL6).mono ?_
                rintro e w6 ⟨v6, rfl, ho6, hb6⟩
                obtain ⟨A6, c6, rfl, _, _⟩ := own_form ho6
                have h6 := h5.below hb6
                have hx6 := hx5.below hb6 hx5.lt
                have hK6 : Keeps [gt] w w6 := hK5.trans (Keeps.of_below hb6 []) (fun i hi => by cases hi)
                have hs5 := hK5.size
                clear h5 hx5 hK5 hb6
                have x0 := hx6.cell 0
                have x1 := hx6.cell 1
                have xz := hx6.frozen
                have xl := hx6.lt
                simp only [List.getElem?_toArray, List.getElem?_cons_zero, List.getElem?_cons_succ] at x0 x1
                go_wp2_with fail
                have hkW := ((Keeps.refl [w.heap.size] w6).setCell (p := ⟨w.heap.size, 0, none⟩) (.inl (by simp)) (.int .u8 (K.toNat : Int))).setCell (p := ⟨w.heap.size, 1, none⟩) (.inl (by simp)) (.slice A6 L c6)
                have hKW := (hK6.setCell (p := ⟨w.heap.size, 0, none⟩) (.inr (Nat.le_refl _)) (.int .u8 (K.toNat : Int))).setCell (p := ⟨w.heap.size, 1, none⟩) (.inr (Nat.le_refl _)) (.slice A6 L c6)
                have hxW := two_set hx6 (.int .u8 (K.toNat : Int)) (.slice A6 L c6)
                generalize (w6.setCell ⟨w.heap.size, 0, none⟩ (.int .u8 (K.toNat : Int))).setCell ⟨w.heap.size, 1, none⟩ (.slice A6 L c6) = W at hkW hKW hxW ⊢
                have y0 := hxW.cell 0
                have y1 := hxW.cell 1
                simp only [List.getElem?_toArray, List.getElem?_cons_zero, List.getElem?_cons_succ] at y0 y1
                refine bodyPost_ret (v := .tuple #[.agg #[.int .u8 (K.toNat : Int), .slice A6 L c6], .int .i64 (Z : Int), .int .i64 0]) (by simp [results, Try.results30, go_sem, y0, y1]) rfl ⟨?_, ?_, ?_⟩
                · rw [HR.out]
                  refine ⟨A6, c6, ?_, ?_⟩
                  · simp only [hbody.1]
                  · simp only [hbody.1]
                    exact own_rebase (own_keeps ho6 hkW fun i hi hm => own_blk_ne ho6 hx6 (by decide) i hi (by simpa using hm)) fun i hi => Nat.le_trans hs5 (own_ge ho6 i hi)
                · exact ⟨_, h6.keeps hkW (by simp; omega) (by simp; omega)⟩
                · exact hKW
    · have hle : ¬ (n : Int) ≤ 3 := by omega
      by_cases k0 : K = 0
      · have HR : Hid (cutF xs = frBad 4) := Lib.hid (by rw [hcut, if_pos k0])
        have tk : ((K.toNat : Int) == 0) = true := by rw [k0]; rfl
        clear k0 hcut
        go_enter Try.func30, Try.ntmps30
        go_wp2_with fail
        generalize (w.alloc (.cells #[.int .u8 0, .slice none 0 0] 39)) = w1 at *
        have hxl := hx.lt
        refine (inOfZ_any _ 3 c Y w1 ht1 hc3 (by omega)).mono ?_
        rintro e w2 ⟨⟨gi, rfl, hi2⟩, hb2⟩
        have h2 := h1.below hb2
        have hx2 := hx.below hb2 hx.lt
        have hgi := hi2.zone
        have hk2 : Keeps [gt] w w2 := Keeps.of_below (hX.trans (hb2.mono hX.size)) _
        have hsz2 := hb2.size
        clear hb2 h1 ht1 hx
        go_wp2_with fail
        refine (inGet_any _ gi ⟨Y, 0⟩ 1 w2 hi2).mono ?_
        rw [E1.out, E2.out]
        rintro e w3 ⟨rfl, hi3, hk3⟩
        have h3' := h2.keeps hk3 (by simp; omega) (by simp; omega)
        have hx3 := hx2.keeps hk3 (by simp; omega)
        have hK3 : Keeps [gt] w w3 := hk2.trans hk3 (fun i hi => .inr (by rw [show i = gi by simpa using hi]; omega))
        clear hi2 h2 hx2 hk2 hk3
        go_wp2_with fail
        refine (inGet_any _ gi _ 2 w3 hi3).mono ?_
        rw [E3.out, E4.out]
        rintro e w4 ⟨rfl, hi4, hk4⟩
        have h4 := h3'.keeps hk4 (by simp; omega) (by simp; omega)
        have hx4 := hx3.keeps hk4 (by simp; omega)
        have hK4 : Keeps [gt] w w4 := hK3.trans hk4 (fun i hi => .inr (by rw [show i = gi by simpa using hi]; omega))
        clear hi3 h3' hx3 hK3 hk4
        go_wp2_with fail
        refine (inErr_any _ gi _ w4 hi4).mono ?_
        rintro e w5 ⟨rfl, rfl⟩
        clear hi4
        have x0 := hx4.cell 0
        have x1 := hx4.cell 1
        have xz := hx4.frozen
        have xl := hx4.lt
        simp only [List.getElem?_toArray, List.getElem?_cons_zero, List.getElem?_cons_succ] at x0 x1
        go_wp2_with fail
        have hkW := ((Keeps.refl [w.heap.size] w4).setCell (p := ⟨w.heap.size, 0, none⟩) (.inl (by simp)) (.int .u8 0)).setCell (p := ⟨w.heap.size, 1, none⟩) (.inl (by simp)) (.slice none 0 0)
        have hKW := (hK4.setCell (p := ⟨w.heap.size, 0, none⟩) (.inr (Nat.le_refl _)) (.int .u8 0)).setCell (p := ⟨w.heap.size, 1, none⟩) (.inr (Nat.le_refl _)) (.slice none 0 0)
        have hxW := two_set hx4 (.int .u8 0) (.slice none 0 0)
        generalize (w4.setCell ⟨w.heap.size, 0, none⟩ (.int .u8 0)).setCell ⟨w.heap.size, 1, none⟩ (.slice none 0 0) = W at hkW hKW hxW ⊢
        have y0 := hxW.cell 0
        have y1 := hxW.cell 1
        simp only [List.getElem?_toArray, List.getElem?_cons_zero, List.getElem?_cons_succ] at y0 y1
        refine bodyPost_ret (v := .tuple #[.agg #[.int .u8 0, .slice none 0 0], .int .i64 0, .int .i64 4]) (by simp [results, Try.results30, go_sem, y0, y1]) rfl ⟨?_, ?_, ?_⟩
        · rw [HR.out]
          exact firstTold_bad _ _ _
        · exact ⟨_, h4.keeps hkW (by simp; omega) (by simp; omega)⟩
        · exact hKW
      · have tk : ((K.toNat : Int) == 0) = false := by
          simp
          intro h0
          exact k0 (UInt8.toNat_inj.1 h0)
        rw [if_neg k0] at hcut
        by_cases hlong : 16384 < L
        · have HR : Hid (cutF xs = frBad 6) := Lib.hid (by rw [hcut, if_pos hlong])
          have tl : (16384 : Int) < (L : Int) := by omega
          clear k0 hcut hlong
          go_enter Try.func30, Try.ntmps30
          go_wp2_with fail
          generalize (w.alloc (.cells #[.int .u8 0, .slice none 0 0] 39)) = w1 at *
          have hxl := hx.lt
          refine (inOfZ_any _ 3 c Y w1 ht1 hc3 (by omega)).mono ?_
          rintro e w2 ⟨⟨gi, rfl, hi2⟩, hb2⟩
          have h2 := h1.below hb2
          have hx2 := hx.below hb2 hx.lt
          have hgi := hi2.zone
          have hk2 : Keeps [gt] w w2 := Keeps.of_below (hX.trans (hb2.mono hX.size)) _
          have hsz2 := hb2.size
          clear hb2 h1 ht1 hx
          go_wp2_with fail
          refine (inGet_any _ gi ⟨Y, 0⟩ 1 w2 hi2).mono ?_
          rw [E1.out, E2.out]
          rintro e w3 ⟨rfl, hi3, hk3⟩
          have h3' := h2.keeps hk3 (by simp; omega) (by simp; omega)
          have hx3 := hx2.keeps hk3 (by simp; omega)
          have hK3 : Keeps [gt] w w3 := hk2.trans hk3 (fun i hi => .inr (by rw [show i = gi by simpa using hi]; omega))
          clear hi2 h2 hx2 hk2 hk3
          go_wp2_with fail
          refine (inGet_any _ gi _ 2 w3 hi3).mono ?_
          rw [E3.out, E4.out]
          rintro e w4 ⟨rfl, hi4, hk4⟩
          have h4 := h3'.keeps hk4 (by simp; omega) (by simp; omega)
          have hx4 := hx3.keeps hk4 (by simp; omega)
          have hK4 : Keeps [gt] w w4 := hK3.trans hk4 (fun i hi => .inr (by rw [show i = gi by simpa using hi]; omega))
          clear hi3 h3' hx3 hK3 hk4
          go_wp2_with fail
          refine (inErr_any _ gi _ w4 hi4).mono ?_
          rintro e w5 ⟨rfl, rfl⟩
          clear hi4
          have x0 := hx4.cell 0
          have x1 := hx4.cell 1
          have xz := hx4.frozen
          have xl := hx4.lt
          simp only [List.getElem?_toArray, List.getElem?_cons_zero, List.getElem?_cons_succ] at x0 x1
          go_wp2_with fail
          have hkW := ((Keeps.refl [w.heap.size] w4).setCell (p := ⟨w.heap.size, 0, none⟩) (.inl (by simp)) (.int .u8 0)).setCell (p := ⟨w.heap.size, 1, none⟩) (.inl (by simp)) (.slice none 0 0)
          have hKW := (hK4.setCell (p := ⟨w.heap.size, 0, none⟩) (.inr (Nat.le_refl _)) (.int .u8 0)).setCell (p := ⟨w.heap.size, 1, none⟩) (.inr (Nat.le_refl _)) (.slice none 0 0)
          have hxW := two_set hx4 (.int .u8 0) (.slice none 0 0)
          generalize (w4.setCell ⟨w.heap.size, 0, none⟩ (.int .u8 0)).setCell ⟨w.heap.size, 1, none⟩ (.slice none 0 0) = W at hkW hKW hxW ⊢
          have y0 := hxW.cell 0
          have y1 := hxW.cell 1
          simp only [List.getElem?_toArray, List.getElem?_cons_zero, List.getElem?_cons_succ] at y0 y1
          refine bodyPost_ret (v := .tuple #[.agg #[.int .u8 0, .slice none 0 0], .int .i64 0, .int .i64 6]) (by simp [results, Try.results30, go_sem, y0, y1]) rfl ⟨?_, ?_, ?_⟩
          · rw [HR.out]
            exact firstTold_bad _ _ _
          · exact ⟨_, h4.keeps hkW (by simp; omega) (by simp; omega)⟩
          · exact hKW
        · have tl : ¬ (16384 : Int) < (L : Int) := by omega
          rw [if_neg hlong] at hcut
          by_cases hsh : n < Z
          · have HR : Hid (cutF xs = frBad 3) := Lib.hid (by rw [hcut, if_pos hsh])
            have ts : (n : Int) < (Z : Int) := by omega
            clear k0 hcut hlong hsh
            go_enter Try.func30, Try.ntmps30
            go_wp2_with fail
            generalize (w.alloc (.cells #[.int .u8 0, .slice none 0 0] 39)) = w1 at *
            have hxl := hx.lt
            refine (inOfZ_any _ 3 c Y w1 ht1 hc3 (by omega)).mono ?_
            rintro e w2 ⟨⟨gi, rfl, hi2⟩, hb2⟩
            have h2 := h1.below hb2
            have hx2 := hx.below hb2 hx.lt
            have hgi := hi2.zone
            have hk2 : Keeps [gt] w w2 := Keeps.of_below (hX.trans (hb2.mono hX.size)) _
            have hsz2 := hb2.size
            clear hb2 h1 ht1 hx
            go_wp2_with fail
            refine (inGet_any _ gi ⟨Y, 0⟩ 1 w2 hi2).mono ?_
            rw [E1.out, E2.out]
            rintro e w3 ⟨rfl, hi3, hk3⟩
            have h3' := h2.keeps hk3 (by simp; omega) (by simp; omega)
            have hx3 := hx2.keeps hk3 (by simp; omega)
            have hK3 : Keeps [gt] w w3 := hk2.trans hk3 (fun i hi => .inr (by rw [show i = gi by simpa using hi]; omega))
            clear hi2 h2 hx2 hk2 hk3
            go_wp2_with fail
            refine (inGet_any _ gi _ 2 w3 hi3).mono ?_
            rw [E3.out, E4.out]
            rintro e w4 ⟨rfl, hi4, hk4⟩
            have h4 := h3'.keeps hk4 (by simp; omega) (by simp; omega)
            have hx4 := hx3.keeps hk4 (by simp; omega)
            have hK4 : Keeps [gt] w w4 := hK3.trans hk4 (fun i hi => .inr (by rw [show i = gi by simpa using hi]; omega))
            clear hi3 h3' hx3 hK3 hk4
            go_wp2_with fail
            refine (inErr_any _ gi _ w4 hi4).mono ?_
            rintro e w5 ⟨rfl, rfl⟩
            clear hi4
            have x0 := hx4.cell 0
            have x1 := hx4.cell 1
            have xz := hx4.frozen
            have xl := hx4.lt
            simp only [List.getElem?_toArray, List.getElem?_cons_zero, List.getElem?_cons_succ] at x0 x1
            go_wp2_with fail
            have hkW := ((Keeps.refl [w.heap.size] w4).setCell (p := ⟨w.heap.size, 0, none⟩) (.inl (by simp)) (.int .u8 0)).setCell (p := ⟨w.heap.size, 1, none⟩) (.inl (by simp)) (.slice none 0 0)
            have hKW := (hK4.setCell (p := ⟨w.heap.size, 0, none⟩) (.inr (Nat.le_refl _)) (.int .u8 0)).setCell (p := ⟨w.heap.size, 1, none⟩) (.inr (Nat.le_refl _)) (.slice none 0 0)
            have hxW := two_set hx4 (.int .u8 0) (.slice none 0 0)
            generalize (w4.setCell ⟨w.heap.size, 0, none⟩ (.int .u8 0)).setCell ⟨w.heap.size, 1, none⟩ (.slice none 0 0) = W at hkW hKW hxW ⊢
            have y0 := hxW.cell 0
            have y1 := hxW.cell 1
            simp only [List.getElem?_toArray, List.getElem?_cons_zero, List.getElem?_cons_succ] at y0 y1
            refine bodyPost_ret (v := .tuple #[.agg #[.int .u8 0, .slice none 0 0], .int .i64 0, .int .i64 3]) (by simp [results, Try.results30, go_sem, y0, y1]) rfl ⟨?_, ?_, ?_⟩
            · rw [HR.out]
              exact firstTold_bad _ _ _
            · exact ⟨_, h4.keeps hkW (by simp; omega) (by simp; omega)⟩
            · exact hKW
          · skip
            all_goals
              have ts : ¬ (n : Int) < (Z : Int) := by omega
              rw [if_neg hsh] at hcut
              have hZn : Z ≤ n := by omega
              have hZc : Z ≤ c := by omega
              have htz : Rd w A Z (xs.take Z) := ha.take hZn
              have htz1 := htz.below_ hX
              obtain ⟨ab, ao, rfl, _⟩ := ha.2.2 (by omega)
              have hgab : ab ≠ gt := hga (by omega) _ rfl
              have hdr := ha.cut (k := 3) (by omega) hc
              rw [if_neg (by omega), Option.map_some, add_lit0] at hdr
              have hbody := hdr.take (k := L) (by omega)
              have hablt : ab < w.heap.size := ha.lt (by omega) _ rfl
              clear hdr
              cases hf : fitsC (xs.take Z) with
              | false =>
                have HR : Hid (cutF xs = frBad 5) := Lib.hid (by rw [hcut, if_pos hf])
                have HF := Lib.hid hf
                clear k0 hcut hlong hsh hf
                go_enter Try.func30, Try.ntmps30
                go_wp2_with fail
                generalize (w.alloc (.cells #[.int .u8 0, .slice none 0 0] 39)) = w1 at *
                have hxl := hx.lt
                refine (inOfZ_any _ 3 c Y w1 ht1 hc3 (by omega)).mono ?_
                rintro e w2 ⟨⟨gi, rfl, hi2⟩, hb2⟩
                have h2 := h1.below hb2
                have hx2 := hx.below hb2 hx.lt
                have hgi := hi2.zone
                have hk2 : Keeps [gt] w w2 := Keeps.of_below (hX.trans (hb2.mono hX.size)) _
                have hsz2 := hb2.size
                clear hb2 h1 ht1 hx
                go_wp2_with fail
                refine (inGet_any _ gi ⟨Y, 0⟩ 1 w2 hi2).mono ?_
                rw [E1.out, E2.out]
                rintro e w3 ⟨rfl, hi3, hk3⟩
                have h3' := h2.keeps hk3 (by simp; omega) (by simp; omega)
                have hx3 := hx2.keeps hk3 (by simp; omega)
                have hK3 : Keeps [gt] w w3 := hk2.trans hk3 (fun i hi => .inr (by rw [show i = gi by simpa using hi]; omega))
                clear hi2 h2 hx2 hk2 hk3
                go_wp2_with fail
                refine (inGet_any _ gi _ 2 w3 hi3).mono ?_
                rw [E3.out, E4.out]
                rintro e w4 ⟨rfl, hi4, hk4⟩
                have h4 := h3'.keeps hk4 (by simp; omega) (by simp; omega)
                have hx4 := hx3.keeps hk4 (by simp; omega)
                have hK4 : Keeps [gt] w w4 := hK3.trans hk4 (fun i hi => .inr (by rw [show i = gi by simpa using hi]; omega))
                clear hi3 h3' hx3 hK3 hk4
                go_wp2_with fail
                refine (inErr_any _ gi _ w4 hi4).mono ?_
                rintro e w5 ⟨rfl, rfl⟩
                clear hi4
                have q0 := h4.blk.cell 0
                have ql := h4.blk.lt
                simp only [List.getElem?_toArray, List.getElem?_cons_zero] at q0
                have htz4 := htz.keeps hK4 (fun _ ad e hm => hgab (by injection e with e; subst e; simpa using hm))
                have hft := crcFits_any gt st (some ⟨ab, ao, none⟩) Z Z (xs.take Z) w4 h4.tab htz4 (Nat.le_refl _) (by omega) (fun _ ad e => by injection e with e; subst e; exact hgab)
                go_wp2_with fail
                clear q0 ql
                rw [HF.out] at hft
                refine hft.mono ?_
                rintro e w5 ⟨rfl, h5t, hk5⟩
                have h5 : CD w5 gc gt true G Bd := ⟨h4.blk.keeps hk5 (by simpa using h4.ne), h5t, h4.ne⟩
                have hx5 := hx4.keeps hk5 (by simp; omega)
                have hK5 : Keeps [gt] w w5 := hK4.trans hk5 (fun i hi => .inl hi)
                clear hft h5t hk5 hx4 hK4 h4
                have x0 := hx5.cell 0
                have x1 := hx5.cell 1
                have xz := hx5.frozen
                have xl := hx5.lt
                simp only [List.getElem?_toArray, List.getElem?_cons_zero, List.getElem?_cons_succ] at x0 x1
                go_wp2_with fail
                have hkW := ((Keeps.refl [w.heap.size] w5).setCell (p := ⟨w.heap.size, 0, none⟩) (.inl (by simp)) (.int .u8 0)).setCell (p := ⟨w.heap.size, 1, none⟩) (.inl (by simp)) (.slice none 0 0)
                have hKW := (hK5.setCell (p := ⟨w.heap.size, 0, none⟩) (.inr (Nat.le_refl _)) (.int .u8 0)).setCell (p := ⟨w.heap.size, 1, none⟩) (.inr (Nat.le_refl _)) (.slice none 0 0)
                have hxW := two_set hx5 (.int .u8 0) (.slice none 0 0)
                generalize (w5.setCell ⟨w.heap.size, 0, none⟩ (.int .u8 0)).setCell ⟨w.heap.size, 1, none⟩ (.slice none 0 0) = W at hkW hKW hxW ⊢
                have y0 := hxW.cell 0
                have y1 := hxW.cell 1
                simp only [List.getElem?_toArray, List.getElem?_cons_zero, List.getElem?_cons_succ] at y0 y1
                refine bodyPost_ret (v := .tuple #[.agg #[.int .u8 0, .slice none 0 0], .int .i64 0, .int .i64 5]) (by simp [results, Try.results30, go_sem, y0, y1]) rfl ⟨?_, ?_, ?_⟩
                · rw [HR.out]
                  exact firstTold_bad _ _ _
                · exact ⟨_, h5.keeps hkW (by simp; omega) (by simp; omega)⟩
                · exact hKW
              | true =>
                have HR : Hid (cutF xs = ⟨K, (xs.drop 3).take L, Z, 0⟩) := Lib.hid (by rw [hcut, if_neg (by rw [hf]; simp)])
                have HF := Lib.hid hf
                have HK256 : Hid ((K.toNat : Int) % 256 = (K.toNat : Int)) := Lib.hid (by clear hw1 hw2 hw3; omega)
                have HKU8 : Hid (IntKind.u8.wrap (K.toNat : Int) = (K.toNat : Int)) := Lib.hid (by rw [IntKind.wrap_u8]; exact HK256.out)
                have hZ3 : ¬ Z = 3 := by omega
                have hZL : (3 : Int) + (L : Int) ≤ (Z : Int) := by omega
                have h3L : (3 : Int) ≤ 3 + (L : Int) := by omega
                have hZL2 : 3 + L ≤ Z := by omega
                clear k0 hcut hlong hsh hf
                go_enter Try.func30, Try.ntmps30
                go_wp2_with fail
                generalize (w.alloc (.cells #[.int .u8 0, .slice none 0 0] 39)) = w1 at *
                have hxl := hx.lt
                refine (inOfZ_any _ 3 c Y w1 ht1 hc3 (by omega)).mono ?_
                rintro e w2 ⟨⟨gi, rfl, hi2⟩, hb2⟩
                have h2 := h1.below hb2
                have hx2 := hx.below hb2 hx.lt
                have hgi := hi2.zone
                have hk2 : Keeps [gt] w w2 := Keeps.of_below (hX.trans (hb2.mono hX.size)) _
                have hsz2 := hb2.size
                clear hb2 h1 ht1 hx
                go_wp2_with fail
                refine (inGet_any _ gi ⟨Y, 0⟩ 1 w2 hi2).mono ?_
                rw [E1.out, E2.out]
                rintro e w3 ⟨rfl, hi3, hk3⟩
                have h3' := h2.keeps hk3 (by simp; omega) (by simp; omega)
                have hx3 := hx2.keeps hk3 (by simp; omega)
                have hK3 : Keeps [gt] w w3 := hk2.trans hk3 (fun i hi => .inr (by rw [show i = gi by simpa using hi]; omega))
                clear hi2 h2 hx2 hk2 hk3
                go_wp2_with fail
                refine (inGet_any _ gi _ 2 w3 hi3).mono ?_
                rw [E3.out, E4.out]
                rintro e w4 ⟨rfl, hi4, hk4⟩
                have h4 := h3'.keeps hk4 (by simp; omega) (by simp; omega)
                have hx4 := hx3.keeps hk4 (by simp; omega)
                have hK4 : Keeps [gt] w w4 := hK3.trans hk4 (fun i hi => .inr (by rw [show i = gi by simpa using hi]; omega))
                clear hi3 h3' hx3 hK3 hk4
                go_wp2_with fail
                refine (inErr_any _ gi _ w4 hi4).mono ?_
                rintro e w5 ⟨rfl, rfl⟩
                clear hi4
                have q0 := h4.blk.cell 0
                have ql := h4.blk.lt
                simp only [List.getElem?_toArray, List.getElem?_cons_zero] at q0
                have htz4 := htz.keeps hK4 (fun _ ad e hm => hgab (by injection e with e; subst e; simpa using hm))
                have hft := crcFits_any gt st (some ⟨ab, ao, none⟩) Z Z (xs.take Z) w4 h4.tab htz4 (Nat.le_refl _) (by omega) (fun _ ad e => by injection e with e; subst e; exact hgab)
                go_wp2_with fail
                clear q0 ql
                rw [HF.out] at hft
                refine hft.mono ?_
                rintro e w5 ⟨rfl, h5t, hk5⟩
                have h5 : CD w5 gc gt true G Bd := ⟨h4.blk.keeps hk5 (by simpa using h4.ne), h5t, h4.ne⟩
                have hx5 := hx4.keeps hk5 (by simp; omega)
                have hK5 : Keeps [gt] w w5 := hK4.trans hk5 (fun i hi => .inl hi)
                have hbd5 := hbody.keeps hK5 (fun _ ad e hm => hgab (by injection e with e; subst e; simpa using hm))
                clear hft h5t hk5 hx4 hK4 h4
                have hku8 := HKU8.out
                have hk256 := HK256.out
                have hLZ : L ≤ Z - 3 := Nat.le_sub_of_add_le (by rw [Nat.add_comm]; exact hZL2)
                have hL6 : L ≤ 1000000 := Nat.le_of_lt (Nat.lt_trans hL (by decide))
                go_wp2_with fail
                clear hku8 hk256 hw1 hw2 hw3
                refine (bytesClone_any (some ⟨ab, ao + 3, none⟩) L (Z - 3) _ w5 hbd5 hLZ hL6).mono ?_
                rintro e w6 ⟨v6, rfl, ho6, hb6⟩
                obtain ⟨A6, c6, rfl, _, _⟩ := own_form ho6
                have h6 := h5.below hb6
                have hx6 := hx5.below hb6 hx5.lt
                have hK6 : Keeps [gt] w w6 := hK5.trans (Keeps.of_below hb6 []) (fun i hi => by cases hi)
                have hs5 := hK5.size
                clear h5 hx5 hK5 hb6
                have x0 := hx6.cell 0
                have x1 := hx6.cell 1
                have xz := hx6.frozen
                have xl := hx6.lt
                simp only [List.getElem?_toArray, List.getElem?_cons_zero, List.getElem?_cons_succ] at x0 x1
                go_wp2_with fail
                have hkW := ((Keeps.refl [w.heap.size] w6).setCell (p := ⟨w.heap.size, 0, none⟩) (.inl (by simp)) (.int .u8 (K.toNat : Int))).setCell (p := ⟨w.heap.size, 1, none⟩) (.inl (by simp)) (.slice A6 L c6)
                have hKW := (hK6.setCell (p := ⟨w.heap.size, 0, none⟩) (.inr (Nat.le_refl _)) (.int .u8 (K.toNat : Int))).setCell (p := ⟨w.heap.size, 1, none⟩) (.inr (Nat.le_refl _)) (.slice A6 L c6)
                have hxW := two_set hx6 (.int .u8 (K.toNat : Int)) (.slice A6 L c6)
                generalize (w6.setCell ⟨w.heap.size, 0, none⟩ (.int .u8 (K.toNat : Int))).setCell ⟨w.heap.size, 1, none⟩ (.slice A6 L c6) = W at hkW hKW hxW ⊢
                have y0 := hxW.cell 0
                have y1 := hxW.cell 1
                simp only [List.getElem?_toArray, List.getElem?_cons_zero, List.getElem?_cons_succ] at y0 y1
                refine bodyPost_ret (v := .tuple #[.agg #[.int .u8 (K.toNat : Int), .slice A6 L c6], .int .i64 (Z : Int), .int .i64 0]) (by simp [results, Try.results30, go_sem, y0, y1]) rfl ⟨?_, ?_, ?_⟩
                · rw [HR.out]
                  refine ⟨A6, c6, ?_, ?_⟩
                  · simp only [hbody.1]
                  · simp only [hbody.1]
                    exact own_rebase (own_keeps ho6 hkW fun i hi hm => own_blk_ne ho6 hx6 (by decide) i hi (by simpa using hm)) fun i hi => Nat.le_trans hs5 (own_ge ho6 i hi)
                · exact ⟨_, h6.keeps hkW (by simp; omega) (by simp; omega)⟩
                · exact hKW
end Go.Proofs.Ytgflgncpjlgeoaa
