/- Contracts: catenaryref03's Cut, Get, Same; frame's Size, Same. -/
import Derived.Test.YtgflgncpjlgeoaaFr5
namespace Go.Proofs.Ytgflgncpjlgeoaa
open Go.RowKit
set_option linter.unusedSimpArgs false
set_option linter.unusedVariables false

/-- A frame that is cut off, its body where it was. -/
def RBody (w' : World) (A A' : Option Addr) (c' : Nat) (R : FrR) : Prop := Rd w' A' R.body.length R.body ∧ R.body.length ≤ c' ∧ (0 < R.body.length → ∀ ad, A' = some ad → ∃ a0, A = some a0 ∧ ad.block = a0.block)
def RCutTold (A : Option Addr) (R : FrR) (e : Ending) (w' : World) : Prop := ∃ A' c', e = .returned (.tuple #[frV R.kind A' R.body.length c', .int .i64 (R.n : Int), .int .i64 R.e]) ∧ RBody w' A A' c' R
theorem rbody_bad (w : World) (A : Option Addr) (er : Int) : RBody w A none 0 (frBad er) := ⟨Rd.nil _ _, Nat.le_refl _, fun h => absurd h (Nat.lt_irrefl 0)⟩

theorem cutF_body_le (b : List UInt8) : (cutF b).body.length ≤ b.length := by
  unfold cutF
  split
  · simp [frBad]
  · split
    · simp [frBad]
    · split
      · simp [frBad]
      · split
        · simp [frBad]
        · split
          · simp [frBad]
          · simp only [List.length_take, List.length_drop]
            omega
theorem RBody.keep {w w2 W : World} {A A' : Option Addr} {n c' : Nat} {xs : List UInt8} {R : FrR} (h : RBody w2 A A' c' R) (ha : Rd w A n xs) (hle : R.body.length ≤ n) (h1 : Below w.heap.size w w2) (h2 : Below w.heap.size w W) : RBody W A A' c' R :=
  ⟨h.1.keep fun h0 ad e => by
    obtain ⟨a0, e0, e1⟩ := h.2.2 h0 ad e
    have hlt := ha.lt (Nat.lt_of_lt_of_le h0 hle) a0 e0
    rw [e1]
    exact (h2.block _ hlt).trans (h1.block _ hlt).symm, h.2.1, h.2.2⟩

set_option maxRecDepth 100000 in
set_option maxHeartbeats 4000000 in
theorem refCut3_any (A : Option Addr) (n c : Nat) (xs : List UInt8) (w : World) (ha : Rd w A n xs) (hc : n ≤ c) (hn : n ≤ 1000000) :
    Calls Try.prog 25 #[.slice A n c] w fun e w' => RCutTold A (cutF xs) e w' ∧ Below w.heap.size w w' := by
  have HX := Lib.hid ha.1
  have hX : Below w.heap.size w (w.alloc (.cells #[.int .u8 0, .slice none 0 0] 25)) := (Below.refl _ _).alloc (Nat.le_refl _) _
  have hx := Blk.new w 25 #[.int .u8 0, .slice none 0 0]
  have hsX := hX.size
  by_cases h3 : n < 3
  · have HR : Hid (cutF xs = frBad 3) := Lib.hid (by unfold cutF; rw [if_pos (by rw [ha.1]; exact h3)])
    have t3 : (n : Int) < 3 := by omega
    clear h3
    go_enter Try.func25, Try.ntmps25
    go_wp2_with fail
    refine bodyPost_ret (v := .tuple #[.agg #[.int .u8 0, .slice none 0 0], .int .i64 0, .int .i64 3]) (by simp [results, Try.results25, go_sem]) rfl ⟨?_, ?_⟩
    · rw [HR.out]
      exact ⟨none, 0, rfl, rbody_bad _ _ _⟩
    · exact hX
  · have t3 : ¬ (n : Int) < 3 := by omega
    have hcut : cutF xs = if xs.getD 0 0 = 0 then frBad 4 else if 16384 < lenF xs then frBad 6 else if n < lenF xs + 7 then frBad 3
      else if fitsC (xs.take (lenF xs + 7)) = false then frBad 5 else ⟨xs.getD 0 0, (xs.drop 3).take (lenF xs), lenF xs + 7, 0⟩ := by
      unfold cutF
      rw [if_neg (by rw [ha.1]; exact h3), ha.1]
    obtain ⟨ab, ao, rfl, hcell⟩ := ha.2.2 (by omega)
    have hc0 := hcell 0 (by omega)
    have hablt := block_lt_of_cell hc0
    simp only at hablt
    rw [Nat.add_zero] at hc0
    have hd1 := ha.cut (k := 1) (by omega) hc
    rw [if_neg (by omega), Option.map_some, add_lit0] at hd1
    have hnum := hd1.take (k := 2) (by omega)
    have hL : lenF xs < 65536 := by
      have := beN_lt ((xs.drop 1).take 2)
      have h2 : ((xs.drop 1).take 2).length ≤ 2 := List.length_take_le _ _
      have h3 : 256 ^ ((xs.drop 1).take 2).length ≤ 256 ^ 2 := Nat.pow_le_pow_right (by omega) h2
      unfold lenF
      omega
    have hln : beN ((xs.drop 1).take 2) = lenF xs := rfl
    obtain ⟨NB, hNB⟩ : ∃ z, (xs.drop 1).take 2 = z := ⟨_, rfl⟩
    rw [hNB] at hnum hln
    obtain ⟨K, hK⟩ : ∃ z, xs.getD 0 0 = z := ⟨_, rfl⟩
    obtain ⟨L, hLL⟩ : ∃ z, lenF xs = z := ⟨_, rfl⟩
    rw [hK, hLL] at hcut
    rw [hK] at hc0
    rw [hLL] at hL hln
    have hn0 : (0 : Int) < (n : Int) := by omega
    have hn0' : 0 < n := by omega
    have hc3 : 3 ≤ c := by omega
    have hc3' : ¬ c = 1 := by omega
    have hnumX := hnum.below_ hX
    have hc0X := (hX.cell (p := ⟨ab, ao, none⟩) hablt).trans hc0
    have hw1 : IntKind.i64.wrap (L : Int) = (L : Int) := by rw [IntKind.wrap_i64]; omega
    have hw3 : IntKind.i64.wrap ((L : Int) + 7) = ((L + 7 : Nat) : Int) := by rw [IntKind.wrap_i64]; omega
    have hw2 : IntKind.i64.wrap ((L : Int) + 3) = 3 + (L : Int) := by rw [IntKind.wrap_i64]; omega
    obtain ⟨Z, hZ⟩ : ∃ z, L + 7 = z := ⟨_, rfl⟩
    rw [hZ] at hcut hw3
    have hnc := fun W h => refNum_any (some ⟨ab, ao + 1, none⟩) 2 (c - 1) NB W h (by omega)
    simp only [hln] at hnc
    have hab1 : ab < (w.alloc (.cells #[.int .u8 0, .slice none 0 0] 25)).heap.size := by omega
    have habn : ab ≠ w.heap.size := by omega
    clear hcell hd1 hNB hK hLL hln hnum
    by_cases k0 : K = 0
    · have HR : Hid (cutF xs = frBad 4) := Lib.hid (by rw [hcut, if_pos k0])
      have tk : ((K.toNat : Int) == 0) = true := by rw [k0]; rfl
      clear k0 hcut h3
      go_enter Try.func25, Try.ntmps25
      go_wp2_with fail
      refine bodyPost_ret (v := .tuple #[.agg #[.int .u8 0, .slice none 0 0], .int .i64 0, .int .i64 4]) (by simp [results, Try.results25, go_sem]) rfl ⟨?_, ?_⟩
      · rw [HR.out]
        exact ⟨none, 0, rfl, rbody_bad _ _ _⟩
      · exact hX
    · have tk : ((K.toNat : Int) == 0) = false := by
        simp
        intro h0
        exact k0 (UInt8.toNat_inj.1 h0)
      rw [if_neg k0] at hcut
      by_cases hlong : 16384 < L
      · have HR : Hid (cutF xs = frBad 6) := Lib.hid (by rw [hcut, if_pos hlong])
        have tl : (16384 : Int) < (L : Int) := by omega
        clear k0 hcut hlong h3
        go_enter Try.func25, Try.ntmps25
        go_wp2_with fail
        generalize (w.alloc (.cells #[.int .u8 0, .slice none 0 0] 25)) = w1 at *
        refine (hnc w1 hnumX).mono ?_
        rintro e w2 ⟨rfl, rfl⟩
        have x0 := hx.cell 0
        have x1 := hx.cell 1
        have xz := hx.frozen
        have xl := hx.lt
        simp only [List.getElem?_toArray, List.getElem?_cons_zero, List.getElem?_cons_succ] at x0 x1
        go_wp2_with fail
        clear hnc
        go_wp2_with fail
        have hxW := two_set hx (.int .u8 0) (.slice none 0 0)
        have hkW := ((Keeps.refl [w.heap.size] w1).setCell (p := ⟨w.heap.size, 0, none⟩) (.inl (by simp)) (.int .u8 0)).setCell (p := ⟨w.heap.size, 1, none⟩) (.inl (by simp)) (.slice none 0 0)
        generalize (w1.setCell ⟨w.heap.size, 0, none⟩ (.int .u8 0)).setCell ⟨w.heap.size, 1, none⟩ (.slice none 0 0) = W at hkW hxW ⊢
        have y0 := hxW.cell 0
        have y1 := hxW.cell 1
        simp only [List.getElem?_toArray, List.getElem?_cons_zero, List.getElem?_cons_succ] at y0 y1
        refine bodyPost_ret (v := .tuple #[.agg #[.int .u8 0, .slice none 0 0], .int .i64 0, .int .i64 6]) (by simp [results, Try.results25, go_sem, y0, y1]) rfl ⟨?_, ?_⟩
        · rw [HR.out]
          exact ⟨none, 0, rfl, rbody_bad _ _ _⟩
        · exact hX.trans (hkW.below hX.size (by simp))
      · have tl : ¬ (16384 : Int) < (L : Int) := by omega
        rw [if_neg hlong] at hcut
        by_cases hsh : n < Z
        · have HR : Hid (cutF xs = frBad 3) := Lib.hid (by rw [hcut, if_pos hsh])
          have ts : (n : Int) < (Z : Int) := by omega
          clear k0 hcut hlong h3 hsh
          go_enter Try.func25, Try.ntmps25
          go_wp2_with fail
          generalize (w.alloc (.cells #[.int .u8 0, .slice none 0 0] 25)) = w1 at *
          refine (hnc w1 hnumX).mono ?_
          rintro e w2 ⟨rfl, rfl⟩
          have x0 := hx.cell 0
          have x1 := hx.cell 1
          have xz := hx.frozen
          have xl := hx.lt
          simp only [List.getElem?_toArray, List.getElem?_cons_zero, List.getElem?_cons_succ] at x0 x1
          go_wp2_with fail
          clear hnc
          go_wp2_with fail
          have hxW := two_set hx (.int .u8 0) (.slice none 0 0)
          have hkW := ((Keeps.refl [w.heap.size] w1).setCell (p := ⟨w.heap.size, 0, none⟩) (.inl (by simp)) (.int .u8 0)).setCell (p := ⟨w.heap.size, 1, none⟩) (.inl (by simp)) (.slice none 0 0)
          generalize (w1.setCell ⟨w.heap.size, 0, none⟩ (.int .u8 0)).setCell ⟨w.heap.size, 1, none⟩ (.slice none 0 0) = W at hkW hxW ⊢
          have y0 := hxW.cell 0
          have y1 := hxW.cell 1
          simp only [List.getElem?_toArray, List.getElem?_cons_zero, List.getElem?_cons_succ] at y0 y1
          refine bodyPost_ret (v := .tuple #[.agg #[.int .u8 0, .slice none 0 0], .int .i64 0, .int .i64 3]) (by simp [results, Try.results25, go_sem, y0, y1]) rfl ⟨?_, ?_⟩
          · rw [HR.out]
            exact ⟨none, 0, rfl, rbody_bad _ _ _⟩
          · exact hX.trans (hkW.below hX.size (by simp))
        · have ts : ¬ (n : Int) < (Z : Int) := by omega
          rw [if_neg hsh] at hcut
          have hZn : Z ≤ n := by omega
          have hZc : Z ≤ c := by omega
          have htz : Rd w (some ⟨ab, ao, none⟩) Z (xs.take Z) := ha.take hZn
          have hft := fun W h => refFits_any (some ⟨ab, ao, none⟩) Z c (xs.take Z) W h hZc (by omega)
          have htz1 := htz.below_ hX
          have hdr := ha.cut (k := 3) (by omega) hc
          rw [if_neg (by omega), Option.map_some, add_lit0] at hdr
          have hbody := hdr.take (k := L) (by omega)
          have hcc3 : ¬ c = 3 := by omega
          have hcL : 3 + (L : Int) ≤ (c : Int) := by omega
          have hcL2 : 3 + L ≤ c := by omega
          have hLc : L ≤ c - 3 := by omega
          have h3L : (3 : Int) ≤ 3 + (L : Int) := by omega
          have hL3 : (3 + (L : Int)).toNat - 3 = L := by omega
          clear hdr
          cases hf : fitsC (xs.take Z) with
          | false =>
            have HR : Hid (cutF xs = frBad 5) := Lib.hid (by rw [hcut, if_pos hf])
            simp only [hf] at hft
            clear k0 hcut hlong hsh hf h3
            go_enter Try.func25, Try.ntmps25
            go_wp2_with fail
            generalize (w.alloc (.cells #[.int .u8 0, .slice none 0 0] 25)) = w1 at *
            refine (hnc w1 hnumX).mono ?_
            rintro e w2 ⟨rfl, rfl⟩
            have x0 := hx.cell 0
            have x1 := hx.cell 1
            have xz := hx.frozen
            have xl := hx.lt
            simp only [List.getElem?_toArray, List.getElem?_cons_zero, List.getElem?_cons_succ] at x0 x1
            go_wp2_with fail
            clear hnc
            refine (hft w1 htz1).mono ?_
            rintro e w2 ⟨rfl, hb2⟩
            have hB2 := hX.trans (hb2.mono hsX)
            have hx2 := hx.below hb2 hx.lt
            clear hft htz1 hb2 hx hX hnumX
            have x0 := hx2.cell 0
            have x1 := hx2.cell 1
            have xz := hx2.frozen
            have xl := hx2.lt
            simp only [List.getElem?_toArray, List.getElem?_cons_zero, List.getElem?_cons_succ] at x0 x1
            go_wp2_with fail
            have hxW := two_set hx2 (.int .u8 0) (.slice none 0 0)
            have hkW := ((Keeps.refl [w.heap.size] w2).setCell (p := ⟨w.heap.size, 0, none⟩) (.inl (by simp)) (.int .u8 0)).setCell (p := ⟨w.heap.size, 1, none⟩) (.inl (by simp)) (.slice none 0 0)
            generalize (w2.setCell ⟨w.heap.size, 0, none⟩ (.int .u8 0)).setCell ⟨w.heap.size, 1, none⟩ (.slice none 0 0) = W at hkW hxW ⊢
            have y0 := hxW.cell 0
            have y1 := hxW.cell 1
            simp only [List.getElem?_toArray, List.getElem?_cons_zero, List.getElem?_cons_succ] at y0 y1
            refine bodyPost_ret (v := .tuple #[.agg #[.int .u8 0, .slice none 0 0], .int .i64 0, .int .i64 5]) (by simp [results, Try.results25, go_sem, y0, y1]) rfl ⟨?_, ?_⟩
            · rw [HR.out]
              exact ⟨none, 0, rfl, rbody_bad _ _ _⟩
            · exact hB2.trans (hkW.below hB2.size (by simp))
          | true =>
            have HR : Hid (cutF xs = ⟨K, (xs.drop 3).take L, Z, 0⟩) := Lib.hid (by rw [hcut, if_neg (by rw [hf]; simp)])
            simp only [hf] at hft
            have hbl := hbody.1
            have HBL := Lib.hid hbl
            clear k0 hcut hlong hsh hf h3 hbl
            go_enter Try.func25, Try.ntmps25
            go_wp2_with fail
            generalize (w.alloc (.cells #[.int .u8 0, .slice none 0 0] 25)) = w1 at *
            refine (hnc w1 hnumX).mono ?_
            rintro e w2 ⟨rfl, rfl⟩
            have x0 := hx.cell 0
            have x1 := hx.cell 1
            have xz := hx.frozen
            have xl := hx.lt
            simp only [List.getElem?_toArray, List.getElem?_cons_zero, List.getElem?_cons_succ] at x0 x1
            go_wp2_with fail
            clear hnc
            refine (hft w1 htz1).mono ?_
            rintro e w2 ⟨rfl, hb2⟩
            have hB2 := hX.trans (hb2.mono hsX)
            have hx2 := hx.below hb2 hx.lt
            have hc02 := (hB2.cell (p := ⟨ab, ao, none⟩) hablt).trans hc0
            have hab2 : ab < w2.heap.size := Nat.lt_of_lt_of_le hab1 hb2.size
            clear hft htz1 hb2 hx hX hnumX hc0X
            go_wp2_with fail
            refine wp_region_writes [w.heap.size] 11 10 (fun v W => Blk W w.heap.size 25 #[.int .u8 (K.toNat : Int), .slice (some ⟨ab, ao + 3, none⟩) L (c - 3)]) [] (by kernel_rfl) (by kernel_rfl) rfl trivial (fun v W W' hk h => h.keeps hk (by simp)) (by kernel_rfl) ?_
            simp only [List.take_succ_cons, List.take_zero, List.drop_succ_cons, List.drop_zero]
            iterate 2 refine dep_reckons rfl (by kernel_rfl) (fun W hG hF' => by go_simp <;> rfl) (by simp only [Act.put, List.setIfInBounds_toArray, List.set_cons_zero, List.set_cons_succ]; rfl) ?_
            refine dep_reckons (c := .int .u8 (K.toNat : Int)) rfl (by kernel_rfl) (fun W hG hF' => ?_) (by simp only [Act.put, List.setIfInBounds_toArray, List.set_cons_zero, List.set_cons_succ]; rfl) ?_
            · have m1 := ((keeps_drew hG).cell (p := ⟨ab, ao, none⟩) hab2 (by simpa using habn)).trans hc02
              have m2 := (keeps_drew hG).size
              have m3 : ab < W.heap.size := Nat.lt_of_lt_of_le hab2 m2
              go_simp <;> rfl
            iterate 3 refine dep_reckons rfl (by kernel_rfl) (fun W hG hF' => by go_simp <;> rfl) (by simp only [Act.put, List.setIfInBounds_toArray, List.set_cons_zero, List.set_cons_succ]; rfl) ?_
            refine dep_reckons (c := .slice (some ⟨ab, ao + 3, none⟩) L (c - 3)) rfl (by kernel_rfl) (fun W hG hF' => by go_simp <;> first | rfl | exact hL3 | (rw [hL3]; rfl)) (by simp only [Act.put, List.setIfInBounds_toArray, List.set_cons_zero, List.set_cons_succ]; rfl) ?_
            iterate 3 refine dep_reckons rfl (by kernel_rfl) (fun W hG hF' => by go_simp <;> rfl) (by simp only [Act.put, List.setIfInBounds_toArray, List.set_cons_zero, List.set_cons_succ]; rfl) ?_
            refine dep_last rfl (by kernel_rfl) (fun W hG hF' => ?_) (fun v1 => ?_)
            · have hxW := hx2.keeps (keeps_drew hG) (by simp)
              have hs := two_set hxW (.int .u8 (K.toNat : Int)) (.slice (some ⟨ab, ao + 3, none⟩) L (c - 3))
              have x0 := hxW.cell 0
              have x1 := hxW.cell 1
              have xz := hxW.frozen
              have xl := hxW.lt
              simp only [List.getElem?_toArray, List.getElem?_cons_zero, List.getElem?_cons_succ] at x0 x1
              unfold opGives
              go_simp
              first
                | exact ⟨hs, ((Keeps.refl [w.heap.size] W).setCell (p := ⟨w.heap.size, 0, none⟩) (.inl (by simp)) _).setCell (p := ⟨w.heap.size, 1, none⟩) (.inl (by simp)) _⟩
                | exact ((Keeps.refl [w.heap.size] W).setCell (p := ⟨w.heap.size, 0, none⟩) (.inl (by simp)) _).setCell (p := ⟨w.heap.size, 1, none⟩) (.inl (by simp)) _
            simp only [Act.put, List.setIfInBounds_toArray, List.set_cons_zero, List.set_cons_succ]
            refine dep_nil fun W hG hF2 => ?_
            have hxW := hF2 _ List.mem_cons_self
            have hkW := keeps_drew hG
            have hBW : Below w.heap.size w W := hB2.trans (hkW.below hB2.size (by simp))
            clear hF2 hG hkW hx2 hB2 hc02 hab2
            have y0 := hxW.cell 0
            have y1 := hxW.cell 1
            simp only [List.getElem?_toArray, List.getElem?_cons_zero, List.getElem?_cons_succ] at y0 y1
            go_wp2_with fail
            refine bodyPost_ret (v := .tuple #[.agg #[.int .u8 (K.toNat : Int), .slice (some ⟨ab, ao + 3, none⟩) L (c - 3)], .int .i64 (Z : Int), .int .i64 0]) (by simp [results, Try.results25, go_sem, y0, y1]) rfl ⟨?_, hBW⟩
            rw [HR.out]
            refine ⟨some ⟨ab, ao + 3, none⟩, c - 3, ?_, ?_⟩
            · simp only [frV, HBL.out]
            · unfold RBody
              simp only [HBL.out]
              exact ⟨hbody.below_ hBW, hLc, fun _ ad e => ⟨_, rfl, by injection e with e; subst e; rfl⟩⟩

/-- A frame and an error, its body where it was. -/
def RGetTold (A : Option Addr) (R : FrR) (e : Ending) (w' : World) : Prop := ∃ A' c', e = .returned (.tuple #[frV R.kind A' R.body.length c', .int .i64 R.e]) ∧ RBody w' A A' c' R
set_option maxRecDepth 100000 in
set_option maxHeartbeats 4000000 in
theorem refGet3_any (A : Option Addr) (n c : Nat) (xs : List UInt8) (w : World) (ha : Rd w A n xs) (hc : n ≤ c) (hn : n ≤ 1000000) :
    Calls Try.prog 26 #[.slice A n c] w fun e w' => RGetTold A (getF xs) e w' ∧ Below w.heap.size w w' := by
  have HX := Lib.hid ha.1
  have hX : Below w.heap.size w (w.alloc (.cells #[.int .u8 0, .slice none 0 0] 25)) := (Below.refl _ _).alloc (Nat.le_refl _) _
  have hx := Blk.new w 25 #[.int .u8 0, .slice none 0 0]
  have hsX := hX.size
  have ha1 := ha.below_ hX
  have hcu := fun W h => refCut3_any A n c xs W h hc hn
  by_cases hsp : (cutF xs).e = 0 ∧ (cutF xs).n < n
  · have hg : getF xs = frBad 4 := by unfold getF; rw [HX.out, if_pos hsp]
    rw [hg]
    obtain ⟨R, hR⟩ : ∃ z, cutF xs = z := ⟨_, rfl⟩
    rw [hR] at hsp
    simp only [hR] at hcu
    obtain ⟨K, BB, N, E⟩ := R
    simp only at hsp
    obtain ⟨rfl, hlt⟩ := hsp
    have t : (N : Int) < (n : Int) := Int.ofNat_lt.2 hlt
    clear hR hg hlt
    go_enter Try.func26, Try.ntmps26
    go_wp2_with fail
    generalize (w.alloc (.cells #[.int .u8 0, .slice none 0 0] 25)) = w1 at *
    refine (hcu w1 ha1).mono ?_
    rintro e w2 ⟨⟨A2, c2, rfl, hbd⟩, hb2⟩
    have hx2 := hx.below hb2 hx.lt
    have hB2 := hX.trans (hb2.mono hsX)
    simp only [frV] at hbd ⊢
    have hY : Below w2.heap.size w2 (w2.alloc (.cells #[.int .u8 (K.toNat : Int), .slice A2 BB.length c2] 25)) := (Below.refl _ _).alloc (Nat.le_refl _) _
    have hy := Blk.new w2 25 #[.int .u8 (K.toNat : Int), .slice A2 BB.length c2]
    have hx3 := hx2.below hY hx2.lt
    have hB3 := hB2.trans (hY.mono hB2.size)
    have hne : w2.heap.size ≠ w.heap.size := by have := hx2.lt; omega
    have hB3' := hB2
    clear hcu hx2 hB2 hb2 hx hX ha1
    have x0 := hx3.cell 0
    have x1 := hx3.cell 1
    have xz := hx3.frozen
    have xl := hx3.lt
    simp only [List.getElem?_toArray, List.getElem?_cons_zero, List.getElem?_cons_succ] at x0 x1
    have z0 := hy.cell 0
    have z1 := hy.cell 1
    have zl := hy.lt
    simp only [List.getElem?_toArray, List.getElem?_cons_zero, List.getElem?_cons_succ] at z0 z1
    go_wp2_with fail
    generalize (w2.alloc (.cells #[.int .u8 (K.toNat : Int), .slice A2 BB.length c2] 25)) = w3 at *
    have hxW := two_set hx3 (.int .u8 0) (.slice none 0 0)
    have hkW := ((Keeps.refl [w.heap.size] w3).setCell (p := ⟨w.heap.size, 0, none⟩) (.inl (by simp)) (.int .u8 0)).setCell (p := ⟨w.heap.size, 1, none⟩) (.inl (by simp)) (.slice none 0 0)
    generalize (w3.setCell ⟨w.heap.size, 0, none⟩ (.int .u8 0)).setCell ⟨w.heap.size, 1, none⟩ (.slice none 0 0) = W at hkW hxW ⊢
    have y0 := hxW.cell 0
    have y1 := hxW.cell 1
    simp only [List.getElem?_toArray, List.getElem?_cons_zero, List.getElem?_cons_succ] at y0 y1
    refine bodyPost_ret (v := .tuple #[.agg #[.int .u8 0, .slice none 0 0], .int .i64 4]) (by simp [results, Try.results26, go_sem, y0, y1]) rfl ⟨?_, ?_⟩
    · exact ⟨none, 0, rfl, rbody_bad _ _ _⟩
    · exact hB3.trans (hkW.below hB3.size (by simp))
  · have hg : getF xs = cutF xs := by unfold getF; rw [HX.out, if_neg hsp]
    rw [hg]
    obtain ⟨R, hR⟩ : ∃ z, cutF xs = z := ⟨_, rfl⟩
    have hle := cutF_body_le xs
    rw [HX.out] at hle
    rw [hR] at hsp hle ⊢
    simp only [hR] at hcu
    obtain ⟨K, BB, N, E⟩ := R
    simp only at hsp
    clear hR hg
    rcases (by omega : (¬ E = 0) ∨ (E = 0 ∧ ¬ N < n)) with hE | ⟨rfl, hlt⟩
    · have t : (E == 0) = false := by simp [hE]
      clear hsp hE
      go_enter Try.func26, Try.ntmps26
      go_wp2_with fail
      generalize (w.alloc (.cells #[.int .u8 0, .slice none 0 0] 25)) = w1 at *
      refine (hcu w1 ha1).mono ?_
      rintro e w2 ⟨⟨A2, c2, rfl, hbd⟩, hb2⟩
      have hx2 := hx.below hb2 hx.lt
      have hB2 := hX.trans (hb2.mono hsX)
      simp only [frV] at hbd ⊢
      have hY : Below w2.heap.size w2 (w2.alloc (.cells #[.int .u8 (K.toNat : Int), .slice A2 BB.length c2] 25)) := (Below.refl _ _).alloc (Nat.le_refl _) _
      have hy := Blk.new w2 25 #[.int .u8 (K.toNat : Int), .slice A2 BB.length c2]
      have hx3 := hx2.below hY hx2.lt
      have hB3 := hB2.trans (hY.mono hB2.size)
      have hne : w2.heap.size ≠ w.heap.size := by have := hx2.lt; omega
      have hB3' := hB2
      clear hcu hx2 hB2 hb2 hx hX ha1
      have x0 := hx3.cell 0
      have x1 := hx3.cell 1
      have xz := hx3.frozen
      have xl := hx3.lt
      simp only [List.getElem?_toArray, List.getElem?_cons_zero, List.getElem?_cons_succ] at x0 x1
      have z0 := hy.cell 0
      have z1 := hy.cell 1
      have zl := hy.lt
      simp only [List.getElem?_toArray, List.getElem?_cons_zero, List.getElem?_cons_succ] at z0 z1
      go_wp2_with fail
      generalize (w2.alloc (.cells #[.int .u8 (K.toNat : Int), .slice A2 BB.length c2] 25)) = w3 at *
      have hxW := two_set hx3 (.int .u8 (K.toNat : Int)) (.slice A2 BB.length c2)
      have hkW := ((Keeps.refl [w.heap.size] w3).setCell (p := ⟨w.heap.size, 0, none⟩) (.inl (by simp)) (.int .u8 (K.toNat : Int))).setCell (p := ⟨w.heap.size, 1, none⟩) (.inl (by simp)) (.slice A2 BB.length c2)
      generalize (w3.setCell ⟨w.heap.size, 0, none⟩ (.int .u8 (K.toNat : Int))).setCell ⟨w.heap.size, 1, none⟩ (.slice A2 BB.length c2) = W at hkW hxW ⊢
      have y0 := hxW.cell 0
      have y1 := hxW.cell 1
      simp only [List.getElem?_toArray, List.getElem?_cons_zero, List.getElem?_cons_succ] at y0 y1
      have hBW := hB3.trans (hkW.below hB3.size (by simp))
      refine bodyPost_ret (v := .tuple #[.agg #[.int .u8 (K.toNat : Int), .slice A2 BB.length c2], .int .i64 E]) (by simp [results, Try.results26, go_sem, y0, y1]) rfl ⟨?_, ?_⟩
      · exact ⟨A2, c2, rfl, hbd.keep ha hle hB3' hBW⟩
      · exact hBW
    · have t : ¬ (N : Int) < (n : Int) := fun h => hlt (Int.ofNat_lt.1 h)
      clear hsp hlt
      go_enter Try.func26, Try.ntmps26
      go_wp2_with fail
      generalize (w.alloc (.cells #[.int .u8 0, .slice none 0 0] 25)) = w1 at *
      refine (hcu w1 ha1).mono ?_
      rintro e w2 ⟨⟨A2, c2, rfl, hbd⟩, hb2⟩
      have hx2 := hx.below hb2 hx.lt
      have hB2 := hX.trans (hb2.mono hsX)
      simp only [frV] at hbd ⊢
      have hY : Below w2.heap.size w2 (w2.alloc (.cells #[.int .u8 (K.toNat : Int), .slice A2 BB.length c2] 25)) := (Below.refl _ _).alloc (Nat.le_refl _) _
      have hy := Blk.new w2 25 #[.int .u8 (K.toNat : Int), .slice A2 BB.length c2]
      have hx3 := hx2.below hY hx2.lt
      have hB3 := hB2.trans (hY.mono hB2.size)
      have hne : w2.heap.size ≠ w.heap.size := by have := hx2.lt; omega
      have hB3' := hB2
      clear hcu hx2 hB2 hb2 hx hX ha1
      have x0 := hx3.cell 0
      have x1 := hx3.cell 1
      have xz := hx3.frozen
      have xl := hx3.lt
      simp only [List.getElem?_toArray, List.getElem?_cons_zero, List.getElem?_cons_succ] at x0 x1
      have z0 := hy.cell 0
      have z1 := hy.cell 1
      have zl := hy.lt
      simp only [List.getElem?_toArray, List.getElem?_cons_zero, List.getElem?_cons_succ] at z0 z1
      go_wp2_with fail
      generalize (w2.alloc (.cells #[.int .u8 (K.toNat : Int), .slice A2 BB.length c2] 25)) = w3 at *
      have hxW := two_set hx3 (.int .u8 (K.toNat : Int)) (.slice A2 BB.length c2)
      have hkW := ((Keeps.refl [w.heap.size] w3).setCell (p := ⟨w.heap.size, 0, none⟩) (.inl (by simp)) (.int .u8 (K.toNat : Int))).setCell (p := ⟨w.heap.size, 1, none⟩) (.inl (by simp)) (.slice A2 BB.length c2)
      generalize (w3.setCell ⟨w.heap.size, 0, none⟩ (.int .u8 (K.toNat : Int))).setCell ⟨w.heap.size, 1, none⟩ (.slice A2 BB.length c2) = W at hkW hxW ⊢
      have y0 := hxW.cell 0
      have y1 := hxW.cell 1
      simp only [List.getElem?_toArray, List.getElem?_cons_zero, List.getElem?_cons_succ] at y0 y1
      have hBW := hB3.trans (hkW.below hB3.size (by simp))
      refine bodyPost_ret (v := .tuple #[.agg #[.int .u8 (K.toNat : Int), .slice A2 BB.length c2], .int .i64 0]) (by simp [results, Try.results26, go_sem, y0, y1]) rfl ⟨?_, ?_⟩
      · exact ⟨A2, c2, rfl, hbd.keep ha hle hB3' hBW⟩
      · exact hBW
end Go.Proofs.Ytgflgncpjlgeoaa
