/- Contracts: frame's Size, Same; catenaryref03's Same; the walk of FramePuts. -/
import Derived.Test.YtgflgncpjlgeoaaFr5
namespace Go.Proofs.Ytgflgncpjlgeoaa
open Go.RowKit
set_option linter.unusedSimpArgs false
set_option linter.unusedVariables false

set_option maxHeartbeats 1000000 in
theorem size_any (k : UInt8) (A : Option Addr) (n c : Nat) (w : World) (hn : n ≤ 1000000) : Calls Try.prog 22 #[frV k A n c] w fun e w' => e = .returned (.int .i64 ((n + 7 : Nat) : Int)) ∧ Below w.heap.size w w' := by
  unfold frV
  have hX : Below w.heap.size w (w.alloc (.cells #[.int .u8 (k.toNat : Int), .slice A n c] 39)) := (Below.refl _ _).alloc (Nat.le_refl _) _
  have hw1 : IntKind.i64.wrap (3 + (n : Int)) = 3 + (n : Int) := by rw [IntKind.wrap_i64]; omega
  have hw2 : IntKind.i64.wrap (3 + (n : Int) + 4) = ((n + 7 : Nat) : Int) := by rw [IntKind.wrap_i64]; omega
  obtain ⟨Z, hZ⟩ : ∃ z, n + 7 = z := ⟨_, rfl⟩
  rw [hZ] at hw2 ⊢
  clear hZ
  go_enter Try.func22, Try.ntmps22
  go_wp2_with fail
  go_ret
  exact ⟨rfl, hX⟩

set_option maxRecDepth 100000 in
set_option maxHeartbeats 2000000 in
theorem frameSame_any (k k2 : UInt8) (A B : Option Addr) (n m c d : Nat) (xs ys : List UInt8) (w : World) (ha : Rd w A n xs) (hb : Rd w B m ys) :
    Calls Try.prog 23 #[frV k A n c, frV k2 B m d] w fun e w' => e = .returned (.bool (decide (k = k2 ∧ xs = ys))) ∧ Below w.heap.size w w' := by
  unfold frV
  have hX : Below w.heap.size w (w.alloc (.cells #[.int .u8 (k.toNat : Int), .slice A n c] 39)) := (Below.refl _ _).alloc (Nat.le_refl _) _
  have hY := fun (W : World) => ((Below.refl W.heap.size W).alloc (Nat.le_refl _) (.cells #[.int .u8 (k2.toNat : Int), .slice B m d] 39))
  have he := u8_eq_int k k2
  by_cases hk : k = k2
  · have HF : Hid (decide (k = k2 ∧ xs = ys) = decide (xs = ys)) := Lib.hid (by simp [hk])
    rw [decide_eq_true hk] at he
    clear hk
    go_enter Try.func23, Try.ntmps23
    go_wp2_with fail
    have hb2 := hX.trans ((hY _).mono hX.size)
    generalize ((w.alloc (.cells #[.int .u8 (k.toNat : Int), .slice A n c] 39)).alloc (.cells #[.int .u8 (k2.toNat : Int), .slice B m d] 39)) = w2 at hb2 ⊢
    refine (bytesEqual_any A B n m c d xs ys w2 (ha.below_ hb2) (hb.below_ hb2)).mono ?_
    rintro e w3 ⟨rfl, hd3⟩
    have hB3 : Below w.heap.size w w3 := by first | exact hb2.trans ((hd3.below _).mono hb2.size) | (subst hd3; exact hb2)
    clear hX hY hd3 hb2
    go_wp2_with fail
    go_ret
    exact ⟨by rw [HF.out]; rfl, hB3⟩
  · have HF : Hid (decide (k = k2 ∧ xs = ys) = false) := Lib.hid (by simp [hk])
    rw [decide_eq_false hk] at he
    have hb2 := hX.trans ((hY _).mono hX.size)
    clear hk
    go_enter Try.func23, Try.ntmps23
    go_wp2_with fail
    go_ret
    exact ⟨by rw [HF.out]; rfl, hb2⟩
set_option maxRecDepth 100000 in
set_option maxHeartbeats 2000000 in
theorem refSame3_any (k k2 : UInt8) (A B : Option Addr) (n m c d : Nat) (xs ys : List UInt8) (w : World) (ha : Rd w A n xs) (hb : Rd w B m ys) :
    Calls Try.prog 24 #[frV k A n c, frV k2 B m d] w fun e w' => e = .returned (.bool (decide (k = k2 ∧ xs = ys))) ∧ Below w.heap.size w w' := by
  unfold frV
  have hX : Below w.heap.size w (w.alloc (.cells #[.int .u8 (k.toNat : Int), .slice A n c] 25)) := (Below.refl _ _).alloc (Nat.le_refl _) _
  have hY := fun (W : World) => ((Below.refl W.heap.size W).alloc (Nat.le_refl _) (.cells #[.int .u8 (k2.toNat : Int), .slice B m d] 25))
  have he := u8_eq_int k k2
  by_cases hk : k = k2
  · have HF : Hid (decide (k = k2 ∧ xs = ys) = decide (xs = ys)) := Lib.hid (by simp [hk])
    rw [decide_eq_true hk] at he
    clear hk
    go_enter Try.func24, Try.ntmps24
    go_wp2_with fail
    have hb2 := hX.trans ((hY _).mono hX.size)
    generalize ((w.alloc (.cells #[.int .u8 (k.toNat : Int), .slice A n c] 25)).alloc (.cells #[.int .u8 (k2.toNat : Int), .slice B m d] 25)) = w2 at hb2 ⊢
    refine (Same_any A B n m c d xs ys w2 (ha.below_ hb2) (hb.below_ hb2)).mono ?_
    rintro e w3 ⟨rfl, hd3⟩
    have hB3 : Below w.heap.size w w3 := by first | exact hb2.trans ((hd3.below _).mono hb2.size) | (subst hd3; exact hb2)
    clear hX hY hd3 hb2
    go_wp2_with fail
    go_ret
    exact ⟨by rw [HF.out]; rfl, hB3⟩
  · have HF : Hid (decide (k = k2 ∧ xs = ys) = false) := Lib.hid (by simp [hk])
    rw [decide_eq_false hk] at he
    have hb2 := hX.trans ((hY _).mono hX.size)
    clear hk
    go_enter Try.func24, Try.ntmps24
    go_wp2_with fail
    go_ret
    exact ⟨by rw [HF.out]; rfl, hb2⟩

set_option maxRecDepth 100000 in
set_option maxHeartbeats 8000000 in
theorem FramePuts_walk (k : UInt8) (A : Option Addr) (n c : Nat) (xs : List UInt8) (k2 : UInt8) (B : Option Addr) (m d : Nat) (ys : List UInt8) (w : World) (ha : Rd w A n xs) (hc : n ≤ c) (hb : Rd w B m ys) (hd : m ≤ d) :
    Calls Try.prog 5 #[frV k A n c, frV k2 B m d] w fun e w' => e = .returned (.bool true) ∧ Below w.heap.size w w' := by
  have hours := fun W => ours03_any k A n c W
  have hours2 := fun W => ours03_any k2 B m d W
  unfold frV at hours hours2 ⊢
  have hX : Below w.heap.size w ((w.alloc (.cells #[.int .u8 (k.toNat : Int), .slice A n c] 25)).alloc (.cells #[.int .u8 (k2.toNat : Int), .slice B m d] 25)) := ((Below.refl _ _).alloc (Nat.le_refl _) _).alloc (by simp) _
  have hx := (Blk.new w 25 #[.int .u8 (k.toNat : Int), .slice A n c]).alloc (.cells #[.int .u8 (k2.toNat : Int), .slice B m d] 25)
  have hy : Blk ((w.alloc (.cells #[.int .u8 (k.toNat : Int), .slice A n c] 25)).alloc (.cells #[.int .u8 (k2.toNat : Int), .slice B m d] 25)) (w.heap.size + 1) 25 #[.int .u8 (k2.toNat : Int), .slice B m d] := by
    have := Blk.new (w.alloc (.cells #[.int .u8 (k.toNat : Int), .slice A n c] 25)) 25 #[.int .u8 (k2.toNat : Int), .slice B m d]
    rwa [World.size_alloc] at this
  by_cases h1 : 17000 < n
  · have t1 : (17000 : Int) < (n : Int) := by omega
    clear h1
    go_enter Try.func5, Try.ntmps5
    go_wp2_with fail
    generalize ((w.alloc (.cells #[.int .u8 (k.toNat : Int), .slice A n c] 25)).alloc (.cells #[.int .u8 (k2.toNat : Int), .slice B m d] 25)) = w1 at *
    refine (awake03 w1).mono ?_
    rintro e w9 ⟨rfl, hb9⟩
    have hfin := hX.trans (hb9.mono hX.size)
    clear hb9
    go_wp2_with fail
    go_ret
    exact ⟨rfl, hfin⟩
  · by_cases h2 : 17000 < m
    · have t1 : ¬ (17000 : Int) < (n : Int) := by omega
      have t2 : (17000 : Int) < (m : Int) := by omega
      clear h1 h2
      go_enter Try.func5, Try.ntmps5
      go_wp2_with fail
      generalize ((w.alloc (.cells #[.int .u8 (k.toNat : Int), .slice A n c] 25)).alloc (.cells #[.int .u8 (k2.toNat : Int), .slice B m d] 25)) = w1 at *
      refine (awake03 w1).mono ?_
      rintro e w9 ⟨rfl, hb9⟩
      have hfin := hX.trans (hb9.mono hX.size)
      clear hb9
      go_wp2_with fail
      go_ret
      exact ⟨rfl, hfin⟩
    · have t1 : ¬ (17000 : Int) < (n : Int) := by omega
      have t2 : ¬ (17000 : Int) < (m : Int) := by omega
      have hn6 : n ≤ 1000000 := by omega
      have hsz := fun W => size_any k A n c W hn6
      have hrp := fun W h => refPut3_any k A n c xs W h hc hn6
      have hpu := fun gc gt st W h0 h => framePut_any gc gt 0 0 st k A n c xs W h0 h hc hn6
      have hfs := fun W h h' => frameSame_any k k2 A B n m c d xs ys W h h'
      have hrs := fun W h h' => refSame3_any k k2 A B n m c d xs ys W h h'
      obtain ⟨P, hP⟩ : ∃ z, putF k xs = z := ⟨_, rfl⟩
      obtain ⟨E, hE⟩ : ∃ z, putE k xs = z := ⟨_, rfl⟩
      obtain ⟨D, hD⟩ : ∃ z, decide (k = k2 ∧ xs = ys) = z := ⟨_, rfl⟩
      simp only [hP, hE] at hrp hpu
      simp only [hD] at hfs hrs
      unfold frV at hsz hfs hrs hrp
      have hw : IntKind.i64.wrap ((n : Int) + 7) = ((n + 7 : Nat) : Int) := by rw [IntKind.wrap_i64]; omega
      obtain ⟨Z, hZ⟩ : ∃ z, n + 7 = z := ⟨_, rfl⟩
      rw [hZ] at hw
      simp only [hZ] at hsz
      have tE : (E == E) = true := by simp
      have tD : (D == D) = true := by simp
      clear h1 h2 hP hE hD hZ
      go_enter Try.func5, Try.ntmps5
      go_wp2_with fail
      generalize ((w.alloc (.cells #[.int .u8 (k.toNat : Int), .slice A n c] 25)).alloc (.cells #[.int .u8 (k2.toNat : Int), .slice B m d] 25)) = w1 at *
      have hs1 := hX.size
      have hyl1 := hy.lt
      refine (crcNew_any w1).mono ?_
      rintro e w2 ⟨rfl, hT2, hb2⟩
      have hgt2 := hT2.lt
      go_wp2_with fail
      refine (frameNew_any _ _ w2 hT2).mono ?_
      rintro e w3 ⟨rfl, h3, hb3⟩
      have hB3 := hX.trans ((hb2.trans (hb3.mono hb2.size)).mono hs1)
      have hx3 := (hx.below hb2 hx.lt).below hb3 (by have := hb2.size; have := hx.lt; omega)
      have hy3 := (hy.below hb2 hy.lt).below hb3 (by have := hb2.size; have := hy.lt; omega)
      have hs2 := hb2.size
      have x0 := hx3.cell 0
      have x1 := hx3.cell 1
      have xl := hx3.lt
      simp only [List.getElem?_toArray, List.getElem?_cons_zero, List.getElem?_cons_succ] at x0 x1
      clear hb2 hb3 hx hy hX
      go_wp2_with fail
      refine (hours w3).mono ?_
      rintro e w4 ⟨rfl, hb4⟩
      have h4 := h3.below hb4
      have hx4 := hx3.below hb4 hx3.lt
      have hy4 := hy3.below hb4 hy3.lt
      have hB4 := hB3.trans (hb4.mono hB3.size)
      have hpt := hpu w2.heap.size w1.heap.size false w4 h4 (ha.below_ hB4)
      clear hb4 h3 hx3 hy3 hB3 x0 x1 xl hpu
      go_wp2_with fail
      refine hpt.mono ?_
      rintro e w5 ⟨⟨A5, c5, rfl, ho5⟩, ⟨st5, h5⟩, hk5⟩
      have hB5 : Below w.heap.size w w5 := hB4.trans (hk5.below hB4.size (by simp; omega))
      have hx5 := hx4.keeps hk5 (by simp; omega)
      have hy5 := hy4.keeps hk5 (by simp; omega)
      have hr5 := Rd.of_own ho5
      have x0 := hx5.cell 0
      have x1 := hx5.cell 1
      have xl := hx5.lt
      simp only [List.getElem?_toArray, List.getElem?_cons_zero, List.getElem?_cons_succ] at x0 x1
      clear hpt hk5 hx4 hy4 hB4 h4 ho5 h5
      go_wp2_with fail
      refine (hrp w5 (ha.below_ hB5)).mono ?_
      rintro e w6 ⟨⟨A6, c6, rfl, ho6⟩, hb6⟩
      have hB6 := hB5.trans (hb6.mono hB5.size)
      have hx6 := hx5.below hb6 hx5.lt
      have hy6 := hy5.below hb6 hy5.lt
      have hr6 := hr5.below_ hb6
      have hq6 := Rd.of_own ho6
      clear hrp hb6 hx5 hy5 hr5 hB5 ho6 x0 x1 xl
      have hcf : ∀ W, Keeps [] w6 W → (W.cell? ⟨w.heap.size, 0, none⟩ = some (.int .u8 (k.toNat : Int)) ∧ W.cell? ⟨w.heap.size, 1, none⟩ = some (.slice A n c) ∧ w.heap.size < W.heap.size ∧ W.cell? ⟨w.heap.size + 1, 0, none⟩ = some (.int .u8 (k2.toNat : Int)) ∧ W.cell? ⟨w.heap.size + 1, 1, none⟩ = some (.slice B m d) ∧ w.heap.size + 1 < W.heap.size) := fun W hk => by
        have q1 := hx6.keeps hk (by simp)
        have q2 := hy6.keeps hk (by simp)
        exact ⟨q1.cell 0, q1.cell 1, q1.lt, q2.cell 0, q2.cell 1, q2.lt⟩
      have hBW : ∀ W, Keeps [] w6 W → Below w.heap.size w W := fun W hk => hB6.trans (hk.nil_below.mono hB6.size)
      have hsm := fun W (hk : Keeps [] w6 W) => Same_any A5 A6 P.length P.length c5 c6 P P W (hr6.keeps hk (fun _ _ _ h => by cases h)) (hq6.keeps hk (fun _ _ _ h => by cases h))
      rw [show decide (P = P) = true by simp] at hsm
      obtain ⟨f0, f1, f2, g0, g1, g2⟩ := hcf w6 (Keeps.refl _ _)
      go_wp2_with fail
      clear f0 f1 f2 g0 g1 g2
      refine wp_region_calls 33 [(2, .known (.bool true)), (10, .known (.agg #[.int .u8 (k.toNat : Int), .slice A n c])), (11, .known (.int .i64 (Z : Int))), (20, .known (.agg #[.int .u8 (k.toNat : Int), .slice A n c])), (22, .known (.agg #[.int .u8 (k2.toNat : Int), .slice B m d])), (23, .known (.bool D)), (26, .known (.bool D)), (30, .known (.bool true))] (by kernel_rfl) (by kernel_rfl) rfl ⟨trivial, trivial, trivial, trivial, trivial, trivial, trivial, trivial, trivial⟩ ?_
      simp only [List.take_succ_cons, List.take_zero, List.drop_succ_cons, List.drop_zero]
      iterate 2 refine dep_reckons rfl (by kernel_rfl) (fun W hG hF' => by go_simp <;> rfl) (by simp only [Act.put, List.setIfInBounds_toArray, List.set_cons_zero, List.set_cons_succ]; rfl) ?_
      refine dep_known (c := .bool true) rfl (by kernel_rfl) (fun W hG hF' => ?_) (by simp only [Act.put, List.setIfInBounds_toArray, List.set_cons_zero, List.set_cons_succ]; rfl) ?_
      · have hkW := keeps_drew hG
        unfold opGives
        go_simp
        refine (hsm W hkW).mono ?_
        rintro e w9 ⟨rfl, hb9⟩
        exact ⟨_, rfl, rfl, Keeps.of_below (hb9.below _) []⟩
      iterate 6 refine dep_reckons rfl (by kernel_rfl) (fun W hG hF' => by go_simp <;> rfl) (by simp only [Act.put, List.setIfInBounds_toArray, List.set_cons_zero, List.set_cons_succ]; rfl) ?_
      refine dep_reckons (c := .agg #[.int .u8 (k.toNat : Int), .slice A n c]) rfl (by kernel_rfl) (fun W hG hF' => ?_) (by simp only [Act.put, List.setIfInBounds_toArray, List.set_cons_zero, List.set_cons_succ]; rfl) ?_
      · obtain ⟨f0, f1, f2, g0, g1, g2⟩ := hcf W (keeps_drew hG)
        go_simp <;> rfl
      refine dep_known (c := .agg #[.int .u8 (k.toNat : Int), .slice A n c]) rfl (by kernel_rfl) (fun W hG hF' => ?_) (by simp only [Act.put, List.setIfInBounds_toArray, List.set_cons_zero, List.set_cons_succ]; rfl) ?_
      · have hkW := keeps_drew hG
        unfold opGives
        go_simp
        refine (hours W).mono ?_
        rintro e w9 ⟨rfl, hb9⟩
        exact ⟨_, rfl, rfl, Keeps.of_below hb9 []⟩
      refine dep_known (c := .int .i64 (Z : Int)) rfl (by kernel_rfl) (fun W hG hF' => ?_) (by simp only [Act.put, List.setIfInBounds_toArray, List.set_cons_zero, List.set_cons_succ]; rfl) ?_
      · have hkW := keeps_drew hG
        unfold opGives
        go_simp
        refine (hsz W).mono ?_
        rintro e w9 ⟨rfl, hb9⟩
        exact ⟨_, rfl, rfl, Keeps.of_below hb9 []⟩
      refine dep_reckons rfl (by kernel_rfl) (fun W hG hF' => by go_simp <;> rfl) (by simp only [Act.put, List.setIfInBounds_toArray, List.set_cons_zero, List.set_cons_succ]; rfl) ?_
      refine dep_reckons (c := .slice A n c) rfl (by kernel_rfl) (fun W hG hF' => ?_) (by simp only [Act.put, List.setIfInBounds_toArray, List.set_cons_zero, List.set_cons_succ]; rfl) ?_
      · obtain ⟨f0, f1, f2, g0, g1, g2⟩ := hcf W (keeps_drew hG)
        go_simp <;> rfl
      iterate 5 refine dep_reckons rfl (by kernel_rfl) (fun W hG hF' => by go_simp <;> rfl) (by simp only [Act.put, List.setIfInBounds_toArray, List.set_cons_zero, List.set_cons_succ]; rfl) ?_
      refine dep_reckons (c := .agg #[.int .u8 (k.toNat : Int), .slice A n c]) rfl (by kernel_rfl) (fun W hG hF' => ?_) (by simp only [Act.put, List.setIfInBounds_toArray, List.set_cons_zero, List.set_cons_succ]; rfl) ?_
      · obtain ⟨f0, f1, f2, g0, g1, g2⟩ := hcf W (keeps_drew hG)
        go_simp <;> rfl
      refine dep_known (c := .agg #[.int .u8 (k.toNat : Int), .slice A n c]) rfl (by kernel_rfl) (fun W hG hF' => ?_) (by simp only [Act.put, List.setIfInBounds_toArray, List.set_cons_zero, List.set_cons_succ]; rfl) ?_
      · have hkW := keeps_drew hG
        unfold opGives
        go_simp
        refine (hours W).mono ?_
        rintro e w9 ⟨rfl, hb9⟩
        exact ⟨_, rfl, rfl, Keeps.of_below hb9 []⟩
      refine dep_reckons (c := .agg #[.int .u8 (k2.toNat : Int), .slice B m d]) rfl (by kernel_rfl) (fun W hG hF' => ?_) (by simp only [Act.put, List.setIfInBounds_toArray, List.set_cons_zero, List.set_cons_succ]; rfl) ?_
      · obtain ⟨f0, f1, f2, g0, g1, g2⟩ := hcf W (keeps_drew hG)
        go_simp <;> rfl
      refine dep_known (c := .agg #[.int .u8 (k2.toNat : Int), .slice B m d]) rfl (by kernel_rfl) (fun W hG hF' => ?_) (by simp only [Act.put, List.setIfInBounds_toArray, List.set_cons_zero, List.set_cons_succ]; rfl) ?_
      · have hkW := keeps_drew hG
        unfold opGives
        go_simp
        refine (hours2 W).mono ?_
        rintro e w9 ⟨rfl, hb9⟩
        exact ⟨_, rfl, rfl, Keeps.of_below hb9 []⟩
      refine dep_known (c := .bool D) rfl (by kernel_rfl) (fun W hG hF' => ?_) (by simp only [Act.put, List.setIfInBounds_toArray, List.set_cons_zero, List.set_cons_succ]; rfl) ?_
      · have hkW := keeps_drew hG
        unfold opGives
        go_simp
        refine (hfs W (ha.below_ (hBW W hkW)) (hb.below_ (hBW W hkW))).mono ?_
        rintro e w9 ⟨rfl, hb9⟩
        exact ⟨_, rfl, rfl, Keeps.of_below hb9 []⟩
      refine dep_reckons (c := .agg #[.int .u8 (k.toNat : Int), .slice A n c]) rfl (by kernel_rfl) (fun W hG hF' => ?_) (by simp only [Act.put, List.setIfInBounds_toArray, List.set_cons_zero, List.set_cons_succ]; rfl) ?_
      · obtain ⟨f0, f1, f2, g0, g1, g2⟩ := hcf W (keeps_drew hG)
        go_simp <;> rfl
      refine dep_reckons (c := .agg #[.int .u8 (k2.toNat : Int), .slice B m d]) rfl (by kernel_rfl) (fun W hG hF' => ?_) (by simp only [Act.put, List.setIfInBounds_toArray, List.set_cons_zero, List.set_cons_succ]; rfl) ?_
      · obtain ⟨f0, f1, f2, g0, g1, g2⟩ := hcf W (keeps_drew hG)
        go_simp <;> rfl
      refine dep_known (c := .bool D) rfl (by kernel_rfl) (fun W hG hF' => ?_) (by simp only [Act.put, List.setIfInBounds_toArray, List.set_cons_zero, List.set_cons_succ]; rfl) ?_
      · have hkW := keeps_drew hG
        unfold opGives
        go_simp
        refine (hrs W (ha.below_ (hBW W hkW)) (hb.below_ (hBW W hkW))).mono ?_
        rintro e w9 ⟨rfl, hb9⟩
        exact ⟨_, rfl, rfl, Keeps.of_below hb9 []⟩
      iterate 3 refine dep_reckons rfl (by kernel_rfl) (fun W hG hF' => by go_simp <;> rfl) (by simp only [Act.put, List.setIfInBounds_toArray, List.set_cons_zero, List.set_cons_succ]; rfl) ?_
      refine dep_known (c := .bool true) rfl (by kernel_rfl) (fun W hG hF' => ?_) (by simp only [Act.put, List.setIfInBounds_toArray, List.set_cons_zero, List.set_cons_succ]; rfl) ?_
      · have hkW := keeps_drew hG
        unfold opGives
        go_simp
        refine (awake03 W).mono ?_
        rintro e w9 ⟨rfl, hb9⟩
        exact ⟨_, rfl, rfl, Keeps.of_below hb9 []⟩
      iterate 2 refine dep_reckons rfl (by kernel_rfl) (fun W hG hF' => by go_simp <;> rfl) (by simp only [Act.put, List.setIfInBounds_toArray, List.set_cons_zero, List.set_cons_succ]; rfl) ?_
      refine dep_nil fun W hG hF2 => ?_
      have hfin := hBW W (keeps_drew hG)
      clear hF2 hG hcf hBW hsm
      go_wp2_with fail
      go_ret
      exact ⟨rfl, hfin⟩
end Go.Proofs.Ytgflgncpjlgeoaa
