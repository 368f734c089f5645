/- Contracts: catenaryref02's Seal, Fits. -/
import Derived.Test.YtgflgncpjlgeoaaCrc1
import Derived.Test.YtgflgncpjlgeoaaReg
import Derived.Test.YtgflgncpjlgeoaaBig
namespace Go.Proofs.Ytgflgncpjlgeoaa
open Go.RowKit
set_option linter.unusedSimpArgs false
set_option linter.unusedVariables false

theorem big_le {V : Nat} (h : V < 4294967296) : putBs V ((4 : Nat) : Int) = beB V 4 := by
  have hp : putBad V ((4 : Nat) : Int) = 0 := by
    have hk : ¬ knownB ((4 : Nat) : Int) = false := by decide
    have hf : ¬ fitsB V 4 = false := by simp [fitsB]; omega
    unfold putBad
    rw [if_neg hk, Int.toNat_natCast, if_neg hf]
  unfold putBs
  rw [if_pos hp, Int.toNat_natCast]
theorem leB_rev (V : Nat) : leB V = [UInt8.ofNat V, UInt8.ofNat (V / 256), UInt8.ofNat (V / 65536), UInt8.ofNat (V / 16777216)] := rfl
theorem beB_four (V : Nat) : beB V 4 = [UInt8.ofNat (V / 16777216), UInt8.ofNat (V / 65536), UInt8.ofNat (V / 256), UInt8.ofNat V] := by simp [beB]

/-- Bytes that are told. -/
def FourTold (L : List UInt8) (v : Value) (W : World) : Prop := ∃ A, v = .slice A 4 4 ∧ Rd W A 4 L
theorem fourTold_keeps {L : List UInt8} : ∀ v W W', Keeps [] W W' → FourTold L v W → FourTold L v W' := by
  rintro v W W' hk ⟨A, h1, h2⟩
  exact ⟨A, h1, h2.keeps hk (fun _ _ _ h => by cases h)⟩

set_option maxRecDepth 100000 in
set_option maxHeartbeats 4000000 in
theorem refSeal_any (A : Option Addr) (n c : Nat) (xs : List UInt8) (w : World) (ha : Rd w A n xs) (hc : n ≤ c) (hn : n ≤ 1000000) :
    Calls Try.prog 29 #[.slice A n c] w fun e w' =>
      (∃ A' c', e = .returned (.slice A' (n + 4) c') ∧ w'.ownsRow w.heap.size 5 1 (.slice A' (n + 4) c') (n + 4) ((sealB xs).map bv)) ∧ Below w.heap.size w w' := by
  obtain ⟨i0, hi0, hz0, hz1, hz2⟩ := info_parts info_u8
  have HX := Lib.hid ha.1
  have hlo := crcOf_lt xs
  have hof := fun W h => refOf_any A n c xs W h
  obtain ⟨V, hV⟩ : ∃ z, crcOf xs = z := ⟨_, rfl⟩
  have hsl : xs ++ leB V = sealB xs := by rw [← hV]; rfl
  rw [hV] at hlo
  simp only [hV] at hof
  rw [← hsl]
  have hbig := fun W => refBig_any V ((4 : Nat) : Int) W (by omega)
  rw [big_le hlo] at hbig
  rw [show (beB V 4).length = 4 from rfl, show ((4 : Nat) : Int) = 4 from rfl] at hbig
  have hb4 := beB_four V
  have hl4 := leB_rev V
  obtain ⟨s0, e0⟩ : ∃ z, UInt8.ofNat V = z := ⟨_, rfl⟩
  obtain ⟨s1, e1⟩ : ∃ z, UInt8.ofNat (V / 256) = z := ⟨_, rfl⟩
  obtain ⟨s2, e2⟩ : ∃ z, UInt8.ofNat (V / 65536) = z := ⟨_, rfl⟩
  obtain ⟨s3, e3⟩ : ∃ z, UInt8.ofNat (V / 16777216) = z := ⟨_, rfl⟩
  rw [e0, e1, e2, e3] at hb4 hl4
  rw [hb4] at hbig
  rw [hl4]
  have w64 : IntKind.u64.wrap (V : Int) = (V : Int) := by rw [IntKind.wrap_u64]; omega
  have w64b : (V : Int) % 18446744073709551616 = (V : Int) := by omega
  clear hV hsl hb4 hl4 e0 e1 e2 e3
  go_enter Try.func29, Try.ntmps29
  go_wp2_with (at_builtin; refine wpList_append_src rfl (.const (.slice none 0 0)) (.tmp 5) _ rfl w.heap.size 5 i0 _ 1 1 Try.underlying23 hi0 hz0 hz1 hz2 rfl (by omega) (.slice none 0 0) 0 [] rfl ?c0 A n c (xs.map bv) rfl ?c1 ?c2 ?c3 ?c4 ?c5)
  case c0 => exact World.ownsRow_nil _ _ _ _
  case c1 => exact ha.src
  case c2 => unfold maxLen; omega
  case c3 => omega
  try (case c4 => exact Nat.le_refl _)
  case c5 =>
    intro v' w1 hown hg hat
    obtain ⟨A1, c1, rfl, _, _⟩ := own_form hown
    have ho1 : w1.ownsRow w.heap.size 5 1 (.slice A1 n c1) n (xs.map bv) := by simpa using hown
    have hb1 : Below w.heap.size w w1 := (Keeps.of_grown hg).below (Nat.le_refl _) (by simp [Value.ownBlock])
    have ha1 := ha.below_ hb1
    clear hown hg hat
    go_wp2_with fail
    refine (hof w1 ha1).mono ?_
    rintro e w2 ⟨rfl, rfl⟩
    clear hof
    go_wp2_with fail
    refine (hbig w1).mono ?_
    rintro e w2 ⟨⟨A2, c2, rfl, ho2⟩, hb2⟩
    have hB2 := hb1.trans (hb2.mono hb1.size)
    have ho1' := own_below ho1 hb2 (own_lt ho1)
    obtain ⟨g2, cap2, hv2, _, hg2⟩ := ho2.form (by omega)
    have hA : A2 = some ⟨g2, 0, none⟩ := by injection hv2
    subst hA
    have m0 := ho2.cellAt 0 (by omega)
    have m1' := ho2.cellAt 1 (by omega)
    have m2 := ho2.cellAt 2 (by omega)
    have m3 := ho2.cellAt 3 (by omega)
    simp only [List.map_cons, List.map_nil, List.getElem?_cons_zero, List.getElem?_cons_succ, bv] at m0 m1' m2 m3
    clear hbig hb1 ho1 ho2 ha1 hv2 hb2
    go_wp2_with fail
    refine wp_region_calls 14 [(13, .some_ (FourTold [s0, s1, s2, s3]))] (by kernel_rfl) (by kernel_rfl) rfl ⟨fourTold_keeps, trivial⟩ ?_
    simp only [List.take_succ_cons, List.take_zero, List.drop_succ_cons, List.drop_zero]
    iterate 3 refine dep_reckons rfl (by kernel_rfl) (fun W hG hF' => by go_simp <;> rfl) (by simp only [Act.put, List.setIfInBounds_toArray, List.set_cons_zero, List.set_cons_succ]; rfl) ?_
    refine dep_reckons (c := .int .u8 (s0.toNat : Int)) rfl (by kernel_rfl) (fun W hG hF' => ?_) (by simp only [Act.put, List.setIfInBounds_toArray, List.set_cons_zero, List.set_cons_succ]; rfl) ?_
    · have hkW := keeps_drew hG
      have m1 := (hkW.cell (p := ⟨g2, 3, none⟩) hg2 (by simp)).trans m3
      have hg2W : g2 < W.heap.size := Nat.lt_of_lt_of_le hg2 hkW.size
      go_simp <;> rfl
    iterate 2 refine dep_reckons rfl (by kernel_rfl) (fun W hG hF' => by go_simp <;> rfl) (by simp only [Act.put, List.setIfInBounds_toArray, List.set_cons_zero, List.set_cons_succ]; rfl) ?_
    refine dep_reckons (c := .int .u8 (s1.toNat : Int)) rfl (by kernel_rfl) (fun W hG hF' => ?_) (by simp only [Act.put, List.setIfInBounds_toArray, List.set_cons_zero, List.set_cons_succ]; rfl) ?_
    · have hkW := keeps_drew hG
      have m1 := (hkW.cell (p := ⟨g2, 2, none⟩) hg2 (by simp)).trans m2
      have hg2W : g2 < W.heap.size := Nat.lt_of_lt_of_le hg2 hkW.size
      go_simp <;> rfl
    iterate 2 refine dep_reckons rfl (by kernel_rfl) (fun W hG hF' => by go_simp <;> rfl) (by simp only [Act.put, List.setIfInBounds_toArray, List.set_cons_zero, List.set_cons_succ]; rfl) ?_
    refine dep_reckons (c := .int .u8 (s2.toNat : Int)) rfl (by kernel_rfl) (fun W hG hF' => ?_) (by simp only [Act.put, List.setIfInBounds_toArray, List.set_cons_zero, List.set_cons_succ]; rfl) ?_
    · have hkW := keeps_drew hG
      have m1 := (hkW.cell (p := ⟨g2, 1, none⟩) hg2 (by simp)).trans m1'
      have hg2W : g2 < W.heap.size := Nat.lt_of_lt_of_le hg2 hkW.size
      go_simp <;> rfl
    iterate 2 refine dep_reckons rfl (by kernel_rfl) (fun W hG hF' => by go_simp <;> rfl) (by simp only [Act.put, List.setIfInBounds_toArray, List.set_cons_zero, List.set_cons_succ]; rfl) ?_
    refine dep_reckons (c := .int .u8 (s3.toNat : Int)) rfl (by kernel_rfl) (fun W hG hF' => ?_) (by simp only [Act.put, List.setIfInBounds_toArray, List.set_cons_zero, List.set_cons_succ]; rfl) ?_
    · have hkW := keeps_drew hG
      have m1 := (hkW.cell (p := ⟨g2, 0, none⟩) hg2 (by simp)).trans m0
      have hg2W : g2 < W.heap.size := Nat.lt_of_lt_of_le hg2 hkW.size
      go_simp <;> rfl
    refine dep_some rfl (by kernel_rfl) (fun W hG hF' => ?_) (fun v13 => ?_)
    · unfold opGives
      go_simp
      have hX := Blk.new W 5 #[.int .u8 (s0.toNat : Int), .int .u8 (s1.toNat : Int), .int .u8 (s2.toNat : Int), .int .u8 (s3.toNat : Int)]
      refine ⟨⟨_, rfl, rfl, by omega, fun _ => ⟨_, 0, rfl, fun j hj => ?_⟩⟩, (Keeps.refl [] W).alloc _⟩
      rw [hX.cell]
      have : j = 0 ∨ j = 1 ∨ j = 2 ∨ j = 3 := by omega
      rcases this with rfl | rfl | rfl | rfl <;> rfl
    simp only [Act.put, List.setIfInBounds_toArray, List.set_cons_zero, List.set_cons_succ]
    refine dep_nil fun W hG hF2 => ?_
    obtain ⟨A3, rfl, hr3⟩ := hF2 _ List.mem_cons_self
    have hkW := keeps_drew hG
    have hBW := hB2.trans (hkW.nil_below.mono hB2.size)
    have hoW := own_keeps ho1' hkW fun _ _ h => by cases h
    clear hF2 hG hkW m0 m1' m2 m3 ho1' hB2
    go_wp2_with (at_builtin; refine wpList_append_src rfl (.tmp 11) (.tmp 24) _ rfl w.heap.size 5 i0 _ 1 1 Try.underlying23 hi0 hz0 hz1 hz2 rfl (by omega) (.slice A1 n c1) n (xs.map bv) rfl ?f0 A3 4 4 ([s0, s1, s2, s3].map bv) rfl ?f1 ?f2 ?f3 ?f4 ?f5)
    case f0 => exact hoW
    case f1 => exact hr3.src
    case f2 => unfold maxLen; omega
    case f3 => omega
    try (case f4 => exact hBW.size)
    case f5 =>
      intro v' w4 hown hg hat
      obtain ⟨A4, c4, rfl, _, _⟩ := own_form hown
      have hown : w4.ownsRow w.heap.size 5 1 (.slice A4 (n + 4) c4) (n + 4) ((xs ++ [s0, s1, s2, s3]).map bv) := by rw [List.map_append]; exact hown
      have hb4 : Below w.heap.size w w4 := hBW.trans ((Keeps.of_grown hg).below hBW.size fun k hk => own_ge hoW k (by simpa using hk))
      clear hg hat hoW hBW hr3
      go_wp2_with fail
      go_ret
      exact ⟨⟨A4, c4, rfl, hown⟩, hb4⟩

theorem refFits_any (A : Option Addr) (n c : Nat) (xs : List UInt8) (w : World) (ha : Rd w A n xs) (hc : n ≤ c) (hn : n ≤ 1000000) :
    Calls Try.prog 40 #[.slice A n c] w fun e w' => e = .returned (.bool (fitsC xs)) ∧ Below w.heap.size w w' := by
  have hfi := fits_iff xs
  rw [ha.1] at hfi
  by_cases h4 : 4 ≤ n
  · obtain ⟨k, rfl⟩ : ∃ k, n = k + 4 := ⟨n - 4, by omega⟩
    rw [show k + 4 - 4 = k by omega] at hfi
    have HF : Hid (decide (sealB (xs.take k) = xs) = fitsC xs) := Lib.hid (by
      rw [hfi]
      apply decide_eq_decide.2
      exact ⟨fun h => ⟨by omega, h⟩, fun h => h.2⟩)
    have htk : Rd w A k (xs.take k) := ha.take (by omega)
    have hsub : IntKind.i64.wrap (((k + 4 : Nat) : Int) - 4) = (k : Int) := by rw [IntKind.wrap_i64]; omega
    have hck2 : k ≤ c := by omega
    have hsl := refSeal_any A k c (xs.take k) w htk hck2 (by omega)
    obtain ⟨Y, hY⟩ : ∃ z, sealB (xs.take k) = z := ⟨_, rfl⟩
    rw [hY] at hsl HF
    clear hY h4 hfi htk
    go_enter Try.func40, Try.ntmps40
    go_wp2_with fail
    refine hsl.mono ?_
    rintro e w1 ⟨⟨A1, c1, rfl, ho1⟩, hb1⟩
    have heq := Same_any A1 A (k + 4) (k + 4) c1 c Y xs w1 (Rd.of_own ho1) (ha.below_ hb1)
    rw [HF.out] at heq
    clear hsl ho1
    go_wp2_with fail
    refine heq.mono ?_
    rintro e w2 ⟨rfl, hd2⟩
    have hb2 := hb1.trans ((hd2.below _).mono hb1.size)
    clear heq hd2
    go_wp2_with fail
    go_ret
    exact ⟨rfl, hb2⟩
  · have HF : Hid (fitsC xs = false) := Lib.hid (by rw [hfi]; exact decide_eq_false (by omega))
    have hsub : IntKind.i64.wrap ((n : Int) - 4) = (n : Int) - 4 := by rw [IntKind.wrap_i64]; omega
    have hlt : ((n : Int) - 4) < 0 := by omega
    have hn4 : (n : Int) < 4 := by omega
    clear h4 hfi
    go_enter Try.func40, Try.ntmps40
    go_wp2_with fail
    go_ret
    exact ⟨by rw [HF.out]; rfl, Below.refl _ _⟩
end Go.Proofs.Ytgflgncpjlgeoaa
