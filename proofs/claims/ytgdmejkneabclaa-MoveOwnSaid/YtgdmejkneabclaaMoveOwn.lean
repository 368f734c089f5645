/- The walk of MoveOwn. -/
import Derived.Test.YtgdmejkneabclaaMoveNil
namespace Go.Proofs.Ytgdmejkneabclaa
open Go.RowKit
set_option linter.unusedSimpArgs false
set_option linter.unusedVariables false

theorem partOf_short (xs : List UInt8) (h : xs.length ≤ 1000) : partOf xs 0 = xs := by unfold partOf; rw [Nat.mul_zero, List.drop_zero, List.take_of_length_le (by omega)]

set_option maxRecDepth 100000 in
set_option maxHeartbeats 2000000 in
theorem MoveOwn_walk (A : Option Addr) (n c : Nat) (xs : List UInt8) (w : World) (ha : Rd w A n xs) (hc : n ≤ c) : Calls Try.prog 7 #[.slice A n c] w fun e w' => e = .returned (.bool true) ∧ Below w.heap.size w w' := by
  obtain ⟨i0, hi0, hz0, hz1, hz2⟩ := info_parts info_u8
  have hn := ha.2.1
  by_cases hlong : 1000 < n
  · have t0 : (1000 : Int) < (n : Int) := by omega
    clear hlong
    go_enter Try.func7, Try.ntmps7
    go_wp2_with fail
    refine (awake21 w).mono ?_
    rintro e w1 ⟨rfl, hb1⟩
    go_wp2_with fail
    go_ret
    exact ⟨rfl, hb1⟩
  have t0 : ¬ (1000 : Int) < (n : Int) := by omega
  have hxl := ha.1
  have hpo := partOf_short xs (by omega)
  have hnp : 0 < nparts xs.length := by unfold nparts; omega
  have hx6 : xs.length ≤ 1000000 := by omega
  have HX := Lib.hid hxl
  have HP := Lib.hid hpo
  clear hlong hxl hpo
  go_enter Try.func7, Try.ntmps7
  go_wp2_with (at_builtin; refine wpList_append_src rfl (.const (.slice none 0 0)) (.tmp 25) _ rfl w.heap.size 5 i0 _ 1 1 Try.underlying23 hi0 hz0 hz1 hz2 rfl (by omega) (.slice none 0 0) 0 [] rfl ?c0 A n c (xs.map bv) rfl ?c1 ?c2 ?c3 ?c4 ?c5)
  case c0 => exact World.ownsRow_nil _ _ _ _
  case c1 => exact ha.src
  case c2 => unfold maxLen; omega
  case c3 => omega
  try (case c4 => omega)
  case c5 =>
    intro vin w1 hoin hgr _
    have hB1 : Below w.heap.size w w1 := (Keeps.of_grown hgr).nil_below
    obtain ⟨Ain, cin, hvin, hlc, hcm⟩ := own_form hoin
    subst hvin
    clear hgr
    go_wp2_with fail
    refine (moveNew_any 3 Ain n cin xs w1 (Rd.of_own hoin) hlc (by omega)).mono ?_
    rintro e w2 ⟨rfl, hO2, hb2⟩
    have hB2 := hB1.trans (hb2.mono hB1.size)
    have hin2 := own_below hoin hb2 (own_lt hoin)
    go_wp2_with fail
    refine (spoil21_any _ Ain n cin xs w2 hin2 (by omega)).mono ?_
    rintro e w3 ⟨rfl, hk3, _⟩
    have hO3 := hO2.keeps hk3 fun k hk => own_lt hoin k (by simpa using hk)
    have hB3 : Below w.heap.size w w3 := hB2.trans (hk3.below hB2.size fun k hk => own_ge hoin k (by simpa using hk))
    clear hin2 hoin hb2 hk3 hO2 hB1 hB2
    go_wp2_with fail
    refine (outPart_any _ _ 3 xs 0 w3 hO3 hx6 hnp).mono ?_
    rw [HP.out]
    rintro e w4 ⟨⟨Ap, cp, rfl, hop⟩, hb4⟩
    have hO4 := hO3.below hb4
    have hB4 := hB3.trans (hb4.mono hB3.size)
    have hs4 := hb4.size
    rw [HX.out] at hop ⊢
    go_wp2_with fail
    refine (spoil21_any _ Ap n cp xs w4 hop (by omega)).mono ?_
    rintro e w5 ⟨rfl, hk5, _⟩
    have hb5 : Below w3.heap.size w3 w5 := hb4.trans (hk5.below hs4 fun k hk => own_ge hop k (by simpa using hk))
    have hO5 := hO3.below hb5
    have hB5 := hB3.trans (hb5.mono hB3.size)
    clear hop hb4 hk5 hO4 hB4 hb5 hO3 hB3
    go_wp2_with fail
    refine (outPart_any _ _ 3 xs 0 w5 hO5 hx6 hnp).mono ?_
    rw [HP.out]
    rintro e w6 ⟨⟨Aq, cq, rfl, hoq⟩, hb6⟩
    have hB6 := hB5.trans (hb6.mono hB5.size)
    rw [HX.out] at hoq ⊢
    have hrq : Rd w6 Aq n xs := Rd.of_own hoq
    have hra : Rd w6 A n xs := ha.below hB6 fun h0 ad e => ha.lt h0 ad e
    clear hoq hb6 hO5 hB5
    go_wp2_with fail
    refine (inBegin_any w6).mono ?_
    rintro e w7 ⟨rfl, hI7, hb7, hs7⟩
    have hra7 := hra.below_ hb7
    have hrq7 := hrq.below_ hb7
    have HS7 := Lib.hid hs7
    clear hs7
    go_wp2_with (at_builtin; refine wpList_append_src rfl (.const (.slice none 0 0)) (.tmp 44) _ rfl w7.heap.size 5 i0 _ 1 1 Try.underlying23 hi0 hz0 hz1 hz2 rfl (by omega) (.slice none 0 0) 0 [] rfl ?d0 A n c (xs.map bv) rfl ?d1 ?d2 ?d3 ?d4 ?d5)
    case d0 => exact World.ownsRow_nil _ _ _ _
    case d1 => exact hra7.src
    case d2 => unfold maxLen; omega
    case d3 => omega
    try (case d4 => omega)
    case d5 =>
      intro vp w8 hop hgr _
      have hb8 : Below w7.heap.size w7 w8 := (Keeps.of_grown hgr).nil_below
      obtain ⟨Ap2, cp2, hvp, hlc2, hcm2⟩ := own_form hop
      subst hvp
      have hI8 := hI7.below hb8
      have hs8 := hb8.size
      have hs7 := HS7.out
      have hop7 := own_ge hop
      clear hgr
      go_wp2_with fail
      refine (Take_fresh _ _ _ _ 3 2 Ap2 n cp2 xs w8 hI8 (by omega) (Rd.of_own hop) hlc2 ?_ (by unfold takeBad; simp [InS.new]; omega) (by unfold takeNew; simp [InS.new])).mono ?_
      · intro _ ad e
        subst e
        have := hop7 ad.block (by simp [Value.ownBlock])
        omega
      rintro e w9 ⟨hT, hk9⟩
      rcases hT with ⟨_, rfl, sl9, hI9, hf9⟩ | ⟨hno, _⟩
      rotate_left
      · exact absurd (by simp [InS.new]) hno
      have hop9 := own_keeps hop hk9 fun k hk hm => by
        have h1 := hop7 k hk
        have h2 : k = w6.heap.size := by simpa using hm
        omega
      have hs9 := hk9.size
      go_wp2_with fail
      refine (spoil21_any _ Ap2 n cp2 xs w9 hop9 (by omega)).mono ?_
      rintro e w10 ⟨rfl, hk10, _⟩
      have hop8 := own_lt hop
      have hI10 := hI9.keeps hk10 (fun hm => by have := hop7 w6.heap.size (by simpa using hm); omega) fun k hk hm => by
        rcases hf9 with h | h
        · rw [h] at hk; simp at hk
        · have h1 := h k hk
          have h2 := hop8 k (by simpa using hm)
          omega
      have hB10 : Below w6.heap.size w6 w10 := ((hb7.trans (hb8.mono (by omega))).trans (hk9.below (by omega) (by simp))).trans (hk10.below (by omega) fun k hk => by have := hop7 k (by simpa using hk); omega)
      have hs10 := hk10.size
      have hf10 : ∀ k ∈ sl9.ownBlock, w8.heap.size ≤ k := fun k hk => by
        rcases hf9 with h | h
        · rw [h] at hk; simp at hk
        · exact h k hk
      clear hop hop9 hk9 hk10 hI9 hI8 hI7 hb7 hb8 hf9 hop7 hop8 hra7 hrq7
      go_wp2_with fail
      refine (Take_old _ _ _ _ 3 1 2 none 0 0 [] w10 hI10 (by omega) (by simp [InS.new]; omega) (Rd.nil _ _) (Nat.le_refl _) (by intro h; omega) (by unfold takeBad; simp [InS.new]) (by unfold takeNew; simp [InS.new]) (by simp [InS.new])).mono ?_
      rintro e w11 ⟨hT, hk11⟩
      rcases hT with ⟨hno, _⟩ | ⟨_, Ac, cc, rfl, hoc, _, _⟩
      · exact absurd hno (by simp [InS.new])
      have hB11 : Below w6.heap.size w6 w11 := hB10.trans (hk11.below hB10.size fun k hk => by
        rcases List.mem_cons.1 hk with rfl | hk
        · exact Nat.le_refl _
        · have := hf10 k (by simpa using hk); omega)
      have hx : (InS.new 3).b ++ xs ++ [] = xs := by simp [InS.new]
      simp only [hx, HX.out] at hoc ⊢
      have hrc : Rd w11 Ac n xs := Rd.of_own hoc
      have hra11 := hra.below_ hB11
      have hrq11 := hrq.below_ hB11
      have hBe := hB6.trans (hB11.mono hB6.size)
      clear hoc hk11 hB11 hB10 hI10 hf10 hx hra hrq hB6 HS7 hs10 hs9 hs8 hs7
      go_wp2_with fail
      refine (outPart_nil w11).mono ?_
      rintro e w12 ⟨rfl, rfl⟩
      go_wp2_with fail
      refine (inWants_nil w11).mono ?_
      rintro e w12 ⟨rfl, rfl⟩
      go_wp2_with fail
      refine (inTake_nil 1 0 1 A n c w11).mono ?_
      rintro e w12 ⟨rfl, rfl⟩
      go_wp2_with fail
      refine (outAt_nil w11).mono ?_
      rintro e w12 ⟨rfl, rfl⟩
      go_wp2_with fail
      refine (outParts_nil w11).mono ?_
      rintro e w12 ⟨rfl, rfl⟩
      go_wp2_with fail
      refine (inHeld_nil w11).mono ?_
      rintro e w12 ⟨rfl, rfl⟩
      go_wp2_with fail
      refine (Same_any Aq A n n cq c xs xs w11 hrq11 hra11).mono ?_
      rintro e w12 ⟨rfl, n12, rfl⟩
      rw [decide_eq_true rfl]
      go_wp2_with fail
      refine (Same_any Ac A n n cc c xs xs _ (hrc.drewN _) (hra11.drewN _)).mono ?_
      rintro e w13 ⟨rfl, n13, rfl⟩
      rw [decide_eq_true rfl]
      go_wp2_with fail
      refine (awake21 _).mono ?_
      rintro e w14 ⟨rfl, hb14⟩
      go_wp2_with fail
      go_ret
      exact ⟨rfl, hBe.trans ((below_drewN (Below.refl _ _) _).trans (hb14.mono hBe.size))⟩
end Go.Proofs.Ytgdmejkneabclaa
