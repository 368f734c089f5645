/- Contract: the document's bytes of a table (catenaryref16.Bytes). -/
import Derived.Test.YtehfddafjemedaaSbP
import Derived.Test.YtehfddafjemedaaLike16
import Derived.Test.YtehfddafjemedaaBig
namespace Go.Proofs.Ytehfddafjemedaa
open Go.RowKit
set_option linter.unusedSimpArgs false
set_option linter.unusedVariables false

theorem own_app {w : World} {B : Nat} {v : Value} {T X : List UInt8} {m : Nat} (h : w.ownsRow B 5 1 v (T.length + m) (T.map bv ++ X.map bv)) (hm : X.length = m) : w.ownsRow B 5 1 v (T ++ X).length ((T ++ X).map bv) := by
  subst hm
  rw [List.map_append, List.length_append]
  exact h
theorem one_bv {a : Nat} (h : a < 256) : [Value.int .u8 (a : Int)] = (beB a 1).map bv := by
  have : (UInt8.ofNat (a / 256 ^ 0)).toNat = a := by rw [UInt8.toNat_ofNat']; simp; omega
  show _ = [bv (UInt8.ofNat (a / 256 ^ 0))]
  unfold bv
  rw [this]
theorem putBs_8 {a : Nat} (h : a < 18446744073709551616) : putBs a 8 = beB a 8 := by
  unfold putBs putBad
  have h1 : fitsB a 8 = true := by simpa [fitsB] using h
  rw [if_pos]
  · rfl
  · rw [if_neg (by decide), if_neg (by simp only [show (8 : Int).toNat = 8 from rfl, h1]; decide)]
theorem big8_any (a : Nat) (w : World) (h : a < 18446744073709551616) :
    Calls Try.prog 69 #[.int .u64 (a : Int), .int .i64 8] w fun e w' => (∃ A c, e = .returned (.slice A 8 c) ∧ 8 ≤ c ∧ Rd w' A 8 (beB a 8)) ∧ Below w.heap.size w w' := by
  have h := refBig_any a 8 w h
  rw [putBs_8 (by assumption), beB_len] at h
  refine h.mono ?_
  rintro e w' ⟨⟨A, c, rfl, ho⟩, hb⟩
  obtain ⟨_, _, hv, hlc, _⟩ := own_form ho
  exact ⟨⟨A, c, rfl, by injection hv; omega, Rd.of_own ho⟩, hb⟩

set_option maxRecDepth 100000 in
set_option maxHeartbeats 4000000 in
theorem refBytes_any (A : Option Addr) (n c : Nat) (L : List SRow) (w : World) (h : RowsAt w A n L) (h6 : n ≤ 6) (hok : ∀ r ∈ L, RowOk r) :
    Calls Try.prog 42 #[.slice A n c] w fun e w' => (∃ v, e = .returned v ∧ w'.ownsRow w.heap.size 5 1 v (tabB L).length ((tabB L).map bv)) ∧ Below w.heap.size w w' := by
  obtain ⟨i0, hi0, hz0, hz1, hz2⟩ := info_parts info_u8
  have HN := Lib.hid h.1
  have t0 : (n : Int) % 256 = (n : Int) := by omega
  have hfive := fun k (hk : k < n) => RowsAt.five h k hk
  have hroom : ∀ k, k ≤ n → (beB n 1 ++ (L.take k).flatMap rowB).length = 1 + 26 * k := fun k hk => by rw [List.length_append, beB_len, rows_len, List.length_take, HN.out]; omega
  go_enter Try.func42, Try.ntmps42
  go_wp2_with fail
  go_loopw [3, 4] (fun v i wr => ∃ (k : Nat) (T : List UInt8), k ≤ n ∧ i = .int .i64 (k : Int) ∧ Hid (T = beB n 1 ++ (L.take k).flatMap rowB) ∧ wr.ownsRow w.heap.size 5 1 v T.length (T.map bv) ∧ Below w.heap.size w wr) (fun _ i _ => n - (intOf i).toNat)
  case atStart =>
    refine ⟨0, beB n 1, Nat.zero_le _, rfl, Lib.hid (by simp), ?_, (Below.refl _ _).alloc (Nat.le_refl _) _⟩
    rw [← one_bv (by omega), beB_len]
    exact World.ownsRow_lit w #[.int .u8 (n : Int)] 1 (Nat.le_refl _) (by unfold maxLen; omega) rfl
  case round =>
    obtain ⟨k, T, hk, rfl, HT, ho3, hb3⟩ := hrel
    have hTb : T.length ≤ 1 + 26 * k := by have hTl := hroom k hk; rw [← HT.out] at hTl; omega
    obtain ⟨A0, c0, rfl, -, -⟩ := own_form ho3
    by_cases hlt : k < n
    · obtain ⟨b, o, rfl, hc0, hbl⟩ := hfive k hlt
      have HR := Lib.hid (rows_succ L k (by rw [HN.out]; exact hlt))
      have hrok := hok (L.getD k .zero) (getD_mem_rows (by rw [HN.out]; exact hlt))
      obtain ⟨r, hr⟩ : ∃ r, L.getD k .zero = r := ⟨_, rfl⟩
      rw [hr] at hc0 HR hrok
      have h1 := hrok.cl
      have h2 := hrok.num1
      have h3 := hrok.seq1
      have h4 := hrok.code
      have h5 := hrok.ver0
      have g1 := hrok.num
      have g2 := hrok.seq
      have g3 := hrok.ver
      obtain ⟨cl, num, seq, code, ver⟩ := r
      simp only at hc0 h1 h2 h3 h4 h5 g1 g2 g3
      obtain ⟨a, rfl⟩ : ∃ a : Nat, cl = a := ⟨cl.toNat, by omega⟩
      obtain ⟨nu, rfl⟩ : ∃ a : Nat, num = a := ⟨num.toNat, by omega⟩
      obtain ⟨se, rfl⟩ : ∃ a : Nat, seq = a := ⟨seq.toNat, by omega⟩
      obtain ⟨co, rfl⟩ : ∃ a : Nat, code = a := ⟨code.toNat, by omega⟩
      obtain ⟨ve, rfl⟩ : ∃ a : Nat, ver = a := ⟨ver.toNat, by omega⟩
      have HTE : Hid (T ++ beB a 1 ++ beB nu 8 ++ beB se 8 ++ beB co 1 ++ beB ve 8 = beB n 1 ++ (L.take (k + 1)).flatMap rowB) := Lib.hid (by
        rw [HR.out, HT.out]
        simp only [rowB, Int.toNat_natCast, List.append_assoc])
      have t1 : (a : Int) % 256 = (a : Int) := by omega
      have t2 : (co : Int) % 256 = (co : Int) := by omega
      have tk : (k : Int) < (n : Int) := by omega
      have hcw : ∀ W, Below w.heap.size w W → FiveAt W b (o + k * 5) ⟨a, nu, se, co, ve⟩ := fun W hW => hc0.below hW
      have hblw : ∀ W, Below w.heap.size w W → b < W.heap.size := fun W hW => Nat.lt_of_lt_of_le hbl hW.size
      clear hr hrok hc0 HR HT
      generalize hw3 : wr = w3 at *
      clear hw3
      obtain ⟨f0, f1, f2, f3, f4⟩ := hcw w3 hb3
      have fl := hblw w3 hb3
      have hX0 : Below w3.heap.size w3 (w3.alloc (.cells #[.int .u8 (a : Int)] 5)) := (Below.refl _ _).alloc (Nat.le_refl _) _
      go_wp2_with (at_builtin; refine wpList_append_src rfl (.tmp 15) (.tmp 22) _ rfl w.heap.size 5 i0 _ 1 1 Try.underlying51 hi0 hz0 hz1 hz2 rfl (by omega) (.slice A0 T.length c0) T.length (T.map bv) rfl ?d00 (some ⟨w3.heap.size, 0, none⟩) 1 1 [.int .u8 (a : Int)] rfl ?d01 ?d02 ?d03 ?d04 ?d05)
      case d00 => exact own_below ho3 hX0 (own_lt ho3)
      case d01 => exact Src.one w3 #[.int .u8 (a : Int)] _ (by intro u hu; simp at hu; subst hu; rfl)
      case d02 => unfold maxLen; omega
      case d03 => omega
      case d04 => have := hb3.size; simp; omega
      intro v' u0 ho6 hgr _
      have hk6 := Keeps.of_grown hgr
      have hb6 : Below w.heap.size w u0 := (hb3.trans (hX0.mono hb3.size)).trans (hk6.below (by have := hb3.size; simp; omega) fun j hj => own_ge ho3 j (by simpa using hj))
      rw [one_bv (by omega)] at ho6
      replace ho6 := own_app ho6 (beB_len _ _)
      obtain ⟨T0, hT0⟩ : ∃ z, T ++ beB a 1 = z := ⟨_, rfl⟩
      have hl0 : T0.length ≤ T.length + 1 := by rw [← hT0, List.length_append, beB_len]; exact Nat.le_refl _
      rw [hT0] at ho6 HTE
      obtain ⟨A1, c1, rfl, -, -⟩ := own_form ho6
      clear hgr hk6 hT0 ho3 hb3
      clear hX0 f0 f1 f2 f3 f4 fl
      have ho0x := ho6
      have hb0x := hb6
      clear ho6 hb6
      obtain ⟨f0, f1, f2, f3, f4⟩ := hcw u0 hb0x
      have fl := hblw u0 hb0x
      go_wp2_with fail
      clear f0 f1 f2 f3 f4 fl
      refine (big8_any nu u0 (by omega)).mono ?_
      rintro e v1 ⟨⟨B1, d1, rfl, hd1, hr1⟩, hbv1⟩
      have hov1 := own_below ho0x hbv1 (own_lt ho0x)
      have hbw1 := hb0x.trans (hbv1.mono hb0x.size)
      clear ho0x hb0x hbv1
      go_wp2_with (at_builtin; refine wpList_append_src rfl (.tmp 24) (.tmp 30) _ rfl w.heap.size 5 i0 _ 1 1 Try.underlying51 hi0 hz0 hz1 hz2 rfl (by omega) (.slice A1 T0.length c1) T0.length (T0.map bv) rfl ?d10 B1 8 d1 ((beB nu 8).map bv) rfl ?d11 ?d12 ?d13 ?d14 ?d15)
      case d10 => exact hov1
      case d11 => exact hr1.src
      case d12 => unfold maxLen; omega
      case d13 => omega
      case d14 => exact hbw1.size
      intro v' u1 ho6 hgr _
      have hk6 := Keeps.of_grown hgr
      have hb6 : Below w.heap.size w u1 := hbw1.trans (hk6.below hbw1.size fun j hj => own_ge hov1 j (by simpa using hj))
      replace ho6 := own_app ho6 (beB_len _ _)
      obtain ⟨T1, hT1⟩ : ∃ z, T0 ++ beB nu 8 = z := ⟨_, rfl⟩
      have hl1 : T1.length ≤ T0.length + 8 := by rw [← hT1, List.length_append, beB_len]; exact Nat.le_refl _
      rw [hT1] at ho6 HTE
      obtain ⟨A2, c2, rfl, -, -⟩ := own_form ho6
      clear hgr hk6 hT1 hov1 hbw1
      clear hr1 hd1
      have ho1x := ho6
      have hb1x := hb6
      clear ho6 hb6
      obtain ⟨f0, f1, f2, f3, f4⟩ := hcw u1 hb1x
      have fl := hblw u1 hb1x
      go_wp2_with fail
      clear f0 f1 f2 f3 f4 fl
      refine (big8_any se u1 (by omega)).mono ?_
      rintro e v2 ⟨⟨B2, d2, rfl, hd2, hr2⟩, hbv2⟩
      have hov2 := own_below ho1x hbv2 (own_lt ho1x)
      have hbw2 := hb1x.trans (hbv2.mono hb1x.size)
      clear ho1x hb1x hbv2
      go_wp2_with (at_builtin; refine wpList_append_src rfl (.tmp 32) (.tmp 38) _ rfl w.heap.size 5 i0 _ 1 1 Try.underlying51 hi0 hz0 hz1 hz2 rfl (by omega) (.slice A2 T1.length c2) T1.length (T1.map bv) rfl ?d20 B2 8 d2 ((beB se 8).map bv) rfl ?d21 ?d22 ?d23 ?d24 ?d25)
      case d20 => exact hov2
      case d21 => exact hr2.src
      case d22 => unfold maxLen; omega
      case d23 => omega
      case d24 => exact hbw2.size
      intro v' u2 ho6 hgr _
      have hk6 := Keeps.of_grown hgr
      have hb6 : Below w.heap.size w u2 := hbw2.trans (hk6.below hbw2.size fun j hj => own_ge hov2 j (by simpa using hj))
      replace ho6 := own_app ho6 (beB_len _ _)
      obtain ⟨T2, hT2⟩ : ∃ z, T1 ++ beB se 8 = z := ⟨_, rfl⟩
      have hl2 : T2.length ≤ T1.length + 8 := by rw [← hT2, List.length_append, beB_len]; exact Nat.le_refl _
      rw [hT2] at ho6 HTE
      obtain ⟨A3, c3, rfl, -, -⟩ := own_form ho6
      clear hgr hk6 hT2 hov2 hbw2
      clear hr2 hd2
      have ho2x := ho6
      have hb2x := hb6
      clear ho6 hb6
      obtain ⟨f0, f1, f2, f3, f4⟩ := hcw u2 hb2x
      have fl := hblw u2 hb2x
      have hX3 : Below u2.heap.size u2 (u2.alloc (.cells #[.int .u8 (co : Int)] 5)) := (Below.refl _ _).alloc (Nat.le_refl _) _
      go_wp2_with (at_builtin; refine wpList_append_src rfl (.tmp 40) (.tmp 47) _ rfl w.heap.size 5 i0 _ 1 1 Try.underlying51 hi0 hz0 hz1 hz2 rfl (by omega) (.slice A3 T2.length c3) T2.length (T2.map bv) rfl ?d30 (some ⟨u2.heap.size, 0, none⟩) 1 1 [.int .u8 (co : Int)] rfl ?d31 ?d32 ?d33 ?d34 ?d35)
      case d30 => exact own_below ho2x hX3 (own_lt ho2x)
      case d31 => exact Src.one u2 #[.int .u8 (co : Int)] _ (by intro u hu; simp at hu; subst hu; rfl)
      case d32 => unfold maxLen; omega
      case d33 => omega
      case d34 => have := hb2x.size; simp; omega
      intro v' u3 ho6 hgr _
      have hk6 := Keeps.of_grown hgr
      have hb6 : Below w.heap.size w u3 := (hb2x.trans (hX3.mono hb2x.size)).trans (hk6.below (by have := hb2x.size; simp; omega) fun j hj => own_ge ho2x j (by simpa using hj))
      rw [one_bv (by omega)] at ho6
      replace ho6 := own_app ho6 (beB_len _ _)
      obtain ⟨T3, hT3⟩ : ∃ z, T2 ++ beB co 1 = z := ⟨_, rfl⟩
      have hl3 : T3.length ≤ T2.length + 1 := by rw [← hT3, List.length_append, beB_len]; exact Nat.le_refl _
      rw [hT3] at ho6 HTE
      obtain ⟨A4, c4, rfl, -, -⟩ := own_form ho6
      clear hgr hk6 hT3 ho2x hb2x
      clear hX3 f0 f1 f2 f3 f4 fl
      have ho3x := ho6
      have hb3x := hb6
      clear ho6 hb6
      obtain ⟨f0, f1, f2, f3, f4⟩ := hcw u3 hb3x
      have fl := hblw u3 hb3x
      go_wp2_with fail
      clear f0 f1 f2 f3 f4 fl
      refine (big8_any ve u3 (by omega)).mono ?_
      rintro e v4 ⟨⟨B4, d4, rfl, hd4, hr4⟩, hbv4⟩
      have hov4 := own_below ho3x hbv4 (own_lt ho3x)
      have hbw4 := hb3x.trans (hbv4.mono hb3x.size)
      clear ho3x hb3x hbv4
      go_wp2_with (at_builtin; refine wpList_append_src rfl (.tmp 49) (.tmp 55) _ rfl w.heap.size 5 i0 _ 1 1 Try.underlying51 hi0 hz0 hz1 hz2 rfl (by omega) (.slice A4 T3.length c4) T3.length (T3.map bv) rfl ?d40 B4 8 d4 ((beB ve 8).map bv) rfl ?d41 ?d42 ?d43 ?d44 ?d45)
      case d40 => exact hov4
      case d41 => exact hr4.src
      case d42 => unfold maxLen; omega
      case d43 => omega
      case d44 => exact hbw4.size
      intro v' u4 ho6 hgr _
      have hk6 := Keeps.of_grown hgr
      have hb6 : Below w.heap.size w u4 := hbw4.trans (hk6.below hbw4.size fun j hj => own_ge hov4 j (by simpa using hj))
      replace ho6 := own_app ho6 (beB_len _ _)
      obtain ⟨T4, hT4⟩ : ∃ z, T3 ++ beB ve 8 = z := ⟨_, rfl⟩
      have hl4 : T4.length ≤ T3.length + 8 := by rw [← hT4, List.length_append, beB_len]; exact Nat.le_refl _
      rw [hT4] at ho6 HTE
      obtain ⟨A5, c5, rfl, -, -⟩ := own_form ho6
      clear hgr hk6 hT4 hov4 hbw4
      clear hr4 hd4
      have ho4x := ho6
      have hb4x := hb6
      clear ho6 hb6
      go_wp2_with fail
      exact ⟨⟨k + 1, T4, by omega, by rfl, HTE, ho4x, hb4x⟩, by simp [intOf]; omega⟩
    · obtain rfl : k = n := by omega
      have e := HT.out
      rw [List.take_of_length_le (by rw [HN.out]; exact Nat.le_refl _)] at e
      have HE : Hid (T = tabB L) := Lib.hid (by rw [e]; unfold tabB; rw [HN.out])
      clear hlt e
      go_wp2_with fail
      go_ret
      exact ⟨⟨_, rfl, by rw [← HE.out]; exact ho3⟩, hb3⟩
end Go.Proofs.Ytehfddafjemedaa
