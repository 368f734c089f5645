/- The walk of FrameBack. -/
import Derived.Test.YtgflgncpjlgeoaaFr4
import Derived.Test.YtgflgncpjlgeoaaCrc6
namespace Go.Proofs.Ytgflgncpjlgeoaa
open Go.RowKit
set_option linter.unusedSimpArgs false
set_option linter.unusedVariables false

/-- Where the round stands. -/
structure FB (w wr : World) (gc gt : Nat) (A : Option Addr) (n : Nat) (P : List UInt8) (i : Nat) : Prop where
  cd : ∃ st G Bd, CD wr gc gt st G Bd ∧ G ≤ 1 + i ∧ Bd ≤ i
  rd : Rd wr A n P
  below : Below w.heap.size w wr
theorem FB.step {w wr W : World} {gc gt : Nat} {A : Option Addr} {n i : Nat} {P : List UInt8} (h : FB w wr gc gt A n P i) (hcd : ∃ st G Bd, CD W gc gt st G Bd ∧ G ≤ 1 + (i + 1) ∧ Bd ≤ i + 1) (hk : Keeps [gc, gt] wr W)
    (hA : 0 < n → ∀ ad, A = some ad → ad.block ≠ gc ∧ ad.block ≠ gt) (h1 : w.heap.size ≤ gc) (h2 : w.heap.size ≤ gt) : FB w W gc gt A n P (i + 1) :=
  ⟨hcd, h.rd.keeps hk (fun h0 ad e hm => by
    have := hA h0 ad e
    simp at hm
    rcases hm with hm | hm
    · exact this.1 hm
    · exact this.2 hm), h.below.trans (hk.below h.below.size (by simp; omega))⟩

set_option maxRecDepth 100000 in
set_option maxHeartbeats 8000000 in
theorem FrameBack_walk (k : UInt8) (A : Option Addr) (n c : Nat) (xs : List UInt8) (bit p : Nat) (w : World) (ha : Rd w A n xs) (hc : n ≤ c) (hp : p < 4294967296) (hbm : bit < 65536) :
    Calls Try.prog 7 #[frV k A n c, .int .u16 (bit : Int), .int .u32 (p : Int)] w fun e w' => e = .returned (.bool true) ∧ Below w.heap.size w w' := by
  have hours := fun W => ours03_any k A n c W
  unfold frV at hours ⊢
  have hX : Below w.heap.size w (w.alloc (.cells #[.int .u8 (k.toNat : Int), .slice A n c] 25)) := (Below.refl _ _).alloc (Nat.le_refl _) _
  have hx := Blk.new w 25 #[.int .u8 (k.toNat : Int), .slice A n c]
  have hsX := hX.size
  by_cases k0 : k = 0
  · have tk : ((k.toNat : Int) == 0) = true := by rw [k0]; rfl
    clear k0
    go_enter Try.func7, Try.ntmps7
    go_wp2_with fail
    generalize (w.alloc (.cells #[.int .u8 (k.toNat : Int), .slice A n c] 25)) = w1 at hX hx hsX ⊢
    refine (awake03 w1).mono ?_
    rintro e w9 ⟨rfl, hb9⟩
    have hfin := hX.trans (hb9.mono hX.size)
    clear hb9
    go_wp2_with fail
    go_ret
    exact ⟨rfl, hfin⟩
  · have tk : ((k.toNat : Int) == 0) = false := by
      simp
      intro h0
      exact k0 (UInt8.toNat_inj.1 h0)
    by_cases hlong : 200 < n
    · have tl : (200 : Int) < (n : Int) := by omega
      clear k0 hlong
      go_enter Try.func7, Try.ntmps7
      go_wp2_with fail
      generalize (w.alloc (.cells #[.int .u8 (k.toNat : Int), .slice A n c] 25)) = w1 at hX hx hsX ⊢
      refine (awake03 w1).mono ?_
      rintro e w9 ⟨rfl, hb9⟩
      have hfin := hX.trans (hb9.mono hX.size)
      clear hb9
      go_wp2_with fail
      go_ret
      exact ⟨rfl, hfin⟩
    · have tl : ¬ (200 : Int) < (n : Int) := by omega
      have hn2 : n ≤ 200 := by omega
      have he : putE k xs = 0 := by unfold putE; rw [if_neg k0, if_neg (by rw [ha.1]; omega)]
      have hpl := put_len he
      have hgp := get_put he
      have hcs := fun i hi => @cut_short k xs he i hi
      have htu := fun R x hx => @get_turned k xs x he R p hx
      rw [ha.1] at hpl hgp hcs
      have hput := fun gc gt st W h1 h2 => framePut_any gc gt 0 0 st k A n c xs W h1 h2 hc (by omega)
      rw [he] at hput
      obtain ⟨P, hP⟩ : ∃ z, putF k xs = z := ⟨_, rfl⟩
      rw [hP] at hpl hgp hcs hput htu
      unfold PutTold3 at hput
      rw [hpl] at hput
      obtain ⟨M, hM⟩ : ∃ z, n + 7 = z := ⟨_, rfl⟩
      rw [hM] at hpl hgp hcs hput
      have HPL := Lib.hid hpl
      have HTU := Lib.hid htu
      have HCS := Lib.hid hcs
      have hM9 : M ≤ 207 ∧ 7 ≤ M := by omega
      have hMi : ((M : Int) != (n : Int) + 7) = false := by rw [bne_eq_false_iff_eq]; omega
      have hwM : IntKind.i64.wrap ((n : Int) + 7) = (n : Int) + 7 := by rw [IntKind.wrap_i64]; omega
      clear k0 hlong he hP hM hpl htu hcs
      go_enter Try.func7, Try.ntmps7
      go_wp2_with fail
      generalize (w.alloc (.cells #[.int .u8 (k.toNat : Int), .slice A n c] 25)) = w1 at hX hx hsX ⊢
      have hxl := hx.lt
      refine (frameNew_nil w1).mono ?_
      rintro e w2 ⟨⟨gc, rfl, h2, hgc⟩, hb2⟩
      have hB2 := hX.trans (hb2.mono hsX)
      have hx2 := hx.below hb2 hx.lt
      have ha2 := ha.below_ hB2
      have hs2 := hb2.size
      have hgt2 := h2.tab.lt
      have hgc2 := h2.blk.lt
      have x0 := hx2.cell 0
      have x1 := hx2.cell 1
      have xl := hx2.lt
      simp only [List.getElem?_toArray, List.getElem?_cons_zero, List.getElem?_cons_succ] at x0 x1
      clear hb2 hx hX
      go_wp2_with fail
      refine (hours w2).mono ?_
      rintro e w3 ⟨rfl, hb3⟩
      have h3 := h2.below hb3
      have hB3 := hB2.trans (hb3.mono hB2.size)
      have hx3 := hx2.below hb3 hx2.lt
      have ha3 := ha.below_ hB3
      have hs3 := hb3.size
      have hpt := hput gc w1.heap.size false w3 h3 ha3
      clear hb3 h2 hB2 hx2 ha2 x0 x1 xl hput
      go_wp2_with fail
      refine hpt.mono ?_
      rintro e w4 ⟨⟨A4, c4, rfl, ho4⟩, ⟨st4, h4⟩, hk4⟩
      have hB4 : Below w.heap.size w w4 := hB3.trans (hk4.below hB3.size (by simp; omega))
      have hx4 := hx3.keeps hk4 (by simp; omega)
      have hge4 := own_ge ho4
      have hA4 : 0 < M → ∀ ad, A4 = some ad → ad.block ≠ gc ∧ ad.block ≠ w1.heap.size := fun _ ad e => by
        have := hge4 ad.block (by rw [e]; rfl)
        constructor <;> omega
      obtain ⟨_, _, hv4, hlc4, _⟩ := own_form ho4
      have hc4 : M ≤ c4 := by injection hv4; omega
      have hr4 := Rd.of_own ho4
      have hgt := frameGet_any gc w1.heap.size 0 0 st4 A4 M c4 P w4 h4 hr4 hc4 (by omega) (fun h0 ad e => (hA4 h0 ad e).2) (by omega) (by omega)
      rw [hgp] at hgt
      have hxs := ha.1
      unfold GetTold at hgt
      simp only [hxs] at hgt
      clear hxs
      clear hpt hk4 h3 hB3 hx3 ha3 ho4 hv4 hlc4 hge4
      go_wp2_with fail
      refine hgt.mono ?_
      rintro e w5 ⟨⟨A5, c5, rfl, ho5⟩, ⟨st5, h5⟩, hk5⟩
      have hB5 : Below w.heap.size w w5 := hB4.trans (hk5.below hB4.size (by simp; omega))
      have hx5 := hx4.keeps hk5 (by simp; omega)
      have hr5 : Rd w5 A4 M P := hr4.keeps hk5 (fun h0 ad e hm => by
        have := hA4 h0 ad e
        simp at hm
        rcases hm with hm | hm
        · exact this.1 hm
        · exact this.2 hm)
      have hq5 := Rd.of_own ho5
      have hY : Below w5.heap.size w5 (w5.alloc (.cells #[.int .u8 (k.toNat : Int), .slice A5 n c5] 39)) := (Below.refl _ _).alloc (Nat.le_refl _) _
      have hy := Blk.new w5 39 #[.int .u8 (k.toNat : Int), .slice A5 n c5]
      have hx6 := hx5.below hY hx5.lt
      have hB6 := hB5.trans (hY.mono hB5.size)
      have hlk := like_any k k A5 A n n c5 c xs xs (w5.alloc (.cells #[.int .u8 (k.toNat : Int), .slice A5 n c5] 39)) (hq5.below_ hY) (ha.below_ hB6)
      rw [show decide (k = k ∧ xs = xs) = true by simp] at hlk
      unfold frV at hlk
      have h6 : FB w (w5.alloc (.cells #[.int .u8 (k.toNat : Int), .slice A5 n c5] 39)) gc w1.heap.size A4 M P 0 := ⟨⟨st5, _, _, h5.below hY, by simp [moreGood], by simp [moreBad]⟩, hr5.below_ hY, hB6⟩
      clear hgt hk5 hB4 hx4 hr4 h4 hB5 hx5 h5 hq5 ho5 hr5
      have z0 := hx6.cell 0
      have z1 := hx6.cell 1
      have zl := hx6.lt
      have u0 := hy.cell 0
      have u1 := hy.cell 1
      have ul := hy.lt
      simp only [List.getElem?_toArray, List.getElem?_cons_zero, List.getElem?_cons_succ] at z0 z1 u0 u1
      go_wp2_with fail
      generalize (w5.alloc (.cells #[.int .u8 (k.toNat : Int), .slice A5 n c5] 39)) = w6 at hY hy hx6 hB6 hlk h6 z0 z1 zl u0 u1 ul ⊢
      refine hlk.mono ?_
      rintro e w7 ⟨rfl, hb7⟩
      have hx7 := hx6.below hb7 hx6.lt
      have h7 : FB w w7 gc w1.heap.size A4 M P 0 := ⟨by obtain ⟨st, G, Bd, q1, q2, q3⟩ := h6.cd; exact ⟨st, G, Bd, q1.below hb7, q2, q3⟩, h6.rd.below_ hb7, h6.below.trans (hb7.mono h6.below.size)⟩
      clear hlk h6 hB6 hx6 hY hy z0 z1 zl u0 u1 ul hb7
      have z0 := hx7.cell 0
      have z1 := hx7.cell 1
      have zl := hx7.lt
      simp only [List.getElem?_toArray, List.getElem?_cons_zero, List.getElem?_cons_succ] at z0 z1
      go_wp2_with fail
      clear z0 z1 zl hx7
      go_loopw [12] (fun i wr => ∃ j : Nat, j ≤ M ∧ i = .int .i64 (j : Int) ∧ FB w wr gc w1.heap.size A4 M P j) (fun i _ => M - (intOf i).toNat)
      case atStart => exact ⟨0, Nat.zero_le _, rfl, h7⟩
      case round =>
        obtain ⟨j, hj, rfl, hF⟩ := hrel
        clear h7
        obtain ⟨st, G, Bd, hcd, hG, hBd⟩ := hF.cd
        have hsz := hF.below.size
        by_cases hjM : j < M
        · have hcu := frameCut_any gc w1.heap.size G Bd st A4 j c4 (P.take j) wr hcd (hF.rd.take hj) (by omega) (by omega) (fun h0 ad e => (hA4 (by omega) ad e).2) (by omega) (by omega)
          have h3' := HCS.out j hjM
          obtain ⟨R, hR⟩ : ∃ z, cutF (P.take j) = z := ⟨_, rfl⟩
          rw [hR] at hcu h3'
          obtain ⟨K, BB, N, E⟩ := R
          simp only at h3'
          subst h3'
          have hjc : j ≤ c4 := by omega
          clear hR
          go_wp2_with fail
          refine hcu.mono ?_
          rintro e w8 ⟨⟨A8, c8, rfl, ho8⟩, ⟨st8, h8⟩, hk8⟩
          have h8' : FB w w8 gc w1.heap.size A4 M P (j + 1) := hF.step ⟨st8, _, _, h8, by simp [moreGood]; omega, by simp [moreBad]; omega⟩ hk8 hA4 (by omega) hsX
          have hV : Below w8.heap.size w8 (w8.alloc (.cells #[.int .u8 (K.toNat : Int), .slice A8 BB.length c8] 39)) := (Below.refl _ _).alloc (Nat.le_refl _) _
          have h9 : FB w (w8.alloc (.cells #[.int .u8 (K.toNat : Int), .slice A8 BB.length c8] 39)) gc w1.heap.size A4 M P (j + 1) := ⟨by obtain ⟨st, G, Bd, q1, q2, q3⟩ := h8'.cd; exact ⟨st, G, Bd, q1.below hV, q2, q3⟩, h8'.rd.below_ hV, h8'.below.trans (hV.mono h8'.below.size)⟩
          clear hcu h8 hk8 ho8 hF hcd
          simp only
          go_wp2_with fail
          exact ⟨⟨j + 1, by omega, rfl, h9⟩, by simp [intOf]; omega⟩
        · obtain rfl : j = M := by omega
          have hw2 : IntKind.i64.wrap (bit : Int) = (bit : Int) := by rw [IntKind.wrap_i64]; omega
          have hw3 : IntKind.i64.wrap (8 * (j : Int)) = ((8 * j : Nat) : Int) := by rw [IntKind.wrap_i64]; omega
          have hM89 : 0 < 8 * j := by omega
          obtain ⟨M8, hM8⟩ : ∃ z, 8 * j = z := ⟨_, rfl⟩
          rw [hM8] at hw3 hM89
          have hM0 : ((M8 : Int) == 0) = false := by simp; omega
          have hM0' : ¬ (M8 : Int) = 0 := by omega
          have hrem : (bit : Int).tmod (M8 : Int) = ((bit % M8 : Nat) : Int) := rfl
          have hremn : (bit : Int) % (M8 : Int) = ((bit % M8 : Nat) : Int) := rfl
          have hR8 : bit % M8 < 65536 := Nat.lt_of_le_of_lt (Nat.mod_le _ _) hbm
          obtain ⟨R, hR⟩ : ∃ z, bit % M8 = z := ⟨_, rfl⟩
          rw [hR] at hrem hremn hR8
          have hlt9 : (R : Int) ≤ 9223372036854775807 := by clear hw2 hw3 hrem hremn hM0; omega
          have htn := refTurn_any A4 j c4 P (R : Int) p wr hF.rd hc4 (by omega) hp hlt9
          have htt := HTU.out (R : Int) _ rfl
          have hTl := turnB_len P (R : Int) p
          rw [HPL.out] at hTl
          obtain ⟨T, hT⟩ : ∃ z, turnB P (R : Int) p = z := ⟨_, rfl⟩
          rw [hT] at htn htt hTl
          have HTT := Lib.hid htt
          clear hT hTl hM8 hR htt hjM
          go_wp2_with fail
          refine htn.mono ?_
          rintro e w8 ⟨⟨A8, c8, rfl, ho8⟩, hb8⟩
          have h8 := hcd.below hb8
          have hB8 := hF.below.trans (hb8.mono hsz)
          have hr8 := hF.rd.below_ hb8
          have hs8 := hb8.size
          have hge8 := own_ge ho8
          have hgcW := hcd.blk.lt
          have hgtW := hcd.tab.lt
          obtain ⟨_, _, hv8, hlc8, _⟩ := own_form ho8
          have hc8 : j ≤ c8 := by injection hv8; omega
          have hA8 : 0 < j → ∀ ad, A8 = some ad → ad.block ≠ gc ∧ ad.block ≠ w1.heap.size := fun _ ad e => by
            have := hge8 ad.block (by rw [e]; rfl)
            constructor <;> omega
          have hq8 := Rd.of_own ho8
          have hgg := frameGet_any gc w1.heap.size G Bd st A8 j c8 T w8 h8 hq8 hc8 (by omega) (fun h0 ad e => (hA8 h0 ad e).2) (by omega) (by omega)
          obtain ⟨Q, hQ⟩ : ∃ z, getF T = z := ⟨_, rfl⟩
          rw [hQ] at hgg HTT
          obtain ⟨K, BB, N, E⟩ := Q
          simp only at HTT
          clear htn hb8 hF hcd ho8 hv8 hlc8 hge8 hQ hw2 hw3 hrem hremn hM0
          go_wp2_with fail
          refine hgg.mono ?_
          rintro e w10 ⟨⟨A10, c10, rfl, ho10⟩, _, hk10⟩
          have hB10 : Below w.heap.size w w10 := hB8.trans (hk10.below hB8.size (by simp; omega))
          have hr10 := hr8.keeps hk10 (fun h0 ad e hm => by
            have := hA4 h0 ad e
            simp at hm
            rcases hm with hm | hm
            · exact this.1 hm
            · exact this.2 hm)
          have hq10 := hq8.keeps hk10 (fun h0 ad e hm => by
            have := hA8 h0 ad e
            simp at hm
            rcases hm with hm | hm
            · exact this.1 hm
            · exact this.2 hm)
          have hV : Below w10.heap.size w10 (w10.alloc (.cells #[.int .u8 (K.toNat : Int), .slice A10 BB.length c10] 39)) := (Below.refl _ _).alloc (Nat.le_refl _) _
          have hB11 := hB10.trans (hV.mono hB10.size)
          have hsm := Same_any A8 A4 j j c8 c4 T P (w10.alloc (.cells #[.int .u8 (K.toNat : Int), .slice A10 BB.length c10] 39)) (hq10.below_ hV) (hr10.below_ hV)
          have hD : (E == 0) = decide (T = P) := by
            by_cases h0 : T = P
            · rw [decide_eq_true h0, HTT.out.2 h0]; rfl
            · rw [decide_eq_false h0]
              have hne : E ≠ 0 := fun e => h0 (HTT.out.1 e)
              simp [hne]
          obtain ⟨D, hDD⟩ : ∃ z, decide (T = P) = z := ⟨_, rfl⟩
          rw [hDD] at hD hsm
          have tD : (D == D) = true := by simp
          clear hgg hk10 ho10 hr8 hq8 hB8 hr10 hq10 hDD
          simp only
          go_wp2_with fail
          generalize (w10.alloc (.cells #[.int .u8 (K.toNat : Int), .slice A10 BB.length c10] 39)) = w11 at hsm hB11 ⊢
          refine hsm.mono ?_
          rintro e w12 ⟨rfl, hd12⟩
          have hB12 := hB11.trans (hd12.below _)
          clear hsm hd12 hB11
          go_wp2_with fail
          refine (awake03 w12).mono ?_
          rintro e w9 ⟨rfl, hb9⟩
          have hfin := hB12.trans (hb9.mono hB12.size)
          clear hb9
          go_wp2_with fail
          go_ret
          exact ⟨rfl, hfin⟩
end Go.Proofs.Ytgflgncpjlgeoaa
