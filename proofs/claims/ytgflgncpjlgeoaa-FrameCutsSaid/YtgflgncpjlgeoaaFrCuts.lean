/- The walk of FrameCuts. -/
import Derived.Test.YtgflgncpjlgeoaaFr6
import Derived.Test.YtgflgncpjlgeoaaCut
namespace Go.Proofs.Ytgflgncpjlgeoaa
open Go.RowKit
set_option linter.unusedSimpArgs false
set_option linter.unusedVariables false

theorem getF_body_le (b : List UInt8) : (getF b).body.length ≤ b.length := by
  unfold getF
  split
  · simp [frBad]
  · exact cutF_body_le b
theorem RBody.off {w w' : World} {A A' : Option Addr} {c' gc gt n : Nat} {R : FrR} {xs : List UInt8} (h : RBody w' A A' c' R) (hr : Rd w A n xs) (hle : R.body.length ≤ n) (h1 : w.heap.size ≤ gc) (h2 : w.heap.size ≤ gt) :
    0 < R.body.length → ∀ ad, A' = some ad → ad.block ≠ gc ∧ ad.block ≠ gt := fun h0 ad e => by
  obtain ⟨a0, e0, e1⟩ := h.2.2 h0 ad e
  have := hr.lt (Nat.lt_of_lt_of_le h0 hle) a0 e0
  constructor <;> omega
theorem not_two {g a b : Nat} (h1 : g ≠ a) (h2 : g ≠ b) : g ∉ [a, b] := by simp [h1, h2]
theorem rd_two {w w' : World} {A : Option Addr} {n gc gt : Nat} {xs : List UInt8} (h : Rd w A n xs) (hk : Keeps [gc, gt] w w') (hA : 0 < n → ∀ ad, A = some ad → ad.block ≠ gc ∧ ad.block ≠ gt) : Rd w' A n xs :=
  h.keeps hk fun h0 ad e hm => not_two (hA h0 ad e).1 (hA h0 ad e).2 hm
set_option maxRecDepth 100000 in
set_option maxHeartbeats 8000000 in
theorem FrameCuts_walk (A : Option Addr) (n c : Nat) (xs : List UInt8) (w : World) (ha : Rd w A n xs) (hc : n ≤ c) :
    Calls Try.prog 6 #[.slice A n c] w fun e w' => e = .returned (.bool true) ∧ Below w.heap.size w w' := by
  have hcut := cut_any A n c 300 w (by omega) hc
  have hr0 := rd_cut (m := 300) ha
  obtain ⟨N0, hN0⟩ : ∃ z, min n 300 = z := ⟨_, rfl⟩
  obtain ⟨X0, hX0⟩ : ∃ z, xs.take 300 = z := ⟨_, rfl⟩
  rw [hN0] at hcut hr0
  rw [hX0] at hr0
  have hN2 : N0 ≤ 300 ∧ N0 ≤ c := by omega
  have hle := cutF_body_le X0
  have hle2 := getF_body_le X0
  rw [hr0.1] at hle hle2
  obtain ⟨R1, hR1⟩ : ∃ z, cutF X0 = z := ⟨_, rfl⟩
  obtain ⟨R2, hR2⟩ : ∃ z, getF X0 = z := ⟨_, rfl⟩
  have hrc := fun W h => refCut3_any A N0 c X0 W h hN2.2 (by omega)
  have hrg := fun W h => refGet3_any A N0 c X0 W h hN2.2 (by omega)
  simp only [hR1] at hrc
  simp only [hR2] at hrg
  rw [hR1] at hle
  rw [hR2] at hle2
  clear hN0 hX0 ha
  have hlt := fun h0 ad e => hr0.lt h0 ad e
  go_enter Try.func6, Try.ntmps6
  go_wp2_with fail
  refine hcut.mono ?_
  rintro e w0 ⟨rfl, rfl⟩
  clear hcut
  go_wp2_with fail
  refine (frameNew_nil w).mono ?_
  rintro e w1 ⟨⟨gc, rfl, h1, hgc⟩, hb1⟩
  have hA : 0 < N0 → ∀ ad, A = some ad → ad.block ≠ gc ∧ ad.block ≠ w.heap.size := fun h0 ad e => by
    have := hlt h0 ad e
    constructor <;> omega
  have hgt1 := h1.tab.lt
  have hgc1 := h1.blk.lt
  have hr1 := hr0.below_ hb1
  have hcu := frameCut_any gc w.heap.size 0 0 false A N0 c X0 w1 h1 hr1 hN2.2 (by omega) (fun h0 ad e => (hA h0 ad e).2) (by omega) (by omega)
  rw [hR1] at hcu
  obtain ⟨K1, B1, M1, E1⟩ := R1
  clear hR1
  go_wp2_with fail
  refine hcu.mono ?_
  rintro e w2 ⟨⟨A2, c2, rfl, ho2⟩, ⟨st2, h2⟩, hk2⟩
  simp only at ho2 h2 ⊢
  have hB2 : Below w.heap.size w w2 := hb1.trans (hk2.below hb1.size (by simp; omega))
  have hA2 : 0 < B1.length → ∀ ad, A2 = some ad → ad.block ≠ gc ∧ ad.block ≠ w.heap.size := fun _ ad e => by
    have := own_ge ho2 ad.block (by rw [e]; rfl)
    constructor <;> omega
  have hq2 := Rd.of_own ho2
  have hV2 : Below w2.heap.size w2 (w2.alloc (.cells #[.int .u8 (K1.toNat : Int), .slice A2 B1.length c2] 39)) := (Below.refl _ _).alloc (Nat.le_refl _) _
  have hv2 := Blk.new w2 39 #[.int .u8 (K1.toNat : Int), .slice A2 B1.length c2]
  have h3 := h2.below hV2
  have hq3 := hq2.below_ hV2
  have hB3 := hB2.trans (hV2.mono hB2.size)
  have hgc2 := h2.blk.lt
  have hgt2 := h2.tab.lt
  clear hcu hk2 ho2 h2 hq2 hB2 h1 hr1 hV2
  go_wp2_with fail
  generalize (w2.alloc (.cells #[.int .u8 (K1.toNat : Int), .slice A2 B1.length c2] 39)) = w3 at hv2 h3 hq3 hB3 ⊢
  refine (hrc w3 (hr0.below_ hB3)).mono ?_
  rintro e w4 ⟨⟨A4, c4, rfl, hbd4⟩, hb4⟩
  simp only [frV] at hbd4 ⊢
  have hxb4 := hv2.below hb4 hv2.lt
  have h4 := h3.below hb4
  have hq4 := hq3.below_ hb4
  have hB4 := hB3.trans (hb4.mono hB3.size)
  have hA4 := hbd4.off hr0 hle hgc (Nat.le_refl _)
  simp only at hA4
  have hp4 := hbd4.1
  simp only at hp4
  have hV4 : Below w4.heap.size w4 (w4.alloc (.cells #[.int .u8 (K1.toNat : Int), .slice A4 B1.length c4] 25)) := (Below.refl _ _).alloc (Nat.le_refl _) _
  have hv4 := Blk.new w4 25 #[.int .u8 (K1.toNat : Int), .slice A4 B1.length c4]
  have h5 := h4.below hV4
  have hq5 := hq4.below_ hV4
  have hp5 := hp4.below_ hV4
  have hxb5 := hxb4.below hV4 hxb4.lt
  have hB5 := hB4.trans (hV4.mono hB4.size)
  have hs4 := hxb4.lt
  clear hbd4 hb4 hrc hq4 h4 hxb4 hV4 hp4 hB3 hq3 h3 hv2 hB4
  go_wp2_with fail
  generalize (w4.alloc (.cells #[.int .u8 (K1.toNat : Int), .slice A4 B1.length c4] 25)) = w5 at h5 hq5 hp5 hxb5 hv4 hB5 ⊢
  have hl5 := hv4.lt
  have hge := frameGet_any gc w.heap.size _ _ st2 A N0 c X0 w5 h5 (hr0.below_ hB5) hN2.2 (by omega) (fun h0 ad e => (hA h0 ad e).2) (by unfold moreGood; split <;> omega) (by unfold moreBad; split <;> omega)
  rw [hR2] at hge
  obtain ⟨K2, B2, M2, E2⟩ := R2
  clear hR2
  go_wp2_with fail
  refine hge.mono ?_
  rintro e w6 ⟨⟨A6, c6, rfl, ho6⟩, ⟨st6, h6⟩, hk6⟩
  simp only at ho6 ⊢
  have hB6 : Below w.heap.size w w6 := hB5.trans (hk6.below hB5.size (by simp; omega))
  have hxb6 := hxb5.keeps hk6 (not_two (by omega) (by omega))
  have hyb6 := hv4.keeps hk6 (not_two (by omega) (by omega))
  have hq6 := rd_two hq5 hk6 hA2
  have hp6 := rd_two hp5 hk6 hA4
  have hs6 := hk6.size
  have hr6 := Rd.of_own ho6
  have hV6 : Below w6.heap.size w6 (w6.alloc (.cells #[.int .u8 (K2.toNat : Int), .slice A6 B2.length c6] 39)) := (Below.refl _ _).alloc (Nat.le_refl _) _
  have hv6 := Blk.new w6 39 #[.int .u8 (K2.toNat : Int), .slice A6 B2.length c6]
  have hq7 := hq6.below_ hV6
  have hp7 := hp6.below_ hV6
  have hr7 := hr6.below_ hV6
  have hxb7 := hxb6.below hV6 hxb6.lt
  have hyb7 := hyb6.below hV6 hyb6.lt
  have hB7 := hB6.trans (hV6.mono hB6.size)
  clear hge hk6 ho6 h6 h5 hq5 hp5 hxb5 hv4 hB5 hq6 hp6 hr6 hyb6 hxb6 hB6 hV6
  go_wp2_with fail
  generalize (w6.alloc (.cells #[.int .u8 (K2.toNat : Int), .slice A6 B2.length c6] 39)) = w7 at hq7 hp7 hr7 hxb7 hyb7 hv6 hB7 ⊢
  refine (hrg w7 (hr0.below_ hB7)).mono ?_
  rintro e w8 ⟨⟨A8, c8, rfl, hbd8⟩, hb8⟩
  simp only [frV] at hbd8 ⊢
  have hq8 := hq7.below_ hb8
  have hp8 := hp7.below_ hb8
  have hr8 := hr7.below_ hb8
  have hxb8 := hxb7.below hb8 hxb7.lt
  have hyb8 := hyb7.below hb8 hyb7.lt
  have hpb8 := hv6.below hb8 hv6.lt
  have hB8 := hB7.trans (hb8.mono hB7.size)
  have ht8 := hbd8.1
  simp only at ht8
  have hV8 : Below w8.heap.size w8 (w8.alloc (.cells #[.int .u8 (K2.toNat : Int), .slice A8 B2.length c8] 25)) := (Below.refl _ _).alloc (Nat.le_refl _) _
  have hv8 := Blk.new w8 25 #[.int .u8 (K2.toNat : Int), .slice A8 B2.length c8]
  have hq9 := hq8.below_ hV8
  have hp9 := hp8.below_ hV8
  have hr9 := hr8.below_ hV8
  have ht9 := ht8.below_ hV8
  have hxb9 := hxb8.below hV8 hxb8.lt
  have hyb9 := hyb8.below hV8 hyb8.lt
  have hpb9 := hpb8.below hV8 hpb8.lt
  have hB9 := hB8.trans (hV8.mono hB8.size)
  clear hbd8 hb8 hrg hq8 hp8 hr8 ht8 hxb8 hyb8 hpb8 hB8 hV8 hq7 hp7 hr7 hxb7 hyb7 hv6 hB7
  have x0a := hxb9.cell 0
  have x1a := hxb9.cell 1
  have xla := hxb9.lt
  simp only [List.getElem?_toArray, List.getElem?_cons_zero, List.getElem?_cons_succ] at x0a x1a
  have x0b := hyb9.cell 0
  have x1b := hyb9.cell 1
  have xlb := hyb9.lt
  simp only [List.getElem?_toArray, List.getElem?_cons_zero, List.getElem?_cons_succ] at x0b x1b
  go_wp2_with fail
  generalize (w8.alloc (.cells #[.int .u8 (K2.toNat : Int), .slice A8 B2.length c8] 25)) = w9 at *
  have hl1 := like_any K1 K1 A2 A4 B1.length B1.length c2 c4 B1 B1 w9 hq9 hp9
  rw [show decide (K1 = K1 ∧ B1 = B1) = true by simp] at hl1
  unfold frV at hl1
  refine hl1.mono ?_
  rintro e w10 ⟨rfl, hb10⟩
  have hr10 := hr9.below_ hb10
  have ht10 := ht9.below_ hb10
  have hqb10 := hv8.below hb10 hv8.lt
  have hpb10 := hpb9.below hb10 hpb9.lt
  have hB10 := hB9.trans (hb10.mono hB9.size)
  clear hl1 hb10 x0a x1a xla x0b x1b xlb hB9
  have x0a := hqb10.cell 0
  have x1a := hqb10.cell 1
  have xla := hqb10.lt
  simp only [List.getElem?_toArray, List.getElem?_cons_zero, List.getElem?_cons_succ] at x0a x1a
  have x0b := hpb10.cell 0
  have x1b := hpb10.cell 1
  have xlb := hpb10.lt
  simp only [List.getElem?_toArray, List.getElem?_cons_zero, List.getElem?_cons_succ] at x0b x1b
  have hl2 := like_any K2 K2 A6 A8 B2.length B2.length c6 c8 B2 B2 w10 hr10 ht10
  rw [show decide (K2 = K2 ∧ B2 = B2) = true by simp] at hl2
  unfold frV at hl2
  have tE1 : (E1 == E1) = true := by simp
  have tE2 : (E2 == E2) = true := by simp
  go_wp2_with fail
  refine hl2.mono ?_
  rintro e w11 ⟨rfl, hb11⟩
  have hB11 := hB10.trans (hb11.mono hB10.size)
  clear hl2 hb11 x0a x1a xla x0b x1b xlb hB10
  go_wp2_with fail
  refine (awake03 w11).mono ?_
  rintro e w9 ⟨rfl, hb9⟩
  have hfin := hB11.trans (hb9.mono hB11.size)
  clear hb9
  go_wp2_with fail
  go_ret
  exact ⟨rfl, hfin⟩
end Go.Proofs.Ytgflgncpjlgeoaa
