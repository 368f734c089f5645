/- Contract: catenarylaw01.put. -/
import Derived.Test.YtehfddafjemedaaRef01c
import Derived.Test.YtehfddafjemedaaRef01d
namespace Go.Proofs.Ytehfddafjemedaa
open Go.RowKit
set_option linter.unusedSimpArgs false
set_option linter.unusedVariables false

/-- Something that is put. -/
structure Itm where
  kind : Int
  num : Nat
  width : Int
  x : PC
def noItm : Itm := ⟨0, 0, 0, noPC⟩
def Itm.arr (p : Itm) : Array Value := #[.int .i64 p.kind, .int .u64 (p.num : Int), .int .i64 p.width, p.x.val]
/-- Its bytes that are looked at. -/
def Itm.cut (p : Itm) : List UInt8 := p.x.bs.take 60
def oddB (n : Nat) : Bool := decide (n % 2 = 1)
def itmB (p : Itm) : List UInt8 := if p.kind = 0 then putBs p.num p.width else if p.kind = 1 then p.cut else if p.kind = 2 then beB p.cut.length 2 ++ p.cut else [UInt8.ofNat (if oddB p.num = true then 1 else 0)]
def itmE (p : Itm) : Int := if p.kind = 0 then putBad p.num p.width else 0
def itmS (s : OutS) (p : Itm) : OutS := if p.kind = 0 then putN s p.num p.width else if p.kind = 1 then putS s p.cut else if p.kind = 2 then textS s p.cut else boolS s (oddB p.num)

theorem OutStep.then_ {base g : Nat} {sl : Value} {s' : OutS} {w w1 w' : World} (h : OutStep base g sl s' w w1) (hw : w.heap.size ≤ w1.heap.size) (hb : Below w1.heap.size w1 w') : OutStep base g sl s' w w' := by
  obtain ⟨sl', h1, h2, h3⟩ := h
  exact ⟨sl', h1.below hb, h2.trans (Keeps.of_below hb []) (fun i hi => by cases hi), h3⟩
theorem OutStep.size {base g : Nat} {sl : Value} {s' : OutS} {w w1 : World} (h : OutStep base g sl s' w w1) : w.heap.size ≤ w1.heap.size := by
  obtain ⟨_, _, h2, _⟩ := h
  exact h2.size
theorem OutStep.blk {base g : Nat} {sl : Value} {s' : OutS} {w w1 : World} {k : Nat} {t : TypeId} {cs : Array Value} (h : OutStep base g sl s' w w1) (hB : Blk w k t cs) (h1 : g < k) (h2 : ∀ j ∈ sl.ownBlock, j < k) : Blk w1 k t cs := by
  obtain ⟨_, _, hk, _⟩ := h
  refine hB.keeps hk fun hm => ?_
  rcases List.mem_cons.1 hm with e | hm
  · omega
  · have := h2 k (by simpa using hm); omega
theorem OutStep.rd {base g : Nat} {sl : Value} {s s' : OutS} {w w1 : World} {A : Option Addr} {n : Nat} {xs : List UInt8} (h : OutStep base g sl s' w w1) (h0 : OutAt w base g sl s) (hr : Rd w A n xs) (hlow : 0 < n → ∀ ad, A = some ad → ad.block < base) : Rd w1 A n xs := by
  obtain ⟨_, _, hk, _⟩ := h
  refine hr.keeps hk fun hn ad e hm => ?_
  have h1 := hlow hn ad e
  rcases List.mem_cons.1 hm with e | hm
  · have := h0.ge; omega
  · have := own_ge h0.own _ (by simpa using hm); omega

/-- What put tells. -/
def ItmTold (bs : List UInt8) (er : Int) (e : Ending) (w' : World) : Prop := ∃ A c, e = .returned (.tuple #[.slice A bs.length c, .int .i64 er]) ∧ Rd w' A bs.length bs ∧ bs.length ≤ c ∧ c ≤ 9223372036854775807
theorem PutTold.itm {B : Nat} {bs : List UInt8} {er : Int} {e : Ending} {w : World} (h : PutTold B bs er e w) : ItmTold bs er e w := by
  obtain ⟨A, c, e1, ho⟩ := h
  obtain ⟨_, _, hv, h1, h2⟩ := own_form ho
  injection hv with _ _ e3
  subst e3
  exact ⟨A, c, e1, Rd.of_own ho, h1, by unfold maxLen at h2; omega⟩

set_option maxRecDepth 100000 in
set_option maxHeartbeats 4000000 in
theorem put_any (base g : Nat) (sl : Value) (s : OutS) (p : Itm) (w : World) (h : OutAt w base g sl s) (hbase : base ≤ w.heap.size) (hsm : s.small) (hn : p.num < 18446744073709551616)
    (hr : Rd w p.x.A p.x.bs.length p.x.bs) (hc : p.x.bs.length ≤ p.x.c) (hcm : p.x.c ≤ 9223372036854775807) (hlow : 0 < p.x.bs.length → ∀ ad, p.x.A = some ad → ad.block < base) :
    Calls Try.prog 28 #[.pointer (some ⟨g, 0, none⟩), .agg p.arr] w fun e w' => ItmTold (itmB p) (itmE p) e w' ∧ OutStep base g sl (itmS s p) w w' := by
  obtain ⟨kind, num, width, A, c, bs⟩ := p
  simp only at hn hr hc hcm hlow
  have hcut := fun W => cut_any A bs.length c 60 W (by omega) hc
  have hr0 : Rd w A (min bs.length 60) (bs.take 60) := rd_cut (m := 60) hr
  have hl0 : (bs.take 60).length = min bs.length 60 := by rw [List.length_take, Nat.min_comm]
  have hX : Below w.heap.size w (w.alloc (.cells #[.int .i64 kind, .int .u64 (num : Int), .int .i64 width, .slice A bs.length c] 58)) := (Below.refl _ _).alloc (Nat.le_refl _) _
  have hx := Blk.new w 58 #[.int .i64 kind, .int .u64 (num : Int), .int .i64 width, .slice A bs.length c]
  have hgw := h.blk.lt
  have hol := own_lt h.own
  simp only [Itm.arr, PC.val]
  unfold itmB itmE itmS Itm.cut
  simp only
  have hlow0 : 0 < min bs.length 60 → ∀ ad, A = some ad → ad.block < base := fun h0 => hlow (by omega)
  obtain ⟨L, hL⟩ : ∃ z, bs.length = z := ⟨_, rfl⟩
  obtain ⟨X, hX0⟩ : ∃ z, bs.take 60 = z := ⟨_, rfl⟩
  obtain ⟨N, hN⟩ : ∃ z, min bs.length 60 = z := ⟨_, rfl⟩
  rw [hN] at hr0 hlow0 hl0
  rw [hX0] at hr0 hl0
  rw [hX0]
  rw [hN] at hcut
  rw [hL] at hcut hx hX hc
  have hNL : N ≤ L ∧ N ≤ 60 := by omega
  have h1 := h.below hX
  have hr1 := hr0.below_ hX
  clear hr hlow hX0 hN
  rw [hL]
  clear hL
  have x0 := hx.cell 0
  have x1 := hx.cell 1
  have x2 := hx.cell 2
  have x3 := hx.cell 3
  have xl := hx.lt
  simp only [List.getElem?_toArray, List.getElem?_cons_zero, List.getElem?_cons_succ] at x0 x1 x2 x3
  by_cases k0 : kind = 0
  · subst k0
    have hp := fun W => refPut_any num width W hn
    obtain ⟨B, hB⟩ : ∃ z, putBs num width = z := ⟨_, rfl⟩
    obtain ⟨E, hE⟩ : ∃ z, putBad num width = z := ⟨_, rfl⟩
    obtain ⟨S, hS⟩ : ∃ z, putN s num width = z := ⟨_, rfl⟩
    simp only [hB, hE] at hp
    simp only [if_true, hB, hE, hS]
    have HS := Lib.hid hS
    clear hB hE hS
    go_enter Try.func28, Try.ntmps28
    go_wp2_with fail
    refine (hcut _).mono ?_
    rintro e w1 ⟨rfl, rfl⟩
    go_wp2_with fail
    refine (outPut_any base g sl s num width _ h1 (by have := hX.size; omega) hsm hn).mono ?_
    rw [HS.out]
    rintro e w1 ⟨rfl, hst⟩
    have hx1 := hst.blk hx hgw hol
    have hs1 := hst.size
    clear x0 x1 x2 x3 xl
    have x0 := hx1.cell 0
    have x1 := hx1.cell 1
    have x2 := hx1.cell 2
    have x3 := hx1.cell 3
    have xl := hx1.lt
    simp only [List.getElem?_toArray, List.getElem?_cons_zero, List.getElem?_cons_succ] at x0 x1 x2 x3
    go_wp2_with fail
    refine (hp _).mono ?_
    rintro e w2 ⟨⟨A2, c2, rfl, ho2⟩, hb2⟩
    have hfin := (hst.then_ hs1 hb2).after hX
    have htold := PutTold.itm (e := .returned (.tuple #[.slice A2 B.length c2, .int .i64 E])) ⟨A2, c2, rfl, ho2⟩
    clear hst hb2 ho2 hX hx hx1 x0 x1 x2 x3 xl hp hs1
    go_wp2_with fail
    refine bodyPost_ret (v := .tuple #[.slice A2 B.length c2, .int .i64 E]) (by simp [results, Try.results28, go_sem]) rfl ?_
    exact ⟨htold, hfin⟩
  · by_cases k1 : kind = 1
    · subst k1
      obtain ⟨S, hS⟩ : ∃ z, putS s X = z := ⟨_, rfl⟩
      simp only [if_neg k0, if_true, hS]
      have HS := Lib.hid hS
      clear hS k0
      go_enter Try.func28, Try.ntmps28
      go_wp2_with fail
      refine (hcut _).mono ?_
      rintro e w1 ⟨rfl, rfl⟩
      go_wp2_with fail
      refine (outRaw_any base g sl s A N c X _ h1 (by have := hX.size; omega) hsm hr1 (by omega) (by omega)).mono ?_
      rw [HS.out]
      rintro e w1 ⟨rfl, hst⟩
      have hx1 := hst.blk hx hgw hol
      have hs1 := hst.size
      clear x0 x1 x2 x3 xl
      have x0 := hx1.cell 0
      have x1 := hx1.cell 1
      have x2 := hx1.cell 2
      have x3 := hx1.cell 3
      have xl := hx1.lt
      simp only [List.getElem?_toArray, List.getElem?_cons_zero, List.getElem?_cons_succ] at x0 x1 x2 x3
      have hfin := hst.after hX
      have htold : ItmTold X 0 (.returned (.tuple #[.slice A N c, .int .i64 0])) w1 := ⟨A, c, by rw [hl0], by rw [hl0]; exact hst.rd h1 hr1 hlow0, by omega, hcm⟩
      clear hst hX hx hx1 x0 x1 x2 x3 xl hs1
      go_wp2_with fail
      refine bodyPost_ret (v := .tuple #[.slice A N c, .int .i64 0]) (by simp [results, Try.results28, go_sem]) rfl ?_
      exact ⟨htold, hfin⟩
    · by_cases k2 : kind = 2
      · subst k2
        obtain ⟨S, hS⟩ : ∃ z, textS s X = z := ⟨_, rfl⟩
        obtain ⟨B, hB⟩ : ∃ z, beB N 2 ++ X = z := ⟨_, rfl⟩
        simp only [if_neg k0, if_neg k1, if_true, hS, hl0, hB]
        have HS := Lib.hid hS
        have HB := Lib.hid hB
        clear hS k0 k1 hB
        go_enter Try.func28, Try.ntmps28
        go_wp2_with fail
        refine (hcut _).mono ?_
        rintro e w1 ⟨rfl, rfl⟩
        go_wp2_with fail
        refine (outText_any base g sl s A N c X _ h1 (by have := hX.size; omega) hsm hr1 (by omega) (by omega)).mono ?_
        rw [HS.out]
        rintro e w1 ⟨rfl, hst⟩
        have hx1 := hst.blk hx hgw hol
        have hs1 := hst.size
        clear x0 x1 x2 x3 xl
        have x0 := hx1.cell 0
        have x1 := hx1.cell 1
        have x2 := hx1.cell 2
        have x3 := hx1.cell 3
        have xl := hx1.lt
        simp only [List.getElem?_toArray, List.getElem?_cons_zero, List.getElem?_cons_succ] at x0 x1 x2 x3
        have hp := refText_any A N c X w1 (hst.rd h1 hr1 hlow0) (by omega)
        rw [HB.out] at hp
        go_wp2_with fail
        refine hp.mono ?_
        rintro e w2 ⟨⟨A2, c2, rfl, ho2⟩, hb2⟩
        have hfin := (hst.then_ hs1 hb2).after hX
        have htold := PutTold.itm (e := .returned (.tuple #[.slice A2 B.length c2, .int .i64 0])) ⟨A2, c2, rfl, ho2⟩
        clear hst hb2 ho2 hX hx hx1 x0 x1 x2 x3 xl hp hs1
        go_wp2_with fail
        refine bodyPost_ret (v := .tuple #[.slice A2 B.length c2, .int .i64 0]) (by simp [results, Try.results28, go_sem]) rfl ?_
        exact ⟨htold, hfin⟩
      · obtain ⟨o, ho⟩ : ∃ z, oddB num = z := ⟨_, rfl⟩
        obtain ⟨S, hS⟩ : ∃ z, boolS s o = z := ⟨_, rfl⟩
        have hp := fun W => refYes_any o W
        obtain ⟨B, hB⟩ : ∃ z : UInt8, UInt8.ofNat (if o = true then 1 else 0) = z := ⟨_, rfl⟩
        simp only [hB] at hp
        simp only [if_neg k0, if_neg k1, if_neg k2, ho, hS, hB]
        have HS := Lib.hid hS
        have hod : ((num : Int) % 2 == 1) = o := by
          rw [← ho]
          unfold oddB
          rw [Bool.eq_iff_iff]
          simp
          omega
        clear hS ho hB
        go_enter Try.func28, Try.ntmps28
        go_wp2_with fail
        refine (hcut _).mono ?_
        rintro e w1 ⟨rfl, rfl⟩
        go_wp2_with fail
        refine (outBool_any base g sl s o _ h1 (by have := hX.size; omega) hsm).mono ?_
        rw [HS.out]
        rintro e w1 ⟨rfl, hst⟩
        have hx1 := hst.blk hx hgw hol
        have hs1 := hst.size
        clear x0 x1 x2 x3 xl
        have x0 := hx1.cell 0
        have x1 := hx1.cell 1
        have x2 := hx1.cell 2
        have x3 := hx1.cell 3
        have xl := hx1.lt
        simp only [List.getElem?_toArray, List.getElem?_cons_zero, List.getElem?_cons_succ] at x0 x1 x2 x3
        go_wp2_with fail
        refine (hp _).mono ?_
        rintro e w2 ⟨rfl, ho2, hb2⟩
        have hfin := (hst.then_ hs1 hb2).after hX
        have htold := PutTold.itm (bs := [B]) (er := 0) (e := .returned (.tuple #[.slice (some ⟨w1.heap.size, 0, none⟩) 1 1, .int .i64 0])) ⟨_, _, rfl, ho2⟩
        clear hst hb2 ho2 hX hx hx1 x0 x1 x2 x3 xl hp hs1
        go_wp2_with fail
        refine bodyPost_ret (v := .tuple #[.slice (some ⟨w1.heap.size, 0, none⟩) 1 1, .int .i64 0]) (by simp [results, Try.results28, go_sem]) rfl ?_
        exact ⟨htold, hfin⟩
end Go.Proofs.Ytehfddafjemedaa
