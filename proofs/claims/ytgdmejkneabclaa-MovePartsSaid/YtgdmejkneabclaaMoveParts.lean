/- The walk of MoveParts. -/
import Derived.Test.YtgdmejkneabclaaMove8
namespace Go.Proofs.Ytgdmejkneabclaa
open Go.RowKit
set_option linter.unusedSimpArgs false
set_option linter.unusedVariables false

def partOk (n : Nat) (i : Int) : Bool := decide (0 ≤ i ∧ i < (nparts n : Int))
def partI (xs : List UInt8) (i : Int) : List UInt8 := if partOk xs.length i = true then partOf xs i.toNat else []
/-- A part that is told, or not. -/
def PartTold (xs : List UInt8) (i : Int) (e : Ending) (w' : World) : Prop := ∃ A n c, e = .returned (.tuple #[.slice A n c, .bool (partOk xs.length i)]) ∧ Rd w' A n (partI xs i)

theorem outPart_all (base g : Nat) (at_ : Int) (xs : List UInt8) (i : Int) (w : World) (h : OutAt w base g at_ xs) (hl : xs.length ≤ 1000000) :
    Calls Try.prog 13 #[.pointer (some ⟨g, 0, none⟩), .int .i64 i] w fun e w' => PartTold xs i e w' ∧ Below w.heap.size w w' := by
  by_cases hi : 0 ≤ i ∧ i < (nparts xs.length : Int)
  · obtain ⟨k, rfl⟩ : ∃ k : Nat, i = k := ⟨i.toNat, by omega⟩
    have hok : partOk xs.length (k : Int) = true := by unfold partOk; exact decide_eq_true hi
    refine (outPart_any base g at_ xs k w h hl (by omega)).mono ?_
    rintro e w' ⟨⟨A, c, rfl, ho⟩, hb⟩
    refine ⟨⟨A, _, c, by rw [hok], ?_⟩, hb⟩
    unfold partI
    rw [if_pos hok]
    exact Rd.of_own ho
  · have hok : partOk xs.length i = false := by unfold partOk; exact decide_eq_false hi
    refine (outPart_bad base g at_ xs i w h hl (by omega)).mono ?_
    rintro e w' ⟨rfl, rfl⟩
    refine ⟨⟨none, 0, 0, by rw [hok], ?_⟩, Below.refl _ _⟩
    unfold partI
    rw [if_neg (by rw [hok]; simp)]
    exact Rd.nil _ _
theorem refPart_all (A : Option Addr) (n c : Nat) (xs : List UInt8) (i : Int) (w : World) (ha : Rd w A n xs) (hc : n ≤ c) (hn : n ≤ 1000000) :
    Calls Try.prog 14 #[.slice A n c, .int .i64 i] w fun e w' => PartTold xs i e w ∧ w = w' := by
  have hxl := ha.1
  by_cases hi : 0 ≤ i ∧ i < (nparts n : Int)
  · obtain ⟨k, rfl⟩ : ∃ k : Nat, i = k := ⟨i.toNat, by omega⟩
    have hok : partOk xs.length (k : Int) = true := by rw [hxl]; unfold partOk; exact decide_eq_true hi
    refine (refPart_any A n c xs k w ha hc hn (by omega)).mono ?_
    rintro e w' ⟨⟨A', n', c', rfl, ho⟩, rfl⟩
    refine ⟨⟨A', n', c', by rw [hok], ?_⟩, rfl⟩
    unfold partI
    rw [if_pos hok]
    exact ho
  · have hok : partOk xs.length i = false := by rw [hxl]; unfold partOk; exact decide_eq_false hi
    refine (refPart_bad A n c i w hn (by omega)).mono ?_
    rintro e w' ⟨rfl, rfl⟩
    refine ⟨⟨none, 0, 0, by rw [hok], ?_⟩, rfl⟩
    unfold partI
    rw [if_neg (by rw [hok]; simp)]
    exact Rd.nil _ _

theorem take_part (xs : List UInt8) (k : Nat) : xs.take (1024 * k) ++ partOf xs k = xs.take (1024 * (k + 1)) := by
  unfold partOf
  rw [Nat.mul_add, Nat.mul_one, List.take_add]

set_option maxRecDepth 100000 in
set_option maxHeartbeats 2000000 in
theorem MoveParts_walk (at_ : Int) (A : Option Addr) (n c : Nat) (xs : List UInt8) (i : Int) (w : World) (ha : Rd w A n xs) (hc : n ≤ c) :
    Calls Try.prog 3 #[.int .u64 at_, .slice A n c, .int .i64 i] w fun e w' => e = .returned (.bool true) ∧ Below w.heap.size w w' := by
  obtain ⟨i0, hi0, hz0, hz1, hz2⟩ := info_parts info_u8
  have hn := ha.2.1
  by_cases hlong : 6000 < n
  · have t0 : (6000 : Int) < (n : Int) := by omega
    clear hlong
    go_enter Try.func3, Try.ntmps3
    go_wp2_with fail
    refine (awake21 w).mono ?_
    rintro e w1 ⟨rfl, hb1⟩
    go_wp2_with fail
    go_ret
    exact ⟨rfl, hb1⟩
  have t0 : ¬ (6000 : Int) < (n : Int) := by omega
  have hx6 : xs.length ≤ 1000000 := by have := ha.1; omega
  have hnp : nparts n ≤ 6 ∧ n ≤ 1024 * nparts n := by unfold nparts pieces; omega
  have HX := Lib.hid ha.1
  clear hlong
  go_enter Try.func3, Try.ntmps3
  go_wp2_with fail
  refine (moveNew_any at_ A n c xs w ha hc (by omega)).mono ?_
  rintro e w1 ⟨rfl, hO1, hb1⟩
  go_wp2_with fail
  refine (outPart_all _ _ at_ xs i w1 hO1 hx6).mono ?_
  rintro e w2 ⟨⟨A2, n2, c2, rfl, hr2⟩, hb2⟩
  have hB2 := hb1.trans (hb2.mono hb1.size)
  have hO2 := hO1.below hb2
  have ha2 : Rd w2 A n xs := ha.below hB2 fun h0 ad e => ha.lt h0 ad e
  obtain ⟨ok, hok⟩ : ∃ ok, partOk xs.length i = ok := ⟨_, rfl⟩
  have HOK := Lib.hid hok
  rw [hok]
  clear hok
  go_wp2_with fail
  refine (refPart_all A n c xs i w2 ha2 hc (by omega)).mono ?_
  rintro e w3 ⟨⟨A3, n3, c3, rfl, hr3⟩, rfl⟩
  rw [HOK.out]
  obtain ⟨np, hnpe⟩ : ∃ np, nparts n = np := ⟨_, rfl⟩
  have HNP := Lib.hid hnpe
  rw [hnpe] at hnp
  clear hnpe ha hb1 hb2 hO1
  have hS2 := hB2.size
  go_wp2_with fail
  go_loopw [12, 13] (fun v i wr => ∃ (k : Nat) (L : List UInt8), k ≤ np ∧ i = .int .i64 (k : Int) ∧ wr.ownsRow w2.heap.size 5 1 v L.length (L.map bv) ∧ Hid (L = xs.take (1024 * k)) ∧ Below w2.heap.size w2 wr) (fun _ i _ => np - (intOf i).toNat)
  case atStart => exact ⟨0, [], Nat.zero_le _, rfl, World.ownsRow_nil _ _ _ _, Lib.hid (by simp), Below.refl _ _⟩
  case round =>
    obtain ⟨k, L, hk, rfl, ho, HL, hb⟩ := hrel
    have hO := hO2.below hb
    have hs := hb.size
    obtain ⟨Av, cv, hsl, hlc, hcm⟩ := own_form ho
    subst hsl
    by_cases hlt : k < np
    · have t1 : (k : Int) < (np : Int) := by omega
      have t2 : (k : Int) < 20 := by omega
      clear hlt
      go_wp2_with fail
      refine (outParts_any _ _ at_ xs wr hO hx6).mono ?_
      rintro e w4 ⟨rfl, rfl⟩
      rw [HX.out, HNP.out]
      go_wp2_with fail
      refine (outPart_any _ _ at_ xs k wr hO hx6 (by rw [HX.out, HNP.out]; omega)).mono ?_
      rintro e w5 ⟨⟨Ap, cp, rfl, hop⟩, hb5⟩
      have ho5 := own_below ho hb5 (own_lt ho)
      have hB5 := hb.trans (hb5.mono hs)
      have hs5 := hB5.size
      have hlk : L.length ≤ 6000 := by have := HX.out; rw [HL.out]; simp; omega
      have hlp : (partOf xs k).length ≤ 1024 := by unfold partOf; simp; omega
      obtain ⟨M, hM⟩ : ∃ M, partOf xs k = M := ⟨_, rfl⟩
      have hLM : L ++ M = xs.take (1024 * (k + 1)) := by rw [HL.out, ← hM]; exact take_part xs k
      rw [hM] at hop hlp ⊢
      have HLM := Lib.hid hLM
      clear hM hLM
      go_wp2_with (at_builtin; refine wpList_append_src rfl (.tmp 51) (.tmp 52) _ rfl w2.heap.size 5 i0 _ 1 1 Try.underlying23 hi0 hz0 hz1 hz2 rfl (by omega) (.slice Av L.length cv) L.length (L.map bv) rfl ?d0 Ap M.length cp (M.map bv) rfl ?d1 ?d2 ?d3 ?d4 ?d5)
      case d0 => exact ho5
      case d1 => exact (Rd.of_own hop).src
      case d2 => unfold maxLen; omega
      case d3 => omega
      case d4 => omega
      case d5 =>
        intro v' w6 ho6 hgr _
        have hk6 := Keeps.of_grown hgr
        have hB6 : Below w2.heap.size w2 w6 := hB5.trans (hk6.below hs5 fun j hj => own_ge ho5 j (by simpa using hj))
        rw [← List.map_append, ← List.length_append] at ho6
        obtain ⟨L2, hL2⟩ : ∃ L2, L ++ M = L2 := ⟨_, rfl⟩
        have HL2 : Hid (L2 = xs.take (1024 * (k + 1))) := Lib.hid (by rw [← hL2, HLM.out])
        rw [hL2] at ho6
        clear hL2
        clear ho5 hop hgr hk6 hB5 hb5 ho hb hO
        go_wp2_with fail
        exact ⟨⟨k + 1, L2, by omega, rfl, ho6, HL2, hB6⟩, by simp [intOf]; omega⟩
    · obtain rfl : k = np := by omega
      obtain rfl : xs = L := by rw [HL.out]; exact (List.take_of_length_le (by rw [HX.out]; omega)).symm
      rw [HX.out] at ho ⊢
      clear HL
      have hrv : Rd wr Av n xs := Rd.of_own ho
      have hbe : Below w.heap.size w wr := hB2.trans (hb.mono hS2)
      have har := ha2.below hb fun h0 ad e => ha2.lt h0 ad e
      have hr2' := hr2.below hb fun h0 ad e => hr2.lt h0 ad e
      have hr3' := hr3.below hb fun h0 ad e => hr3.lt h0 ad e
      have hok : (ok == ok) = true := by simp
      clear hlt ho hb hO2 hB2 ha2 hr2 hr3 hk hlc hcm
      go_wp2_with fail
      refine (outParts_any _ _ at_ xs wr hO hx6).mono ?_
      rintro e w4 ⟨rfl, rfl⟩
      rw [HX.out, HNP.out]
      go_wp2_with fail
      refine (outAt_any _ _ at_ xs wr hO).mono ?_
      rintro e w4 ⟨rfl, rfl⟩
      go_wp2_with fail
      refine (outParts_any _ _ at_ xs wr hO hx6).mono ?_
      rintro e w4 ⟨rfl, rfl⟩
      rw [HX.out, HNP.out]
      go_wp2_with fail
      refine (refParts_any A n c wr (by omega)).mono ?_
      rintro e w4 ⟨rfl, rfl⟩
      rw [HNP.out]
      go_wp2_with fail
      refine (Same_any A2 A3 n2 n3 c2 c3 _ _ wr hr2' hr3').mono ?_
      rintro e w5 ⟨rfl, m5, rfl⟩
      rw [decide_eq_true rfl]
      go_wp2_with fail
      refine (Same_any Av A n n cv c xs xs _ (hrv.drewN _) (har.drewN _)).mono ?_
      rintro e w6 ⟨rfl, m6, rfl⟩
      rw [decide_eq_true rfl]
      go_wp2_with fail
      refine (awake21 _).mono ?_
      rintro e w7 ⟨rfl, hb7⟩
      go_wp2_with fail
      go_ret
      exact ⟨rfl, hbe.trans ((below_drewN (Below.refl _ _) _).trans (hb7.mono hbe.size))⟩
end Go.Proofs.Ytgdmejkneabclaa
