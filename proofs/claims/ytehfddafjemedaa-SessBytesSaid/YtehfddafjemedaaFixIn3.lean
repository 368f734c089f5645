/- Contracts of package fix: Raw, Text. -/
import Derived.Test.YtehfddafjemedaaFixIn2
namespace Go.Proofs.Ytehfddafjemedaa
open Go.RowKit
set_option linter.unusedSimpArgs false
set_option linter.unusedVariables false

def rawS (s : IS) (n : Int) : IS := if n < 0 then inF s 1 else nextS s n.toNat
def rawB (s : IS) (n : Int) : List UInt8 := if n < 0 then [] else nextB s n.toNat
def readS (s : IS) (most : Int) : IS := if okN s 2 = false then nextS s 2 else if most < (beN (nextB s 2) : Int) then inF (nextS s 2) 6 else rawS (nextS s 2) (beN (nextB s 2) : Int)
def readB (s : IS) (most : Int) : List UInt8 := if okN s 2 = false then [] else if most < (beN (nextB s 2) : Int) then [] else rawB (nextS s 2) (beN (nextB s 2) : Int)
/-- Bytes that are told in new memory. -/
def BytesTold (B : Nat) (bs : List UInt8) (e : Ending) (w' : World) : Prop := ∃ A c, e = .returned (.slice A bs.length c) ∧ w'.ownsRow B 5 1 (.slice A bs.length c) bs.length (bs.map bv)

theorem nextS_small {s : IS} {n m : Nat} (h : s.b.length ≤ m) : (nextS s n).b.length ≤ m := by
  unfold nextS inF
  split
  · exact h
  · split
    · simp
    · simp; omega
theorem nextB_small {s : IS} {n m : Nat} (h : s.b.length ≤ m) : (nextB s n).length ≤ m := by
  unfold nextB
  split
  · simp; omega
  · simp

set_option maxHeartbeats 1000000 in
theorem inRaw_any (Z : Nat → Prop) (g : Nat) (s : IS) (n : Int) (w : World) (h : InZ w Z g s) (hn : n ≤ 9223372036854775807) (hsm : s.b.length ≤ 10000000) :
    Calls Try.prog 38 #[.pointer (some ⟨g, 0, none⟩), .int .i64 n] w fun e w' => BytesTold w.heap.size (rawB s n) e w' ∧ InZ w' Z g (rawS s n) ∧ Keeps [g] w w' := by
  by_cases hneg : n < 0
  · have H1 : Hid (rawS s n = inF s 1) := Lib.hid (by unfold rawS; rw [if_pos hneg])
    have H2 : Hid (rawB s n = []) := Lib.hid (by unfold rawB; rw [if_pos hneg])
    have hmax : max n 0 = 0 := by omega
    have he : (inF s 1).err ≠ 0 := by unfold inF; simp only; split <;> omega
    have h3 : Hid (okN (inF s 1) 0 = false) := Lib.hid (by unfold okN; exact decide_eq_false (by omega))
    have h4 : Hid (nextS (inF s 1) 0 = inF s 1) := Lib.hid (by unfold nextS; rw [if_pos he])
    clear he
    go_enter Try.func38, Try.ntmps38
    go_wp2_with fail
    refine (inFail_any Z g s 1 w h).mono ?_
    rintro e w1 ⟨rfl, h1, hk1⟩
    go_wp2_with fail
    refine (inNext_any Z g _ 0 w1 h1 (by omega)).mono ?_
    rintro e w2 ⟨⟨A2, c2, rfl, hr2, hc2, h2⟩, hk2⟩
    rw [h3.out]
    rw [h4.out] at h2
    go_wp2_with fail
    go_ret
    exact ⟨⟨none, 0, by rw [H2.out]; rfl, by rw [H2.out]; exact World.ownsRow_nil _ _ _ _⟩, by rw [H1.out]; exact h2, hk1.trans hk2 fun i hi => .inl hi⟩
  · obtain ⟨j, rfl⟩ : ∃ j : Nat, n = j := ⟨n.toNat, by omega⟩
    have H1 : Hid (rawS s j = nextS s j) := Lib.hid (by unfold rawS; rw [if_neg hneg]; rfl)
    have H2 : Hid (rawB s j = nextB s j) := Lib.hid (by unfold rawB; rw [if_neg hneg]; rfl)
    have hbs := nextB_small (n := j) hsm
    have hnx := inNext_any Z g s j w h (by omega)
    have hnil : okN s j = false → nextB s j = [] := fun h => by unfold nextB; rw [h]; rfl
    unfold NextTold at hnx
    obtain ⟨B, hB⟩ : ∃ B, nextB s j = B := ⟨_, rfl⟩
    rw [hB] at hnx hbs hnil H2
    clear hB
    cases ho : okN s j with
    | false =>
      rw [ho] at hnx
      have HN := Lib.hid (hnil ho)
      clear hnil ho
      go_enter Try.func38, Try.ntmps38
      go_wp2_with fail
      refine hnx.mono ?_
      rintro e w2 ⟨⟨A2, c2, rfl, hr2, hc2, h2⟩, hk2⟩
      clear hnx
      go_wp2_with fail
      go_ret
      exact ⟨⟨none, 0, by rw [H2.out, HN.out]; rfl, by rw [H2.out, HN.out]; exact World.ownsRow_nil _ _ _ _⟩, by rw [H1.out]; exact h2, hk2⟩
    | true =>
      rw [ho] at hnx
      clear hnil ho
      go_enter Try.func38, Try.ntmps38
      go_wp2_with fail
      refine hnx.mono ?_
      rintro e w2 ⟨⟨A2, c2, rfl, hr2, hc2, h2⟩, hk2⟩
      clear hnx
      have hs2 := hk2.size
      go_wp2_with fail
      refine (slicesClone_any A2 B.length c2 B w2 hr2 hc2 hbs).mono ?_
      rintro e w3 ⟨⟨A3, c3, rfl, ho3⟩, hb3⟩
      have h3 := h2.below hb3
      go_wp2_with fail
      go_ret
      exact ⟨⟨A3, c3, by rw [H2.out]; rfl, by rw [H2.out]; exact own_rebase ho3 fun k hk => by have := own_ge ho3 k hk; omega⟩, by rw [H1.out]; exact h3, hk2.trans (Keeps.of_below hb3 [g]) fun i hi => .inl hi⟩

set_option maxRecDepth 100000 in
set_option maxHeartbeats 1000000 in
theorem inText_any (Z : Nat → Prop) (g : Nat) (s : IS) (most : Int) (w : World) (h : InZ w Z g s) (hsm : s.b.length ≤ 10000000) :
    Calls Try.prog 39 #[.pointer (some ⟨g, 0, none⟩), .int .i64 most] w fun e w' => BytesTold w.heap.size (readB s most) e w' ∧ InZ w' Z g (readS s most) ∧ Keeps [g] w w' := by
  have hnx := inNext_any Z g s 2 w h (by omega)
  have hbl := nextB_len s 2
  have hsm2 := nextS_small (n := 2) hsm
  unfold NextTold at hnx
  cases ho : okN s 2 with
  | false =>
    have H1 : Hid (readS s most = nextS s 2) := Lib.hid (by unfold readS; rw [if_pos ho])
    have H2 : Hid (readB s most = []) := Lib.hid (by unfold readB; rw [if_pos ho])
    rw [ho] at hnx
    clear ho
    go_enter Try.func39, Try.ntmps39
    go_wp2_with fail
    refine hnx.mono ?_
    rintro e w2 ⟨⟨A2, c2, rfl, hr2, hc2, h2⟩, hk2⟩
    clear hnx
    go_wp2_with fail
    go_ret
    exact ⟨⟨none, 0, by rw [H2.out]; rfl, by rw [H2.out]; exact World.ownsRow_nil _ _ _ _⟩, by rw [H1.out]; exact h2, hk2⟩
  | true =>
    have hno : ¬ okN s 2 = false := by rw [ho]; simp
    rw [ho] at hnx
    have hlt := beN_lt (nextB s 2)
    have hp : 256 ^ (nextB s 2).length ≤ 256 ^ 2 := Nat.pow_le_pow_right (by omega) hbl
    obtain ⟨N, hN⟩ : ∃ N, beN (nextB s 2) = N := ⟨_, rfl⟩
    have hN9 : (N : Int) < 65536 := by omega
    have HN := Lib.hid hN
    by_cases hm : most < (N : Int)
    · have H1 : Hid (readS s most = inF (nextS s 2) 6) := Lib.hid (by unfold readS; rw [if_neg hno, hN, if_pos hm])
      have H2 : Hid (readB s most = []) := Lib.hid (by unfold readB; rw [if_neg hno, hN, if_pos hm])
      clear ho hno hN hlt hp
      go_enter Try.func39, Try.ntmps39
      go_wp2_with fail
      refine hnx.mono ?_
      rintro e w2 ⟨⟨A2, c2, rfl, hr2, hc2, h2⟩, hk2⟩
      clear hnx
      go_wp2_with fail
      refine (number_any A2 _ c2 _ w2 hr2 (by omega)).mono ?_
      rintro e w3 ⟨rfl, rfl⟩
      rw [HN.out]
      go_wp2_with fail
      refine (inFail_any Z g _ 6 w2 h2).mono ?_
      rintro e w3 ⟨rfl, h3, hk3⟩
      go_wp2_with fail
      go_ret
      exact ⟨⟨none, 0, by rw [H2.out]; rfl, by rw [H2.out]; exact World.ownsRow_nil _ _ _ _⟩, by rw [H1.out]; exact h3, hk2.trans hk3 fun i hi => .inl hi⟩
    · have H1 : Hid (readS s most = rawS (nextS s 2) (N : Int)) := Lib.hid (by unfold readS; rw [if_neg hno, hN, if_neg hm])
      have H2 : Hid (readB s most = rawB (nextS s 2) (N : Int)) := Lib.hid (by unfold readB; rw [if_neg hno, hN, if_neg hm])
      have tm : decide (most < (N : Int)) = false := by simpa using hm
      have HM := Lib.hid hm
      clear ho hno hN hlt hp hm
      go_enter Try.func39, Try.ntmps39
      go_wp2_with fail
      refine hnx.mono ?_
      rintro e w2 ⟨⟨A2, c2, rfl, hr2, hc2, h2⟩, hk2⟩
      clear hnx
      have hs2 := hk2.size
      go_wp2_with fail
      refine (number_any A2 _ c2 _ w2 hr2 (by omega)).mono ?_
      rintro e w3 ⟨rfl, rfl⟩
      rw [HN.out]
      go_wp2_with fail
      refine (inRaw_any Z g _ (N : Int) w2 h2 (by omega) hsm2).mono ?_
      rintro e w3 ⟨⟨A3, c3, rfl, ho3⟩, h3, hk3⟩
      go_wp2_with fail
      go_ret
      exact ⟨⟨A3, c3, by rw [H2.out]; rfl, by rw [H2.out]; exact own_rebase ho3 fun k hk => by have := own_ge ho3 k hk; omega⟩, by rw [H1.out]; exact h3, hk2.trans hk3 fun i hi => .inl hi⟩
end Go.Proofs.Ytehfddafjemedaa
