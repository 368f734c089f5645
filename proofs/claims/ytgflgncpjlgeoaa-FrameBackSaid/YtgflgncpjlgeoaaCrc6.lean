/- Contracts: Turn, the program's and the document's. -/
import Derived.Test.YtgflgncpjlgeoaaCrc1
import Derived.Test.YtgflgncpjlgeoaaSlc
import Derived.Test.YtgflgncpjlgeoaaReg
namespace Go.Proofs.Ytgflgncpjlgeoaa
open Go.RowKit
set_option linter.unusedSimpArgs false
set_option linter.unusedVariables false

theorem turn_step {xs : List UInt8} {B p k : Nat} (h : (B + k) / 8 < xs.length) (h2 : p.testBit k = true) :
    turnN xs B p (k + 1) = (turnN xs B p k).set ((B + k) / 8) (UInt8.ofNat (((turnN xs B p k).getD ((B + k) / 8) 0).toNat ^^^ 2 ^ ((B + k) % 8))) := by
  rw [turnN, turn1, if_pos ⟨by rw [turnN_len]; exact h, h2⟩]
theorem turn_skip {xs : List UInt8} {B p k : Nat} (h : ¬ ((B + k) / 8 < xs.length ∧ p.testBit k = true)) : turnN xs B p (k + 1) = turnN xs B p k := by
  rw [turnN, turn1, if_neg (by rw [turnN_len]; exact h)]
theorem w64_in (n : Int) (h : -9223372036854775808 ≤ n ∧ n ≤ 9223372036854775807) : wrap64 n = n := by unfold wrap64; omega
theorem wrap_is (n : Int) : IntKind.i64.wrap n = wrap64 n := by rw [IntKind.wrap_i64]; unfold wrap64; rfl
def isC (c v : Value) (_ : World) : Prop := v = c
theorem isC_keeps {c : Value} {G : World → World → Prop} : ∀ v W W', G W W' → isC c v W → isC c v W' := fun _ _ _ _ h => h
/-- A row of the call's own, in new memory. -/
def RowTold (B : Nat) (w0 : World) (A : Option Addr) (n c : Nat) (Y : List UInt8) (_ : Value) (W : World) : Prop := W.ownsRow B 5 1 (.slice A n c) n (Y.map bv) ∧ Below B w0 W
theorem rowTold_keeps {B : Nat} {w0 : World} {A : Option Addr} {n c : Nat} {Y : List UInt8} (hB : B ≤ w0.heap.size) : ∀ v W W', Keeps [] W W' → RowTold B w0 A n c Y v W → RowTold B w0 A n c Y v W' :=
  fun v W W' hk h => ⟨own_keeps h.1 hk (fun _ _ h => by cases h), h.2.trans (hk.nil_below.mono (Nat.le_trans hB h.2.size))⟩
theorem shl_byte (r : Nat) (h : r < 8) : ((2 : Int) ^ r) % 256 = ((2 ^ r : Nat) : Int) := by
  have : r = 0 ∨ r = 1 ∨ r = 2 ∨ r = 3 ∨ r = 4 ∨ r = 5 ∨ r = 6 ∨ r = 7 := by omega
  rcases this with rfl | rfl | rfl | rfl | rfl | rfl | rfl | rfl <;> decide
theorem xor_bit8 (y : UInt8) (r : Nat) (h : r < 8) : bits .xor .u8 (y.toNat : Int) ((2 ^ r : Nat) : Int) = ((UInt8.ofNat (y.toNat ^^^ 2 ^ r)).toNat : Int) := by
  have hr : 2 ^ r < 256 := Nat.lt_of_lt_of_le (Nat.pow_lt_pow_right (by omega) h) (by decide)
  have hx : y.toNat ^^^ 2 ^ r < 2 ^ 8 := Nat.xor_lt_two_pow (n := 8) y.toNat_lt hr
  rw [u8_xor_nat _ _ y.toNat_lt hr, UInt8.toNat_ofNat', Nat.mod_eq_of_lt hx]
theorem testBit_div (p k : Nat) : p.testBit k = decide (p / 2 ^ k % 2 = 1) := Nat.testBit_eq_decide_div_mod_eq

theorem turnN_out {xs : List UInt8} {B p : Nat} (h : xs.length ≤ B / 8) (k : Nat) : turnN xs B p k = xs := by
  induction k with
  | zero => rfl
  | succ k ih => rw [turn_skip (by omega), ih]
theorem turnB_in {xs : List UInt8} {B p : Nat} : turnB xs (B : Int) p = turnN xs B p 32 := by
  unfold turnB
  split
  · rename_i h
    rw [turnN_out (by omega)]
  · rfl

set_option maxRecDepth 100000 in
set_option maxHeartbeats 4000000 in
theorem refTurn_any (A : Option Addr) (n c : Nat) (xs : List UInt8) (bit : Int) (p : Nat) (w : World) (ha : Rd w A n xs) (hc : n ≤ c) (hn : n ≤ 1000000) (hp : p < 4294967296) (hbm : bit ≤ 9223372036854775807) :
    Calls Try.prog 27 #[.slice A n c, .int .i64 bit, .int .u32 (p : Int)] w fun e w' => (∃ A' c', e = .returned (.slice A' n c') ∧ w'.ownsRow w.heap.size 5 1 (.slice A' n c') n ((turnB xs bit p).map bv)) ∧ Below w.heap.size w w' := by
  obtain ⟨i0, hi0, hz0, hz1, hz2⟩ := info_parts info_u8
  have HX := Lib.hid ha.1
  have w8 : IntKind.i64.wrap (8 * (n : Int)) = ((8 * n : Nat) : Int) := by rw [IntKind.wrap_i64]; omega
  obtain ⟨N8, hN8⟩ : ∃ z, 8 * n = z := ⟨_, rfl⟩
  rw [hN8] at w8
  by_cases hearly : bit < 0 ∨ (N8 : Int) < bit
  · have H : Hid (xs = turnB xs bit p) := Lib.hid (by
      unfold turnB
      rw [if_pos]
      rcases hearly with h | h
      · exact .inl h
      · exact .inr (by rw [ha.1]; omega))
    rw [← H.out]
    rcases (by omega : bit < 0 ∨ (¬ bit < 0 ∧ (N8 : Int) < bit)) with h1 | ⟨h1, h2⟩
    ·
      clear hearly hN8 H
      go_enter Try.func27, Try.ntmps27
      go_wp2_with (at_builtin; refine wpList_append_src rfl (.const (.slice none 0 0)) (.tmp 10) _ rfl w.heap.size 5 i0 _ 1 1 Try.underlying23 hi0 hz0 hz1 hz2 rfl (by omega) (.slice none 0 0) 0 [] rfl ?ac0 A n c (xs.map bv) rfl ?ac1 ?ac2 ?ac3 ?ac4 ?ac5)
      case ac0 => exact World.ownsRow_nil _ _ _ _
      case ac1 => exact ha.src
      case ac2 => unfold maxLen; omega
      case ac3 => omega
      try (case ac4 => exact Nat.le_refl _)
      case ac5 =>
        intro v' w' hown hg hat
        obtain ⟨A', c', rfl, _, _⟩ := own_form hown
        have ho1 : w'.ownsRow w.heap.size 5 1 (.slice A' n c') n (xs.map bv) := by simpa using hown
        have hb1 : Below w.heap.size w w' := (Keeps.of_grown hg).below (Nat.le_refl _) (by simp [Value.ownBlock])
        clear hown hg hat
        go_wp2_with fail
        go_ret
        exact ⟨⟨A', c', rfl, ho1⟩, hb1⟩
    ·
      clear hearly hN8 H
      go_enter Try.func27, Try.ntmps27
      go_wp2_with (at_builtin; refine wpList_append_src rfl (.const (.slice none 0 0)) (.tmp 10) _ rfl w.heap.size 5 i0 _ 1 1 Try.underlying23 hi0 hz0 hz1 hz2 rfl (by omega) (.slice none 0 0) 0 [] rfl ?bc0 A n c (xs.map bv) rfl ?bc1 ?bc2 ?bc3 ?bc4 ?bc5)
      case bc0 => exact World.ownsRow_nil _ _ _ _
      case bc1 => exact ha.src
      case bc2 => unfold maxLen; omega
      case bc3 => omega
      try (case bc4 => exact Nat.le_refl _)
      case bc5 =>
        intro v' w' hown hg hat
        obtain ⟨A', c', rfl, _, _⟩ := own_form hown
        have ho1 : w'.ownsRow w.heap.size 5 1 (.slice A' n c') n (xs.map bv) := by simpa using hown
        have hb1 : Below w.heap.size w w' := (Keeps.of_grown hg).below (Nat.le_refl _) (by simp [Value.ownBlock])
        clear hown hg hat
        go_wp2_with fail
        go_ret
        exact ⟨⟨A', c', rfl, ho1⟩, hb1⟩
  · obtain ⟨B, rfl⟩ : ∃ B : Nat, bit = B := ⟨bit.toNat, by omega⟩
    have hB : B ≤ N8 := by omega
    have t : ¬ (N8 : Int) < (B : Int) := by omega
    rw [turnB_in]
    clear hearly
    go_enter Try.func27, Try.ntmps27
    go_wp2_with (at_builtin; refine wpList_append_src rfl (.const (.slice none 0 0)) (.tmp 10) _ rfl w.heap.size 5 i0 _ 1 1 Try.underlying23 hi0 hz0 hz1 hz2 rfl (by omega) (.slice none 0 0) 0 [] rfl ?d0 A n c (xs.map bv) rfl ?d1 ?d2 ?d3 ?d4 ?d5)
    case d0 => exact World.ownsRow_nil _ _ _ _
    case d1 => exact ha.src
    case d2 => unfold maxLen; omega
    case d3 => omega
    try (case d4 => exact Nat.le_refl _)
    case d5 =>
      intro v' w1 hown hg hat
      obtain ⟨A1, c1, rfl, _, _⟩ := own_form hown
      have ho1' : w1.ownsRow w.heap.size 5 1 (.slice A1 n c1) n ((turnN xs B p 0).map bv) := by simpa [turnN] using hown
      have hb1 : Below w.heap.size w w1 := (Keeps.of_grown hg).below (Nat.le_refl _) (by simp [Value.ownBlock])
      clear hown hg hat
      go_wp2_with fail
      go_loopw [8] (fun i wr => ∃ k : Nat, k ≤ 32 ∧ i = .int .i64 (k : Int) ∧ wr.ownsRow w.heap.size 5 1 (.slice A1 n c1) n ((turnN xs B p k).map bv) ∧ Below w.heap.size w wr) (fun i _ => 32 - (intOf i).toNat)
      case atStart => exact ⟨0, Nat.zero_le _, rfl, ho1', hb1⟩
      case round =>
        obtain ⟨k, hk, rfl, ho, hb⟩ := hrel
        clear ho1' hb1
        by_cases hlt : k < 32
        · have wat : IntKind.i64.wrap ((B : Int) + (k : Int)) = ((B + k : Nat) : Int) := by rw [IntKind.wrap_i64]; omega
          have hs := hb.size
          obtain ⟨T, hT⟩ : ∃ z, B + k = z := ⟨_, rfl⟩
          obtain ⟨q, hq⟩ : ∃ z, T / 8 = z := ⟨_, rfl⟩
          obtain ⟨r, hr⟩ : ∃ z, T % 8 = z := ⟨_, rfl⟩
          have wq : wrap64 ((T : Int) / 8) = (q : Int) := by rw [w64_in _ (by omega)]; omega
          have wq2 : IntKind.i64.wrap ((T : Int) / 8) = (q : Int) := by rw [wrap_is]; exact wq
          rw [hT] at wat
          have hTN : T < N8 ↔ q < n := by rw [← hN8, ← hq, Nat.div_lt_iff_lt_mul (by decide), Nat.mul_comm]
          have htb := testBit_div p k
          have EP : Hid ((p : Int) / 2 ^ k = ((p / 2 ^ k : Nat) : Int)) := Lib.hid (by rw [Int.natCast_ediv]; simp)
          obtain ⟨Q, hQ⟩ : ∃ z, p / 2 ^ k = z := ⟨_, rfl⟩
          rw [hQ] at htb EP
          have hand : (Q : Int).tmod 2 = ((Q % 2 : Nat) : Int) := by cases Q <;> rfl
          have hand2 : (Q : Int) % 2 = ((Q % 2 : Nat) : Int) := by omega
          clear hQ
          by_cases hin : q < n
          · have tin : (T : Int) < (N8 : Int) := Int.ofNat_lt.2 (hTN.2 hin)
            have tin2 : (q : Int) < (n : Int) := Int.ofNat_lt.2 hin
            by_cases hbit : Q % 2 = 1
            · have hst := @turn_step xs B p k (by rw [hT, hq, HX.out]; exact hin) (by rw [htb]; exact decide_eq_true hbit)
              rw [hT, hq, hr] at hst
              rw [hbit] at hand hand2
              obtain ⟨Y, hY⟩ : ∃ z, turnN xs B p k = z := ⟨_, rfl⟩
              have hYl : Y.length = n := by rw [← hY, turnN_len, HX.out]
              have hYq : q < Y.length := by rw [hYl]; exact hin
              rw [hY] at hst ho
              obtain ⟨gg, cap, hv, _, hgl⟩ := ho.form (Nat.lt_of_le_of_lt (Nat.zero_le q) hin)
              have hA : A1 = some ⟨gg, 0, none⟩ := by injection hv
              subst hA
              have hcg : c1 = cap := by injection hv
              subst hcg
              have m0 := ho.cellAt q (by rw [Nat.mul_one]; exact hin)
              have fz := ho.frozenAt q
              rw [List.getElem?_map, List.getElem?_eq_getElem hYq, Option.map_some] at m0
              rw [List.getD_eq_getElem?_getD, List.getElem?_eq_getElem hYq] at hst
              simp only [Option.getD_some] at hst
              obtain ⟨y, hy⟩ : ∃ z, Y[q]'hYq = z := ⟨_, rfl⟩
              rw [hy] at m0 hst
              have hgl2 : gg < wr.heap.size := hgl
              have HS := Lib.hid hst
              clear hst hY hy hB hT hq hYl hTN hN8
              have ep := EP.out
              clear htb
              have hr8 : r < 8 := by rw [← hr]; exact Nat.mod_lt _ (by omega)
              have tr : (T : Int).tmod 8 = (r : Int) := by rw [← hr]; rfl
              have hsh := shl_byte r hr8
              have hxr := xor_bit8 y r hr8
              obtain ⟨Z, hZ⟩ : ∃ z, UInt8.ofNat (y.toNat ^^^ 2 ^ r) = z := ⟨_, rfl⟩
              rw [hZ] at hxr HS
              obtain ⟨V, hV⟩ : ∃ z, 2 ^ r = z := ⟨_, rfl⟩
              rw [hV] at hxr hsh
              rw [← IntKind.wrap_u8] at hsh
              clear hV
              unfold bv at m0
              clear hZ
              go_wp2_with fail
              refine wp_region_writes [gg] 14 13 (RowTold w.heap.size w (some ⟨gg, 0, none⟩) n c1 (Y.set q Z)) [(7, .early (isC (.int .u8 (y.toNat : Int))))] (by kernel_rfl) (by kernel_rfl) rfl ⟨isC_keeps, trivial⟩ (rowTold_keeps (Nat.le_refl _)) (by kernel_rfl) ?_
              simp only [List.take_succ_cons, List.take_zero, List.drop_succ_cons, List.drop_zero]
              iterate 7 refine dep_reckons rfl (by kernel_rfl) (fun W hG hF' => by go_simp <;> rfl) (by simp only [Act.put, List.setIfInBounds_toArray, List.set_cons_zero, List.set_cons_succ]; rfl) ?_
              refine dep_early rfl (by kernel_rfl) (fun W hG hF' => ?_) (fun v4 => ?_)
              · have hkW := keeps_drew hG
                have m1 := (hkW.cell (p := ⟨gg, q, none⟩) hgl2 (by simp)).trans m0
                have f1 := (hkW.frozen (p := ⟨gg, q, none⟩) hgl2 (by simp)).trans fz
                unfold opGives
                go_simp
                exact ⟨rfl, Keeps.refl _ _⟩
              simp only [Act.put, List.setIfInBounds_toArray, List.set_cons_zero, List.set_cons_succ]
              iterate 2 refine dep_reckons rfl (by kernel_rfl) (fun W hG hF' => by go_simp <;> rfl) (by simp only [Act.put, List.setIfInBounds_toArray, List.set_cons_zero, List.set_cons_succ]; rfl) ?_
              refine dep_reckons (c := .int .u8 (V : Int)) rfl (by kernel_rfl) (fun W hG hF' => by go_simp <;> first | rfl | (rw [hsh]; rfl)) (by simp only [Act.put, List.setIfInBounds_toArray, List.set_cons_zero, List.set_cons_succ]; rfl) ?_
              refine dep_reckons (c := .int .u8 (Z.toNat : Int)) rfl (by kernel_rfl) (fun W hG hF' => ?_) (by simp only [Act.put, List.setIfInBounds_toArray, List.set_cons_zero, List.set_cons_succ]; rfl) ?_
              · have hf := hF' _ List.mem_cons_self (by kernel_rfl)
                unfold isC at hf
                subst hf
                go_simp <;> first | rfl | (rw [hxr]; rfl)
              refine dep_reckons rfl (by kernel_rfl) (fun W hG hF' => by go_simp <;> rfl) (by simp only [Act.put, List.setIfInBounds_toArray, List.set_cons_zero, List.set_cons_succ]; rfl) ?_
              refine dep_last rfl (by kernel_rfl) (fun W hG hF' => ?_) (fun v1 => ?_)
              · have hkW := keeps_drew hG
                have hoW : W.ownsRow w.heap.size 5 1 (.slice (some ⟨gg, 0, none⟩) n c1) n (Y.map bv) := own_keeps ho hkW fun _ _ h => by cases h
                have m1 := (hkW.cell (p := ⟨gg, q, none⟩) hgl2 (by simp)).trans m0
                have f1 := (hkW.frozen (p := ⟨gg, q, none⟩) hgl2 (by simp)).trans fz
                have hst := (hoW.stored q (bv Z)).1
                rw [← List.map_set] at hst
                have hbW := (hb.trans (hkW.nil_below.mono hs))
                unfold opGives
                go_simp
                exact ⟨⟨hst, hbW.setCell (by simpa using own_ge ho gg rfl) _⟩, (Keeps.refl [gg] W).setCell (p := ⟨gg, q, none⟩) (.inl (by simp)) _⟩
              simp only [Act.put, List.setIfInBounds_toArray, List.set_cons_zero, List.set_cons_succ]
              refine dep_nil fun W hG hF2 => ?_
              obtain ⟨ho2, hb2⟩ := hF2 _ List.mem_cons_self
              rw [← HS.out] at ho2
              clear hF2 hG ho hb hxr hsh tr wq wq2 wat hand hand2 ep w8
              go_wp2_with fail
              exact ⟨⟨k + 1, by omega, rfl, ho2, hb2⟩, by simp [intOf]; omega⟩
            · have hst := @turn_skip xs B p k (fun h => hbit (by have := h.2; rw [htb] at this; exact of_decide_eq_true this))
              rw [← hst] at ho
              rw [show Q % 2 = 0 from Nat.mod_two_not_eq_one.1 hbit] at hand hand2
              have ep := EP.out
              clear htb hst hB hT hq hr hTN hN8
              go_wp2_with fail
              clear wq wq2 wat hand hand2 ep w8
              exact ⟨⟨k + 1, by omega, rfl, ho, hb⟩, by simp [intOf]; omega⟩
          · have hst := @turn_skip xs B p k (fun h => hin (by have := h.1; rw [hT, hq, HX.out] at this; exact this))
            rw [← hst] at ho
            have tin : ¬ (T : Int) < (N8 : Int) := fun h => hin (hTN.1 (Int.ofNat_lt.1 h))
            clear htb hst hB hT hq hr EP hTN hN8 hand hand2
            go_wp2_with fail
            clear wq wq2 wat w8
            exact ⟨⟨k + 1, by omega, rfl, ho, hb⟩, by simp [intOf]; omega⟩
        · obtain rfl : k = 32 := by omega
          clear hlt
          go_wp2_with fail
          go_ret
          exact ⟨⟨A1, c1, rfl, ho⟩, hb⟩
end Go.Proofs.Ytgflgncpjlgeoaa
