/- Contracts: the table's Seal, Fits; of no table. -/
import Derived.Test.YtgflgncpjlgeoaaCrc4
namespace Go.Proofs.Ytgflgncpjlgeoaa
open Go.RowKit
set_option linter.unusedSimpArgs false
set_option linter.unusedVariables false

set_option maxRecDepth 100000 in
set_option maxHeartbeats 2000000 in
theorem seal_any (g : Nat) (b : Bool) (A : Option Addr) (n c : Nat) (xs : List UInt8) (w : World) (h : TB w g b) (ha : Rd w A n xs) (hc : n ≤ c) (hn : n ≤ 1000000) (hga : 0 < n → ∀ ad, A = some ad → ad.block ≠ g) :
    Calls Try.prog 37 #[.pointer (some ⟨g, 0, none⟩), .slice A n c] w fun e w' =>
      (∃ A' c', e = .returned (.slice A' (n + 4) c') ∧ w'.ownsRow w.heap.size 5 1 (.slice A' (n + 4) c') (n + 4) ((sealB xs).map bv)) ∧ TB w' g true ∧ Keeps [g] w w' := by
  have hbh := behind_any g b A n c xs w h ha hc hga
  have hgw := h.lt
  obtain ⟨L, hL⟩ : ∃ z, leB (crcOf xs) = z := ⟨_, rfl⟩
  have hLl : L.length = 4 := by rw [← hL]; rfl
  have hsl : xs ++ L = sealB xs := by rw [← hL]; rfl
  rw [← hsl]
  rw [hL] at hbh
  have HX := Lib.hid ha.1
  have HLL := Lib.hid hLl
  clear hL hLl hsl
  go_enter Try.func37, Try.ntmps37
  go_wp2_with fail
  refine hbh.mono ?_
  rintro e w1 ⟨⟨A1, c1, rfl, ho1⟩, h1, hk1⟩
  have ha1 : Rd w1 A n xs := ha.keeps hk1 fun h0 ad e hm => hga h0 ad e (by simpa using hm)
  obtain ⟨_, _, hv1, hlc1, _⟩ := own_form ho1
  have hc1 : 4 ≤ c1 := by injection hv1; omega
  have hr1 := Rd.of_own ho1
  have hX : Below w1.heap.size w1 (w1.alloc (.cells #[.slice A n c, .slice A1 4 c1] 23)) := (Below.refl _ _).alloc (Nat.le_refl _) _
  have hx := Blk.new w1 23 #[.slice A n c, .slice A1 4 c1]
  have HC1 := Lib.hid hc1
  have hs1 := hk1.size
  clear hbh ho1 hv1 hlc1 hc1 h ha
  go_wp2_with fail
  generalize (w1.alloc (.cells #[.slice A n c, .slice A1 4 c1] 23)) = w2 at hX hx ⊢
  have hcat : cat [⟨A, c, xs⟩, ⟨A1, c1, L⟩] = xs ++ L := by simp [cat]
  refine (Concat_any _ 2 2 [⟨A, c, xs⟩, ⟨A1, c1, L⟩] w2 rfl (by omega) ?_ ?_ ?_).mono ?_
  · intro k hk
    have h2 : k = 0 ∨ k = 1 := by omega
    rcases h2 with rfl | rfl
    · rw [hx.cell]; simp [PC.val, HX.out]
    · rw [hx.cell]; simp [PC.val, HLL.out]
  · intro x hx'
    simp only [List.mem_cons, List.not_mem_nil, or_false] at hx'
    rcases hx' with rfl | rfl
    · simp only [HX.out]
      exact ⟨ha1.below_ hX, hc⟩
    · simp only [HLL.out]
      exact ⟨hr1.below_ hX, HC1.out⟩
  · rw [hcat, List.length_append, HX.out, HLL.out]; omega
  rw [hcat]
  rintro e w3 ⟨⟨A3, c3, rfl, ho3⟩, hb3⟩
  have hlen : (xs ++ L).length = n + 4 := by rw [List.length_append, HX.out, HLL.out]
  rw [hlen] at ho3 ⊢
  have hB3 := hX.trans (hb3.mono hX.size)
  have hs2 := hX.size
  have h3 := h1.below hB3
  have hK3 : Keeps [g] w w3 := hk1.trans (Keeps.of_below hB3 []) (fun i hi => by cases hi)
  have ho4 := own_rebase ho3 (base' := w.heap.size) fun k hk => by have := own_ge ho3 k hk; omega
  clear hcat hlen hx hX ho3 hb3 hB3 h1 hk1
  go_wp2_with fail
  go_ret
  exact ⟨⟨A3, c3, rfl, ho4⟩, h3, hK3⟩

theorem seal_none (v : Value) (w : World) : Calls Try.prog 37 #[.pointer none, v] w fun e w' => e = .returned (.slice none 0 0) ∧ w = w' := by
  go_enter Try.func37, Try.ntmps37
  go_wp2_with fail
  go_ret
  exact ⟨rfl, rfl⟩
theorem fits_none (v : Value) (w : World) : Calls Try.prog 46 #[.pointer none, v] w fun e w' => e = .returned (.bool false) ∧ w = w' := by
  go_enter Try.func46, Try.ntmps46
  go_wp2_with fail
  go_ret
  exact ⟨rfl, rfl⟩

/-- What is reckoned behind the head, in some memory. -/
def BehindTold (g : Nat) (L : List UInt8) (v : Value) (W : World) : Prop := ∃ A' c', v = .slice A' 4 c' ∧ Rd W A' 4 L ∧ TB W g true
theorem behindTold_keeps {g : Nat} {L : List UInt8} : ∀ v W W', Keeps [] W W' → BehindTold g L v W → BehindTold g L v W' := by
  rintro v W W' hk ⟨A', c', h1, h2, h3⟩
  exact ⟨A', c', h1, h2.keeps hk (fun _ _ _ h => by cases h), h3.keeps hk (by simp)⟩

set_option maxRecDepth 100000 in
set_option maxHeartbeats 4000000 in
theorem crcFits_any (g : Nat) (b : Bool) (A : Option Addr) (n c : Nat) (xs : List UInt8) (w : World) (h : TB w g b) (ha : Rd w A n xs) (hc : n ≤ c) (hn : n ≤ 1000000) (hga : 0 < n → ∀ ad, A = some ad → ad.block ≠ g) :
    Calls Try.prog 46 #[.pointer (some ⟨g, 0, none⟩), .slice A n c] w fun e w' => e = .returned (.bool (fitsC xs)) ∧ TB w' g true ∧ Keeps [g] w w' := by
  have hrd := ready_any g b w h
  by_cases h4 : 4 ≤ n
  · obtain ⟨k, rfl⟩ : ∃ k, n = k + 4 := ⟨n - 4, by omega⟩
    obtain ⟨bb, o, rfl, _⟩ := ha.2.2 (by omega)
    have hgb : bb ≠ g := hga (by omega) _ rfl
    have HF : Hid (decide (xs.drop k = leB (crcOf (xs.take k))) = fitsC xs) := Lib.hid (by
      unfold fitsC
      rw [ha.1, show k + 4 - 4 = k by omega]
      apply decide_eq_decide.2
      exact ⟨fun h => ⟨by omega, h⟩, fun h => h.2⟩)
    have htk : Rd w (some ⟨bb, o, none⟩) k (xs.take k) := ha.take (by omega)
    have hdr := ha.cut (k := k) (by omega) hc
    rw [if_neg (by omega), Option.map_some, add_lit0, show k + 4 - k = 4 by omega] at hdr
    have hsub : IntKind.i64.wrap (((k + 4 : Nat) : Int) - 4) = (k : Int) := by rw [IntKind.wrap_i64]; omega
    have hck : ¬ c = k := by omega
    have hck2 : k ≤ c := by omega
    have hck3 : k + 4 ≤ c := hc
    have hkk : (k : Int) ≤ (k : Int) + 4 := by omega
    obtain ⟨X, hX⟩ : ∃ z, xs.drop k = z := ⟨_, rfl⟩
    obtain ⟨Y, hY⟩ : ∃ z, xs.take k = z := ⟨_, rfl⟩
    rw [hX, hY] at HF
    rw [hY] at htk
    rw [hX] at hdr
    obtain ⟨L, hL⟩ : ∃ z, leB (crcOf Y) = z := ⟨_, rfl⟩
    have HLL := Lib.hid hL
    rw [hL] at HF
    clear hX hY hL h4 ha hga
    go_enter Try.func46, Try.ntmps46
    go_wp2_with fail
    refine hrd.mono ?_
    rintro e w1 ⟨rfl, h1, hk1⟩
    have hd1 := hdr.keeps hk1 fun _ ad e hm => hgb (by injection e with e; subst e; simpa using hm)
    have ht1 := htk.keeps hk1 fun _ ad e hm => hgb (by injection e with e; subst e; simpa using hm)
    clear hrd hdr htk h
    go_wp2_with fail
    refine wp_region_writes [g] 11 10 (BehindTold g L) [] (by kernel_rfl) (by kernel_rfl) rfl trivial behindTold_keeps (by kernel_rfl) ?_
    simp only [List.take_succ_cons, List.take_zero, List.drop_succ_cons, List.drop_zero]
    iterate 10 refine dep_reckons rfl (by kernel_rfl) (fun W hG hF' => by go_simp <;> rfl) (by simp only [Act.put, List.setIfInBounds_toArray, List.set_cons_zero, List.set_cons_succ]; rfl) ?_
    refine dep_last rfl (by kernel_rfl) (fun W hG hF' => ?_) (fun v1 => ?_)
    · have hkW := keeps_drew hG
      unfold opGives
      go_simp
      refine (behind_any g true _ k c Y W (h1.keeps hkW (by simp)) (ht1.keeps hkW fun _ _ _ h => by cases h) hck2 (fun _ ad e => by injection e with e; subst e; exact hgb)).mono ?_
      rw [HLL.out]
      rintro e w2 ⟨⟨A2, c2, rfl, ho2⟩, h2, hk2⟩
      exact ⟨_, rfl, ⟨A2, c2, rfl, Rd.of_own ho2, h2⟩, hk2⟩
    simp only [Act.put, List.setIfInBounds_toArray, List.set_cons_zero, List.set_cons_succ]
    refine dep_nil fun W hG hF2 => ?_
    obtain ⟨A2, c2, rfl, hr2, h2⟩ := hF2 _ List.mem_cons_self
    have hkW := keeps_drew hG
    have hK2 := hk1.trans hkW fun i hi => .inl hi
    have hd2 := hd1.keeps hkW fun _ ad e hm => hgb (by injection e with e; subst e; simpa using hm)
    have heq := slicesEqual_any _ A2 4 4 (c - k) c2 X L W hd2 hr2
    rw [HF.out] at heq
    clear hF2 hG hkW hd1 ht1 hd2 hr2 hk1 h1
    go_wp2_with fail
    refine heq.mono ?_
    rintro e w3 ⟨rfl, hd3⟩
    have h3 := h2.below (hd3.below _)
    have hK3 := hK2.trans (Keeps.of_below (hd3.below _) []) (fun i hi => by cases hi)
    clear heq hd3 h2 hK2
    go_wp2_with fail
    go_ret
    exact ⟨rfl, h3, hK3⟩
  · have HF : Hid (fitsC xs = false) := Lib.hid (by unfold fitsC; rw [ha.1]; exact decide_eq_false (by omega))
    have hsub : IntKind.i64.wrap ((n : Int) - 4) = (n : Int) - 4 := by rw [IntKind.wrap_i64]; omega
    have hlt : ((n : Int) - 4) < 0 := by omega
    have hn4 : (n : Int) < 4 := by omega
    have hge : decide (4 ≤ (n : Int)) = false := decide_eq_false (by omega)
    clear h4
    go_enter Try.func46, Try.ntmps46
    go_wp2_with fail
    refine hrd.mono ?_
    rintro e w1 ⟨rfl, h1, hk1⟩
    clear hrd h
    go_wp2_with fail
    refine wp_region_calls 14 [] (by kernel_rfl) (by kernel_rfl) rfl trivial ?_
    simp only [List.take_succ_cons, List.take_zero, List.drop_succ_cons, List.drop_zero]
    refine dep_reckons rfl (by kernel_rfl) (fun W hG hF' => by go_simp <;> rfl) (by simp only [Act.put, List.setIfInBounds_toArray, List.set_cons_zero, List.set_cons_succ]; rfl) ?_
    refine dep_reckons (c := .bool false) rfl (by kernel_rfl) (fun W hG hF' => by go_simp <;> first | rfl | (rw [hge]; rfl) | simp [hge]) (by simp only [Act.put, List.setIfInBounds_toArray, List.set_cons_zero, List.set_cons_succ]; rfl) ?_
    refine dep_reckons rfl (by kernel_rfl) (fun W hG hF' => by go_simp <;> rfl) (by simp only [Act.put, List.setIfInBounds_toArray, List.set_cons_zero, List.set_cons_succ]; rfl) ?_
    iterate 9 (refine dep_skip (by kernel_rfl) (by simp only [Act.put, List.setIfInBounds_toArray, List.set_cons_zero, List.set_cons_succ]; rfl) ?_)
    iterate 2 refine dep_reckons rfl (by kernel_rfl) (fun W hG hF' => by go_simp <;> rfl) (by simp only [Act.put, List.setIfInBounds_toArray, List.set_cons_zero, List.set_cons_succ]; rfl) ?_
    refine dep_nil fun W hG hF2 => ?_
    have hkW := keeps_drew hG
    have hK2 : Keeps [g] w W := hk1.trans hkW (fun i hi => by cases hi)
    have h2 := h1.keeps hkW (by simp)
    clear hF2 hG hkW
    go_wp2_with fail
    go_ret
    exact ⟨by rw [HF.out]; rfl, h2, hK2⟩
end Go.Proofs.Ytgflgncpjlgeoaa
