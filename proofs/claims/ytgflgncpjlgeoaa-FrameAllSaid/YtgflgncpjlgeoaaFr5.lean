/- Contracts: catenaryref01's Num; catenaryref03's Put, Cut, Get, Same; frame's Size, Same. -/
import Derived.Test.YtgflgncpjlgeoaaFr4
import Derived.Test.YtgflgncpjlgeoaaCrc7
namespace Go.Proofs.Ytgflgncpjlgeoaa
open Go.RowKit
set_option linter.unusedSimpArgs false
set_option linter.unusedVariables false

set_option maxHeartbeats 1000000 in
theorem refNum_any (A : Option Addr) (n c : Nat) (xs : List UInt8) (w : World) (ha : Rd w A n xs) (hn : n ≤ 8) : Calls Try.prog 39 #[.slice A n c] w fun e w' => e = .returned (.int .u64 (beN xs : Int)) ∧ w = w' := by
  have HX := Lib.hid ha.1
  go_enter Try.func39, Try.ntmps39
  go_wp2_with fail
  go_loop [3, 4] (fun v i => ∃ k : Nat, k ≤ n ∧ i = .int .i64 (k : Int) ∧ v = .int .u64 ((beN (xs.take k) : Nat) : Int)) (fun _ i => n - (intOf i).toNat)
  case atStart => exact ⟨0, Nat.zero_le _, rfl, rfl⟩
  case round =>
    obtain ⟨k, hk, rfl, rfl⟩ := hrel
    by_cases hlt : k < n
    · obtain ⟨b, o, rfl, hc⟩ := ha.at_ k hlt
      have hbl := block_lt_of_cell hc
      have hlt2 := beN_take_lt xs k
      have hp : 256 ^ k ≤ 256 ^ 7 := Nat.pow_le_pow_right (by omega) (by omega)
      have hsucc := beN_take_succ xs k (by rw [HX.out]; exact hlt)
      obtain ⟨x, hx⟩ : ∃ x, xs.getD k 0 = x := ⟨_, rfl⟩
      rw [hx] at hc hsucc
      obtain ⟨m, hm⟩ : ∃ m, beN (xs.take k) = m := ⟨_, rfl⟩
      rw [hm] at hlt2 hsucc
      have hx8 := x.toNat_lt
      have hm7 : m < 256 ^ 7 := by omega
      have HS := Lib.hid hsucc
      rw [hm]
      simp only at hbl
      clear hx hm hsucc hlt2 hp
      have hm7' : (m : Int) < 72057594037927936 := by omega
      have hx8' : (x.toNat : Int) < 256 := by omega
      clear hm7 hx8
      have hw1 : IntKind.u64.wrap ((m : Int) * 256) = (m : Int) * 256 := by rw [IntKind.wrap_u64]; omega
      have hw2 : IntKind.u64.wrap ((m : Int) * 256 + (x.toNat : Int)) = (m : Int) * 256 + (x.toNat : Int) := by rw [IntKind.wrap_u64]; omega
      have hx9 : (x.toNat : Int) % 18446744073709551616 = (x.toNat : Int) := by omega
      go_wp2_with fail
      clear hw1 hw2 hx9
      exact ⟨⟨k + 1, by omega, rfl, by rw [HS.out]; rfl⟩, by simp [intOf]; omega⟩
    · obtain rfl : k = n := by omega
      have e := List.take_of_length_le (l := xs) (i := k) (by rw [HX.out]; omega)
      rw [e]
      clear hlt e
      go_wp2_with fail
      go_ret
      exact ⟨rfl, rfl⟩

/-- One byte in new memory. -/
def OneTold (B : Nat) (k : UInt8) (v : Value) (W : World) : Prop := ∃ A, v = .slice A 1 1 ∧ W.ownsRow B 5 1 (.slice A 1 1) 1 [bv k]
theorem oneTold_keeps {B : Nat} {k : UInt8} : ∀ v W W', Keeps [] W W' → OneTold B k v W → OneTold B k v W' := by
  rintro v W W' hk ⟨A, h1, h2⟩
  exact ⟨A, h1, own_keeps h2 hk (fun _ _ h => by cases h)⟩
def SomeRd (n : Nat) (xs : List UInt8) (v : Value) (W : World) : Prop := ∃ A c, v = .slice A n c ∧ Rd W A n xs
theorem someRd_keeps {n : Nat} {xs : List UInt8} : ∀ v W W', Keeps [] W W' → SomeRd n xs v W → SomeRd n xs v W' := by
  rintro v W W' hk ⟨A, c, h1, h2⟩
  exact ⟨A, c, h1, h2.keeps hk (fun _ _ _ h => by cases h)⟩
theorem big_two {m : Nat} (h : m ≤ 16384) : putBs m ((2 : Nat) : Int) = beB m 2 := by
  have hp : putBad m ((2 : Nat) : Int) = 0 := by
    have hk : ¬ knownB ((2 : Nat) : Int) = false := by decide
    have hf : ¬ fitsB m 2 = false := by simp [fitsB]; omega
    unfold putBad
    rw [if_neg hk, Int.toNat_natCast, if_neg hf]
  unfold putBs
  rw [if_pos hp, Int.toNat_natCast]

set_option maxRecDepth 100000 in
set_option maxHeartbeats 4000000 in
theorem refPut3_any (k : UInt8) (A : Option Addr) (m c : Nat) (body : List UInt8) (w : World) (ha : Rd w A m body) (hc : m ≤ c) (hm : m ≤ 1000000) :
    Calls Try.prog 9 #[frV k A m c] w fun e w' => PutTold3 w.heap.size (putF k body) (putE k body) e w' ∧ Below w.heap.size w w' := by
  unfold frV
  obtain ⟨i0, hi0, hz0, hz1, hz2⟩ := info_parts info_u8
  have HX := Lib.hid ha.1
  have hX : Below w.heap.size w (w.alloc (.cells #[.int .u8 (k.toNat : Int), .slice A m c] 25)) := (Below.refl _ _).alloc (Nat.le_refl _) _
  have hx := Blk.new w 25 #[.int .u8 (k.toNat : Int), .slice A m c]
  by_cases k0 : k = 0
  · have HE : Hid (putE k body = 4) := Lib.hid (by unfold putE; rw [if_pos k0])
    have HF : Hid (putF k body = []) := Lib.hid (by unfold putF; rw [HE.out]; rfl)
    have tk : ((k.toNat : Int) == 0) = true := by rw [k0]; rfl
    clear k0
    go_enter Try.func9, Try.ntmps9
    go_wp2_with fail
    refine bodyPost_ret (v := .tuple #[.slice none 0 0, .int .i64 4]) (by simp [results, Try.results9, go_sem]) rfl ⟨?_, hX⟩
    rw [HE.out, HF.out]
    exact putTold3_none _ _ _
  · have tk : ((k.toNat : Int) == 0) = false := by
      simp
      intro h0
      exact k0 (UInt8.toNat_inj.1 h0)
    by_cases hlong : 16384 < m
    · have HE : Hid (putE k body = 6) := Lib.hid (by unfold putE; rw [if_neg k0, if_pos (by rw [HX.out]; exact hlong)])
      have HF : Hid (putF k body = []) := Lib.hid (by unfold putF; rw [HE.out]; rfl)
      have tl : (16384 : Int) < (m : Int) := by omega
      clear k0 hlong
      go_enter Try.func9, Try.ntmps9
      go_wp2_with fail
      refine bodyPost_ret (v := .tuple #[.slice none 0 0, .int .i64 6]) (by simp [results, Try.results9, go_sem]) rfl ⟨?_, hX⟩
      rw [HE.out, HF.out]
      exact putTold3_none _ _ _
    · have he : putE k body = 0 := by unfold putE; rw [if_neg k0, if_neg (by rw [HX.out]; exact hlong)]
      have HE := Lib.hid he
      have hpl := put_len he
      have hF : putF k body = sealB ([k] ++ beB m 2 ++ body) := by unfold putF; rw [if_pos he, HX.out]
      rw [HX.out] at hpl
      have tl : ¬ (16384 : Int) < (m : Int) := by omega
      have hw2 : (m : Int) % 18446744073709551616 = (m : Int) := by omega
      have hw3 : IntKind.u64.wrap (m : Int) = (m : Int) := by rw [IntKind.wrap_u64]; exact hw2
      have hbig := fun W => refBig_any m ((2 : Nat) : Int) W (by omega)
      rw [big_two (by omega), beB_len, show ((2 : Nat) : Int) = 2 from rfl] at hbig
      have hb2 := beB_len m 2
      obtain ⟨L, hL⟩ : ∃ z, beB m 2 = z := ⟨_, rfl⟩
      rw [hL] at hbig hF hb2
      have HB2 := Lib.hid hb2
      have ha1 := ha.below_ hX
      have hm3 : 3 + m ≤ 1000000 := by omega
      clear k0 hlong he hL hb2
      go_enter Try.func9, Try.ntmps9
      go_wp2_with fail
      generalize (w.alloc (.cells #[.int .u8 (k.toNat : Int), .slice A m c] 25)) = w1 at hX hx ha1 ⊢
      have hsX := hX.size
      refine wp_region_calls 8 [(2, .some_ (OneTold w.heap.size k)), (7, .some_ (SomeRd 2 L))] (by kernel_rfl) (by kernel_rfl) rfl ⟨oneTold_keeps, someRd_keeps, trivial⟩ ?_
      simp only [List.take_succ_cons, List.take_zero, List.drop_succ_cons, List.drop_zero]
      refine dep_reckons rfl (by kernel_rfl) (fun W hG hF' => by go_simp <;> rfl) (by simp only [Act.put, List.setIfInBounds_toArray, List.set_cons_zero, List.set_cons_succ]; rfl) ?_
      refine dep_reckons (c := .int .u8 (k.toNat : Int)) rfl (by kernel_rfl) (fun W hG hF' => ?_) (by simp only [Act.put, List.setIfInBounds_toArray, List.set_cons_zero, List.set_cons_succ]; rfl) ?_
      · have hyW := hx.keeps (keeps_drew hG) (by simp)
        have x0 := hyW.cell 0
        have x1 := hyW.cell 1
        have xz := hyW.frozen
        have xl := hyW.lt
        simp only [List.getElem?_toArray, List.getElem?_cons_zero, List.getElem?_cons_succ] at x0 x1
        go_simp <;> rfl
      refine dep_some rfl (by kernel_rfl) (fun W hG hF' => ?_) (fun v2 => ?_)
      · have hsW := (keeps_drew hG).size
        unfold opGives
        go_simp
        exact ⟨⟨_, rfl, World.ownsRow_lit W #[.int .u8 (k.toNat : Int)] 1 (by omega) (by unfold maxLen; omega) rfl⟩, (Keeps.refl [] W).alloc _⟩
      simp only [Act.put, List.setIfInBounds_toArray, List.set_cons_zero, List.set_cons_succ]
      refine dep_reckons rfl (by kernel_rfl) (fun W hG hF' => by go_simp <;> rfl) (by simp only [Act.put, List.setIfInBounds_toArray, List.set_cons_zero, List.set_cons_succ]; rfl) ?_
      refine dep_reckons (c := .slice A m c) rfl (by kernel_rfl) (fun W hG hF' => ?_) (by simp only [Act.put, List.setIfInBounds_toArray, List.set_cons_zero, List.set_cons_succ]; rfl) ?_
      · have hyW := hx.keeps (keeps_drew hG) (by simp)
        have x0 := hyW.cell 0
        have x1 := hyW.cell 1
        have xz := hyW.frozen
        have xl := hyW.lt
        simp only [List.getElem?_toArray, List.getElem?_cons_zero, List.getElem?_cons_succ] at x0 x1
        go_simp <;> rfl
      iterate 2 refine dep_reckons rfl (by kernel_rfl) (fun W hG hF' => by go_simp <;> rfl) (by simp only [Act.put, List.setIfInBounds_toArray, List.set_cons_zero, List.set_cons_succ]; rfl) ?_
      refine dep_some rfl (by kernel_rfl) (fun W hG hF' => ?_) (fun v7 => ?_)
      · unfold opGives
        go_simp
        refine (hbig W).mono ?_
        rintro e w2 ⟨⟨A2, c2, rfl, ho2⟩, hb2⟩
        exact ⟨_, rfl, ⟨A2, c2, rfl, Rd.of_own ho2⟩, Keeps.of_below hb2 []⟩
      simp only [Act.put, List.setIfInBounds_toArray, List.set_cons_zero, List.set_cons_succ]
      refine dep_nil fun W hG hF2 => ?_
      obtain ⟨A7, c7, rfl, hr7⟩ := hF2 _ List.mem_cons_self
      obtain ⟨A2, rfl, ho2⟩ := hF2 _ (List.mem_cons_of_mem _ List.mem_cons_self)
      have hkW := keeps_drew hG
      have hBW := hX.trans (hkW.nil_below.mono hsX)
      have haW := ha1.keeps hkW (fun _ _ _ h => by cases h)
      have hxW := hx.keeps hkW (by simp)
      clear hF2 hG hkW ha1 hx hbig hX
      go_wp2_with (at_builtin; refine wpList_append_src rfl (.tmp 14) (.tmp 19) _ rfl w.heap.size 5 i0 _ 1 1 Try.underlying23 hi0 hz0 hz1 hz2 rfl (by omega) (.slice A2 1 1) 1 [bv k] rfl ?c0 A7 2 c7 (L.map bv) rfl ?c1 ?c2 ?c3 ?c4 ?c5)
      case c0 => exact ho2
      case c1 => exact hr7.src
      case c2 => unfold maxLen; omega
      case c3 => omega
      try (case c4 => exact hBW.size)
      case c5 =>
        intro v3 w3 ho3 hg3 _
        have hk3 := Keeps.of_grown hg3
        obtain ⟨A3, c3, rfl, _, _⟩ := own_form ho3
        have hB3 : Below w.heap.size w w3 := hBW.trans (hk3.below hBW.size fun i hi => own_ge ho2 i (by simpa using hi))
        have ha3 : Rd w3 A m body := haW.keeps hk3 (fun h0 ad e hm => by
          have h1 := own_ge ho2 ad.block (by simpa using hm)
          have h2 := ha.lt h0 ad e
          omega)
        have hx3 := hxW.keeps hk3 (fun hm => own_blk_ne ho2 hxW (by decide) _ (by simpa using hm) rfl)
        have ho3' : w3.ownsRow w.heap.size 5 1 (.slice A3 (1 + 2) c3) (1 + 2) (([k] ++ L).map bv) := by rw [List.map_append]; exact ho3
        have hs3 := hB3.size
        clear hg3 hk3 ho3 haW hxW ho2 hr7 hBW
        have x0 := hx3.cell 0
        have x1 := hx3.cell 1
        have xz := hx3.frozen
        have xl := hx3.lt
        simp only [List.getElem?_toArray, List.getElem?_cons_zero, List.getElem?_cons_succ] at x0 x1
        go_wp2_with (at_builtin; refine wpList_append_src rfl (.tmp 21) (.tmp 23) _ rfl w.heap.size 5 i0 _ 1 1 Try.underlying23 hi0 hz0 hz1 hz2 rfl (by omega) (.slice A3 (1 + 2) c3) (1 + 2) (([k] ++ L).map bv) rfl ?d0 A m c (body.map bv) rfl ?d1 ?d2 ?d3 ?d4 ?d5)
        case d0 => exact ho3'
        case d1 => exact ha3.src
        case d2 => unfold maxLen; omega
        case d3 => omega
        try (case d4 => exact hs3)
        case d5 =>
          intro v4 w4 ho4 hg4 _
          have hk4 := Keeps.of_grown hg4
          obtain ⟨A4, c4, rfl, _, _⟩ := own_form ho4
          have hB4 : Below w.heap.size w w4 := hB3.trans (hk4.below hs3 fun i hi => own_ge ho3' i (by simpa using hi))
          have ho4' : w4.ownsRow w.heap.size 5 1 (.slice A4 (3 + m) c4) (3 + m) (([k] ++ L ++ body).map bv) := by rw [List.map_append]; exact ho4
          obtain ⟨_, _, hv4, hlc4, _⟩ := own_form ho4'
          have hc4 : 3 + m ≤ c4 := by first | (injection hv4; done) | (injection hv4; omega)
          have hr4 := Rd.of_own ho4'
          clear hg4 hk4 ho4 ho4' ho3' hB3 hv4 hlc4 x0 x1 xz xl hx3 ha3
          go_wp2_with fail
          refine (refSeal_any A4 (3 + m) c4 _ w4 hr4 hc4 hm3).mono ?_
          rintro e w5 ⟨⟨A5, c5, rfl, ho5⟩, hb5⟩
          have hB5 := hB4.trans (hb5.mono hB4.size)
          have hs4 := hB4.size
          go_wp2_with fail
          refine bodyPost_ret (v := .tuple #[.slice A5 (3 + m + 4) c5, .int .i64 0]) (by simp [results, Try.results9, go_sem]) rfl ⟨?_, hB5⟩
          rw [HE.out]
          have hl7 : (putF k body).length = 3 + m + 4 := by omega
          unfold PutTold3
          rw [hl7, hF]
          exact ⟨A5, c5, rfl, own_rebase ho5 fun i hi => Nat.le_trans hs4 (own_ge ho5 i hi)⟩
end Go.Proofs.Ytgflgncpjlgeoaa
