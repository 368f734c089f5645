/- Contracts: catenaryref01 Put, Big. -/
import Derived.Test.YtehfddafjemedaaNum
import Derived.Test.YtehfddafjemedaaSlc
namespace Go.Proofs.Ytehfddafjemedaa
open Go.RowKit
set_option linter.unusedSimpArgs false
set_option linter.unusedVariables false

/-- What is wrong with a number of so many bytes, and its bytes. -/
def putBad (n : Nat) (k : Int) : Int := if knownB k = false then 1 else if fitsB n k.toNat = false then 4 else 0
def putBs (n : Nat) (k : Int) : List UInt8 := if putBad n k = 0 then beB n k.toNat else []
/-- Bytes in new memory, and what is wrong with them. -/
def PutTold (B : Nat) (bs : List UInt8) (er : Int) (e : Ending) (w' : World) : Prop := ∃ A c, e = .returned (.tuple #[.slice A bs.length c, .int .i64 er]) ∧ w'.ownsRow B 5 1 (.slice A bs.length c) bs.length (bs.map bv)
theorem PutTold.none_ (w : World) (B : Nat) (er : Int) : PutTold B [] er (.returned (.tuple #[.slice none 0 0, .int .i64 er])) w := ⟨none, 0, rfl, World.ownsRow_nil _ _ _ _⟩

set_option maxRecDepth 100000 in
set_option maxHeartbeats 2000000 in
theorem ref1Put_any (n : Nat) (k : Int) (w : World) (hn : n < 18446744073709551616) :
    Calls Try.prog 37 #[.int .u64 (n : Int), .int .i64 k] w fun e w' => PutTold w.heap.size (putBs n k) (putBad n k) e w' ∧ Below w.heap.size w w' := by
  by_cases hk : knownB k = true
  · have hk1 : 1 ≤ k ∧ k ≤ 8 := by simpa [knownB] using hk
    obtain ⟨j, rfl⟩ : ∃ j : Nat, k = j := ⟨k.toNat, by omega⟩
    have hj : 1 ≤ j ∧ j ≤ 8 := by omega
    have e0 : putBad n (j : Int) = if fitsB n j = false then 4 else 0 := by unfold putBad; rw [if_neg (by rw [hk]; simp), Int.toNat_natCast]
    have e1 : putBs n (j : Int) = if fitsB n j = false then [] else beB n j := by
      unfold putBs
      rw [e0, Int.toNat_natCast]
      cases fitsB n j <;> simp
    rw [e0, e1]
    obtain ⟨ER, hER⟩ : ∃ z, (if fitsB n j = false then (4 : Int) else 0) = z := ⟨_, rfl⟩
    obtain ⟨BS, hBS⟩ : ∃ z, (if fitsB n j = false then [] else beB n j) = z := ⟨_, rfl⟩
    rw [hER, hBS]
    have HER := Lib.hid hER
    have HBS := Lib.hid hBS
    clear e0 e1 hk hk1 hER hBS
    obtain ⟨i0, hi0, hz0, hz1, hz2⟩ := info_parts info_u8
    go_enter Try.func37, Try.ntmps37
    go_wp2_with fail
    go_loopw [0, 6, 7] (fun m v i wr => ∃ (q : Nat) (bs : List UInt8), q ≤ j ∧ i = .int .i64 (q : Int) ∧ m = .int .u64 ((n / 256 ^ q : Nat) : Int) ∧ wr.ownsRow w.heap.size 5 1 v q (bs.map bv) ∧ Hid (bs = beB n q) ∧ Below w.heap.size w wr) (fun _ _ i _ => j - (intOf i).toNat)
    case atStart => exact ⟨0, [], Nat.zero_le _, rfl, by simp, World.ownsRow_nil _ _ _ _, Lib.hid rfl, Below.refl _ _⟩
    case round =>
      obtain ⟨q, bs, hq, rfl, rfl, ho, HB, hb⟩ := hrel
      obtain ⟨Av, cv, rfl, hlc, hcm⟩ := own_form ho
      have hs := hb.size
      obtain ⟨M, hM⟩ : ∃ M, n / 256 ^ q = M := ⟨_, rfl⟩
      have hM64 : M < 18446744073709551616 := by rw [← hM]; exact Nat.lt_of_le_of_lt (Nat.div_le_self _ _) hn
      by_cases hlt : q < j
      · have HB2 : Hid (UInt8.ofNat M :: bs = beB n (q + 1)) := Lib.hid (by rw [HB.out]; show _ = UInt8.ofNat (n / 256 ^ q) :: beB n q; rw [hM])
        have HM2 : Hid (M / 256 = n / 256 ^ (q + 1)) := Lib.hid (by rw [← hM, Nat.div_div_eq_div_mul, Nat.pow_succ])
        rw [hM]
        clear hM
        go_wp2_with (at_builtin; refine wpList_append_src rfl (.tmp 22) (.tmp 23) _ rfl w.heap.size 5 i0 _ 1 1 Try.underlying51 hi0 hz0 hz1 hz2 rfl (by omega) (.slice (some ⟨wr.heap.size, 0, none⟩) 1 1) 1 [.int .u8 ((M : Int) % 256)] rfl ?d0 Av q cv (bs.map bv) rfl ?d1 ?d2 ?d3 ?d4 ?d5)
        case d0 => exact World.ownsRow_lit wr #[.int .u8 ((M : Int) % 256)] 1 hs (by unfold maxLen; omega) rfl
        case d1 => exact ((Rd.of_own ho).alloc _).src
        case d2 => unfold maxLen; omega
        case d3 => omega
        case d4 => simp; omega
        case d5 =>
          intro v' w6 ho6 hgr _
          have hk6 := Keeps.of_grown hgr
          have hB6 : Below w.heap.size w w6 := by
            refine (hb.trans (((Below.refl _ wr).alloc (Nat.le_refl _) _).mono hs)).trans (hk6.below (by simp; omega) fun j hj => ?_)
            have : j = wr.heap.size := by simpa [Value.ownBlock] using hj
            omega
          have ho6' : w6.ownsRow w.heap.size 5 1 v' (q + 1) ((UInt8.ofNat M :: bs).map bv) := by
            have e1 : (UInt8.ofNat M :: bs).map bv = [Value.int .u8 ((M : Int) % 256)] ++ bs.map bv := by
              have : ((UInt8.ofNat M).toNat : Int) = (M : Int) % 256 := by rw [UInt8.toNat_ofNat']; omega
              simp only [List.map_cons, List.cons_append, List.nil_append]
              rw [← this]
              rfl
            rw [e1, Nat.add_comm q 1]
            exact ho6
          clear hgr hk6 ho6 ho hb
          go_wp2_with fail
          exact ⟨⟨q + 1, _, by omega, rfl, by rw [← HM2.out]; rfl, ho6', HB2, hB6⟩, by simp [intOf]; omega⟩
      · obtain rfl : q = j := by omega
        rw [hM]
        have hl : bs.length = q := by simpa using ho.1
        by_cases hf : fitsB n q = true
        · have hz : M = 0 := by rw [← hM]; exact Nat.div_eq_of_lt (by simpa [fitsB] using hf)
          subst hz
          clear hM hlt
          go_wp2_with fail
          refine bodyPost_ret (v := .tuple #[.slice Av q cv, .int .i64 0]) (by simp [results, Try.results37, go_sem]) rfl ?_
          refine ⟨?_, hb⟩
          rw [← HER.out, ← HBS.out, if_neg (by simp [hf]), if_neg (by simp [hf]), ← HB.out]
          exact ⟨Av, cv, by rw [hl], by rw [hl]; exact ho⟩
        · have hz : 0 < M := by
            rw [← hM]
            refine Nat.div_pos ?_ (pow256_pos _)
            have : ¬ n < 256 ^ q := by simpa [fitsB] using hf
            omega
          clear hM hlt
          go_wp2_with fail
          refine bodyPost_ret (v := .tuple #[.slice none 0 0, .int .i64 4]) (by simp [results, Try.results37, go_sem]) rfl ?_
          refine ⟨?_, hb⟩
          rw [← HER.out, ← HBS.out, if_pos (by simpa using hf), if_pos (by simpa using hf)]
          exact PutTold.none_ _ _ _
  · have e0 : putBad n k = 1 := by unfold putBad; rw [if_pos (by simpa using hk)]
    have e1 : putBs n k = [] := by unfold putBs; rw [e0]; rfl
    rw [e0, e1]
    have h1 : k < 1 ∨ (¬ k < 1 ∧ 8 < k) := by
      have : ¬ (1 ≤ k ∧ k ≤ 8) := by simpa [knownB] using hk
      omega
    clear hk e0 e1
    rcases h1 with h1 | ⟨h1, h2⟩
    iterate 2
      · go_enter Try.func37, Try.ntmps37
        go_wp2_with fail
        refine bodyPost_ret (v := .tuple #[.slice none 0 0, .int .i64 1]) (by simp [results, Try.results37, go_sem]) rfl ?_
        exact ⟨PutTold.none_ _ _ _, Below.refl _ _⟩

theorem refBig_any (n : Nat) (k : Int) (w : World) (hn : n < 18446744073709551616) :
    Calls Try.prog 69 #[.int .u64 (n : Int), .int .i64 k] w fun e w' => (∃ A c, e = .returned (.slice A (putBs n k).length c) ∧ w'.ownsRow w.heap.size 5 1 (.slice A (putBs n k).length c) (putBs n k).length ((putBs n k).map bv)) ∧ Below w.heap.size w w' := by
  have hp := ref1Put_any n k w hn
  obtain ⟨bs, hbs⟩ : ∃ z, putBs n k = z := ⟨_, rfl⟩
  obtain ⟨er, her⟩ : ∃ z, putBad n k = z := ⟨_, rfl⟩
  rw [hbs, her] at hp
  rw [hbs]
  clear hbs her
  go_enter Try.func69, Try.ntmps69
  go_wp2_with fail
  refine hp.mono ?_
  rintro e w1 ⟨⟨A, c, rfl, ho⟩, hb⟩
  clear hp
  go_wp2_with fail
  go_ret
  exact ⟨⟨A, c, rfl, ho⟩, hb⟩
end Go.Proofs.Ytehfddafjemedaa
