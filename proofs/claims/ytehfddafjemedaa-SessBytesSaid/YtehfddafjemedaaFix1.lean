/- Contracts of package fix's small functions: known, fits, laid, number; of slices: Clone, Grow, Concat. -/
import Derived.Test.YtehfddafjemedaaNum
import Derived.Test.YtehfddafjemedaaSame
import Derived.Laws.OwnMore
import Derived.Lib.AppendZerosOnto
namespace Go.Proofs.Ytehfddafjemedaa
open Go.RowKit
set_option linter.unusedSimpArgs false
set_option linter.unusedVariables false

theorem known_any (n : Int) (w : World) : Calls Try.prog 61 #[.int .i64 n] w fun e w' => e = .returned (.bool (knownB n)) ∧ w = w' := by
  by_cases h1 : 1 ≤ n
  · go_enter Try.func61, Try.ntmps61
    go_wp2
    go_ret
    exact ⟨ret_bool (by simp [knownB, h1]), rfl⟩
  · go_enter Try.func61, Try.ntmps61
    go_wp2
    go_ret
    exact ⟨ret_bool (by simp [knownB]; omega), rfl⟩

set_option maxHeartbeats 1000000 in
theorem fits_any (n k : Nat) (hn : n < 18446744073709551616) (hk : 1 ≤ k ∧ k ≤ 8) (w : World) : Calls Try.prog 63 #[.int .u64 (n : Int), .int .i64 (k : Int)] w fun e w' => e = .returned (.bool (fitsB n k)) ∧ w = w' := by
  by_cases h8 : k = 8
  · subst h8
    go_enter Try.func63, Try.ntmps63
    go_wp2
    go_ret
    exact ⟨ret_bool (by unfold fitsB; symm; exact decide_eq_true (by omega)), rfl⟩
  · have t8 : ((k : Int) == 8) = false := by simp; omega
    have e1 : IntKind.i64.wrap (8 * (k : Int)) = 8 * (k : Int) := by rw [IntKind.wrap_i64]; omega
    clear h8
    go_enter Try.func63, Try.ntmps63
    go_wp2
    go_ret
    refine ⟨ret_bool ?_, rfl⟩
    have e2 := two_pow k
    have hp := pow256_pos k
    unfold fitsB
    show ((n : Int) / 2 ^ (8 * k) == 0) = _
    rw [e2, ← Int.natCast_ediv, Bool.eq_iff_iff]
    simp only [beq_iff_eq, decide_eq_true_eq]
    rw [← Nat.div_eq_zero_iff_lt hp]
    omega

theorem info_u8' : (Try.prog.info? 5).map (fun i => (i.zero, i.size, i.bytes)) = some (some (.int .u8 0), 1, 1) := by kernel_rfl

set_option maxHeartbeats 1000000 in
theorem laid_any (n k : Nat) (hn : n < 18446744073709551616) (hk : 1 ≤ k ∧ k ≤ 8) (w : World) : Calls Try.prog 65 #[.int .u64 (n : Int), .int .i64 (k : Int)] w fun e w' =>
    (∃ A c, e = .returned (.slice A k c) ∧ w'.ownsRow w.heap.size 5 1 (.slice A k c) k ((beB n k).map bv)) ∧ Below w.heap.size w w' := by
  obtain ⟨i0, hi0, hz0, hz1, hz2⟩ := info_parts info_u8
  have h0 : 0 ≤ (n : Int) := by omega
  go_enter Try.func65, Try.ntmps65
  go_wp2_with (refine wpList_make_full _ rfl (.tmp 7) (.tmp 7) _ rfl w.heap.size 5 i0 _ 1 Try.underlying51 hi0 hz0 hz1 .i64 .i64 _ _ k rfl rfl rfl rfl ?b2 ?b3 ?b4 ?hK)
  case b2 => rw [hz2]; omega
  case b3 => unfold maxLen; omega
  case b4 => omega
  case hK =>
    intro w1 ho1 hg1
    have hb1 : Below w.heap.size w w1 := (Keeps.of_grown hg1).nil_below
    have hz' : (madeCells #[Value.int .u8 0] k).toList = (List.replicate (k - 0) (0 : UInt8) ++ beB n 0).map bv := by
      rw [toList_madeCells_one, Nat.sub_zero]; simp [beB, bv]
    rw [hz'] at ho1
    clear hz' hg1
    go_wp2_with fail
    go_loopw [11] (fun i wr => ∃ j : Nat, j ≤ k ∧ i = .int .i64 (j : Int) ∧ wr.ownsRow w.heap.size 5 1 (.slice (some ⟨w.heap.size, 0, none⟩) k k) k ((List.replicate (k - j) (0 : UInt8) ++ beB n j).map bv) ∧ Below w.heap.size w wr) (fun i _ => k - (intOf i).toNat)
    case atStart => exact ⟨0, Nat.zero_le _, rfl, ho1, hb1⟩
    case round =>
      obtain ⟨j, hj, rfl, ho, hb⟩ := hrel
      clear ho1 hb1
      by_cases hlt : j < k
      · have hst := ho.stored (k - 1 - j) (bv (UInt8.ofNat (n / 256 ^ j)))
        have m0 := ho.cellAt (k - 1 - j) (by omega)
        have fz := ho.frozenAt (k - 1 - j)
        have hgl : w.heap.size < wr.heap.size := own_lt ho _ rfl
        have e0 : ((List.replicate (k - j) (0 : UInt8) ++ beB n j).map bv)[k - 1 - j]? = some (.int .u8 0) := by
          rw [List.getElem?_map, List.getElem?_append_left (by simp; omega)]
          simp [List.getElem?_replicate, show k - 1 - j < k - j by omega, bv]
        rw [e0] at m0
        have w1' : IntKind.i64.wrap ((k : Int) - 1) = ((k - 1 : Nat) : Int) := by rw [IntKind.wrap_i64]; omega
        have w2' : IntKind.i64.wrap (((k - 1 : Nat) : Int) - (j : Int)) = ((k - 1 - j : Nat) : Int) := by rw [IntKind.wrap_i64]; omega
        have w3' : IntKind.i64.wrap (8 * (j : Int)) = 8 * (j : Int) := by rw [IntKind.wrap_i64]; omega
        have hbyte : Hid (((n : Int) / 2 ^ (8 * j)) % 256 = ((UInt8.ofNat (n / 256 ^ j)).toNat : Int)) := Lib.hid (by
          have e2 := two_pow j
          rw [e2, ← Int.natCast_ediv, UInt8.toNat_ofNat']
          omega)
        obtain ⟨q, hq⟩ : ∃ q, k - 1 - j = q := ⟨_, rfl⟩
        have hqk : q < k := by omega
        have hset := laid_set n k j hlt
        rw [hq] at hset m0 fz hst w2'
        have HSET := Lib.hid hset
        have HST := Lib.hid hst
        clear hset hst e0 hq
        go_wp2_with fail
        rw [hbyte.out]
        refine ⟨⟨j + 1, by omega, rfl, ?_, hb.setCell (by simp) _⟩, by simp [intOf]; omega⟩
        have h1 := HST.out.1
        rw [← List.map_set, HSET.out] at h1
        exact h1
      · obtain rfl : j = k := by omega
        clear hlt
        rw [Nat.sub_self, List.replicate_zero, List.nil_append] at ho
        go_wp2_with fail
        go_ret
        exact ⟨⟨_, _, rfl, ho⟩, hb⟩
end Go.Proofs.Ytehfddafjemedaa
