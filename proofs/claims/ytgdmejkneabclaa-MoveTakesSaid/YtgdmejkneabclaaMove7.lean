/- Contracts of the law's spoil (layer 21). -/
import Derived.Test.YtgdmejkneabclaaMove6
namespace Go.Proofs.Ytgdmejkneabclaa
open Go.RowKit
set_option linter.unusedSimpArgs false
set_option linter.unusedVariables false

set_option maxHeartbeats 1000000 in
theorem spoil21_any (B : Nat) (A : Option Addr) (n c : Nat) (xs : List UInt8) (w : World) (h : w.ownsRow B 5 1 (.slice A n c) n (xs.map bv)) (hn : n ≤ 1000000) :
    Calls Try.prog 33 #[.slice A n c] w fun e w' => e = .returned (.tuple #[]) ∧ Keeps (Value.slice A n c).ownBlock.toList w w' ∧ ∃ ys : List UInt8, w'.ownsRow B 5 1 (.slice A n c) n (ys.map bv) := by
  go_enter Try.func33, Try.ntmps33
  go_wp2_with fail
  go_loopw [2] (fun i wr => ∃ (k : Nat) (ys : List UInt8), k ≤ n ∧ i = .int .i64 k ∧ wr.ownsRow B 5 1 (.slice A n c) n (ys.map bv) ∧ Keeps (Value.slice A n c).ownBlock.toList w wr) (fun i _ => n - (intOf i).toNat)
  case atStart => exact ⟨0, xs, Nat.zero_le _, rfl, h, Keeps.refl _ _⟩
  case round =>
    obtain ⟨k, ys, hk, rfl, ho, hkp⟩ := hrel
    by_cases hlt : k < n
    · obtain ⟨g, cap, hf, _, hgl⟩ := ho.form (by omega)
      injection hf with i1 i2 i3
      subst i1 i3
      have hyl : ys.length = n := by simpa using ho.1
      have m0 := ho.cellAt k (by omega)
      have fz := ho.frozenAt k
      have e0 : (ys.map bv)[k]? = some (.int .u8 ((ys.getD k 0).toNat : Int)) := by rw [List.getElem?_map, List.getElem?_eq_getElem (by omega)]; simp [bv, List.getD, List.getElem?_eq_getElem (show k < ys.length by omega)]
      rw [e0] at m0
      have hst := ho.stored k (bv ((ys.getD k 0) + 1))
      obtain ⟨y, hy⟩ : ∃ y, ys.getD k 0 = y := ⟨_, rfl⟩
      rw [hy] at m0 hst
      have hw8 : Hid (((y.toNat : Int) + 1) % 256 = (((y + 1).toNat : Nat) : Int)) := by
        show _ = _
        rw [UInt8.toNat_add]
        simp
      simp only [bv] at hst
      have HST := Lib.hid hst
      clear hst e0 hy i2
      go_wp2_with fail
      rw [hw8.out]
      have hst := HST.out.1
      have e1 : (ys.map bv).set k (.int .u8 (((y + 1).toNat : Nat) : Int)) = (ys.set k (y + 1)).map bv := by rw [List.map_set]; rfl
      rw [e1] at hst
      exact ⟨⟨k + 1, ys.set k (y + 1), by omega, rfl, hst, hkp.setCell (p := ⟨g, k, none⟩) (.inl (by simp [Value.ownBlock])) _⟩, by simp [intOf]; omega⟩
    · go_wp2_with fail
      exact bodyPost_end (by simp [results, Try.results33, go_sem]) rfl ⟨rfl, hkp, ys, ho⟩
end Go.Proofs.Ytgdmejkneabclaa
