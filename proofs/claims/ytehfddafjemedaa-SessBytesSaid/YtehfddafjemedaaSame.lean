/- Contracts: catenaryref01.Same; bytes as a string. -/
import Derived.Test.YtehfddafjemedaaMem
import Derived.Test.YtehfddafjemedaaProg
namespace Go.Proofs.Ytehfddafjemedaa
open Go.RowKit

set_option maxHeartbeats 400000 in
theorem Same_any (A B : Option Addr) (n m c d : Nat) (xs ys : List UInt8) (w : World) (ha : Rd w A n xs) (hb : Rd w B m ys) :
    Calls Try.prog 30 #[.slice A n c, .slice B m d] w fun e w' => e = .returned (.bool (decide (xs = ys))) ∧ Drawn w w' := by
  by_cases hnm : n = m
  · subst hnm
    have hn := ha.2.1
    go_enter Try.func30, Try.ntmps30
    go_wp2
    go_loopw [5] (fun i wr => ∃ k : Nat, k ≤ n ∧ i = .int .i64 k ∧ xs.take k = ys.take k ∧ Drawn w wr) (fun i _ => n - (intOf i).toNat)
    case atStart => exact ⟨0, Nat.zero_le _, rfl, rfl, Drawn.refl _⟩
    case round =>
      obtain ⟨k, hk, rfl, htk, hdr⟩ := hrel
      have Ht := Lib.hid htk; clear htk
      by_cases hlt : k < n
      · obtain ⟨ab, ao, rfl, hca⟩ := (ha.drawn hdr).at_ k hlt
        obtain ⟨bb, bo, rfl, hcb⟩ := (hb.drawn hdr).at_ k hlt
        go_wp2
        go_quiet (fail)
        go_wp2
        · go_ret
          refine ⟨ret_bool (decide_eq_false ?_).symm, hdr.drewN _⟩
          rintro rfl
          have hne : ((xs[k]?.getD 0).toNat : Int) != ((xs[k]?.getD 0).toNat : Int) := by assumption
          simp at hne
        · go_roundw
          case rel =>
            have he : (((xs[k]?.getD 0).toNat : Int) != ((ys[k]?.getD 0).toNat : Int)) = false := by assumption
            have he2 : xs[k]?.getD 0 = ys[k]?.getD 0 := by
              simp only [bne_eq_false_iff_eq] at he
              exact UInt8.toNat_inj.1 (by omega)
            refine ⟨k + 1, by omega, by go_num, ?_, hdr.drewN _⟩
            rw [take_succ_getD xs k 0 (by rw [ha.1]; omega), take_succ_getD ys k 0 (by rw [hb.1]; omega), Ht.out, List.getD_eq_getElem?_getD, List.getD_eq_getElem?_getD, he2]
          case measure => simp [intOf]; omega
      · go_wp2
        go_ret
        obtain rfl : k = n := by omega
        have h1 := Ht.out
        rw [List.take_of_length_le (by rw [ha.1]; omega), List.take_of_length_le (by rw [hb.1]; omega)] at h1
        exact ⟨ret_bool (by simp [h1]), hdr⟩
  · have hne : ((n : Int) != (m : Int)) = true := by rw [bne_iff_ne]; omega
    go_enter Try.func30, Try.ntmps30
    go_wp2
    go_ret
    refine ⟨ret_bool (decide_eq_false ?_).symm, Drawn.refl _⟩
    rintro rfl
    exact hnm (ha.1.symm.trans hb.1)

theorem info_u8 : (Try.prog.info? 5).map (fun i => (i.zero, i.size, i.bytes)) = some (some (.int .u8 0), 1, 1) := by kernel_rfl

/-- A byte slice as a string. -/
theorem conv_bytes {P : Program} (src e dst : TypeId) (hs : P.underlying src = some (.slice e)) (he : P.underlying e = some (.int .u8)) (hd : P.underlying dst = some .string)
    (A : Option Addr) (n c : Nat) (xs : List UInt8) (w : World) (ha : Rd w A n xs) : (convert src dst (.slice A n c)).run P w = .ok (.string ⟨xs.toArray⟩) w := by
  rcases A with _ | ad
  · obtain rfl : n = 0 := by
      rcases Nat.eq_zero_or_pos n with h0 | h0
      · exact h0
      · obtain ⟨_, _, h, _⟩ := ha.2.2 h0
        cases h
    obtain rfl : xs = [] := List.eq_nil_of_length_eq_zero ha.1
    exact run_convert_bytes_nil w src e hs he 0 c dst hd
  · have hl : (loadCells ad n).run P w = .ok ((xs.map fun b => (b.toNat : Int)).map (Value.int .u8)).toArray w := by
      have := run_loadCells_list (P := P) w ad ((xs.map fun b => (b.toNat : Int)).map (Value.int .u8)) (fun j v hj => by
        have hjl : j < xs.length := by
          have := (List.getElem?_eq_some_iff.1 hj).1
          simpa using this
        obtain ⟨b, o, e1, hc⟩ := ha.2.2 (by rw [← ha.1]; omega)
        injection e1 with e1
        subst e1
        rw [add_lit0, hc j (by rw [← ha.1]; exact hjl)]
        simp [List.getElem?_eq_getElem hjl] at hj
        subst hj
        simp [List.getD, List.getElem?_eq_getElem hjl])
      simpa [ha.1] using this
    rw [run_convert_bytes_string w src dst e _ n c hs he hd, run_bytesToString w _ n c _ hl, foldl_push_bytes]
    have e1 : ((xs.map fun b => (b.toNat : Int)).map fun n => UInt8.ofNat n.toNat) = xs := by
      rw [List.map_map]
      have : ((fun n : Int => UInt8.ofNat n.toNat) ∘ fun b : UInt8 => (b.toNat : Int)) = id := by
        funext b
        simp
      rw [this, List.map_id]
    rw [e1]
    simp [ByteArray.empty, ByteArray.emptyWithCapacity]
    rfl
end Go.Proofs.Ytehfddafjemedaa
