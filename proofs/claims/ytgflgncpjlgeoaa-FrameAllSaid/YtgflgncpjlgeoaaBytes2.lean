/- Contracts: bytes.Clone, bytes.Equal. -/
import Derived.Test.YtgflgncpjlgeoaaSame
namespace Go.Proofs.Ytgflgncpjlgeoaa
open Go.RowKit

/-- bytes.Clone: new memory that reads as what was handed in; nil just if that is. -/
theorem bytesClone_any (A : Option Addr) (n c : Nat) (xs : List UInt8) (w : World) (ha : Rd w A n xs) (hc : n ≤ c) (hn : n ≤ 1000000) :
    Calls Try.prog 47 #[.slice A n c] w fun e w' => ∃ v, e = .returned v ∧ w'.ownsRow w.heap.size 5 1 v n (xs.map bv) ∧ Below w.heap.size w w' := by
  obtain ⟨i0, hi0, hz0, hz1, hz2⟩ := info_parts info_u8
  have hnil := fun (w : World) (a : Option Addr) (n c : Nat) => Lib.run_eql_slice_nil (P := Try.prog) w 23 5 a n c 0 0 Try.underlying23
  rcases A with _ | ad
  · obtain rfl : n = 0 := by
      rcases Nat.eq_zero_or_pos n with h0 | h0
      · exact h0
      · obtain ⟨_, _, h, _⟩ := ha.2.2 h0
        cases h
    obtain rfl : xs = [] := List.eq_nil_of_length_eq_zero ha.1
    go_enter Try.func47, Try.ntmps47
    go_wp2
    go_ret
    exact ⟨_, rfl, World.ownsRow_nil _ _ _ _, Below.refl _ _⟩
  · go_enter Try.func47, Try.ntmps47
    go_wp2_with (at_builtin; refine wpList_append_src rfl (.tmp 5) (.tmp 6) _ rfl w.heap.size 5 i0 _ 1 1 Try.underlying23 hi0 hz0 hz1 hz2 rfl (by omega) (.slice (some ⟨w.heap.size, 0, none⟩) 0 0) 0 [] rfl ?c0 (some ad) n c (xs.map bv) rfl ?c1 ?c2 ?c3 ?c4 ?c5)
    case c0 => exact World.ownsRow_lit w #[] 0 (Nat.le_refl _) (by unfold maxLen; omega) rfl
    case c1 => exact (ha.alloc _).src
    case c2 => unfold maxLen; omega
    case c3 => omega
    case c4 => simp
    case c5 =>
      intro v' w' hown hg hat
      go_wp2
      go_ret
      exact ⟨_, rfl, by simpa using hown, ((Below.refl _ w).alloc (Nat.le_refl _) _).grown hg (by simp) (by intro k hk; simp [Value.ownBlock] at hk; omega)⟩

set_option maxHeartbeats 400000 in
theorem bytesEqual_any (A B : Option Addr) (n m c d : Nat) (xs ys : List UInt8) (w : World) (ha : Rd w A n xs) (hb : Rd w B m ys) :
    Calls Try.prog 38 #[.slice A n c, .slice B m d] w fun e w' => e = .returned (.bool (decide (xs = ys))) ∧ w = w' := by
  have h1 := conv_bytes (P := Try.prog) 23 5 9 Try.underlying23 Try.underlying5 Try.underlying9 A n c xs w ha
  have h2 := conv_bytes (P := Try.prog) 23 5 9 Try.underlying23 Try.underlying5 Try.underlying9 B m d ys w hb
  go_enter Try.func38, Try.ntmps38
  go_wp2
  go_ret
  refine ⟨ret_bool ?_, rfl⟩
  rw [Bool.eq_iff_iff]
  simp
end Go.Proofs.Ytgflgncpjlgeoaa
