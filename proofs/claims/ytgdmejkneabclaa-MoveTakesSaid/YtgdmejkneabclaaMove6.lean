/- Contracts of the document's answer, layer 21: Parts, Part; the law's spoil. -/
import Derived.Test.YtgdmejkneabclaaMove5
namespace Go.Proofs.Ytgdmejkneabclaa
open Go.RowKit
set_option linter.unusedSimpArgs false
set_option linter.unusedVariables false

set_option maxHeartbeats 1000000 in
theorem refParts_any (A : Option Addr) (n c : Nat) (w : World) (hn : n ≤ 1000000) : Calls Try.prog 17 #[.slice A n c] w fun e w' => e = .returned (.int .i64 (nparts n)) ∧ w = w' := by
  go_enter Try.func17, Try.ntmps17
  go_wp2_with fail
  go_loopw [3] (fun i wr => ∃ k : Nat, k ≤ nparts n ∧ 1 ≤ k ∧ i = .int .i64 k ∧ wr = w) (fun i _ => nparts n - (intOf i).toNat)
  case atStart => exact ⟨1, by unfold nparts; omega, Nat.le_refl _, rfl, rfl⟩
  case round =>
    obtain ⟨k, hk, hk1, rfl, rfl⟩ := hrel
    have hm : nparts n ≤ 1000000 := by unfold nparts pieces; omega
    by_cases hlt : k * 1024 < n
    · have hk2 : k < nparts n := by unfold nparts pieces; omega
      have t1 : (k : Int) * 1024 < (n : Int) := by omega
      have wr1 : IntKind.i64.wrap ((k : Int) * 1024) = (k : Int) * 1024 := by rw [IntKind.wrap_i64]; omega
      clear hlt
      go_wp2_with fail
      exact ⟨⟨k + 1, by omega, by omega, rfl, trivial⟩, by simp [intOf]; omega⟩
    · have hkn : k = nparts n := by unfold nparts pieces at hk ⊢; omega
      have t1 : ¬ ((k : Int) * 1024 < (n : Int)) := by omega
      have wr1 : IntKind.i64.wrap ((k : Int) * 1024) = (k : Int) * 1024 := by rw [IntKind.wrap_i64]; omega
      have HK := Lib.hid hkn
      clear hlt hkn hk
      go_wp2_with fail
      go_ret
      exact ⟨by rw [← HK.out]; rfl, rfl⟩

set_option maxHeartbeats 1000000 in
theorem outPart_bad (base g : Nat) (at_ : Int) (xs : List UInt8) (i : Int) (w : World) (h : OutAt w base g at_ xs) (hl : xs.length ≤ 1000000) (hi : i < 0 ∨ (nparts xs.length : Int) ≤ i) :
    Calls Try.prog 13 #[.pointer (some ⟨g, 0, none⟩), .int .i64 i] w fun e w' => e = .returned (.tuple #[.slice none 0 0, .bool false]) ∧ w = w' := by
  have hp := outParts_any base g at_ xs w h hl
  generalize nparts xs.length = m at hi hp
  go_enter Try.func13, Try.ntmps13
  by_cases h0 : i < 0
  · clear hi
    go_wp2_with fail
    exact bodyPost_ret (v := .tuple #[.slice none 0 0, .bool false]) (by simp [results, Try.results13, go_sem]) rfl ⟨rfl, rfl⟩
  · have h1 : (m : Int) ≤ i := hi.resolve_left h0
    clear hi
    go_wp2_with fail
    refine hp.mono ?_
    rintro e w1 ⟨rfl, rfl⟩
    go_wp2_with fail
    exact bodyPost_ret (v := .tuple #[.slice none 0 0, .bool false]) (by simp [results, Try.results13, go_sem]) rfl ⟨rfl, rfl⟩

set_option maxHeartbeats 1000000 in
theorem refPart_bad (A : Option Addr) (n c : Nat) (i : Int) (w : World) (hn : n ≤ 1000000) (hi : i < 0 ∨ (nparts n : Int) ≤ i) :
    Calls Try.prog 14 #[.slice A n c, .int .i64 i] w fun e w' => e = .returned (.tuple #[.slice none 0 0, .bool false]) ∧ w = w' := by
  have hp := refParts_any A n c w hn
  generalize nparts n = m at hi hp
  go_enter Try.func14, Try.ntmps14
  by_cases h0 : i < 0
  · clear hi
    go_wp2_with fail
    exact bodyPost_ret (v := .tuple #[.slice none 0 0, .bool false]) (by simp [results, Try.results14, go_sem]) rfl ⟨rfl, rfl⟩
  · have h1 : (m : Int) ≤ i := hi.resolve_left h0
    clear hi
    go_wp2_with fail
    refine hp.mono ?_
    rintro e w1 ⟨rfl, rfl⟩
    go_wp2_with fail
    exact bodyPost_ret (v := .tuple #[.slice none 0 0, .bool false]) (by simp [results, Try.results14, go_sem]) rfl ⟨rfl, rfl⟩

set_option maxHeartbeats 1000000 in
theorem refPart_any (A : Option Addr) (n c : Nat) (xs : List UInt8) (i : Nat) (w : World) (ha : Rd w A n xs) (hc : n ≤ c) (hn : n ≤ 1000000) (hi : i < nparts n) :
    Calls Try.prog 14 #[.slice A n c, .int .i64 (i : Int)] w fun e w' => (∃ A' n' c', e = .returned (.tuple #[.slice A' n' c', .bool true]) ∧ Rd w A' n' (partOf xs i)) ∧ w = w' := by
  have hp := refParts_any A n c w hn
  have hm : nparts n ≤ 1000000 := by unfold nparts pieces; omega
  have hlo : i * 1024 ≤ n := by unfold nparts pieces at hi; omega
  generalize hg : nparts n = m at hi hp hm
  have t0 : ¬ ((m : Int) ≤ (i : Int)) := by omega
  have wr1 : IntKind.i64.wrap ((i : Int) + 1) = (i : Int) + 1 := by rw [IntKind.wrap_i64]; omega
  have wr2 : IntKind.i64.wrap (((i : Int) + 1) * 1024) = ((i : Int) + 1) * 1024 := by rw [IntKind.wrap_i64]; omega
  have wr3 : IntKind.i64.wrap ((i : Int) * 1024) = (i : Int) * 1024 := by rw [IntKind.wrap_i64]; omega
  have hcut := ha.cut hlo hc
  have hpart : partOf xs i = (xs.drop (i * 1024)).take 1024 := by unfold partOf; rw [Nat.mul_comm]
  have hdl : (xs.drop (i * 1024)).length = n - i * 1024 := by rw [List.length_drop, ha.1]
  rw [hpart]
  clear hg hpart
  go_enter Try.func14, Try.ntmps14
  by_cases hlast : n < (i + 1) * 1024
  · have t1 : (n : Int) < ((i : Int) + 1) * 1024 := by omega
    have t2 : (i : Int) * 1024 ≤ (n : Int) := by omega
    have htk : (xs.drop (i * 1024)).take 1024 = xs.drop (i * 1024) := List.take_of_length_le (by omega)
    rw [htk]
    clear hlast htk hdl
    have HC := Lib.hid hcut
    clear hcut
    go_wp2_with fail
    refine hp.mono ?_
    rintro e w1 ⟨rfl, rfl⟩
    go_wp2_with fail
    · have hci : c = i * 1024 := by assumption
      have hcut := HC.out
      rw [if_pos hci] at hcut
      exact bodyPost_ret (v := .tuple #[.slice A (n - i * 1024) 0, .bool true]) (by simp [results, Try.results14, go_sem]) rfl (by first | exact ⟨⟨_, _, _, rfl, hcut⟩, rfl⟩ | exact ⟨⟨_, _, ⟨_, rfl⟩, hcut⟩, rfl⟩)
    · have hci : ¬ c = i * 1024 := by assumption
      have hcut := HC.out
      rw [if_neg hci] at hcut
      exact bodyPost_ret (v := .tuple #[.slice (A.map (·.add (i * 1024))) (n - i * 1024) (c - i * 1024), .bool true]) (by simp [results, Try.results14, go_sem]) rfl (by first | exact ⟨⟨_, _, _, rfl, hcut⟩, rfl⟩ | exact ⟨⟨_, _, ⟨_, rfl⟩, hcut⟩, rfl⟩)
  · have t1 : ¬ (n : Int) < ((i : Int) + 1) * 1024 := by omega
    have t2 : (i : Int) * 1024 ≤ ((i : Int) + 1) * 1024 := by omega
    have hci : ¬ c = i * 1024 := by omega
    rw [if_neg hci] at hcut
    have htk := hcut.take (k := 1024) (by omega)
    clear hlast hdl
    go_wp2_with fail
    refine hp.mono ?_
    rintro e w1 ⟨rfl, rfl⟩
    go_wp2_with fail
    have e : (i + 1) * 1024 - i * 1024 = 1024 := by omega
    refine bodyPost_ret (v := .tuple #[.slice (A.map (·.add (i * 1024))) ((i + 1) * 1024 - i * 1024) (c - i * 1024), .bool true]) (by simp [results, Try.results14, go_sem]) rfl ⟨⟨_, _, _, rfl, ?_⟩, rfl⟩
    rw [e]
    exact htk
end Go.Proofs.Ytgdmejkneabclaa
