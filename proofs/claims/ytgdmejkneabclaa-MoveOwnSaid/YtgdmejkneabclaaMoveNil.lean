/- Contracts of package move at nil; a fresh copy by append; what keeps a picture. -/
import Derived.Test.YtgdmejkneabclaaMove8
namespace Go.Proofs.Ytgdmejkneabclaa
open Go.RowKit
set_option linter.unusedSimpArgs false
set_option linter.unusedVariables false

theorem outParts_nil (w : World) : Calls Try.prog 15 #[.pointer none] w fun e w' => e = .returned (.int .i64 0) ∧ w = w' := by
  go_enter Try.func15, Try.ntmps15
  go_wp2_with fail
  go_ret
  exact ⟨rfl, rfl⟩
theorem outAt_nil (w : World) : Calls Try.prog 16 #[.pointer none] w fun e w' => e = .returned (.int .u64 0) ∧ w = w' := by
  go_enter Try.func16, Try.ntmps16
  go_wp2_with fail
  go_ret
  exact ⟨rfl, rfl⟩
theorem outPart_nil (w : World) : Calls Try.prog 13 #[.pointer none, .int .i64 0] w fun e w' => e = .returned (.tuple #[.slice none 0 0, .bool false]) ∧ w = w' := by
  go_enter Try.func13, Try.ntmps13
  go_wp2_with fail
  refine (outParts_nil w).mono ?_
  rintro e w1 ⟨rfl, rfl⟩
  go_wp2_with fail
  exact bodyPost_ret (v := .tuple #[.slice none 0 0, .bool false]) (by simp [results, Try.results13, go_sem]) rfl ⟨rfl, rfl⟩
theorem inHeld_nil (w : World) : Calls Try.prog 31 #[.pointer none] w fun e w' => e = .returned (.int .i64 0) ∧ w = w' := by
  go_enter Try.func31, Try.ntmps31
  go_wp2_with fail
  go_ret
  exact ⟨rfl, rfl⟩
theorem inWants_nil (w : World) : Calls Try.prog 30 #[.pointer none] w fun e w' => e = .returned (.tuple #[.int .u64 0, .int .i64 0]) ∧ w = w' := by
  go_enter Try.func30, Try.ntmps30
  go_wp2_with fail
  exact bodyPost_ret (v := .tuple #[.int .u64 0, .int .i64 0]) (by simp [results, Try.results30, go_sem]) rfl ⟨rfl, rfl⟩
theorem inTake_nil (a part parts : Int) (A : Option Addr) (n c : Nat) (w : World) : Calls Try.prog 28 #[.pointer none, .int .u64 a, .int .i64 part, .int .i64 parts, .slice A n c] w fun e w' => e = .returned (.tuple #[.slice none 0 0, .bool false]) ∧ w = w' := by
  go_enter Try.func28, Try.ntmps28
  go_wp2_with fail
  exact bodyPost_ret (v := .tuple #[.slice none 0 0, .bool false]) (by simp [results, Try.results28, go_sem]) rfl ⟨rfl, rfl⟩

theorem OutAt.keeps {w w' : World} {base g : Nat} {at_ : Int} {xs : List UInt8} {S : List Nat} (h : OutAt w base g at_ xs) (hk : Keeps S w w') (hS : ∀ k ∈ S, k < base) : OutAt w' base g at_ xs := by
  obtain ⟨h0, sl, A1, c1, b, h1, h2, h3, h4⟩ := h
  exact ⟨h0, sl, A1, c1, b, h1.keeps hk (fun hm => by have := hS _ hm; omega), own_keeps h2 hk (fun k hk' hm => by have := hS _ hm; have := own_ge h2 k hk'; omega), own_keeps h3 hk (fun k hk' hm => by have := hS _ hm; have := own_ge h3 k hk'; omega), h4⟩
end Go.Proofs.Ytgdmejkneabclaa
