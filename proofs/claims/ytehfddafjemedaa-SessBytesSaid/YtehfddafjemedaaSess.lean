/- Contracts of package sess: a table is a block of thirty cells, five a client. -/
import Derived.Test.YtehfddafjemedaaMem
import Derived.Test.YtehfddafjemedaaProg
namespace Go.Proofs.Ytehfddafjemedaa
open Go.RowKit
set_option linter.unusedSimpArgs false
set_option linter.unusedVariables false

structure SRow where
  cl : Int
  num : Int
  seq : Int
  code : Int
  ver : Int
deriving DecidableEq

def SRow.val (r : SRow) : Value := .agg #[.int .i64 r.cl, .int .u64 r.num, .int .u64 r.seq, .int .i64 r.code, .int .u64 r.ver]
def SRow.zero : SRow := ⟨0, 0, 0, 0, 0⟩
def SRow.fine (r : SRow) : Bool := decide (1 ≤ r.cl ∧ r.cl ≤ 6 ∧ 1 ≤ r.num ∧ 1 ≤ r.seq ∧ 0 ≤ r.code ∧ r.code ≤ 255)
def SRow.cells (r : SRow) : Array Value := #[.int .i64 r.cl, .int .u64 r.num, .int .u64 r.seq, .int .i64 r.code, .int .u64 r.ver]
def SRow.cell (r : SRow) (j : Nat) : Value := if j = 0 then .int .i64 r.cl else if j = 1 then .int .u64 r.num else if j = 2 then .int .u64 r.seq else if j = 3 then .int .i64 r.code else .int .u64 r.ver

def inRange (n : Int) : Bool := decide (1 ≤ n ∧ n ≤ 6)
theorem inRange_t {n : Int} (h : inRange n = true) : 1 ≤ n ∧ n ≤ 6 := by simpa [inRange] using h
theorem inRange_f {n : Int} (h : inRange n = false) : ¬ (1 ≤ n ∧ n ≤ 6) := by simpa [inRange] using h

/-- The table's rows. -/
def TabAt (w : World) (g : Nat) (R : Nat → SRow) : Prop := w.rowIs g 98 30 (fun i => (R (i / 5)).cell (i % 5))
theorem TabAt.at_ {w : World} {g : Nat} {R : Nat → SRow} (h : TabAt w g R) (k j : Nat) (hk : k < 6) (hj : j < 5) : w.cell? ⟨g, k * 5 + j, none⟩ = some ((R k).cell j) := by
  have := h.cell (i := k * 5 + j) (by omega)
  rw [this]
  have e1 : (k * 5 + j) / 5 = k := by omega
  have e2 : (k * 5 + j) % 5 = j := by omega
  rw [e1, e2]
theorem TabAt.below {w w' : World} {g : Nat} {R : Nat → SRow} (h : TabAt w g R) (hb : Below w.heap.size w w') : TabAt w' g R := h.of_block (hb.block _ h.lt)
theorem TabAt.drewN {w : World} {g : Nat} {R : Nat → SRow} (h : TabAt w g R) (n : Nat) : TabAt (w.drewN n) g R := h

set_option maxHeartbeats 400000 in
theorem client_any (n : Int) (w : World) :
    Calls Try.prog 55 #[.int .i64 n] w fun e w' => e = .returned (.bool (inRange n)) ∧ w = w' := by
  by_cases h1 : 1 ≤ n
  · go_enter Try.func55, Try.ntmps55
    go_wp2
    go_ret
    exact ⟨ret_bool (by simp [inRange, h1]), rfl⟩
  · go_enter Try.func55, Try.ntmps55
    go_wp2
    go_ret
    exact ⟨ret_bool (by simp [inRange]; omega), rfl⟩

def getR (R : Nat → SRow) (who : Int) : SRow := if inRange who = true ∧ (R (who - 1).toNat).num ≠ 0 then R (who - 1).toNat else .zero
def hasR (R : Nat → SRow) (who : Int) : Bool := inRange who && !decide ((R (who - 1).toNat).num = 0)

set_option maxHeartbeats 400000 in
theorem Get_any (g : Nat) (who : Int) (R : Nat → SRow) (w : World) (ht : TabAt w g R) :
    Calls Try.prog 13 #[.pointer (some ⟨g, 0, none⟩), .int .i64 who] w fun e w' =>
      e = .returned (.tuple #[(getR R who).val, .bool (hasR R who)]) ∧ Below w.heap.size w w' := by
  have hg := ht.lt
  cases hr : inRange who with
  | false =>
    have hfin : getR R who = .zero ∧ hasR R who = false := by simp [getR, hasR, hr]
    have Hr := Lib.hid hr; clear hr
    go_enter Try.func13, Try.ntmps13
    go_wp2_with (go_at_call 55; refine (client_any _ _).mono ?_; rintro e w' ⟨rfl, rfl⟩; rw [Hr.out])
    rw [hfin.1, hfin.2]
    exact bodyPost_ret (by simp [results, Try.results13, go_sem, SRow.val, SRow.zero]) rfl ⟨rfl, (Below.refl _ _).alloc (Nat.le_refl _) _⟩
  | true =>
    obtain ⟨k, hk, rfl⟩ : ∃ k : Nat, k < 6 ∧ who = (k : Int) + 1 := ⟨(who - 1).toNat, by have := inRange_t hr; omega, by have := inRange_t hr; omega⟩
    have e1 : ((k : Int) + 1 - 1).toNat = k := by omega
    have c0 : w.cell? ⟨g, k * 5, none⟩ = some (.int .i64 (R k).cl) := ht.at_ k 0 hk (by omega)
    have c1 : w.cell? ⟨g, k * 5 + 1, none⟩ = some (.int .u64 (R k).num) := ht.at_ k 1 hk (by omega)
    have c2 : w.cell? ⟨g, k * 5 + 2, none⟩ = some (.int .u64 (R k).seq) := ht.at_ k 2 hk (by omega)
    have c3 : w.cell? ⟨g, k * 5 + 3, none⟩ = some (.int .i64 (R k).code) := ht.at_ k 3 hk (by omega)
    have c4 : w.cell? ⟨g, k * 5 + 4, none⟩ = some (.int .u64 (R k).ver) := ht.at_ k 4 hk (by omega)
    by_cases hn : (R k).num = 0
    · have hfin : getR R ((k : Int) + 1) = .zero ∧ hasR R ((k : Int) + 1) = false := by simp [getR, hasR, hr, e1, hn]
      have hz : ((R k).num == 0) = true := by simp [hn]
      have Hr := Lib.hid hr; clear hr hn e1
      go_enter Try.func13, Try.ntmps13
      go_wp2_with (go_at_call 55; refine (client_any _ _).mono ?_; rintro e w' ⟨rfl, rfl⟩; rw [Hr.out])
      rw [hfin.1, hfin.2]
      exact bodyPost_ret (by simp [results, Try.results13, go_sem, SRow.val, SRow.zero]) rfl ⟨rfl, (Below.refl _ _).alloc (Nat.le_refl _) _⟩
    · have hfin : getR R ((k : Int) + 1) = R k ∧ hasR R ((k : Int) + 1) = true := by simp [getR, hasR, hr, e1, hn]
      have hz : ((R k).num == 0) = false := by simp [hn]
      have Hr := Lib.hid hr; clear hr hn e1
      go_enter Try.func13, Try.ntmps13
      go_wp2_with (go_at_call 55; refine (client_any _ _).mono ?_; rintro e w' ⟨rfl, rfl⟩; rw [Hr.out])
      rw [hfin.1, hfin.2]
      exact bodyPost_ret (by simp [results, Try.results13, go_sem, SRow.val, SRow.zero]) rfl ⟨rfl, (Below.refl _ _).alloc (Nat.le_refl _) _⟩

def judgeR (R : Nat → SRow) (who num : Int) : Int :=
  if inRange who = false ∨ num = 0 then 2 else if (R (who - 1).toNat).num < num then 0 else if num = (R (who - 1).toNat).num then 1 else 2

set_option maxHeartbeats 800000 in
theorem Judge_any (g : Nat) (who num : Int) (R : Nat → SRow) (w : World) (ht : TabAt w g R) :
    Calls Try.prog 14 #[.pointer (some ⟨g, 0, none⟩), .int .i64 who, .int .u64 num] w fun e w' =>
      e = .returned (.int .i64 (judgeR R who num)) ∧ w = w' := by
  have hg := ht.lt
  cases hr : inRange who with
  | false =>
    have hfin : judgeR R who num = 2 := by simp [judgeR, hr]
    rw [hfin]
    have Hr := Lib.hid hr; clear hr
    go_enter Try.func14, Try.ntmps14
    go_wp2_with (go_at_call 55; refine (client_any _ _).mono ?_; rintro e w' ⟨rfl, rfl⟩; rw [Hr.out])
    go_ret
    exact ⟨rfl, rfl⟩
  | true =>
    obtain ⟨k, hk, rfl⟩ : ∃ k : Nat, k < 6 ∧ who = (k : Int) + 1 := ⟨(who - 1).toNat, by have := inRange_t hr; omega, by have := inRange_t hr; omega⟩
    have e1 : ((k : Int) + 1 - 1).toNat = k := by omega
    have c1 : w.cell? ⟨g, k * 5 + 1, none⟩ = some (.int .u64 (R k).num) := ht.at_ k 1 hk (by omega)
    have Hf : Hid (judgeR R ((k : Int) + 1) num = if num = 0 then 2 else if (R k).num < num then 0 else if num = (R k).num then 1 else 2) := by
      show _ = _
      simp [judgeR, hr, e1]
    have Hr := Lib.hid hr; clear hr e1
    by_cases h0 : num = 0
    · have hz : (num == 0) = true := by simp [h0]
      have H0 := Lib.hid h0; clear h0
      go_enter Try.func14, Try.ntmps14
      go_wp2_with (go_at_call 55; refine (client_any _ _).mono ?_; rintro e w' ⟨rfl, rfl⟩; rw [Hr.out])
      go_ret
      exact ⟨ret_int (by rw [Hf.out, if_pos H0.out]), rfl⟩
    · have hz : (num == 0) = false := by simp [h0]
      by_cases h1 : (R k).num < num
      · go_enter Try.func14, Try.ntmps14
        go_wp2_with (go_at_call 55; refine (client_any _ _).mono ?_; rintro e w' ⟨rfl, rfl⟩; rw [Hr.out])
        go_ret
        exact ⟨ret_int (by rw [Hf.out, if_neg h0, if_pos h1]), rfl⟩
      · by_cases h2 : num = (R k).num
        · have hy : (num == (R k).num) = true := by simp [h2]
          have H2 := Lib.hid h2; clear h2
          go_enter Try.func14, Try.ntmps14
          go_wp2_with (go_at_call 55; refine (client_any _ _).mono ?_; rintro e w' ⟨rfl, rfl⟩; rw [Hr.out])
          go_ret
          exact ⟨ret_int (by rw [Hf.out, if_neg h0, if_neg (by omega), if_pos H2.out]), rfl⟩
        · have hy : (num == (R k).num) = false := by simp [h2]
          go_enter Try.func14, Try.ntmps14
          go_wp2_with (go_at_call 55; refine (client_any _ _).mono ?_; rintro e w' ⟨rfl, rfl⟩; rw [Hr.out])
          go_ret
          exact ⟨ret_int (by rw [Hf.out, if_neg h0, if_neg (by omega), if_neg h2]), rfl⟩

set_option maxHeartbeats 400000 in
theorem New_any (w : World) : Calls Try.prog 12 #[] w fun e w' =>
    e = .returned (.pointer (some ⟨w.heap.size, 0, none⟩)) ∧ TabAt w' w.heap.size (fun _ => .zero) ∧ Below w.heap.size w w' := by
  go_enter Try.func12, Try.ntmps12
  go_wp2
  go_ret
  refine ⟨rfl, ?_, (Below.refl _ _).alloc (Nat.le_refl _) _⟩
  refine World.rowIs_alloc _ _ _ _ ?_
  intro i hi
  simp only [List.size_toArray, List.length_cons, List.length_nil] at hi
  have h30 : i < 30 := hi
  have h : i = 0 ∨ i = 1 ∨ i = 2 ∨ i = 3 ∨ i = 4 ∨ i = 5 ∨ i = 6 ∨ i = 7 ∨ i = 8 ∨ i = 9 ∨ i = 10 ∨ i = 11 ∨ i = 12 ∨ i = 13 ∨ i = 14 ∨ i = 15 ∨ i = 16 ∨ i = 17 ∨ i = 18 ∨ i = 19 ∨ i = 20 ∨ i = 21 ∨ i = 22 ∨ i = 23 ∨ i = 24 ∨ i = 25 ∨ i = 26 ∨ i = 27 ∨ i = 28 ∨ i = 29 := by omega
  rcases h with rfl | rfl | rfl | rfl | rfl | rfl | rfl | rfl | rfl | rfl | rfl | rfl | rfl | rfl | rfl | rfl | rfl | rfl | rfl | rfl | rfl | rfl | rfl | rfl | rfl | rfl | rfl | rfl | rfl | rfl <;> rfl

set_option maxHeartbeats 400000 in
/-- ours: the program's row. -/
theorem ours_any (r : SRow) (w : World) : Calls Try.prog 16 #[r.val] w fun e w' => e = .returned r.val ∧ Below w.heap.size w w' := by
  unfold SRow.val
  go_enter Try.func16, Try.ntmps16
  go_wp2
  exact bodyPost_ret (by simp [results, Try.results16, go_sem]) rfl ⟨rfl, by repeat (first | exact Below.refl _ _ | refine Below.alloc ?_ (by simp) _)⟩
end Go.Proofs.Ytehfddafjemedaa
