/- Contracts of the document's answer, layer 16: Get, Judge. -/
import Derived.Test.YtehfddafjemedaaPure16
import Derived.Test.YtehfddafjemedaaSess3
namespace Go.Proofs.Ytehfddafjemedaa
open Go.RowKit
set_option linter.unusedSimpArgs false
set_option linter.unusedVariables false

theorem RowsAt.at_ {w : World} {A : Option Addr} {n : Nat} {rows : List SRow} (h : RowsAt w A n rows) (k : Nat) (hk : k < n) : ∃ b o, A = some ⟨b, o, none⟩ ∧ ∀ j, j < 5 → w.cell? ⟨b, o + k * 5 + j, none⟩ = some ((rows.getD k .zero).cell j) := by
  obtain ⟨b, o, e, hc⟩ := h.2.2 (by omega)
  exact ⟨b, o, e, fun j hj => hc k j hk hj⟩
theorem getD_mem_rows {rows : List SRow} {k : Nat} (h : k < rows.length) : rows.getD k .zero ∈ rows := by
  rw [List.getD_eq_getElem?_getD, List.getElem?_eq_getElem h]
  exact List.getElem_mem _
/-- The first k rows are of other clients. -/
def NotIn (rows : List SRow) (c : Int) (k : Nat) : Prop := ∀ y ∈ rows.take k, y.cl ≠ c
theorem NotIn.succ {rows : List SRow} {c : Int} {k : Nat} (h : NotIn rows c k) (hk : k < rows.length) (hn : (rows.getD k .zero).cl ≠ c) : NotIn rows c (k + 1) := by
  intro y hy
  rw [take_succ_getD rows k .zero hk] at hy
  rcases List.mem_append.1 hy with hy | hy
  · exact h y hy
  · rw [List.mem_singleton.1 hy]; exact hn
theorem find_here {rows : List SRow} {c : Int} {k : Nat} (h : NotIn rows c k) (hk : k < rows.length) (he : (rows.getD k .zero).cl = c) : findL rows c = some (rows.getD k .zero) := by
  have hs : rows.take k ++ (rows.getD k .zero :: rows.drop (k + 1)) = rows := by rw [← drop_getD rows k .zero hk, List.take_append_drop]
  have h1 : (rows.take k).find? (fun r => decide (r.cl = c)) = none := by
    rw [List.find?_eq_none]
    intro y hy
    simpa using h y hy
  have h2 : (rows.take k ++ (rows.getD k .zero :: rows.drop (k + 1))).find? (fun r => decide (r.cl = c)) = some (rows.getD k .zero) := by
    rw [List.find?_append, h1, List.find?_cons, decide_eq_true he]
    rfl
  rw [hs] at h2
  exact h2
theorem find_none {rows : List SRow} {c : Int} (h : NotIn rows c rows.length) : findL rows c = none := by
  unfold findL
  rw [List.find?_eq_none]
  intro y hy
  have := h y (by rw [List.take_length]; exact hy)
  simpa using this

set_option maxHeartbeats 1000000 in
theorem refGet_any (A : Option Addr) (n c : Nat) (rows : List SRow) (who : Int) (w : World) (h : RowsAt w A n rows) :
    Calls Try.prog 20 #[.slice A n c, .int .i64 who] w fun e w' => e = .returned (.tuple #[(getL rows who).val, .bool (hasL rows who)]) ∧ Below w.heap.size w w' := by
  have hn := h.2.1
  have HL := Lib.hid h.1
  have hX : Below w.heap.size w (w.alloc (.cells #[.int .i64 0, .int .u64 0, .int .u64 0, .int .i64 0, .int .u64 0] 31)) := (Below.refl _ _).alloc (Nat.le_refl _) _
  have hx := h.below hX
  go_enter Try.func20, Try.ntmps20
  go_wp2_with fail
  go_loop [6] (fun i => ∃ k : Nat, k ≤ n ∧ i = .int .i64 (k : Int) ∧ NotIn rows who k) (fun i => n - (intOf i).toNat)
  case atStart => exact ⟨0, Nat.zero_le _, rfl, fun y hy => by simp at hy⟩
  case round =>
    obtain ⟨k, hk, rfl, hno⟩ := hrel
    by_cases hlt : k < n
    · obtain ⟨b, o, rfl, hc⟩ := h.at_ k hlt
      have hgl := block_lt_of_cell (hc 0 (by omega))
      simp only at hgl
      obtain ⟨r, hr⟩ : ∃ r, rows.getD k .zero = r := ⟨_, rfl⟩
      rw [hr] at hc
      have c0 : w.cell? ⟨b, o + k * 5, none⟩ = some (.int .i64 r.cl) := hc 0 (by omega)
      have c1 : w.cell? ⟨b, o + k * 5 + 1, none⟩ = some (.int .u64 r.num) := hc 1 (by omega)
      have c2 : w.cell? ⟨b, o + k * 5 + 2, none⟩ = some (.int .u64 r.seq) := hc 2 (by omega)
      have c3 : w.cell? ⟨b, o + k * 5 + 3, none⟩ = some (.int .i64 r.code) := hc 3 (by omega)
      have c4 : w.cell? ⟨b, o + k * 5 + 4, none⟩ = some (.int .u64 r.ver) := hc 4 (by omega)
      have HR := Lib.hid hr
      clear hc hr h hx
      by_cases he : r.cl = who
      · have hf : findL rows who = some r := by rw [← HR.out]; exact find_here hno (by rw [HL.out]; exact hlt) (by rw [HR.out]; exact he)
        have h1 : Hid (getL rows who = r ∧ hasL rows who = true) := Lib.hid (by unfold getL hasL; rw [hf]; exact ⟨rfl, rfl⟩)
        have t1 : (r.cl == who) = true := by simp [he]
        clear hno hf he
        go_wp2_with fail
        rw [h1.out.1, h1.out.2]
        exact bodyPost_ret (v := .tuple #[.agg #[.int .i64 r.cl, .int .u64 r.num, .int .u64 r.seq, .int .i64 r.code, .int .u64 r.ver], .bool true]) (by simp [results, Try.results20, go_sem]) rfl ⟨rfl, by repeat (first | exact Below.refl _ _ | refine Below.setCell ?_ (by simp) _ | refine Below.alloc ?_ (by simp) _)⟩
      · have t1 : (r.cl == who) = false := by simp [he]
        have hno' : NotIn rows who (k + 1) := hno.succ (by rw [HL.out]; exact hlt) (by rw [HR.out]; exact he)
        clear hno he
        go_wp2_with fail
        exact ⟨⟨k + 1, by omega, rfl, hno'⟩, by simp [intOf]; omega⟩
    · obtain rfl : k = n := by omega
      have hf : findL rows who = none := find_none (by rw [HL.out]; exact hno)
      have h1 : Hid (getL rows who = .zero ∧ hasL rows who = false) := Lib.hid (by unfold getL hasL; rw [hf]; exact ⟨rfl, rfl⟩)
      clear hno hf h hx
      go_wp2_with fail
      rw [h1.out.1, h1.out.2]
      exact bodyPost_ret (v := .tuple #[.agg #[.int .i64 0, .int .u64 0, .int .u64 0, .int .i64 0, .int .u64 0], .bool false]) (by simp [results, Try.results20, go_sem]) rfl ⟨rfl, by repeat (first | exact Below.refl _ _ | refine Below.setCell ?_ (by simp) _ | refine Below.alloc ?_ (by simp) _)⟩

set_option maxHeartbeats 1000000 in
theorem refJudge_any (A : Option Addr) (n c : Nat) (rows : List SRow) (who num : Int) (w : World) (h : RowsAt w A n rows) :
    Calls Try.prog 24 #[.slice A n c, .int .i64 who, .int .u64 num] w fun e w' => e = .returned (.int .i64 (judgeL rows who num)) ∧ Below w.heap.size w w' := by
  by_cases hbad : who < 1 ∨ 6 < who ∨ num = 0
  · have h1 : Hid (judgeL rows who num = 2) := Lib.hid (by unfold judgeL; rw [if_pos hbad])
    by_cases b1 : who < 1
    · clear hbad
      go_enter Try.func24, Try.ntmps24
      go_wp2_with fail
      go_ret
      exact ⟨ret_int h1.out.symm, Below.refl _ _⟩
    by_cases b2 : 6 < who
    · clear hbad
      go_enter Try.func24, Try.ntmps24
      go_wp2_with fail
      go_ret
      exact ⟨ret_int h1.out.symm, Below.refl _ _⟩
    have t1 : (num == 0) = true := by have : num = 0 := by omega
                                      simp [this]
    clear hbad
    go_enter Try.func24, Try.ntmps24
    go_wp2_with fail
    go_ret
    exact ⟨ret_int h1.out.symm, Below.refl _ _⟩
  have b1 : ¬ who < 1 := by omega
  have b2 : ¬ 6 < who := by omega
  have t1 : (num == 0) = false := by have : num ≠ 0 := by omega
                                     simp [this]
  have hg := refGet_any A n c rows who w h
  have h1 : Hid (judgeL rows who num = if hasL rows who = false ∨ (getL rows who).num < num then 0 else if (getL rows who).num = num then 1 else 2) := Lib.hid (by unfold judgeL; rw [if_neg hbad])
  obtain ⟨r, hr⟩ : ∃ r, getL rows who = r := ⟨_, rfl⟩
  obtain ⟨is, his⟩ : ∃ is, hasL rows who = is := ⟨_, rfl⟩
  rw [hr, his] at h1 hg
  clear hbad hr his
  go_enter Try.func24, Try.ntmps24
  go_wp2_with fail
  refine hg.mono ?_
  rintro e w1 ⟨rfl, hb1⟩
  have hal : ∀ X, Below w.heap.size w (w1.alloc X) := fun X => hb1.trans ((Below.refl _ w1).alloc hb1.size _)
  simp only [SRow.val]
  cases is with
  | false =>
    go_wp2_with fail
    go_ret
    exact ⟨ret_int (by rw [h1.out, if_pos (by simp)]), hal _⟩
  | true =>
    by_cases h2 : r.num < num
    · go_wp2_with fail
      go_ret
      exact ⟨ret_int (by rw [h1.out, if_pos (.inr h2)]), hal _⟩
    · by_cases h3 : r.num = num
      · have t3 : (r.num == num) = true := by simp [h3]
        have H3 := Lib.hid h3
        have H2 := Lib.hid h2
        clear h3
        go_wp2_with fail
        go_ret
        exact ⟨ret_int (by rw [h1.out, if_neg (by simpa using H2.out), if_pos H3.out]), hal _⟩
      · have t3 : (r.num == num) = false := by simp [h3]
        go_wp2_with fail
        go_ret
        exact ⟨ret_int (by rw [h1.out, if_neg (by simpa using h2), if_neg h3]), hal _⟩
end Go.Proofs.Ytehfddafjemedaa
