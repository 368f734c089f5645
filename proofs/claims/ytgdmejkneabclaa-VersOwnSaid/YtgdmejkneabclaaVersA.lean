/- Contracts: vers.Same, vers.New, the law's awake. -/
import Derived.Test.YtgdmejkneabclaaVers9
namespace Go.Proofs.Ytgdmejkneabclaa
open Go.RowKit
set_option linter.unusedSimpArgs false
set_option linter.unusedVariables false

set_option maxHeartbeats 1000000 in
theorem verSame_any (x y : Ver) (A B : Option Addr) (c d : Nat) (w : World) (ha : Rd w A x.data.length x.data) (hb : Rd w B y.data.length y.data) :
    Calls Try.prog 23 #[.agg #[.int .u64 x.ver, .int .u64 x.seq, .slice A x.data.length c], .agg #[.int .u64 y.ver, .int .u64 y.seq, .slice B y.data.length d]] w fun e w' =>
      e = .returned (.bool (decide (x = y))) ∧ Below w.heap.size w w' := by
  obtain ⟨a, b, p⟩ := x
  obtain ⟨a', b', q⟩ := y
  simp only at ha hb
  have hd : decide ((⟨a, b, p⟩ : Ver) = ⟨a', b', q⟩) = (decide (a = a') && (decide (b = b') && decide (p = q))) := by
    simp only [Ver.mk.injEq, Bool.decide_and]
  rw [hd]
  have ha2 := (ha.alloc (.cells #[.int .u64 a, .int .u64 b, .slice A p.length c] 41)).alloc (.cells #[.int .u64 a', .int .u64 b', .slice B q.length d] 41)
  have hb2 := (hb.alloc (.cells #[.int .u64 a, .int .u64 b, .slice A p.length c] 41)).alloc (.cells #[.int .u64 a', .int .u64 b', .slice B q.length d] 41)
  have hbl : Below w.heap.size w ((w.alloc (.cells #[.int .u64 a, .int .u64 b, .slice A p.length c] 41)).alloc (.cells #[.int .u64 a', .int .u64 b', .slice B q.length d] 41)) :=
    ((Below.refl _ _).alloc (Nat.le_refl _) _).alloc (by simp) _
  clear hd
  go_enter Try.func23, Try.ntmps23
  by_cases h1 : a = a'
  · subst h1
    by_cases h2 : b = b'
    · subst h2
      go_wp2_with fail
      refine (bytesEqual_any A B p.length q.length c d p q _ ha2 hb2).mono ?_
      rintro e w1 ⟨rfl, rfl⟩
      go_wp2_with fail
      go_ret
      exact ⟨ret_bool (by simp), hbl⟩
    · have t2 : (b == b') = false := by simpa using h2
      have e2 : decide (b = b') = false := by simpa using h2
      clear h2
      go_wp2_with fail
      go_ret
      exact ⟨ret_bool (by simp [e2]), hbl⟩
  · have t1 : (a == a') = false := by simpa using h1
    have e1 : decide (a = a') = false := by simpa using h1
    clear h1
    go_wp2_with fail
    go_ret
    exact ⟨ret_bool (by simp [e1]), hbl⟩

theorem verNew_any (w : World) : Calls Try.prog 20 #[] w fun e w' =>
    e = .returned (.pointer (some ⟨w.heap.size, 0, none⟩)) ∧ BlockAt w' w.heap.size w.heap.size (.slice none 0 0) [] ∧ Below w.heap.size w w' ∧ w'.heap.size = w.heap.size + 1 := by
  go_enter Try.func20, Try.ntmps20
  go_wp2_with fail
  go_ret
  exact ⟨rfl, ⟨Blk.new _ _ _, Nat.le_refl _, World.ownsRow_nil _ _ _ _, fun x hx => by cases hx⟩, (Below.refl _ _).alloc (Nat.le_refl _) _, by simp⟩

theorem field_ver0 (a b : Int) (c : Value) (w : World) : (Instr.field 41 (.agg #[.int .u64 a, .int .u64 b, c]) 0).run Try.prog w = .ok (.int .u64 a) w := by kernel_rfl

theorem Short.put {l : List VC} {x : VC} (h : Short l) (hl : l.length ≤ 999) (hx : x.v.data.length ≤ 1000000) : Short (l ++ [x]) :=
  ⟨by simp; omega, fun y hy => by rcases List.mem_append.1 hy with hy | hy; exact h.2 y hy; rw [List.mem_singleton.1 hy]; exact hx⟩
theorem Short.drop {l : List VC} (h : Short l) (n : Nat) : Short (l.drop n) := ⟨by simp; have := h.1; omega, fun y hy => h.2 y (List.mem_of_mem_drop hy)⟩

set_option maxRecDepth 100000 in
set_option maxHeartbeats 2000000 in
theorem awake15 (w : World) : Calls Try.prog 19 #[] w fun e w' => e = .returned (.bool true) ∧ Below w.heap.size w w' := by
  go_enter Try.func19, Try.ntmps19
  go_wp2_with fail
  refine (verNew_any _).mono ?_
  rintro e w1 ⟨rfl, h1, hb1, hs1⟩
  go_wp2_with fail
  refine (Put_ok w.heap.size w.heap.size _ [] ⟨1, 4, []⟩ none 0 _ h1 ⟨by simp, by simp⟩ (by simp) hb1.size (Rd.nil _ _) (by simp) (by simp) (by simp) (by simp) (by simp) (.inl rfl)).mono ?_
  rintro e w2 ⟨rfl, sl2, x2, hx2, h2, hk2, hor2⟩
  go_wp2_with fail
  have hv2 : vs [x2] = [⟨1, 4, []⟩] := by simp [hx2]
  have hl2 : lastV [x2] = ⟨1, 4, []⟩ := by rw [last_vs, hv2]; decide
  refine (Put_ok w.heap.size w.heap.size _ [x2] ⟨2, 9, []⟩ none 0 _ h2 ⟨by simp, by simp [hx2]⟩ (by simp) (by have := hk2.size; have := hb1.size; omega) (Rd.nil _ _) (by simp) (by simp) (by simp) (by simp) (by simp) (.inr (by rw [hl2]; decide))).mono ?_
  rintro e w3 ⟨rfl, sl3, x3, hx3, h3, hk3, hor3⟩
  replace h3 : BlockAt w3 w.heap.size w.heap.size sl3 [x2, x3] := h3
  have hv3 : vs [x2, x3] = [⟨1, 4, []⟩, ⟨2, 9, []⟩] := by simp [hx2, hx3]
  have hsh : Short [x2, x3] := ⟨by simp, by simp [hx2, hx3]⟩
  have hr3 : Rising [x2, x3] := by
    rw [rising_vs, hv3]
    exact rising_put (m := [⟨1, 4, []⟩]) (rising_put (m := []) rising_nil (.inl rfl)) (.inr (by decide))
  have hc6 : cleanV [x2, x3] 6 = ⟨1, 4, []⟩ := by rw [clean_vs, hv3]; decide
  have hd6 : dirtyV [x2, x3] 6 = true := by rw [dirty_vs, hv3]; decide
  have hd9 : dirtyV [x2, x3] 9 = false := by rw [dirty_vs, hv3]; decide
  have hB3 : Below w.heap.size w w3 := by
    refine hb1.trans ((hk2.trans (T := w.heap.size :: sl2.ownBlock.toList) hk3 ?_).below hb1.size ?_)
    · intro i hi
      rcases List.mem_cons.1 hi with rfl | hi
      · exact .inl (by simp)
      · rcases hor2 with h | h
        · rw [h] at hi; simp [Value.ownBlock] at hi
        · exact .inr (h i (by simpa using hi))
    · intro k hk
      have e : k = w.heap.size := by simpa [Value.ownBlock] using hk
      omega
  go_wp2_with fail
  refine (Clean_any _ _ _ _ 6 _ h3 hsh hr3).mono ?_
  rintro e w4 ⟨⟨A4, c4, rfl, ho4⟩, hb4⟩
  rw [hc6]
  have hfd := field_ver0 1 4
  have h4 := h3.below hb4
  go_wp2_with fail
  refine (Dirty_any _ _ _ _ 6 _ h4 hsh).mono ?_
  rintro e w5 ⟨rfl, rfl⟩
  rw [hd6]
  go_wp2_with fail
  refine (Dirty_any _ _ _ _ 9 _ h4 hsh).mono ?_
  rintro e w5 ⟨rfl, rfl⟩
  rw [hd9]
  go_wp2_with fail
  refine (Len_any _ _ _ _ _ h4).mono ?_
  rintro e w5 ⟨rfl, rfl⟩
  go_wp2_with fail
  go_ret
  exact ⟨rfl, hB3.trans (hb4.mono hB3.size)⟩
end Go.Proofs.Ytgdmejkneabclaa
