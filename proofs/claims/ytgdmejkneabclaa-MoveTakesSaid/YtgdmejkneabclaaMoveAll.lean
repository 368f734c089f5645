/- Take, by the program and by the document, in one form: what is taken in, and what is told. -/
import Derived.Test.YtgdmejkneabclaaMoveRef2
namespace Go.Proofs.Ytgdmejkneabclaa
open Go.RowKit
set_option linter.unusedSimpArgs false
set_option linter.unusedVariables false

open Classical in
/-- What was taken in, set back where it is due. -/
noncomputable def backS (s : InS) (a parts : Int) : InS := if takeNew s a parts then InS.new a else s
open Classical in
noncomputable def stepS (s : InS) (a part parts : Int) (bs : List UInt8) : InS :=
  if takeBad s a part parts bs.length then s else if part ≠ ((backS s a parts).next : Int) then backS s a parts
  else if ((backS s a parts).next : Int) + 1 < parts then ⟨(backS s a parts).at_, parts, (backS s a parts).next + 1, (backS s a parts).b ++ bs⟩ else InS.new a
open Classical in
noncomputable def okS (s : InS) (a part parts : Int) (bs : List UInt8) : Bool :=
  if takeBad s a part parts bs.length then false else if part ≠ ((backS s a parts).next : Int) then false else if ((backS s a parts).next : Int) + 1 < parts then false else true
noncomputable def toldS (s : InS) (a part parts : Int) (bs : List UInt8) : List UInt8 := if okS s a part parts bs = true then (backS s a parts).b ++ bs else []

/-- What Take tells and leaves. -/
def TakeTold (base g : Nat) (s : InS) (a part parts : Int) (bs : List UInt8) (e : Ending) (w' : World) : Prop :=
  ∃ A' c' sl', e = .returned (.tuple #[.slice A' (toldS s a part parts bs).length c', .bool (okS s a part parts bs)]) ∧ Rd w' A' (toldS s a part parts bs).length (toldS s a part parts bs) ∧ InAt w' base g sl' (stepS s a part parts bs)

theorem Take_all (base g : Nat) (sl : Value) (s : InS) (a part parts : Int) (A : Option Addr) (n c : Nat) (bs : List UInt8) (w : World) (hI : InAt w base g sl s) (hbase : base ≤ w.heap.size) (hsz : s.b.length ≤ 1000000 ∧ s.next ≤ 1000000) (hRd : Rd w A n bs) (hn : n ≤ c) (hn9 : n ≤ 1000000000) (hA1 : 0 < n → ∀ ad, A = some ad → ad.block ≠ g) :
    Calls Try.prog 28 #[.pointer (some ⟨g, 0, none⟩), .int .u64 a, .int .i64 part, .int .i64 parts, .slice A n c] w fun e w' =>
      TakeTold base g s a part parts bs e w' ∧ Keeps (g :: sl.ownBlock.toList) w w' := by
  have hl : bs.length = n := hRd.1
  have hrefl := Keeps.refl (g :: sl.ownBlock.toList) w
  by_cases hb : takeBad s a part parts n
  · have e1 : stepS s a part parts bs = s := by unfold stepS; rw [hl, if_pos hb]
    have e2 : okS s a part parts bs = false := by unfold okS; rw [hl, if_pos hb]
    have e3 : toldS s a part parts bs = [] := by unfold toldS; rw [e2]; rfl
    refine (Take_bad base g sl s a part parts A n c w hI hn9 hb).mono ?_
    rintro e w' ⟨rfl, rfl⟩
    exact ⟨⟨none, 0, sl, by rw [e2, e3]; rfl, by rw [e3]; exact Rd.nil _ _, by rw [e1]; exact hI⟩, hrefl⟩
  by_cases hnew : takeNew s a parts
  · have e0 : backS s a parts = InS.new a := by unfold backS; rw [if_pos hnew]
    by_cases hp : part = 0
    · subst hp
      refine (Take_fresh base g sl s a parts A n c bs w hI hbase hRd hn hA1 hb hnew).mono ?_
      rintro e w' ⟨hT, hk⟩
      refine ⟨?_, hk.mono fun i hi => .inl (by rw [show i = g by simpa using hi]; exact List.mem_cons_self)⟩
      rcases hT with ⟨h1, rfl, sl', h2, _⟩ | ⟨h1, A', c', rfl, h2, _, h3⟩
      · have e1 : stepS s a 0 parts bs = ⟨(InS.new a).at_, parts, (InS.new a).next + 1, (InS.new a).b ++ bs⟩ := by unfold stepS; rw [hl, if_neg hb, e0, if_neg (by simp [InS.new]), if_pos h1]
        have e2 : okS s a 0 parts bs = false := by unfold okS; rw [hl, if_neg hb, e0, if_neg (by simp [InS.new]), if_pos h1]
        have e3 : toldS s a 0 parts bs = [] := by unfold toldS; rw [e2]; rfl
        exact ⟨none, 0, sl', by rw [e2, e3]; rfl, by rw [e3]; exact Rd.nil _ _, by rw [e1]; exact h2⟩
      · have e1 : stepS s a 0 parts bs = InS.new a := by unfold stepS; rw [hl, if_neg hb, e0, if_neg (by simp [InS.new]), if_neg h1]
        have e2 : okS s a 0 parts bs = true := by unfold okS; rw [hl, if_neg hb, e0, if_neg (by simp [InS.new]), if_neg h1]
        have e3 : toldS s a 0 parts bs = (InS.new a).b ++ bs := by unfold toldS; rw [e2, e0]; rfl
        exact ⟨A', c', _, by rw [e2, e3], by rw [e3]; exact Rd.of_own h2, by rw [e1]; exact h3⟩
    · refine (Take_skip_fresh base g sl s a part parts A n c w hI hb hnew hp).mono ?_
      rintro e w' ⟨rfl, h2, hk⟩
      have e1 : stepS s a part parts bs = InS.new a := by unfold stepS; rw [hl, if_neg hb, e0, if_pos (by simpa [InS.new] using hp)]
      have e2 : okS s a part parts bs = false := by unfold okS; rw [hl, if_neg hb, e0, if_pos (by simpa [InS.new] using hp)]
      have e3 : toldS s a part parts bs = [] := by unfold toldS; rw [e2]; rfl
      exact ⟨⟨none, 0, _, by rw [e2, e3]; rfl, by rw [e3]; exact Rd.nil _ _, by rw [e1]; exact h2⟩, hk.mono fun i hi => .inl (by rw [show i = g by simpa using hi]; exact List.mem_cons_self)⟩
  · have e0 : backS s a parts = s := by unfold backS; rw [if_neg hnew]
    by_cases hp : part = (s.next : Int)
    · refine (Take_old base g sl s a part parts A n c bs w hI hbase hsz hRd hn hA1 hb hnew hp).mono ?_
      rintro e w' ⟨hT, hk⟩
      refine ⟨?_, hk⟩
      rcases hT with ⟨h1, rfl, sl', h2, _⟩ | ⟨h1, A', c', rfl, h2, _, h3⟩
      · have e1 : stepS s a part parts bs = ⟨s.at_, parts, s.next + 1, s.b ++ bs⟩ := by unfold stepS; rw [hl, if_neg hb, e0, if_neg (by simpa using hp), if_pos h1]
        have e2 : okS s a part parts bs = false := by unfold okS; rw [hl, if_neg hb, e0, if_neg (by simpa using hp), if_pos h1]
        have e3 : toldS s a part parts bs = [] := by unfold toldS; rw [e2]; rfl
        exact ⟨none, 0, sl', by rw [e2, e3]; rfl, by rw [e3]; exact Rd.nil _ _, by rw [e1]; exact h2⟩
      · have e1 : stepS s a part parts bs = InS.new a := by unfold stepS; rw [hl, if_neg hb, e0, if_neg (by simpa using hp), if_neg h1]
        have e2 : okS s a part parts bs = true := by unfold okS; rw [hl, if_neg hb, e0, if_neg (by simpa using hp), if_neg h1]
        have e3 : toldS s a part parts bs = s.b ++ bs := by unfold toldS; rw [e2, e0]; rfl
        exact ⟨A', c', _, by rw [e2, e3], by rw [e3]; exact Rd.of_own h2, by rw [e1]; exact h3⟩
    · refine (Take_skip_old base g sl s a part parts A n c w hI hb hnew hp).mono ?_
      rintro e w' ⟨rfl, rfl⟩
      have e1 : stepS s a part parts bs = s := by unfold stepS; rw [hl, if_neg hb, e0, if_pos hp]
      have e2 : okS s a part parts bs = false := by unfold okS; rw [hl, if_neg hb, e0, if_pos hp]
      have e3 : toldS s a part parts bs = [] := by unfold toldS; rw [e2]; rfl
      exact ⟨⟨none, 0, sl, by rw [e2, e3]; rfl, by rw [e3]; exact Rd.nil _ _, by rw [e1]; exact hI⟩, hrefl⟩

/-- What the document tells and leaves. -/
def RefTold (B : Nat) (s : InS) (l : List PC) (a part parts : Int) (x : PC) (bs : List UInt8) (e : Ending) (w' : World) : Prop :=
  ∃ A' c' At ct l', e = .returned (.tuple #[RV (stepS s a part parts bs).at_ (stepS s a part parts bs).parts (.slice A' (stepS s a part parts bs).next c'), .slice At (toldS s a part parts bs).length ct, .bool (okS s a part parts bs)]) ∧
    w'.ownsRow B 23 1 (.slice A' (stepS s a part parts bs).next c') (stepS s a part parts bs).next (l'.map PC.val) ∧ Rd w' At (toldS s a part parts bs).length (toldS s a part parts bs) ∧ (stepS s a part parts bs).b = cat l' ∧ ∀ y ∈ l', y ∈ l ∨ (y = x ∧ x.bs.length ≤ 1024)

theorem refTake_all (B : Nat) (A0 : Option Addr) (c0 : Nat) (s : InS) (l : List PC) (a part parts : Int) (x : PC) (w : World) (h : w.ownsRow B 23 1 (.slice A0 s.next c0) s.next (l.map PC.val)) (hB : B ≤ w.heap.size) (hcat : s.b = cat l) (hs : PSrcs w l) (hn0 : s.next ≤ 100)
    (hx : Rd w x.A x.bs.length x.bs ∧ x.bs.length ≤ x.c) (hx9 : x.bs.length ≤ 1000000000) :
    Calls Try.prog 29 #[RV s.at_ s.parts (.slice A0 s.next c0), .int .u64 a, .int .i64 part, .int .i64 parts, .slice x.A x.bs.length x.c] w fun e w' => RefTold B s l a part parts x x.bs e w' ∧ Below w.heap.size w w' := by
  have hl : l.length = s.next := by simpa using h.1
  by_cases hb : takeBad s a part parts x.bs.length
  · have e1 : stepS s a part parts x.bs = s := by unfold stepS; rw [if_pos hb]
    have e2 : okS s a part parts x.bs = false := by unfold okS; rw [if_pos hb]
    have e3 : toldS s a part parts x.bs = [] := by unfold toldS; rw [e2]; rfl
    refine (refTake_bad s.at_ s.parts A0 s.next c0 a part parts x.A x.bs.length x.c w hx9 hb).mono ?_
    rintro e w' ⟨rfl, hb'⟩
    exact ⟨⟨A0, c0, none, 0, l, by rw [e1, e2, e3]; rfl, by rw [e1]; exact own_below h hb' (own_lt h), by rw [e3]; exact Rd.nil _ _, by rw [e1]; exact hcat, fun y hy => .inl hy⟩, hb'⟩
  have hxs : x.bs.length ≤ 1024 := by unfold takeBad at hb; omega
  by_cases hnew : takeNew s a parts
  · have e0 : backS s a parts = InS.new a := by unfold backS; rw [if_pos hnew]
    have hnew' : refNew s.at_ s.parts s.next a parts := hnew
    by_cases hp : part = 0
    · subst hp
      have hsx : PSrcs w [x] := fun y hy => by rw [List.mem_singleton.1 hy]; exact ⟨hx.1, hx.2, hxs⟩
      refine (refTake_fresh s.at_ s.parts A0 s.next c0 a parts x w [x] (Lib.hid rfl) hsx hb hnew').mono ?_
      rintro e w' ⟨hT, hb'⟩
      refine ⟨?_, hb'⟩
      rcases hT with ⟨h1, A', c', rfl, h2⟩ | ⟨h1, A', c', rfl, h2⟩
      · have h1' : ((InS.new a).next : Int) + 1 < parts := h1
        have e1 : stepS s a 0 parts x.bs = ⟨(InS.new a).at_, parts, (InS.new a).next + 1, (InS.new a).b ++ x.bs⟩ := by unfold stepS; rw [if_neg hb, e0, if_neg (by simp [InS.new]), if_pos h1']
        have e2 : okS s a 0 parts x.bs = false := by unfold okS; rw [if_neg hb, e0, if_neg (by simp [InS.new]), if_pos h1']
        have e3 : toldS s a 0 parts x.bs = [] := by unfold toldS; rw [e2]; rfl
        exact ⟨A', c', none, 0, [x], by rw [e1, e2, e3]; rfl, by rw [e1]; exact own_rebase h2 fun k hk => Nat.le_trans hB (own_ge h2 k hk), by rw [e3]; exact Rd.nil _ _, by rw [e1]; simp [InS.new, cat], fun y hy => .inr ⟨List.mem_singleton.1 hy, hxs⟩⟩
      · have h1' : ¬ ((InS.new a).next : Int) + 1 < parts := h1
        have e1 : stepS s a 0 parts x.bs = InS.new a := by unfold stepS; rw [if_neg hb, e0, if_neg (by simp [InS.new]), if_neg h1']
        have e2 : okS s a 0 parts x.bs = true := by unfold okS; rw [if_neg hb, e0, if_neg (by simp [InS.new]), if_neg h1']
        have e3 : toldS s a 0 parts x.bs = cat [x] := by unfold toldS; rw [e2, e0]; simp [InS.new, cat]
        exact ⟨none, 0, A', c', [], by rw [e1, e2, e3]; rfl, by rw [e1]; exact World.ownsRow_nil _ _ _ _, by rw [e3]; exact Rd.of_own h2, by rw [e1]; rfl, fun y hy => by simp at hy⟩
    · refine (refTake_skip_fresh s.at_ s.parts A0 s.next c0 a part parts x.A x.bs.length x.c w hb hnew' hp).mono ?_
      rintro e w' ⟨rfl, hb'⟩
      have e1 : stepS s a part parts x.bs = InS.new a := by unfold stepS; rw [if_neg hb, e0, if_pos (by simpa [InS.new] using hp)]
      have e2 : okS s a part parts x.bs = false := by unfold okS; rw [if_neg hb, e0, if_pos (by simpa [InS.new] using hp)]
      have e3 : toldS s a part parts x.bs = [] := by unfold toldS; rw [e2]; rfl
      exact ⟨⟨none, 0, none, 0, [], by rw [e1, e2, e3]; rfl, by rw [e1]; exact World.ownsRow_nil _ _ _ _, by rw [e3]; exact Rd.nil _ _, by rw [e1]; rfl, fun y hy => by simp at hy⟩, hb'⟩
  · have e0 : backS s a parts = s := by unfold backS; rw [if_neg hnew]
    have hnew' : ¬ refNew s.at_ s.parts s.next a parts := hnew
    by_cases hp : part = (s.next : Int)
    · have hsx : PSrcs w (l ++ [x]) := fun y hy => by
        rcases List.mem_append.1 hy with hy | hy
        · exact hs y hy
        · rw [List.mem_singleton.1 hy]; exact ⟨hx.1, hx.2, hxs⟩
      have hll : (l ++ [x]).length = s.next + 1 := by simp [hl]
      have hc2 : cat (l ++ [x]) = s.b ++ x.bs := by rw [hcat]; simp [cat]
      refine (refTake_old B s.at_ s.parts A0 s.next c0 l a part parts x w h (l ++ [x]) (Lib.hid rfl) hsx hn0 hb hnew' hp).mono ?_
      rintro e w' ⟨hT, hb'⟩
      refine ⟨?_, hb'⟩
      unfold RefEnd at hT
      rw [hll, hc2] at hT
      rcases hT with ⟨h1, A', c', rfl, h2⟩ | ⟨h1, A', c', rfl, h2⟩
      · have h1' : (s.next : Int) + 1 < parts := by omega
        have e1 : stepS s a part parts x.bs = ⟨s.at_, parts, s.next + 1, s.b ++ x.bs⟩ := by unfold stepS; rw [if_neg hb, e0, if_neg (by simpa using hp), if_pos h1']
        have e2 : okS s a part parts x.bs = false := by unfold okS; rw [if_neg hb, e0, if_neg (by simpa using hp), if_pos h1']
        have e3 : toldS s a part parts x.bs = [] := by unfold toldS; rw [e2]; rfl
        exact ⟨A', c', none, 0, l ++ [x], by rw [e1, e2, e3]; rfl, by rw [e1]; exact own_rebase h2 fun k hk => Nat.le_trans hB (own_ge h2 k hk), by rw [e3]; exact Rd.nil _ _, by rw [e1, hc2], fun y hy => by
          rcases List.mem_append.1 hy with hy | hy
          · exact .inl hy
          · exact .inr ⟨List.mem_singleton.1 hy, hxs⟩⟩
      · have h1' : ¬ (s.next : Int) + 1 < parts := by omega
        have e1 : stepS s a part parts x.bs = InS.new a := by unfold stepS; rw [if_neg hb, e0, if_neg (by simpa using hp), if_neg h1']
        have e2 : okS s a part parts x.bs = true := by unfold okS; rw [if_neg hb, e0, if_neg (by simpa using hp), if_neg h1']
        have e3 : toldS s a part parts x.bs = s.b ++ x.bs := by unfold toldS; rw [e2, e0]; rfl
        exact ⟨none, 0, A', c', [], by rw [e1, e2, e3]; rfl, by rw [e1]; exact World.ownsRow_nil _ _ _ _, by rw [e3]; exact Rd.of_own h2, by rw [e1]; rfl, fun y hy => by simp at hy⟩
    · refine (refTake_skip_old s.at_ s.parts A0 s.next c0 a part parts x.A x.bs.length x.c w hb hnew' hp).mono ?_
      rintro e w' ⟨rfl, hb'⟩
      have e1 : stepS s a part parts x.bs = s := by unfold stepS; rw [if_neg hb, e0, if_pos hp]
      have e2 : okS s a part parts x.bs = false := by unfold okS; rw [if_neg hb, e0, if_pos hp]
      have e3 : toldS s a part parts x.bs = [] := by unfold toldS; rw [e2]; rfl
      exact ⟨⟨A0, c0, none, 0, l, by rw [e1, e2, e3]; rfl, by rw [e1]; exact own_below h hb' (own_lt h), by rw [e3]; exact Rd.nil _ _, by rw [e1]; exact hcat, fun y hy => .inl hy⟩, hb'⟩

/-- How great it grows. -/
theorem stepS_small (s : InS) (a part parts : Int) (bs : List UInt8) (k : Nat) (h : s.next ≤ k ∧ s.b.length ≤ 1024 * k) : (stepS s a part parts bs).next ≤ k + 1 ∧ (stepS s a part parts bs).b.length ≤ 1024 * (k + 1) := by
  have hn : (InS.new a).next = 0 ∧ (InS.new a).b.length = 0 := ⟨rfl, rfl⟩
  unfold stepS
  split
  · omega
  · rename_i hb
    have hl : bs.length ≤ 1024 := by unfold takeBad at hb; omega
    have hback : (backS s a parts).next ≤ k ∧ (backS s a parts).b.length ≤ 1024 * k := by unfold backS; split <;> omega
    split
    · omega
    · split
      · simp only [List.length_append]; omega
      · omega
end Go.Proofs.Ytgdmejkneabclaa
