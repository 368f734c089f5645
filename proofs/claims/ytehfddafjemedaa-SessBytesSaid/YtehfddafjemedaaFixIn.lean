/- Contracts of package fix: what is read (Of, fail, next, Left, Err, Done). -/
import Derived.Test.YtehfddafjemedaaFixOut2
namespace Go.Proofs.Ytehfddafjemedaa
open Go.RowKit
set_option linter.unusedSimpArgs false
set_option linter.unusedVariables false

/-- Bytes that are read. -/
structure IS where
  b : List UInt8
  err : Int
structure InZ (w : World) (Z : Nat → Prop) (g : Nat) (s : IS) : Prop where
  zone : Z g
  ex : ∃ A n c, Blk w g 107 #[.slice A n c, .int .i64 s.err] ∧ Rd w A n s.b ∧ n ≤ c ∧ c ≤ 9223372036854775807 ∧ (0 < n → ∀ ad, A = some ad → Z ad.block ∧ ad.block ≠ g)
  ok : s.err ≠ 0 → s.b = []
abbrev InAt (w : World) (base g : Nat) (s : IS) : Prop := InZ w (fun k => base ≤ k) g s
theorem InZ.ge {w : World} {base g : Nat} {s : IS} (h : InAt w base g s) : base ≤ g := h.zone
theorem InZ.below {w w' : World} {Z : Nat → Prop} {g : Nat} {s : IS} (h : InZ w Z g s) (hb : Below w.heap.size w w') : InZ w' Z g s := by
  obtain ⟨h0, ⟨A, n, c, h1, h2, h3, h4, h5⟩, h6⟩ := h
  exact ⟨h0, ⟨A, n, c, h1.below hb h1.lt, h2.below_ hb, h3, h4, h5⟩, h6⟩
theorem InAt.keeps {w w' : World} {base g : Nat} {s : IS} {S : List Nat} (h : InAt w base g s) (hk : Keeps S w w') (hS : ∀ k ∈ S, k < base) : InAt w' base g s := by
  obtain ⟨h0, ⟨A, n, c, h1, h2, h3, h4, h5⟩, h6⟩ := h
  exact ⟨h0, ⟨A, n, c, h1.keeps hk (fun hm => by have := hS g hm; omega), h2.keeps hk (fun hn ad e hm => by have := (h5 hn ad e).1; have := hS _ hm; omega), h3, h4, h5⟩, h6⟩
theorem InZ.lt {w : World} {Z : Nat → Prop} {g : Nat} {s : IS} (h : InZ w Z g s) : g < w.heap.size := by
  obtain ⟨_, ⟨A, n, c, h1, _⟩, _⟩ := h
  exact h1.lt

def inF (s : IS) (e : Int) : IS := ⟨[], if s.err = 0 then e else s.err⟩
def okN (s : IS) (n : Nat) : Bool := decide (s.err = 0 ∧ n ≤ s.b.length)
def nextS (s : IS) (n : Nat) : IS := if s.err ≠ 0 then s else if s.b.length < n then inF s 3 else ⟨s.b.drop n, s.err⟩
def nextB (s : IS) (n : Nat) : List UInt8 := if okN s n = true then s.b.take n else []
def leftS (s : IS) : Int := s.b.length
def doneS (s : IS) : Int := if s.err ≠ 0 then s.err else if s.b = [] then 0 else 4

theorem InZ.mono {w : World} {Z Z' : Nat → Prop} {g : Nat} {s : IS} (h : InZ w Z g s) (hZ : ∀ k, Z k → Z' k) : InZ w Z' g s := by
  obtain ⟨h0, ⟨A, n, c, h1, h2, h3, h4, h5⟩, h6⟩ := h
  exact ⟨hZ _ h0, ⟨A, n, c, h1, h2, h3, h4, fun hn ad e => ⟨hZ _ (h5 hn ad e).1, (h5 hn ad e).2⟩⟩, h6⟩
theorem InZ.keeps {w w' : World} {Z : Nat → Prop} {g : Nat} {s : IS} {S : List Nat} (h : InZ w Z g s) (hk : Keeps S w w') (hS : ∀ k ∈ S, ¬ Z k) : InZ w' Z g s := by
  obtain ⟨h0, ⟨A, n, c, h1, h2, h3, h4, h5⟩, h6⟩ := h
  exact ⟨h0, ⟨A, n, c, h1.keeps hk (fun hm => hS g hm h0), h2.keeps hk (fun hn ad e hm => hS _ hm (h5 hn ad e).1), h3, h4, h5⟩, h6⟩
theorem inOfZ_any (A : Option Addr) (n c : Nat) (xs : List UInt8) (w : World) (ha : Rd w A n xs) (hc : n ≤ c) (hn : n ≤ 10000000) :
    Calls Try.prog 32 #[.slice A n c] w fun e w' => (∃ g, e = .returned (.pointer (some ⟨g, 0, none⟩)) ∧ InZ w' (fun k => w.heap.size ≤ k ∧ k < w'.heap.size) g ⟨xs, 0⟩) ∧ Below w.heap.size w w' := by
  go_enter Try.func32, Try.ntmps32
  go_wp2_with fail
  refine (slicesClone_any A n c xs w ha hc hn).mono ?_
  rintro e w1 ⟨⟨A1, c1, rfl, ho1⟩, hb1⟩
  go_wp2_with fail
  go_ret
  have hX : Below w1.heap.size w1 (w1.alloc (.cells #[.slice A1 n c1, .int .i64 0] 107)) := (Below.refl _ _).alloc (Nat.le_refl _) _
  obtain ⟨_, _, hv, h1, h2⟩ := own_form ho1
  refine ⟨⟨_, rfl, ⟨⟨hb1.size, by simp⟩, ⟨A1, n, c1, Blk.new _ _ _, (Rd.of_own ho1).below_ hX, by injection hv; omega, by injection hv; unfold maxLen at h2; omega, fun hn ad e => ?_⟩, fun h => absurd rfl h⟩⟩, hb1.trans (hX.mono hb1.size)⟩
  subst e
  have h3 : ad.block ∈ (Value.slice (some ad) n c1).ownBlock := by simp [Value.ownBlock]
  have := own_ge ho1 _ h3
  have := own_lt ho1 _ h3
  exact ⟨⟨by omega, by simp; omega⟩, by omega⟩

theorem inOf_any (A : Option Addr) (n c : Nat) (xs : List UInt8) (w : World) (ha : Rd w A n xs) (hc : n ≤ c) (hn : n ≤ 10000000) :
    Calls Try.prog 32 #[.slice A n c] w fun e w' => (∃ g, e = .returned (.pointer (some ⟨g, 0, none⟩)) ∧ InAt w' w.heap.size g ⟨xs, 0⟩) ∧ Below w.heap.size w w' := by
  refine (inOfZ_any A n c xs w ha hc hn).mono ?_
  rintro e w' ⟨⟨g, h1, h2⟩, hb⟩
  exact ⟨⟨g, h1, h2.mono fun k hk => hk.1⟩, hb⟩

theorem inFail_any (Z : Nat → Prop) (g : Nat) (s : IS) (e : Int) (w : World) (h : InZ w Z g s) : Calls Try.prog 66 #[.pointer (some ⟨g, 0, none⟩), .int .i64 e] w fun en w' => en = .returned (.tuple #[]) ∧ InZ w' Z g (inF s e) ∧ Keeps [g] w w' := by
  obtain ⟨hge, ⟨A, n, c, hb, hr, hnc, hcm, hbl⟩, hok⟩ := h
  have c0 := hb.cell 0
  have c1 := hb.cell 1
  have fz := hb.frozen
  have hg := hb.lt
  simp only [List.getElem?_toArray, List.getElem?_cons_zero, List.getElem?_cons_succ] at c0 c1
  by_cases h0 : s.err = 0
  · have t : (s.err == 0) = true := by simp [h0]
    have H : Hid (inF s e = ⟨[], e⟩) := Lib.hid (by unfold inF; rw [if_pos h0])
    clear h0 hok
    go_enter Try.func66, Try.ntmps66
    go_wp2
    refine bodyPost_end (by simp [results, Try.results66, go_sem]) rfl ⟨rfl, ?_, ((Keeps.refl [g] w).setCell (p := ⟨g, 1, none⟩) (.inl (by simp)) _).setCell (p := ⟨g, 0, none⟩) (.inl (by simp)) _⟩
    rw [H.out]
    exact ⟨hge, ⟨none, 0, 0, (hb.set_ 1 _).set_ 0 _, Rd.nil _ _, Nat.le_refl _, by omega, fun h => absurd h (Nat.lt_irrefl 0)⟩, fun _ => rfl⟩
  · have t : (s.err == 0) = false := by simp [h0]
    have H : Hid (inF s e = ⟨[], s.err⟩) := Lib.hid (by unfold inF; rw [if_neg h0])
    clear h0 hok
    go_enter Try.func66, Try.ntmps66
    go_wp2
    refine bodyPost_end (by simp [results, Try.results66, go_sem]) rfl ⟨rfl, ?_, (Keeps.refl [g] w).setCell (p := ⟨g, 0, none⟩) (.inl (by simp)) _⟩
    rw [H.out]
    exact ⟨hge, ⟨none, 0, 0, hb.set_ 0 _, Rd.nil _ _, Nat.le_refl _, by omega, fun h => absurd h (Nat.lt_irrefl 0)⟩, fun _ => rfl⟩

/-- What next tells and leaves. -/
def NextTold (Z : Nat → Prop) (g : Nat) (s : IS) (n : Nat) (e : Ending) (w' : World) : Prop :=
  ∃ A c, e = .returned (.tuple #[.slice A (nextB s n).length c, .bool (okN s n)]) ∧ Rd w' A (nextB s n).length (nextB s n) ∧ (nextB s n).length ≤ c ∧ InZ w' Z g (nextS s n)

set_option maxHeartbeats 1000000 in
theorem inNext_any (Z : Nat → Prop) (g : Nat) (s : IS) (n : Nat) (w : World) (h : InZ w Z g s) (hn : n ≤ 9223372036854775807) :
    Calls Try.prog 67 #[.pointer (some ⟨g, 0, none⟩), .int .i64 (n : Int)] w fun e w' => NextTold Z g s n e w' ∧ Keeps [g] w w' := by
  have hI := h
  obtain ⟨hge, ⟨A, m, c, hb, hr, hnc, hcm, hbl⟩, hok⟩ := h
  have c0 := hb.cell 0
  have c1 := hb.cell 1
  have fz := hb.frozen
  have hg := hb.lt
  simp only [List.getElem?_toArray, List.getElem?_cons_zero, List.getElem?_cons_succ] at c0 c1
  have hm := hr.1
  by_cases h0 : s.err = 0
  · have t : (s.err != 0) = false := by simp [h0]
    by_cases hlt : m < n
    · have H1 : Hid (nextS s n = inF s 3) := Lib.hid (by unfold nextS; rw [if_neg (by simpa using h0), if_pos (by omega)])
      have H2 : Hid (okN s n = false) := Lib.hid (by unfold okN; exact decide_eq_false (by omega))
      have H3 : Hid (nextB s n = []) := Lib.hid (by unfold nextB; rw [H2.out]; rfl)
      have tlt : (m : Int) < (n : Int) := by omega
      clear h0 hok hm
      go_enter Try.func67, Try.ntmps67
      go_wp2_with fail
      refine (inFail_any Z g s 3 w hI).mono ?_
      rintro e w1 ⟨rfl, h1, hk1⟩
      go_wp2_with fail
      refine bodyPost_ret (v := .tuple #[.slice none 0 0, .bool false]) (by simp [results, Try.results67, go_sem]) rfl ?_
      exact ⟨⟨none, 0, by rw [H2.out, H3.out]; rfl, by rw [H3.out]; exact Rd.nil _ _, by rw [H3.out]; exact Nat.le_refl _, by rw [H1.out]; exact h1⟩, hk1⟩
    · have H1 : Hid (nextS s n = ⟨s.b.drop n, s.err⟩) := Lib.hid (by unfold nextS; rw [if_neg (by simpa using h0), if_neg (by omega)])
      have H2 : Hid (okN s n = true) := Lib.hid (by unfold okN; exact decide_eq_true (by omega))
      have H3 : Hid (nextB s n = s.b.take n) := Lib.hid (by unfold nextB; rw [H2.out]; rfl)
      have HL : Hid ((s.b.take n).length = n) := Lib.hid (by rw [List.length_take]; omega)
      have tlt : ¬ (m : Int) < (n : Int) := by omega
      have hle : n ≤ m := by omega
      have HOK := Lib.hid h0
      have htk := hr.take hle
      have hdr := hr.cut hle hnc
      have HT := Lib.hid htk
      clear h0 hok hm hlt htk
      by_cases hcn : c = n
      · rw [if_pos hcn] at hdr
        have hmn : m = n := by omega
        have HD := Lib.hid hdr
        have HMN := Lib.hid hmn
        clear hdr hmn
        obtain rfl : n = c := hcn.symm
        go_enter Try.func67, Try.ntmps67
        go_wp2_with fail
        refine bodyPost_ret (v := .tuple #[.slice A n n, .bool true]) (by simp [results, Try.results67, go_sem]) rfl ?_
        have hk1 := (Keeps.refl [g] w).setCell (p := ⟨g, 0, none⟩) (.inl (by simp)) (.slice A 0 0)
        have hdn : s.b.drop n = [] := List.drop_of_length_le (by have := hr.1; have := HMN.out; omega)
        refine ⟨⟨A, n, by rw [H2.out, H3.out, HL.out], ?_, by rw [H3.out, HL.out]; exact Nat.le_refl _, ?_⟩, hk1⟩
        · rw [H3.out, HL.out]
          exact HT.out.keeps hk1 fun h0 ad e hm => (hbl (by omega) ad e).2 (by simpa using hm)
        · rw [H1.out, hdn]
          exact ⟨hge, ⟨A, 0, 0, hb.set_ 0 _, Rd.nil _ _, Nat.le_refl _, by omega, fun h => absurd h (Nat.lt_irrefl 0)⟩, fun _ => rfl⟩
      · rw [if_neg hcn] at hdr
        have HD := Lib.hid hdr
        clear hdr
        go_enter Try.func67, Try.ntmps67
        go_wp2_with fail
        refine bodyPost_ret (v := .tuple #[.slice A n n, .bool true]) (by simp [results, Try.results67, go_sem]) rfl ?_
        have hk1 := (Keeps.refl [g] w).setCell (p := ⟨g, 0, none⟩) (.inl (by simp)) (.slice (A.map (·.add n)) (m - n) (c - n))
        have hbl' : 0 < m - n → ∀ ad, A.map (·.add n) = some ad → Z ad.block ∧ ad.block ≠ g := fun h0 ad e => by
          cases A with
          | none => simp at e
          | some a0 =>
            simp only [Option.map_some, Option.some.injEq] at e
            have := hbl (by omega) a0 rfl
            have e2 : ad.block = a0.block := by rw [← e]; unfold Addr.add; split <;> rfl
            rw [e2]
            exact this
        refine ⟨⟨A, n, by rw [H2.out, H3.out, HL.out], ?_, by rw [H3.out, HL.out]; exact Nat.le_refl _, ?_⟩, hk1⟩
        · rw [H3.out, HL.out]
          exact HT.out.keeps hk1 fun h0 ad e hm => (hbl (by omega) ad e).2 (by simpa using hm)
        · rw [H1.out]
          exact ⟨hge, ⟨A.map (·.add n), m - n, c - n, hb.set_ 0 _, HD.out.keeps hk1 fun h0 ad e hm => (hbl' h0 ad e).2 (by simpa using hm), by omega, by omega, hbl'⟩, fun h => absurd HOK.out h⟩
  · have t : (s.err != 0) = true := by simp [h0]
    have H1 : Hid (nextS s n = s) := Lib.hid (by unfold nextS; rw [if_pos h0])
    have H2 : Hid (okN s n = false) := Lib.hid (by unfold okN; exact decide_eq_false (by omega))
    have H3 : Hid (nextB s n = []) := Lib.hid (by unfold nextB; rw [H2.out]; rfl)
    clear h0 hok hm
    go_enter Try.func67, Try.ntmps67
    go_wp2_with fail
    refine bodyPost_ret (v := .tuple #[.slice none 0 0, .bool false]) (by simp [results, Try.results67, go_sem]) rfl ?_
    exact ⟨⟨none, 0, by rw [H2.out, H3.out]; rfl, by rw [H3.out]; exact Rd.nil _ _, by rw [H3.out]; exact Nat.le_refl _, by rw [H1.out]; exact hI⟩, Keeps.refl _ _⟩
end Go.Proofs.Ytehfddafjemedaa
