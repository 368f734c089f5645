/- Contracts of package move: At, Parts, Part; of the document's answer: Parts. -/
import Derived.Test.YtgdmejkneabclaaMove2
namespace Go.Proofs.Ytgdmejkneabclaa
open Go.RowKit
set_option linter.unusedSimpArgs false
set_option linter.unusedVariables false

theorem OutAt.below {w w' : World} {base g : Nat} {at_ : Int} {xs : List UInt8} (h : OutAt w base g at_ xs) (hb : Below w.heap.size w w') : OutAt w' base g at_ xs := by
  obtain ⟨h0, sl, A1, c1, b, h1, h2, h3, h4⟩ := h
  exact ⟨h0, sl, A1, c1, b, h1.below hb h1.lt, own_below h2 hb (own_lt h2), own_below h3 hb (own_lt h3), h4⟩
theorem OutAt.drewN {w : World} {base g : Nat} {at_ : Int} {xs : List UInt8} (h : OutAt w base g at_ xs) (n : Nat) : OutAt (w.drewN n) base g at_ xs := h.below (below_drewN (Below.refl _ _) n)
theorem plist_len (b len : Nat) : (plist b len).length = max 1 (pieces len) := by
  unfold plist
  split
  · rename_i h; subst h; decide
  · rw [upto_length]; unfold pieces; omega
def nparts (len : Nat) : Nat := max 1 (pieces len)

theorem outAt_any (base g : Nat) (at_ : Int) (xs : List UInt8) (w : World) (h : OutAt w base g at_ xs) : Calls Try.prog 16 #[.pointer (some ⟨g, 0, none⟩)] w fun e w' => e = .returned (.int .u64 at_) ∧ w = w' := by
  obtain ⟨h0, sl, A1, c1, b, h1, h2, h3, h4⟩ := h
  have c0 := h1.cell 0
  have hg := h1.lt
  simp only [List.getElem?_toArray, List.getElem?_cons_zero, List.getElem?_cons_succ] at c0
  go_enter Try.func16, Try.ntmps16
  go_wp2_with fail
  go_ret
  exact ⟨rfl, rfl⟩
theorem outParts_any (base g : Nat) (at_ : Int) (xs : List UInt8) (w : World) (h : OutAt w base g at_ xs) (hl : xs.length ≤ 1000000) : Calls Try.prog 15 #[.pointer (some ⟨g, 0, none⟩)] w fun e w' => e = .returned (.int .i64 (nparts xs.length)) ∧ w = w' := by
  obtain ⟨h0, sl, A1, c1, b, h1, h2, h3, h4⟩ := h
  obtain ⟨A, c, rfl, _, _⟩ := own_form h2
  have c0 := h1.cell 1
  have hg := h1.lt
  simp only [List.getElem?_toArray, List.getElem?_cons_zero, List.getElem?_cons_succ] at c0
  rw [plist_len] at c0
  have hn : nparts xs.length = max 1 (pieces xs.length) := rfl
  rw [← hn] at c0
  have hm : nparts xs.length ≤ 1000000 := by rw [hn]; unfold pieces; omega
  generalize nparts xs.length = m at c0 hm ⊢
  clear h2 hn
  go_enter Try.func15, Try.ntmps15
  go_wp2_with fail
  go_ret
  exact ⟨rfl, rfl⟩

/-- The i-th part's bytes. -/
def partOf (xs : List UInt8) (i : Nat) : List UInt8 := (xs.drop (1024 * i)).take 1024
theorem part_rd {w : World} {base : Nat} {A1 : Option Addr} {c1 b : Nat} {xs : List UInt8} (h3 : w.ownsRow base 5 1 (.slice A1 xs.length c1) xs.length (xs.map bv)) (h4 : 0 < xs.length → A1 = some ⟨b, 0, none⟩) (i : Nat) (hi : i < nparts xs.length) :
    ∃ A n, (plist b xs.length)[i]? = some (A, n) ∧ n ≤ 1024 ∧ Rd w A n (partOf xs i) := by
  unfold nparts at hi
  by_cases h0 : xs.length = 0
  · have : i = 0 := by unfold pieces at hi; omega
    subst this
    refine ⟨none, 0, by unfold plist; rw [if_pos h0]; rfl, by omega, ?_⟩
    have : xs = [] := List.eq_nil_of_length_eq_zero h0
    subst this
    exact Rd.nil _ _
  · obtain rfl := h4 (by omega)
    have hip : i < pieces xs.length := by unfold pieces at hi ⊢; omega
    refine ⟨some ⟨b, 1024 * i, none⟩, min 1024 (xs.length - 1024 * i), ?_, by omega, ?_⟩
    · unfold plist
      rw [if_neg h0]
      simp [upto, piece, hip]
    · have hr := Rd.of_own h3
      refine ⟨by simp [partOf], by omega, fun hn => ⟨b, 1024 * i, rfl, fun j hj => ?_⟩⟩
      obtain ⟨b', o', e', hc'⟩ := hr.2.2 (by omega)
      injection e' with e'
      injection e' with e1 e2
      subst e1
      have := hc' (1024 * i + j) (by omega)
      rw [← e2, Nat.zero_add] at this
      rw [this]
      simp [partOf, List.getD_eq_getElem?_getD, List.getElem?_take, List.getElem?_drop, show j < 1024 by omega]

set_option maxHeartbeats 1000000 in
theorem outPart_any (base g : Nat) (at_ : Int) (xs : List UInt8) (i : Nat) (w : World) (h : OutAt w base g at_ xs) (hl : xs.length ≤ 1000000) (hi : i < nparts xs.length) :
    Calls Try.prog 13 #[.pointer (some ⟨g, 0, none⟩), .int .i64 (i : Int)] w fun e w' => (∃ A c, e = .returned (.tuple #[.slice A (partOf xs i).length c, .bool true]) ∧ w'.ownsRow w.heap.size 5 1 (.slice A (partOf xs i).length c) (partOf xs i).length ((partOf xs i).map bv)) ∧ Below w.heap.size w w' := by
  have hp := outParts_any base g at_ xs w h hl
  obtain ⟨h0, sl, A1, c1, b, h1, h2, h3, h4⟩ := h
  obtain ⟨A, n, hpl, hn, hrd⟩ := part_rd h3 h4 i hi
  have hm : nparts xs.length ≤ 1000000 := by unfold nparts pieces; omega
  obtain ⟨gs, cs, hsl, _, hgs⟩ := h2.form (by rw [plist_len]; unfold nparts at hi; omega)
  have e0 := h2.cells (g := gs) (by rw [hsl]; rfl) i (pcell (A, n)) (by rw [List.getElem?_map, hpl]; rfl)
  rw [add_lit0, Nat.zero_add] at e0
  have c0 := h1.cell 1
  have hg := h1.lt
  simp only [List.getElem?_toArray, List.getElem?_cons_zero, List.getElem?_cons_succ, pcell] at c0 e0
  rw [hsl, plist_len] at c0
  have hnp : nparts xs.length = max 1 (pieces xs.length) := rfl
  rw [← hnp] at c0
  have hlen := hrd.1
  generalize nparts xs.length = m at c0 hm hi hp
  have t1 : ¬ ((m : Int) ≤ (i : Int)) := by omega
  clear h2 h3 hpl hnp
  go_enter Try.func13, Try.ntmps13
  go_wp2_with fail
  refine hp.mono ?_
  rintro e w1 ⟨rfl, rfl⟩
  go_wp2_with fail
  refine (bytesClone_any A n n (partOf xs i) w hrd (Nat.le_refl _) (by omega)).mono ?_
  rintro e w2 ⟨v, rfl, ho, hb⟩
  obtain ⟨A2, c2, hv, _, _⟩ := own_form ho
  rw [hv] at ho ⊢
  go_wp2_with fail
  rw [hlen]
  exact bodyPost_ret (v := .tuple #[.slice A2 n c2, .bool true]) (by simp [results, Try.results13, go_sem]) rfl ⟨⟨A2, c2, rfl, ho⟩, hb⟩
end Go.Proofs.Ytgdmejkneabclaa
