/- Contracts of package vers: Len, at, Last, the search, clean, Clean, Dirty. -/
import Derived.Test.YtgdmejkneabclaaVers
namespace Go.Proofs.Ytgdmejkneabclaa
open Go.RowKit
set_option linter.unusedSimpArgs false
set_option linter.unusedVariables false

/-- Bytes are short enough for whatever makes new ones. -/
def Short (l : List VC) : Prop := l.length ≤ 1000 ∧ ∀ x ∈ l, x.v.data.length ≤ 1000000

set_option maxHeartbeats 400000 in
theorem Len_any (base g : Nat) (sl : Value) (l : List VC) (w : World) (h : BlockAt w base g sl l) :
    Calls Try.prog 37 #[.pointer (some ⟨g, 0, none⟩)] w fun e w' => e = .returned (.int .i64 l.length) ∧ w = w' := by
  obtain ⟨A, c, rfl, _, _⟩ := own_form h.own
  have c0 : w.cell? ⟨g, 0, none⟩ = some (.slice A l.length c) := h.blk.cell 0
  have hg := h.blk.lt
  go_enter Try.func37, Try.ntmps37
  go_wp2
  go_ret
  exact ⟨rfl, rfl⟩

def atV (l : List VC) (i : Int) : Ver := if 0 ≤ i ∧ i < l.length then (l.getD i.toNat ⟨.none, none, 0⟩).v else .none

set_option maxHeartbeats 1000000 in
theorem at_any (base g : Nat) (sl : Value) (l : List VC) (i : Int) (w : World) (h : BlockAt w base g sl l) (hs : Short l) :
    Calls Try.prog 53 #[.pointer (some ⟨g, 0, none⟩), .int .i64 i] w fun e w' => Told w.heap.size w' (atV l i) e ∧ Below w.heap.size w w' := by
  have hl1 := hs.1
  obtain ⟨A, c, hsl, hlc, hcm⟩ := own_form h.own
  have c0 : w.cell? ⟨g, 0, none⟩ = some (.slice A l.length c) := by rw [← hsl]; exact h.blk.cell 0
  have hg := h.blk.lt
  by_cases h0 : 0 ≤ i
  · by_cases h1 : i < l.length
    · obtain ⟨k, rfl⟩ := Int.eq_ofNat_of_zero_le h0
      have hk : k < l.length := by omega
      obtain ⟨x, hx⟩ : ∃ x, x = l.getD k ⟨.none, none, 0⟩ := ⟨_, rfl⟩
      have hv : Hid (atV l (k : Int) = x.v) := by
        show _ = _
        rw [atV, if_pos ⟨h0, h1⟩, hx]; rfl
      obtain ⟨b, c', he, hb, e0, e1, e2⟩ := h.at_ k hk ⟨.none, none, 0⟩
      rw [hsl] at he
      injection he with he1 he2 he3
      subst he1
      subst he3
      rw [← hx] at e0 e1 e2
      have hmem : x ∈ l := by rw [hx, List.getD_eq_getElem?_getD, List.getElem?_eq_getElem hk]; exact List.getElem_mem _
      have hd := h.data x hmem
      have hdl := own_lt hd
      have hsx := hs.2 x hmem
      obtain ⟨vx, Ax, cx⟩ := x
      obtain ⟨ver, seq, data⟩ := vx
      simp only [VC.sl] at hd hdl e0 e1 e2 hsx hv
      obtain ⟨_, _, hf, hdc, _⟩ := own_form hd
      injection hf with hf1 hf2 hf3
      subst hf3
      clear hf1 hf2 hx hmem he2
      go_enter Try.func53, Try.ntmps53
      go_wp2_with fail
      refine (own_any ⟨ver, seq, data⟩ Ax cx _ ?_ hdc hsx).mono ?_
      · exact (Rd.of_own hd).alloc _
      rintro e w1 ⟨⟨A1, c1, rfl, ho⟩, hb1⟩
      obtain ⟨hcell, hfz⟩ := old_cells hb1
      have hs1 := hb1.size
      simp only [World.size_alloc] at hcell hfz hs1 ho
      have l1 : w.heap.size < w1.heap.size := by omega
      have y0 : w1.cell? ⟨w.heap.size, 0, none⟩ = some (.int .u64 0) := by rw [hcell _ _ (by omega)]; go_simp
      have y1 : w1.cell? ⟨w.heap.size, 1, none⟩ = some (.int .u64 0) := by rw [hcell _ _ (by omega)]; go_simp
      have y2 : w1.cell? ⟨w.heap.size, 2, none⟩ = some (.slice none 0 0) := by rw [hcell _ _ (by omega)]; go_simp
      have f1 : ∀ o, w1.frozen? ⟨w.heap.size, o, none⟩ = false := fun o => by rw [hfz _ _ (by omega)]; go_simp
      clear hcell hfz
      have hge := own_ge ho
      go_wp2_with fail
      rw [hv.out]
      refine bodyPost_ret (v := .agg #[.int .u64 ver, .int .u64 seq, .slice A1 data.length c1]) (by simp [results, Try.results53, go_sem, y0, y1, y2]) rfl ⟨⟨A1, c1, rfl, ?_⟩, ?_⟩
      · refine own_rebase (own_keeps ho ((((Keeps.refl [w.heap.size] w1).setCell (p := ⟨w.heap.size, _, none⟩) (.inl (by simp)) _).setCell (p := ⟨w.heap.size, _, none⟩) (.inl (by simp)) _).setCell (p := ⟨w.heap.size, _, none⟩) (.inl (by simp)) _) ?_) ?_
        · intro j hj
          have := hge j hj
          simp
          omega
        · intro j hj
          have := hge j hj
          omega
      · refine (((Below.setCell (p := ⟨w.heap.size, 0, none⟩) ?_ (Nat.le_refl _) _).setCell (p := ⟨w.heap.size, 1, none⟩) (Nat.le_refl _) _).setCell (p := ⟨w.heap.size, 2, none⟩) (Nat.le_refl _) _)
        exact ((Below.refl _ w).alloc (Nat.le_refl _) _).trans (hb1.mono (by simp))
    · have hv : Hid (atV l i = .none) := by show _ = _; rw [atV, if_neg (by omega)]
      go_enter Try.func53, Try.ntmps53
      go_wp2_with fail
      rw [hv.out]
      exact bodyPost_ret (v := .agg #[.int .u64 0, .int .u64 0, .slice none 0 0]) (by simp [results, Try.results53, go_sem]) rfl ⟨⟨none, 0, rfl, World.ownsRow_nil _ _ _ _⟩, (Below.refl _ _).alloc (Nat.le_refl _) _⟩
  · have hv : Hid (atV l i = .none) := by show _ = _; rw [atV, if_neg (by omega)]
    go_enter Try.func53, Try.ntmps53
    go_wp2_with fail
    rw [hv.out]
    exact bodyPost_ret (v := .agg #[.int .u64 0, .int .u64 0, .slice none 0 0]) (by simp [results, Try.results53, go_sem]) rfl ⟨⟨none, 0, rfl, World.ownsRow_nil _ _ _ _⟩, (Below.refl _ _).alloc (Nat.le_refl _) _⟩
end Go.Proofs.Ytgdmejkneabclaa
