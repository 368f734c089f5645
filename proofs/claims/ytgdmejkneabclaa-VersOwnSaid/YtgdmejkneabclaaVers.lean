/- Contracts of package vers: own, at, Len, Last. -/
import Derived.Test.YtgdmejkneabclaaBytes
namespace Go.Proofs.Ytgdmejkneabclaa
open Go.RowKit
set_option linter.unusedSimpArgs false
set_option linter.unusedVariables false

/-- A version: its numbers, its bytes. -/
structure Ver where
  ver : Int
  seq : Int
  data : List UInt8
deriving DecidableEq
def Ver.none : Ver := ⟨0, 0, []⟩

/-- A version's cells: its numbers, where its bytes lie. -/
structure VC where
  v : Ver
  A : Option Addr
  c : Nat
def VC.sl (x : VC) : Value := .slice x.A x.v.data.length x.c
def VC.cells (x : VC) : List Value := [.int .u64 x.v.ver, .int .u64 x.v.seq, x.sl]

theorem cells_length (l : List VC) : (l.flatMap VC.cells).length = l.length * 3 := by
  induction l with
  | nil => rfl
  | cons x l ih => simp only [List.flatMap_cons, List.length_append, ih, List.length_cons]; simp [VC.cells]; omega
theorem cells_get (l : List VC) (d : VC) : ∀ (i j : Nat), i < l.length → j < 3 → (l.flatMap VC.cells)[i * 3 + j]? = (l.getD i d).cells[j]? := by
  induction l with
  | nil => intro i j h; simp at h
  | cons x l ih =>
    intro i j hi hj
    simp only [List.flatMap_cons]
    cases i with
    | zero => simp only [Nat.zero_mul, Nat.zero_add, List.getD_cons_zero]; rw [List.getElem?_append_left (by simp [VC.cells]; omega)]
    | succ i =>
      rw [List.getElem?_append_right (by simp [VC.cells]; omega)]
      have e : (i + 1) * 3 + j - x.cells.length = i * 3 + j := by simp [VC.cells]; omega
      rw [e, List.getD_cons_succ]
      exact ih i j (by simpa using hi) hj
theorem cells_drop (l : List VC) (k : Nat) : (l.drop k).flatMap VC.cells = (l.flatMap VC.cells).drop (k * 3) := by
  induction l generalizing k with
  | nil => simp
  | cons x l ih =>
    cases k with
    | zero => simp
    | succ k =>
      simp only [List.drop_succ_cons, List.flatMap_cons, ih]
      rw [List.drop_append]
      have e : (k + 1) * 3 - x.cells.length = k * 3 := by simp [VC.cells]; omega
      rw [e, List.drop_of_length_le (show x.cells.length ≤ (k + 1) * 3 by simp [VC.cells]; omega), List.nil_append]

/-- A block: a slice of versions, the call's own, each with bytes of its own. -/
structure BlockAt (w : World) (base g : Nat) (sl : Value) (l : List VC) : Prop where
  blk : Blk w g 96 #[sl]
  ge : base ≤ g
  own : w.ownsRow base 41 3 sl l.length (l.flatMap VC.cells)
  data : ∀ x ∈ l, w.ownsRow base 5 1 x.sl x.v.data.length (x.v.data.map bv)

section
variable {w w' : World} {base g : Nat} {sl : Value} {l : List VC}
theorem BlockAt.below (h : BlockAt w base g sl l) (hb : Below w.heap.size w w') : BlockAt w' base g sl l :=
  ⟨h.blk.below hb h.blk.lt, h.ge, own_below h.own hb (own_lt h.own), fun x hx => own_below (h.data x hx) hb (own_lt (h.data x hx))⟩
theorem BlockAt.drewN (h : BlockAt w base g sl l) (n : Nat) : BlockAt (w.drewN n) base g sl l := ⟨h.blk, h.ge, h.own, h.data⟩
theorem BlockAt.keeps {S : List Nat} (h : BlockAt w base g sl l) (hk : Keeps S w w') (h1 : g ∉ S) (h2 : ∀ k ∈ sl.ownBlock, k ∉ S) (h3 : ∀ x ∈ l, ∀ k ∈ x.sl.ownBlock, k ∉ S) : BlockAt w' base g sl l :=
  ⟨h.blk.keeps hk h1, h.ge, own_keeps h.own hk h2, fun x hx => own_keeps (h.data x hx) hk (h3 x hx)⟩
/-- The cells of version i. -/
theorem BlockAt.at_ (h : BlockAt w base g sl l) (i : Nat) (hi : i < l.length) (d : VC) :
    ∃ b c, sl = .slice (some ⟨b, 0, none⟩) l.length c ∧ b < w.heap.size ∧ w.cell? ⟨b, i * 3, none⟩ = some (.int .u64 (l.getD i d).v.ver) ∧ w.cell? ⟨b, i * 3 + 1, none⟩ = some (.int .u64 (l.getD i d).v.seq) ∧
      w.cell? ⟨b, i * 3 + 2, none⟩ = some (.slice (l.getD i d).A (l.getD i d).v.data.length (l.getD i d).c) := by
  obtain ⟨b, cap, hv, _, hlt⟩ := h.own.form (by omega)
  refine ⟨b, cap, hv, hlt, ?_, ?_, ?_⟩
  · have := h.own.cells (g := b) (by rw [hv]; rfl) (i * 3) (.int .u64 (l.getD i d).v.ver) (by have := cells_get l d i 0 hi (by omega); simpa [VC.cells] using this)
    rw [add_lit0] at this
    simpa using this
  · have := h.own.cells (g := b) (by rw [hv]; rfl) (i * 3 + 1) (.int .u64 (l.getD i d).v.seq) (by have := cells_get l d i 1 hi (by omega); simpa [VC.cells] using this)
    rw [add_lit0] at this
    simpa using this
  · have := h.own.cells (g := b) (by rw [hv]; rfl) (i * 3 + 2) (l.getD i d).sl (by have := cells_get l d i 2 hi (by omega); simpa [VC.cells] using this)
    rw [add_lit0] at this
    simpa [VC.sl] using this
end

/-- What is told: a version in new memory. -/
def Told (B : Nat) (w : World) (v : Ver) (e : Ending) : Prop :=
  ∃ A c, e = .returned (.agg #[.int .u64 v.ver, .int .u64 v.seq, .slice A v.data.length c]) ∧ w.ownsRow B 5 1 (.slice A v.data.length c) v.data.length (v.data.map bv)

set_option maxHeartbeats 400000 in
theorem own_any (v : Ver) (A : Option Addr) (c : Nat) (w : World) (ha : Rd w A v.data.length v.data) (hc : v.data.length ≤ c) (hn : v.data.length ≤ 1000000) :
    Calls Try.prog 50 #[.agg #[.int .u64 v.ver, .int .u64 v.seq, .slice A v.data.length c]] w fun e w' => Told w.heap.size w' v e ∧ Below w.heap.size w w' := by
  obtain ⟨a, b, d⟩ := v
  simp only at ha hc hn
  go_enter Try.func50, Try.ntmps50
  go_wp2_with fail
  refine (bytesClone_any A d.length c d _ ?_ hc hn).mono ?_
  · exact (ha.alloc _).alloc _
  rintro e w1 ⟨v1, rfl, ho, hb⟩
  obtain ⟨A1, c1, rfl, h1, h2⟩ := own_form ho
  obtain ⟨hcell, hfz⟩ := old_cells hb
  have hs := hb.size
  simp only [World.size_alloc] at hcell hfz hs ho
  have l1 : w.heap.size < w1.heap.size := by omega
  have l2 : w.heap.size + 1 < w1.heap.size := by omega
  have x0 : w1.cell? ⟨w.heap.size, 0, none⟩ = some (.int .u64 a) := by rw [hcell _ _ (by omega)]; go_simp
  have x1 : w1.cell? ⟨w.heap.size, 1, none⟩ = some (.int .u64 b) := by rw [hcell _ _ (by omega)]; go_simp
  have x2 : w1.cell? ⟨w.heap.size, 2, none⟩ = some (.slice A d.length c) := by rw [hcell _ _ (by omega)]; go_simp
  have y0 : w1.cell? ⟨w.heap.size + 1, 0, none⟩ = some (.int .u64 0) := by rw [hcell _ _ (by omega)]; go_simp
  have y1 : w1.cell? ⟨w.heap.size + 1, 1, none⟩ = some (.int .u64 0) := by rw [hcell _ _ (by omega)]; go_simp
  have y2 : w1.cell? ⟨w.heap.size + 1, 2, none⟩ = some (.slice none 0 0) := by rw [hcell _ _ (by omega)]; go_simp
  have f0 : ∀ o, w1.frozen? ⟨w.heap.size, o, none⟩ = false := fun o => by rw [hfz _ _ (by omega)]; go_simp
  have f1 : ∀ o, w1.frozen? ⟨w.heap.size + 1, o, none⟩ = false := fun o => by rw [hfz _ _ (by omega)]; go_simp
  clear hcell hfz
  have hge := own_ge ho
  go_wp2_with fail
  refine bodyPost_ret (v := .agg #[.int .u64 a, .int .u64 b, .slice A1 d.length c1]) (by simp [results, Try.results50, go_sem, y0, y1, y2]) rfl ⟨⟨A1, c1, rfl, ?_⟩, ?_⟩
  · refine own_rebase (own_keeps ho (((((Keeps.refl [w.heap.size, w.heap.size + 1] w1).setCell (p := ⟨w.heap.size, _, none⟩) (.inl (by simp)) _).setCell (p := ⟨w.heap.size + 1, _, none⟩) (.inl (by simp)) _).setCell (p := ⟨w.heap.size + 1, _, none⟩) (.inl (by simp)) _).setCell (p := ⟨w.heap.size + 1, _, none⟩) (.inl (by simp)) _) ?_) ?_
    · intro k hk
      have := hge k hk
      simp
      omega
    · intro k hk
      have := hge k hk
      omega
  · refine ((((Below.setCell (p := ⟨w.heap.size, 2, none⟩) ?_ (Nat.le_refl _) _).setCell (p := ⟨w.heap.size + 1, 0, none⟩) (Nat.le_succ _) _).setCell (p := ⟨w.heap.size + 1, 1, none⟩) (Nat.le_succ _) _).setCell (p := ⟨w.heap.size + 1, 2, none⟩) (Nat.le_succ _) _)
    exact (((Below.refl _ w).alloc (Nat.le_refl _) _).alloc (by simp) _).trans (hb.mono (by simp; omega))
end Go.Proofs.Ytgdmejkneabclaa
