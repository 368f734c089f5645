/- Contracts of package vers: List, Same. -/
import Derived.Test.YtgdmejkneabclaaVers7
import Derived.OwnWalk
import Derived.Laws.OwnMore
namespace Go.Proofs.Ytgdmejkneabclaa
open Go.RowKit
set_option linter.unusedSimpArgs false
set_option linter.unusedVariables false

theorem cells_made (n : Nat) : (madeCells #[.int .u64 0, .int .u64 0, .slice none 0 0] (n * 3)).toList = (List.replicate n noVC).flatMap VC.cells := by
  apply List.ext_getElem?
  intro j
  by_cases hj : j < n * 3
  · have h1 := cells_get (List.replicate n noVC) noVC (j / 3) (j % 3) (by simp; omega) (by omega)
    have e : j / 3 * 3 + j % 3 = j := by omega
    rw [e] at h1
    have h2 : (List.replicate n noVC).getD (j / 3) noVC = noVC := by
      rw [List.getD_eq_getElem?_getD, List.getElem?_replicate]
      split <;> rfl
    rw [h1, h2]
    have h3 : (madeCells #[.int .u64 0, .int .u64 0, .slice none 0 0] (n * 3)).toList[j]? = some (#[Value.int .u64 0, .int .u64 0, .slice none 0 0][j % 3]!) := by simp [madeCells, hj]
    rw [h3]
    have h4 : j % 3 < 3 := by omega
    generalize j % 3 = k at h4
    rcases k with _ | _ | _ | k
    · rfl
    · rfl
    · rfl
    · omega
  · rw [List.getElem?_eq_none (by simp [madeCells]; omega), List.getElem?_eq_none (by rw [cells_length, List.length_replicate]; omega)]

theorem cells_set (l : List VC) (x : VC) : ∀ k, k < l.length → (((l.flatMap VC.cells).set (k * 3) (.int .u64 x.v.ver)).set (k * 3 + 1) (.int .u64 x.v.seq)).set (k * 3 + 2) x.sl = (l.set k x).flatMap VC.cells := by
  induction l with
  | nil => intro k h; simp at h
  | cons y l ih =>
    intro k hk
    cases k with
    | zero => simp [VC.cells]
    | succ k =>
      have := ih k (by simpa using hk)
      simp only [List.flatMap_cons, List.set_cons_succ]
      rw [← this]
      have e : (k + 1) * 3 = k * 3 + 1 + 1 + 1 := by omega
      have e1 : (k + 1) * 3 + 1 = k * 3 + 1 + 1 + 1 + 1 := by omega
      have e2 : (k + 1) * 3 + 2 = k * 3 + 2 + 1 + 1 + 1 := by omega
      rw [e1, e2, e]
      simp [VC.cells]

/-- A row of versions of the call's own, each with bytes of its own. -/
structure RowAt (w : World) (B : Nat) (sl : Value) (l : List VC) : Prop where
  own : w.ownsRow B 41 3 sl l.length (l.flatMap VC.cells)
  data : ∀ x ∈ l, w.ownsRow B 5 1 x.sl x.v.data.length (x.v.data.map bv)

theorem RowAt.below {w w' : World} {B : Nat} {sl : Value} {l : List VC} (h : RowAt w B sl l) (hb : Below w.heap.size w w') : RowAt w' B sl l :=
  ⟨own_below h.own hb (own_lt h.own), fun x hx => own_below (h.data x hx) hb (own_lt (h.data x hx))⟩
theorem RowAt.keeps {w w' : World} {B : Nat} {sl : Value} {l : List VC} {S : List Nat} (h : RowAt w B sl l) (hk : Keeps S w w') (h2 : ∀ k ∈ sl.ownBlock, k ∉ S) (h3 : ∀ x ∈ l, ∀ k ∈ x.sl.ownBlock, k ∉ S) : RowAt w' B sl l :=
  ⟨own_keeps h.own hk h2, fun x hx => own_keeps (h.data x hx) hk (h3 x hx)⟩
theorem RowAt.at_ {w : World} {B : Nat} {sl : Value} {l : List VC} (h : RowAt w B sl l) (i : Nat) (hi : i < l.length) (d : VC) :
    ∃ b c, sl = .slice (some ⟨b, 0, none⟩) l.length c ∧ b < w.heap.size ∧ w.cell? ⟨b, i * 3, none⟩ = some (.int .u64 (l.getD i d).v.ver) ∧ w.cell? ⟨b, i * 3 + 1, none⟩ = some (.int .u64 (l.getD i d).v.seq) ∧
      w.cell? ⟨b, i * 3 + 2, none⟩ = some (.slice (l.getD i d).A (l.getD i d).v.data.length (l.getD i d).c) := by
  obtain ⟨b, cap, hv, _, hlt⟩ := h.own.form (by omega)
  refine ⟨b, cap, hv, hlt, ?_, ?_, ?_⟩
  · have := h.own.cells (g := b) (by rw [hv]; rfl) (i * 3) (.int .u64 (l.getD i d).v.ver) (by have := cells_get l d i 0 hi (by omega); simpa [VC.cells] using this)
    rw [add_lit0] at this
    simpa using this
  · have := h.own.cells (g := b) (by rw [hv]; rfl) (i * 3 + 1) (.int .u64 (l.getD i d).v.seq) (by have := cells_get l d i 1 hi (by omega); simpa [VC.cells] using this)
    rw [add_lit0] at this
    simpa using this
  · have := h.own.cells (g := b) (by rw [hv]; rfl) (i * 3 + 2) (l.getD i d).sl (by have := cells_get l d i 2 hi (by omega); simpa [VC.cells] using this)
    rw [add_lit0] at this
    simpa [VC.sl] using this

set_option maxRecDepth 100000 in
set_option maxHeartbeats 2000000 in
theorem List_any (base g : Nat) (sl : Value) (l : List VC) (w : World) (h : BlockAt w base g sl l) (hs : Short l) :
    Calls Try.prog 39 #[.pointer (some ⟨g, 0, none⟩)] w fun e w' =>
      (∃ so L, e = .returned so ∧ RowAt w' w.heap.size so L ∧ L.map VC.v = l.map VC.v) ∧ Below w.heap.size w w' := by
  have hl1 := hs.1
  obtain ⟨i0, hi0, hz0, hz1, hz2⟩ := info_parts info_ver
  go_enter Try.func39, Try.ntmps39
  go_wp2_with fail
  refine (Len_any base g sl l _ h).mono ?_
  rintro e w0 ⟨rfl, rfl⟩
  go_wp2_with (refine wpList_make_full _ rfl (.tmp 6) (.tmp 6) _ rfl w.heap.size 41 i0 _ 3 Try.underlying78 hi0 hz0 hz1 .i64 .i64 _ _ l.length rfl rfl rfl rfl ?b2 ?b3 ?b4 ?hK)
  case b2 => rw [hz2]; omega
  case b3 => unfold maxLen; omega
  case b4 => omega
  case hK =>
    intro w1 ho1 hg1
    have hb1 : Below w.heap.size w w1 := (Keeps.of_grown hg1).nil_below
    have hR1 : RowAt w1 w.heap.size (.slice (some ⟨w.heap.size, 0, none⟩) l.length l.length) (List.replicate l.length noVC) := by
      refine ⟨?_, fun x hx => ?_⟩
      · rw [List.length_replicate, ← cells_made]; exact ho1
      · rw [List.eq_of_mem_replicate hx]; exact World.ownsRow_nil _ _ _ _
    clear ho1 hg1
    go_wp2_with fail
    go_loopw [10] (fun i wr => ∃ (k : Nat) (L : List VC), k ≤ l.length ∧ i = .int .i64 k ∧ L.length = l.length ∧ (∀ j, j < k → (L.getD j noVC).v = (l.getD j noVC).v) ∧
      RowAt wr w.heap.size (.slice (some ⟨w.heap.size, 0, none⟩) l.length l.length) L ∧ Below w.heap.size w wr) (fun i _ => l.length - (intOf i).toNat)
    case atStart => exact ⟨0, _, Nat.zero_le _, rfl, by simp, fun j hj => by omega, hR1, hb1⟩
    case round =>
      obtain ⟨k, L, hk, rfl, hL, hv, hR, hb⟩ := hrel
      by_cases hlt : k < l.length
      · have h1 := h.below hb
        have HV := Lib.hid hv
        clear hv
        go_wp2_with fail
        refine (at_any base g sl l k _ h1 hs).mono ?_
        rintro e w2 ⟨⟨A1, c1, rfl, ho⟩, hb2⟩
        have hx : atV l (k : Int) = (l.getD k noVC).v := by unfold atV; rw [if_pos (by omega)]; rfl
        rw [hx] at ho ⊢
        obtain ⟨x, hxe⟩ : ∃ x : Ver, (l.getD k noVC).v = x := ⟨_, rfl⟩
        rw [hxe] at ho ⊢
        have HX := Lib.hid hxe
        have hR2 := hR.below hb2
        have hown := hR2.own
        rw [hL] at hown
        have m0 := hown.cellAt (k * 3) (by omega)
        have m1 := hown.cellAt (k * 3 + 1) (by omega)
        have m2 := hown.cellAt (k * 3 + 2) (by omega)
        have fz := hown.frozenAt
        have hlen : (L.flatMap VC.cells).length = l.length * 3 := by rw [cells_length, hL]
        rw [List.getElem?_eq_getElem (by omega)] at m0 m1 m2
        have hs2 := hb2.size
        have hgeo := own_ge ho
        clear hxe hx
        go_wp2_with fail
        have hkeep := (((Keeps.refl [w.heap.size] w2).setCell (p := ⟨w.heap.size, k * 3, none⟩) (.inl (by simp)) (.int .u64 x.ver)).setCell (p := ⟨w.heap.size, k * 3 + 1, none⟩) (.inl (by simp)) (.int .u64 x.seq)).setCell (p := ⟨w.heap.size, k * 3 + 2, none⟩) (.inl (by simp)) (.slice A1 x.data.length c1)
        have hst := ((hown.stored (k * 3) (.int .u64 x.ver)).1.stored (k * 3 + 1) (.int .u64 x.seq)).1.stored (k * 3 + 2) (.slice A1 x.data.length c1)
        have hcs := cells_set L ⟨x, A1, c1⟩ k (by omega)
        simp only [VC.sl] at hcs
        rw [hcs] at hst
        refine ⟨⟨k + 1, L.set k ⟨x, A1, c1⟩, by omega, rfl, by simp [hL], fun j hj => ?_, ⟨by rw [List.length_set, hL]; exact hst.1, fun y hy => ?_⟩, ?_⟩, by simp [intOf]; omega⟩
        · rw [List.getD_eq_getElem?_getD, List.getElem?_set]
          by_cases hjk : k = j
          · subst hjk
            rw [if_pos rfl, if_pos (by omega)]
            exact HX.out.symm
          · rw [if_neg hjk, ← List.getD_eq_getElem?_getD]
            exact HV.out j (by omega)
        · have hd : w2.ownsRow w.heap.size 5 1 y.sl y.v.data.length (y.v.data.map bv) := by
            rcases List.mem_or_eq_of_mem_set hy with hy | rfl
            · exact hR2.data y hy
            · exact own_rebase ho fun k hk => Nat.le_trans hb.size (hgeo k hk)
          exact own_keeps hd hkeep fun j hj hm => own_own_ne hd hown (by decide) j hj (by rw [show j = w.heap.size by simpa using hm]; rfl)
        · exact (((hb.trans (hb2.mono hb.size)).setCell (p := ⟨w.heap.size, k * 3, none⟩) (Nat.le_refl _) _).setCell (p := ⟨w.heap.size, k * 3 + 1, none⟩) (Nat.le_refl _) _).setCell (p := ⟨w.heap.size, k * 3 + 2, none⟩) (Nat.le_refl _) _
      · have hkl : k = l.length := by omega
        subst hkl
        go_wp2_with fail
        go_ret
        refine ⟨⟨_, L, rfl, hR, ?_⟩, hb⟩
        apply List.ext_getElem?
        intro j
        rw [List.getElem?_map, List.getElem?_map]
        by_cases hj : j < l.length
        · have := hv j hj
          rw [List.getD_eq_getElem?_getD, List.getD_eq_getElem?_getD, List.getElem?_eq_getElem hj, List.getElem?_eq_getElem (by omega)] at this
          rw [List.getElem?_eq_getElem hj, List.getElem?_eq_getElem (by omega)]
          simpa using this
        · rw [List.getElem?_eq_none (by omega), List.getElem?_eq_none (by omega)]
end Go.Proofs.Ytgdmejkneabclaa
