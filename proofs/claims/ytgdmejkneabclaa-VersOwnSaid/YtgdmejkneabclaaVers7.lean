/- Contracts of package vers: Pick, List, Same. -/
import Derived.Test.YtgdmejkneabclaaVers6
namespace Go.Proofs.Ytgdmejkneabclaa
open Go.RowKit
set_option linter.unusedSimpArgs false
set_option linter.unusedVariables false

def pickV (l : List VC) (ver done : Int) : Ver :=
  if (atV l (cutV l ver : Int)).ver = ver then atV l (cutV l ver : Int) else if ver < (cleanV l done).ver then cleanV l done else .none

set_option maxHeartbeats 2000000 in
theorem Pick_any (base g : Nat) (sl : Value) (l : List VC) (ver done : Int) (w : World) (h : BlockAt w base g sl l) (hs : Short l) (hr : Rising l) :
    Calls Try.prog 44 #[.pointer (some ⟨g, 0, none⟩), .int .u64 ver, .int .u64 done] w fun e w' => Told w.heap.size w' (pickV l ver done) e ∧ Below w.heap.size w w' := by
  have hl1 := hs.1
  have hcl := (cutV_found l ver).1
  go_enter Try.func44, Try.ntmps44
  go_wp2_with fail
  have hb0 : Below w.heap.size w (((w.alloc (.cells #[.pointer (some ⟨g, 0, none⟩)] 38)).alloc (.cells #[.int .u64 ver] 22)).alloc (.cells #[.int .u64 0, .int .u64 0, .slice none 0 0] 41)) :=
    ((Below.refl _ _).alloc (Nat.le_refl _) _).alloc (by simp) _ |>.alloc (by simp; omega) _
  have ha := h.below hb0
  refine (Len_any base g sl l _ ha).mono ?_
  rintro e w0 ⟨rfl, rfl⟩
  go_wp2_with fail
  refine (Search_any 56 _ l.length (fun i => decide (ver ≤ (l.getD i noVC).v.ver)) _ (by omega) (fun args W => by go_simp) (fun i m hi => ?_)).mono ?_
  · exact pick1_any base g sl l i ver w.heap.size (w.heap.size + 1) _ (ha.drewN m) hs hi (by go_simp) (by go_simp)
  rintro e w1 ⟨⟨r, hf, rfl⟩, m, rfl⟩
  obtain rfl := found_unique (rising_ver hr ver) hf (cutV_found l ver)
  have hb1 := below_drewN hb0 m
  have q0 : ((((w.alloc (.cells #[.pointer (some ⟨g, 0, none⟩)] 38)).alloc (.cells #[.int .u64 ver] 22)).alloc (.cells #[.int .u64 0, .int .u64 0, .slice none 0 0] 41)).drewN m).cell? ⟨w.heap.size, 0, none⟩ = some (.pointer (some ⟨g, 0, none⟩)) := by go_simp
  have q1 : ((((w.alloc (.cells #[.pointer (some ⟨g, 0, none⟩)] 38)).alloc (.cells #[.int .u64 ver] 22)).alloc (.cells #[.int .u64 0, .int .u64 0, .slice none 0 0] 41)).drewN m).cell? ⟨w.heap.size + 1, 0, none⟩ = some (.int .u64 ver) := by go_simp
  have q2 := (Blk.new ((w.alloc (.cells #[.pointer (some ⟨g, 0, none⟩)] 38)).alloc (.cells #[.int .u64 ver] 22)) 41 #[.int .u64 0, .int .u64 0, .slice none 0 0]).drewN m
  simp only [World.size_alloc] at q2
  have hsz : ((((w.alloc (.cells #[.pointer (some ⟨g, 0, none⟩)] 38)).alloc (.cells #[.int .u64 ver] 22)).alloc (.cells #[.int .u64 0, .int .u64 0, .slice none 0 0] 41)).drewN m).heap.size = w.heap.size + 3 := by simp
  generalize ((((w.alloc (.cells #[.pointer (some ⟨g, 0, none⟩)] 38)).alloc (.cells #[.int .u64 ver] 22)).alloc (.cells #[.int .u64 0, .int .u64 0, .slice none 0 0] 41)).drewN m) = X at hb1 q0 q1 q2 hsz ⊢
  have hX := h.below hb1
  clear hb0 ha hf
  go_wp2_with fail
  refine (at_any base g sl l _ _ hX hs).mono ?_
  rintro e w2 ⟨⟨A1, c1, rfl, ho⟩, hb2⟩
  have hs2 := hb2.size
  have l0 : w.heap.size < w2.heap.size := by omega
  have l1 : w.heap.size + 1 < w2.heap.size := by omega
  have l2 : w.heap.size + 1 + 1 < w2.heap.size := by omega
  have a0 := (hb2.cell (p := ⟨w.heap.size, 0, none⟩) (by show w.heap.size < _; omega)).trans q0
  have a1 := (hb2.cell (p := ⟨w.heap.size + 1, 0, none⟩) (by show w.heap.size + 1 < _; omega)).trans q1
  have a2 := q2.below hb2 (by omega)
  have y0 := a2.cell 0
  have y1 := a2.cell 1
  have y2 := a2.cell 2
  have f2 := a2.frozen
  simp only [List.getElem?_toArray, List.getElem?_cons_zero, List.getElem?_cons_succ] at y0 y1 y2
  have h2 := hX.below hb2
  have hbw2 : Below w.heap.size w w2 := hb1.trans (hb2.mono (by omega))
  obtain ⟨V, hV⟩ : ∃ V, atV l (cutV l ver : Int) = V := ⟨_, rfl⟩
  obtain ⟨C, hC⟩ : ∃ C, cleanV l done = C := ⟨_, rfl⟩
  have hP : pickV l ver done = if V.ver = ver then V else if ver < C.ver then C else .none := by unfold pickV; rw [hV, hC]
  rw [hV] at ho ⊢
  have hgeA := own_ge ho
  by_cases hq : V.ver = ver
  · have HP : Hid (pickV l ver done = V) := by show _ = _; rw [hP, if_pos hq]
    have tq : (V.ver == ver) = true := by simpa using hq
    clear hP hq hV hC
    go_wp2_with fail
    rw [HP.out]
    refine bodyPost_ret (v := .agg #[.int .u64 V.ver, .int .u64 V.seq, .slice A1 V.data.length c1]) (by simp [results, Try.results44, go_sem, y0, y1, y2, l2]) rfl ⟨⟨A1, c1, rfl, ?_⟩, ?_⟩
    · refine own_rebase (own_keeps ho (((((Keeps.refl [w.heap.size + 2] w2).setCell (p := ⟨w.heap.size + 2, _, none⟩) (.inl (by simp)) _).setCell (p := ⟨w.heap.size + 2, _, none⟩) (.inl (by simp)) _).setCell (p := ⟨w.heap.size + 2, _, none⟩) (.inl (by simp)) _).alloc _) ?_) ?_
      · intro k hk
        have := hgeA k hk
        simp
        omega
      · intro k hk
        have := hgeA k hk
        omega
    · exact ((((hbw2.setCell (p := ⟨w.heap.size + 2, _, none⟩) (by simp) _).setCell (p := ⟨w.heap.size + 2, _, none⟩) (by simp) _).setCell (p := ⟨w.heap.size + 2, _, none⟩) (by simp) _).alloc (by simp; omega) _)
  · have tq : (V.ver == ver) = false := by simpa using hq
    have hP2 : pickV l ver done = if ver < C.ver then C else .none := by rw [hP, if_neg hq]
    clear hP hq hV
    go_wp2_with fail
    have h3 : BlockAt (w2.alloc (.cells #[.int .u64 V.ver, .int .u64 V.seq, .slice A1 V.data.length c1] 41)) base g sl l := h2.below ((Below.refl _ _).alloc (Nat.le_refl _) _)
    refine (Clean_any base g sl l done _ h3 hs hr).mono ?_
    rintro e w3 ⟨⟨A2, c2, rfl, ho2⟩, hb3⟩
    have hs3 := hb3.size
    simp only [World.size_alloc] at hs3 ho2
    have l30 : w.heap.size < w3.heap.size := by omega
    have l31 : w.heap.size + 1 < w3.heap.size := by omega
    have l3 : w.heap.size + 1 + 1 < w3.heap.size := by omega
    have hk3 : Below w2.heap.size w2 w3 := ((Below.refl _ _).alloc (Nat.le_refl _) _).trans (hb3.mono (by simp))
    have d1 := (hk3.cell (p := ⟨w.heap.size + 1, 0, none⟩) (by show w.heap.size + 1 < _; omega)).trans a1
    have d2 := a2.below hk3 (by omega)
    have z0 := d2.cell 0
    have z1 := d2.cell 1
    have z2 := d2.cell 2
    have g2 := d2.frozen
    simp only [List.getElem?_toArray, List.getElem?_cons_zero, List.getElem?_cons_succ] at z0 z1 z2
    have hbw3 : Below w.heap.size w w3 := hbw2.trans (hk3.mono (by omega))
    rw [hC] at ho2 ⊢
    have hgeB := own_ge ho2
    clear y0 y1 y2 f2 a0 a1 hC
    by_cases hq : ver < C.ver
    · have HP : Hid (pickV l ver done = C) := by show _ = _; rw [hP2, if_pos hq]
      clear hP2
      go_wp2_with fail
      rw [HP.out]
      refine bodyPost_ret (v := .agg #[.int .u64 C.ver, .int .u64 C.seq, .slice A2 C.data.length c2]) (by simp [results, Try.results44, go_sem, z0, z1, z2, l3]) rfl ⟨⟨A2, c2, rfl, ?_⟩, ?_⟩
      · refine own_rebase (own_keeps ho2 (((((Keeps.refl [w.heap.size + 2] w3).setCell (p := ⟨w.heap.size + 2, _, none⟩) (.inl (by simp)) _).setCell (p := ⟨w.heap.size + 2, _, none⟩) (.inl (by simp)) _).setCell (p := ⟨w.heap.size + 2, _, none⟩) (.inl (by simp)) _).alloc _) ?_) ?_
        · intro k hk
          have := hgeB k hk
          simp
          omega
        · intro k hk
          have := hgeB k hk
          omega
      · exact ((((hbw3.setCell (p := ⟨w.heap.size + 2, _, none⟩) (by simp) _).setCell (p := ⟨w.heap.size + 2, _, none⟩) (by simp) _).setCell (p := ⟨w.heap.size + 2, _, none⟩) (by simp) _).alloc (by simp; omega) _)
    · have HP : Hid (pickV l ver done = .none) := by show _ = _; rw [hP2, if_neg hq]
      clear hP2
      go_wp2_with fail
      rw [HP.out]
      refine bodyPost_ret (v := .agg #[.int .u64 0, .int .u64 0, .slice none 0 0]) (by simp [results, Try.results44, go_sem, z0, z1, z2, l3]) rfl ⟨⟨none, 0, rfl, World.ownsRow_nil _ _ _ _⟩, ?_⟩
      exact ((((hbw3.setCell (p := ⟨w.heap.size + 2, _, none⟩) (by simp) _).setCell (p := ⟨w.heap.size + 2, _, none⟩) (by simp) _).setCell (p := ⟨w.heap.size + 2, _, none⟩) (by simp) _).alloc (by simp; omega) _)
end Go.Proofs.Ytgdmejkneabclaa
