/- Contracts of package vers: the closures of clean and Pick, clean, Clean, Dirty, Pick. -/
import Derived.Test.YtgdmejkneabclaaVers3
namespace Go.Proofs.Ytgdmejkneabclaa
open Go.RowKit
set_option linter.unusedSimpArgs false
set_option linter.unusedVariables false

theorem found_unique {n : Nat} {p : Nat → Bool} {r r' : Nat} (hm : ∀ i j, i ≤ j → j < n → p i = true → p j = true) (h : Found n p r) (h' : Found n p r') : r = r' := by
  rcases Nat.lt_trichotomy r r' with hlt | heq | hlt
  · have h1 := h.2.2 (by have := h'.1; omega)
    have h2 := h'.2.1 (by omega)
    rw [hm r (r' - 1) (by omega) (by have := h'.1; omega) h1] at h2
    cases h2
  · exact heq
  · have h1 := h'.2.2 (by have := h.1; omega)
    have h2 := h.2.1 (by omega)
    rw [hm r' (r - 1) (by omega) (by have := h.1; omega) h1] at h2
    cases h2

def noVC : VC := ⟨.none, none, 0⟩
/-- Numbers rise one by one, and what made them rises. -/
def Rising (l : List VC) : Prop := ∀ i j, i < j → j < l.length → (l.getD i noVC).v.seq < (l.getD j noVC).v.seq ∧ (l.getD j noVC).v.ver = (l.getD i noVC).v.ver + ((j : Int) - (i : Int))
/-- How many versions stand up to a number, from the first on. -/
def cut (l : List VC) (done : Int) : Nat := (l.takeWhile fun x => decide (x.v.seq ≤ done)).length
/-- How many have lesser numbers, from the first on. -/
def cutV (l : List VC) (ver : Int) : Nat := (l.takeWhile fun x => decide (x.v.ver < ver)).length

theorem tw_found (l : List VC) (q : VC → Bool) : Found l.length (fun i => !q (l.getD i noVC)) (l.takeWhile q).length := by
  induction l with
  | nil => exact ⟨Nat.le_refl _, fun h => by simp at h, fun h => by simp at h⟩
  | cons x l ih =>
    by_cases hx : q x = true
    · rw [List.takeWhile_cons_of_pos hx]
      refine ⟨by simpa using ih.1, fun _ => ?_, fun h => ?_⟩
      · rw [List.length_cons, Nat.add_sub_cancel]
        rcases Nat.eq_zero_or_pos (l.takeWhile q).length with h0 | h0
        · rw [h0]; simp [hx]
        · have := ih.2.1 h0
          obtain ⟨m, hm⟩ : ∃ m, (l.takeWhile q).length = m + 1 := ⟨_, (Nat.sub_add_cancel h0).symm⟩
          rw [hm] at this ⊢
          simpa using this
      · have := ih.2.2 (by simpa using h)
        simpa using this
    · rw [List.takeWhile_cons_of_neg hx]
      exact ⟨Nat.zero_le _, fun h => by simp at h, fun _ => by simp [hx]⟩

theorem cut_found (l : List VC) (done : Int) : Found l.length (fun i => decide (done < (l.getD i noVC).v.seq)) (cut l done) := by
  have h := tw_found l (fun x => decide (x.v.seq ≤ done))
  have e : (fun i => !(decide ((l.getD i noVC).v.seq ≤ done))) = fun i => decide (done < (l.getD i noVC).v.seq) := by
    funext i
    rw [← decide_not]
    congr 1
    simp
  rw [← e]
  exact h
theorem cutV_found (l : List VC) (ver : Int) : Found l.length (fun i => decide (ver ≤ (l.getD i noVC).v.ver)) (cutV l ver) := by
  have h := tw_found l (fun x => decide (x.v.ver < ver))
  have e : (fun i => !(decide ((l.getD i noVC).v.ver < ver))) = fun i => decide (ver ≤ (l.getD i noVC).v.ver) := by
    funext i
    rw [← decide_not]
    congr 1
    simp
  rw [← e]
  exact h
theorem rising_seq {l : List VC} (h : Rising l) (done : Int) : ∀ i j, i ≤ j → j < l.length → (decide (done < (l.getD i noVC).v.seq)) = true → decide (done < (l.getD j noVC).v.seq) = true := by
  intro i j hij hj hp
  rcases Nat.eq_or_lt_of_le hij with rfl | hlt
  · exact hp
  · have := (h i j hlt hj).1
    simp only [decide_eq_true_eq] at hp ⊢
    omega
theorem rising_ver {l : List VC} (h : Rising l) (ver : Int) : ∀ i j, i ≤ j → j < l.length → (decide (ver ≤ (l.getD i noVC).v.ver)) = true → decide (ver ≤ (l.getD j noVC).v.ver) = true := by
  intro i j hij hj hp
  rcases Nat.eq_or_lt_of_le hij with rfl | hlt
  · exact hp
  · have := (h i j hlt hj).2
    simp only [decide_eq_true_eq] at hp ⊢
    omega

set_option maxHeartbeats 1000000 in
theorem clean1_any (base g : Nat) (sl : Value) (l : List VC) (i : Nat) (done : Int) (p q : Nat) (w : World) (h : BlockAt w base g sl l) (hs : Short l) (hi : i < l.length)
    (hp : w.cell? ⟨p, 0, none⟩ = some (.pointer (some ⟨g, 0, none⟩))) (hq : w.cell? ⟨q, 0, none⟩ = some (.int .u64 done)) :
    Calls Try.prog 58 #[.int .i64 (i : Int), .pointer (some ⟨p, 0, none⟩), .pointer (some ⟨q, 0, none⟩)] w fun e w' =>
      e = .returned (.bool (decide (done < (l.getD i noVC).v.seq))) ∧ ∃ k, w' = w.drewN k := by
  have hl1 := hs.1
  obtain ⟨A, c, hsl, hlc, hcm⟩ := own_form h.own
  obtain ⟨b, c', he, hb, e0, e1, e2⟩ := h.at_ i hi noVC
  rw [hsl] at he
  injection he with he1 he2 he3
  subst he1
  subst he3
  have c0 : w.cell? ⟨g, 0, none⟩ = some (.slice (some ⟨b, 0, none⟩) l.length c) := by rw [← hsl]; exact h.blk.cell 0
  have hg := h.blk.lt
  obtain ⟨x, hx⟩ : ∃ x, x = l.getD i noVC := ⟨_, rfl⟩
  rw [← hx] at e0 e1 e2 ⊢
  clear hx he2 hsl
  go_enter Try.func58, Try.ntmps58
  go_wp2_with fail
  go_quiet (fail)
  go_wp2_with fail
  go_ret
  exact ⟨rfl, _, rfl⟩

set_option maxHeartbeats 1000000 in
theorem pick1_any (base g : Nat) (sl : Value) (l : List VC) (i : Nat) (ver : Int) (p q : Nat) (w : World) (h : BlockAt w base g sl l) (hs : Short l) (hi : i < l.length)
    (hp : w.cell? ⟨p, 0, none⟩ = some (.pointer (some ⟨g, 0, none⟩))) (hq : w.cell? ⟨q, 0, none⟩ = some (.int .u64 ver)) :
    Calls Try.prog 56 #[.int .i64 (i : Int), .pointer (some ⟨p, 0, none⟩), .pointer (some ⟨q, 0, none⟩)] w fun e w' =>
      e = .returned (.bool (decide (ver ≤ (l.getD i noVC).v.ver))) ∧ ∃ k, w' = w.drewN k := by
  have hl1 := hs.1
  obtain ⟨A, c, hsl, hlc, hcm⟩ := own_form h.own
  obtain ⟨b, c', he, hb, e0, e1, e2⟩ := h.at_ i hi noVC
  rw [hsl] at he
  injection he with he1 he2 he3
  subst he1
  subst he3
  have c0 : w.cell? ⟨g, 0, none⟩ = some (.slice (some ⟨b, 0, none⟩) l.length c) := by rw [← hsl]; exact h.blk.cell 0
  have hg := h.blk.lt
  obtain ⟨x, hx⟩ : ∃ x, x = l.getD i noVC := ⟨_, rfl⟩
  rw [← hx] at e0 e1 e2 ⊢
  clear hx he2 hsl
  go_enter Try.func56, Try.ntmps56
  go_wp2_with fail
  go_quiet (fail)
  go_wp2_with fail
  go_ret
  exact ⟨rfl, _, rfl⟩

set_option maxHeartbeats 1000000 in
theorem clean_any (base g : Nat) (sl : Value) (l : List VC) (done : Int) (w : World) (h : BlockAt w base g sl l) (hs : Short l) (hr : Rising l) :
    Calls Try.prog 51 #[.pointer (some ⟨g, 0, none⟩), .int .u64 done] w fun e w' => e = .returned (.int .i64 ((cut l done : Int) - 1)) ∧ Below w.heap.size w w' := by
  have hl1 := hs.1
  have hcl := (cut_found l done).1
  go_enter Try.func51, Try.ntmps51
  go_wp2_with fail
  refine (Len_any base g sl l _ ?_).mono ?_
  · exact h.below (((Below.refl _ _).alloc (Nat.le_refl _) _).alloc (by simp) _)
  rintro e w0 ⟨rfl, rfl⟩
  go_wp2_with fail
  have ha : BlockAt ((w.alloc (.cells #[.pointer (some ⟨g, 0, none⟩)] 38)).alloc (.cells #[.int .u64 done] 22)) base g sl l := h.below (((Below.refl _ _).alloc (Nat.le_refl _) _).alloc (by simp) _)
  refine (Search_any 58 _ l.length (fun i => decide (done < (l.getD i noVC).v.seq)) _ (by omega) (fun args W => by go_simp) (fun i m hi => ?_)).mono ?_
  · exact clean1_any base g sl l i done w.heap.size (w.heap.size + 1) _ (ha.drewN m) hs hi (by go_simp) (by go_simp)
  rintro e w1 ⟨⟨r, hf, rfl⟩, m, rfl⟩
  obtain rfl := found_unique (rising_seq hr done) hf (cut_found l done)
  go_wp2_with fail
  go_ret
  exact ⟨ret_int (by simp), below_drewN (((Below.refl _ _).alloc (Nat.le_refl _) _).alloc (by simp) _) _⟩

def cleanV (l : List VC) (done : Int) : Ver := atV l ((cut l done : Int) - 1)

set_option maxHeartbeats 1000000 in
theorem Clean_any (base g : Nat) (sl : Value) (l : List VC) (done : Int) (w : World) (h : BlockAt w base g sl l) (hs : Short l) (hr : Rising l) :
    Calls Try.prog 25 #[.pointer (some ⟨g, 0, none⟩), .int .u64 done] w fun e w' => Told w.heap.size w' (cleanV l done) e ∧ Below w.heap.size w w' := by
  have hl1 := hs.1
  have hcl := (cut_found l done).1
  have ha : BlockAt (w.alloc (.cells #[.int .u64 0, .int .u64 0, .slice none 0 0] 41)) base g sl l := h.below ((Below.refl _ _).alloc (Nat.le_refl _) _)
  go_enter Try.func25, Try.ntmps25
  go_wp2_with fail
  refine (clean_any base g sl l done _ ha hs hr).mono ?_
  rintro e w0 ⟨rfl, hb0⟩
  have ha0 := ha.below hb0
  have hs0 := hb0.size
  simp only [World.size_alloc] at hs0
  go_wp2_with fail
  refine (at_any base g sl l _ _ ha0 hs).mono ?_
  rintro e w1 ⟨⟨A1, c1, rfl, ho⟩, hb1⟩
  obtain ⟨hcell, hfz⟩ := old_cells ((hb0.trans (hb1.mono hb0.size)))
  have hs1 := hb1.size
  simp only [World.size_alloc] at hcell hfz
  have l1 : w.heap.size < w1.heap.size := by omega
  have y0 : w1.cell? ⟨w.heap.size, 0, none⟩ = some (.int .u64 0) := by rw [hcell _ _ (by omega)]; go_simp
  have y1 : w1.cell? ⟨w.heap.size, 1, none⟩ = some (.int .u64 0) := by rw [hcell _ _ (by omega)]; go_simp
  have y2 : w1.cell? ⟨w.heap.size, 2, none⟩ = some (.slice none 0 0) := by rw [hcell _ _ (by omega)]; go_simp
  have f1 : ∀ o, w1.frozen? ⟨w.heap.size, o, none⟩ = false := fun o => by rw [hfz _ _ (by omega)]; go_simp
  clear hcell hfz
  obtain ⟨V, hV⟩ : ∃ V, cleanV l done = V := ⟨_, rfl⟩
  have hV2 : atV l ((cut l done : Int) - 1) = V := hV
  rw [hV2] at ho
  rw [hV2]
  have hge := own_ge ho
  have HV := Lib.hid hV
  clear hV hV2
  go_wp2_with fail
  rw [HV.out]
  refine bodyPost_ret (v := .agg #[.int .u64 V.ver, .int .u64 V.seq, .slice A1 V.data.length c1]) (by simp [results, Try.results25, go_sem, y0, y1, y2]) rfl ⟨⟨A1, c1, rfl, ?_⟩, ?_⟩
  · refine own_rebase (own_keeps ho ((((Keeps.refl [w.heap.size] w1).setCell (p := ⟨w.heap.size, _, none⟩) (.inl (by simp)) _).setCell (p := ⟨w.heap.size, _, none⟩) (.inl (by simp)) _).setCell (p := ⟨w.heap.size, _, none⟩) (.inl (by simp)) _) ?_) ?_
    · intro j hj
      have := hge j hj
      simp
      omega
    · intro j hj
      have := hge j hj
      omega
  · refine (((Below.setCell (p := ⟨w.heap.size, 0, none⟩) ?_ (Nat.le_refl _) _).setCell (p := ⟨w.heap.size, 1, none⟩) (Nat.le_refl _) _).setCell (p := ⟨w.heap.size, 2, none⟩) (Nat.le_refl _) _)
    exact ((Below.refl _ w).alloc (Nat.le_refl _) _).trans ((hb0.trans (hb1.mono hb0.size)).mono (by simp))

def dirtyV (l : List VC) (done : Int) : Bool := decide (0 < l.length) && decide (done < (atV l ((l.length : Int) - 1)).seq)

set_option maxHeartbeats 1000000 in
theorem Dirty_any (base g : Nat) (sl : Value) (l : List VC) (done : Int) (w : World) (h : BlockAt w base g sl l) (hs : Short l) :
    Calls Try.prog 26 #[.pointer (some ⟨g, 0, none⟩), .int .u64 done] w fun e w' => e = .returned (.bool (dirtyV l done)) ∧ w = w' := by
  have hl1 := hs.1
  obtain ⟨A, c, hsl, hlc, hcm⟩ := own_form h.own
  have c0 : w.cell? ⟨g, 0, none⟩ = some (.slice A l.length c) := by rw [← hsl]; exact h.blk.cell 0
  have hg := h.blk.lt
  by_cases h0 : 0 < l.length
  · obtain ⟨b, c', he, hb, e0, e1, e2⟩ := h.at_ (l.length - 1) (by omega) noVC
    rw [hsl] at he
    injection he with he1 he2 he3
    subst he1
    subst he3
    have hfin : dirtyV l done = decide (done < (l.getD (l.length - 1) noVC).v.seq) := by
      have e : ((l.length : Int) - 1).toNat = l.length - 1 := by omega
      have hat : atV l ((l.length : Int) - 1) = (l.getD (l.length - 1) noVC).v := by
        unfold atV
        rw [if_pos (by omega), e]
        rfl
      simp only [dirtyV, h0, decide_true, Bool.true_and, hat]
    obtain ⟨x, hx⟩ : ∃ x, x = l.getD (l.length - 1) noVC := ⟨_, rfl⟩
    rw [← hx] at e0 e1 e2 hfin
    have e3 : w.cell? ⟨b, ((l.length : Int) - 1).toNat * 3 + 1, none⟩ = some (.int .u64 x.v.seq) := by
      have e : ((l.length : Int) - 1).toNat = l.length - 1 := by omega
      rw [e]; exact e1
    have Hf := Lib.hid hfin
    clear hfin hx he2 hsl
    go_enter Try.func26, Try.ntmps26
    go_wp2_with fail
    refine (Len_any base g sl l _ h).mono ?_
    rintro e w0 ⟨rfl, rfl⟩
    go_wp2_with fail
    go_ret
    exact ⟨by rw [Hf.out]; rfl, rfl⟩
  · have h00 : l.length = 0 := by omega
    have hfin : Hid (dirtyV l done = false) := by show _ = _; simp [dirtyV, h00]
    go_enter Try.func26, Try.ntmps26
    go_wp2_with fail
    refine (Len_any base g sl l _ h).mono ?_
    rintro e w0 ⟨rfl, rfl⟩
    rw [h00]
    go_wp2_with fail
    go_ret
    exact ⟨by rw [hfin.out]; rfl, rfl⟩
end Go.Proofs.Ytgdmejkneabclaa
