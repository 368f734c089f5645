/- Contracts of package vers: Last, sort.Search over a closure, clean, Clean, Dirty. -/
import Derived.Test.YtgdmejkneabclaaVers2
namespace Go.Proofs.Ytgdmejkneabclaa
open Go.RowKit
set_option linter.unusedSimpArgs false
set_option linter.unusedVariables false

/-- A struct told by a callee, stored into this call's own result. -/
theorem told_grow {B B' : Nat} {w : World} {v : Ver} {e : Ending} (h : Told B w v e) (hb : B' ≤ B) : Told B' w v e := by
  obtain ⟨A, c, he, ho⟩ := h
  exact ⟨A, c, he, own_rebase ho fun k hk => Nat.le_trans hb (own_ge ho k hk)⟩

set_option maxHeartbeats 1000000 in
theorem Last_any (base g : Nat) (sl : Value) (l : List VC) (w : World) (h : BlockAt w base g sl l) (hs : Short l) :
    Calls Try.prog 24 #[.pointer (some ⟨g, 0, none⟩)] w fun e w' => Told w.heap.size w' (atV l ((l.length : Int) - 1)) e ∧ Below w.heap.size w w' := by
  have hl1 := hs.1
  have ha : BlockAt (w.alloc (.cells #[.int .u64 0, .int .u64 0, .slice none 0 0] 41)) base g sl l := h.below ((Below.refl _ _).alloc (Nat.le_refl _) _)
  go_enter Try.func24, Try.ntmps24
  go_wp2_with fail
  refine (Len_any base g sl l _ ha).mono ?_
  rintro e w0 ⟨rfl, rfl⟩
  go_wp2_with fail
  refine (at_any base g sl l _ _ ha hs).mono ?_
  rintro e w1 ⟨⟨A1, c1, rfl, ho⟩, hb1⟩
  obtain ⟨hcell, hfz⟩ := old_cells hb1
  have hs1 := hb1.size
  simp only [World.size_alloc] at hcell hfz hs1 ho
  have l1 : w.heap.size < w1.heap.size := by omega
  have y0 : w1.cell? ⟨w.heap.size, 0, none⟩ = some (.int .u64 0) := by rw [hcell _ _ (by omega)]; go_simp
  have y1 : w1.cell? ⟨w.heap.size, 1, none⟩ = some (.int .u64 0) := by rw [hcell _ _ (by omega)]; go_simp
  have y2 : w1.cell? ⟨w.heap.size, 2, none⟩ = some (.slice none 0 0) := by rw [hcell _ _ (by omega)]; go_simp
  have f1 : ∀ o, w1.frozen? ⟨w.heap.size, o, none⟩ = false := fun o => by rw [hfz _ _ (by omega)]; go_simp
  clear hcell hfz
  have hge := own_ge ho
  go_wp2_with fail
  refine bodyPost_ret (v := .agg #[.int .u64 (atV l ((l.length : Int) - 1)).ver, .int .u64 (atV l ((l.length : Int) - 1)).seq, .slice A1 (atV l ((l.length : Int) - 1)).data.length c1]) (by simp [results, Try.results24, go_sem, y0, y1, y2]) rfl ⟨⟨A1, c1, rfl, ?_⟩, ?_⟩
  · refine own_rebase (own_keeps ho ((((Keeps.refl [w.heap.size] w1).setCell (p := ⟨w.heap.size, _, none⟩) (.inl (by simp)) _).setCell (p := ⟨w.heap.size, _, none⟩) (.inl (by simp)) _).setCell (p := ⟨w.heap.size, _, none⟩) (.inl (by simp)) _) ?_) ?_
    · intro j hj
      have := hge j hj
      simp
      omega
    · intro j hj
      have := hge j hj
      omega
  · refine (((Below.setCell (p := ⟨w.heap.size, 0, none⟩) ?_ (Nat.le_refl _) _).setCell (p := ⟨w.heap.size, 1, none⟩) (Nat.le_refl _) _).setCell (p := ⟨w.heap.size, 2, none⟩) (Nat.le_refl _) _)
    exact ((Below.refl _ w).alloc (Nat.le_refl _) _).trans (hb1.mono (by simp))

/-- sort.Search: the first place at which what is asked holds, if it holds from somewhere on; at any rate a place where it turns. -/
def Found (n : Nat) (p : Nat → Bool) (r : Nat) : Prop := r ≤ n ∧ (0 < r → p (r - 1) = false) ∧ (r < n → p r = true)

set_option maxHeartbeats 1000000 in
theorem Search_any (F : Nat) (caps : Array Value) (n : Nat) (p : Nat → Bool) (w : World) (hn : n ≤ 1000000)
    (henter : ∀ (args : Array Value) (W : World), (callFunc F args).run Try.prog W = .ok (.enter F args) W)
    (hc : ∀ (i m : Nat), i < n → Calls Try.prog F (#[.int .i64 (i : Int)] ++ caps) (w.drewN m) fun e w' => e = .returned (.bool (p i)) ∧ ∃ k, w' = (w.drewN m).drewN k) :
    Calls Try.prog 55 #[.int .i64 (n : Int), .func (.func F) #[] caps] w fun e w' => (∃ r, Found n p r ∧ e = .returned (.int .i64 (r : Int))) ∧ Drawn w w' := by
  go_enter Try.func55, Try.ntmps55
  go_wp2_with fail
  have HC := Lib.hid hc; clear hc
  go_loopw [5, 6, 7] (fun i j _ wr => ∃ a b m : Nat, a ≤ b ∧ b ≤ n ∧ i = .int .i64 (a : Int) ∧ j = .int .i64 (b : Int) ∧ wr = w.drewN m ∧ Hid ((0 < a → p (a - 1) = false) ∧ (b < n → p b = true))) (fun i j _ _ => ((intOf j) - (intOf i)).toNat)
  case atStart => exact ⟨0, n, 0, Nat.zero_le _, Nat.le_refl _, rfl, rfl, rfl, ⟨fun h => by omega, fun h => by omega⟩⟩
  case round =>
    obtain ⟨a, b, m, hab, hbn, rfl, rfl, rfl, hp⟩ := hrel
    by_cases hlt : a < b
    · obtain ⟨q, hq⟩ : ∃ q : Nat, q = (a + b) / 2 := ⟨_, rfl⟩
      have hq1 : a ≤ q := by omega
      have hq2 : q < b := by omega
      have hqe : ((a : Int) + (b : Int)) / 2 = (q : Int) := by omega
      cases hpq : p q with
      | false =>
        have Hpq := Lib.hid hpq; clear hpq
        have Hq := Lib.hid hq; clear hq
        go_wp2_with fail
        refine (HC.out q m (by omega)).mono ?_
        rintro e w1 ⟨rfl, k, rfl⟩
        rw [Hpq.out]
        go_wp2_with fail
        go_roundw
        case rel => exact ⟨q + 1, b, m + k, by omega, hbn, by go_num, rfl, rfl, ⟨fun _ => by simpa using Hpq.out, hp.out.2⟩⟩
        case measure => simp [intOf]; omega
      | true =>
        have Hpq := Lib.hid hpq; clear hpq
        have Hq := Lib.hid hq; clear hq
        go_wp2_with fail
        refine (HC.out q m (by omega)).mono ?_
        rintro e w1 ⟨rfl, k, rfl⟩
        rw [Hpq.out]
        go_wp2_with fail
        go_roundw
        case rel => exact ⟨a, q, m + k, hq1, by omega, rfl, by go_num, rfl, ⟨hp.out.1, fun _ => Hpq.out⟩⟩
        case measure => simp [intOf]; omega
    · have hab' : a = b := by omega
      subst hab'
      go_wp2_with fail
      go_ret
      exact ⟨⟨a, ⟨hbn, hp.out.1, hp.out.2⟩, rfl⟩, m, rfl⟩
end Go.Proofs.Ytgdmejkneabclaa
