/- Contracts of the document's answer, layer 15: Pick, Put. -/
import Derived.Test.YtgdmejkneabclaaRef15b
namespace Go.Proofs.Ytgdmejkneabclaa
open Go.RowKit
set_option linter.unusedSimpArgs false
set_option linter.unusedVariables false

def Pos (l : List VC) : Prop := ∀ x ∈ l, 0 < x.v.ver ∧ 0 < x.v.seq
theorem Pos.at_ {l : List VC} (h : Pos l) (k : Nat) (hk : k < l.length) : 0 < (l.getD k noVC).v.ver ∧ 0 < (l.getD k noVC).v.seq := by
  rw [List.getD_eq_getElem?_getD, List.getElem?_eq_getElem hk]
  exact h _ (List.getElem_mem _)
theorem atV_lt (l : List VC) (k : Nat) (hk : k < l.length) : atV l (k : Int) = (l.getD k noVC).v := by
  unfold atV
  rw [if_pos (by omega)]
  rfl
theorem pick_hit {l : List VC} (hr : Rising l) (ver done : Int) (k : Nat) (hk : k < l.length) (h : (l.getD k noVC).v.ver = ver) : pickV l ver done = (l.getD k noVC).v := by
  have hf : Found l.length (fun i => decide (ver ≤ (l.getD i noVC).v.ver)) k := by
    refine ⟨by omega, fun h0 => ?_, fun _ => decide_eq_true (by omega)⟩
    have := (hr (k - 1) k (by omega) hk).2
    simp only [decide_eq_false_iff_not]
    omega
  have e := found_unique (rising_ver hr ver) (cutV_found l ver) hf
  unfold pickV
  rw [e, atV_lt l k hk, if_pos h]
theorem pick_miss {l : List VC} (hp : Pos l) (ver done : Int) (h : ∀ j, j < l.length → (l.getD j noVC).v.ver ≠ ver) : pickV l ver done = if ver < (cleanV l done).ver then cleanV l done else .none := by
  have hf := cutV_found l ver
  unfold pickV
  rcases Nat.lt_or_ge (cutV l ver) l.length with h1 | h1
  · rw [atV_lt l _ h1, if_neg (h _ h1)]
  · have e : atV l (cutV l ver : Int) = .none := by unfold atV; rw [if_neg (by omega)]
    rw [e]
    by_cases hv : Ver.none.ver = ver
    · rw [if_pos hv]
      have hv0 : ver = 0 := hv.symm
      have hl : l.length = 0 := by
        rcases Nat.eq_zero_or_pos l.length with h0 | h0
        · exact h0
        · have h2 := hf.2.1 (by omega)
          have h3 := (hp.at_ (cutV l ver - 1) (by have := hf.1; omega)).1
          simp only [decide_eq_false_iff_not] at h2
          omega
      have : cleanV l done = .none := by unfold cleanV atV; rw [if_neg (by omega)]
      rw [this, hv0]
      rfl
    · rw [if_neg hv]

/-- One of the versions is told, or none. -/
def TellsC (l : List VC) (e : Ending) (V : Ver) : Prop := ∃ x, (x ∈ l ∨ x = noVC) ∧ x.v = V ∧ e = .returned x.agg

set_option maxHeartbeats 2000000 in
theorem refPick_any (base : Nat) (sl : Value) (l : List VC) (ver done : Int) (w : World) (h : RefAt w base sl l) (hl : l.length ≤ 1000) (hr : Rising l) (hp : Pos l) :
    Calls Try.prog 45 #[sl, .int .u64 ver, .int .u64 done] w fun e w' => TellsC l e (pickV l ver done) ∧ Below w.heap.size w w' := by
  obtain ⟨A, c, hsl, hlc, hcm⟩ := own_form h
  have hhit := pick_hit hr ver done
  have hmiss := pick_miss hp ver done
  have HH := Lib.hid hhit; have HM := Lib.hid hmiss; have HP := Lib.hid hp
  have HS := Lib.hid hsl
  have HR := Lib.hid hr
  rw [hsl]
  clear hhit hmiss hsl hp hr
  go_enter Try.func45, Try.ntmps45
  go_wp2_with fail
  have hb1 : Below w.heap.size w (w.alloc (.cells #[.int .u64 0, .int .u64 0, .slice none 0 0] 69)) := (Below.refl _ _).alloc (Nat.le_refl _) _
  have hz1 : Blk (w.alloc (.cells #[.int .u64 0, .int .u64 0, .slice none 0 0] 69)) w.heap.size 69 (arr noVC) := Blk.new w _ _
  generalize (w.alloc (.cells #[.int .u64 0, .int .u64 0, .slice none 0 0] 69)) = w1 at hb1 hz1 ⊢
  have h1 : RefAt w1 base sl l := own_below h hb1 (own_lt h)
  go_loopw [7] (fun i wr => ∃ k : Nat, k ≤ l.length ∧ i = .int .i64 k ∧ wr = w1 ∧ ∀ j, j < k → (l.getD j noVC).v.ver ≠ ver) (fun i _ => l.length - (intOf i).toNat)
  case atStart => exact ⟨0, Nat.zero_le _, rfl, rfl, fun j hj => by omega⟩
  case round =>
    obtain ⟨k, hk, rfl, rfl, hv⟩ := hrel
    have l1 := hz1.lt
    have d0 := hz1.cell 0
    have d1 := hz1.cell 1
    have d2 := hz1.cell 2
    have f0 := hz1.frozen
    simp only [arr, noVC, List.getElem?_toArray, List.getElem?_cons_zero, List.getElem?_cons_succ] at d0 d1 d2
    by_cases hlt : k < l.length
    · obtain ⟨b, c', he, hbl, e0, e1, e2⟩ := ref_at h1 k hlt noVC
      rw [HS.out] at he
      injection he with he1 he2 he3
      subst he1
      subst he3
      obtain ⟨x, hx⟩ : ∃ x, x = l.getD k noVC := ⟨_, rfl⟩
      have hh := HH.out k hlt
      rw [← hx] at e0 e1 e2 hh
      have HX := Lib.hid hx; have HV := Lib.hid hv
      clear hx hv he2
      by_cases hq : x.v.ver = ver
      · have tq : (x.v.ver == ver) = true := by simpa using hq
        have HQ2 := Lib.hid (hh hq)
        clear hh hq
        go_wp2_with fail
        refine bodyPost_ret (v := x.agg) (by simp [results, Try.results45, go_sem, VC.agg, d0, d1, d2]) rfl ⟨⟨x, .inl ?_, HQ2.out.symm, rfl⟩, ?_⟩
        · rw [HX.out, List.getD_eq_getElem?_getD, List.getElem?_eq_getElem hlt]
          exact List.getElem_mem _
        · exact ((hb1.setCell (p := ⟨w.heap.size, 0, none⟩) (Nat.le_refl _) _).setCell (p := ⟨w.heap.size, 1, none⟩) (Nat.le_refl _) _).setCell (p := ⟨w.heap.size, 2, none⟩) (Nat.le_refl _) _
      · have tq : (x.v.ver == ver) = false := by simpa using hq
        have HQ2 := Lib.hid hq
        clear hh hq
        go_wp2_with fail
        refine ⟨⟨k + 1, by omega, rfl, trivial, fun j hj => ?_⟩, by simp [intOf]; omega⟩
        by_cases hjk : j = k
        · subst hjk
          rw [← HX.out]
          exact HQ2.out
        · exact HV.out j (by omega)
    · have hkl : k = l.length := by omega
      subst hkl
      have hm := HM.out hv
      obtain ⟨C, hC⟩ : ∃ C, cleanC l done = C := ⟨_, rfl⟩
      have hcv := cleanC_v l done
      rw [hC] at hcv
      rw [← hcv] at hm
      have hcl := refClean_any base sl l done _ h1 hl HR.out
      rw [hC] at hcl
      rw [HS.out] at hcl
      have hCm : C ∈ l ∨ C = noVC := by rw [← hC]; exact atC_mem _ _
      have HM2 := Lib.hid hm
      have HCM := Lib.hid hCm
      clear hm hcv hC hv hCm
      go_wp2_with fail
      refine hcl.mono ?_
      rintro e w3 ⟨rfl, hb3⟩
      simp only [VC.agg]
      have hs3 := hb3.size
      have z3 := hz1.below hb3 hz1.lt
      have a0 := z3.cell 0
      have a1 := z3.cell 1
      have a2 := z3.cell 2
      have g0 := z3.frozen
      have hbw : Below w.heap.size w w3 := hb1.trans (hb3.mono (by omega))
      have l3 : w.heap.size < w3.heap.size := by omega
      simp only [arr, noVC, List.getElem?_toArray, List.getElem?_cons_zero, List.getElem?_cons_succ] at a0 a1 a2
      clear d0 d1 d2 f0
      by_cases hq : ver < C.v.ver
      · go_wp2_with fail
        refine bodyPost_ret (v := C.agg) (by simp [results, Try.results45, go_sem, VC.agg, a0, a1, a2, l3]) rfl ⟨⟨C, HCM.out, by rw [HM2.out, if_pos hq], rfl⟩, ?_⟩
        exact (((hbw.setCell (p := ⟨w.heap.size, 0, none⟩) (Nat.le_refl _) _).setCell (p := ⟨w.heap.size, 1, none⟩) (Nat.le_refl _) _).setCell (p := ⟨w.heap.size, 2, none⟩) (Nat.le_refl _) _).alloc (by simp; omega) _
      · go_wp2_with fail
        refine bodyPost_ret (v := noVC.agg) (by simp [results, Try.results45, go_sem, VC.agg, noVC, Ver.none, a0, a1, a2, l3]) rfl ⟨⟨noVC, .inr rfl, by rw [HM2.out, if_neg (by omega)]; rfl, rfl⟩, ?_⟩
        exact (((hbw.setCell (p := ⟨w.heap.size, 0, none⟩) (Nat.le_refl _) _).setCell (p := ⟨w.heap.size, 1, none⟩) (Nat.le_refl _) _).setCell (p := ⟨w.heap.size, 2, none⟩) (Nat.le_refl _) _).alloc (by simp; omega) _
end Go.Proofs.Ytgdmejkneabclaa
