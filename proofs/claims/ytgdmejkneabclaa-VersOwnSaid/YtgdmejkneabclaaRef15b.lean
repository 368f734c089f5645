/- Contracts of the document's answer, layer 15: Dirty, Clean. -/
import Derived.Test.YtgdmejkneabclaaRef15
namespace Go.Proofs.Ytgdmejkneabclaa
open Go.RowKit
set_option linter.unusedSimpArgs false
set_option linter.unusedVariables false

theorem refField0 (a b : Int) (c : Value) (w : World) : (Instr.field 69 (.agg #[.int .u64 a, .int .u64 b, c]) 0).run Try.prog w = .ok (.int .u64 a) w := by kernel_rfl
theorem refField1 (a b : Int) (c : Value) (w : World) : (Instr.field 69 (.agg #[.int .u64 a, .int .u64 b, c]) 1).run Try.prog w = .ok (.int .u64 b) w := by kernel_rfl

set_option maxHeartbeats 1000000 in
theorem refDirty_any (base : Nat) (sl : Value) (l : List VC) (done : Int) (w : World) (h : RefAt w base sl l) (hl : l.length ≤ 1000) :
    Calls Try.prog 43 #[sl, .int .u64 done] w fun e w' => e = .returned (.bool (dirtyV l done)) ∧ Below w.heap.size w w' := by
  obtain ⟨A, c, hsl, hlc, hcm⟩ := own_form h
  by_cases h0 : l.length = 0
  · have hd : Hid (dirtyV l done = false) := by show _ = _; simp [dirtyV, h0]
    rw [hsl, h0]
    clear h0
    go_enter Try.func43, Try.ntmps43
    go_wp2_with fail
    go_ret
    exact ⟨by rw [hd.out]; rfl, Below.refl _ _⟩
  · have p3 : 0 < l.length := by omega
    have hc := refLast_any base sl l w h hl
    have hat := atC_v l ((l.length : Int) - 1)
    obtain ⟨x, hx⟩ : ∃ x, atC l ((l.length : Int) - 1) = x := ⟨_, rfl⟩
    rw [hx] at hc hat
    have hd : Hid (dirtyV l done = decide (done < x.v.seq)) := by show _ = _; unfold dirtyV; rw [← hat]; simp [p3]
    rw [hsl] at hc ⊢
    have hfd := refField1 x.v.ver x.v.seq (.slice x.A x.v.data.length x.c)
    clear hx hat h0 hsl
    go_enter Try.func43, Try.ntmps43
    go_wp2_with fail
    refine hc.mono ?_
    rintro e w1 ⟨rfl, hb⟩
    simp only [VC.agg]
    go_wp2_with fail
    go_ret
    exact ⟨by rw [hd.out]; rfl, hb⟩

theorem seq_cut {l : List VC} (hr : Rising l) (done : Int) (k : Nat) (hk : k < l.length) : (l.getD k noVC).v.seq ≤ done ↔ k < cut l done := by
  have hf := cut_found l done
  constructor
  · intro h
    rcases Nat.lt_or_ge k (cut l done) with h1 | h1
    · exact h1
    · have h2 := rising_seq hr done _ _ h1 hk (hf.2.2 (by omega))
      simp only [decide_eq_true_eq] at h2
      omega
  · intro h
    have h2 := hf.2.1 (by omega)
    simp only [decide_eq_false_iff_not] at h2
    rcases Nat.lt_or_ge k (cut l done - 1) with h1 | h1
    · have := (hr k (cut l done - 1) h1 (by have := hf.1; omega)).1
      omega
    · have : k = cut l done - 1 := by omega
      rw [this]
      omega

def cleanC (l : List VC) (done : Int) : VC := atC l ((cut l done : Int) - 1)
theorem cleanC_v (l : List VC) (done : Int) : (cleanC l done).v = cleanV l done := atC_v _ _
def arr (x : VC) : Array Value := #[.int .u64 x.v.ver, .int .u64 x.v.seq, .slice x.A x.v.data.length x.c]

set_option maxHeartbeats 2000000 in
theorem refClean_any (base : Nat) (sl : Value) (l : List VC) (done : Int) (w : World) (h : RefAt w base sl l) (hl : l.length ≤ 1000) (hr : Rising l) :
    Calls Try.prog 42 #[sl, .int .u64 done] w fun e w' => e = .returned (cleanC l done).agg ∧ Below w.heap.size w w' := by
  obtain ⟨A, c, hsl, hlc, hcm⟩ := own_form h
  have hcl := (cut_found l done).1
  have hsc := fun k hk => seq_cut hr done k hk
  rw [hsl]
  have HS := Lib.hid hsl
  have HC := Lib.hid hsc
  clear hsc hsl hr
  go_enter Try.func42, Try.ntmps42
  go_wp2_with fail
  go_loopw [6] (fun i wr => ∃ k : Nat, k ≤ l.length ∧ i = .int .i64 k ∧ Blk wr w.heap.size 69 (arr noVC) ∧ Blk wr (w.heap.size + 1) 69 (arr (atC l ((min k (cut l done) : Nat) - 1))) ∧ Below w.heap.size w wr) (fun i _ => l.length - (intOf i).toNat)
  case atStart =>
    refine ⟨0, Nat.zero_le _, rfl, ?_, ?_, ?_⟩
    · exact (Blk.new w _ _).alloc _
    · have := Blk.new (w.alloc (.cells #[.int .u64 0, .int .u64 0, .slice none 0 0] 69)) 69 #[.int .u64 0, .int .u64 0, .slice none 0 0]
      rw [Nat.zero_min, show atC l (((0 : Nat) : Int) - 1) = noVC by unfold atC; rw [if_neg (by omega)]]
      simp only [World.size_alloc] at this
      exact this
    · exact ((Below.refl _ _).alloc (Nat.le_refl _) _).alloc (by simp) _
  case round =>
    obtain ⟨k, hk, rfl, hb0, hb1, hb⟩ := hrel
    have l1 := hb1.lt
    by_cases hlt : k < l.length
    · have h1 : RefAt wr base sl l := own_below h hb (own_lt h)
      obtain ⟨b, c', he, hbl, e0, e1, e2⟩ := ref_at h1 k hlt noVC
      rw [HS.out] at he
      injection he with he1 he2 he3
      subst he1
      subst he3
      obtain ⟨x, hx⟩ : ∃ x, x = l.getD k noVC := ⟨_, rfl⟩
      have hcut := HC.out k hlt
      rw [← hx] at e0 e1 e2 hcut
      have hatk : atC l (k : Int) = x := by unfold atC; rw [if_pos (by omega), hx]; rfl
      have c0 := hb1.cell 0
      have c1 := hb1.cell 1
      have c2 := hb1.cell 2
      have f1 := hb1.frozen
      simp only [arr, List.getElem?_toArray, List.getElem?_cons_zero, List.getElem?_cons_succ] at c0 c1 c2
      have HB0 := Lib.hid hb0; have HB1 := Lib.hid hb1; have HX := Lib.hid hatk
      clear hx hatk he2 hb0 hb1 h1
      by_cases hq : x.v.seq ≤ done
      · have hkc := hcut.1 hq
        clear hcut
        go_wp2_with fail
        refine ⟨⟨k + 1, by omega, rfl, ?_, ?_, ?_⟩, by simp [intOf]; omega⟩
        · exact ((HB0.out.far (p := ⟨w.heap.size + 1, 0, none⟩) (by simp) _).far (p := ⟨w.heap.size + 1, 1, none⟩) (by simp) _).far (p := ⟨w.heap.size + 1, 2, none⟩) (by simp) _
        · have e : (((min (k + 1) (cut l done) : Nat) : Int) - 1) = (k : Int) := by omega
          rw [e, HX.out]
          exact ((HB1.out.set_ 0 (.int .u64 x.v.ver)).set_ 1 (.int .u64 x.v.seq)).set_ 2 (.slice x.A x.v.data.length x.c)
        · exact ((hb.setCell (p := ⟨w.heap.size + 1, 0, none⟩) (by simp) _).setCell (p := ⟨w.heap.size + 1, 1, none⟩) (by simp) _).setCell (p := ⟨w.heap.size + 1, 2, none⟩) (by simp) _
      · have hkc : ¬ k < cut l done := fun hh => hq (hcut.2 hh)
        clear hcut
        go_wp2_with fail
        refine ⟨⟨k + 1, by omega, rfl, HB0.out, ?_, hb⟩, by simp [intOf]; omega⟩
        have e : min (k + 1) (cut l done) = min k (cut l done) := by omega
        rw [e]
        exact HB1.out
    · have hkl : k = l.length := by omega
      subst hkl
      have e : (((min l.length (cut l done) : Nat) : Int) - 1) = ((cut l done : Nat) : Int) - 1 := by omega
      rw [e] at hb1
      have hb1' : Blk wr (w.heap.size + 1) 69 (arr (cleanC l done)) := hb1
      obtain ⟨x, hx⟩ : ∃ x, cleanC l done = x := ⟨_, rfl⟩
      rw [hx] at hb1'
      have HX := Lib.hid hx
      have c0 := hb1'.cell 0
      have c1 := hb1'.cell 1
      have c2 := hb1'.cell 2
      have d0 := hb0.cell 0
      have d1 := hb0.cell 1
      have d2 := hb0.cell 2
      have f0 := hb0.frozen
      simp only [arr, List.getElem?_toArray, List.getElem?_cons_zero, List.getElem?_cons_succ] at c0 c1 c2 d0 d1 d2
      have l0 := hb0.lt
      clear hb1 hb1' hx
      go_wp2_with fail
      rw [HX.out]
      refine bodyPost_ret (v := x.agg) (by simp [results, Try.results42, go_sem, VC.agg, d0, d1, d2]) rfl ⟨rfl, ?_⟩
      exact ((hb.setCell (p := ⟨w.heap.size, 0, none⟩) (Nat.le_refl _) _).setCell (p := ⟨w.heap.size, 1, none⟩) (Nat.le_refl _) _).setCell (p := ⟨w.heap.size, 2, none⟩) (Nat.le_refl _) _
end Go.Proofs.Ytgdmejkneabclaa
