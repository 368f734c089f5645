/- Contracts of package vers: Put with an error, Trim. -/
import Derived.Test.YtgdmejkneabclaaVers5
namespace Go.Proofs.Ytgdmejkneabclaa
open Go.RowKit
set_option linter.unusedSimpArgs false
set_option linter.unusedVariables false
attribute [local go_sem] opGives

set_option maxRecDepth 100000 in
set_option maxHeartbeats 2000000 in
theorem Put_err (base g : Nat) (sl : Value) (l : List VC) (v : Ver) (A : Option Addr) (c : Nat) (w : World) (h : BlockAt w base g sl l) (hs : Short l)
    (hc : v.data.length ≤ c) (hcm : c ≤ maxLen) (hv1 : 0 ≤ v.ver ∧ v.ver ≤ 18446744073709551615) (hv2 : 0 ≤ v.seq) (he : putErr l v ≠ 0) :
    Calls Try.prog 21 #[.pointer (some ⟨g, 0, none⟩), .agg #[.int .u64 v.ver, .int .u64 v.seq, .slice A v.data.length c]] w fun e w' =>
      e = .returned (.int .i64 (putErr l v)) ∧ Below w.heap.size w w' := by
  obtain ⟨A0, c0, hsl, hlc, hcm0⟩ := own_form h.own
  have g0 : w.cell? ⟨g, 0, none⟩ = some (.slice A0 l.length c0) := by rw [← hsl]; exact h.blk.cell 0
  have hg := h.blk.lt
  obtain ⟨ver, seq, data⟩ := v
  simp only at hc hv1 hv2
  unfold maxLen at hcm
  have hl1 := hs.1
  by_cases hlong : 2048 < data.length
  · have hr : Hid (putErr l ⟨ver, seq, data⟩ = 6) := by show _ = _; unfold putErr; rw [if_pos hlong]
    have hover : (2048 < (data.length : Int)) := by omega
    clear he
    go_enter Try.func21, Try.ntmps21
    go_wp2_with fail
    go_ret
    exact ⟨by rw [hr.out]; rfl, by simpa using (Below.refl w.heap.size w).alloc (Nat.le_refl _) _⟩
  have hover : ¬ (2048 < (data.length : Int)) := by omega
  by_cases hz : ver = 0 ∨ seq = 0
  · have hr : Hid (putErr l ⟨ver, seq, data⟩ = 1) := by show _ = _; unfold putErr; rw [if_neg hlong, if_pos hz]
    clear he
    go_enter Try.func21, Try.ntmps21
    by_cases hz0 : ver = 0
    · subst hz0
      clear hz
      go_wp2_with fail
      go_ret
      exact ⟨by rw [hr.out]; rfl, by simpa using (Below.refl w.heap.size w).alloc (Nat.le_refl _) _⟩
    · have hs0 : seq = 0 := hz.resolve_left hz0
      subst hs0
      have hz0' : (ver == 0) = false := by simp; omega
      clear hz hz0
      go_wp2_with fail
      go_ret
      exact ⟨by rw [hr.out]; rfl, by simpa using (Below.refl w.heap.size w).alloc (Nat.le_refl _) _⟩
  · have h12 : 0 < l.length ∧ (ver - 1 ≠ (lastV l).ver ∨ seq ≤ (lastV l).seq) := by
      by_cases h0 : 0 < l.length ∧ (ver - 1 ≠ (lastV l).ver ∨ seq ≤ (lastV l).seq)
      · exact h0
      · unfold putErr at he
        rw [if_neg hlong, if_neg hz, if_neg h0] at he
        exact absurd rfl he
    have hr : Hid (putErr l ⟨ver, seq, data⟩ = 12) := by show _ = _; unfold putErr; rw [if_neg hlong, if_neg hz, if_pos h12]
    obtain ⟨h0, hn2⟩ := h12
    obtain ⟨b, c', he', hbl, e0, e1, e2⟩ := h.at_ (l.length - 1) (by omega) noVC
    have hlast : lastV l = (l.getD (l.length - 1) noVC).v := by
      have e : ((l.length : Int) - 1).toNat = l.length - 1 := by omega
      unfold lastV atV
      rw [if_pos (by omega), e]; rfl
    rw [hsl] at he'
    injection he' with he1 he2 he3
    subst he1
    subst he3
    have e3 : ((l.length : Int) - 1).toNat = l.length - 1 := by omega
    rw [hlast] at hn2
    obtain ⟨x, hx⟩ : ∃ x, x = l.getD (l.length - 1) noVC := ⟨_, rfl⟩
    rw [← hx] at e0 e1 e2 hn2
    have f0 : w.cell? ⟨b, ((l.length : Int) - 1).toNat * 3, none⟩ = some (.int .u64 x.v.ver) := by rw [e3]; exact e0
    have f1 : w.cell? ⟨b, ((l.length : Int) - 1).toNat * 3 + 1, none⟩ = some (.int .u64 x.v.seq) := by rw [e3]; exact e1
    have p1 : (0 : Int) ≤ (l.length : Int) - 1 := by omega
    have p2 : (l.length : Int) - 1 < (l.length : Int) := by omega
    have p3 : 0 < l.length := by omega
    have hz1' : (ver == 0) = false := by simp; omega
    have hz2' : (seq == 0) = false := by simp; omega
    have wr1 : IntKind.u64.wrap (ver - 1) = ver - 1 := by rw [IntKind.wrap_u64]; omega
    have wr2 : IntKind.i64.wrap ((l.length : Int) - 1) = (l.length : Int) - 1 := by rw [IntKind.wrap_i64]; omega
    clear hsl hx he2 e3 hlast h0 he hz
    go_enter Try.func21, Try.ntmps21
    by_cases t0 : ver - 1 = x.v.ver
    · have t1 : ((ver - 1 : Int) != x.v.ver) = false := by simp; omega
      have t2 : seq ≤ x.v.seq := hn2.resolve_left (fun h => h t0)
      clear hn2 t0
      go_wp2_with fail
      go_quiet (fail)
      go_wp2_with fail
      go_ret
      exact ⟨by rw [hr.out]; rfl, below_drewN (by simpa using (Below.refl w.heap.size w).alloc (Nat.le_refl _) _) _⟩
    · have t1 : ((ver - 1 : Int) != x.v.ver) = true := by simp; omega
      clear hn2 t0
      go_wp2_with fail
      go_quiet (fail)
      go_wp2_with fail
      go_ret
      exact ⟨by rw [hr.out]; rfl, below_drewN (by simpa using (Below.refl w.heap.size w).alloc (Nat.le_refl _) _) _⟩

/-- How many a trim lets go. -/
def trimN (l : List VC) (done : Int) : Nat := cut l done - 1

set_option maxRecDepth 100000 in
set_option maxHeartbeats 2000000 in
theorem Trim_any (base g : Nat) (sl : Value) (l : List VC) (done : Int) (w : World) (h : BlockAt w base g sl l) (hs : Short l) (hr : Rising l) (hb : base ≤ w.heap.size) :
    Calls Try.prog 22 #[.pointer (some ⟨g, 0, none⟩), .int .u64 done] w fun e w' =>
      e = .returned (.int .i64 (trimN l done)) ∧ ∃ sl', BlockAt w' base g sl' (l.drop (trimN l done)) ∧ Keeps [g] w w' ∧ (sl'.ownBlock = sl.ownBlock ∨ ∀ k ∈ sl'.ownBlock, w.heap.size ≤ k) := by
  have hl1 := hs.1
  have hcl := (cut_found l done).1
  obtain ⟨i0, hi0, hz0, hz1, hz2⟩ := info_parts info_ver
  go_enter Try.func22, Try.ntmps22
  go_wp2_with fail
  refine (clean_any base g sl l done _ h hs hr).mono ?_
  rintro e w1 ⟨rfl, hb1⟩
  have h1 := h.below hb1
  have hs1 := hb1.size
  obtain ⟨A0, c0, hsl, hlc, hcm⟩ := own_form h.own
  have g0 : w1.cell? ⟨g, 0, none⟩ = some (.slice A0 l.length c0) := by rw [← hsl]; exact h1.blk.cell 0
  have hg := h1.blk.lt
  by_cases hcz : cut l done ≤ 1
  · have hN : trimN l done = 0 := by unfold trimN; omega
    have hfin : BlockAt w1 base g sl (l.drop (trimN l done)) := by rw [hN]; exact h1
    have HN := Lib.hid hN
    by_cases hc0 : cut l done = 0
    · rw [hc0]
      clear hcl hcz hc0 hN
      go_wp2_with fail
      go_ret
      exact ⟨by rw [HN.out]; rfl, sl, hfin, Keeps.of_below hb1 _, .inl rfl⟩
    · have hc1 : cut l done = 1 := by omega
      rw [hc1]
      clear hcl hcz hc0 hN hc1
      go_wp2_with fail
      go_ret
      exact ⟨by rw [HN.out]; rfl, sl, hfin, Keeps.of_below hb1 _, .inl rfl⟩
  · obtain ⟨n, hN⟩ : ∃ n, trimN l done = n := ⟨_, rfl⟩
    have hv : ((cut l done : Nat) : Int) - 1 = (n : Int) := by unfold trimN at hN; omega
    have hn0 : 0 < n := by unfold trimN at hN; omega
    have hnl : n < l.length := by unfold trimN at hN; omega
    rw [hv]
    have HN := Lib.hid hN
    clear hv hcl hcz hN
    have hk1 := Keeps.of_below hb1 ([] : List Nat)
    have g1 : BlockAt w1 base g sl l := h1
    obtain ⟨b0, cap0, hfm, _, hb0⟩ := h.own.form (by omega)
    rw [hsl] at hfm
    injection hfm with hf1 hf2 hf3
    subst hf1
    subst hf3
    have HS := Lib.hid hsl
    clear hsl hr hf2
    have m1 : n ≤ l.length := by omega
    have m2 : ¬ l.length = n := by omega
    go_wp2_with fail
    have cg : ∀ W, Keeps [] w1.drew W → W.cell? ⟨g, 0, none⟩ = some (.slice (some ⟨b0, 0, none⟩) l.length c0) := fun W hk => (hk.cell (p := ⟨g, 0, none⟩) hg (by simp)).trans g0
    refine wp_region_dep 18 (fun i => if i = 17 then .some_ (fun v W => W.ownsRow w1.heap.size 41 3 v (l.length - n) ((l.drop n).flatMap VC.cells)) else .reckons)
      (Keeps []) (Keeps []) (by kernel_rfl) (by kernel_rfl) (Keeps.refl []) (Keeps.refl []) (fun _ _ hk => hk) (fun _ _ _ h1 h2 => h1.trans h2 (fun i hi => .inl hi)) (fun _ _ _ h1 h2 => h1.trans h2 (fun i hi => .inl hi)) ?hst ?hla ?walk
    case hst =>
      intro k φ hT v W W' hk hφ
      split at hT
      · cases hT
        exact own_keeps hφ hk (by simp)
      · cases hT
    case hla =>
      intro k φ hT
      simp only at hT
      split at hT <;> cases hT
    case walk =>
      simp only [List.take_succ_cons, List.take_zero, List.drop_succ_cons, List.drop_zero]
      refine dep_reckons (c := .pointer (some ⟨g, 0, none⟩)) rfl rfl (fun W hG hF => by go_simp) (by simp only [Act.put, List.setIfInBounds_toArray, List.set_cons_zero, List.set_cons_succ]; rfl) ?_
      refine dep_reckons (c := .pointer (some ⟨g, 0, none⟩)) rfl rfl (fun W hG hF => by go_simp) (by simp only [Act.put, List.setIfInBounds_toArray, List.set_cons_zero, List.set_cons_succ]; rfl) ?_
      refine dep_reckons (c := .pointer (some ⟨g, 0, none⟩)) rfl rfl (fun W hG hF => by go_simp) (by simp only [Act.put, List.setIfInBounds_toArray, List.set_cons_zero, List.set_cons_succ]; rfl) ?_
      refine dep_reckons (c := .pointer (some ⟨g, 0, none⟩)) rfl rfl (fun W hG hF => by go_simp) (by simp only [Act.put, List.setIfInBounds_toArray, List.set_cons_zero, List.set_cons_succ]; rfl) ?_
      refine dep_reckons (c := .slice (some ⟨b0, 0, none⟩) l.length c0) rfl rfl (fun W hG hF => by have := cg W hG; go_simp) (by simp only [Act.put, List.setIfInBounds_toArray, List.set_cons_zero, List.set_cons_succ]; rfl) ?_
      refine dep_reckons (c := .int .i64 (n : Int)) rfl rfl (fun W hG hF => by go_simp) (by simp only [Act.put, List.setIfInBounds_toArray, List.set_cons_zero, List.set_cons_succ]; rfl) ?_
      refine dep_reckons (c := .pointer (some ⟨g, 0, none⟩)) rfl rfl (fun W hG hF => by go_simp) (by simp only [Act.put, List.setIfInBounds_toArray, List.set_cons_zero, List.set_cons_succ]; rfl) ?_
      refine dep_reckons (c := .pointer (some ⟨g, 0, none⟩)) rfl rfl (fun W hG hF => by go_simp) (by simp only [Act.put, List.setIfInBounds_toArray, List.set_cons_zero, List.set_cons_succ]; rfl) ?_
      refine dep_reckons (c := .pointer (some ⟨g, 0, none⟩)) rfl rfl (fun W hG hF => by go_simp) (by simp only [Act.put, List.setIfInBounds_toArray, List.set_cons_zero, List.set_cons_succ]; rfl) ?_
      refine dep_reckons (c := .slice (some ⟨b0, 0, none⟩) l.length c0) rfl rfl (fun W hG hF => by have := cg W hG; go_simp) (by simp only [Act.put, List.setIfInBounds_toArray, List.set_cons_zero, List.set_cons_succ]; rfl) ?_
      refine dep_reckons (c := .int .i64 (l.length : Int)) rfl rfl (fun W hG hF => by go_simp) (by simp only [Act.put, List.setIfInBounds_toArray, List.set_cons_zero, List.set_cons_succ]; rfl) ?_
      refine dep_reckons (c := .pointer (some ⟨g, 0, none⟩)) rfl rfl (fun W hG hF => by go_simp) (by simp only [Act.put, List.setIfInBounds_toArray, List.set_cons_zero, List.set_cons_succ]; rfl) ?_
      refine dep_reckons (c := .pointer (some ⟨g, 0, none⟩)) rfl rfl (fun W hG hF => by go_simp) (by simp only [Act.put, List.setIfInBounds_toArray, List.set_cons_zero, List.set_cons_succ]; rfl) ?_
      refine dep_reckons (c := .pointer (some ⟨g, 0, none⟩)) rfl rfl (fun W hG hF => by go_simp) (by simp only [Act.put, List.setIfInBounds_toArray, List.set_cons_zero, List.set_cons_succ]; rfl) ?_
      refine dep_reckons (c := .slice (some ⟨b0, 0, none⟩) l.length c0) rfl rfl (fun W hG hF => by have := cg W hG; go_simp) (by simp only [Act.put, List.setIfInBounds_toArray, List.set_cons_zero, List.set_cons_succ]; rfl) ?_
      refine dep_reckons (c := .int .i64 (l.length : Int)) rfl rfl (fun W hG hF => by go_simp) (by simp only [Act.put, List.setIfInBounds_toArray, List.set_cons_zero, List.set_cons_succ]; rfl) ?_
      refine dep_reckons (c := .slice (some ⟨b0, n * 3, none⟩) (l.length - n) (l.length - n)) rfl rfl (fun W hG hF => by go_simp) (by simp only [Act.put, List.setIfInBounds_toArray, List.set_cons_zero, List.set_cons_succ]; rfl) ?_
      refine dep_some rfl rfl (fun W hG hF => ?_) (fun v17 => ?_)
      · have hXW : BlockAt W base g sl l := h1.keeps (w' := W) (S := []) ⟨hG.os, hG.tape, hG.output, hG.size, hG.block⟩ (by simp) (by simp) (by simp)
        have hsW := hG.size
        simp at hsW
        refine gives_append_src (.const (.slice none 0 0)) (.tmp 28) _ rfl w1.heap.size 41 i0 _ 3 40 Try.underlying78 hi0 hz0 hz1 hz2 rfl (by omega) (.slice none 0 0) 0 [] rfl (World.ownsRow_nil _ _ _ _) (some ⟨b0, n * 3, none⟩) (l.length - n) (l.length - n) ((l.drop n).flatMap VC.cells) rfl ?c1 ?c2 ?c3 ?c4 ?c5
        case c1 =>
          refine ⟨by rw [cells_length, List.length_drop], ?_, fun _ => ⟨b0, n * 3, rfl, fun j u hj => ?_⟩⟩
          · intro u hu
            obtain ⟨y, _, hy⟩ := List.mem_flatMap.1 hu
            simp only [VC.cells, List.mem_cons, List.not_mem_nil, or_false] at hy
            rcases hy with rfl | rfl | rfl <;> rfl
          · rw [cells_drop, List.getElem?_drop] at hj
            have := hXW.own.cells (g := b0) (by rw [HS.out]; rfl) (n * 3 + j) u hj
            rw [add_lit0] at this
            simpa using this
        case c2 => unfold maxLen; omega
        case c3 => omega
        case c4 => omega
        case c5 =>
          intro v' w' ho' hgr hor
          rw [Nat.zero_add, List.nil_append] at ho'
          exact ⟨ho', Keeps.of_grown hgr⟩
      simp only [Act.put, List.setIfInBounds_toArray, List.set_cons_zero, List.set_cons_succ]
      refine dep_nil fun W hG hF => ?_
      have hx2 := hF _ List.mem_cons_self
      simp only at hx2
      obtain ⟨A8, c8, rfl, _, _⟩ := own_form hx2
      have hXW : BlockAt W base g sl l := h1.keeps (w' := W) (S := []) ⟨hG.os, hG.tape, hG.output, hG.size, hG.block⟩ (by simp) (by simp) (by simp)
      have d0 := hXW.blk.cell 0
      have d1 := hXW.blk.frozen 0
      simp only [List.getElem?_toArray, List.getElem?_cons_zero, HS.out] at d0
      have hgl := hXW.blk.lt
      have hGs := hG.size
      simp at hGs
      have hge8 := own_ge hx2
      clear hF
      go_wp2_with fail
      have hWset := (Keeps.refl [g] W).setCell (p := ⟨g, 0, none⟩) (.inl (by simp)) (.slice A8 (l.length - n) c8)
      go_ret
      rw [HN.out]
      refine ⟨rfl, .slice A8 (l.length - n) c8, ⟨hXW.blk.set_ 0 _, h.ge, ?_, fun y hy => ?_⟩, ?_, .inr fun k hk => ?_⟩
      · rw [List.length_drop]
        refine own_rebase (own_keeps hx2 hWset fun k hk hm => own_blk_ne hx2 hXW.blk (by decide) k hk (by simpa using hm)) fun k hk => ?_
        have := hge8 k hk
        omega
      · have hd := hXW.data y (List.mem_of_mem_drop hy)
        exact own_keeps hd hWset fun k hk hm => own_blk_ne hd hXW.blk (by decide) k hk (by simpa using hm)
      · have hk2 : Keeps [g] w W := ((Keeps.of_below hb1 []).trans (T := []) ⟨hG.os, hG.tape, hG.output, hG.size, hG.block⟩ fun i hi => .inl hi).mono (by simp)
        exact hk2.setCell (p := ⟨g, 0, none⟩) (.inl (by simp)) _
      · have := hge8 k hk
        omega
end Go.Proofs.Ytgdmejkneabclaa
