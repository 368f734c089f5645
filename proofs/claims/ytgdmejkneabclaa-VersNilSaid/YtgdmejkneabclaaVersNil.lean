/- What no block tells, and the walk of VersNil. -/
import Derived.Test.YtgdmejkneabclaaVersPlays
namespace Go.Proofs.Ytgdmejkneabclaa
open Go.RowKit
set_option linter.unusedSimpArgs false
set_option linter.unusedVariables false

theorem PutN (v : Value) (a b : Int) (A : Option Addr) (n c : Nat) (w : World) : Calls Try.prog 21 #[.pointer none, .agg #[.int .u64 a, .int .u64 b, .slice A n c]] w fun e w' => e = .returned (.int .i64 2) ∧ Below w.heap.size w w' := by
  go_enter Try.func21, Try.ntmps21
  go_wp2_with fail
  go_ret
  exact ⟨rfl, (Below.refl _ _).alloc (Nat.le_refl _) _⟩
theorem LenN (w : World) : Calls Try.prog 37 #[.pointer none] w fun e w' => e = .returned (.int .i64 0) ∧ w = w' := by
  go_enter Try.func37, Try.ntmps37
  go_wp2_with fail
  go_ret
  exact ⟨rfl, rfl⟩
theorem atN (i : Int) (w : World) : Calls Try.prog 53 #[.pointer none, .int .i64 i] w fun e w' => e = .returned noVC.agg ∧ Below w.heap.size w w' := by
  go_enter Try.func53, Try.ntmps53
  go_wp2_with fail
  exact bodyPost_ret (v := noVC.agg) (by simp [results, Try.results53, go_sem, noVC, VC.agg, Ver.none]) rfl ⟨rfl, (Below.refl _ _).alloc (Nat.le_refl _) _⟩
theorem zeros_at {w w1 : World} {T : TypeId} (hb : Below (w.heap.size + 1) (w.alloc (.cells #[.int .u64 0, .int .u64 0, .slice none 0 0] T)) w1) : Blk w1 w.heap.size T #[.int .u64 0, .int .u64 0, .slice none 0 0] := (Blk.new w _ _).below hb (by omega)

set_option maxHeartbeats 400000 in
theorem LastN (w : World) : Calls Try.prog 24 #[.pointer none] w fun e w' => e = .returned noVC.agg ∧ Below w.heap.size w w' := by
  go_enter Try.func24, Try.ntmps24
  go_wp2_with fail
  refine (LenN _).mono ?_
  rintro e w1 ⟨rfl, rfl⟩
  go_wp2_with fail
  refine (atN _ _).mono ?_
  rintro e w2 ⟨rfl, hb⟩
  simp only [World.size_alloc] at hb
  have hz := zeros_at hb
  have z0 := hz.cell 0
  have z1 := hz.cell 1
  have z2 := hz.cell 2
  have f0 := hz.frozen
  have l0 := hz.lt
  simp only [List.getElem?_toArray, List.getElem?_cons_zero, List.getElem?_cons_succ] at z0 z1 z2
  simp only [VC.agg, noVC, Ver.none, List.length_nil]
  go_wp2_with fail
  refine bodyPost_ret (v := noVC.agg) (by simp [results, Try.results24, go_sem, noVC, VC.agg, Ver.none, z0, z1, z2]) rfl ⟨rfl, ?_⟩
  have hbw : Below w.heap.size w w2 := ((Below.refl _ _).alloc (Nat.le_refl _) _).trans (hb.mono (by omega))
  exact ((hbw.setCell (p := ⟨w.heap.size, 0, none⟩) (Nat.le_refl _) _).setCell (p := ⟨w.heap.size, 1, none⟩) (Nat.le_refl _) _).setCell (p := ⟨w.heap.size, 2, none⟩) (Nat.le_refl _) _

set_option maxHeartbeats 400000 in
theorem cleanN (done : Int) (w : World) : Calls Try.prog 51 #[.pointer none, .int .u64 done] w fun e w' => e = .returned (.int .i64 (-1)) ∧ Below w.heap.size w w' := by
  go_enter Try.func51, Try.ntmps51
  go_wp2_with fail
  refine (LenN _).mono ?_
  rintro e w1 ⟨rfl, rfl⟩
  go_wp2_with fail
  refine (Search_any 58 _ 0 (fun i => true) _ (by omega) (fun args W => by go_simp) (fun i m hi => by omega)).mono ?_
  rintro e w2 ⟨⟨r, hf, rfl⟩, m, rfl⟩
  have hr : r = 0 := Nat.le_zero.1 hf.1
  subst hr
  go_wp2_with fail
  go_ret
  exact ⟨rfl, below_drewN (((Below.refl _ _).alloc (Nat.le_refl _) _).alloc (by simp) _) _⟩

set_option maxHeartbeats 400000 in
theorem CleanN (done : Int) (w : World) : Calls Try.prog 25 #[.pointer none, .int .u64 done] w fun e w' => e = .returned noVC.agg ∧ Below w.heap.size w w' := by
  go_enter Try.func25, Try.ntmps25
  go_wp2_with fail
  refine (cleanN _ _).mono ?_
  rintro e w1 ⟨rfl, hb1⟩
  go_wp2_with fail
  refine (atN _ _).mono ?_
  rintro e w2 ⟨rfl, hb2⟩
  have hb := hb1.trans (hb2.mono hb1.size)
  simp only [World.size_alloc] at hb
  have hz := zeros_at hb
  have z0 := hz.cell 0
  have z1 := hz.cell 1
  have z2 := hz.cell 2
  have f0 := hz.frozen
  have l0 := hz.lt
  simp only [List.getElem?_toArray, List.getElem?_cons_zero, List.getElem?_cons_succ] at z0 z1 z2
  simp only [VC.agg, noVC, Ver.none, List.length_nil]
  go_wp2_with fail
  refine bodyPost_ret (v := noVC.agg) (by simp [results, Try.results25, go_sem, noVC, VC.agg, Ver.none, z0, z1, z2]) rfl ⟨rfl, ?_⟩
  have hbw : Below w.heap.size w w2 := ((Below.refl _ _).alloc (Nat.le_refl _) _).trans (hb.mono (by omega))
  exact ((hbw.setCell (p := ⟨w.heap.size, 0, none⟩) (Nat.le_refl _) _).setCell (p := ⟨w.heap.size, 1, none⟩) (Nat.le_refl _) _).setCell (p := ⟨w.heap.size, 2, none⟩) (Nat.le_refl _) _

theorem DirtyN (done : Int) (w : World) : Calls Try.prog 26 #[.pointer none, .int .u64 done] w fun e w' => e = .returned (.bool false) ∧ Below w.heap.size w w' := by
  go_enter Try.func26, Try.ntmps26
  go_wp2_with fail
  refine (LenN _).mono ?_
  rintro e w1 ⟨rfl, rfl⟩
  go_wp2_with fail
  go_ret
  exact ⟨rfl, Below.refl _ _⟩

theorem TrimNil (done : Int) (w : World) : Calls Try.prog 22 #[.pointer none, .int .u64 done] w fun e w' => e = .returned (.int .i64 0) ∧ Below w.heap.size w w' := by
  go_enter Try.func22, Try.ntmps22
  go_wp2_with fail
  refine (cleanN _ _).mono ?_
  rintro e w1 ⟨rfl, hb1⟩
  go_wp2_with fail
  go_ret
  exact ⟨rfl, hb1⟩

set_option maxHeartbeats 1000000 in
theorem PickN (ver done : Int) (h0 : 0 ≤ ver) (w : World) : Calls Try.prog 44 #[.pointer none, .int .u64 ver, .int .u64 done] w fun e w' => e = .returned noVC.agg ∧ Below w.heap.size w w' := by
  go_enter Try.func44, Try.ntmps44
  go_wp2_with fail
  refine (LenN _).mono ?_
  rintro e w1 ⟨rfl, rfl⟩
  go_wp2_with fail
  refine (Search_any 56 _ 0 (fun i => true) _ (by omega) (fun args W => by go_simp) (fun i m hi => by omega)).mono ?_
  rintro e w1 ⟨⟨r, hf, rfl⟩, m, rfl⟩
  have hr : r = 0 := Nat.le_zero.1 hf.1
  subst hr
  have hb1 : Below w.heap.size w ((((w.alloc (.cells #[.pointer none] 38)).alloc (.cells #[.int .u64 ver] 22)).alloc (.cells #[.int .u64 0, .int .u64 0, .slice none 0 0] 41)).drewN m) :=
    below_drewN (((Below.refl _ _).alloc (Nat.le_refl _) _).alloc (by simp) _ |>.alloc (by simp; omega) _) m
  have q0 : ((((w.alloc (.cells #[.pointer none] 38)).alloc (.cells #[.int .u64 ver] 22)).alloc (.cells #[.int .u64 0, .int .u64 0, .slice none 0 0] 41)).drewN m).cell? ⟨w.heap.size, 0, none⟩ = some (.pointer none) := by go_simp
  have q1 : ((((w.alloc (.cells #[.pointer none] 38)).alloc (.cells #[.int .u64 ver] 22)).alloc (.cells #[.int .u64 0, .int .u64 0, .slice none 0 0] 41)).drewN m).cell? ⟨w.heap.size + 1, 0, none⟩ = some (.int .u64 ver) := by go_simp
  have q2 := (Blk.new ((w.alloc (.cells #[.pointer none] 38)).alloc (.cells #[.int .u64 ver] 22)) 41 #[.int .u64 0, .int .u64 0, .slice none 0 0]).drewN m
  simp only [World.size_alloc] at q2
  have hsz : ((((w.alloc (.cells #[.pointer none] 38)).alloc (.cells #[.int .u64 ver] 22)).alloc (.cells #[.int .u64 0, .int .u64 0, .slice none 0 0] 41)).drewN m).heap.size = w.heap.size + 3 := by simp
  generalize ((((w.alloc (.cells #[.pointer none] 38)).alloc (.cells #[.int .u64 ver] 22)).alloc (.cells #[.int .u64 0, .int .u64 0, .slice none 0 0] 41)).drewN m) = X at hb1 q0 q1 q2 hsz ⊢
  clear hf
  go_wp2_with fail
  refine (atN _ _).mono ?_
  rintro e w2 ⟨rfl, hb2⟩
  have hs2 := hb2.size
  have l0 : w.heap.size < w2.heap.size := by omega
  have l1 : w.heap.size + 1 < w2.heap.size := by omega
  have l2 : w.heap.size + 1 + 1 < w2.heap.size := by omega
  have a0 := (hb2.cell (p := ⟨w.heap.size, 0, none⟩) (by show w.heap.size < _; omega)).trans q0
  have a1 := (hb2.cell (p := ⟨w.heap.size + 1, 0, none⟩) (by show w.heap.size + 1 < _; omega)).trans q1
  have a2 := q2.below hb2 (by omega)
  have y0 := a2.cell 0
  have y1 := a2.cell 1
  have y2 := a2.cell 2
  have f2 := a2.frozen
  simp only [List.getElem?_toArray, List.getElem?_cons_zero, List.getElem?_cons_succ] at y0 y1 y2
  have hbw2 : Below w.heap.size w w2 := hb1.trans (hb2.mono (by omega))
  simp only [VC.agg, noVC, Ver.none, List.length_nil]
  by_cases hq : ver = 0
  · subst hq
    go_wp2_with fail
    refine bodyPost_ret (v := noVC.agg) (by simp [results, Try.results44, go_sem, noVC, VC.agg, Ver.none, y0, y1, y2, l2]) rfl ⟨rfl, ?_⟩
    exact ((((hbw2.setCell (p := ⟨w.heap.size + 2, _, none⟩) (by simp) _).setCell (p := ⟨w.heap.size + 2, _, none⟩) (by simp) _).setCell (p := ⟨w.heap.size + 2, _, none⟩) (by simp) _).alloc (by simp; omega) _)
  · have tq : ((0 : Int) == ver) = false := beq_eq_false_iff_ne.2 (fun h => hq h.symm)
    have t2 : ¬ (ver < 0) := by omega
    clear hq
    go_wp2_with fail
    refine (CleanN _ _).mono ?_
    rintro e w3 ⟨rfl, hb3⟩
    have hs3 := hb3.size
    simp only [World.size_alloc] at hs3
    have l30 : w.heap.size < w3.heap.size := by omega
    have l31 : w.heap.size + 1 < w3.heap.size := by omega
    have l3 : w.heap.size + 1 + 1 < w3.heap.size := by omega
    have hk3 : Below w2.heap.size w2 w3 := ((Below.refl _ _).alloc (Nat.le_refl _) _).trans (hb3.mono (by simp))
    have d1 := (hk3.cell (p := ⟨w.heap.size + 1, 0, none⟩) (by show w.heap.size + 1 < _; omega)).trans a1
    have d2 := a2.below hk3 (by omega)
    have z0 := d2.cell 0
    have z1 := d2.cell 1
    have z2 := d2.cell 2
    have g2 := d2.frozen
    simp only [List.getElem?_toArray, List.getElem?_cons_zero, List.getElem?_cons_succ] at z0 z1 z2
    have hbw3 : Below w.heap.size w w3 := hbw2.trans (hk3.mono (by omega))
    clear y0 y1 y2 f2 a0 a1
    simp only [VC.agg, noVC, Ver.none, List.length_nil]
    go_wp2_with fail
    refine bodyPost_ret (v := noVC.agg) (by simp [results, Try.results44, go_sem, noVC, VC.agg, Ver.none, z0, z1, z2, l3]) rfl ⟨rfl, ?_⟩
    exact ((((hbw3.setCell (p := ⟨w.heap.size + 2, _, none⟩) (by simp) _).setCell (p := ⟨w.heap.size + 2, _, none⟩) (by simp) _).setCell (p := ⟨w.heap.size + 2, _, none⟩) (by simp) _).alloc (by simp; omega) _)

set_option maxHeartbeats 1000000 in
theorem ListN (w : World) : Calls Try.prog 39 #[.pointer none] w fun e w' => e = .returned (.slice (some ⟨w.heap.size, 0, none⟩) 0 0) ∧ Below w.heap.size w w' := by
  obtain ⟨i0, hi0, hz0, hz1, hz2⟩ := info_parts info_ver
  go_enter Try.func39, Try.ntmps39
  go_wp2_with fail
  refine (LenN _).mono ?_
  rintro e w1 ⟨rfl, rfl⟩
  go_wp2_with (refine wpList_make_full _ rfl (.tmp 6) (.tmp 6) _ rfl w.heap.size 41 i0 _ 3 Try.underlying78 hi0 hz0 hz1 .i64 .i64 _ _ 0 rfl rfl rfl rfl ?b2 ?b3 ?b4 ?hK)
  case b2 => rw [hz2]; omega
  case b3 => unfold maxLen; omega
  case b4 => omega
  case hK =>
    intro w1 ho1 hg1
    have hb1 : Below w.heap.size w w1 := (Keeps.of_grown hg1).nil_below
    clear ho1 hg1
    go_wp2_with fail
    go_loopw [10] (fun i wr => i = .int .i64 0 ∧ wr = w1) (fun i _ => 0)
    case atStart => exact ⟨rfl, rfl⟩
    case round =>
      obtain ⟨rfl, rfl⟩ := hrel
      go_wp2_with fail
      go_ret
      exact ⟨rfl, hb1⟩

set_option maxRecDepth 100000 in
set_option maxHeartbeats 2000000 in
theorem VersNil_walk (q : POp) (w : World) (hq : POp.wf q) : Calls Try.prog 10 #[.agg q.arr] w fun e w' => e = .returned (.bool true) ∧ Below w.heap.size w w' := by
  obtain ⟨kind, x, ver, done⟩ := q
  obtain ⟨hx1, hx2, hx3, hx4, hx5, hx6⟩ := hq
  simp only at hx1 hx2 hx3 hx4 hx5 hx6
  go_enter Try.func10, Try.ntmps10
  simp only [POp.arr]
  go_wp2_with fail
  have hB : Below w.heap.size w ((w.alloc (.cells #[.int .i64 kind, .int .u64 x.v.ver, .int .u64 x.v.seq, .slice x.A x.v.data.length x.c, .int .u64 ver, .int .u64 done] 71)).alloc (.cells #[.int .u64 0, .int .u64 0, .slice none 0 0] 69)) :=
    ((Below.refl _ _).alloc (Nat.le_refl _) _).alloc (by simp) _
  have hop : Blk ((w.alloc (.cells #[.int .i64 kind, .int .u64 x.v.ver, .int .u64 x.v.seq, .slice x.A x.v.data.length x.c, .int .u64 ver, .int .u64 done] 71)).alloc (.cells #[.int .u64 0, .int .u64 0, .slice none 0 0] 69)) w.heap.size 71 #[.int .i64 kind, .int .u64 x.v.ver, .int .u64 x.v.seq, .slice x.A x.v.data.length x.c, .int .u64 ver, .int .u64 done] := (Blk.new w _ _).alloc _
  have hno := Blk.new (w.alloc (.cells #[.int .i64 kind, .int .u64 x.v.ver, .int .u64 x.v.seq, .slice x.A x.v.data.length x.c, .int .u64 ver, .int .u64 done] 71)) 69 #[.int .u64 0, .int .u64 0, .slice none 0 0]
  simp only [World.size_alloc] at hno
  generalize ((w.alloc (.cells #[.int .i64 kind, .int .u64 x.v.ver, .int .u64 x.v.seq, .slice x.A x.v.data.length x.c, .int .u64 ver, .int .u64 done] 71)).alloc (.cells #[.int .u64 0, .int .u64 0, .slice none 0 0] 69)) = X at hB hop hno ⊢
  have cf : ∀ W, Keeps [] X.drew W → W.cell? ⟨w.heap.size, 1, none⟩ = some (.int .u64 x.v.ver) ∧ W.cell? ⟨w.heap.size, 2, none⟩ = some (.int .u64 x.v.seq) ∧ W.cell? ⟨w.heap.size, 3, none⟩ = some (.slice x.A x.v.data.length x.c) ∧ W.cell? ⟨w.heap.size, 4, none⟩ = some (.int .u64 ver) ∧ W.cell? ⟨w.heap.size, 5, none⟩ = some (.int .u64 done) ∧
      W.cell? ⟨w.heap.size + 1, 0, none⟩ = some (.int .u64 0) ∧ W.cell? ⟨w.heap.size + 1, 1, none⟩ = some (.int .u64 0) ∧ W.cell? ⟨w.heap.size + 1, 2, none⟩ = some (.slice none 0 0) := fun W hk =>
    have h1 := fun i => (hk.cell (p := ⟨w.heap.size, i, none⟩) hop.lt (by simp)).trans (hop.cell i)
    have h2 := fun i => (hk.cell (p := ⟨w.heap.size + 1, i, none⟩) hno.lt (by simp)).trans (hno.cell i)
    ⟨h1 1, h1 2, h1 3, h1 4, h1 5, h2 0, h2 1, h2 2⟩
  refine wp_region_calls 58 [(3, .known x.agg), (4, .known (.int .i64 2)), (8, .known noVC.agg), (10, .known (.bool true)), (16, .known noVC.agg), (18, .known (.bool true)), (24, .known (.bool false)), (33, .known noVC.agg), (35, .known (.bool true)),
    (41, .known (.int .i64 0)), (46, .known (.int .i64 0)), (51, .some_ fun v W => ∃ A c, v = .slice A 0 c), (56, .known (.bool true))] (by kernel_rfl) (by kernel_rfl) rfl
    ⟨trivial, trivial, trivial, trivial, trivial, trivial, trivial, trivial, trivial, trivial, trivial, fun v W1 W2 hk hφ => hφ, trivial, trivial⟩ ?_
  simp only [List.take_succ_cons, List.take_zero, List.drop_succ_cons, List.drop_zero]
  iterate 2 refine dep_reckons rfl (by kernel_rfl) (fun W hG hF => by go_simp <;> rfl) (by simp only [Act.put, List.setIfInBounds_toArray, List.set_cons_zero, List.set_cons_succ]; rfl) ?_
  refine dep_reckons (c := x.agg) rfl (by kernel_rfl) (fun W hG hF => by have hcf := cf W hG; simp only [VC.agg]; go_simp) (by simp only [Act.put, List.setIfInBounds_toArray, List.set_cons_zero, List.set_cons_succ]; rfl) ?_
  refine dep_known (c := x.agg) rfl (by kernel_rfl) (fun W hG hF => ?_) (by simp only [Act.put, List.setIfInBounds_toArray, List.set_cons_zero, List.set_cons_succ]; rfl) ?_
  · unfold opGives
    go_simp
    have bw := (keeps_drew hG).nil_below
    refine (ours15_any x W).mono ?_
    rintro e w2 ⟨rfl, hb2⟩
    exact ⟨_, rfl, rfl, Keeps.of_below hb2 []⟩
  refine dep_known (c := .int .i64 2) rfl (by kernel_rfl) (fun W hG hF => ?_) (by simp only [Act.put, List.setIfInBounds_toArray, List.set_cons_zero, List.set_cons_succ]; rfl) ?_
  · unfold opGives
    go_simp
    have bw := (keeps_drew hG).nil_below
    refine (PutN (.int .i64 0) x.v.ver x.v.seq x.A x.v.data.length x.c W).mono ?_
    rintro e w2 ⟨rfl, hb2⟩
    exact ⟨_, rfl, rfl, Keeps.of_below hb2 []⟩
  iterate 3 refine dep_reckons rfl (by kernel_rfl) (fun W hG hF => by go_simp <;> rfl) (by simp only [Act.put, List.setIfInBounds_toArray, List.set_cons_zero, List.set_cons_succ]; rfl) ?_
  refine dep_known (c := noVC.agg) rfl (by kernel_rfl) (fun W hG hF => ?_) (by simp only [Act.put, List.setIfInBounds_toArray, List.set_cons_zero, List.set_cons_succ]; rfl) ?_
  · unfold opGives
    go_simp
    have bw := (keeps_drew hG).nil_below
    refine (LastN W).mono ?_
    rintro e w2 ⟨rfl, hb2⟩
    exact ⟨_, rfl, rfl, Keeps.of_below hb2 []⟩
  refine dep_reckons (c := noVC.agg) rfl (by kernel_rfl) (fun W hG hF => by have hcf := cf W hG; simp only [VC.agg, noVC, Ver.none, List.length_nil]; go_simp) (by simp only [Act.put, List.setIfInBounds_toArray, List.set_cons_zero, List.set_cons_succ]; rfl) ?_
  refine dep_known (c := .bool true) rfl (by kernel_rfl) (fun W hG hF => ?_) (by simp only [Act.put, List.setIfInBounds_toArray, List.set_cons_zero, List.set_cons_succ]; rfl) ?_
  · unfold opGives
    go_simp
    have bw := (keeps_drew hG).nil_below
    refine (like15_any .none none 0 noVC W (Rd.nil _ _) (Rd.nil _ _)).mono ?_
    rintro e w2 ⟨rfl, hb2⟩
    exact ⟨_, rfl, rfl, Keeps.of_below hb2 []⟩
  iterate 4 refine dep_reckons rfl (by kernel_rfl) (fun W hG hF => by go_simp <;> rfl) (by simp only [Act.put, List.setIfInBounds_toArray, List.set_cons_zero, List.set_cons_succ]; rfl) ?_
  refine dep_reckons rfl (by kernel_rfl) (fun W hG hF => by have hcf := cf W hG; go_simp <;> rfl) (by simp only [Act.put, List.setIfInBounds_toArray, List.set_cons_zero, List.set_cons_succ]; rfl) ?_
  refine dep_known (c := noVC.agg) rfl (by kernel_rfl) (fun W hG hF => ?_) (by simp only [Act.put, List.setIfInBounds_toArray, List.set_cons_zero, List.set_cons_succ]; rfl) ?_
  · unfold opGives
    go_simp
    have bw := (keeps_drew hG).nil_below
    refine (CleanN done W).mono ?_
    rintro e w2 ⟨rfl, hb2⟩
    exact ⟨_, rfl, rfl, Keeps.of_below hb2 []⟩
  refine dep_reckons (c := noVC.agg) rfl (by kernel_rfl) (fun W hG hF => by have hcf := cf W hG; simp only [VC.agg, noVC, Ver.none, List.length_nil]; go_simp) (by simp only [Act.put, List.setIfInBounds_toArray, List.set_cons_zero, List.set_cons_succ]; rfl) ?_
  refine dep_known (c := .bool true) rfl (by kernel_rfl) (fun W hG hF => ?_) (by simp only [Act.put, List.setIfInBounds_toArray, List.set_cons_zero, List.set_cons_succ]; rfl) ?_
  · unfold opGives
    go_simp
    have bw := (keeps_drew hG).nil_below
    refine (like15_any .none none 0 noVC W (Rd.nil _ _) (Rd.nil _ _)).mono ?_
    rintro e w2 ⟨rfl, hb2⟩
    exact ⟨_, rfl, rfl, Keeps.of_below hb2 []⟩
  iterate 4 refine dep_reckons rfl (by kernel_rfl) (fun W hG hF => by go_simp <;> rfl) (by simp only [Act.put, List.setIfInBounds_toArray, List.set_cons_zero, List.set_cons_succ]; rfl) ?_
  refine dep_reckons rfl (by kernel_rfl) (fun W hG hF => by have hcf := cf W hG; go_simp <;> rfl) (by simp only [Act.put, List.setIfInBounds_toArray, List.set_cons_zero, List.set_cons_succ]; rfl) ?_
  refine dep_known (c := .bool false) rfl (by kernel_rfl) (fun W hG hF => ?_) (by simp only [Act.put, List.setIfInBounds_toArray, List.set_cons_zero, List.set_cons_succ]; rfl) ?_
  · unfold opGives
    go_simp
    have bw := (keeps_drew hG).nil_below
    refine (DirtyN done W).mono ?_
    rintro e w2 ⟨rfl, hb2⟩
    exact ⟨_, rfl, rfl, Keeps.of_below hb2 []⟩
  iterate 5 refine dep_reckons rfl (by kernel_rfl) (fun W hG hF => by go_simp <;> rfl) (by simp only [Act.put, List.setIfInBounds_toArray, List.set_cons_zero, List.set_cons_succ]; rfl) ?_
  refine dep_reckons rfl (by kernel_rfl) (fun W hG hF => by have hcf := cf W hG; go_simp <;> rfl) (by simp only [Act.put, List.setIfInBounds_toArray, List.set_cons_zero, List.set_cons_succ]; rfl) ?_
  refine dep_reckons rfl (by kernel_rfl) (fun W hG hF => by go_simp <;> rfl) (by simp only [Act.put, List.setIfInBounds_toArray, List.set_cons_zero, List.set_cons_succ]; rfl) ?_
  refine dep_reckons rfl (by kernel_rfl) (fun W hG hF => by have hcf := cf W hG; go_simp <;> rfl) (by simp only [Act.put, List.setIfInBounds_toArray, List.set_cons_zero, List.set_cons_succ]; rfl) ?_
  refine dep_known (c := noVC.agg) rfl (by kernel_rfl) (fun W hG hF => ?_) (by simp only [Act.put, List.setIfInBounds_toArray, List.set_cons_zero, List.set_cons_succ]; rfl) ?_
  · unfold opGives
    go_simp
    have bw := (keeps_drew hG).nil_below
    refine (PickN ver done hx6.1 W).mono ?_
    rintro e w2 ⟨rfl, hb2⟩
    exact ⟨_, rfl, rfl, Keeps.of_below hb2 []⟩
  refine dep_reckons (c := noVC.agg) rfl (by kernel_rfl) (fun W hG hF => by have hcf := cf W hG; simp only [VC.agg, noVC, Ver.none, List.length_nil]; go_simp) (by simp only [Act.put, List.setIfInBounds_toArray, List.set_cons_zero, List.set_cons_succ]; rfl) ?_
  refine dep_known (c := .bool true) rfl (by kernel_rfl) (fun W hG hF => ?_) (by simp only [Act.put, List.setIfInBounds_toArray, List.set_cons_zero, List.set_cons_succ]; rfl) ?_
  · unfold opGives
    go_simp
    have bw := (keeps_drew hG).nil_below
    refine (like15_any .none none 0 noVC W (Rd.nil _ _) (Rd.nil _ _)).mono ?_
    rintro e w2 ⟨rfl, hb2⟩
    exact ⟨_, rfl, rfl, Keeps.of_below hb2 []⟩
  iterate 4 refine dep_reckons rfl (by kernel_rfl) (fun W hG hF => by go_simp <;> rfl) (by simp only [Act.put, List.setIfInBounds_toArray, List.set_cons_zero, List.set_cons_succ]; rfl) ?_
  refine dep_reckons rfl (by kernel_rfl) (fun W hG hF => by have hcf := cf W hG; go_simp <;> rfl) (by simp only [Act.put, List.setIfInBounds_toArray, List.set_cons_zero, List.set_cons_succ]; rfl) ?_
  refine dep_known (c := .int .i64 0) rfl (by kernel_rfl) (fun W hG hF => ?_) (by simp only [Act.put, List.setIfInBounds_toArray, List.set_cons_zero, List.set_cons_succ]; rfl) ?_
  · unfold opGives
    go_simp
    have bw := (keeps_drew hG).nil_below
    refine (TrimNil done W).mono ?_
    rintro e w2 ⟨rfl, hb2⟩
    exact ⟨_, rfl, rfl, Keeps.of_below hb2 []⟩
  iterate 4 refine dep_reckons rfl (by kernel_rfl) (fun W hG hF => by go_simp <;> rfl) (by simp only [Act.put, List.setIfInBounds_toArray, List.set_cons_zero, List.set_cons_succ]; rfl) ?_
  refine dep_known (c := .int .i64 0) rfl (by kernel_rfl) (fun W hG hF => ?_) (by simp only [Act.put, List.setIfInBounds_toArray, List.set_cons_zero, List.set_cons_succ]; rfl) ?_
  · unfold opGives
    go_simp
    refine (LenN W).mono ?_
    rintro e w2 ⟨rfl, rfl⟩
    exact ⟨_, rfl, rfl, Keeps.refl _ _⟩
  iterate 4 refine dep_reckons rfl (by kernel_rfl) (fun W hG hF => by go_simp <;> rfl) (by simp only [Act.put, List.setIfInBounds_toArray, List.set_cons_zero, List.set_cons_succ]; rfl) ?_
  refine dep_some rfl (by kernel_rfl) (fun W hG hF => ?_) (fun v51 => ?_)
  · unfold opGives
    go_simp
    refine (ListN W).mono ?_
    rintro e w2 ⟨rfl, hb2⟩
    exact ⟨_, rfl, ⟨_, _, rfl⟩, Keeps.of_below hb2 []⟩
  simp only [Act.put, List.setIfInBounds_toArray, List.set_cons_zero, List.set_cons_succ]
  refine dep_reckons (c := .int .i64 0) rfl (by kernel_rfl) (fun W hG hF => by obtain ⟨A1, c1, rfl⟩ := hF _ List.mem_cons_self (by kernel_rfl); go_simp) (by simp only [Act.put, List.setIfInBounds_toArray, List.set_cons_zero, List.set_cons_succ]; rfl) ?_
  iterate 3 refine dep_reckons rfl (by kernel_rfl) (fun W hG hF => by go_simp <;> rfl) (by simp only [Act.put, List.setIfInBounds_toArray, List.set_cons_zero, List.set_cons_succ]; rfl) ?_
  refine dep_known (c := .bool true) rfl (by kernel_rfl) (fun W hG hF => ?_) (by simp only [Act.put, List.setIfInBounds_toArray, List.set_cons_zero, List.set_cons_succ]; rfl) ?_
  · unfold opGives
    go_simp
    have bw := (keeps_drew hG).nil_below
    refine (awake15 W).mono ?_
    rintro e w2 ⟨rfl, hb2⟩
    exact ⟨_, rfl, rfl, Keeps.of_below hb2 []⟩
  refine dep_reckons rfl (by kernel_rfl) (fun W hG hF => by go_simp <;> rfl) (by simp only [Act.put, List.setIfInBounds_toArray, List.set_cons_zero, List.set_cons_succ]; rfl) ?_
  refine dep_nil fun W hG hF => ?_
  have hbw := (keeps_drew hG).nil_below
  clear hF cf
  go_wp2_with fail
  go_ret
  exact ⟨rfl, hB.trans (hbw.mono hB.size)⟩
end Go.Proofs.Ytgdmejkneabclaa
