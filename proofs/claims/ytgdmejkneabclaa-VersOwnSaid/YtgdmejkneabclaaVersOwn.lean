/- The walk of VersOwn. -/
import Derived.Test.YtgdmejkneabclaaVersPlays
namespace Go.Proofs.Ytgdmejkneabclaa
open Go.RowKit
set_option linter.unusedSimpArgs false
set_option linter.unusedVariables false

theorem field_ver2 (a b : Int) (c : Value) (w : World) : (Instr.field 41 (.agg #[.int .u64 a, .int .u64 b, c]) 2).run Try.prog w = .ok c w := by kernel_rfl
theorem atV_short {l : List VC} (h : Short l) (i : Int) : (atV l i).data.length ≤ 1000000 := by
  rw [← atC_v]
  rcases atC_mem l i with h1 | h1
  · exact h.2 _ h1
  · rw [h1]; simp [noVC, Ver.none]
theorem cleanV_short {l : List VC} (h : Short l) (d : Int) : (cleanV l d).data.length ≤ 1000000 := atV_short h _
theorem pickV_short {l : List VC} (h : Short l) (v d : Int) : (pickV l v d).data.length ≤ 1000000 := by
  unfold pickV
  split
  · exact atV_short h _
  · split
    · exact cleanV_short h _
    · simp [Ver.none]

theorem told_spoil {w0 w1 w2 : World} {v : Value} (hb : Below w0.heap.size w0 w1) (ho : ∀ k ∈ v.ownBlock, w0.heap.size ≤ k) (hk : Keeps v.ownBlock.toList w1 w2) : Below w0.heap.size w0 w2 :=
  hb.trans (hk.below hb.size fun k hk => ho k (by simpa using hk))

/-- The program's block with one version, and what was handed in. -/
structure OwnAt (w wr : World) (x y : VC) (B g : Nat) (sl : Value) (xb : VC) : Prop where
  b : BlockAt wr B g sl [xb]
  v : xb.v = x.v
  bx : Blk wr w.heap.size 69 (arr x)
  b_y : Blk wr (w.heap.size + 1) 69 (arr y)
  rx : Rd wr x.A x.v.data.length x.v.data
  ry : Rd wr y.A y.v.data.length y.v.data
  below : Below w.heap.size w wr
theorem OwnAt.below_ {w wr W : World} {x y : VC} {B g : Nat} {sl : Value} {xb : VC} (h : OwnAt w wr x y B g sl xb) (hb : Below wr.heap.size wr W) : OwnAt w W x y B g sl xb :=
  ⟨h.b.below hb, h.v, h.bx.below hb h.bx.lt, h.b_y.below hb h.b_y.lt, h.rx.below_ hb, h.ry.below_ hb, h.below.trans (hb.mono h.below.size)⟩

set_option maxRecDepth 100000 in
set_option maxHeartbeats 2000000 in
theorem VersOwn_walk (x y : VC) (w : World) (hx : POp.wf ⟨0, x, 0, 0⟩) (hy : POp.wf ⟨0, y, 0, 0⟩) (rx : Rd w x.A x.v.data.length x.v.data) (ry : Rd w y.A y.v.data.length y.v.data) :
    Calls Try.prog 9 #[x.agg, y.agg] w fun e w' => e = .returned (.bool true) ∧ Below w.heap.size w w' := by
  obtain ⟨i0, hi0, hz0, hz1, hz2⟩ := info_parts info_u8
  obtain ⟨hx1, hx2, hx3, hx4, _, _⟩ := hx
  obtain ⟨hy1, hy2, hy3, hy4, _, _⟩ := hy
  simp only at hx1 hx2 hx3 hx4 hy1 hy2 hy3 hy4
  unfold maxLen at hx2 hy2
  go_enter Try.func9, Try.ntmps9
  simp only [VC.agg]
  have hB0 : Below w.heap.size w ((w.alloc (.cells (arr x) 69)).alloc (.cells (arr y) 69)) := ((Below.refl _ _).alloc (Nat.le_refl _) _).alloc (by simp) _
  have hbx : Blk ((w.alloc (.cells (arr x) 69)).alloc (.cells (arr y) 69)) w.heap.size 69 (arr x) := (Blk.new w _ _).alloc _
  have hby : Blk ((w.alloc (.cells (arr x) 69)).alloc (.cells (arr y) 69)) (w.heap.size + 1) 69 (arr y) := by
    have := Blk.new (w.alloc (.cells (arr x) 69)) 69 (arr y)
    simpa using this
  have hs0 : ((w.alloc (.cells (arr x) 69)).alloc (.cells (arr y) 69)).heap.size = w.heap.size + 2 := by simp
  simp only [arr] at hB0 hbx hby hs0
  obtain ⟨d, hd⟩ : ∃ d, decide (x.v = y.v) = d := ⟨_, rfl⟩
  have HD := Lib.hid hd
  have tdd : (d == d) = true := by simp
  clear hd
  by_cases hbad : 2048 < x.v.data.length ∨ x.v.ver = 0 ∨ x.v.seq = 0
  · have rx0 := rx.below_ hB0
    have ry0 := ry.below_ hB0
    by_cases hlong : 2048 < x.v.data.length
    · have hover : (2048 < (x.v.data.length : Int)) := by omega
      clear hbad
      go_wp2_with fail
      generalize ((w.alloc (.cells #[.int .u64 x.v.ver, .int .u64 x.v.seq, .slice x.A x.v.data.length x.c] 69)).alloc (.cells #[.int .u64 y.v.ver, .int .u64 y.v.seq, .slice y.A y.v.data.length y.c] 69)) = X at hB0 hbx hby hs0 rx0 ry0 ⊢
      have cf : ∀ W, Keeps [] X.drew W → W.cell? ⟨w.heap.size, 0, none⟩ = some (.int .u64 x.v.ver) ∧ W.cell? ⟨w.heap.size, 1, none⟩ = some (.int .u64 x.v.seq) ∧ W.cell? ⟨w.heap.size, 2, none⟩ = some (.slice x.A x.v.data.length x.c) ∧
          W.cell? ⟨w.heap.size + 1, 0, none⟩ = some (.int .u64 y.v.ver) ∧ W.cell? ⟨w.heap.size + 1, 1, none⟩ = some (.int .u64 y.v.seq) ∧ W.cell? ⟨w.heap.size + 1, 2, none⟩ = some (.slice y.A y.v.data.length y.c) := fun W hk =>
        have h1 := fun i => (hk.cell (p := ⟨w.heap.size, i, none⟩) hbx.lt (by simp)).trans (hbx.cell i)
        have h2 := fun i => (hk.cell (p := ⟨w.heap.size + 1, i, none⟩) hby.lt (by simp)).trans (hby.cell i)
        ⟨h1 0, h1 1, h1 2, h2 0, h2 1, h2 2⟩
      refine wp_region_calls 12 [(1, .known x.agg), (3, .known y.agg), (4, .known (.bool d)), (7, .known (.bool d)), (10, .known (.bool true))] (by kernel_rfl) (by kernel_rfl) rfl ⟨trivial, trivial, trivial, trivial, trivial, trivial⟩ ?_
      simp only [List.take_succ_cons, List.take_zero, List.drop_succ_cons, List.drop_zero]
      refine dep_reckons (c := x.agg) rfl (by kernel_rfl) (fun W hG hF => by have hcf := cf W hG; simp only [VC.agg]; go_simp) (by simp only [Act.put, List.setIfInBounds_toArray, List.set_cons_zero, List.set_cons_succ]; rfl) ?_
      refine dep_known (c := x.agg) rfl (by kernel_rfl) (fun W hG hF => ?_) (by simp only [Act.put, List.setIfInBounds_toArray, List.set_cons_zero, List.set_cons_succ]; rfl) ?_
      · unfold opGives
        go_simp
        have bw := (keeps_drew hG).nil_below
        refine (ours15_any x W).mono ?_
        rintro e w2 ⟨rfl, hb2⟩
        exact ⟨_, rfl, rfl, Keeps.of_below hb2 []⟩
      refine dep_reckons (c := y.agg) rfl (by kernel_rfl) (fun W hG hF => by have hcf := cf W hG; simp only [VC.agg]; go_simp) (by simp only [Act.put, List.setIfInBounds_toArray, List.set_cons_zero, List.set_cons_succ]; rfl) ?_
      refine dep_known (c := y.agg) rfl (by kernel_rfl) (fun W hG hF => ?_) (by simp only [Act.put, List.setIfInBounds_toArray, List.set_cons_zero, List.set_cons_succ]; rfl) ?_
      · unfold opGives
        go_simp
        have bw := (keeps_drew hG).nil_below
        refine (ours15_any y W).mono ?_
        rintro e w2 ⟨rfl, hb2⟩
        exact ⟨_, rfl, rfl, Keeps.of_below hb2 []⟩
      refine dep_known (c := .bool d) rfl (by kernel_rfl) (fun W hG hF => ?_) (by simp only [Act.put, List.setIfInBounds_toArray, List.set_cons_zero, List.set_cons_succ]; rfl) ?_
      · unfold opGives
        go_simp
        have bw := (keeps_drew hG).nil_below
        refine (verSame_any x.v y.v x.A y.A x.c y.c W (rx0.below_ bw) (ry0.below_ bw)).mono ?_
        rintro e w2 ⟨rfl, hb2⟩
        exact ⟨_, rfl, by rw [HD.out], Keeps.of_below hb2 []⟩
      refine dep_reckons (c := x.agg) rfl (by kernel_rfl) (fun W hG hF => by have hcf := cf W hG; simp only [VC.agg]; go_simp) (by simp only [Act.put, List.setIfInBounds_toArray, List.set_cons_zero, List.set_cons_succ]; rfl) ?_
      refine dep_reckons (c := y.agg) rfl (by kernel_rfl) (fun W hG hF => by have hcf := cf W hG; simp only [VC.agg]; go_simp) (by simp only [Act.put, List.setIfInBounds_toArray, List.set_cons_zero, List.set_cons_succ]; rfl) ?_
      refine dep_known (c := .bool d) rfl (by kernel_rfl) (fun W hG hF => ?_) (by simp only [Act.put, List.setIfInBounds_toArray, List.set_cons_zero, List.set_cons_succ]; rfl) ?_
      · unfold opGives
        go_simp
        have bw := (keeps_drew hG).nil_below
        refine (refSame_any x.v y.v x.A y.A x.c y.c W (rx0.below_ bw) (ry0.below_ bw)).mono ?_
        rintro e w2 ⟨rfl, hb2⟩
        exact ⟨_, rfl, by rw [HD.out], Keeps.of_below hb2 []⟩
      iterate 2 refine dep_reckons rfl (by kernel_rfl) (fun W hG hF => by go_simp <;> rfl) (by simp only [Act.put, List.setIfInBounds_toArray, List.set_cons_zero, List.set_cons_succ]; rfl) ?_
      refine dep_known (c := .bool true) rfl (by kernel_rfl) (fun W hG hF => ?_) (by simp only [Act.put, List.setIfInBounds_toArray, List.set_cons_zero, List.set_cons_succ]; rfl) ?_
      · unfold opGives
        go_simp
        have bw := (keeps_drew hG).nil_below
        refine (awake15 W).mono ?_
        rintro e w2 ⟨rfl, hb2⟩
        exact ⟨_, rfl, rfl, Keeps.of_below hb2 []⟩
      refine dep_reckons rfl (by kernel_rfl) (fun W hG hF => by go_simp <;> rfl) (by simp only [Act.put, List.setIfInBounds_toArray, List.set_cons_zero, List.set_cons_succ]; rfl) ?_
      refine dep_nil fun W hG hF => ?_
      have hbw := (keeps_drew hG).nil_below
      clear hF cf
      go_wp2_with fail
      go_ret
      exact ⟨rfl, hB0.trans (hbw.mono hB0.size)⟩
    · have hover : ¬ (2048 < (x.v.data.length : Int)) := by omega
      by_cases hz0 : x.v.ver = 0
      · have tz0 : (x.v.ver == 0) = true := by simpa using hz0
        clear hbad hz0
        go_wp2_with fail
        generalize ((w.alloc (.cells #[.int .u64 x.v.ver, .int .u64 x.v.seq, .slice x.A x.v.data.length x.c] 69)).alloc (.cells #[.int .u64 y.v.ver, .int .u64 y.v.seq, .slice y.A y.v.data.length y.c] 69)) = X at hB0 hbx hby hs0 rx0 ry0 ⊢
        have cf : ∀ W, Keeps [] X.drew W → W.cell? ⟨w.heap.size, 0, none⟩ = some (.int .u64 x.v.ver) ∧ W.cell? ⟨w.heap.size, 1, none⟩ = some (.int .u64 x.v.seq) ∧ W.cell? ⟨w.heap.size, 2, none⟩ = some (.slice x.A x.v.data.length x.c) ∧
            W.cell? ⟨w.heap.size + 1, 0, none⟩ = some (.int .u64 y.v.ver) ∧ W.cell? ⟨w.heap.size + 1, 1, none⟩ = some (.int .u64 y.v.seq) ∧ W.cell? ⟨w.heap.size + 1, 2, none⟩ = some (.slice y.A y.v.data.length y.c) := fun W hk =>
          have h1 := fun i => (hk.cell (p := ⟨w.heap.size, i, none⟩) hbx.lt (by simp)).trans (hbx.cell i)
          have h2 := fun i => (hk.cell (p := ⟨w.heap.size + 1, i, none⟩) hby.lt (by simp)).trans (hby.cell i)
          ⟨h1 0, h1 1, h1 2, h2 0, h2 1, h2 2⟩
        refine wp_region_calls 12 [(1, .known x.agg), (3, .known y.agg), (4, .known (.bool d)), (7, .known (.bool d)), (10, .known (.bool true))] (by kernel_rfl) (by kernel_rfl) rfl ⟨trivial, trivial, trivial, trivial, trivial, trivial⟩ ?_
        simp only [List.take_succ_cons, List.take_zero, List.drop_succ_cons, List.drop_zero]
        refine dep_reckons (c := x.agg) rfl (by kernel_rfl) (fun W hG hF => by have hcf := cf W hG; simp only [VC.agg]; go_simp) (by simp only [Act.put, List.setIfInBounds_toArray, List.set_cons_zero, List.set_cons_succ]; rfl) ?_
        refine dep_known (c := x.agg) rfl (by kernel_rfl) (fun W hG hF => ?_) (by simp only [Act.put, List.setIfInBounds_toArray, List.set_cons_zero, List.set_cons_succ]; rfl) ?_
        · unfold opGives
          go_simp
          have bw := (keeps_drew hG).nil_below
          refine (ours15_any x W).mono ?_
          rintro e w2 ⟨rfl, hb2⟩
          exact ⟨_, rfl, rfl, Keeps.of_below hb2 []⟩
        refine dep_reckons (c := y.agg) rfl (by kernel_rfl) (fun W hG hF => by have hcf := cf W hG; simp only [VC.agg]; go_simp) (by simp only [Act.put, List.setIfInBounds_toArray, List.set_cons_zero, List.set_cons_succ]; rfl) ?_
        refine dep_known (c := y.agg) rfl (by kernel_rfl) (fun W hG hF => ?_) (by simp only [Act.put, List.setIfInBounds_toArray, List.set_cons_zero, List.set_cons_succ]; rfl) ?_
        · unfold opGives
          go_simp
          have bw := (keeps_drew hG).nil_below
          refine (ours15_any y W).mono ?_
          rintro e w2 ⟨rfl, hb2⟩
          exact ⟨_, rfl, rfl, Keeps.of_below hb2 []⟩
        refine dep_known (c := .bool d) rfl (by kernel_rfl) (fun W hG hF => ?_) (by simp only [Act.put, List.setIfInBounds_toArray, List.set_cons_zero, List.set_cons_succ]; rfl) ?_
        · unfold opGives
          go_simp
          have bw := (keeps_drew hG).nil_below
          refine (verSame_any x.v y.v x.A y.A x.c y.c W (rx0.below_ bw) (ry0.below_ bw)).mono ?_
          rintro e w2 ⟨rfl, hb2⟩
          exact ⟨_, rfl, by rw [HD.out], Keeps.of_below hb2 []⟩
        refine dep_reckons (c := x.agg) rfl (by kernel_rfl) (fun W hG hF => by have hcf := cf W hG; simp only [VC.agg]; go_simp) (by simp only [Act.put, List.setIfInBounds_toArray, List.set_cons_zero, List.set_cons_succ]; rfl) ?_
        refine dep_reckons (c := y.agg) rfl (by kernel_rfl) (fun W hG hF => by have hcf := cf W hG; simp only [VC.agg]; go_simp) (by simp only [Act.put, List.setIfInBounds_toArray, List.set_cons_zero, List.set_cons_succ]; rfl) ?_
        refine dep_known (c := .bool d) rfl (by kernel_rfl) (fun W hG hF => ?_) (by simp only [Act.put, List.setIfInBounds_toArray, List.set_cons_zero, List.set_cons_succ]; rfl) ?_
        · unfold opGives
          go_simp
          have bw := (keeps_drew hG).nil_below
          refine (refSame_any x.v y.v x.A y.A x.c y.c W (rx0.below_ bw) (ry0.below_ bw)).mono ?_
          rintro e w2 ⟨rfl, hb2⟩
          exact ⟨_, rfl, by rw [HD.out], Keeps.of_below hb2 []⟩
        iterate 2 refine dep_reckons rfl (by kernel_rfl) (fun W hG hF => by go_simp <;> rfl) (by simp only [Act.put, List.setIfInBounds_toArray, List.set_cons_zero, List.set_cons_succ]; rfl) ?_
        refine dep_known (c := .bool true) rfl (by kernel_rfl) (fun W hG hF => ?_) (by simp only [Act.put, List.setIfInBounds_toArray, List.set_cons_zero, List.set_cons_succ]; rfl) ?_
        · unfold opGives
          go_simp
          have bw := (keeps_drew hG).nil_below
          refine (awake15 W).mono ?_
          rintro e w2 ⟨rfl, hb2⟩
          exact ⟨_, rfl, rfl, Keeps.of_below hb2 []⟩
        refine dep_reckons rfl (by kernel_rfl) (fun W hG hF => by go_simp <;> rfl) (by simp only [Act.put, List.setIfInBounds_toArray, List.set_cons_zero, List.set_cons_succ]; rfl) ?_
        refine dep_nil fun W hG hF => ?_
        have hbw := (keeps_drew hG).nil_below
        clear hF cf
        go_wp2_with fail
        go_ret
        exact ⟨rfl, hB0.trans (hbw.mono hB0.size)⟩
      · have hz1 : x.v.seq = 0 := by omega
        have tz0 : (x.v.ver == 0) = false := by simpa using hz0
        have tz1 : (x.v.seq == 0) = true := by simpa using hz1
        clear hbad hz0 hz1
        go_wp2_with fail
        generalize ((w.alloc (.cells #[.int .u64 x.v.ver, .int .u64 x.v.seq, .slice x.A x.v.data.length x.c] 69)).alloc (.cells #[.int .u64 y.v.ver, .int .u64 y.v.seq, .slice y.A y.v.data.length y.c] 69)) = X at hB0 hbx hby hs0 rx0 ry0 ⊢
        have cf : ∀ W, Keeps [] X.drew W → W.cell? ⟨w.heap.size, 0, none⟩ = some (.int .u64 x.v.ver) ∧ W.cell? ⟨w.heap.size, 1, none⟩ = some (.int .u64 x.v.seq) ∧ W.cell? ⟨w.heap.size, 2, none⟩ = some (.slice x.A x.v.data.length x.c) ∧
            W.cell? ⟨w.heap.size + 1, 0, none⟩ = some (.int .u64 y.v.ver) ∧ W.cell? ⟨w.heap.size + 1, 1, none⟩ = some (.int .u64 y.v.seq) ∧ W.cell? ⟨w.heap.size + 1, 2, none⟩ = some (.slice y.A y.v.data.length y.c) := fun W hk =>
          have h1 := fun i => (hk.cell (p := ⟨w.heap.size, i, none⟩) hbx.lt (by simp)).trans (hbx.cell i)
          have h2 := fun i => (hk.cell (p := ⟨w.heap.size + 1, i, none⟩) hby.lt (by simp)).trans (hby.cell i)
          ⟨h1 0, h1 1, h1 2, h2 0, h2 1, h2 2⟩
        refine wp_region_calls 12 [(1, .known x.agg), (3, .known y.agg), (4, .known (.bool d)), (7, .known (.bool d)), (10, .known (.bool true))] (by kernel_rfl) (by kernel_rfl) rfl ⟨trivial, trivial, trivial, trivial, trivial, trivial⟩ ?_
        simp only [List.take_succ_cons, List.take_zero, List.drop_succ_cons, List.drop_zero]
        refine dep_reckons (c := x.agg) rfl (by kernel_rfl) (fun W hG hF => by have hcf := cf W hG; simp only [VC.agg]; go_simp) (by simp only [Act.put, List.setIfInBounds_toArray, List.set_cons_zero, List.set_cons_succ]; rfl) ?_
        refine dep_known (c := x.agg) rfl (by kernel_rfl) (fun W hG hF => ?_) (by simp only [Act.put, List.setIfInBounds_toArray, List.set_cons_zero, List.set_cons_succ]; rfl) ?_
        · unfold opGives
          go_simp
          have bw := (keeps_drew hG).nil_below
          refine (ours15_any x W).mono ?_
          rintro e w2 ⟨rfl, hb2⟩
          exact ⟨_, rfl, rfl, Keeps.of_below hb2 []⟩
        refine dep_reckons (c := y.agg) rfl (by kernel_rfl) (fun W hG hF => by have hcf := cf W hG; simp only [VC.agg]; go_simp) (by simp only [Act.put, List.setIfInBounds_toArray, List.set_cons_zero, List.set_cons_succ]; rfl) ?_
        refine dep_known (c := y.agg) rfl (by kernel_rfl) (fun W hG hF => ?_) (by simp only [Act.put, List.setIfInBounds_toArray, List.set_cons_zero, List.set_cons_succ]; rfl) ?_
        · unfold opGives
          go_simp
          have bw := (keeps_drew hG).nil_below
          refine (ours15_any y W).mono ?_
          rintro e w2 ⟨rfl, hb2⟩
          exact ⟨_, rfl, rfl, Keeps.of_below hb2 []⟩
        refine dep_known (c := .bool d) rfl (by kernel_rfl) (fun W hG hF => ?_) (by simp only [Act.put, List.setIfInBounds_toArray, List.set_cons_zero, List.set_cons_succ]; rfl) ?_
        · unfold opGives
          go_simp
          have bw := (keeps_drew hG).nil_below
          refine (verSame_any x.v y.v x.A y.A x.c y.c W (rx0.below_ bw) (ry0.below_ bw)).mono ?_
          rintro e w2 ⟨rfl, hb2⟩
          exact ⟨_, rfl, by rw [HD.out], Keeps.of_below hb2 []⟩
        refine dep_reckons (c := x.agg) rfl (by kernel_rfl) (fun W hG hF => by have hcf := cf W hG; simp only [VC.agg]; go_simp) (by simp only [Act.put, List.setIfInBounds_toArray, List.set_cons_zero, List.set_cons_succ]; rfl) ?_
        refine dep_reckons (c := y.agg) rfl (by kernel_rfl) (fun W hG hF => by have hcf := cf W hG; simp only [VC.agg]; go_simp) (by simp only [Act.put, List.setIfInBounds_toArray, List.set_cons_zero, List.set_cons_succ]; rfl) ?_
        refine dep_known (c := .bool d) rfl (by kernel_rfl) (fun W hG hF => ?_) (by simp only [Act.put, List.setIfInBounds_toArray, List.set_cons_zero, List.set_cons_succ]; rfl) ?_
        · unfold opGives
          go_simp
          have bw := (keeps_drew hG).nil_below
          refine (refSame_any x.v y.v x.A y.A x.c y.c W (rx0.below_ bw) (ry0.below_ bw)).mono ?_
          rintro e w2 ⟨rfl, hb2⟩
          exact ⟨_, rfl, by rw [HD.out], Keeps.of_below hb2 []⟩
        iterate 2 refine dep_reckons rfl (by kernel_rfl) (fun W hG hF => by go_simp <;> rfl) (by simp only [Act.put, List.setIfInBounds_toArray, List.set_cons_zero, List.set_cons_succ]; rfl) ?_
        refine dep_known (c := .bool true) rfl (by kernel_rfl) (fun W hG hF => ?_) (by simp only [Act.put, List.setIfInBounds_toArray, List.set_cons_zero, List.set_cons_succ]; rfl) ?_
        · unfold opGives
          go_simp
          have bw := (keeps_drew hG).nil_below
          refine (awake15 W).mono ?_
          rintro e w2 ⟨rfl, hb2⟩
          exact ⟨_, rfl, rfl, Keeps.of_below hb2 []⟩
        refine dep_reckons rfl (by kernel_rfl) (fun W hG hF => by go_simp <;> rfl) (by simp only [Act.put, List.setIfInBounds_toArray, List.set_cons_zero, List.set_cons_succ]; rfl) ?_
        refine dep_nil fun W hG hF => ?_
        have hbw := (keeps_drew hG).nil_below
        clear hF cf
        go_wp2_with fail
        go_ret
        exact ⟨rfl, hB0.trans (hbw.mono hB0.size)⟩
  · have hover : ¬ (2048 < (x.v.data.length : Int)) := by omega
    have tz0 : (x.v.ver == 0) = false := by have : ¬ x.v.ver = 0 := by omega
                                            simpa using this
    have tz1 : (x.v.seq == 0) = false := by have : ¬ x.v.seq = 0 := by omega
                                            simpa using this
    have hpos : 1 ≤ x.v.ver ∧ 0 < x.v.seq ∧ x.v.data.length ≤ 2048 := by omega
    clear hbad
    go_wp2_with (at_builtin; refine wpList_append_src rfl (.const (.slice none 0 0)) (.tmp 37) _ rfl (w.heap.size + 2) 5 i0 _ 1 1 Try.underlying23 hi0 hz0 hz1 hz2 rfl (by omega) (.slice none 0 0) 0 [] rfl (World.ownsRow_nil _ _ _ _) x.A x.v.data.length x.c (x.v.data.map bv) rfl ?c1 ?c2 ?c3 ?c4 ?c5)
    case c1 => exact (rx.below_ hB0).src
    case c2 => unfold maxLen; omega
    case c3 => omega
    case c5 =>
      intro dt w1 ho1 hg1 hor1
      have hk1 := (Keeps.of_grown hg1).nil_below
      generalize ((w.alloc (.cells #[.int .u64 x.v.ver, .int .u64 x.v.seq, .slice x.A x.v.data.length x.c] 69)).alloc (.cells #[.int .u64 y.v.ver, .int .u64 y.v.seq, .slice y.A y.v.data.length y.c] 69)) = w0 at hB0 hbx hby hs0 hk1 hg1 hor1
      have hbx1 := hbx.below hk1 hbx.lt
      have hby1 := hby.below hk1 hby.lt
      have hB1 : Below w.heap.size w w1 := hB0.trans (hk1.mono (by omega))
      have hs1 := hk1.size
      obtain ⟨A1, c1, hdt, hdc, hdm⟩ := own_form ho1
      rw [hdt] at ho1 ⊢
      unfold maxLen at hdm
      clear hB0 hbx hby hk1 hg1 hor1 hdt
      go_wp2_with fail
      refine (verNew_any _).mono ?_
      rintro e w2 ⟨rfl, h2, hb2, hs2⟩
      have hbx2 := hbx1.below hb2 hbx1.lt
      have hby2 := hby1.below hb2 hby1.lt
      have ho2 := own_below ho1 hb2 (own_lt ho1)
      have hB2 : Below w.heap.size w w2 := hB1.trans (hb2.mono hB1.size)
      have x0 := hbx2.cell 0
      have x1 := hbx2.cell 1
      simp only [List.getElem?_toArray, List.getElem?_cons_zero, List.getElem?_cons_succ] at x0 x1
      have xl := hbx2.lt
      go_wp2_with fail
      refine (Put_ok w1.heap.size w1.heap.size _ [] x.v A1 c1 w2 h2 ⟨by simp, by simp⟩ (by simp) (by omega) (Rd.of_own ho2) (fun _ ad _ => by simp [Value.ownBlock]) hdc (by omega) (by omega) (by omega) (.inl rfl)).mono ?_
      rintro e w3 ⟨rfl, sl3, xb, hxb, h3, hk3, hor3⟩
      have hs3 := hk3.size
      have hg1S : ∀ k, k ≠ w1.heap.size → k ∉ w1.heap.size :: (Value.slice none 0 0).ownBlock.toList := fun k hk hm => by simp [Value.ownBlock] at hm; exact hk hm
      have ho3 := own_keeps ho2 hk3 fun k hk => hg1S k (by have := own_lt ho1 k hk; omega)
      have hbx3 := hbx2.keeps hk3 (hg1S _ (by have := hbx1.lt; omega))
      have hby3 := hby2.keeps hk3 (hg1S _ (by have := hby1.lt; omega))
      have hB3 : Below w.heap.size w w3 := hB2.trans (hk3.below (by omega) fun k hk => by simp [Value.ownBlock] at hk; omega)
      go_wp2_with fail
      refine (spoil15_any _ A1 _ c1 _ _ ho3 (by omega)).mono ?_
      rintro e w4 ⟨rfl, hk4, hys⟩
      clear hys
      have h4 : BlockAt w4 w1.heap.size w1.heap.size sl3 [xb] := by
        refine BlockAt.keeps (l := [xb]) h3 hk4 (fun hm => own_blk_ne ho3 h3.blk (by decide) _ (by simpa using hm) rfl) (fun k hk hm => own_own_ne h3.own ho3 (by decide) k hk (by simpa using hm)) fun z hz k hk hm => ?_
        have h5 := own_ge (h3.data z hz) k hk
        have h6 := own_lt ho1 k (by simpa using hm)
        omega
      have hbx4 := hbx3.keeps hk4 fun hm => own_blk_ne ho3 hbx3 (by decide) _ (by simpa using hm) rfl
      have hby4 := hby3.keeps hk4 fun hm => own_blk_ne ho3 hby3 (by decide) _ (by simpa using hm) rfl
      have hs4 := hk4.size
      have hB4 : Below w.heap.size w w4 := hB3.trans (hk4.below (by omega) fun k hk => by have := own_ge ho3 k (by simpa using hk); omega)
      have hO : OwnAt w w4 x y w1.heap.size w1.heap.size sl3 xb := ⟨h4, hxb, hbx4, hby4, rx.below_ hB4, ry.below_ hB4, hB4⟩
      have hsh : Short [xb] := ⟨by simp, by simp [hxb]; omega⟩
      have hri : Rising [xb] := by rw [rising_vs]; exact rising_put (m := []) rising_nil (.inl rfl)
      clear h4 hbx4 hby4 hB4 hk4 ho3 hbx3 hby3 hB3 hk3 hor3 h3 ho2 hB2 hbx2 hby2 hb2 h2 hbx1 hby1 ho1 hB1 x0 x1 xl hg1S hs0 hs1 hs2 hs3 hs4
      have hfd := field_ver2
      go_wp2_with fail
      refine (Last_any _ _ _ _ _ hO.b hsh).mono ?_
      rintro e w5 ⟨⟨A5, c5, rfl, ho5⟩, hb5⟩
      obtain ⟨V5, hV5⟩ : ∃ V, atV [xb] ((([xb] : List VC).length : Int) - 1) = V := ⟨_, rfl⟩
      have ht5 := atV_short hsh ((([xb] : List VC).length : Int) - 1)
      rw [hV5] at ho5 ht5 ⊢
      clear hV5
      go_wp2_with fail
      refine (spoil15_any _ A5 _ c5 _ _ ho5 ht5).mono ?_
      rintro e w6 ⟨rfl, hk6, -⟩
      replace hO := hO.below_ (told_spoil hb5 (own_ge ho5) hk6)
      have x1 := hO.bx.cell 1
      have xl := hO.bx.lt
      simp only [arr, List.getElem?_toArray, List.getElem?_cons_zero, List.getElem?_cons_succ] at x1
      clear ho5 hk6 hb5 ht5
      go_wp2_with fail
      clear x1 xl
      refine (Clean_any _ _ _ _ _ _ hO.b hsh hri).mono ?_
      rintro e w7 ⟨⟨A7, c7, rfl, ho7⟩, hb7⟩
      obtain ⟨V7, hV7⟩ : ∃ V, cleanV [xb] x.v.seq = V := ⟨_, rfl⟩
      have ht7 := cleanV_short hsh x.v.seq
      rw [hV7] at ho7 ht7 ⊢
      clear hV7
      go_wp2_with fail
      refine (spoil15_any _ A7 _ c7 _ _ ho7 ht7).mono ?_
      rintro e w8 ⟨rfl, hk8, -⟩
      replace hO := hO.below_ (told_spoil hb7 (own_ge ho7) hk8)
      have x0 := hO.bx.cell 0
      have xl := hO.bx.lt
      simp only [arr, List.getElem?_toArray, List.getElem?_cons_zero, List.getElem?_cons_succ] at x0
      clear ho7 hk8 hb7 ht7
      go_wp2_with fail
      clear x0 xl
      refine (Pick_any _ _ _ _ _ _ _ hO.b hsh hri).mono ?_
      rintro e w9 ⟨⟨A9, c9, rfl, ho9⟩, hb9⟩
      obtain ⟨V9, hV9⟩ : ∃ V, pickV [xb] x.v.ver 0 = V := ⟨_, rfl⟩
      have ht9 := pickV_short hsh x.v.ver 0
      rw [hV9] at ho9 ht9 ⊢
      clear hV9
      go_wp2_with fail
      refine (spoil15_any _ A9 _ c9 _ _ ho9 ht9).mono ?_
      rintro e w10 ⟨rfl, hk10, -⟩
      replace hO := hO.below_ (told_spoil hb9 (own_ge ho9) hk10)
      clear ho9 hk10 hb9 ht9
      go_wp2_with fail
      refine (List_any _ _ _ _ _ hO.b hsh).mono ?_
      rintro e w11 ⟨⟨so, L, rfl, hR, hvL⟩, hb11⟩
      have hO10 := hO
      replace hO := hO.below_ hb11
      have hL1 : L.length = 1 := by have := congrArg List.length hvL; simpa using this
      obtain ⟨z, hz⟩ : ∃ z, L.getD 0 noVC = z := ⟨_, rfl⟩
      obtain ⟨b, c, hso, hbl, e0, e1, e2⟩ := hR.at_ 0 (by omega) noVC
      have hzd := hR.data z (by rw [← hz, List.getD_eq_getElem?_getD, List.getElem?_eq_getElem (by omega)]; exact List.getElem_mem _)
      rw [hz] at e0 e1 e2
      have hzs : z.v.data.length ≤ 1000000 := by
        have h1 : z.v ∈ vs [xb] := by
          rw [show vs [xb] = vs L from hvL.symm, ← hz, List.getD_eq_getElem?_getD, List.getElem?_eq_getElem (by omega)]
          exact List.mem_map_of_mem (List.getElem_mem _)
        rw [show z.v = x.v by simpa [hxb] using h1]
        omega
      rw [hL1] at hso
      rw [hso]
      simp only [Nat.zero_mul, Nat.zero_add] at e0 e1 e2
      have hge := own_ge hzd
      clear hR hvL hz hL1 hso
      go_wp2_with fail
      go_loopw [9] (fun i wr => ∃ k : Nat, k ≤ 1 ∧ i = .int .i64 k ∧ (k = 0 → wr = w11) ∧ OwnAt w wr x y w1.heap.size w1.heap.size sl3 xb) (fun i _ => 1 - (intOf i).toNat)
      case atStart => exact ⟨0, by omega, rfl, fun _ => rfl, hO⟩
      case round =>
        obtain ⟨k, hk, rfl, hw0, hO'⟩ := hrel
        by_cases hk0 : k = 0
        · subst hk0
          have := hw0 rfl
          subst this
          clear hw0
          go_wp2_with fail
          refine (spoil15_any _ z.A _ z.c _ _ hzd hzs).mono ?_
          rintro e w12 ⟨rfl, hk12, -⟩
          have hO12 := hO10.below_ (told_spoil hb11 hge hk12)
          clear hzd e0 e1 e2
          go_wp2_with fail
          exact ⟨⟨1, by omega, rfl, fun h => by omega, hO12⟩, by simp [intOf]⟩
        · have hk1 : k = 1 := by omega
          subst hk1
          clear hw0 hO hzd e0 e1 e2 hbl hO10 hb11 hge hzs
          have hlv : atV [xb] ((([xb] : List VC).length : Int) - 1) = x.v := by rw [at_vs]; simp [atM, hxb]
          have HLV := Lib.hid hlv
          clear hlv
          go_wp2_with fail
          have cf : ∀ W, Keeps [] wr.drew W → W.cell? ⟨w.heap.size, 0, none⟩ = some (.int .u64 x.v.ver) ∧ W.cell? ⟨w.heap.size, 1, none⟩ = some (.int .u64 x.v.seq) ∧ W.cell? ⟨w.heap.size, 2, none⟩ = some (.slice x.A x.v.data.length x.c) ∧
              W.cell? ⟨w.heap.size + 1, 0, none⟩ = some (.int .u64 y.v.ver) ∧ W.cell? ⟨w.heap.size + 1, 1, none⟩ = some (.int .u64 y.v.seq) ∧ W.cell? ⟨w.heap.size + 1, 2, none⟩ = some (.slice y.A y.v.data.length y.c) := fun W hk =>
            have h1 := fun i => (hk.cell (p := ⟨w.heap.size, i, none⟩) hO'.bx.lt (by simp)).trans (hO'.bx.cell i)
            have h2 := fun i => (hk.cell (p := ⟨w.heap.size + 1, i, none⟩) hO'.b_y.lt (by simp)).trans (hO'.b_y.cell i)
            ⟨h1 0, h1 1, h1 2, h2 0, h2 1, h2 2⟩
          refine wp_region_calls 22 [(4, .some_ fun v W => ToldV wr.heap.size x.v v W), (6, .known (.bool true)), (10, .known x.agg), (12, .known y.agg), (13, .known (.bool d)), (16, .known (.bool d)), (20, .known (.bool true))] (by kernel_rfl) (by kernel_rfl) rfl
            ⟨fun v W1 W2 hk hφ => toldV_keeps hφ hk, trivial, trivial, trivial, trivial, trivial, trivial, trivial⟩ ?_
          simp only [List.take_succ_cons, List.take_zero, List.drop_succ_cons, List.drop_zero]
          iterate 4 refine dep_reckons rfl (by kernel_rfl) (fun W hG hF => by go_simp <;> rfl) (by simp only [Act.put, List.setIfInBounds_toArray, List.set_cons_zero, List.set_cons_succ]; rfl) ?_
          refine dep_some rfl (by kernel_rfl) (fun W hG hF => ?_) (fun v4 => ?_)
          · unfold opGives
            go_simp
            have hOW := hO'.below_ (keeps_drew hG).nil_below
            have hsW := (keeps_drew hG).size
            refine (Last_any _ _ _ _ W hOW.b hsh).mono ?_
            rintro e w2 ⟨⟨A1, c1, rfl, ho1⟩, hb2⟩
            rw [HLV.out] at ho1 ⊢
            exact ⟨_, rfl, ⟨A1, c1, rfl, own_rebase ho1 fun j hj => Nat.le_trans hsW (own_ge ho1 j hj)⟩, Keeps.of_below hb2 []⟩
          simp only [Act.put, List.setIfInBounds_toArray, List.set_cons_zero, List.set_cons_succ]
          refine dep_reckons (c := x.agg) rfl (by kernel_rfl) (fun W hG hF => by have hcf := cf W hG; simp only [VC.agg]; go_simp) (by simp only [Act.put, List.setIfInBounds_toArray, List.set_cons_zero, List.set_cons_succ]; rfl) ?_
          refine dep_known (c := .bool true) rfl (by kernel_rfl) (fun W hG hF => ?_) (by simp only [Act.put, List.setIfInBounds_toArray, List.set_cons_zero, List.set_cons_succ]; rfl) ?_
          · obtain ⟨A1, c1, rfl, ho1⟩ := hF _ List.mem_cons_self (by kernel_rfl)
            unfold opGives
            go_simp
            have hOW := hO'.below_ (keeps_drew hG).nil_below
            refine (like15_any x.v A1 c1 x W (Rd.of_own ho1) hOW.rx).mono ?_
            rintro e w2 ⟨rfl, hb2⟩
            exact ⟨_, rfl, by simp, Keeps.of_below hb2 []⟩
          iterate 2 refine dep_reckons rfl (by kernel_rfl) (fun W hG hF => by go_simp <;> rfl) (by simp only [Act.put, List.setIfInBounds_toArray, List.set_cons_zero, List.set_cons_succ]; rfl) ?_
          refine dep_reckons (c := x.agg) rfl (by kernel_rfl) (fun W hG hF => by have hcf := cf W hG; simp only [VC.agg]; go_simp) (by simp only [Act.put, List.setIfInBounds_toArray, List.set_cons_zero, List.set_cons_succ]; rfl) ?_
          refine dep_known (c := x.agg) rfl (by kernel_rfl) (fun W hG hF => ?_) (by simp only [Act.put, List.setIfInBounds_toArray, List.set_cons_zero, List.set_cons_succ]; rfl) ?_
          · unfold opGives
            go_simp
            have bw := (keeps_drew hG).nil_below
            refine (ours15_any x W).mono ?_
            rintro e w2 ⟨rfl, hb2⟩
            exact ⟨_, rfl, rfl, Keeps.of_below hb2 []⟩
          refine dep_reckons (c := y.agg) rfl (by kernel_rfl) (fun W hG hF => by have hcf := cf W hG; simp only [VC.agg]; go_simp) (by simp only [Act.put, List.setIfInBounds_toArray, List.set_cons_zero, List.set_cons_succ]; rfl) ?_
          refine dep_known (c := y.agg) rfl (by kernel_rfl) (fun W hG hF => ?_) (by simp only [Act.put, List.setIfInBounds_toArray, List.set_cons_zero, List.set_cons_succ]; rfl) ?_
          · unfold opGives
            go_simp
            have bw := (keeps_drew hG).nil_below
            refine (ours15_any y W).mono ?_
            rintro e w2 ⟨rfl, hb2⟩
            exact ⟨_, rfl, rfl, Keeps.of_below hb2 []⟩
          refine dep_known (c := .bool d) rfl (by kernel_rfl) (fun W hG hF => ?_) (by simp only [Act.put, List.setIfInBounds_toArray, List.set_cons_zero, List.set_cons_succ]; rfl) ?_
          · unfold opGives
            go_simp
            have bw := (keeps_drew hG).nil_below
            refine (verSame_any x.v y.v x.A y.A x.c y.c W (hO'.below_ bw).rx (hO'.below_ bw).ry).mono ?_
            rintro e w2 ⟨rfl, hb2⟩
            exact ⟨_, rfl, by rw [HD.out], Keeps.of_below hb2 []⟩
          refine dep_reckons (c := x.agg) rfl (by kernel_rfl) (fun W hG hF => by have hcf := cf W hG; simp only [VC.agg]; go_simp) (by simp only [Act.put, List.setIfInBounds_toArray, List.set_cons_zero, List.set_cons_succ]; rfl) ?_
          refine dep_reckons (c := y.agg) rfl (by kernel_rfl) (fun W hG hF => by have hcf := cf W hG; simp only [VC.agg]; go_simp) (by simp only [Act.put, List.setIfInBounds_toArray, List.set_cons_zero, List.set_cons_succ]; rfl) ?_
          refine dep_known (c := .bool d) rfl (by kernel_rfl) (fun W hG hF => ?_) (by simp only [Act.put, List.setIfInBounds_toArray, List.set_cons_zero, List.set_cons_succ]; rfl) ?_
          · unfold opGives
            go_simp
            have bw := (keeps_drew hG).nil_below
            refine (refSame_any x.v y.v x.A y.A x.c y.c W (hO'.below_ bw).rx (hO'.below_ bw).ry).mono ?_
            rintro e w2 ⟨rfl, hb2⟩
            exact ⟨_, rfl, by rw [HD.out], Keeps.of_below hb2 []⟩
          iterate 3 refine dep_reckons rfl (by kernel_rfl) (fun W hG hF => by go_simp <;> rfl) (by simp only [Act.put, List.setIfInBounds_toArray, List.set_cons_zero, List.set_cons_succ]; rfl) ?_
          refine dep_known (c := .bool true) rfl (by kernel_rfl) (fun W hG hF => ?_) (by simp only [Act.put, List.setIfInBounds_toArray, List.set_cons_zero, List.set_cons_succ]; rfl) ?_
          · unfold opGives
            go_simp
            have bw := (keeps_drew hG).nil_below
            refine (awake15 W).mono ?_
            rintro e w2 ⟨rfl, hb2⟩
            exact ⟨_, rfl, rfl, Keeps.of_below hb2 []⟩
          refine dep_reckons rfl (by kernel_rfl) (fun W hG hF => by go_simp <;> rfl) (by simp only [Act.put, List.setIfInBounds_toArray, List.set_cons_zero, List.set_cons_succ]; rfl) ?_
          refine dep_nil fun W hG hF => ?_
          have hOW := hO'.below_ (keeps_drew hG).nil_below
          clear hF cf
          go_wp2_with fail
          go_ret
          exact ⟨rfl, hOW.below⟩
end Go.Proofs.Ytgdmejkneabclaa
