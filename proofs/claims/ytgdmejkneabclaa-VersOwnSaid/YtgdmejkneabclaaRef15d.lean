/- Contracts of the document's answer, layer 15: Put. -/
import Derived.Test.YtgdmejkneabclaaRef15c
namespace Go.Proofs.Ytgdmejkneabclaa
open Go.RowKit
set_option linter.unusedSimpArgs false
set_option linter.unusedVariables false

theorem info_refver : (Try.prog.info? 69).map (fun i => (i.zero, i.size, i.bytes)) = some (some (.agg #[.int .u64 0, .int .u64 0, .slice none 0 0]), 3, 40) := by kernel_rfl

theorem cells_one {l : List VC} : ∀ u ∈ l.flatMap VC.cells, u.oneCell' = true := by
  intro u hu
  obtain ⟨y, _, hy⟩ := List.mem_flatMap.1 hu
  simp only [VC.cells, List.mem_cons, List.not_mem_nil, or_false] at hy
  rcases hy with rfl | rfl | rfl <;> rfl

set_option maxRecDepth 100000 in
set_option maxHeartbeats 2000000 in
theorem refPut_any (base : Nat) (sl : Value) (l : List VC) (x : VC) (w : World) (h : RefAt w base sl l) (hl : l.length ≤ 900) (hc : x.v.data.length ≤ x.c) (hcm : x.c ≤ maxLen)
    (hv1 : 0 ≤ x.v.ver ∧ x.v.ver ≤ 18446744073709551615) (hv2 : 0 ≤ x.v.seq) :
    Calls Try.prog 34 #[sl, x.agg] w fun e w' =>
      (∃ so, e = .returned (.tuple #[so, .int .i64 (putErr l x.v)]) ∧ (putErr l x.v = 0 → RefAt w' w.heap.size so (l ++ [x])) ∧ (putErr l x.v ≠ 0 → so = sl)) ∧ Below w.heap.size w w' := by
  obtain ⟨A, c, hsl, hlc, hcm'⟩ := own_form h
  obtain ⟨i0, hi0, hz0, hz1, hz2⟩ := info_parts info_refver
  have hq : putErr l x.v = if 2048 < x.v.data.length then 6 else if x.v.ver = 0 ∨ x.v.seq = 0 then 1 else if 0 < l.length ∧ (x.v.ver - 1 ≠ (lastV l).ver ∨ x.v.seq ≤ (lastV l).seq) then 12 else 0 := rfl
  have hlast := refLast_any base sl l
  unfold maxLen at hcm
  have hb1 : Below w.heap.size w (w.alloc (.cells (arr x) 69)) := (Below.refl _ _).alloc (Nat.le_refl _) _
  simp only [arr] at hb1
  have H := h
  have HSL := Lib.hid hsl
  rw [hsl] at H ⊢
  by_cases hlong : 2048 < x.v.data.length
  · rw [if_pos hlong] at hq
    have HQ2 := Lib.hid hq
    have hover : (2048 < (x.v.data.length : Int)) := by omega
    clear hq hlast
    go_enter Try.func34, Try.ntmps34
    simp only [VC.agg]
    go_wp2_with fail
    rw [HQ2.out]
    exact bodyPost_ret (v := .tuple #[.slice A l.length c, .int .i64 6]) (by simp [results, Try.results34, go_sem]) rfl ⟨⟨_, rfl, fun h => absurd h (by decide), fun _ => rfl⟩, hb1⟩
  have hover : ¬ (2048 < (x.v.data.length : Int)) := by omega
  rw [if_neg hlong] at hq
  by_cases hz : x.v.ver = 0 ∨ x.v.seq = 0
  · rw [if_pos hz] at hq
    have HQ2 := Lib.hid hq
    clear hq hlast
    go_enter Try.func34, Try.ntmps34
    simp only [VC.agg]
    by_cases hz0 : x.v.ver = 0
    · have t0 : (x.v.ver == 0) = true := by simpa using hz0
      clear hz hz0
      go_wp2_with fail
      rw [HQ2.out]
      exact bodyPost_ret (v := .tuple #[.slice A l.length c, .int .i64 1]) (by simp [results, Try.results34, go_sem]) rfl ⟨⟨_, rfl, fun h => absurd h (by decide), fun _ => rfl⟩, hb1⟩
    · have hs0 : x.v.seq = 0 := hz.resolve_left hz0
      have t0 : (x.v.ver == 0) = false := by simpa using hz0
      have t1 : (x.v.seq == 0) = true := by simpa using hs0
      clear hz hz0 hs0
      go_wp2_with fail
      rw [HQ2.out]
      exact bodyPost_ret (v := .tuple #[.slice A l.length c, .int .i64 1]) (by simp [results, Try.results34, go_sem]) rfl ⟨⟨_, rfl, fun h => absurd h (by decide), fun _ => rfl⟩, hb1⟩
  rw [if_neg hz] at hq
  have t0 : (x.v.ver == 0) = false := by have : ¬ x.v.ver = 0 := fun h => hz (.inl h); simpa using this
  have t1 : (x.v.seq == 0) = false := by have : ¬ x.v.seq = 0 := fun h => hz (.inr h); simpa using this
  have wr1 : IntKind.u64.wrap (x.v.ver - 1) = x.v.ver - 1 := by
    have : ¬ x.v.ver = 0 := fun h => hz (.inl h)
    rw [IntKind.wrap_u64]; omega
  clear hz hlong
  have hx1 : Blk (w.alloc (.cells (arr x) 69)) w.heap.size 69 (arr x) := Blk.new w _ _
  simp only [arr] at hx1
  have hxs : (w.alloc (.cells #[.int .u64 x.v.ver, .int .u64 x.v.seq, .slice x.A x.v.data.length x.c] 69)).heap.size = w.heap.size + 1 := by simp
  obtain ⟨y, hy⟩ : ∃ y, atC l ((l.length : Int) - 1) = y := ⟨_, rfl⟩
  have hyv : lastV l = y.v := by rw [← hy, atC_v]; rfl
  have hlast2 := fun W hW => hlast W hW (by omega)
  rw [hy] at hlast2
  rw [hsl] at hlast2
  rw [hyv] at hq
  go_enter Try.func34, Try.ntmps34
  simp only [VC.agg]
  have hfd0 := refField0 y.v.ver y.v.seq (.slice y.A y.v.data.length y.c)
  have hfd1 := refField1 y.v.ver y.v.seq (.slice y.A y.v.data.length y.c)
  have HQ2 := Lib.hid hq
  clear hq hlast hsl hy hyv
  go_wp2_with fail
  generalize hX : (w.alloc (.cells #[.int .u64 x.v.ver, .int .u64 x.v.seq, .slice x.A x.v.data.length x.c] 69)) = X at hb1 hx1 hxs ⊢
  have H1 : RefAt X base (.slice A l.length c) l := own_below H hb1 (own_lt H)
  have cf : ∀ W, Keeps [] X.drew W → W.cell? ⟨w.heap.size, 0, none⟩ = some (.int .u64 x.v.ver) ∧ W.cell? ⟨w.heap.size, 1, none⟩ = some (.int .u64 x.v.seq) := fun W hk =>
    ⟨(hk.cell (p := ⟨w.heap.size, 0, none⟩) hx1.lt (by simp)).trans (hx1.cell 0), (hk.cell (p := ⟨w.heap.size, 1, none⟩) hx1.lt (by simp)).trans (hx1.cell 1)⟩
  refine wp_region_calls 20 [(8, .known y.agg), (15, .known y.agg)] (by kernel_rfl) (by kernel_rfl) rfl ⟨trivial, trivial, trivial⟩ ?_
  simp only [List.take_succ_cons, List.take_zero, List.drop_succ_cons, List.drop_zero]
  by_cases h0 : l.length = 0
  · have HQ3 : Hid (putErr l x.v = 0) := by show _ = _; rw [HQ2.out, if_neg (by omega)]
    iterate 2 refine dep_reckons rfl (by kernel_rfl) (fun W hG hF => by go_simp <;> rfl) (by simp only [Act.put, List.setIfInBounds_toArray, List.set_cons_zero, List.set_cons_succ]; rfl) ?_
    refine dep_reckons (c := .bool false) rfl (by kernel_rfl) (fun W hG hF => by go_simp) (by simp only [Act.put, List.setIfInBounds_toArray, List.set_cons_zero, List.set_cons_succ]; rfl) ?_
    refine dep_reckons rfl (by kernel_rfl) (fun W hG hF => by go_simp <;> rfl) (by simp only [Act.put, List.setIfInBounds_toArray, List.set_cons_zero, List.set_cons_succ]; rfl) ?_
    iterate 15 refine dep_skip (by kernel_rfl) (by simp only [Act.put, List.setIfInBounds_toArray, List.set_cons_zero, List.set_cons_succ]; rfl) ?_
    refine dep_reckons rfl (by kernel_rfl) (fun W hG hF => by go_simp <;> rfl) (by simp only [Act.put, List.setIfInBounds_toArray, List.set_cons_zero, List.set_cons_succ]; rfl) ?_
    refine dep_nil fun W hG hF => ?_
    have HG := Lib.hid hG
    clear HQ2 h0
    go_wp2_with fail
    have hB0 : Below w.heap.size w W := hb1.trans (show Below w.heap.size X W from (keeps_drew HG.out).nil_below.mono (by omega))
    have HW : RefAt W base (.slice A l.length c) l := own_keeps H1 (keeps_drew HG.out) (by simp)
    have hxW := hx1.keeps (keeps_drew HG.out) (by simp)
    have hsW := (keeps_drew HG.out).size
    have cf2 : ∀ W2, Keeps [] W.drew W2 → W2.cell? ⟨w.heap.size, 0, none⟩ = some (.int .u64 x.v.ver) ∧ W2.cell? ⟨w.heap.size, 1, none⟩ = some (.int .u64 x.v.seq) ∧ W2.cell? ⟨w.heap.size, 2, none⟩ = some (.slice x.A x.v.data.length x.c) := fun W2 hk =>
      ⟨(hk.cell (p := ⟨w.heap.size, 0, none⟩) hxW.lt (by simp)).trans (hxW.cell 0), (hk.cell (p := ⟨w.heap.size, 1, none⟩) hxW.lt (by simp)).trans (hxW.cell 1), (hk.cell (p := ⟨w.heap.size, 2, none⟩) hxW.lt (by simp)).trans (hxW.cell 2)⟩
    refine wp_region_calls 4 [(1, .some_ fun v W2 => W2.ownsRow W.heap.size 69 3 v l.length (l.flatMap VC.cells)), (3, .some_ fun v W2 => ∃ bb, v = .slice (some ⟨bb, 0, none⟩) 1 1 ∧ Blk W2 bb 69 (arr x))]
      (by kernel_rfl) (by kernel_rfl) rfl ⟨fun v W1 W2 hk hφ => own_keeps hφ hk (by simp), fun v W1 W2 hk hφ => by obtain ⟨bb, h1, h2⟩ := hφ; exact ⟨bb, h1, h2.keeps hk (by simp)⟩, trivial⟩ ?_
    simp only [List.take_succ_cons, List.take_zero, List.drop_succ_cons, List.drop_zero]
    refine dep_reckons (c := .slice A l.length c) rfl (by kernel_rfl) (fun W2 hG2 hF2 => by go_simp) (by simp only [Act.put, List.setIfInBounds_toArray, List.set_cons_zero, List.set_cons_succ]; rfl) ?_
    refine dep_some rfl (by kernel_rfl) (fun W2 hG2 hF2 => ?_) (fun v1 => ?_)
    · have hk2 := keeps_drew hG2
      have hs2 := hk2.size
      refine gives_append_src (.const (.slice none 0 0)) (.tmp 41) _ rfl W.heap.size 69 i0 _ 3 40 Try.underlying68 hi0 hz0 hz1 hz2 rfl (by omega) (.slice none 0 0) 0 [] rfl (World.ownsRow_nil _ _ _ _) A l.length c (l.flatMap VC.cells) rfl
        (Src.of_own (own_keeps HW hk2 (by simp)) cells_one) (by unfold maxLen; omega) (by omega) (by omega) ?_
      intro v' w' ho' hgr hor
      rw [Nat.zero_add, List.nil_append] at ho'
      exact ⟨ho', Keeps.of_grown hgr⟩
    simp only [Act.put, List.setIfInBounds_toArray, List.set_cons_zero, List.set_cons_succ]
    refine dep_reckons (c := .agg (arr x)) rfl (by kernel_rfl) (fun W2 hG2 hF2 => by have hcf := cf2 W2 hG2; simp only [arr]; go_simp) (by simp only [Act.put, List.setIfInBounds_toArray, List.set_cons_zero, List.set_cons_succ]; rfl) ?_
    refine dep_some rfl (by kernel_rfl) (fun W2 hG2 hF2 => ?_) (fun v3 => ?_)
    · unfold opGives
      simp only [arr]
      go_simp
      exact ⟨Blk.new _ _ _, (Keeps.refl [] W2).alloc _⟩
    simp only [Act.put, List.setIfInBounds_toArray, List.set_cons_zero, List.set_cons_succ]
    refine dep_nil fun W2 hG2 hF2 => ?_
    have hf1 := hF2 _ (List.mem_cons_of_mem _ List.mem_cons_self)
    obtain ⟨bb, rfl, hbb⟩ := hF2 _ List.mem_cons_self
    simp only at hf1
    have hk2 := keeps_drew hG2
    have hs2 := hk2.size
    clear hF2 hG2
    go_wp2_with (at_builtin; refine wpList_append_src rfl (.tmp 42) (.tmp 44) _ rfl W.heap.size 69 i0 _ 3 40 Try.underlying68 hi0 hz0 hz1 hz2 rfl (by omega) v1 l.length (l.flatMap VC.cells) rfl ?c0 (some ⟨bb, 0, none⟩) 1 1 (arr x).toList rfl ?c1 ?c2 ?c3 ?c4 ?c5)
    case c0 => exact hf1
    case c1 =>
      refine ⟨rfl, by simp [arr, Value.oneCell'], fun _ => ⟨bb, 0, rfl, fun j u hj => ?_⟩⟩
      rw [Nat.zero_add, hbb.cell]
      simpa using hj
    case c2 => unfold maxLen; omega
    case c3 => omega
    case c4 => omega
    case c5 =>
      intro so w' ho' hgr hor
      obtain ⟨A5, c5, hso, _, _⟩ := own_form ho'
      rw [hso] at ho' ⊢
      go_wp2_with fail
      rw [HQ3.out]
      refine bodyPost_ret (v := .tuple #[.slice A5 (l.length + 1) c5, .int .i64 0]) (by simp [results, Try.results34, go_sem]) rfl ⟨⟨_, rfl, fun _ => ?_, fun h => absurd rfl h⟩, ?_⟩
      · have e : l.flatMap VC.cells ++ (arr x).toList = (l ++ [x]).flatMap VC.cells := by rw [List.flatMap_append]; simp [VC.cells, arr, VC.sl]
        rw [e] at ho'
        have e2 : (l ++ [x]).length = l.length + 1 := by simp
        show w'.ownsRow _ _ _ _ (l ++ [x]).length _
        rw [e2]
        refine own_rebase ho' fun k hk => ?_
        have := own_ge ho' k hk
        omega
      · refine hB0.trans ((show Below w.heap.size W W2 from hk2.nil_below.mono (by omega)).trans ?_)
        refine (Keeps.of_grown hgr).below (by omega) fun k hk => ?_
        have := own_ge hf1 k (by simpa using hk)
        omega
  · have p3 : 0 < l.length := by omega
    by_cases hq : x.v.ver - 1 = y.v.ver
    · have tq : ((x.v.ver - 1) != y.v.ver) = false := by simpa using hq
      by_cases hq2 : x.v.seq ≤ y.v.seq
      · have HQ3 : Hid (putErr l x.v = 12) := by show _ = _; rw [HQ2.out, if_pos ⟨p3, .inr hq2⟩]
        clear hq
        iterate 2 refine dep_reckons rfl (by kernel_rfl) (fun W hG hF => by go_simp <;> rfl) (by simp only [Act.put, List.setIfInBounds_toArray, List.set_cons_zero, List.set_cons_succ]; rfl) ?_
        refine dep_reckons (c := .bool true) rfl (by kernel_rfl) (fun W hG hF => by go_simp) (by simp only [Act.put, List.setIfInBounds_toArray, List.set_cons_zero, List.set_cons_succ]; rfl) ?_
        iterate 2 refine dep_reckons rfl (by kernel_rfl) (fun W hG hF => by go_simp <;> rfl) (by simp only [Act.put, List.setIfInBounds_toArray, List.set_cons_zero, List.set_cons_succ]; rfl) ?_
        refine dep_reckons rfl (by kernel_rfl) (fun W hG hF => by have hcf := cf W hG; go_simp <;> rfl) (by simp only [Act.put, List.setIfInBounds_toArray, List.set_cons_zero, List.set_cons_succ]; rfl) ?_
        iterate 2 refine dep_reckons rfl (by kernel_rfl) (fun W hG hF => by go_simp <;> rfl) (by simp only [Act.put, List.setIfInBounds_toArray, List.set_cons_zero, List.set_cons_succ]; rfl) ?_
        refine dep_known (c := y.agg) rfl (by kernel_rfl) (fun W hG hF => ?_) (by simp only [Act.put, List.setIfInBounds_toArray, List.set_cons_zero, List.set_cons_succ]; rfl) ?_
        · unfold opGives
          go_simp
          refine (hlast2 W (own_keeps H1 (w' := W) (S := []) ⟨hG.os, hG.tape, hG.output, hG.size, hG.block⟩ (by simp))).mono ?_
          rintro e w2 ⟨rfl, hb2⟩
          exact ⟨_, rfl, rfl, Keeps.of_below hb2 []⟩
        simp only [VC.agg]
        iterate 4 refine dep_reckons rfl (by kernel_rfl) (fun W hG hF => by go_simp <;> rfl) (by simp only [Act.put, List.setIfInBounds_toArray, List.set_cons_zero, List.set_cons_succ]; rfl) ?_
        refine dep_reckons rfl (by kernel_rfl) (fun W hG hF => by have hcf := cf W hG; go_simp <;> rfl) (by simp only [Act.put, List.setIfInBounds_toArray, List.set_cons_zero, List.set_cons_succ]; rfl) ?_
        refine dep_reckons rfl (by kernel_rfl) (fun W hG hF => by go_simp <;> rfl) (by simp only [Act.put, List.setIfInBounds_toArray, List.set_cons_zero, List.set_cons_succ]; rfl) ?_
        refine dep_known (c := y.agg) rfl (by kernel_rfl) (fun W hG hF => ?_) (by simp only [Act.put, List.setIfInBounds_toArray, List.set_cons_zero, List.set_cons_succ]; rfl) ?_
        · unfold opGives
          go_simp
          refine (hlast2 W (own_keeps H1 (w' := W) (S := []) ⟨hG.os, hG.tape, hG.output, hG.size, hG.block⟩ (by simp))).mono ?_
          rintro e w2 ⟨rfl, hb2⟩
          exact ⟨_, rfl, rfl, Keeps.of_below hb2 []⟩
        simp only [VC.agg]
        iterate 4 refine dep_reckons rfl (by kernel_rfl) (fun W hG hF => by go_simp <;> rfl) (by simp only [Act.put, List.setIfInBounds_toArray, List.set_cons_zero, List.set_cons_succ]; rfl) ?_
        refine dep_nil fun W hG hF => ?_
        clear HQ2
        have HQ2 := HQ3
        go_wp2_with fail
        rw [HQ2.out]
        exact bodyPost_ret (v := .tuple #[.slice A l.length c, .int .i64 12]) (by simp [results, Try.results34, go_sem]) rfl ⟨⟨_, rfl, fun h => absurd h (by decide), fun _ => rfl⟩, hb1.trans (show Below w.heap.size X W from (keeps_drew hG).nil_below.mono (by omega))⟩
      · have HQ3 : Hid (putErr l x.v = 0) := by show _ = _; rw [HQ2.out, if_neg (by omega)]
        clear hq
        iterate 2 refine dep_reckons rfl (by kernel_rfl) (fun W hG hF => by go_simp <;> rfl) (by simp only [Act.put, List.setIfInBounds_toArray, List.set_cons_zero, List.set_cons_succ]; rfl) ?_
        refine dep_reckons (c := .bool true) rfl (by kernel_rfl) (fun W hG hF => by go_simp) (by simp only [Act.put, List.setIfInBounds_toArray, List.set_cons_zero, List.set_cons_succ]; rfl) ?_
        iterate 2 refine dep_reckons rfl (by kernel_rfl) (fun W hG hF => by go_simp <;> rfl) (by simp only [Act.put, List.setIfInBounds_toArray, List.set_cons_zero, List.set_cons_succ]; rfl) ?_
        refine dep_reckons rfl (by kernel_rfl) (fun W hG hF => by have hcf := cf W hG; go_simp <;> rfl) (by simp only [Act.put, List.setIfInBounds_toArray, List.set_cons_zero, List.set_cons_succ]; rfl) ?_
        iterate 2 refine dep_reckons rfl (by kernel_rfl) (fun W hG hF => by go_simp <;> rfl) (by simp only [Act.put, List.setIfInBounds_toArray, List.set_cons_zero, List.set_cons_succ]; rfl) ?_
        refine dep_known (c := y.agg) rfl (by kernel_rfl) (fun W hG hF => ?_) (by simp only [Act.put, List.setIfInBounds_toArray, List.set_cons_zero, List.set_cons_succ]; rfl) ?_
        · unfold opGives
          go_simp
          refine (hlast2 W (own_keeps H1 (w' := W) (S := []) ⟨hG.os, hG.tape, hG.output, hG.size, hG.block⟩ (by simp))).mono ?_
          rintro e w2 ⟨rfl, hb2⟩
          exact ⟨_, rfl, rfl, Keeps.of_below hb2 []⟩
        simp only [VC.agg]
        iterate 4 refine dep_reckons rfl (by kernel_rfl) (fun W hG hF => by go_simp <;> rfl) (by simp only [Act.put, List.setIfInBounds_toArray, List.set_cons_zero, List.set_cons_succ]; rfl) ?_
        refine dep_reckons rfl (by kernel_rfl) (fun W hG hF => by have hcf := cf W hG; go_simp <;> rfl) (by simp only [Act.put, List.setIfInBounds_toArray, List.set_cons_zero, List.set_cons_succ]; rfl) ?_
        refine dep_reckons rfl (by kernel_rfl) (fun W hG hF => by go_simp <;> rfl) (by simp only [Act.put, List.setIfInBounds_toArray, List.set_cons_zero, List.set_cons_succ]; rfl) ?_
        refine dep_known (c := y.agg) rfl (by kernel_rfl) (fun W hG hF => ?_) (by simp only [Act.put, List.setIfInBounds_toArray, List.set_cons_zero, List.set_cons_succ]; rfl) ?_
        · unfold opGives
          go_simp
          refine (hlast2 W (own_keeps H1 (w' := W) (S := []) ⟨hG.os, hG.tape, hG.output, hG.size, hG.block⟩ (by simp))).mono ?_
          rintro e w2 ⟨rfl, hb2⟩
          exact ⟨_, rfl, rfl, Keeps.of_below hb2 []⟩
        simp only [VC.agg]
        iterate 4 refine dep_reckons rfl (by kernel_rfl) (fun W hG hF => by go_simp <;> rfl) (by simp only [Act.put, List.setIfInBounds_toArray, List.set_cons_zero, List.set_cons_succ]; rfl) ?_
        refine dep_nil fun W hG hF => ?_
        have HG := Lib.hid hG
        clear HQ2
        go_wp2_with fail
        have hB0 : Below w.heap.size w W := hb1.trans (show Below w.heap.size X W from (keeps_drew HG.out).nil_below.mono (by omega))
        have HW : RefAt W base (.slice A l.length c) l := own_keeps H1 (keeps_drew HG.out) (by simp)
        have hxW := hx1.keeps (keeps_drew HG.out) (by simp)
        have hsW := (keeps_drew HG.out).size
        have cf2 : ∀ W2, Keeps [] W.drew W2 → W2.cell? ⟨w.heap.size, 0, none⟩ = some (.int .u64 x.v.ver) ∧ W2.cell? ⟨w.heap.size, 1, none⟩ = some (.int .u64 x.v.seq) ∧ W2.cell? ⟨w.heap.size, 2, none⟩ = some (.slice x.A x.v.data.length x.c) := fun W2 hk =>
          ⟨(hk.cell (p := ⟨w.heap.size, 0, none⟩) hxW.lt (by simp)).trans (hxW.cell 0), (hk.cell (p := ⟨w.heap.size, 1, none⟩) hxW.lt (by simp)).trans (hxW.cell 1), (hk.cell (p := ⟨w.heap.size, 2, none⟩) hxW.lt (by simp)).trans (hxW.cell 2)⟩
        refine wp_region_calls 4 [(1, .some_ fun v W2 => W2.ownsRow W.heap.size 69 3 v l.length (l.flatMap VC.cells)), (3, .some_ fun v W2 => ∃ bb, v = .slice (some ⟨bb, 0, none⟩) 1 1 ∧ Blk W2 bb 69 (arr x))]
          (by kernel_rfl) (by kernel_rfl) rfl ⟨fun v W1 W2 hk hφ => own_keeps hφ hk (by simp), fun v W1 W2 hk hφ => by obtain ⟨bb, h1, h2⟩ := hφ; exact ⟨bb, h1, h2.keeps hk (by simp)⟩, trivial⟩ ?_
        simp only [List.take_succ_cons, List.take_zero, List.drop_succ_cons, List.drop_zero]
        refine dep_reckons (c := .slice A l.length c) rfl (by kernel_rfl) (fun W2 hG2 hF2 => by go_simp) (by simp only [Act.put, List.setIfInBounds_toArray, List.set_cons_zero, List.set_cons_succ]; rfl) ?_
        refine dep_some rfl (by kernel_rfl) (fun W2 hG2 hF2 => ?_) (fun v1 => ?_)
        · have hk2 := keeps_drew hG2
          have hs2 := hk2.size
          refine gives_append_src (.const (.slice none 0 0)) (.tmp 41) _ rfl W.heap.size 69 i0 _ 3 40 Try.underlying68 hi0 hz0 hz1 hz2 rfl (by omega) (.slice none 0 0) 0 [] rfl (World.ownsRow_nil _ _ _ _) A l.length c (l.flatMap VC.cells) rfl
            (Src.of_own (own_keeps HW hk2 (by simp)) cells_one) (by unfold maxLen; omega) (by omega) (by omega) ?_
          intro v' w' ho' hgr hor
          rw [Nat.zero_add, List.nil_append] at ho'
          exact ⟨ho', Keeps.of_grown hgr⟩
        simp only [Act.put, List.setIfInBounds_toArray, List.set_cons_zero, List.set_cons_succ]
        refine dep_reckons (c := .agg (arr x)) rfl (by kernel_rfl) (fun W2 hG2 hF2 => by have hcf := cf2 W2 hG2; simp only [arr]; go_simp) (by simp only [Act.put, List.setIfInBounds_toArray, List.set_cons_zero, List.set_cons_succ]; rfl) ?_
        refine dep_some rfl (by kernel_rfl) (fun W2 hG2 hF2 => ?_) (fun v3 => ?_)
        · unfold opGives
          simp only [arr]
          go_simp
          exact ⟨Blk.new _ _ _, (Keeps.refl [] W2).alloc _⟩
        simp only [Act.put, List.setIfInBounds_toArray, List.set_cons_zero, List.set_cons_succ]
        refine dep_nil fun W2 hG2 hF2 => ?_
        have hf1 := hF2 _ (List.mem_cons_of_mem _ List.mem_cons_self)
        obtain ⟨bb, rfl, hbb⟩ := hF2 _ List.mem_cons_self
        simp only at hf1
        have hk2 := keeps_drew hG2
        have hs2 := hk2.size
        clear hF2 hG2
        go_wp2_with (at_builtin; refine wpList_append_src rfl (.tmp 42) (.tmp 44) _ rfl W.heap.size 69 i0 _ 3 40 Try.underlying68 hi0 hz0 hz1 hz2 rfl (by omega) v1 l.length (l.flatMap VC.cells) rfl ?c0 (some ⟨bb, 0, none⟩) 1 1 (arr x).toList rfl ?c1 ?c2 ?c3 ?c4 ?c5)
        case c0 => exact hf1
        case c1 =>
          refine ⟨rfl, by simp [arr, Value.oneCell'], fun _ => ⟨bb, 0, rfl, fun j u hj => ?_⟩⟩
          rw [Nat.zero_add, hbb.cell]
          simpa using hj
        case c2 => unfold maxLen; omega
        case c3 => omega
        case c4 => omega
        case c5 =>
          intro so w' ho' hgr hor
          obtain ⟨A5, c5, hso, _, _⟩ := own_form ho'
          rw [hso] at ho' ⊢
          go_wp2_with fail
          rw [HQ3.out]
          refine bodyPost_ret (v := .tuple #[.slice A5 (l.length + 1) c5, .int .i64 0]) (by simp [results, Try.results34, go_sem]) rfl ⟨⟨_, rfl, fun _ => ?_, fun h => absurd rfl h⟩, ?_⟩
          · have e : l.flatMap VC.cells ++ (arr x).toList = (l ++ [x]).flatMap VC.cells := by rw [List.flatMap_append]; simp [VC.cells, arr, VC.sl]
            rw [e] at ho'
            have e2 : (l ++ [x]).length = l.length + 1 := by simp
            show w'.ownsRow _ _ _ _ (l ++ [x]).length _
            rw [e2]
            refine own_rebase ho' fun k hk => ?_
            have := own_ge ho' k hk
            omega
          · refine hB0.trans ((show Below w.heap.size W W2 from hk2.nil_below.mono (by omega)).trans ?_)
            refine (Keeps.of_grown hgr).below (by omega) fun k hk => ?_
            have := own_ge hf1 k (by simpa using hk)
            omega
    · have tq : ((x.v.ver - 1) != y.v.ver) = true := by simpa using hq
      have HQ3 : Hid (putErr l x.v = 12) := by show _ = _; rw [HQ2.out, if_pos ⟨p3, .inl hq⟩]
      clear hq
      iterate 2 refine dep_reckons rfl (by kernel_rfl) (fun W hG hF => by go_simp <;> rfl) (by simp only [Act.put, List.setIfInBounds_toArray, List.set_cons_zero, List.set_cons_succ]; rfl) ?_
      refine dep_reckons (c := .bool true) rfl (by kernel_rfl) (fun W hG hF => by go_simp) (by simp only [Act.put, List.setIfInBounds_toArray, List.set_cons_zero, List.set_cons_succ]; rfl) ?_
      iterate 2 refine dep_reckons rfl (by kernel_rfl) (fun W hG hF => by go_simp <;> rfl) (by simp only [Act.put, List.setIfInBounds_toArray, List.set_cons_zero, List.set_cons_succ]; rfl) ?_
      refine dep_reckons rfl (by kernel_rfl) (fun W hG hF => by have hcf := cf W hG; go_simp <;> rfl) (by simp only [Act.put, List.setIfInBounds_toArray, List.set_cons_zero, List.set_cons_succ]; rfl) ?_
      iterate 2 refine dep_reckons rfl (by kernel_rfl) (fun W hG hF => by go_simp <;> rfl) (by simp only [Act.put, List.setIfInBounds_toArray, List.set_cons_zero, List.set_cons_succ]; rfl) ?_
      refine dep_known (c := y.agg) rfl (by kernel_rfl) (fun W hG hF => ?_) (by simp only [Act.put, List.setIfInBounds_toArray, List.set_cons_zero, List.set_cons_succ]; rfl) ?_
      · unfold opGives
        go_simp
        refine (hlast2 W (own_keeps H1 (w' := W) (S := []) ⟨hG.os, hG.tape, hG.output, hG.size, hG.block⟩ (by simp))).mono ?_
        rintro e w2 ⟨rfl, hb2⟩
        exact ⟨_, rfl, rfl, Keeps.of_below hb2 []⟩
      simp only [VC.agg]
      iterate 3 refine dep_reckons rfl (by kernel_rfl) (fun W hG hF => by go_simp <;> rfl) (by simp only [Act.put, List.setIfInBounds_toArray, List.set_cons_zero, List.set_cons_succ]; rfl) ?_
      iterate 6 refine dep_skip (by kernel_rfl) (by simp only [Act.put, List.setIfInBounds_toArray, List.set_cons_zero, List.set_cons_succ]; rfl) ?_
      iterate 2 refine dep_reckons rfl (by kernel_rfl) (fun W hG hF => by go_simp <;> rfl) (by simp only [Act.put, List.setIfInBounds_toArray, List.set_cons_zero, List.set_cons_succ]; rfl) ?_
      refine dep_nil fun W hG hF => ?_
      clear HQ2
      have HQ2 := HQ3
      go_wp2_with fail
      rw [HQ2.out]
      exact bodyPost_ret (v := .tuple #[.slice A l.length c, .int .i64 12]) (by simp [results, Try.results34, go_sem]) rfl ⟨⟨_, rfl, fun h => absurd h (by decide), fun _ => rfl⟩, hb1.trans (show Below w.heap.size X W from (keeps_drew hG).nil_below.mono (by omega))⟩
end Go.Proofs.Ytgdmejkneabclaa
