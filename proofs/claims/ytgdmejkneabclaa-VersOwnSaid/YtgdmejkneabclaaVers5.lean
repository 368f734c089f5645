/- Contract of package vers: Put. -/
import Derived.Test.YtgdmejkneabclaaVers4
import Derived.Test.YtgdmejkneabclaaDep
namespace Go.Proofs.Ytgdmejkneabclaa
open Go.RowKit
set_option linter.unusedSimpArgs false
set_option linter.unusedVariables false
attribute [local go_sem] opGives


def lastV (l : List VC) : Ver := atV l ((l.length : Int) - 1)
def putErr (l : List VC) (v : Ver) : Int :=
  if 2048 < v.data.length then 6 else if v.ver = 0 ∨ v.seq = 0 then 1 else if 0 < l.length ∧ (v.ver - 1 ≠ (lastV l).ver ∨ v.seq ≤ (lastV l).seq) then 12 else 0

theorem info_ver : (Try.prog.info? 41).map (fun i => (i.zero, i.size, i.bytes)) = some (some (.agg #[.int .u64 0, .int .u64 0, .slice none 0 0]), 3, 40) := by kernel_rfl

set_option maxRecDepth 100000 in
set_option maxHeartbeats 2000000 in
theorem Put_ok (base g : Nat) (sl : Value) (l : List VC) (v : Ver) (A : Option Addr) (c : Nat) (w : World) (h : BlockAt w base g sl l) (hs : Short l) (hl : l.length ≤ 900) (hb : base ≤ w.heap.size)
    (ha : Rd w A v.data.length v.data) (hA : 0 < v.data.length → ∀ ad, A = some ad → ad.block ∉ sl.ownBlock.toList) (hc : v.data.length ≤ c) (hv1 : 1 ≤ v.ver ∧ v.ver ≤ 18446744073709551615) (hv2 : 0 < v.seq) (hlen : v.data.length ≤ 2048)
    (hn : l.length = 0 ∨ ((lastV l).ver = v.ver - 1 ∧ (lastV l).seq < v.seq)) :
    Calls Try.prog 21 #[.pointer (some ⟨g, 0, none⟩), .agg #[.int .u64 v.ver, .int .u64 v.seq, .slice A v.data.length c]] w fun e w' =>
      e = .returned (.int .i64 0) ∧ ∃ sl' x, x.v = v ∧ BlockAt w' base g sl' (l ++ [x]) ∧ Keeps (g :: sl.ownBlock.toList) w w' ∧ (sl'.ownBlock = sl.ownBlock ∨ ∀ k ∈ sl'.ownBlock, w.heap.size ≤ k) := by
  obtain ⟨i0, hi0, hz0, hz1, hz2⟩ := info_parts info_ver
  obtain ⟨A0, c0, hsl, hlc, hcm⟩ := own_form h.own
  have g0 : w.cell? ⟨g, 0, none⟩ = some (.slice A0 l.length c0) := by rw [← hsl]; exact h.blk.cell 0
  have hg := h.blk.lt
  obtain ⟨ver, seq, data⟩ := v
  simp only at ha hA hc hv1 hv2 hlen hn
  have hz1' : (ver == 0) = false := by simp; omega
  have hz2' : (seq == 0) = false := by simp; omega
  have hover : ¬ (2048 < (data.length : Int)) := by omega
  by_cases h0 : l.length = 0
  · have g1 : w.cell? ⟨g, 0, none⟩ = some (.slice A0 0 c0) := by rw [g0, h0]
    have H0 := Lib.hid h0
    have HS := Lib.hid hsl
    have HN := Lib.hid hn
    clear g0 h0 hsl hn
    go_enter Try.func21, Try.ntmps21
    go_wp2_with fail
    go_quiet (fail)
    go_wp2_with fail
    have hbx : Below w.heap.size w ((w.alloc (.cells #[.int .u64 ver, .int .u64 seq, .slice A data.length c] 41)).drewN nq) := below_drewN ((Below.refl _ _).alloc (Nat.le_refl _) _) _
    have hblk := (Blk.new w 41 #[.int .u64 ver, .int .u64 seq, .slice A data.length c]).drewN nq
    have hsz : ((w.alloc (.cells #[.int .u64 ver, .int .u64 seq, .slice A data.length c] 41)).drewN nq).heap.size = w.heap.size + 1 := by simp
    generalize ((w.alloc (.cells #[.int .u64 ver, .int .u64 seq, .slice A data.length c] 41)).drewN nq) = X at hbx hblk hsz ⊢
    obtain ⟨SL, hSL⟩ : ∃ SL : List Nat, SL = sl.ownBlock.toList := ⟨_, rfl⟩
    have hX := h.below hbx
    have haX := ha.below_ hbx
    have hgS : g ∉ SL := by
      rw [hSL]
      intro hm
      exact own_blk_ne h.own h.blk (by decide) g (by simpa using hm) rfl
    have hSlt : ∀ k ∈ SL, k < w.heap.size := by
      rw [hSL]
      intro k hk
      exact own_lt h.own k (by simpa using hk)
    have hAS : 0 < data.length → ∀ ad, A = some ad → ad.block ∉ SL := fun h0 ad e => by rw [hSL]; exact hA h0 ad e
    have cg : ∀ W, Keeps SL X.drew W → W.cell? ⟨g, 0, none⟩ = some sl := fun W hk => (hk.cell (p := ⟨g, 0, none⟩) hX.blk.lt hgS).trans (hX.blk.cell 0)
    have cw : ∀ W, Keeps SL X.drew W → ∀ i, W.cell? ⟨w.heap.size, i, none⟩ = #[Value.int .u64 ver, .int .u64 seq, .slice A data.length c][i]? := fun W hk i =>
      (hk.cell (p := ⟨w.heap.size, i, none⟩) (by show w.heap.size < X.heap.size; omega) (fun hm => by have := hSlt _ hm; simp at this)).trans (hblk.cell i)
    rw [HS.out] at cg
    refine wp_region_dep 9 (fun i => if i = 6 then .some_ (fun v W => ∃ A1 c1, v = .agg #[.int .u64 ver, .int .u64 seq, .slice A1 data.length c1] ∧ W.ownsRow X.heap.size 5 1 (.slice A1 data.length c1) data.length (data.map bv))
      else if i = 7 then .some_ (fun v W => ∃ A1 c1 bb, v = .slice (some ⟨bb, 0, none⟩) 1 1 ∧ X.heap.size ≤ bb ∧ Blk W bb 41 #[.int .u64 ver, .int .u64 seq, .slice A1 data.length c1] ∧ W.ownsRow X.heap.size 5 1 (.slice A1 data.length c1) data.length (data.map bv))
      else if i = 8 then .last (fun v W => ∃ x : VC, x.v = ⟨ver, seq, data⟩ ∧ W.ownsRow X.heap.size 5 1 x.sl data.length (data.map bv) ∧ W.ownsRow base 41 3 v (l.length + 1) ((l ++ [x]).flatMap VC.cells) ∧ (v.ownBlock = sl.ownBlock ∨ ∀ k ∈ v.ownBlock, X.heap.size ≤ k))
      else .reckons) (Keeps []) (Keeps SL) (by kernel_rfl) (by kernel_rfl) (Keeps.refl SL) (Keeps.refl []) (fun W W' hk => hk.mono (by simp)) (fun _ _ _ h1 h2 => h1.trans h2 (fun i hi => .inl hi)) (fun _ _ _ h1 h2 => h1.trans h2 (fun i hi => .inl hi)) ?hst ?hla ?walk
    case hst =>
      intro k φ hT v W W' hk hφ
      split at hT
      · cases hT
        obtain ⟨A1, c1, rfl, h1⟩ := hφ
        exact ⟨A1, c1, rfl, own_keeps h1 hk fun k hk hm => by have := hSlt k hm; have := own_ge h1 k hk; omega⟩
      · split at hT
        · cases hT
          obtain ⟨A1, c1, bb, rfl, h0, h2, h1⟩ := hφ
          exact ⟨A1, c1, bb, rfl, h0, h2.keeps hk (fun hm => by have := hSlt _ hm; omega), own_keeps h1 hk fun k hk hm => by have := hSlt k hm; have := own_ge h1 k hk; omega⟩
        · split at hT <;> cases hT
    case hla =>
      intro k φ hT
      simp only at hT
      split at hT
      · cases hT
      · split at hT
        · cases hT
        · split at hT
          · rename_i h8
            cases hT
            subst h8
            refine ⟨fun v W W' hk hφ => ?_, fun j o hj ho => ?_, fun i φ' hT' => ?_⟩
            · obtain ⟨x, h0, h1, h2, h3⟩ := hφ
              exact ⟨x, h0, own_keeps h1 hk (by simp), own_keeps h2 hk (by simp), h3⟩
            · rcases j with _ | _ | _ | _ | _ | _ | _ | _ | _ | j
              iterate 9 (simp at ho; subst ho; kernel_rfl)
              omega
            · simp only at hT'
              split at hT'
              · cases hT'
              · split at hT'
                · cases hT'
                · split at hT'
                  · assumption
                  · cases hT'
          · cases hT
    case walk =>
      simp only [List.take_succ_cons, List.take_zero, List.drop_succ_cons, List.drop_zero]
      refine dep_reckons (c := .pointer (some ⟨g, 0, none⟩)) rfl rfl (fun W hG hF => by go_simp) (by simp only [Act.put, List.setIfInBounds_toArray, List.set_cons_zero, List.set_cons_succ]; rfl) ?_
      refine dep_reckons (c := .pointer (some ⟨g, 0, none⟩)) rfl rfl (fun W hG hF => by go_simp) (by simp only [Act.put, List.setIfInBounds_toArray, List.set_cons_zero, List.set_cons_succ]; rfl) ?_
      refine dep_reckons (c := .pointer (some ⟨g, 0, none⟩)) rfl rfl (fun W hG hF => by go_simp) (by simp only [Act.put, List.setIfInBounds_toArray, List.set_cons_zero, List.set_cons_succ]; rfl) ?_
      refine dep_reckons (c := .pointer (some ⟨g, 0, none⟩)) rfl rfl (fun W hG hF => by go_simp) (by simp only [Act.put, List.setIfInBounds_toArray, List.set_cons_zero, List.set_cons_succ]; rfl) ?_
      refine dep_reckons (c := sl) rfl rfl (fun W hG hF => by have := cg W hG; rw [HS.out]; go_simp) (by simp only [Act.put, List.setIfInBounds_toArray, List.set_cons_zero, List.set_cons_succ]; rfl) ?_
      refine dep_reckons (c := .agg #[.int .u64 ver, .int .u64 seq, .slice A data.length c]) rfl rfl (fun W hG hF => by have c1 := cw W hG 0; have c2 := cw W hG 1; have c3 := cw W hG 2; go_simp) (by simp only [Act.put, List.setIfInBounds_toArray, List.set_cons_zero, List.set_cons_succ]; rfl) ?_
      refine dep_some rfl rfl (fun W hG hF => ?_) (fun v6 => ?_)
      · have hr : Rd W A data.length data := haX.keeps (w' := W) (S := SL) ⟨hG.os, hG.tape, hG.output, hG.size, hG.block⟩ hAS
        have hsW := hG.size
        go_simp
        refine (own_any ⟨ver, seq, data⟩ A c W hr hc (by simp only; omega)).mono ?_
        rintro e w2 ⟨⟨A1, c1, rfl, ho⟩, hb2⟩
        refine ⟨_, rfl, ⟨A1, c1, rfl, own_rebase ho fun k hk => ?_⟩, Keeps.of_below hb2 []⟩
        have := own_ge ho k hk
        simp at hsW
        omega
      simp only [Act.put, List.setIfInBounds_toArray, List.set_cons_zero, List.set_cons_succ]
      refine dep_some rfl rfl (fun W hG hF => ?_) (fun v7 => ?_)
      · obtain ⟨A1, c1, rfl, ho⟩ := hF _ List.mem_cons_self (by kernel_rfl)
        have hsW := hG.size
        rw [hsz] at ho
        go_simp
        exact ⟨⟨by simp [hsz] at hsW; omega, A1, c1, Blk.new _ _ _, own_keeps ho ((Keeps.refl [] W).alloc _) (by simp)⟩, (Keeps.refl [] W).alloc _⟩
      simp only [Act.put, List.setIfInBounds_toArray, List.set_cons_zero, List.set_cons_succ]
      refine dep_last rfl rfl (fun W hG hF => ?_) (fun v8 => ?_)
      · obtain ⟨A1, c1, bb, rfl, hbb, hblk7, ho⟩ := hF _ List.mem_cons_self (by kernel_rfl)
        refine gives_append_src (.tmp 63) (.tmp 66) _ rfl base 41 i0 _ 3 40 Try.underlying78 hi0 hz0 hz1 hz2 rfl (by omega) sl l.length (l.flatMap VC.cells) rfl ?c0 (some ⟨bb, 0, none⟩) 1 1 [.int .u64 ver, .int .u64 seq, .slice A1 data.length c1] rfl ?c1 ?c2 ?c3 ?c4 ?c5
        case c0 => exact own_keeps hX.own (w' := W) (S := []) ⟨hG.os, hG.tape, hG.output, hG.size, hG.block⟩ (by simp)
        case c1 => 
          refine ⟨rfl, by simp [Value.oneCell'], fun _ => ⟨bb, 0, rfl, fun j u hj => ?_⟩⟩
          rw [Nat.zero_add, hblk7.cell]
          simpa using hj
        case c2 => unfold maxLen; omega
        case c3 => omega
        case c4 => have := hG.size; simp at this; omega
        case c5 =>
          intro v' w' ho' hgr hor
          have hk := Keeps.of_grown hgr
          rw [← hSL] at hk
          refine ⟨⟨⟨⟨ver, seq, data⟩, A1, c1⟩, rfl, own_keeps ho hk fun k hk hm => by have := hSlt k hm; have := own_ge ho k hk; omega, ?_, ?_⟩, hk⟩
          · rw [List.flatMap_append]; exact ho'
          · rcases hor with h1 | h1
            · exact .inl h1
            · refine .inr fun k hk => ?_
              rw [h1] at hk
              have : W.heap.size = k := by simpa using hk
              have := hG.size
              simp at this
              omega
      simp only [Act.put, List.setIfInBounds_toArray, List.set_cons_zero, List.set_cons_succ]
      refine dep_nil fun W hG hF => ?_
      obtain ⟨x8, hx0, hx1, hx2, hx3⟩ := hF _ List.mem_cons_self
      obtain ⟨A8, c8, rfl, _, _⟩ := own_form hx2
      have hgW : Blk W g 96 #[sl] := hX.blk.keeps (w' := W) (S := SL) ⟨hG.os, hG.tape, hG.output, hG.size, hG.block⟩ hgS
      have d0 := hgW.cell 0
      have d1 := hgW.frozen 0
      simp only [List.getElem?_toArray, List.getElem?_cons_zero, HS.out] at d0
      have hgl := hgW.lt
      have hGs := hG.size
      simp at hGs
      clear hF
      go_wp2_with fail
      have hkW : Keeps SL w W := (Keeps.of_below hbx SL).trans (T := SL) ⟨hG.os, hG.tape, hG.output, hG.size, hG.block⟩ fun i hi => .inl hi
      have hWset := (Keeps.refl [g] W).setCell (p := ⟨g, 0, none⟩) (.inl (by simp)) (.slice A8 (l.length + 1) c8)
      go_ret
      refine ⟨rfl, .slice A8 (l.length + 1) c8, x8, hx0, ⟨hgW.set_ 0 _, h.ge, ?_, fun y hy => ?_⟩, ?_, ?_⟩
      · rw [List.length_append]
        exact own_keeps hx2 hWset fun k hk hm => own_blk_ne hx2 hgW (by decide) k hk (by simpa using hm)
      · rcases List.mem_append.1 hy with hy | hy
        · have hd := h.data y hy
          have hd2 := own_keeps hd hkW fun k hk hm => own_own_ne hd h.own (by decide) k hk (by rw [hSL] at hm; simpa using hm)
          exact own_keeps hd2 hWset fun k hk hm => own_blk_ne hd2 hgW (by decide) k hk (by simpa using hm)
        · have he : y = x8 := by simpa using hy
          subst he
          have e : y.v.data = data := by rw [hx0]
          rw [e]
          refine own_rebase (own_keeps hx1 hWset fun k hk hm => own_blk_ne hx1 hgW (by decide) k hk (by simpa using hm)) fun k hk => ?_
          have := own_ge hx1 k hk
          omega
      · have hk2 : Keeps (g :: sl.ownBlock.toList) w W := hkW.mono fun k hk => .inl (by rw [hSL] at hk; exact List.mem_cons_of_mem _ hk)
        exact hk2.setCell (p := ⟨g, 0, none⟩) (.inl (by simp)) _
      · rcases hx3 with h1 | h1
        · exact .inl h1
        · exact .inr fun k hk => by have := h1 k hk; omega
  · have hn2 : (lastV l).ver = ver - 1 ∧ (lastV l).seq < seq := hn.resolve_left h0
    obtain ⟨b, c', he, hbl, e0, e1, e2⟩ := h.at_ (l.length - 1) (by omega) noVC
    have hlast : lastV l = (l.getD (l.length - 1) noVC).v := by
      have e : ((l.length : Int) - 1).toNat = l.length - 1 := by omega
      unfold lastV atV
      rw [if_pos (by omega), e]; rfl
    rw [hsl] at he
    injection he with he1 he2 he3
    subst he1
    subst he3
    have e3 : ((l.length : Int) - 1).toNat = l.length - 1 := by omega
    rw [hlast] at hn2
    obtain ⟨x, hx⟩ : ∃ x, x = l.getD (l.length - 1) noVC := ⟨_, rfl⟩
    rw [← hx] at e0 e1 e2 hn2
    have f0 : w.cell? ⟨b, ((l.length : Int) - 1).toNat * 3, none⟩ = some (.int .u64 x.v.ver) := by rw [e3]; exact e0
    have f1 : w.cell? ⟨b, ((l.length : Int) - 1).toNat * 3 + 1, none⟩ = some (.int .u64 x.v.seq) := by rw [e3]; exact e1
    have t1 : ((ver - 1 : Int) != x.v.ver) = false := by simp; omega
    have t2 : ¬ seq ≤ x.v.seq := by omega
    have p1 : (0 : Int) ≤ (l.length : Int) - 1 := by omega
    have p2 : (l.length : Int) - 1 < (l.length : Int) := by omega
    have p3 : 0 < l.length := by omega
    have HS := Lib.hid hsl
    have HN := Lib.hid hn
    have wr1 : IntKind.u64.wrap (ver - 1) = ver - 1 := by rw [IntKind.wrap_u64]; omega
    have wr2 : IntKind.i64.wrap ((l.length : Int) - 1) = (l.length : Int) - 1 := by rw [IntKind.wrap_i64]; omega
    clear hsl hn hn2 hx he2 e3 hlast h0
    go_enter Try.func21, Try.ntmps21
    go_wp2_with fail
    go_quiet (fail)
    go_wp2_with fail
    have hbx : Below w.heap.size w ((w.alloc (.cells #[.int .u64 ver, .int .u64 seq, .slice A data.length c] 41)).drewN nq) := below_drewN ((Below.refl _ _).alloc (Nat.le_refl _) _) _
    have hblk := (Blk.new w 41 #[.int .u64 ver, .int .u64 seq, .slice A data.length c]).drewN nq
    have hsz : ((w.alloc (.cells #[.int .u64 ver, .int .u64 seq, .slice A data.length c] 41)).drewN nq).heap.size = w.heap.size + 1 := by simp
    generalize ((w.alloc (.cells #[.int .u64 ver, .int .u64 seq, .slice A data.length c] 41)).drewN nq) = X at hbx hblk hsz ⊢
    obtain ⟨SL, hSL⟩ : ∃ SL : List Nat, SL = sl.ownBlock.toList := ⟨_, rfl⟩
    have hX := h.below hbx
    have haX := ha.below_ hbx
    have hgS : g ∉ SL := by
      rw [hSL]
      intro hm
      exact own_blk_ne h.own h.blk (by decide) g (by simpa using hm) rfl
    have hSlt : ∀ k ∈ SL, k < w.heap.size := by
      rw [hSL]
      intro k hk
      exact own_lt h.own k (by simpa using hk)
    have hAS : 0 < data.length → ∀ ad, A = some ad → ad.block ∉ SL := fun h0 ad e => by rw [hSL]; exact hA h0 ad e
    have cg : ∀ W, Keeps SL X.drew W → W.cell? ⟨g, 0, none⟩ = some sl := fun W hk => (hk.cell (p := ⟨g, 0, none⟩) hX.blk.lt hgS).trans (hX.blk.cell 0)
    have cw : ∀ W, Keeps SL X.drew W → ∀ i, W.cell? ⟨w.heap.size, i, none⟩ = #[Value.int .u64 ver, .int .u64 seq, .slice A data.length c][i]? := fun W hk i =>
      (hk.cell (p := ⟨w.heap.size, i, none⟩) (by show w.heap.size < X.heap.size; omega) (fun hm => by have := hSlt _ hm; simp at this)).trans (hblk.cell i)
    rw [HS.out] at cg
    refine wp_region_dep 9 (fun i => if i = 6 then .some_ (fun v W => ∃ A1 c1, v = .agg #[.int .u64 ver, .int .u64 seq, .slice A1 data.length c1] ∧ W.ownsRow X.heap.size 5 1 (.slice A1 data.length c1) data.length (data.map bv))
      else if i = 7 then .some_ (fun v W => ∃ A1 c1 bb, v = .slice (some ⟨bb, 0, none⟩) 1 1 ∧ X.heap.size ≤ bb ∧ Blk W bb 41 #[.int .u64 ver, .int .u64 seq, .slice A1 data.length c1] ∧ W.ownsRow X.heap.size 5 1 (.slice A1 data.length c1) data.length (data.map bv))
      else if i = 8 then .last (fun v W => ∃ x : VC, x.v = ⟨ver, seq, data⟩ ∧ W.ownsRow X.heap.size 5 1 x.sl data.length (data.map bv) ∧ W.ownsRow base 41 3 v (l.length + 1) ((l ++ [x]).flatMap VC.cells) ∧ (v.ownBlock = sl.ownBlock ∨ ∀ k ∈ v.ownBlock, X.heap.size ≤ k))
      else .reckons) (Keeps []) (Keeps SL) (by kernel_rfl) (by kernel_rfl) (Keeps.refl SL) (Keeps.refl []) (fun W W' hk => hk.mono (by simp)) (fun _ _ _ h1 h2 => h1.trans h2 (fun i hi => .inl hi)) (fun _ _ _ h1 h2 => h1.trans h2 (fun i hi => .inl hi)) ?hst ?hla ?walk
    case hst =>
      intro k φ hT v W W' hk hφ
      split at hT
      · cases hT
        obtain ⟨A1, c1, rfl, h1⟩ := hφ
        exact ⟨A1, c1, rfl, own_keeps h1 hk fun k hk hm => by have := hSlt k hm; have := own_ge h1 k hk; omega⟩
      · split at hT
        · cases hT
          obtain ⟨A1, c1, bb, rfl, h0, h2, h1⟩ := hφ
          exact ⟨A1, c1, bb, rfl, h0, h2.keeps hk (fun hm => by have := hSlt _ hm; omega), own_keeps h1 hk fun k hk hm => by have := hSlt k hm; have := own_ge h1 k hk; omega⟩
        · split at hT <;> cases hT
    case hla =>
      intro k φ hT
      simp only at hT
      split at hT
      · cases hT
      · split at hT
        · cases hT
        · split at hT
          · rename_i h8
            cases hT
            subst h8
            refine ⟨fun v W W' hk hφ => ?_, fun j o hj ho => ?_, fun i φ' hT' => ?_⟩
            · obtain ⟨x, h0, h1, h2, h3⟩ := hφ
              exact ⟨x, h0, own_keeps h1 hk (by simp), own_keeps h2 hk (by simp), h3⟩
            · rcases j with _ | _ | _ | _ | _ | _ | _ | _ | _ | j
              iterate 9 (simp at ho; subst ho; kernel_rfl)
              omega
            · simp only at hT'
              split at hT'
              · cases hT'
              · split at hT'
                · cases hT'
                · split at hT'
                  · assumption
                  · cases hT'
          · cases hT
    case walk =>
      simp only [List.take_succ_cons, List.take_zero, List.drop_succ_cons, List.drop_zero]
      refine dep_reckons (c := .pointer (some ⟨g, 0, none⟩)) rfl rfl (fun W hG hF => by go_simp) (by simp only [Act.put, List.setIfInBounds_toArray, List.set_cons_zero, List.set_cons_succ]; rfl) ?_
      refine dep_reckons (c := .pointer (some ⟨g, 0, none⟩)) rfl rfl (fun W hG hF => by go_simp) (by simp only [Act.put, List.setIfInBounds_toArray, List.set_cons_zero, List.set_cons_succ]; rfl) ?_
      refine dep_reckons (c := .pointer (some ⟨g, 0, none⟩)) rfl rfl (fun W hG hF => by go_simp) (by simp only [Act.put, List.setIfInBounds_toArray, List.set_cons_zero, List.set_cons_succ]; rfl) ?_
      refine dep_reckons (c := .pointer (some ⟨g, 0, none⟩)) rfl rfl (fun W hG hF => by go_simp) (by simp only [Act.put, List.setIfInBounds_toArray, List.set_cons_zero, List.set_cons_succ]; rfl) ?_
      refine dep_reckons (c := sl) rfl rfl (fun W hG hF => by have := cg W hG; rw [HS.out]; go_simp) (by simp only [Act.put, List.setIfInBounds_toArray, List.set_cons_zero, List.set_cons_succ]; rfl) ?_
      refine dep_reckons (c := .agg #[.int .u64 ver, .int .u64 seq, .slice A data.length c]) rfl rfl (fun W hG hF => by have c1 := cw W hG 0; have c2 := cw W hG 1; have c3 := cw W hG 2; go_simp) (by simp only [Act.put, List.setIfInBounds_toArray, List.set_cons_zero, List.set_cons_succ]; rfl) ?_
      refine dep_some rfl rfl (fun W hG hF => ?_) (fun v6 => ?_)
      · have hr : Rd W A data.length data := haX.keeps (w' := W) (S := SL) ⟨hG.os, hG.tape, hG.output, hG.size, hG.block⟩ hAS
        have hsW := hG.size
        go_simp
        refine (own_any ⟨ver, seq, data⟩ A c W hr hc (by simp only; omega)).mono ?_
        rintro e w2 ⟨⟨A1, c1, rfl, ho⟩, hb2⟩
        refine ⟨_, rfl, ⟨A1, c1, rfl, own_rebase ho fun k hk => ?_⟩, Keeps.of_below hb2 []⟩
        have := own_ge ho k hk
        simp at hsW
        omega
      simp only [Act.put, List.setIfInBounds_toArray, List.set_cons_zero, List.set_cons_succ]
      refine dep_some rfl rfl (fun W hG hF => ?_) (fun v7 => ?_)
      · obtain ⟨A1, c1, rfl, ho⟩ := hF _ List.mem_cons_self (by kernel_rfl)
        have hsW := hG.size
        rw [hsz] at ho
        go_simp
        exact ⟨⟨by simp [hsz] at hsW; omega, A1, c1, Blk.new _ _ _, own_keeps ho ((Keeps.refl [] W).alloc _) (by simp)⟩, (Keeps.refl [] W).alloc _⟩
      simp only [Act.put, List.setIfInBounds_toArray, List.set_cons_zero, List.set_cons_succ]
      refine dep_last rfl rfl (fun W hG hF => ?_) (fun v8 => ?_)
      · obtain ⟨A1, c1, bb, rfl, hbb, hblk7, ho⟩ := hF _ List.mem_cons_self (by kernel_rfl)
        refine gives_append_src (.tmp 63) (.tmp 66) _ rfl base 41 i0 _ 3 40 Try.underlying78 hi0 hz0 hz1 hz2 rfl (by omega) sl l.length (l.flatMap VC.cells) rfl ?c0 (some ⟨bb, 0, none⟩) 1 1 [.int .u64 ver, .int .u64 seq, .slice A1 data.length c1] rfl ?c1 ?c2 ?c3 ?c4 ?c5
        case c0 => exact own_keeps hX.own (w' := W) (S := []) ⟨hG.os, hG.tape, hG.output, hG.size, hG.block⟩ (by simp)
        case c1 => 
          refine ⟨rfl, by simp [Value.oneCell'], fun _ => ⟨bb, 0, rfl, fun j u hj => ?_⟩⟩
          rw [Nat.zero_add, hblk7.cell]
          simpa using hj
        case c2 => unfold maxLen; omega
        case c3 => omega
        case c4 => have := hG.size; simp at this; omega
        case c5 =>
          intro v' w' ho' hgr hor
          have hk := Keeps.of_grown hgr
          rw [← hSL] at hk
          refine ⟨⟨⟨⟨ver, seq, data⟩, A1, c1⟩, rfl, own_keeps ho hk fun k hk hm => by have := hSlt k hm; have := own_ge ho k hk; omega, ?_, ?_⟩, hk⟩
          · rw [List.flatMap_append]; exact ho'
          · rcases hor with h1 | h1
            · exact .inl h1
            · refine .inr fun k hk => ?_
              rw [h1] at hk
              have : W.heap.size = k := by simpa using hk
              have := hG.size
              simp at this
              omega
      simp only [Act.put, List.setIfInBounds_toArray, List.set_cons_zero, List.set_cons_succ]
      refine dep_nil fun W hG hF => ?_
      obtain ⟨x8, hx0, hx1, hx2, hx3⟩ := hF _ List.mem_cons_self
      obtain ⟨A8, c8, rfl, _, _⟩ := own_form hx2
      have hgW : Blk W g 96 #[sl] := hX.blk.keeps (w' := W) (S := SL) ⟨hG.os, hG.tape, hG.output, hG.size, hG.block⟩ hgS
      have d0 := hgW.cell 0
      have d1 := hgW.frozen 0
      simp only [List.getElem?_toArray, List.getElem?_cons_zero, HS.out] at d0
      have hgl := hgW.lt
      have hGs := hG.size
      simp at hGs
      clear hF
      go_wp2_with fail
      have hkW : Keeps SL w W := (Keeps.of_below hbx SL).trans (T := SL) ⟨hG.os, hG.tape, hG.output, hG.size, hG.block⟩ fun i hi => .inl hi
      have hWset := (Keeps.refl [g] W).setCell (p := ⟨g, 0, none⟩) (.inl (by simp)) (.slice A8 (l.length + 1) c8)
      go_ret
      refine ⟨rfl, .slice A8 (l.length + 1) c8, x8, hx0, ⟨hgW.set_ 0 _, h.ge, ?_, fun y hy => ?_⟩, ?_, ?_⟩
      · rw [List.length_append]
        exact own_keeps hx2 hWset fun k hk hm => own_blk_ne hx2 hgW (by decide) k hk (by simpa using hm)
      · rcases List.mem_append.1 hy with hy | hy
        · have hd := h.data y hy
          have hd2 := own_keeps hd hkW fun k hk hm => own_own_ne hd h.own (by decide) k hk (by rw [hSL] at hm; simpa using hm)
          exact own_keeps hd2 hWset fun k hk hm => own_blk_ne hd2 hgW (by decide) k hk (by simpa using hm)
        · have he : y = x8 := by simpa using hy
          subst he
          have e : y.v.data = data := by rw [hx0]
          rw [e]
          refine own_rebase (own_keeps hx1 hWset fun k hk hm => own_blk_ne hx1 hgW (by decide) k hk (by simpa using hm)) fun k hk => ?_
          have := own_ge hx1 k hk
          omega
      · have hk2 : Keeps (g :: sl.ownBlock.toList) w W := hkW.mono fun k hk => .inl (by rw [hSL] at hk; exact List.mem_cons_of_mem _ hk)
        exact hk2.setCell (p := ⟨g, 0, none⟩) (.inl (by simp)) _
      · rcases hx3 with h1 | h1
        · exact .inl h1
        · exact .inr fun k hk => by have := h1 k hk; omega
end Go.Proofs.Ytgdmejkneabclaa
