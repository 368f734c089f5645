/- move.New: a picture in parts. -/
import Derived.Test.YtgdmejkneabclaaMove
import Derived.Laws.OwnMore
namespace Go.Proofs.Ytgdmejkneabclaa
open Go.RowKit Go.Shelf
set_option linter.unusedSimpArgs false
set_option linter.unusedVariables false
attribute [local go_sem] Oper.semAt_some

abbrev Pc := Option Addr × Nat
def pcell (x : Pc) : Value := .slice x.1 x.2 x.2

theorem info_bytes : (Try.prog.info? 23).map (fun i => (i.zero, i.size, i.bytes)) = some (some (.slice none 0 0), 1, 24) := by kernel_rfl

/-- The pieces of bytes: at least one. -/
def plist (b len : Nat) : List Pc := if len = 0 then [(none, 0)] else upto (piece b len) (pieces len)
/-- A picture that goes out: its parts lie one behind the other in one row of the call's own. -/
structure OutAt (w : World) (base g : Nat) (at_ : Int) (xs : List UInt8) : Prop where
  ge : base ≤ g
  ex : ∃ sl A1 c1 b, Blk w g 90 #[.int .u64 at_, sl] ∧ w.ownsRow base 23 1 sl (plist b xs.length).length ((plist b xs.length).map pcell) ∧
    w.ownsRow base 5 1 (.slice A1 xs.length c1) xs.length (xs.map bv) ∧ (0 < xs.length → A1 = some ⟨b, 0, none⟩)

theorem keeps_putObj (W : World) (D : Nat) (o : Obj) : Keeps [D] W (W.putObj D o) :=
  ⟨rfl, rfl, rfl, by simp [World.putObj], fun k _ hn => World.putObj_heap_other (by simpa using hn)⟩
theorem out_putObj {W : World} {base g D : Nat} {at_ : Int} {xs : List UInt8} (h : OutAt W base g at_ xs) {d : Option (List Deferred)} (hK : W.heap[D]? = some (.deferred d)) (o : Obj) : OutAt (W.putObj D o) base g at_ xs := by
  obtain ⟨h0, sl, A1, c1, b, h1, h2, h3, h4⟩ := h
  have hk := keeps_putObj W D o
  have hor : ∀ {base : Nat} {e : TypeId} {size m : Nat} {v : Value} {ys : List Value}, W.ownsRow base e size v m ys → (W.putObj D o).ownsRow base e size v m ys := by
    intro base e size m v ys h
    refine own_keeps h hk fun k hk hm => ?_
    rcases h.2 with ⟨rfl, _⟩ | ⟨g, cap, cur, rfl, _, hh, _⟩
    · simp [Value.ownBlock] at hk
    · have e1 : g = k := by simpa [Value.ownBlock] using hk
      have e2 : k = D := by simpa using hm
      rw [e1, e2, hK] at hh
      cases hh
  refine ⟨h0, sl, A1, c1, b, h1.keeps hk fun hm => ?_, hor h2, hor h3, h4⟩
  have e2 : g = D := by simpa using hm
  unfold Blk at h1
  rw [e2, hK] at h1
  cases h1

theorem others_of_keeps {S : List Nat} {W W' : World} (hk : Keeps S W W') (hS : ∀ k ∈ S, ∀ o, W.heap[k]? = some o → o.isCells = true) : KeepsOthers W W' :=
  ⟨hk.size, fun k o ho hc => (hk.block k (Array.getElem?_eq_some_iff.1 ho).1 (fun hm => by rw [hS k hm o ho] at hc; cases hc)).trans ho⟩

set_option maxRecDepth 100000 in
set_option maxHeartbeats 2000000 in
theorem moveNew_any (at_ : Int) (A : Option Addr) (len c : Nat) (xs : List UInt8) (w : World) (ha : Rd w A len xs) (hc : len ≤ c) (hl : len ≤ 1000000) :
    Calls Try.prog 12 #[.int .u64 at_, .slice A len c] w fun e w' => e = .returned (.pointer (some ⟨w.heap.size, 0, none⟩)) ∧ OutAt w' w.heap.size w.heap.size at_ xs ∧ Below w.heap.size w w' := by
  have hxl := ha.1
  obtain ⟨i0, hi0, hz0, hz1, hz2⟩ := info_parts info_bytes
  refine (callsIn_wide (n := 3)).1 ?_
  refine callsIn_of_wp_marks Try.func12 rfl trivial ?_ rfl
  simp only [Try.ntmps12, List.size_toArray, List.length_cons, List.length_nil, Nat.reduceAdd, Nat.reduceSub, Array.replicate_succ, Array.replicate_zero, List.push_toArray, List.append_toArray, List.nil_append, List.cons_append]
  gi_wp2
  have hr0 : Rd ((w.alloc (.cells #[.int .u64 at_, .slice none 0 0] 90)).alloc (.cells #[.pointer (some ⟨w.heap.size, 0, none⟩)] 25)) A len xs := (ha.alloc _).alloc _
  have hB0 : Below w.heap.size w ((w.alloc (.cells #[.int .u64 at_, .slice none 0 0] 90)).alloc (.cells #[.pointer (some ⟨w.heap.size, 0, none⟩)] 25)) := ((Below.refl _ _).alloc (Nat.le_refl _) _).alloc (by simp) _
  have hg0 : Blk ((w.alloc (.cells #[.int .u64 at_, .slice none 0 0] 90)).alloc (.cells #[.pointer (some ⟨w.heap.size, 0, none⟩)] 25)) w.heap.size 90 #[.int .u64 at_, .slice none 0 0] := (Blk.new w _ _).alloc _
  have hp0 := Blk.new (w.alloc (.cells #[.int .u64 at_, .slice none 0 0] 90)) 25 #[.pointer (some ⟨w.heap.size, 0, none⟩)]
  have hs0 : ((w.alloc (.cells #[.int .u64 at_, .slice none 0 0] 90)).alloc (.cells #[.pointer (some ⟨w.heap.size, 0, none⟩)] 25)).heap.size = w.heap.size + 2 := by simp
  simp only [World.size_alloc] at hp0
  generalize ((w.alloc (.cells #[.int .u64 at_, .slice none 0 0] 90)).alloc (.cells #[.pointer (some ⟨w.heap.size, 0, none⟩)] 25)) = w0 at hr0 hB0 hg0 hp0 hs0 ⊢
  refine ⟨trivial, (callsIn_wide.2 (bytesClone_any A len c xs w0 hr0 hc hl)).mono ?_⟩
  rintro e w1 ⟨v1, rfl, ho, hb1⟩
  obtain ⟨A1, c1, rfl, hlc, hcm⟩ := own_form ho
  have hg1 := hg0.below hb1 hg0.lt
  have hp1 := hp0.below hb1 hp0.lt
  have hs1 := hb1.size
  have hB1 : Below w.heap.size w w1 := hB0.trans (hb1.mono hB0.size)
  clear hr0 hB0 hg0 hp0
  gi_wp2
  refine ⟨trivial, (callsIn_wide.2 (Chunk_any A1 len c1 w1)).mono ?_⟩
  rintro e w2 ⟨rfl, rfl⟩
  have hB2 : Below w1.heap.size w1 ((w1.alloc (.cells #[.slice A1 len c1] 23)).alloc (.cells #[.int .i64 1024] 3)) := ((Below.refl _ _).alloc (Nat.le_refl _) _).alloc (by simp) _
  have hc2 : Blk ((w1.alloc (.cells #[.slice A1 len c1] 23)).alloc (.cells #[.int .i64 1024] 3)) w1.heap.size 23 #[.slice A1 len c1] := (Blk.new w1 _ _).alloc _
  have hn2 := Blk.new (w1.alloc (.cells #[.slice A1 len c1] 23)) 3 #[.int .i64 1024]
  have hs2 : ((w1.alloc (.cells #[.slice A1 len c1] 23)).alloc (.cells #[.int .i64 1024] 3)).heap.size = w1.heap.size + 2 := by simp
  simp only [World.size_alloc] at hn2
  generalize ((w1.alloc (.cells #[.slice A1 len c1] 23)).alloc (.cells #[.int .i64 1024] 3)) = w2 at hB2 hc2 hn2 hs2 ⊢
  have hg2 := hg1.below hB2 hg1.lt
  have hp2 := hp1.below hB2 hp1.lt
  have ho2 := own_below ho hB2 (own_lt ho)
  have hBw : Below w.heap.size w w2 := hB1.trans (hB2.mono hB1.size)
  gi_wp2
  obtain ⟨b, hA1⟩ : ∃ b, 0 < len → A1 = some ⟨b, 0, none⟩ := by
    rcases Nat.eq_zero_or_pos len with h0 | h0
    · exact ⟨0, fun h => by omega⟩
    · obtain ⟨g, cap, hv, _, _⟩ := ho.form h0
      exact ⟨g, fun _ => by injection hv⟩
  have h63 := hcm
  unfold maxLen at h63
  refine wpIn_rangeFunc_ownF rfl (by omega) (gf := 57) (lb := #[.pointer (some ⟨w1.heap.size, 0, none⟩), .pointer (some ⟨w1.heap.size + 1, 0, none⟩)]) rfl trivial (enters_of Try.func57 (by kernel_rfl) rfl)
    (chunk_stops (3 - 1) w1.heap.size (w1.heap.size + 1) b len c1 A1 hA1 hl hlc w2 (by omega) (by omega) (hc2.cell 0) (hn2.cell 0)) (fun h k => h.trans k) (fun W l o o' hl _ _ _ => ⟨World.putObj_heap_other (by omega), World.putObj_heap_other (by omega)⟩) (Below.refl _ _) (fun _ => rfl)
    (fun pre W => ∃ sl, Blk W w.heap.size 90 #[.int .u64 at_, sl] ∧ Blk W (w.heap.size + 1) 25 #[.pointer (some ⟨w.heap.size, 0, none⟩)] ∧ W.ownsRow w2.heap.size 23 1 sl pre.length (pre.map pcell) ∧ W.ownsRow w0.heap.size 5 1 (.slice A1 len c1) len (xs.map bv) ∧ w2.heap.size ≤ W.heap.size ∧ Below w.heap.size w W)
    (fun _ _ _ => False) ?hI (fun _ _ _ _ _ hs _ _ => hs) ⟨_, hg2, hp2, World.ownsRow_nil _ _ _ _, ho2, Nat.le_refl _, hBw⟩
    (fun x => { tmps := #[.int .u64 at_, .slice A len c, undef, undef, .pointer none, .pointer (some ⟨w.heap.size + 1, 0, none⟩), pcell x, .int .u64 at_, .agg #[.int .u64 at_, .slice none 0 0], .pointer (some ⟨w.heap.size, 0, none⟩), .slice A len c, .slice A1 len c1,
      .func (.func 57) #[] #[.pointer (some ⟨w1.heap.size, 0, none⟩), .pointer (some ⟨w1.heap.size + 1, 0, none⟩)], pcell x, undef, undef, undef, undef, undef, undef, undef, undef, undef, undef, undef, undef, undef, undef, undef, undef, undef, undef, undef, undef, undef, undef, undef, undef, undef, undef], defers := [] }) ?assign ?body ?done ?stop
  case hI =>
    rintro pre W W' row ⟨sl, h1, h2, h3, h4, h6, h5⟩ hgr hrow
    have hne : ∀ {g : Nat} {t : TypeId} {cs : Array Value}, Blk W g t cs → some g ≠ row := by
      intro g t cs hb he
      obtain ⟨_, o, ho, hoc⟩ := hrow g he.symm
      unfold Blk at hb
      rw [hb] at ho
      injection ho with ho
      subst ho
      simp [Obj.isCells] at hoc
    have hk : Keeps row.toList W W' := Keeps.of_grown hgr
    have hor : ∀ {base : Nat} {e : TypeId} {size m : Nat} {v : Value} {ys : List Value}, W.ownsRow base e size v m ys → W'.ownsRow base e size v m ys := by
      intro base e size m v ys h
      refine own_keeps h hk fun k hk hm => ?_
      rcases h.2 with ⟨rfl, _⟩ | ⟨g, cap, cur, rfl, _, hh, _⟩
      · simp [Value.ownBlock] at hk
      · have e1 : g = k := by simpa [Value.ownBlock] using hk
        subst e1
        exact hne (t := e) (cs := cur) hh (show some g = row by rw [show row = some g by simpa using hm])
    exact ⟨sl, h1.grown hgr (hne h1), h2.grown hgr (hne h2), hor h3, hor h4, Nat.le_trans h6 hgr.size, h5.trans (hk.below h5.size fun k hk => by have := (hrow k (by simpa using hk)).1; omega)⟩
  case assign =>
    intro l x W K hK
    dsimp only at hK
    gi_wp2
    exact hK
  case stop =>
    rintro D c pre W _ _ h _
    exact h.elim
  case body =>
    rintro l pre x W ⟨sl, hg, hp, hown, hdat, hsz, hB⟩ hpl
    refine wpIn_block ?_
    dsimp only
    obtain ⟨xa, xn⟩ := x
    obtain ⟨A5, c5, hsl, h5c, h5m⟩ := own_form hown
    obtain ⟨SL, hSL⟩ : ∃ SL : List Nat, SL = sl.ownBlock.toList := ⟨_, rfl⟩
    have hgS : w.heap.size ∉ SL := by
      rw [hSL]
      intro hm
      exact own_blk_ne hown hg (by decide) _ (by simpa using hm) rfl
    have hpS : w.heap.size + 1 ∉ SL := by
      rw [hSL]
      intro hm
      exact own_blk_ne hown hp (by decide) _ (by simpa using hm) rfl
    have hSg : ∀ k ∈ SL, w2.heap.size ≤ k ∧ k < W.heap.size := by
      rw [hSL]
      intro k hk
      exact ⟨own_ge hown k (by simpa using hk), own_lt hown k (by simpa using hk)⟩
    have cf : ∀ W2, Keeps SL W.drew W2 → W2.cell? ⟨w.heap.size + 1, 0, none⟩ = some (.pointer (some ⟨w.heap.size, 0, none⟩)) ∧ W2.cell? ⟨w.heap.size, 1, none⟩ = some (.slice A5 pre.length c5) := fun W2 hk =>
      ⟨(hk.cell (p := ⟨w.heap.size + 1, 0, none⟩) hp.lt hpS).trans (hp.cell 0), (hk.cell (p := ⟨w.heap.size, 1, none⟩) hg.lt hgS).trans ((hg.cell 1).trans (by rw [hsl]; rfl))⟩
    have HS := Lib.hid hsl
    have hgl := hg.lt
    clear hsl
    simp only [pcell]
    refine wpIn_region_dep 13 (fun i => if i = 11 then .some_ (fun v W2 => ∃ bb, v = .slice (some ⟨bb, 0, none⟩) 1 1 ∧ W.heap.size ≤ bb ∧ Blk W2 bb 23 #[.slice xa xn xn])
      else if i = 12 then .last (fun v W2 => W2.ownsRow w2.heap.size 23 1 v (pre.length + 1) (pre.map pcell ++ [.slice xa xn xn])) else .reckons) (Keeps []) (Keeps SL) (by kernel_rfl) (by kernel_rfl) ?hlo (by kernel_rfl)
      (Keeps.refl SL) (Keeps.refl []) (fun W W' hk => hk.mono (by simp)) (fun _ _ _ h1 h2 => h1.trans h2 (fun i hi => .inl hi)) (fun _ _ _ h1 h2 => h1.trans h2 (fun i hi => .inl hi)) ?hst ?hla ?walk
    case hlo =>
      rintro ⟨a, W3, h⟩
      exact h
    case hst =>
      intro k φ hT v W2 W3 hk hφ
      split at hT
      · cases hT
        obtain ⟨bb, rfl, h1, h2⟩ := hφ
        exact ⟨bb, rfl, h1, h2.keeps hk fun hm => by have := (hSg _ hm).2; omega⟩
      · split at hT <;> cases hT
    case hla =>
      intro k φ hT
      simp only at hT
      split at hT
      · cases hT
      · split at hT
        · rename_i h12
          cases hT
          subst h12
          refine ⟨fun v W2 W3 hk hφ => own_keeps hφ hk (by simp), fun j o hj ho => ?_, fun i φ' hT' => ?_⟩
          · rcases j with _ | _ | _ | _ | _ | _ | _ | _ | _ | _ | _ | _ | _ | j
            iterate 13 (simp at ho; subst ho; kernel_rfl)
            omega
          · simp only at hT'
            split at hT'
            · cases hT'
            · split at hT'
              · assumption
              · cases hT'
        · cases hT
    case walk =>
      simp only [List.take_succ_cons, List.take_zero, List.drop_succ_cons, List.drop_zero]
      iterate 2 refine dep_reckons rfl (by kernel_rfl) (fun W hG hF => by have hcf := cf W hG; go_simp <;> rfl) (by simp only [Act.put, List.setIfInBounds_toArray, List.set_cons_zero, List.set_cons_succ]; rfl) ?_
      iterate 2 refine dep_reckons rfl (by kernel_rfl) (fun W hG hF => by go_simp <;> rfl) (by simp only [Act.put, List.setIfInBounds_toArray, List.set_cons_zero, List.set_cons_succ]; rfl) ?_
      refine dep_reckons rfl (by kernel_rfl) (fun W hG hF => by have hcf := cf W hG; go_simp <;> rfl) (by simp only [Act.put, List.setIfInBounds_toArray, List.set_cons_zero, List.set_cons_succ]; rfl) ?_
      iterate 5 refine dep_reckons rfl (by kernel_rfl) (fun W hG hF => by go_simp <;> rfl) (by simp only [Act.put, List.setIfInBounds_toArray, List.set_cons_zero, List.set_cons_succ]; rfl) ?_
      refine dep_reckons (c := .slice xa xn xn) rfl (by kernel_rfl) (fun W2 hG hF => by go_simp) (by simp only [Act.put, List.setIfInBounds_toArray, List.set_cons_zero, List.set_cons_succ]; rfl) ?_
      refine dep_some rfl (by kernel_rfl) (fun W2 hG hF => ?_) (fun v11 => ?_)
      · have hsW := hG.size
        simp at hsW
        unfold opGives
        go_simp
        exact ⟨Blk.new _ _ _, (Keeps.refl [] W2).alloc _⟩
      simp only [Act.put, List.setIfInBounds_toArray, List.set_cons_zero, List.set_cons_succ]
      refine dep_last rfl (by kernel_rfl) (fun W2 hG hF => ?_) (fun v12 => ?_)
      · obtain ⟨bb, rfl, hbb, hb11⟩ := hF _ List.mem_cons_self (by kernel_rfl)
        have hsW := hG.size
        simp at hsW
        have hl2 : pre.length ≤ 1000 := by unfold pieces at hpl; omega
        refine gives_append_src (.tmp 18) (.tmp 25) _ rfl w2.heap.size 23 i0 _ 1 24 Try.underlying53 hi0 hz0 hz1 hz2 rfl (by omega) sl pre.length (pre.map pcell) ?c0 (own_keeps hown (keeps_drew hG) (by simp)) (some ⟨bb, 0, none⟩) 1 1 [.slice xa xn xn] rfl ?c1 ?c2 ?c3 ?c4 ?c5
        case c0 => rw [HS.out]; rfl
        case c1 =>
          refine ⟨rfl, by simp [Value.oneCell'], fun _ => ⟨bb, 0, rfl, fun j u hj => ?_⟩⟩
          rw [Nat.zero_add, hb11.cell]
          simpa using hj
        case c2 => unfold maxLen; omega
        case c3 => omega
        case c4 => omega
        case c5 =>
          intro v' w' ho' hgr hor
          have hk := Keeps.of_grown hgr
          rw [← hSL] at hk
          exact ⟨ho', hk⟩
      simp only [Act.put, List.setIfInBounds_toArray, List.set_cons_zero, List.set_cons_succ]
      refine dep_nil fun W3 hG hF => ?_
      have hx2 := hF _ List.mem_cons_self
      simp only [] at hx2
      obtain ⟨A8, c8, rfl, _, _⟩ := own_form hx2
      have hk3 := keeps_drew hG
      have hg3 := hg.keeps hk3 hgS
      have hp3 := hp.keeps hk3 hpS
      have d0 := hg3.cell 0
      have d1 := hg3.cell 1
      have d2 := hg3.frozen
      simp only [List.getElem?_toArray, List.getElem?_cons_zero, List.getElem?_cons_succ, HS.out] at d0 d1
      have hgl3 := hg3.lt
      clear hF cf hG
      go_wp2_with fail
      have hk3' : Keeps (w.heap.size :: SL) W W3 := hk3.mono fun k hk => .inl (List.mem_cons_of_mem _ hk)
      have hk4 := hk3'.setCell (p := ⟨w.heap.size, 1, none⟩) (.inl (by simp)) (.slice A8 (pre.length + 1) c8)
      have hkg := (Keeps.refl [w.heap.size] W3).setCell (p := ⟨w.heap.size, 1, none⟩) (.inl (by simp)) (.slice A8 (pre.length + 1) c8)
      have hne4 : ∀ k, k ≠ w.heap.size → k < w2.heap.size → k ∉ w.heap.size :: SL := fun k h1 h2 hm => by
        rcases List.mem_cons.1 hm with e | hm
        · exact h1 e
        · have := (hSg k hm).1; omega
      refine ⟨others_of_keeps hk4 fun k hk o ho => ?_, ⟨hk4.block _ (by omega) (hne4 _ (by omega) (by omega)), hk4.block _ (by omega) (hne4 _ (by omega) (by omega))⟩, .slice A8 (pre.length + 1) c8, hg3.set_ 1 _, hp3.far (p := ⟨w.heap.size, 1, none⟩) (by simp) _, ?_, ?_, by have := hk4.size; omega, ?_⟩
      · rcases List.mem_cons.1 hk with rfl | hk
        · unfold Blk at hg
          rw [hg] at ho
          injection ho with ho
          rw [← ho]; rfl
        · rw [hSL] at hk
          rcases hown.2 with ⟨e, _⟩ | ⟨g, cap, cur, e, _, hh, _⟩
          · rw [e] at hk; simp [Value.ownBlock] at hk
          · rw [e] at hk
            have e1 : k = g := by simpa [Value.ownBlock] using hk
            rw [e1, hh] at ho
            injection ho with ho
            rw [← ho]; rfl
      · rw [List.length_append, List.map_append]
        exact own_keeps hx2 hkg fun k hk hm => own_blk_ne hx2 hg3 (by decide) k hk (by simpa using hm)
      · refine own_keeps (own_keeps hdat hk3 fun k hk hm => ?_) hkg fun k hk hm => ?_
        · rw [hSL] at hm
          exact own_own_ne hdat hown (by decide) k hk (by simpa using hm)
        · exact own_blk_ne hdat hg (by decide) k hk (by simpa using hm)
      · refine hB.trans (hk4.below hB.size fun k hk => ?_)
        rcases List.mem_cons.1 hk with rfl | hk
        · exact Nat.le_refl _
        · have := (hSg k hk).1; have := hBw.size; omega
  case done =>
    rintro D ys W hD rfl ⟨sl, hg, hp, hown, hdat, hsz, hB⟩ hK
    dsimp only
    have hD' : D ≠ w.heap.size := fun e => by rw [e] at hK; unfold Blk at hg; rw [hg] at hK; cases hK
    have hlp : (upto (piece b len) (pieces len)).length = pieces len := upto_length _ _
    rw [hlp] at hown
    obtain ⟨A5, c5, hsl, _, _⟩ := own_form hown
    subst hsl
    have d0 := hp.cell 0
    have d1 := hg.cell 1
    have d2 := hg.frozen
    have hgl := hg.lt
    have hpl := hp.lt
    simp only [List.getElem?_toArray, List.getElem?_cons_zero, List.getElem?_cons_succ] at d0 d1
    by_cases h0 : len = 0
    · have hp0 : pieces len = 0 := by unfold pieces; omega
      rw [hp0] at hown d1
      have HP := Lib.hid hp0
      clear hp0 hlp
      gi_wp2
      have hko := ((KeepsOthers.setCell W ⟨w.heap.size, 1, none⟩ (.slice (some ⟨W.heap.size, 0, none⟩) 1 1)).trans (KeepsOthers.alloc _ (.cells #[.slice none 0 0] 23))).same D _ hK rfl
      have hks := ((Keeps.refl [w.heap.size] W).setCell (p := ⟨w.heap.size, 1, none⟩) (.inl (by simp)) (.slice (some ⟨W.heap.size, 0, none⟩) 1 1)).alloc (.cells #[.slice none 0 0] 23)
      have hrow := World.ownsRow_lit (base := w.heap.size) (size := 1) (e := 23) (W.setCell ⟨w.heap.size, 1, none⟩ (.slice (some ⟨W.heap.size, 0, none⟩) 1 1)) #[.slice none 0 0] 1 (by simp; omega) (by unfold maxLen; omega) rfl
      have esz : (W.setCell ⟨w.heap.size, 1, none⟩ (.slice (some ⟨W.heap.size, 0, none⟩) 1 1)).heap.size = W.heap.size := by simp
      rw [esz] at hrow
      refine ⟨by simp, .inl ⟨_, _, rfl, run_takeDeferred hko, ?_⟩⟩
      refine ⟨_, results_tmp rfl _ _ _, rfl, out_putObj ⟨Nat.le_refl _, .slice (some ⟨W.heap.size, 0, none⟩) 1 1, A1, c1, b, (hg.set_ 1 _).alloc _, ?_, ?_, ?_⟩ hko _, ?_⟩
      · have e : plist b xs.length = [(none, 0)] := by unfold plist; rw [hxl, if_pos h0]
        rw [e]
        exact hrow
      · rw [hxl]
        refine own_rebase (own_keeps hdat hks fun k hk hm => own_blk_ne hdat hg (by decide) k hk (by simpa using hm)) fun k hk => by have := own_ge hdat k hk; omega
      · rw [hxl]; exact hA1
      · exact (hB.trans (hks.below hB.size (by simp))).trans ((keeps_putObj _ D _).below (by simp; omega) (by simp; omega))
    · have hp0 : ((pieces len : Int) == 0) = false := beq_eq_false_iff_ne.2 (by unfold pieces; omega)
      gi_wp2
      refine ⟨by simp, .inl ⟨_, _, rfl, run_takeDeferred hK, ?_⟩⟩
      refine ⟨_, results_tmp rfl _ _ _, rfl, out_putObj ⟨Nat.le_refl _, .slice A5 (pieces len) c5, A1, c1, b, hg, ?_, ?_, ?_⟩ hK _, hB.trans ((keeps_putObj W D _).below hB.size (by simp; omega))⟩
      · have e : plist b xs.length = upto (piece b len) (pieces len) := by unfold plist; rw [hxl, if_neg h0]
        rw [e, hlp]
        exact own_rebase hown fun k hk => by have := own_ge hown k hk; have := hBw.size; omega
      · rw [hxl]
        exact own_rebase hdat fun k hk => by have := own_ge hdat k hk; omega
      · rw [hxl]; exact hA1
end Go.Proofs.Ytgdmejkneabclaa
