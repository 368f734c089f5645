/- The walk of VersTrims. -/
import Derived.Test.YtgdmejkneabclaaVersA
namespace Go.Proofs.Ytgdmejkneabclaa
open Go.RowKit
set_option linter.unusedSimpArgs false
set_option linter.unusedVariables false

def seqOf (gs : List UInt8) : Nat → Int
  | 0 => 0
  | k + 1 => seqOf gs k + 1 + ((gs.getD k 0).toNat : Int)
theorem seqOf_le (gs : List UInt8) (k : Nat) : 0 ≤ seqOf gs k ∧ seqOf gs k ≤ 256 * k := by
  induction k with
  | zero => simp [seqOf]
  | succ k ih =>
    have := (gs.getD k 0).toNat_lt
    unfold seqOf
    omega
def mkV (fst : Int) (gs : List UInt8) (k : Nat) : List Ver := (List.range k).map fun (i : Nat) => ⟨fst + (i : Int), seqOf gs (i + 1), [gs.getD i 0]⟩
theorem mkV_succ (fst : Int) (gs : List UInt8) (k : Nat) : mkV fst gs (k + 1) = mkV fst gs k ++ [⟨fst + (k : Int), seqOf gs (k + 1), [gs.getD k 0]⟩] := by
  unfold mkV
  rw [List.range_succ, List.map_append]
  rfl
theorem mkV_len (fst : Int) (gs : List UInt8) (k : Nat) : (mkV fst gs k).length = k := by simp [mkV]
theorem mkV_last (fst : Int) (gs : List UInt8) (k : Nat) : k = 0 ∨ ((lastM (mkV fst gs k)).ver = fst + (k : Int) - 1 ∧ (lastM (mkV fst gs k)).seq < seqOf gs (k + 1)) := by
  cases k with
  | zero => exact .inl rfl
  | succ k =>
    right
    have h := getD_app_last (mkV fst gs k) ⟨fst + (k : Int), seqOf gs (k + 1), [gs.getD k 0]⟩
    rw [← mkV_succ, mkV_len] at h
    rw [lastM_eq _ (by rw [mkV_len]; omega), mkV_len, Nat.add_sub_cancel, h]
    refine ⟨by simp only; omega, ?_⟩
    show seqOf gs (k + 1) < seqOf gs (k + 1) + 1 + _
    omega
theorem mkV_rising (fst : Int) (gs : List UInt8) (k : Nat) : RisingM (mkV fst gs k) := by
  induction k with
  | zero => exact rising_nil
  | succ k ih =>
    rw [mkV_succ]
    refine rising_put ih ?_
    rw [mkV_len]
    exact mkV_last fst gs k
theorem mkV_short (fst : Int) (gs : List UInt8) (k : Nat) (hk : k ≤ 1000) (l : List VC) (h : vs l = mkV fst gs k) : Short l := by
  have hlen : l.length = k := by have := congrArg List.length h; rwa [List.length_map, mkV_len] at this
  refine ⟨by omega, fun x hx => ?_⟩
  have : x.v ∈ mkV fst gs k := by rw [← h]; exact List.mem_map_of_mem hx
  obtain ⟨i, _, hi⟩ := List.mem_map.1 this
  rw [← hi]
  simp

structure TwoAt (wr : World) (B : Nat) (slb slc : Value) (lb lc : List VC) : Prop where
  b : BlockAt wr (B + 1) (B + 1) slb lb
  c : BlockAt wr (B + 2) (B + 2) slc lc
  ne : ∀ k ∈ slb.ownBlock, k ∉ slc.ownBlock

set_option maxRecDepth 100000 in
set_option maxHeartbeats 4000000 in
theorem VersTrims_walk (fst : Int) (A : Option Addr) (n c : Nat) (gs : List UInt8) (m0 m1 : Int) (w : World) (ha : Rd w A n gs) (hf : 0 ≤ fst ∧ fst ≤ 18446744073709551615) (hm0 : 0 ≤ m0 ∧ m0 ≤ 18446744073709551615) (hm1 : 0 ≤ m1 ∧ m1 ≤ 18446744073709551615) :
    Calls Try.prog 5 #[.int .u64 fst, .slice A n c, .agg #[.int .u64 m0, .int .u64 m1]] w fun e w' => e = .returned (.bool true) ∧ Below w.heap.size w w' := by
  have hn := ha.2.1
  go_enter Try.func5, Try.ntmps5
  have hb0 : Below w.heap.size w (w.alloc (.cells #[.int .u64 m0, .int .u64 m1] 37)) := (Below.refl _ _).alloc (Nat.le_refl _) _
  by_cases g0 : fst = 0
  · subst g0
    go_wp2_with fail
    refine (awake15 _).mono ?_
    rintro e w1 ⟨rfl, hb⟩
    go_wp2_with fail
    go_ret
    exact ⟨rfl, hb0.trans (hb.mono hb0.size)⟩
  have t0 : (fst == 0) = false := by simpa using g0
  by_cases g1 : 4611686018427387904 < fst
  · clear g0
    go_wp2_with fail
    refine (awake15 _).mono ?_
    rintro e w1 ⟨rfl, hb⟩
    go_wp2_with fail
    go_ret
    exact ⟨rfl, hb0.trans (hb.mono hb0.size)⟩
  by_cases g2 : 40 < n
  · clear g0
    go_wp2_with fail
    refine (awake15 _).mono ?_
    rintro e w1 ⟨rfl, hb⟩
    go_wp2_with fail
    go_ret
    exact ⟨rfl, hb0.trans (hb.mono hb0.size)⟩
  have hf1 : 1 ≤ fst := by omega
  clear g0
  go_wp2_with fail
  refine (verNew_any _).mono ?_
  rintro e w1 ⟨rfl, h1, hb1, hs1⟩
  go_wp2_with fail
  refine (verNew_any _).mono ?_
  rintro e w2 ⟨rfl, h2, hb2, hs2⟩
  simp only [World.size_alloc] at h1 hs1 hb1
  rw [hs1] at h2 hs2 hb2
  simp only [hs1]
  have hbox : Blk w2 w.heap.size 37 #[.int .u64 m0, .int .u64 m1] := ((Blk.new w _ _).below hb1 (by omega)).below hb2 (by omega)
  have hT : TwoAt w2 w.heap.size (.slice none 0 0) (.slice none 0 0) [] [] := ⟨h1.below (hb2.mono (by omega)), h2, fun k hk => by simp [Value.ownBlock] at hk⟩
  have hbl2 : Below w.heap.size w w2 := hb0.trans ((hb1.mono (by omega)).trans (hb2.mono (by omega)))
  go_wp2_with fail
  go_loopw [9, 10] (fun s i wr => ∃ (k : Nat) (slb slc : Value) (lb lc : List VC), k ≤ n ∧ s = .int .u64 (seqOf gs k) ∧ i = .int .i64 k ∧ TwoAt wr w.heap.size slb slc lb lc ∧ vs lb = mkV fst gs k ∧ vs lc = mkV fst gs k ∧
    Blk wr w.heap.size 37 #[.int .u64 m0, .int .u64 m1] ∧ Below w.heap.size w wr) (fun _ i _ => n - (intOf i).toNat)
  case atStart => exact ⟨0, _, _, [], [], Nat.zero_le _, rfl, rfl, hT, rfl, rfl, hbox, hbl2⟩
  case round =>
    obtain ⟨k, slb, slc, lb, lc, hk, rfl, rfl, hT, hvb, hvc, hbox, hb⟩ := hrel
    by_cases hlt : k < n
    · obtain ⟨bb, o, rfl, hcell⟩ := ha.at_ k hlt
      have q0 : wr.cell? ⟨bb, o + k, none⟩ = some (.int .u8 ((gs.getD k 0).toNat : Int)) := (hb.cell (block_lt_of_cell hcell)).trans hcell
      have hg8 := (gs.getD k 0).toNat_lt
      obtain ⟨s, hs⟩ : ∃ s, seqOf gs k = s := ⟨_, rfl⟩
      obtain ⟨x, hx⟩ : ∃ x, gs.getD k 0 = x := ⟨_, rfl⟩
      have hse : seqOf gs (k + 1) = s + 1 + (x.toNat : Int) := by rw [← hs, ← hx]; rfl
      have hsl := seqOf_le gs k
      rw [hs] at hsl ⊢
      rw [hx] at q0 hg8
      have HS := Lib.hid hs; have HX := Lib.hid hx; have HE := Lib.hid hse
      clear hs hx hse hcell
      have hgl := block_lt_of_cell q0
      have u1 : IntKind.u64.wrap (s + 1) = s + 1 := by rw [IntKind.wrap_u64]; omega
      have u2 : IntKind.u64.wrap (s + 1 + (x.toNat : Int)) = s + 1 + (x.toNat : Int) := by rw [IntKind.wrap_u64]; omega
      have u3 : IntKind.u64.wrap (k : Int) = k := by rw [IntKind.wrap_u64]; omega
      have u4 : IntKind.u64.wrap (fst + (k : Int)) = fst + k := by rw [IntKind.wrap_u64]; omega
      have u5 : IntKind.u64.wrap (x.toNat : Int) = x.toNat := by rw [IntKind.wrap_u64]; omega
      have hlb : lb.length = k := by have := congrArg List.length hvb; rwa [List.length_map, mkV_len] at this
      have hlc : lc.length = k := by have := congrArg List.length hvc; rwa [List.length_map, mkV_len] at this
      have hsb := mkV_short fst gs k (by omega) lb hvb
      have hsc := mkV_short fst gs k (by omega) lc hvc
      have hnb : lb.length = 0 ∨ ((lastV lb).ver = fst + k - 1 ∧ (lastV lb).seq < s + 1 + (x.toNat : Int)) := by
        rw [hlb, last_vs, hvb, ← HE.out]; exact mkV_last fst gs k
      have hnc : lc.length = 0 ∨ ((lastV lc).ver = fst + k - 1 ∧ (lastV lc).seq < s + 1 + (x.toNat : Int)) := by
        rw [hlc, last_vs, hvc, ← HE.out]; exact mkV_last fst gs k
      have Hnb := Lib.hid hnb; have Hnc := Lib.hid hnc; have Hvb := Lib.hid hvb; have Hvc := Lib.hid hvc
      clear hnb hnc hvb hvc
      go_wp2_with fail
      have hX : Below wr.heap.size wr ((wr.alloc (.cells #[.int .u8 (x.toNat : Int)] 5)).alloc (.cells #[.int .u64 (fst + k), .int .u64 (s + 1 + (x.toNat : Int)), .slice (some ⟨wr.heap.size, 0, none⟩) 1 1] 41)) :=
        ((Below.refl _ _).alloc (Nat.le_refl _) _).alloc (by simp) _
      have hd : Blk ((wr.alloc (.cells #[.int .u8 (x.toNat : Int)] 5)).alloc (.cells #[.int .u64 (fst + k), .int .u64 (s + 1 + (x.toNat : Int)), .slice (some ⟨wr.heap.size, 0, none⟩) 1 1] 41)) wr.heap.size 5 #[.int .u8 (x.toNat : Int)] := (Blk.new wr _ _).alloc _
      have hv : Blk ((wr.alloc (.cells #[.int .u8 (x.toNat : Int)] 5)).alloc (.cells #[.int .u64 (fst + k), .int .u64 (s + 1 + (x.toNat : Int)), .slice (some ⟨wr.heap.size, 0, none⟩) 1 1] 41)) (wr.heap.size + 1) 41 #[.int .u64 (fst + k), .int .u64 (s + 1 + (x.toNat : Int)), .slice (some ⟨wr.heap.size, 0, none⟩) 1 1] := by
        have := Blk.new (wr.alloc (.cells #[.int .u8 (x.toNat : Int)] 5)) 41 #[.int .u64 (fst + k), .int .u64 (s + 1 + (x.toNat : Int)), .slice (some ⟨wr.heap.size, 0, none⟩) 1 1]
        simpa using this
      have hXs : ((wr.alloc (.cells #[.int .u8 (x.toNat : Int)] 5)).alloc (.cells #[.int .u64 (fst + k), .int .u64 (s + 1 + (x.toNat : Int)), .slice (some ⟨wr.heap.size, 0, none⟩) 1 1] 41)).heap.size = wr.heap.size + 2 := by simp
      generalize ((wr.alloc (.cells #[.int .u8 (x.toNat : Int)] 5)).alloc (.cells #[.int .u64 (fst + k), .int .u64 (s + 1 + (x.toNat : Int)), .slice (some ⟨wr.heap.size, 0, none⟩) 1 1] 41)) = X at hX hd hv hXs ⊢
      have hrd : ∀ W, Blk W wr.heap.size 5 #[.int .u8 (x.toNat : Int)] → Rd W (some ⟨wr.heap.size, 0, none⟩) 1 [x] := fun W hW => ⟨rfl, by omega, fun _ => ⟨_, 0, rfl, fun j hj => by
        have : j = 0 := by omega
        subst this
        rw [Nat.zero_add, hW.cell]; rfl⟩⟩
      have hbX := hT.b.below hX
      have hcX := hT.c.below hX
      have hbsz := hb.size
      have hsz2 := hT.c.blk.lt
      refine (Put_ok _ _ slb lb ⟨fst + k, s + 1 + (x.toNat : Int), [x]⟩ (some ⟨wr.heap.size, 0, none⟩) 1 _ hbX hsb (by omega) (by have := hT.b.blk.lt; omega) (hrd _ hd) ?_ (by simp) (by simp only; omega) (by simp only; omega) (by simp) Hnb.out).mono ?_
      · intro _ ad e hm
        injection e with e
        subst e
        have := own_lt hT.b.own _ (by simpa using hm)
        simp at this
      rintro e w3 ⟨rfl, slb', xb, hxb, hb3, hk3, hor3⟩
      have ho2 : ∀ i, w.heap.size + 1 ≠ i → i < wr.heap.size + 2 → (∀ j ∈ slb.ownBlock, j ≠ i) → i ∉ (w.heap.size + 1) :: slb.ownBlock.toList := by
        intro i h1 h2 h3 hm
        rcases List.mem_cons.1 hm with e | hm
        · exact h1 e.symm
        · exact h3 i (by simpa using hm) rfl
      have hc3 : BlockAt w3 (w.heap.size + 2) (w.heap.size + 2) slc lc := by
        refine hcX.keeps hk3 (ho2 _ (by omega) (by omega) ?_) ?_ ?_
        · intro j hj
          exact own_blk_ne hT.b.own hT.c.blk (by decide) j hj
        · intro j hj
          refine ho2 _ ?_ ?_ ?_
          · have := own_ge hT.c.own j hj; omega
          · have := own_lt hT.c.own j hj; omega
          · intro i hi e; subst e; exact hT.ne _ hi hj
        · intro y hy j hj
          have hdy := hT.c.data y hy
          refine ho2 _ ?_ ?_ ?_
          · have := own_ge hdy j hj; omega
          · have := own_lt hdy j hj; omega
          · intro i hi e; subst e; exact own_own_ne hT.b.own hdy (by decide) _ hi hj
      have hd3 : Blk w3 wr.heap.size 5 #[.int .u8 (x.toNat : Int)] := hd.keeps hk3 (ho2 _ (by omega) (by omega) (fun j hj => by have := own_lt hT.b.own j hj; omega))
      have hv3 := hv.keeps hk3 (ho2 _ (by omega) (by omega) (fun j hj => by have := own_lt hT.b.own j hj; omega))
      have v0 := hv3.cell 0
      have v1 := hv3.cell 1
      have v2 := hv3.cell 2
      simp only [List.getElem?_toArray, List.getElem?_cons_zero, List.getElem?_cons_succ] at v0 v1 v2
      go_wp2_with fail
      refine (Put_ok _ _ slc lc ⟨fst + k, s + 1 + (x.toNat : Int), [x]⟩ (some ⟨wr.heap.size, 0, none⟩) 1 _ hc3 hsc (by omega) (by have := hk3.size; omega) (hrd _ hd3) ?_ (by simp) (by simp only; omega) (by simp only; omega) (by simp) Hnc.out).mono ?_
      · intro _ ad e hm
        injection e with e
        subst e
        have := own_lt hT.c.own _ (by simpa using hm)
        simp at this
      rintro e w4 ⟨rfl, slc', xc, hxc, hc4, hk4, hor4⟩
      have hs3 := hk3.size
      have hs4 := hk4.size
      have ho4 : ∀ i, w.heap.size + 2 ≠ i → (∀ j ∈ slc.ownBlock, j ≠ i) → i ∉ (w.heap.size + 2) :: slc.ownBlock.toList := by
        intro i h1 h3 hm
        rcases List.mem_cons.1 hm with e | hm
        · exact h1 e.symm
        · exact h3 i (by simpa using hm) rfl
      have hne3 : ∀ j ∈ slb'.ownBlock, j ∉ slc.ownBlock := by
        intro j hj hj'
        rcases hor3 with h | h
        · rw [h] at hj; exact hT.ne j hj hj'
        · have := h j hj; have := own_lt hT.c.own j hj'; omega
      have hb4 : BlockAt w4 (w.heap.size + 1) (w.heap.size + 1) slb' (lb ++ [xb]) := by
        refine hb3.keeps hk4 (ho4 _ (by omega) ?_) ?_ ?_
        · intro j hj
          exact own_blk_ne hT.c.own hT.b.blk (by decide) j hj
        · intro j hj
          exact ho4 _ (fun e => own_blk_ne hb3.own hc3.blk (by decide) j hj e.symm) (fun i hi e => by subst e; exact hne3 _ hj hi)
        · intro y hy j hj
          have hdy := hb3.data y hy
          exact ho4 _ (fun e => own_blk_ne hdy hc3.blk (by decide) j hj e.symm) (fun i hi e => by subst e; exact own_own_ne hdy hc3.own (by decide) _ hj hi)
      have hbox4 : Blk w4 w.heap.size 37 #[.int .u64 m0, .int .u64 m1] := by
        refine ((hbox.below hX (by omega)).keeps hk3 (ho2 _ (by omega) (by omega) fun j hj => ?_)).keeps hk4 (ho4 _ (by omega) fun j hj => ?_)
        · have := own_ge hT.b.own j hj; omega
        · have := own_ge hT.c.own j hj; omega
      have hbl4 : Below w.heap.size w w4 := by
        refine hb.trans (((hX.mono (by omega)).trans (hk3.below (by omega) ?_)).trans (hk4.below (by omega) ?_))
        · intro j hj
          rcases List.mem_cons.1 hj with rfl | hj
          · omega
          · have := own_ge hT.b.own j (by simpa using hj); omega
        · intro j hj
          rcases List.mem_cons.1 hj with rfl | hj
          · omega
          · have := own_ge hT.c.own j (by simpa using hj); omega
      go_wp2_with fail
      refine ⟨⟨k + 1, slb', slc', lb ++ [xb], lc ++ [xc], by omega, by rw [HE.out], rfl, ⟨hb4, hc4, ?_⟩, ?_, ?_, hbox4, hbl4⟩, by simp [intOf]; omega⟩
      · intro j hj hj'
        rcases hor4 with h | h
        · rw [h] at hj'; exact hne3 j hj hj'
        · have := h j hj'; have := own_lt hb3.own j hj; omega
      · rw [vs, List.map_append, mkV_succ]
        rw [show List.map VC.v lb = mkV fst gs k from Hvb.out, HE.out, HX.out]
        simp [hxb]
      · rw [vs, List.map_append, mkV_succ]
        rw [show List.map VC.v lc = mkV fst gs k from Hvc.out, HE.out, HX.out]
        simp [hxc]
    · have hkn : k = n := by omega
      subst hkn
      clear hlt
      obtain ⟨s, hs⟩ : ∃ s, seqOf gs k = s := ⟨_, rfl⟩
      have hsl := seqOf_le gs k
      rw [hs] at hsl ⊢
      clear hs
      have hsb := mkV_short fst gs k (by omega) lb hvb
      have hsc := mkV_short fst gs k (by omega) lc hvc
      have hrb : Rising lb := by rw [rising_vs, hvb]; exact mkV_rising fst gs k
      have hrc : Rising lc := by rw [rising_vs, hvc]; exact mkV_rising fst gs k
      have hvbc : vs lb = vs lc := hvb.trans hvc.symm
      clear hvb hvc
      have x0 := hbox.cell 0
      have x1 := hbox.cell 1
      have hxl := hbox.lt
      simp only [List.getElem?_toArray, List.getElem?_cons_zero, List.getElem?_cons_succ] at x0 x1
      have u1 : IntKind.u64.wrap (s + 2) = s + 2 := by rw [IntKind.wrap_u64]; omega
      obtain ⟨d, hd⟩ : ∃ d, m0.tmod (s + 2) = d := ⟨_, rfl⟩
      have hd0 : 0 ≤ d ∧ d < s + 2 := by rw [← hd, Int.tmod_eq_emod_of_nonneg hm0.1]; exact ⟨Int.emod_nonneg _ (by omega), Int.emod_lt_of_pos _ (by omega)⟩
      obtain ⟨q, hq⟩ : ∃ q, m1.tmod 1000 = q := ⟨_, rfl⟩
      have hq0 : 0 ≤ q ∧ q < 1000 := by rw [← hq, Int.tmod_eq_emod_of_nonneg hm1.1]; exact ⟨Int.emod_nonneg _ (by omega), Int.emod_lt_of_pos _ (by omega)⟩
      have z1 : (s + 2 == 0) = false := by simp; omega
      have z2 : ¬ (s + 2 = 0) := by omega
      have w1' : IntKind.u64.wrap d = d := by rw [IntKind.wrap_u64]; omega
      have w2' : IntKind.u64.wrap q = q := by rw [IntKind.wrap_u64]; omega
      have w3' : IntKind.u64.wrap (d + q) = d + q := by rw [IntKind.wrap_u64]; omega
      go_wp2_with fail
      have hbs := hb.size
      have hcl := hT.c.blk.lt
      refine (Trim_any _ _ slb lb d _ hT.b hsb hrb (by omega)).mono ?_
      rintro e w3 ⟨rfl, slb', hb3, hk3, hor3⟩
      have hs3 := hk3.size
      obtain ⟨lt, hlt⟩ : ∃ lt, lb.drop (trimN lb d) = lt := ⟨_, rfl⟩
      have hvt : vs lt = (vs lc).drop (trimM (vs lc) d) := by rw [← hlt, vs, List.map_drop, trim_vs]; show (vs lb).drop _ = _; rw [hvbc]
      have hst : Short lt := by rw [← hlt]; exact hsb.drop _
      have hrt : Rising lt := by rw [rising_vs, hvt]; exact rising_drop (by rw [← rising_vs]; exact hrc) _
      rw [hlt] at hb3
      have eL : lastV lt = lastV lc := by rw [last_vs, hvt, last_vs, last_trim]
      have eC : ∀ d', d ≤ d' → cleanV lt d' = cleanV lc d' := fun d' h => by rw [clean_vs, hvt, clean_vs, clean_trim _ _ _ h]
      have eD : ∀ d', dirtyV lt d' = dirtyV lc d' := fun d' => by rw [dirty_vs, hvt, dirty_vs, dirty_trim]
      have eT : trimN lt d = 0 := by rw [trim_vs, hvt, trim_trim]
      have hc3 : BlockAt w3 (w.heap.size + 2) (w.heap.size + 2) slc lc := by
        refine hT.c.keeps hk3 (by simp) ?_ ?_
        · intro j hj hm
          exact own_blk_ne hT.c.own hT.b.blk (by decide) j hj (by simpa using hm)
        · intro y hy j hj hm
          exact own_blk_ne (hT.c.data y hy) hT.b.blk (by decide) j hj (by simpa using hm)
      have hbox3 : Blk w3 w.heap.size 37 #[.int .u64 m0, .int .u64 m1] := hbox.keeps hk3 (by simp)
      have hbl3 : Below w.heap.size w w3 := hb.trans (hk3.below (by omega) (by simp))
      have y1 := hbox3.cell 1
      have hyl := hbox3.lt
      simp only [List.getElem?_toArray, List.getElem?_cons_zero, List.getElem?_cons_succ] at y1
      have EC := Lib.hid eC
      have ED := Lib.hid eD
      have HVT := Lib.hid hvt
      clear hlt eC eD hvt hvbc hcl
      go_wp2_with fail
      refine (Last_any _ _ _ _ _ hb3 hst).mono ?_
      rintro e w4 ⟨⟨A4, c4, rfl, ho4⟩, hb4⟩
      have hc4 := hc3.below hb4
      go_wp2_with fail
      refine (Last_any _ _ _ _ _ hc4 hsc).mono ?_
      rintro e w5 ⟨⟨A5, c5, rfl, ho5⟩, hb5⟩
      have hr4 := (Rd.of_own ho4).below_ hb5
      have hB5 := hbl3.trans ((hb4.trans (hb5.mono hb4.size)).mono hbl3.size)
      have hb5b := (hb3.below hb4).below hb5
      have hc5 := hc4.below hb5
      go_wp2_with fail
      refine (verSame_any _ _ _ _ _ _ _ hr4 (Rd.of_own ho5)).mono ?_
      rintro e w6 ⟨rfl, hb6⟩
      have e6 : decide (atV lt ((lt.length : Int) - 1) = atV lc ((lc.length : Int) - 1)) = true := decide_eq_true eL
      rw [e6]
      have hb6b := hb5b.below hb6
      have hc6 := hc5.below hb6
      have hB6 := hB5.trans (hb6.mono hB5.size)
      clear eL e6
      go_wp2_with fail
      refine (Clean_any _ _ _ _ d _ hb6b hst hrt).mono ?_
      rintro e w7 ⟨⟨A7, c7, rfl, ho7⟩, hb7⟩
      have hc7 := hc6.below hb7
      go_wp2_with fail
      refine (Clean_any _ _ _ _ d _ hc7 hsc hrc).mono ?_
      rintro e w8 ⟨⟨A8, c8, rfl, ho8⟩, hb8⟩
      have hr7 := (Rd.of_own ho7).below_ hb8
      have hb8b := (hb6b.below hb7).below hb8
      have hc8 := hc7.below hb8
      have hB8 := hB6.trans ((hb7.trans (hb8.mono hb7.size)).mono hB6.size)
      go_wp2_with fail
      refine (verSame_any _ _ _ _ _ _ _ hr7 (Rd.of_own ho8)).mono ?_
      rintro e w9 ⟨rfl, hb9⟩
      have e9 : decide (cleanV lt d = cleanV lc d) = true := decide_eq_true (EC.out d (by omega))
      rw [e9]
      have hb9b := hb8b.below hb9
      have hc9 := hc8.below hb9
      have hB9 := hB8.trans (hb9.mono hB8.size)
      clear e9
      go_wp2_with fail
      refine (Dirty_any _ _ _ _ d _ hb9b hst).mono ?_
      rintro e w0 ⟨rfl, rfl⟩
      go_wp2_with fail
      refine (Dirty_any _ _ _ _ d _ hc9 hsc).mono ?_
      rintro e w0 ⟨rfl, rfl⟩
      rw [ED.out d]
      have ht1 : (dirtyV lc d != dirtyV lc d) = false := by simp
      go_wp2_with fail
      refine (Clean_any _ _ _ _ (d + q) _ hb9b hst hrt).mono ?_
      rintro e w10 ⟨⟨A10, c10, rfl, ho10⟩, hb10⟩
      have hc10 := hc9.below hb10
      go_wp2_with fail
      refine (Clean_any _ _ _ _ (d + q) _ hc10 hsc hrc).mono ?_
      rintro e w11 ⟨⟨A11, c11, rfl, ho11⟩, hb11⟩
      have hr10 := (Rd.of_own ho10).below_ hb11
      have hb11b := (hb9b.below hb10).below hb11
      have hc11 := hc10.below hb11
      have hB11 := hB9.trans ((hb10.trans (hb11.mono hb10.size)).mono hB9.size)
      go_wp2_with fail
      refine (verSame_any _ _ _ _ _ _ _ hr10 (Rd.of_own ho11)).mono ?_
      rintro e w12 ⟨rfl, hb12⟩
      have e12 : decide (cleanV lt (d + q) = cleanV lc (d + q)) = true := decide_eq_true (EC.out (d + q) (by omega))
      rw [e12]
      have hb12b := hb11b.below hb12
      have hc12 := hc11.below hb12
      have hB12 := hB11.trans (hb12.mono hB11.size)
      clear e12
      go_wp2_with fail
      refine (Dirty_any _ _ _ _ (d + q) _ hb12b hst).mono ?_
      rintro e w0 ⟨rfl, rfl⟩
      go_wp2_with fail
      refine (Dirty_any _ _ _ _ (d + q) _ hc12 hsc).mono ?_
      rintro e w0 ⟨rfl, rfl⟩
      rw [ED.out (d + q)]
      go_wp2_with fail
      refine (Trim_any _ _ _ _ d _ hb12b hst hrt (by have := hB12.size; have := hT.c.blk.lt; have := hb12b.blk.lt; omega)).mono ?_
      rintro e w13 ⟨rfl, slb'', hb13, hk13, hor13⟩
      rw [eT]
      have hB13 : Below w.heap.size w w13 := hB12.trans (hk13.below hB12.size (by simp))
      go_wp2_with fail
      refine (awake15 _).mono ?_
      rintro e w14 ⟨rfl, hb14⟩
      go_wp2_with fail
      go_ret
      exact ⟨rfl, hB13.trans (hb14.mono hB13.size)⟩
end Go.Proofs.Ytgdmejkneabclaa
