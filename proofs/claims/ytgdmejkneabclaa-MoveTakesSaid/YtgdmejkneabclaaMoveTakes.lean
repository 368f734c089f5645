/- The walk of MoveTakes. -/
import Derived.Test.YtgdmejkneabclaaMoveAll
namespace Go.Proofs.Ytgdmejkneabclaa
open Go.RowKit
set_option linter.unusedSimpArgs false
set_option linter.unusedVariables false

/-- A part that comes. -/
structure MP where
  at_ : Int
  i : Int
  parts : Int
  x : PC
def noMP : MP := ⟨0, 0, 0, noPC⟩
def MP.arr (p : MP) : Array Value := #[.int .u64 p.at_, .int .i64 p.i, .int .i64 p.parts, .slice p.x.A p.x.bs.length p.x.c]
def MPsAt (w : World) (A : Option Addr) (n : Nat) (l : List MP) : Prop :=
  l.length = n ∧ n ≤ 9223372036854775807 ∧ (0 < n → ∃ b o, A = some ⟨b, o, none⟩ ∧ ∀ i j, i < n → j < 4 → w.cell? ⟨b, o + i * 4 + j, none⟩ = (l.getD i noMP).arr[j]?) ∧ ∀ p ∈ l, Rd w p.x.A p.x.bs.length p.x.bs ∧ p.x.bs.length ≤ p.x.c

/-- What is taken in, by the program and by the document, alike. -/
structure MTAt (w wr : World) (sl : Value) (s : InS) (A0 : Option Addr) (c0 : Nat) (l : List PC) (k : Nat) : Prop where
  inn : InAt wr w.heap.size w.heap.size sl s
  var : Blk wr (w.heap.size + 1) 55 #[.int .u64 s.at_, .int .i64 s.parts, .slice A0 s.next c0]
  row : wr.ownsRow w.heap.size 23 1 (.slice A0 s.next c0) s.next (l.map PC.val)
  cat_ : s.b = cat l
  srcs : PSrcs w l
  below : Below w.heap.size w wr
  small : s.next ≤ k ∧ s.b.length ≤ 1024 * k
section
variable {w wr W : World} {sl : Value} {s : InS} {A0 : Option Addr} {c0 : Nat} {l : List PC} {k : Nat}
theorem MTAt.below_ (h : MTAt w wr sl s A0 c0 l k) (hb : Below wr.heap.size wr W) : MTAt w W sl s A0 c0 l k :=
  ⟨h.inn.below hb, h.var.below hb h.var.lt, own_below h.row hb (own_lt h.row), h.cat_, h.srcs, h.below.trans (hb.mono h.below.size), h.small⟩
end

theorem rd_ne_var {w : World} {A A0 : Option Addr} {n n0 c0 g : Nat} {xs : List UInt8} {a p : Int} (h : Rd w A n xs) (hv : Blk w g 55 #[.int .u64 a, .int .i64 p, .slice A0 n0 c0]) : 0 < n → ∀ ad, A = some ad → ad.block ∉ [g] := by
  intro h0 ad e hm
  obtain ⟨b, o, e', hc⟩ := h.2.2 h0
  rw [e] at e'
  injection e' with e'
  subst e'
  have hb : b = g := by simpa using hm
  have h1 := hc 0 h0
  rw [hb, hv.cell] at h1
  rcases o with _ | _ | _ | o <;> simp at h1

set_option maxRecDepth 100000 in
set_option maxHeartbeats 2000000 in
theorem MoveTakes_walk (A : Option Addr) (n c : Nat) (ps : List MP) (w : World) (ha : MPsAt w A n ps) :
    Calls Try.prog 6 #[.slice A n c] w fun e w' => e = .returned (.bool true) ∧ Below w.heap.size w w' := by
  have hn := ha.2.1
  go_enter Try.func6, Try.ntmps6
  go_wp2_with fail
  refine (inBegin_any w).mono ?_
  rintro e w1 ⟨rfl, hI, hb1, hs1⟩
  have hb2 : Below w1.heap.size w1 (w1.alloc (.cells #[.int .u64 0, .int .i64 0, .slice none 0 0] 55)) := (Below.refl _ _).alloc (Nat.le_refl _) _
  have hv2 := Blk.new w1 55 #[.int .u64 0, .int .i64 0, .slice none 0 0]
  rw [hs1] at hv2
  have hM0 : MTAt w (w1.alloc (.cells #[.int .u64 0, .int .i64 0, .slice none 0 0] 55)) (.slice none 0 0) (InS.new 0) none 0 [] 0 :=
    ⟨hI.below hb2, hv2, World.ownsRow_nil _ _ _ _, rfl, fun y hy => by simp at hy, hb1.trans (hb2.mono hb1.size), Nat.le_refl _, Nat.zero_le _⟩
  have HS1 := Lib.hid hs1
  clear hv2 hb2 hI hb1
  go_wp2_with fail
  clear hs1
  go_loopw [5] (fun i wr => ∃ (k : Nat) (sl : Value) (s : InS) (A0 : Option Addr) (c0 : Nat) (l : List PC), k ≤ n ∧ k ≤ 60 ∧ i = .int .i64 (k : Int) ∧ MTAt w wr sl s A0 c0 l k) (fun i _ => n - (intOf i).toNat)
  case atStart => exact ⟨0, _, _, _, _, _, Nat.zero_le _, by omega, rfl, hM0⟩
  case round =>
    obtain ⟨k, sl, s, A0, c0, l, hk, hk60, rfl, hM⟩ := hrel
    have hb := hM.below
    by_cases hlt : k < n ∧ k < 60
    · obtain ⟨hl1, hl2⟩ := hlt
      obtain ⟨bb, o, rfl, hc⟩ := ha.2.2.1 (by omega)
      obtain ⟨p, hpk⟩ : ∃ p, p = ps.getD k noMP := ⟨_, rfl⟩
      have hpm : p ∈ ps := by rw [hpk, List.getD_eq_getElem?_getD, List.getElem?_eq_getElem (by rw [ha.1]; exact hl1)]; exact List.getElem_mem _
      obtain ⟨hrd, wf1⟩ := ha.2.2.2 p hpm
      have cell : ∀ j, j < 4 → wr.cell? ⟨bb, o + k * 4 + j, none⟩ = p.arr[j]? := fun j hj => by
        have h1 := hc k j hl1 hj
        rw [← hpk] at h1
        have h2 : (p.arr[j]?).isSome := by simp [MP.arr]; omega
        obtain ⟨u, hu⟩ := Option.isSome_iff_exists.1 h2
        rw [hu] at h1 ⊢
        exact (hb.cell (block_lt_of_cell h1)).trans h1
      have q0 := cell 0 (by omega)
      have q1 := cell 1 (by omega)
      have q2 := cell 2 (by omega)
      have q3 := cell 3 (by omega)
      simp only [MP.arr, List.getElem?_toArray, List.getElem?_cons_zero, List.getElem?_cons_succ, Nat.add_zero] at q0 q1 q2 q3
      have hgl := block_lt_of_cell q0
      obtain ⟨at_, pi, parts, x⟩ := p
      simp only at q0 q1 q2 q3 wf1 hrd
      clear cell hc hpk hpm
      have hbs := hb.size
      by_cases hlong : 1100 < x.bs.length
      · have hover : (1100 < (x.bs.length : Int)) := by omega
        go_wp2_with fail
        refine (awake21 _).mono ?_
        rintro e w9 ⟨rfl, hb9⟩
        go_wp2_with fail
        go_ret
        exact ⟨rfl, (hb.alloc hb.size _).trans (hb9.mono (by simp; omega))⟩
      have hover : ¬ (1100 < (x.bs.length : Int)) := by omega
      have hX : Below wr.heap.size wr (wr.alloc (.cells #[.int .u64 at_, .int .i64 pi, .int .i64 parts, .slice x.A x.bs.length x.c] 57)) := (Below.refl _ _).alloc (Nat.le_refl _) _
      have hop := Blk.new wr 57 #[.int .u64 at_, .int .i64 pi, .int .i64 parts, .slice x.A x.bs.length x.c]
      clear hlong
      go_wp2_with fail
      generalize (wr.alloc (.cells #[.int .u64 at_, .int .i64 pi, .int .i64 parts, .slice x.A x.bs.length x.c] 57)) = X at hX hop ⊢
      have hMX := hM.below_ hX
      have hrX := (hrd.below_ hb).below_ hX
      have hgI := hM.inn.blk.lt
      have hsX := hX.size
      have hlX := hrd.lt
      refine (Take_all w.heap.size w.heap.size sl s at_ pi parts x.A x.bs.length x.c x.bs X hMX.inn (by omega) ⟨by have := hMX.small; omega, by have := hMX.small; omega⟩ hrX wf1 (by omega) (fun h0 ad e => by have := hlX h0 ad e; omega)).mono ?_
      rintro e w3 ⟨⟨Ab, cb, sl3, rfl, hrT, hI3⟩, hk3⟩
      have hne : ∀ {g : Nat} {e : TypeId} {cs : Array Value}, Blk X g e cs → e ≠ 99 → e ≠ 5 → g ∉ w.heap.size :: sl.ownBlock.toList := by
        intro g e cs hg h1 h2 hm
        rcases List.mem_cons.1 hm with rfl | hm
        · exact Blk.ne_ hg hMX.inn.blk h1 rfl
        · exact own_blk_ne hMX.inn.own hg (fun e => h2 e.symm) g (by simpa using hm) rfl
      have hv3 := hMX.var.keeps hk3 (hne hMX.var (by decide) (by decide))
      have hop3 := hop.keeps hk3 (hne hop (by decide) (by decide))
      have hrow3 := own_keeps hMX.row hk3 fun j hj hm => by
        rcases List.mem_cons.1 hm with rfl | hm
        · exact own_blk_ne hMX.row hMX.inn.blk (by decide) _ hj rfl
        · exact own_own_ne hMX.row hMX.inn.own (by decide) _ hj (by simpa using hm)
      have hb3 : Below w.heap.size w w3 := hMX.below.trans (hk3.below hMX.below.size fun j hj => by
        rcases List.mem_cons.1 hj with rfl | hj
        · exact Nat.le_refl _
        · exact own_ge hMX.inn.own j (by simpa using hj))
      have hsm := stepS_small s at_ pi parts x.bs k hM.small
      obtain ⟨S, hS⟩ : ∃ z, stepS s at_ pi parts x.bs = z := ⟨_, rfl⟩
      obtain ⟨T, hT⟩ : ∃ z, toldS s at_ pi parts x.bs = z := ⟨_, rfl⟩
      obtain ⟨ok, hok⟩ : ∃ z, okS s at_ pi parts x.bs = z := ⟨_, rfl⟩
      rw [hS] at hI3 hsm
      rw [hT] at hrT ⊢
      rw [hok]
      have HS := Lib.hid hS; have HT := Lib.hid hT; have HOK := Lib.hid hok
      have hs3 := hk3.size
      have hcat := hM.cat_
      have hsrc := hM.srcs
      have hss := hM.small.1
      have HC := Lib.hid hcat
      clear hS hT hok hne hk3 hMX hM hrX q0 q1 q2 q3 hcat
      have o0 := hop3.cell 0
      have o1 := hop3.cell 1
      have o2 := hop3.cell 2
      have o3 := hop3.cell 3
      have ol := hop3.lt
      have v0 := hv3.cell 0
      have v1 := hv3.cell 1
      have v2 := hv3.cell 2
      have vl := hv3.lt
      simp only [List.getElem?_toArray, List.getElem?_cons_zero, List.getElem?_cons_succ] at o0 o1 o2 o3 v0 v1 v2
      go_wp2_with fail
      clear o0 o1 o2 o3 ol v0 v1 v2 vl
      refine (refTake_all w.heap.size A0 c0 s l at_ pi parts x w3 hrow3 hb3.size HC.out (hsrc.below_ hb3) (by omega) ⟨hrd.below_ hb3, wf1⟩ (by omega)).mono ?_
      rintro e w4 ⟨⟨A4, c4, At, ct, l4, rfl, hrow4, hrT4, hcat4, hl4⟩, hb4⟩
      rw [HS.out] at hrow4 hcat4 ⊢
      rw [HT.out] at hrT4 ⊢
      rw [HOK.out]
      have hI4 := hI3.below hb4
      have hv4 := hv3.below hb4 hv3.lt
      have hrT4' := hrT.below_ hb4
      have hB4 := hb3.trans (hb4.mono hb3.size)
      have hsrc4 : PSrcs w l4 := fun y hy => by
        rcases hl4 y hy with h | ⟨rfl, h⟩
        · exact hsrc y h
        · exact ⟨hrd, wf1, h⟩
      have HC4 := Lib.hid hcat4
      clear hcat4 hl4 hrow3 hv3 hop3 hI3 hrT hb4 hb3 hop hX
      have v0 := hv4.cell 0
      have v1 := hv4.cell 1
      have v2 := hv4.cell 2
      have vz := hv4.frozen
      have vl := hv4.lt
      simp only [List.getElem?_toArray, List.getElem?_cons_zero, List.getElem?_cons_succ] at v0 v1 v2
      simp only [RV]
      go_wp2_with fail
      have hM5 : MTAt w ((((w4.setCell ⟨w.heap.size + 1, 0, none⟩ (.int .u64 S.at_)).setCell ⟨w.heap.size + 1, 1, none⟩ (.int .i64 S.parts)).setCell ⟨w.heap.size + 1, 2, none⟩ (.slice A4 S.next c4)).alloc (.cells #[.int .u64 S.at_, .int .i64 S.parts, .slice A4 S.next c4] 55)) sl3 S A4 c4 l4 (k + 1) := by
        have hk5 := ((((Keeps.refl [w.heap.size + 1] w4).setCell (p := ⟨w.heap.size + 1, 0, none⟩) (.inl (by simp)) (.int .u64 S.at_)).setCell (p := ⟨w.heap.size + 1, 1, none⟩) (.inl (by simp)) (.int .i64 S.parts)).setCell (p := ⟨w.heap.size + 1, 2, none⟩) (.inl (by simp)) (.slice A4 S.next c4)).alloc (.cells #[.int .u64 S.at_, .int .i64 S.parts, .slice A4 S.next c4] 55)
        exact ⟨hI4.keeps hk5 (by simp) fun j hj hm => own_blk_ne hI4.own hv4 (by decide) j hj (by simpa using hm), (((hv4.set_ 0 _).set_ 1 _).set_ 2 _).alloc _, own_keeps hrow4 hk5 fun j hj hm => own_blk_ne hrow4 hv4 (by decide) j hj (by simpa using hm), HC4.out, hsrc4, hB4.trans (hk5.below hB4.size (by simp)), hsm⟩
      have hRd5 : Rd ((((w4.setCell ⟨w.heap.size + 1, 0, none⟩ (.int .u64 S.at_)).setCell ⟨w.heap.size + 1, 1, none⟩ (.int .i64 S.parts)).setCell ⟨w.heap.size + 1, 2, none⟩ (.slice A4 S.next c4)).alloc (.cells #[.int .u64 S.at_, .int .i64 S.parts, .slice A4 S.next c4] 55)) Ab T.length T ∧ Rd ((((w4.setCell ⟨w.heap.size + 1, 0, none⟩ (.int .u64 S.at_)).setCell ⟨w.heap.size + 1, 1, none⟩ (.int .i64 S.parts)).setCell ⟨w.heap.size + 1, 2, none⟩ (.slice A4 S.next c4)).alloc (.cells #[.int .u64 S.at_, .int .i64 S.parts, .slice A4 S.next c4] 55)) At T.length T := by
        have hk5 := ((((Keeps.refl [w.heap.size + 1] w4).setCell (p := ⟨w.heap.size + 1, 0, none⟩) (.inl (by simp)) (.int .u64 S.at_)).setCell (p := ⟨w.heap.size + 1, 1, none⟩) (.inl (by simp)) (.int .i64 S.parts)).setCell (p := ⟨w.heap.size + 1, 2, none⟩) (.inl (by simp)) (.slice A4 S.next c4)).alloc (.cells #[.int .u64 S.at_, .int .i64 S.parts, .slice A4 S.next c4] 55)
        exact ⟨hrT4'.keeps hk5 (rd_ne_var hrT4' hv4), hrT4.keeps hk5 (rd_ne_var hrT4 hv4)⟩
      clear hI4 hv4 hrow4 hsrc4 hB4 hrT4 hrT4' v0 v1 v2 vz vl HC4 HC
      generalize ((((w4.setCell ⟨w.heap.size + 1, 0, none⟩ (.int .u64 S.at_)).setCell ⟨w.heap.size + 1, 1, none⟩ (.int .i64 S.parts)).setCell ⟨w.heap.size + 1, 2, none⟩ (.slice A4 S.next c4)).alloc (.cells #[.int .u64 S.at_, .int .i64 S.parts, .slice A4 S.next c4] 55)) = W5 at hM5 hRd5 ⊢
      refine (inWants_any w.heap.size w.heap.size sl3 S W5 hM5.inn).mono ?_
      rintro e w6 ⟨rfl, n6, rfl⟩
      have hM6 := hM5.below_ (below_drewN (Below.refl _ W5) n6)
      have hRd6 : Rd (W5.drewN n6) Ab T.length T ∧ Rd (W5.drewN n6) At T.length T := hRd5
      clear hM5 hRd5
      have hlen : l4.length = S.next := by simpa using hM6.row.1
      have HLN := Lib.hid hlen
      have tok : (ok != ok) = false := by simp
      have tat : (S.at_ != S.at_) = false := by simp
      have tnx : ((S.next : Int) != (S.next : Int)) = false := by simp
      have thl : ((S.b.length : Int) != (S.b.length : Int)) = false := by simp
      clear hlen
      go_wp2_with fail
      have cf : ∀ W, Keeps [] (W5.drewN n6).drew W → W.cell? ⟨w.heap.size + 1, 0, none⟩ = some (.int .u64 S.at_) ∧ W.cell? ⟨w.heap.size + 1, 2, none⟩ = some (.slice A4 S.next c4) := fun W hk =>
        ⟨(hk.cell (p := ⟨w.heap.size + 1, 0, none⟩) hM6.var.lt (by simp)).trans (hM6.var.cell 0), (hk.cell (p := ⟨w.heap.size + 1, 2, none⟩) hM6.var.lt (by simp)).trans (hM6.var.cell 2)⟩
      refine wp_region_calls 31 [(2, .known (.bool true)), (24, .known (.int .i64 S.b.length)), (27, .some_ fun v W => ∃ A' c', v = .slice A' S.b.length c')] (by kernel_rfl) (by kernel_rfl) rfl ⟨trivial, trivial, fun v W1 W2 hk hφ => hφ, trivial⟩ ?_
      simp only [List.take_succ_cons, List.take_zero, List.drop_succ_cons, List.drop_zero]
      iterate 2 refine dep_reckons rfl (by kernel_rfl) (fun W hG hF => by go_simp <;> rfl) (by simp only [Act.put, List.setIfInBounds_toArray, List.set_cons_zero, List.set_cons_succ]; rfl) ?_
      refine dep_known (c := .bool true) rfl (by kernel_rfl) (fun W hG hF => ?_) (by simp only [Act.put, List.setIfInBounds_toArray, List.set_cons_zero, List.set_cons_succ]; rfl) ?_
      · unfold opGives
        go_simp
        have bw := (keeps_drew hG).nil_below
        refine (Same_any Ab At T.length T.length cb ct T T W (hRd6.1.below_ bw) (hRd6.2.below_ bw)).mono ?_
        rintro e w2 ⟨rfl, n2, rfl⟩
        exact ⟨_, rfl, by rw [decide_eq_true rfl], (Keeps.refl [] W).drewN n2⟩
      iterate 9 refine dep_reckons rfl (by kernel_rfl) (fun W hG hF => by go_simp <;> rfl) (by simp only [Act.put, List.setIfInBounds_toArray, List.set_cons_zero, List.set_cons_succ]; rfl) ?_
      refine dep_reckons rfl (by kernel_rfl) (fun W hG hF => by have hcf := cf W hG; go_simp <;> rfl) (by simp only [Act.put, List.setIfInBounds_toArray, List.set_cons_zero, List.set_cons_succ]; rfl) ?_
      iterate 5 refine dep_reckons rfl (by kernel_rfl) (fun W hG hF => by go_simp <;> rfl) (by simp only [Act.put, List.setIfInBounds_toArray, List.set_cons_zero, List.set_cons_succ]; rfl) ?_
      refine dep_reckons rfl (by kernel_rfl) (fun W hG hF => by have hcf := cf W hG; go_simp <;> rfl) (by simp only [Act.put, List.setIfInBounds_toArray, List.set_cons_zero, List.set_cons_succ]; rfl) ?_
      iterate 5 refine dep_reckons rfl (by kernel_rfl) (fun W hG hF => by go_simp <;> rfl) (by simp only [Act.put, List.setIfInBounds_toArray, List.set_cons_zero, List.set_cons_succ]; rfl) ?_
      refine dep_known (c := .int .i64 S.b.length) rfl (by kernel_rfl) (fun W hG hF => ?_) (by simp only [Act.put, List.setIfInBounds_toArray, List.set_cons_zero, List.set_cons_succ]; rfl) ?_
      · unfold opGives
        go_simp
        have bw := (keeps_drew hG).nil_below
        refine (inHeld_any w.heap.size w.heap.size sl3 S W (hM6.below_ bw).inn (by omega)).mono ?_
        rintro e w2 ⟨rfl, rfl⟩
        exact ⟨_, rfl, rfl, Keeps.refl [] W⟩
      refine dep_reckons rfl (by kernel_rfl) (fun W hG hF => by go_simp <;> rfl) (by simp only [Act.put, List.setIfInBounds_toArray, List.set_cons_zero, List.set_cons_succ]; rfl) ?_
      refine dep_reckons rfl (by kernel_rfl) (fun W hG hF => by have hcf := cf W hG; go_simp <;> rfl) (by simp only [Act.put, List.setIfInBounds_toArray, List.set_cons_zero, List.set_cons_succ]; rfl) ?_
      refine dep_some rfl (by kernel_rfl) (fun W hG hF => ?_) (fun v27 => ?_)
      · unfold opGives
        go_simp
        have bw := (keeps_drew hG).nil_below
        have hMW := hM6.below_ bw
        refine (refAll_any w.heap.size A4 S.next c4 l4 W hMW.row (hMW.srcs.below_ hMW.below) (by omega)).mono ?_
        rintro e w2 ⟨⟨A', c', rfl, _⟩, hb2⟩
        exact ⟨_, rfl, ⟨A', c', by rw [hMW.cat_]⟩, Keeps.of_below hb2 []⟩
      simp only [Act.put, List.setIfInBounds_toArray, List.set_cons_zero, List.set_cons_succ]
      refine dep_reckons (c := .int .i64 S.b.length) rfl (by kernel_rfl) (fun W hG hF => by obtain ⟨A', c', rfl⟩ := hF _ List.mem_cons_self (by kernel_rfl); go_simp) (by simp only [Act.put, List.setIfInBounds_toArray, List.set_cons_zero, List.set_cons_succ]; rfl) ?_
      iterate 2 refine dep_reckons rfl (by kernel_rfl) (fun W hG hF => by go_simp <;> rfl) (by simp only [Act.put, List.setIfInBounds_toArray, List.set_cons_zero, List.set_cons_succ]; rfl) ?_
      refine dep_nil fun W hG hF => ?_
      replace hM6 := hM6.below_ (keeps_drew hG).nil_below
      clear hF hG cf hRd6
      go_wp2_with fail
      exact ⟨⟨k + 1, sl3, S, A4, c4, l4, by omega, by omega, rfl, hM6⟩, by simp [intOf]; omega⟩
    · have hex : ¬ (k < n) ∨ ¬ (k < 60) := by omega
      clear hM
      rcases Nat.lt_or_ge k n with h1 | h1
      · obtain rfl : k = 60 := by omega
        go_wp2_with fail
        refine (awake21 _).mono ?_
        rintro e w9 ⟨rfl, hb9⟩
        go_wp2_with fail
        go_ret
        exact ⟨rfl, hb.trans (hb9.mono hb.size)⟩
      · obtain rfl : k = n := by omega
        go_wp2_with fail
        refine (awake21 _).mono ?_
        rintro e w9 ⟨rfl, hb9⟩
        go_wp2_with fail
        go_ret
        exact ⟨rfl, hb.trans (hb9.mono hb.size)⟩
end Go.Proofs.Ytgdmejkneabclaa
