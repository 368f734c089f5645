/- The walk of VersPlays. -/
import Derived.Test.YtgdmejkneabclaaLike15
namespace Go.Proofs.Ytgdmejkneabclaa
open Go.RowKit
set_option linter.unusedSimpArgs false
set_option linter.unusedVariables false

/-- A call of the law's list. -/
structure POp where
  kind : Int
  x : VC
  ver : Int
  done : Int
def POp.arr (o : POp) : Array Value := #[.int .i64 o.kind, .int .u64 o.x.v.ver, .int .u64 o.x.v.seq, .slice o.x.A o.x.v.data.length o.x.c, .int .u64 o.ver, .int .u64 o.done]
def POp.wf (o : POp) : Prop := o.x.v.data.length ≤ o.x.c ∧ o.x.c ≤ maxLen ∧ (0 ≤ o.x.v.ver ∧ o.x.v.ver ≤ 18446744073709551615) ∧ (0 ≤ o.x.v.seq ∧ o.x.v.seq ≤ 18446744073709551615) ∧ (0 ≤ o.done ∧ o.done ≤ 18446744073709551615) ∧ (0 ≤ o.ver ∧ o.ver ≤ 18446744073709551615)
def noOp : POp := ⟨0, noVC, 0, 0⟩
/-- The law's list in memory. -/
def OpsAt (w : World) (A : Option Addr) (n : Nat) (l : List POp) : Prop :=
  l.length = n ∧ n ≤ 9223372036854775807 ∧ (0 < n → ∃ b o, A = some ⟨b, o, none⟩ ∧ ∀ i j, i < n → j < 6 → w.cell? ⟨b, o + i * 6 + j, none⟩ = (l.getD i noOp).arr[j]?) ∧ ∀ p ∈ l, POp.wf p ∧ Rd w p.x.A p.x.v.data.length p.x.v.data

/-- What is told lies in new memory. -/
def ToldV (B : Nat) (V : Ver) (v : Value) (W : World) : Prop := ∃ A c, v = .agg #[.int .u64 V.ver, .int .u64 V.seq, .slice A V.data.length c] ∧ W.ownsRow B 5 1 (.slice A V.data.length c) V.data.length (V.data.map bv)
theorem toldV_keeps {B : Nat} {V : Ver} {v : Value} {W W' : World} (h : ToldV B V v W) (hk : Keeps [] W W') : ToldV B V v W' := by
  obtain ⟨A, c, h1, h2⟩ := h
  exact ⟨A, c, h1, own_keeps h2 hk (by simp)⟩
theorem RowAt.rebase {w : World} {B B' : Nat} {sl : Value} {l : List VC} (h : RowAt w B sl l) (hb : B' ≤ B) : RowAt w B' sl l :=
  ⟨own_rebase h.own fun k hk => Nat.le_trans hb (own_ge h.own k hk), fun x hx => own_rebase (h.data x hx) fun k hk => Nat.le_trans hb (own_ge (h.data x hx) k hk)⟩

/-- One of the document's versions, or none. -/
def RefTold (l : List VC) (V : Ver) (v : Value) : Prop := ∃ xp, (xp ∈ l ∨ xp = noVC) ∧ xp.v = V ∧ v = xp.agg

/-- The program's block and the document's versions, alike. -/
structure PlayAt (w wr : World) (sr slb : Value) (lb lr : List VC) (k : Nat) : Prop where
  b : BlockAt wr w.heap.size w.heap.size slb lb
  r : RefAt wr w.heap.size sr lr
  eq : vs lb = vs lr
  short : Short lb
  len : lb.length ≤ k
  rising : Rising lb
  pos : Pos lb
  srcs : Srcs w lr
  below : Below w.heap.size w wr
  k40 : k ≤ 41
section
variable {w wr W : World} {sr slb : Value} {lb lr : List VC} {k : Nat}
theorem PlayAt.below_ (h : PlayAt w wr sr slb lb lr k) (hb : Below wr.heap.size wr W) : PlayAt w W sr slb lb lr k :=
  ⟨h.b.below hb, own_below h.r hb (own_lt h.r), h.eq, h.short, h.len, h.rising, h.pos, h.srcs, h.below.trans (hb.mono h.below.size), h.k40⟩
theorem PlayAt.len_eq (h : PlayAt w wr sr slb lb lr k) : lb.length = lr.length := by have := congrArg List.length h.eq; simpa using this
theorem PlayAt.small (h : PlayAt w wr sr slb lb lr k) : lr.length ≤ 1000 := by have := h.len_eq; have := h.len; have := h.k40; omega
theorem PlayAt.rising' (h : PlayAt w wr sr slb lb lr k) : Rising lr := by rw [rising_vs, ← h.eq, ← rising_vs]; exact h.rising
theorem PlayAt.pos' (h : PlayAt w wr sr slb lb lr k) : Pos lr := by
  intro x hx
  have : x.v ∈ vs lb := by rw [h.eq]; exact List.mem_map_of_mem hx
  obtain ⟨y, hy, e⟩ := List.mem_map.1 this
  rw [← e]
  exact h.pos y hy
theorem PlayAt.srcs' (h : PlayAt w wr sr slb lb lr k) : Srcs wr lr := h.srcs.below_ h.below
end

set_option maxRecDepth 100000 in
set_option maxHeartbeats 2000000 in
theorem VersPlays_walk (A : Option Addr) (n c : Nat) (ops : List POp) (w : World) (ha : OpsAt w A n ops) :
    Calls Try.prog 8 #[.slice A n c] w fun e w' => e = .returned (.bool true) ∧ Below w.heap.size w w' := by
  have hn := ha.2.1
  go_enter Try.func8, Try.ntmps8
  go_wp2_with fail
  refine (verNew_any _).mono ?_
  rintro e w1 ⟨rfl, h1, hb1, hs1⟩
  go_wp2_with fail
  go_loopw [4, 5] (fun sr i wr => ∃ (k : Nat) (slb : Value) (lb lr : List VC), k ≤ n ∧ k ≤ 40 ∧ i = .int .i64 k ∧ PlayAt w wr sr slb lb lr k) (fun _ i _ => n - (intOf i).toNat)
  case atStart => exact ⟨0, _, [], [], Nat.zero_le _, by omega, rfl, h1, World.ownsRow_nil _ _ _ _, rfl, ⟨by simp, by simp⟩, by simp, by rw [rising_vs]; exact rising_nil, by intro x hx; simp at hx, by intro x hx; simp at hx, hb1, by omega⟩
  case round =>
    obtain ⟨k, slb, lb, lr, hk, hk40, rfl, hP⟩ := hrel
    have hb := hP.below
    by_cases hlt : k < n ∧ k < 40
    · obtain ⟨hl1, hl2⟩ := hlt
      obtain ⟨bb, o, rfl, hc⟩ := ha.2.2.1 (by omega)
      obtain ⟨p, hpk⟩ : ∃ p, p = ops.getD k noOp := ⟨_, rfl⟩
      have hpm : p ∈ ops := by rw [hpk, List.getD_eq_getElem?_getD, List.getElem?_eq_getElem (by rw [ha.1]; exact hl1)]; exact List.getElem_mem _
      obtain ⟨⟨wf1, wf2, wf3, wf4, wf5, wf6⟩, hrd⟩ := ha.2.2.2 p hpm
      have cell : ∀ j, j < 6 → wr.cell? ⟨bb, o + k * 6 + j, none⟩ = p.arr[j]? := fun j hj => by
        have h1 := hc k j hl1 hj
        rw [← hpk] at h1
        have h2 : (p.arr[j]?).isSome := by simp [POp.arr]; omega
        obtain ⟨u, hu⟩ := Option.isSome_iff_exists.1 h2
        rw [hu] at h1 ⊢
        exact (hb.cell (block_lt_of_cell h1)).trans h1
      have q0 := cell 0 (by omega)
      have q1 := cell 1 (by omega)
      have q2 := cell 2 (by omega)
      have q3 := cell 3 (by omega)
      have q4 := cell 4 (by omega)
      have q5 := cell 5 (by omega)
      simp only [POp.arr, List.getElem?_toArray, List.getElem?_cons_zero, List.getElem?_cons_succ, Nat.add_zero] at q0 q1 q2 q3 q4 q5
      have hgl := block_lt_of_cell q0
      obtain ⟨kind, x, ver, done⟩ := p
      simp only at q0 q1 q2 q3 q4 q5 wf1 wf2 wf3 wf4 wf5 wf6 hrd
      clear cell hc hpk hpm
      by_cases hlong : 2100 < x.v.data.length
      · have hover : (2100 < (x.v.data.length : Int)) := by omega
        go_wp2_with fail
        refine (awake15 _).mono ?_
        rintro e w9 ⟨rfl, hb9⟩
        go_wp2_with fail
        go_ret
        exact ⟨rfl, (hb.alloc hb.size _).trans (hb9.mono (by simp; have := hb.size; omega))⟩
      have hover : ¬ (2100 < (x.v.data.length : Int)) := by omega
      have hX : ∀ kind, Below wr.heap.size wr (wr.alloc (.cells #[.int .i64 kind, .int .u64 x.v.ver, .int .u64 x.v.seq, .slice x.A x.v.data.length x.c, .int .u64 ver, .int .u64 done] 71)) := fun kind => (Below.refl _ _).alloc (Nat.le_refl _) _
      have hopk := fun kind => Blk.new wr 71 #[.int .i64 kind, .int .u64 x.v.ver, .int .u64 x.v.seq, .slice x.A x.v.data.length x.c, .int .u64 ver, .int .u64 done]
      have hlen0 := hP.len_eq
      have hlk := hP.len
      by_cases hkind : kind = 0
      · subst hkind
        have hopX := hopk 0
        have hX0 := hX 0
        clear hopk hX
        have hpe : putErr lr x.v = putErr lb x.v := by rw [putErr_vs, putErr_vs, hP.eq]
        by_cases hput : putErr lb x.v = 0
        · have HPE := Lib.hid (hpe.trans hput)
          have HPU := Lib.hid hput
          clear hpe hput
          go_wp2_with fail
          generalize (wr.alloc (.cells #[.int .i64 0, .int .u64 x.v.ver, .int .u64 x.v.seq, .slice x.A x.v.data.length x.c, .int .u64 ver, .int .u64 done] 71)) = X0 at hX0 hopX ⊢
          have hP0 := hP.below_ hX0
          refine (refPut_any _ _ lr x _ hP0.r (by omega) wf1 wf2 wf3 wf4.1).mono ?_
          rintro e w2 ⟨⟨so, rfl, hok, herr⟩, hb2⟩
          rw [HPE.out]
          have hso := hok HPE.out
          have hP2 := hP0.below_ hb2
          have hs0 := hX0.size
          have hs2 := hb2.size
          have hbs := hb.size
          clear hok herr
          have hop2 := hopX.below hb2 hopX.lt
          have o0 := hop2.cell 0
          have o1 := hop2.cell 1
          have o2 := hop2.cell 2
          have o3 := hop2.cell 3
          have o4 := hop2.cell 4
          have o5 := hop2.cell 5
          have ol := hop2.lt
          simp only [List.getElem?_toArray, List.getElem?_cons_zero, List.getElem?_cons_succ] at o0 o1 o2 o3 o4 o5
          go_wp2_with fail
          clear o0 o1 o2 o3 o4 o5 ol
          refine (ours15_any x _).mono ?_
          rintro e w3 ⟨rfl, hb3⟩
          have hs3 := hb3.size
          have hP3 := hP2.below_ hb3
          have hso3 : RefAt w3 X0.heap.size so (lr ++ [x]) := own_below hso hb3 (own_lt hso)
          have hop3 := hop2.below hb3 hop2.lt
          have hpz := putErr_zero.1 (show putErrM (vs lb) x.v = 0 by rw [← putErr_vs]; exact HPU.out)
          rw [← last_vs, List.length_map] at hpz
          have hpos1 : 0 < x.v.ver ∧ 0 < x.v.seq := by omega
          simp only [VC.agg]
          go_wp2_with fail
          refine (Put_ok _ _ slb lb x.v x.A x.c w3 hP3.b hP3.short (by omega) (by omega) (hrd.below_ hP3.below) ?_ wf1 (by omega) (by omega) hpz.1 hpz.2.2.2).mono ?_
          · intro h0 ad e hm
            have h1 := hrd.lt h0 ad e
            have h2 := own_ge hP3.b.own ad.block (by simpa using hm)
            omega
          rintro e w4 ⟨rfl, slb', xb, hxb, hb4, hk4, hor4⟩
          have hs4 := hk4.size
          have hgS : ∀ {e : TypeId} {cs : Array Value} {g : Nat}, Blk w3 g e cs → e ≠ 96 → e ≠ 41 → g ∉ w.heap.size :: slb.ownBlock.toList := by
            intro e cs g hg h1 h2 hm
            rcases List.mem_cons.1 hm with rfl | hm
            · exact Blk.ne_ hg hP3.b.blk h1 rfl
            · exact own_blk_ne hP3.b.own hg (fun e => h2 e.symm) g (by simpa using hm) rfl
          have hop4 := hop3.keeps hk4 (hgS hop3 (by decide) (by decide))
          have hso4 : RefAt w4 w.heap.size so (lr ++ [x]) := by
            refine own_rebase (own_keeps hso3 hk4 fun j hj hm => ?_) fun j hj => by have := own_ge hso3 j hj; omega
            rcases List.mem_cons.1 hm with rfl | hm
            · exact own_blk_ne hso3 hP3.b.blk (by decide) _ hj rfl
            · exact own_own_ne hso3 hP3.b.own (by decide) _ hj (by simpa using hm)
          have hbl4 : Below w.heap.size w w4 := hP3.below.trans (hk4.below (by omega) fun j hj => by
            rcases List.mem_cons.1 hj with rfl | hj
            · exact Nat.le_refl _
            · exact own_ge hP3.b.own j (by simpa using hj))
          obtain ⟨LB, hLB⟩ : ∃ z, lb ++ [xb] = z := ⟨_, rfl⟩
          obtain ⟨LR, hLR⟩ : ∃ z, lr ++ [x] = z := ⟨_, rfl⟩
          have hP4 : PlayAt w w4 so slb' LB LR (k + 1) := by
            have hv : vs (lb ++ [xb]) = vs lb ++ [x.v] := by simp [hxb]
            rw [← hLB, ← hLR]
            refine ⟨hb4, hso4, ?_, hP3.short.put (by omega) (by rw [hxb]; omega), by simp; omega, ?_, ?_, ?_, hbl4, by omega⟩
            · rw [hv, hP3.eq]; simp
            · rw [rising_vs, hv]
              refine rising_put (by rw [← rising_vs]; exact hP3.rising) ?_
              rw [List.length_map, ← last_vs]
              exact hpz.2.2.2
            · intro y hy
              rcases List.mem_append.1 hy with hy | hy
              · exact hP3.pos y hy
              · rw [List.mem_singleton.1 hy, hxb]; exact hpos1
            · intro y hy
              rcases List.mem_append.1 hy with hy | hy
              · exact hP3.srcs y hy
              · rw [List.mem_singleton.1 hy]; exact hrd
          clear hP
          have hP := hP4
          have hop := hop4
          obtain ⟨SB, hSB⟩ : ∃ z, slb' = z := ⟨_, rfl⟩
          rw [hSB] at hP
          have hwr := hopX.lt
          clear hP4 hop4 hP3 hP2 hP0 hb4 hso4 hso3 hso hop3 hop2 hopX hbl4 hgS hLB hLR hSB hpz q0 q1 q2 q3 q4 q5 hX0 hb2 hb3 hk4 hor4 hs0 hs2 hs3 hs4 HPE HPU
          obtain ⟨A5, c5, hso, _, _⟩ := own_form hP.r
          subst hso
          have hlen := hP.len_eq
          have tl : ((LB.length : Int) != (LR.length : Int)) = false := by rw [hlen]; simp
          have hsm := hP.small
          obtain ⟨xl, hxl⟩ : ∃ z, atC LR ((LR.length : Int) - 1) = z := ⟨_, rfl⟩
          have hxlm : xl ∈ LR ∨ xl = noVC := by rw [← hxl]; exact atC_mem _ _
          have hxlv : atV LB ((LB.length : Int) - 1) = xl.v := by rw [← hxl, atC_v, at_vs, at_vs, hP.eq, hlen]
          obtain ⟨xc, hxc⟩ : ∃ z, cleanC LR done = z := ⟨_, rfl⟩
          have hxcm : xc ∈ LR ∨ xc = noVC := by rw [← hxc]; exact atC_mem _ _
          have hxcv : cleanV LB done = xc.v := by rw [← hxc, cleanC_v, clean_vs, clean_vs, hP.eq]
          have hdd : dirtyV LR done = dirtyV LB done := by rw [dirty_vs, dirty_vs, hP.eq]
          have hpp : pickV LR ver done = pickV LB ver done := by rw [pick_vs, pick_vs, hP.eq]
          obtain ⟨dd, hdd2⟩ : ∃ z, dirtyV LB done = z := ⟨_, rfl⟩
          have tdd : (dd != dd) = false := by simp
          have HXL := Lib.hid hxl; have HXC := Lib.hid hxc; have HXV := Lib.hid hxlv; have HXCV := Lib.hid hxcv; have HDD := Lib.hid (hdd.trans hdd2); have HDD2 := Lib.hid hdd2; have HPP := Lib.hid hpp
          clear hxl hxc hxlv hxcv hdd hdd2 hpp hlen
          go_wp2_with fail
          have cf : ∀ W, Keeps [] w4.drew W → W.cell? ⟨wr.heap.size, 4, none⟩ = some (.int .u64 ver) ∧ W.cell? ⟨wr.heap.size, 5, none⟩ = some (.int .u64 done) := fun W hk =>
            ⟨(hk.cell (p := ⟨wr.heap.size, 4, none⟩) hop.lt (by simp)).trans (hop.cell 4), (hk.cell (p := ⟨wr.heap.size, 5, none⟩) hop.lt (by simp)).trans (hop.cell 5)⟩
          refine wp_region_calls 32 [(1, .known (.int .i64 LB.length)), (7, .some_ fun v W => ∃ L, RowAt W w4.heap.size v L ∧ vs L = vs LB), (9, .known (.bool true)), (14, .some_ fun v W => ToldV w4.heap.size (atV LB ((LB.length : Int) - 1)) v W), (16, .known xl.agg), (17, .known (.bool true)),
            (24, .some_ fun v W => ToldV w4.heap.size (cleanV LB done) v W), (28, .known xc.agg), (29, .known (.bool true))] (by kernel_rfl) (by kernel_rfl) rfl
            ⟨trivial, fun v W1 W2 hk hφ => by obtain ⟨L, h1, h2⟩ := hφ; exact ⟨L, h1.keeps hk (by simp) (by simp), h2⟩, trivial, fun v W1 W2 hk hφ => toldV_keeps hφ hk, trivial, trivial, fun v W1 W2 hk hφ => toldV_keeps hφ hk, trivial, trivial, trivial⟩ ?_
          simp only [List.take_succ_cons, List.take_zero, List.drop_succ_cons, List.drop_zero]
          refine dep_reckons rfl (by kernel_rfl) (fun W hG hF => by go_simp <;> rfl) (by simp only [Act.put, List.setIfInBounds_toArray, List.set_cons_zero, List.set_cons_succ]; rfl) ?_
          refine dep_known (c := .int .i64 LB.length) rfl (by kernel_rfl) (fun W hG hF => ?_) (by simp only [Act.put, List.setIfInBounds_toArray, List.set_cons_zero, List.set_cons_succ]; rfl) ?_
          · unfold opGives
            go_simp
            have bw := (keeps_drew hG).nil_below
            have hPW := hP.below_ bw
            refine (Len_any _ _ _ LB W hPW.b).mono ?_
            rintro e w2 ⟨rfl, rfl⟩
            exact ⟨_, rfl, rfl, Keeps.refl _ _⟩
          iterate 2 refine dep_reckons rfl (by kernel_rfl) (fun W hG hF => by go_simp <;> rfl) (by simp only [Act.put, List.setIfInBounds_toArray, List.set_cons_zero, List.set_cons_succ]; rfl) ?_
          refine dep_reckons (c := .bool false) rfl (by kernel_rfl) (fun W hG hF => by go_simp) (by simp only [Act.put, List.setIfInBounds_toArray, List.set_cons_zero, List.set_cons_succ]; rfl) ?_
          iterate 2 refine dep_reckons rfl (by kernel_rfl) (fun W hG hF => by go_simp <;> rfl) (by simp only [Act.put, List.setIfInBounds_toArray, List.set_cons_zero, List.set_cons_succ]; rfl) ?_
          refine dep_some rfl (by kernel_rfl) (fun W hG hF => ?_) (fun v7 => ?_)
          · unfold opGives
            go_simp
            have bw := (keeps_drew hG).nil_below
            have hPW := hP.below_ bw
            have hsW := (keeps_drew hG).size
            refine (List_any _ _ _ LB W hPW.b hP.short).mono ?_
            rintro e w2 ⟨⟨so, L, rfl, h1, h2⟩, hb2⟩
            exact ⟨_, rfl, ⟨L, h1.rebase hsW, h2⟩, Keeps.of_below hb2 []⟩
          simp only [Act.put, List.setIfInBounds_toArray, List.set_cons_zero, List.set_cons_succ]
          refine dep_reckons rfl (by kernel_rfl) (fun W hG hF => by go_simp <;> rfl) (by simp only [Act.put, List.setIfInBounds_toArray, List.set_cons_zero, List.set_cons_succ]; rfl) ?_
          refine dep_known (c := .bool true) rfl (by kernel_rfl) (fun W hG hF => ?_) (by simp only [Act.put, List.setIfInBounds_toArray, List.set_cons_zero, List.set_cons_succ]; rfl) ?_
          · obtain ⟨L, h1, h2⟩ := hF _ List.mem_cons_self (by kernel_rfl)
            unfold opGives
            go_simp
            have hPW := hP.below_ (keeps_drew hG).nil_below
            refine (all15_any _ _ _ _ L LR W h1 hPW.r hPW.srcs' (h2.trans hP.eq) hsm).mono ?_
            rintro e w2 ⟨rfl, hb2⟩
            exact ⟨_, rfl, rfl, Keeps.of_below hb2 []⟩
          iterate 4 refine dep_reckons rfl (by kernel_rfl) (fun W hG hF => by go_simp <;> rfl) (by simp only [Act.put, List.setIfInBounds_toArray, List.set_cons_zero, List.set_cons_succ]; rfl) ?_
          refine dep_some rfl (by kernel_rfl) (fun W hG hF => ?_) (fun v14 => ?_)
          · unfold opGives
            go_simp
            have bw := (keeps_drew hG).nil_below
            have hPW := hP.below_ bw
            have hsW := (keeps_drew hG).size
            refine (Last_any _ _ _ LB W hPW.b hP.short).mono ?_
            rintro e w2 ⟨⟨A1, c1, rfl, ho1⟩, hb2⟩
            exact ⟨_, rfl, ⟨A1, c1, rfl, own_rebase ho1 fun j hj => Nat.le_trans hsW (own_ge ho1 j hj)⟩, Keeps.of_below hb2 []⟩
          simp only [Act.put, List.setIfInBounds_toArray, List.set_cons_zero, List.set_cons_succ]
          refine dep_reckons rfl (by kernel_rfl) (fun W hG hF => by go_simp <;> rfl) (by simp only [Act.put, List.setIfInBounds_toArray, List.set_cons_zero, List.set_cons_succ]; rfl) ?_
          refine dep_known (c := xl.agg) rfl (by kernel_rfl) (fun W hG hF => ?_) (by simp only [Act.put, List.setIfInBounds_toArray, List.set_cons_zero, List.set_cons_succ]; rfl) ?_
          · unfold opGives
            go_simp
            have bw := (keeps_drew hG).nil_below
            have hPW := hP.below_ bw
            refine (refLast_any _ _ LR W hPW.r hsm).mono ?_
            rintro e w2 ⟨rfl, hb2⟩
            exact ⟨_, rfl, by rw [HXL.out], Keeps.of_below hb2 []⟩
          refine dep_known (c := .bool true) rfl (by kernel_rfl) (fun W hG hF => ?_) (by simp only [Act.put, List.setIfInBounds_toArray, List.set_cons_zero, List.set_cons_succ]; rfl) ?_
          · obtain ⟨A1, c1, rfl, ho1⟩ := hF _ List.mem_cons_self (by kernel_rfl)
            unfold opGives
            go_simp
            have hPW := hP.below_ (keeps_drew hG).nil_below
            refine (like15_any (atV LB ((LB.length : Int) - 1)) A1 c1 xl W (Rd.of_own ho1) ((hPW.srcs'.or_none hxlm))).mono ?_
            rintro e w2 ⟨rfl, hb2⟩
            exact ⟨_, rfl, by rw [decide_eq_true HXV.out], Keeps.of_below hb2 []⟩
          iterate 5 refine dep_reckons rfl (by kernel_rfl) (fun W hG hF => by go_simp <;> rfl) (by simp only [Act.put, List.setIfInBounds_toArray, List.set_cons_zero, List.set_cons_succ]; rfl) ?_
          refine dep_reckons rfl (by kernel_rfl) (fun W hG hF => by have hcf := cf W hG; go_simp <;> rfl) (by simp only [Act.put, List.setIfInBounds_toArray, List.set_cons_zero, List.set_cons_succ]; rfl) ?_
          refine dep_some rfl (by kernel_rfl) (fun W hG hF => ?_) (fun v24 => ?_)
          · unfold opGives
            go_simp
            have bw := (keeps_drew hG).nil_below
            have hPW := hP.below_ bw
            have hsW := (keeps_drew hG).size
            refine (Clean_any _ _ _ LB done W hPW.b hP.short hP.rising).mono ?_
            rintro e w2 ⟨⟨A1, c1, rfl, ho1⟩, hb2⟩
            exact ⟨_, rfl, ⟨A1, c1, rfl, own_rebase ho1 fun j hj => Nat.le_trans hsW (own_ge ho1 j hj)⟩, Keeps.of_below hb2 []⟩
          simp only [Act.put, List.setIfInBounds_toArray, List.set_cons_zero, List.set_cons_succ]
          iterate 2 refine dep_reckons rfl (by kernel_rfl) (fun W hG hF => by go_simp <;> rfl) (by simp only [Act.put, List.setIfInBounds_toArray, List.set_cons_zero, List.set_cons_succ]; rfl) ?_
          refine dep_reckons rfl (by kernel_rfl) (fun W hG hF => by have hcf := cf W hG; go_simp <;> rfl) (by simp only [Act.put, List.setIfInBounds_toArray, List.set_cons_zero, List.set_cons_succ]; rfl) ?_
          refine dep_known (c := xc.agg) rfl (by kernel_rfl) (fun W hG hF => ?_) (by simp only [Act.put, List.setIfInBounds_toArray, List.set_cons_zero, List.set_cons_succ]; rfl) ?_
          · unfold opGives
            go_simp
            have bw := (keeps_drew hG).nil_below
            have hPW := hP.below_ bw
            refine (refClean_any _ _ LR done W hPW.r hsm hP.rising').mono ?_
            rintro e w2 ⟨rfl, hb2⟩
            exact ⟨_, rfl, by rw [HXC.out], Keeps.of_below hb2 []⟩
          refine dep_known (c := .bool true) rfl (by kernel_rfl) (fun W hG hF => ?_) (by simp only [Act.put, List.setIfInBounds_toArray, List.set_cons_zero, List.set_cons_succ]; rfl) ?_
          · obtain ⟨A1, c1, rfl, ho1⟩ := hF _ List.mem_cons_self (by kernel_rfl)
            unfold opGives
            go_simp
            have hPW := hP.below_ (keeps_drew hG).nil_below
            refine (like15_any (cleanV LB done) A1 c1 xc W (Rd.of_own ho1) ((hPW.srcs'.or_none hxcm))).mono ?_
            rintro e w2 ⟨rfl, hb2⟩
            exact ⟨_, rfl, by rw [decide_eq_true HXCV.out], Keeps.of_below hb2 []⟩
          iterate 2 refine dep_reckons rfl (by kernel_rfl) (fun W hG hF => by go_simp <;> rfl) (by simp only [Act.put, List.setIfInBounds_toArray, List.set_cons_zero, List.set_cons_succ]; rfl) ?_
          refine dep_nil fun W hG hF => ?_
          replace hop := hop.keeps (keeps_drew hG) (by simp)
          replace hP := hP.below_ (keeps_drew hG).nil_below
          clear hF hG cf tl
          go_wp2_with fail
          have cf : ∀ W2, Keeps [] W.drew W2 → W2.cell? ⟨wr.heap.size, 4, none⟩ = some (.int .u64 ver) ∧ W2.cell? ⟨wr.heap.size, 5, none⟩ = some (.int .u64 done) := fun W2 hk =>
            ⟨(hk.cell (p := ⟨wr.heap.size, 4, none⟩) hop.lt (by simp)).trans (hop.cell 4), (hk.cell (p := ⟨wr.heap.size, 5, none⟩) hop.lt (by simp)).trans (hop.cell 5)⟩
          refine wp_region_calls 25 [(3, .known (.bool dd)), (7, .known (.bool dd)), (15, .some_ fun v W2 => ToldV W.heap.size (pickV LB ver done) v W2), (21, .some_ fun v W2 => RefTold LR (pickV LB ver done) v), (22, .known (.bool true))] (by kernel_rfl) (by kernel_rfl) rfl
            ⟨trivial, trivial, fun v W1 W2 hk hφ => toldV_keeps hφ hk, fun v W1 W2 hk hφ => hφ, trivial, trivial⟩ ?_
          simp only [List.take_succ_cons, List.take_zero, List.drop_succ_cons, List.drop_zero]
          iterate 2 refine dep_reckons rfl (by kernel_rfl) (fun W hG hF => by go_simp <;> rfl) (by simp only [Act.put, List.setIfInBounds_toArray, List.set_cons_zero, List.set_cons_succ]; rfl) ?_
          refine dep_reckons rfl (by kernel_rfl) (fun W hG hF => by have hcf := cf W hG; go_simp <;> rfl) (by simp only [Act.put, List.setIfInBounds_toArray, List.set_cons_zero, List.set_cons_succ]; rfl) ?_
          refine dep_known (c := .bool dd) rfl (by kernel_rfl) (fun W hG hF => ?_) (by simp only [Act.put, List.setIfInBounds_toArray, List.set_cons_zero, List.set_cons_succ]; rfl) ?_
          · unfold opGives
            go_simp
            have bw := (keeps_drew hG).nil_below
            have hPW := hP.below_ bw
            refine (Dirty_any _ _ _ LB done W hPW.b hP.short).mono ?_
            rintro e w2 ⟨rfl, rfl⟩
            exact ⟨_, rfl, by rw [HDD2.out], Keeps.refl _ _⟩
          iterate 2 refine dep_reckons rfl (by kernel_rfl) (fun W hG hF => by go_simp <;> rfl) (by simp only [Act.put, List.setIfInBounds_toArray, List.set_cons_zero, List.set_cons_succ]; rfl) ?_
          refine dep_reckons rfl (by kernel_rfl) (fun W hG hF => by have hcf := cf W hG; go_simp <;> rfl) (by simp only [Act.put, List.setIfInBounds_toArray, List.set_cons_zero, List.set_cons_succ]; rfl) ?_
          refine dep_known (c := .bool dd) rfl (by kernel_rfl) (fun W hG hF => ?_) (by simp only [Act.put, List.setIfInBounds_toArray, List.set_cons_zero, List.set_cons_succ]; rfl) ?_
          · unfold opGives
            go_simp
            have bw := (keeps_drew hG).nil_below
            have hPW := hP.below_ bw
            refine (refDirty_any _ _ LR done W hPW.r hsm).mono ?_
            rintro e w2 ⟨rfl, hb2⟩
            exact ⟨_, rfl, by rw [HDD.out], Keeps.of_below hb2 []⟩
          iterate 4 refine dep_reckons rfl (by kernel_rfl) (fun W hG hF => by go_simp <;> rfl) (by simp only [Act.put, List.setIfInBounds_toArray, List.set_cons_zero, List.set_cons_succ]; rfl) ?_
          refine dep_reckons rfl (by kernel_rfl) (fun W hG hF => by have hcf := cf W hG; go_simp <;> rfl) (by simp only [Act.put, List.setIfInBounds_toArray, List.set_cons_zero, List.set_cons_succ]; rfl) ?_
          refine dep_reckons rfl (by kernel_rfl) (fun W hG hF => by go_simp <;> rfl) (by simp only [Act.put, List.setIfInBounds_toArray, List.set_cons_zero, List.set_cons_succ]; rfl) ?_
          refine dep_reckons rfl (by kernel_rfl) (fun W hG hF => by have hcf := cf W hG; go_simp <;> rfl) (by simp only [Act.put, List.setIfInBounds_toArray, List.set_cons_zero, List.set_cons_succ]; rfl) ?_
          refine dep_some rfl (by kernel_rfl) (fun W hG hF => ?_) (fun v15 => ?_)
          · unfold opGives
            go_simp
            have bw := (keeps_drew hG).nil_below
            have hPW := hP.below_ bw
            have hsW := (keeps_drew hG).size
            refine (Pick_any _ _ _ LB ver done W hPW.b hP.short hP.rising).mono ?_
            rintro e w2 ⟨⟨A1, c1, rfl, ho1⟩, hb2⟩
            exact ⟨_, rfl, ⟨A1, c1, rfl, own_rebase ho1 fun j hj => Nat.le_trans hsW (own_ge ho1 j hj)⟩, Keeps.of_below hb2 []⟩
          simp only [Act.put, List.setIfInBounds_toArray, List.set_cons_zero, List.set_cons_succ]
          iterate 2 refine dep_reckons rfl (by kernel_rfl) (fun W hG hF => by go_simp <;> rfl) (by simp only [Act.put, List.setIfInBounds_toArray, List.set_cons_zero, List.set_cons_succ]; rfl) ?_
          refine dep_reckons rfl (by kernel_rfl) (fun W hG hF => by have hcf := cf W hG; go_simp <;> rfl) (by simp only [Act.put, List.setIfInBounds_toArray, List.set_cons_zero, List.set_cons_succ]; rfl) ?_
          refine dep_reckons rfl (by kernel_rfl) (fun W hG hF => by go_simp <;> rfl) (by simp only [Act.put, List.setIfInBounds_toArray, List.set_cons_zero, List.set_cons_succ]; rfl) ?_
          refine dep_reckons rfl (by kernel_rfl) (fun W hG hF => by have hcf := cf W hG; go_simp <;> rfl) (by simp only [Act.put, List.setIfInBounds_toArray, List.set_cons_zero, List.set_cons_succ]; rfl) ?_
          refine dep_some rfl (by kernel_rfl) (fun W hG hF => ?_) (fun v21 => ?_)
          · unfold opGives
            go_simp
            have bw := (keeps_drew hG).nil_below
            have hPW := hP.below_ bw
            have hsW := (keeps_drew hG).size
            refine (refPick_any _ _ LR ver done W hPW.r hsm hP.rising' hP.pos').mono ?_
            rintro e w2 ⟨⟨xp, h1, h2, rfl⟩, hb2⟩
            exact ⟨_, rfl, ⟨xp, h1, h2.trans HPP.out, rfl⟩, Keeps.of_below hb2 []⟩
          simp only [Act.put, List.setIfInBounds_toArray, List.set_cons_zero, List.set_cons_succ]
          refine dep_known (c := .bool true) rfl (by kernel_rfl) (fun W hG hF => ?_) (by simp only [Act.put, List.setIfInBounds_toArray, List.set_cons_zero, List.set_cons_succ]; rfl) ?_
          · obtain ⟨xp, hm, hxv, rfl⟩ := hF _ List.mem_cons_self (by kernel_rfl)
            obtain ⟨A1, c1, rfl, ho1⟩ := hF _ (List.mem_cons_of_mem _ List.mem_cons_self) (by kernel_rfl)
            unfold opGives
            go_simp
            have hPW := hP.below_ (keeps_drew hG).nil_below
            refine (like15_any (pickV LB ver done) A1 c1 xp W (Rd.of_own ho1) ((hPW.srcs'.or_none hm))).mono ?_
            rintro e w2 ⟨rfl, hb2⟩
            exact ⟨_, rfl, by rw [decide_eq_true hxv.symm], Keeps.of_below hb2 []⟩
          iterate 2 refine dep_reckons rfl (by kernel_rfl) (fun W hG hF => by go_simp <;> rfl) (by simp only [Act.put, List.setIfInBounds_toArray, List.set_cons_zero, List.set_cons_succ]; rfl) ?_
          refine dep_nil fun W hG hF => ?_
          replace hP := hP.below_ (keeps_drew hG).nil_below
          clear hF hG cf hop
          go_wp2_with fail
          exact ⟨⟨k + 1, SB, LB, LR, by omega, by omega, rfl, hP⟩, by simp [intOf]; omega⟩
        · obtain ⟨E, hE⟩ : ∃ E, putErr lb x.v = E := ⟨_, rfl⟩
          have HPE := Lib.hid (hpe.trans hE)
          have HE2 := Lib.hid hE
          have HE0 := Lib.hid hput
          have tE : (E != E) = false := by simp
          clear hpe hput hE
          go_wp2_with fail
          generalize (wr.alloc (.cells #[.int .i64 0, .int .u64 x.v.ver, .int .u64 x.v.seq, .slice x.A x.v.data.length x.c, .int .u64 ver, .int .u64 done] 71)) = X0 at hX0 hopX ⊢
          have hP0 := hP.below_ hX0
          refine (refPut_any _ _ lr x _ hP0.r (by omega) wf1 wf2 wf3 wf4.1).mono ?_
          rintro e w2 ⟨⟨so, rfl, hok, herr⟩, hb2⟩
          have hsu := herr (by rw [HPE.out, ← HE2.out]; exact HE0.out)
          rw [HPE.out]
          subst hsu
          have hP2 := hP0.below_ hb2
          clear hok herr
          have hop2 := hopX.below hb2 hopX.lt
          have o0 := hop2.cell 0
          have o1 := hop2.cell 1
          have o2 := hop2.cell 2
          have o3 := hop2.cell 3
          have o4 := hop2.cell 4
          have o5 := hop2.cell 5
          have ol := hop2.lt
          simp only [List.getElem?_toArray, List.getElem?_cons_zero, List.getElem?_cons_succ] at o0 o1 o2 o3 o4 o5
          go_wp2_with fail
          clear o0 o1 o2 o3 o4 o5 ol
          refine (ours15_any x _).mono ?_
          rintro e w3 ⟨rfl, hb3⟩
          have hP3 := hP2.below_ hb3
          have hop3 := hop2.below hb3 hop2.lt
          simp only [VC.agg]
          go_wp2_with fail
          refine (Put_err _ _ slb lb x.v x.A x.c w3 hP3.b hP3.short wf1 wf2 wf3 wf4.1 HE0.out).mono ?_
          rintro e w4 ⟨rfl, hb4⟩
          rw [HE2.out]
          have hop := hop3.below hb4 hop3.lt
          have hP4 := hP3.below_ hb4
          obtain ⟨LB, hLB⟩ : ∃ z, lb = z := ⟨_, rfl⟩
          obtain ⟨LR, hLR⟩ : ∃ z, lr = z := ⟨_, rfl⟩
          obtain ⟨SB, hSB⟩ : ∃ z, slb = z := ⟨_, rfl⟩
          clear hP
          have hP : PlayAt w w4 so SB LB LR (k + 1) := by
            rw [← hLB, ← hLR, ← hSB]
            exact ⟨hP4.b, hP4.r, hP4.eq, hP4.short, by omega, hP4.rising, hP4.pos, hP4.srcs, hP4.below, by omega⟩
          clear hP4 hP3 hP2 hP0 hop3 hop2 hopX hLB hLR hSB q0 q1 q2 q3 q4 q5 hX0 hb2 hb3 hb4 HPE HE2 HE0
          obtain ⟨A5, c5, hso, _, _⟩ := own_form hP.r
          subst hso
          have hlen := hP.len_eq
          have tl : ((LB.length : Int) != (LR.length : Int)) = false := by rw [hlen]; simp
          have hsm := hP.small
          obtain ⟨xl, hxl⟩ : ∃ z, atC LR ((LR.length : Int) - 1) = z := ⟨_, rfl⟩
          have hxlm : xl ∈ LR ∨ xl = noVC := by rw [← hxl]; exact atC_mem _ _
          have hxlv : atV LB ((LB.length : Int) - 1) = xl.v := by rw [← hxl, atC_v, at_vs, at_vs, hP.eq, hlen]
          obtain ⟨xc, hxc⟩ : ∃ z, cleanC LR done = z := ⟨_, rfl⟩
          have hxcm : xc ∈ LR ∨ xc = noVC := by rw [← hxc]; exact atC_mem _ _
          have hxcv : cleanV LB done = xc.v := by rw [← hxc, cleanC_v, clean_vs, clean_vs, hP.eq]
          have hdd : dirtyV LR done = dirtyV LB done := by rw [dirty_vs, dirty_vs, hP.eq]
          have hpp : pickV LR ver done = pickV LB ver done := by rw [pick_vs, pick_vs, hP.eq]
          obtain ⟨dd, hdd2⟩ : ∃ z, dirtyV LB done = z := ⟨_, rfl⟩
          have tdd : (dd != dd) = false := by simp
          have HXL := Lib.hid hxl; have HXC := Lib.hid hxc; have HXV := Lib.hid hxlv; have HXCV := Lib.hid hxcv; have HDD := Lib.hid (hdd.trans hdd2); have HDD2 := Lib.hid hdd2; have HPP := Lib.hid hpp
          clear hxl hxc hxlv hxcv hdd hdd2 hpp hlen
          go_wp2_with fail
          have cf : ∀ W, Keeps [] w4.drew W → W.cell? ⟨wr.heap.size, 4, none⟩ = some (.int .u64 ver) ∧ W.cell? ⟨wr.heap.size, 5, none⟩ = some (.int .u64 done) := fun W hk =>
            ⟨(hk.cell (p := ⟨wr.heap.size, 4, none⟩) hop.lt (by simp)).trans (hop.cell 4), (hk.cell (p := ⟨wr.heap.size, 5, none⟩) hop.lt (by simp)).trans (hop.cell 5)⟩
          refine wp_region_calls 32 [(1, .known (.int .i64 LB.length)), (7, .some_ fun v W => ∃ L, RowAt W w4.heap.size v L ∧ vs L = vs LB), (9, .known (.bool true)), (14, .some_ fun v W => ToldV w4.heap.size (atV LB ((LB.length : Int) - 1)) v W), (16, .known xl.agg), (17, .known (.bool true)),
            (24, .some_ fun v W => ToldV w4.heap.size (cleanV LB done) v W), (28, .known xc.agg), (29, .known (.bool true))] (by kernel_rfl) (by kernel_rfl) rfl
            ⟨trivial, fun v W1 W2 hk hφ => by obtain ⟨L, h1, h2⟩ := hφ; exact ⟨L, h1.keeps hk (by simp) (by simp), h2⟩, trivial, fun v W1 W2 hk hφ => toldV_keeps hφ hk, trivial, trivial, fun v W1 W2 hk hφ => toldV_keeps hφ hk, trivial, trivial, trivial⟩ ?_
          simp only [List.take_succ_cons, List.take_zero, List.drop_succ_cons, List.drop_zero]
          refine dep_reckons rfl (by kernel_rfl) (fun W hG hF => by go_simp <;> rfl) (by simp only [Act.put, List.setIfInBounds_toArray, List.set_cons_zero, List.set_cons_succ]; rfl) ?_
          refine dep_known (c := .int .i64 LB.length) rfl (by kernel_rfl) (fun W hG hF => ?_) (by simp only [Act.put, List.setIfInBounds_toArray, List.set_cons_zero, List.set_cons_succ]; rfl) ?_
          · unfold opGives
            go_simp
            have bw := (keeps_drew hG).nil_below
            have hPW := hP.below_ bw
            refine (Len_any _ _ _ LB W hPW.b).mono ?_
            rintro e w2 ⟨rfl, rfl⟩
            exact ⟨_, rfl, rfl, Keeps.refl _ _⟩
          iterate 2 refine dep_reckons rfl (by kernel_rfl) (fun W hG hF => by go_simp <;> rfl) (by simp only [Act.put, List.setIfInBounds_toArray, List.set_cons_zero, List.set_cons_succ]; rfl) ?_
          refine dep_reckons (c := .bool false) rfl (by kernel_rfl) (fun W hG hF => by go_simp) (by simp only [Act.put, List.setIfInBounds_toArray, List.set_cons_zero, List.set_cons_succ]; rfl) ?_
          iterate 2 refine dep_reckons rfl (by kernel_rfl) (fun W hG hF => by go_simp <;> rfl) (by simp only [Act.put, List.setIfInBounds_toArray, List.set_cons_zero, List.set_cons_succ]; rfl) ?_
          refine dep_some rfl (by kernel_rfl) (fun W hG hF => ?_) (fun v7 => ?_)
          · unfold opGives
            go_simp
            have bw := (keeps_drew hG).nil_below
            have hPW := hP.below_ bw
            have hsW := (keeps_drew hG).size
            refine (List_any _ _ _ LB W hPW.b hP.short).mono ?_
            rintro e w2 ⟨⟨so, L, rfl, h1, h2⟩, hb2⟩
            exact ⟨_, rfl, ⟨L, h1.rebase hsW, h2⟩, Keeps.of_below hb2 []⟩
          simp only [Act.put, List.setIfInBounds_toArray, List.set_cons_zero, List.set_cons_succ]
          refine dep_reckons rfl (by kernel_rfl) (fun W hG hF => by go_simp <;> rfl) (by simp only [Act.put, List.setIfInBounds_toArray, List.set_cons_zero, List.set_cons_succ]; rfl) ?_
          refine dep_known (c := .bool true) rfl (by kernel_rfl) (fun W hG hF => ?_) (by simp only [Act.put, List.setIfInBounds_toArray, List.set_cons_zero, List.set_cons_succ]; rfl) ?_
          · obtain ⟨L, h1, h2⟩ := hF _ List.mem_cons_self (by kernel_rfl)
            unfold opGives
            go_simp
            have hPW := hP.below_ (keeps_drew hG).nil_below
            refine (all15_any _ _ _ _ L LR W h1 hPW.r hPW.srcs' (h2.trans hP.eq) hsm).mono ?_
            rintro e w2 ⟨rfl, hb2⟩
            exact ⟨_, rfl, rfl, Keeps.of_below hb2 []⟩
          iterate 4 refine dep_reckons rfl (by kernel_rfl) (fun W hG hF => by go_simp <;> rfl) (by simp only [Act.put, List.setIfInBounds_toArray, List.set_cons_zero, List.set_cons_succ]; rfl) ?_
          refine dep_some rfl (by kernel_rfl) (fun W hG hF => ?_) (fun v14 => ?_)
          · unfold opGives
            go_simp
            have bw := (keeps_drew hG).nil_below
            have hPW := hP.below_ bw
            have hsW := (keeps_drew hG).size
            refine (Last_any _ _ _ LB W hPW.b hP.short).mono ?_
            rintro e w2 ⟨⟨A1, c1, rfl, ho1⟩, hb2⟩
            exact ⟨_, rfl, ⟨A1, c1, rfl, own_rebase ho1 fun j hj => Nat.le_trans hsW (own_ge ho1 j hj)⟩, Keeps.of_below hb2 []⟩
          simp only [Act.put, List.setIfInBounds_toArray, List.set_cons_zero, List.set_cons_succ]
          refine dep_reckons rfl (by kernel_rfl) (fun W hG hF => by go_simp <;> rfl) (by simp only [Act.put, List.setIfInBounds_toArray, List.set_cons_zero, List.set_cons_succ]; rfl) ?_
          refine dep_known (c := xl.agg) rfl (by kernel_rfl) (fun W hG hF => ?_) (by simp only [Act.put, List.setIfInBounds_toArray, List.set_cons_zero, List.set_cons_succ]; rfl) ?_
          · unfold opGives
            go_simp
            have bw := (keeps_drew hG).nil_below
            have hPW := hP.below_ bw
            refine (refLast_any _ _ LR W hPW.r hsm).mono ?_
            rintro e w2 ⟨rfl, hb2⟩
            exact ⟨_, rfl, by rw [HXL.out], Keeps.of_below hb2 []⟩
          refine dep_known (c := .bool true) rfl (by kernel_rfl) (fun W hG hF => ?_) (by simp only [Act.put, List.setIfInBounds_toArray, List.set_cons_zero, List.set_cons_succ]; rfl) ?_
          · obtain ⟨A1, c1, rfl, ho1⟩ := hF _ List.mem_cons_self (by kernel_rfl)
            unfold opGives
            go_simp
            have hPW := hP.below_ (keeps_drew hG).nil_below
            refine (like15_any (atV LB ((LB.length : Int) - 1)) A1 c1 xl W (Rd.of_own ho1) ((hPW.srcs'.or_none hxlm))).mono ?_
            rintro e w2 ⟨rfl, hb2⟩
            exact ⟨_, rfl, by rw [decide_eq_true HXV.out], Keeps.of_below hb2 []⟩
          iterate 5 refine dep_reckons rfl (by kernel_rfl) (fun W hG hF => by go_simp <;> rfl) (by simp only [Act.put, List.setIfInBounds_toArray, List.set_cons_zero, List.set_cons_succ]; rfl) ?_
          refine dep_reckons rfl (by kernel_rfl) (fun W hG hF => by have hcf := cf W hG; go_simp <;> rfl) (by simp only [Act.put, List.setIfInBounds_toArray, List.set_cons_zero, List.set_cons_succ]; rfl) ?_
          refine dep_some rfl (by kernel_rfl) (fun W hG hF => ?_) (fun v24 => ?_)
          · unfold opGives
            go_simp
            have bw := (keeps_drew hG).nil_below
            have hPW := hP.below_ bw
            have hsW := (keeps_drew hG).size
            refine (Clean_any _ _ _ LB done W hPW.b hP.short hP.rising).mono ?_
            rintro e w2 ⟨⟨A1, c1, rfl, ho1⟩, hb2⟩
            exact ⟨_, rfl, ⟨A1, c1, rfl, own_rebase ho1 fun j hj => Nat.le_trans hsW (own_ge ho1 j hj)⟩, Keeps.of_below hb2 []⟩
          simp only [Act.put, List.setIfInBounds_toArray, List.set_cons_zero, List.set_cons_succ]
          iterate 2 refine dep_reckons rfl (by kernel_rfl) (fun W hG hF => by go_simp <;> rfl) (by simp only [Act.put, List.setIfInBounds_toArray, List.set_cons_zero, List.set_cons_succ]; rfl) ?_
          refine dep_reckons rfl (by kernel_rfl) (fun W hG hF => by have hcf := cf W hG; go_simp <;> rfl) (by simp only [Act.put, List.setIfInBounds_toArray, List.set_cons_zero, List.set_cons_succ]; rfl) ?_
          refine dep_known (c := xc.agg) rfl (by kernel_rfl) (fun W hG hF => ?_) (by simp only [Act.put, List.setIfInBounds_toArray, List.set_cons_zero, List.set_cons_succ]; rfl) ?_
          · unfold opGives
            go_simp
            have bw := (keeps_drew hG).nil_below
            have hPW := hP.below_ bw
            refine (refClean_any _ _ LR done W hPW.r hsm hP.rising').mono ?_
            rintro e w2 ⟨rfl, hb2⟩
            exact ⟨_, rfl, by rw [HXC.out], Keeps.of_below hb2 []⟩
          refine dep_known (c := .bool true) rfl (by kernel_rfl) (fun W hG hF => ?_) (by simp only [Act.put, List.setIfInBounds_toArray, List.set_cons_zero, List.set_cons_succ]; rfl) ?_
          · obtain ⟨A1, c1, rfl, ho1⟩ := hF _ List.mem_cons_self (by kernel_rfl)
            unfold opGives
            go_simp
            have hPW := hP.below_ (keeps_drew hG).nil_below
            refine (like15_any (cleanV LB done) A1 c1 xc W (Rd.of_own ho1) ((hPW.srcs'.or_none hxcm))).mono ?_
            rintro e w2 ⟨rfl, hb2⟩
            exact ⟨_, rfl, by rw [decide_eq_true HXCV.out], Keeps.of_below hb2 []⟩
          iterate 2 refine dep_reckons rfl (by kernel_rfl) (fun W hG hF => by go_simp <;> rfl) (by simp only [Act.put, List.setIfInBounds_toArray, List.set_cons_zero, List.set_cons_succ]; rfl) ?_
          refine dep_nil fun W hG hF => ?_
          replace hop := hop.keeps (keeps_drew hG) (by simp)
          replace hP := hP.below_ (keeps_drew hG).nil_below
          clear hF hG cf tl
          go_wp2_with fail
          have cf : ∀ W2, Keeps [] W.drew W2 → W2.cell? ⟨wr.heap.size, 4, none⟩ = some (.int .u64 ver) ∧ W2.cell? ⟨wr.heap.size, 5, none⟩ = some (.int .u64 done) := fun W2 hk =>
            ⟨(hk.cell (p := ⟨wr.heap.size, 4, none⟩) hop.lt (by simp)).trans (hop.cell 4), (hk.cell (p := ⟨wr.heap.size, 5, none⟩) hop.lt (by simp)).trans (hop.cell 5)⟩
          refine wp_region_calls 25 [(3, .known (.bool dd)), (7, .known (.bool dd)), (15, .some_ fun v W2 => ToldV W.heap.size (pickV LB ver done) v W2), (21, .some_ fun v W2 => RefTold LR (pickV LB ver done) v), (22, .known (.bool true))] (by kernel_rfl) (by kernel_rfl) rfl
            ⟨trivial, trivial, fun v W1 W2 hk hφ => toldV_keeps hφ hk, fun v W1 W2 hk hφ => hφ, trivial, trivial⟩ ?_
          simp only [List.take_succ_cons, List.take_zero, List.drop_succ_cons, List.drop_zero]
          iterate 2 refine dep_reckons rfl (by kernel_rfl) (fun W hG hF => by go_simp <;> rfl) (by simp only [Act.put, List.setIfInBounds_toArray, List.set_cons_zero, List.set_cons_succ]; rfl) ?_
          refine dep_reckons rfl (by kernel_rfl) (fun W hG hF => by have hcf := cf W hG; go_simp <;> rfl) (by simp only [Act.put, List.setIfInBounds_toArray, List.set_cons_zero, List.set_cons_succ]; rfl) ?_
          refine dep_known (c := .bool dd) rfl (by kernel_rfl) (fun W hG hF => ?_) (by simp only [Act.put, List.setIfInBounds_toArray, List.set_cons_zero, List.set_cons_succ]; rfl) ?_
          · unfold opGives
            go_simp
            have bw := (keeps_drew hG).nil_below
            have hPW := hP.below_ bw
            refine (Dirty_any _ _ _ LB done W hPW.b hP.short).mono ?_
            rintro e w2 ⟨rfl, rfl⟩
            exact ⟨_, rfl, by rw [HDD2.out], Keeps.refl _ _⟩
          iterate 2 refine dep_reckons rfl (by kernel_rfl) (fun W hG hF => by go_simp <;> rfl) (by simp only [Act.put, List.setIfInBounds_toArray, List.set_cons_zero, List.set_cons_succ]; rfl) ?_
          refine dep_reckons rfl (by kernel_rfl) (fun W hG hF => by have hcf := cf W hG; go_simp <;> rfl) (by simp only [Act.put, List.setIfInBounds_toArray, List.set_cons_zero, List.set_cons_succ]; rfl) ?_
          refine dep_known (c := .bool dd) rfl (by kernel_rfl) (fun W hG hF => ?_) (by simp only [Act.put, List.setIfInBounds_toArray, List.set_cons_zero, List.set_cons_succ]; rfl) ?_
          · unfold opGives
            go_simp
            have bw := (keeps_drew hG).nil_below
            have hPW := hP.below_ bw
            refine (refDirty_any _ _ LR done W hPW.r hsm).mono ?_
            rintro e w2 ⟨rfl, hb2⟩
            exact ⟨_, rfl, by rw [HDD.out], Keeps.of_below hb2 []⟩
          iterate 4 refine dep_reckons rfl (by kernel_rfl) (fun W hG hF => by go_simp <;> rfl) (by simp only [Act.put, List.setIfInBounds_toArray, List.set_cons_zero, List.set_cons_succ]; rfl) ?_
          refine dep_reckons rfl (by kernel_rfl) (fun W hG hF => by have hcf := cf W hG; go_simp <;> rfl) (by simp only [Act.put, List.setIfInBounds_toArray, List.set_cons_zero, List.set_cons_succ]; rfl) ?_
          refine dep_reckons rfl (by kernel_rfl) (fun W hG hF => by go_simp <;> rfl) (by simp only [Act.put, List.setIfInBounds_toArray, List.set_cons_zero, List.set_cons_succ]; rfl) ?_
          refine dep_reckons rfl (by kernel_rfl) (fun W hG hF => by have hcf := cf W hG; go_simp <;> rfl) (by simp only [Act.put, List.setIfInBounds_toArray, List.set_cons_zero, List.set_cons_succ]; rfl) ?_
          refine dep_some rfl (by kernel_rfl) (fun W hG hF => ?_) (fun v15 => ?_)
          · unfold opGives
            go_simp
            have bw := (keeps_drew hG).nil_below
            have hPW := hP.below_ bw
            have hsW := (keeps_drew hG).size
            refine (Pick_any _ _ _ LB ver done W hPW.b hP.short hP.rising).mono ?_
            rintro e w2 ⟨⟨A1, c1, rfl, ho1⟩, hb2⟩
            exact ⟨_, rfl, ⟨A1, c1, rfl, own_rebase ho1 fun j hj => Nat.le_trans hsW (own_ge ho1 j hj)⟩, Keeps.of_below hb2 []⟩
          simp only [Act.put, List.setIfInBounds_toArray, List.set_cons_zero, List.set_cons_succ]
          iterate 2 refine dep_reckons rfl (by kernel_rfl) (fun W hG hF => by go_simp <;> rfl) (by simp only [Act.put, List.setIfInBounds_toArray, List.set_cons_zero, List.set_cons_succ]; rfl) ?_
          refine dep_reckons rfl (by kernel_rfl) (fun W hG hF => by have hcf := cf W hG; go_simp <;> rfl) (by simp only [Act.put, List.setIfInBounds_toArray, List.set_cons_zero, List.set_cons_succ]; rfl) ?_
          refine dep_reckons rfl (by kernel_rfl) (fun W hG hF => by go_simp <;> rfl) (by simp only [Act.put, List.setIfInBounds_toArray, List.set_cons_zero, List.set_cons_succ]; rfl) ?_
          refine dep_reckons rfl (by kernel_rfl) (fun W hG hF => by have hcf := cf W hG; go_simp <;> rfl) (by simp only [Act.put, List.setIfInBounds_toArray, List.set_cons_zero, List.set_cons_succ]; rfl) ?_
          refine dep_some rfl (by kernel_rfl) (fun W hG hF => ?_) (fun v21 => ?_)
          · unfold opGives
            go_simp
            have bw := (keeps_drew hG).nil_below
            have hPW := hP.below_ bw
            have hsW := (keeps_drew hG).size
            refine (refPick_any _ _ LR ver done W hPW.r hsm hP.rising' hP.pos').mono ?_
            rintro e w2 ⟨⟨xp, h1, h2, rfl⟩, hb2⟩
            exact ⟨_, rfl, ⟨xp, h1, h2.trans HPP.out, rfl⟩, Keeps.of_below hb2 []⟩
          simp only [Act.put, List.setIfInBounds_toArray, List.set_cons_zero, List.set_cons_succ]
          refine dep_known (c := .bool true) rfl (by kernel_rfl) (fun W hG hF => ?_) (by simp only [Act.put, List.setIfInBounds_toArray, List.set_cons_zero, List.set_cons_succ]; rfl) ?_
          · obtain ⟨xp, hm, hxv, rfl⟩ := hF _ List.mem_cons_self (by kernel_rfl)
            obtain ⟨A1, c1, rfl, ho1⟩ := hF _ (List.mem_cons_of_mem _ List.mem_cons_self) (by kernel_rfl)
            unfold opGives
            go_simp
            have hPW := hP.below_ (keeps_drew hG).nil_below
            refine (like15_any (pickV LB ver done) A1 c1 xp W (Rd.of_own ho1) ((hPW.srcs'.or_none hm))).mono ?_
            rintro e w2 ⟨rfl, hb2⟩
            exact ⟨_, rfl, by rw [decide_eq_true hxv.symm], Keeps.of_below hb2 []⟩
          iterate 2 refine dep_reckons rfl (by kernel_rfl) (fun W hG hF => by go_simp <;> rfl) (by simp only [Act.put, List.setIfInBounds_toArray, List.set_cons_zero, List.set_cons_succ]; rfl) ?_
          refine dep_nil fun W hG hF => ?_
          replace hP := hP.below_ (keeps_drew hG).nil_below
          clear hF hG cf hop
          go_wp2_with fail
          exact ⟨⟨k + 1, SB, LB, LR, by omega, by omega, rfl, hP⟩, by simp [intOf]; omega⟩
      · have tk : (kind == 0) = false := by simpa using hkind
        have hopX := hopk kind
        have hX0 := hX kind
        have hte : trimN lr done = trimN lb done := by rw [trim_vs, trim_vs, hP.eq]
        obtain ⟨N, hN⟩ : ∃ N, trimN lb done = N := ⟨_, rfl⟩
        have HTE := Lib.hid (hte.trans hN)
        have HN := Lib.hid hN
        have tE : ((N : Int) != (N : Int)) = false := by simp
        clear hopk hX hte hN
        go_wp2_with fail
        generalize (wr.alloc (.cells #[.int .i64 kind, .int .u64 x.v.ver, .int .u64 x.v.seq, .slice x.A x.v.data.length x.c, .int .u64 ver, .int .u64 done] 71)) = X0 at hX0 hopX ⊢
        have hP0 := hP.below_ hX0
        refine (refTrim_any _ _ lr done _ hP0.r (by omega) hP0.rising' hP0.pos').mono ?_
        rintro e w2 ⟨⟨so, rfl, hso⟩, hb2⟩
        rw [HTE.out] at hso ⊢
        have hP2 := hP0.below_ hb2
        have hs0 := hX0.size
        have hs2 := hb2.size
        have hbs := hb.size
        have hop2 := hopX.below hb2 hopX.lt
        have o0 := hop2.cell 0
        have o1 := hop2.cell 1
        have o2 := hop2.cell 2
        have o3 := hop2.cell 3
        have o4 := hop2.cell 4
        have o5 := hop2.cell 5
        have ol := hop2.lt
        simp only [List.getElem?_toArray, List.getElem?_cons_zero, List.getElem?_cons_succ] at o0 o1 o2 o3 o4 o5
        go_wp2_with fail
        clear o0 o1 o2 o3 o4 o5 ol
        refine (Trim_any _ _ slb lb done w2 hP2.b hP2.short hP2.rising (by omega)).mono ?_
        rintro e w4 ⟨rfl, slb', hb4, hk4, hor4⟩
        rw [HN.out] at hb4 ⊢
        have hs4 := hk4.size
        have hop := hop2.keeps hk4 (by intro hm; exact Blk.ne_ hop2 hP2.b.blk (by decide) (by simpa using hm))
        have hso4 : RefAt w4 w.heap.size so (lr.drop N) := by
          refine own_rebase (own_keeps hso hk4 fun j hj hm => own_blk_ne hso hP2.b.blk (by decide) j hj (by simpa using hm)) fun j hj => by have := own_ge hso j hj; omega
        have hbl4 : Below w.heap.size w w4 := hP2.below.trans (hk4.below (by omega) (by simp))
        obtain ⟨LB, hLB⟩ : ∃ z, lb.drop N = z := ⟨_, rfl⟩
        obtain ⟨LR, hLR⟩ : ∃ z, lr.drop N = z := ⟨_, rfl⟩
        obtain ⟨SB, hSB⟩ : ∃ z, slb' = z := ⟨_, rfl⟩
        have hP4 : PlayAt w w4 so SB LB LR (k + 1) := by
          rw [← hLB, ← hLR, ← hSB]
          refine ⟨hb4, hso4, ?_, hP2.short.drop _, by simp; omega, ?_, fun y hy => hP2.pos y (List.mem_of_mem_drop hy), fun y hy => hP2.srcs y (List.mem_of_mem_drop hy), hbl4, by omega⟩
          · rw [vs, vs, List.map_drop, List.map_drop]
            exact congrArg (List.drop N) hP2.eq
          · rw [rising_vs, vs, List.map_drop]
            exact rising_drop (by rw [← rising_vs]; exact hP2.rising) _
        clear hP
        have hP := hP4
        clear hP4 hP2 hP0 hb4 hso4 hso hop2 hopX hbl4 hLB hLR hSB q0 q1 q2 q3 q4 q5 hX0 hb2 hk4 hor4 hs0 hs2 hs4 HTE HN
        obtain ⟨A5, c5, hso, _, _⟩ := own_form hP.r
        subst hso
        have hlen := hP.len_eq
        have tl : ((LB.length : Int) != (LR.length : Int)) = false := by rw [hlen]; simp
        have hsm := hP.small
        obtain ⟨xl, hxl⟩ : ∃ z, atC LR ((LR.length : Int) - 1) = z := ⟨_, rfl⟩
        have hxlm : xl ∈ LR ∨ xl = noVC := by rw [← hxl]; exact atC_mem _ _
        have hxlv : atV LB ((LB.length : Int) - 1) = xl.v := by rw [← hxl, atC_v, at_vs, at_vs, hP.eq, hlen]
        obtain ⟨xc, hxc⟩ : ∃ z, cleanC LR done = z := ⟨_, rfl⟩
        have hxcm : xc ∈ LR ∨ xc = noVC := by rw [← hxc]; exact atC_mem _ _
        have hxcv : cleanV LB done = xc.v := by rw [← hxc, cleanC_v, clean_vs, clean_vs, hP.eq]
        have hdd : dirtyV LR done = dirtyV LB done := by rw [dirty_vs, dirty_vs, hP.eq]
        have hpp : pickV LR ver done = pickV LB ver done := by rw [pick_vs, pick_vs, hP.eq]
        obtain ⟨dd, hdd2⟩ : ∃ z, dirtyV LB done = z := ⟨_, rfl⟩
        have tdd : (dd != dd) = false := by simp
        have HXL := Lib.hid hxl; have HXC := Lib.hid hxc; have HXV := Lib.hid hxlv; have HXCV := Lib.hid hxcv; have HDD := Lib.hid (hdd.trans hdd2); have HDD2 := Lib.hid hdd2; have HPP := Lib.hid hpp
        clear hxl hxc hxlv hxcv hdd hdd2 hpp hlen
        go_wp2_with fail
        have cf : ∀ W, Keeps [] w4.drew W → W.cell? ⟨wr.heap.size, 4, none⟩ = some (.int .u64 ver) ∧ W.cell? ⟨wr.heap.size, 5, none⟩ = some (.int .u64 done) := fun W hk =>
          ⟨(hk.cell (p := ⟨wr.heap.size, 4, none⟩) hop.lt (by simp)).trans (hop.cell 4), (hk.cell (p := ⟨wr.heap.size, 5, none⟩) hop.lt (by simp)).trans (hop.cell 5)⟩
        refine wp_region_calls 32 [(1, .known (.int .i64 LB.length)), (7, .some_ fun v W => ∃ L, RowAt W w4.heap.size v L ∧ vs L = vs LB), (9, .known (.bool true)), (14, .some_ fun v W => ToldV w4.heap.size (atV LB ((LB.length : Int) - 1)) v W), (16, .known xl.agg), (17, .known (.bool true)),
          (24, .some_ fun v W => ToldV w4.heap.size (cleanV LB done) v W), (28, .known xc.agg), (29, .known (.bool true))] (by kernel_rfl) (by kernel_rfl) rfl
          ⟨trivial, fun v W1 W2 hk hφ => by obtain ⟨L, h1, h2⟩ := hφ; exact ⟨L, h1.keeps hk (by simp) (by simp), h2⟩, trivial, fun v W1 W2 hk hφ => toldV_keeps hφ hk, trivial, trivial, fun v W1 W2 hk hφ => toldV_keeps hφ hk, trivial, trivial, trivial⟩ ?_
        simp only [List.take_succ_cons, List.take_zero, List.drop_succ_cons, List.drop_zero]
        refine dep_reckons rfl (by kernel_rfl) (fun W hG hF => by go_simp <;> rfl) (by simp only [Act.put, List.setIfInBounds_toArray, List.set_cons_zero, List.set_cons_succ]; rfl) ?_
        refine dep_known (c := .int .i64 LB.length) rfl (by kernel_rfl) (fun W hG hF => ?_) (by simp only [Act.put, List.setIfInBounds_toArray, List.set_cons_zero, List.set_cons_succ]; rfl) ?_
        · unfold opGives
          go_simp
          have bw := (keeps_drew hG).nil_below
          have hPW := hP.below_ bw
          refine (Len_any _ _ _ LB W hPW.b).mono ?_
          rintro e w2 ⟨rfl, rfl⟩
          exact ⟨_, rfl, rfl, Keeps.refl _ _⟩
        iterate 2 refine dep_reckons rfl (by kernel_rfl) (fun W hG hF => by go_simp <;> rfl) (by simp only [Act.put, List.setIfInBounds_toArray, List.set_cons_zero, List.set_cons_succ]; rfl) ?_
        refine dep_reckons (c := .bool false) rfl (by kernel_rfl) (fun W hG hF => by go_simp) (by simp only [Act.put, List.setIfInBounds_toArray, List.set_cons_zero, List.set_cons_succ]; rfl) ?_
        iterate 2 refine dep_reckons rfl (by kernel_rfl) (fun W hG hF => by go_simp <;> rfl) (by simp only [Act.put, List.setIfInBounds_toArray, List.set_cons_zero, List.set_cons_succ]; rfl) ?_
        refine dep_some rfl (by kernel_rfl) (fun W hG hF => ?_) (fun v7 => ?_)
        · unfold opGives
          go_simp
          have bw := (keeps_drew hG).nil_below
          have hPW := hP.below_ bw
          have hsW := (keeps_drew hG).size
          refine (List_any _ _ _ LB W hPW.b hP.short).mono ?_
          rintro e w2 ⟨⟨so, L, rfl, h1, h2⟩, hb2⟩
          exact ⟨_, rfl, ⟨L, h1.rebase hsW, h2⟩, Keeps.of_below hb2 []⟩
        simp only [Act.put, List.setIfInBounds_toArray, List.set_cons_zero, List.set_cons_succ]
        refine dep_reckons rfl (by kernel_rfl) (fun W hG hF => by go_simp <;> rfl) (by simp only [Act.put, List.setIfInBounds_toArray, List.set_cons_zero, List.set_cons_succ]; rfl) ?_
        refine dep_known (c := .bool true) rfl (by kernel_rfl) (fun W hG hF => ?_) (by simp only [Act.put, List.setIfInBounds_toArray, List.set_cons_zero, List.set_cons_succ]; rfl) ?_
        · obtain ⟨L, h1, h2⟩ := hF _ List.mem_cons_self (by kernel_rfl)
          unfold opGives
          go_simp
          have hPW := hP.below_ (keeps_drew hG).nil_below
          refine (all15_any _ _ _ _ L LR W h1 hPW.r hPW.srcs' (h2.trans hP.eq) hsm).mono ?_
          rintro e w2 ⟨rfl, hb2⟩
          exact ⟨_, rfl, rfl, Keeps.of_below hb2 []⟩
        iterate 4 refine dep_reckons rfl (by kernel_rfl) (fun W hG hF => by go_simp <;> rfl) (by simp only [Act.put, List.setIfInBounds_toArray, List.set_cons_zero, List.set_cons_succ]; rfl) ?_
        refine dep_some rfl (by kernel_rfl) (fun W hG hF => ?_) (fun v14 => ?_)
        · unfold opGives
          go_simp
          have bw := (keeps_drew hG).nil_below
          have hPW := hP.below_ bw
          have hsW := (keeps_drew hG).size
          refine (Last_any _ _ _ LB W hPW.b hP.short).mono ?_
          rintro e w2 ⟨⟨A1, c1, rfl, ho1⟩, hb2⟩
          exact ⟨_, rfl, ⟨A1, c1, rfl, own_rebase ho1 fun j hj => Nat.le_trans hsW (own_ge ho1 j hj)⟩, Keeps.of_below hb2 []⟩
        simp only [Act.put, List.setIfInBounds_toArray, List.set_cons_zero, List.set_cons_succ]
        refine dep_reckons rfl (by kernel_rfl) (fun W hG hF => by go_simp <;> rfl) (by simp only [Act.put, List.setIfInBounds_toArray, List.set_cons_zero, List.set_cons_succ]; rfl) ?_
        refine dep_known (c := xl.agg) rfl (by kernel_rfl) (fun W hG hF => ?_) (by simp only [Act.put, List.setIfInBounds_toArray, List.set_cons_zero, List.set_cons_succ]; rfl) ?_
        · unfold opGives
          go_simp
          have bw := (keeps_drew hG).nil_below
          have hPW := hP.below_ bw
          refine (refLast_any _ _ LR W hPW.r hsm).mono ?_
          rintro e w2 ⟨rfl, hb2⟩
          exact ⟨_, rfl, by rw [HXL.out], Keeps.of_below hb2 []⟩
        refine dep_known (c := .bool true) rfl (by kernel_rfl) (fun W hG hF => ?_) (by simp only [Act.put, List.setIfInBounds_toArray, List.set_cons_zero, List.set_cons_succ]; rfl) ?_
        · obtain ⟨A1, c1, rfl, ho1⟩ := hF _ List.mem_cons_self (by kernel_rfl)
          unfold opGives
          go_simp
          have hPW := hP.below_ (keeps_drew hG).nil_below
          refine (like15_any (atV LB ((LB.length : Int) - 1)) A1 c1 xl W (Rd.of_own ho1) ((hPW.srcs'.or_none hxlm))).mono ?_
          rintro e w2 ⟨rfl, hb2⟩
          exact ⟨_, rfl, by rw [decide_eq_true HXV.out], Keeps.of_below hb2 []⟩
        iterate 5 refine dep_reckons rfl (by kernel_rfl) (fun W hG hF => by go_simp <;> rfl) (by simp only [Act.put, List.setIfInBounds_toArray, List.set_cons_zero, List.set_cons_succ]; rfl) ?_
        refine dep_reckons rfl (by kernel_rfl) (fun W hG hF => by have hcf := cf W hG; go_simp <;> rfl) (by simp only [Act.put, List.setIfInBounds_toArray, List.set_cons_zero, List.set_cons_succ]; rfl) ?_
        refine dep_some rfl (by kernel_rfl) (fun W hG hF => ?_) (fun v24 => ?_)
        · unfold opGives
          go_simp
          have bw := (keeps_drew hG).nil_below
          have hPW := hP.below_ bw
          have hsW := (keeps_drew hG).size
          refine (Clean_any _ _ _ LB done W hPW.b hP.short hP.rising).mono ?_
          rintro e w2 ⟨⟨A1, c1, rfl, ho1⟩, hb2⟩
          exact ⟨_, rfl, ⟨A1, c1, rfl, own_rebase ho1 fun j hj => Nat.le_trans hsW (own_ge ho1 j hj)⟩, Keeps.of_below hb2 []⟩
        simp only [Act.put, List.setIfInBounds_toArray, List.set_cons_zero, List.set_cons_succ]
        iterate 2 refine dep_reckons rfl (by kernel_rfl) (fun W hG hF => by go_simp <;> rfl) (by simp only [Act.put, List.setIfInBounds_toArray, List.set_cons_zero, List.set_cons_succ]; rfl) ?_
        refine dep_reckons rfl (by kernel_rfl) (fun W hG hF => by have hcf := cf W hG; go_simp <;> rfl) (by simp only [Act.put, List.setIfInBounds_toArray, List.set_cons_zero, List.set_cons_succ]; rfl) ?_
        refine dep_known (c := xc.agg) rfl (by kernel_rfl) (fun W hG hF => ?_) (by simp only [Act.put, List.setIfInBounds_toArray, List.set_cons_zero, List.set_cons_succ]; rfl) ?_
        · unfold opGives
          go_simp
          have bw := (keeps_drew hG).nil_below
          have hPW := hP.below_ bw
          refine (refClean_any _ _ LR done W hPW.r hsm hP.rising').mono ?_
          rintro e w2 ⟨rfl, hb2⟩
          exact ⟨_, rfl, by rw [HXC.out], Keeps.of_below hb2 []⟩
        refine dep_known (c := .bool true) rfl (by kernel_rfl) (fun W hG hF => ?_) (by simp only [Act.put, List.setIfInBounds_toArray, List.set_cons_zero, List.set_cons_succ]; rfl) ?_
        · obtain ⟨A1, c1, rfl, ho1⟩ := hF _ List.mem_cons_self (by kernel_rfl)
          unfold opGives
          go_simp
          have hPW := hP.below_ (keeps_drew hG).nil_below
          refine (like15_any (cleanV LB done) A1 c1 xc W (Rd.of_own ho1) ((hPW.srcs'.or_none hxcm))).mono ?_
          rintro e w2 ⟨rfl, hb2⟩
          exact ⟨_, rfl, by rw [decide_eq_true HXCV.out], Keeps.of_below hb2 []⟩
        iterate 2 refine dep_reckons rfl (by kernel_rfl) (fun W hG hF => by go_simp <;> rfl) (by simp only [Act.put, List.setIfInBounds_toArray, List.set_cons_zero, List.set_cons_succ]; rfl) ?_
        refine dep_nil fun W hG hF => ?_
        replace hop := hop.keeps (keeps_drew hG) (by simp)
        replace hP := hP.below_ (keeps_drew hG).nil_below
        clear hF hG cf tl
        go_wp2_with fail
        have cf : ∀ W2, Keeps [] W.drew W2 → W2.cell? ⟨wr.heap.size, 4, none⟩ = some (.int .u64 ver) ∧ W2.cell? ⟨wr.heap.size, 5, none⟩ = some (.int .u64 done) := fun W2 hk =>
          ⟨(hk.cell (p := ⟨wr.heap.size, 4, none⟩) hop.lt (by simp)).trans (hop.cell 4), (hk.cell (p := ⟨wr.heap.size, 5, none⟩) hop.lt (by simp)).trans (hop.cell 5)⟩
        refine wp_region_calls 25 [(3, .known (.bool dd)), (7, .known (.bool dd)), (15, .some_ fun v W2 => ToldV W.heap.size (pickV LB ver done) v W2), (21, .some_ fun v W2 => RefTold LR (pickV LB ver done) v), (22, .known (.bool true))] (by kernel_rfl) (by kernel_rfl) rfl
          ⟨trivial, trivial, fun v W1 W2 hk hφ => toldV_keeps hφ hk, fun v W1 W2 hk hφ => hφ, trivial, trivial⟩ ?_
        simp only [List.take_succ_cons, List.take_zero, List.drop_succ_cons, List.drop_zero]
        iterate 2 refine dep_reckons rfl (by kernel_rfl) (fun W hG hF => by go_simp <;> rfl) (by simp only [Act.put, List.setIfInBounds_toArray, List.set_cons_zero, List.set_cons_succ]; rfl) ?_
        refine dep_reckons rfl (by kernel_rfl) (fun W hG hF => by have hcf := cf W hG; go_simp <;> rfl) (by simp only [Act.put, List.setIfInBounds_toArray, List.set_cons_zero, List.set_cons_succ]; rfl) ?_
        refine dep_known (c := .bool dd) rfl (by kernel_rfl) (fun W hG hF => ?_) (by simp only [Act.put, List.setIfInBounds_toArray, List.set_cons_zero, List.set_cons_succ]; rfl) ?_
        · unfold opGives
          go_simp
          have bw := (keeps_drew hG).nil_below
          have hPW := hP.below_ bw
          refine (Dirty_any _ _ _ LB done W hPW.b hP.short).mono ?_
          rintro e w2 ⟨rfl, rfl⟩
          exact ⟨_, rfl, by rw [HDD2.out], Keeps.refl _ _⟩
        iterate 2 refine dep_reckons rfl (by kernel_rfl) (fun W hG hF => by go_simp <;> rfl) (by simp only [Act.put, List.setIfInBounds_toArray, List.set_cons_zero, List.set_cons_succ]; rfl) ?_
        refine dep_reckons rfl (by kernel_rfl) (fun W hG hF => by have hcf := cf W hG; go_simp <;> rfl) (by simp only [Act.put, List.setIfInBounds_toArray, List.set_cons_zero, List.set_cons_succ]; rfl) ?_
        refine dep_known (c := .bool dd) rfl (by kernel_rfl) (fun W hG hF => ?_) (by simp only [Act.put, List.setIfInBounds_toArray, List.set_cons_zero, List.set_cons_succ]; rfl) ?_
        · unfold opGives
          go_simp
          have bw := (keeps_drew hG).nil_below
          have hPW := hP.below_ bw
          refine (refDirty_any _ _ LR done W hPW.r hsm).mono ?_
          rintro e w2 ⟨rfl, hb2⟩
          exact ⟨_, rfl, by rw [HDD.out], Keeps.of_below hb2 []⟩
        iterate 4 refine dep_reckons rfl (by kernel_rfl) (fun W hG hF => by go_simp <;> rfl) (by simp only [Act.put, List.setIfInBounds_toArray, List.set_cons_zero, List.set_cons_succ]; rfl) ?_
        refine dep_reckons rfl (by kernel_rfl) (fun W hG hF => by have hcf := cf W hG; go_simp <;> rfl) (by simp only [Act.put, List.setIfInBounds_toArray, List.set_cons_zero, List.set_cons_succ]; rfl) ?_
        refine dep_reckons rfl (by kernel_rfl) (fun W hG hF => by go_simp <;> rfl) (by simp only [Act.put, List.setIfInBounds_toArray, List.set_cons_zero, List.set_cons_succ]; rfl) ?_
        refine dep_reckons rfl (by kernel_rfl) (fun W hG hF => by have hcf := cf W hG; go_simp <;> rfl) (by simp only [Act.put, List.setIfInBounds_toArray, List.set_cons_zero, List.set_cons_succ]; rfl) ?_
        refine dep_some rfl (by kernel_rfl) (fun W hG hF => ?_) (fun v15 => ?_)
        · unfold opGives
          go_simp
          have bw := (keeps_drew hG).nil_below
          have hPW := hP.below_ bw
          have hsW := (keeps_drew hG).size
          refine (Pick_any _ _ _ LB ver done W hPW.b hP.short hP.rising).mono ?_
          rintro e w2 ⟨⟨A1, c1, rfl, ho1⟩, hb2⟩
          exact ⟨_, rfl, ⟨A1, c1, rfl, own_rebase ho1 fun j hj => Nat.le_trans hsW (own_ge ho1 j hj)⟩, Keeps.of_below hb2 []⟩
        simp only [Act.put, List.setIfInBounds_toArray, List.set_cons_zero, List.set_cons_succ]
        iterate 2 refine dep_reckons rfl (by kernel_rfl) (fun W hG hF => by go_simp <;> rfl) (by simp only [Act.put, List.setIfInBounds_toArray, List.set_cons_zero, List.set_cons_succ]; rfl) ?_
        refine dep_reckons rfl (by kernel_rfl) (fun W hG hF => by have hcf := cf W hG; go_simp <;> rfl) (by simp only [Act.put, List.setIfInBounds_toArray, List.set_cons_zero, List.set_cons_succ]; rfl) ?_
        refine dep_reckons rfl (by kernel_rfl) (fun W hG hF => by go_simp <;> rfl) (by simp only [Act.put, List.setIfInBounds_toArray, List.set_cons_zero, List.set_cons_succ]; rfl) ?_
        refine dep_reckons rfl (by kernel_rfl) (fun W hG hF => by have hcf := cf W hG; go_simp <;> rfl) (by simp only [Act.put, List.setIfInBounds_toArray, List.set_cons_zero, List.set_cons_succ]; rfl) ?_
        refine dep_some rfl (by kernel_rfl) (fun W hG hF => ?_) (fun v21 => ?_)
        · unfold opGives
          go_simp
          have bw := (keeps_drew hG).nil_below
          have hPW := hP.below_ bw
          have hsW := (keeps_drew hG).size
          refine (refPick_any _ _ LR ver done W hPW.r hsm hP.rising' hP.pos').mono ?_
          rintro e w2 ⟨⟨xp, h1, h2, rfl⟩, hb2⟩
          exact ⟨_, rfl, ⟨xp, h1, h2.trans HPP.out, rfl⟩, Keeps.of_below hb2 []⟩
        simp only [Act.put, List.setIfInBounds_toArray, List.set_cons_zero, List.set_cons_succ]
        refine dep_known (c := .bool true) rfl (by kernel_rfl) (fun W hG hF => ?_) (by simp only [Act.put, List.setIfInBounds_toArray, List.set_cons_zero, List.set_cons_succ]; rfl) ?_
        · obtain ⟨xp, hm, hxv, rfl⟩ := hF _ List.mem_cons_self (by kernel_rfl)
          obtain ⟨A1, c1, rfl, ho1⟩ := hF _ (List.mem_cons_of_mem _ List.mem_cons_self) (by kernel_rfl)
          unfold opGives
          go_simp
          have hPW := hP.below_ (keeps_drew hG).nil_below
          refine (like15_any (pickV LB ver done) A1 c1 xp W (Rd.of_own ho1) ((hPW.srcs'.or_none hm))).mono ?_
          rintro e w2 ⟨rfl, hb2⟩
          exact ⟨_, rfl, by rw [decide_eq_true hxv.symm], Keeps.of_below hb2 []⟩
        iterate 2 refine dep_reckons rfl (by kernel_rfl) (fun W hG hF => by go_simp <;> rfl) (by simp only [Act.put, List.setIfInBounds_toArray, List.set_cons_zero, List.set_cons_succ]; rfl) ?_
        refine dep_nil fun W hG hF => ?_
        replace hP := hP.below_ (keeps_drew hG).nil_below
        clear hF hG cf hop
        go_wp2_with fail
        exact ⟨⟨k + 1, SB, LB, LR, by omega, by omega, rfl, hP⟩, by simp [intOf]; omega⟩
    · have hex : ¬ (k < n) ∨ ¬ (k < 40) := by omega
      have fin : ∀ W, Below w.heap.size w W → Calls Try.prog 19 #[] W fun e w' => e = .returned (.bool true) ∧ Below w.heap.size w w' := fun W hW =>
        (awake15 W).mono fun e w9 ⟨h1, h2⟩ => ⟨h1, hW.trans (h2.mono hW.size)⟩
      clear hP
      rcases Nat.lt_or_ge k n with h1 | h1
      · have h2 : k = 40 := by omega
        subst h2
        go_wp2_with fail
        refine (fin _ hb).mono ?_
        rintro e w9 ⟨rfl, hb9⟩
        go_wp2_with fail
        go_ret
        exact ⟨rfl, hb9⟩
      · have h2 : k = n := by omega
        subst h2
        go_wp2_with fail
        refine (fin _ hb).mono ?_
        rintro e w9 ⟨rfl, hb9⟩
        go_wp2_with fail
        go_ret
        exact ⟨rfl, hb9⟩
end Go.Proofs.Ytgdmejkneabclaa
