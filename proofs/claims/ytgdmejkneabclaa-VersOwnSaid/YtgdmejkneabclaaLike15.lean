/- Contracts of the law's ours, like, all, spoil (layer 15). -/
import Derived.Test.YtgdmejkneabclaaRef15e
namespace Go.Proofs.Ytgdmejkneabclaa
open Go.RowKit
set_option linter.unusedSimpArgs false
set_option linter.unusedVariables false

theorem ours15_any (x : VC) (w : World) : Calls Try.prog 35 #[x.agg] w fun e w' => e = .returned x.agg ∧ Below w.heap.size w w' := by
  go_enter Try.func35, Try.ntmps35
  simp only [VC.agg]
  go_wp2_with fail
  refine bodyPost_ret (v := x.agg) (by simp [results, Try.results35, go_sem, VC.agg]) rfl ⟨rfl, ?_⟩
  repeat (first | exact Below.refl _ _ | refine Below.setCell ?_ (by simp) _ | refine Below.alloc ?_ (by simp) _)

/-- The bytes of versions read as they say. -/
def Srcs (w : World) (l : List VC) : Prop := ∀ x ∈ l, Rd w x.A x.v.data.length x.v.data
theorem Srcs.below_ {w w' : World} {l : List VC} (h : Srcs w l) (hb : Below w.heap.size w w') : Srcs w' l := fun x hx => (h x hx).below_ hb
theorem Srcs.or_none {w : World} {l : List VC} (h : Srcs w l) {x : VC} (hx : x ∈ l ∨ x = noVC) : Rd w x.A x.v.data.length x.v.data := by
  rcases hx with hx | rfl
  · exact h x hx
  · exact Rd.nil _ _

set_option maxHeartbeats 1000000 in
theorem like15_any (v : Ver) (A : Option Addr) (c : Nat) (x : VC) (w : World) (ha : Rd w A v.data.length v.data) (hb : Rd w x.A x.v.data.length x.v.data) :
    Calls Try.prog 40 #[.agg #[.int .u64 v.ver, .int .u64 v.seq, .slice A v.data.length c], x.agg] w fun e w' => e = .returned (.bool (decide (v = x.v))) ∧ Below w.heap.size w w' := by
  have ha2 := (ha.alloc (.cells #[.int .u64 v.ver, .int .u64 v.seq, .slice A v.data.length c] 41)).alloc (.cells #[.int .u64 x.v.ver, .int .u64 x.v.seq, .slice x.A x.v.data.length x.c] 69)
  have hb2 := (hb.alloc (.cells #[.int .u64 v.ver, .int .u64 v.seq, .slice A v.data.length c] 41)).alloc (.cells #[.int .u64 x.v.ver, .int .u64 x.v.seq, .slice x.A x.v.data.length x.c] 69)
  have hbl : Below w.heap.size w ((w.alloc (.cells #[.int .u64 v.ver, .int .u64 v.seq, .slice A v.data.length c] 41)).alloc (.cells #[.int .u64 x.v.ver, .int .u64 x.v.seq, .slice x.A x.v.data.length x.c] 69)) :=
    ((Below.refl _ _).alloc (Nat.le_refl _) _).alloc (by simp) _
  go_enter Try.func40, Try.ntmps40
  simp only [VC.agg]
  go_wp2_with fail
  refine (refSame_any v x.v A x.A c x.c _ ha2 hb2).mono ?_
  rintro e w1 ⟨rfl, hb1⟩
  go_wp2_with fail
  go_ret
  exact ⟨rfl, hbl.trans (hb1.mono (by simp; omega))⟩

set_option maxRecDepth 100000 in
set_option maxHeartbeats 1000000 in
theorem all15_any (B base : Nat) (so sl : Value) (L l : List VC) (w : World) (hR : RowAt w B so L) (h : RefAt w base sl l) (hs : Srcs w l) (he : vs L = vs l) (hl : l.length ≤ 1000) :
    Calls Try.prog 38 #[so, sl] w fun e w' => e = .returned (.bool true) ∧ Below w.heap.size w w' := by
  have hlen : L.length = l.length := by have := congrArg List.length he; simpa using this
  obtain ⟨A, c, hsl, _, _⟩ := own_form h
  obtain ⟨A', c', hso, _, _⟩ := own_form hR.own
  rw [hlen] at hso
  rw [hsl, hso]
  have HS := Lib.hid hsl; have HO := Lib.hid hso; have HE := Lib.hid he; have HL := Lib.hid hlen
  clear hsl hso he hlen
  have tn : ((l.length : Int) != (l.length : Int)) = false := by simp
  go_enter Try.func38, Try.ntmps38
  go_wp2_with fail
  go_loopw [5] (fun i wr => ∃ k : Nat, k ≤ l.length ∧ i = .int .i64 k ∧ Below w.heap.size w wr) (fun i _ => l.length - (intOf i).toNat)
  case atStart => exact ⟨0, Nat.zero_le _, rfl, Below.refl _ _⟩
  case round =>
    obtain ⟨k, hk, rfl, hb⟩ := hrel
    by_cases hlt : k < l.length
    · have hl1 := HL.out
      obtain ⟨b, d, hf, hbl, e0, e1, e2⟩ := ref_at (own_below h hb (own_lt h)) k hlt noVC
      obtain ⟨b', d', hf', hbl', g0, g1, g2⟩ := (hR.below hb).at_ k (by omega) noVC
      rw [HS.out] at hf
      rw [hl1, HO.out] at hf'
      injection hf with i1 i2 i3
      injection hf' with j1 j2 j3
      subst i1 j1 i3 j3
      obtain ⟨x, hx⟩ : ∃ x, x = l.getD k noVC := ⟨_, rfl⟩
      obtain ⟨y, hy⟩ : ∃ y, y = L.getD k noVC := ⟨_, rfl⟩
      have hxy : y.v = x.v := by rw [hx, hy, ← getD_vs, ← getD_vs, HE.out]
      have hxm : x ∈ l := by rw [hx, List.getD_eq_getElem?_getD, List.getElem?_eq_getElem hlt]; exact List.getElem_mem _
      have hym : y ∈ L := by rw [hy, List.getD_eq_getElem?_getD, List.getElem?_eq_getElem (by omega)]; exact List.getElem_mem _
      have hrx := (hs x hxm).below_ hb
      have hry := Rd.of_own ((hR.below hb).data y hym)
      rw [← hx] at e0 e1 e2
      rw [← hy] at g0 g1 g2
      clear hx hy i2 j2 hl1
      go_wp2_with fail
      have cf : ∀ W, Keeps [] wr.drew W → W.cell? ⟨b, k * 3, none⟩ = some (.int .u64 x.v.ver) ∧ W.cell? ⟨b, k * 3 + 1, none⟩ = some (.int .u64 x.v.seq) ∧ W.cell? ⟨b, k * 3 + 2, none⟩ = some (.slice x.A x.v.data.length x.c) ∧
          W.cell? ⟨b', k * 3, none⟩ = some (.int .u64 y.v.ver) ∧ W.cell? ⟨b', k * 3 + 1, none⟩ = some (.int .u64 y.v.seq) ∧ W.cell? ⟨b', k * 3 + 2, none⟩ = some (.slice y.A y.v.data.length y.c) := fun W hk =>
        ⟨(hk.cell (p := ⟨b, _, none⟩) hbl (by simp)).trans e0, (hk.cell (p := ⟨b, _, none⟩) hbl (by simp)).trans e1, (hk.cell (p := ⟨b, _, none⟩) hbl (by simp)).trans e2,
          (hk.cell (p := ⟨b', _, none⟩) hbl' (by simp)).trans g0, (hk.cell (p := ⟨b', _, none⟩) hbl' (by simp)).trans g1, (hk.cell (p := ⟨b', _, none⟩) hbl' (by simp)).trans g2⟩
      clear e0 e1 e2 g0 g1 g2
      refine wp_region_calls 10 [(8, .known (.bool true))] (by kernel_rfl) (by kernel_rfl) rfl ⟨trivial, trivial⟩ ?_
      simp only [List.take_succ_cons, List.take_zero, List.drop_succ_cons, List.drop_zero]
      iterate 3 refine dep_reckons rfl (by kernel_rfl) (fun W hG hF => by go_simp <;> rfl) (by simp only [Act.put, List.setIfInBounds_toArray, List.set_cons_zero, List.set_cons_succ]; rfl) ?_
      refine dep_reckons (c := y.agg) rfl (by kernel_rfl) (fun W hG hF => by have hcf := cf W hG; simp only [VC.agg]; go_simp) (by simp only [Act.put, List.setIfInBounds_toArray, List.set_cons_zero, List.set_cons_succ]; rfl) ?_
      iterate 3 refine dep_reckons rfl (by kernel_rfl) (fun W hG hF => by go_simp <;> rfl) (by simp only [Act.put, List.setIfInBounds_toArray, List.set_cons_zero, List.set_cons_succ]; rfl) ?_
      refine dep_reckons (c := x.agg) rfl (by kernel_rfl) (fun W hG hF => by have hcf := cf W hG; simp only [VC.agg]; go_simp) (by simp only [Act.put, List.setIfInBounds_toArray, List.set_cons_zero, List.set_cons_succ]; rfl) ?_
      refine dep_known (c := .bool true) rfl (by kernel_rfl) (fun W hG hF => ?_) (by simp only [Act.put, List.setIfInBounds_toArray, List.set_cons_zero, List.set_cons_succ]; rfl) ?_
      · unfold opGives
        go_simp
        have hbw := (keeps_drew hG).nil_below
        refine (like15_any y.v y.A y.c x W (hry.below_ hbw) (hrx.below_ hbw)).mono ?_
        rintro e w2 ⟨rfl, hb2⟩
        exact ⟨_, rfl, by rw [decide_eq_true hxy], Keeps.of_below hb2 []⟩
      refine dep_reckons rfl (by kernel_rfl) (fun W hG hF => by go_simp <;> rfl) (by simp only [Act.put, List.setIfInBounds_toArray, List.set_cons_zero, List.set_cons_succ]; rfl) ?_
      refine dep_nil fun W hG hF => ?_
      have hbw := (keeps_drew hG).nil_below
      clear hF cf
      go_wp2_with fail
      exact ⟨⟨k + 1, by omega, rfl, hb.trans (hbw.mono hb.size)⟩, by simp [intOf]; omega⟩
    · go_wp2_with fail
      go_ret
      exact ⟨rfl, hb⟩

set_option maxHeartbeats 1000000 in
theorem spoil15_any (B : Nat) (A : Option Addr) (n c : Nat) (xs : List UInt8) (w : World) (h : w.ownsRow B 5 1 (.slice A n c) n (xs.map bv)) (hn : n ≤ 1000000) :
    Calls Try.prog 47 #[.slice A n c] w fun e w' => e = .returned (.tuple #[]) ∧ Keeps (Value.slice A n c).ownBlock.toList w w' ∧ ∃ ys : List UInt8, w'.ownsRow B 5 1 (.slice A n c) n (ys.map bv) := by
  go_enter Try.func47, Try.ntmps47
  go_wp2_with fail
  go_loopw [2] (fun i wr => ∃ (k : Nat) (ys : List UInt8), k ≤ n ∧ i = .int .i64 k ∧ wr.ownsRow B 5 1 (.slice A n c) n (ys.map bv) ∧ Keeps (Value.slice A n c).ownBlock.toList w wr) (fun i _ => n - (intOf i).toNat)
  case atStart => exact ⟨0, xs, Nat.zero_le _, rfl, h, Keeps.refl _ _⟩
  case round =>
    obtain ⟨k, ys, hk, rfl, ho, hkp⟩ := hrel
    by_cases hlt : k < n
    · obtain ⟨g, cap, hf, _, hgl⟩ := ho.form (by omega)
      injection hf with i1 i2 i3
      subst i1 i3
      have hyl : ys.length = n := by simpa using ho.1
      have m0 := ho.cellAt k (by omega)
      have fz := ho.frozenAt k
      have e0 : (ys.map bv)[k]? = some (.int .u8 ((ys.getD k 0).toNat : Int)) := by rw [List.getElem?_map, List.getElem?_eq_getElem (by omega)]; simp [bv, List.getD, List.getElem?_eq_getElem (show k < ys.length by omega)]
      rw [e0] at m0
      have hst := ho.stored k (bv ((ys.getD k 0) + 1))
      obtain ⟨y, hy⟩ : ∃ y, ys.getD k 0 = y := ⟨_, rfl⟩
      rw [hy] at m0 hst
      have hw8 : Hid (((y.toNat : Int) + 1) % 256 = (((y + 1).toNat : Nat) : Int)) := by
        show _ = _
        rw [UInt8.toNat_add]
        simp
      simp only [bv] at hst
      have HST := Lib.hid hst
      clear hst e0 hy i2
      go_wp2_with fail
      rw [hw8.out]
      have hst := HST.out.1
      have e1 : (ys.map bv).set k (.int .u8 (((y + 1).toNat : Nat) : Int)) = (ys.set k (y + 1)).map bv := by rw [List.map_set]; rfl
      rw [e1] at hst
      exact ⟨⟨k + 1, ys.set k (y + 1), by omega, rfl, hst, hkp.setCell (p := ⟨g, k, none⟩) (.inl (by simp [Value.ownBlock])) _⟩, by simp [intOf]; omega⟩
    · go_wp2_with fail
      exact bodyPost_end (by simp [results, Try.results47, go_sem]) rfl ⟨rfl, hkp, ys, ho⟩
end Go.Proofs.Ytgdmejkneabclaa
