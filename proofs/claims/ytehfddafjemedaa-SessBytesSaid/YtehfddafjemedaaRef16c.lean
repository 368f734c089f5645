/- Contracts: the document's Set (layer 16); the table's All and Len; the law's like. -/
import Derived.Test.YtehfddafjemedaaRef16b
namespace Go.Proofs.Ytehfddafjemedaa
open Go.RowKit
set_option linter.unusedSimpArgs false
set_option linter.unusedVariables false

/-- Rows of the call's own. -/
def OwnRows (w : World) (B : Nat) (T : TypeId) (v : Value) (l : List SRow) : Prop := w.ownsRow B T 5 v l.length (l.flatMap cl5)
theorem OwnRows.form {w : World} {B : Nat} {T : TypeId} {v : Value} {l : List SRow} (h : OwnRows w B T v l) : ∃ A c, v = .slice A l.length c ∧ l.length ≤ c ∧ c ≤ maxLen := own_form h
theorem OwnRows.rows {w : World} {B : Nat} {T : TypeId} {A : Option Addr} {c : Nat} {l : List SRow} (h : OwnRows w B T (.slice A l.length c) l) : RowsAt w A l.length l := RowsAt.of_own h
theorem OwnRows.below {w w' : World} {B : Nat} {T : TypeId} {v : Value} {l : List SRow} (h : OwnRows w B T v l) (hb : Below w.heap.size w w') : OwnRows w' B T v l := own_below h hb (own_lt h)

set_option maxHeartbeats 1000000 in
theorem refSet_any (B : Nat) (v : Value) (l : List SRow) (r : SRow) (w : World) (h : OwnRows w B 31 v l) (hB : B ≤ w.heap.size) (hn : l.length ≤ 900) :
    Calls Try.prog 19 #[v, r.val] w fun e w' => (∃ v', e = .returned (.tuple #[v', .int .i64 (setErrL l r)]) ∧ OwnRows w' B 31 v' (setL l r)) ∧ Below w.heap.size w w' := by
  obtain ⟨A, c, rfl, hc, hcm⟩ := h.form
  have hb0 : Below w.heap.size w (w.alloc (.cells #[.int .i64 r.cl, .int .u64 r.num, .int .u64 r.seq, .int .i64 r.code, .int .u64 r.ver] 31)) := (Below.refl _ _).alloc (Nat.le_refl _) _
  have hx0 := Blk.new w 31 #[.int .i64 r.cl, .int .u64 r.num, .int .u64 r.seq, .int .i64 r.code, .int .u64 r.ver]
  obtain ⟨E, hE⟩ : ∃ E, setErrL l r = E := ⟨_, rfl⟩
  have HE := Lib.hid hE
  rw [hE]
  clear hE
  simp only [SRow.val]
  go_enter Try.func19, Try.ntmps19
  go_wp2_with fail
  generalize (w.alloc (.cells #[.int .i64 r.cl, .int .u64 r.num, .int .u64 r.seq, .int .i64 r.code, .int .u64 r.ver] 31)) = w0 at hb0 hx0 ⊢
  refine (Fine_any r _).mono ?_
  rintro e w1 ⟨rfl, hb1⟩
  have hB1 := hb0.trans (hb1.mono hb0.size)
  have hx1 := hx0.below hb1 hx0.lt
  have x0 := hx1.cell 0
  have x1 := hx1.cell 1
  have x2 := hx1.cell 2
  have x3 := hx1.cell 3
  have x4 := hx1.cell 4
  have xl := hx1.lt
  simp only [List.getElem?_toArray, List.getElem?_cons_zero, List.getElem?_cons_succ] at x0 x1 x2 x3 x4
  clear hb0 hx0 hb1
  cases hf : r.fine with
  | false =>
    have h1 : Hid (E = 1) := Lib.hid (by rw [← HE.out]; unfold setErrL; rw [hf]; rfl)
    have h2 : Hid (setL l r = l) := Lib.hid (by unfold setL; rw [if_neg (by rw [HE.out, h1.out]; decide)])
    clear hf
    go_wp2_with fail
    exact bodyPost_ret (v := .tuple #[.slice A l.length c, .int .i64 1]) (by simp [results, Try.results19, go_sem]) rfl ⟨⟨_, by rw [h1.out], by rw [h2.out]; exact h.below hB1⟩, hB1⟩
  | true =>
    have hr1 : RowsAt w1 A l.length l := (h.below hB1).rows
    obtain ⟨J, hJ⟩ : ∃ J, judgeL l r.cl r.num = J := ⟨_, rfl⟩
    have HJ := Lib.hid hJ
    have HF := Lib.hid hf
    clear hf hJ
    go_wp2_with fail
    refine (refJudge_any A l.length c l r.cl r.num w1 hr1).mono ?_
    rintro e w2 ⟨rfl, hb2⟩
    rw [HJ.out]
    have hB2 := hB1.trans (hb2.mono hB1.size)
    have hx2 := hx1.below hb2 hx1.lt
    by_cases hj : J = 0
    · have h1 : Hid (E = 0) := Lib.hid (by rw [← HE.out]; unfold setErrL; rw [HF.out, HJ.out, hj]; rfl)
      have h2 : Hid (setL l r = putL l r) := Lib.hid (by unfold setL; rw [if_pos (by rw [HE.out, h1.out])])
      have t1 : (J != 0) = false := by simp [hj]
      clear hj x0 x1 x2 x3 x4 xl
      have x0 := hx2.cell 0
      have x1 := hx2.cell 1
      have x2 := hx2.cell 2
      have x3 := hx2.cell 3
      have x4 := hx2.cell 4
      have xl := hx2.lt
      simp only [List.getElem?_toArray, List.getElem?_cons_zero, List.getElem?_cons_succ] at x0 x1 x2 x3 x4
      go_wp2_with fail
      refine (refPut_any A l.length c l r w2 (hr1.below hb2) hc hn).mono ?_
      rintro e w3 ⟨⟨A3, c3, rfl, ho3⟩, hb3⟩
      obtain ⟨L3, hL3⟩ : ∃ L3, putL l r = L3 := ⟨_, rfl⟩
      rw [hL3] at ho3 h2 ⊢
      clear x0 x1 x2 x3 x4 xl hL3
      have hs2 := hB2.size
      go_wp2_with fail
      exact bodyPost_ret (v := .tuple #[.slice A3 L3.length c3, .int .i64 0]) (by simp [results, Try.results19, go_sem]) rfl ⟨⟨_, by rw [h1.out], by rw [h2.out]; exact own_rebase ho3 fun k hk => by have := own_ge ho3 k hk; omega⟩, hB2.trans (hb3.mono hB2.size)⟩
    · have h1 : Hid (E = 12) := Lib.hid (by rw [← HE.out]; unfold setErrL; rw [HF.out, HJ.out, if_neg (by decide), if_pos hj])
      have h2 : Hid (setL l r = l) := Lib.hid (by unfold setL; rw [if_neg (by rw [HE.out, h1.out]; decide)])
      have t1 : (J != 0) = true := by simp [hj]
      clear hj
      go_wp2_with fail
      exact bodyPost_ret (v := .tuple #[.slice A l.length c, .int .i64 12]) (by simp [results, Try.results19, go_sem]) rfl ⟨⟨_, by rw [h1.out], by rw [h2.out]; exact h.below hB2⟩, hB2⟩

theorem info_row : (Try.prog.info? 28).map (fun i => (i.zero, i.size, i.bytes)) = some (some (.agg #[.int .i64 0, .int .u64 0, .int .u64 0, .int .i64 0, .int .u64 0]), 5, 40) := by kernel_rfl

set_option maxHeartbeats 2000000 in
theorem All_any (g : Nat) (R : Nat → SRow) (w : World) (ht : TabAt w g R) :
    Calls Try.prog 23 #[.pointer (some ⟨g, 0, none⟩)] w fun e w' => (∃ v, e = .returned v ∧ OwnRows w' w.heap.size 28 v (rowsOf R)) ∧ Below w.heap.size w w' := by
  obtain ⟨i0, hi0, hz0, hz1, hz2⟩ := info_parts info_row
  go_enter Try.func23, Try.ntmps23
  go_wp2_with fail
  go_loopw [3, 7] (fun v i wr => ∃ (k : Nat) (l : List SRow), k ≤ 6 ∧ i = .int .i64 (k : Int) ∧ OwnRows wr w.heap.size 28 v l ∧ Hid (l = rowsL R (List.range k)) ∧ Below w.heap.size w wr) (fun _ i _ => 6 - (intOf i).toNat)
  case atStart => exact ⟨0, [], by omega, rfl, World.ownsRow_nil _ _ _ _, Lib.hid rfl, Below.refl _ _⟩
  case round =>
    obtain ⟨k, l, hk, rfl, ho, Hl, hb⟩ := hrel
    obtain ⟨Av, cv, rfl, hlc, hcm⟩ := ho.form
    have hs := hb.size
    by_cases hlt : k < 6
    · have tk : (k : Int) < 6 := by omega
      have hin : inRange ((k : Int) + 1) = true := by unfold inRange; exact decide_eq_true (by omega)
      have e1 : ((k : Int) + 1 - 1).toNat = k := by omega
      have hlen : l.length ≤ 6 := by rw [Hl.out]; have := rowsL_len R k; omega
      have hg := Get_any g ((k : Int) + 1) R wr (ht.below hb)
      by_cases hz : (R k).num = 0
      · have hhas : hasR R ((k : Int) + 1) = false := by simp [hasR, hin, e1, hz]
        have hget : getR R ((k : Int) + 1) = .zero := by simp [getR, hin, e1, hz]
        rw [hhas, hget] at hg
        have HL2 : Hid (l = rowsL R (List.range (k + 1))) := Lib.hid (by rw [rowsL_snoc, Hl.out, if_neg (by simpa using hz), List.append_nil])
        clear hin e1 hz hhas hget hlt
        go_wp2_with fail
        refine hg.mono ?_
        rintro e w1 ⟨rfl, hb1⟩
        have hB1 : ∀ X, Below wr.heap.size wr (w1.alloc X) := fun X => hb1.trans ((Below.refl _ w1).alloc hb1.size _)
        simp only [SRow.val]
        clear hg
        go_wp2_with fail
        exact ⟨⟨k + 1, l, by omega, rfl, ho.below (hB1 _), HL2, hb.trans ((hB1 _).mono hs)⟩, by simp [intOf]; omega⟩
      · have hhas : hasR R ((k : Int) + 1) = true := by simp [hasR, hin, e1, hz]
        have hget : getR R ((k : Int) + 1) = R k := by simp [getR, hin, e1, hz]
        rw [hhas, hget] at hg
        have HL2 : Hid (l ++ [R k] = rowsL R (List.range (k + 1))) := Lib.hid (by rw [rowsL_snoc, Hl.out, if_pos hz])
        obtain ⟨r, hr⟩ : ∃ r, R k = r := ⟨_, rfl⟩
        rw [hr] at hg HL2
        clear hin e1 hz hhas hget hlt hr
        go_wp2_with fail
        refine hg.mono ?_
        rintro e w1 ⟨rfl, hb1⟩
        have hB1 : ∀ X, Below wr.heap.size wr (w1.alloc X) := fun X => hb1.trans ((Below.refl _ w1).alloc hb1.size _)
        simp only [SRow.val]
        clear hg
        go_wp2_with (at_builtin; refine wpList_append_src rfl (.tmp 18) (.tmp 20) _ rfl w.heap.size 28 i0 _ 5 40 Try.underlying44 hi0 hz0 hz1 hz2 rfl (by omega) (.slice Av l.length cv) l.length (l.flatMap cl5) rfl ?d0 (some ⟨w1.heap.size + 1, 0, none⟩) 1 1 (cl5 r) rfl ?d1 ?d2 ?d3 ?d4 ?d5)
        case d0 => exact (ho.below ((hB1 _).trans ((Below.refl _ _).alloc (hB1 _).size _)) : OwnRows _ _ _ _ _)
        case d1 =>
          have := Src.one (w1.alloc (.cells #[.int .i64 r.cl, .int .u64 r.num, .int .u64 r.seq, .int .i64 r.code, .int .u64 r.ver] 28)) #[.int .i64 r.cl, .int .u64 r.num, .int .u64 r.seq, .int .i64 r.code, .int .u64 r.ver] 28 (by simp [Value.oneCell'])
          simpa [cl5] using this
        case d2 => unfold maxLen; omega
        case d3 => omega
        case d4 => have := hb1.size; simp; omega
        case d5 =>
          intro v' w6 ho6 hgr _
          have hk6 := Keeps.of_grown hgr
          have hB6 : Below w.heap.size w w6 := (hb.trans (((hB1 _).trans ((Below.refl _ _).alloc (hB1 _).size _)).mono hs)).trans (hk6.below (by have := hb1.size; simp; omega) fun j hj => own_ge ho j (by simpa using hj))
          have ho6' : OwnRows w6 w.heap.size 28 v' (l ++ [r]) := by
            unfold OwnRows
            have e1 : (l ++ [r]).length = l.length + 1 := by simp
            have e2 : (l ++ [r]).flatMap cl5 = l.flatMap cl5 ++ cl5 r := by simp
            rw [e1, e2]
            exact ho6
          clear hgr hk6 hB1 hb1 ho6 ho hb
          go_wp2_with fail
          exact ⟨⟨k + 1, _, by omega, rfl, ho6', HL2, hB6⟩, by simp [intOf]; omega⟩
    · obtain rfl : k = 6 := by omega
      clear hlt
      go_wp2_with fail
      go_ret
      exact ⟨⟨_, rfl, by unfold rowsOf; rw [← Hl.out]; exact ho⟩, hb⟩

theorem Len_any (g : Nat) (R : Nat → SRow) (w : World) (ht : TabAt w g R) :
    Calls Try.prog 21 #[.pointer (some ⟨g, 0, none⟩)] w fun e w' => e = .returned (.int .i64 ((rowsOf R).length : Int)) ∧ Below w.heap.size w w' := by
  have hl := rowsL_len R 6
  have hl' : (rowsOf R).length ≤ 6 := hl
  clear hl
  go_enter Try.func21, Try.ntmps21
  go_wp2_with fail
  refine (All_any g R w ht).mono ?_
  rintro e w1 ⟨⟨v, rfl, ho⟩, hb⟩
  obtain ⟨A, c, rfl, _, _⟩ := ho.form
  obtain ⟨L, hL⟩ : ∃ L, rowsOf R = L := ⟨_, rfl⟩
  rw [hL] at hl' ⊢
  have HL := Lib.hid hL
  clear ho hL
  go_wp2_with fail
  go_ret
  exact ⟨by rw [HL.out]; rfl, hb⟩
end Go.Proofs.Ytehfddafjemedaa
