/- The walk of SessPlays. -/
import Derived.Test.YtehfddafjemedaaLike16
namespace Go.Proofs.Ytehfddafjemedaa
open Go.RowKit
set_option linter.unusedSimpArgs false
set_option linter.unusedVariables false

/-- The table and the document's rows, alike. -/
structure SP (w wr : World) (v : Value) (R : Nat → SRow) : Prop where
  tab : TabAt wr w.heap.size R
  row : OwnRows wr (w.heap.size + 1) 31 v (rowsOf R)
  ok : TabOk R
  below : Below w.heap.size w wr
  size : w.heap.size + 1 ≤ wr.heap.size
theorem SP.below_ {w wr W : World} {v : Value} {R : Nat → SRow} (h : SP w wr v R) (hb : Below wr.heap.size wr W) : SP w W v R :=
  ⟨h.tab.below hb, h.row.below hb, h.ok, h.below.trans (hb.mono h.below.size), Nat.le_trans h.size hb.size⟩
theorem rowsOf_len (R : Nat → SRow) : (rowsOf R).length ≤ 6 := rowsL_len R 6

set_option maxRecDepth 100000 in
set_option maxHeartbeats 4000000 in
theorem SessPlays_walk (A : Option Addr) (n c : Nat) (rows : List SRow) (client num : Int) (w : World) (ha : RowsAt w A n rows) (hnn : ∀ r ∈ rows, 0 ≤ r.num) (h0 : 0 ≤ num) :
    Calls Try.prog 4 #[.slice A n c, .int .i64 client, .int .u64 num] w fun e w' => e = .returned (.bool true) ∧ Below w.heap.size w w' := by
  have hn := ha.2.1
  have HL := Lib.hid ha.1
  go_enter Try.func4, Try.ntmps4
  go_wp2_with fail
  refine (New_any _).mono ?_
  rintro e w1 ⟨rfl, ht1, hb1⟩
  have hP1 : SP w w1 (.slice none 0 0) (fun _ => .zero) := ⟨ht1, World.ownsRow_nil _ _ _ _, TabOk.zero, hb1, ht1.lt⟩
  clear ht1 hb1
  go_wp2_with fail
  go_loopw [8, 9] (fun v i wr => ∃ (k : Nat) (R : Nat → SRow), k ≤ n ∧ k ≤ 40 ∧ i = .int .i64 (k : Int) ∧ SP w wr v R) (fun _ i _ => n - (intOf i).toNat)
  case atStart => exact ⟨0, _, Nat.zero_le _, by omega, rfl, hP1⟩
  case round =>
    obtain ⟨k, R, hk, hk40, rfl, hP⟩ := hrel
    clear hP1
    by_cases hlt : k < n ∧ k < 40
    · obtain ⟨hl1, hl2⟩ := hlt
      obtain ⟨b, o, rfl, hc0, hbl⟩ := ha.five k hl1
      obtain ⟨r, hr⟩ : ∃ r, rows.getD k .zero = r := ⟨_, rfl⟩
      have hr0 : 0 ≤ r.num := by rw [← hr]; exact hnn _ (getD_mem_rows (by rw [HL.out]; exact hl1))
      rw [hr] at hc0
      have hcr := hc0.below (hP.below)
      obtain ⟨c0, c1, c2, c3, c4⟩ := hcr
      have cl := block_lt_of_cell c0
      have hsz := hP.size
      simp only at cl
      clear hr
      go_wp2_with fail
      refine (refSet_any _ _ _ r _ hP.row hP.size (by have := rowsOf_len R; omega)).mono ?_
      rintro e w2 ⟨⟨v2, rfl, hrow2⟩, hb2⟩
      rw [setErr_eq hP.ok r hr0]
      rw [setL_rows hP.ok r hr0] at hrow2
      have ht2 := hP.tab.below hb2
      have hB2 := hP.below.trans (hb2.mono hP.below.size)
      have hs2 := hb2.size
      have hok2 := hP.ok.set r
      obtain ⟨E, hE⟩ : ∃ E, setErr R r = E := ⟨_, rfl⟩
      have HE := Lib.hid hE
      rw [hE]
      clear c0 c1 c2 c3 c4 cl hE hb2
      go_wp2_with fail
      refine (Get_any _ client R _ ht2).mono ?_
      rintro e w3 ⟨rfl, hb3⟩
      have hB3 : Below w2.heap.size w2 (w3.alloc (.cells #[.int .i64 (getR R client).cl, .int .u64 (getR R client).num, .int .u64 (getR R client).seq, .int .i64 (getR R client).code, .int .u64 (getR R client).ver] 28)) := hb3.trans ((Below.refl _ w3).alloc hb3.size _)
      obtain ⟨x, hx⟩ : ∃ x, getR R client = x := ⟨_, rfl⟩
      rw [hx] at hB3 ⊢
      simp only [SRow.val]
      have hxb := Blk.new w3 28 #[.int .i64 x.cl, .int .u64 x.num, .int .u64 x.seq, .int .i64 x.code, .int .u64 x.ver]
      have hs3 := hb3.size
      have hc3 := (hc0.below hB2).below hb3
      obtain ⟨c0, c1, c2, c3, c4⟩ := hc3
      have cl := block_lt_of_cell c0
      simp only at cl
      clear hx hb3
      go_wp2_with fail
      generalize (w3.alloc (.cells #[.int .i64 x.cl, .int .u64 x.num, .int .u64 x.seq, .int .i64 x.code, .int .u64 x.ver] 28)) = w4 at hB3 hxb ⊢
      clear c0 c1 c2 c3 c4 cl
      refine (ours_any r w4).mono ?_
      rintro e w5 ⟨rfl, hb5⟩
      have hB5 := hB3.trans (hb5.mono hB3.size)
      have ht5 := ht2.below hB5
      have hrow5 := hrow2.below hB5
      have hxb5 := hxb.below hb5 hxb.lt
      clear hb5 hxb hB3
      go_wp2_with fail
      refine (Set_any _ r R w5 ht5).mono ?_
      rintro e w6 ⟨rfl, ht6, hk6⟩
      rw [HE.out]
      have hg2 := ht2.lt
      have hs5 := hB5.size
      have hrow6 : OwnRows w6 (w.heap.size + 1) 31 v2 (rowsOf (setTab R r)) := own_keeps hrow5 hk6 fun j hj hm => by
        have h1 := own_ge hrow5 j hj
        have h2 : j = w.heap.size := by simpa using hm
        omega
      have hxb6 := hxb5.keeps hk6 (by simp; omega)
      have hB6 : Below w.heap.size w w6 := (hB2.trans (hB5.mono hB2.size)).trans (hk6.below (by omega) (by simp))
      obtain ⟨R2, hR2⟩ : ∃ R2, setTab R r = R2 := ⟨_, rfl⟩
      rw [hR2] at hrow6 ht6 hok2
      have hs6 := hk6.size
      have tE : (E != E) = false := by simp
      have hcw := hc0.below hB6
      obtain ⟨c0, c1, c2, c3, c4⟩ := hcw
      have cl := block_lt_of_cell c0
      simp only at cl
      clear hrow5 hrow2 hxb5 ht5 ht2 hk6 hB5 hB2 hR2
      go_wp2_with fail
      refine (Get_any _ r.cl R2 w6 ht6).mono ?_
      rintro e w7 ⟨rfl, hb7⟩
      obtain ⟨y, hy⟩ : ∃ y, getR R2 r.cl = y := ⟨_, rfl⟩
      obtain ⟨is, his⟩ : ∃ is, hasR R2 r.cl = is := ⟨_, rfl⟩
      rw [hy, his]
      simp only [SRow.val]
      have HY := Lib.hid hy
      have HI := Lib.hid his
      have hs7 := hb7.size
      have hxb7 := hxb6.below hb7 hxb6.lt
      have hB7 := hB6.trans (hb7.mono hB6.size)
      have ht7 := ht6.below hb7
      have hrow7 := hrow6.below hb7
      have hc7 := hc0.below hB7
      clear c0 c1 c2 c3 c4 cl hxb6 hb7 ht6 hrow6 hB6 hy his tE
      obtain ⟨c0, c1, c2, c3, c4⟩ := hc7
      have cl := block_lt_of_cell c0
      have x0 := hxb7.cell 0
      have x1 := hxb7.cell 1
      have x2 := hxb7.cell 2
      have x3 := hxb7.cell 3
      have x4 := hxb7.cell 4
      have xz := hxb7.frozen
      have xl := hxb7.lt
      simp only [List.getElem?_toArray, List.getElem?_cons_zero, List.getElem?_cons_succ] at x0 x1 x2 x3 x4 cl
      have hbx : b ≠ w3.heap.size := by omega
      go_wp2_with fail
      have hk8 := (((((Keeps.refl [w3.heap.size] w7).setCell (p := ⟨w3.heap.size, 0, none⟩) (.inl (by simp)) (.int .i64 y.cl)).setCell (p := ⟨w3.heap.size, 1, none⟩) (.inl (by simp)) (.int .u64 y.num)).setCell (p := ⟨w3.heap.size, 2, none⟩) (.inl (by simp)) (.int .u64 y.seq)).setCell (p := ⟨w3.heap.size, 3, none⟩) (.inl (by simp)) (.int .i64 y.code)).setCell (p := ⟨w3.heap.size, 4, none⟩) (.inl (by simp)) (.int .u64 y.ver)
      have hB8 := hB7.trans (hk8.below hB7.size (by simp; omega))
      have hP8 : SP w (((((w7.setCell ⟨w3.heap.size, 0, none⟩ (.int .i64 y.cl)).setCell ⟨w3.heap.size, 1, none⟩ (.int .u64 y.num)).setCell ⟨w3.heap.size, 2, none⟩ (.int .u64 y.seq)).setCell ⟨w3.heap.size, 3, none⟩ (.int .i64 y.code)).setCell ⟨w3.heap.size, 4, none⟩ (.int .u64 y.ver)) v2 R2 :=
        ⟨((((ht7.far (a := ⟨w3.heap.size, 0, none⟩) (by simp; omega) _).far (a := ⟨w3.heap.size, 1, none⟩) (by simp; omega) _).far (a := ⟨w3.heap.size, 2, none⟩) (by simp; omega) _).far (a := ⟨w3.heap.size, 3, none⟩) (by simp; omega) _).far (a := ⟨w3.heap.size, 4, none⟩) (by simp; omega) _,
          own_keeps hrow7 hk8 fun j hj hm => own_blk_ne hrow7 hxb7 (by decide) j hj (by simpa using hm), hok2, hB8, by have := hk8.size; omega⟩
      have hxb8 : Blk (((((w7.setCell ⟨w3.heap.size, 0, none⟩ (.int .i64 y.cl)).setCell ⟨w3.heap.size, 1, none⟩ (.int .u64 y.num)).setCell ⟨w3.heap.size, 2, none⟩ (.int .u64 y.seq)).setCell ⟨w3.heap.size, 3, none⟩ (.int .i64 y.code)).setCell ⟨w3.heap.size, 4, none⟩ (.int .u64 y.ver)) w3.heap.size 28 #[.int .i64 y.cl, .int .u64 y.num, .int .u64 y.seq, .int .i64 y.code, .int .u64 y.ver] := ((((hxb7.set_ 0 _).set_ 1 _).set_ 2 _).set_ 3 _).set_ 4 _
      clear c0 c1 c2 c3 c4 cl x0 x1 x2 x3 x4 xz xl hxb7 hB7 ht7 hrow7 hk8 hB8 hbx hok2
      generalize (((((w7.setCell ⟨w3.heap.size, 0, none⟩ (.int .i64 y.cl)).setCell ⟨w3.heap.size, 1, none⟩ (.int .u64 y.num)).setCell ⟨w3.heap.size, 2, none⟩ (.int .u64 y.seq)).setCell ⟨w3.heap.size, 3, none⟩ (.int .i64 y.code)).setCell ⟨w3.heap.size, 4, none⟩ (.int .u64 y.ver)) = w8 at hP8 hxb8 ⊢
      obtain ⟨A2, d2, rfl, hld, hdm⟩ := hP8.row.form
      have hl6 := rowsOf_len R2
      obtain ⟨L, hL⟩ : ∃ L, rowsOf R2 = L := ⟨_, rfl⟩
      have HLL := Lib.hid hL
      have hrr := hP8.row.rows
      rw [hL] at hl6 hrr ⊢
      have HG : Hid (getL L r.cl = y) := Lib.hid (by rw [← HLL.out, getL_rows hP8.ok.placed]; exact HY.out)
      have HH : Hid (hasL L r.cl = is) := Lib.hid (by rw [← HLL.out, hasL_rows hP8.ok.placed]; exact HI.out)
      clear hL
      refine (refGet_any A2 L.length d2 L r.cl w8 hrr).mono ?_
      rintro e w9 ⟨rfl, hb9⟩
      rw [HG.out, HH.out]
      simp only [SRow.val]
      have hP9 := hP8.below_ hb9
      have hxb9 := hxb8.below hb9 hxb8.lt
      clear hP8 hxb8 hrr hb9
      go_wp2_with fail
      have hX10 : Below w9.heap.size w9 (w9.alloc (.cells #[.int .i64 y.cl, .int .u64 y.num, .int .u64 y.seq, .int .i64 y.code, .int .u64 y.ver] 31)) := (Below.refl _ _).alloc (Nat.le_refl _) _
      have hyb := Blk.new w9 31 #[.int .i64 y.cl, .int .u64 y.num, .int .u64 y.seq, .int .i64 y.code, .int .u64 y.ver]
      have hxb := hxb9.below hX10 hxb9.lt
      generalize (w9.alloc (.cells #[.int .i64 y.cl, .int .u64 y.num, .int .u64 y.seq, .int .i64 y.code, .int .u64 y.ver] 31)) = w10 at hX10 hyb hxb ⊢
      have hP10 := hP9.below_ hX10
      obtain ⟨J1, hJ1⟩ : ∃ J, judgeR R2 client num = J := ⟨_, rfl⟩
      obtain ⟨J2, hJ2⟩ : ∃ J, judgeR R2 r.cl num = J := ⟨_, rfl⟩
      have K1 : Hid (judgeL L client num = J1) := Lib.hid (by rw [← HLL.out, judgeL_rows hP10.ok.placed hP10.ok.pos _ _ h0]; exact hJ1)
      have K2 : Hid (judgeL L r.cl num = J2) := Lib.hid (by rw [← HLL.out, judgeL_rows hP10.ok.placed hP10.ok.pos _ _ h0]; exact hJ2)
      have M1 := Lib.hid hJ1
      have M2 := Lib.hid hJ2
      have tis : (is != is) = false := by simp
      have tj1 : (J1 != J1) = false := by simp
      have tj2 : (J2 != J2) = false := by simp
      have tln : ((L.length : Int) != (L.length : Int)) = false := by simp
      have tkn : (k : Int) < (n : Int) := by omega
      clear hJ1 hJ2 hP9 hxb9 hX10 hP
      have cf : ∀ W, Keeps [] w10.drew W → (W.cell? ⟨w3.heap.size, 0, none⟩ = some (.int .i64 y.cl) ∧ W.cell? ⟨w3.heap.size, 1, none⟩ = some (.int .u64 y.num) ∧ W.cell? ⟨w3.heap.size, 2, none⟩ = some (.int .u64 y.seq) ∧ W.cell? ⟨w3.heap.size, 3, none⟩ = some (.int .i64 y.code) ∧ W.cell? ⟨w3.heap.size, 4, none⟩ = some (.int .u64 y.ver)) ∧
          (W.cell? ⟨w9.heap.size, 0, none⟩ = some (.int .i64 y.cl) ∧ W.cell? ⟨w9.heap.size, 1, none⟩ = some (.int .u64 y.num) ∧ W.cell? ⟨w9.heap.size, 2, none⟩ = some (.int .u64 y.seq) ∧ W.cell? ⟨w9.heap.size, 3, none⟩ = some (.int .i64 y.code) ∧ W.cell? ⟨w9.heap.size, 4, none⟩ = some (.int .u64 y.ver)) ∧ W.cell? ⟨b, o + k * 5, none⟩ = some (.int .i64 r.cl) := fun W hk => by
        have hb := (keeps_drew hk).nil_below
        have h1 := hxb.below hb hxb.lt
        have h2 := hyb.below hb hyb.lt
        exact ⟨⟨h1.cell 0, h1.cell 1, h1.cell 2, h1.cell 3, h1.cell 4⟩, ⟨h2.cell 0, h2.cell 1, h2.cell 2, h2.cell 3, h2.cell 4⟩, (hc0.below (hP10.below_ hb).below).1⟩
      have hP := hP10
      clear hP10
      refine wp_region_calls 53 [(2, .known y.val), (11, .known (.int .i64 (L.length : Int))), (18, .some_ fun v W => OwnRows W w10.heap.size 28 v L), (20, .known (.bool true)), (27, .known (.int .i64 J1)), (31, .known (.int .i64 J1)), (42, .known (.int .i64 J2)), (50, .known (.int .i64 J2))] (by kernel_rfl) (by kernel_rfl) rfl
        ⟨trivial, trivial, fun v W1 W2 hk hφ => own_keeps hφ hk (by simp), trivial, trivial, trivial, trivial, trivial, trivial⟩ ?_
      simp only [List.take_succ_cons, List.take_zero, List.drop_succ_cons, List.drop_zero]
      iterate 2 refine dep_reckons rfl (by kernel_rfl) (fun W hG hF => by have hcf := cf W hG; go_simp <;> rfl) (by simp only [Act.put, List.setIfInBounds_toArray, List.set_cons_zero, List.set_cons_succ]; rfl) ?_
      refine dep_known (c := y.val) rfl (by kernel_rfl) (fun W hG hF => ?_) (by simp only [Act.put, List.setIfInBounds_toArray, List.set_cons_zero, List.set_cons_succ]; rfl) ?_
      · have bw := (keeps_drew hG).nil_below
        have hPW := hP.below_ bw
        unfold opGives
        go_simp
        refine (ours_any y W).mono ?_
        rintro e w2 ⟨rfl, hb2⟩
        exact ⟨_, rfl, rfl, Keeps.of_below hb2 []⟩
      refine dep_reckons (c := .bool false) rfl (by kernel_rfl) (fun W hG hF => by simp only [SRow.val]; go_simp) (by simp only [Act.put, List.setIfInBounds_toArray, List.set_cons_zero, List.set_cons_succ]; rfl) ?_
      iterate 7 refine dep_reckons rfl (by kernel_rfl) (fun W hG hF => by go_simp <;> rfl) (by simp only [Act.put, List.setIfInBounds_toArray, List.set_cons_zero, List.set_cons_succ]; rfl) ?_
      refine dep_known (c := .int .i64 (L.length : Int)) rfl (by kernel_rfl) (fun W hG hF => ?_) (by simp only [Act.put, List.setIfInBounds_toArray, List.set_cons_zero, List.set_cons_succ]; rfl) ?_
      · have bw := (keeps_drew hG).nil_below
        have hPW := hP.below_ bw
        unfold opGives
        go_simp
        refine (Len_any _ R2 W hPW.tab).mono ?_
        rintro e w2 ⟨rfl, hb2⟩
        exact ⟨_, rfl, by rw [HLL.out], Keeps.of_below hb2 []⟩
      iterate 6 refine dep_reckons rfl (by kernel_rfl) (fun W hG hF => by go_simp <;> rfl) (by simp only [Act.put, List.setIfInBounds_toArray, List.set_cons_zero, List.set_cons_succ]; rfl) ?_
      refine dep_some rfl (by kernel_rfl) (fun W hG hF => ?_) (fun v18 => ?_)
      · have bw := (keeps_drew hG).nil_below
        have hPW := hP.below_ bw
        unfold opGives
        go_simp
        refine (All_any _ R2 W hPW.tab).mono ?_
        rintro e w2 ⟨⟨v, rfl, ho⟩, hb2⟩
        rw [HLL.out] at ho
        exact ⟨_, rfl, own_rebase ho fun j hj => Nat.le_trans (keeps_drew hG).size (own_ge ho j hj), Keeps.of_below hb2 []⟩
      simp only [Act.put, List.setIfInBounds_toArray, List.set_cons_zero, List.set_cons_succ]
      refine dep_reckons rfl (by kernel_rfl) (fun W hG hF => by go_simp <;> rfl) (by simp only [Act.put, List.setIfInBounds_toArray, List.set_cons_zero, List.set_cons_succ]; rfl) ?_
      refine dep_known (c := .bool true) rfl (by kernel_rfl) (fun W hG hF => ?_) (by simp only [Act.put, List.setIfInBounds_toArray, List.set_cons_zero, List.set_cons_succ]; rfl) ?_
      · have ho := hF _ List.mem_cons_self (by kernel_rfl)
        have bw := (keeps_drew hG).nil_below
        have hPW := hP.below_ bw
        obtain ⟨A8, c8, rfl, _, _⟩ := OwnRows.form ho
        have hr2 := hPW.row
        rw [HLL.out] at hr2
        unfold opGives
        go_simp
        refine (like_same A8 A2 L.length c8 d2 L W (OwnRows.rows ho) hr2.rows).mono ?_
        rintro e w2 ⟨rfl, hb2⟩
        exact ⟨_, rfl, rfl, Keeps.of_below hb2 []⟩
      iterate 6 refine dep_reckons rfl (by kernel_rfl) (fun W hG hF => by go_simp <;> rfl) (by simp only [Act.put, List.setIfInBounds_toArray, List.set_cons_zero, List.set_cons_succ]; rfl) ?_
      refine dep_known (c := .int .i64 J1) rfl (by kernel_rfl) (fun W hG hF => ?_) (by simp only [Act.put, List.setIfInBounds_toArray, List.set_cons_zero, List.set_cons_succ]; rfl) ?_
      · have bw := (keeps_drew hG).nil_below
        have hPW := hP.below_ bw
        unfold opGives
        go_simp
        refine (Judge_any _ client num R2 W hPW.tab).mono ?_
        rintro e w2 ⟨rfl, rfl⟩
        exact ⟨_, rfl, by rw [M1.out], Keeps.refl [] _⟩
      iterate 3 refine dep_reckons rfl (by kernel_rfl) (fun W hG hF => by go_simp <;> rfl) (by simp only [Act.put, List.setIfInBounds_toArray, List.set_cons_zero, List.set_cons_succ]; rfl) ?_
      refine dep_known (c := .int .i64 J1) rfl (by kernel_rfl) (fun W hG hF => ?_) (by simp only [Act.put, List.setIfInBounds_toArray, List.set_cons_zero, List.set_cons_succ]; rfl) ?_
      · have bw := (keeps_drew hG).nil_below
        have hPW := hP.below_ bw
        unfold opGives
        go_simp
        refine (refJudge_any A2 L.length d2 L client num W (by have h := hPW.row; rw [HLL.out] at h; exact h.rows)).mono ?_
        rintro e w2 ⟨rfl, hb2⟩
        exact ⟨_, rfl, by rw [K1.out], Keeps.of_below hb2 []⟩
      iterate 8 refine dep_reckons rfl (by kernel_rfl) (fun W hG hF => by go_simp <;> rfl) (by simp only [Act.put, List.setIfInBounds_toArray, List.set_cons_zero, List.set_cons_succ]; rfl) ?_
      refine dep_reckons rfl (by kernel_rfl) (fun W hG hF => by have hcf := cf W hG; go_simp <;> rfl) (by simp only [Act.put, List.setIfInBounds_toArray, List.set_cons_zero, List.set_cons_succ]; rfl) ?_
      refine dep_reckons rfl (by kernel_rfl) (fun W hG hF => by go_simp <;> rfl) (by simp only [Act.put, List.setIfInBounds_toArray, List.set_cons_zero, List.set_cons_succ]; rfl) ?_
      refine dep_known (c := .int .i64 J2) rfl (by kernel_rfl) (fun W hG hF => ?_) (by simp only [Act.put, List.setIfInBounds_toArray, List.set_cons_zero, List.set_cons_succ]; rfl) ?_
      · have bw := (keeps_drew hG).nil_below
        have hPW := hP.below_ bw
        unfold opGives
        go_simp
        refine (Judge_any _ r.cl num R2 W hPW.tab).mono ?_
        rintro e w2 ⟨rfl, rfl⟩
        exact ⟨_, rfl, by rw [M2.out], Keeps.refl [] _⟩
      iterate 5 refine dep_reckons rfl (by kernel_rfl) (fun W hG hF => by go_simp <;> rfl) (by simp only [Act.put, List.setIfInBounds_toArray, List.set_cons_zero, List.set_cons_succ]; rfl) ?_
      refine dep_reckons rfl (by kernel_rfl) (fun W hG hF => by have hcf := cf W hG; go_simp <;> rfl) (by simp only [Act.put, List.setIfInBounds_toArray, List.set_cons_zero, List.set_cons_succ]; rfl) ?_
      refine dep_reckons rfl (by kernel_rfl) (fun W hG hF => by go_simp <;> rfl) (by simp only [Act.put, List.setIfInBounds_toArray, List.set_cons_zero, List.set_cons_succ]; rfl) ?_
      refine dep_known (c := .int .i64 J2) rfl (by kernel_rfl) (fun W hG hF => ?_) (by simp only [Act.put, List.setIfInBounds_toArray, List.set_cons_zero, List.set_cons_succ]; rfl) ?_
      · have bw := (keeps_drew hG).nil_below
        have hPW := hP.below_ bw
        unfold opGives
        go_simp
        refine (refJudge_any A2 L.length d2 L r.cl num W (by have h := hPW.row; rw [HLL.out] at h; exact h.rows)).mono ?_
        rintro e w2 ⟨rfl, hb2⟩
        exact ⟨_, rfl, by rw [K2.out], Keeps.of_below hb2 []⟩
      iterate 2 refine dep_reckons rfl (by kernel_rfl) (fun W hG hF => by go_simp <;> rfl) (by simp only [Act.put, List.setIfInBounds_toArray, List.set_cons_zero, List.set_cons_succ]; rfl) ?_
      refine dep_nil fun W hG hF => ?_
      replace hP := hP.below_ (keeps_drew hG).nil_below
      clear hF hG cf
      rw [← HLL.out]
      go_wp2_with fail
      exact ⟨⟨k + 1, R2, by omega, by omega, rfl, hP⟩, by simp [intOf]; omega⟩
    · have hstop : ¬ (k < n) ∨ ¬ (k < 40) := by omega
      have hb := hP.below
      clear hP
      rcases Nat.lt_or_ge k n with h1 | h1
      · have h2 : k = 40 := by omega
        subst h2
        go_wp2_with fail
        refine (awake16 _).mono ?_
        rintro e w2 ⟨rfl, hb2⟩
        go_wp2_with fail
        go_ret
        exact ⟨rfl, hb.trans (hb2.mono hb.size)⟩
      · have h2 : k = n := by omega
        subst h2
        go_wp2_with fail
        refine (awake16 _).mono ?_
        rintro e w2 ⟨rfl, hb2⟩
        go_wp2_with fail
        go_ret
        exact ⟨rfl, hb.trans (hb2.mono hb.size)⟩
end Go.Proofs.Ytehfddafjemedaa
