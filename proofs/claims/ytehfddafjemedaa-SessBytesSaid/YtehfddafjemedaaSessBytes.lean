/- The walk of SessBytes. -/
import Derived.Test.YtehfddafjemedaaSb1
import Derived.Test.YtehfddafjemedaaSb2
import Derived.Test.YtehfddafjemedaaSb3
import Derived.Test.YtehfddafjemedaaSb4
import Derived.Test.YtehfddafjemedaaSessNil
namespace Go.Proofs.Ytehfddafjemedaa
open Go.RowKit
set_option linter.unusedSimpArgs false
set_option linter.unusedVariables false

/-- A row's numbers are in range. -/
def RowWf (r : SRow) : Prop := 0 ≤ r.num ∧ r.num < 18446744073709551616 ∧ r.seq < 18446744073709551616 ∧ 0 ≤ r.ver ∧ r.ver < 18446744073709551616
theorem mem_rowsOf {R : Nat → SRow} {y : SRow} : y ∈ rowsOf R ↔ ∃ k, k < 6 ∧ (R k).num ≠ 0 ∧ R k = y := by
  unfold rowsOf rowsL
  simp only [List.mem_map, List.mem_filter, List.mem_range, decide_eq_true_eq]
  constructor
  · rintro ⟨k, ⟨h1, h2⟩, h3⟩; exact ⟨k, h1, h2, h3⟩
  · rintro ⟨k, h1, h2, h3⟩; exact ⟨k, ⟨h1, h2⟩, h3⟩
theorem rowOk_set {R : Nat → SRow} {r : SRow} (h : ∀ y ∈ rowsOf R, RowOk y) (hw : RowWf r) : ∀ y ∈ rowsOf (setTab R r), RowOk y := by
  intro y hy
  unfold setTab at hy
  split at hy
  · rename_i he
    obtain ⟨hf, _⟩ := (setErr_zero R r).1 he
    obtain ⟨k, hk, hn, hR⟩ := mem_rowsOf.1 hy
    unfold setR at hn hR
    split at hR
    · rw [← hR]; exact ⟨hf, hw.2.1, hw.2.2.1, hw.2.2.2.1, hw.2.2.2.2⟩
    · rename_i hne
      rw [if_neg hne] at hn
      exact h y (mem_rowsOf.2 ⟨k, hk, hn, hR⟩)
  · exact h y hy

/-- A table that is told, and its rows. -/
theorem SRd.key {E : Int} {l : List SRow} {B : Nat} {e : Ending} {w : World} (h : SRd E l B e w) : ∃ tp : Value, e = .returned (.tuple #[tp, .int .i64 E]) ∧
    ∀ W, Below w.heap.size w W → Calls Try.prog 23 #[tp] W fun e w' => (∃ v, e = .returned v ∧ OwnRows w' w.heap.size 28 v (if E = 0 then l else [])) ∧ Below W.heap.size W w' := by
  rcases h with ⟨rfl, g, R, rfl, ht, _, rfl, _⟩ | ⟨hE, rfl⟩
  · refine ⟨_, rfl, fun W hW => (All_any g R W (ht.below hW)).mono ?_⟩
    rintro e w' ⟨⟨v, rfl, ho⟩, hb⟩
    exact ⟨⟨v, rfl, by rw [if_pos rfl]; exact own_rebase ho fun j hj => Nat.le_trans hW.size (own_ge ho j hj)⟩, hb⟩
  · refine ⟨_, rfl, fun W hW => (All_nil W).mono ?_⟩
    rintro e w' ⟨rfl, hb⟩
    exact ⟨⟨_, rfl, by rw [if_neg hE]; exact World.ownsRow_nil _ _ _ _⟩, hb⟩

/-- The table and the document's rows, alike. -/
structure SB (w wr : World) (v : Value) (R : Nat → SRow) : Prop where
  tab : TabAt wr w.heap.size R
  row : OwnRows wr (w.heap.size + 1) 31 v (rowsOf R)
  ok : TabOk R
  rows : ∀ y ∈ rowsOf R, RowOk y
  below : Below w.heap.size w wr
  size : w.heap.size + 1 ≤ wr.heap.size
theorem rowsOf_len6 (R : Nat → SRow) : (rowsOf R).length ≤ 6 := rowsL_len R 6

set_option maxRecDepth 100000 in
set_option maxHeartbeats 16000000 in
theorem SessBytes_walk (A : Option Addr) (n c : Nat) (rows : List SRow) (B : Option Addr) (m d : Nat) (xs : List UInt8) (w : World) (ha : RowsAt w A n rows) (hwf : ∀ r ∈ rows, RowWf r) (hx : Rd w B m xs) (hd : m ≤ d) (hd2 : d ≤ 9223372036854775807) :
    Calls Try.prog 9 #[.slice A n c, .slice B m d] w fun e w' => e = .returned (.bool true) ∧ Below w.heap.size w w' := by
  have hn := ha.2.1
  have HL := Lib.hid ha.1
  go_enter Try.func9, Try.ntmps9
  go_wp2_with fail
  refine (New_any _).mono ?_
  rintro e w1 ⟨rfl, ht1, hb1⟩
  have hP1 : SB w w1 (.slice none 0 0) (fun _ => .zero) := ⟨ht1, World.ownsRow_nil _ _ _ _, TabOk.zero, fun y hy => (by simp [rowsOf, rowsL, SRow.zero] at hy), hb1, ht1.lt⟩
  clear ht1 hb1
  go_wp2_with fail
  go_loopw [6, 7] (fun v i wr => ∃ (k : Nat) (R : Nat → SRow), k ≤ n ∧ k ≤ 40 ∧ i = .int .i64 (k : Int) ∧ SB w wr v R) (fun _ i _ => n - (intOf i).toNat)
  case atStart => exact ⟨0, _, Nat.zero_le _, by omega, rfl, hP1⟩
  case round =>
    obtain ⟨k, R, hk, hk40, rfl, hP⟩ := hrel
    clear hP1
    by_cases hlt : k < n ∧ k < 40
    · obtain ⟨hl1, hl2⟩ := hlt
      obtain ⟨b, o, rfl, hc0, hbl⟩ := ha.five k hl1
      obtain ⟨r, hr⟩ : ∃ r, rows.getD k .zero = r := ⟨_, rfl⟩
      have hrw : RowWf r := by rw [← hr]; exact hwf _ (getD_mem_rows (by rw [HL.out]; exact hl1))
      rw [hr] at hc0
      have hcr := hc0.below (hP.below)
      obtain ⟨c0, c1, c2, c3, c4⟩ := hcr
      have cl := block_lt_of_cell c0
      simp only at cl
      have tkn : (k : Int) < (n : Int) := by omega
      have tk40 : (k : Int) < 40 := by omega
      clear hr
      go_wp2_with fail
      refine (ours_any r wr).mono ?_
      rintro e w2 ⟨rfl, hb2⟩
      have ht2 := hP.tab.below hb2
      go_wp2_with fail
      refine (Set_any _ r R w2 ht2).mono ?_
      rintro e w3 ⟨rfl, ht3, hk3⟩
      have hrow3 : OwnRows w3 (w.heap.size + 1) 31 _ (rowsOf R) := own_keeps (hP.row.below hb2) hk3 fun j hj hm => by
        have h1 := own_ge (hP.row.below hb2) j hj
        have h2 : j = w.heap.size := by simpa using hm
        omega
      have hB3 : Below w.heap.size w w3 := (hP.below.trans (hb2.mono hP.below.size)).trans (hk3.below (Nat.le_trans hP.below.size hb2.size) (by simp))
      have hsz3 : w.heap.size + 1 ≤ w3.heap.size := Nat.le_trans (Nat.le_trans hP.size hb2.size) hk3.size
      have hcr := hc0.below hB3
      clear c0 c1 c2 c3 c4 cl
      obtain ⟨c0, c1, c2, c3, c4⟩ := hcr
      have cl := block_lt_of_cell c0
      simp only at cl
      clear hb2 ht2 hk3
      go_wp2_with fail
      refine (refSet_any _ _ _ r w3 hrow3 hsz3 (by have := rowsOf_len6 R; omega)).mono ?_
      rintro e w4 ⟨⟨v4, rfl, hrow4⟩, hb4⟩
      rw [setL_rows hP.ok r hrw.1] at hrow4
      have hP4 : SB w w4 v4 (setTab R r) := ⟨ht3.below hb4, hrow4, hP.ok.set r, rowOk_set hP.rows hrw, hB3.trans (hb4.mono hB3.size), Nat.le_trans hsz3 hb4.size⟩
      clear c0 c1 c2 c3 c4 cl hrow3 hrow4 ht3 hB3 hb4 hsz3 hP
      go_wp2_with fail
      go_roundw
      case rel => exact ⟨k + 1, _, by omega, by omega, by first | rfl | go_num, hP4⟩
      case measure => simp [intOf]; omega
    · obtain ⟨A2, d2, rfl, hld, hdm⟩ := hP.row.form
      have hL6 := rowsOf_len6 R
      have hasc : (rowsOf R).Pairwise (fun x y => x.cl < y.cl) := rowsL_asc hP.ok.placed _ (by decide) (fun k hk => by simpa using hk)
      have hput := fun H W ht hg hB ho => sessPut_any H w.heap.size H (.slice none 0 0) R W ht hg hB ho hP.rows
      have hrr := hP.row.rows
      have hbyt := fun W h => refBytes_any A2 (rowsOf R).length d2 (rowsOf R) W h hL6 hP.rows
      obtain ⟨tr1, tr2, tr3, tr4⟩ := tab_read hP.rows hL6 hasc
      have hTl := tabB_len (rowsOf R)
      have hT : TabAt wr w.heap.size R := hP.tab
      have hb := hP.below
      have hsz := hP.size
      clear hasc hP
      obtain ⟨L, hLL⟩ : ∃ L, rowsOf R = L := ⟨_, rfl⟩
      simp only [hLL] at hput hrr hbyt tr1 tr2 tr3 tr4 hTl hL6 hld ⊢
      obtain ⟨T, hTT⟩ : ∃ T, tabB L = T := ⟨_, rfl⟩
      simp only [hTT] at hput hbyt tr1 tr2 tr3 tr4 hTl
      have hTl2 : T.length ≤ 157 := by omega
      have HTl := Lib.hid hTl
      have HL6 := Lib.hid hL6
      clear hLL hTT hTl hL6
      have hcase : k = n ∨ (k < n ∧ k = 40) := by omega
      have hnew := fixNew_any 500 wr
      rw [show max (500 : Int) 0 = 500 from rfl] at hnew
      rcases hcase with rfl | ⟨hq1, rfl⟩
      iterate 2
        · go_wp2_with fail
          refine hnew.mono ?_
          rintro e w1' ⟨rfl, ho1, hb1⟩
          clear hnew
          have hT1 := hT.below hb1
          obtain ⟨H, hH⟩ : ∃ z, wr.heap.size = z := ⟨_, rfl⟩
          have hrr1 := hrr.below hb1
          have hbB1 := hb.trans (hb1.mono hb.size)
          have hHs := hb1.size
          rw [hH] at ho1 hHs hsz hb1
          have hp := hput H w1' hT1 (by omega) hHs ho1
          clear hput hT1 ho1
          go_wp2_with fail
          refine hp.mono ?_
          rintro e w2 ⟨rfl, ⟨sl2, ho2⟩, hb2⟩
          have hB2 : Below w.heap.size w w2 := hbB1.trans (hb2.mono (by omega))
          have hrr2 : RowsAt w2 A2 L.length L := hrr.below (by rw [hH]; exact hb1.trans hb2)
          have hdn := outDone_any H H sl2 ⟨T, 500, 0⟩ w2 ho2 (by simp only; omega)
          rw [show doneB ⟨T, 500, 0⟩ = T from if_pos rfl] at hdn
          clear hp hb1 hb2 hbB1 hHs ho2 hrr1
          go_wp2_with fail
          refine hdn.mono ?_
          rintro e w3 ⟨⟨A3, c3, rfl, ho3⟩, hb3⟩
          have hB3 := hB2.trans (hb3.mono hB2.size)
          have hrr3 := hrr2.below hb3
          obtain ⟨_, _, hv3, hlc3, _⟩ := own_form ho3
          have hc3 : T.length ≤ c3 := by injection hv3; omega
          have hr3 := Rd.of_own ho3
          have hby := hbyt w3 hrr3
          clear hdn hb3 hB2 hrr2 hv3 hlc3 ho3 hbyt
          go_wp2_with fail
          refine hby.mono ?_
          rintro e w4 ⟨⟨v4, rfl, ho4⟩, hb4⟩
          have hB4 := hB3.trans (hb4.mono hB3.size)
          have hrr4 := hrr3.below hb4
          have hr4 := hr3.below_ hb4
          obtain ⟨A4, c4, rfl, hlc4, _⟩ := own_form ho4
          have hsame := Same_any A3 A4 T.length T.length c3 c4 T T w4 hr4 (Rd.of_own ho4)
          rw [show decide (T = T) = true by simp] at hsame
          clear hby hb4 hB3 hrr3 hr3 ho4
          go_wp2_with fail
          refine hsame.mono ?_
          rintro e w5 ⟨rfl, hd5⟩
          have hb5 := hd5.below w4.heap.size
          have hB5 := hB4.trans (hb5.mono hB4.size)
          have hrr5 := hrr4.below hb5
          have hr5 := hr4.below_ hb5
          clear hsame hd5 hb5 hB4 hrr4 hr4
          go_wp2_with fail
          refine (inOfZ_any A3 T.length c3 T w5 hr5 hc3 (by omega)).mono ?_
          rintro e w6 ⟨⟨g6, rfl, hi6⟩, hb6⟩
          have hrd := sessRead_any _ g6 ⟨T, 0⟩ w6 hi6 (fun k hk => hk.2)
          rw [tr1, tr2, tr3, tr4] at hrd
          have hg6 := hi6.zone.1
          clear hr5 tr1 tr2 tr3 tr4
          go_wp2_with fail
          refine hrd.mono ?_
          rintro e w7 ⟨hS7, hi7, hk7⟩
          rcases hS7 with ⟨-, h7, R7, rfl, ht7, hok7, hR7, hh7⟩ | ⟨hbad, rfl⟩
          case inr => exact absurd rfl hbad
          have hbx7 := hb6.trans (hk7.below hb6.size (by simpa using hg6))
          have hB7 := hB5.trans (hbx7.mono hB5.size)
          have hrr7 := hrr5.below hbx7
          have hall := All_any h7 R7 w7 ht7
          rw [hR7] at hall
          clear hrd hi7 hk7 hi6 hb6 hbx7 hB5 hrr5
          go_wp2_with fail
          refine hall.mono ?_
          rintro e w8 ⟨⟨v8, rfl, ho8⟩, hb8⟩
          have hB8 := hB7.trans (hb8.mono hB7.size)
          have hrr8 := hrr7.below hb8
          obtain ⟨A8, c8, rfl, hlc8, _⟩ := ho8.form
          have hlike := like_same A8 A2 L.length c8 d2 L w8 ho8.rows hrr8
          clear hall hb8 hB7 hrr7 ho8 ht7
          go_wp2_with fail
          refine hlike.mono ?_
          rintro e w9 ⟨rfl, hb9⟩
          have hB9 := hB8.trans (hb9.mono hB8.size)
          clear hlike hb9 hB8 hrr8
          go_wp2_with fail
          have hcut := cut_any B m d 300 w9 (by omega) hd
          have hr9 := (rd_cut (m := 300) hx).below_ hB9
          obtain ⟨M, hM⟩ : ∃ z, min m 300 = z := ⟨_, rfl⟩
          obtain ⟨X, hX⟩ : ∃ z, xs.take 300 = z := ⟨_, rfl⟩
          rw [hM] at hcut hr9
          rw [hX] at hr9
          have hM3 : M ≤ 300 ∧ M ≤ d := by omega
          clear hM hX
          refine hcut.mono ?_
          rintro e w9' ⟨rfl, rfl⟩
          clear hcut
          go_wp2_with fail
          refine (inOfZ_any B M d X w9 hr9 hM3.2 (by omega)).mono ?_
          rintro e w10 ⟨⟨g10, rfl, hi10⟩, hb10⟩
          have hrd := sessRead_any _ g10 ⟨X, 0⟩ w10 hi10 (fun k hk => hk.2)
          have hrf := fun W (h : RIn W B M d ⟨X, 0⟩) => refRead16_any B M d ⟨X, 0⟩ W h
          obtain ⟨E, hE⟩ : ∃ z, rdE (uptoS ⟨X, 0⟩ 1 6) (uptoN ⟨X, 0⟩ 1 6) = z := ⟨_, rfl⟩
          obtain ⟨l, hl⟩ : ∃ z, rdL (uptoS ⟨X, 0⟩ 1 6) (uptoN ⟨X, 0⟩ 1 6) = z := ⟨_, rfl⟩
          obtain ⟨S, hS⟩ : ∃ z, rdS (uptoS ⟨X, 0⟩ 1 6) (uptoN ⟨X, 0⟩ 1 6) = z := ⟨_, rfl⟩
          rw [hE, hl, hS] at hrd
          simp only [hE, hl, hS] at hrf
          have hB10 := hB9.trans (hb10.mono hB9.size)
          have hg10 := hi10.zone.1
          have hr10 := hr9.below_ hb10
          clear hE hl hS
          go_wp2_with fail
          refine hrd.mono ?_
          rintro e w11 ⟨hS11, hi11, hk11⟩
          have hbx11 := hb10.trans (hk11.below hb10.size (by simpa using hg10))
          have hB11 := hB9.trans (hbx11.mono hB9.size)
          have hr11 := hr9.below_ hbx11
          obtain ⟨tp, rfl, hallF⟩ := hS11.key
          have hrf2 := hrf w11 ⟨hr11, hM3.2, by omega, fun h => absurd rfl h⟩
          unfold rinV at hrf2
          clear hrd hk11 hi10 hb10 hB9 hr9 hr10 hB10 hS11 hrf hbx11 hr11
          go_wp2_with fail
          refine hrf2.mono ?_
          rintro e w12 ⟨⟨A14, n14, c14, v15, rfl, hr14, ho15⟩, hb12⟩
          unfold rinV
          have hn14 := Lib.hid hr14.rd.1
          have hXb : Below w12.heap.size w12 (w12.alloc (.cells #[.slice A14 n14 c14, .int .i64 S.err] 76)) := (Below.refl _ _).alloc (Nat.le_refl _) _
          have hx14 := Blk.new w12 76 #[.slice A14 n14 c14, .int .i64 S.err]
          clear hrf2 hr14
          go_wp2_with fail
          generalize (w12.alloc (.cells #[.slice A14 n14 c14, .int .i64 S.err] 76)) = w13 at hXb hx14 ⊢
          obtain ⟨b14, hb14⟩ : ∃ z, w12.heap.size = z := ⟨_, rfl⟩
          refine (sessRead_nil w13).mono ?_
          rintro e w14 ⟨rfl, hbn⟩
          have hb11 : Below w11.heap.size w11 w14 := hb12.trans ((hXb.trans (hbn.mono hXb.size)).mono hb12.size)
          have hB14 := hB11.trans (hb11.mono hB11.size)
          have hi14 := hi11.below hb11
          have ho14 := (ho15.below hXb).below hbn
          have hx := hx14.below hbn hx14.lt
          have hall := fun W (h : Below w14.heap.size w14 W) => hallF W (hb11.trans (h.mono hb11.size))
          have hleft := fun W (h : Below w14.heap.size w14 W) => inLeft_any _ g10 S W (hi14.below h)
          simp only [hn14.out] at hleft
          obtain ⟨L2, hL2⟩ : ∃ z, (if E = 0 then l else []) = z := ⟨_, rfl⟩
          simp only [hL2] at hall ho14
          obtain ⟨A15, c15, rfl, _, _⟩ := ho14.form
          have hrows := ho14.rows
          rw [hb14] at hx ⊢
          clear hb12 hXb hbn hx14 hallF hi11 hb11 hB11 hi14 ho15 ho14 hL2 hb14
          go_wp2_with fail
          have tE : (E == E) = true := by simp
          have tn : ((n14 : Int) == (n14 : Int)) = true := by simp
          have cf : ∀ W, Keeps [] w14.drew W → (W.cell? ⟨b14, 0, none⟩ = some (.slice A14 n14 c14) ∧ b14 < W.heap.size) := fun W hk => by
            have h1 := hx.below (keeps_drew hk).nil_below hx.lt
            exact ⟨h1.cell 0, h1.lt⟩
          refine wp_region_calls 24 [(5, .some_ fun v W => OwnRows W w11.heap.size 28 v L2), (7, .known (.bool true)), (11, .known (.int .i64 (n14 : Int))), (22, .known (.bool true))] (by kernel_rfl) (by kernel_rfl) rfl
            ⟨fun v W1 W2 hk hφ => own_keeps hφ hk (by simp), trivial, trivial, trivial, trivial⟩ ?_
          simp only [List.take_succ_cons, List.take_zero, List.drop_succ_cons, List.drop_zero]
          iterate 2 refine dep_reckons rfl (by kernel_rfl) (fun W hG hF => by go_simp <;> rfl) (by simp only [Act.put, List.setIfInBounds_toArray, List.set_cons_zero, List.set_cons_succ]; rfl) ?_
          refine dep_reckons (c := .bool true) rfl (by kernel_rfl) (fun W hG hF => by go_simp) (by simp only [Act.put, List.setIfInBounds_toArray, List.set_cons_zero, List.set_cons_succ]; rfl) ?_
          iterate 2 refine dep_reckons rfl (by kernel_rfl) (fun W hG hF => by go_simp <;> rfl) (by simp only [Act.put, List.setIfInBounds_toArray, List.set_cons_zero, List.set_cons_succ]; rfl) ?_
          refine dep_some rfl (by kernel_rfl) (fun W hG hF => ?_) (fun v18 => ?_)
          · have bw := (keeps_drew hG).nil_below
            unfold opGives
            go_simp
            refine (hall W bw).mono ?_
            rintro e w2 ⟨⟨v, rfl, ho⟩, hb2⟩
            exact ⟨_, rfl, ho, Keeps.of_below hb2 []⟩
          simp only [Act.put, List.setIfInBounds_toArray, List.set_cons_zero, List.set_cons_succ]
          refine dep_reckons rfl (by kernel_rfl) (fun W hG hF => by go_simp <;> rfl) (by simp only [Act.put, List.setIfInBounds_toArray, List.set_cons_zero, List.set_cons_succ]; rfl) ?_
          refine dep_known (c := .bool true) rfl (by kernel_rfl) (fun W hG hF => ?_) (by simp only [Act.put, List.setIfInBounds_toArray, List.set_cons_zero, List.set_cons_succ]; rfl) ?_
          · have ho := hF _ List.mem_cons_self (by kernel_rfl)
            have bw := (keeps_drew hG).nil_below
            obtain ⟨A8', c8', rfl, _, _⟩ := OwnRows.form ho
            unfold opGives
            go_simp
            refine (like_same A8' A15 L2.length c8' c15 L2 W (OwnRows.rows ho) (hrows.below bw)).mono ?_
            rintro e w2 ⟨rfl, hb2⟩
            exact ⟨_, rfl, rfl, Keeps.of_below hb2 []⟩
          iterate 3 refine dep_reckons rfl (by kernel_rfl) (fun W hG hF => by go_simp <;> rfl) (by simp only [Act.put, List.setIfInBounds_toArray, List.set_cons_zero, List.set_cons_succ]; rfl) ?_
          refine dep_known (c := .int .i64 (n14 : Int)) rfl (by kernel_rfl) (fun W hG hF => ?_) (by simp only [Act.put, List.setIfInBounds_toArray, List.set_cons_zero, List.set_cons_succ]; rfl) ?_
          · have bw := (keeps_drew hG).nil_below
            unfold opGives
            go_simp
            refine (hleft W bw).mono ?_
            rintro e w2 ⟨rfl, rfl⟩
            exact ⟨_, rfl, rfl, Keeps.refl [] _⟩
          refine dep_reckons rfl (by kernel_rfl) (fun W hG hF => by go_simp <;> rfl) (by simp only [Act.put, List.setIfInBounds_toArray, List.set_cons_zero, List.set_cons_succ]; rfl) ?_
          refine dep_reckons rfl (by kernel_rfl) (fun W hG hF => by have hcf := cf W hG; go_simp <;> rfl) (by simp only [Act.put, List.setIfInBounds_toArray, List.set_cons_zero, List.set_cons_succ]; rfl) ?_
          refine dep_reckons rfl (by kernel_rfl) (fun W hG hF => by go_simp <;> rfl) (by simp only [Act.put, List.setIfInBounds_toArray, List.set_cons_zero, List.set_cons_succ]; rfl) ?_
          refine dep_reckons (c := .bool true) rfl (by kernel_rfl) (fun W hG hF => by go_simp) (by simp only [Act.put, List.setIfInBounds_toArray, List.set_cons_zero, List.set_cons_succ]; rfl) ?_
          iterate 6 refine dep_reckons rfl (by kernel_rfl) (fun W hG hF => by go_simp <;> rfl) (by simp only [Act.put, List.setIfInBounds_toArray, List.set_cons_zero, List.set_cons_succ]; rfl) ?_
          refine dep_known (c := .bool true) rfl (by kernel_rfl) (fun W hG hF => ?_) (by simp only [Act.put, List.setIfInBounds_toArray, List.set_cons_zero, List.set_cons_succ]; rfl) ?_
          · have bw := (keeps_drew hG).nil_below
            unfold opGives
            go_simp
            refine (awake16 W).mono ?_
            rintro e w2 ⟨rfl, hb2⟩
            exact ⟨_, rfl, rfl, Keeps.of_below hb2 []⟩
          refine dep_reckons rfl (by kernel_rfl) (fun W hG hF => by go_simp <;> rfl) (by simp only [Act.put, List.setIfInBounds_toArray, List.set_cons_zero, List.set_cons_succ]; rfl) ?_
          refine dep_nil fun W hG hF => ?_
          have hfin := hB14.trans ((keeps_drew hG).nil_below.mono hB14.size)
          clear hF hG cf
          go_wp2_with fail
          go_ret
          exact ⟨rfl, hfin⟩
end Go.Proofs.Ytehfddafjemedaa
