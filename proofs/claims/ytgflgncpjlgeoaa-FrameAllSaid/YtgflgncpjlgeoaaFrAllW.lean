/- The walk of FrameAll. -/
import Derived.Test.YtgflgncpjlgeoaaFrAllR
import Derived.Test.YtgflgncpjlgeoaaCut
namespace Go.Proofs.Ytgflgncpjlgeoaa
open Go.RowKit
set_option linter.unusedSimpArgs false
set_option linter.unusedVariables false

theorem flat2 (l : List FC) (i j : Nat) (hi : i < l.length) (hj : j < 2) : (l.flatMap FC.cells)[i * 2 + j]? = (l.getD i noFC).cells[j]? := by
  induction l generalizing i with
  | nil => simp at hi
  | cons x l ih =>
    rw [List.flatMap_cons]
    have hl : x.cells.length = 2 := rfl
    cases i with
    | zero => rw [List.getElem?_append_left (by omega)]; simp
    | succ i =>
      rw [List.getElem?_append_right (by omega), hl, show (i + 1) * 2 + j - 2 = i * 2 + j by omega, ih i (by simpa using hi)]
      simp
theorem fc_mem {l : List FC} {i : Nat} (hi : i < l.length) : l.getD i noFC ∈ l := by
  rw [List.getD_eq_getElem?_getD, List.getElem?_eq_getElem hi]
  exact List.getElem_mem _
theorem allIs_eq {l1 l2 : List FC} {L : List FrR} (h1 : AllIs l1 L) (h2 : AllIs l2 L) (i : Nat) : (l1.getD i noFC).k = (l2.getD i noFC).k ∧ (l1.getD i noFC).bs = (l2.getD i noFC).bs := by
  induction h1 generalizing l2 i with
  | nil => cases h2; exact ⟨rfl, rfl⟩
  | cons a t ih =>
    cases h2 with
    | cons b u =>
      cases i with
      | zero => exact ⟨a.1.trans b.1.symm, a.2.trans b.2.symm⟩
      | succ i => simpa using ih u i
/-- Frames that came in. -/
structure FrsAt (w : World) (A : Option Addr) (n : Nat) (l : List FC) : Prop where
  len : l.length = n
  n63 : n ≤ 9223372036854775807
  cells : 0 < n → ∃ b o, A = some ⟨b, o, none⟩ ∧ ∀ i, i < n → w.cell? ⟨b, o + i * 2, none⟩ = some (.int .u8 ((l.getD i noFC).k.toNat : Int)) ∧ w.cell? ⟨b, o + i * 2 + 1, none⟩ = some (.slice (l.getD i noFC).A (l.getD i noFC).bs.length (l.getD i noFC).c)
  rd : ∀ x ∈ l, Rd w x.A x.bs.length x.bs ∧ x.bs.length ≤ x.c
theorem row_cells {w : World} {B : Nat} {T : TypeId} {A : Option Addr} {n c : Nat} {l : List FC} (h : w.ownsRow B T 2 (.slice A n c) n (l.flatMap FC.cells)) (hl : l.length = n) (hn : 0 < n) :
    ∃ g, A = some ⟨g, 0, none⟩ ∧ g < w.heap.size ∧ ∀ i, i < n → w.cell? ⟨g, i * 2, none⟩ = some (.int .u8 ((l.getD i noFC).k.toNat : Int)) ∧ w.cell? ⟨g, i * 2 + 1, none⟩ = some (.slice (l.getD i noFC).A (l.getD i noFC).bs.length (l.getD i noFC).c) := by
  obtain ⟨g, cap, hv, _, hg⟩ := h.form hn
  have hA : A = some ⟨g, 0, none⟩ := by injection hv
  subst hA
  have hc : c = cap := by injection hv
  subst hc
  refine ⟨g, rfl, hg, fun i hi => ⟨?_, ?_⟩⟩
  · have h0 := h.cellAt (i * 2) (by omega)
    have h1 := flat2 l i 0 (by omega) (by omega)
    rw [Nat.add_zero] at h1
    rw [h0, h1]
    rfl
  · rw [h.cellAt (i * 2 + 1) (by omega), flat2 l i 1 (by omega) (by omega)]
    rfl

set_option maxRecDepth 100000 in
set_option maxHeartbeats 16000000 in
theorem FrameAll_walk (A : Option Addr) (n c : Nat) (l : List FC) (B : Option Addr) (m d : Nat) (ys : List UInt8) (w : World) (hl : FrsAt w A n l) (hy : Rd w B m ys) (hd : m ≤ d) :
    Calls Try.prog 3 #[.slice A n c, .slice B m d] w fun e w' => e = .returned (.bool true) ∧ Below w.heap.size w w' := by
  obtain ⟨i0, hi0, hz0, hz1, hz2⟩ := info_parts info_u8
  have hn := hl.n63
  have HL := Lib.hid hl.len
  have hcut := fun W => cut_any B m d 100 W (by omega) hd
  have hry := rd_cut (m := 100) hy
  obtain ⟨M0, hM0⟩ : ∃ z, min m 100 = z := ⟨_, rfl⟩
  obtain ⟨Y0, hY0⟩ : ∃ z, ys.take 100 = z := ⟨_, rfl⟩
  simp only [hM0] at hcut hry
  rw [hY0] at hry
  have hM1 : M0 ≤ 100 := by omega
  clear hM0 hY0
  go_enter Try.func3, Try.ntmps3
  go_wp2_with fail
  go_loopw [5, 6] (fun vb vi wr => ∃ (k : Nat) (bs : List UInt8), k ≤ n ∧ k ≤ 8 ∧ vi = .int .i64 (k : Int) ∧ bs.length ≤ 207 * k ∧ wr.ownsRow w.heap.size 5 1 vb bs.length (bs.map bv) ∧ Below w.heap.size w wr) (fun _ vi _ => n - (intOf vi).toNat)
  case atStart => exact ⟨0, [], Nat.zero_le _, by omega, rfl, by simp, World.ownsRow_nil _ _ _ _, Below.refl _ _⟩
  case round =>
    obtain ⟨k, bs, hk, hk8, rfl, hbl, ho, hb⟩ := hrel
    have hsz := hb.size
    by_cases hlt : k < n ∧ k < 8
    · obtain ⟨hl1, hl2⟩ := hlt
      obtain ⟨b, o, rfl, hcc⟩ := hl.cells (by omega)
      obtain ⟨p0, p1⟩ := hcc k hl1
      have hkl : k < l.length := by rw [HL.out]; exact hl1
      obtain ⟨hr, hrc⟩ := hl.rd _ (fc_mem hkl)
      obtain ⟨x, hx⟩ : ∃ z, l.getD k noFC = z := ⟨_, rfl⟩
      rw [hx] at p0 p1 hr hrc
      obtain ⟨xk, xA, xc, xb⟩ := x
      simp only at p0 p1 hr hrc
      have hgl := block_lt_of_cell p0
      simp only at hgl
      have q0 := (hb.cell (p := ⟨b, o + k * 2, none⟩) hgl).trans p0
      have q1 := (hb.cell (p := ⟨b, o + k * 2 + 1, none⟩) hgl).trans p1
      have hbw : b < wr.heap.size := by omega
      obtain ⟨xn, hxn⟩ : ∃ z, xb.length = z := ⟨_, rfl⟩
      rw [hxn] at p1 q1 hr hrc
      have HXN := Lib.hid hxn
      clear hcc hx hxn
      by_cases hlong : 200 < xn
      · have tl : (200 : Int) < (xn : Int) := by omega
        clear hlong
        go_wp2_with fail
        clear q0 q1
        refine (awake03 wr).mono ?_
        rintro e w9 ⟨rfl, hb9⟩
        have hfin := hb.trans (hb9.mono hb.size)
        clear hb9
        go_wp2_with fail
        go_ret
        exact ⟨rfl, hfin⟩
      · have tl : ¬ (200 : Int) < (xn : Int) := by omega
        have hrp := refPut3_any xk xA xn xc xb wr (hr.below_ hb) hrc (by omega)
        have hpl : (putF xk xb).length ≤ 207 := by
          by_cases he : putE xk xb = 0
          · rw [put_len he, HXN.out]; omega
          · unfold putF; rw [if_neg he]; simp
        obtain ⟨P, hP⟩ : ∃ z, putF xk xb = z := ⟨_, rfl⟩
        obtain ⟨E, hE⟩ : ∃ z, putE xk xb = z := ⟨_, rfl⟩
        rw [hP, hE] at hrp
        rw [hP] at hpl
        unfold frV at hrp
        obtain ⟨Av, cv, rfl, _, _⟩ := own_form ho
        clear hlong hP hE
        go_wp2_with fail
        refine hrp.mono ?_
        rintro e w2 ⟨⟨A2, c2, rfl, ho2⟩, hb2⟩
        have hB2 := hb.trans (hb2.mono hsz)
        have ho' := own_below ho hb2 (own_lt ho)
        have hs2 := hb2.size
        clear q0 q1 hrp
        go_wp2_with (at_builtin; refine wpList_append_src rfl (.tmp 46) (.tmp 47) _ rfl w.heap.size 5 i0 _ 1 1 Try.underlying23 hi0 hz0 hz1 hz2 rfl (by omega) (.slice Av bs.length cv) bs.length (bs.map bv) rfl ?c0 A2 P.length c2 (P.map bv) rfl ?c1 ?c2 ?c3 ?c4 ?c5)
        case c0 => exact ho'
        case c1 => exact (Rd.of_own ho2).src
        case c2 => unfold maxLen; omega
        case c3 => omega
        try (case c4 => exact hB2.size)
        case c5 =>
          intro v4 w4 ho4 hg4 _
          have hk4 := Keeps.of_grown hg4
          have hB4 : Below w.heap.size w w4 := hB2.trans (hk4.below hB2.size fun i hi => own_ge ho' i (by simpa using hi))
          have ho5 : w4.ownsRow w.heap.size 5 1 v4 (bs ++ P).length ((bs ++ P).map bv) := by rw [List.length_append, List.map_append]; exact ho4
          clear hg4 hk4 ho4 ho' ho2 ho hb2
          go_wp2_with fail
          exact ⟨⟨k + 1, bs ++ P, by omega, by omega, rfl, by simp only [List.length_append]; omega, ho5, hB4⟩, by simp [intOf]; omega⟩
    · obtain ⟨Av, cv, rfl, _, _⟩ := own_form ho
      rcases (by omega : k = n ∨ (k < n ∧ k = 8)) with rfl | ⟨hq1, rfl⟩
      ·
        go_wp2_with fail
        refine (hcut wr).mono ?_
        rintro e w2 ⟨rfl, rfl⟩
        clear hcut
        go_wp2_with (at_builtin; refine wpList_append_src rfl (.tmp 49) (.tmp 51) _ rfl w.heap.size 5 i0 _ 1 1 Try.underlying23 hi0 hz0 hz1 hz2 rfl (by omega) (.slice Av bs.length cv) bs.length (bs.map bv) rfl ?ac0 B M0 d (Y0.map bv) rfl ?ac1 ?ac2 ?ac3 ?ac4 ?ac5)
        case ac0 => exact ho
        case ac1 => exact (hry.below_ hb).src
        case ac2 => unfold maxLen; omega
        case ac3 => omega
        try (case ac4 => exact hsz)
        case ac5 =>
          intro v4 w4 ho4 hg4 _
          have hk4 := Keeps.of_grown hg4
          have hB4 : Below w.heap.size w w4 := hb.trans (hk4.below hsz fun i hi => own_ge ho i (by simpa using hi))
          have hYl := hry.1
          have ho5 : w4.ownsRow w.heap.size 5 1 v4 (bs.length + M0) ((bs ++ Y0).map bv) := by rw [List.map_append]; exact ho4
          obtain ⟨A4, c4, rfl, hc4, _⟩ := own_form ho5
          have hr4 := Rd.of_own ho5
          have hge4 := own_ge ho5
          have hlt4 := own_lt ho5
          obtain ⟨D, hD⟩ : ∃ z, bs ++ Y0 = z := ⟨_, rfl⟩
          obtain ⟨N, hN⟩ : ∃ z, bs.length + M0 = z := ⟨_, rfl⟩
          rw [hN] at hr4 hc4 ⊢
          rw [hN] at hge4 hlt4
          rw [hD] at hr4
          have hN9 : N ≤ 10000 := by omega
          clear hg4 hk4 ho4 ho ho5 hb hsz hD hN hYl hbl hry hy
          go_wp2_with fail
          refine (frameNew_nil w4).mono ?_
          rintro e w5 ⟨⟨gc, rfl, h5, hgc⟩, hb5⟩
          have hr5 := hr4.below_ hb5
          have hB5 := hB4.trans (hb5.mono hB4.size)
          have hs4 := hB4.size
          have hs5 := hb5.size
          have hA4 : 0 < N → ∀ ad, A4 = some ad → ad.block ≠ gc ∧ ad.block ≠ w4.heap.size := fun _ ad e => by
            have := hlt4 ad.block (by rw [e]; rfl)
            constructor <;> omega
          have hal := frameAll_any gc w4.heap.size 0 0 false A4 N c4 D w5 h5 hr5 hc4 (by omega) (fun h0 ad e => (hA4 h0 ad e).2) (by omega) (by omega)
          have hrl := fun W h => refAll3_any A4 N c4 D W h hc4 (by omega)
          obtain ⟨Q, hQ⟩ : ∃ z, allF D = z := ⟨_, rfl⟩
          rw [hQ] at hal
          simp only [hQ] at hrl
          obtain ⟨LL, NN, EE⟩ := Q
          simp only at hal hrl
          have hgc5 := h5.blk.lt
          have hgt5 := h5.tab.lt
          clear hQ hB4 hb5 hr4 h5
          go_wp2_with fail
          refine hal.mono ?_
          rintro e w6 ⟨⟨v6, l6, rfl, hO6⟩, ⟨st6, h6⟩, hk6⟩
          have hB6 : Below w.heap.size w w6 := hB5.trans (hk6.below hB5.size (by simp; omega))
          have hr6 : Rd w6 A4 N D := hr5.keeps hk6 (fun h0 ad e hm => by
            have := hA4 h0 ad e
            simp at hm
            rcases hm with hm | hm
            · exact this.1 hm
            · exact this.2 hm)
          obtain ⟨A6, c6, rfl, _, _⟩ := own_form hO6.row
          clear hal hk6 hr5 hB5
          go_wp2_with fail
          refine (hrl w6 hr6).mono ?_
          rintro e w7 ⟨⟨v7, l7, rfl, hO7⟩, hb7⟩
          have hB7 := hB6.trans (hb7.mono hB6.size)
          have h7 := h6.below hb7
          have hrow6 := own_below hO6.row hb7 (own_lt hO6.row)
          have hown6 : ∀ x ∈ l6, Rd w7 x.A x.bs.length x.bs := fun x hx => (Rd.of_own (hO6.own x hx)).below_ hb7
          have hrd7 := hO7.rd
          obtain ⟨A7, c7, rfl, _, _⟩ := own_form hO7.row
          have hrow7 := hO7.row
          have heq := allIs_eq hO6.is_ hO7.is_
          have hl6 := forall2_len hO6.is_
          have hl7 := forall2_len hO7.is_
          obtain ⟨M, hM⟩ : ∃ z, LL.length = z := ⟨_, rfl⟩
          rw [hM] at hl6 hl7
          rw [hl6] at hrow6 ⊢
          rw [hl7] at hrow7 ⊢
          rw [hM, Nat.zero_add] at h7
          have HL6 := Lib.hid hl6
          have HL7 := Lib.hid hl7
          have hM63 : M ≤ 9223372036854775807 := by
            obtain ⟨_, _, hv, h1, h2⟩ := own_form hrow7
            unfold maxLen at h2
            omega
          clear hO6 hO7 hb7 h6 hB6 hr6 hrl hl6 hl7 hM
          go_wp2_with fail
          go_loopw [16] (fun vi wr => ∃ i : Nat, i ≤ M ∧ vi = .int .i64 (i : Int) ∧ Below w7.heap.size w7 wr) (fun vi _ => M - (intOf vi).toNat)
          case atStart => exact ⟨0, Nat.zero_le _, rfl, Below.refl _ _⟩
          case round =>
            obtain ⟨i, hi, rfl, hbr⟩ := hrel
            have hszr := hbr.size
            by_cases hiM : i < M
            · obtain ⟨g6, rfl, hg6, hc6'⟩ := row_cells hrow6 HL6.out (by omega)
              obtain ⟨g7, rfl, hg7, hc7'⟩ := row_cells hrow7 HL7.out (by omega)
              obtain ⟨f0, f1⟩ := hc6' i hiM
              obtain ⟨g0, g1⟩ := hc7' i hiM
              obtain ⟨q1, q2⟩ := heq i
              have hx6 := hown6 _ (fc_mem (by rw [HL6.out]; exact hiM))
              have hx7 := (hrd7 _ (fc_mem (by rw [HL7.out]; exact hiM))).1
              obtain ⟨X, hX⟩ : ∃ z, l6.getD i noFC = z := ⟨_, rfl⟩
              obtain ⟨Y, hY⟩ : ∃ z, l7.getD i noFC = z := ⟨_, rfl⟩
              rw [hX] at f0 f1 q1 q2 hx6
              rw [hY] at g0 g1 q1 q2 hx7
              obtain ⟨Xk, XA, Xc, Xb⟩ := X
              obtain ⟨Yk, YA, Yc, Yb⟩ := Y
              simp only at f0 f1 g0 g1 q1 q2 hx6 hx7
              subst q1 q2
              obtain ⟨Z, hZ⟩ : ∃ z, Xb.length = z := ⟨_, rfl⟩
              rw [hZ] at f1 g1 hx6 hx7
              have hlk := fun W (h : Below w7.heap.size w7 W) => like_any Xk Xk XA YA Z Z Xc Yc Xb Xb W (hx6.below_ h) (hx7.below_ h)
              rw [show decide (Xk = Xk ∧ Xb = Xb) = true by simp] at hlk
              unfold frV at hlk
              have hcf : ∀ W, Keeps [] wr W → (W.cell? ⟨g6, i * 2, none⟩ = some (.int .u8 (Xk.toNat : Int)) ∧ W.cell? ⟨g6, i * 2 + 1, none⟩ = some (.slice XA Z Xc) ∧ g6 < W.heap.size ∧ W.cell? ⟨g7, i * 2, none⟩ = some (.int .u8 (Xk.toNat : Int)) ∧ W.cell? ⟨g7, i * 2 + 1, none⟩ = some (.slice YA Z Yc) ∧ g7 < W.heap.size) := fun W hk => by
                have hb9 := hbr.trans (hk.nil_below.mono hszr)
                have hs9 := hb9.size
                exact ⟨(hb9.cell (p := ⟨g6, _, none⟩) hg6).trans f0, (hb9.cell (p := ⟨g6, _, none⟩) hg6).trans f1, Nat.lt_of_lt_of_le hg6 hs9, (hb9.cell (p := ⟨g7, _, none⟩) hg7).trans g0, (hb9.cell (p := ⟨g7, _, none⟩) hg7).trans g1, Nat.lt_of_lt_of_le hg7 hs9⟩
              have ti : (i : Int) < (M : Int) := Int.ofNat_lt.2 hiM
              clear hc6' hc7' hX hY hZ f0 f1 g0 g1 heq hown6 hrd7
              go_wp2_with fail
              refine wp_region_calls 10 [(8, .known (.bool true))] (by kernel_rfl) (by kernel_rfl) rfl ⟨trivial, trivial⟩ ?_
              simp only [List.take_succ_cons, List.take_zero, List.drop_succ_cons, List.drop_zero]
              iterate 3 refine dep_reckons rfl (by kernel_rfl) (fun W hG hF' => by go_simp <;> rfl) (by simp only [Act.put, List.setIfInBounds_toArray, List.set_cons_zero, List.set_cons_succ]; rfl) ?_
              refine dep_reckons (c := .agg #[.int .u8 (Xk.toNat : Int), .slice XA Z Xc]) rfl (by kernel_rfl) (fun W hG hF' => ?_) (by simp only [Act.put, List.setIfInBounds_toArray, List.set_cons_zero, List.set_cons_succ]; rfl) ?_
              · obtain ⟨f0, f1, f2, g0, g1, g2⟩ := hcf W (keeps_drew hG)
                go_simp <;> rfl
              iterate 3 refine dep_reckons rfl (by kernel_rfl) (fun W hG hF' => by go_simp <;> rfl) (by simp only [Act.put, List.setIfInBounds_toArray, List.set_cons_zero, List.set_cons_succ]; rfl) ?_
              refine dep_reckons (c := .agg #[.int .u8 (Xk.toNat : Int), .slice YA Z Yc]) rfl (by kernel_rfl) (fun W hG hF' => ?_) (by simp only [Act.put, List.setIfInBounds_toArray, List.set_cons_zero, List.set_cons_succ]; rfl) ?_
              · obtain ⟨f0, f1, f2, g0, g1, g2⟩ := hcf W (keeps_drew hG)
                go_simp <;> rfl
              refine dep_known (c := .bool true) rfl (by kernel_rfl) (fun W hG hF' => ?_) (by simp only [Act.put, List.setIfInBounds_toArray, List.set_cons_zero, List.set_cons_succ]; rfl) ?_
              · have hkW := keeps_drew hG
                unfold opGives
                go_simp
                refine (hlk W (hbr.trans (hkW.nil_below.mono hszr))).mono ?_
                rintro e w9 ⟨rfl, hb9⟩
                exact ⟨_, rfl, rfl, Keeps.of_below hb9 []⟩
              refine dep_reckons rfl (by kernel_rfl) (fun W hG hF' => by go_simp <;> rfl) (by simp only [Act.put, List.setIfInBounds_toArray, List.set_cons_zero, List.set_cons_succ]; rfl) ?_
              refine dep_nil fun W hG hF2 => ?_
              have hbW := hbr.trans ((keeps_drew hG).nil_below.mono hszr)
              clear hF2 hG hcf hlk hbr
              go_wp2_with fail
              exact ⟨⟨i + 1, by omega, rfl, hbW⟩, by simp [intOf]; omega⟩
            · have hB8 := hB7.trans (hbr.mono hB7.size)
              have h8 := h7.below hbr
              have hcn := counts_any gc w4.heap.size _ _ st6 wr h8
              have ti : ¬ (i : Int) < (M : Int) := fun h => hiM (Int.ofNat_lt.1 h)
              have hwm : (M : Int) % 18446744073709551616 = (M : Int) := by omega
              have hwm2 : IntKind.u64.wrap (M : Int) = (M : Int) := by rw [IntKind.wrap_u64]; exact hwm
              clear heq hown6 hrd7 hrow6 hrow7 h7 hbr hB7 hiM
              by_cases hE : EE = 0
              · have te : (EE != 0) = false := by simp [hE]
                rw [show moreBad EE 0 = 0 from if_pos hE] at hcn
                clear hE
                go_wp2_with fail
                refine hcn.mono ?_
                rintro e w9 ⟨rfl, hb9⟩
                have hB9 := hB8.trans (hb9.mono hB8.size)
                clear hcn hb9 hB8 h8
                go_wp2_with fail
                refine (awake03 w9).mono ?_
                rintro e w9 ⟨rfl, hb9⟩
                have hfin := hB9.trans (hb9.mono hB9.size)
                clear hb9
                go_wp2_with fail
                go_ret
                exact ⟨rfl, hfin⟩
              · have te : (EE != 0) = true := by simp [hE]
                rw [show moreBad EE 0 = 1 from if_neg hE] at hcn
                clear hE
                go_wp2_with fail
                refine hcn.mono ?_
                rintro e w9 ⟨rfl, hb9⟩
                have hB9 := hB8.trans (hb9.mono hB8.size)
                clear hcn hb9 hB8 h8
                go_wp2_with fail
                refine (awake03 w9).mono ?_
                rintro e w9 ⟨rfl, hb9⟩
                have hfin := hB9.trans (hb9.mono hB9.size)
                clear hb9
                go_wp2_with fail
                go_ret
                exact ⟨rfl, hfin⟩
      ·
        go_wp2_with fail
        refine (hcut wr).mono ?_
        rintro e w2 ⟨rfl, rfl⟩
        clear hcut
        go_wp2_with (at_builtin; refine wpList_append_src rfl (.tmp 49) (.tmp 51) _ rfl w.heap.size 5 i0 _ 1 1 Try.underlying23 hi0 hz0 hz1 hz2 rfl (by omega) (.slice Av bs.length cv) bs.length (bs.map bv) rfl ?bc0 B M0 d (Y0.map bv) rfl ?bc1 ?bc2 ?bc3 ?bc4 ?bc5)
        case bc0 => exact ho
        case bc1 => exact (hry.below_ hb).src
        case bc2 => unfold maxLen; omega
        case bc3 => omega
        try (case bc4 => exact hsz)
        case bc5 =>
          intro v4 w4 ho4 hg4 _
          have hk4 := Keeps.of_grown hg4
          have hB4 : Below w.heap.size w w4 := hb.trans (hk4.below hsz fun i hi => own_ge ho i (by simpa using hi))
          have hYl := hry.1
          have ho5 : w4.ownsRow w.heap.size 5 1 v4 (bs.length + M0) ((bs ++ Y0).map bv) := by rw [List.map_append]; exact ho4
          obtain ⟨A4, c4, rfl, hc4, _⟩ := own_form ho5
          have hr4 := Rd.of_own ho5
          have hge4 := own_ge ho5
          have hlt4 := own_lt ho5
          obtain ⟨D, hD⟩ : ∃ z, bs ++ Y0 = z := ⟨_, rfl⟩
          obtain ⟨N, hN⟩ : ∃ z, bs.length + M0 = z := ⟨_, rfl⟩
          rw [hN] at hr4 hc4 ⊢
          rw [hN] at hge4 hlt4
          rw [hD] at hr4
          have hN9 : N ≤ 10000 := by omega
          clear hg4 hk4 ho4 ho ho5 hb hsz hD hN hYl hbl hry hy
          go_wp2_with fail
          refine (frameNew_nil w4).mono ?_
          rintro e w5 ⟨⟨gc, rfl, h5, hgc⟩, hb5⟩
          have hr5 := hr4.below_ hb5
          have hB5 := hB4.trans (hb5.mono hB4.size)
          have hs4 := hB4.size
          have hs5 := hb5.size
          have hA4 : 0 < N → ∀ ad, A4 = some ad → ad.block ≠ gc ∧ ad.block ≠ w4.heap.size := fun _ ad e => by
            have := hlt4 ad.block (by rw [e]; rfl)
            constructor <;> omega
          have hal := frameAll_any gc w4.heap.size 0 0 false A4 N c4 D w5 h5 hr5 hc4 (by omega) (fun h0 ad e => (hA4 h0 ad e).2) (by omega) (by omega)
          have hrl := fun W h => refAll3_any A4 N c4 D W h hc4 (by omega)
          obtain ⟨Q, hQ⟩ : ∃ z, allF D = z := ⟨_, rfl⟩
          rw [hQ] at hal
          simp only [hQ] at hrl
          obtain ⟨LL, NN, EE⟩ := Q
          simp only at hal hrl
          have hgc5 := h5.blk.lt
          have hgt5 := h5.tab.lt
          clear hQ hB4 hb5 hr4 h5
          go_wp2_with fail
          refine hal.mono ?_
          rintro e w6 ⟨⟨v6, l6, rfl, hO6⟩, ⟨st6, h6⟩, hk6⟩
          have hB6 : Below w.heap.size w w6 := hB5.trans (hk6.below hB5.size (by simp; omega))
          have hr6 : Rd w6 A4 N D := hr5.keeps hk6 (fun h0 ad e hm => by
            have := hA4 h0 ad e
            simp at hm
            rcases hm with hm | hm
            · exact this.1 hm
            · exact this.2 hm)
          obtain ⟨A6, c6, rfl, _, _⟩ := own_form hO6.row
          clear hal hk6 hr5 hB5
          go_wp2_with fail
          refine (hrl w6 hr6).mono ?_
          rintro e w7 ⟨⟨v7, l7, rfl, hO7⟩, hb7⟩
          have hB7 := hB6.trans (hb7.mono hB6.size)
          have h7 := h6.below hb7
          have hrow6 := own_below hO6.row hb7 (own_lt hO6.row)
          have hown6 : ∀ x ∈ l6, Rd w7 x.A x.bs.length x.bs := fun x hx => (Rd.of_own (hO6.own x hx)).below_ hb7
          have hrd7 := hO7.rd
          obtain ⟨A7, c7, rfl, _, _⟩ := own_form hO7.row
          have hrow7 := hO7.row
          have heq := allIs_eq hO6.is_ hO7.is_
          have hl6 := forall2_len hO6.is_
          have hl7 := forall2_len hO7.is_
          obtain ⟨M, hM⟩ : ∃ z, LL.length = z := ⟨_, rfl⟩
          rw [hM] at hl6 hl7
          rw [hl6] at hrow6 ⊢
          rw [hl7] at hrow7 ⊢
          rw [hM, Nat.zero_add] at h7
          have HL6 := Lib.hid hl6
          have HL7 := Lib.hid hl7
          have hM63 : M ≤ 9223372036854775807 := by
            obtain ⟨_, _, hv, h1, h2⟩ := own_form hrow7
            unfold maxLen at h2
            omega
          clear hO6 hO7 hb7 h6 hB6 hr6 hrl hl6 hl7 hM
          go_wp2_with fail
          go_loopw [16] (fun vi wr => ∃ i : Nat, i ≤ M ∧ vi = .int .i64 (i : Int) ∧ Below w7.heap.size w7 wr) (fun vi _ => M - (intOf vi).toNat)
          case atStart => exact ⟨0, Nat.zero_le _, rfl, Below.refl _ _⟩
          case round =>
            obtain ⟨i, hi, rfl, hbr⟩ := hrel
            have hszr := hbr.size
            by_cases hiM : i < M
            · obtain ⟨g6, rfl, hg6, hc6'⟩ := row_cells hrow6 HL6.out (by omega)
              obtain ⟨g7, rfl, hg7, hc7'⟩ := row_cells hrow7 HL7.out (by omega)
              obtain ⟨f0, f1⟩ := hc6' i hiM
              obtain ⟨g0, g1⟩ := hc7' i hiM
              obtain ⟨q1, q2⟩ := heq i
              have hx6 := hown6 _ (fc_mem (by rw [HL6.out]; exact hiM))
              have hx7 := (hrd7 _ (fc_mem (by rw [HL7.out]; exact hiM))).1
              obtain ⟨X, hX⟩ : ∃ z, l6.getD i noFC = z := ⟨_, rfl⟩
              obtain ⟨Y, hY⟩ : ∃ z, l7.getD i noFC = z := ⟨_, rfl⟩
              rw [hX] at f0 f1 q1 q2 hx6
              rw [hY] at g0 g1 q1 q2 hx7
              obtain ⟨Xk, XA, Xc, Xb⟩ := X
              obtain ⟨Yk, YA, Yc, Yb⟩ := Y
              simp only at f0 f1 g0 g1 q1 q2 hx6 hx7
              subst q1 q2
              obtain ⟨Z, hZ⟩ : ∃ z, Xb.length = z := ⟨_, rfl⟩
              rw [hZ] at f1 g1 hx6 hx7
              have hlk := fun W (h : Below w7.heap.size w7 W) => like_any Xk Xk XA YA Z Z Xc Yc Xb Xb W (hx6.below_ h) (hx7.below_ h)
              rw [show decide (Xk = Xk ∧ Xb = Xb) = true by simp] at hlk
              unfold frV at hlk
              have hcf : ∀ W, Keeps [] wr W → (W.cell? ⟨g6, i * 2, none⟩ = some (.int .u8 (Xk.toNat : Int)) ∧ W.cell? ⟨g6, i * 2 + 1, none⟩ = some (.slice XA Z Xc) ∧ g6 < W.heap.size ∧ W.cell? ⟨g7, i * 2, none⟩ = some (.int .u8 (Xk.toNat : Int)) ∧ W.cell? ⟨g7, i * 2 + 1, none⟩ = some (.slice YA Z Yc) ∧ g7 < W.heap.size) := fun W hk => by
                have hb9 := hbr.trans (hk.nil_below.mono hszr)
                have hs9 := hb9.size
                exact ⟨(hb9.cell (p := ⟨g6, _, none⟩) hg6).trans f0, (hb9.cell (p := ⟨g6, _, none⟩) hg6).trans f1, Nat.lt_of_lt_of_le hg6 hs9, (hb9.cell (p := ⟨g7, _, none⟩) hg7).trans g0, (hb9.cell (p := ⟨g7, _, none⟩) hg7).trans g1, Nat.lt_of_lt_of_le hg7 hs9⟩
              have ti : (i : Int) < (M : Int) := Int.ofNat_lt.2 hiM
              clear hc6' hc7' hX hY hZ f0 f1 g0 g1 heq hown6 hrd7
              go_wp2_with fail
              refine wp_region_calls 10 [(8, .known (.bool true))] (by kernel_rfl) (by kernel_rfl) rfl ⟨trivial, trivial⟩ ?_
              simp only [List.take_succ_cons, List.take_zero, List.drop_succ_cons, List.drop_zero]
              iterate 3 refine dep_reckons rfl (by kernel_rfl) (fun W hG hF' => by go_simp <;> rfl) (by simp only [Act.put, List.setIfInBounds_toArray, List.set_cons_zero, List.set_cons_succ]; rfl) ?_
              refine dep_reckons (c := .agg #[.int .u8 (Xk.toNat : Int), .slice XA Z Xc]) rfl (by kernel_rfl) (fun W hG hF' => ?_) (by simp only [Act.put, List.setIfInBounds_toArray, List.set_cons_zero, List.set_cons_succ]; rfl) ?_
              · obtain ⟨f0, f1, f2, g0, g1, g2⟩ := hcf W (keeps_drew hG)
                go_simp <;> rfl
              iterate 3 refine dep_reckons rfl (by kernel_rfl) (fun W hG hF' => by go_simp <;> rfl) (by simp only [Act.put, List.setIfInBounds_toArray, List.set_cons_zero, List.set_cons_succ]; rfl) ?_
              refine dep_reckons (c := .agg #[.int .u8 (Xk.toNat : Int), .slice YA Z Yc]) rfl (by kernel_rfl) (fun W hG hF' => ?_) (by simp only [Act.put, List.setIfInBounds_toArray, List.set_cons_zero, List.set_cons_succ]; rfl) ?_
              · obtain ⟨f0, f1, f2, g0, g1, g2⟩ := hcf W (keeps_drew hG)
                go_simp <;> rfl
              refine dep_known (c := .bool true) rfl (by kernel_rfl) (fun W hG hF' => ?_) (by simp only [Act.put, List.setIfInBounds_toArray, List.set_cons_zero, List.set_cons_succ]; rfl) ?_
              · have hkW := keeps_drew hG
                unfold opGives
                go_simp
                refine (hlk W (hbr.trans (hkW.nil_below.mono hszr))).mono ?_
                rintro e w9 ⟨rfl, hb9⟩
                exact ⟨_, rfl, rfl, Keeps.of_below hb9 []⟩
              refine dep_reckons rfl (by kernel_rfl) (fun W hG hF' => by go_simp <;> rfl) (by simp only [Act.put, List.setIfInBounds_toArray, List.set_cons_zero, List.set_cons_succ]; rfl) ?_
              refine dep_nil fun W hG hF2 => ?_
              have hbW := hbr.trans ((keeps_drew hG).nil_below.mono hszr)
              clear hF2 hG hcf hlk hbr
              go_wp2_with fail
              exact ⟨⟨i + 1, by omega, rfl, hbW⟩, by simp [intOf]; omega⟩
            · have hB8 := hB7.trans (hbr.mono hB7.size)
              have h8 := h7.below hbr
              have hcn := counts_any gc w4.heap.size _ _ st6 wr h8
              have ti : ¬ (i : Int) < (M : Int) := fun h => hiM (Int.ofNat_lt.1 h)
              have hwm : (M : Int) % 18446744073709551616 = (M : Int) := by omega
              have hwm2 : IntKind.u64.wrap (M : Int) = (M : Int) := by rw [IntKind.wrap_u64]; exact hwm
              clear heq hown6 hrd7 hrow6 hrow7 h7 hbr hB7 hiM
              by_cases hE : EE = 0
              · have te : (EE != 0) = false := by simp [hE]
                rw [show moreBad EE 0 = 0 from if_pos hE] at hcn
                clear hE
                go_wp2_with fail
                refine hcn.mono ?_
                rintro e w9 ⟨rfl, hb9⟩
                have hB9 := hB8.trans (hb9.mono hB8.size)
                clear hcn hb9 hB8 h8
                go_wp2_with fail
                refine (awake03 w9).mono ?_
                rintro e w9 ⟨rfl, hb9⟩
                have hfin := hB9.trans (hb9.mono hB9.size)
                clear hb9
                go_wp2_with fail
                go_ret
                exact ⟨rfl, hfin⟩
              · have te : (EE != 0) = true := by simp [hE]
                rw [show moreBad EE 0 = 1 from if_neg hE] at hcn
                clear hE
                go_wp2_with fail
                refine hcn.mono ?_
                rintro e w9 ⟨rfl, hb9⟩
                have hB9 := hB8.trans (hb9.mono hB8.size)
                clear hcn hb9 hB8 h8
                go_wp2_with fail
                refine (awake03 w9).mono ?_
                rintro e w9 ⟨rfl, hb9⟩
                have hfin := hB9.trans (hb9.mono hB9.size)
                clear hb9
                go_wp2_with fail
                go_ret
                exact ⟨rfl, hfin⟩
end Go.Proofs.Ytgflgncpjlgeoaa
