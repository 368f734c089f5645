/- Contract: a table that the document reads (catenaryref16.Read). -/
import Derived.Test.YtehfddafjemedaaSbR
import Derived.Test.YtehfddafjemedaaLike16
import Derived.Test.YtehfddafjemedaaRefZc
namespace Go.Proofs.Ytehfddafjemedaa
open Go.RowKit
set_option linter.unusedSimpArgs false
set_option linter.unusedVariables false

/-- A variable that holds the document's In, of bytes below B. -/
def RV (B : Nat) (W : World) (g : Nat) (s : IS) : Prop := ∃ A n c, Blk W g 76 #[.slice A n c, .int .i64 s.err] ∧ ZIn (fun k => k < B) W A n c s
theorem RV.lt {B : Nat} {W : World} {g : Nat} {s : IS} (h : RV B W g s) : g < W.heap.size := by obtain ⟨A, n, c, h1, _⟩ := h; exact h1.lt
theorem RV.below {B : Nat} {W W' : World} {g : Nat} {s : IS} (h : RV B W g s) (hb : Below W.heap.size W W') : RV B W' g s := by
  obtain ⟨A, n, c, h1, h2⟩ := h
  exact ⟨A, n, c, h1.below hb h1.lt, h2.below hb⟩
theorem RV.keepsRow {W W' : World} {g B : Nat} {s : IS} {v : Value} {l : List SRow} (h : RV B W g s) (hk : Keeps v.ownBlock.toList W W') (ho : OwnRows W B 31 v l) : RV B W' g s := by
  obtain ⟨A, n, c, h1, h2⟩ := h
  refine ⟨A, n, c, h1.keeps hk (fun hm => own_blk_ne ho h1 (by decide) _ (by simpa using hm) rfl), h2.rd.keeps hk (fun hn ad e hm => ?_), h2.le, h2.small, h2.ok, h2.zone⟩
  have h3 : ad.block < B := h2.zone hn ad e
  have h4 := own_ge ho ad.block (by simpa using hm)
  omega
theorem ZIn.plain {Z : Nat → Prop} {w : World} {A : Option Addr} {n c : Nat} {s : IS} (h : ZIn Z w A n c s) : RIn w A n c s := ⟨h.rd, h.le, h.small, h.ok⟩
/-- What stays in a round: the rows, the result's cell, the variable's cell. -/
structure RH (w W : World) (v : Value) (l : List SRow) : Prop where
  own : OwnRows W w.heap.size 31 v l
  res : Blk W (w.heap.size + 1) 76 #[.slice none 0 0, .int .i64 0]
  one : ∃ A n c e, Blk W w.heap.size 76 #[.slice A n c, .int .i64 e]
  below : Below w.heap.size w W
theorem RH.below_ {w W W' : World} {v : Value} {l : List SRow} (h : RH w W v l) (hb : Below W.heap.size W W') : RH w W' v l := by
  obtain ⟨A, n, c, e, h1⟩ := h.one
  exact ⟨h.own.below hb, h.res.below hb h.res.lt, ⟨A, n, c, e, h1.below hb h1.lt⟩, h.below.trans (hb.mono h.below.size)⟩
/-- A variable of the round is stored. -/
theorem RH.store {w W : World} {v : Value} {l : List SRow} (h : RH w W v l) {g n0 c0 : Nat} {A0 : Option Addr} {e0 : Int} (hg : Blk W g 76 #[.slice A0 n0 c0, .int .i64 e0]) (h1 : w.heap.size + 2 ≤ g) (u1 u2 : Value) : RH w ((W.setCell ⟨g, 0, none⟩ u1).setCell ⟨g, 1, none⟩ u2) v l := by
  have hk := ((Keeps.refl [g] W).setCell (p := ⟨g, 0, none⟩) (.inl (by simp)) u1).setCell (p := ⟨g, 1, none⟩) (.inl (by simp)) u2
  obtain ⟨A, n, c, e, h2⟩ := h.one
  exact ⟨own_keeps h.own hk fun j hj hm => own_blk_ne h.own hg (by decide) j hj (by simpa using hm), h.res.keeps hk (by simp; omega), ⟨A, n, c, e, h2.keeps hk (by simp; omega)⟩, (h.below.setCell (by simp; omega) _).setCell (by simp; omega) _⟩
/-- The variable itself is stored. -/
theorem RH.storeOne {w W : World} {v : Value} {l : List SRow} (h : RH w W v l) {n0 c0 n1 c1 : Nat} {A0 A1 : Option Addr} {e0 e1 : Int} (hg : Blk W w.heap.size 76 #[.slice A0 n0 c0, .int .i64 e0]) : RH w ((W.setCell ⟨w.heap.size, 0, none⟩ (.slice A1 n1 c1)).setCell ⟨w.heap.size, 1, none⟩ (.int .i64 e1)) v l := by
  have hk := ((Keeps.refl [w.heap.size] W).setCell (p := ⟨w.heap.size, 0, none⟩) (.inl (by simp)) (.slice A1 n1 c1)).setCell (p := ⟨w.heap.size, 1, none⟩) (.inl (by simp)) (.int .i64 e1)
  exact ⟨own_keeps h.own hk fun j hj hm => own_blk_ne h.own hg (by decide) j hj (by simpa using hm), h.res.keeps hk (by simp), ⟨A1, n1, c1, e1, (hg.set_ 0 _).set_ 1 _⟩, (h.below.setCell (by simp) _).setCell (by simp) _⟩
theorem rows_snoc {W : World} {B : Nat} {v : Value} {l : List SRow} {r : SRow} (h : W.ownsRow B 31 5 v (l.length + 1) (l.flatMap cl5 ++ cl5 r)) : OwnRows W B 31 v (l ++ [r]) := by
  unfold OwnRows
  rw [List.length_append, List.flatMap_append, List.flatMap_cons, List.flatMap_nil, List.append_nil]
  exact h
/-- A row is appended. -/
theorem RH.grown {w W W' : World} {A : Option Addr} {c : Nat} {l l' : List SRow} {v' : Value} (h : RH w W (.slice A l.length c) l) (hk : Keeps (Value.slice A l.length c).ownBlock.toList W W') (hge : ∀ j ∈ (Value.slice A l.length c).ownBlock.toList, w.heap.size ≤ j) (ho : OwnRows W' w.heap.size 31 v' l') : RH w W' v' l' := by
  obtain ⟨A0, n0, c0, e0, h1⟩ := h.one
  exact ⟨ho, h.res.keeps hk (fun hm => own_blk_ne h.own h.res (by decide) _ (by simpa using hm) rfl), ⟨A0, n0, c0, e0, h1.keeps hk (fun hm => own_blk_ne h.own h1 (by decide) _ (by simpa using hm) rfl)⟩, h.below.trans (hk.below h.below.size hge)⟩
theorem lastCl_get {L : List SRow} {q : Nat} (h : q + 1 = L.length) : (L.getD q .zero).cl = lastCl L := by
  obtain ⟨t, y, rfl⟩ : ∃ t y, L = t ++ [y] := ⟨L.dropLast, L.getLast (by intro e; rw [e] at h; simp at h), (List.dropLast_concat_getLast _).symm⟩
  rw [lastCl_snoc]
  have : q = t.length := by simpa using h
  subst this
  simp
/-- What is told by the document's Read. -/
def RRd (E : Int) (l : List SRow) (S : IS) (B : Nat) (e : Ending) (w' : World) : Prop :=
  ∃ A n c v, e = .returned (.tuple #[rinV A n c S.err, v, .int .i64 E]) ∧ RIn w' A n c S ∧ OwnRows w' B 31 v (if E = 0 then l else [])

theorem RRd.drew {E : Int} {l : List SRow} {S : IS} {B : Nat} {e : Ending} {W : World} (h : RRd E l S B e W) : RRd E l S B e W.drew := by
  obtain ⟨A, n, c, v, h1, h2, h3⟩ := h
  exact ⟨A, n, c, v, h1, h2.below (Below.refl _ _).drew, h3⟩

set_option maxRecDepth 100000 in
set_option maxHeartbeats 16000000 in
theorem refRead16_any (A : Option Addr) (n c : Nat) (s : IS) (w : World) (h : RIn w A n c s) :
    Calls Try.prog 44 #[rinV A n c s.err] w fun e w' => RRd (rdE (uptoS s 1 6) (uptoN s 1 6)) (rdL (uptoS s 1 6) (uptoN s 1 6)) (rdS (uptoS s 1 6) (uptoN s 1 6)) w.heap.size e w' ∧ Below w.heap.size w w' := by
  obtain ⟨i0, hi0, hz0, hz1, hz2⟩ := info_parts info_refrow
  have hup := fun W hW => zUpto_any (fun k => k < w.heap.size) A n c s 1 6 W hW
  have h : ZIn (fun k => k < w.heap.size) w A n c s := ⟨h.rd, h.le, h.small, h.ok, fun hn ad e => h.rd.lt hn ad e⟩
  have hN6 := upto_most s 1 6
  obtain ⟨N, hN⟩ : ∃ z, uptoN s 1 6 = z := ⟨_, rfl⟩
  obtain ⟨s0, hs0⟩ : ∃ z, uptoS s 1 6 = z := ⟨_, rfl⟩
  rw [hN, hs0] at hup ⊢
  rw [hN] at hN6
  clear hN hs0
  unfold rinV at hup ⊢
  go_enter Try.func44, Try.ntmps44
  go_wp2_with fail
  have hX : Below w.heap.size w ((w.alloc (.cells #[.slice A n c, .int .i64 s.err] 76)).alloc (.cells #[.slice none 0 0, .int .i64 0] 76)) := ((Below.refl _ _).alloc (Nat.le_refl _) _).alloc (by simp) _
  have hx1 : Blk ((w.alloc (.cells #[.slice A n c, .int .i64 s.err] 76)).alloc (.cells #[.slice none 0 0, .int .i64 0] 76)) w.heap.size 76 #[.slice A n c, .int .i64 s.err] := (Blk.new w _ _).alloc _
  have hx2 : Blk ((w.alloc (.cells #[.slice A n c, .int .i64 s.err] 76)).alloc (.cells #[.slice none 0 0, .int .i64 0] 76)) (w.heap.size + 1) 76 #[.slice none 0 0, .int .i64 0] := by
    have := Blk.new (w.alloc (.cells #[.slice A n c, .int .i64 s.err] 76)) 76 #[.slice none 0 0, .int .i64 0]
    simpa using this
  generalize ((w.alloc (.cells #[.slice A n c, .int .i64 s.err] 76)).alloc (.cells #[.slice none 0 0, .int .i64 0] 76)) = X at hX hx1 hx2 ⊢
  have hH0 : RH w X (.slice none 0 0) [] := ⟨World.ownsRow_nil _ _ _ _, hx2, ⟨_, _, _, _, hx1⟩, hX⟩
  refine (hup X (h.below hX)).mono ?_
  rintro e w1 ⟨⟨A1, n1, c1, rfl, h1⟩, hb1⟩
  have hH1 := hH0.below_ hb1
  have hy := hx1.below hb1 hx1.lt
  have hR1 : RV w.heap.size ((w1.setCell ⟨w.heap.size, 0, none⟩ (.slice A1 n1 c1)).setCell ⟨w.heap.size, 1, none⟩ (.int .i64 s0.err)) w.heap.size s0 := ⟨A1, n1, c1, (hy.set_ 0 _).set_ 1 _, h1.stored hy _ _⟩
  have hH2 := hH1.storeOne hy (A1 := A1) (n1 := n1) (c1 := c1) (e1 := s0.err)
  unfold rinV
  clear hup hX hx2 hH0 hx1 hb1 hH1
  have d0 := hy.cell 0
  have d1 := hy.cell 1
  have dz := hy.frozen
  have dl := hy.lt
  simp only [List.getElem?_toArray, List.getElem?_cons_zero, List.getElem?_cons_succ] at d0 d1
  go_wp2_with fail
  clear d0 d1 dz dl hy h1
  generalize ((w1.setCell ⟨w.heap.size, 0, none⟩ (.slice A1 n1 c1)).setCell ⟨w.heap.size, 1, none⟩ (.int .i64 s0.err)) = w2 at hR1 hH2 ⊢
  go_loopw [6, 7, 8] (fun v good i wr => ∃ (k : Nat), k ≤ N ∧ good = .bool (rdG s0 k) ∧ i = .int .u64 (k : Int) ∧ RV w.heap.size wr w.heap.size (rdS s0 k) ∧ RH w wr v (rdL s0 k)) (fun _ _ i _ => N - (intOf i).toNat)
  case atStart => exact ⟨0, Nat.zero_le _, rfl, rfl, hR1, hH2⟩
  case round =>
    obtain ⟨k, hk, rfl, rfl, hR, hH⟩ := hrel
    obtain ⟨Av, cv, rfl, hlc, hcm⟩ := hH.own.form
    clear hR1 hH2
    by_cases hlt : k < N
    · have hrs : rdS s0 (k + 1) = rowS (rdS s0 k) := rfl
      have hrl : rdL s0 (k + 1) = rdL s0 k ++ [rowV (rdS s0 k)] := rfl
      have hrg : rdG s0 (k + 1) = (rdG s0 k && ((rowV (rdS s0 k)).fine && decide (lastCl (rdL s0 k) < (rowV (rdS s0 k)).cl))) := rfl
      have hlen := rdL_len s0 k
      obtain ⟨S, hS⟩ : ∃ z, rdS s0 k = z := ⟨_, rfl⟩
      obtain ⟨L, hL⟩ : ∃ z, rdL s0 k = z := ⟨_, rfl⟩
      rw [hS] at hR hrs hrl hrg
      rw [hL] at hH hlc hrl hrg hlen
      have b1 : uptoN S 1 18446744073709551615 < 256 ^ 1 := upto_lt S 1 18446744073709551615 (by omega)
      have b4 : uptoN (rs3 S) 1 18446744073709551615 < 256 ^ 1 := upto_lt (rs3 S) 1 18446744073709551615 (by omega)
      have hv : rowV S = ⟨(uptoN S 1 18446744073709551615 : Nat), (uptoN (rs1 S) 8 18446744073709551615 : Nat), (uptoN (rs2 S) 8 18446744073709551615 : Nat), (uptoN (rs3 S) 1 18446744073709551615 : Nat), (uptoN (rs4 S) 8 18446744073709551615 : Nat)⟩ := rfl
      have q1 := fun A n c W (hW : ZIn (fun k => k < w.heap.size) W A n c S) => zGet_any (fun k => k < w.heap.size) A n c S 1 W hW
      have q2 := fun A n c W (hW : ZIn (fun k => k < w.heap.size) W A n c (rs1 S)) => zGet_any (fun k => k < w.heap.size) A n c (rs1 S) 8 W hW
      have q3 := fun A n c W (hW : ZIn (fun k => k < w.heap.size) W A n c (rs2 S)) => zGet_any (fun k => k < w.heap.size) A n c (rs2 S) 8 W hW
      have q4 := fun A n c W (hW : ZIn (fun k => k < w.heap.size) W A n c (rs3 S)) => zGet_any (fun k => k < w.heap.size) A n c (rs3 S) 1 W hW
      have q5 := fun A n c W (hW : ZIn (fun k => k < w.heap.size) W A n c (rs4 S)) => zGet_any (fun k => k < w.heap.size) A n c (rs4 S) 8 W hW
      simp only [show uptoS S 1 18446744073709551615 = rs1 S from rfl] at q1
      simp only [show uptoS (rs1 S) 8 18446744073709551615 = rs2 S from rfl] at q2
      simp only [show uptoS (rs2 S) 8 18446744073709551615 = rs3 S from rfl] at q3
      simp only [show uptoS (rs3 S) 1 18446744073709551615 = rs4 S from rfl] at q4
      simp only [show uptoS (rs4 S) 8 18446744073709551615 = rowS S from rfl] at q5
      obtain ⟨a, ha⟩ : ∃ z, uptoN S 1 18446744073709551615 = z := ⟨_, rfl⟩
      obtain ⟨nu, hnu⟩ : ∃ z, uptoN (rs1 S) 8 18446744073709551615 = z := ⟨_, rfl⟩
      obtain ⟨se, hse⟩ : ∃ z, uptoN (rs2 S) 8 18446744073709551615 = z := ⟨_, rfl⟩
      obtain ⟨co, hco⟩ : ∃ z, uptoN (rs3 S) 1 18446744073709551615 = z := ⟨_, rfl⟩
      obtain ⟨ve, hve⟩ : ∃ z, uptoN (rs4 S) 8 18446744073709551615 = z := ⟨_, rfl⟩
      simp only [ha] at q1
      simp only [hnu] at q2
      simp only [hse] at q3
      simp only [hco] at q4
      simp only [hve] at q5
      rw [ha, hnu, hse, hco, hve] at hv
      rw [ha] at b1
      rw [hco] at b4
      have a256 : a < 256 := by omega
      have c256 : co < 256 := by omega
      rw [hv] at hrl hrg
      have t1 : IntKind.i64.wrap (a : Int) = (a : Int) := by rw [IntKind.wrap_i64]; omega
      have t2 : IntKind.i64.wrap (co : Int) = (co : Int) := by rw [IntKind.wrap_i64]; omega
      have T1 := Lib.hid t1
      have T2 := Lib.hid t2
      have tk : (k : Int) < (N : Int) := by omega
      have Hrs := Lib.hid hrs
      have Hrl := Lib.hid hrl
      have Hrg := Lib.hid hrg
      have HLk := Lib.hid hlen
      clear ha hnu hse hco hve hv b1 b4 t1 t2 hrs hrl hrg hlen a256 c256 hlt hS
      obtain ⟨Ak, nk, ck, hbk, hrk⟩ := hR
      have d0 := hbk.cell 0
      have d1 := hbk.cell 1
      have dz := hbk.frozen
      have dl := hbk.lt
      simp only [List.getElem?_toArray, List.getElem?_cons_zero, List.getElem?_cons_succ] at d0 d1
      go_wp2_with fail
      clear d0 d1 dz dl
      refine (q1 Ak nk ck wr hrk).mono ?_
      rintro e v1 ⟨⟨B1, m1, e1, rfl, r1⟩, hb1⟩
      replace hH := hH.below_ hb1
      have hsz := hH.below.size
      have h9 : w.heap.size + 2 ≤ v1.heap.size := by have := hH.res.lt; omega
      have hX9 : Below v1.heap.size v1 (v1.alloc (.cells #[.slice B1 m1 e1, .int .i64 (rs1 S).err] 76)) := (Below.refl _ _).alloc (Nat.le_refl _) _
      have hg := Blk.new v1 76 #[.slice B1 m1 e1, .int .i64 (rs1 S).err]
      replace hH := hH.below_ hX9
      replace r1 := r1.below hX9
      obtain ⟨b9, hb9⟩ : ∃ z, v1.heap.size = z := ⟨_, rfl⟩
      unfold rinV
      clear hbk hrk hb1 q1 hX9
      go_wp2_with fail
      rw [hb9] at h9 hg
      generalize (v1.alloc (.cells #[.slice B1 m1 e1, .int .i64 (rs1 S).err] 76)) = u1 at hg hH r1 ⊢
      clear hb9
      refine (q2 B1 m1 e1 u1 r1).mono ?_
      rintro e v2 ⟨⟨B2, m2, e2, rfl, r2⟩, hb2⟩
      replace hH := hH.below_ hb2
      replace hg := hg.below hb2 hg.lt
      have d0 := hg.cell 0
      have d1 := hg.cell 1
      have dz := hg.frozen
      have dl := hg.lt
      simp only [List.getElem?_toArray, List.getElem?_cons_zero, List.getElem?_cons_succ] at d0 d1
      replace hH := hH.store hg h9 (.slice B2 m2 e2) (.int .i64 (rs2 S).err)
      replace r2 := r2.stored hg (.slice B2 m2 e2) (.int .i64 (rs2 S).err)
      unfold rinV
      clear hb2 r1 q2
      replace hg := (hg.set_ 0 (.slice B2 m2 e2)).set_ 1 (.int .i64 (rs2 S).err)
      simp only [List.setIfInBounds_toArray, List.set_cons_zero, List.set_cons_succ] at hg
      go_wp2_with fail
      clear d0 d1 dz dl
      generalize ((v2.setCell ⟨b9, 0, none⟩ (.slice B2 m2 e2)).setCell ⟨b9, 1, none⟩ (.int .i64 (rs2 S).err)) = u2 at hg hH r2 ⊢
      refine (q3 B2 m2 e2 u2 r2).mono ?_
      rintro e v3 ⟨⟨B3, m3, e3, rfl, r3⟩, hb3⟩
      replace hH := hH.below_ hb3
      replace hg := hg.below hb3 hg.lt
      have d0 := hg.cell 0
      have d1 := hg.cell 1
      have dz := hg.frozen
      have dl := hg.lt
      simp only [List.getElem?_toArray, List.getElem?_cons_zero, List.getElem?_cons_succ] at d0 d1
      replace hH := hH.store hg h9 (.slice B3 m3 e3) (.int .i64 (rs3 S).err)
      replace r3 := r3.stored hg (.slice B3 m3 e3) (.int .i64 (rs3 S).err)
      unfold rinV
      clear hb3 r2 q3
      replace hg := (hg.set_ 0 (.slice B3 m3 e3)).set_ 1 (.int .i64 (rs3 S).err)
      simp only [List.setIfInBounds_toArray, List.set_cons_zero, List.set_cons_succ] at hg
      go_wp2_with fail
      clear d0 d1 dz dl
      generalize ((v3.setCell ⟨b9, 0, none⟩ (.slice B3 m3 e3)).setCell ⟨b9, 1, none⟩ (.int .i64 (rs3 S).err)) = u3 at hg hH r3 ⊢
      refine (q4 B3 m3 e3 u3 r3).mono ?_
      rintro e v4 ⟨⟨B4, m4, e4, rfl, r4⟩, hb4⟩
      replace hH := hH.below_ hb4
      replace hg := hg.below hb4 hg.lt
      have d0 := hg.cell 0
      have d1 := hg.cell 1
      have dz := hg.frozen
      have dl := hg.lt
      simp only [List.getElem?_toArray, List.getElem?_cons_zero, List.getElem?_cons_succ] at d0 d1
      replace hH := hH.store hg h9 (.slice B4 m4 e4) (.int .i64 (rs4 S).err)
      replace r4 := r4.stored hg (.slice B4 m4 e4) (.int .i64 (rs4 S).err)
      unfold rinV
      clear hb4 r3 q4
      replace hg := (hg.set_ 0 (.slice B4 m4 e4)).set_ 1 (.int .i64 (rs4 S).err)
      simp only [List.setIfInBounds_toArray, List.set_cons_zero, List.set_cons_succ] at hg
      go_wp2_with fail
      clear d0 d1 dz dl
      generalize ((v4.setCell ⟨b9, 0, none⟩ (.slice B4 m4 e4)).setCell ⟨b9, 1, none⟩ (.int .i64 (rs4 S).err)) = u4 at hg hH r4 ⊢
      refine (q5 B4 m4 e4 u4 r4).mono ?_
      rintro e v5 ⟨⟨B5, m5, e5, rfl, r5⟩, hb5⟩
      replace hH := hH.below_ hb5
      replace hg := hg.below hb5 hg.lt
      have d0 := hg.cell 0
      have d1 := hg.cell 1
      have dz := hg.frozen
      have dl := hg.lt
      simp only [List.getElem?_toArray, List.getElem?_cons_zero, List.getElem?_cons_succ] at d0 d1
      replace hH := hH.store hg h9 (.slice B5 m5 e5) (.int .i64 (rowS S).err)
      replace r5 := r5.stored hg (.slice B5 m5 e5) (.int .i64 (rowS S).err)
      unfold rinV
      clear hb5 r4 q5
      obtain ⟨A0, n0, c0, e0, hone⟩ := hH.one
      have f0 := hone.cell 0
      have f1 := hone.cell 1
      have fz := hone.frozen
      have fl := hone.lt
      simp only [List.getElem?_toArray, List.getElem?_cons_zero, List.getElem?_cons_succ] at f0 f1
      have t1 := T1.out
      have t2 := T2.out
      have hne : ¬ w.heap.size = b9 := by omega
      have hne2 : ¬ b9 = w.heap.size := by omega
      replace hH := hH.storeOne hone (A1 := B5) (n1 := m5) (c1 := e5) (e1 := (rowS S).err)
      have hRn : RV w.heap.size ((((v5.setCell ⟨b9, 0, none⟩ (.slice B5 m5 e5)).setCell ⟨b9, 1, none⟩ (.int .i64 (rowS S).err)).setCell ⟨w.heap.size, 0, none⟩ (.slice B5 m5 e5)).setCell ⟨w.heap.size, 1, none⟩ (.int .i64 (rowS S).err)) w.heap.size (rowS S) := ⟨B5, m5, e5, (hone.set_ 0 _).set_ 1 _, r5.stored hone _ _⟩
      have hU := hH.below.size
      go_wp2_with fail
      clear d0 d1 dz dl f0 f1 fz fl hne hne2 t1 t2 hg r5
      have hX7 := (Below.refl ((((v5.setCell ⟨b9, 0, none⟩ (.slice B5 m5 e5)).setCell ⟨b9, 1, none⟩ (.int .i64 (rowS S).err)).setCell ⟨w.heap.size, 0, none⟩ (.slice B5 m5 e5)).setCell ⟨w.heap.size, 1, none⟩ (.int .i64 (rowS S).err)).heap.size _).alloc (Nat.le_refl _) (.cells #[.int .i64 (a : Int), .int .u64 (nu : Int), .int .u64 (se : Int), .int .i64 (co : Int), .int .u64 (ve : Int)] 31)
      have hxr := Blk.new ((((v5.setCell ⟨b9, 0, none⟩ (.slice B5 m5 e5)).setCell ⟨b9, 1, none⟩ (.int .i64 (rowS S).err)).setCell ⟨w.heap.size, 0, none⟩ (.slice B5 m5 e5)).setCell ⟨w.heap.size, 1, none⟩ (.int .i64 (rowS S).err)) 31 #[.int .i64 (a : Int), .int .u64 (nu : Int), .int .u64 (se : Int), .int .i64 (co : Int), .int .u64 (ve : Int)]
      replace hH := hH.below_ hX7
      replace hRn := hRn.below hX7
      rw [show ((((v5.setCell ⟨b9, 0, none⟩ (.slice B5 m5 e5)).setCell ⟨b9, 1, none⟩ (.int .i64 (rowS S).err)).setCell ⟨w.heap.size, 0, none⟩ (.slice B5 m5 e5)).setCell ⟨w.heap.size, 1, none⟩ (.int .i64 (rowS S).err)).heap.size = v5.heap.size by simp] at hxr
      obtain ⟨bx, hbx⟩ : ∃ z, v5.heap.size = z := ⟨_, rfl⟩
      rw [hbx] at hxr ⊢
      clear hX7 hbx hone h9 hU
      generalize ((((((v5.setCell ⟨b9, 0, none⟩ (.slice B5 m5 e5)).setCell ⟨b9, 1, none⟩ (.int .i64 (rowS S).err)).setCell ⟨w.heap.size, 0, none⟩ (.slice B5 m5 e5)).setCell ⟨w.heap.size, 1, none⟩ (.int .i64 (rowS S).err))).alloc (.cells #[.int .i64 (a : Int), .int .u64 (nu : Int), .int .u64 (se : Int), .int .i64 (co : Int), .int .u64 (ve : Int)] 31)) = U at hH hRn hxr ⊢
      have HL6 : Hid (L.length ≤ 6) := Lib.hid (by rw [HLk.out]; omega)
      have hFine := fun W => Fine_any ⟨(a : Int), (nu : Int), (se : Int), (co : Int), (ve : Int)⟩ W
      have cf : ∀ W, Keeps [] U.drew W → (W.cell? ⟨bx, 0, none⟩ = some (.int .i64 (a : Int)) ∧ W.cell? ⟨bx, 1, none⟩ = some (.int .u64 (nu : Int)) ∧ W.cell? ⟨bx, 2, none⟩ = some (.int .u64 (se : Int)) ∧ W.cell? ⟨bx, 3, none⟩ = some (.int .i64 (co : Int)) ∧ W.cell? ⟨bx, 4, none⟩ = some (.int .u64 (ve : Int))) ∧ bx < W.heap.size := fun W hk => by
        have h1 := hxr.below (keeps_drew hk).nil_below hxr.lt
        exact ⟨⟨h1.cell 0, h1.cell 1, h1.cell 2, h1.cell 3, h1.cell 4⟩, h1.lt⟩
      simp only [SRow.val] at hFine
      cases hf : SRow.fine ⟨(a : Int), (nu : Int), (se : Int), (co : Int), (ve : Int)⟩ with
      | false =>
        rw [hf] at hFine
        have HG : Hid (rdG s0 (k + 1) = false) := Lib.hid (by rw [Hrg.out, hf]; simp)
        clear hf Hrg
        refine wp_region_calls 20 [(1, .known (.bool false))] (by kernel_rfl) (by kernel_rfl) rfl ⟨trivial, trivial⟩ ?_
        simp only [List.take_succ_cons, List.take_zero, List.drop_succ_cons, List.drop_zero]
        refine dep_reckons rfl (by kernel_rfl) (fun W hG hF => by have hcf := cf W hG; go_simp <;> rfl) (by simp only [Act.put, List.setIfInBounds_toArray, List.set_cons_zero, List.set_cons_succ]; rfl) ?_
        refine dep_known (c := .bool false) rfl (by kernel_rfl) (fun W hG hF => ?_) (by simp only [Act.put, List.setIfInBounds_toArray, List.set_cons_zero, List.set_cons_succ]; rfl) ?_
        · unfold opGives
          go_simp
          refine (hFine W).mono ?_
          rintro e w2 ⟨rfl, hb2⟩
          exact ⟨_, rfl, rfl, Keeps.of_below hb2 []⟩
        iterate 2 refine dep_reckons rfl (by kernel_rfl) (fun W hG hF => by go_simp <;> rfl) (by simp only [Act.put, List.setIfInBounds_toArray, List.set_cons_zero, List.set_cons_succ]; rfl) ?_
        iterate 15 refine dep_skip (by kernel_rfl) (by simp only [Act.put, List.setIfInBounds_toArray, List.set_cons_zero, List.set_cons_succ]; rfl) ?_
        refine dep_reckons rfl (by kernel_rfl) (fun W hG hF => by go_simp <;> rfl) (by simp only [Act.put, List.setIfInBounds_toArray, List.set_cons_zero, List.set_cons_succ]; rfl) ?_
        refine dep_nil fun W hG hF => ?_
        have bw := (keeps_drew hG).nil_below
        replace hH := hH.below_ bw
        replace hRn := hRn.below bw
        have hcf := cf W hG
        clear hF hG cf bw hxr
        have hX6 : Below W.heap.size W (W.alloc (.cells #[.int .i64 (a : Int), .int .u64 (nu : Int), .int .u64 (se : Int), .int .i64 (co : Int), .int .u64 (ve : Int)] 31)) := (Below.refl _ _).alloc (Nat.le_refl _) _
        have hs6 := hH.below.size
        go_wp2_with (at_builtin; refine wpList_append_src rfl (.tmp 80) (.tmp 82) _ rfl w.heap.size 31 i0 _ 5 40 Try.underlying22 hi0 hz0 hz1 hz2 rfl (by omega) (.slice Av L.length cv) L.length (L.flatMap cl5) rfl ?xd0 (some ⟨W.heap.size, 0, none⟩) 1 1 (cl5 ⟨a, nu, se, co, ve⟩) rfl ?xd1 ?xd2 ?xd3 ?xd4 ?xd5)
        case xd0 => exact (hH.below_ hX6).own
        case xd1 => exact Src.one W #[.int .i64 (a : Int), .int .u64 (nu : Int), .int .u64 (se : Int), .int .i64 (co : Int), .int .u64 (ve : Int)] _ (by intro u hu; simp at hu; rcases hu with rfl | rfl | rfl | rfl | rfl <;> rfl)
        case xd2 => unfold maxLen; have := HL6.out; omega
        case xd3 => have := HL6.out; omega
        case xd4 => simp; omega
        case xd5 =>
          intro v' w6 ho6 hgr _
          have hk6 := Keeps.of_grown hgr
          have hown := (hH.below_ hX6).own
          have hge : ∀ j ∈ (Value.slice Av L.length cv).ownBlock.toList, w.heap.size ≤ j := fun j hj => own_ge hown j (by simpa using hj)
          have hRo : RV w.heap.size w6 w.heap.size (rowS S) := (hRn.below hX6).keepsRow hk6 hown
          have hHo := (hH.below_ hX6).grown hk6 hge (rows_snoc ho6)
          clear hgr hk6 hown hge ho6 hX6 hs6 hcf
          go_wp2_with fail
          go_roundw
          case rel => exact ⟨k + 1, by omega, by rw [HG.out], by first | rfl | go_num, by rw [Hrs.out]; exact hRo, by rw [Hrl.out]; exact hHo⟩
          case measure => simp [intOf]; omega
      | true =>
        rw [hf] at hFine
        have ha1 := (fine_cl hf).1
        simp only at ha1
        by_cases hL0 : L = []
        · have HG : Hid (rdG s0 (k + 1) = rdG s0 k) := Lib.hid (by rw [Hrg.out, hf, decide_eq_true (show lastCl L < (a : Int) by rw [hL0]; simp [lastCl]; omega)]; simp)
          have tneg : ¬ (0 : Int) < (L.length : Int) := by rw [hL0]; simp
          have HL0 := Lib.hid hL0
          clear hf Hrg hL0
          have tneg2 : decide ((0 : Int) < (L.length : Int)) = false := decide_eq_false tneg
          refine wp_region_calls 20 [(1, .known (.bool true))] (by kernel_rfl) (by kernel_rfl) rfl ⟨trivial, trivial⟩ ?_
          simp only [List.take_succ_cons, List.take_zero, List.drop_succ_cons, List.drop_zero]
          refine dep_reckons rfl (by kernel_rfl) (fun W hG hF => by have hcf := cf W hG; go_simp <;> rfl) (by simp only [Act.put, List.setIfInBounds_toArray, List.set_cons_zero, List.set_cons_succ]; rfl) ?_
          refine dep_known (c := .bool true) rfl (by kernel_rfl) (fun W hG hF => ?_) (by simp only [Act.put, List.setIfInBounds_toArray, List.set_cons_zero, List.set_cons_succ]; rfl) ?_
          · unfold opGives
            go_simp
            refine (hFine W).mono ?_
            rintro e w2 ⟨rfl, hb2⟩
            exact ⟨_, rfl, rfl, Keeps.of_below hb2 []⟩
          iterate 2 refine dep_reckons rfl (by kernel_rfl) (fun W hG hF => by go_simp <;> rfl) (by simp only [Act.put, List.setIfInBounds_toArray, List.set_cons_zero, List.set_cons_succ]; rfl) ?_
          iterate 2 refine dep_reckons rfl (by kernel_rfl) (fun W hG hF => by go_simp <;> rfl) (by simp only [Act.put, List.setIfInBounds_toArray, List.set_cons_zero, List.set_cons_succ]; rfl) ?_
          refine dep_reckons (c := .bool false) rfl (by kernel_rfl) (fun W hG hF => by go_simp <;> first | rfl | exact HL0.out | exact tneg2 | exact congrArg _ (congrArg _ tneg2)) (by simp only [Act.put, List.setIfInBounds_toArray, List.set_cons_zero, List.set_cons_succ]; rfl) ?_
          refine dep_reckons rfl (by kernel_rfl) (fun W hG hF => by go_simp <;> rfl) (by simp only [Act.put, List.setIfInBounds_toArray, List.set_cons_zero, List.set_cons_succ]; rfl) ?_
          clear tneg tneg2
          iterate 10 refine dep_skip (by kernel_rfl) (by simp only [Act.put, List.setIfInBounds_toArray, List.set_cons_zero, List.set_cons_succ]; rfl) ?_
          iterate 2 refine dep_reckons rfl (by kernel_rfl) (fun W hG hF => by go_simp <;> rfl) (by simp only [Act.put, List.setIfInBounds_toArray, List.set_cons_zero, List.set_cons_succ]; rfl) ?_
          refine dep_nil fun W hG hF => ?_
          have bw := (keeps_drew hG).nil_below
          replace hH := hH.below_ bw
          replace hRn := hRn.below bw
          have hcf := cf W hG
          clear hF hG cf bw hxr
          have hX6 : Below W.heap.size W (W.alloc (.cells #[.int .i64 (a : Int), .int .u64 (nu : Int), .int .u64 (se : Int), .int .i64 (co : Int), .int .u64 (ve : Int)] 31)) := (Below.refl _ _).alloc (Nat.le_refl _) _
          have hs6 := hH.below.size
          go_wp2_with (at_builtin; refine wpList_append_src rfl (.tmp 80) (.tmp 82) _ rfl w.heap.size 31 i0 _ 5 40 Try.underlying22 hi0 hz0 hz1 hz2 rfl (by omega) (.slice Av L.length cv) L.length (L.flatMap cl5) rfl ?yd0 (some ⟨W.heap.size, 0, none⟩) 1 1 (cl5 ⟨a, nu, se, co, ve⟩) rfl ?yd1 ?yd2 ?yd3 ?yd4 ?yd5)
          case yd0 => exact (hH.below_ hX6).own
          case yd1 => exact Src.one W #[.int .i64 (a : Int), .int .u64 (nu : Int), .int .u64 (se : Int), .int .i64 (co : Int), .int .u64 (ve : Int)] _ (by intro u hu; simp at hu; rcases hu with rfl | rfl | rfl | rfl | rfl <;> rfl)
          case yd2 => unfold maxLen; have := HL6.out; omega
          case yd3 => have := HL6.out; omega
          case yd4 => simp; omega
          case yd5 =>
            intro v' w6 ho6 hgr _
            have hk6 := Keeps.of_grown hgr
            have hown := (hH.below_ hX6).own
            have hge : ∀ j ∈ (Value.slice Av L.length cv).ownBlock.toList, w.heap.size ≤ j := fun j hj => own_ge hown j (by simpa using hj)
            have hRo : RV w.heap.size w6 w.heap.size (rowS S) := (hRn.below hX6).keepsRow hk6 hown
            have hHo := (hH.below_ hX6).grown hk6 hge (rows_snoc ho6)
            clear hgr hk6 hown hge ho6 hX6 hs6 hcf
            go_wp2_with fail
            go_roundw
            case rel => exact ⟨k + 1, by omega, by rw [HG.out], by first | rfl | go_num, by rw [Hrs.out]; exact hRo, by rw [Hrl.out]; exact hHo⟩
            case measure => simp [intOf]; omega
        · obtain ⟨q, hq⟩ : ∃ q, q + 1 = L.length := ⟨L.length - 1, by have := List.length_pos_iff.2 hL0; omega⟩
          have hlast := lastCl_get hq
          obtain ⟨ab, ao, rfl, hc5, hbl⟩ := RowsAt.five hH.own.rows q (by omega)
          obtain ⟨y, hy⟩ : ∃ z, L.getD q .zero = z := ⟨_, rfl⟩
          rw [hy] at hlast hc5
          have cf0 := cf
          clear cf
          have cf : ∀ W, Keeps [] U.drew W → ((W.cell? ⟨bx, 0, none⟩ = some (.int .i64 (a : Int)) ∧ W.cell? ⟨bx, 1, none⟩ = some (.int .u64 (nu : Int)) ∧ W.cell? ⟨bx, 2, none⟩ = some (.int .u64 (se : Int)) ∧ W.cell? ⟨bx, 3, none⟩ = some (.int .i64 (co : Int)) ∧ W.cell? ⟨bx, 4, none⟩ = some (.int .u64 (ve : Int))) ∧ bx < W.heap.size) ∧ W.cell? ⟨ab, ao + q * 5, none⟩ = some (.int .i64 y.cl) ∧ ab < W.heap.size := fun W hk => by
            have bw := (keeps_drew hk).nil_below
            exact ⟨cf0 W hk, (hc5.below bw).1, (hc5.below bw).lt⟩
          have tpos : (0 : Int) < (L.length : Int) := by omega
          have tq : IntKind.i64.wrap ((L.length : Int) - 1) = (q : Int) := by rw [IntKind.wrap_i64]; have := HL6.out; omega
          have tql : (q : Int) < (L.length : Int) := by omega
          have HLn := Lib.hid hL0
          clear cf0 hc5 hbl hy hL0
          by_cases hlt2 : y.cl < (a : Int)
          · have HG : Hid (rdG s0 (k + 1) = rdG s0 k) := Lib.hid (by rw [Hrg.out, hf, decide_eq_true (show lastCl L < (a : Int) by rw [← hlast]; exact hlt2)]; simp)
            have tge : decide (y.cl ≥ (a : Int)) = false := decide_eq_false (by omega)
            have tge2 : ¬ ((a : Int) ≤ y.cl) := by omega
            clear hf Hrg hlast hq
            refine wp_region_calls 20 [(1, .known (.bool true))] (by kernel_rfl) (by kernel_rfl) rfl ⟨trivial, trivial⟩ ?_
            simp only [List.take_succ_cons, List.take_zero, List.drop_succ_cons, List.drop_zero]
            refine dep_reckons rfl (by kernel_rfl) (fun W hG hF => by have hcf := cf W hG; go_simp <;> rfl) (by simp only [Act.put, List.setIfInBounds_toArray, List.set_cons_zero, List.set_cons_succ]; rfl) ?_
            refine dep_known (c := .bool true) rfl (by kernel_rfl) (fun W hG hF => ?_) (by simp only [Act.put, List.setIfInBounds_toArray, List.set_cons_zero, List.set_cons_succ]; rfl) ?_
            · unfold opGives
              go_simp
              refine (hFine W).mono ?_
              rintro e w2 ⟨rfl, hb2⟩
              exact ⟨_, rfl, rfl, Keeps.of_below hb2 []⟩
            iterate 2 refine dep_reckons rfl (by kernel_rfl) (fun W hG hF => by go_simp <;> rfl) (by simp only [Act.put, List.setIfInBounds_toArray, List.set_cons_zero, List.set_cons_succ]; rfl) ?_
            iterate 2 refine dep_reckons rfl (by kernel_rfl) (fun W hG hF => by go_simp <;> rfl) (by simp only [Act.put, List.setIfInBounds_toArray, List.set_cons_zero, List.set_cons_succ]; rfl) ?_
            refine dep_reckons (c := .bool true) rfl (by kernel_rfl) (fun W hG hF => by go_simp <;> first | rfl | exact HLn.out | exact List.length_pos_iff.2 HLn.out | omega) (by simp only [Act.put, List.setIfInBounds_toArray, List.set_cons_zero, List.set_cons_succ]; rfl) ?_
            iterate 7 refine dep_reckons rfl (by kernel_rfl) (fun W hG hF => by go_simp <;> rfl) (by simp only [Act.put, List.setIfInBounds_toArray, List.set_cons_zero, List.set_cons_succ]; rfl) ?_
            refine dep_reckons rfl (by kernel_rfl) (fun W hG hF => by have hcf := cf W hG; go_simp <;> rfl) (by simp only [Act.put, List.setIfInBounds_toArray, List.set_cons_zero, List.set_cons_succ]; rfl) ?_
            refine dep_reckons rfl (by kernel_rfl) (fun W hG hF => by go_simp <;> rfl) (by simp only [Act.put, List.setIfInBounds_toArray, List.set_cons_zero, List.set_cons_succ]; rfl) ?_
            refine dep_reckons rfl (by kernel_rfl) (fun W hG hF => by have hcf := cf W hG; go_simp <;> rfl) (by simp only [Act.put, List.setIfInBounds_toArray, List.set_cons_zero, List.set_cons_succ]; rfl) ?_
            refine dep_reckons (c := .bool false) rfl (by kernel_rfl) (fun W hG hF => by go_simp <;> first | rfl | exact tge | exact hlt2 | omega) (by simp only [Act.put, List.setIfInBounds_toArray, List.set_cons_zero, List.set_cons_succ]; rfl) ?_
            iterate 2 refine dep_reckons rfl (by kernel_rfl) (fun W hG hF => by go_simp <;> rfl) (by simp only [Act.put, List.setIfInBounds_toArray, List.set_cons_zero, List.set_cons_succ]; rfl) ?_
            clear tpos tq tql tge tge2 hlt2
            replace cf : ∀ W, Keeps [] U.drew W → (W.cell? ⟨bx, 0, none⟩ = some (.int .i64 (a : Int)) ∧ W.cell? ⟨bx, 1, none⟩ = some (.int .u64 (nu : Int)) ∧ W.cell? ⟨bx, 2, none⟩ = some (.int .u64 (se : Int)) ∧ W.cell? ⟨bx, 3, none⟩ = some (.int .i64 (co : Int)) ∧ W.cell? ⟨bx, 4, none⟩ = some (.int .u64 (ve : Int))) ∧ bx < W.heap.size := fun W hk => (cf W hk).1
            obtain ⟨Av, hAv⟩ : ∃ z, some (⟨ab, ao, none⟩ : Addr) = z := ⟨_, rfl⟩
            rw [hAv] at hH ⊢
            clear hAv
            refine dep_nil fun W hG hF => ?_
            have bw := (keeps_drew hG).nil_below
            replace hH := hH.below_ bw
            replace hRn := hRn.below bw
            have hcf := cf W hG
            clear hF hG cf bw hxr
            have hX6 : Below W.heap.size W (W.alloc (.cells #[.int .i64 (a : Int), .int .u64 (nu : Int), .int .u64 (se : Int), .int .i64 (co : Int), .int .u64 (ve : Int)] 31)) := (Below.refl _ _).alloc (Nat.le_refl _) _
            have hs6 := hH.below.size
            go_wp2_with (at_builtin; refine wpList_append_src rfl (.tmp 80) (.tmp 82) _ rfl w.heap.size 31 i0 _ 5 40 Try.underlying22 hi0 hz0 hz1 hz2 rfl (by omega) (.slice Av L.length cv) L.length (L.flatMap cl5) rfl ?zd0 (some ⟨W.heap.size, 0, none⟩) 1 1 (cl5 ⟨a, nu, se, co, ve⟩) rfl ?zd1 ?zd2 ?zd3 ?zd4 ?zd5)
            case zd0 => exact (hH.below_ hX6).own
            case zd1 => exact Src.one W #[.int .i64 (a : Int), .int .u64 (nu : Int), .int .u64 (se : Int), .int .i64 (co : Int), .int .u64 (ve : Int)] _ (by intro u hu; simp at hu; rcases hu with rfl | rfl | rfl | rfl | rfl <;> rfl)
            case zd2 => unfold maxLen; have := HL6.out; omega
            case zd3 => have := HL6.out; omega
            case zd4 => simp; omega
            case zd5 =>
              intro v' w6 ho6 hgr _
              have hk6 := Keeps.of_grown hgr
              have hown := (hH.below_ hX6).own
              have hge : ∀ j ∈ (Value.slice Av L.length cv).ownBlock.toList, w.heap.size ≤ j := fun j hj => own_ge hown j (by simpa using hj)
              have hRo : RV w.heap.size w6 w.heap.size (rowS S) := (hRn.below hX6).keepsRow hk6 hown
              have hHo := (hH.below_ hX6).grown hk6 hge (rows_snoc ho6)
              clear hgr hk6 hown hge ho6 hX6 hs6 hcf
              go_wp2_with fail
              go_roundw
              case rel => exact ⟨k + 1, by omega, by rw [HG.out], by first | rfl | go_num, by rw [Hrs.out]; exact hRo, by rw [Hrl.out]; exact hHo⟩
              case measure => simp [intOf]; omega
          · have HG : Hid (rdG s0 (k + 1) = false) := Lib.hid (by rw [Hrg.out, hf, decide_eq_false (show ¬ lastCl L < (a : Int) by rw [← hlast]; exact hlt2)]; simp)
            have tge2 : (a : Int) ≤ y.cl := by omega
            have tge : decide (y.cl ≥ (a : Int)) = true := decide_eq_true tge2
            clear hf Hrg hlast hq hlt2
            refine wp_region_calls 20 [(1, .known (.bool true))] (by kernel_rfl) (by kernel_rfl) rfl ⟨trivial, trivial⟩ ?_
            simp only [List.take_succ_cons, List.take_zero, List.drop_succ_cons, List.drop_zero]
            refine dep_reckons rfl (by kernel_rfl) (fun W hG hF => by have hcf := cf W hG; go_simp <;> rfl) (by simp only [Act.put, List.setIfInBounds_toArray, List.set_cons_zero, List.set_cons_succ]; rfl) ?_
            refine dep_known (c := .bool true) rfl (by kernel_rfl) (fun W hG hF => ?_) (by simp only [Act.put, List.setIfInBounds_toArray, List.set_cons_zero, List.set_cons_succ]; rfl) ?_
            · unfold opGives
              go_simp
              refine (hFine W).mono ?_
              rintro e w2 ⟨rfl, hb2⟩
              exact ⟨_, rfl, rfl, Keeps.of_below hb2 []⟩
            iterate 2 refine dep_reckons rfl (by kernel_rfl) (fun W hG hF => by go_simp <;> rfl) (by simp only [Act.put, List.setIfInBounds_toArray, List.set_cons_zero, List.set_cons_succ]; rfl) ?_
            iterate 2 refine dep_reckons rfl (by kernel_rfl) (fun W hG hF => by go_simp <;> rfl) (by simp only [Act.put, List.setIfInBounds_toArray, List.set_cons_zero, List.set_cons_succ]; rfl) ?_
            refine dep_reckons (c := .bool true) rfl (by kernel_rfl) (fun W hG hF => by go_simp <;> first | rfl | exact HLn.out | exact List.length_pos_iff.2 HLn.out | omega) (by simp only [Act.put, List.setIfInBounds_toArray, List.set_cons_zero, List.set_cons_succ]; rfl) ?_
            iterate 7 refine dep_reckons rfl (by kernel_rfl) (fun W hG hF => by go_simp <;> rfl) (by simp only [Act.put, List.setIfInBounds_toArray, List.set_cons_zero, List.set_cons_succ]; rfl) ?_
            refine dep_reckons rfl (by kernel_rfl) (fun W hG hF => by have hcf := cf W hG; go_simp <;> rfl) (by simp only [Act.put, List.setIfInBounds_toArray, List.set_cons_zero, List.set_cons_succ]; rfl) ?_
            refine dep_reckons rfl (by kernel_rfl) (fun W hG hF => by go_simp <;> rfl) (by simp only [Act.put, List.setIfInBounds_toArray, List.set_cons_zero, List.set_cons_succ]; rfl) ?_
            refine dep_reckons rfl (by kernel_rfl) (fun W hG hF => by have hcf := cf W hG; go_simp <;> rfl) (by simp only [Act.put, List.setIfInBounds_toArray, List.set_cons_zero, List.set_cons_succ]; rfl) ?_
            refine dep_reckons (c := .bool true) rfl (by kernel_rfl) (fun W hG hF => by go_simp <;> first | rfl | exact tge | simp [tge2]) (by simp only [Act.put, List.setIfInBounds_toArray, List.set_cons_zero, List.set_cons_succ]; rfl) ?_
            iterate 2 refine dep_reckons rfl (by kernel_rfl) (fun W hG hF => by go_simp <;> rfl) (by simp only [Act.put, List.setIfInBounds_toArray, List.set_cons_zero, List.set_cons_succ]; rfl) ?_
            clear tpos tq tql tge2 tge
            replace cf : ∀ W, Keeps [] U.drew W → (W.cell? ⟨bx, 0, none⟩ = some (.int .i64 (a : Int)) ∧ W.cell? ⟨bx, 1, none⟩ = some (.int .u64 (nu : Int)) ∧ W.cell? ⟨bx, 2, none⟩ = some (.int .u64 (se : Int)) ∧ W.cell? ⟨bx, 3, none⟩ = some (.int .i64 (co : Int)) ∧ W.cell? ⟨bx, 4, none⟩ = some (.int .u64 (ve : Int))) ∧ bx < W.heap.size := fun W hk => (cf W hk).1
            obtain ⟨Av, hAv⟩ : ∃ z, some (⟨ab, ao, none⟩ : Addr) = z := ⟨_, rfl⟩
            rw [hAv] at hH ⊢
            clear hAv
            refine dep_nil fun W hG hF => ?_
            have bw := (keeps_drew hG).nil_below
            replace hH := hH.below_ bw
            replace hRn := hRn.below bw
            have hcf := cf W hG
            clear hF hG cf bw hxr
            have hX6 : Below W.heap.size W (W.alloc (.cells #[.int .i64 (a : Int), .int .u64 (nu : Int), .int .u64 (se : Int), .int .i64 (co : Int), .int .u64 (ve : Int)] 31)) := (Below.refl _ _).alloc (Nat.le_refl _) _
            have hs6 := hH.below.size
            go_wp2_with (at_builtin; refine wpList_append_src rfl (.tmp 80) (.tmp 82) _ rfl w.heap.size 31 i0 _ 5 40 Try.underlying22 hi0 hz0 hz1 hz2 rfl (by omega) (.slice Av L.length cv) L.length (L.flatMap cl5) rfl ?td0 (some ⟨W.heap.size, 0, none⟩) 1 1 (cl5 ⟨a, nu, se, co, ve⟩) rfl ?td1 ?td2 ?td3 ?td4 ?td5)
            case td0 => exact (hH.below_ hX6).own
            case td1 => exact Src.one W #[.int .i64 (a : Int), .int .u64 (nu : Int), .int .u64 (se : Int), .int .i64 (co : Int), .int .u64 (ve : Int)] _ (by intro u hu; simp at hu; rcases hu with rfl | rfl | rfl | rfl | rfl <;> rfl)
            case td2 => unfold maxLen; have := HL6.out; omega
            case td3 => have := HL6.out; omega
            case td4 => simp; omega
            case td5 =>
              intro v' w6 ho6 hgr _
              have hk6 := Keeps.of_grown hgr
              have hown := (hH.below_ hX6).own
              have hge : ∀ j ∈ (Value.slice Av L.length cv).ownBlock.toList, w.heap.size ≤ j := fun j hj => own_ge hown j (by simpa using hj)
              have hRo : RV w.heap.size w6 w.heap.size (rowS S) := (hRn.below hX6).keepsRow hk6 hown
              have hHo := (hH.below_ hX6).grown hk6 hge (rows_snoc ho6)
              clear hgr hk6 hown hge ho6 hX6 hs6 hcf
              go_wp2_with fail
              go_roundw
              case rel => exact ⟨k + 1, by omega, by rw [HG.out], by first | rfl | go_num, by rw [Hrs.out]; exact hRo, by rw [Hrl.out]; exact hHo⟩
              case measure => simp [intOf]; omega
    · obtain rfl : k = N := by omega
      obtain ⟨Ak, nk, ck, hbk, hrk⟩ := hR
      have d0 := hbk.cell 0
      have d1 := hbk.cell 1
      have dz := hbk.frozen
      have dl := hbk.lt
      have f0 := hH.res.cell 0
      have f1 := hH.res.cell 1
      have fz := hH.res.frozen
      have fl := hH.res.lt
      simp only [List.getElem?_toArray, List.getElem?_cons_zero, List.getElem?_cons_succ] at d0 d1 f0 f1
      have hne : ¬ w.heap.size + 1 = w.heap.size := by omega
      have hfin : ∀ (v' : Value) (E : Int), (E = 0 → v' = .slice Av (rdL s0 k).length cv) → (E ≠ 0 → v' = .slice none 0 0) → E = rdE s0 k → RRd (rdE s0 k) (rdL s0 k) (rdS s0 k) w.heap.size (.returned (.tuple #[.agg #[.slice Ak nk ck, .int .i64 (rdS s0 k).err], v', .int .i64 E])) ((wr.setCell ⟨w.heap.size + 1, 0, none⟩ (.slice Ak nk ck)).setCell ⟨w.heap.size + 1, 1, none⟩ (.int .i64 (rdS s0 k).err)) := by
        intro v' E h0 h00 hE
        subst hE
        refine ⟨Ak, nk, ck, v', rfl, (hrk.stored hH.res _ _).plain, ?_⟩
        by_cases he : rdE s0 k = 0
        case neg => rw [if_neg he, h00 he]; exact World.ownsRow_nil _ _ _ _
        rw [if_pos he, h0 he]
        exact own_keeps hH.own (((Keeps.refl [w.heap.size + 1] wr).setCell (p := ⟨w.heap.size + 1, 0, none⟩) (.inl (by simp)) _).setCell (p := ⟨w.heap.size + 1, 1, none⟩) (.inl (by simp)) _) fun j hj hm => own_blk_ne hH.own hH.res (by decide) j hj (by simpa using hm)
      have hfb : Below w.heap.size w ((wr.setCell ⟨w.heap.size + 1, 0, none⟩ (.slice Ak nk ck)).setCell ⟨w.heap.size + 1, 1, none⟩ (.int .i64 (rdS s0 k).err)) := (hH.below.setCell (by simp) _).setCell (by simp) _
      by_cases he : (rdS s0 k).err = 0
      · have t : ((rdS s0 k).err != 0) = false := by simp [he]
        cases hG : rdG s0 k with
        | false =>
          have HE : Hid (rdE s0 k = 4) := Lib.hid (by unfold rdE; rw [if_neg (by simpa using he), if_pos hG])
          have hf := hfin (.slice none 0 0) 4 (fun h => absurd h (by decide)) (fun _ => rfl) HE.out.symm
          clear he hG hfin hlt
          go_wp2_with fail
          refine bodyPost_ret (v := .tuple #[.agg #[.slice Ak nk ck, .int .i64 (rdS s0 k).err], .slice none 0 0, .int .i64 4]) (by simp [results, Try.results44, go_sem, f0, f1]) rfl ⟨hf, hfb⟩
        | true =>
          have HE : Hid (rdE s0 k = 0) := Lib.hid (by unfold rdE; rw [if_neg (by simpa using he), if_neg (by rw [hG]; simp)])
          have hf := hfin (.slice Av (rdL s0 k).length cv) 0 (fun _ => rfl) (fun h => absurd rfl h) HE.out.symm
          clear he hG hfin hlt
          go_wp2_with fail
          refine bodyPost_ret (v := .tuple #[.agg #[.slice Ak nk ck, .int .i64 (rdS s0 k).err], .slice Av (rdL s0 k).length cv, .int .i64 0]) (by simp [results, Try.results44, go_sem, f0, f1]) rfl ⟨hf, hfb⟩
      · have t : ((rdS s0 k).err != 0) = true := by simp [he]
        have HE : Hid (rdE s0 k = (rdS s0 k).err) := Lib.hid (by unfold rdE; rw [if_pos he])
        have hf := hfin (.slice none 0 0) _ (fun h => absurd h he) (fun _ => rfl) HE.out.symm
        clear he hfin hlt
        go_wp2_with fail
        go_region
        go_wp2_with fail
        refine bodyPost_ret (v := .tuple #[.agg #[.slice Ak nk ck, .int .i64 (rdS s0 k).err], .slice none 0 0, .int .i64 (rdS s0 k).err]) (by simp [results, Try.results44, go_sem, f0, f1]) rfl ⟨hf.drew, hfb.drew⟩
end Go.Proofs.Ytehfddafjemedaa
