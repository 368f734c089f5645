/- Contract: a table that is read (sess.Read). -/
import Derived.Test.YtehfddafjemedaaSbR
import Derived.Test.YtehfddafjemedaaLike16
import Derived.Test.YtehfddafjemedaaFixNil
namespace Go.Proofs.Ytehfddafjemedaa
open Go.RowKit
set_option linter.unusedSimpArgs false
set_option linter.unusedVariables false

/-- What is told by sess.Read. -/
def SRd (E : Int) (l : List SRow) (B : Nat) (e : Ending) (w' : World) : Prop :=
  (E = 0 ∧ ∃ (h : Nat) (R : Nat → SRow), e = .returned (.tuple #[.pointer (some ⟨h, 0, none⟩), .int .i64 0]) ∧ TabAt w' h R ∧ TabOk R ∧ rowsOf R = l ∧ B ≤ h) ∨ (E ≠ 0 ∧ e = .returned (.tuple #[.pointer none, .int .i64 E]))

theorem sessRead_nil (w : World) : Calls Try.prog 43 #[.pointer none] w fun e w' => e = .returned (.tuple #[.pointer none, .int .i64 2]) ∧ Below w.heap.size w w' := by
  go_enter Try.func43, Try.ntmps43
  go_wp2_with fail
  refine (inUpto_nil 1 6 w).mono ?_
  rintro e w1 ⟨rfl, rfl⟩
  go_wp2_with fail
  refine (New_any w).mono ?_
  rintro e w1 ⟨rfl, ht1, hb1⟩
  go_wp2_with fail
  go_loopw [14] (fun i wr => i = .int .u64 0 ∧ Below w.heap.size w wr) (fun i _ => 0)
  case atStart => exact ⟨rfl, hb1⟩
  case round =>
    obtain ⟨rfl, hb⟩ := hrel
    go_wp2_with fail
    refine (inErr_nil wr).mono ?_
    rintro e w1 ⟨rfl, rfl⟩
    go_wp2_with fail
    refine bodyPost_ret (v := .tuple #[.pointer none, .int .i64 2]) (by simp [results, Try.results43, go_sem]) rfl ?_
    exact ⟨rfl, hb⟩

set_option maxRecDepth 100000 in
set_option maxHeartbeats 4000000 in
theorem sessRead_any (Z : Nat → Prop) (g : Nat) (s : IS) (w : World) (h : InZ w Z g s) (hZ : ∀ k, Z k → k < w.heap.size) :
    Calls Try.prog 43 #[.pointer (some ⟨g, 0, none⟩)] w fun e w' => SRd (rdE (uptoS s 1 6) (uptoN s 1 6)) (rdL (uptoS s 1 6) (uptoN s 1 6)) w.heap.size e w' ∧ InZ w' Z g (rdS (uptoS s 1 6) (uptoN s 1 6)) ∧ Keeps [g] w w' := by
  have hup := inUpto_any Z g s 1 6 w h
  have hN6 := upto_most s 1 6
  have hg := hZ g h.zone
  obtain ⟨N, hN⟩ : ∃ z, uptoN s 1 6 = z := ⟨_, rfl⟩
  obtain ⟨s0, hs0⟩ : ∃ z, uptoS s 1 6 = z := ⟨_, rfl⟩
  rw [hN, hs0] at hup ⊢
  rw [hN] at hN6
  clear hN hs0 h
  go_enter Try.func43, Try.ntmps43
  go_wp2_with fail
  refine hup.mono ?_
  rintro e w1 ⟨rfl, h1, hk1⟩
  clear hup
  go_wp2_with fail
  refine (New_any w1).mono ?_
  rintro e w2 ⟨rfl, ht2, hb2⟩
  have h2 := h1.below hb2
  have hk2 : Keeps [g] w w2 := hk1.trans (Keeps.of_below hb2 []) (by simp)
  have hH := hk1.size
  clear h1 hb2 hk1
  obtain ⟨H, hHH⟩ : ∃ H, w1.heap.size = H := ⟨_, rfl⟩
  rw [hHH] at ht2 hH ⊢
  have hH' := hH
  clear hHH
  go_wp2_with fail
  go_loopw [6, 7, 14] (fun last good i wr => ∃ (k : Nat) (R : Nat → SRow), k ≤ N ∧ last = .int .i64 (lastCl (rdL s0 k)) ∧ good = .bool (rdG s0 k) ∧ i = .int .u64 (k : Int) ∧ InZ wr Z g (rdS s0 k) ∧ TabAt wr H R ∧ TabOk R ∧ Hid (rdG s0 k = true → rowsOf R = rdL s0 k) ∧ Keeps [g] w wr) (fun _ _ i _ => N - (intOf i).toNat)
  case atStart => exact ⟨0, _, Nat.zero_le _, rfl, rfl, rfl, h2, ht2, TabOk.zero, Lib.hid fun _ => rfl, hk2⟩
  case round =>
    obtain ⟨k, R, hk, rfl, rfl, rfl, hI, hT, hRok, HR, hK⟩ := hrel
    clear h2 ht2 hk2
    by_cases hlt : k < N
    · have hL0 := rdL_len s0 k
      have hrs : rdS s0 (k + 1) = rowS (rdS s0 k) := rfl
      have hrl : rdL s0 (k + 1) = rdL s0 k ++ [rowV (rdS s0 k)] := rfl
      have hrg : rdG s0 (k + 1) = (rdG s0 k && ((rowV (rdS s0 k)).fine && decide (lastCl (rdL s0 k) < (rowV (rdS s0 k)).cl))) := rfl
      have hlst : lastCl (rdL s0 (k + 1)) = (rowV (rdS s0 k)).cl := by rw [hrl]; exact lastCl_snoc _ _
      have hall := rdG_all s0 k
      obtain ⟨S, hS⟩ : ∃ z, rdS s0 k = z := ⟨_, rfl⟩
      rw [hS] at hI hrs hrl hrg hlst
      have b1 : uptoN S 1 18446744073709551615 < 256 ^ 1 := upto_lt S 1 18446744073709551615 (by omega)
      have b2 : uptoN (rs1 S) 8 18446744073709551615 < 256 ^ 8 := upto_lt (rs1 S) 8 18446744073709551615 (by omega)
      have b3 : uptoN (rs2 S) 8 18446744073709551615 < 256 ^ 8 := upto_lt (rs2 S) 8 18446744073709551615 (by omega)
      have b4 : uptoN (rs3 S) 1 18446744073709551615 < 256 ^ 1 := upto_lt (rs3 S) 1 18446744073709551615 (by omega)
      have b5 : uptoN (rs4 S) 8 18446744073709551615 < 256 ^ 8 := upto_lt (rs4 S) 8 18446744073709551615 (by omega)
      have hv : rowV S = ⟨(uptoN S 1 18446744073709551615 : Nat), (uptoN (rs1 S) 8 18446744073709551615 : Nat), (uptoN (rs2 S) 8 18446744073709551615 : Nat), (uptoN (rs3 S) 1 18446744073709551615 : Nat), (uptoN (rs4 S) 8 18446744073709551615 : Nat)⟩ := rfl
      have q1 := fun W (hW : InZ W Z g S) => inGet_any Z g S 1 W hW
      have q2 := fun W (hW : InZ W Z g (rs1 S)) => inGet_any Z g (rs1 S) 8 W hW
      have q3 := fun W (hW : InZ W Z g (rs2 S)) => inGet_any Z g (rs2 S) 8 W hW
      have q4 := fun W (hW : InZ W Z g (rs3 S)) => inGet_any Z g (rs3 S) 1 W hW
      have q5 := fun W (hW : InZ W Z g (rs4 S)) => inGet_any Z g (rs4 S) 8 W hW
      simp only [show uptoS S 1 18446744073709551615 = rs1 S from rfl] at q1
      simp only [show uptoS (rs1 S) 8 18446744073709551615 = rs2 S from rfl] at q2
      simp only [show uptoS (rs2 S) 8 18446744073709551615 = rs3 S from rfl] at q3
      simp only [show uptoS (rs3 S) 1 18446744073709551615 = rs4 S from rfl] at q4
      simp only [show uptoS (rs4 S) 8 18446744073709551615 = rowS S from rfl] at q5
      obtain ⟨a, ha⟩ : ∃ z, uptoN S 1 18446744073709551615 = z := ⟨_, rfl⟩
      obtain ⟨nu, hnu⟩ : ∃ z, uptoN (rs1 S) 8 18446744073709551615 = z := ⟨_, rfl⟩
      obtain ⟨se, hse⟩ : ∃ z, uptoN (rs2 S) 8 18446744073709551615 = z := ⟨_, rfl⟩
      obtain ⟨co, hco⟩ : ∃ z, uptoN (rs3 S) 1 18446744073709551615 = z := ⟨_, rfl⟩
      obtain ⟨ve, hve⟩ : ∃ z, uptoN (rs4 S) 8 18446744073709551615 = z := ⟨_, rfl⟩
      simp only [ha] at q1
      simp only [hnu] at q2
      simp only [hse] at q3
      simp only [hco] at q4
      simp only [hve] at q5
      rw [ha, hnu, hse, hco, hve] at hv
      rw [ha] at b1
      rw [hco] at b4
      have a256 : a < 256 := by omega
      have c256 : co < 256 := by omega
      rw [hv] at hrl hrg hlst
      have t1 : IntKind.i64.wrap (a : Int) = (a : Int) := by rw [IntKind.wrap_i64]; omega
      have t2 : IntKind.i64.wrap (co : Int) = (co : Int) := by rw [IntKind.wrap_i64]; omega
      have T1 := Lib.hid t1
      have T2 := Lib.hid t2
      have tk : (k : Int) < (N : Int) := by omega
      have Hrs := Lib.hid hrs
      have Hrl := Lib.hid hrl
      have Hrg := Lib.hid hrg
      have Hlst := Lib.hid hlst
      have Hall := Lib.hid hall
      clear hL0 hS ha hnu hse hco hve hv b1 b2 b3 b4 b5 t1 t2 hrs hrl hrg hlst hall a256 c256
      have hHg : H ≠ g := by omega
      go_wp2_with fail
      refine (q1 wr hI).mono ?_
      rintro e v1 ⟨rfl, i1, k1⟩
      have t1 := T1.out
      replace hT : TabAt v1 H R := hT.of_block (k1.block H hT.lt (by simpa using hHg))
      replace hK := hK.trans k1 fun i hi => .inl hi
      clear hI k1 q1
      go_wp2_with fail
      clear t1
      refine (q2 v1 i1).mono ?_
      rintro e v2 ⟨rfl, i2, k2⟩
      replace hT : TabAt v2 H R := hT.of_block (k2.block H hT.lt (by simpa using hHg))
      replace hK := hK.trans k2 fun i hi => .inl hi
      clear i1 k2 q2
      go_wp2_with fail
      refine (q3 v2 i2).mono ?_
      rintro e v3 ⟨rfl, i3, k3⟩
      replace hT : TabAt v3 H R := hT.of_block (k3.block H hT.lt (by simpa using hHg))
      replace hK := hK.trans k3 fun i hi => .inl hi
      clear i2 k3 q3
      go_wp2_with fail
      refine (q4 v3 i3).mono ?_
      rintro e v4 ⟨rfl, i4, k4⟩
      replace hT : TabAt v4 H R := hT.of_block (k4.block H hT.lt (by simpa using hHg))
      replace hK := hK.trans k4 fun i hi => .inl hi
      have t2 := T2.out
      clear i3 k4 q4
      go_wp2_with fail
      clear t2
      refine (q5 v4 i4).mono ?_
      rintro e v5 ⟨rfl, i5, k5⟩
      replace hT : TabAt v5 H R := hT.of_block (k5.block H hT.lt (by simpa using hHg))
      replace hK := hK.trans k5 fun i hi => .inl hi
      clear i4 k5 q5
      have hX : Below v5.heap.size v5 (v5.alloc (.cells #[.int .i64 (a : Int), .int .u64 (nu : Int), .int .u64 (se : Int), .int .i64 (co : Int), .int .u64 (ve : Int)] 28)) := (Below.refl _ _).alloc (Nat.le_refl _) _
      have hx := Blk.new v5 28 #[.int .i64 (a : Int), .int .u64 (nu : Int), .int .u64 (se : Int), .int .i64 (co : Int), .int .u64 (ve : Int)]
      have hT6 := hT.below hX
      have hI6 := i5.below hX
      have hK6 := hK.trans (Keeps.of_below hX []) (by simp)
      have hHlt := hT.lt
      have hxH : v5.heap.size ≠ H := by omega
      clear i5
      by_cases hG : rdG s0 k = true
      · by_cases hlt2 : lastCl (rdL s0 k) < (a : Int)
        · have hst := step_set hRok (HR.out hG) (r := ⟨(a : Int), (nu : Int), (se : Int), (co : Int), (ve : Int)⟩) (by simp only; omega) (fun y hy => by have := Hall.out hG y hy; simp only; omega)
          have hset := Set_any H ⟨(a : Int), (nu : Int), (se : Int), (co : Int), (ve : Int)⟩ R
          have hRok2 := hRok.set ⟨(a : Int), (nu : Int), (se : Int), (co : Int), (ve : Int)⟩
          have hsame : setErr R ⟨(a : Int), (nu : Int), (se : Int), (co : Int), (ve : Int)⟩ ≠ 0 → True := fun _ => trivial
          have HG2 : Hid (rdG s0 (k + 1) = decide (setErr R ⟨(a : Int), (nu : Int), (se : Int), (co : Int), (ve : Int)⟩ = 0)) := Lib.hid (by
            rw [Hrg.out, hG, decide_eq_true hlt2]
            cases hf : SRow.fine ⟨(a : Int), (nu : Int), (se : Int), (co : Int), (ve : Int)⟩ with
            | true => simp [(hst.1 hf).1]
            | false => simp [hst.2 hf])
          have HR2 : Hid (rdG s0 (k + 1) = true → rowsOf (setTab R ⟨(a : Int), (nu : Int), (se : Int), (co : Int), (ve : Int)⟩) = rdL s0 (k + 1)) := Lib.hid (fun hg2 => by
            rw [HG2.out] at hg2
            cases hf : SRow.fine ⟨(a : Int), (nu : Int), (se : Int), (co : Int), (ve : Int)⟩ with
            | true => rw [Hrl.out]; exact (hst.1 hf).2
            | false => exact absurd (of_decide_eq_true hg2) (hst.2 hf))
          obtain ⟨E, hE⟩ : ∃ z, setErr R ⟨(a : Int), (nu : Int), (se : Int), (co : Int), (ve : Int)⟩ = z := ⟨_, rfl⟩
          obtain ⟨R2, hR2⟩ : ∃ z, setTab R ⟨(a : Int), (nu : Int), (se : Int), (co : Int), (ve : Int)⟩ = z := ⟨_, rfl⟩
          simp only [hE, hR2] at hset HG2 HR2 hRok2
          simp only [SRow.val] at hset
          rw [hG]
          clear hst hsame hE hR2 hG Hrg Hall HR hRok hT
          go_wp2_with fail
          refine (hset _ hT6).mono ?_
          rintro e v7 ⟨rfl, ht7, hk7⟩
          have hx7 := hx.keeps hk7 (by simpa using hxH)
          have hI7 := hI6.keeps hk7 (fun i hi hz => by have := hZ i hz; rw [show i = H by simpa using hi] at this; omega)
          have hK7 := hK6.trans hk7 fun i hi => by rw [show i = H by simpa using hi]; exact .inr hH'
          clear hset hk7 hx hI6 hK6 hT6 hX
          have d0 := hx7.cell 0
          have dl := hx7.lt
          simp only [List.getElem?_toArray, List.getElem?_cons_zero, List.getElem?_cons_succ] at d0
          by_cases hE0 : E = 0
          · have tE : (E == 0) = true := by simp [hE0]
            have HE0 := Lib.hid hE0
            clear hE0
            go_wp2_with fail
            go_roundw
            case rel => exact ⟨k + 1, R2, by omega, by rw [Hlst.out], by rw [HG2.out, HE0.out]; rfl, by first | rfl | go_num, by rw [Hrs.out]; exact hI7, ht7, hRok2, HR2, hK7⟩
            case measure => simp [intOf]; omega
          · have tE : (E == 0) = false := by simp [hE0]
            have HE0 := Lib.hid hE0
            clear hE0
            go_wp2_with fail
            go_roundw
            case rel => exact ⟨k + 1, R2, by omega, by rw [Hlst.out], by rw [HG2.out, decide_eq_false HE0.out], by first | rfl | go_num, by rw [Hrs.out]; exact hI7, ht7, hRok2, HR2, hK7⟩
            case measure => simp [intOf]; omega
        · have HG2 : Hid (rdG s0 (k + 1) = false) := Lib.hid (by rw [Hrg.out, decide_eq_false hlt2]; simp)
          have HR2 : Hid (rdG s0 (k + 1) = true → rowsOf R = rdL s0 (k + 1)) := Lib.hid (fun hg2 => by rw [HG2.out] at hg2; exact absurd hg2 (by simp))
          rw [hG]
          clear hG Hrg Hall HR hT
          go_wp2_with fail
          go_roundw
          case rel => exact ⟨k + 1, R, by omega, by rw [Hlst.out], by rw [HG2.out], by first | rfl | go_num, by rw [Hrs.out]; exact hI6, hT6, hRok, HR2, hK6⟩
          case measure => simp [intOf]; omega
      · have hGf : rdG s0 k = false := by simpa using hG
        have HG2 : Hid (rdG s0 (k + 1) = false) := Lib.hid (by rw [Hrg.out, hGf]; rfl)
        have HR2 : Hid (rdG s0 (k + 1) = true → rowsOf R = rdL s0 (k + 1)) := Lib.hid (fun hg2 => by rw [HG2.out] at hg2; exact absurd hg2 (by simp))
        rw [hGf]
        clear hG hGf Hrg Hall HR hT
        go_wp2_with fail
        go_roundw
        case rel => exact ⟨k + 1, R, by omega, by rw [Hlst.out], by rw [HG2.out], by first | rfl | go_num, by rw [Hrs.out]; exact hI6, hT6, hRok, HR2, hK6⟩
        case measure => simp [intOf]; omega
    · obtain rfl : k = N := by omega
      have her := inErr_any Z g _ wr hI
      clear hlt
      go_wp2_with fail
      refine her.mono ?_
      rintro e w3 ⟨rfl, rfl⟩
      clear her
      by_cases he : (rdS s0 k).err = 0
      · have t : ((rdS s0 k).err != 0) = false := by simp [he]
        cases hG : rdG s0 k with
        | false =>
          have HE : Hid (rdE s0 k = 4) := Lib.hid (by unfold rdE; rw [if_neg (by simpa using he), if_pos hG])
          clear he hG
          go_wp2_with fail
          refine bodyPost_ret (v := .tuple #[.pointer none, .int .i64 4]) (by simp [results, Try.results43, go_sem]) rfl ?_
          exact ⟨.inr ⟨by rw [HE.out]; decide, by rw [HE.out]⟩, hI, hK⟩
        | true =>
          have HE : Hid (rdE s0 k = 0) := Lib.hid (by unfold rdE; rw [if_neg (by simpa using he), if_neg (by rw [hG]; simp)])
          have HRR := HR.out hG
          have HQ := Lib.hid HRR
          clear he hG HRR
          go_wp2_with fail
          refine bodyPost_ret (v := .tuple #[.pointer (some ⟨H, 0, none⟩), .int .i64 0]) (by simp [results, Try.results43, go_sem]) rfl ?_
          exact ⟨.inl ⟨by rw [HE.out], H, R, rfl, hT, hRok, HQ.out, hH⟩, hI, hK⟩
      · have t : ((rdS s0 k).err != 0) = true := by simp [he]
        have HE : Hid (rdE s0 k = (rdS s0 k).err) := Lib.hid (by unfold rdE; rw [if_pos he])
        have HN := Lib.hid he
        clear he
        go_wp2_with fail
        refine bodyPost_ret (v := .tuple #[.pointer none, .int .i64 (rdS s0 k).err]) (by simp [results, Try.results43, go_sem]) rfl ?_
        exact ⟨.inr ⟨by rw [HE.out]; exact HN.out, by rw [HE.out]⟩, hI, hK⟩
end Go.Proofs.Ytehfddafjemedaa
