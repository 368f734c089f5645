/- A table that is read out of bytes, plain. -/
import Derived.Test.YtehfddafjemedaaSbP
import Derived.Test.YtehfddafjemedaaUpto
namespace Go.Proofs.Ytehfddafjemedaa
open Go.RowKit
set_option linter.unusedSimpArgs false
set_option linter.unusedVariables false

abbrev M64 : Nat := 18446744073709551615
def rs1 (s : IS) : IS := uptoS s 1 18446744073709551615
def rs2 (s : IS) : IS := uptoS (rs1 s) 8 18446744073709551615
def rs3 (s : IS) : IS := uptoS (rs2 s) 8 18446744073709551615
def rs4 (s : IS) : IS := uptoS (rs3 s) 1 18446744073709551615
def rowS (s : IS) : IS := uptoS (rs4 s) 8 18446744073709551615
def rowV (s : IS) : SRow := ⟨(uptoN s 1 18446744073709551615 : Nat), (uptoN (rs1 s) 8 18446744073709551615 : Nat), (uptoN (rs2 s) 8 18446744073709551615 : Nat), (uptoN (rs3 s) 1 18446744073709551615 : Nat), (uptoN (rs4 s) 8 18446744073709551615 : Nat)⟩
def rdS (s : IS) : Nat → IS
  | 0 => s
  | k + 1 => rowS (rdS s k)
def rdL (s : IS) : Nat → List SRow
  | 0 => []
  | k + 1 => rdL s k ++ [rowV (rdS s k)]
def lastCl (l : List SRow) : Int := match l.getLast? with
  | none => 0
  | some y => y.cl
def rdG (s : IS) : Nat → Bool
  | 0 => true
  | k + 1 => rdG s k && ((rowV (rdS s k)).fine && decide (lastCl (rdL s k) < (rowV (rdS s k)).cl))
def rdE (s : IS) (n : Nat) : Int := if (rdS s n).err ≠ 0 then (rdS s n).err else if rdG s n = false then 4 else 0

theorem lastCl_snoc (l : List SRow) (r : SRow) : lastCl (l ++ [r]) = r.cl := by simp [lastCl]
theorem rdL_len (s : IS) (k : Nat) : (rdL s k).length = k := by
  induction k with
  | zero => rfl
  | succ k ih => simp [rdL, ih]
theorem rowV_num (s : IS) : 0 ≤ (rowV s).num := by simp only [rowV]; omega
theorem rdG_all (s : IS) (k : Nat) (h : rdG s k = true) : ∀ y ∈ rdL s k, y.cl ≤ lastCl (rdL s k) := by
  induction k with
  | zero => intro y hy; simp [rdL] at hy
  | succ k ih =>
    intro y hy
    simp only [rdG, Bool.and_eq_true, decide_eq_true_eq] at h
    simp only [rdL] at hy ⊢
    rw [lastCl_snoc]
    rcases List.mem_append.1 hy with hy | hy
    · have := ih h.1 y hy; omega
    · rw [show y = rowV (rdS s k) by simpa using hy]; exact Int.le_refl _
theorem takeWhile_all {l : List SRow} {c : Int} (h : ∀ y ∈ l, y.cl < c) : l.takeWhile (fun y => decide (y.cl < c)) = l ∧ l.dropWhile (fun y => decide (y.cl < c)) = [] := by
  induction l with
  | nil => exact ⟨rfl, rfl⟩
  | cons y l ih =>
    have h1 : decide (y.cl < c) = true := decide_eq_true (h y List.mem_cons_self)
    obtain ⟨i1, i2⟩ := ih fun z hz => h z (List.mem_cons_of_mem _ hz)
    rw [List.takeWhile_cons, List.dropWhile_cons, h1, i1]
    exact ⟨rfl, by simpa using i2⟩
/-- A fresh, later client's row is set behind the others. -/
theorem step_set {R : Nat → SRow} (hR : TabOk R) {l : List SRow} (hl : rowsOf R = l) {r : SRow} (h0 : 0 ≤ r.num) (hlt : ∀ y ∈ l, y.cl < r.cl) :
    (r.fine = true → setErr R r = 0 ∧ rowsOf (setTab R r) = l ++ [r]) ∧ (r.fine = false → setErr R r ≠ 0) := by
  constructor
  · intro hf
    obtain ⟨f1, f2, f3, _⟩ := fine_cl hf
    have hfind : findL l r.cl = none := by
      unfold findL
      rw [List.find?_eq_none]
      intro y hy
      have := hlt y hy
      simp
      omega
    have hE : setErrL (rowsOf R) r = 0 := by
      have hJ : judgeL l r.cl r.num = 0 := by
        unfold judgeL hasL
        rw [hfind, if_neg (by omega), if_pos (.inl rfl)]
      unfold setErrL
      rw [hl, if_neg (by rw [hf]; simp), if_neg (by rw [hJ]; simp)]
    have e1 := setErr_eq hR r h0
    refine ⟨by rw [← e1]; exact hE, ?_⟩
    rw [← setL_rows hR r h0]
    unfold setL
    rw [if_pos hE, hl]
    unfold putL
    obtain ⟨i1, i2⟩ := takeWhile_all hlt
    rw [i1, i2]
    rfl
  · intro hf
    unfold setErr
    rw [if_pos hf]
    decide

theorem row_read (r : SRow) (h : RowOk r) (X : List UInt8) : rowV ⟨rowB r ++ X, 0⟩ = r ∧ rowS ⟨rowB r ++ X, 0⟩ = ⟨X, 0⟩ := by
  have h1 := h.cl
  have h2 := h.num1
  have h3 := h.seq1
  have h4 := h.code
  have h5 := h.ver0
  have g1 := h.num
  have g2 := h.seq
  have g3 := h.ver
  obtain ⟨cl, num, seq, code, ver⟩ := r
  simp only at h1 h2 h3 h4 h5 g1 g2 g3
  obtain ⟨a, rfl⟩ : ∃ a : Nat, cl = a := ⟨cl.toNat, by omega⟩
  obtain ⟨nu, rfl⟩ : ∃ a : Nat, num = a := ⟨num.toNat, by omega⟩
  obtain ⟨se, rfl⟩ : ∃ a : Nat, seq = a := ⟨seq.toNat, by omega⟩
  obtain ⟨co, rfl⟩ : ∃ a : Nat, code = a := ⟨code.toNat, by omega⟩
  obtain ⟨ve, rfl⟩ : ∃ a : Nat, ver = a := ⟨ver.toNat, by omega⟩
  have e : rowB ⟨a, nu, se, co, ve⟩ ++ X = beB a 1 ++ (beB nu 8 ++ (beB se 8 ++ (beB co 1 ++ (beB ve 8 ++ X)))) := by simp only [rowB, Int.toNat_natCast, List.append_assoc]
  rw [e]
  obtain ⟨a1, a2⟩ := upto_app (beB nu 8 ++ (beB se 8 ++ (beB co 1 ++ (beB ve 8 ++ X)))) a 1 18446744073709551615 (by omega) (by omega) (by omega)
  obtain ⟨b1, b2⟩ := upto_app (beB se 8 ++ (beB co 1 ++ (beB ve 8 ++ X))) nu 8 18446744073709551615 (by omega) (by omega) (by omega)
  obtain ⟨c1, c2⟩ := upto_app (beB co 1 ++ (beB ve 8 ++ X)) se 8 18446744073709551615 (by omega) (by omega) (by omega)
  obtain ⟨d1, d2⟩ := upto_app (beB ve 8 ++ X) co 1 18446744073709551615 (by omega) (by omega) (by omega)
  obtain ⟨e1, e2⟩ := upto_app X ve 8 18446744073709551615 (by omega) (by omega) (by omega)
  have r1 : rs1 ⟨beB a 1 ++ (beB nu 8 ++ (beB se 8 ++ (beB co 1 ++ (beB ve 8 ++ X)))), 0⟩ = ⟨beB nu 8 ++ (beB se 8 ++ (beB co 1 ++ (beB ve 8 ++ X))), 0⟩ := a1
  have r2 : rs2 ⟨beB a 1 ++ (beB nu 8 ++ (beB se 8 ++ (beB co 1 ++ (beB ve 8 ++ X)))), 0⟩ = ⟨beB se 8 ++ (beB co 1 ++ (beB ve 8 ++ X)), 0⟩ := by unfold rs2; rw [r1]; exact b1
  have r3 : rs3 ⟨beB a 1 ++ (beB nu 8 ++ (beB se 8 ++ (beB co 1 ++ (beB ve 8 ++ X)))), 0⟩ = ⟨beB co 1 ++ (beB ve 8 ++ X), 0⟩ := by unfold rs3; rw [r2]; exact c1
  have r4 : rs4 ⟨beB a 1 ++ (beB nu 8 ++ (beB se 8 ++ (beB co 1 ++ (beB ve 8 ++ X)))), 0⟩ = ⟨beB ve 8 ++ X, 0⟩ := by unfold rs4; rw [r3]; exact d1
  unfold rowV rowS
  rw [r1, r2, r3, r4]
  refine ⟨?_, e1⟩
  congr 1
  · exact congrArg Int.ofNat a2
  · exact congrArg Int.ofNat b2
  · exact congrArg Int.ofNat c2
  · exact congrArg Int.ofNat d2
  · exact congrArg Int.ofNat e2

theorem rowsL_asc {R : Nat → SRow} (hp : Placed R) : ∀ ks : List Nat, ks.Pairwise (· < ·) → (∀ k ∈ ks, k < 6) → (rowsL R ks).Pairwise (fun x y => x.cl < y.cl) := by
  intro ks
  induction ks with
  | nil => intro _ _; exact List.Pairwise.nil
  | cons k ks ih =>
    intro h1 h2
    rw [rowsL_cons]
    obtain ⟨h3, h4⟩ := List.pairwise_cons.1 h1
    have h5 := ih h4 fun j hj => h2 j (List.mem_cons_of_mem _ hj)
    by_cases hz : (R k).num ≠ 0
    · rw [if_pos hz]
      refine List.pairwise_cons.2 ⟨?_, h5⟩
      have hcl := hp k (h2 k List.mem_cons_self) hz
      intro y hy
      exact rowsL_far hp (c := (R k).cl) (fun j hj => ⟨h2 j (List.mem_cons_of_mem _ hj), by have := h3 j hj; omega⟩) y hy
    · rw [if_neg hz]; exact h5

/-- What is laid is read as it was. -/
theorem round_trip {L : List SRow} (hok : ∀ r ∈ L, RowOk r) (hasc : L.Pairwise (fun x y => x.cl < y.cl)) (X : List UInt8) : ∀ k, k ≤ L.length → rdS ⟨L.flatMap rowB ++ X, 0⟩ k = ⟨(L.drop k).flatMap rowB ++ X, 0⟩ ∧ rdL ⟨L.flatMap rowB ++ X, 0⟩ k = L.take k ∧ rdG ⟨L.flatMap rowB ++ X, 0⟩ k = true := by
  intro k
  induction k with
  | zero => intro _; exact ⟨rfl, by simp [rdL], rfl⟩
  | succ k ih =>
    intro hk
    obtain ⟨i1, i2, i3⟩ := ih (by omega)
    have hmem : L.getD k .zero ∈ L := by
      rw [List.getD_eq_getElem?_getD, List.getElem?_eq_getElem (by omega)]
      exact List.getElem_mem _
    have hr := hok _ hmem
    have e : (L.drop k).flatMap rowB ++ X = rowB (L.getD k .zero) ++ ((L.drop (k + 1)).flatMap rowB ++ X) := by rw [drop_getD L k .zero (by omega), List.flatMap_cons, List.append_assoc]
    obtain ⟨j1, j2⟩ := row_read _ hr ((L.drop (k + 1)).flatMap rowB ++ X)
    have hlast : lastCl (L.take k) < (L.getD k .zero).cl := by
      rcases k with _ | k
      · simp [lastCl]; have := hr.cl; simp at this; omega
      · rw [take_succ_getD L k .zero (by omega), lastCl_snoc]
        rw [List.pairwise_iff_getElem] at hasc
        have := hasc k (k + 1) (by omega) (by omega) (by omega)
        rw [List.getD_eq_getElem?_getD, List.getD_eq_getElem?_getD, List.getElem?_eq_getElem (by omega), List.getElem?_eq_getElem (by omega)]
        exact this
    refine ⟨?_, ?_, ?_⟩
    · show rowS (rdS _ k) = _
      rw [i1, e]; exact j2
    · show rdL _ k ++ [rowV (rdS _ k)] = _
      rw [i1, i2, e, j1, take_succ_getD L k .zero (by omega)]
    · show (rdG _ k && ((rowV (rdS _ k)).fine && decide (lastCl (rdL _ k) < (rowV (rdS _ k)).cl))) = true
      rw [i1, i2, i3, e, j1, hr.fine]
      simpa using hlast
theorem tab_read {L : List SRow} (hok : ∀ r ∈ L, RowOk r) (h6 : L.length ≤ 6) (hasc : L.Pairwise (fun x y => x.cl < y.cl)) : uptoN ⟨tabB L, 0⟩ 1 6 = L.length ∧ rdS (uptoS ⟨tabB L, 0⟩ 1 6) L.length = ⟨[], 0⟩ ∧ rdL (uptoS ⟨tabB L, 0⟩ 1 6) L.length = L ∧ rdE (uptoS ⟨tabB L, 0⟩ 1 6) L.length = 0 := by
  obtain ⟨a1, a2⟩ := upto_app (L.flatMap rowB) L.length 1 6 (by omega) (by omega) h6
  obtain ⟨b1, b2, b3⟩ := round_trip hok hasc [] L.length (Nat.le_refl _)
  simp only [List.append_nil, List.drop_length, List.flatMap_nil, List.take_length] at b1 b2 b3
  have a1' : uptoS ⟨tabB L, 0⟩ 1 6 = ⟨L.flatMap rowB, 0⟩ := a1
  refine ⟨a2, by rw [a1']; exact b1, by rw [a1']; exact b2, ?_⟩
  unfold rdE
  rw [a1', b1, b3]
  rfl
end Go.Proofs.Ytehfddafjemedaa
