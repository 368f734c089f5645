/- How a law's arguments are opened: whatever came in is cells that are whole numbers of a kind, or byte slices. No program in sight. -/
import Derived.Test.YtehfddafjemedaaMem
import Derived.ProofKit
import Derived.OpenShut
import Derived.ChangeOld
import Derived.Deep.Slices
import Derived.Deep.Fields
namespace Go.Proofs.Ytehfddafjemedaa
open Go.RowKit Go.ChangeShapes Go.WideShapes Go.Deep
set_option linter.unusedVariables false

inductive CK where
  | int (k : IntKind)
  | bytes

def OkCell (w : World) : CK → Value → Prop
  | .int k, v => ∃ n, v = .int k n ∧ k.min ≤ n ∧ n ≤ k.max
  | .bytes, v => ∃ A n c xs, v = .slice A n c ∧ n ≤ c ∧ c ≤ maxLen ∧ Rd w A n xs ∧ (A = none → c = 0)

theorem wf_bounds {k : IntKind} {n : Int} (h : (Lit.int k n).wf = true) : k.min ≤ n ∧ n ≤ k.max := by
  simpa [Lit.wf] using h

section
variable {H : Type} {enc : TypeId × Value → H} {P : Program} {w : World} {base : Nat} {spare : Nat → Bool} {held : Bool}

/-- Whatever reads as a T is these cells. -/
def ReadsAs (enc : TypeId × Value → H) (P : Program) (w : World) (base : Nat) (spare : Nat → Bool) (held : Bool) (T : TypeId) (ks : List CK) : Prop :=
  ∀ fuel cs x, DataW.trod enc P w base spare held fuel T cs = some x → cs.length = ks.length ∧ ∀ (j : Nat) (k : CK), ks[j]? = some k → ∃ v : Value, cs[j]? = some v ∧ OkCell w k v

theorem readsAs_int {T : TypeId} {k : IntKind} (ht : P.underlying T = some (.int k)) : ReadsAs enc P w base spare held T [.int k] := by
  intro fuel cs x h
  obtain ⟨n, rfl, _, hw⟩ := DataW.trod_int ht h
  refine ⟨rfl, fun j k' hj => ?_⟩
  match j, hj with
  | 0, hj =>
    simp only [List.getElem?_cons_zero, Option.some.injEq] at hj
    subst hj
    exact ⟨_, rfl, n, rfl, wf_bounds hw⟩

theorem bytes_of_ints {a : Addr} {len cap : Nat} {zs : List Int} (hl : len ≤ cap) (hm : cap ≤ maxLen) (hz : len ≤ zs.length) (hc : ∀ i, i < zs.length → w.cell? (a.add i) = some (.int .u8 (zs.getD i 0)))
    (hw : ∀ n ∈ zs, (Lit.int .u8 n).wf = true) : ∃ xs, Rd w (some a) len xs := by
  refine ⟨(List.range len).map fun i => UInt8.ofNat (zs.getD i 0).toNat, by simp, by unfold maxLen at hm; omega, fun h0 => ?_⟩
  have hs : a.spot = none := by simpa [Addr.add] using World.cell?_spot (hc 0 (by omega))
  obtain ⟨b, o, s⟩ := a
  simp only at hs
  subst hs
  refine ⟨b, o, rfl, fun j hj => ?_⟩
  have := hc j (by omega)
  rw [add_lit0] at this
  rw [this]
  have hmem : zs.getD j 0 ∈ zs := by
    rw [List.getD_eq_getElem?_getD, List.getElem?_eq_getElem (by omega)]
    exact List.getElem_mem _
  have hb := wf_bounds (hw _ hmem)
  simp only [IntKind.min, IntKind.max] at hb
  have e : ((List.range len).map fun i => UInt8.ofNat (zs.getD i 0).toNat).getD j 0 = UInt8.ofNat (zs.getD j 0).toNat := by simp [List.getD, hj]
  rw [e]
  have hb2 : 0 ≤ zs.getD j 0 ∧ zs.getD j 0 ≤ 255 := by simpa [IntKind.signed, IntKind.bits] using hb
  have : (UInt8.ofNat (zs.getD j 0).toNat).toNat = (zs.getD j 0).toNat := by
    rw [UInt8.toNat_ofNat']
    omega
  rw [this, Int.toNat_of_nonneg hb2.1]

theorem readsAs_bytes {T E : TypeId} (ht : P.underlying T = some (.slice E)) (he : P.underlying E = some (.int .u8)) (hc : P.cellsOf E = 1) : ReadsAs enc P w base spare held T [.bytes] := by
  intro fuel cs x h
  rcases open_ints ht he hc h with ⟨rfl, _⟩ | ⟨a, len, cap, zs, rfl, _, hl, hm, hz, _, hcell, hw⟩
  · refine ⟨rfl, fun j k' hj => ?_⟩
    match j, hj with
    | 0, hj =>
      simp only [List.getElem?_cons_zero, Option.some.injEq] at hj
      subst hj
      exact ⟨_, rfl, none, 0, 0, [], rfl, Nat.le_refl _, Nat.zero_le _, Rd.nil _ _, fun _ => rfl⟩
  · refine ⟨rfl, fun j k' hj => ?_⟩
    match j, hj with
    | 0, hj =>
      simp only [List.getElem?_cons_zero, Option.some.injEq] at hj
      subst hj
      obtain ⟨xs, hx⟩ := bytes_of_ints (w := w) (a := a) hl hm (by rw [hz]; split <;> omega) hcell hw
      exact ⟨_, rfl, some a, len, cap, xs, rfl, hl, hm, hx, fun h => by cases h⟩

/-- A struct, field by field: where each field's cells lie. -/
theorem readsAs_struct {T : TypeId} {fs : Array Field} {ks : List CK} (ht : P.underlying T = some (.struct fs)) (hC : P.cellsOf T = ks.length)
    (hf : ∀ (i : Nat) (f : Field), fs[i]? = some f → ReadsAs enc P w base spare held f.type ((ks.drop f.offset).take (P.cellsOf f.type)))
    (hcov : ∀ j, j < ks.length → ∃ (i : Nat) (f : Field), fs[i]? = some f ∧ f.offset ≤ j ∧ j < f.offset + P.cellsOf f.type) : ReadsAs enc P w base spare held T ks := by
  intro fuel cs x h
  obtain ⟨xs, n, _, _, hlen, hxl, hg⟩ := DataW.trod_struct ht h
  refine ⟨by rw [hlen, hC], fun j k hj => ?_⟩
  have hjl : j < ks.length := (List.getElem?_eq_some_iff.1 hj).1
  obtain ⟨i, f, hi, h1, h2⟩ := hcov j hjl
  have h3 := hg i f hi
  have hxi : i < xs.length := by rw [hxl]; exact (Array.getElem?_eq_some_iff.1 hi).1
  rw [List.getElem?_eq_getElem hxi] at h3
  obtain ⟨_, h4⟩ := hf i f hi _ _ _ h3
  obtain ⟨v, hv, ho⟩ := h4 (j - f.offset) k (by
    rw [List.getElem?_take, if_pos (by omega), List.getElem?_drop]
    rw [show f.offset + (j - f.offset) = j by omega]
    exact hj)
  refine ⟨v, ?_, ho⟩
  rw [List.getElem?_take] at hv
  split at hv
  · rw [List.getElem?_drop, show f.offset + (j - f.offset) = j by omega] at hv
    exact hv
  · cases hv

/-- An array. -/
theorem readsAs_array {T E : TypeId} {n : Nat} {k : IntKind} (ht : P.underlying T = some (.array n E)) (he : P.underlying E = some (.int k)) (hc : P.cellsOf E = 1) (hC : P.cellsOf T = n) :
    ReadsAs enc P w base spare held T (List.replicate n (.int k)) := by
  intro fuel cs x h
  obtain ⟨xs, m, _, _, hlen, hxl, hg⟩ := DataW.trod_array ht h
  refine ⟨by rw [hlen, hC, List.length_replicate], fun j k' hj => ?_⟩
  have hjl : j < n := by have := (List.getElem?_eq_some_iff.1 hj).1; simpa using this
  have hk : k' = .int k := by
    rw [List.getElem?_replicate] at hj
    split at hj
    · simpa using hj.symm
    · exact absurd hjl (by assumption)
  subst hk
  have h3 := hg j hjl
  rw [List.getElem?_eq_getElem (by omega)] at h3
  obtain ⟨_, h4⟩ := readsAs_int (enc := enc) (w := w) (base := base) (spare := spare) (held := held) he _ _ _ h3
  obtain ⟨v, hv, ho⟩ := h4 0 _ rfl
  refine ⟨v, ?_, ho⟩
  rw [hc, Nat.mul_one, List.getElem?_take] at hv
  simpa using hv

/-- By value. -/
theorem open_val {T : TypeId} {ks : List CK} {v : Value} {d : DataW H} {p : List MemPlace} (hr : ReadsAs enc P w base spare held T ks) (h : DataW.Trod enc P w base spare held T v d p) :
    v.cells.toList.length = ks.length ∧ ∀ (j : Nat) (k : CK), ks[j]? = some k → ∃ u, v.cells.toList[j]? = some u ∧ OkCell w k u := by
  obtain ⟨fuel, hf⟩ := h
  exact hr _ _ _ hf

/-- A slice of such. -/
theorem open_slc {r : Reach} {b0 : Nat} {T E : TypeId} {ks : List CK} {v : Value} {d : DataW H} {p : List MemPlace} (ht : P.underlying T = some (.slice E)) (hC : P.cellsOf E = ks.length)
    (hr : ReadsAs enc P w base spare held E ks) (hval : Value.okWide P w r b0 T v) (h : DataW.Trod enc P w base spare held T v d p) :
    ∃ A n c, v = .slice A n c ∧ n ≤ c ∧ c ≤ maxLen ∧ (A = none → n = 0 ∧ c = 0) ∧
      (0 < n → 0 < ks.length → ∃ b o, A = some ⟨b, o, none⟩ ∧ ∀ i, i < n → ∀ (j : Nat) (k : CK), ks[j]? = some k → ∃ u, w.cell? ⟨b, o + i * ks.length + j, none⟩ = some u ∧ OkCell w k u) := by
  obtain ⟨A, n, c, rfl⟩ := okWide_slice ht hval
  obtain ⟨fuel, hf⟩ := h
  rcases open_slice ht hf with ⟨hcs, _⟩ | ⟨a, len, cap, m, n', D, Pl, hcs, _, hl, hm, hmm, _, hi⟩
  · simp [Value.cells] at hcs
    obtain ⟨rfl, rfl, rfl⟩ := hcs
    exact ⟨none, 0, 0, rfl, Nat.le_refl _, Nat.zero_le _, fun _ => ⟨rfl, rfl⟩, fun h => by omega⟩
  · simp [Value.cells] at hcs
    obtain ⟨rfl, rfl, rfl⟩ := hcs
    refine ⟨some a, n, c, rfl, hl, hm, (fun h => by cases h), fun h0 hk0 => ?_⟩
    have hmn : n ≤ m := by rw [hmm]; split <;> omega
    obtain ⟨b, o, s⟩ := a
    have key : ∀ i, i < n → ∀ (j : Nat) (k : CK), ks[j]? = some k → ∃ u, w.cell? ((⟨b, o, s⟩ : Addr).add (i * ks.length + j)) = some u ∧ OkCell w k u := by
      intro i hin j k hj
      obtain ⟨cs', hcs', ht'⟩ := hi i (by omega)
      obtain ⟨_, h4⟩ := hr _ _ _ ht'
      obtain ⟨_, hcl, hat⟩ := World.cells?_some hcs'
      obtain ⟨u, hu, ho⟩ := h4 j k hj
      have hjl : j < P.cellsOf E := by rw [hC]; exact (List.getElem?_eq_some_iff.1 hj).1
      have := hat j hjl
      rw [Deep.add_add, hC] at this
      exact ⟨u, this.trans hu, ho⟩
    have hs : s = none := by
      obtain ⟨u, hu, _⟩ := key 0 h0 0 _ (List.getElem?_eq_getElem hk0)
      simpa [Addr.add] using World.cell?_spot hu
    subst hs
    refine ⟨b, o, rfl, fun i hin j k hj => ?_⟩
    obtain ⟨u, hu, ho⟩ := key i hin j k hj
    rw [add_lit0, ← Nat.add_assoc] at hu
    exact ⟨u, hu, ho⟩
end

/-- A list out of 'for each i there is one'. -/
theorem list_of {α : Type} {n : Nat} (d : α) {Q : Nat → α → Prop} (h : ∀ i, i < n → ∃ x, Q i x) : ∃ l : List α, l.length = n ∧ ∀ i, i < n → Q i (l.getD i d) := by
  classical
  haveI : Inhabited α := ⟨d⟩
  obtain ⟨f, hf⟩ := choose_lt h
  refine ⟨(List.range n).map f, by simp, fun i hi => ?_⟩
  have : ((List.range n).map f).getD i d = f i := by simp [List.getD, hi]
  rw [this]
  exact hf i hi

theorem okWide_array {P : Program} {w : World} {r : Reach} {base : Nat} {t e : TypeId} {n : Nat} {v : Value} (ht : P.underlying t = some (.array n e)) (h : Value.okWide P w r base t v) : ∃ cs, v = .agg cs := by
  simp only [Value.okWide, ht] at h
  obtain ⟨cs, h1, _⟩ := h
  exact ⟨cs, h1⟩

/-- Two numbers by value. -/
theorem open_two {H : Type} {enc : TypeId × Value → H} {P : Program} {w : World} {base : Nat} {spare : Nat → Bool} {held : Bool} {r : Reach} {b0 : Nat} {t e : TypeId} {k : IntKind} {v : Value} {d : DataW H} {p : List MemPlace}
    (ht : P.underlying t = some (.array 2 e)) (he : P.underlying e = some (.int k)) (hc : P.cellsOf e = 1) (hC : P.cellsOf t = 2) (hval : Value.okWide P w r b0 t v) (h : DataW.Trod enc P w base spare held t v d p) :
    ∃ a b, v = .agg #[.int k a, .int k b] ∧ (k.min ≤ a ∧ a ≤ k.max) ∧ (k.min ≤ b ∧ b ≤ k.max) := by
  obtain ⟨cs, rfl⟩ := okWide_array ht hval
  obtain ⟨h1, h2⟩ := open_val (readsAs_array ht he hc hC) h
  obtain ⟨u, hu, a, rfl, ha⟩ := h2 0 (.int k) rfl
  obtain ⟨u, hv, b, rfl, hb⟩ := h2 1 (.int k) rfl
  refine ⟨a, b, ?_, ha, hb⟩
  simp only [Value.cells] at h1 hu hv
  rcases cs with ⟨l⟩
  rcases l with _ | ⟨x, _ | ⟨y, _ | ⟨z, l⟩⟩⟩ <;> simp at h1 hu hv
  rw [hu, hv]

/-- Bytes. -/
theorem open_bytes {H : Type} {enc : TypeId × Value → H} {P : Program} {w : World} {base : Nat} {spare : Nat → Bool} {held : Bool} {r : Reach} {b0 : Nat} {T E : TypeId} {v : Value} {d : DataW H} {p : List MemPlace}
    (ht : P.underlying T = some (.slice E)) (he : P.underlying E = some (.int .u8)) (hc : P.cellsOf E = 1) (hval : Value.okWide P w r b0 T v) (h : DataW.Trod enc P w base spare held T v d p) :
    ∃ A n c xs, v = .slice A n c ∧ n ≤ c ∧ c ≤ maxLen ∧ Rd w A n xs ∧ (A = none → c = 0) := by
  obtain ⟨A, n, c, rfl⟩ := okWide_slice ht hval
  obtain ⟨_, h2⟩ := open_val (readsAs_bytes ht he hc) h
  obtain ⟨u, hu, A', n', c', xs, rfl, h3⟩ := h2 0 .bytes rfl
  simp [Value.cells] at hu
  obtain ⟨rfl, rfl, rfl⟩ := hu
  exact ⟨A, n, c, xs, rfl, h3⟩
end Go.Proofs.Ytehfddafjemedaa
