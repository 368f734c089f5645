/- The region rule with its operations' kinds in a table; for regions that write nothing of what there was. No program in sight. -/
import Derived.Test.YtehfddafjemedaaDep
namespace Go.Proofs.Ytehfddafjemedaa
open Go.RowKit
set_option linter.unusedSimpArgs false
set_option linter.unusedVariables false

theorem keeps_drew {S : List Nat} {X W : World} (h : Keeps S X.drew W) : Keeps S X W := ⟨h.os, h.tape, h.output, h.size, h.block⟩

def tab (l : List (Nat × DK)) (i : Nat) : DK := (l.lookup i).getD .reckons
def Stable (G : World → World → Prop) : DK → Prop
  | .some_ φ => ∀ v W W', G W W' → φ v W → φ v W'
  | .early φ => ∀ v W W', G W W' → φ v W → φ v W'
  | _ => True
def AllSt (G : World → World → Prop) : List (Nat × DK) → Prop
  | [] => True
  | p :: l => Stable G p.2 ∧ AllSt G l
def noLast : List (Nat × DK) → Bool
  | [] => true
  | (_, .last _) :: _ => false
  | _ :: l => noLast l
theorem tab_mem {l : List (Nat × DK)} {k : Nat} : (k, tab l k) ∈ l ∨ tab l k = .reckons := by
  induction l with
  | nil => exact .inr rfl
  | cons p l ih =>
    obtain ⟨i, d⟩ := p
    unfold tab at ih ⊢
    by_cases h : k = i
    · subst h
      simp [List.lookup]
    · have hb : (k == i) = false := by simpa using h
      simp only [List.lookup, hb]
      rcases ih with h1 | h1
      · exact .inl (List.mem_cons_of_mem _ h1)
      · exact .inr h1
theorem allSt_mem {G : World → World → Prop} {l : List (Nat × DK)} (h : AllSt G l) : ∀ p ∈ l, Stable G p.2 := by
  induction l with
  | nil => intro p hp; cases hp
  | cons q l ih =>
    intro p hp
    rcases List.mem_cons.1 hp with rfl | hp
    · exact h.1
    · exact ih h.2 p hp
theorem noLast_mem {l : List (Nat × DK)} (h : noLast l = true) : ∀ p ∈ l, ∀ φ, p.2 ≠ .last φ := by
  induction l with
  | nil => intro p hp; cases hp
  | cons q l ih =>
    obtain ⟨i, d⟩ := q
    intro p hp φ
    cases d with
    | last φ' => simp [noLast] at h
    | _ =>
      simp only [noLast] at h
      rcases List.mem_cons.1 hp with rfl | hp
      · simp
      · exact ih h p hp φ

/-- **A region whose operations write nothing of what there was** (they read, reckon, call what makes memory, append to what is nil). -/
theorem wp_region_calls {P : Program} {id : Nat} {Q : Exit → Act → World → Prop} {a : Act} {w : World} {l : List Oper} (m : Nat) (L : List (Nat × DK)) (hm : P.follows .mixedOrders = true)
    (hS : sideB l.toArray a.tmps.size m = true) (hno : noLast L = true) (hst : AllSt (Keeps []) L)
    (h : wpDep P l.toArray (tab L) (Keeps []) (Keeps []) w.drew (fun a' W' => wpList P l.toArray Q (l.drop m) a' W') [] 0 (l.take m) a) : (Code.region id l.toArray true).wp P Q a w := by
  refine wp_region_dep m (tab L) (Keeps []) (Keeps []) hm hS (Keeps.refl []) (Keeps.refl []) (fun _ _ hk => hk) (fun _ _ _ h1 h2 => h1.trans h2 (fun i hi => .inl hi)) (fun _ _ _ h1 h2 => h1.trans h2 (fun i hi => .inl hi)) ?_ ?_ ?_ h
  · intro k φ hT v W W' hk hφ
    rcases hT with hT | hT
    · rcases tab_mem (l := L) (k := k) with h1 | h1
      · have := allSt_mem hst _ h1
        simp only [hT] at this
        exact this v W W' hk hφ
      · rw [hT] at h1
        cases h1
    · rcases tab_mem (l := L) (k := k) with h1 | h1
      · have := allSt_mem hst _ h1
        simp only [hT] at this
        exact this v W W' hk hφ
      · rw [hT] at h1
        cases h1
  · intro k φ hT
    rcases tab_mem (l := L) (k := k) with h1 | h1
    · exact absurd hT (noLast_mem hno _ h1 φ)
    · rw [hT] at h1
      cases h1
  · intro j φ k φ' _ hT
    rcases tab_mem (l := L) (k := k) with h1 | h1
    · exact absurd hT (noLast_mem hno _ h1 φ')
    · rw [hT] at h1
      cases h1

/-- Where the one that writes stands: nothing before m waits on it, and it waits on all the early ones. -/
def loneB (ops : Array Oper) (m k : Nat) : Bool := (List.range m).all fun j => match ops[j]? with
  | some o => !depB o k
  | none => true
def noLastB : List (Nat × DK) → Bool := noLast
def earlies : List (Nat × DK) → List Nat
  | [] => []
  | (i, .early _) :: l => i :: earlies l
  | _ :: l => earlies l
theorem earlies_mem {l : List (Nat × DK)} {i : Nat} {φ : Value → World → Prop} (h : (i, DK.early φ) ∈ l) : i ∈ earlies l := by
  induction l with
  | nil => cases h
  | cons p l ih =>
    obtain ⟨j, d⟩ := p
    rcases List.mem_cons.1 h with h | h
    · injection h with h1 h2
      subst h1 h2
      simp [earlies]
    · have := ih h
      cases d <;> simp [earlies, this]
def writesB (ops : Array Oper) (m q : Nat) (es : List Nat) : Bool := loneB ops m q && es.all fun j => ancB ops ops.size q j

/-- **A region one of whose operations, the q-th, writes blocks of S** (the others write nothing of what there was). -/
theorem wp_region_writes {P : Program} {id : Nat} {Q : Exit → Act → World → Prop} {a : Act} {w : World} {l : List Oper} (S : List Nat) (m q : Nat) (ψ : Value → World → Prop) (L : List (Nat × DK)) (hm : P.follows .mixedOrders = true)
    (hS : sideB l.toArray a.tmps.size m = true) (hno : noLast L = true) (hst : AllSt (Keeps S) L) (hψ : ∀ v W W', Keeps [] W W' → ψ v W → ψ v W') (hW : writesB l.toArray m q (earlies L) = true)
    (h : wpDep P l.toArray (tab ((q, .last ψ) :: L)) (Keeps []) (Keeps S) w.drew (fun a' W' => wpList P l.toArray Q (l.drop m) a' W') [] 0 (l.take m) a) : (Code.region id l.toArray true).wp P Q a w := by
  have hcase : ∀ k d, tab ((q, .last ψ) :: L) k = d → (k = q ∧ d = .last ψ) ∨ (k ≠ q ∧ ((k, d) ∈ L ∨ d = .reckons)) := by
    intro k d hd
    by_cases hk : k = q
    · subst hk
      left
      refine ⟨rfl, ?_⟩
      rw [← hd]
      simp [tab, List.lookup]
    · right
      refine ⟨hk, ?_⟩
      have hb : (k == q) = false := by simpa using hk
      have e : tab ((q, .last ψ) :: L) k = tab L k := by
        unfold tab
        simp only [List.lookup, hb]
      rw [e] at hd
      have := tab_mem (l := L) (k := k)
      rwa [hd] at this
  simp only [writesB, Bool.and_eq_true, List.all_eq_true] at hW
  obtain ⟨hlone, hearly⟩ := hW
  refine wp_region_dep m (tab ((q, .last ψ) :: L)) (Keeps []) (Keeps S) hm hS (Keeps.refl S) (Keeps.refl []) (fun _ _ hk => hk.mono fun i hi => by cases hi) (fun _ _ _ h1 h2 => h1.trans h2 (fun i hi => .inl hi)) (fun _ _ _ h1 h2 => h1.trans h2 (fun i hi => .inl hi)) ?_ ?_ ?_ h
  · intro k φ hT v W W' hk hφ
    rcases hT with hT | hT
    · rcases hcase k _ hT with ⟨_, h2⟩ | ⟨_, h2 | h2⟩
      · cases h2
      · have := allSt_mem hst _ h2
        exact this v W W' hk hφ
      · cases h2
    · rcases hcase k _ hT with ⟨_, h2⟩ | ⟨_, h2 | h2⟩
      · cases h2
      · have := allSt_mem hst _ h2
        exact this v W W' hk hφ
      · cases h2
  · intro k φ hT
    have hq : ∀ i φ', tab ((q, .last ψ) :: L) i = .last φ' → i = q := fun i φ' hi => by
      rcases hcase i _ hi with ⟨h1, _⟩ | ⟨_, h2 | h2⟩
      · exact h1
      · exact absurd rfl (noLast_mem hno _ h2 φ')
      · cases h2
    have hkq := hq k φ hT
    subst hkq
    have hφ : φ = ψ := by
      rcases hcase k _ hT with ⟨_, h2⟩ | ⟨h1, _⟩
      · injection h2
      · exact absurd rfl h1
    subst hφ
    refine ⟨hψ, fun j o hj ho => ?_, fun i φ' hi => hq i φ' hi⟩
    simp only [loneB, List.all_eq_true, List.mem_range] at hlone
    have := hlone j hj
    rw [ho] at this
    simpa using this
  · intro j φ k φ' hT hTl
    have hkq : k = q := by
      rcases hcase k _ hTl with ⟨h1, _⟩ | ⟨_, h2 | h2⟩
      · exact h1
      · exact absurd rfl (noLast_mem hno _ h2 φ')
      · cases h2
    subst hkq
    rcases hcase j _ hT with ⟨_, h2⟩ | ⟨_, h2 | h2⟩
    · cases h2
    · exact hearly j (earlies_mem h2)
    · cases h2
end Go.Proofs.Ytehfddafjemedaa
