/- The region rule with its operations' kinds in a table; for regions that write nothing of what there was. No program in sight. -/
import Derived.Test.YtehfddafjemedaaDep
namespace Go.Proofs.Ytehfddafjemedaa
open Go.RowKit
set_option linter.unusedSimpArgs false
set_option linter.unusedVariables false

theorem keeps_drew {S : List Nat} {X W : World} (h : Keeps S X.drew W) : Keeps S X W := ⟨h.os, h.tape, h.output, h.size, h.block⟩

def tab (l : List (Nat × DK)) (i : Nat) : DK := (l.lookup i).getD .reckons
def Stable (G : World → World → Prop) : DK → Prop
  | .some_ φ => ∀ v W W', G W W' → φ v W → φ v W'
  | _ => True
def AllSt (G : World → World → Prop) : List (Nat × DK) → Prop
  | [] => True
  | p :: l => Stable G p.2 ∧ AllSt G l
def noLast : List (Nat × DK) → Bool
  | [] => true
  | (_, .last _) :: _ => false
  | _ :: l => noLast l
theorem tab_mem {l : List (Nat × DK)} {k : Nat} : (k, tab l k) ∈ l ∨ tab l k = .reckons := by
  induction l with
  | nil => exact .inr rfl
  | cons p l ih =>
    obtain ⟨i, d⟩ := p
    unfold tab at ih ⊢
    by_cases h : k = i
    · subst h
      simp [List.lookup]
    · have hb : (k == i) = false := by simpa using h
      simp only [List.lookup, hb]
      rcases ih with h1 | h1
      · exact .inl (List.mem_cons_of_mem _ h1)
      · exact .inr h1
theorem allSt_mem {G : World → World → Prop} {l : List (Nat × DK)} (h : AllSt G l) : ∀ p ∈ l, Stable G p.2 := by
  induction l with
  | nil => intro p hp; cases hp
  | cons q l ih =>
    intro p hp
    rcases List.mem_cons.1 hp with rfl | hp
    · exact h.1
    · exact ih h.2 p hp
theorem noLast_mem {l : List (Nat × DK)} (h : noLast l = true) : ∀ p ∈ l, ∀ φ, p.2 ≠ .last φ := by
  induction l with
  | nil => intro p hp; cases hp
  | cons q l ih =>
    obtain ⟨i, d⟩ := q
    intro p hp φ
    cases d with
    | last φ' => simp [noLast] at h
    | _ =>
      simp only [noLast] at h
      rcases List.mem_cons.1 hp with rfl | hp
      · simp
      · exact ih h p hp φ

/-- **A region whose operations write nothing of what there was** (they read, reckon, call what makes memory, append to what is nil). -/
theorem wp_region_calls {P : Program} {id : Nat} {Q : Exit → Act → World → Prop} {a : Act} {w : World} {l : List Oper} (m : Nat) (L : List (Nat × DK)) (hm : P.follows .mixedOrders = true)
    (hS : sideB l.toArray a.tmps.size m = true) (hno : noLast L = true) (hst : AllSt (Keeps []) L)
    (h : wpDep P l.toArray (tab L) (Keeps []) (Keeps []) w.drew (fun a' W' => wpList P l.toArray Q (l.drop m) a' W') [] 0 (l.take m) a) : (Code.region id l.toArray true).wp P Q a w := by
  refine wp_region_dep m (tab L) (Keeps []) (Keeps []) hm hS (Keeps.refl []) (Keeps.refl []) (fun _ _ hk => hk) (fun _ _ _ h1 h2 => h1.trans h2 (fun i hi => .inl hi)) (fun _ _ _ h1 h2 => h1.trans h2 (fun i hi => .inl hi)) ?_ ?_ h
  · intro k φ hT v W W' hk hφ
    rcases tab_mem (l := L) (k := k) with h1 | h1
    · have := allSt_mem hst _ h1
      simp only [hT] at this
      exact this v W W' hk hφ
    · rw [hT] at h1
      cases h1
  · intro k φ hT
    rcases tab_mem (l := L) (k := k) with h1 | h1
    · exact absurd hT (noLast_mem hno _ h1 φ)
    · rw [hT] at h1
      cases h1
end Go.Proofs.Ytehfddafjemedaa
