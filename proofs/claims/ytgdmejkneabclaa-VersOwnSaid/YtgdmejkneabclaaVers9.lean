/- Plain laws of versions: all that is told hangs on the versions alone, not on where they lie; what a put and a trim change. -/
import Derived.Test.YtgdmejkneabclaaVers8
namespace Go.Proofs.Ytgdmejkneabclaa
open Go.RowKit
set_option linter.unusedSimpArgs false
set_option linter.unusedVariables false

abbrev vs (l : List VC) : List Ver := l.map VC.v
def atM (m : List Ver) (i : Int) : Ver := if 0 ≤ i ∧ i < m.length then m.getD i.toNat .none else .none
def lastM (m : List Ver) : Ver := atM m ((m.length : Int) - 1)
def cutM (m : List Ver) (done : Int) : Nat := (m.takeWhile fun x => decide (x.seq ≤ done)).length
def cutVM (m : List Ver) (ver : Int) : Nat := (m.takeWhile fun x => decide (x.ver < ver)).length
def cleanM (m : List Ver) (done : Int) : Ver := atM m ((cutM m done : Int) - 1)
def dirtyM (m : List Ver) (done : Int) : Bool := decide (0 < m.length) && decide (done < (lastM m).seq)
def trimM (m : List Ver) (done : Int) : Nat := cutM m done - 1
def pickM (m : List Ver) (ver done : Int) : Ver :=
  if (atM m (cutVM m ver : Int)).ver = ver then atM m (cutVM m ver : Int) else if ver < (cleanM m done).ver then cleanM m done else .none
def putErrM (m : List Ver) (v : Ver) : Int :=
  if 2048 < v.data.length then 6 else if v.ver = 0 ∨ v.seq = 0 then 1 else if 0 < m.length ∧ (v.ver - 1 ≠ (lastM m).ver ∨ v.seq ≤ (lastM m).seq) then 12 else 0
def RisingM (m : List Ver) : Prop := ∀ i j, i < j → j < m.length → (m.getD i .none).seq < (m.getD j .none).seq ∧ (m.getD j .none).ver = (m.getD i .none).ver + ((j : Int) - (i : Int))

theorem getD_vs (l : List VC) (i : Nat) : (vs l).getD i .none = (l.getD i noVC).v := by
  simp only [vs, List.getD_eq_getElem?_getD, List.getElem?_map]
  cases l[i]? <;> rfl
theorem at_vs (l : List VC) (i : Int) : atV l i = atM (vs l) i := by
  unfold atV atM
  rw [List.length_map, getD_vs]
  rfl
theorem last_vs (l : List VC) : lastV l = lastM (vs l) := by unfold lastV lastM; rw [at_vs, List.length_map]
theorem cut_vs (l : List VC) (d : Int) : cut l d = cutM (vs l) d := by
  unfold cut cutM vs
  rw [List.takeWhile_map, List.length_map]
  rfl
theorem cutV_vs (l : List VC) (d : Int) : cutV l d = cutVM (vs l) d := by
  unfold cutV cutVM vs
  rw [List.takeWhile_map, List.length_map]
  rfl
theorem clean_vs (l : List VC) (d : Int) : cleanV l d = cleanM (vs l) d := by unfold cleanV cleanM; rw [at_vs, cut_vs]
theorem dirty_vs (l : List VC) (d : Int) : dirtyV l d = dirtyM (vs l) d := by unfold dirtyV dirtyM lastM; rw [at_vs, List.length_map]
theorem trim_vs (l : List VC) (d : Int) : trimN l d = trimM (vs l) d := by unfold trimN trimM; rw [cut_vs]
theorem pick_vs (l : List VC) (v d : Int) : pickV l v d = pickM (vs l) v d := by unfold pickV pickM; rw [at_vs, cutV_vs, clean_vs]
theorem putErr_vs (l : List VC) (v : Ver) : putErr l v = putErrM (vs l) v := by unfold putErr putErrM; rw [last_vs, List.length_map]
theorem rising_vs (l : List VC) : Rising l ↔ RisingM (vs l) := by
  unfold Rising RisingM
  simp only [List.length_map, getD_vs]

/-! ### A put -/
theorem lastM_eq (m : List Ver) (h : 0 < m.length) : lastM m = m.getD (m.length - 1) .none := by
  unfold lastM atM
  rw [if_pos (by omega)]
  congr 1
  omega
theorem getD_app_lt (m : List Ver) (v : Ver) (i : Nat) (h : i < m.length) : (m ++ [v]).getD i .none = m.getD i .none := by
  simp [List.getD_eq_getElem?_getD, List.getElem?_append_left h]
theorem getD_app_last (m : List Ver) (v : Ver) : (m ++ [v]).getD m.length .none = v := by
  simp [List.getD_eq_getElem?_getD]
theorem rising_nil : RisingM [] := by intro i j _ h; simp at h
theorem rising_put {m : List Ver} {v : Ver} (h : RisingM m) (hn : m.length = 0 ∨ ((lastM m).ver = v.ver - 1 ∧ (lastM m).seq < v.seq)) : RisingM (m ++ [v]) := by
  intro i j hij hj
  rw [List.length_append, List.length_singleton] at hj
  by_cases hjl : j = m.length
  · subst hjl
    have hm := hn.resolve_left (by omega)
    rw [getD_app_last, getD_app_lt _ _ _ hij]
    rw [lastM_eq m (by omega)] at hm
    by_cases hil : i = m.length - 1
    · subst hil
      exact ⟨hm.2, by omega⟩
    · have := h i (m.length - 1) (by omega) (by omega)
      exact ⟨by omega, by omega⟩
  · rw [getD_app_lt _ _ _ (show i < m.length by omega), getD_app_lt _ _ _ (show j < m.length by omega)]
    exact h i j hij (by omega)
theorem putErr_zero {m : List Ver} {v : Ver} : putErrM m v = 0 ↔ v.data.length ≤ 2048 ∧ v.ver ≠ 0 ∧ v.seq ≠ 0 ∧ (m.length = 0 ∨ ((lastM m).ver = v.ver - 1 ∧ (lastM m).seq < v.seq)) := by
  unfold putErrM
  split
  · exact ⟨fun h => by omega, fun h => by omega⟩
  · split
    · rename_i hz
      exact ⟨fun h => by omega, fun h => by rcases hz with hz | hz; exact absurd hz h.2.1; exact absurd hz h.2.2.1⟩
    · rename_i hz
      split
      · rename_i h12
        exact ⟨fun h => by omega, fun h => by omega⟩
      · rename_i h12
        exact ⟨fun _ => ⟨by omega, fun h => hz (.inl h), fun h => hz (.inr h), by omega⟩, fun _ => rfl⟩

/-! ### A trim -/
theorem tw_drop (m : List Ver) (q : Ver → Bool) : ∀ n, n ≤ (m.takeWhile q).length → ((m.drop n).takeWhile q).length = (m.takeWhile q).length - n := by
  induction m with
  | nil => intro n h; simp
  | cons x m ih =>
    intro n h
    cases n with
    | zero => simp
    | succ n =>
      by_cases hx : q x = true
      · rw [List.takeWhile_cons_of_pos hx] at h ⊢
        rw [List.drop_succ_cons, ih n (by simpa using h)]
        simp
      · rw [List.takeWhile_cons_of_neg hx] at h
        simp at h
theorem tw_le (m : List Ver) (q : Ver → Bool) : (m.takeWhile q).length ≤ m.length := (List.takeWhile_sublist q).length_le
theorem tw_mono (m : List Ver) (p q : Ver → Bool) (h : ∀ x, p x = true → q x = true) : (m.takeWhile p).length ≤ (m.takeWhile q).length := by
  induction m with
  | nil => simp
  | cons x m ih =>
    by_cases hx : p x = true
    · rw [List.takeWhile_cons_of_pos hx, List.takeWhile_cons_of_pos (h x hx)]
      simpa using ih
    · rw [List.takeWhile_cons_of_neg hx]
      exact Nat.zero_le _
theorem cutM_mono (m : List Ver) {d d' : Int} (h : d ≤ d') : cutM m d ≤ cutM m d' := tw_mono m _ _ fun x hx => by simp only [decide_eq_true_eq] at hx ⊢; omega
theorem cutM_le (m : List Ver) (d : Int) : cutM m d ≤ m.length := tw_le m _
theorem cutM_drop (m : List Ver) (d : Int) (n : Nat) (h : n ≤ cutM m d) : cutM (m.drop n) d = cutM m d - n := tw_drop m _ n h
theorem getD_drop (m : List Ver) (n i : Nat) : (m.drop n).getD i .none = m.getD (n + i) .none := by simp [List.getD_eq_getElem?_getD, List.getElem?_drop]
theorem atM_drop (m : List Ver) (n : Nat) (i : Int) (hi : 0 ≤ i) : atM (m.drop n) i = atM m ((n : Int) + i) := by
  unfold atM
  rw [List.length_drop, getD_drop]
  by_cases h : i < ((m.length - n : Nat) : Int)
  · rw [if_pos ⟨hi, h⟩, if_pos (by omega)]
    congr 1
    omega
  · rw [if_neg (by omega), if_neg (by omega)]
theorem last_trim (m : List Ver) (d : Int) : lastM (m.drop (trimM m d)) = lastM m := by
  have h1 := cutM_le m d
  unfold lastM
  rw [List.length_drop]
  unfold trimM
  by_cases h0 : cutM m d - 1 = 0
  · rw [h0, List.drop_zero, Nat.sub_zero]
  · rw [atM_drop _ _ _ (by omega)]
    congr 1
    omega
theorem clean_trim (m : List Ver) (d d' : Int) (h : d ≤ d') : cleanM (m.drop (trimM m d)) d' = cleanM m d' := by
  have h1 := cutM_mono m h
  unfold cleanM
  unfold trimM
  rw [cutM_drop m d' _ (by omega)]
  by_cases h0 : cutM m d - 1 = 0
  · rw [h0, List.drop_zero, Nat.sub_zero]
  · rw [atM_drop _ _ _ (by omega)]
    congr 1
    omega
theorem dirty_trim (m : List Ver) (d d' : Int) : dirtyM (m.drop (trimM m d)) d' = dirtyM m d' := by
  have h1 := cutM_le m d
  unfold dirtyM
  rw [last_trim, List.length_drop]
  congr 2
  simp only [eq_iff_iff]
  unfold trimM
  omega
theorem trim_trim (m : List Ver) (d : Int) : trimM (m.drop (trimM m d)) d = 0 := by
  have h : cutM (m.drop (trimM m d)) d = cutM m d - trimM m d := cutM_drop m d _ (by unfold trimM; omega)
  show cutM (m.drop (trimM m d)) d - 1 = 0
  rw [h]
  unfold trimM
  omega
theorem rising_drop {m : List Ver} (h : RisingM m) (n : Nat) : RisingM (m.drop n) := by
  intro i j hij hj
  rw [List.length_drop] at hj
  rw [getD_drop, getD_drop]
  have := h (n + i) (n + j) (by omega) (by omega)
  exact ⟨this.1, by omega⟩
end Go.Proofs.Ytgdmejkneabclaa
