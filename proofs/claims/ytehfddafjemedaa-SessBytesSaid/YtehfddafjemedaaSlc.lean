/- Contracts: slices.Clone, Grow. -/
import Derived.Test.YtehfddafjemedaaNum
import Derived.Test.YtehfddafjemedaaSame
import Derived.Laws.OwnMore
import Derived.Lib.AppendZerosOnto
namespace Go.Proofs.Ytehfddafjemedaa
open Go.RowKit
set_option linter.unusedSimpArgs false
set_option linter.unusedVariables false

/-- slices.Clone: new memory that reads as what was handed in; nil just if that is. -/
theorem slicesClone_any (A : Option Addr) (n c : Nat) (xs : List UInt8) (w : World) (ha : Rd w A n xs) (hc : n ≤ c) (hn : n ≤ 10000000) :
    Calls Try.prog 58 #[.slice A n c] w fun e w' => (∃ A' c', e = .returned (.slice A' n c') ∧ w'.ownsRow w.heap.size 5 1 (.slice A' n c') n (xs.map bv)) ∧ Below w.heap.size w w' := by
  obtain ⟨i0, hi0, hz0, hz1, hz2⟩ := info_parts info_u8
  have hnil := fun (w : World) (a : Option Addr) (n c : Nat) => Lib.run_eql_slice_nil (P := Try.prog) w 51 5 a n c 0 0 Try.underlying51
  rcases A with _ | ad
  · obtain rfl : n = 0 := by
      rcases Nat.eq_zero_or_pos n with h0 | h0
      · exact h0
      · obtain ⟨_, _, h, _⟩ := ha.2.2 h0
        cases h
    obtain rfl : xs = [] := List.eq_nil_of_length_eq_zero ha.1
    go_enter Try.func58, Try.ntmps58
    go_wp2
    go_ret
    exact ⟨⟨_, _, rfl, World.ownsRow_nil _ _ _ _⟩, Below.refl _ _⟩
  · go_enter Try.func58, Try.ntmps58
    go_wp2_with (at_builtin; refine wpList_append_src rfl (.tmp 5) (.tmp 6) _ rfl w.heap.size 5 i0 _ 1 1 Try.underlying51 hi0 hz0 hz1 hz2 rfl (by omega) (.slice (some ⟨w.heap.size, 0, none⟩) 0 0) 0 [] rfl ?c0 (some ad) n c (xs.map bv) rfl ?c1 ?c2 ?c3 ?c4 ?c5)
    case c0 => exact World.ownsRow_lit w #[] 0 (Nat.le_refl _) (by unfold maxLen; omega) rfl
    case c1 => exact (ha.alloc _).src
    case c2 => unfold maxLen; omega
    case c3 => omega
    case c4 => simp
    case c5 =>
      intro v' w' hown hg hat
      obtain ⟨A', c', rfl, _, _⟩ := own_form hown
      go_wp2
      go_ret
      exact ⟨⟨A', c', rfl, by simpa using hown⟩, ((Below.refl _ w).alloc (Nat.le_refl _) _).grown hg (by simp) (by intro k hk; simp [Value.ownBlock] at hk; omega)⟩

/-- An append whose run is known. -/
theorem wpList_append_call {P : Program} {w : World} {ops : Array Oper} {rest : List Oper} {o : Oper} {a : Act} {Q : Exit → Act → World → Prop} (hgd : o.guard = none) (s x : Operand) (t tx : TypeId)
    (ho : o.op = .call { callee := .builtin .append, args := #[s, x], argTypes := #[t, tx] }) (v u v' : Value) (w' : World) (hs : a.eval s = v) (hx : a.eval x = u)
    (hrun : (Builtin.append_ #[t, tx] o.type #[v, u]).run P w = .ok v' w') (h : wpList P ops Q rest (a.put o.dst v') w') : wpList P ops Q (o :: rest) a w := by
  refine wpList_plain hgd fun _ hK => ?_
  unfold Oper.wp execOp
  simp only [ho, resolve, invoke, builtin, Sem.run_bind, Sem.run_pure, Result.andThen_ok, List.map_toArray, List.map_cons, List.map_nil, hs, hx, hrun]
  exact hK _ _ h

set_option maxRecDepth 100000 in
set_option maxHeartbeats 2000000 in
theorem Grow_nil (n : Nat) (w : World) (hn : n ≤ 100000000) :
    Calls Try.prog 73 #[.slice none 0 0, .int .i64 (n : Int)] w fun e w' => (∃ A' c', e = .returned (.slice A' 0 c') ∧ w'.ownsRow w.heap.size 5 1 (.slice A' 0 c') 0 []) ∧ Below w.heap.size w w' := by
  obtain ⟨i0, hi0, hz0, hz1, hz2⟩ := info_parts info_u8
  rcases Nat.eq_zero_or_pos n with h0 | h0
  · subst h0
    go_enter Try.func73, Try.ntmps73
    go_wp2
    go_ret
    exact ⟨⟨_, _, rfl, World.ownsRow_nil _ _ _ _⟩, Below.refl _ _⟩
  · have h1 : ¬ ((n : Int) < 0) := by omega
    have h2 : (0 : Int) < (n : Int) := by omega
    have hrz := fun ty => Lib.run_append_grow_zeros (P := Try.prog) w 51 3 ty 5 i0 _ .i64 .i64 Try.underlying51 Try.underlying3 hi0 hz0 none 0 0 [] (by rw [hz1]; exact run_firstCells_none w.drew 1 0 0 0) n h0 (by omega) (by omega) (by omega) (by rw [hz2]; omega) (growslice_fits (by omega) (by rw [hz2]; omega))
    simp only [Nat.zero_add] at hrz
    have hge := grownCap_ge w n 0 5
    have hle := grownCap_le_maxLen w n 0 5 (by unfold maxLen; omega)
    obtain ⟨G, hG⟩ : ∃ G, G = grownCap w n 0 5 := ⟨_, rfl⟩
    rw [← hG] at hrz hge hle
    have hle' := hle
    unfold maxLen at hle'
    obtain ⟨cs, hcs⟩ : ∃ cs, cs = #[] ++ Builtin.zeroCells (Value.int IntKind.u8 0).cells n ++ Builtin.zeroCells (Value.int IntKind.u8 0).cells (G - n) := ⟨_, rfl⟩
    have hsz : cs.size = G := by
      rw [hcs]
      simp [size_zeroCells, Value.cells]
      omega
    have HC := Lib.hid hcs
    simp only [← hcs] at hrz
    clear hG hcs
    go_enter Try.func73, Try.ntmps73
    go_wp2_with (at_builtin; refine wpList_append_call rfl (.tmp 20) (.tmp 21) _ _ rfl _ _ _ _ rfl rfl (hrz _) ?_)
    go_ret
    refine ⟨⟨some ⟨w.heap.size, 0, none⟩, G, rfl, ⟨by simp, .inr ⟨w.heap.size, G, cs, rfl, Nat.le_refl _, ?_, by omega, hle, by omega, by simp⟩⟩⟩, ?_⟩
    · exact heap_alloc_new w.drew _
    · exact (Below.refl _ w).drew.alloc (by simp) _
end Go.Proofs.Ytehfddafjemedaa
