/- Contracts: number; slices.Clone, Grow, Concat. -/
import Derived.Test.YtehfddafjemedaaFix1
import Derived.Laws.BitsLemmas
namespace Go.Proofs.Ytehfddafjemedaa
open Go.RowKit
set_option linter.unusedSimpArgs false
set_option linter.unusedVariables false

theorem u64_or8 {x y : Int} (hx₀ : 0 ≤ x) (hx₁ : x < 72057594037927936) (hy₀ : 0 ≤ y) (hy : y < 256) : bits .or .u64 (x * 256) y = x * 256 + y :=
  bits_join .u64 64 (by decide) (fun n h0 h1 => by rw [IntKind.wrap_u64]; omega) 8 (x * 256) y (by omega) (by omega) (by omega) hy₀ (by omega) (by omega)

set_option maxHeartbeats 1000000 in
theorem number_any (A : Option Addr) (n c : Nat) (xs : List UInt8) (w : World) (ha : Rd w A n xs) (hn : n ≤ 8) : Calls Try.prog 68 #[.slice A n c] w fun e w' => e = .returned (.int .u64 (beN xs : Int)) ∧ w = w' := by
  have HX := Lib.hid ha.1
  go_enter Try.func68, Try.ntmps68
  go_wp2_with fail
  go_loop [3, 8] (fun v i => ∃ k : Nat, k ≤ n ∧ i = .int .i64 (k : Int) ∧ v = .int .u64 ((beN (xs.take k) : Nat) : Int)) (fun _ i => n - (intOf i).toNat)
  case atStart => exact ⟨0, Nat.zero_le _, rfl, rfl⟩
  case round =>
    obtain ⟨k, hk, rfl, rfl⟩ := hrel
    by_cases hlt : k < n
    · obtain ⟨b, o, rfl, hc⟩ := ha.at_ k hlt
      have hbl := block_lt_of_cell hc
      have hlt2 := beN_take_lt xs k
      have hp : 256 ^ k ≤ 256 ^ 7 := Nat.pow_le_pow_right (by omega) (by omega)
      have hsucc := beN_take_succ xs k (by rw [HX.out]; exact hlt)
      obtain ⟨x, hx⟩ : ∃ x, xs.getD k 0 = x := ⟨_, rfl⟩
      rw [hx] at hc hsucc
      obtain ⟨m, hm⟩ : ∃ m, beN (xs.take k) = m := ⟨_, rfl⟩
      rw [hm] at hlt2 hsucc
      have hx8 := x.toNat_lt
      have hm7 : m < 256 ^ 7 := by omega
      have HS := Lib.hid hsucc
      rw [hm]
      simp only at hbl
      clear hx hm hsucc hlt2 hp
      have hm7' : (m : Int) < 72057594037927936 := by omega
      have hx8' : (x.toNat : Int) < 256 := by omega
      clear hm7 hx8
      go_wp2_with fail
      rw [u64_or8 (by omega) hm7' (by omega) hx8']
      exact ⟨⟨k + 1, by omega, rfl, by rw [HS.out]; rfl⟩, by simp [intOf]; omega⟩
    · obtain rfl : k = n := by omega
      have e := List.take_of_length_le (l := xs) (i := k) (by rw [HX.out]; omega)
      rw [e]
      clear hlt e
      go_wp2_with fail
      go_ret
      exact ⟨rfl, rfl⟩

/-- slices.Clone: new memory that reads as what was handed in; nil just if that is. -/
theorem slicesClone_any (A : Option Addr) (n c : Nat) (xs : List UInt8) (w : World) (ha : Rd w A n xs) (hc : n ≤ c) (hn : n ≤ 10000000) :
    Calls Try.prog 58 #[.slice A n c] w fun e w' => (∃ A' c', e = .returned (.slice A' n c') ∧ w'.ownsRow w.heap.size 5 1 (.slice A' n c') n (xs.map bv)) ∧ Below w.heap.size w w' := by
  obtain ⟨i0, hi0, hz0, hz1, hz2⟩ := info_parts info_u8
  have hnil := fun (w : World) (a : Option Addr) (n c : Nat) => Lib.run_eql_slice_nil (P := Try.prog) w 51 5 a n c 0 0 Try.underlying51
  rcases A with _ | ad
  · obtain rfl : n = 0 := by
      rcases Nat.eq_zero_or_pos n with h0 | h0
      · exact h0
      · obtain ⟨_, _, h, _⟩ := ha.2.2 h0
        cases h
    obtain rfl : xs = [] := List.eq_nil_of_length_eq_zero ha.1
    go_enter Try.func58, Try.ntmps58
    go_wp2
    go_ret
    exact ⟨⟨_, _, rfl, World.ownsRow_nil _ _ _ _⟩, Below.refl _ _⟩
  · go_enter Try.func58, Try.ntmps58
    go_wp2_with (at_builtin; refine wpList_append_src rfl (.tmp 5) (.tmp 6) _ rfl w.heap.size 5 i0 _ 1 1 Try.underlying51 hi0 hz0 hz1 hz2 rfl (by omega) (.slice (some ⟨w.heap.size, 0, none⟩) 0 0) 0 [] rfl ?c0 (some ad) n c (xs.map bv) rfl ?c1 ?c2 ?c3 ?c4 ?c5)
    case c0 => exact World.ownsRow_lit w #[] 0 (Nat.le_refl _) (by unfold maxLen; omega) rfl
    case c1 => exact (ha.alloc _).src
    case c2 => unfold maxLen; omega
    case c3 => omega
    case c4 => simp
    case c5 =>
      intro v' w' hown hg hat
      obtain ⟨A', c', rfl, _, _⟩ := own_form hown
      go_wp2
      go_ret
      exact ⟨⟨A', c', rfl, by simpa using hown⟩, ((Below.refl _ w).alloc (Nat.le_refl _) _).grown hg (by simp) (by intro k hk; simp [Value.ownBlock] at hk; omega)⟩

/-- An append whose run is known. -/
theorem wpList_append_call {P : Program} {w : World} {ops : Array Oper} {rest : List Oper} {o : Oper} {a : Act} {Q : Exit → Act → World → Prop} (hgd : o.guard = none) (s x : Operand) (t tx : TypeId)
    (ho : o.op = .call { callee := .builtin .append, args := #[s, x], argTypes := #[t, tx] }) (v u v' : Value) (w' : World) (hs : a.eval s = v) (hx : a.eval x = u)
    (hrun : (Builtin.append_ #[t, tx] o.type #[v, u]).run P w = .ok v' w') (h : wpList P ops Q rest (a.put o.dst v') w') : wpList P ops Q (o :: rest) a w := by
  refine wpList_plain hgd fun _ hK => ?_
  unfold Oper.wp execOp
  simp only [ho, resolve, invoke, builtin, Sem.run_bind, Sem.run_pure, Result.andThen_ok, List.map_toArray, List.map_cons, List.map_nil, hs, hx, hrun]
  exact hK _ _ h

set_option maxRecDepth 100000 in
set_option maxHeartbeats 2000000 in
theorem Grow_nil (n : Nat) (w : World) (hn : n ≤ 100000000) :
    Calls Try.prog 73 #[.slice none 0 0, .int .i64 (n : Int)] w fun e w' => (∃ A' c', e = .returned (.slice A' 0 c') ∧ w'.ownsRow w.heap.size 5 1 (.slice A' 0 c') 0 []) ∧ Below w.heap.size w w' := by
  obtain ⟨i0, hi0, hz0, hz1, hz2⟩ := info_parts info_u8
  rcases Nat.eq_zero_or_pos n with h0 | h0
  · subst h0
    go_enter Try.func73, Try.ntmps73
    go_wp2
    go_ret
    exact ⟨⟨_, _, rfl, World.ownsRow_nil _ _ _ _⟩, Below.refl _ _⟩
  · have h1 : ¬ ((n : Int) < 0) := by omega
    have h2 : (0 : Int) < (n : Int) := by omega
    have hrz := fun ty => Lib.run_append_grow_zeros (P := Try.prog) w 51 3 ty 5 i0 _ .i64 .i64 Try.underlying51 Try.underlying3 hi0 hz0 none 0 0 [] (by rw [hz1]; exact run_firstCells_none w.drew 1 0 0 0) n h0 (by omega) (by omega) (by omega) (by rw [hz2]; omega) (growslice_fits (by omega) (by rw [hz2]; omega))
    simp only [Nat.zero_add] at hrz
    have hge := grownCap_ge w n 0 5
    have hle := grownCap_le_maxLen w n 0 5 (by unfold maxLen; omega)
    obtain ⟨G, hG⟩ : ∃ G, G = grownCap w n 0 5 := ⟨_, rfl⟩
    rw [← hG] at hrz hge hle
    have hle' := hle
    unfold maxLen at hle'
    obtain ⟨cs, hcs⟩ : ∃ cs, cs = #[] ++ Builtin.zeroCells (Value.int IntKind.u8 0).cells n ++ Builtin.zeroCells (Value.int IntKind.u8 0).cells (G - n) := ⟨_, rfl⟩
    have hsz : cs.size = G := by
      rw [hcs]
      simp [size_zeroCells, Value.cells]
      omega
    have HC := Lib.hid hcs
    simp only [← hcs] at hrz
    clear hG hcs
    go_enter Try.func73, Try.ntmps73
    go_wp2_with (at_builtin; refine wpList_append_call rfl (.tmp 20) (.tmp 21) _ _ rfl _ _ _ _ rfl rfl (hrz _) ?_)
    go_ret
    refine ⟨⟨some ⟨w.heap.size, 0, none⟩, G, rfl, ⟨by simp, .inr ⟨w.heap.size, G, cs, rfl, Nat.le_refl _, ?_, by omega, hle, by omega, by simp⟩⟩⟩, ?_⟩
    · exact heap_alloc_new w.drew _
    · exact (Below.refl _ w).drew.alloc (by simp) _
end Go.Proofs.Ytehfddafjemedaa
