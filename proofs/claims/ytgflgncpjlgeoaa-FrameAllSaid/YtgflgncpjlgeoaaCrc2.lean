/- Contracts: the table that is made when it is needed: fill, sync.Once's Do, ready. -/
import Derived.Test.YtgflgncpjlgeoaaCrc1
import Derived.Defers
import Derived.Laws.Pointers
import Derived.Laws.LoneSync
import Derived.RegionTactic
import Derived.RegionCalls
import Derived.Laws.NewBlocks
namespace Go.Proofs.Ytgflgncpjlgeoaa
open Go.RowKit
set_option linter.unusedSimpArgs false
set_option linter.unusedVariables false

/-- A table: whether it is made, its lock, how often it was made, its numbers. -/
def ccell (d m a : Int) (f : Nat → Nat) (i : Nat) : Value := if i = 0 then .int .u32 d else if i = 1 then .int .i32 m else if i = 2 then .int .u32 0 else if i = 3 then .int .i32 a else .int .u32 (f (i - 4) : Int)
def CT (w : World) (g : Nat) (d m a : Int) (f : Nat → Nat) : Prop := w.rowIs g 95 260 (ccell d m a f)
section
variable {w w' : World} {g : Nat} {d m a : Int} {f : Nat → Nat}
theorem CT.c0 (h : CT w g d m a f) : w.cell? ⟨g, 0, none⟩ = some (.int .u32 d) := h.cell (i := 0) (by omega)
theorem CT.c1 (h : CT w g d m a f) : w.cell? ⟨g, 1, none⟩ = some (.int .i32 m) := h.cell (i := 1) (by omega)
theorem CT.c3 (h : CT w g d m a f) : w.cell? ⟨g, 3, none⟩ = some (.int .i32 a) := h.cell (i := 3) (by omega)
theorem CT.ct (h : CT w g d m a f) (i : Nat) (hi : i < 256) : w.cell? ⟨g, 4 + i, none⟩ = some (.int .u32 (f i : Int)) := by
  rw [h.cell (i := 4 + i) (by omega)]
  unfold ccell
  rw [if_neg (by omega), if_neg (by omega), if_neg (by omega), if_neg (by omega), show 4 + i - 4 = i by omega]
theorem CT.s0 (h : CT w g d m a f) (x : Int) : CT (w.setCell ⟨g, 0, none⟩ (.int .u32 x)) g x m a f := by
  unfold CT at *
  refine (h.set 0 _).congr fun i hi => ?_
  by_cases h0 : i = 0 <;> simp [ccell, h0]
theorem CT.s1 (h : CT w g d m a f) (x : Int) : CT (w.setCell ⟨g, 1, none⟩ (.int .i32 x)) g d x a f := by
  unfold CT at *
  refine (h.set 1 _).congr fun i hi => ?_
  by_cases h0 : i = 1 <;> simp [ccell, h0]
theorem CT.s3 (h : CT w g d m a f) (x : Int) : CT (w.setCell ⟨g, 3, none⟩ (.int .i32 x)) g d m x f := by
  unfold CT at *
  refine (h.set 3 _).congr fun i hi => ?_
  by_cases h0 : i = 3 <;> simp [ccell, h0]
theorem CT.st (h : CT w g d m a f) (k : Nat) (x : Nat) : CT (w.setCell ⟨g, 4 + k, none⟩ (.int .u32 (x : Int))) g d m a (fun i => if i = k then x else f i) := by
  unfold CT at *
  refine (h.set (4 + k) _).congr fun i hi => ?_
  by_cases h0 : i = 4 + k
  · subst h0
    simp only [if_true, ccell]
    rw [if_neg (by omega), if_neg (by omega), if_neg (by omega), if_neg (by omega), if_pos (by omega)]
  · rw [if_neg h0]
    simp only [ccell]
    split
    · rfl
    · split
      · rfl
      · split
        · rfl
        · split
          · rfl
          · rw [if_neg (by omega)]
theorem CT.below (h : CT w g d m a f) (hb : Below w.heap.size w w') : CT w' g d m a f := h.of_block (hb.block _ h.lt)
theorem CT.keeps {S : List Nat} (h : CT w g d m a f) (hk : Keeps S w w') (hn : g ∉ S) : CT w' g d m a f := h.of_block (hk.block _ h.lt hn)
theorem CT.drewN (h : CT w g d m a f) (n : Nat) : CT (w.drewN n) g d m a f := h
theorem CT.drew (h : CT w g d m a f) : CT w.drew g d m a f := h
theorem CT.fz (h : CT w g d m a f) (i : Nat) : w.frozen? ⟨g, i, none⟩ = false := h.frozen i
theorem CT.congr_ {f' : Nat → Nat} (h : CT w g d m a f) (hf : ∀ i, i < 256 → f i = f' i) : CT w g d m a f' := by
  unfold CT at *
  refine h.congr fun i hi => ?_
  simp only [ccell]
  split
  · rfl
  · split
    · rfl
    · split
      · rfl
      · split
        · rfl
        · rw [hf (i - 4) (by omega)]
end

theorem disable (w : World) : (callFunc 87 #[]).run Try.prog w = .ok (.value (.tuple #[])) w := run_call_mark0 Try.func87 (by kernel_rfl) (by kernel_rfl) (by kernel_rfl) .disable (by kernel_rfl) w
theorem enable (w : World) : (callFunc 89 #[]).run Try.prog w = .ok (.value (.tuple #[])) w := run_call_mark0 Try.func89 (by kernel_rfl) (by kernel_rfl) (by kernel_rfl) .enable (by kernel_rfl) w
theorem acquire (a : Addr) (w : World) : (callFunc 90 #[.pointer (some a)]).run Try.prog w = .ok (.value (.tuple #[])) w := run_call_marked Try.func90 (by kernel_rfl) (by kernel_rfl) (by kernel_rfl) .acquire (by kernel_rfl) a w
theorem releaseMerge (a : Addr) (w : World) : (callFunc 92 #[.pointer (some a)]).run Try.prog w = .ok (.value (.tuple #[])) w := run_call_marked Try.func92 (by kernel_rfl) (by kernel_rfl) (by kernel_rfl) .releaseMerge (by kernel_rfl) a w

set_option maxRecDepth 100000 in
/-- '(*sync/atomic.Bool).Store(true)', entered as a deferred call. -/
theorem store_deferred (a : Addr) (x : Value) (u : FrameMode) (w : World) (hc : w.cell? a = some x) (hz : w.frozen? a = false) :
    CallsD Try.prog 81 #[.pointer (some a), .bool true] u w fun e u' w' => u' = u ∧ (e = .returned (.tuple #[]) ∧ w' = w.drew.setCell a (.int .u32 1)) := by
  have hc' : w.drew.cell? a = some x := by go_simp
  have hz' : w.drew.frozen? a = false := by go_simp
  have hst := run_call_store (P := Try.prog) Try.func85 (by kernel_rfl) (by kernel_rfl) (by kernel_rfl) (by kernel_rfl) (k := .u32) (y := 1) hc' hz'
  go_enter_d Try.func81, Try.ntmps81
  go_wp2
  go_region_calls
  all_goals (go_end0; exact ⟨rfl, rfl⟩)

set_option maxRecDepth 100000 in
/-- '(*sync.Mutex).Unlock', entered as a deferred call, the lock held and nobody waiting. -/
theorem unlock_deferred (a : Addr) (u : FrameMode) (w : World) (hc : w.cell? a = some (.int .i32 1)) (hz : w.frozen? a = false) :
    CallsD Try.prog 80 #[.pointer (some a)] u w fun e u' w' => u' = u ∧ (e = .returned (.tuple #[]) ∧ w' = w.setCell a (.int .i32 0)) := by
  have hd := disable
  have he := enable
  have hr := releaseMerge
  have hadd := run_call_add (P := Try.prog) Try.func82 (by kernel_rfl) (by kernel_rfl) (by kernel_rfl) .i32 (by kernel_rfl) (y := -1) (s := 0) hc hz (by simp [go_sem]; rfl)
  have hcv := run_convert_to_unsafe (P := Try.prog) (src := 139) (dst := 142) Try.underlying139 Try.underlying142 (by kernel_rfl) hc
  go_enter_d Try.func80, Try.ntmps80
  go_wp2
  go_end0
  go_wp2
  go_end0
  exact ⟨rfl, rfl⟩

set_option maxRecDepth 100000 in
/-- '(*sync.Mutex).Lock', the lock free. -/
theorem lock_free (a : Addr) (w : World) (hc : w.cell? a = some (.int .i32 0)) (hz : w.frozen? a = false) :
    Calls Try.prog 79 #[.pointer (some a)] w fun e w' => e = .returned (.tuple #[]) ∧ w' = w.setCell a (.int .i32 1) := by
  have hd := disable
  have he := enable
  have ha := acquire
  have hcas := run_call_cas_hit (P := Try.prog) Try.func88 (by kernel_rfl) (by kernel_rfl) (by kernel_rfl) .i32 (by kernel_rfl) (y := 1) hc hz
  have hc' : (w.setCell a (.int .i32 1)).cell? a = some (.int .i32 1) := World.cell?_setCell_same w a _ hc
  have hcv := run_convert_to_unsafe (P := Try.prog) (src := 139) (dst := 142) Try.underlying139 Try.underlying142 (by kernel_rfl) hc'
  go_enter Try.func79, Try.ntmps79
  go_wp2
  first | go_end0 | (simp only [Exit.inBlock, Exit.then]; refine bodyPost_ret (results_none rfl _ _ _) rfl ?_) | refine bodyPost_ret (results_none rfl _ _ _) rfl ?_
  go_wp2
  go_end0
  exact ⟨rfl, rfl⟩
end Go.Proofs.Ytgflgncpjlgeoaa
