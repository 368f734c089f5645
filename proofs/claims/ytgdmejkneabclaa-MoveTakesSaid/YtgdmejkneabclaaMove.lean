/- slices.Chunk: its iterator's contract at bytes. -/
import Derived.RangeFuncNested
import Derived.RangeFuncBound
import Derived.RangeFuncCalls
import Derived.RangeFuncLeaves
import Derived.RangeFuncBox
import Derived.Shelf.Abstract
import Derived.Shelf.RegionOpen
import Derived.OwnWalkIn
import Derived.TacticsInMore
import Derived.LoopNIn
import Derived.LoopIn
import Derived.Test.YtgdmejkneabclaaBytes
import Derived.Test.YtgdmejkneabclaaDepIn
namespace Go.Proofs.Ytgdmejkneabclaa
open Go.RowKit Go.Shelf
set_option linter.unusedSimpArgs false
set_option linter.unusedVariables false
attribute [local go_sem] Oper.semAt_some

/-- What the iterator wants kept: its two captured variables. -/
def KpC (Bs Bn : Nat) (W W' : World) : Prop := W'.heap[Bs]? = W.heap[Bs]? ∧ W'.heap[Bn]? = W.heap[Bn]?
theorem KpC.refl (Bs Bn : Nat) (W : World) : KpC Bs Bn W W := ⟨rfl, rfl⟩
theorem KpC.trans {Bs Bn : Nat} {A B C : World} (h : KpC Bs Bn A B) (k : KpC Bs Bn B C) : KpC Bs Bn A C := ⟨k.1.trans h.1, k.2.trans h.2⟩
theorem KpC.cell1 {Bs Bn : Nat} {A B : World} (h : KpC Bs Bn A B) : B.cell? ⟨Bs, 0, none⟩ = A.cell? ⟨Bs, 0, none⟩ := World.cell?_of_block (w := A) (a := ⟨Bs, 0, none⟩) h.1
theorem KpC.cell2 {Bs Bn : Nat} {A B : World} (h : KpC Bs Bn A B) : B.cell? ⟨Bn, 0, none⟩ = A.cell? ⟨Bn, 0, none⟩ := World.cell?_of_block (w := A) (a := ⟨Bn, 0, none⟩) h.2

/-- The k-th piece: where it lies, how long it is. -/
def piece (b len k : Nat) : Option Addr × Nat := (some ⟨b, 1024 * k, none⟩, min 1024 (len - 1024 * k))
def upto {α : Type} (f : Nat → α) (k : Nat) : List α := (List.range k).map f
theorem upto_succ {α : Type} (f : Nat → α) (k : Nat) : upto f (k + 1) = upto f k ++ [f k] := by simp [upto, List.range_succ]
theorem upto_length {α : Type} (f : Nat → α) (k : Nat) : (upto f k).length = k := by simp [upto]
/-- How many pieces there are. -/
def pieces (len : Nat) : Nat := (len + 1023) / 1024

set_option maxRecDepth 100000 in
set_option maxHeartbeats 2000000 in
theorem chunk1_in (n : Nat) (l Bs Bn b len cap : Nat) (A : Option Addr) (hA : 0 < len → A = some ⟨b, 0, none⟩) (hlen : len ≤ 1000000) (hlc : len ≤ cap) (J Jx : List (Option Addr × Nat) → World → Prop)
    (hY : ∀ pre x W, J pre W → pre.length < pieces len → YieldAt Fence.wide (n - 1) Try.prog l #[.slice x.1 x.2 x.2] W fun e W' =>
      (e = .returned (.bool true) ∧ J (pre ++ [x]) W' ∧ KpC Bs Bn W W') ∨ (e = .returned (.bool false) ∧ Jx (pre ++ [x]) W'))
    (hJd : ∀ pre W k, J pre W → J pre (W.drewN k)) (W : World) (hBs : W.cell? ⟨Bs, 0, none⟩ = some (.slice A len cap)) (hBn : W.cell? ⟨Bn, 0, none⟩ = some (.int .i64 1024)) (h0 : J [] W) :
    CallsIn Fence.wide n Try.prog 57 #[.func (.yield l) #[] #[], .pointer (some ⟨Bs, 0, none⟩), .pointer (some ⟨Bn, 0, none⟩)] W fun e W' => (∃ v, e = .returned v) ∧
      ((∃ ys, ys = upto (piece b len) (pieces len) ∧ J ys W') ∨ (∃ pre, (∃ k, k ≤ pieces len ∧ pre = upto (piece b len) k) ∧ Jx pre W')) := by
  refine callsIn_of_wp Try.func57 rfl trivial ?_ rfl
  simp only [Try.ntmps57, List.size_toArray, List.length_cons, List.length_nil, Nat.reduceAdd, Nat.reduceSub, Array.replicate_succ, Array.replicate_zero, List.push_toArray, List.append_toArray, List.nil_append, List.cons_append]
  gi_wp2
  gi_loopw [4] (fun i wr => ∃ k : Nat, k ≤ pieces len ∧ i = .int .i64 ((1024 * k : Nat) : Int) ∧ J (upto (piece b len) k) wr ∧ KpC Bs Bn W wr) (fun i _ => pieces len - (intOf i).toNat / 1024)
  case atStart => exact ⟨0, Nat.zero_le _, rfl, h0, KpC.refl _ _ _⟩
  case round =>
    obtain ⟨k, hk, rfl, hJs, hnx⟩ := hrel
    have cs : wr.cell? ⟨Bs, 0, none⟩ = some (.slice A len cap) := hnx.cell1.trans hBs
    have cn : wr.cell? ⟨Bn, 0, none⟩ = some (.int .i64 1024) := hnx.cell2.trans hBn
    by_cases hlt : 1024 * k < len
    · obtain rfl := hA (by omega)
      have hkp : k < pieces len := by unfold pieces; omega
      have c1 : 1024 * k ≤ len := by omega
      have c2 : ¬ cap = 1024 * k := by omega
      obtain ⟨m, hm⟩ : ∃ m, min 1024 (len - 1024 * k) = m := ⟨_, rfl⟩
      have hpc : piece b len k = (some ⟨b, 1024 * k, none⟩, m) := by unfold piece; rw [hm]
      have hm2 : m ≤ 1024 ∧ 1024 * k + m ≤ len := by omega
      gi_wp2
      refine wpIn_wide.2 ?_
      by_cases hfull : 1024 ≤ len - 1024 * k
      · have hme : m = 1024 := by omega
        have t1 : ¬ ((len - 1024 * k : Nat) : Int) < 1024 := by omega
        have t2 : (1024 : Int) ≤ ((len - 1024 * k : Nat) : Int) := by omega
        go_quiet (fail)
        have hJn := hJd _ _ nq hJs
        obtain ⟨fn, tmps, assign, body, hy, hR⟩ := hY _ (piece b len k) (wr.drewN nq) hJn (by rw [upto_length]; exact hkp)
        rw [hpc] at hy hR
        rw [hme] at hy hm2
        clear t1 t2
        gi_wp2
        refine ⟨fun h => by simp [Fence.wide] at h, hR.mono ?_⟩
        rintro e W3 (⟨rfl, hJ3, hk3⟩ | ⟨rfl, hJx3⟩)
        · have cs3 : W3.cell? ⟨Bs, 0, none⟩ = some (.slice (some ⟨b, 0, none⟩) len cap) := hk3.cell1.trans cs
          have cn3 : W3.cell? ⟨Bn, 0, none⟩ = some (.int .i64 1024) := hk3.cell2.trans cn
          gi_wp2
          go_roundw
          case rel => exact ⟨k + 1, by omega, by congr 1, by rw [upto_succ, hpc]; exact hJ3, hnx.trans ⟨hk3.1, hk3.2⟩⟩
          case measure => simp only [intOf]; omega
        · gi_wp2
          refine bodyPost_ret (results_none rfl _ _ _) rfl ?_
          exact ⟨⟨_, rfl⟩, .inr ⟨_, ⟨k + 1, by omega, by rw [upto_succ, hpc]⟩, hJx3⟩⟩
      · have hme : m = len - 1024 * k := by omega
        have t1 : ((len - 1024 * k : Nat) : Int) < 1024 := by omega
        have t2 : ¬ (1024 : Int) ≤ ((len - 1024 * k : Nat) : Int) := by omega
        go_quiet (fail)
        have hJn := hJd _ _ nq hJs
        obtain ⟨fn, tmps, assign, body, hy, hR⟩ := hY _ (piece b len k) (wr.drewN nq) hJn (by rw [upto_length]; exact hkp)
        rw [hpc] at hy hR
        rw [hme] at hy hm2
        clear t1 t2
        gi_wp2
        refine ⟨fun h => by simp [Fence.wide] at h, hR.mono ?_⟩
        rintro e W3 (⟨rfl, hJ3, hk3⟩ | ⟨rfl, hJx3⟩)
        · have cs3 : W3.cell? ⟨Bs, 0, none⟩ = some (.slice (some ⟨b, 0, none⟩) len cap) := hk3.cell1.trans cs
          have cn3 : W3.cell? ⟨Bn, 0, none⟩ = some (.int .i64 1024) := hk3.cell2.trans cn
          gi_wp2
          go_roundw
          case rel => exact ⟨k + 1, by omega, by congr 1, by rw [upto_succ, hpc]; exact hJ3, hnx.trans ⟨hk3.1, hk3.2⟩⟩
          case measure => simp only [intOf]; omega
        · gi_wp2
          refine bodyPost_ret (results_none rfl _ _ _) rfl ?_
          exact ⟨⟨_, rfl⟩, .inr ⟨_, ⟨k + 1, by omega, by rw [upto_succ, hpc]⟩, hJx3⟩⟩
    · have hkp : k = pieces len := by unfold pieces at hk ⊢; omega
      gi_wp2
      go_end0
      exact ⟨⟨_, rfl⟩, .inl ⟨_, rfl, by rw [← hkp]; exact hJs⟩⟩

theorem grown_drewN' (w : World) (n : Nat) (row : Option Nat) : w.grownBy (w.drewN n) row := ⟨rfl, rfl, rfl, Nat.le_refl _, fun _ _ _ => rfl⟩

theorem chunk_stops (n : Nat) (Bs Bn b len cap : Nat) (A : Option Addr) (hA : 0 < len → A = some ⟨b, 0, none⟩) (hlen : len ≤ 1000000) (hlc : len ≤ cap) (w : World) (hB : Bs < w.heap.size) (hN : Bn < w.heap.size)
    (hBs : w.cell? ⟨Bs, 0, none⟩ = some (.slice A len cap)) (hBn : w.cell? ⟨Bn, 0, none⟩ = some (.int .i64 1024)) :
    SeqStopsK Fence.wide n Try.prog 57 #[.pointer (some ⟨Bs, 0, none⟩), .pointer (some ⟨Bn, 0, none⟩)] (fun x : Option Addr × Nat => #[Value.slice x.1 x.2 x.2]) (KpC Bs Bn)
      (fun ys => ys = upto (piece b len) (pieces len)) (fun pre => ∃ k, k ≤ pieces len ∧ pre = upto (piece b len) k) (pieces len) w := fun l J Jx W hW hJ _ hY h0 =>
  chunk1_in n l Bs Bn b len cap A hA hlen hlc J Jx hY (fun pre W k hj => hJ pre W _ none hj (grown_drewN' W k none) (fun r e => by cases e)) W
    ((hW.cell (p := ⟨Bs, 0, none⟩) hB).trans hBs) ((hW.cell (p := ⟨Bn, 0, none⟩) hN).trans hBn) h0

set_option maxHeartbeats 1000000 in
theorem Chunk_any (A : Option Addr) (len cap : Nat) (w : World) : Calls Try.prog 48 #[.slice A len cap, .int .i64 1024] w fun e w' =>
    e = .returned (.func (.func 57) #[] #[.pointer (some ⟨w.heap.size, 0, none⟩), .pointer (some ⟨w.heap.size + 1, 0, none⟩)]) ∧ w' = (w.alloc (.cells #[.slice A len cap] 23)).alloc (.cells #[.int .i64 1024] 3) := by
  go_enter Try.func48, Try.ntmps48
  go_wp2_with fail
  go_ret
  exact ⟨rfl, rfl⟩
end Go.Proofs.Ytgdmejkneabclaa
