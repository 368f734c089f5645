/- Contract of the law's like (layer 16), at rows that are the same. -/
import Derived.Test.YtehfddafjemedaaRef16c
namespace Go.Proofs.Ytehfddafjemedaa
open Go.RowKit
set_option linter.unusedSimpArgs false
set_option linter.unusedVariables false

/-- Five cells that are a row's. -/
def FiveAt (w : World) (b o : Nat) (r : SRow) : Prop := w.cell? ⟨b, o, none⟩ = some (.int .i64 r.cl) ∧ w.cell? ⟨b, o + 1, none⟩ = some (.int .u64 r.num) ∧ w.cell? ⟨b, o + 2, none⟩ = some (.int .u64 r.seq) ∧ w.cell? ⟨b, o + 3, none⟩ = some (.int .i64 r.code) ∧ w.cell? ⟨b, o + 4, none⟩ = some (.int .u64 r.ver)
theorem RowsAt.five {w : World} {A : Option Addr} {n : Nat} {rows : List SRow} (h : RowsAt w A n rows) (k : Nat) (hk : k < n) : ∃ b o, A = some ⟨b, o, none⟩ ∧ FiveAt w b (o + k * 5) (rows.getD k .zero) ∧ b < w.heap.size := by
  obtain ⟨b, o, e, hc⟩ := h.at_ k hk
  exact ⟨b, o, e, ⟨hc 0 (by omega), hc 1 (by omega), hc 2 (by omega), hc 3 (by omega), hc 4 (by omega)⟩, block_lt_of_cell (hc 0 (by omega))⟩
theorem FiveAt.below {w w' : World} {b o : Nat} {r : SRow} (h : FiveAt w b o r) (hb : Below w.heap.size w w') : FiveAt w' b o r :=
  ⟨(hb.cell (block_lt_of_cell h.1)).trans h.1, (hb.cell (block_lt_of_cell h.2.1)).trans h.2.1, (hb.cell (block_lt_of_cell h.2.2.1)).trans h.2.2.1, (hb.cell (block_lt_of_cell h.2.2.2.1)).trans h.2.2.2.1, (hb.cell (block_lt_of_cell h.2.2.2.2)).trans h.2.2.2.2⟩
theorem FiveAt.lt {w : World} {b o : Nat} {r : SRow} (h : FiveAt w b o r) : b < w.heap.size := block_lt_of_cell h.1

set_option maxRecDepth 100000 in
set_option maxHeartbeats 2000000 in
theorem like_same (A B : Option Addr) (n c d : Nat) (rows : List SRow) (w : World) (ha : RowsAt w A n rows) (hb : RowsAt w B n rows) :
    Calls Try.prog 22 #[.slice A n c, .slice B n d] w fun e w' => e = .returned (.bool true) ∧ Below w.heap.size w w' := by
  have hn := ha.2.1
  have t0 : ((n : Int) != (n : Int)) = false := by simp
  go_enter Try.func22, Try.ntmps22
  go_wp2_with fail
  clear t0
  go_loopw [5] (fun i wr => ∃ k : Nat, k ≤ n ∧ i = .int .i64 (k : Int) ∧ Below w.heap.size w wr) (fun i _ => n - (intOf i).toNat)
  case atStart => exact ⟨0, Nat.zero_le _, rfl, Below.refl _ _⟩
  case round =>
    obtain ⟨k, hk, rfl, hbl⟩ := hrel
    by_cases hlt : k < n
    · obtain ⟨b1, o1, rfl, ca, _⟩ := (ha.below hbl).five k hlt
      obtain ⟨b2, o2, rfl, cb, _⟩ := (hb.below hbl).five k hlt
      obtain ⟨r, hr⟩ : ∃ r, rows.getD k .zero = r := ⟨_, rfl⟩
      rw [hr] at ca cb
      have tk : (k : Int) < (n : Int) := by omega
      clear hr hlt
      have hs := hbl.size
      go_wp2_with fail
      have cf : ∀ W, Keeps [] wr.drew W → FiveAt W b1 (o1 + k * 5) r ∧ FiveAt W b2 (o2 + k * 5) r ∧ b1 < W.heap.size ∧ b2 < W.heap.size := fun W hk => by
        have h := (keeps_drew hk).nil_below
        exact ⟨ca.below h, cb.below h, (ca.below h).lt, (cb.below h).lt⟩
      unfold FiveAt at cf
      refine wp_region_calls 10 [(8, .known r.val)] (by kernel_rfl) (by kernel_rfl) rfl ⟨trivial, trivial⟩ ?_
      simp only [List.take_succ_cons, List.take_zero, List.drop_succ_cons, List.drop_zero]
      iterate 3 refine dep_reckons rfl (by kernel_rfl) (fun W hG hF => by go_simp <;> rfl) (by simp only [Act.put, List.setIfInBounds_toArray, List.set_cons_zero, List.set_cons_succ]; rfl) ?_
      refine dep_reckons rfl (by kernel_rfl) (fun W hG hF => by have hcf := cf W hG; have hcl := hcf.2.2; go_simp <;> rfl) (by simp only [Act.put, List.setIfInBounds_toArray, List.set_cons_zero, List.set_cons_succ]; rfl) ?_
      iterate 3 refine dep_reckons rfl (by kernel_rfl) (fun W hG hF => by go_simp <;> rfl) (by simp only [Act.put, List.setIfInBounds_toArray, List.set_cons_zero, List.set_cons_succ]; rfl) ?_
      refine dep_reckons rfl (by kernel_rfl) (fun W hG hF => by have hcf := cf W hG; have hcl := hcf.2.2; go_simp <;> rfl) (by simp only [Act.put, List.setIfInBounds_toArray, List.set_cons_zero, List.set_cons_succ]; rfl) ?_
      refine dep_known (c := r.val) rfl (by kernel_rfl) (fun W hG hF => ?_) (by simp only [Act.put, List.setIfInBounds_toArray, List.set_cons_zero, List.set_cons_succ]; rfl) ?_
      · unfold opGives
        go_simp
        refine (ours_any r W).mono ?_
        rintro e w2 ⟨rfl, hb2⟩
        exact ⟨_, rfl, rfl, Keeps.of_below hb2 []⟩
      refine dep_reckons (c := .bool false) rfl (by kernel_rfl) (fun W hG hF => by simp only [SRow.val]; go_simp) (by simp only [Act.put, List.setIfInBounds_toArray, List.set_cons_zero, List.set_cons_succ]; rfl) ?_
      refine dep_nil fun W hG hF => ?_
      have hbl2 := hbl.trans ((keeps_drew hG).nil_below.mono hs)
      clear hF hG cf
      go_wp2_with fail
      exact ⟨⟨k + 1, by omega, rfl, hbl2⟩, by simp [intOf]; omega⟩
    · obtain rfl : k = n := by omega
      clear hlt
      go_wp2_with fail
      go_ret
      exact ⟨rfl, hbl⟩
end Go.Proofs.Ytehfddafjemedaa
