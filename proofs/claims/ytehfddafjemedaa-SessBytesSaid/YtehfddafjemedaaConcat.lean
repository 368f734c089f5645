/- Contract: slices.Concat at byte slices. -/
import Derived.Test.YtehfddafjemedaaSlc
namespace Go.Proofs.Ytehfddafjemedaa
open Go.RowKit
set_option linter.unusedSimpArgs false
set_option linter.unusedVariables false

/-- A part that lies somewhere. -/
structure PC where
  A : Option Addr
  c : Nat
  bs : List UInt8
def noPC : PC := ⟨none, 0, []⟩
def PC.val (x : PC) : Value := .slice x.A x.bs.length x.c
def cat (l : List PC) : List UInt8 := l.flatMap PC.bs
theorem cat_take_succ (l : List PC) (k : Nat) (h : k < l.length) : cat (l.take (k + 1)) = cat (l.take k) ++ (l.getD k noPC).bs := by
  rw [take_succ_getD l k noPC h]
  simp [cat]
theorem cat_take_le (l : List PC) (k : Nat) : (cat (l.take k)).length ≤ (cat l).length := by
  have h : cat l = cat (l.take k) ++ cat (l.drop k) := by unfold cat; rw [← List.flatMap_append, List.take_append_drop]
  rw [h, List.length_append]
  omega
theorem pc_mem {l : List PC} {k : Nat} (h : k < l.length) : l.getD k noPC ∈ l := by
  rw [List.getD_eq_getElem?_getD, List.getElem?_eq_getElem h]
  exact List.getElem_mem _

set_option maxRecDepth 100000 in
set_option maxHeartbeats 2000000 in
theorem Concat_any (g n c : Nat) (l : List PC) (w : World) (hl : l.length = n) (hn : n ≤ 1000) (hcells : ∀ k, k < n → w.cell? ⟨g, k, none⟩ = some (l.getD k noPC).val) (hs : ∀ x ∈ l, Rd w x.A x.bs.length x.bs ∧ x.bs.length ≤ x.c) (htot : (cat l).length ≤ 100000000) :
    Calls Try.prog 72 #[.slice (some ⟨g, 0, none⟩) n c] w fun e w' => (∃ A' c', e = .returned (.slice A' (cat l).length c') ∧ w'.ownsRow w.heap.size 5 1 (.slice A' (cat l).length c') (cat l).length ((cat l).map bv)) ∧ Below w.heap.size w w' := by
  obtain ⟨i0, hi0, hz0, hz1, hz2⟩ := info_parts info_u8
  have HL := Lib.hid hl
  clear hl
  go_enter Try.func72, Try.ntmps72
  go_wp2_with fail
  go_loop [3, 11] (fun v i => ∃ k : Nat, k ≤ n ∧ i = .int .i64 (k : Int) ∧ v = .int .i64 (((cat (l.take k)).length : Nat) : Int)) (fun _ i => n - (intOf i).toNat)
  case atStart => exact ⟨0, Nat.zero_le _, rfl, rfl⟩
  case round =>
    obtain ⟨k, hk, rfl, rfl⟩ := hrel
    by_cases hlt : k < n
    · have m0 := hcells k hlt
      have hgl := block_lt_of_cell m0
      have h1 := cat_take_le l (k + 1)
      have h2 := congrArg List.length (cat_take_succ l k (by rw [HL.out]; exact hlt))
      rw [List.length_append] at h2
      obtain ⟨x, hx⟩ : ∃ x, l.getD k noPC = x := ⟨_, rfl⟩
      rw [hx] at m0 h2
      simp only [PC.val] at m0
      simp only at hgl
      obtain ⟨S, hS⟩ : ∃ S, (cat (l.take k)).length = S := ⟨_, rfl⟩
      rw [hS] at h2 ⊢
      have w1' : IntKind.i64.wrap ((S : Int) + (x.bs.length : Int)) = ((S + x.bs.length : Nat) : Int) := by rw [IntKind.wrap_i64]; omega
      have h3 : ¬ (((S + x.bs.length : Nat) : Int) < 0) := by omega
      have H2 := Lib.hid h2
      clear hx h1 h2 hS hcells hs
      go_wp2_with fail
      exact ⟨⟨k + 1, by omega, rfl, by rw [H2.out]; rfl⟩, by simp [intOf]; omega⟩
    · obtain rfl : k = n := by omega
      have e := List.take_of_length_le (l := l) (i := k) (by rw [HL.out]; omega)
      rw [e]
      clear hlt e
      go_wp2_with fail
      refine (Grow_nil (cat l).length w htot).mono ?_
      rintro e w1 ⟨⟨A1, c1, rfl, ho1⟩, hb1⟩
      go_wp2_with fail
      go_loopw [6, 27] (fun v i wr => ∃ (j : Nat) (L : List UInt8), j ≤ k ∧ i = .int .i64 (j : Int) ∧ wr.ownsRow w.heap.size 5 1 v L.length (L.map bv) ∧ Hid (L = cat (l.take j)) ∧ Below w.heap.size w wr) (fun _ i _ => k - (intOf i).toNat)
      case atStart => exact ⟨0, [], Nat.zero_le _, rfl, ho1, Lib.hid (by simp [cat]), hb1⟩
      case round =>
        obtain ⟨j, L, hj, rfl, ho, HLj, hb⟩ := hrel
        have hsz := hb.size
        obtain ⟨Av, cv, hsl, hlc, hcm⟩ := own_form ho
        subst hsl
        clear ho1 hb1
        by_cases hlt : j < k
        · have m0' := hcells j hlt
          have m0 := (hb.cell (block_lt_of_cell m0')).trans m0'
          have hgl := block_lt_of_cell m0
          have h1 := cat_take_le l (j + 1)
          have h2 := cat_take_succ l j (by rw [HL.out]; exact hlt)
          have hxm := pc_mem (l := l) (k := j) (by rw [HL.out]; exact hlt)
          obtain ⟨x, hx⟩ : ∃ x, l.getD j noPC = x := ⟨_, rfl⟩
          rw [hx] at m0 h2 hxm
          obtain ⟨hr, hxc⟩ := hs x hxm
          have hr1 := hr.below hb fun h0 ad e => hr.lt h0 ad e
          simp only [PC.val] at m0
          simp only at hgl
          have HLM : Hid (L ++ x.bs = cat (l.take (j + 1))) := Lib.hid (by rw [HLj.out, h2])
          have hln : L.length + x.bs.length ≤ 100000000 := by
            have := congrArg List.length HLM.out
            rw [List.length_append] at this
            omega
          clear hx h1 h2 m0' hcells hs hr hxm
          go_wp2_with (at_builtin; refine wpList_append_src rfl (.tmp 31) (.tmp 32) _ rfl w.heap.size 5 i0 _ 1 1 Try.underlying51 hi0 hz0 hz1 hz2 rfl (by omega) (.slice Av L.length cv) L.length (L.map bv) rfl ?d0 x.A x.bs.length x.c (x.bs.map bv) rfl ?d1 ?d2 ?d3 ?d4 ?d5)
          case d0 => exact ho
          case d1 => exact hr1.src
          case d2 => unfold maxLen; omega
          case d3 => omega
          case d4 => omega
          case d5 =>
            intro v' w6 ho6 hgr _
            have hk6 := Keeps.of_grown hgr
            have hB6 : Below w.heap.size w w6 := hb.trans (hk6.below hsz fun q hq => own_ge ho q (by simpa using hq))
            rw [← List.map_append, ← List.length_append] at ho6
            obtain ⟨L2, hL2⟩ : ∃ L2, L ++ x.bs = L2 := ⟨_, rfl⟩
            have HL2 : Hid (L2 = cat (l.take (j + 1))) := Lib.hid (by rw [← hL2, HLM.out])
            rw [hL2] at ho6
            clear hL2 HLM HLj ho hgr hk6 hb m0 hr1
            go_wp2_with fail
            exact ⟨⟨j + 1, L2, by omega, rfl, ho6, HL2, hB6⟩, by simp [intOf]; omega⟩
        · obtain rfl : j = k := by omega
          obtain rfl : L = cat l := by rw [HLj.out, List.take_of_length_le (by rw [HL.out]; omega)]
          clear hlt HLj
          go_wp2_with fail
          go_ret
          exact ⟨⟨Av, cv, rfl, ho⟩, hb⟩
end Go.Proofs.Ytehfddafjemedaa
