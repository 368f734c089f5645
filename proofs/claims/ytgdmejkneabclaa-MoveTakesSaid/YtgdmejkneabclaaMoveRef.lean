/- Contracts of the document's answer, layer 21: All. -/
import Derived.Test.YtgdmejkneabclaaMove8
namespace Go.Proofs.Ytgdmejkneabclaa
open Go.RowKit
set_option linter.unusedSimpArgs false
set_option linter.unusedVariables false

/-- A part that lies somewhere. -/
structure PC where
  A : Option Addr
  c : Nat
  bs : List UInt8
def noPC : PC := ⟨none, 0, []⟩
def PC.val (x : PC) : Value := .slice x.A x.bs.length x.c
def PSrcs (w : World) (l : List PC) : Prop := ∀ x ∈ l, Rd w x.A x.bs.length x.bs ∧ x.bs.length ≤ x.c ∧ x.bs.length ≤ 1024
def cat (l : List PC) : List UInt8 := l.flatMap PC.bs
theorem PSrcs.below_ {w w' : World} {l : List PC} (h : PSrcs w l) (hb : Below w.heap.size w w') : PSrcs w' l := fun x hx => ⟨(h x hx).1.below_ hb, (h x hx).2⟩
theorem cat_len {w : World} {l : List PC} (h : PSrcs w l) : (cat l).length ≤ 1024 * l.length := by
  induction l with
  | nil => simp [cat]
  | cons x l ih =>
    have h1 := ih fun y hy => h y (List.mem_cons_of_mem _ hy)
    have h2 := (h x List.mem_cons_self).2.2
    simp only [cat, List.flatMap_cons, List.length_append, List.length_cons] at h1 ⊢
    omega
theorem cat_take_succ (l : List PC) (k : Nat) (h : k < l.length) : cat (l.take (k + 1)) = cat (l.take k) ++ (l.getD k noPC).bs := by
  rw [take_succ_getD l k noPC h]
  simp [cat]

set_option maxHeartbeats 1000000 in
theorem refAll_any (base : Nat) (A : Option Addr) (n c : Nat) (l : List PC) (w : World) (h : w.ownsRow base 23 1 (.slice A n c) n (l.map PC.val)) (hs : PSrcs w l) (hn : n ≤ 1000) :
    Calls Try.prog 32 #[.slice A n c] w fun e w' => (∃ A' c', e = .returned (.slice A' (cat l).length c') ∧ w'.ownsRow w.heap.size 5 1 (.slice A' (cat l).length c') (cat l).length ((cat l).map bv)) ∧ Below w.heap.size w w' := by
  obtain ⟨i0, hi0, hz0, hz1, hz2⟩ := info_parts info_u8
  have hll : l.length = n := by simpa using h.1
  have HLL := Lib.hid hll
  clear hll
  go_enter Try.func32, Try.ntmps32
  go_wp2_with fail
  go_loopw [3, 4] (fun v i wr => ∃ (k : Nat) (L : List UInt8), k ≤ n ∧ i = .int .i64 (k : Int) ∧ wr.ownsRow w.heap.size 5 1 v L.length (L.map bv) ∧ Hid (L = cat (l.take k)) ∧ Below w.heap.size w wr) (fun _ i _ => n - (intOf i).toNat)
  case atStart => exact ⟨0, [], Nat.zero_le _, rfl, World.ownsRow_nil _ _ _ _, Lib.hid (by simp [cat]), Below.refl _ _⟩
  case round =>
    obtain ⟨k, L, hk, rfl, ho, HL, hb⟩ := hrel
    have hsz := hb.size
    obtain ⟨Av, cv, hsl, hlc, hcm⟩ := own_form ho
    subst hsl
    by_cases hlt : k < n
    · have t1 : (k : Int) < (n : Int) := by omega
      have hw := own_below h hb (own_lt h)
      obtain ⟨g, cg, hf, _, hgl⟩ := hw.form (by omega)
      injection hf with i1 i2 i3
      subst i1 i3
      obtain ⟨x, hx⟩ : ∃ x, l.getD k noPC = x := ⟨_, rfl⟩
      have hxm : x ∈ l := by rw [← hx, List.getD_eq_getElem?_getD, List.getElem?_eq_getElem (by rw [HLL.out]; exact hlt)]; exact List.getElem_mem _
      have m0 : wr.cell? ⟨g, k, none⟩ = some (.slice x.A x.bs.length x.c) := by
        have := hw.cells (g := g) rfl k x.val (by rw [List.getElem?_map, List.getElem?_eq_getElem (by rw [HLL.out]; exact hlt)]; rw [← hx, List.getD_eq_getElem?_getD, List.getElem?_eq_getElem (by rw [HLL.out]; exact hlt)]; rfl)
        rw [add_lit0, Nat.zero_add] at this
        exact this
      obtain ⟨hr1, hr2, hr3⟩ := (hs.below_ hb) x hxm
      have hL1 : L.length ≤ 1024 * k := by
        rw [HL.out]
        have := cat_len (w := w) (l := l.take k) fun y hy => hs y (List.mem_of_mem_take hy)
        simp at this
        omega
      have HLM : Hid (L ++ x.bs = cat (l.take (k + 1))) := Lib.hid (by rw [HL.out, cat_take_succ l k (by rw [HLL.out]; exact hlt), hx])
      clear hx hlt i2
      go_wp2_with (at_builtin; refine wpList_append_src rfl (.tmp 11) (.tmp 15) _ rfl w.heap.size 5 i0 _ 1 1 Try.underlying23 hi0 hz0 hz1 hz2 rfl (by omega) (.slice Av L.length cv) L.length (L.map bv) rfl ?d0 x.A x.bs.length x.c (x.bs.map bv) rfl ?d1 ?d2 ?d3 ?d4 ?d5)
      case d0 => exact ho
      case d1 => exact hr1.src
      case d2 => unfold maxLen; omega
      case d3 => omega
      case d4 => omega
      case d5 =>
        intro v' w6 ho6 hgr _
        have hk6 := Keeps.of_grown hgr
        have hB6 : Below w.heap.size w w6 := hb.trans (hk6.below hsz fun j hj => own_ge ho j (by simpa using hj))
        rw [← List.map_append, ← List.length_append] at ho6
        obtain ⟨L2, hL2⟩ : ∃ L2, L ++ x.bs = L2 := ⟨_, rfl⟩
        have HL2 : Hid (L2 = cat (l.take (k + 1))) := Lib.hid (by rw [← hL2, HLM.out])
        rw [hL2] at ho6
        clear hL2 HLM HL ho hgr hk6 hb hw m0 hr1
        go_wp2_with fail
        exact ⟨⟨k + 1, L2, by omega, rfl, ho6, HL2, hB6⟩, by simp [intOf]; omega⟩
    · obtain rfl : k = n := by omega
      obtain rfl : L = cat l := by rw [HL.out, List.take_of_length_le (by rw [HLL.out]; omega)]
      clear hlt HL
      go_wp2_with fail
      go_ret
      exact ⟨⟨Av, cv, rfl, ho⟩, hb⟩
end Go.Proofs.Ytgdmejkneabclaa
