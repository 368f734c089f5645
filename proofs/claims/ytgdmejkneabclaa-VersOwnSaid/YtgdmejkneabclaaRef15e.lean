/- Contracts of the document's answer, layer 15: Trim; the law's ours, like. -/
import Derived.Test.YtgdmejkneabclaaRef15d
namespace Go.Proofs.Ytgdmejkneabclaa
open Go.RowKit
set_option linter.unusedSimpArgs false
set_option linter.unusedVariables false

theorem seq_trim {l : List VC} (hr : Rising l) (hp : Pos l) (done : Int) (k : Nat) (hk : k < l.length) : (cleanV l done).seq ≤ (l.getD k noVC).v.seq ↔ trimN l done ≤ k := by
  have hc := (cut_found l done).1
  unfold trimN cleanV
  by_cases h0 : cut l done = 0
  · have e : atV l ((cut l done : Int) - 1) = .none := by unfold atV; rw [if_neg (by omega)]
    rw [e, h0]
    have := (hp.at_ k hk).2
    exact ⟨fun _ => by omega, fun _ => by show (0 : Int) ≤ _; omega⟩
  · have e : atV l ((cut l done : Int) - 1) = (l.getD (cut l done - 1) noVC).v := by
      rw [← atV_lt l (cut l done - 1) (by omega)]
      congr 1
      omega
    rw [e]
    constructor
    · intro h
      rcases Nat.lt_or_ge k (cut l done - 1) with h1 | h1
      · have := (hr k (cut l done - 1) h1 (by omega)).1
        omega
      · exact h1
    · intro h
      rcases Nat.lt_or_ge (cut l done - 1) k with h1 | h1
      · have := (hr (cut l done - 1) k h1 hk).1
        omega
      · have : k = cut l done - 1 := by omega
        rw [this]
        omega

set_option maxRecDepth 100000 in
set_option maxHeartbeats 2000000 in
theorem refTrim_any (base : Nat) (sl : Value) (l : List VC) (done : Int) (w : World) (h : RefAt w base sl l) (hl : l.length ≤ 900) (hr : Rising l) (hp : Pos l) :
    Calls Try.prog 36 #[sl, .int .u64 done] w fun e w' =>
      (∃ so, e = .returned (.tuple #[so, .int .i64 (trimN l done)]) ∧ RefAt w' w.heap.size so (l.drop (trimN l done))) ∧ Below w.heap.size w w' := by
  obtain ⟨A, c, hsl, hlc, hcm⟩ := own_form h
  obtain ⟨i0, hi0, hz0, hz1, hz2⟩ := info_parts info_refver
  have hst := fun k hk => seq_trim hr hp done k hk
  have hcl := refClean_any base sl l done w h (by omega) hr
  have hcv := cleanC_v l done
  obtain ⟨C, hC⟩ : ∃ C, cleanC l done = C := ⟨_, rfl⟩
  obtain ⟨n, hn⟩ : ∃ n, trimN l done = n := ⟨_, rfl⟩
  have hnl : n ≤ l.length := by rw [← hn]; unfold trimN; have := (cut_found l done).1; omega
  rw [hC] at hcl hcv
  rw [← hcv] at hst
  simp only [hn] at hst ⊢
  rw [hsl] at hcl ⊢
  have HS := Lib.hid hsl
  have HT := Lib.hid hst
  clear hst hcv hC hn hsl
  go_enter Try.func36, Try.ntmps36
  go_wp2_with fail
  refine hcl.mono ?_
  rintro e w1 ⟨rfl, hb1⟩
  simp only [VC.agg]
  go_wp2_with fail
  have hs1 := hb1.size
  have hb2 : Below w.heap.size w (w1.alloc (.cells (arr C) 69)) := hb1.alloc hs1 _
  have hc2 := Blk.new w1 69 (arr C)
  have hs2 : (w1.alloc (.cells (arr C) 69)).heap.size = w1.heap.size + 1 := by simp
  simp only [arr] at hb2 hc2 hs2
  generalize (w1.alloc (.cells #[.int .u64 C.v.ver, .int .u64 C.v.seq, .slice C.A C.v.data.length C.c] 69)) = w2 at hb2 hc2 hs2 ⊢
  go_loopw [7, 8] (fun s i wr => ∃ k : Nat, k ≤ l.length ∧ i = .int .i64 k ∧ RefAt wr w.heap.size s ((l.take k).drop n) ∧ (∀ j ∈ s.ownBlock, w1.heap.size + 1 ≤ j) ∧ Below w.heap.size w wr ∧ Below (w1.heap.size + 1) w2 wr) (fun _ i _ => l.length - (intOf i).toNat)
  case atStart => exact ⟨0, Nat.zero_le _, rfl, by rw [List.take_zero, List.drop_nil]; exact World.ownsRow_nil _ _ _ _, by simp [Value.ownBlock], hb2, Below.refl _ _⟩
  case round =>
    obtain ⟨k, hk, rfl, hR, hge, hb, hb'⟩ := hrel
    have hsr := hb'.size
    have hcr : Blk wr w1.heap.size 69 (arr C) := hc2.below hb' (by omega)
    by_cases hlt : k < l.length
    · have h1 : RefAt wr base sl l := own_below h hb (own_lt h)
      obtain ⟨b, c', he, hbl, e0, e1, e2⟩ := ref_at h1 k hlt noVC
      rw [HS.out] at he
      injection he with he1 he2 he3
      subst he1
      subst he3
      obtain ⟨x, hx⟩ : ∃ x, x = l.getD k noVC := ⟨_, rfl⟩
      have hcut := HT.out k hlt
      rw [← hx] at e0 e1 e2 hcut
      have HX := Lib.hid hx
      have c1 := hcr.cell 1
      simp only [arr, List.getElem?_toArray, List.getElem?_cons_zero, List.getElem?_cons_succ] at c1
      have HCR := Lib.hid hcr
      have hlen : ((l.take k).drop n).length = k - n := by simp; omega
      obtain ⟨A7, c7, hs7, _, _⟩ := own_form hR
      rw [hlen] at hs7
      subst hs7
      have HR := Lib.hid hR
      have HL := Lib.hid hlen
      clear hlen
      clear hx he2 hcr hR
      have hbw : b < wr.heap.size := hbl
      have hw1 : w1.heap.size < wr.heap.size := by omega
      by_cases hq : C.v.seq ≤ x.v.seq
      · have hkn := hcut.1 hq
        have HKN := Lib.hid hkn
        clear hcut hkn
        go_wp2_with fail
        go_quiet (fail)
        go_wp2_with (at_builtin; refine wpList_append_src rfl (.tmp 26) (.tmp 31) _ rfl w.heap.size 69 i0 _ 3 40 Try.underlying68 hi0 hz0 hz1 hz2 rfl (by omega) (.slice A7 (k - n) c7) (k - n) (((l.take k).drop n).flatMap VC.cells) rfl ?c0 (some ⟨wr.heap.size, 0, none⟩) 1 1 (arr x).toList rfl ?c1 ?c2 ?c3 ?c4 ?c5)
        case c0 =>
          have := HR.out
          unfold RefAt at this
          rw [HL.out] at this
          exact own_keeps this (((Keeps.refl [] wr).drewN nq).alloc _) (by simp)
        case c1 =>
          refine ⟨rfl, by simp [arr, Value.oneCell'], fun _ => ⟨wr.heap.size, 0, rfl, fun j u hj => ?_⟩⟩
          rw [Nat.zero_add]
          refine Eq.trans ((Blk.new (wr.drewN nq) 69 (arr x)).cell j) ?_
          simpa using hj
        case c2 => unfold maxLen; omega
        case c3 => omega
        case c4 => simp; omega
        case c5 =>
          intro so w' ho' hgr hor
          have hkg := Keeps.of_grown hgr
          obtain ⟨A5, c5, hso, _, _⟩ := own_form ho'
          rw [hso] at ho' ⊢
          go_wp2_with fail
          have hge' : ∀ j ∈ (Value.slice A7 (k - n) c7).ownBlock.toList, w1.heap.size + 1 ≤ j := fun j hj => hge j (by simpa using hj)
          refine ⟨⟨k + 1, by omega, rfl, ?_, ?_, ?_, ?_⟩, by simp [intOf]; omega⟩
          · have e1 : (l.take (k + 1)).drop n = (l.take k).drop n ++ [x] := by
              rw [take_succ_getD l k noVC hlt, ← HX.out, List.drop_append_of_le_length (by have := HKN.out; simp; omega)]
            have e2 : ((l.take k).drop n ++ [x]).length = k - n + 1 := by rw [List.length_append, HL.out]; rfl
            have e3 : ((l.take k).drop n).flatMap VC.cells ++ (arr x).toList = ((l.take k).drop n ++ [x]).flatMap VC.cells := by rw [List.flatMap_append]; simp [VC.cells, arr, VC.sl]
            rw [e3] at ho'
            rw [e1]
            show w'.ownsRow _ _ _ _ _ _
            rw [e2]
            exact ho'
          · intro j hj
            rw [← hso] at hj
            rcases hor with h1 | h1
            · rw [h1] at hj; exact hge j hj
            · rw [h1] at hj
              have : wr.heap.size + 1 = j := by simpa using hj
              omega
          · exact ((below_drewN hb nq).alloc (by simp; omega) _).trans (hkg.below (by simp; omega) fun j hj => by have := hge' j hj; omega)
          · exact ((below_drewN hb' nq).alloc (by simp; omega) _).trans (hkg.below (by simp; omega) fun j hj => hge' j hj)
      · have hkn : ¬ n ≤ k := fun hh => hq (hcut.2 hh)
        clear hcut
        go_wp2_with fail
        go_quiet (fail)
        go_wp2_with fail
        refine ⟨⟨k + 1, by omega, rfl, ?_, ?_, below_drewN hb _, below_drewN hb' _⟩, by simp [intOf]; omega⟩
        · have e1 : (l.take (k + 1)).drop n = [] := List.drop_of_length_le (by simp; omega)
          have e2 : (l.take k).drop n = [] := List.drop_of_length_le (by simp; omega)
          have := HR.out
          rw [e2] at this
          rw [e1]
          exact this
        · exact hge
    · have hkl : k = l.length := by omega
      subst hkl
      obtain ⟨A7, c7, hs7, _, _⟩ := own_form hR
      rw [List.take_length] at hR hs7
      rw [List.length_drop] at hs7
      rw [hs7] at hR ⊢
      have HR := Lib.hid hR
      have e1 : (l.length : Int) - ((l.length - n : Nat) : Int) = (n : Int) := by omega
      have wr1 : IntKind.i64.wrap ((l.length : Int) - ((l.length - n : Nat) : Int)) = (n : Int) := by rw [e1, IntKind.wrap_i64]; omega
      clear hR
      go_wp2_with fail
      refine bodyPost_ret (v := .tuple #[.slice A7 (l.length - n) c7, .int .i64 (n : Int)]) (by simp [results, Try.results36, go_sem]) rfl ⟨⟨_, rfl, HR.out⟩, hb⟩
end Go.Proofs.Ytgdmejkneabclaa
