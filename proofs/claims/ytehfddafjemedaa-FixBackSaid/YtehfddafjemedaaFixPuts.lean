/- The walk of FixPuts. -/
import Derived.Test.YtehfddafjemedaaFixPut
import Derived.Test.YtehfddafjemedaaFixAwake
namespace Go.Proofs.Ytehfddafjemedaa
open Go.RowKit
set_option linter.unusedSimpArgs false
set_option linter.unusedVariables false

theorem putBs_len (n : Nat) (k : Int) : (putBs n k).length ≤ 8 := by
  unfold putBs
  by_cases h : putBad n k = 0
  · rw [if_pos h, beB_len]
    by_cases hk : knownB k = true
    · have : 1 ≤ k ∧ k ≤ 8 := by simpa [knownB] using hk
      omega
    · unfold putBad at h
      rw [if_pos (by simpa using hk)] at h
      cases h
  · rw [if_neg h]
    simp
theorem itmB_len (p : Itm) : (itmB p).length ≤ 62 := by
  have hc : p.cut.length ≤ 60 := by unfold Itm.cut; rw [List.length_take]; omega
  have hp := putBs_len p.num p.width
  unfold itmB
  split
  · omega
  · split
    · omega
    · split
      · rw [List.length_append, beB_len]; omega
      · simp
theorem putS_err {s : OutS} {bs : List UInt8} (h : s.err ≠ 0) : putS s bs = s := by unfold putS; rw [if_pos h]
theorem failS_err {s : OutS} {e : Int} (h : s.err ≠ 0) : failS s e = s := by unfold failS; rw [if_neg h]
theorem failS_ok {s : OutS} {e : Int} (h : s.err = 0) : failS s e = ⟨s.b, s.most, e⟩ := by unfold failS; rw [if_pos h]
theorem itmS_err {s : OutS} {p : Itm} (h : s.err ≠ 0) : itmS s p = s := by
  have hN : ∀ n k, putN s n k = s := fun n k => by
    unfold putN
    split
    · exact failS_err h
    · split
      · exact failS_err h
      · exact putS_err h
  unfold itmS
  split
  · exact hN _ _
  · split
    · exact putS_err h
    · split
      · unfold textS
        split
        · exact failS_err h
        · exact putS_err h
      · exact hN _ _
/-- What is put, when nothing was wrong. -/
theorem itmS_bad {s : OutS} {p : Itm} (h : s.err = 0) (he : itmE p ≠ 0) : itmS s p = ⟨s.b, s.most, itmE p⟩ := by
  unfold itmE at he ⊢
  split at he
  · rename_i k0
    unfold itmS
    rw [if_pos k0]
    rw [if_pos k0]
    unfold putBad at he ⊢
    unfold putN
    split
    · exact failS_ok h
    · rw [if_neg (by assumption)] at he
      simp only [Int.toNat_natCast]
      split
      · exact failS_ok h
      · rw [if_neg (by assumption)] at he
        exact absurd rfl he
  · exact absurd rfl he
theorem itmS_ok {s : OutS} {p : Itm} (he : itmE p = 0) : itmS s p = putS s (itmB p) := by
  unfold itmS itmB
  split
  · rename_i k0
    unfold itmE at he
    rw [if_pos k0] at he
    have hb : putBs p.num p.width = beB p.num p.width.toNat := by unfold putBs; rw [if_pos he]
    unfold putBad at he
    rw [hb]
    unfold putN
    split
    · rename_i h1; rw [if_pos h1] at he; cases he
    · rename_i h1
      rw [if_neg h1] at he
      simp only [Int.toNat_natCast]
      split
      · rename_i h2; rw [if_pos h2] at he; cases he
      · rfl
  · split
    · rfl
    · split
      · have hc : p.cut.length ≤ 60 := by unfold Itm.cut; rw [List.length_take]; omega
        unfold textS
        rw [if_neg (by omega)]
      · unfold boolS putN
        rw [if_neg (by decide)]
        cases oddB p.num
        · rw [if_neg (by decide)]; rfl
        · rw [if_neg (by decide)]; rfl
theorem itmS_long {s : OutS} {p : Itm} (h : s.err = 0) (he : itmE p = 0) (hl : s.most - (s.b.length : Int) < ((itmB p).length : Int)) : itmS s p = ⟨s.b, s.most, 6⟩ := by
  rw [itmS_ok he]
  unfold putS
  rw [if_neg (by simp [h]), if_pos hl]
  exact failS_ok h
theorem itmS_put {s : OutS} {p : Itm} (h : s.err = 0) (he : itmE p = 0) (hl : ¬ s.most - (s.b.length : Int) < ((itmB p).length : Int)) : itmS s p = ⟨s.b ++ itmB p, s.most, 0⟩ := by
  rw [itmS_ok he]
  unfold putS
  rw [if_neg (by simp [h]), if_neg hl, h]

def ItmsAt (w : World) (A : Option Addr) (n : Nat) (l : List Itm) : Prop :=
  l.length = n ∧ n ≤ 9223372036854775807 ∧ (0 < n → ∃ b o, A = some ⟨b, o, none⟩ ∧ ∀ i j, i < n → j < 4 → w.cell? ⟨b, o + i * 4 + j, none⟩ = (l.getD i noItm).arr[j]?) ∧
    ∀ p ∈ l, p.num < 18446744073709551616 ∧ -9223372036854775808 ≤ p.kind ∧ p.kind ≤ 9223372036854775807 ∧ Rd w p.x.A p.x.bs.length p.x.bs ∧ p.x.bs.length ≤ p.x.c ∧ p.x.c ≤ 9223372036854775807
theorem ItmsAt.get {w : World} {A : Option Addr} {n : Nat} {l : List Itm} (h : ItmsAt w A n l) {k : Nat} (hk : k < n) : ∃ p b o, l.getD k noItm = p ∧ p ∈ l ∧ A = some ⟨b, o, none⟩ ∧ b < w.heap.size ∧
    ∀ W, Below w.heap.size w W → W.cell? ⟨b, o + k * 4, none⟩ = some (.int .i64 p.kind) ∧ W.cell? ⟨b, o + k * 4 + 1, none⟩ = some (.int .u64 (p.num : Int)) ∧ W.cell? ⟨b, o + k * 4 + 2, none⟩ = some (.int .i64 p.width) ∧ W.cell? ⟨b, o + k * 4 + 3, none⟩ = some p.x.val ∧ b < W.heap.size := by
  obtain ⟨b, o, rfl, hcc⟩ := h.2.2.1 (by omega)
  have hm : l.getD k noItm ∈ l := by rw [List.getD_eq_getElem?_getD, List.getElem?_eq_getElem (by rw [h.1]; exact hk)]; exact List.getElem_mem _
  have c0 := hcc k 0 hk (by omega)
  have c1 := hcc k 1 hk (by omega)
  have c2 := hcc k 2 hk (by omega)
  have c3 := hcc k 3 hk (by omega)
  simp only [Itm.arr, List.getElem?_toArray, List.getElem?_cons_zero, List.getElem?_cons_succ, Nat.add_zero] at c0 c1 c2 c3
  have hgl := block_lt_of_cell c0
  simp only at hgl
  refine ⟨_, b, o, rfl, hm, rfl, hgl, fun W hW => ⟨?_, ?_, ?_, ?_, Nat.lt_of_lt_of_le hgl hW.size⟩⟩
  · exact (hW.cell (p := ⟨b, _, none⟩) hgl).trans c0
  · exact (hW.cell (p := ⟨b, _, none⟩) hgl).trans c1
  · exact (hW.cell (p := ⟨b, _, none⟩) hgl).trans c2
  · exact (hW.cell (p := ⟨b, _, none⟩) hgl).trans c3

/-- What is put, by the program and by the document, alike. -/
structure FP (w wr : World) (g : Nat) (sl v : Value) (s : OutS) : Prop where
  out : OutAt wr w.heap.size g sl s
  all : wr.ownsRow w.heap.size 5 1 v s.b.length (s.b.map bv)
  ne : ∀ k ∈ sl.ownBlock, k ∉ v.ownBlock
  below : Below w.heap.size w wr
theorem FP.put {w wr w2 : World} {g : Nat} {sl v : Value} {s S : OutS} (h : FP w wr g sl v s) (hst : OutStep w.heap.size g sl S wr w2) : ∃ sl', OutAt w2 w.heap.size g sl' S ∧ w2.ownsRow w.heap.size 5 1 v s.b.length (s.b.map bv) ∧ (∀ k ∈ sl'.ownBlock, k ∉ v.ownBlock) ∧ Below w.heap.size w w2 := by
  obtain ⟨sl', h1, hk, h3⟩ := hst
  refine ⟨sl', h1, own_keeps h.all hk fun k hk1 hm => ?_, fun k hk1 hk2 => ?_, h.below.trans (hk.below h.below.size fun k hm => ?_)⟩
  · rcases List.mem_cons.1 hm with e | hm
    · exact own_blk_ne h.all h.out.blk (by decide) k hk1 e
    · exact h.ne k (by simpa using hm) hk1
  · rcases h3 with h3 | h3
    · exact h.ne k (by rw [← h3]; exact hk1) hk2
    · have := h3 k hk1
      have := own_lt h.all k hk2
      omega
  · rcases List.mem_cons.1 hm with e | hm
    · rw [e]; exact h.out.ge
    · exact own_ge h.out.own k (by simpa using hm)

set_option maxRecDepth 100000 in
set_option maxHeartbeats 4000000 in
theorem FixPuts_walk (most : Int) (B : Option Addr) (m d : Nat) (l : List Itm) (w : World) (hmost : -9223372036854775808 ≤ most ∧ most ≤ 9223372036854775807) (hl : ItmsAt w B m l) :
    Calls Try.prog 6 #[.int .i64 most, .slice B m d] w fun e w' => e = .returned (.bool true) ∧ Below w.heap.size w w' := by
  obtain ⟨i0, hi0, hz0, hz1, hz2⟩ := info_parts info_u8
  have hm := hl.2.1
  obtain ⟨M0, hM0⟩ : ∃ z, max most 0 = z := ⟨_, rfl⟩
  have hM0b : 0 ≤ M0 ∧ M0 ≤ 9223372036854775807 := by omega
  have hnew := fixNew_any most w
  rw [hM0] at hnew
  have HM := Lib.hid hM0
  clear hM0
  go_enter Try.func6, Try.ntmps6
  go_wp2_with fail
  refine hnew.mono ?_
  rintro e w1 ⟨rfl, h1, hb1⟩
  clear hnew
  have hF0 : FP w w1 w.heap.size (.slice none 0 0) (.slice none 0 0) ⟨[], M0, 0⟩ := ⟨h1, World.ownsRow_nil _ _ _ _, fun k hk => by simp [Value.ownBlock] at hk, hb1⟩
  clear h1 hb1
  go_wp2_with fail
  go_loopw [6, 7, 8] (fun v er i wr => ∃ (k : Nat) (sl : Value) (s : OutS), k ≤ m ∧ k ≤ 30 ∧ i = .int .i64 (k : Int) ∧ er = .int .i64 s.err ∧ s.most = M0 ∧ s.b.length ≤ 62 * k ∧ FP w wr w.heap.size sl v s) (fun _ _ i _ => m - (intOf i).toNat)
  case atStart => exact ⟨0, _, ⟨[], M0, 0⟩, Nat.zero_le _, by omega, rfl, rfl, rfl, by simp, hF0⟩
  case round =>
    obtain ⟨k, sl, s, hk, hk30, rfl, rfl, hsM, hsl, hF⟩ := hrel
    clear hF0
    have hb := hF.below
    have hs := hb.size
    have hsm : s.small := ⟨by omega, by omega, by omega⟩
    obtain ⟨Av, cv, rfl, hlc, hcm⟩ := own_form hF.all
    by_cases hlt : k < m ∧ k < 30
    · obtain ⟨hl1, hl2⟩ := hlt
      obtain ⟨p, b, o, hp, hpm, rfl, hbl, hP⟩ := hl.get hl1
      obtain ⟨f1, f2, f3, f4, f5, f6⟩ := hl.2.2.2 p hpm
      have hput := put_any w.heap.size w.heap.size sl s p wr hF.out hs hsm f1 (f4.below_ hb) f5 f6 (fun h0 => f4.lt h0)
      have hbl' := itmB_len p
      have e1 := @itmS_err s p
      have e2 := @itmS_bad s p
      have e3 := @itmS_long s p
      have e4 := @itmS_put s p
      rw [hsM] at e2 e3 e4
      simp only [Itm.arr, PC.val] at hput
      obtain ⟨bs, hbs⟩ : ∃ z, itmB p = z := ⟨_, rfl⟩
      obtain ⟨er, her⟩ : ∃ z, itmE p = z := ⟨_, rfl⟩
      obtain ⟨S, hS⟩ : ∃ z, itmS s p = z := ⟨_, rfl⟩
      rw [hbs, her, hS] at hput
      rw [hS] at e1
      rw [her, hS] at e2
      rw [her, hS, hbs] at e3 e4
      rw [hbs] at hbl'
      clear hbs her hS hp hpm f1 f2 f3 f4 f5 f6
      obtain ⟨x0, x1, x2, x3, xl⟩ := hP wr hb
      simp only [PC.val] at x3
      obtain ⟨ob, om, oe⟩ := s
      simp only at *
      subst hsM
      by_cases h0 : oe = 0
      · subst h0
        by_cases hr0 : er = 0
        · subst hr0
          by_cases hlong : om - (ob.length : Int) < (bs.length : Int)
          · rcases (by have := HM.out; omega : (most < 0 ∧ om = 0) ∨ (¬ most < 0 ∧ most = om)) with ⟨hneg, rfl⟩ | ⟨hneg, rfl⟩
            · obtain rfl := (e3 rfl rfl hlong).symm
              have t1 : IntKind.i64.wrap (0 - (ob.length : Int)) = 0 - (ob.length : Int) := by rw [IntKind.wrap_i64]; omega
              clear e1 e2 e3 e4
              go_wp2_with fail
              refine hput.mono ?_
              rintro e w2 ⟨⟨At, ct, rfl, hrt, hct, hcm2⟩, hst⟩
              obtain ⟨sl', ho2, hv2, hne2, hb2⟩ := hF.put hst
              clear hput hst x0 x1 x2 x3 xl
              have hF2 : FP w w2 w.heap.size sl' (.slice Av ob.length cv) ⟨ob, 0, 6⟩ := ⟨ho2, hv2, hne2, hb2⟩
              clear hF ho2 hv2 hne2 hb2
              go_wp2_with fail
              exact ⟨⟨k + 1, sl', ⟨ob, 0, 6⟩, by omega, by omega, rfl, rfl, rfl, by simp only; omega, hF2⟩, by simp [intOf]; omega⟩
            · obtain rfl := (e3 rfl rfl hlong).symm
              have t1 : IntKind.i64.wrap (most - (ob.length : Int)) = most - (ob.length : Int) := by rw [IntKind.wrap_i64]; omega
              clear e1 e2 e3 e4
              go_wp2_with fail
              refine hput.mono ?_
              rintro e w2 ⟨⟨At, ct, rfl, hrt, hct, hcm2⟩, hst⟩
              obtain ⟨sl', ho2, hv2, hne2, hb2⟩ := hF.put hst
              clear hput hst x0 x1 x2 x3 xl
              have hF2 : FP w w2 w.heap.size sl' (.slice Av ob.length cv) ⟨ob, most, 6⟩ := ⟨ho2, hv2, hne2, hb2⟩
              clear hF ho2 hv2 hne2 hb2
              go_wp2_with fail
              exact ⟨⟨k + 1, sl', ⟨ob, most, 6⟩, by omega, by omega, rfl, rfl, rfl, by simp only; omega, hF2⟩, by simp [intOf]; omega⟩
          · rcases (by have := HM.out; omega : (most < 0 ∧ om = 0) ∨ (¬ most < 0 ∧ most = om)) with ⟨hneg, rfl⟩ | ⟨hneg, rfl⟩
            · obtain rfl := (e4 rfl rfl hlong).symm
              have t1 : IntKind.i64.wrap (0 - (ob.length : Int)) = 0 - (ob.length : Int) := by rw [IntKind.wrap_i64]; omega
              clear e1 e2 e3 e4
              go_wp2_with fail
              refine hput.mono ?_
              rintro e w2 ⟨⟨At, ct, rfl, hrt, hct, hcm2⟩, hst⟩
              obtain ⟨sl', ho2, hv2, hne2, hb2⟩ := hF.put hst
              clear hput hst x0 x1 x2 x3 xl
              go_wp2_with (at_builtin; refine wpList_append_src rfl (.tmp 55) (.tmp 56) _ rfl w.heap.size 5 i0 _ 1 1 Try.underlying51 hi0 hz0 hz1 hz2 rfl (by omega) (.slice Av ob.length cv) ob.length (ob.map bv) rfl ?d0 At bs.length ct (bs.map bv) rfl ?d1 ?d2 ?d3 ?d4 ?d5)
              case d0 => exact hv2
              case d1 => exact hrt.src
              case d2 => unfold maxLen; omega
              case d3 => omega
              case d4 => exact hb2.size
              case d5 =>
                intro v' w6 ho6 hgr hor
                have hk6 := Keeps.of_grown hgr
                have hF2 : FP w w6 w.heap.size sl' v' ⟨ob ++ bs, 0, 0⟩ := by
                  refine ⟨ho2.keeps hk6 (fun hm => own_blk_ne hv2 ho2.blk (by decide) _ (by simpa using hm) rfl) (fun k hk hm => hne2 k hk (by simpa using hm)), ?_, fun k hk hm => ?_, hb2.trans (hk6.below hb2.size fun j hj => own_ge hv2 j (by simpa using hj))⟩
                  · rw [List.length_append, List.map_append]; exact ho6
                  · rcases hor with e | e
                    · exact hne2 k hk (by rw [← e]; exact hm)
                    · have h1 := own_lt ho2.own k hk
                      rw [e] at hm
                      have : k = w2.heap.size := by simpa using hm.symm
                      omega
                clear hF ho2 hv2 hne2 hb2 ho6 hgr hk6
                go_wp2_with fail
                exact ⟨⟨k + 1, sl', ⟨ob ++ bs, 0, 0⟩, by omega, by omega, rfl, rfl, rfl, by simp only [List.length_append]; omega, hF2⟩, by simp [intOf]; omega⟩
            · obtain rfl := (e4 rfl rfl hlong).symm
              have t1 : IntKind.i64.wrap (most - (ob.length : Int)) = most - (ob.length : Int) := by rw [IntKind.wrap_i64]; omega
              clear e1 e2 e3 e4
              go_wp2_with fail
              refine hput.mono ?_
              rintro e w2 ⟨⟨At, ct, rfl, hrt, hct, hcm2⟩, hst⟩
              obtain ⟨sl', ho2, hv2, hne2, hb2⟩ := hF.put hst
              clear hput hst x0 x1 x2 x3 xl
              go_wp2_with (at_builtin; refine wpList_append_src rfl (.tmp 55) (.tmp 56) _ rfl w.heap.size 5 i0 _ 1 1 Try.underlying51 hi0 hz0 hz1 hz2 rfl (by omega) (.slice Av ob.length cv) ob.length (ob.map bv) rfl ?d0 At bs.length ct (bs.map bv) rfl ?d1 ?d2 ?d3 ?d4 ?d5)
              case d0 => exact hv2
              case d1 => exact hrt.src
              case d2 => unfold maxLen; omega
              case d3 => omega
              case d4 => exact hb2.size
              case d5 =>
                intro v' w6 ho6 hgr hor
                have hk6 := Keeps.of_grown hgr
                have hF2 : FP w w6 w.heap.size sl' v' ⟨ob ++ bs, most, 0⟩ := by
                  refine ⟨ho2.keeps hk6 (fun hm => own_blk_ne hv2 ho2.blk (by decide) _ (by simpa using hm) rfl) (fun k hk hm => hne2 k hk (by simpa using hm)), ?_, fun k hk hm => ?_, hb2.trans (hk6.below hb2.size fun j hj => own_ge hv2 j (by simpa using hj))⟩
                  · rw [List.length_append, List.map_append]; exact ho6
                  · rcases hor with e | e
                    · exact hne2 k hk (by rw [← e]; exact hm)
                    · have h1 := own_lt ho2.own k hk
                      rw [e] at hm
                      have : k = w2.heap.size := by simpa using hm.symm
                      omega
                clear hF ho2 hv2 hne2 hb2 ho6 hgr hk6
                go_wp2_with fail
                exact ⟨⟨k + 1, sl', ⟨ob ++ bs, most, 0⟩, by omega, by omega, rfl, rfl, rfl, by simp only [List.length_append]; omega, hF2⟩, by simp [intOf]; omega⟩
        · obtain rfl := (e2 rfl hr0).symm
          have t0 : (er == 0) = false := by simp [hr0]
          clear e1 e2 e3 e4
          go_wp2_with fail
          refine hput.mono ?_
          rintro e w2 ⟨⟨At, ct, rfl, hrt, hct, hcm2⟩, hst⟩
          obtain ⟨sl', ho2, hv2, hne2, hb2⟩ := hF.put hst
          clear hput hst x0 x1 x2 x3 xl
          have hF2 : FP w w2 w.heap.size sl' (.slice Av ob.length cv) ⟨ob, om, er⟩ := ⟨ho2, hv2, hne2, hb2⟩
          clear hF ho2 hv2 hne2 hb2
          go_wp2_with fail
          exact ⟨⟨k + 1, sl', ⟨ob, om, er⟩, by omega, by omega, rfl, rfl, rfl, by simp only; omega, hF2⟩, by simp [intOf]; omega⟩
      · obtain rfl := (e1 h0).symm
        have t0 : (oe == 0) = false := by simp [h0]
        clear e1 e2 e3 e4
        go_wp2_with fail
        refine hput.mono ?_
        rintro e w2 ⟨⟨At, ct, rfl, hrt, hct, hcm2⟩, hst⟩
        obtain ⟨sl', ho2, hv2, hne2, hb2⟩ := hF.put hst
        clear hput hst x0 x1 x2 x3 xl
        have hF2 : FP w w2 w.heap.size sl' (.slice Av ob.length cv) ⟨ob, om, oe⟩ := ⟨ho2, hv2, hne2, hb2⟩
        clear hF ho2 hv2 hne2 hb2
        go_wp2_with fail
        exact ⟨⟨k + 1, sl', ⟨ob, om, oe⟩, by omega, by omega, rfl, rfl, rfl, by simp only; omega, hF2⟩, by simp [intOf]; omega⟩
    · have e : k = m ∨ (k < m ∧ k = 30) := by omega
      have hdn := outDone_any w.heap.size w.heap.size sl s wr hF.out (by omega)
      have hall := hF.all
      obtain ⟨ob, om, oe⟩ := s
      simp only at *
      subst hsM
      by_cases he : oe = 0
      · subst he
        rw [show doneB ⟨ob, om, 0⟩ = ob from if_pos rfl] at hdn
        clear hF hlt HM
        rcases e with rfl | ⟨h1, rfl⟩
        iterate 2
          · go_wp2_with fail
            refine hdn.mono ?_
            rintro e w2 ⟨⟨A2, c2, rfl, ho2⟩, hb2⟩
            have hSame := Same_any A2 Av ob.length ob.length c2 cv ob ob w2 (Rd.of_own ho2) ((Rd.of_own hall).below_ hb2)
            clear hdn ho2 hall
            go_wp2_with fail
            refine hSame.mono ?_
            rintro e w3 ⟨he3, hd3⟩
            obtain rfl : e = .returned (.bool true) := by rw [he3]; simp
            clear he3 hSame
            go_wp2_with fail
            refine (awake01 w3).mono ?_
            rintro e w4 ⟨rfl, hb4⟩
            have hfin : Below w.heap.size w w4 := (hb.trans (hb2.mono hs)).trans ((hd3.below _).trans (hb4.mono (by have := hb2.size; have := (hd3.below 0).size; omega)))
            clear hb2 hd3 hb4
            go_wp2_with fail
            go_ret
            exact ⟨rfl, hfin⟩
      · rw [show doneB ⟨ob, om, oe⟩ = [] from if_neg he] at hdn
        have t0 : (oe == 0) = false := by simp [he]
        clear hF hlt HM hall
        rcases e with rfl | ⟨h1, rfl⟩
        iterate 2
          · go_wp2_with fail
            refine hdn.mono ?_
            rintro e w2 ⟨⟨A2, c2, rfl, ho2⟩, hb2⟩
            clear hdn ho2
            simp only [List.length_nil]
            go_wp2_with fail
            refine (awake01 w2).mono ?_
            rintro e w4 ⟨rfl, hb4⟩
            have hfin : Below w.heap.size w w4 := (hb.trans (hb2.mono hs)).trans (hb4.mono (by have := hb2.size; omega))
            clear hb2 hb4
            go_wp2_with fail
            go_ret
            exact ⟨rfl, hfin⟩
end Go.Proofs.Ytehfddafjemedaa
