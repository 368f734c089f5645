/- Contract: a table's bytes (sess.Put). -/
import Derived.Test.YtehfddafjemedaaSbP
import Derived.Test.YtehfddafjemedaaLike16
namespace Go.Proofs.Ytehfddafjemedaa
open Go.RowKit
set_option linter.unusedSimpArgs false
set_option linter.unusedVariables false

/-- What a number that is put leaves as it was. -/
theorem put_keeps {w w' : World} {B C g : Nat} {sl : Value} {s s' : OutS} (h : OutAt w B g sl s) (hst : OutStep B g sl s' w w') (hB : B ≤ w.heap.size) :
    ∃ sl', OutAt w' B g sl' s' ∧ Below B w w' ∧ (∀ b cs, Blk w b 28 cs → Blk w' b 28 cs) ∧ (∀ v L, OwnRows w C 28 v L → OwnRows w' C 28 v L) := by
  obtain ⟨sl', ho, hk, _⟩ := hst
  refine ⟨sl', ho, hk.below hB ?_, ?_, ?_⟩
  · intro k hm
    rcases List.mem_cons.1 hm with rfl | hm
    · exact h.ge
    · exact own_ge h.own k (by simpa using hm)
  · intro b cs hb
    refine hb.keeps hk ?_
    intro hm
    rcases List.mem_cons.1 hm with rfl | hm
    · exact absurd rfl (hb.ne_ h.blk (by decide))
    · exact own_blk_ne h.own hb (by decide) b (by simpa using hm) rfl
  · intro v L ho2
    refine own_keeps ho2 hk ?_
    intro j hj hm
    rcases List.mem_cons.1 hm with rfl | hm
    · exact own_blk_ne ho2 h.blk (by decide) _ hj rfl
    · exact own_own_ne ho2 h.own (by decide) j hj (by simpa using hm)

/-- A number that is put in a table's bytes. -/
theorem putOne (B C g : Nat) (sl : Value) (T : List UInt8) (n : Nat) (k : Nat) (w : World) (h : OutAt w B g sl ⟨T, 500, 0⟩) (hB : B ≤ w.heap.size) (h1 : 1 ≤ k ∧ k ≤ 8) (h2 : n < 256 ^ k) (h3 : T.length + k ≤ 500) :
    Calls Try.prog 36 #[.pointer (some ⟨g, 0, none⟩), .int .u64 (n : Int), .int .i64 (k : Int)] w fun e w' => e = .returned (.tuple #[]) ∧ ∃ sl', OutAt w' B g sl' ⟨T ++ beB n k, 500, 0⟩ ∧ Below B w w' ∧ (∀ b cs, Blk w b 28 cs → Blk w' b 28 cs) ∧ (∀ v L, OwnRows w C 28 v L → OwnRows w' C 28 v L) := by
  have hp : 256 ^ k ≤ 256 ^ 8 := Nat.pow_le_pow_right (by omega) h1.2
  have h := outPut_any B g sl ⟨T, 500, 0⟩ n k w h hB ⟨by simp only; omega, by simp, by simp⟩ (by omega)
  rw [put_app T n k h1 h2 h3] at h
  refine h.mono ?_
  rintro e w' ⟨rfl, hst⟩
  exact ⟨rfl, put_keeps (by assumption) hst hB⟩

set_option maxRecDepth 100000 in
set_option maxHeartbeats 4000000 in
theorem sessPut_any (B g h : Nat) (sl : Value) (R : Nat → SRow) (w : World) (ht : TabAt w g R) (hg : g < B) (hB : B ≤ w.heap.size) (ho : OutAt w B h sl ⟨[], 500, 0⟩) (hok : ∀ r ∈ rowsOf R, RowOk r) :
    Calls Try.prog 26 #[.pointer (some ⟨g, 0, none⟩), .pointer (some ⟨h, 0, none⟩)] w fun e w' => e = .returned (.tuple #[]) ∧ (∃ sl', OutAt w' B h sl' ⟨tabB (rowsOf R), 500, 0⟩) ∧ Below B w w' := by
  have hL6 : (rowsOf R).length ≤ 6 := rowsL_len R 6
  have hLen := fun W (hW : TabAt W g R) => Len_any g R W hW
  have hAll := fun W (hW : TabAt W g R) => All_any g R W hW
  obtain ⟨L, hL⟩ : ∃ L, rowsOf R = L := ⟨_, rfl⟩
  rw [hL] at hL6 hok ⊢
  simp only [hL] at hLen hAll
  clear hL
  have t0 : IntKind.u64.wrap (L.length : Int) = (L.length : Int) := by rw [IntKind.wrap_u64]; omega
  go_enter Try.func26, Try.ntmps26
  go_wp2_with fail
  refine (hLen w ht).mono ?_
  rintro e w1 ⟨rfl, hb1⟩
  have ht1 := ht.below hb1
  have ho1 := ho.below hb1
  have hB1 : B ≤ w1.heap.size := Nat.le_trans hB hb1.size
  have hp := putOne B 0 h sl [] L.length 1 w1 ho1 hB1 (by omega) (by omega) (by simp)
  have hbB1 := hb1.mono hB
  clear hLen ho hb1
  go_wp2_with fail
  refine hp.mono ?_
  rintro e w2 ⟨rfl, sl2, ho2, hb2, -, -⟩
  rw [List.nil_append] at ho2
  have ht2 : TabAt w2 g R := ht1.of_block (hb2.block _ hg)
  have hB2 : B ≤ w2.heap.size := Nat.le_trans hB1 hb2.size
  have hbB2 := hbB1.trans hb2
  clear hp ht1 ho1 hbB1 hb2 t0
  go_wp2_with fail
  refine (hAll w2 ht2).mono ?_
  rintro e w3 ⟨⟨v, rfl, hr3⟩, hb3⟩
  have ho3 := ho2.below hb3
  have hB3 : B ≤ w3.heap.size := Nat.le_trans hB2 hb3.size
  have hbB3 := hbB2.trans (hb3.mono hB2)
  obtain ⟨A, c, rfl, hlc, hcm⟩ := hr3.form
  clear hAll ht2 ho2 hb3 hbB2 ht
  obtain ⟨C, hC⟩ : ∃ C, w2.heap.size = C := ⟨_, rfl⟩
  rw [hC] at hr3
  clear hC
  go_wp2_with fail
  go_loopw [16] (fun i wr => ∃ (k : Nat) (sl' : Value), k ≤ L.length ∧ i = .int .i64 (k : Int) ∧ OutAt wr B h sl' ⟨beB L.length 1 ++ (L.take k).flatMap rowB, 500, 0⟩ ∧ OwnRows wr C 28 (.slice A L.length c) L ∧ B ≤ wr.heap.size ∧ Below B w wr) (fun i _ => L.length - (intOf i).toNat)
  case atStart => exact ⟨0, sl2, Nat.zero_le _, rfl, by simpa using ho3, hr3, hB3, hbB3⟩
  case round =>
    obtain ⟨k, sl', hk, rfl, hoR, hrR, hBR, hbR⟩ := hrel
    clear ho3 hr3 hB3 hbB3
    by_cases hlt : k < L.length
    · obtain ⟨b, o, rfl, hc0, hbl⟩ := hrR.rows.five k hlt
      have hTl : (beB L.length 1 ++ (L.take k).flatMap rowB).length = 1 + 26 * k := by rw [List.length_append, beB_len, rows_len, List.length_take]; omega
      have HT := Lib.hid (rows_succ L k hlt)
      have hrok := hok (L.getD k .zero) (getD_mem_rows hlt)
      obtain ⟨r, hr⟩ : ∃ r, L.getD k .zero = r := ⟨_, rfl⟩
      rw [hr] at hc0 HT hrok
      obtain ⟨T, hT⟩ : ∃ T, beB L.length 1 ++ (L.take k).flatMap rowB = T := ⟨_, rfl⟩
      rw [hT] at hoR hTl
      have HTT := Lib.hid hT
      obtain ⟨c0, c1, c2, c3, c4⟩ := hc0
      have h1 := hrok.cl
      have h2 := hrok.num1
      have h3 := hrok.seq1
      have h4 := hrok.code
      have h5 := hrok.ver0
      have g1 := hrok.num
      have g2 := hrok.seq
      have g3 := hrok.ver
      obtain ⟨cl, num, seq, code, ver⟩ := r
      simp only at c0 c1 c2 c3 c4 h1 h2 h3 h4 h5 g1 g2 g3
      obtain ⟨a, rfl⟩ : ∃ a : Nat, cl = a := ⟨cl.toNat, by omega⟩
      obtain ⟨nu, rfl⟩ : ∃ a : Nat, num = a := ⟨num.toNat, by omega⟩
      obtain ⟨se, rfl⟩ : ∃ a : Nat, seq = a := ⟨seq.toNat, by omega⟩
      obtain ⟨co, rfl⟩ : ∃ a : Nat, code = a := ⟨code.toNat, by omega⟩
      obtain ⟨ve, rfl⟩ : ∃ a : Nat, ver = a := ⟨ver.toNat, by omega⟩
      have HTE : Hid (T ++ beB a 1 ++ beB nu 8 ++ beB se 8 ++ beB co 1 ++ beB ve 8 = beB L.length 1 ++ (L.take (k + 1)).flatMap rowB) := Lib.hid (by
        rw [HT.out, ← HTT.out]
        simp only [rowB, Int.toNat_natCast, List.append_assoc])
      have t1 : IntKind.u64.wrap (a : Int) = (a : Int) := by rw [IntKind.wrap_u64]; omega
      have t2 : IntKind.u64.wrap (co : Int) = (co : Int) := by rw [IntKind.wrap_u64]; omega
      have T1 := Lib.hid t1
      have T2 := Lib.hid t2
      have tk : (k : Int) < (L.length : Int) := by omega
      clear hr hT hrok t1 t2
      go_wp2_with fail
      have hX : Below wr.heap.size wr (wr.alloc (.cells #[.int .i64 (a : Int), .int .u64 (nu : Int), .int .u64 (se : Int), .int .i64 (co : Int), .int .u64 (ve : Int)] 28)) := (Below.refl _ _).alloc (Nat.le_refl _) _
      have hx4 := Blk.new wr 28 #[.int .i64 (a : Int), .int .u64 (nu : Int), .int .u64 (se : Int), .int .i64 (co : Int), .int .u64 (ve : Int)]
      generalize (wr.alloc (.cells #[.int .i64 (a : Int), .int .u64 (nu : Int), .int .u64 (se : Int), .int .i64 (co : Int), .int .u64 (ve : Int)] 28)) = w4 at hX hx4 ⊢
      have ho4 := hoR.below hX
      have hr4 := hrR.below hX
      have hB4 : B ≤ w4.heap.size := Nat.le_trans hBR hX.size
      have hb4 := hbR.trans (hX.mono hBR)
      clear hX hoR hrR hbR c0 c1 c2 c3 c4
      have s1 : (T ++ beB a 1).length = T.length + 1 := by simp [beB_len]
      have s2 : (T ++ beB a 1 ++ beB nu 8).length = T.length + 9 := by simp [beB_len]
      have s3 : (T ++ beB a 1 ++ beB nu 8 ++ beB se 8).length = T.length + 17 := by simp [beB_len]
      have s4 : (T ++ beB a 1 ++ beB nu 8 ++ beB se 8 ++ beB co 1).length = T.length + 18 := by simp [beB_len]
      have S0 := Lib.hid hTl
      have S1 := Lib.hid s1
      have S2 := Lib.hid s2
      have S3 := Lib.hid s3
      have S4 := Lib.hid s4
      clear s1 s2 s3 s4 hTl
      refine (putOne B C h sl' T a 1 w4 ho4 hB4 (by omega) (by omega) (by have := S0.out; omega)).mono ?_
      rintro e w5 ⟨rfl, sl5, ho5, hb5, hx5, hr5⟩
      replace hx4 := hx5 _ _ hx4
      replace hr4 := hr5 _ _ hr4
      replace hB4 := Nat.le_trans hB4 hb5.size
      replace hb4 := hb4.trans hb5
      clear hb5 hx5 hr5 ho4
      have d0 := hx4.cell 0
      have d1 := hx4.cell 1
      have d2 := hx4.cell 2
      have d3 := hx4.cell 3
      have d4 := hx4.cell 4
      have dl := hx4.lt
      simp only [List.getElem?_toArray, List.getElem?_cons_zero, List.getElem?_cons_succ] at d0 d1 d2 d3 d4
      go_wp2_with fail
      clear d0 d1 d2 d3 d4 dl
      refine (putOne B C h sl5 (T ++ beB a 1) nu 8 w5 ho5 hB4 (by omega) (by omega) (by have := S0.out; have := S1.out; omega)).mono ?_
      rintro e w6 ⟨rfl, sl6, ho6, hb6, hx6, hr6⟩
      replace hx4 := hx6 _ _ hx4
      replace hr4 := hr6 _ _ hr4
      replace hB4 := Nat.le_trans hB4 hb6.size
      replace hb4 := hb4.trans hb6
      clear hb6 hx6 hr6 ho5
      have d0 := hx4.cell 0
      have d1 := hx4.cell 1
      have d2 := hx4.cell 2
      have d3 := hx4.cell 3
      have d4 := hx4.cell 4
      have dl := hx4.lt
      simp only [List.getElem?_toArray, List.getElem?_cons_zero, List.getElem?_cons_succ] at d0 d1 d2 d3 d4
      go_wp2_with fail
      clear d0 d1 d2 d3 d4 dl
      refine (putOne B C h sl6 (T ++ beB a 1 ++ beB nu 8) se 8 w6 ho6 hB4 (by omega) (by omega) (by have := S0.out; have := S2.out; omega)).mono ?_
      rintro e w7 ⟨rfl, sl7, ho7, hb7, hx7, hr7⟩
      replace hx4 := hx7 _ _ hx4
      replace hr4 := hr7 _ _ hr4
      replace hB4 := Nat.le_trans hB4 hb7.size
      replace hb4 := hb4.trans hb7
      clear hb7 hx7 hr7 ho6
      have t2 := T2.out
      have d0 := hx4.cell 0
      have d1 := hx4.cell 1
      have d2 := hx4.cell 2
      have d3 := hx4.cell 3
      have d4 := hx4.cell 4
      have dl := hx4.lt
      simp only [List.getElem?_toArray, List.getElem?_cons_zero, List.getElem?_cons_succ] at d0 d1 d2 d3 d4
      go_wp2_with fail
      clear d0 d1 d2 d3 d4 dl
      refine (putOne B C h sl7 (T ++ beB a 1 ++ beB nu 8 ++ beB se 8) co 1 w7 ho7 hB4 (by omega) (by omega) (by have := S0.out; have := S3.out; omega)).mono ?_
      rintro e w8 ⟨rfl, sl8, ho8, hb8, hx8, hr8⟩
      replace hx4 := hx8 _ _ hx4
      replace hr4 := hr8 _ _ hr4
      replace hB4 := Nat.le_trans hB4 hb8.size
      replace hb4 := hb4.trans hb8
      clear hb8 hx8 hr8 ho7
      have d0 := hx4.cell 0
      have d1 := hx4.cell 1
      have d2 := hx4.cell 2
      have d3 := hx4.cell 3
      have d4 := hx4.cell 4
      have dl := hx4.lt
      simp only [List.getElem?_toArray, List.getElem?_cons_zero, List.getElem?_cons_succ] at d0 d1 d2 d3 d4
      go_wp2_with fail
      clear d0 d1 d2 d3 d4 dl
      refine (putOne B C h sl8 (T ++ beB a 1 ++ beB nu 8 ++ beB se 8 ++ beB co 1) ve 8 w8 ho8 hB4 (by omega) (by omega) (by have := S0.out; have := S4.out; omega)).mono ?_
      rintro e w9 ⟨rfl, sl9, ho9, hb9, hx9, hr9⟩
      replace hx4 := hx9 _ _ hx4
      replace hr4 := hr9 _ _ hr4
      replace hB4 := Nat.le_trans hB4 hb9.size
      replace hb4 := hb4.trans hb9
      clear hb9 hx9 hr9 ho8
      rw [HTE.out] at ho9
      go_wp2_with fail
      go_roundw
      case rel => exact ⟨k + 1, sl9, by omega, by go_num, ho9, hr4, hB4, hb4⟩
      case measure => simp [intOf]; omega
    · obtain rfl : k = L.length := by omega
      rw [List.take_length] at hoR
      clear hlt
      go_wp2_with fail
      refine bodyPost_end (by simp [results, Try.results26, go_sem]) rfl ⟨rfl, ⟨sl', hoR⟩, hbR⟩
end Go.Proofs.Ytehfddafjemedaa
