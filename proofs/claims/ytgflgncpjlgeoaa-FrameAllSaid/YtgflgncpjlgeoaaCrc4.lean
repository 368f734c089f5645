/- Contracts: slices.Equal; the table's Of, behind, Seal, Fits. -/
import Derived.Test.YtgflgncpjlgeoaaCrc3
import Derived.Test.YtgflgncpjlgeoaaConcat
namespace Go.Proofs.Ytgflgncpjlgeoaa
open Go.RowKit
set_option linter.unusedSimpArgs false
set_option linter.unusedVariables false

set_option maxHeartbeats 1000000 in
theorem slicesEqual_any (A B : Option Addr) (n m c d : Nat) (xs ys : List UInt8) (w : World) (ha : Rd w A n xs) (hb : Rd w B m ys) :
    Calls Try.prog 62 #[.slice A n c, .slice B m d] w fun e w' => e = .returned (.bool (decide (xs = ys))) ∧ Drawn w w' := by
  by_cases hnm : n = m
  · subst hnm
    have hn := ha.2.1
    go_enter Try.func62, Try.ntmps62
    go_wp2
    go_loopw [13] (fun i wr => ∃ k : Nat, k ≤ n ∧ i = .int .i64 k ∧ Hid (xs.take k = ys.take k) ∧ Drawn w wr) (fun i _ => n - (intOf i).toNat)
    case atStart => exact ⟨0, Nat.zero_le _, rfl, Lib.hid rfl, Drawn.refl _⟩
    case round =>
      obtain ⟨k, hk, rfl, Ht, hdr⟩ := hrel
      by_cases hlt : k < n
      · obtain ⟨ab, ao, rfl, hca⟩ := (ha.drawn hdr).at_ k hlt
        obtain ⟨bb, bo, rfl, hcb⟩ := (hb.drawn hdr).at_ k hlt
        go_wp2
        go_quiet (fail)
        go_wp2
        · go_ret
          refine ⟨ret_bool (decide_eq_false ?_).symm, hdr.drewN _⟩
          rintro rfl
          have hne : ((xs[k]?.getD 0).toNat : Int) != ((xs[k]?.getD 0).toNat : Int) := by assumption
          simp at hne
        · go_roundw
          case rel =>
            have he : (((xs[k]?.getD 0).toNat : Int) != ((ys[k]?.getD 0).toNat : Int)) = false := by assumption
            have he2 : xs[k]?.getD 0 = ys[k]?.getD 0 := by
              simp only [bne_eq_false_iff_eq] at he
              exact UInt8.toNat_inj.1 (by omega)
            refine ⟨k + 1, by omega, by go_num, Lib.hid ?_, hdr.drewN _⟩
            rw [take_succ_getD xs k 0 (by rw [ha.1]; omega), take_succ_getD ys k 0 (by rw [hb.1]; omega), Ht.out, List.getD_eq_getElem?_getD, List.getD_eq_getElem?_getD, he2]
          case measure => simp [intOf]; omega
      · go_wp2
        go_ret
        obtain rfl : k = n := by omega
        have h1 := Ht.out
        rw [List.take_of_length_le (by rw [ha.1]; omega), List.take_of_length_le (by rw [hb.1]; omega)] at h1
        exact ⟨ret_bool (by simp [h1]), hdr⟩
  · have hne : ((n : Int) != (m : Int)) = true := by rw [bne_iff_ne]; omega
    go_enter Try.func62, Try.ntmps62
    go_wp2
    go_ret
    refine ⟨ret_bool (decide_eq_false ?_).symm, Drawn.refl _⟩
    rintro rfl
    exact hnm (ha.1.symm.trans hb.1)

/-- Parts that lie somewhere. -/
structure PartsAt (w : World) (A : Option Addr) (n : Nat) (l : List PC) : Prop where
  len : l.length = n
  n63 : n ≤ 9223372036854775807
  cells : 0 < n → ∃ b o, A = some ⟨b, o, none⟩ ∧ ∀ k, k < n → w.cell? ⟨b, o + k, none⟩ = some (l.getD k noPC).val
  rd : ∀ x ∈ l, Rd w x.A x.bs.length x.bs ∧ x.bs.length ≤ x.c
/-- They lie outside of a block. -/
structure PartsOff (g : Nat) (A : Option Addr) (n : Nat) (l : List PC) : Prop where
  row : 0 < n → ∀ ad, A = some ad → ad.block ≠ g
  parts : ∀ x ∈ l, 0 < x.bs.length → ∀ ad, x.A = some ad → ad.block ≠ g
theorem PartsAt.keeps {w w' : World} {A : Option Addr} {n g : Nat} {l : List PC} (h : PartsAt w A n l) (hk : Keeps [g] w w') (ho : PartsOff g A n l) : PartsAt w' A n l :=
  ⟨h.len, h.n63, fun h0 => by
    obtain ⟨b, o, e, hc⟩ := h.cells h0
    exact ⟨b, o, e, fun k hk' => (hk.cell (p := ⟨b, o + k, none⟩) (block_lt_of_cell (hc k hk')) (by have := ho.row h0 _ e; simpa using this)).trans (hc k hk')⟩,
   fun x hx => ⟨(h.rd x hx).1.keeps hk fun h0 ad e hm => ho.parts x hx h0 ad e (by simpa using hm), (h.rd x hx).2⟩⟩

set_option maxRecDepth 100000 in
set_option maxHeartbeats 2000000 in
theorem of_any (g : Nat) (b : Bool) (A : Option Addr) (n c : Nat) (l : List PC) (w : World) (h : TB w g b) (hp : PartsAt w A n l) (ho : PartsOff g A n l) :
    Calls Try.prog 65 #[.pointer (some ⟨g, 0, none⟩), .slice A n c] w fun e w' => e = .returned (.int .u32 ((crcOf (cat l) : Nat) : Int)) ∧ TB w' g true ∧ Keeps [g] w w' := by
  have hn := hp.n63
  have HL := Lib.hid hp.len
  go_enter Try.func65, Try.ntmps65
  go_wp2_with fail
  refine (ready_any g b w h).mono ?_
  rintro e w1 ⟨rfl, h1, hk1⟩
  clear h
  go_wp2_with fail
  go_loopw [5, 14] (fun v i wr => ∃ k : Nat, k ≤ n ∧ i = .int .i64 (k : Int) ∧ v = .int .u32 ((crcOf (cat (l.take k)) : Nat) : Int) ∧ TB wr g true ∧ Keeps [g] w wr) (fun _ i _ => n - (intOf i).toNat)
  case atStart => exact ⟨0, Nat.zero_le _, rfl, by rw [show crcOf (cat (l.take 0)) = 0 from crcOf_nil]; rfl, h1, hk1⟩
  case round =>
    obtain ⟨k, hk, rfl, rfl, hT, hK⟩ := hrel
    clear h1 hk1
    have hlo := crcOf_lt (cat (l.take k))
    by_cases hlt : k < n
    · have hp2 := hp.keeps hK ho
      obtain ⟨bb, o, rfl, hc⟩ := hp2.cells (by omega)
      have ck := hc k hlt
      have hkl : k < l.length := by rw [HL.out]; exact hlt
      have hmem := pc_mem hkl
      obtain ⟨hr, hrc⟩ := hp2.rd _ hmem
      have hoff := ho.parts _ hmem
      have hcat : cat (l.take (k + 1)) = cat (l.take k) ++ (l.getD k noPC).bs := cat_take_succ l k hkl
      obtain ⟨x, hx⟩ : ∃ x, l.getD k noPC = x := ⟨_, rfl⟩
      rw [hx] at ck hr hrc hoff hcat
      have hbl := block_lt_of_cell ck
      simp only at hbl
      have hm := crcMore_of (cat (l.take k)) x.bs
      rw [← hcat] at hm
      obtain ⟨m, hmm⟩ : ∃ m, crcOf (cat (l.take k)) = m := ⟨_, rfl⟩
      rw [hmm] at hm hlo ⊢
      have HM := Lib.hid hm
      obtain ⟨xA, xc, xb⟩ := x
      simp only [PC.val] at ck hr hrc hoff HM
      obtain ⟨xn, hxn⟩ : ∃ z, xb.length = z := ⟨_, rfl⟩
      rw [hxn] at ck hr hrc hoff
      clear hx hcat hmem hm hmm hc hxn
      go_wp2_with fail
      refine (more_any g true m hlo xA xn xc xb wr hT hr hoff).mono ?_
      rintro e w2 ⟨rfl, h2, hk2⟩
      go_wp2_with fail
      exact ⟨⟨k + 1, by omega, rfl, by rw [HM.out], h2, hK.trans hk2 fun i hi => .inl hi⟩, by simp [intOf]; omega⟩
    · obtain rfl : k = n := by omega
      have e := List.take_of_length_le (l := l) (i := k) (by rw [HL.out]; omega)
      rw [e]
      clear hlt e
      go_wp2_with fail
      go_ret
      exact ⟨rfl, hT, hK⟩

theorem leB_at (v j : Nat) (h : j < 4) : (leB v).getD j 0 = UInt8.ofNat (v / 256 ^ j) := by
  have : j = 0 ∨ j = 1 ∨ j = 2 ∨ j = 3 := by omega
  rcases this with rfl | rfl | rfl | rfl <;> simp [leB]
theorem leB_set (v j : Nat) (h : j < 4) : ((leB v).take j ++ List.replicate (4 - j) (0 : UInt8)).set j (UInt8.ofNat (v / 256 ^ j)) = (leB v).take (j + 1) ++ List.replicate (4 - (j + 1)) 0 := by
  have : j = 0 ∨ j = 1 ∨ j = 2 ∨ j = 3 := by omega
  rcases this with rfl | rfl | rfl | rfl <;> simp [leB, List.replicate]
theorem leB_len (v : Nat) : (leB v).length = 4 := rfl

set_option maxRecDepth 100000 in
set_option maxHeartbeats 2000000 in
theorem behind_any (g : Nat) (b : Bool) (A : Option Addr) (n c : Nat) (xs : List UInt8) (w : World) (h : TB w g b) (ha : Rd w A n xs) (hc : n ≤ c) (hga : 0 < n → ∀ ad, A = some ad → ad.block ≠ g) :
    Calls Try.prog 57 #[.pointer (some ⟨g, 0, none⟩), .slice A n c] w fun e w' =>
      (∃ A' c', e = .returned (.slice A' 4 c') ∧ w'.ownsRow w.heap.size 5 1 (.slice A' 4 c') 4 ((leB (crcOf xs)).map bv)) ∧ TB w' g true ∧ Keeps [g] w w' := by
  obtain ⟨i0, hi0, hz0, hz1, hz2⟩ := info_parts info_u8
  have HX := Lib.hid ha.1
  have hgw := h.lt
  have hlo := crcOf_lt xs
  obtain ⟨V, hV⟩ : ∃ z, crcOf xs = z := ⟨_, rfl⟩
  rw [hV] at hlo ⊢
  have hX : Below w.heap.size w (w.alloc (.cells #[.slice A n c] 23)) := (Below.refl _ _).alloc (Nat.le_refl _) _
  have hx := Blk.new w 23 #[.slice A n c]
  go_enter Try.func57, Try.ntmps57
  go_wp2_with fail
  generalize (w.alloc (.cells #[.slice A n c] 23)) = w1 at hX hx ⊢
  have hP : PartsAt w1 (some ⟨w.heap.size, 0, none⟩) 1 [⟨A, c, xs⟩] := ⟨rfl, by omega, fun _ => ⟨_, 0, rfl, fun k hk => by
    have : k = 0 := by omega
    subst this
    rw [hx.cell]
    simp [PC.val, HX.out]⟩, fun x hx' => by
      obtain rfl : x = ⟨A, c, xs⟩ := by simpa using hx'
      simp only [HX.out]
      exact ⟨ha.below_ hX, hc⟩⟩
  have hO : PartsOff g (some ⟨w.heap.size, 0, none⟩) 1 [⟨A, c, xs⟩] := ⟨fun _ ad e => by injection e with e; subst e; simp; omega, fun x hx' h0 ad e => by
      obtain rfl : x = ⟨A, c, xs⟩ := by simpa using hx'
      simp only [HX.out] at h0
      exact hga h0 ad e⟩
  have hof := of_any g b _ 1 1 _ w1 (h.below hX) hP hO
  rw [show cat [⟨A, c, xs⟩] = xs by simp [cat], hV] at hof
  clear hP hO hx hV h
  refine hof.mono ?_
  rintro e w2 ⟨rfl, h2, hk2⟩
  have hK2 : Keeps [g] w w2 := (Keeps.of_below hX [g]).trans hk2 fun i hi => .inl hi
  have hs2 := hK2.size
  clear hof hk2 hX
  go_wp2_with (refine wpList_make_full _ rfl _ _ _ rfl w.heap.size 5 i0 _ 1 Try.underlying23 hi0 hz0 hz1 .i64 .i64 _ _ 4 rfl rfl rfl rfl ?b2 ?b3 ?b4 ?hK)
  case b2 => rw [hz2]; omega
  case b3 => unfold maxLen; omega
  case b4 => omega
  case hK =>
    intro w3 ho3 hg3
    have hk3 := (Keeps.of_grown hg3).nil_below
    have hT3 := h2.below hk3
    have hK3 : Keeps [g] w w3 := hK2.trans (Keeps.of_below hk3 []) (fun i hi => by cases hi)
    have hz' : (madeCells #[Value.int .u8 0] 4).toList = ((leB V).take 0 ++ List.replicate (4 - 0) (0 : UInt8)).map bv := by
      rw [toList_madeCells_one, Nat.sub_zero]; simp [bv]
    rw [hz'] at ho3
    clear hz' hg3 hk3 h2 hK2
    go_wp2_with fail
    go_loopw [15] (fun i wr => ∃ j : Nat, j ≤ 4 ∧ i = .int .i64 (j : Int) ∧ wr.ownsRow w.heap.size 5 1 (.slice (some ⟨w2.heap.size, 0, none⟩) 4 4) 4 (((leB V).take j ++ List.replicate (4 - j) (0 : UInt8)).map bv) ∧ TB wr g true ∧ Keeps [g] w wr) (fun i _ => 4 - (intOf i).toNat)
    case atStart => exact ⟨0, Nat.zero_le _, rfl, ho3, hT3, hK3⟩
    case round =>
      obtain ⟨j, hj, rfl, ho, hT, hK⟩ := hrel
      clear ho3 hT3 hK3
      by_cases hlt : j < 4
      · have hst := ho.stored j (bv (UInt8.ofNat (V / 256 ^ j)))
        have m0 := ho.cellAt j (by omega)
        have fz := ho.frozenAt j
        have hgl : w2.heap.size < wr.heap.size := own_lt ho _ rfl
        have hne : w2.heap.size ≠ g := by omega
        have e0 : (((leB V).take j ++ List.replicate (4 - j) (0 : UInt8)).map bv)[j]? = some (.int .u8 0) := by
          rw [List.getElem?_map, List.getElem?_append_right (by rw [List.length_take, leB_len]; omega), List.length_take, leB_len, show j - min j 4 = 0 by omega]
          rw [List.getElem?_replicate, if_pos (by omega)]
          rfl
        rw [e0] at m0
        have w3' : IntKind.i64.wrap (8 * (j : Int)) = 8 * (j : Int) := by rw [IntKind.wrap_i64]; omega
        have hbyte : Hid (((V : Int) / 2 ^ (8 * j)) % 256 = ((UInt8.ofNat (V / 256 ^ j)).toNat : Int)) := Lib.hid (by
          have e2 := two_pow j
          rw [e2, ← Int.natCast_ediv, UInt8.toNat_ofNat']
          omega)
        have hset := leB_set V j hlt
        have HSET := Lib.hid hset
        have HST := Lib.hid hst
        clear hset hst e0
        go_wp2_with fail
        rw [hbyte.out]
        refine ⟨⟨j + 1, by omega, rfl, ?_, hT.keeps ((Keeps.refl [w2.heap.size] wr).setCell (p := ⟨w2.heap.size, j, none⟩) (.inl (by simp)) _) (by simpa using fun e => hne e.symm), hK.setCell (p := ⟨w2.heap.size, j, none⟩) (.inr hs2) _⟩, by simp [intOf]; omega⟩
        have h1 := HST.out.1
        rw [← List.map_set, HSET.out] at h1
        exact h1
      · obtain rfl : j = 4 := by omega
        clear hlt
        rw [Nat.sub_self, List.replicate_zero, List.append_nil, List.take_of_length_le (by rw [leB_len]; omega)] at ho
        go_wp2_with fail
        go_ret
        exact ⟨⟨_, _, rfl, ho⟩, hT, hK⟩

/-- One part, in a row of its own. -/
theorem one_part {w w1 : World} {g : Nat} {A : Option Addr} {n c : Nat} {xs : List UInt8} (ha : Rd w A n xs) (hc : n ≤ c) (hX : Below w.heap.size w w1) (hx : Blk w1 w.heap.size 23 #[.slice A n c]) (hg : g < w.heap.size) (hga : 0 < n → ∀ ad, A = some ad → ad.block ≠ g) :
    PartsAt w1 (some ⟨w.heap.size, 0, none⟩) 1 [⟨A, c, xs⟩] ∧ PartsOff g (some ⟨w.heap.size, 0, none⟩) 1 [⟨A, c, xs⟩] := by
  have HX := ha.1
  refine ⟨⟨rfl, by omega, fun _ => ⟨_, 0, rfl, fun k hk => ?_⟩, fun x hx' => ?_⟩, ⟨fun _ ad e => by injection e with e; subst e; simp; omega, fun x hx' h0 ad e => ?_⟩⟩
  · have : k = 0 := by omega
    subst this
    rw [hx.cell]
    simp [PC.val, HX]
  · obtain rfl : x = ⟨A, c, xs⟩ := by simpa using hx'
    simp only [HX]
    exact ⟨ha.below_ hX, hc⟩
  · obtain rfl : x = ⟨A, c, xs⟩ := by simpa using hx'
    simp only [HX] at h0
    exact hga h0 ad e
theorem cat_one (A : Option Addr) (c : Nat) (xs : List UInt8) : cat [⟨A, c, xs⟩] = xs := by simp [cat]
end Go.Proofs.Ytgflgncpjlgeoaa
