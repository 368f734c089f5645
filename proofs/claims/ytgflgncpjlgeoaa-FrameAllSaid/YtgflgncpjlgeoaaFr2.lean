/- Contracts of package frame: New, Put, Cut, Get; the law's awake (layer 3). -/
import Derived.Test.YtgflgncpjlgeoaaFr1
import Derived.Test.YtgflgncpjlgeoaaReg
namespace Go.Proofs.Ytgflgncpjlgeoaa
open Go.RowKit
set_option linter.unusedSimpArgs false
set_option linter.unusedVariables false

set_option maxHeartbeats 1000000 in
theorem frameNew_any (gt : Nat) (st : Bool) (w : World) (h : TB w gt st) : Calls Try.prog 11 #[.pointer (some ⟨gt, 0, none⟩)] w fun e w' => e = .returned (.pointer (some ⟨w.heap.size, 0, none⟩)) ∧ CD w' w.heap.size gt st 0 0 ∧ Below w.heap.size w w' := by
  have hgt := h.lt
  have hX : Below w.heap.size w (w.alloc (.cells #[.pointer (some ⟨gt, 0, none⟩), .int .u64 0, .int .u64 0] 74)) := (Below.refl _ _).alloc (Nat.le_refl _) _
  have hx := Blk.new w 74 #[.pointer (some ⟨gt, 0, none⟩), .int .u64 0, .int .u64 0]
  go_enter Try.func11, Try.ntmps11
  go_wp2_with fail
  go_ret
  exact ⟨rfl, ⟨hx, h.below hX, by omega⟩, hX⟩
set_option maxHeartbeats 1000000 in
theorem frameNew_nil (w : World) : Calls Try.prog 11 #[.pointer none] w fun e w' => (∃ gc, e = .returned (.pointer (some ⟨gc, 0, none⟩)) ∧ CD w' gc w.heap.size false 0 0 ∧ w.heap.size ≤ gc) ∧ Below w.heap.size w w' := by
  go_enter Try.func11, Try.ntmps11
  go_wp2_with fail
  refine (crcNew_any w).mono ?_
  rintro e w1 ⟨rfl, h1, hb1⟩
  have hgt := h1.lt
  have hX : Below w1.heap.size w1 (w1.alloc (.cells #[.pointer (some ⟨w.heap.size, 0, none⟩), .int .u64 0, .int .u64 0] 74)) := (Below.refl _ _).alloc (Nat.le_refl _) _
  have hx := Blk.new w1 74 #[.pointer (some ⟨w.heap.size, 0, none⟩), .int .u64 0, .int .u64 0]
  go_wp2_with fail
  go_ret
  exact ⟨⟨_, rfl, ⟨hx, h1.below hX, by omega⟩, hb1.size⟩, hb1.trans (hX.mono hb1.size)⟩

/-- Bytes that are told in new memory, and an error. -/
def PutTold3 (B : Nat) (bs : List UInt8) (er : Int) (e : Ending) (w' : World) : Prop := ∃ A c, e = .returned (.tuple #[.slice A bs.length c, .int .i64 er]) ∧ w'.ownsRow B 5 1 (.slice A bs.length c) bs.length (bs.map bv)
theorem putTold3_none (w : World) (B : Nat) (er : Int) : PutTold3 B [] er (.returned (.tuple #[.slice none 0 0, .int .i64 er])) w := ⟨none, 0, rfl, World.ownsRow_nil _ _ _ _⟩

theorem putN_kind (k : UInt8) (m : Nat) : putN ⟨[], 3 + (m : Int), 0⟩ ((k.toNat : Nat) : Int) 1 = ⟨[k], 3 + (m : Int), 0⟩ := by
  have h1 : knownB 1 = true := by decide
  have hk := k.toNat_lt
  have h2 : fitsB k.toNat 1 = true := by simp [fitsB]; omega
  unfold putN
  rw [if_neg (by rw [h1]; simp), Int.toNat_natCast, show (1 : Int).toNat = 1 from rfl, if_neg (by rw [h2]; simp)]
  have h3 : beB k.toNat 1 = [k] := by
    simp [beB]
  rw [h3]
  unfold putS
  rw [if_neg (by simp), if_neg (by simp only [List.length_nil, List.length_cons]; omega)]
  rfl
theorem textS_body (k : UInt8) (body : List UInt8) (h : body.length ≤ 16384) : textS ⟨[k], 3 + (body.length : Int), 0⟩ body = ⟨[k] ++ (beB body.length 2 ++ body), 3 + (body.length : Int), 0⟩ := by
  unfold textS
  rw [if_neg (by omega)]
  unfold putS
  rw [if_neg (by simp), if_neg (by simp only [List.length_append, beB_len, List.length_cons, List.length_nil]; omega)]

set_option maxRecDepth 100000 in
set_option maxHeartbeats 4000000 in
theorem framePut_any (gc gt G Bd : Nat) (st : Bool) (k : UInt8) (A : Option Addr) (m c : Nat) (body : List UInt8) (w : World) (h : CD w gc gt st G Bd) (ha : Rd w A m body) (hc : m ≤ c) (hm : m ≤ 1000000) :
    Calls Try.prog 16 #[.pointer (some ⟨gc, 0, none⟩), .agg #[.int .u8 (k.toNat : Int), .slice A m c]] w fun e w' => PutTold3 w.heap.size (putF k body) (putE k body) e w' ∧ CDs w' gc gt G Bd ∧ Keeps [gt] w w' := by
  have HX := Lib.hid ha.1
  have hgc := h.blk.lt
  have hgt := h.tab.lt
  have hX : Below w.heap.size w (w.alloc (.cells #[.int .u8 (k.toNat : Int), .slice A m c] 39)) := (Below.refl _ _).alloc (Nat.le_refl _) _
  have hx := Blk.new w 39 #[.int .u8 (k.toNat : Int), .slice A m c]
  have h1 := h.below hX
  have hsX := hX.size
  by_cases k0 : k = 0
  · have HE : Hid (putE k body = 4) := Lib.hid (by unfold putE; rw [if_pos k0])
    have HF : Hid (putF k body = []) := Lib.hid (by unfold putF; rw [HE.out]; rfl)
    have tk : ((k.toNat : Int) == 0) = true := by rw [k0]; rfl
    clear k0
    go_enter Try.func16, Try.ntmps16
    go_wp2_with fail
    refine bodyPost_ret (v := .tuple #[.slice none 0 0, .int .i64 4]) (by simp [results, Try.results16, go_sem]) rfl ⟨?_, ⟨_, h1⟩, Keeps.of_below hX _⟩
    rw [HE.out, HF.out]
    exact putTold3_none _ _ _
  · have tk : ((k.toNat : Int) == 0) = false := by
      simp
      intro h0
      exact k0 (UInt8.toNat_inj.1 h0)
    by_cases hlong : 16384 < m
    · have HE : Hid (putE k body = 6) := Lib.hid (by unfold putE; rw [if_neg k0, if_pos (by rw [HX.out]; exact hlong)])
      have HF : Hid (putF k body = []) := Lib.hid (by unfold putF; rw [HE.out]; rfl)
      have tl : (16384 : Int) < (m : Int) := by omega
      clear k0 hlong
      go_enter Try.func16, Try.ntmps16
      go_wp2_with fail
      refine bodyPost_ret (v := .tuple #[.slice none 0 0, .int .i64 6]) (by simp [results, Try.results16, go_sem]) rfl ⟨?_, ⟨_, h1⟩, Keeps.of_below hX _⟩
      rw [HE.out, HF.out]
      exact putTold3_none _ _ _
    · have he : putE k body = 0 := by unfold putE; rw [if_neg k0, if_neg (by rw [HX.out]; exact hlong)]
      have HE := Lib.hid he
      have hpl := put_len he
      have hF : putF k body = sealB ([k] ++ (beB body.length 2 ++ body)) := by unfold putF; rw [if_pos he, List.append_assoc]
      have tl : ¬ (16384 : Int) < (m : Int) := by omega
      have hk8 := k.toNat_lt
      have hw1 : IntKind.i64.wrap (3 + (m : Int)) = 3 + (m : Int) := by rw [IntKind.wrap_i64]; omega
      have hw2 : (k.toNat : Int) % 18446744073709551616 = (k.toNat : Int) := by omega
      have hp1 := putN_kind k m
      have hp2 := textS_body k body (by rw [HX.out]; omega)
      rw [HX.out] at hp2 hF hpl
      have hml : ([k] ++ (beB m 2 ++ body)).length = m + 3 := by simp [beB_len, HX.out]; exact Nat.add_comm _ _
      have hs1 : (⟨[], 3 + (m : Int), 0⟩ : OutS).small := ⟨by simp, by simp only; omega, by simp only; omega⟩
      have hs2 : (⟨[k], 3 + (m : Int), 0⟩ : OutS).small := ⟨by simp, by simp only; omega, by simp only; omega⟩
      obtain ⟨M, hM⟩ : ∃ z, [k] ++ (beB m 2 ++ body) = z := ⟨_, rfl⟩
      rw [hM] at hp2 hF hml
      have hnew := fun W => fixNew_any (3 + (m : Int)) W
      rw [show max (3 + (m : Int)) 0 = 3 + (m : Int) by omega] at hnew
      have hM6 : m + 3 ≤ 1000000 := by omega
      have ha1 := ha.below_ hX
      have hmb : m ≤ 9000000 := by omega
      clear k0 hlong he hM hw1
      have hw1 : IntKind.i64.wrap (3 + (m : Int)) = 3 + (m : Int) := by rw [IntKind.wrap_i64]; omega
      go_enter Try.func16, Try.ntmps16
      go_wp2_with fail
      clear hw1
      generalize (w.alloc (.cells #[.int .u8 (k.toNat : Int), .slice A m c] 39)) = w1 at hX hx h1 hsX ha1 ⊢
      have hxl := hx.lt
      refine (hnew w1).mono ?_
      rintro e w2 ⟨rfl, ho2, hb2⟩
      have h2 := h1.below hb2
      have hx2 := hx.below hb2 hx.lt
      have ha2 := ha1.below_ hb2
      have hs12 := hb2.size
      have hB2 := hX.trans (hb2.mono hX.size)
      have x0 := hx2.cell 0
      have x1 := hx2.cell 1
      have xl := hx2.lt
      simp only [List.getElem?_toArray, List.getElem?_cons_zero, List.getElem?_cons_succ] at x0 x1
      clear hnew hb2 h1 hx ha1 hX
      go_wp2_with fail
      refine (outPut_any w1.heap.size w1.heap.size _ _ k.toNat 1 w2 ho2 hs12 hs1 (by omega)).mono ?_
      rw [hp1]
      rintro e w3 ⟨rfl, sl3, ho3, hk3, hf3⟩
      have hne3 : ∀ i ∈ (w1.heap.size :: (Value.slice none 0 0).ownBlock.toList), w1.heap.size ≤ i := fun i hi => by
        rcases List.mem_cons.1 hi with rfl | hi
        · exact Nat.le_refl _
        · simp [Value.ownBlock] at hi
      have hBk3 : Below w1.heap.size w2 w3 := hk3.below hs12 hne3
      have h3 : CD w3 gc gt st G Bd := h2.keeps hk3 (fun hm => by have := hne3 _ hm; omega) (fun hm => by have := hne3 _ hm; omega)
      have hx3 := hx2.keeps hk3 (fun hm => by have := hne3 _ hm; omega)
      have ha3 : Rd w3 A m body := ha2.keeps hk3 (fun h0 ad e hm => by have := hne3 _ hm; have := ha.lt h0 ad e; omega)
      have hB3 : Below w.heap.size w w3 := hB2.trans (hBk3.mono hsX)
      have hs3 := hk3.size
      clear h2 hx2 ha2 hk3 hBk3 ho2 hf3 x0 x1 xl
      have x0 := hx3.cell 0
      have x1 := hx3.cell 1
      have xl := hx3.lt
      simp only [List.getElem?_toArray, List.getElem?_cons_zero, List.getElem?_cons_succ] at x0 x1
      go_wp2_with fail
      refine (outText_any w1.heap.size w1.heap.size sl3 _ A m c body w3 ho3 (by omega) hs2 ha3 hc hmb).mono ?_
      rw [hp2]
      rintro e w4 ⟨rfl, sl4, ho4, hk4, hf4⟩
      have hne4 : ∀ i ∈ (w1.heap.size :: sl3.ownBlock.toList), w1.heap.size ≤ i := fun i hi => by
        rcases List.mem_cons.1 hi with rfl | hi
        · exact Nat.le_refl _
        · exact own_ge ho3.own i (by simpa using hi)
      have h4 : CD w4 gc gt st G Bd := h3.keeps hk4 (fun hm => by have := hne4 _ hm; omega) (fun hm => by have := hne4 _ hm; omega)
      have hB4 : Below w.heap.size w w4 := hB3.trans (hk4.below hB3.size fun i hi => Nat.le_trans hsX (hne4 i hi))
      clear h3 hx3 ha3 hk4 ho3 hf4 x0 x1 xl hB3 hne4 hne3
      go_wp2_with fail
      have hdn := outDone_any w1.heap.size w1.heap.size sl4 _ w4 ho4 (by simp only [hml]; exact hM6)
      rw [show doneB ⟨M, 3 + (m : Int), 0⟩ = M from if_pos rfl, hml] at hdn
      refine hdn.mono ?_
      rintro e w5 ⟨⟨A5, c5, rfl, ho5⟩, hb5⟩
      have h5 := h4.below hb5
      have hB5 := hB4.trans (hb5.mono hB4.size)
      obtain ⟨_, _, hv5, hlc5, _⟩ := own_form ho5
      have hc5 : m + 3 ≤ c5 := by injection hv5; omega
      have hge5 := own_ge ho5
      have hr5 := Rd.of_own ho5
      have q0 := h5.blk.cell 0
      have ql := h5.blk.lt
      simp only [List.getElem?_toArray, List.getElem?_cons_zero] at q0
      have hs4 := hB4.size
      clear hdn ho4 h4 hb5 ho5 hv5 hlc5 hB4
      go_wp2_with fail
      have hga5 : 0 < m + 3 → ∀ ad, A5 = some ad → ad.block ≠ gt := fun _ ad e => by
        have := hge5 ad.block (by rw [e]; rfl)
        omega
      refine (seal_any gt st A5 (m + 3) c5 M w5 h5.tab hr5 hc5 hM6 hga5).mono ?_
      rintro e w6 ⟨⟨A6, c6, rfl, ho6⟩, h6, hk6⟩
      have hcd : CD w6 gc gt true G Bd := ⟨h5.blk.keeps hk6 (by simpa using h5.ne), h6, h5.ne⟩
      have hK6 : Keeps [gt] w w6 := (Keeps.of_below hB5 [gt]).trans hk6 (fun i hi => .inl hi)
      have hs5 := hB5.size
      clear q0 ql
      go_wp2_with fail
      refine bodyPost_ret (v := .tuple #[.slice A6 (m + 3 + 4) c6, .int .i64 0]) (by simp [results, Try.results16, go_sem]) rfl ⟨?_, ⟨_, hcd⟩, hK6⟩
      rw [HE.out]
      have hl7 : (putF k body).length = m + 3 + 4 := by omega
      unfold PutTold3
      rw [hl7, hF]
      exact ⟨A6, c6, rfl, own_rebase ho6 fun i hi => Nat.le_trans hs5 (own_ge ho6 i hi)⟩
end Go.Proofs.Ytgflgncpjlgeoaa
