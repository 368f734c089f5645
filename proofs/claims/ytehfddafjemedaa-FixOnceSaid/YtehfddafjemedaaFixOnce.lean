/- The walk of FixOnce. -/
import Derived.Test.YtehfddafjemedaaFixAwake
import Derived.Test.YtehfddafjemedaaRef01c
namespace Go.Proofs.Ytehfddafjemedaa
open Go.RowKit
set_option linter.unusedSimpArgs false
set_option linter.unusedVariables false

theorem upto_zero (D : List UInt8) (k : Int) (M : Nat) : uptoS ⟨D, 0⟩ k M = (if knownB k = false then inF ⟨D, 0⟩ 1 else if D.length < k.toNat then inF ⟨D, 0⟩ 3 else if M < beN (D.take k.toNat) then inF ⟨D.drop k.toNat, 0⟩ 4 else ⟨D.drop k.toNat, 0⟩) ∧
    uptoN ⟨D, 0⟩ k M = (if knownB k = false then 0 else if D.length < k.toNat then 0 else if M < beN (D.take k.toNat) then 0 else beN (D.take k.toNat)) := by
  unfold uptoS uptoN
  have h0 : ¬ ((⟨D, 0⟩ : IS).err ≠ 0) := by simp
  rw [if_neg h0, if_neg h0]
  by_cases hk : knownB k = false
  · rw [if_pos hk, if_pos hk, if_pos hk, if_pos hk]
    exact ⟨rfl, rfl⟩
  · rw [if_neg hk, if_neg hk, if_neg hk, if_neg hk]
    by_cases hlt : D.length < k.toNat
    · have ho : okN ⟨D, 0⟩ k.toNat = false := by unfold okN; exact decide_eq_false (by simp only; omega)
      rw [if_pos ho, if_pos ho, if_pos hlt, if_pos hlt]
      unfold nextS
      rw [if_neg h0, if_pos hlt]
      exact ⟨rfl, rfl⟩
    · have ho : okN ⟨D, 0⟩ k.toNat = true := by unfold okN; exact decide_eq_true ⟨rfl, by simp only; omega⟩
      have hb : nextB ⟨D, 0⟩ k.toNat = D.take k.toNat := by unfold nextB; rw [if_pos ho]
      have hs : nextS ⟨D, 0⟩ k.toNat = ⟨D.drop k.toNat, 0⟩ := by unfold nextS; rw [if_neg h0, if_neg hlt]
      have ho2 : ¬ okN ⟨D, 0⟩ k.toNat = false := by rw [ho]; simp
      rw [if_neg ho2, if_neg ho2, if_neg hlt, if_neg hlt, hb, hs]
      exact ⟨rfl, rfl⟩
/-- A number that is read, and put again. -/
theorem once_ok {D : List UInt8} {k : Int} (h : (uptoS ⟨D, 0⟩ k 18446744073709551615).err = 0) :
    (1 ≤ k ∧ k ≤ 8) ∧ k.toNat ≤ D.length ∧ uptoS ⟨D, 0⟩ k 18446744073709551615 = ⟨D.drop k.toNat, 0⟩ ∧ uptoN ⟨D, 0⟩ k 18446744073709551615 = beN (D.take k.toNat) ∧ beN (D.take k.toNat) < 18446744073709551616 := by
  obtain ⟨e1, e2⟩ := upto_zero D k 18446744073709551615
  rw [e1] at h
  rw [e1, e2]
  by_cases hk : knownB k = false
  · rw [if_pos hk] at h
    simp [inF] at h
  · have hk8 : 1 ≤ k ∧ k ≤ 8 := by
      rcases hkk : knownB k with _ | _
      · exact absurd hkk hk
      · exact of_decide_eq_true hkk
    rw [if_neg hk] at h
    rw [if_neg hk, if_neg hk]
    by_cases hlt : D.length < k.toNat
    · rw [if_pos hlt] at h
      simp [inF] at h
    · have h2 := beN_take_lt D k.toNat
      have hp : 256 ^ k.toNat ≤ 256 ^ 8 := Nat.pow_le_pow_right (by omega) (by omega)
      have hm : ¬ 18446744073709551615 < beN (D.take k.toNat) := by omega
      rw [if_neg hlt, if_neg hlt, if_neg hm, if_neg hm]
      exact ⟨hk8, by omega, rfl, rfl, by omega⟩
theorem once_bad {D : List UInt8} {k : Int} (h : (uptoS ⟨D, 0⟩ k 18446744073709551615).err ≠ 0) : (uptoS ⟨D, 0⟩ k 18446744073709551615).b = [] ∧ uptoN ⟨D, 0⟩ k 18446744073709551615 = 0 := by
  obtain ⟨e1, e2⟩ := upto_zero D k 18446744073709551615
  rw [e1] at h
  rw [e1, e2]
  by_cases hk : knownB k = false
  · rw [if_pos hk, if_pos hk]
    exact ⟨rfl, rfl⟩
  · rw [if_neg hk] at h
    rw [if_neg hk, if_neg hk]
    by_cases hlt : D.length < k.toNat
    · rw [if_pos hlt, if_pos hlt]
      exact ⟨rfl, rfl⟩
    · rw [if_neg hlt] at h
      rw [if_neg hlt, if_neg hlt]
      by_cases hm : 18446744073709551615 < beN (D.take k.toNat)
      · rw [if_pos hm, if_pos hm]
        exact ⟨rfl, rfl⟩
      · rw [if_neg hm] at h
        exact absurd rfl h
theorem once_put {O B : List UInt8} {k : Int} (hk : 1 ≤ k ∧ k ≤ 8) (hB : B.length = k.toNat) (hl : O.length + B.length ≤ 200) : putN ⟨O, 200, 0⟩ (beN B : Int) k = ⟨O ++ B, 200, 0⟩ := by
  have h1 : knownB k = true := by simp [knownB]; omega
  have h2 : fitsB (beN B) k.toNat = true := by
    have := beN_lt B
    rw [hB] at this
    simpa [fitsB] using this
  unfold putN
  rw [if_neg (by rw [h1]; simp), Int.toNat_natCast, if_neg (by rw [h2]; simp)]
  have h3 : beB (beN B) k.toNat = B := by rw [← hB]; exact beB_beN B
  rw [h3]
  unfold putS
  rw [if_neg (by simp), if_neg (by simp only; omega)]

/-- Whole numbers that are read. -/
def IntsAt (w : World) (A : Option Addr) (n : Nat) (l : List Int) : Prop :=
  l.length = n ∧ n ≤ 9223372036854775807 ∧ (0 < n → ∃ b o, A = some ⟨b, o, none⟩ ∧ ∀ i, i < n → w.cell? ⟨b, o + i, none⟩ = some (.int .i64 (l.getD i 0)))

/-- Where the round stands: what is left is read next, what was read is put. -/
structure ON (w wr : World) (B gi : Nat) (sl : Value) (D T : List UInt8) : Prop where
  inn : InZ wr (fun k => w.heap.size ≤ k ∧ k < B) gi ⟨D, 0⟩
  out : OutAt wr B B sl ⟨T, 200, 0⟩
  size : B ≤ wr.heap.size
  low : w.heap.size ≤ B
  below : Below w.heap.size w wr

set_option maxRecDepth 100000 in
set_option maxHeartbeats 4000000 in
theorem FixOnce_walk (A : Option Addr) (n c : Nat) (xs : List UInt8) (B : Option Addr) (m d : Nat) (l : List Int) (w : World) (ha : Rd w A n xs) (hc : n ≤ c) (hl : IntsAt w B m l) :
    Calls Try.prog 7 #[.slice A n c, .slice B m d] w fun e w' => e = .returned (.bool true) ∧ Below w.heap.size w w' := by
  have hm := hl.2.1
  have hcut := cut_any A n c 200 w (by omega) hc
  have hr0 := rd_cut (m := 200) ha
  obtain ⟨N0, hN0⟩ : ∃ z, min n 200 = z := ⟨_, rfl⟩
  obtain ⟨X0, hX0⟩ : ∃ z, xs.take 200 = z := ⟨_, rfl⟩
  rw [hN0] at hcut hr0
  rw [hX0] at hr0
  have hN2 : N0 ≤ 200 ∧ N0 ≤ c := by omega
  have hXl := Lib.hid hr0.1
  clear hN0 hX0 ha
  go_enter Try.func7, Try.ntmps7
  go_wp2_with fail
  refine hcut.mono ?_
  rintro e w0 ⟨rfl, rfl⟩
  clear hcut
  go_wp2_with fail
  refine (inOfZ_any A N0 c X0 w hr0 hN2.2 (by omega)).mono ?_
  rintro e w1 ⟨⟨gi, rfl, h1⟩, hb1⟩
  have hnew := fixNew_any 200 w1
  rw [show max (200 : Int) 0 = 200 from rfl] at hnew
  go_wp2_with fail
  refine hnew.mono ?_
  rintro e w2 ⟨rfl, h2, hb2⟩
  have hF0 : ON w w2 w1.heap.size gi (.slice none 0 0) (X0.drop 0) (X0.take 0) := ⟨h1.below hb2, h2, hb2.size, hb1.size, hb1.trans (hb2.mono hb1.size)⟩
  clear hnew h1 h2 hb1 hb2
  go_wp2_with fail
  go_loopw [7] (fun i wr => ∃ (k j : Nat) (sl : Value), k ≤ m ∧ k ≤ 60 ∧ i = .int .i64 (k : Int) ∧ j ≤ N0 ∧ ON w wr w1.heap.size gi sl (X0.drop j) (X0.take j)) (fun i _ => m - (intOf i).toNat)
  case atStart => exact ⟨0, 0, _, Nat.zero_le _, by omega, rfl, Nat.zero_le _, hF0⟩
  case round =>
    obtain ⟨k, j, sl, hk, hk60, rfl, hj, hF⟩ := hrel
    clear hF0
    have hb := hF.below
    have hgi := hF.inn.zone
    have hgn : gi ≠ w1.heap.size := by have := hgi.2; omega
    have hTl : (X0.take j).length = j := by rw [List.length_take, hXl.out]; omega
    by_cases hlt : k < m ∧ k < 60
    · obtain ⟨hl1, hl2⟩ := hlt
      obtain ⟨b, o, rfl, hcc⟩ := hl.2.2 (by omega)
      have p0 := hcc k hl1
      obtain ⟨q, hq⟩ : ∃ z, l.getD k 0 = z := ⟨_, rfl⟩
      rw [hq] at p0
      have hgl := block_lt_of_cell p0
      simp only at hgl
      have hP : ∀ W, Below w.heap.size w W → W.cell? ⟨b, o + k, none⟩ = some (.int .i64 q) := fun W hW => (hW.cell (p := ⟨b, _, none⟩) hgl).trans p0
      clear hcc p0 hq
      have hsz := hb.size
      have hbl : b < wr.heap.size := by omega
      have p1 := hP wr hb
      have hget := inGet_any _ gi ⟨X0.drop j, 0⟩ q wr hF.inn
      by_cases hS : (uptoS ⟨X0.drop j, 0⟩ q 18446744073709551615).err = 0
      · obtain ⟨hq8, hqD, e1, e2, e3⟩ := once_ok hS
        rw [e1, e2] at hget
        obtain ⟨K, hK⟩ : ∃ z, q.toNat = z := ⟨_, rfl⟩
        rw [hK] at hget e3 hqD
        rw [List.drop_drop] at hget
        have hBl : ((X0.drop j).take K).length = K := by rw [List.length_take]; omega
        have hjK : j + K ≤ N0 := by rw [List.length_drop, hXl.out] at hqD; omega
        have hput := @once_put (X0.take j) ((X0.drop j).take K) q hq8 (by rw [hBl, hK]) (by rw [hTl, hBl]; omega)
        rw [← List.take_add] at hput
        obtain ⟨V, hV⟩ : ∃ z, beN ((X0.drop j).take K) = z := ⟨_, rfl⟩
        rw [hV] at hget hput e3
        have HP := Lib.hid hput
        clear hput e1 e2 hV hBl hS hK hq8 hqD
        go_wp2_with fail
        refine hget.mono ?_
        rintro e w3 ⟨rfl, hi3, hk3⟩
        clear hget
        have hb3 := hb.trans (hk3.below hsz fun i hi => by rw [show i = gi by simpa using hi]; exact hgi.1)
        have hs3 := hk3.size
        have ho3 : OutAt w3 w1.heap.size w1.heap.size sl ⟨X0.take j, 200, 0⟩ := hF.out.keeps hk3 (fun hm => hgn (show w1.heap.size = gi by simpa using hm).symm) (fun i hi hm => by have := own_ge hF.out.own i hi; exact absurd (show i = gi by simpa using hm) (by omega))
        have hs1 := hF.size
        have hlo := hF.low
        have her := inErr_any _ gi _ w3 hi3
        have hout := outPut_any w1.heap.size w1.heap.size sl ⟨X0.take j, 200, 0⟩ V q w3 ho3 (by omega) ⟨by simp only; omega, by simp, by simp⟩ e3
        rw [HP.out] at hout
        have p3 := hP w3 hb3
        have hbl3 : b < w3.heap.size := by omega
        clear hF p1 hbl
        go_wp2_with fail
        refine her.mono ?_
        rintro e w4 ⟨rfl, rfl⟩
        clear her
        go_wp2_with fail
        refine hout.mono ?_
        rintro e w5 ⟨rfl, sl5, ho5, hk5, hf5⟩
        have hge : ∀ i ∈ (w1.heap.size :: sl.ownBlock.toList), w1.heap.size ≤ i := fun i hi => by
          rcases List.mem_cons.1 hi with rfl | hi
          · exact Nat.le_refl _
          · exact own_ge ho3.own i (by simpa using hi)
        have hb5 := hb3.trans (hk5.below (by omega) fun i hi => Nat.le_trans hlo (hge i hi))
        have hs5 := hk5.size
        have hi5 := hi3.keeps hk5 (fun i hi hz => by have := hge i hi; omega)
        clear hout hk5 hf5
        go_wp2_with fail
        exact ⟨⟨k + 1, j + K, sl5, by omega, by omega, rfl, hjK, ⟨hi5, ho5, by omega, hlo, hb5⟩⟩, by simp [intOf]; omega⟩
      · obtain ⟨e1, e2⟩ := once_bad hS
        rw [e2] at hget
        obtain ⟨S, hSS⟩ : ∃ z, uptoS ⟨X0.drop j, 0⟩ q 18446744073709551615 = z := ⟨_, rfl⟩
        rw [hSS] at hget e1 hS
        have tS : (S.err != 0) = true := by simp [hS]
        have HE := Lib.hid e1
        clear hS e1 e2 hSS
        go_wp2_with fail
        refine hget.mono ?_
        rintro e w3 ⟨rfl, hi3, hk3⟩
        clear hget
        have hb3 := hb.trans (hk3.below hsz fun i hi => by rw [show i = gi by simpa using hi]; exact hgi.1)
        have her := inErr_any _ gi _ w3 hi3
        have hle := inLeft_any _ gi _ w3 hi3
        rw [HE.out] at hle
        simp only [List.length_nil] at hle
        clear hF p1 hbl
        go_wp2_with fail
        refine her.mono ?_
        rintro e w4 ⟨rfl, rfl⟩
        clear her
        go_wp2_with fail
        refine hle.mono ?_
        rintro e w4 ⟨rfl, rfl⟩
        clear hle
        go_wp2_with fail
        refine (awake01 w3).mono ?_
        rintro e w5 ⟨rfl, hb5⟩
        have hfin := hb3.trans (hb5.mono hb3.size)
        clear hb5
        go_wp2_with fail
        go_ret
        exact ⟨rfl, hfin⟩
    · have hdn := outDone_any w1.heap.size w1.heap.size sl ⟨X0.take j, 200, 0⟩ wr hF.out (by simp only; omega)
      rw [show doneB ⟨X0.take j, 200, 0⟩ = X0.take j from if_pos rfl, hTl] at hdn
      have hle := fun W h => inLeft_any (fun k => w.heap.size ≤ k ∧ k < w1.heap.size) gi ⟨X0.drop j, 0⟩ W h
      rw [show (⟨X0.drop j, 0⟩ : IS).b.length = N0 - j by simp only [List.length_drop, hXl.out]] at hle
      have hsum : IntKind.i64.wrap ((j : Int) + ((N0 - j : Nat) : Int)) = (N0 : Int) := by rw [IntKind.wrap_i64]; omega
      have hsz := hb.size
      have hjc : j ≤ c := by omega
      have hin := hF.inn
      clear hTl hF hgi hgn
      rcases (by omega : k = m ∨ (k < m ∧ k = 60)) with rfl | ⟨hq1, rfl⟩
      iterate 2
        · go_wp2_with fail
          refine hdn.mono ?_
          rintro e w3 ⟨⟨A3, c3, rfl, ho3⟩, hb3⟩
          have hB3 := hb.trans (hb3.mono hsz)
          have hi3 := hin.below hb3
          have hr3 := Rd.of_own ho3
          obtain ⟨_, _, hv3, hlc3, _⟩ := own_form ho3
          have hc3 : j ≤ c3 := by injection hv3; omega
          have hr4 := (hr0.take hj).below_ hB3
          have hSame := Same_any A3 A j j c3 c (X0.take j) (X0.take j) w3 hr3 hr4
          have hle' := hle w3 hi3
          clear hdn hb3 ho3 hv3 hlc3 hle hi3
          go_wp2_with fail
          refine hle'.mono ?_
          rintro e w4 ⟨rfl, rfl⟩
          clear hle'
          go_wp2_with fail
          refine hSame.mono ?_
          rintro e w5 ⟨he5, hd5⟩
          obtain rfl : e = .returned (.bool true) := by rw [he5]; simp
          have hB5 := hB3.trans (hd5.below _)
          clear he5 hSame hd5
          go_wp2_with fail
          refine (awake01 w5).mono ?_
          rintro e w6 ⟨rfl, hb6⟩
          have hfin := hB5.trans (hb6.mono hB5.size)
          clear hb6
          go_wp2_with fail
          go_ret
          exact ⟨rfl, hfin⟩
end Go.Proofs.Ytehfddafjemedaa
