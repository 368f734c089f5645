/- Contracts of no table; the walk of CrcOnce. -/
import Derived.Test.YtihokijndmigoaaCrcSums
import Derived.Test.YtihokijndmigoaaCrc5
namespace Go.Proofs.Ytihokijndmigoaa
open Go.RowKit
set_option linter.unusedSimpArgs false
set_option linter.unusedVariables false

/-- Whole numbers that are read. -/
def IntsAt (w : World) (A : Option Addr) (n : Nat) (l : List Int) : Prop :=
  l.length = n ∧ n ≤ 9223372036854775807 ∧ (0 < n → ∃ b o, A = some ⟨b, o, none⟩ ∧ ∀ i, i < n → w.cell? ⟨b, o + i, none⟩ = some (.int .i64 (l.getD i 0)))

theorem more_none (s : Int) (v : Value) (w : World) : Calls Try.prog 10 #[.pointer none, .int .u32 s, v] w fun e w' => e = .returned (.int .u32 0) ∧ w = w' := by
  go_enter Try.func10, Try.ntmps10
  go_wp2_with fail
  go_ret
  exact ⟨rfl, rfl⟩
theorem made_none (w : World) : Calls Try.prog 18 #[.pointer none] w fun e w' => e = .returned (.int .i64 0) ∧ w = w' := by
  go_enter Try.func18, Try.ntmps18
  go_wp2_with fail
  go_ret
  exact ⟨rfl, rfl⟩
theorem at_none (i : Int) (w : World) : Calls Try.prog 16 #[.pointer none, .int .i64 i] w fun e w' => e = .returned (.int .u32 0) ∧ w = w' := by
  go_enter Try.func16, Try.ntmps16
  go_wp2_with fail
  go_ret
  exact ⟨rfl, rfl⟩
set_option maxHeartbeats 1000000 in
theorem of_none (A : Option Addr) (n c : Nat) (l : List PC) (w : World) (hp : PartsAt w A n l) :
    Calls Try.prog 11 #[.pointer none, .slice A n c] w fun e w' => e = .returned (.int .u32 0) ∧ w = w' := by
  have hn := hp.n63
  go_enter Try.func11, Try.ntmps11
  go_wp2_with fail
  go_loopw [5, 14] (fun v i wr => ∃ k : Nat, k ≤ n ∧ i = .int .i64 (k : Int) ∧ v = .int .u32 0 ∧ w = wr) (fun _ i _ => n - (intOf i).toNat)
  case atStart => exact ⟨0, Nat.zero_le _, rfl, rfl, rfl⟩
  case round =>
    obtain ⟨k, hk, rfl, rfl, rfl⟩ := hrel
    by_cases hlt : k < n
    · obtain ⟨bb, o, rfl, hc⟩ := hp.cells (by omega)
      have ck := hc k hlt
      simp only [PC.val] at ck
      have hbl := block_lt_of_cell ck
      simp only at hbl
      clear hc
      go_wp2_with fail
      refine (more_none 0 _ w).mono ?_
      rintro e w2 ⟨rfl, rfl⟩
      go_wp2_with fail
      exact ⟨⟨k + 1, by omega, rfl, rfl, trivial⟩, by simp [intOf]; omega⟩
    · obtain rfl : k = n := by omega
      go_wp2_with fail
      go_ret
      exact ⟨rfl, rfl⟩

/-- Where the loop stands. -/
structure CO (w wr : World) (g : Nat) (st : Bool) : Prop where
  tab : TB wr g st
  below : Below w.heap.size w wr
theorem CO.step {w wr W : World} {st st' : Bool} (h : CO w wr w.heap.size st) (ht : TB W w.heap.size st') (hk : Keeps [w.heap.size] wr W) : CO w W w.heap.size st' := ⟨ht, h.below.trans (hk.below h.below.size (by simp))⟩
theorem CO.below_ {w wr W : World} {st : Bool} (h : CO w wr w.heap.size st) (hb : Below wr.heap.size wr W) : CO w W w.heap.size st := ⟨h.tab.below hb, h.below.trans (hb.mono h.below.size)⟩

set_option maxRecDepth 100000 in
set_option maxHeartbeats 4000000 in
theorem CrcOnce_walk (B : Option Addr) (m d : Nat) (l : List Int) (A : Option Addr) (n c : Nat) (xs : List UInt8) (w : World) (hl : IntsAt w B m l) (ha : Rd w A n xs) (hc : n ≤ c) :
    Calls Try.prog 5 #[.slice B m d, .slice A n c] w fun e w' => e = .returned (.bool true) ∧ Below w.heap.size w w' := by
  have hm := hl.2.1
  have hcut := cut_any A n c 60 w (by omega) hc
  have hr0 := rd_cut (m := 60) ha
  obtain ⟨N0, hN0⟩ : ∃ z, min n 60 = z := ⟨_, rfl⟩
  obtain ⟨X0, hX0⟩ : ∃ z, xs.take 60 = z := ⟨_, rfl⟩
  rw [hN0] at hcut hr0
  rw [hX0] at hr0
  have hN2 : N0 ≤ 60 ∧ N0 ≤ c := by omega
  have hga : 0 < N0 → ∀ ad, A = some ad → ad.block ≠ w.heap.size := fun h0 ad e => Nat.ne_of_lt (hr0.lt h0 ad e)
  clear hN0 hX0 ha
  go_enter Try.func5, Try.ntmps5
  go_wp2_with fail
  refine hcut.mono ?_
  rintro e w0 ⟨rfl, rfl⟩
  clear hcut
  go_wp2_with fail
  refine (crcNew_any w).mono ?_
  rintro e w1 ⟨rfl, h1, hb1⟩
  have hC0 : CO w w1 w.heap.size false := ⟨h1, hb1⟩
  clear h1 hb1
  go_wp2_with fail
  go_loopw [6] (fun i wr => ∃ (k : Nat) (st : Bool), k ≤ m ∧ k ≤ 20 ∧ i = .int .i64 (k : Int) ∧ CO w wr w.heap.size st) (fun i _ => m - (intOf i).toNat)
  case atStart => exact ⟨0, false, Nat.zero_le _, by omega, rfl, hC0⟩
  case round =>
    obtain ⟨k, st, hk, hk20, rfl, hC⟩ := hrel
    clear hC0
    have hb := hC.below
    have hsz := hb.size
    have hg := hC.tab.lt
    by_cases hlt : k < m ∧ k < 20
    · obtain ⟨hl1, hl2⟩ := hlt
      obtain ⟨b, o, rfl, hcc⟩ := hl.2.2 (by omega)
      have p0 := hcc k hl1
      obtain ⟨q, hq⟩ : ∃ z, l.getD k 0 = z := ⟨_, rfl⟩
      rw [hq] at p0
      have hgl := block_lt_of_cell p0
      simp only at hgl
      have p1 := (hb.cell (p := ⟨b, o + k, none⟩) hgl).trans p0
      have hbl : b < wr.heap.size := by omega
      have hrW := hr0.below_ hb
      have hmd := made_any _ st wr hC.tab
      clear hcc hq
      by_cases q0 : q = 0
      · subst q0
        have hX : Below wr.heap.size wr (wr.alloc (.cells #[.slice A N0 c] 25)) := (Below.refl _ _).alloc (Nat.le_refl _) _
        have hx := Blk.new wr 25 #[.slice A N0 c]
        obtain ⟨hP, hO⟩ := one_part hrW hN2.2 hX hx hg hga
        have hC2 := hC.below_ hX
        go_wp2_with fail
        refine hmd.mono ?_
        rintro e w8 ⟨rfl, rfl⟩
        clear hmd
        go_wp2_with fail
        generalize (wr.alloc (.cells #[.slice A N0 c] 25)) = Z at hX hx hP hC2 ⊢
        refine (of_any _ st _ 1 1 _ Z hC2.tab hP hO).mono ?_
        rintro e w2 ⟨rfl, h2, hk2⟩
        have hC3 := hC2.step h2 hk2
        clear hP hO hx hX hC hC2 h2 hk2 hb p1
        have hmd := made_any _ true w2 hC3.tab
        rw [show tabN true = 1 from rfl] at hmd
        go_wp2_with fail
        refine hmd.mono ?_
        rintro e w8 ⟨rfl, rfl⟩
        clear hmd
        go_wp2_with fail
        exact ⟨⟨k + 1, true, by omega, by omega, rfl, hC3⟩, by simp [intOf]; omega⟩
      · by_cases q1 : q = 1
        · subst q1
          go_wp2_with fail
          refine hmd.mono ?_
          rintro e w8 ⟨rfl, rfl⟩
          clear hmd
          go_wp2_with fail
          refine (more_any _ st 7 (by omega) A N0 c X0 wr hC.tab hrW hga).mono ?_
          rintro e w2 ⟨rfl, h2, hk2⟩
          have hC3 := hC.step h2 hk2
          clear hC h2 hk2 hb p1
          have hmd := made_any _ true w2 hC3.tab
          rw [show tabN true = 1 from rfl] at hmd
          go_wp2_with fail
          refine hmd.mono ?_
          rintro e w8 ⟨rfl, rfl⟩
          clear hmd
          go_wp2_with fail
          exact ⟨⟨k + 1, true, by omega, by omega, rfl, hC3⟩, by simp [intOf]; omega⟩
        · by_cases q2 : q = 2
          · subst q2
            go_wp2_with fail
            refine hmd.mono ?_
            rintro e w8 ⟨rfl, rfl⟩
            clear hmd
            go_wp2_with fail
            refine (seal_any _ st A N0 c X0 wr hC.tab hrW hN2.2 (by omega) hga).mono ?_
            rintro e w2 ⟨⟨A2, c2, rfl, _⟩, h2, hk2⟩
            have hC3 := hC.step h2 hk2
            clear hC h2 hk2 hb p1
            have hmd := made_any _ true w2 hC3.tab
            rw [show tabN true = 1 from rfl] at hmd
            go_wp2_with fail
            refine hmd.mono ?_
            rintro e w8 ⟨rfl, rfl⟩
            clear hmd
            go_wp2_with fail
            exact ⟨⟨k + 1, true, by omega, by omega, rfl, hC3⟩, by simp [intOf]; omega⟩
          · by_cases q3 : q = 3
            · subst q3
              go_wp2_with fail
              refine hmd.mono ?_
              rintro e w8 ⟨rfl, rfl⟩
              clear hmd
              go_wp2_with fail
              refine (fits_any _ st A N0 c X0 wr hC.tab hrW hN2.2 (by omega) hga).mono ?_
              rintro e w2 ⟨rfl, h2, hk2⟩
              have hC3 := hC.step h2 hk2
              clear hC h2 hk2 hb p1
              have hmd := made_any _ true w2 hC3.tab
              rw [show tabN true = 1 from rfl] at hmd
              go_wp2_with fail
              refine hmd.mono ?_
              rintro e w8 ⟨rfl, rfl⟩
              clear hmd
              go_wp2_with fail
              exact ⟨⟨k + 1, true, by omega, by omega, rfl, hC3⟩, by simp [intOf]; omega⟩
            · have t0 : (q == 0) = false := by simp [q0]
              have t1 : (q == 1) = false := by simp [q1]
              have t2 : (q == 2) = false := by simp [q2]
              have t3 : (q == 3) = false := by simp [q3]
              have hat := at_any _ st q wr hC.tab
              by_cases hneed : 0 ≤ q ∧ q ≤ 255
              · obtain ⟨n1, n2⟩ := hneed
                rw [show atNeeds q = true from decide_eq_true ⟨n1, n2⟩, Bool.or_true] at hat
                clear q0 q1 q2 q3
                go_wp2_with fail
                refine hmd.mono ?_
                rintro e w8 ⟨rfl, rfl⟩
                clear hmd
                go_wp2_with fail
                refine hat.mono ?_
                rintro e w2 ⟨rfl, h2, hk2⟩
                have hC3 := hC.step h2 hk2
                clear hC h2 hk2 hb p1 hat
                have hmd := made_any _ true w2 hC3.tab
                rw [show tabN true = 1 from rfl] at hmd
                go_wp2_with fail
                refine hmd.mono ?_
                rintro e w8 ⟨rfl, rfl⟩
                clear hmd
                go_wp2_with fail
                exact ⟨⟨k + 1, true, by omega, by omega, rfl, hC3⟩, by simp [intOf]; omega⟩
              · rw [show atNeeds q = false from decide_eq_false hneed, Bool.or_false] at hat
                clear q0 q1 q2 q3
                rcases (by omega : q < 0 ∨ (¬ q < 0 ∧ 255 < q)) with n1 | ⟨n1, n2⟩
                iterate 2
                  · go_wp2_with fail
                    refine hmd.mono ?_
                    rintro e w8 ⟨rfl, rfl⟩
                    clear hmd
                    go_wp2_with fail
                    refine hat.mono ?_
                    rintro e w2 ⟨rfl, h2, hk2⟩
                    have hC3 := hC.step h2 hk2
                    have hmd := made_any _ st w2 hC3.tab
                    have tst : (tabN st != tabN st) = false := by simp
                    clear hC h2 hk2 hb p1 hat
                    go_wp2_with fail
                    refine hmd.mono ?_
                    rintro e w8 ⟨rfl, rfl⟩
                    clear hmd
                    go_wp2_with fail
                    exact ⟨⟨k + 1, st, by omega, by omega, rfl, hC3⟩, by simp [intOf]; omega⟩
    · rcases (by omega : k = m ∨ (k < m ∧ k = 20)) with rfl | ⟨hq1, rfl⟩
      ·
        have hX : Below wr.heap.size wr (wr.alloc (.cells #[.slice A N0 c] 25)) := (Below.refl _ _).alloc (Nat.le_refl _) _
        have hx := Blk.new wr 25 #[.slice A N0 c]
        obtain ⟨hP, _⟩ := one_part (hr0.below_ hb) hN2.2 hX hx hg hga
        have hC2 := hC.below_ hX
        go_wp2_with fail
        generalize (wr.alloc (.cells #[.slice A N0 c] 25)) = Z at hX hx hP hC2 ⊢
        refine (of_none _ 1 1 _ Z hP).mono ?_
        rintro e w8 ⟨rfl, rfl⟩
        have hB2 := hC2.below
        clear hP hx hX hC hC2 hb
        go_wp2_with fail
        refine (more_none 9 _ Z).mono ?_
        rintro e w8 ⟨rfl, rfl⟩
        go_wp2_with fail
        refine (seal_none _ Z).mono ?_
        rintro e w8 ⟨rfl, rfl⟩
        go_wp2_with fail
        refine (fits_none _ Z).mono ?_
        rintro e w8 ⟨rfl, rfl⟩
        go_wp2_with fail
        refine (made_none Z).mono ?_
        rintro e w8 ⟨rfl, rfl⟩
        go_wp2_with fail
        refine (at_none 1 Z).mono ?_
        rintro e w8 ⟨rfl, rfl⟩
        go_wp2_with fail
        refine (awake02 Z).mono ?_
        rintro e w9 ⟨rfl, hb9⟩
        have hfin := hB2.trans (hb9.mono hB2.size)
        clear hb9
        go_wp2_with fail
        go_ret
        exact ⟨rfl, hfin⟩
      ·
        have hX : Below wr.heap.size wr (wr.alloc (.cells #[.slice A N0 c] 25)) := (Below.refl _ _).alloc (Nat.le_refl _) _
        have hx := Blk.new wr 25 #[.slice A N0 c]
        obtain ⟨hP, _⟩ := one_part (hr0.below_ hb) hN2.2 hX hx hg hga
        have hC2 := hC.below_ hX
        go_wp2_with fail
        generalize (wr.alloc (.cells #[.slice A N0 c] 25)) = Z at hX hx hP hC2 ⊢
        refine (of_none _ 1 1 _ Z hP).mono ?_
        rintro e w8 ⟨rfl, rfl⟩
        have hB2 := hC2.below
        clear hP hx hX hC hC2 hb
        go_wp2_with fail
        refine (more_none 9 _ Z).mono ?_
        rintro e w8 ⟨rfl, rfl⟩
        go_wp2_with fail
        refine (seal_none _ Z).mono ?_
        rintro e w8 ⟨rfl, rfl⟩
        go_wp2_with fail
        refine (fits_none _ Z).mono ?_
        rintro e w8 ⟨rfl, rfl⟩
        go_wp2_with fail
        refine (made_none Z).mono ?_
        rintro e w8 ⟨rfl, rfl⟩
        go_wp2_with fail
        refine (at_none 1 Z).mono ?_
        rintro e w8 ⟨rfl, rfl⟩
        go_wp2_with fail
        refine (awake02 Z).mono ?_
        rintro e w9 ⟨rfl, hb9⟩
        have hfin := hB2.trans (hb9.mono hB2.size)
        clear hb9
        go_wp2_with fail
        go_ret
        exact ⟨rfl, hfin⟩
end Go.Proofs.Ytihokijndmigoaa
