/- Contracts of package fix: what is put (New, fail, put, Put, Raw, Text, Bool, Done). -/
import Derived.Test.YtehfddafjemedaaFix2
import Derived.Test.YtehfddafjemedaaConcat
namespace Go.Proofs.Ytehfddafjemedaa
open Go.RowKit
set_option linter.unusedSimpArgs false
set_option linter.unusedVariables false

/-- Bytes that are put. -/
structure OutS where
  b : List UInt8
  most : Int
  err : Int
structure OutAt (w : World) (base g : Nat) (sl : Value) (s : OutS) : Prop where
  ge : base ≤ g
  blk : Blk w g 102 #[sl, .int .i64 s.most, .int .i64 s.err]
  own : w.ownsRow base 5 1 sl s.b.length (s.b.map bv)
theorem OutAt.below {w w' : World} {base g : Nat} {sl : Value} {s : OutS} (h : OutAt w base g sl s) (hb : Below w.heap.size w w') : OutAt w' base g sl s := ⟨h.ge, h.blk.below hb h.blk.lt, own_below h.own hb (own_lt h.own)⟩
theorem OutAt.keeps {w w' : World} {base g : Nat} {sl : Value} {s : OutS} {S : List Nat} (h : OutAt w base g sl s) (hk : Keeps S w w') (h1 : g ∉ S) (h2 : ∀ k ∈ sl.ownBlock, k ∉ S) : OutAt w' base g sl s := ⟨h.ge, h.blk.keeps hk h1, own_keeps h.own hk h2⟩
/-- A step of what is put: it stays in its own blocks. -/
def OutStep (base g : Nat) (sl : Value) (s' : OutS) (w w' : World) : Prop :=
  ∃ sl', OutAt w' base g sl' s' ∧ Keeps (g :: sl.ownBlock.toList) w w' ∧ (sl'.ownBlock = sl.ownBlock ∨ ∀ k ∈ sl'.ownBlock, w.heap.size ≤ k)
theorem OutStep.same {base g : Nat} {sl : Value} {s : OutS} {w w' : World} (h : OutAt w base g sl s) (hb : Below w.heap.size w w') : OutStep base g sl s w w' := ⟨sl, h.below hb, Keeps.of_below hb _, .inl rfl⟩

def failS (s : OutS) (e : Int) : OutS := if s.err = 0 then ⟨s.b, s.most, e⟩ else s
def putS (s : OutS) (bs : List UInt8) : OutS := if s.err ≠ 0 then s else if s.most - (s.b.length : Int) < (bs.length : Int) then failS s 6 else ⟨s.b ++ bs, s.most, s.err⟩
def putN (s : OutS) (n k : Int) : OutS := if knownB k = false then failS s 1 else if fitsB n.toNat k.toNat = false then failS s 4 else putS s (beB n.toNat k.toNat)
def textS (s : OutS) (bs : List UInt8) : OutS := if 65535 < bs.length then failS s 4 else putS s (beB bs.length 2 ++ bs)
def boolS (s : OutS) (x : Bool) : OutS := putN s (if x = true then 1 else 0) 1
def OutS.small (s : OutS) : Prop := s.b.length ≤ 1000000 ∧ -9223372036854775808 + 1000000 ≤ s.most ∧ s.most ≤ 9223372036854775807

theorem fixNew_any (m : Int) (w : World) : Calls Try.prog 25 #[.int .i64 m] w fun e w' => e = .returned (.pointer (some ⟨w.heap.size, 0, none⟩)) ∧ OutAt w' w.heap.size w.heap.size (.slice none 0 0) ⟨[], max m 0, 0⟩ ∧ Below w.heap.size w w' := by
  by_cases h : m < 0
  · have e : max m 0 = 0 := by omega
    rw [e]
    go_enter Try.func25, Try.ntmps25
    go_wp2
    go_ret
    exact ⟨rfl, ⟨Nat.le_refl _, Blk.new _ _ _, World.ownsRow_nil _ _ _ _⟩, (Below.refl _ _).alloc (Nat.le_refl _) _⟩
  · have e : max m 0 = m := by omega
    rw [e]
    go_enter Try.func25, Try.ntmps25
    go_wp2
    go_ret
    exact ⟨rfl, ⟨Nat.le_refl _, Blk.new _ _ _, World.ownsRow_nil _ _ _ _⟩, (Below.refl _ _).alloc (Nat.le_refl _) _⟩

theorem outFail_any (base g : Nat) (sl : Value) (s : OutS) (e : Int) (w : World) (h : OutAt w base g sl s) : Calls Try.prog 62 #[.pointer (some ⟨g, 0, none⟩), .int .i64 e] w fun en w' => en = .returned (.tuple #[]) ∧ OutAt w' base g sl (failS s e) ∧ Keeps [g] w w' := by
  have c2 := h.blk.cell 2
  have fz := h.blk.frozen
  have hg := h.blk.lt
  simp only [List.getElem?_toArray, List.getElem?_cons_zero, List.getElem?_cons_succ] at c2
  by_cases h0 : s.err = 0
  · have t : (s.err == 0) = true := by simp [h0]
    have H : Hid (failS s e = ⟨s.b, s.most, e⟩) := Lib.hid (by unfold failS; rw [if_pos h0])
    clear h0
    go_enter Try.func62, Try.ntmps62
    go_wp2
    refine bodyPost_end (by simp [results, Try.results62, go_sem]) rfl ⟨rfl, ?_, (Keeps.refl [g] w).setCell (p := ⟨g, 2, none⟩) (.inl (by simp)) _⟩
    rw [H.out]
    exact ⟨h.ge, h.blk.set_ 2 _, own_keeps h.own ((Keeps.refl [g] w).setCell (p := ⟨g, 2, none⟩) (.inl (by simp)) _) fun k hk hm => own_blk_ne h.own h.blk (by decide) k hk (by simpa using hm)⟩
  · have t : (s.err == 0) = false := by simp [h0]
    have H : Hid (failS s e = s) := Lib.hid (by unfold failS; rw [if_neg h0])
    clear h0
    go_enter Try.func62, Try.ntmps62
    go_wp2
    refine bodyPost_end (by simp [results, Try.results62, go_sem]) rfl ⟨rfl, ?_, Keeps.refl _ _⟩
    rw [H.out]
    exact h
theorem OutStep.fail {base g : Nat} {sl : Value} {s : OutS} {w w' : World} (h : OutAt w' base g sl s) (hk : Keeps [g] w w') : OutStep base g sl s w w' := ⟨sl, h, hk.mono fun i hi => .inl (by rw [show i = g by simpa using hi]; exact List.mem_cons_self), .inl rfl⟩

set_option maxRecDepth 100000 in
set_option maxHeartbeats 2000000 in
theorem output_any (base g : Nat) (sl : Value) (s : OutS) (A : Option Addr) (n c : Nat) (bs : List UInt8) (w : World) (h : OutAt w base g sl s) (hbase : base ≤ w.heap.size) (hsm : s.small) (hr : Rd w A n bs) (hc : n ≤ c) (hn : n ≤ 10000000) :
    Calls Try.prog 64 #[.pointer (some ⟨g, 0, none⟩), .slice A n c] w fun e w' => e = .returned (.tuple #[]) ∧ OutStep base g sl (putS s bs) w w' := by
  obtain ⟨i0, hi0, hz0, hz1, hz2⟩ := info_parts info_u8
  obtain ⟨A0, c0', hsl, hlc, hcm⟩ := own_form h.own
  have c0 := h.blk.cell 0
  have c1 := h.blk.cell 1
  have c2 := h.blk.cell 2
  have fz := h.blk.frozen
  have hg := h.blk.lt
  simp only [List.getElem?_toArray, List.getElem?_cons_zero, List.getElem?_cons_succ] at c0 c1 c2
  rw [hsl] at c0
  obtain ⟨s1, s2, s3⟩ := hsm
  have HB := Lib.hid hr.1
  by_cases h0 : s.err = 0
  · have t : (s.err != 0) = false := by simp [h0]
    have w1 : IntKind.i64.wrap (s.most - (s.b.length : Int)) = s.most - (s.b.length : Int) := by rw [IntKind.wrap_i64]; omega
    by_cases hroom : s.most - (s.b.length : Int) < (n : Int)
    · have H : Hid (putS s bs = failS s 6) := Lib.hid (by unfold putS; rw [if_neg (by simpa using h0), if_pos (by rw [HB.out]; exact hroom)])
      have HS := Lib.hid hsl
      clear h0 hsl
      go_enter Try.func64, Try.ntmps64
      go_wp2_with fail
      go_quiet (fail)
      go_wp2_with fail
      refine (outFail_any base g sl s 6 _ (h.below (below_drewN (Below.refl _ w) nq))).mono ?_
      rintro e w1 ⟨rfl, h1, hk1⟩
      go_wp2_with fail
      refine bodyPost_end (by simp [results, Try.results64, go_sem]) rfl ⟨rfl, ?_⟩
      rw [H.out]
      exact OutStep.fail h1 (((Keeps.refl [g] w).drewN nq).trans hk1 fun i hi => .inl hi)
    · have H : Hid (putS s bs = ⟨s.b ++ bs, s.most, s.err⟩) := Lib.hid (by unfold putS; rw [if_neg (by simpa using h0), if_neg (by rw [HB.out]; exact hroom)])
      have HS := Lib.hid hsl
      have HLN : Hid ((s.b ++ bs).length = s.b.length + n) := Lib.hid (by rw [List.length_append, HB.out])
      clear h0 hsl
      go_enter Try.func64, Try.ntmps64
      go_wp2_with fail
      go_quiet (fail)
      go_wp2_with (at_builtin; refine wpList_append_src rfl (.tmp 8) (.tmp 9) _ rfl base 5 i0 _ 1 1 Try.underlying51 hi0 hz0 hz1 hz2 rfl (by omega) sl s.b.length (s.b.map bv) ?d0 ?d1 A n c (bs.map bv) rfl ?d2 ?d3 ?d4 ?d5 ?d6)
      case d0 => rw [HS.out]; rfl
      case d1 => exact own_drewN h.own _
      case d2 => exact (hr.drewN _).src
      case d3 => unfold maxLen; omega
      case d4 => omega
      try (case d5 => simpa using hbase)
      case d6 =>
        intro so w' ho' hgr hor
        obtain ⟨A5, c5, hso, _, _⟩ := own_form ho'
        rw [hso] at ho' hor ⊢
        have hkg := Keeps.of_grown hgr
        have hgno : some g ≠ sl.ownBlock := fun e => own_blk_ne h.own h.blk (by decide) g (by rw [← e]; rfl) rfl
        have hY := (h.blk.drewN nq).grown hgr hgno
        have e0 := hY.cell 0
        have e1 := hY.cell 1
        have e2 := hY.cell 2
        have fz2 := hY.frozen
        have hg2 := hY.lt
        simp only [List.getElem?_toArray, List.getElem?_cons_zero, List.getElem?_cons_succ, HS.out] at e0 e1 e2
        have hk2 : Keeps (g :: sl.ownBlock.toList) w (w'.setCell ⟨g, 0, none⟩ (.slice A5 (s.b.length + n) c5)) :=
          (((Keeps.refl (g :: sl.ownBlock.toList) w).drewN nq).trans hkg fun i hi => .inl (List.mem_cons_of_mem _ hi)).setCell (p := ⟨g, 0, none⟩) (.inl (by simp)) _
        have hfr : (Value.slice A5 (s.b.length + n) c5).ownBlock = sl.ownBlock ∨ ∀ k ∈ (Value.slice A5 (s.b.length + n) c5).ownBlock, w.heap.size ≤ k := by
          rcases hor with h1 | h1
          · exact .inl h1
          · refine .inr fun k hk => ?_
            rw [h1] at hk
            have : w.heap.size = k := by simpa using hk
            omega
        have hnew : OutAt (w'.setCell ⟨g, 0, none⟩ (.slice A5 (s.b.length + n) c5)) base g (.slice A5 (s.b.length + n) c5) ⟨s.b ++ bs, s.most, s.err⟩ := by
          refine ⟨h.ge, by simpa using hY.set_ 0 (.slice A5 (s.b.length + n) c5), ?_⟩
          rw [HLN.out, List.map_append]
          exact own_keeps ho' ((Keeps.refl [g] w').setCell (p := ⟨g, 0, none⟩) (.inl (by simp)) _) fun k hk hm => own_blk_ne ho' hY (by decide) k hk (by simpa using hm)
        clear hgr hor hY hgno hkg ho' hso c0 c1 c2 fz hg
        go_wp2_with fail
        refine bodyPost_end (by simp [results, Try.results64, go_sem]) rfl ⟨rfl, ?_⟩
        rw [H.out]
        exact ⟨_, hnew, hk2, hfr⟩
  · have t : (s.err != 0) = true := by simp [h0]
    have H : Hid (putS s bs = s) := Lib.hid (by unfold putS; rw [if_pos h0])
    clear h0
    go_enter Try.func64, Try.ntmps64
    go_wp2_with fail
    refine bodyPost_end (by simp [results, Try.results64, go_sem]) rfl ⟨rfl, ?_⟩
    rw [H.out]
    exact OutStep.same h (Below.refl _ _)
end Go.Proofs.Ytehfddafjemedaa
