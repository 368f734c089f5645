/- Contract: catenaryref03's All. -/
import Derived.Test.YtgflgncpjlgeoaaFrAll
namespace Go.Proofs.Ytgflgncpjlgeoaa
open Go.RowKit
set_option linter.unusedSimpArgs false
set_option linter.unusedVariables false

/-- The document's frames, their bodies where they were. -/
structure RefFr (w : World) (B : Nat) (T : TypeId) (A : Option Addr) (v : Value) (l : List FC) (L : List FrR) : Prop where
  row : w.ownsRow B T 2 v l.length (l.flatMap FC.cells)
  is_ : AllIs l L
  rd : ∀ x ∈ l, Rd w x.A x.bs.length x.bs ∧ (0 < x.bs.length → ∀ ad, x.A = some ad → ∃ a0, A = some a0 ∧ ad.block = a0.block)

set_option maxRecDepth 100000 in
set_option maxHeartbeats 8000000 in
theorem refAll3_any (A : Option Addr) (n c : Nat) (xs : List UInt8) (w : World) (ha : Rd w A n xs) (hc : n ≤ c) (hn : n ≤ 100000) :
    Calls Try.prog 13 #[.slice A n c] w fun e w' =>
      (∃ v l, e = .returned (.tuple #[v, .int .i64 ((allF xs).2.1 : Int), .int .i64 (allF xs).2.2]) ∧ RefFr w' w.heap.size 25 A v l (allF xs).1) ∧ Below w.heap.size w w' := by
  obtain ⟨i0, hi0, hz0, hz1, hz2⟩ := info_parts info_refframe
  have HX := Lib.hid ha.1
  obtain ⟨Q, hQ⟩ : ∃ z, allF xs = z := ⟨_, rfl⟩
  rw [hQ]
  have HQ := Lib.hid hQ
  clear hQ
  go_enter Try.func13, Try.ntmps13
  go_wp2_with fail
  go_loopw [5, 6] (fun vo va wr => ∃ (p : Nat) (l : List FC) (L : List FrR), p ≤ n ∧ 7 * L.length ≤ p ∧ va = .int .i64 (p : Int) ∧ Hid (Rest xs p L 0) ∧ RefFr wr w.heap.size 25 A vo l L ∧ Below w.heap.size w wr) (fun _ va _ => n - (intOf va).toNat)
  case atStart => exact ⟨0, [], [], Nat.zero_le _, Nat.zero_le _, rfl, Lib.hid (rest_start xs), ⟨World.ownsRow_nil _ _ _ _, .nil, fun x hx => absurd hx (by simp)⟩, Below.refl _ _⟩
  case round =>
    obtain ⟨p, l, L, hp, hpl, rfl, HR, hO, hb⟩ := hrel
    have hsz := hb.size
    have HLL := Lib.hid (forall2_len hO.is_)
    have hl5 : l.length ≤ 14286 := by rw [HLL.out]; omega
    by_cases hpn : p < n
    · have haW : Rd wr A n xs := ha.below_ hb
      obtain ⟨ab, ao, rfl, _⟩ := ha.2.2 (by omega)
      have hablt : ab < w.heap.size := ha.lt (by omega) _ rfl
      have hdr := haW.cut (k := p) hp hc
      have hcp : ¬ c = p := by omega
      rw [if_neg hcp, Option.map_some, add_lit0] at hdr
      have hpn' : (p : Int) < (n : Int) := Int.ofNat_lt.2 hpn
      have hpn2 : (p : Int) ≤ (n : Int) := by omega
      have hpc : p ≤ c := by omega
      have hfi := refCut3_any (some ⟨ab, ao + p, none⟩) (n - p) (c - p) (xs.drop p) wr hdr (by omega) (by omega)
      have hRg := fun he => HR.out.good (by rw [HX.out]; exact hpn) he
      have hRb := fun he => HR.out.bad (by rw [HX.out]; exact hpn) he
      have hcg := @cutF_good (xs.drop p)
      rw [List.length_drop, HX.out] at hcg
      obtain ⟨R, hR⟩ : ∃ z, cutF (xs.drop p) = z := ⟨_, rfl⟩
      rw [hR] at hfi hcg hRg hRb
      obtain ⟨K, BB, N, E⟩ := R
      simp only at hcg
      obtain ⟨Av, cv, rfl, _, _⟩ := own_form hO.row
      clear hR HR haW hdr
      by_cases he : E = 0
      · subst he
        obtain ⟨hN7, hNp⟩ := hcg rfl
        have HRg := Lib.hid (hRg rfl)
        have hwn : IntKind.i64.wrap ((p : Int) + (N : Int)) = ((p + N : Nat) : Int) := by rw [IntKind.wrap_i64]; omega
        clear hRg hRb hcg
        go_wp2_with fail
        refine hfi.mono ?_
        rintro e w2 ⟨⟨A2, c2, rfl, hbd⟩, hb2⟩
        simp only [frV] at hbd ⊢
        have hX : Below w2.heap.size w2 (w2.alloc (.cells #[.int .u8 (K.toNat : Int), .slice A2 BB.length c2] 25)) := (Below.refl _ _).alloc (Nat.le_refl _) _
        have hs2 := hb2.size
        have hB2 := hb.trans (hb2.mono hsz)
        have hrow2 := own_below hO.row hb2 (own_lt hO.row)
        clear hfi
        go_wp2_with (at_builtin; refine wpList_append_src rfl (.tmp 27) (.tmp 29) _ rfl w.heap.size 25 i0 _ 2 32 Try.underlying22 hi0 hz0 hz1 hz2 rfl (by omega) (.slice Av l.length cv) l.length (l.flatMap FC.cells) rfl ?d0 (some ⟨w2.heap.size + 1, 0, none⟩) 1 1 (FC.cells ⟨K, A2, c2, BB⟩) rfl ?d1 ?d2 ?d3 ?d4 ?d5)
        case d0 => exact own_below (own_below hrow2 hX (own_lt hrow2)) ((Below.refl _ _).alloc (Nat.le_refl _) _) (fun k hk => by have := own_lt hrow2 k hk; simp; omega)
        case d1 =>
          have := Src.one (w2.alloc (.cells #[.int .u8 (K.toNat : Int), .slice A2 BB.length c2] 25)) #[.int .u8 (K.toNat : Int), .slice A2 BB.length c2] 25 (by simp [Value.oneCell'])
          simpa [FC.cells] using this
        case d2 => unfold maxLen; omega
        case d3 => omega
        try (case d4 => simp; omega)
        case d5 =>
          intro v' w6 ho6 hgr _
          have hk6 := Keeps.of_grown hgr
          have hXX : Below w2.heap.size w2 ((w2.alloc (.cells #[.int .u8 (K.toNat : Int), .slice A2 BB.length c2] 25)).alloc (.cells #[.int .u8 (K.toNat : Int), .slice A2 BB.length c2] 25)) := hX.alloc hX.size _
          have hge := own_ge hrow2
          have hB6 : Below w.heap.size w w6 := (hB2.trans (hXX.mono hB2.size)).trans (hk6.below (by have := hXX.size; omega) (fun i hi => hge i (by simpa using hi)))
          have hkeep : ∀ x : FC, Rd w2 x.A x.bs.length x.bs → (0 < x.bs.length → ∀ ad, x.A = some ad → ad.block = ab) → Rd w6 x.A x.bs.length x.bs := fun x h1 h2 =>
            (h1.below_ hXX).keeps hk6 (fun h0 ad e hm => by
              have h3 := h2 h0 ad e
              have h4 := hge ad.block (by simpa using hm)
              omega)
          have hO6 : RefFr w6 w.heap.size 25 (some ⟨ab, ao, none⟩) v' (l ++ [⟨K, A2, c2, BB⟩]) (L ++ [⟨K, BB, N, 0⟩]) := by
            refine ⟨?_, forall2_snoc hO.is_ ⟨rfl, rfl⟩, fun x hx => ?_⟩
            · have e1 : (l ++ [(⟨K, A2, c2, BB⟩ : FC)]).length = l.length + 1 := by simp
              have e2 : (l ++ [(⟨K, A2, c2, BB⟩ : FC)]).flatMap FC.cells = l.flatMap FC.cells ++ FC.cells ⟨K, A2, c2, BB⟩ := by simp
              rw [e1, e2]
              exact ho6
            · rcases List.mem_append.1 hx with hx | hx
              · obtain ⟨q1, q2⟩ := hO.rd x hx
                refine ⟨hkeep x (q1.below_ hb2) (fun h0 ad e => ?_), q2⟩
                obtain ⟨a0, f0, f1⟩ := q2 h0 ad e
                injection f0 with f0
                rw [f1, ← f0]
              · obtain rfl : x = ⟨K, A2, c2, BB⟩ := by simpa using hx
                refine ⟨hkeep _ hbd.1 (fun h0 ad e => ?_), fun h0 ad e => ?_⟩
                · obtain ⟨a0, f0, f1⟩ := hbd.2.2 h0 ad e
                  injection f0 with f0
                  rw [f1, ← f0]
                · obtain ⟨a0, f0, f1⟩ := hbd.2.2 h0 ad e
                  injection f0 with f0
                  exact ⟨_, rfl, by rw [f1, ← f0]⟩
          clear hgr hk6 ho6 hrow2 hO hXX hX hb2 hbd hge hkeep hB2
          go_wp2_with fail
          exact ⟨⟨p + N, _, _, by omega, by simp; omega, rfl, HRg, hO6, hB6⟩, by simp [intOf]; omega⟩
      · have hq := (hRb he).fin (.inr he)
        rw [HQ.out] at hq
        subst hq
        have te : (E == 0) = false := by simp [he]
        have te2 : (E != 0) = true := by simp [he]
        clear hRg hRb hcg HQ
        go_wp2_with fail
        refine hfi.mono ?_
        rintro e w2 ⟨⟨A2, c2, rfl, hbd⟩, hb2⟩
        simp only [frV] at hbd ⊢
        have hX : Below w2.heap.size w2 (w2.alloc (.cells #[.int .u8 (K.toNat : Int), .slice A2 BB.length c2] 25)) := (Below.refl _ _).alloc (Nat.le_refl _) _
        have hXX := hb2.trans (hX.mono hb2.size)
        have hB2 := hb.trans (hXX.mono hsz)
        have hO2 : RefFr (w2.alloc (.cells #[.int .u8 (K.toNat : Int), .slice A2 BB.length c2] 25)) w.heap.size 25 (some ⟨ab, ao, none⟩) (.slice Av l.length cv) l L := ⟨own_below hO.row hXX (own_lt hO.row), hO.is_, fun x hx => ⟨(hO.rd x hx).1.below_ hXX, (hO.rd x hx).2⟩⟩
        clear hfi hO hX hXX hbd hb2
        go_wp2_with fail
        refine bodyPost_ret (v := .tuple #[.slice Av l.length cv, .int .i64 (p : Int), .int .i64 E]) (by simp [results, Try.results13, go_sem]) rfl ⟨⟨_, rfl, l, hO2⟩, hB2⟩
    · have hq := HR.out.fin (.inl (by rw [HX.out]; exact hpn))
      rw [HQ.out] at hq
      subst hq
      obtain ⟨Av, cv, rfl, _, _⟩ := own_form hO.row
      have tp : ¬ (p : Int) < (n : Int) := fun h => hpn (Int.ofNat_lt.1 h)
      clear HQ HR hpn
      go_wp2_with fail
      refine bodyPost_ret (v := .tuple #[.slice Av l.length cv, .int .i64 (p : Int), .int .i64 0]) (by simp [results, Try.results13, go_sem]) rfl ⟨⟨_, rfl, l, hO⟩, hb⟩
end Go.Proofs.Ytgflgncpjlgeoaa
