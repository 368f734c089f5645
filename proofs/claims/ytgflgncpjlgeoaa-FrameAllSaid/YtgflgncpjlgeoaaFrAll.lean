/- All frames of any bytes: plain; contracts of frame's All, Counts. -/
import Derived.Test.YtgflgncpjlgeoaaFr6
namespace Go.Proofs.Ytgflgncpjlgeoaa
open Go.RowKit
set_option linter.unusedSimpArgs false
set_option linter.unusedVariables false

theorem cutF_good {b : List UInt8} (h : (cutF b).e = 0) : 7 ≤ (cutF b).n ∧ (cutF b).n ≤ b.length := by
  unfold cutF at h ⊢
  split at h
  · cases h
  · rename_i a1
    rw [if_neg a1]
    split at h
    · cases h
    · rename_i a2
      rw [if_neg a2]
      split at h
      · cases h
      · rename_i a3
        rw [if_neg a3]
        split at h
        · cases h
        · rename_i a4
          rw [if_neg a4]
          split at h
          · cases h
          · rename_i a5
            rw [if_neg a5]
            simp only
            omega
def allF (b : List UInt8) : List FrR × Nat × Int :=
  if h : b.length = 0 then ([], 0, 0) else if h2 : (cutF b).e = 0 then (cutF b :: (allF (b.drop (cutF b).n)).1, (cutF b).n + (allF (b.drop (cutF b).n)).2.1, (allF (b.drop (cutF b).n)).2.2) else ([], 0, (cutF b).e)
termination_by b.length
decreasing_by all_goals (have := cutF_good h2; rw [List.length_drop]; omega)

theorem allF_nil : allF [] = ([], 0, 0) := by rw [allF]; simp

/-- What was read of some bytes so far: all of it, and what is left. -/
def Rest (xs : List UInt8) (p : Nat) (L : List FrR) (E : Int) : Prop :=
  (E = 0 ∧ p ≤ xs.length ∧ allF xs = (L ++ (allF (xs.drop p)).1, p + (allF (xs.drop p)).2.1, (allF (xs.drop p)).2.2)) ∨ (E ≠ 0 ∧ p ≤ xs.length ∧ allF xs = (L, p, E))
theorem rest_start (xs : List UInt8) : Rest xs 0 [] 0 := .inl ⟨rfl, Nat.zero_le _, by simp⟩
theorem Rest.le {xs : List UInt8} {p : Nat} {L : List FrR} {E : Int} (h : Rest xs p L E) : p ≤ xs.length := by
  rcases h with h | h
  · exact h.2.1
  · exact h.2.1
theorem Rest.good {xs : List UInt8} {p : Nat} {L : List FrR} (h : Rest xs p L 0) (hp : p < xs.length) (he : (cutF (xs.drop p)).e = 0) : Rest xs (p + (cutF (xs.drop p)).n) (L ++ [cutF (xs.drop p)]) 0 := by
  rcases h with ⟨_, _, h⟩ | ⟨h, _⟩
  · have hg := cutF_good he
    rw [List.length_drop] at hg
    refine .inl ⟨rfl, by omega, ?_⟩
    rw [h]
    have e1 : allF (xs.drop p) = (cutF (xs.drop p) :: (allF (xs.drop (p + (cutF (xs.drop p)).n))).1, (cutF (xs.drop p)).n + (allF (xs.drop (p + (cutF (xs.drop p)).n))).2.1, (allF (xs.drop (p + (cutF (xs.drop p)).n))).2.2) := by
      rw [allF, dif_neg (by rw [List.length_drop]; omega), dif_pos he, List.drop_drop]
    rw [e1]
    simp only [List.append_assoc, List.cons_append, List.nil_append, Nat.add_assoc]
  · exact absurd rfl h
theorem Rest.bad {xs : List UInt8} {p : Nat} {L : List FrR} (h : Rest xs p L 0) (hp : p < xs.length) (he : (cutF (xs.drop p)).e ≠ 0) : Rest xs p L (cutF (xs.drop p)).e := by
  rcases h with ⟨_, _, h⟩ | ⟨h, _⟩
  · refine .inr ⟨he, by omega, ?_⟩
    rw [h]
    have e1 : allF (xs.drop p) = ([], 0, (cutF (xs.drop p)).e) := by rw [allF, dif_neg (by rw [List.length_drop]; omega), dif_neg he]
    rw [e1]
    simp
  · exact absurd rfl h
theorem Rest.fin {xs : List UInt8} {p : Nat} {L : List FrR} {E : Int} (h : Rest xs p L E) (hp : ¬ p < xs.length ∨ E ≠ 0) : allF xs = (L, p, E) := by
  rcases h with ⟨h0, hle, h⟩ | ⟨_, _, h⟩
  · have hpe : p = xs.length := by
      rcases hp with hp | hp
      · omega
      · exact absurd h0 hp
    rw [h, h0, hpe, List.drop_length, allF_nil]
    simp
  · exact h

/-- A frame that lies somewhere. -/
structure FC where
  k : UInt8
  A : Option Addr
  c : Nat
  bs : List UInt8
def noFC : FC := ⟨0, none, 0, []⟩
def FC.cells (x : FC) : List Value := [.int .u8 (x.k.toNat : Int), .slice x.A x.bs.length x.c]
def FC.is (x : FC) (r : FrR) : Prop := x.k = r.kind ∧ x.bs = r.body
inductive AllIs : List FC → List FrR → Prop
  | nil : AllIs [] []
  | cons {x : FC} {r : FrR} {l : List FC} {L : List FrR} (h : x.is r) (t : AllIs l L) : AllIs (x :: l) (r :: L)
theorem fc_len (l : List FC) : (l.flatMap FC.cells).length = l.length * 2 := by
  induction l with
  | nil => rfl
  | cons x l ih => rw [List.flatMap_cons, List.length_append, ih, List.length_cons]; simp [FC.cells]; omega
theorem info_frame : (Try.prog.info? 39).map (fun i => (i.zero, i.size, i.bytes)) = some (some (.agg #[.int .u8 0, .slice none 0 0]), 2, 32) := by kernel_rfl
theorem info_refframe : (Try.prog.info? 25).map (fun i => (i.zero, i.size, i.bytes)) = some (some (.agg #[.int .u8 0, .slice none 0 0]), 2, 32) := by kernel_rfl

/-- The program's frames, in memory of the call's own. -/
structure OwnFr (w : World) (B : Nat) (T : TypeId) (v : Value) (l : List FC) (L : List FrR) : Prop where
  row : w.ownsRow B T 2 v l.length (l.flatMap FC.cells)
  is_ : AllIs l L
  own : ∀ x ∈ l, w.ownsRow B 5 1 (.slice x.A x.bs.length x.c) x.bs.length (x.bs.map bv)

theorem forall2_snoc {l : List FC} {L : List FrR} {x : FC} {r : FrR} (h : AllIs l L) (hx : x.is r) : AllIs (l ++ [x]) (L ++ [r]) := by
  induction h with
  | nil => exact .cons hx .nil
  | cons h1 h2 ih => exact .cons h1 ih
theorem forall2_len {l : List FC} {L : List FrR} (h : AllIs l L) : l.length = L.length := by
  induction h with
  | nil => rfl
  | cons h1 h2 ih => simp [ih]

set_option maxRecDepth 100000 in
set_option maxHeartbeats 8000000 in
theorem frameAll_any (gc gt G Bd : Nat) (st : Bool) (A : Option Addr) (n c : Nat) (xs : List UInt8) (w : World) (h : CD w gc gt st G Bd) (ha : Rd w A n xs) (hc : n ≤ c) (hn : n ≤ 100000) (hga : 0 < n → ∀ ad, A = some ad → ad.block ≠ gt)
    (hG : G + 100000 < 18446744073709551616) (hB : Bd + 1 < 18446744073709551616) :
    Calls Try.prog 12 #[.pointer (some ⟨gc, 0, none⟩), .slice A n c] w fun e w' =>
      (∃ v l, e = .returned (.tuple #[v, .int .i64 ((allF xs).2.1 : Int), .int .i64 (allF xs).2.2]) ∧ OwnFr w' w.heap.size 39 v l (allF xs).1) ∧ CDs w' gc gt (G + (allF xs).1.length) (moreBad (allF xs).2.2 Bd) ∧ Keeps [gc, gt] w w' := by
  obtain ⟨i0, hi0, hz0, hz1, hz2⟩ := info_parts info_frame
  have HX := Lib.hid ha.1
  have hgc := h.blk.lt
  have hgt := h.tab.lt
  obtain ⟨Q, hQ⟩ : ∃ z, allF xs = z := ⟨_, rfl⟩
  rw [hQ]
  have HQ := Lib.hid hQ
  clear hQ
  go_enter Try.func12, Try.ntmps12
  go_wp2_with fail
  go_loopw [7, 8, 9] (fun vo va ve wr => ∃ (p : Nat) (E : Int) (l : List FC) (L : List FrR) (st : Bool), p ≤ n ∧ 7 * L.length ≤ p ∧ va = .int .i64 (p : Int) ∧ ve = .int .i64 E ∧ Hid (Rest xs p L E) ∧ OwnFr wr w.heap.size 39 vo l L ∧ CD wr gc gt st G Bd ∧ Keeps [gt] w wr) (fun _ va ve _ => (n - (intOf va).toNat) + (if intOf ve = 0 then 1 else 0))
  case atStart => exact ⟨0, 0, [], [], st, Nat.zero_le _, Nat.zero_le _, rfl, rfl, Lib.hid (rest_start xs), ⟨World.ownsRow_nil _ _ _ _, .nil, fun x hx => absurd hx (by simp)⟩, h, Keeps.refl _ _⟩
  case round =>
    obtain ⟨p, E, l, L, st, hp, hpl, rfl, rfl, HR, hO, hC, hK⟩ := hrel
    clear h
    have hsz := hK.size
    have HLL := Lib.hid (forall2_len hO.is_)
    have hl5 : l.length ≤ 14286 := by rw [HLL.out]; omega
    by_cases hgo : p < n ∧ E = 0
    · obtain ⟨hpn, rfl⟩ := hgo
      have haW : Rd wr A n xs := ha.keeps hK fun h0 ad e hm => hga h0 ad e (by simpa using hm)
      obtain ⟨Av, cv, rfl, _, _⟩ := own_form hO.row
      obtain ⟨ab, ao, rfl, _⟩ := ha.2.2 (by omega)
      have hgab : ab ≠ gt := hga (by omega) _ rfl
      have hdr := haW.cut (k := p) hp hc
      have hcp : ¬ c = p := by omega
      rw [if_neg hcp, Option.map_some, add_lit0] at hdr
      have hpn' : (p : Int) < (n : Int) := Int.ofNat_lt.2 hpn
      have hpn2 : (p : Int) ≤ (n : Int) := by omega
      have hpc : p ≤ c := by omega
      have hfi := first_any gc gt G Bd st (some ⟨ab, ao + p, none⟩) (n - p) (c - p) (xs.drop p) wr hC hdr (by omega) (by omega) (fun _ ad e => by injection e with e; subst e; exact hgab)
      have hRg := fun he => HR.out.good (by rw [HX.out]; exact hpn) he
      have hRb := fun he => HR.out.bad (by rw [HX.out]; exact hpn) he
      have hcg := @cutF_good (xs.drop p)
      rw [List.length_drop, HX.out] at hcg
      obtain ⟨R, hR⟩ : ∃ z, cutF (xs.drop p) = z := ⟨_, rfl⟩
      rw [hR] at hfi hcg hRg hRb
      obtain ⟨K, BB, N, E⟩ := R
      simp only at hcg
      clear hR HR haW hdr
      by_cases he : E = 0
      · subst he
        obtain ⟨hN7, hNp⟩ := hcg rfl
        have HRg := Lib.hid (hRg rfl)
        have hwn : IntKind.i64.wrap ((p : Int) + (N : Int)) = ((p + N : Nat) : Int) := by rw [IntKind.wrap_i64]; omega
        clear hRg hRb hcg
        go_wp2_with fail
        refine hfi.mono ?_
        rintro e w2 ⟨⟨A2, c2, rfl, ho2⟩, ⟨st2, h2⟩, hk2⟩
        simp only at ho2 ⊢
        have hX : Below w2.heap.size w2 (w2.alloc (.cells #[.int .u8 (K.toNat : Int), .slice A2 BB.length c2] 39)) := (Below.refl _ _).alloc (Nat.le_refl _) _
        have hs2 := hk2.size
        have hK2 : Keeps [gt] w w2 := hK.trans hk2 fun i hi => .inl hi
        have hrow2 := own_keeps hO.row hk2 (fun i hi hm => by have := own_ge hO.row i hi; exact absurd (show i = gt by simpa using hm) (by omega))
        have hown2 : ∀ x ∈ l, w2.ownsRow w.heap.size 5 1 (.slice x.A x.bs.length x.c) x.bs.length (x.bs.map bv) := fun x hx => own_keeps (hO.own x hx) hk2 (fun i hi hm => by have := own_ge (hO.own x hx) i hi; exact absurd (show i = gt by simpa using hm) (by omega))
        clear hfi hk2
        go_wp2_with (at_builtin; refine wpList_append_src rfl (.tmp 35) (.tmp 37) _ rfl w.heap.size 39 i0 _ 2 32 Try.underlying33 hi0 hz0 hz1 hz2 rfl (by omega) (.slice Av l.length cv) l.length (l.flatMap FC.cells) rfl ?d0 (some ⟨w2.heap.size + 1, 0, none⟩) 1 1 (FC.cells ⟨K, A2, c2, BB⟩) rfl ?d1 ?d2 ?d3 ?d4 ?d5)
        case d0 => exact own_below (own_below hrow2 hX (own_lt hrow2)) ((Below.refl _ _).alloc (Nat.le_refl _) _) (fun k hk => by have := own_lt hrow2 k hk; simp; omega)
        case d1 =>
          have := Src.one (w2.alloc (.cells #[.int .u8 (K.toNat : Int), .slice A2 BB.length c2] 39)) #[.int .u8 (K.toNat : Int), .slice A2 BB.length c2] 39 (by simp [Value.oneCell'])
          simpa [FC.cells] using this
        case d2 => unfold maxLen; omega
        case d3 => omega
        try (case d4 => simp; omega)
        case d5 =>
          intro v' w6 ho6 hgr _
          have hk6 := Keeps.of_grown hgr
          have hXX : Below w2.heap.size w2 ((w2.alloc (.cells #[.int .u8 (K.toNat : Int), .slice A2 BB.length c2] 39)).alloc (.cells #[.int .u8 (K.toNat : Int), .slice A2 BB.length c2] 39)) := hX.alloc hX.size _
          have hrowX := own_below hrow2 hXX (own_lt hrow2)
          have hge := own_ge hrow2
          have hK6 : Keeps [gt] w w6 := (hK2.trans (Keeps.of_below hXX []) (fun i hi => by cases hi)).trans hk6 (fun i hi => .inr (hge i (by simpa using hi)))
          have hC6 : CD w6 gc gt st2 G Bd := (h2.below hXX).keeps hk6 (fun hm => by have := hge gc (by simpa using hm); omega) (fun hm => by have := hge gt (by simpa using hm); omega)
          have ho2X := own_below ho2 hXX (own_lt ho2)
          have hn2 := own_rebase (own_keeps ho2X hk6 (fun i hi hm => own_own_ne ho2X hrowX (by decide) i hi (by simpa using hm))) (base' := w.heap.size) (fun i hi => Nat.le_trans hsz (own_ge ho2 i hi))
          have hO6 : OwnFr w6 w.heap.size 39 v' (l ++ [⟨K, A2, c2, BB⟩]) (L ++ [⟨K, BB, N, 0⟩]) := by
            refine ⟨?_, forall2_snoc hO.is_ ⟨rfl, rfl⟩, fun x hx => ?_⟩
            · have e1 : (l ++ [(⟨K, A2, c2, BB⟩ : FC)]).length = l.length + 1 := by simp
              have e2 : (l ++ [(⟨K, A2, c2, BB⟩ : FC)]).flatMap FC.cells = l.flatMap FC.cells ++ FC.cells ⟨K, A2, c2, BB⟩ := by simp
              rw [e1, e2]
              exact ho6
            · rcases List.mem_append.1 hx with hx | hx
              · have hXo := own_below (hown2 x hx) hXX (own_lt (hown2 x hx))
                exact own_keeps hXo hk6 (fun i hi hm => own_own_ne hXo hrowX (by decide) i hi (by simpa using hm))
              · obtain rfl : x = ⟨K, A2, c2, BB⟩ := by simpa using hx
                exact hn2
          clear hgr hk6 hrowX ho2X hn2 ho6 hown2 hrow2 hO hXX hX hC hK hK2 h2 ho2 hge
          go_wp2_with fail
          exact ⟨⟨p + N, 0, _, _, st2, by omega, by simp; omega, rfl, rfl, HRg, hO6, hC6, hK6⟩, by simp [intOf]; omega⟩
      · have HRb := Lib.hid (hRb he)
        have te : (E == 0) = false := by simp [he]
        have HE := Lib.hid he
        clear hRg hRb hcg
        go_wp2_with fail
        refine hfi.mono ?_
        rintro e w2 ⟨⟨A2, c2, rfl, ho2⟩, ⟨st2, h2⟩, hk2⟩
        simp only at ho2 ⊢
        have hX : Below w2.heap.size w2 (w2.alloc (.cells #[.int .u8 (K.toNat : Int), .slice A2 BB.length c2] 39)) := (Below.refl _ _).alloc (Nat.le_refl _) _
        have hK2 : Keeps [gt] w (w2.alloc (.cells #[.int .u8 (K.toNat : Int), .slice A2 BB.length c2] 39)) := (hK.trans hk2 fun i hi => .inl hi).trans (Keeps.of_below hX []) (fun i hi => by cases hi)
        have hrow2 := own_keeps hO.row hk2 (fun i hi hm => by have := own_ge hO.row i hi; exact absurd (show i = gt by simpa using hm) (by omega))
        have hown2 : ∀ x ∈ l, w2.ownsRow w.heap.size 5 1 (.slice x.A x.bs.length x.c) x.bs.length (x.bs.map bv) := fun x hx => own_keeps (hO.own x hx) hk2 (fun i hi hm => by have := own_ge (hO.own x hx) i hi; exact absurd (show i = gt by simpa using hm) (by omega))
        have hO2 : OwnFr (w2.alloc (.cells #[.int .u8 (K.toNat : Int), .slice A2 BB.length c2] 39)) w.heap.size 39 (.slice Av l.length cv) l L := ⟨own_below hrow2 hX (own_lt hrow2), hO.is_, fun x hx => own_below (hown2 x hx) hX (own_lt (hown2 x hx))⟩
        have hC2 := h2.below hX
        clear hfi hk2 hrow2 hown2 hO hC hK h2 hX ho2
        go_wp2_with fail
        exact ⟨⟨p, E, _, _, st2, hp, hpl, rfl, rfl, HRb, hO2, hC2, hK2⟩, by simp [intOf, HE.out]⟩
    · have hq := HR.out.fin (by
        rcases Nat.lt_or_ge p n with h1 | h1
        · exact .inr fun h2 => hgo ⟨h1, h2⟩
        · exact .inl (by rw [HX.out]; omega))
      rw [HQ.out] at hq
      subst hq
      obtain ⟨Av, cv, hvo, _, _⟩ := own_form hO.row
      have hrow := hO.row
      have hown := hO.own
      have his := hO.is_
      obtain ⟨M, hM⟩ : ∃ z, l.length = z := ⟨_, rfl⟩
      have HML : Hid (M = L.length) := Lib.hid (by rw [← hM]; exact HLL.out)
      rw [hM] at hvo hrow
      have hM5 : M ≤ 100000 := by rw [← hM]; omega
      have htd := told_any gc gt G Bd M st E wr hC (by omega) hB
      have hwm : (M : Int) % 18446744073709551616 = (M : Int) := by omega
      have hwm2 : IntKind.u64.wrap (M : Int) = (M : Int) := by rw [IntKind.wrap_u64]; exact hwm
      subst hvo
      have HM := Lib.hid hM
      have hstop : ¬ ((p : Int) < (n : Int) ∧ E = 0) := fun h => hgo ⟨Int.ofNat_lt.1 h.1, h.2⟩
      clear hl5 HLL hO hC hM HQ HR
      by_cases hpn : p < n
      · have hE0 : ¬ E = 0 := fun h => hgo ⟨hpn, h⟩
        have te : (E == 0) = false := by simp [hE0]
        have tp : (p : Int) < (n : Int) := Int.ofNat_lt.2 hpn
        clear hE0 hstop hgo hpn
        go_wp2_with fail
        refine htd.mono ?_
        rintro e w2 ⟨rfl, h2, hk2⟩
        have hrow2 := own_keeps hrow hk2 (fun i hi hm => by have := own_ge hrow i hi; exact absurd (show i = gc by simpa using hm) (by omega))
        have hown2 : ∀ x ∈ l, w2.ownsRow w.heap.size 5 1 (.slice x.A x.bs.length x.c) x.bs.length (x.bs.map bv) := fun x hx => own_keeps (hown x hx) hk2 (fun i hi hm => by have := own_ge (hown x hx) i hi; exact absurd (show i = gc by simpa using hm) (by omega))
        have hK2 : Keeps [gc, gt] w w2 := (hK.mono fun i hi => .inl (by simp at hi; simp [hi])).trans hk2 fun i hi => .inl (by simp at hi; simp [hi])
        clear htd hk2 hK hrow hown
        go_wp2_with fail
        refine bodyPost_ret (v := .tuple #[.slice Av M cv, .int .i64 (p : Int), .int .i64 E]) (by simp [results, Try.results12, go_sem]) rfl ⟨⟨_, rfl, l, ⟨by rw [HM.out]; exact hrow2, his, hown2⟩⟩, ⟨_, by rw [← HML.out]; exact h2⟩, hK2⟩
      · have tp : ¬ (p : Int) < (n : Int) := fun h => hpn (Int.ofNat_lt.1 h)
        clear hstop hgo hpn
        go_wp2_with fail
        refine htd.mono ?_
        rintro e w2 ⟨rfl, h2, hk2⟩
        have hrow2 := own_keeps hrow hk2 (fun i hi hm => by have := own_ge hrow i hi; exact absurd (show i = gc by simpa using hm) (by omega))
        have hown2 : ∀ x ∈ l, w2.ownsRow w.heap.size 5 1 (.slice x.A x.bs.length x.c) x.bs.length (x.bs.map bv) := fun x hx => own_keeps (hown x hx) hk2 (fun i hi hm => by have := own_ge (hown x hx) i hi; exact absurd (show i = gc by simpa using hm) (by omega))
        have hK2 : Keeps [gc, gt] w w2 := (hK.mono fun i hi => .inl (by simp at hi; simp [hi])).trans hk2 fun i hi => .inl (by simp at hi; simp [hi])
        clear htd hk2 hK hrow hown
        go_wp2_with fail
        refine bodyPost_ret (v := .tuple #[.slice Av M cv, .int .i64 (p : Int), .int .i64 E]) (by simp [results, Try.results12, go_sem]) rfl ⟨⟨_, rfl, l, ⟨by rw [HM.out]; exact hrow2, his, hown2⟩⟩, ⟨_, by rw [← HML.out]; exact h2⟩, hK2⟩

/-- The counts. -/
theorem load64_any (a : Addr) (x : Int) (w : World) (hc : w.cell? a = some (.int .u64 x)) : Calls Try.prog 32 #[.pointer (some a)] w fun e w' => e = .returned (.int .u64 x) ∧ w = w' := by
  have hl := run_call_load (P := Try.prog) Try.func49 (by kernel_rfl) (by kernel_rfl) (by kernel_rfl) .u64 (by kernel_rfl) hc
  go_enter Try.func32, Try.ntmps32
  go_wp2
  go_ret
  exact ⟨rfl, rfl⟩
set_option maxRecDepth 100000 in
set_option maxHeartbeats 2000000 in
theorem counts_any (gc gt G Bd : Nat) (st : Bool) (w : World) (h : CD w gc gt st G Bd) :
    Calls Try.prog 15 #[.pointer (some ⟨gc, 0, none⟩)] w fun e w' => e = .returned (.tuple #[.int .u64 (G : Int), .int .u64 (Bd : Int)]) ∧ Below w.heap.size w w' := by
  go_enter Try.func15, Try.ntmps15
  go_wp2_with fail
  refine wp_region_calls 10 [(3, .known (.int .u64 (G : Int))), (7, .known (.int .u64 (Bd : Int)))] (by kernel_rfl) (by kernel_rfl) rfl ⟨trivial, trivial, trivial⟩ ?_
  simp only [List.take_succ_cons, List.take_zero, List.drop_succ_cons, List.drop_zero]
  iterate 3 refine dep_reckons rfl (by kernel_rfl) (fun W hG hF' => by go_simp <;> rfl) (by simp only [Act.put, List.setIfInBounds_toArray, List.set_cons_zero, List.set_cons_succ]; rfl) ?_
  refine dep_known (c := .int .u64 (G : Int)) rfl (by kernel_rfl) (fun W hG hF' => ?_) (by simp only [Act.put, List.setIfInBounds_toArray, List.set_cons_zero, List.set_cons_succ]; rfl) ?_
  · have hkW := keeps_drew hG
    have hbW := h.blk.keeps hkW (by simp)
    unfold opGives
    go_simp
    refine (load64_any ⟨gc, 1, none⟩ (G : Int) W (hbW.cell 1)).mono ?_
    rintro e w9 ⟨rfl, rfl⟩
    exact ⟨_, rfl, rfl, Keeps.refl _ _⟩
  iterate 3 refine dep_reckons rfl (by kernel_rfl) (fun W hG hF' => by go_simp <;> rfl) (by simp only [Act.put, List.setIfInBounds_toArray, List.set_cons_zero, List.set_cons_succ]; rfl) ?_
  refine dep_known (c := .int .u64 (Bd : Int)) rfl (by kernel_rfl) (fun W hG hF' => ?_) (by simp only [Act.put, List.setIfInBounds_toArray, List.set_cons_zero, List.set_cons_succ]; rfl) ?_
  · have hkW := keeps_drew hG
    have hbW := h.blk.keeps hkW (by simp)
    unfold opGives
    go_simp
    refine (load64_any ⟨gc, 2, none⟩ (Bd : Int) W (hbW.cell 2)).mono ?_
    rintro e w9 ⟨rfl, rfl⟩
    exact ⟨_, rfl, rfl, Keeps.refl _ _⟩
  iterate 2 refine dep_reckons rfl (by kernel_rfl) (fun W hG hF' => by go_simp <;> rfl) (by simp only [Act.put, List.setIfInBounds_toArray, List.set_cons_zero, List.set_cons_succ]; rfl) ?_
  refine dep_nil fun W hG hF2 => ?_
  have hfin := (keeps_drew hG).nil_below
  clear hF2 hG
  go_wp2_with fail
  exact bodyPost_ret (v := .tuple #[.int .u64 (G : Int), .int .u64 (Bd : Int)]) (by simp [results, Try.results15, go_sem]) rfl ⟨rfl, hfin⟩
end Go.Proofs.Ytgflgncpjlgeoaa
