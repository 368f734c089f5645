/- The walk of CrcParts. -/
import Derived.Test.YtihokijndmigoaaCrcSums
namespace Go.Proofs.Ytihokijndmigoaa
open Go.RowKit
set_option linter.unusedSimpArgs false
set_option linter.unusedVariables false

theorem info_bs : (Try.prog.info? 25).map (fun i => (i.zero, i.size, i.bytes)) = some (some (.slice none 0 0), 1, 24) := by kernel_rfl

/-- A part, cut. -/
def PC.cut60 (x : PC) : PC := ⟨x.A, x.c, x.bs.take 60⟩
def cuts (l : List PC) (k : Nat) : List PC := (l.take k).map PC.cut60
theorem cuts_succ {l : List PC} {k : Nat} (h : k < l.length) : cuts l (k + 1) = cuts l k ++ [(l.getD k noPC).cut60] := by
  unfold cuts
  rw [take_succ_getD l k noPC h, List.map_append]
  rfl
theorem cuts_len {l : List PC} {k : Nat} (h : k ≤ l.length) : (cuts l k).length = k := by simp [cuts]; omega
theorem cat_snoc (l : List PC) (x : PC) : cat (l ++ [x]) = cat l ++ x.bs := by simp [cat]
theorem cuts_cat_len (l : List PC) (k : Nat) : (cat (cuts l k)).length ≤ 60 * k := by
  have key : ∀ m : List PC, (cat (m.map PC.cut60)).length ≤ 60 * m.length := by
    intro m
    induction m with
    | nil => simp [cat]
    | cons x m ih =>
      rw [List.map_cons, show cat (x.cut60 :: m.map PC.cut60) = x.cut60.bs ++ cat (m.map PC.cut60) from rfl, List.length_append, List.length_cons]
      have : x.cut60.bs.length ≤ 60 := List.length_take_le _ _
      omega
  have h := key (l.take k)
  rw [List.length_take] at h
  unfold cuts
  omega

/-- What stands when so many parts were seen. -/
structure CP (w wr : World) (B g : Nat) (va vp : Value) (st : Bool) (l : List PC) (k : Nat) : Prop where
  all : wr.ownsRow B 5 1 va (cat (cuts l k)).length ((cat (cuts l k)).map bv)
  parts : wr.ownsRow B 25 1 vp k ((cuts l k).map PC.val)
  tab : TB wr g st
  below : Below w.heap.size w wr
  size : B ≤ wr.heap.size

set_option maxRecDepth 100000 in
set_option maxHeartbeats 4000000 in
theorem CrcParts_walk (A : Option Addr) (n c : Nat) (l : List PC) (w : World) (hl : PartsAt w A n l) :
    Calls Try.prog 3 #[.slice A n c] w fun e w' => e = .returned (.bool true) ∧ Below w.heap.size w w' := by
  obtain ⟨i0, hi0, hz0, hz1, hz2⟩ := info_parts info_u8
  obtain ⟨j0, hj0, hy0, hy1, hy2⟩ := info_parts info_bs
  have hn := hl.n63
  have HL := Lib.hid hl.len
  go_enter Try.func3, Try.ntmps3
  go_wp2_with fail
  refine (crcNew_any w).mono ?_
  rintro e w1 ⟨rfl, h1, hb1⟩
  have hg1 := h1.lt
  have hP0 : CP w w1 w1.heap.size w.heap.size (.slice none 0 0) (.slice none 0 0) false l 0 := ⟨World.ownsRow_nil _ _ _ _, World.ownsRow_nil _ _ _ _, h1, hb1, Nat.le_refl _⟩
  have hz : crcOf (cat (cuts l 0)) = 0 := crcOf_nil
  clear h1
  go_wp2_with fail
  go_loopw [4, 5, 6, 7] (fun va vp vs i wr => ∃ (k : Nat) (st : Bool), k ≤ n ∧ k ≤ 10 ∧ i = .int .i64 (k : Int) ∧ vs = .int .u32 ((crcOf (cat (cuts l k)) : Nat) : Int) ∧ CP w wr w1.heap.size w.heap.size va vp st l k) (fun _ _ _ i _ => n - (intOf i).toNat)
  case atStart => exact ⟨0, false, Nat.zero_le _, by omega, rfl, by rw [hz]; rfl, hP0⟩
  case round =>
    obtain ⟨k, st, hk, hk10, rfl, rfl, hP⟩ := hrel
    clear hP0 hz
    have hb := hP.below
    have hsz := hb.size
    have hsz1 := hP.size
    have hclen := cuts_cat_len l k
    have hlo := crcOf_lt (cat (cuts l k))
    by_cases hlt : k < n ∧ k < 10
    · obtain ⟨hl1, hl2⟩ := hlt
      obtain ⟨b, o, rfl, hcc⟩ := hl.cells (by omega)
      have ck := hcc k hl1
      have hkl : k < l.length := by rw [HL.out]; exact hl1
      obtain ⟨hr, hrc⟩ := hl.rd _ (pc_mem hkl)
      have hsu := cuts_succ hkl
      have hgl := block_lt_of_cell ck
      simp only at hgl
      obtain ⟨x, hx⟩ : ∃ x, l.getD k noPC = x := ⟨_, rfl⟩
      rw [hx] at ck hr hrc hsu
      have ck2 := (hb.cell (p := ⟨b, o + k, none⟩) hgl).trans ck
      obtain ⟨xA, xc, xb⟩ := x
      simp only [PC.val, PC.cut60] at ck ck2 hr hrc hsu
      have hcut := fun W => cut_any xA xb.length xc 60 W (by omega) hrc
      have hr2 := rd_cut (m := 60) hr
      obtain ⟨M, hM⟩ : ∃ z, min xb.length 60 = z := ⟨_, rfl⟩
      obtain ⟨Y, hY⟩ : ∃ z, xb.take 60 = z := ⟨_, rfl⟩
      obtain ⟨xn, hxn⟩ : ∃ z, xb.length = z := ⟨_, rfl⟩
      simp only [hM] at hcut hr2
      rw [hY] at hr2 hsu
      rw [hxn] at hrc ck ck2
      simp only [hxn] at hcut
      have hM60 : M ≤ 60 ∧ M ≤ xc := by omega
      have hYl := hr2.1
      have hcs : cat (cuts l (k + 1)) = cat (cuts l k) ++ Y := by rw [hsu, cat_snoc]
      have hms : crcMore (crcOf (cat (cuts l k))) Y = crcOf (cat (cuts l (k + 1))) := by rw [crcMore_of, hcs]
      have hps : (cuts l (k + 1)).map PC.val = (cuts l k).map PC.val ++ [.slice xA M xc] := by rw [hsu, List.map_append]; simp [PC.val, hYl]
      have HMS := Lib.hid hms
      have HPS := Lib.hid hps
      have HCS := Lib.hid hcs
      have HYL := Lib.hid hYl
      obtain ⟨C, hC⟩ : ∃ z, cat (cuts l k) = z := ⟨_, rfl⟩
      obtain ⟨D, hD⟩ : ∃ z, crcOf C = z := ⟨_, rfl⟩
      have hall := hP.all
      have hpar := hP.parts
      have htab := hP.tab
      rw [hC] at hall hclen HCS HMS hlo ⊢
      rw [hD] at HMS hlo ⊢
      have hblt : b < wr.heap.size := by omega
      clear hP hx hsu hM hY hxn hms hps hcs hC hD hYl
      go_wp2_with fail
      refine (hcut wr).mono ?_
      rintro e w3 ⟨rfl, rfl⟩
      clear hcut ck2
      obtain ⟨Av, cv, rfl, _, _⟩ := own_form hall
      go_wp2_with (at_builtin; refine wpList_append_src rfl (.tmp 25) (.tmp 26) _ rfl w1.heap.size 5 i0 _ 1 1 Try.underlying25 hi0 hz0 hz1 hz2 rfl (by omega) (.slice Av C.length cv) C.length (C.map bv) rfl ?c0 xA M xc (Y.map bv) rfl ?c1 ?c2 ?c3 ?c4 ?c5)
      case c0 => exact hall
      case c1 => exact (hr2.below_ hb).src
      case c2 => unfold maxLen; omega
      case c3 => omega
      try (case c4 => exact hsz1)
      case c5 =>
        intro v4 w4 hall4 hg4 _
        have hk4 := Keeps.of_grown hg4
        have hge4 : ∀ i ∈ (Value.slice Av C.length cv).ownBlock.toList, w1.heap.size ≤ i := fun i hi => own_ge hall i (by simpa using hi)
        have hpar4 := own_keeps hpar hk4 (fun i hi hm => own_own_ne hpar hall (by decide) i hi (by simpa using hm))
        have htab4 := htab.keeps hk4 (fun hm => by have := hge4 _ hm; omega)
        have hB4 : Below w.heap.size w w4 := hb.trans (hk4.below hsz fun i hi => Nat.le_trans hb1.size (hge4 i hi))
        have hs4 := hk4.size
        have hall4' : w4.ownsRow w1.heap.size 5 1 v4 (cat (cuts l (k + 1))).length ((cat (cuts l (k + 1))).map bv) := by
          rw [HCS.out, List.length_append, List.map_append, HYL.out]
          exact hall4
        clear hg4 hk4 hge4 hpar htab hall hall4
        have hX : Below w4.heap.size w4 (w4.alloc (.cells #[.slice xA M xc] 25)) := (Below.refl _ _).alloc (Nat.le_refl _) _
        have hlit : (w4.alloc (.cells #[.slice xA M xc] 25)).ownsRow w4.heap.size 25 1 (.slice (some ⟨w4.heap.size, 0, none⟩) 1 1) 1 [.slice xA M xc] := World.ownsRow_lit w4 #[.slice xA M xc] 1 (Nat.le_refl _) (by unfold maxLen; omega) rfl
        obtain ⟨Ap, cp, rfl, _, _⟩ := own_form hpar4
        go_wp2_with (at_builtin; refine wpList_append_src rfl (.tmp 28) (.tmp 30) _ rfl w1.heap.size 25 j0 _ 1 24 Try.underlying22 hj0 hy0 hy1 hy2 rfl (by omega) (.slice Ap k cp) k ((cuts l k).map PC.val) rfl ?d0 (some ⟨w4.heap.size, 0, none⟩) 1 1 [.slice xA M xc] rfl ?d1 ?d2 ?d3 ?d4 ?d5)
        case d0 => exact own_below hpar4 hX (own_lt hpar4)
        case d1 => exact Src.of_own hlit (by simp [Value.oneCell'])
        case d2 => unfold maxLen; omega
        case d3 => omega
        try (case d4 => have := hX.size; omega)
        case d5 =>
          intro v5 w5 hpar5 hg5 _
          rw [← HPS.out] at hpar5
          have hk5 := Keeps.of_grown hg5
          have hge5 : ∀ i ∈ (Value.slice Ap k cp).ownBlock.toList, w1.heap.size ≤ i := fun i hi => own_ge hpar4 i (by simpa using hi)
          have hallX := own_below hall4' hX (own_lt hall4')
          have hparX := own_below hpar4 hX (own_lt hpar4)
          have hall5 := own_keeps hallX hk5 (fun i hi hm => own_own_ne hallX hparX (by decide) i hi (by simpa using hm))
          have htab5 := (htab4.below hX).keeps hk5 (fun hm => by have := hge5 _ hm; omega)
          have hs5 := hk5.size
          have hsX := hX.size
          have hB5 : Below w.heap.size w w5 := (hB4.trans (hX.mono hB4.size)).trans (hk5.below (by omega) fun i hi => Nat.le_trans hb1.size (hge5 i hi))
          clear hg5 hk5 hge5 hallX hparX hX hlit hpar4 htab4 hB4 hall4'
          go_wp2_with fail
          refine (more_any _ st D hlo xA M xc Y w5 htab5 (hr2.below_ hB5) (fun h0 ad e => Nat.ne_of_lt (hr2.lt h0 ad e))).mono ?_
          rintro e w6 ⟨rfl, h6, hk6⟩
          have hB6 : Below w.heap.size w w6 := hB5.trans (hk6.below hB5.size (by simp))
          have hs6 := hk6.size
          have hall6 := own_keeps hall5 hk6 (fun i hi hm => by have := own_ge hall5 i hi; exact absurd (show i = w.heap.size by simpa using hm) (by omega))
          have hpar6 := own_keeps hpar5 hk6 (fun i hi hm => by have := own_ge hpar5 i hi; exact absurd (show i = w.heap.size by simpa using hm) (by omega))
          clear hall5 hpar5 htab5 hk6 hB5
          go_wp2_with fail
          exact ⟨⟨k + 1, true, by omega, by omega, rfl, by rw [HMS.out], ⟨hall6, hpar6, h6, hB6, by omega⟩⟩, by simp [intOf]; omega⟩
    · have hcl : (cuts l k).length = k := cuts_len (by rw [HL.out]; exact hk)
      have hall := hP.all
      have hpar := hP.parts
      have htab := hP.tab
      obtain ⟨Av, cv, rfl, _, _⟩ := own_form hall
      obtain ⟨Ap, cp, rfl, _, _⟩ := own_form hpar
      have hrd : ∀ x ∈ cuts l k, Rd w x.A x.bs.length x.bs ∧ x.bs.length ≤ x.c := fun x hx => by
        obtain ⟨y, hy, rfl⟩ := List.mem_map.1 hx
        obtain ⟨h1, h2⟩ := hl.rd y (List.mem_of_mem_take hy)
        have h3 := rd_cut (m := 60) h1
        simp only [PC.cut60, List.length_take]
        rw [Nat.min_comm]
        exact ⟨h3, by omega⟩
      have hPA : PartsAt wr Ap k (cuts l k) := ⟨hcl, by omega, fun h0 => by
        obtain ⟨gp, cap, hv, _, _⟩ := hpar.form h0
        have hA : Ap = some ⟨gp, 0, none⟩ := by injection hv
        subst hA
        have hcg : cp = cap := by injection hv
        subst hcg
        refine ⟨gp, 0, rfl, fun j hj => ?_⟩
        rw [Nat.zero_add, hpar.cellAt j (by omega), List.getElem?_map]
        have hj2 : j < (cuts l k).length := by rw [hcl]; exact hj
        rw [List.getElem?_eq_getElem hj2, List.getD_eq_getElem?_getD, List.getElem?_eq_getElem hj2]
        rfl, fun x hx => ⟨(hrd x hx).1.below_ hb, (hrd x hx).2⟩⟩
      have hPO : PartsOff w.heap.size Ap k (cuts l k) := ⟨fun h0 ad e => by
        have := own_ge hpar ad.block (by rw [e]; rfl)
        omega, fun x hx h0 ad e => Nat.ne_of_lt ((hrd x hx).1.lt h0 ad e)⟩
      have hof := of_any _ st Ap k cp _ wr htab hPA hPO
      have hra := Rd.of_own hall
      have hge := own_ge hall
      obtain ⟨C, hC⟩ : ∃ z, cat (cuts l k) = z := ⟨_, rfl⟩
      rw [hC] at hof hra hall hge ⊢
      clear hP hcl hrd hPA hPO hpar htab hC
      rcases (by omega : k = n ∨ (k < n ∧ k = 10)) with rfl | ⟨hq1, rfl⟩
      iterate 2
        · go_wp2_with fail
          refine hof.mono ?_
          rintro e w3 ⟨rfl, h3, hk3⟩
          have hB3 : Below w.heap.size w w3 := hb.trans (hk3.below hsz (by simp))
          have hra3 := hra.keeps hk3 (fun h0 ad e hm => by have := hge ad.block (by rw [e]; rfl); exact absurd (show ad.block = w.heap.size by simpa using hm) (by omega))
          clear hof hk3 hra
          go_wp2_with fail
          refine (refOf_any Av C.length cv C w3 hra3).mono ?_
          rintro e w4 ⟨rfl, rfl⟩
          go_wp2_with fail
          refine (refOf_any Av C.length cv C w3 hra3).mono ?_
          rintro e w4 ⟨rfl, rfl⟩
          go_wp2_with fail
          refine (awake02 w3).mono ?_
          rintro e w9 ⟨rfl, hb9⟩
          have hfin := hB3.trans (hb9.mono hB3.size)
          clear hb9
          go_wp2_with fail
          go_ret
          exact ⟨rfl, hfin⟩
end Go.Proofs.Ytihokijndmigoaa
