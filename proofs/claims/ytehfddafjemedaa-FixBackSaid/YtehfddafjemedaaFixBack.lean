/- The walk of FixBack. -/
import Derived.Test.YtehfddafjemedaaFixPuts
namespace Go.Proofs.Ytehfddafjemedaa
open Go.RowKit
set_option linter.unusedSimpArgs false
set_option linter.unusedVariables false

theorem nextS_of {bs rest : List UInt8} {k : Nat} (h : bs.length = k) : nextS ⟨bs ++ rest, 0⟩ k = ⟨rest, 0⟩ := by
  unfold nextS
  rw [if_neg (by simp), if_neg (by simp; omega)]
  simp only
  rw [List.drop_left' h]
theorem okN_of {bs rest : List UInt8} {k : Nat} (h : bs.length = k) : okN ⟨bs ++ rest, 0⟩ k = true := by
  unfold okN
  simp
  omega
theorem nextB_of {bs rest : List UInt8} {k : Nat} (h : bs.length = k) : nextB ⟨bs ++ rest, 0⟩ k = bs := by
  unfold nextB
  rw [if_pos (okN_of h)]
  simp only
  rw [List.take_left' h]
theorem upto_of {bs rest : List UInt8} {k : Int} {most : Nat} (hk : knownB k = true) (h : bs.length = k.toNat) (hm : ¬ most < beN bs) : uptoS ⟨bs ++ rest, 0⟩ k most = ⟨rest, 0⟩ ∧ uptoN ⟨bs ++ rest, 0⟩ k most = beN bs := by
  unfold uptoS uptoN
  rw [if_neg (by simp), if_neg (by rw [hk]; simp), if_neg (by rw [okN_of h]; simp), nextB_of h, if_neg hm, nextS_of h, if_neg (by simp), if_neg (by rw [hk]; simp), if_neg (by rw [okN_of h]; simp), if_neg hm]
  exact ⟨rfl, rfl⟩
theorem raw_of {bs rest : List UInt8} {k : Int} (h : (bs.length : Int) = k) : rawS ⟨bs ++ rest, 0⟩ k = ⟨rest, 0⟩ ∧ rawB ⟨bs ++ rest, 0⟩ k = bs := by
  unfold rawS rawB
  rw [if_neg (by omega), if_neg (by omega)]
  exact ⟨nextS_of (by omega), nextB_of (by omega)⟩
theorem back0 {p : Itm} {rest : List UInt8} (h0 : p.kind = 0) (he : itmE p = 0) (hn : p.num < 18446744073709551616) : uptoS ⟨itmB p ++ rest, 0⟩ p.width 18446744073709551615 = ⟨rest, 0⟩ ∧ uptoN ⟨itmB p ++ rest, 0⟩ p.width 18446744073709551615 = p.num := by
  have hb : itmB p = putBs p.num p.width := by unfold itmB; rw [if_pos h0]
  have hp : putBad p.num p.width = 0 := by unfold itmE at he; rwa [if_pos h0] at he
  have hb2 : putBs p.num p.width = beB p.num p.width.toNat := by unfold putBs; rw [if_pos hp]
  rw [hb, hb2]
  unfold putBad at hp
  have hk : knownB p.width = true := by
    cases h : knownB p.width with
    | true => rfl
    | false => rw [if_pos h] at hp; cases hp
  rw [if_neg (by rw [hk]; simp)] at hp
  have hf : p.num < 256 ^ p.width.toNat := by
    cases h : fitsB p.num p.width.toNat with
    | true => simpa [fitsB] using h
    | false => rw [if_pos h] at hp; cases hp
  have e := beN_beB p.num p.width.toNat hf
  have := @upto_of (beB p.num p.width.toNat) rest p.width 18446744073709551615 hk (beB_len _ _) (by rw [e]; omega)
  rwa [e] at this
theorem back1 {p : Itm} {rest : List UInt8} (h0 : p.kind = 1) : rawS ⟨itmB p ++ rest, 0⟩ (p.cut.length : Int) = ⟨rest, 0⟩ ∧ rawB ⟨itmB p ++ rest, 0⟩ (p.cut.length : Int) = p.cut := by
  have hb : itmB p = p.cut := by unfold itmB; rw [if_neg (by omega), if_pos h0]
  rw [hb]
  exact raw_of rfl
theorem back2 {p : Itm} {rest : List UInt8} (h0 : p.kind = 2) : readS ⟨itmB p ++ rest, 0⟩ 60 = ⟨rest, 0⟩ ∧ readB ⟨itmB p ++ rest, 0⟩ 60 = p.cut := by
  have hb : itmB p = beB p.cut.length 2 ++ p.cut := by unfold itmB; rw [if_neg (by omega), if_neg (by omega), if_pos h0]
  have hc : p.cut.length ≤ 60 := by unfold Itm.cut; rw [List.length_take]; omega
  have e := beN_beB p.cut.length 2 (by omega)
  have hl := beB_len p.cut.length 2
  rw [hb, List.append_assoc]
  unfold readS readB
  simp only [okN_of hl, nextB_of hl, nextS_of hl, e]
  rw [if_neg (by simp), if_neg (by omega), if_neg (by simp), if_neg (by omega)]
  exact raw_of rfl
theorem back3 {p : Itm} {rest : List UInt8} (h0 : p.kind ≠ 0) (h1 : p.kind ≠ 1) (h2 : p.kind ≠ 2) : uptoS ⟨itmB p ++ rest, 0⟩ 1 1 = ⟨rest, 0⟩ ∧ decide (uptoN ⟨itmB p ++ rest, 0⟩ 1 1 = 1) = oddB p.num := by
  have hb : itmB p = [UInt8.ofNat (if oddB p.num = true then 1 else 0)] := by unfold itmB; rw [if_neg h0, if_neg h1, if_neg h2]
  rw [hb]
  cases h : oddB p.num
  · have := @upto_of [UInt8.ofNat 0] rest 1 1 (by decide) rfl (by decide)
    refine ⟨by simpa using this.1, ?_⟩
    have h2 := this.2
    simp only [Bool.false_eq_true, if_false]
    rw [h2]
    decide
  · have := @upto_of [UInt8.ofNat 1] rest 1 1 (by decide) rfl (by decide)
    refine ⟨by simpa using this.1, ?_⟩
    have h2 := this.2
    simp only [if_true]
    rw [h2]
    decide
/-- What is left of the bytes of the first k, behind the first j. -/
def restB (l : List Itm) (j k : Nat) : List UInt8 := ((l.take k).drop j).flatMap itmB
theorem restB_end (l : List Itm) (k : Nat) : restB l k k = [] := by
  unfold restB
  rw [List.drop_eq_nil_of_le (by rw [List.length_take]; omega)]
  rfl
theorem restB_step {l : List Itm} {j k : Nat} (hj : j < k) (hk : k ≤ l.length) : restB l j k = itmB (l.getD j noItm) ++ restB l (j + 1) k := by
  have hlt : j < (l.take k).length := by rw [List.length_take]; omega
  unfold restB
  rw [List.drop_eq_getElem_cons hlt, List.flatMap_cons, List.getElem_take]
  congr 2
  rw [List.getD_eq_getElem?_getD, List.getElem?_eq_getElem (by omega)]
  rfl
theorem restB_snoc {l : List Itm} {k : Nat} (hk : k < l.length) : restB l 0 (k + 1) = restB l 0 k ++ itmB (l.getD k noItm) := by
  unfold restB
  rw [List.drop_zero, List.drop_zero, take_succ_getD l k noItm hk, List.flatMap_append]
  simp













def tupAt (v : Value) (i : Nat) : Value := match v with
  | .tuple vs => vs.getD i undef
  | _ => undef
theorem tupAt0 (a b : Value) : tupAt (.tuple #[a, b]) 0 = a := rfl
theorem tupAt1 (a b : Value) : tupAt (.tuple #[a, b]) 1 = b := rfl
def isTup (er : Int) (v : Value) (_ : World) : Prop := ∃ x : Value, v = .tuple #[x, .int .i64 er]
theorem isTup_keeps {er : Int} {G : World → World → Prop} : ∀ v W W', G W W' → isTup er v W → isTup er v W' := fun _ _ _ _ h => h

theorem flat_len (l : List Itm) : (l.flatMap itmB).length ≤ 62 * l.length := by
  induction l with
  | nil => simp
  | cons p l ih =>
    rw [List.flatMap_cons, List.length_append, List.length_cons]
    have := itmB_len p
    omega
theorem restB_len (l : List Itm) (j k : Nat) : (restB l j k).length ≤ 62 * k := by
  unfold restB
  have h := flat_len ((l.take k).drop j)
  rw [List.length_drop, List.length_take] at h
  omega

set_option maxRecDepth 100000 in
set_option maxHeartbeats 40000000 in
theorem FixBack_walk (B : Option Addr) (m d : Nat) (l : List Itm) (w : World) (hl : ItmsAt w B m l) :
    Calls Try.prog 8 #[.slice B m d] w fun e w' => e = .returned (.bool true) ∧ Below w.heap.size w w' := by
  have hm := hl.2.1
  have hnew := fixNew_any 5000 w
  rw [show max (5000 : Int) 0 = 5000 from rfl] at hnew
  go_enter Try.func8, Try.ntmps8
  go_wp2_with fail
  refine hnew.mono ?_
  rintro e w1 ⟨rfl, h1, hb1⟩
  clear hnew
  go_wp2_with fail
  go_loopw [4, 5] (fun c i wr => ∃ (k : Nat) (sl : Value) (s : OutS), k ≤ m ∧ k ≤ 30 ∧ i = .int .i64 (k : Int) ∧ c = .int .i64 (k : Int) ∧ s.most = 5000 ∧ s.err = 0 ∧ s.b.length ≤ 62 * k ∧ OutAt wr w.heap.size w.heap.size sl s ∧ Hid (s.b = restB l 0 k) ∧ Hid (∀ j, j < k → itmE (l.getD j noItm) = 0) ∧ Below w.heap.size w wr) (fun _ i _ => m - (intOf i).toNat)
  case atStart => exact ⟨0, _, ⟨[], 5000, 0⟩, Nat.zero_le _, by omega, rfl, rfl, rfl, rfl, by simp, h1, Lib.hid (restB_end l 0).symm, Lib.hid (fun j hj => absurd hj (Nat.not_lt_zero j)), hb1⟩
  case round =>
    obtain ⟨k, sl, s, hk, hk30, rfl, rfl, hsM, hse, hsl, ho, HB, HG, hb⟩ := hrel
    clear h1 hb1
    have hs := hb.size
    have hsm : s.small := ⟨by omega, by omega, by omega⟩
    by_cases hlt : k < m ∧ k < 30
    · obtain ⟨hl1, hl2⟩ := hlt
      obtain ⟨p, b, o, hp, hpm, rfl, hbl, hP⟩ := hl.get hl1
      obtain ⟨f1, f2, f3, f4, f5, f6⟩ := hl.2.2.2 p hpm
      by_cases hbad : itmE p = 0
      · have hbl' := itmB_len p
        have e4 : itmS s p = ⟨s.b ++ itmB p, 5000, 0⟩ := by rw [← hsM]; exact @itmS_put s p hse hbad (by omega)
        by_cases h0 : p.kind = 0
        · obtain ⟨er, her⟩ : ∃ z, putBad p.num p.width = z := ⟨_, rfl⟩
          have hep : itmE p = er := by unfold itmE; rw [if_pos h0]; exact her
          have hbW : ∀ W, Keeps [] wr W → Below w.heap.size w W := fun W hk => hb.trans (hk.nil_below.mono hs)
          have hpt := fun W => refPut_any p.num p.width W f1
          obtain ⟨pb, hpb⟩ : ∃ z, putBs p.num p.width = z := ⟨_, rfl⟩
          simp only [her, hpb] at hpt
          obtain ⟨x0, x1, x2, x3, xl⟩ := hP wr hb
          simp only [PC.val] at x3
          rw [h0] at x0
          clear hpb her
          go_wp2_with fail
          refine wp_region_calls 16 [(10, .some_ (isTup er)), (11, .some_ (isTup er))] (by kernel_rfl) (by kernel_rfl) rfl ⟨isTup_keeps, isTup_keeps, trivial⟩ ?_
          simp only [List.take_succ_cons, List.take_zero, List.drop_succ_cons, List.drop_zero]
          clear x0 x1 x2 x3 xl
          iterate 4 refine dep_reckons rfl (by kernel_rfl) (fun W hG hF' => by go_simp <;> rfl) (by simp only [Act.put, List.setIfInBounds_toArray, List.set_cons_zero, List.set_cons_succ]; rfl) ?_
          refine dep_reckons rfl (by kernel_rfl) (fun W hG hF' => by have hp' := hP W (hbW W (keeps_drew hG)); simp only [PC.val] at hp'; obtain ⟨y0, y1, y2, y3, yl⟩ := hp'; go_simp <;> rfl) (by simp only [Act.put, List.setIfInBounds_toArray, List.set_cons_zero, List.set_cons_succ]; rfl) ?_
          iterate 4 refine dep_reckons rfl (by kernel_rfl) (fun W hG hF' => by go_simp <;> rfl) (by simp only [Act.put, List.setIfInBounds_toArray, List.set_cons_zero, List.set_cons_succ]; rfl) ?_
          refine dep_reckons rfl (by kernel_rfl) (fun W hG hF' => by have hp' := hP W (hbW W (keeps_drew hG)); simp only [PC.val] at hp'; obtain ⟨y0, y1, y2, y3, yl⟩ := hp'; go_simp <;> rfl) (by simp only [Act.put, List.setIfInBounds_toArray, List.set_cons_zero, List.set_cons_succ]; rfl) ?_
          refine dep_some rfl (by kernel_rfl) (fun W hG hF' => ?_) (fun v10 => ?_)
          · unfold opGives
            go_simp
            refine (hpt W).mono ?_
            rintro e w2 ⟨⟨A2, c2, rfl, _⟩, hb2⟩
            exact ⟨_, rfl, ⟨_, rfl⟩, Keeps.of_below hb2 []⟩
          simp only [Act.put, List.setIfInBounds_toArray, List.set_cons_zero, List.set_cons_succ]
          refine dep_some rfl (by kernel_rfl) (fun W hG hF' => ?_) (fun v11 => ?_)
          · have hf := hF' _ List.mem_cons_self (by kernel_rfl)
            unfold opGives
            go_simp
            exact ⟨hf, Keeps.refl [] _⟩
          simp only [Act.put, List.setIfInBounds_toArray, List.set_cons_zero, List.set_cons_succ]
          refine dep_reckons (c := tupAt v11 0) rfl (by kernel_rfl) (fun W hG hF' => by obtain ⟨x, rfl⟩ := hF' _ List.mem_cons_self (by kernel_rfl); go_simp; rfl) (by simp only [Act.put, List.setIfInBounds_toArray, List.set_cons_zero, List.set_cons_succ]; rfl) ?_
          refine dep_reckons (c := tupAt v11 1) rfl (by kernel_rfl) (fun W hG hF' => by obtain ⟨x, rfl⟩ := hF' _ List.mem_cons_self (by kernel_rfl); go_simp; rfl) (by simp only [Act.put, List.setIfInBounds_toArray, List.set_cons_zero, List.set_cons_succ]; rfl) ?_
          iterate 2 refine dep_reckons rfl (by kernel_rfl) (fun W hG hF' => by go_simp <;> rfl) (by simp only [Act.put, List.setIfInBounds_toArray, List.set_cons_zero, List.set_cons_succ]; rfl) ?_
          refine dep_nil fun W hG hF2 => ?_
          have hks := keeps_drew hG
          obtain ⟨x, rfl⟩ := hF2 _ List.mem_cons_self
          have hbX := hbW W hks
          have hoX := ho.below hks.nil_below
          clear hF2 hG hpt hbW
          simp only [tupAt0, tupAt1]
          obtain rfl : er = 0 := by rw [← hep]; exact hbad
          have hput := put_any w.heap.size w.heap.size sl s p W hoX hbX.size hsm f1 (f4.below_ hbX) f5 f6 (fun h0 => f4.lt h0)
          rw [e4] at hput
          simp only [Itm.arr, PC.val] at hput
          obtain ⟨bs, hbs⟩ : ∃ z, itmB p = z := ⟨_, rfl⟩
          rw [hbs, hbad] at hput
          have HB2 : Hid (s.b ++ bs = restB l 0 (k + 1)) := Lib.hid (by rw [restB_snoc (by rw [hl.1]; exact hl1), hp, hbs, HB.out])
          rw [hbs] at hbl'
          have HG2 : Hid (∀ j, j < k + 1 → itmE (l.getD j noItm) = 0) := Lib.hid (fun j hj => by
            by_cases hjk : j < k
            · exact HG.out j hjk
            · rw [show j = k by omega, hp]; exact hbad)
          obtain ⟨x0, x1, x2, x3, xl⟩ := hP W hbX
          simp only [PC.val] at x3
          clear hbs e4
          rw [h0] at x0 hput
          go_wp2_with fail
          refine hput.mono ?_
          rintro e w2 ⟨⟨At, ct, rfl, hrt, _, _⟩, hst⟩
          obtain ⟨sl', ho2, hk2, _⟩ := hst
          have hb2 : Below w.heap.size w w2 := hbX.trans (hk2.below hbX.size fun j hj => by
            rcases List.mem_cons.1 hj with e | hj
            · omega
            · exact own_ge hoX.own j (by simpa using hj))
          clear hput hk2 hrt x0 x1 x2 x3 xl
          go_wp2_with fail
          exact ⟨⟨k + 1, sl', _, by omega, by omega, rfl, rfl, rfl, rfl, by simp only [List.length_append]; omega, ho2, HB2, HG2, hb2⟩, by simp [intOf]; omega⟩
        · have t0 : (p.kind == 0) = false := by simp [h0]
          have hput := put_any w.heap.size w.heap.size sl s p wr ho hb.size hsm f1 (f4.below_ hb) f5 f6 (fun h0 => f4.lt h0)
          rw [e4] at hput
          simp only [Itm.arr, PC.val] at hput
          obtain ⟨bs, hbs⟩ : ∃ z, itmB p = z := ⟨_, rfl⟩
          rw [hbs, hbad] at hput
          have HB2 : Hid (s.b ++ bs = restB l 0 (k + 1)) := Lib.hid (by rw [restB_snoc (by rw [hl.1]; exact hl1), hp, hbs, HB.out])
          rw [hbs] at hbl'
          have HG2 : Hid (∀ j, j < k + 1 → itmE (l.getD j noItm) = 0) := Lib.hid (fun j hj => by
            by_cases hjk : j < k
            · exact HG.out j hjk
            · rw [show j = k by omega, hp]; exact hbad)
          obtain ⟨x0, x1, x2, x3, xl⟩ := hP wr hb
          simp only [PC.val] at x3
          clear hbs e4
          skip
          go_wp2_with fail
          refine hput.mono ?_
          rintro e w2 ⟨⟨At, ct, rfl, hrt, _, _⟩, hst⟩
          obtain ⟨sl', ho2, hk2, _⟩ := hst
          have hb2 : Below w.heap.size w w2 := hb.trans (hk2.below hb.size fun j hj => by
            rcases List.mem_cons.1 hj with e | hj
            · omega
            · exact own_ge ho.own j (by simpa using hj))
          clear hput hk2 hrt x0 x1 x2 x3 xl
          go_wp2_with fail
          exact ⟨⟨k + 1, sl', _, by omega, by omega, rfl, rfl, rfl, rfl, by simp only [List.length_append]; omega, ho2, HB2, HG2, hb2⟩, by simp [intOf]; omega⟩
      · have h0 : p.kind = 0 := by
          cases (inferInstance : Decidable (p.kind = 0)) with
          | isTrue h => exact h
          | isFalse h => exact absurd (by unfold itmE; rw [if_neg h]) hbad
        obtain ⟨er, her⟩ : ∃ z, putBad p.num p.width = z := ⟨_, rfl⟩
        have hep : itmE p = er := by unfold itmE; rw [if_pos h0]; exact her
        have hbW : ∀ W, Keeps [] wr W → Below w.heap.size w W := fun W hk => hb.trans (hk.nil_below.mono hs)
        have hpt := fun W => refPut_any p.num p.width W f1
        obtain ⟨pb, hpb⟩ : ∃ z, putBs p.num p.width = z := ⟨_, rfl⟩
        simp only [her, hpb] at hpt
        obtain ⟨x0, x1, x2, x3, xl⟩ := hP wr hb
        simp only [PC.val] at x3
        rw [h0] at x0
        clear hpb her
        go_wp2_with fail
        refine wp_region_calls 16 [(10, .some_ (isTup er)), (11, .some_ (isTup er))] (by kernel_rfl) (by kernel_rfl) rfl ⟨isTup_keeps, isTup_keeps, trivial⟩ ?_
        simp only [List.take_succ_cons, List.take_zero, List.drop_succ_cons, List.drop_zero]
        clear x0 x1 x2 x3 xl
        iterate 4 refine dep_reckons rfl (by kernel_rfl) (fun W hG hF' => by go_simp <;> rfl) (by simp only [Act.put, List.setIfInBounds_toArray, List.set_cons_zero, List.set_cons_succ]; rfl) ?_
        refine dep_reckons rfl (by kernel_rfl) (fun W hG hF' => by have hp' := hP W (hbW W (keeps_drew hG)); simp only [PC.val] at hp'; obtain ⟨y0, y1, y2, y3, yl⟩ := hp'; go_simp <;> rfl) (by simp only [Act.put, List.setIfInBounds_toArray, List.set_cons_zero, List.set_cons_succ]; rfl) ?_
        iterate 4 refine dep_reckons rfl (by kernel_rfl) (fun W hG hF' => by go_simp <;> rfl) (by simp only [Act.put, List.setIfInBounds_toArray, List.set_cons_zero, List.set_cons_succ]; rfl) ?_
        refine dep_reckons rfl (by kernel_rfl) (fun W hG hF' => by have hp' := hP W (hbW W (keeps_drew hG)); simp only [PC.val] at hp'; obtain ⟨y0, y1, y2, y3, yl⟩ := hp'; go_simp <;> rfl) (by simp only [Act.put, List.setIfInBounds_toArray, List.set_cons_zero, List.set_cons_succ]; rfl) ?_
        refine dep_some rfl (by kernel_rfl) (fun W hG hF' => ?_) (fun v10 => ?_)
        · unfold opGives
          go_simp
          refine (hpt W).mono ?_
          rintro e w2 ⟨⟨A2, c2, rfl, _⟩, hb2⟩
          exact ⟨_, rfl, ⟨_, rfl⟩, Keeps.of_below hb2 []⟩
        simp only [Act.put, List.setIfInBounds_toArray, List.set_cons_zero, List.set_cons_succ]
        refine dep_some rfl (by kernel_rfl) (fun W hG hF' => ?_) (fun v11 => ?_)
        · have hf := hF' _ List.mem_cons_self (by kernel_rfl)
          unfold opGives
          go_simp
          exact ⟨hf, Keeps.refl [] _⟩
        simp only [Act.put, List.setIfInBounds_toArray, List.set_cons_zero, List.set_cons_succ]
        refine dep_reckons (c := tupAt v11 0) rfl (by kernel_rfl) (fun W hG hF' => by obtain ⟨x, rfl⟩ := hF' _ List.mem_cons_self (by kernel_rfl); go_simp; rfl) (by simp only [Act.put, List.setIfInBounds_toArray, List.set_cons_zero, List.set_cons_succ]; rfl) ?_
        refine dep_reckons (c := tupAt v11 1) rfl (by kernel_rfl) (fun W hG hF' => by obtain ⟨x, rfl⟩ := hF' _ List.mem_cons_self (by kernel_rfl); go_simp; rfl) (by simp only [Act.put, List.setIfInBounds_toArray, List.set_cons_zero, List.set_cons_succ]; rfl) ?_
        iterate 2 refine dep_reckons rfl (by kernel_rfl) (fun W hG hF' => by go_simp <;> rfl) (by simp only [Act.put, List.setIfInBounds_toArray, List.set_cons_zero, List.set_cons_succ]; rfl) ?_
        refine dep_nil fun W hG hF2 => ?_
        have hks := keeps_drew hG
        obtain ⟨x, rfl⟩ := hF2 _ List.mem_cons_self
        have hbX := hbW W hks
        have hoX := ho.below hks.nil_below
        clear hF2 hG hpt hbW
        simp only [tupAt0, tupAt1]
        have t0 : (er == 0) = false := by rw [← hep]; simp [hbad]
        have hdn := outDone_any w.heap.size w.heap.size sl s W hoX (by omega)
        rw [show doneB s = s.b from if_pos hse, hse] at hdn
        go_wp2_with fail
        refine hdn.mono ?_
        rintro e w2 ⟨⟨A2, c2, rfl, ho2⟩, hb2⟩
        have hB2 := hbX.trans (hb2.mono hbX.size)
        obtain ⟨_, _, hv2, hlc2, _⟩ := own_form ho2
        have hc2 : s.b.length ≤ c2 := by injection hv2; omega
        have hrd2 := Rd.of_own ho2
        clear hdn hb2 ho2 hv2 hlc2
        go_wp2_with fail
        refine (inOf_any A2 s.b.length c2 s.b w2 hrd2 hc2 (by omega)).mono ?_
        rintro e w3 ⟨⟨gi, rfl, hi3⟩, hb3⟩
        rw [HB.out] at hi3
        have hB3 := hB2.trans (hb3.mono hB2.size)
        have hge := hB2.size
        clear hb3 hrd2 hc2 hB2
        go_wp2_with fail
        go_loopw [11] (fun i wr => ∃ j : Nat, j ≤ k ∧ i = .int .i64 (j : Int) ∧ InAt wr w2.heap.size gi ⟨restB l j k, 0⟩ ∧ Below w.heap.size w wr) (fun i _ => k - (intOf i).toNat)
        case atStart => exact ⟨0, Nat.zero_le _, rfl, hi3, hB3⟩
        case round =>
          obtain ⟨j, hj, rfl, hi, hbj⟩ := hrel
          clear hi3 hB3
          by_cases hjk : j < k
          · obtain ⟨q, b', o', hq, hqm, hBe, hbl', hQ⟩ := hl.get (Nat.lt_of_lt_of_le hjk hk)
            obtain ⟨f1', f2', f3', f4', f5', f6'⟩ := hl.2.2.2 q hqm
            cases hBe
            have hgood := HG.out j hjk
            have hjm : j < m := Nat.lt_of_lt_of_le hjk hk
            have hstep := restB_step hjk (show k ≤ l.length by rw [hl.1]; omega)
            rw [hq] at hgood hstep
            have hlen := restB_len l j k
            rw [hstep] at hi hlen
            obtain ⟨R, hR⟩ : ∃ z, restB l (j + 1) k = z := ⟨_, rfl⟩
            rw [hR] at hi hlen
            have HR := Lib.hid hR
            have hszj := hbj.size
            have hlenq := itmB_len q
            have hcut := fun X => cut_any q.x.A q.x.bs.length q.x.c 60 X (by omega) f5'
            have hrc : Rd w q.x.A (min q.x.bs.length 60) q.cut := rd_cut (m := 60) f4'
            have hlc' : q.cut.length = min q.x.bs.length 60 := hrc.1
            have b0 := fun h => @back0 q R h hgood f1'
            have b1 := @back1 q R
            have b2 := @back2 q R
            have b3 := @back3 q R
            obtain ⟨x0, x1, x2, x3, xl⟩ := hQ _ hbj
            obtain ⟨qk, qn, qw, qx⟩ := q
            obtain ⟨C, hC⟩ : ∃ z, Itm.cut ⟨qk, qn, qw, qx⟩ = z := ⟨_, rfl⟩
            obtain ⟨I, hI⟩ : ∃ z, itmB ⟨qk, qn, qw, qx⟩ = z := ⟨_, rfl⟩
            rw [hC] at hrc hlc'
            simp only [hC, hI] at b0 b1 b2 b3 hi hlen hlenq
            obtain ⟨qA, qc, qb⟩ := qx
            simp only [PC.val] at *
            obtain ⟨L, hL⟩ : ∃ z, qb.length = z := ⟨_, rfl⟩
            rw [hL] at hrc hlc' f5' x3
            simp only [hL] at hcut hQ
            obtain ⟨N, hN⟩ : ∃ z, min L 60 = z := ⟨_, rfl⟩
            rw [hN] at hrc hlc'
            simp only [hN] at hcut
            have hNL : N ≤ L ∧ N ≤ 60 := by omega
            rw [hlc'] at b1
            clear hC hI hR hq hqm hgood hstep hL hN hlc' HG
            by_cases k0 : qk = 0
            · subst k0
              obtain ⟨e1, e2⟩ := b0 rfl
              have hget := fun X h => inGet_any w2.heap.size gi ⟨I ++ R, 0⟩ qw X h
              simp only [e1, e2] at hget
              clear e1 e2 b0 b1 b2 b3
              go_wp2_with fail
              refine (hcut _).mono ?_
              rintro e w4 ⟨rfl, rfl⟩
              go_wp2_with fail
              have hPW : ∀ W, Keeps [gi] wr W → Below w.heap.size w W := fun W hk => hbj.trans (hk.below hszj fun j hj => by rw [show j = gi by simpa using hj]; exact Nat.le_trans hge hi.ge)
              clear x0 x1 x2 x3 xl
              refine wp_region_writes [gi] 12 6 (fun v W => v = .int .u64 (qn : Int) ∧ InAt W w2.heap.size gi ⟨R, 0⟩) [] (by kernel_rfl) (by kernel_rfl) rfl trivial (fun v W W' hk h => ⟨h.1, h.2.below hk.nil_below⟩) (by kernel_rfl) ?_
              simp only [List.take_succ_cons, List.take_zero, List.drop_succ_cons, List.drop_zero]
              iterate 5 refine dep_reckons rfl (by kernel_rfl) (fun W hG hF' => by go_simp <;> rfl) (by simp only [Act.put, List.setIfInBounds_toArray, List.set_cons_zero, List.set_cons_succ]; rfl) ?_
              refine dep_reckons rfl (by kernel_rfl) (fun W hG hF' => by have hp' := hQ W (hPW W (keeps_drew hG)); obtain ⟨y0, y1, y2, y3, yl⟩ := hp'; go_simp <;> rfl) (by simp only [Act.put, List.setIfInBounds_toArray, List.set_cons_zero, List.set_cons_succ]; rfl) ?_
              refine dep_last rfl (by kernel_rfl) (fun W hG hF' => ?_) (fun v1 => ?_)
              · unfold opGives
                go_simp
                refine (hget W (hi.below (keeps_drew hG).nil_below)).mono ?_
                rintro e w4 ⟨rfl, hi4, hk4⟩
                exact ⟨_, rfl, ⟨rfl, hi4⟩, hk4⟩
              simp only [Act.put, List.setIfInBounds_toArray, List.set_cons_zero, List.set_cons_succ]
              iterate 4 refine dep_reckons rfl (by kernel_rfl) (fun W hG hF' => by go_simp <;> rfl) (by simp only [Act.put, List.setIfInBounds_toArray, List.set_cons_zero, List.set_cons_succ]; rfl) ?_
              refine dep_reckons rfl (by kernel_rfl) (fun W hG hF' => by have hp' := hQ W (hPW W (keeps_drew hG)); obtain ⟨y0, y1, y2, y3, yl⟩ := hp'; go_simp <;> rfl) (by simp only [Act.put, List.setIfInBounds_toArray, List.set_cons_zero, List.set_cons_succ]; rfl) ?_
              refine dep_nil fun W hG hF2 => ?_
              obtain ⟨rfl, hi5⟩ := hF2 _ List.mem_cons_self
              have hb5 := hPW W (keeps_drew hG)
              clear hF2 hG hget hPW
              go_wp2_with fail
              exact ⟨⟨j + 1, by omega, rfl, by rw [HR.out]; exact hi5, hb5⟩, by simp [intOf]; omega⟩
            · by_cases k1 : qk = 1
              · subst k1
                obtain ⟨e1, e2⟩ := b1 rfl
                clear b0 b2 b3 k0
                have hraw := fun X h => inRaw_any w2.heap.size gi ⟨I ++ R, 0⟩ (N : Int) X h (by omega) (by simp only [List.length_append] at hlen ⊢; omega)
                simp only [e1, e2] at hraw
                clear e1 e2 b1
                go_wp2_with fail
                refine (hcut _).mono ?_
                rintro e w4 ⟨rfl, rfl⟩
                go_wp2_with fail
                refine (hraw _ hi).mono ?_
                rintro e w4 ⟨⟨A4, c4, rfl, ho4⟩, hi4, hk4⟩
                have hb4 := hbj.trans (hk4.below hszj fun j hj => by rw [show j = gi by simpa using hj]; exact Nat.le_trans hge hi.ge)
                have hr4 := Rd.of_own ho4
                have hr5 := hrc.below_ hb4
                have hSame := Same_any A4 qA C.length N c4 qc C C w4 hr4 hr5
                clear hraw hi ho4 hk4 hr4 hr5 x0 x1 x2 x3 xl hcut
                go_wp2_with fail
                refine hSame.mono ?_
                rintro e w5 ⟨he5, hd5⟩
                obtain rfl : e = .returned (.bool true) := by rw [he5]; simp
                have hi5 := hi4.below (hd5.below _)
                have hb5 := hb4.trans (hd5.below _)
                clear he5 hSame hi4 hb4 hd5
                go_wp2_with fail
                exact ⟨⟨j + 1, by omega, rfl, by rw [HR.out]; exact hi5, hb5⟩, by simp [intOf]; omega⟩
              · by_cases k2 : qk = 2
                · subst k2
                  obtain ⟨e1, e2⟩ := b2 rfl
                  clear b0 b3 k0 k1
                  have hraw := fun X h => inText_any w2.heap.size gi ⟨I ++ R, 0⟩ 60 X h (by simp only [List.length_append] at hlen ⊢; omega)
                  simp only [e1, e2] at hraw
                  clear e1 e2 b1 b2
                  go_wp2_with fail
                  refine (hcut _).mono ?_
                  rintro e w4 ⟨rfl, rfl⟩
                  go_wp2_with fail
                  refine (hraw _ hi).mono ?_
                  rintro e w4 ⟨⟨A4, c4, rfl, ho4⟩, hi4, hk4⟩
                  have hb4 := hbj.trans (hk4.below hszj fun j hj => by rw [show j = gi by simpa using hj]; exact Nat.le_trans hge hi.ge)
                  have hr4 := Rd.of_own ho4
                  have hr5 := hrc.below_ hb4
                  have hSame := Same_any A4 qA C.length N c4 qc C C w4 hr4 hr5
                  clear hraw hi ho4 hk4 hr4 hr5 x0 x1 x2 x3 xl hcut
                  go_wp2_with fail
                  refine hSame.mono ?_
                  rintro e w5 ⟨he5, hd5⟩
                  obtain rfl : e = .returned (.bool true) := by rw [he5]; simp
                  have hi5 := hi4.below (hd5.below _)
                  have hb5 := hb4.trans (hd5.below _)
                  clear he5 hSame hi4 hb4 hd5
                  go_wp2_with fail
                  exact ⟨⟨j + 1, by omega, rfl, by rw [HR.out]; exact hi5, hb5⟩, by simp [intOf]; omega⟩
                · obtain ⟨ov, hov⟩ : ∃ z, oddB qn = z := ⟨_, rfl⟩
                  obtain ⟨e1, e2⟩ := b3 k0 k1 k2
                  rw [hov] at e2
                  have hod : ((qn : Int) % 2 == 1) = ov := by
                    rw [← hov]
                    unfold oddB
                    rw [Bool.eq_iff_iff]
                    simp
                    omega
                  have hbool := fun X h => inBool_any w2.heap.size gi ⟨I ++ R, 0⟩ X h
                  simp only [e1, e2] at hbool
                  clear e1 e2 b0 b1 b2 b3 hov
                  go_wp2_with fail
                  refine (hcut _).mono ?_
                  rintro e w4 ⟨rfl, rfl⟩
                  go_wp2_with fail
                  have hPW : ∀ W, Keeps [gi] wr W → Below w.heap.size w W := fun W hk => hbj.trans (hk.below hszj fun j hj => by rw [show j = gi by simpa using hj]; exact Nat.le_trans hge hi.ge)
                  clear x0 x1 x2 x3 xl
                  refine wp_region_writes [gi] 9 1 (fun v W => v = .bool ov ∧ InAt W w2.heap.size gi ⟨R, 0⟩) [] (by kernel_rfl) (by kernel_rfl) rfl trivial (fun v W W' hk h => ⟨h.1, h.2.below hk.nil_below⟩) (by kernel_rfl) ?_
                  simp only [List.take_succ_cons, List.take_zero, List.drop_succ_cons, List.drop_zero]
                  refine dep_reckons rfl (by kernel_rfl) (fun W hG hF' => by go_simp <;> rfl) (by simp only [Act.put, List.setIfInBounds_toArray, List.set_cons_zero, List.set_cons_succ]; rfl) ?_
                  refine dep_last rfl (by kernel_rfl) (fun W hG hF' => ?_) (fun v1 => ?_)
                  · unfold opGives
                    go_simp
                    refine (hbool W (hi.below (keeps_drew hG).nil_below)).mono ?_
                    rintro e w4 ⟨rfl, hi4, hk4⟩
                    exact ⟨_, rfl, ⟨rfl, hi4⟩, hk4⟩
                  simp only [Act.put, List.setIfInBounds_toArray, List.set_cons_zero, List.set_cons_succ]
                  iterate 4 refine dep_reckons rfl (by kernel_rfl) (fun W hG hF' => by go_simp <;> rfl) (by simp only [Act.put, List.setIfInBounds_toArray, List.set_cons_zero, List.set_cons_succ]; rfl) ?_
                  refine dep_reckons rfl (by kernel_rfl) (fun W hG hF' => by have hp' := hQ W (hPW W (keeps_drew hG)); obtain ⟨y0, y1, y2, y3, yl⟩ := hp'; go_simp <;> rfl) (by simp only [Act.put, List.setIfInBounds_toArray, List.set_cons_zero, List.set_cons_succ]; rfl) ?_
                  refine dep_reckons rfl (by kernel_rfl) (fun W hG hF' => by go_simp <;> rfl) (by simp only [Act.put, List.setIfInBounds_toArray, List.set_cons_zero, List.set_cons_succ]; rfl) ?_
                  refine dep_reckons (c := .bool ov) rfl (by kernel_rfl) (fun W hG hF' => by go_simp <;> first | rfl | (rw [← hod]; rfl) | simp [← hod]) (by simp only [Act.put, List.setIfInBounds_toArray, List.set_cons_zero, List.set_cons_succ]; rfl) ?_
                  refine dep_nil fun W hG hF2 => ?_
                  obtain ⟨rfl, hi5⟩ := hF2 _ List.mem_cons_self
                  have hb5 := hPW W (keeps_drew hG)
                  clear hF2 hG hbool hPW
                  clear hod
                  go_wp2_with fail
                  exact ⟨⟨j + 1, by omega, rfl, by rw [HR.out]; exact hi5, hb5⟩, by simp [intOf]; omega⟩
          · obtain rfl : j = k := by omega
            rw [restB_end] at hi
            have hdn2 := inDone_any w2.heap.size gi ⟨[], 0⟩ wr hi
            rw [show doneS ⟨[], 0⟩ = 0 from rfl] at hdn2
            have hszj := hbj.size
            clear hi HG
            go_wp2_with fail
            refine hdn2.mono ?_
            rintro e w4 ⟨rfl, rfl⟩
            go_wp2_with fail
            refine (awake01 wr).mono ?_
            rintro e w5 ⟨rfl, hb5⟩
            have hfin := hbj.trans (hb5.mono hszj)
            clear hdn2 hb5
            go_wp2_with fail
            go_ret
            exact ⟨rfl, hfin⟩
    · have e : k = m ∨ (k < m ∧ k = 30) := by omega
      rcases e with e | ⟨h1, e⟩
      · have tkm : ¬ ((k : Int) < (m : Int)) := by omega
        have hdn := outDone_any w.heap.size w.heap.size sl s wr ho (by omega)
        rw [show doneB s = s.b from if_pos hse, hse] at hdn
        go_wp2_with fail
        refine hdn.mono ?_
        rintro e w2 ⟨⟨A2, c2, rfl, ho2⟩, hb2⟩
        have hB2 := hb.trans (hb2.mono hb.size)
        obtain ⟨_, _, hv2, hlc2, _⟩ := own_form ho2
        have hc2 : s.b.length ≤ c2 := by injection hv2; omega
        have hrd2 := Rd.of_own ho2
        clear hdn hb2 ho2 hv2 hlc2
        go_wp2_with fail
        refine (inOf_any A2 s.b.length c2 s.b w2 hrd2 hc2 (by omega)).mono ?_
        rintro e w3 ⟨⟨gi, rfl, hi3⟩, hb3⟩
        rw [HB.out] at hi3
        have hB3 := hB2.trans (hb3.mono hB2.size)
        have hge := hB2.size
        clear hb3 hrd2 hc2 hB2
        go_wp2_with fail
        go_loopw [11] (fun i wr => ∃ j : Nat, j ≤ k ∧ i = .int .i64 (j : Int) ∧ InAt wr w2.heap.size gi ⟨restB l j k, 0⟩ ∧ Below w.heap.size w wr) (fun i _ => k - (intOf i).toNat)
        case atStart => exact ⟨0, Nat.zero_le _, rfl, hi3, hB3⟩
        case round =>
          obtain ⟨j, hj, rfl, hi, hbj⟩ := hrel
          clear hi3 hB3
          by_cases hjk : j < k
          · obtain ⟨q, b', o', hq, hqm, hBe, hbl', hQ⟩ := hl.get (Nat.lt_of_lt_of_le hjk hk)
            obtain ⟨f1', f2', f3', f4', f5', f6'⟩ := hl.2.2.2 q hqm
            cases hBe
            have hgood := HG.out j hjk
            have hjm : j < m := Nat.lt_of_lt_of_le hjk hk
            have hstep := restB_step hjk (show k ≤ l.length by rw [hl.1]; omega)
            rw [hq] at hgood hstep
            have hlen := restB_len l j k
            rw [hstep] at hi hlen
            obtain ⟨R, hR⟩ : ∃ z, restB l (j + 1) k = z := ⟨_, rfl⟩
            rw [hR] at hi hlen
            have HR := Lib.hid hR
            have hszj := hbj.size
            have hlenq := itmB_len q
            have hcut := fun X => cut_any q.x.A q.x.bs.length q.x.c 60 X (by omega) f5'
            have hrc : Rd w q.x.A (min q.x.bs.length 60) q.cut := rd_cut (m := 60) f4'
            have hlc' : q.cut.length = min q.x.bs.length 60 := hrc.1
            have b0 := fun h => @back0 q R h hgood f1'
            have b1 := @back1 q R
            have b2 := @back2 q R
            have b3 := @back3 q R
            obtain ⟨x0, x1, x2, x3, xl⟩ := hQ _ hbj
            obtain ⟨qk, qn, qw, qx⟩ := q
            obtain ⟨C, hC⟩ : ∃ z, Itm.cut ⟨qk, qn, qw, qx⟩ = z := ⟨_, rfl⟩
            obtain ⟨I, hI⟩ : ∃ z, itmB ⟨qk, qn, qw, qx⟩ = z := ⟨_, rfl⟩
            rw [hC] at hrc hlc'
            simp only [hC, hI] at b0 b1 b2 b3 hi hlen hlenq
            obtain ⟨qA, qc, qb⟩ := qx
            simp only [PC.val] at *
            obtain ⟨L, hL⟩ : ∃ z, qb.length = z := ⟨_, rfl⟩
            rw [hL] at hrc hlc' f5' x3
            simp only [hL] at hcut hQ
            obtain ⟨N, hN⟩ : ∃ z, min L 60 = z := ⟨_, rfl⟩
            rw [hN] at hrc hlc'
            simp only [hN] at hcut
            have hNL : N ≤ L ∧ N ≤ 60 := by omega
            rw [hlc'] at b1
            clear hC hI hR hq hqm hgood hstep hL hN hlc' HG
            by_cases k0 : qk = 0
            · subst k0
              obtain ⟨e1, e2⟩ := b0 rfl
              have hget := fun X h => inGet_any w2.heap.size gi ⟨I ++ R, 0⟩ qw X h
              simp only [e1, e2] at hget
              clear e1 e2 b0 b1 b2 b3
              go_wp2_with fail
              refine (hcut _).mono ?_
              rintro e w4 ⟨rfl, rfl⟩
              go_wp2_with fail
              have hPW : ∀ W, Keeps [gi] wr W → Below w.heap.size w W := fun W hk => hbj.trans (hk.below hszj fun j hj => by rw [show j = gi by simpa using hj]; exact Nat.le_trans hge hi.ge)
              clear x0 x1 x2 x3 xl
              refine wp_region_writes [gi] 12 6 (fun v W => v = .int .u64 (qn : Int) ∧ InAt W w2.heap.size gi ⟨R, 0⟩) [] (by kernel_rfl) (by kernel_rfl) rfl trivial (fun v W W' hk h => ⟨h.1, h.2.below hk.nil_below⟩) (by kernel_rfl) ?_
              simp only [List.take_succ_cons, List.take_zero, List.drop_succ_cons, List.drop_zero]
              iterate 5 refine dep_reckons rfl (by kernel_rfl) (fun W hG hF' => by go_simp <;> rfl) (by simp only [Act.put, List.setIfInBounds_toArray, List.set_cons_zero, List.set_cons_succ]; rfl) ?_
              refine dep_reckons rfl (by kernel_rfl) (fun W hG hF' => by have hp' := hQ W (hPW W (keeps_drew hG)); obtain ⟨y0, y1, y2, y3, yl⟩ := hp'; go_simp <;> rfl) (by simp only [Act.put, List.setIfInBounds_toArray, List.set_cons_zero, List.set_cons_succ]; rfl) ?_
              refine dep_last rfl (by kernel_rfl) (fun W hG hF' => ?_) (fun v1 => ?_)
              · unfold opGives
                go_simp
                refine (hget W (hi.below (keeps_drew hG).nil_below)).mono ?_
                rintro e w4 ⟨rfl, hi4, hk4⟩
                exact ⟨_, rfl, ⟨rfl, hi4⟩, hk4⟩
              simp only [Act.put, List.setIfInBounds_toArray, List.set_cons_zero, List.set_cons_succ]
              iterate 4 refine dep_reckons rfl (by kernel_rfl) (fun W hG hF' => by go_simp <;> rfl) (by simp only [Act.put, List.setIfInBounds_toArray, List.set_cons_zero, List.set_cons_succ]; rfl) ?_
              refine dep_reckons rfl (by kernel_rfl) (fun W hG hF' => by have hp' := hQ W (hPW W (keeps_drew hG)); obtain ⟨y0, y1, y2, y3, yl⟩ := hp'; go_simp <;> rfl) (by simp only [Act.put, List.setIfInBounds_toArray, List.set_cons_zero, List.set_cons_succ]; rfl) ?_
              refine dep_nil fun W hG hF2 => ?_
              obtain ⟨rfl, hi5⟩ := hF2 _ List.mem_cons_self
              have hb5 := hPW W (keeps_drew hG)
              clear hF2 hG hget hPW
              go_wp2_with fail
              exact ⟨⟨j + 1, by omega, rfl, by rw [HR.out]; exact hi5, hb5⟩, by simp [intOf]; omega⟩
            · by_cases k1 : qk = 1
              · subst k1
                obtain ⟨e1, e2⟩ := b1 rfl
                clear b0 b2 b3 k0
                have hraw := fun X h => inRaw_any w2.heap.size gi ⟨I ++ R, 0⟩ (N : Int) X h (by omega) (by simp only [List.length_append] at hlen ⊢; omega)
                simp only [e1, e2] at hraw
                clear e1 e2 b1
                go_wp2_with fail
                refine (hcut _).mono ?_
                rintro e w4 ⟨rfl, rfl⟩
                go_wp2_with fail
                refine (hraw _ hi).mono ?_
                rintro e w4 ⟨⟨A4, c4, rfl, ho4⟩, hi4, hk4⟩
                have hb4 := hbj.trans (hk4.below hszj fun j hj => by rw [show j = gi by simpa using hj]; exact Nat.le_trans hge hi.ge)
                have hr4 := Rd.of_own ho4
                have hr5 := hrc.below_ hb4
                have hSame := Same_any A4 qA C.length N c4 qc C C w4 hr4 hr5
                clear hraw hi ho4 hk4 hr4 hr5 x0 x1 x2 x3 xl hcut
                go_wp2_with fail
                refine hSame.mono ?_
                rintro e w5 ⟨he5, hd5⟩
                obtain rfl : e = .returned (.bool true) := by rw [he5]; simp
                have hi5 := hi4.below (hd5.below _)
                have hb5 := hb4.trans (hd5.below _)
                clear he5 hSame hi4 hb4 hd5
                go_wp2_with fail
                exact ⟨⟨j + 1, by omega, rfl, by rw [HR.out]; exact hi5, hb5⟩, by simp [intOf]; omega⟩
              · by_cases k2 : qk = 2
                · subst k2
                  obtain ⟨e1, e2⟩ := b2 rfl
                  clear b0 b3 k0 k1
                  have hraw := fun X h => inText_any w2.heap.size gi ⟨I ++ R, 0⟩ 60 X h (by simp only [List.length_append] at hlen ⊢; omega)
                  simp only [e1, e2] at hraw
                  clear e1 e2 b1 b2
                  go_wp2_with fail
                  refine (hcut _).mono ?_
                  rintro e w4 ⟨rfl, rfl⟩
                  go_wp2_with fail
                  refine (hraw _ hi).mono ?_
                  rintro e w4 ⟨⟨A4, c4, rfl, ho4⟩, hi4, hk4⟩
                  have hb4 := hbj.trans (hk4.below hszj fun j hj => by rw [show j = gi by simpa using hj]; exact Nat.le_trans hge hi.ge)
                  have hr4 := Rd.of_own ho4
                  have hr5 := hrc.below_ hb4
                  have hSame := Same_any A4 qA C.length N c4 qc C C w4 hr4 hr5
                  clear hraw hi ho4 hk4 hr4 hr5 x0 x1 x2 x3 xl hcut
                  go_wp2_with fail
                  refine hSame.mono ?_
                  rintro e w5 ⟨he5, hd5⟩
                  obtain rfl : e = .returned (.bool true) := by rw [he5]; simp
                  have hi5 := hi4.below (hd5.below _)
                  have hb5 := hb4.trans (hd5.below _)
                  clear he5 hSame hi4 hb4 hd5
                  go_wp2_with fail
                  exact ⟨⟨j + 1, by omega, rfl, by rw [HR.out]; exact hi5, hb5⟩, by simp [intOf]; omega⟩
                · obtain ⟨ov, hov⟩ : ∃ z, oddB qn = z := ⟨_, rfl⟩
                  obtain ⟨e1, e2⟩ := b3 k0 k1 k2
                  rw [hov] at e2
                  have hod : ((qn : Int) % 2 == 1) = ov := by
                    rw [← hov]
                    unfold oddB
                    rw [Bool.eq_iff_iff]
                    simp
                    omega
                  have hbool := fun X h => inBool_any w2.heap.size gi ⟨I ++ R, 0⟩ X h
                  simp only [e1, e2] at hbool
                  clear e1 e2 b0 b1 b2 b3 hov
                  go_wp2_with fail
                  refine (hcut _).mono ?_
                  rintro e w4 ⟨rfl, rfl⟩
                  go_wp2_with fail
                  have hPW : ∀ W, Keeps [gi] wr W → Below w.heap.size w W := fun W hk => hbj.trans (hk.below hszj fun j hj => by rw [show j = gi by simpa using hj]; exact Nat.le_trans hge hi.ge)
                  clear x0 x1 x2 x3 xl
                  refine wp_region_writes [gi] 9 1 (fun v W => v = .bool ov ∧ InAt W w2.heap.size gi ⟨R, 0⟩) [] (by kernel_rfl) (by kernel_rfl) rfl trivial (fun v W W' hk h => ⟨h.1, h.2.below hk.nil_below⟩) (by kernel_rfl) ?_
                  simp only [List.take_succ_cons, List.take_zero, List.drop_succ_cons, List.drop_zero]
                  refine dep_reckons rfl (by kernel_rfl) (fun W hG hF' => by go_simp <;> rfl) (by simp only [Act.put, List.setIfInBounds_toArray, List.set_cons_zero, List.set_cons_succ]; rfl) ?_
                  refine dep_last rfl (by kernel_rfl) (fun W hG hF' => ?_) (fun v1 => ?_)
                  · unfold opGives
                    go_simp
                    refine (hbool W (hi.below (keeps_drew hG).nil_below)).mono ?_
                    rintro e w4 ⟨rfl, hi4, hk4⟩
                    exact ⟨_, rfl, ⟨rfl, hi4⟩, hk4⟩
                  simp only [Act.put, List.setIfInBounds_toArray, List.set_cons_zero, List.set_cons_succ]
                  iterate 4 refine dep_reckons rfl (by kernel_rfl) (fun W hG hF' => by go_simp <;> rfl) (by simp only [Act.put, List.setIfInBounds_toArray, List.set_cons_zero, List.set_cons_succ]; rfl) ?_
                  refine dep_reckons rfl (by kernel_rfl) (fun W hG hF' => by have hp' := hQ W (hPW W (keeps_drew hG)); obtain ⟨y0, y1, y2, y3, yl⟩ := hp'; go_simp <;> rfl) (by simp only [Act.put, List.setIfInBounds_toArray, List.set_cons_zero, List.set_cons_succ]; rfl) ?_
                  refine dep_reckons rfl (by kernel_rfl) (fun W hG hF' => by go_simp <;> rfl) (by simp only [Act.put, List.setIfInBounds_toArray, List.set_cons_zero, List.set_cons_succ]; rfl) ?_
                  refine dep_reckons (c := .bool ov) rfl (by kernel_rfl) (fun W hG hF' => by go_simp <;> first | rfl | (rw [← hod]; rfl) | simp [← hod]) (by simp only [Act.put, List.setIfInBounds_toArray, List.set_cons_zero, List.set_cons_succ]; rfl) ?_
                  refine dep_nil fun W hG hF2 => ?_
                  obtain ⟨rfl, hi5⟩ := hF2 _ List.mem_cons_self
                  have hb5 := hPW W (keeps_drew hG)
                  clear hF2 hG hbool hPW
                  clear hod
                  go_wp2_with fail
                  exact ⟨⟨j + 1, by omega, rfl, by rw [HR.out]; exact hi5, hb5⟩, by simp [intOf]; omega⟩
          · obtain rfl : j = k := by omega
            rw [restB_end] at hi
            have hdn2 := inDone_any w2.heap.size gi ⟨[], 0⟩ wr hi
            rw [show doneS ⟨[], 0⟩ = 0 from rfl] at hdn2
            have hszj := hbj.size
            clear hi HG
            go_wp2_with fail
            refine hdn2.mono ?_
            rintro e w4 ⟨rfl, rfl⟩
            go_wp2_with fail
            refine (awake01 wr).mono ?_
            rintro e w5 ⟨rfl, hb5⟩
            have hfin := hbj.trans (hb5.mono hszj)
            clear hdn2 hb5
            go_wp2_with fail
            go_ret
            exact ⟨rfl, hfin⟩
      · have t30 : ¬ ((k : Int) < 30) := by omega
        have hdn := outDone_any w.heap.size w.heap.size sl s wr ho (by omega)
        rw [show doneB s = s.b from if_pos hse, hse] at hdn
        go_wp2_with fail
        refine hdn.mono ?_
        rintro e w2 ⟨⟨A2, c2, rfl, ho2⟩, hb2⟩
        have hB2 := hb.trans (hb2.mono hb.size)
        obtain ⟨_, _, hv2, hlc2, _⟩ := own_form ho2
        have hc2 : s.b.length ≤ c2 := by injection hv2; omega
        have hrd2 := Rd.of_own ho2
        clear hdn hb2 ho2 hv2 hlc2
        go_wp2_with fail
        refine (inOf_any A2 s.b.length c2 s.b w2 hrd2 hc2 (by omega)).mono ?_
        rintro e w3 ⟨⟨gi, rfl, hi3⟩, hb3⟩
        rw [HB.out] at hi3
        have hB3 := hB2.trans (hb3.mono hB2.size)
        have hge := hB2.size
        clear hb3 hrd2 hc2 hB2
        go_wp2_with fail
        go_loopw [11] (fun i wr => ∃ j : Nat, j ≤ k ∧ i = .int .i64 (j : Int) ∧ InAt wr w2.heap.size gi ⟨restB l j k, 0⟩ ∧ Below w.heap.size w wr) (fun i _ => k - (intOf i).toNat)
        case atStart => exact ⟨0, Nat.zero_le _, rfl, hi3, hB3⟩
        case round =>
          obtain ⟨j, hj, rfl, hi, hbj⟩ := hrel
          clear hi3 hB3
          by_cases hjk : j < k
          · obtain ⟨q, b', o', hq, hqm, hBe, hbl', hQ⟩ := hl.get (Nat.lt_of_lt_of_le hjk hk)
            obtain ⟨f1', f2', f3', f4', f5', f6'⟩ := hl.2.2.2 q hqm
            cases hBe
            have hgood := HG.out j hjk
            have hjm : j < m := Nat.lt_of_lt_of_le hjk hk
            have hstep := restB_step hjk (show k ≤ l.length by rw [hl.1]; omega)
            rw [hq] at hgood hstep
            have hlen := restB_len l j k
            rw [hstep] at hi hlen
            obtain ⟨R, hR⟩ : ∃ z, restB l (j + 1) k = z := ⟨_, rfl⟩
            rw [hR] at hi hlen
            have HR := Lib.hid hR
            have hszj := hbj.size
            have hlenq := itmB_len q
            have hcut := fun X => cut_any q.x.A q.x.bs.length q.x.c 60 X (by omega) f5'
            have hrc : Rd w q.x.A (min q.x.bs.length 60) q.cut := rd_cut (m := 60) f4'
            have hlc' : q.cut.length = min q.x.bs.length 60 := hrc.1
            have b0 := fun h => @back0 q R h hgood f1'
            have b1 := @back1 q R
            have b2 := @back2 q R
            have b3 := @back3 q R
            obtain ⟨x0, x1, x2, x3, xl⟩ := hQ _ hbj
            obtain ⟨qk, qn, qw, qx⟩ := q
            obtain ⟨C, hC⟩ : ∃ z, Itm.cut ⟨qk, qn, qw, qx⟩ = z := ⟨_, rfl⟩
            obtain ⟨I, hI⟩ : ∃ z, itmB ⟨qk, qn, qw, qx⟩ = z := ⟨_, rfl⟩
            rw [hC] at hrc hlc'
            simp only [hC, hI] at b0 b1 b2 b3 hi hlen hlenq
            obtain ⟨qA, qc, qb⟩ := qx
            simp only [PC.val] at *
            obtain ⟨L, hL⟩ : ∃ z, qb.length = z := ⟨_, rfl⟩
            rw [hL] at hrc hlc' f5' x3
            simp only [hL] at hcut hQ
            obtain ⟨N, hN⟩ : ∃ z, min L 60 = z := ⟨_, rfl⟩
            rw [hN] at hrc hlc'
            simp only [hN] at hcut
            have hNL : N ≤ L ∧ N ≤ 60 := by omega
            rw [hlc'] at b1
            clear hC hI hR hq hqm hgood hstep hL hN hlc' HG
            by_cases k0 : qk = 0
            · subst k0
              obtain ⟨e1, e2⟩ := b0 rfl
              have hget := fun X h => inGet_any w2.heap.size gi ⟨I ++ R, 0⟩ qw X h
              simp only [e1, e2] at hget
              clear e1 e2 b0 b1 b2 b3
              go_wp2_with fail
              refine (hcut _).mono ?_
              rintro e w4 ⟨rfl, rfl⟩
              go_wp2_with fail
              have hPW : ∀ W, Keeps [gi] wr W → Below w.heap.size w W := fun W hk => hbj.trans (hk.below hszj fun j hj => by rw [show j = gi by simpa using hj]; exact Nat.le_trans hge hi.ge)
              clear x0 x1 x2 x3 xl
              refine wp_region_writes [gi] 12 6 (fun v W => v = .int .u64 (qn : Int) ∧ InAt W w2.heap.size gi ⟨R, 0⟩) [] (by kernel_rfl) (by kernel_rfl) rfl trivial (fun v W W' hk h => ⟨h.1, h.2.below hk.nil_below⟩) (by kernel_rfl) ?_
              simp only [List.take_succ_cons, List.take_zero, List.drop_succ_cons, List.drop_zero]
              iterate 5 refine dep_reckons rfl (by kernel_rfl) (fun W hG hF' => by go_simp <;> rfl) (by simp only [Act.put, List.setIfInBounds_toArray, List.set_cons_zero, List.set_cons_succ]; rfl) ?_
              refine dep_reckons rfl (by kernel_rfl) (fun W hG hF' => by have hp' := hQ W (hPW W (keeps_drew hG)); obtain ⟨y0, y1, y2, y3, yl⟩ := hp'; go_simp <;> rfl) (by simp only [Act.put, List.setIfInBounds_toArray, List.set_cons_zero, List.set_cons_succ]; rfl) ?_
              refine dep_last rfl (by kernel_rfl) (fun W hG hF' => ?_) (fun v1 => ?_)
              · unfold opGives
                go_simp
                refine (hget W (hi.below (keeps_drew hG).nil_below)).mono ?_
                rintro e w4 ⟨rfl, hi4, hk4⟩
                exact ⟨_, rfl, ⟨rfl, hi4⟩, hk4⟩
              simp only [Act.put, List.setIfInBounds_toArray, List.set_cons_zero, List.set_cons_succ]
              iterate 4 refine dep_reckons rfl (by kernel_rfl) (fun W hG hF' => by go_simp <;> rfl) (by simp only [Act.put, List.setIfInBounds_toArray, List.set_cons_zero, List.set_cons_succ]; rfl) ?_
              refine dep_reckons rfl (by kernel_rfl) (fun W hG hF' => by have hp' := hQ W (hPW W (keeps_drew hG)); obtain ⟨y0, y1, y2, y3, yl⟩ := hp'; go_simp <;> rfl) (by simp only [Act.put, List.setIfInBounds_toArray, List.set_cons_zero, List.set_cons_succ]; rfl) ?_
              refine dep_nil fun W hG hF2 => ?_
              obtain ⟨rfl, hi5⟩ := hF2 _ List.mem_cons_self
              have hb5 := hPW W (keeps_drew hG)
              clear hF2 hG hget hPW
              go_wp2_with fail
              exact ⟨⟨j + 1, by omega, rfl, by rw [HR.out]; exact hi5, hb5⟩, by simp [intOf]; omega⟩
            · by_cases k1 : qk = 1
              · subst k1
                obtain ⟨e1, e2⟩ := b1 rfl
                clear b0 b2 b3 k0
                have hraw := fun X h => inRaw_any w2.heap.size gi ⟨I ++ R, 0⟩ (N : Int) X h (by omega) (by simp only [List.length_append] at hlen ⊢; omega)
                simp only [e1, e2] at hraw
                clear e1 e2 b1
                go_wp2_with fail
                refine (hcut _).mono ?_
                rintro e w4 ⟨rfl, rfl⟩
                go_wp2_with fail
                refine (hraw _ hi).mono ?_
                rintro e w4 ⟨⟨A4, c4, rfl, ho4⟩, hi4, hk4⟩
                have hb4 := hbj.trans (hk4.below hszj fun j hj => by rw [show j = gi by simpa using hj]; exact Nat.le_trans hge hi.ge)
                have hr4 := Rd.of_own ho4
                have hr5 := hrc.below_ hb4
                have hSame := Same_any A4 qA C.length N c4 qc C C w4 hr4 hr5
                clear hraw hi ho4 hk4 hr4 hr5 x0 x1 x2 x3 xl hcut
                go_wp2_with fail
                refine hSame.mono ?_
                rintro e w5 ⟨he5, hd5⟩
                obtain rfl : e = .returned (.bool true) := by rw [he5]; simp
                have hi5 := hi4.below (hd5.below _)
                have hb5 := hb4.trans (hd5.below _)
                clear he5 hSame hi4 hb4 hd5
                go_wp2_with fail
                exact ⟨⟨j + 1, by omega, rfl, by rw [HR.out]; exact hi5, hb5⟩, by simp [intOf]; omega⟩
              · by_cases k2 : qk = 2
                · subst k2
                  obtain ⟨e1, e2⟩ := b2 rfl
                  clear b0 b3 k0 k1
                  have hraw := fun X h => inText_any w2.heap.size gi ⟨I ++ R, 0⟩ 60 X h (by simp only [List.length_append] at hlen ⊢; omega)
                  simp only [e1, e2] at hraw
                  clear e1 e2 b1 b2
                  go_wp2_with fail
                  refine (hcut _).mono ?_
                  rintro e w4 ⟨rfl, rfl⟩
                  go_wp2_with fail
                  refine (hraw _ hi).mono ?_
                  rintro e w4 ⟨⟨A4, c4, rfl, ho4⟩, hi4, hk4⟩
                  have hb4 := hbj.trans (hk4.below hszj fun j hj => by rw [show j = gi by simpa using hj]; exact Nat.le_trans hge hi.ge)
                  have hr4 := Rd.of_own ho4
                  have hr5 := hrc.below_ hb4
                  have hSame := Same_any A4 qA C.length N c4 qc C C w4 hr4 hr5
                  clear hraw hi ho4 hk4 hr4 hr5 x0 x1 x2 x3 xl hcut
                  go_wp2_with fail
                  refine hSame.mono ?_
                  rintro e w5 ⟨he5, hd5⟩
                  obtain rfl : e = .returned (.bool true) := by rw [he5]; simp
                  have hi5 := hi4.below (hd5.below _)
                  have hb5 := hb4.trans (hd5.below _)
                  clear he5 hSame hi4 hb4 hd5
                  go_wp2_with fail
                  exact ⟨⟨j + 1, by omega, rfl, by rw [HR.out]; exact hi5, hb5⟩, by simp [intOf]; omega⟩
                · obtain ⟨ov, hov⟩ : ∃ z, oddB qn = z := ⟨_, rfl⟩
                  obtain ⟨e1, e2⟩ := b3 k0 k1 k2
                  rw [hov] at e2
                  have hod : ((qn : Int) % 2 == 1) = ov := by
                    rw [← hov]
                    unfold oddB
                    rw [Bool.eq_iff_iff]
                    simp
                    omega
                  have hbool := fun X h => inBool_any w2.heap.size gi ⟨I ++ R, 0⟩ X h
                  simp only [e1, e2] at hbool
                  clear e1 e2 b0 b1 b2 b3 hov
                  go_wp2_with fail
                  refine (hcut _).mono ?_
                  rintro e w4 ⟨rfl, rfl⟩
                  go_wp2_with fail
                  have hPW : ∀ W, Keeps [gi] wr W → Below w.heap.size w W := fun W hk => hbj.trans (hk.below hszj fun j hj => by rw [show j = gi by simpa using hj]; exact Nat.le_trans hge hi.ge)
                  clear x0 x1 x2 x3 xl
                  refine wp_region_writes [gi] 9 1 (fun v W => v = .bool ov ∧ InAt W w2.heap.size gi ⟨R, 0⟩) [] (by kernel_rfl) (by kernel_rfl) rfl trivial (fun v W W' hk h => ⟨h.1, h.2.below hk.nil_below⟩) (by kernel_rfl) ?_
                  simp only [List.take_succ_cons, List.take_zero, List.drop_succ_cons, List.drop_zero]
                  refine dep_reckons rfl (by kernel_rfl) (fun W hG hF' => by go_simp <;> rfl) (by simp only [Act.put, List.setIfInBounds_toArray, List.set_cons_zero, List.set_cons_succ]; rfl) ?_
                  refine dep_last rfl (by kernel_rfl) (fun W hG hF' => ?_) (fun v1 => ?_)
                  · unfold opGives
                    go_simp
                    refine (hbool W (hi.below (keeps_drew hG).nil_below)).mono ?_
                    rintro e w4 ⟨rfl, hi4, hk4⟩
                    exact ⟨_, rfl, ⟨rfl, hi4⟩, hk4⟩
                  simp only [Act.put, List.setIfInBounds_toArray, List.set_cons_zero, List.set_cons_succ]
                  iterate 4 refine dep_reckons rfl (by kernel_rfl) (fun W hG hF' => by go_simp <;> rfl) (by simp only [Act.put, List.setIfInBounds_toArray, List.set_cons_zero, List.set_cons_succ]; rfl) ?_
                  refine dep_reckons rfl (by kernel_rfl) (fun W hG hF' => by have hp' := hQ W (hPW W (keeps_drew hG)); obtain ⟨y0, y1, y2, y3, yl⟩ := hp'; go_simp <;> rfl) (by simp only [Act.put, List.setIfInBounds_toArray, List.set_cons_zero, List.set_cons_succ]; rfl) ?_
                  refine dep_reckons rfl (by kernel_rfl) (fun W hG hF' => by go_simp <;> rfl) (by simp only [Act.put, List.setIfInBounds_toArray, List.set_cons_zero, List.set_cons_succ]; rfl) ?_
                  refine dep_reckons (c := .bool ov) rfl (by kernel_rfl) (fun W hG hF' => by go_simp <;> first | rfl | (rw [← hod]; rfl) | simp [← hod]) (by simp only [Act.put, List.setIfInBounds_toArray, List.set_cons_zero, List.set_cons_succ]; rfl) ?_
                  refine dep_nil fun W hG hF2 => ?_
                  obtain ⟨rfl, hi5⟩ := hF2 _ List.mem_cons_self
                  have hb5 := hPW W (keeps_drew hG)
                  clear hF2 hG hbool hPW
                  clear hod
                  go_wp2_with fail
                  exact ⟨⟨j + 1, by omega, rfl, by rw [HR.out]; exact hi5, hb5⟩, by simp [intOf]; omega⟩
          · obtain rfl : j = k := by omega
            rw [restB_end] at hi
            have hdn2 := inDone_any w2.heap.size gi ⟨[], 0⟩ wr hi
            rw [show doneS ⟨[], 0⟩ = 0 from rfl] at hdn2
            have hszj := hbj.size
            clear hi HG
            go_wp2_with fail
            refine hdn2.mono ?_
            rintro e w4 ⟨rfl, rfl⟩
            go_wp2_with fail
            refine (awake01 wr).mono ?_
            rintro e w5 ⟨rfl, hb5⟩
            have hfin := hbj.trans (hb5.mono hszj)
            clear hdn2 hb5
            go_wp2_with fail
            go_ret
            exact ⟨rfl, hfin⟩
end Go.Proofs.Ytehfddafjemedaa
