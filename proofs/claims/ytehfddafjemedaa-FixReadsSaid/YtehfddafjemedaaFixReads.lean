/- The walk of FixReads. -/
import Derived.Test.YtehfddafjemedaaFixAwake
import Derived.Test.YtehfddafjemedaaRef01c
namespace Go.Proofs.Ytehfddafjemedaa
open Go.RowKit
set_option linter.unusedSimpArgs false
set_option linter.unusedVariables false

/-- A part of a tuple that is told. -/
def tupGet (v : Value) (i : Nat) : Value := match v with
  | .tuple vs => vs.getD i undef
  | _ => undef

theorem tup0 (a b : Value) : tupGet (.tuple #[a, b]) 0 = a := rfl
theorem tup1 (a b : Value) : tupGet (.tuple #[a, b]) 1 = b := rfl

theorem rd_ne_pair {w : World} {A A0 : Option Addr} {n n0 c0 g : Nat} {t : TypeId} {xs : List UInt8} {e : Int} (h : Rd w A n xs) (hv : Blk w g t #[.slice A0 n0 c0, .int .i64 e]) : 0 < n → ∀ ad, A = some ad → ad.block ∉ [g] := by
  intro h0 ad e hm
  obtain ⟨b, o, e', hc⟩ := h.2.2 h0
  rw [e] at e'
  injection e' with e'
  subst e'
  have hb : b = g := by simpa using hm
  have h1 := hc 0 h0
  rw [hb, hv.cell] at h1
  rcases o with _ | _ | o <;> simp at h1
theorem InAt.keeps_pair {w w' : World} {base g r : Nat} {s : IS} {A0 : Option Addr} {n0 c0 : Nat} {e : Int} (h : InAt w base g s) (hv : Blk w r 76 #[.slice A0 n0 c0, .int .i64 e]) (hk : Keeps [r] w w') : InAt w' base g s := by
  obtain ⟨h0, ⟨A, n, c, h1, h2, h3, h4, h5⟩, h6⟩ := h
  exact ⟨h0, ⟨A, n, c, h1.keeps hk (fun hm => Blk.ne_ h1 hv (by decide) (by simpa using hm)), h2.keeps hk (rd_ne_pair h2 hv), h3, h4, h5⟩, h6⟩
theorem Rd.keeps_in {w w' : World} {base g : Nat} {s : IS} {A : Option Addr} {n : Nat} {xs : List UInt8} (h : Rd w A n xs) (hi : InAt w base g s) (hk : Keeps [g] w w') : Rd w' A n xs := by
  obtain ⟨_, ⟨A1, n1, c1, h1, _⟩, _⟩ := hi
  exact h.keeps hk (rd_ne_pair h h1)
theorem RIn.keeps_in {w w' : World} {base g : Nat} {s s0 : IS} {A : Option Addr} {n c : Nat} (h : RIn w A n c s) (hi : InAt w base g s0) (hk : Keeps [g] w w') : RIn w' A n c s := ⟨h.rd.keeps_in hi hk, h.le, h.small, h.ok⟩
theorem Blk.keeps_in {w w' : World} {base g r : Nat} {s0 : IS} {t : TypeId} {cs : Array Value} (h : Blk w r t cs) (hne : t ≠ 107) (hi : InAt w base g s0) (hk : Keeps [g] w w') : Blk w' r t cs := by
  obtain ⟨_, ⟨A1, n1, c1, h1, _⟩, _⟩ := hi
  exact h.keeps hk fun hm => Blk.ne_ h h1 hne (by simpa using hm)

/-- What is read, by the program and by the document, alike. -/
structure FR (w wr : World) (g rv : Nat) (A : Option Addr) (n c : Nat) (s : IS) : Prop where
  inn : InAt wr w.heap.size g s
  var : Blk wr rv 76 #[.slice A n c, .int .i64 s.err]
  ref : RIn wr A n c s
  small : s.b.length ≤ 200
  ge : w.heap.size ≤ rv
  below : Below w.heap.size w wr
theorem FR.below_ {w wr W : World} {g rv : Nat} {A : Option Addr} {n c : Nat} {s : IS} (h : FR w wr g rv A n c s) (hb : Below wr.heap.size wr W) : FR w W g rv A n c s :=
  ⟨h.inn.below hb, h.var.below hb h.var.lt, h.ref.below hb, h.small, h.ge, h.below.trans (hb.mono h.below.size)⟩
/-- Behind the document's step, its In stored, and the program's step. -/
theorem FR.step {w wr W w3 : World} {g rv : Nat} {A A1 : Option Addr} {n c n1 c1 : Nat} {s S : IS} (h : FR w wr g rv A n c s) (hk : Keeps [rv] wr W) (hv2 : Blk W rv 76 #[.slice A1 n1 c1, .int .i64 S.err]) (hr2 : RIn W A1 n1 c1 S)
    (hsm : S.b.length ≤ 200) (hi3 : InAt w3 w.heap.size g S) (hk3 : Keeps [g] W w3) : FR w w3 g rv A1 n1 c1 S := by
  have hi2 := h.inn.keeps_pair h.var hk
  refine ⟨hi3, hv2.keeps_in (by decide) hi2 hk3, hr2.keeps_in hi2 hk3, hsm, h.ge, h.below.trans ((hk.below h.below.size (by simp; exact h.ge)).trans (hk3.below ?_ fun k hk' => ?_))⟩
  · have := h.below.size; have := hk.size; omega
  · rw [show k = g by simpa using hk']; exact h.inn.ge
theorem RIn.keeps_ {w w' : World} {A : Option Addr} {n c : Nat} {s : IS} {S : List Nat} (h : RIn w A n c s) (hk : Keeps S w w') (hd : 0 < n → ∀ ad, A = some ad → ad.block ∉ S) : RIn w' A n c s := ⟨h.rd.keeps hk hd, h.le, h.small, h.ok⟩
/-- What the document's step tells, and what stays so when its In is stored. -/
def RefTold (rv : Nat) (S : IS) (told : Value → World → Prop) (v : Value) (W : World) : Prop :=
  ∃ A1 n1 c1 x, v = .tuple #[.agg #[.slice A1 n1 c1, .int .i64 S.err], x] ∧ RIn W A1 n1 c1 S ∧ (0 < n1 → ∀ ad, A1 = some ad → ad.block ∉ [rv]) ∧ told x W
def RefStored (rv : Nat) (S : IS) (_ : Value) (W : World) : Prop := ∃ A1 n1 c1, Blk W rv 76 #[.slice A1 n1 c1, .int .i64 S.err] ∧ RIn W A1 n1 c1 S
theorem refTold_keeps {rv : Nat} {S : IS} {told : Value → World → Prop} (ht : ∀ x W W', Keeps [rv] W W' → told x W → told x W') : ∀ v W W', Keeps [rv] W W' → RefTold rv S told v W → RefTold rv S told v W' := by
  rintro v W W' hk ⟨A1, n1, c1, x, e, h1, h2, h3⟩
  exact ⟨A1, n1, c1, x, e, h1.keeps_ hk h2, h2, ht x W W' hk h3⟩
theorem refStored_keeps {rv : Nat} {S : IS} : ∀ v W W', Keeps [] W W' → RefStored rv S v W → RefStored rv S v W' := by
  rintro v W W' hk ⟨A1, n1, c1, h1, h2⟩
  exact ⟨A1, n1, c1, h1.keeps hk (by simp), h2.keeps_ hk fun _ _ _ => by simp⟩
theorem FR.stored {w W : World} {g rv : Nat} {A A1 : Option Addr} {n c n1 c1 : Nat} {s S : IS} (h : FR w W g rv A n c s) (h1 : RIn W A1 n1 c1 S) (v : Value) :
    RefStored rv S v ((W.setCell ⟨rv, 0, none⟩ (.slice A1 n1 c1)).setCell ⟨rv, 1, none⟩ (.int .i64 S.err)) ∧ Keeps [rv] W ((W.setCell ⟨rv, 0, none⟩ (.slice A1 n1 c1)).setCell ⟨rv, 1, none⟩ (.int .i64 S.err)) :=
  ⟨⟨A1, n1, c1, (h.var.set_ 0 _).set_ 1 _, h1.stored h.var _ _⟩, ((Keeps.refl [rv] W).setCell (p := ⟨rv, 0, none⟩) (.inl (by simp)) (.slice A1 n1 c1)).setCell (p := ⟨rv, 1, none⟩) (.inl (by simp)) (.int .i64 S.err)⟩
def isV (c : Value) (v : Value) (_ : World) : Prop := v = c
theorem isV_keeps {c : Value} {G : World → World → Prop} : ∀ v W W', G W W' → isV c v W → isV c v W' := fun _ _ _ _ h => h
/-- The bytes told by the document's step. -/
def rdV (rv : Nat) (T : List UInt8) (x : Value) (W : World) : Prop := ∃ At nt ct, x = .slice At nt ct ∧ Rd W At nt T ∧ (0 < nt → ∀ ad, At = some ad → ad.block ∉ [rv])
theorem rdV_keeps {rv : Nat} {T : List UInt8} : ∀ x W W', Keeps [rv] W W' → rdV rv T x W → rdV rv T x W' := by
  rintro x W W' hk ⟨At, nt, ct, e, h1, h4⟩
  exact ⟨At, nt, ct, e, h1.keeps hk h4, h4⟩

theorem inF_small {s : IS} {e : Int} {m : Nat} : (inF s e).b.length ≤ m := by simp [inF]
theorem uptoS_small {s : IS} {k : Int} {most m : Nat} (h : s.b.length ≤ m) : (uptoS s k most).b.length ≤ m := by
  have h1 := nextS_small (n := k.toNat) h
  unfold uptoS
  split
  · exact h
  · split
    · exact inF_small
    · split
      · exact h1
      · split
        · exact inF_small
        · exact h1
theorem rawS_small {s : IS} {k : Int} {m : Nat} (h : s.b.length ≤ m) : (rawS s k).b.length ≤ m := by
  have h1 := nextS_small (n := k.toNat) h
  unfold rawS
  split
  · exact inF_small
  · exact h1
theorem readS_small {s : IS} {k : Int} {m : Nat} (h : s.b.length ≤ m) : (readS s k).b.length ≤ m := by
  have h1 := nextS_small (n := 2) h
  unfold readS
  split
  · exact h1
  · split
    · exact inF_small
    · exact rawS_small h1

/-- Something that is read. -/
structure Ask where
  kind : Int
  width : Int
  most : Nat
def noAsk : Ask := ⟨0, 0, 0⟩
def Ask.arr (p : Ask) : Array Value := #[.int .i64 p.kind, .int .i64 p.width, .int .u64 (p.most : Int)]
def AsksAt (w : World) (A : Option Addr) (n : Nat) (l : List Ask) : Prop :=
  l.length = n ∧ n ≤ 9223372036854775807 ∧ (0 < n → ∃ b o, A = some ⟨b, o, none⟩ ∧ ∀ i j, i < n → j < 3 → w.cell? ⟨b, o + i * 3 + j, none⟩ = (l.getD i noAsk).arr[j]?) ∧ ∀ p ∈ l, p.width ≤ 9223372036854775807 ∧ -9223372036854775808 ≤ p.width ∧ p.most < 18446744073709551616

set_option maxRecDepth 100000 in
set_option maxHeartbeats 4000000 in
theorem FixReads_walk (A : Option Addr) (n c : Nat) (xs : List UInt8) (B : Option Addr) (m d : Nat) (asks : List Ask) (w : World) (ha : Rd w A n xs) (hc : n ≤ c) (hcm : c ≤ 9223372036854775807) (hl : AsksAt w B m asks) :
    Calls Try.prog 10 #[.slice A n c, .slice B m d] w fun e w' => e = .returned (.bool true) ∧ Below w.heap.size w w' := by
  have hm := hl.2.1
  have hcut := cut_any A n c 200 w (by omega) hc
  have hr0 := rd_cut (m := 200) ha
  obtain ⟨N0, hN0⟩ : ∃ z, min n 200 = z := ⟨_, rfl⟩
  obtain ⟨X0, hX0⟩ : ∃ z, xs.take 200 = z := ⟨_, rfl⟩
  rw [hN0] at hcut hr0
  rw [hX0] at hr0
  have hN2 : N0 ≤ 200 ∧ N0 ≤ c := by omega
  clear hN0 hX0 ha
  go_enter Try.func10, Try.ntmps10
  go_wp2_with fail
  refine hcut.mono ?_
  rintro e w0 ⟨rfl, rfl⟩
  clear hcut
  go_wp2_with fail
  refine (inOf_any A N0 c X0 w hr0 hN2.2 (by omega)).mono ?_
  rintro e w1 ⟨⟨g, rfl, h1⟩, hb1⟩
  have hX : Below w1.heap.size w1 (w1.alloc (.cells #[.slice A N0 c, .int .i64 0] 76)) := (Below.refl _ _).alloc (Nat.le_refl _) _
  have hv := Blk.new w1 76 #[.slice A N0 c, .int .i64 0]
  have hF0 : FR w (w1.alloc (.cells #[.slice A N0 c, .int .i64 0] 76)) g w1.heap.size A N0 c ⟨X0, 0⟩ :=
    ⟨h1.below hX, hv, ⟨(hr0.below_ hb1).below_ hX, hN2.2, hcm, fun h => absurd rfl h⟩, by have := hr0.1; simp only; omega, hb1.size, hb1.trans (hX.mono hb1.size)⟩
  clear hX hv h1 hb1 hr0
  go_wp2_with fail
  go_loopw [7] (fun i wr => ∃ (k : Nat) (A : Option Addr) (n c : Nat) (s : IS), k ≤ m ∧ k ≤ 30 ∧ i = .int .i64 (k : Int) ∧ FR w wr g w1.heap.size A n c s) (fun i _ => m - (intOf i).toNat)
  case atStart => exact ⟨0, _, _, _, _, Nat.zero_le _, by omega, rfl, hF0⟩
  case round =>
    obtain ⟨k, A9, n9, c9, s, hk, hk30, rfl, hF⟩ := hrel
    have hb := hF.below
    clear hF0
    by_cases hlt : k < m ∧ k < 30
    · obtain ⟨hl1, hl2⟩ := hlt
      obtain ⟨b, o, rfl, hcc⟩ := hl.2.2.1 (by omega)
      obtain ⟨p, hpk⟩ : ∃ p, p = asks.getD k noAsk := ⟨_, rfl⟩
      have hpm : p ∈ asks := by rw [hpk, List.getD_eq_getElem?_getD, List.getElem?_eq_getElem (by rw [hl.1]; exact hl1)]; exact List.getElem_mem _
      obtain ⟨wf1, wf2, wf3⟩ := hl.2.2.2 p hpm
      have cell : ∀ j, j < 3 → w.cell? ⟨b, o + k * 3 + j, none⟩ = p.arr[j]? := fun j hj => by
        have h1 := hcc k j hl1 hj
        rwa [← hpk] at h1
      have p0 := cell 0 (by omega)
      have p1 := cell 1 (by omega)
      have p2 := cell 2 (by omega)
      simp only [Ask.arr, List.getElem?_toArray, List.getElem?_cons_zero, List.getElem?_cons_succ, Nat.add_zero] at p0 p1 p2
      have hgl := block_lt_of_cell p0
      simp only at hgl
      have hP : ∀ W, Below w.heap.size w W → W.cell? ⟨b, o + k * 3, none⟩ = some (.int .i64 p.kind) ∧ W.cell? ⟨b, o + k * 3 + 1, none⟩ = some (.int .i64 p.width) ∧ W.cell? ⟨b, o + k * 3 + 2, none⟩ = some (.int .u64 (p.most : Int)) := fun W hW =>
        ⟨(hW.cell (p := ⟨b, _, none⟩) hgl).trans p0, (hW.cell (p := ⟨b, _, none⟩) hgl).trans p1, (hW.cell (p := ⟨b, _, none⟩) hgl).trans p2⟩
      obtain ⟨kind, width, most⟩ := p
      simp only at wf1 wf2 wf3 hP
      clear cell hcc hpk hpm p0 p1 p2
      have hsz := hb.size
      by_cases k0 : kind = 0
      · subst k0
        obtain ⟨q0, q1, q2⟩ := hP wr hb
        have ql : b < wr.heap.size := by omega
        have hsm := uptoS_small (k := width) (most := 18446744073709551615) hF.small
        obtain ⟨S, hS⟩ : ∃ z, uptoS s width 18446744073709551615 = z := ⟨_, rfl⟩
        obtain ⟨V, hV⟩ : ∃ z, uptoN s width 18446744073709551615 = z := ⟨_, rfl⟩
        rw [hS] at hsm
        have HS := Lib.hid hS
        have HV := Lib.hid hV
        clear hS hV
        go_wp2_with fail
        clear q0 q1 q2 ql
        have hP' : ∀ W, Keeps [w1.heap.size] wr W → W.cell? ⟨b, o + k * 3 + 1, none⟩ = some (.int .i64 width) ∧ W.cell? ⟨b, o + k * 3 + 2, none⟩ = some (.int .u64 (most : Int)) := fun W hk => by
          have hW := hb.trans (hk.below hsz (by simp; exact hF.ge))
          exact (hP W hW).2
        refine wp_region_writes [w1.heap.size] 11 10 (RefStored w1.heap.size S) [(0, .early (isV (.agg #[.slice A9 n9 c9, .int .i64 s.err]))), (6, .early (RefTold w1.heap.size S (isV (.int .u64 (V : Int))))), (7, .early (RefTold w1.heap.size S (isV (.int .u64 (V : Int)))))] (by kernel_rfl) (by kernel_rfl) rfl
          ⟨isV_keeps, refTold_keeps isV_keeps, refTold_keeps isV_keeps, trivial⟩ refStored_keeps (by kernel_rfl) ?_
        simp only [List.take_succ_cons, List.take_zero, List.drop_succ_cons, List.drop_zero]
        refine dep_early rfl (by kernel_rfl) (fun W hG hF' => ?_) (fun v0 => ?_)
        · have hW := hF.below_ (keeps_drew hG).nil_below
          have r0 := hW.var.cell 0
          have r1 := hW.var.cell 1
          simp only [List.getElem?_toArray, List.getElem?_cons_zero, List.getElem?_cons_succ] at r0 r1
          unfold opGives
          go_simp
          exact ⟨rfl, Keeps.refl [] _⟩
        simp only [Act.put, List.setIfInBounds_toArray, List.set_cons_zero, List.set_cons_succ]
        iterate 4 refine dep_reckons rfl (by kernel_rfl) (fun W hG hF => by go_simp <;> rfl) (by simp only [Act.put, List.setIfInBounds_toArray, List.set_cons_zero, List.set_cons_succ]; rfl) ?_
        refine dep_reckons rfl (by kernel_rfl) (fun W hG hF => by have hp' := hP' W (keeps_drew hG); go_simp <;> rfl) (by simp only [Act.put, List.setIfInBounds_toArray, List.set_cons_zero, List.set_cons_succ]; rfl) ?_
        refine dep_early rfl (by kernel_rfl) (fun W hG hF' => ?_) (fun v6 => ?_)
        · have hf := hF' _ List.mem_cons_self (by kernel_rfl)
          unfold isV at hf
          subst hf
          have hW := hF.below_ (keeps_drew hG).nil_below
          unfold opGives
          go_simp
          refine (refGet_any A9 n9 c9 s width W hW.ref).mono ?_
          rw [HS.out, HV.out]
          rintro e w2 ⟨⟨A1, n1, c1, rfl, h1⟩, hb2⟩
          exact ⟨_, rfl, ⟨A1, n1, c1, _, rfl, h1, rd_ne_pair h1.rd (hW.var.below hb2 hW.var.lt), rfl⟩, Keeps.of_below hb2 []⟩
        simp only [Act.put, List.setIfInBounds_toArray, List.set_cons_zero, List.set_cons_succ]
        refine dep_early rfl (by kernel_rfl) (fun W hG hF' => ?_) (fun v7 => ?_)
        · have hf := hF' _ List.mem_cons_self (by kernel_rfl)
          unfold opGives
          go_simp
          exact ⟨hf, Keeps.refl [] _⟩
        simp only [Act.put, List.setIfInBounds_toArray, List.set_cons_zero, List.set_cons_succ]
        refine dep_reckons (c := tupGet v7 0) rfl (by kernel_rfl) (fun W hG hF' => by obtain ⟨A1, n1, c1, x, rfl, _⟩ := hF' _ List.mem_cons_self (by kernel_rfl); go_simp; rfl) (by simp only [Act.put, List.setIfInBounds_toArray, List.set_cons_zero, List.set_cons_succ]; rfl) ?_
        refine dep_reckons (c := tupGet v7 1) rfl (by kernel_rfl) (fun W hG hF' => by obtain ⟨A1, n1, c1, x, rfl, _⟩ := hF' _ List.mem_cons_self (by kernel_rfl); go_simp; rfl) (by simp only [Act.put, List.setIfInBounds_toArray, List.set_cons_zero, List.set_cons_succ]; rfl) ?_
        refine dep_last rfl (by kernel_rfl) (fun W hG hF' => ?_) (fun v10 => ?_)
        · obtain ⟨A1, n1, c1, x, rfl, h1, h2, _⟩ := hF' _ List.mem_cons_self (by kernel_rfl)
          have hW := hF.below_ (keeps_drew hG).nil_below
          have rz := hW.var.frozen
          have rl := hW.var.lt
          have r0 := hW.var.cell 0
          have r1 := hW.var.cell 1
          simp only [List.getElem?_toArray, List.getElem?_cons_zero, List.getElem?_cons_succ] at r0 r1
          unfold opGives
          simp only [tup0]
          go_simp
          exact hW.stored h1 _
        simp only [Act.put, List.setIfInBounds_toArray, List.set_cons_zero, List.set_cons_succ]
        refine dep_nil fun W hG hF2 => ?_
        have hks := keeps_drew hG
        obtain ⟨A1, n1, c1, hv2, hr2⟩ := hF2 _ List.mem_cons_self
        obtain ⟨_, _, _, x, rfl, _, _, hx⟩ := hF2 _ (List.mem_cons_of_mem _ List.mem_cons_self)
        have hi2 := hF.inn.keeps_pair hF.var hks
        have hbW := hb.trans (hks.below hsz (by simp; exact hF.ge))
        clear hF2 hG hP'
        simp only [tup0, tup1]
        unfold isV at hx
        subst hx
        obtain ⟨q0, q1, q2⟩ := hP W hbW
        go_wp2_with fail
        refine (inGet_any _ g s width _ hi2).mono ?_
        rw [HS.out, HV.out]
        rintro e w3 ⟨rfl, hi3, hk3⟩
        have hF3 := hF.step hks hv2 hr2 hsm hi3 hk3
        clear hF hks hv2 hr2 hi3 hk3 hi2 q0 q1 q2 hbW
        obtain ⟨A7, n7, c7, hF3⟩ : ∃ A n c, FR w w3 g w1.heap.size A n c S := ⟨_, _, _, hF3⟩
        have cf : ∀ W, Keeps [] w3.drew W → W.cell? ⟨w1.heap.size, 0, none⟩ = some (.slice A7 n7 c7) ∧ W.cell? ⟨w1.heap.size, 1, none⟩ = some (.int .i64 S.err) := fun W hk => by
          have hF1 := hF3.below_ (keeps_drew hk).nil_below
          exact ⟨hF1.var.cell 0, hF1.var.cell 1⟩
        have hlen : S.b.length = n7 := hF3.ref.rd.1
        go_wp2_with fail
        refine wp_region_calls 36 [(6, .known (.bool true)), (16, .known (.int .i64 (n7 : Int))), (24, .known (.int .i64 S.err)), (31, .known (.int .i64 (doneS S))), (33, .known (.int .i64 (doneS S)))] (by kernel_rfl) (by kernel_rfl) rfl ⟨trivial, trivial, trivial, trivial, trivial, trivial⟩ ?_
        simp only [List.take_succ_cons, List.take_zero, List.drop_succ_cons, List.drop_zero]
        iterate 6 refine dep_reckons rfl (by kernel_rfl) (fun W hG hF => by go_simp <;> rfl) (by simp only [Act.put, List.setIfInBounds_toArray, List.set_cons_zero, List.set_cons_succ]; rfl) ?_
        refine dep_known (c := .bool true) rfl (by kernel_rfl) (fun W hG hF' => ?_) (by simp only [Act.put, List.setIfInBounds_toArray, List.set_cons_zero, List.set_cons_succ]; rfl) ?_
        · have bw := (keeps_drew hG).nil_below
          have hPW := hF3.below_ bw
          unfold opGives
          go_simp
          refine (Same_any none none 0 0 0 0 [] [] W (Rd.nil _ _) (Rd.nil _ _)).mono ?_
          rintro e w2 ⟨rfl, hb2⟩
          exact ⟨_, rfl, by simp, Keeps.of_below (hb2.below _) []⟩
        iterate 9 refine dep_reckons rfl (by kernel_rfl) (fun W hG hF => by go_simp <;> rfl) (by simp only [Act.put, List.setIfInBounds_toArray, List.set_cons_zero, List.set_cons_succ]; rfl) ?_
        refine dep_known (c := .int .i64 (n7 : Int)) rfl (by kernel_rfl) (fun W hG hF' => ?_) (by simp only [Act.put, List.setIfInBounds_toArray, List.set_cons_zero, List.set_cons_succ]; rfl) ?_
        · have bw := (keeps_drew hG).nil_below
          have hPW := hF3.below_ bw
          unfold opGives
          go_simp
          refine (inLeft_any _ g S W hPW.inn).mono ?_
          rintro e w2 ⟨rfl, rfl⟩
          exact ⟨_, rfl, by rw [hlen], Keeps.refl [] _⟩
        refine dep_reckons rfl (by kernel_rfl) (fun W hG hF => by go_simp <;> rfl) (by simp only [Act.put, List.setIfInBounds_toArray, List.set_cons_zero, List.set_cons_succ]; rfl) ?_
        refine dep_reckons rfl (by kernel_rfl) (fun W hG hF' => by have hp' := cf W hG; go_simp <;> rfl) (by simp only [Act.put, List.setIfInBounds_toArray, List.set_cons_zero, List.set_cons_succ]; rfl) ?_
        iterate 5 refine dep_reckons rfl (by kernel_rfl) (fun W hG hF => by go_simp <;> rfl) (by simp only [Act.put, List.setIfInBounds_toArray, List.set_cons_zero, List.set_cons_succ]; rfl) ?_
        refine dep_known (c := .int .i64 S.err) rfl (by kernel_rfl) (fun W hG hF' => ?_) (by simp only [Act.put, List.setIfInBounds_toArray, List.set_cons_zero, List.set_cons_succ]; rfl) ?_
        · have bw := (keeps_drew hG).nil_below
          have hPW := hF3.below_ bw
          unfold opGives
          go_simp
          refine (inErr_any _ g S W hPW.inn).mono ?_
          rintro e w2 ⟨rfl, rfl⟩
          exact ⟨_, rfl, rfl, Keeps.refl [] _⟩
        refine dep_reckons rfl (by kernel_rfl) (fun W hG hF => by go_simp <;> rfl) (by simp only [Act.put, List.setIfInBounds_toArray, List.set_cons_zero, List.set_cons_succ]; rfl) ?_
        refine dep_reckons rfl (by kernel_rfl) (fun W hG hF' => by have hp' := cf W hG; go_simp <;> rfl) (by simp only [Act.put, List.setIfInBounds_toArray, List.set_cons_zero, List.set_cons_succ]; rfl) ?_
        iterate 4 refine dep_reckons rfl (by kernel_rfl) (fun W hG hF => by go_simp <;> rfl) (by simp only [Act.put, List.setIfInBounds_toArray, List.set_cons_zero, List.set_cons_succ]; rfl) ?_
        refine dep_known (c := .int .i64 (doneS S)) rfl (by kernel_rfl) (fun W hG hF' => ?_) (by simp only [Act.put, List.setIfInBounds_toArray, List.set_cons_zero, List.set_cons_succ]; rfl) ?_
        · have bw := (keeps_drew hG).nil_below
          have hPW := hF3.below_ bw
          unfold opGives
          go_simp
          refine (inDone_any _ g S W hPW.inn).mono ?_
          rintro e w2 ⟨rfl, rfl⟩
          exact ⟨_, rfl, rfl, Keeps.refl [] _⟩
        refine dep_reckons rfl (by kernel_rfl) (fun W hG hF' => by have hp' := cf W hG; go_simp <;> rfl) (by simp only [Act.put, List.setIfInBounds_toArray, List.set_cons_zero, List.set_cons_succ]; rfl) ?_
        refine dep_known (c := .int .i64 (doneS S)) rfl (by kernel_rfl) (fun W hG hF' => ?_) (by simp only [Act.put, List.setIfInBounds_toArray, List.set_cons_zero, List.set_cons_succ]; rfl) ?_
        · have bw := (keeps_drew hG).nil_below
          have hPW := hF3.below_ bw
          unfold opGives
          go_simp
          refine (refDone_any A7 n7 c7 S W hPW.ref).mono ?_
          rintro e w2 ⟨rfl, hb2⟩
          exact ⟨_, rfl, rfl, Keeps.of_below hb2 []⟩
        iterate 2 refine dep_reckons rfl (by kernel_rfl) (fun W hG hF => by go_simp <;> rfl) (by simp only [Act.put, List.setIfInBounds_toArray, List.set_cons_zero, List.set_cons_succ]; rfl) ?_
        refine dep_nil fun W hG hF' => ?_
        have hF := hF3.below_ (keeps_drew hG).nil_below
        clear hF' hG cf
        go_wp2_with fail
        exact ⟨⟨k + 1, A7, n7, c7, S, by omega, by omega, rfl, hF⟩, by simp [intOf]; omega⟩
      · by_cases k1 : kind = 1
        · subst k1
          obtain ⟨q0, q1, q2⟩ := hP wr hb
          have ql : b < wr.heap.size := by omega
          have hsm := uptoS_small (k := width) (most := most) hF.small
          obtain ⟨S, hS⟩ : ∃ z, uptoS s width most = z := ⟨_, rfl⟩
          obtain ⟨V, hV⟩ : ∃ z, uptoN s width most = z := ⟨_, rfl⟩
          rw [hS] at hsm
          have HS := Lib.hid hS
          have HV := Lib.hid hV
          clear hS hV
          go_wp2_with fail
          clear q0 q1 q2 ql
          have hP' : ∀ W, Keeps [w1.heap.size] wr W → W.cell? ⟨b, o + k * 3 + 1, none⟩ = some (.int .i64 width) ∧ W.cell? ⟨b, o + k * 3 + 2, none⟩ = some (.int .u64 (most : Int)) := fun W hk => by
            have hW := hb.trans (hk.below hsz (by simp; exact hF.ge))
            exact (hP W hW).2
          refine wp_region_writes [w1.heap.size] 16 15 (RefStored w1.heap.size S) [(0, .early (isV (.agg #[.slice A9 n9 c9, .int .i64 s.err]))), (11, .early (RefTold w1.heap.size S (isV (.int .u64 (V : Int))))), (12, .early (RefTold w1.heap.size S (isV (.int .u64 (V : Int)))))] (by kernel_rfl) (by kernel_rfl) rfl
            ⟨isV_keeps, refTold_keeps isV_keeps, refTold_keeps isV_keeps, trivial⟩ refStored_keeps (by kernel_rfl) ?_
          simp only [List.take_succ_cons, List.take_zero, List.drop_succ_cons, List.drop_zero]
          refine dep_early rfl (by kernel_rfl) (fun W hG hF' => ?_) (fun v0 => ?_)
          · have hW := hF.below_ (keeps_drew hG).nil_below
            have r0 := hW.var.cell 0
            have r1 := hW.var.cell 1
            simp only [List.getElem?_toArray, List.getElem?_cons_zero, List.getElem?_cons_succ] at r0 r1
            unfold opGives
            go_simp
            exact ⟨rfl, Keeps.refl [] _⟩
          simp only [Act.put, List.setIfInBounds_toArray, List.set_cons_zero, List.set_cons_succ]
          iterate 4 refine dep_reckons rfl (by kernel_rfl) (fun W hG hF => by go_simp <;> rfl) (by simp only [Act.put, List.setIfInBounds_toArray, List.set_cons_zero, List.set_cons_succ]; rfl) ?_
          refine dep_reckons rfl (by kernel_rfl) (fun W hG hF => by have hp' := hP' W (keeps_drew hG); go_simp <;> rfl) (by simp only [Act.put, List.setIfInBounds_toArray, List.set_cons_zero, List.set_cons_succ]; rfl) ?_
          iterate 4 refine dep_reckons rfl (by kernel_rfl) (fun W hG hF => by go_simp <;> rfl) (by simp only [Act.put, List.setIfInBounds_toArray, List.set_cons_zero, List.set_cons_succ]; rfl) ?_
          refine dep_reckons rfl (by kernel_rfl) (fun W hG hF => by have hp' := hP' W (keeps_drew hG); go_simp <;> rfl) (by simp only [Act.put, List.setIfInBounds_toArray, List.set_cons_zero, List.set_cons_succ]; rfl) ?_
          refine dep_early rfl (by kernel_rfl) (fun W hG hF' => ?_) (fun v6 => ?_)
          · have hf := hF' _ List.mem_cons_self (by kernel_rfl)
            unfold isV at hf
            subst hf
            have hW := hF.below_ (keeps_drew hG).nil_below
            unfold opGives
            go_simp
            refine (refUpto_any A9 n9 c9 s width most W hW.ref).mono ?_
            rw [HS.out, HV.out]
            rintro e w2 ⟨⟨A1, n1, c1, rfl, h1⟩, hb2⟩
            exact ⟨_, rfl, ⟨A1, n1, c1, _, rfl, h1, rd_ne_pair h1.rd (hW.var.below hb2 hW.var.lt), rfl⟩, Keeps.of_below hb2 []⟩
          simp only [Act.put, List.setIfInBounds_toArray, List.set_cons_zero, List.set_cons_succ]
          refine dep_early rfl (by kernel_rfl) (fun W hG hF' => ?_) (fun v7 => ?_)
          · have hf := hF' _ List.mem_cons_self (by kernel_rfl)
            unfold opGives
            go_simp
            exact ⟨hf, Keeps.refl [] _⟩
          simp only [Act.put, List.setIfInBounds_toArray, List.set_cons_zero, List.set_cons_succ]
          refine dep_reckons (c := tupGet v7 0) rfl (by kernel_rfl) (fun W hG hF' => by obtain ⟨A1, n1, c1, x, rfl, _⟩ := hF' _ List.mem_cons_self (by kernel_rfl); go_simp; rfl) (by simp only [Act.put, List.setIfInBounds_toArray, List.set_cons_zero, List.set_cons_succ]; rfl) ?_
          refine dep_reckons (c := tupGet v7 1) rfl (by kernel_rfl) (fun W hG hF' => by obtain ⟨A1, n1, c1, x, rfl, _⟩ := hF' _ List.mem_cons_self (by kernel_rfl); go_simp; rfl) (by simp only [Act.put, List.setIfInBounds_toArray, List.set_cons_zero, List.set_cons_succ]; rfl) ?_
          refine dep_last rfl (by kernel_rfl) (fun W hG hF' => ?_) (fun v10 => ?_)
          · obtain ⟨A1, n1, c1, x, rfl, h1, h2, _⟩ := hF' _ List.mem_cons_self (by kernel_rfl)
            have hW := hF.below_ (keeps_drew hG).nil_below
            have rz := hW.var.frozen
            have rl := hW.var.lt
            have r0 := hW.var.cell 0
            have r1 := hW.var.cell 1
            simp only [List.getElem?_toArray, List.getElem?_cons_zero, List.getElem?_cons_succ] at r0 r1
            unfold opGives
            simp only [tup0]
            go_simp
            exact hW.stored h1 _
          simp only [Act.put, List.setIfInBounds_toArray, List.set_cons_zero, List.set_cons_succ]
          refine dep_nil fun W hG hF2 => ?_
          have hks := keeps_drew hG
          obtain ⟨A1, n1, c1, hv2, hr2⟩ := hF2 _ List.mem_cons_self
          obtain ⟨_, _, _, x, rfl, _, _, hx⟩ := hF2 _ (List.mem_cons_of_mem _ List.mem_cons_self)
          have hi2 := hF.inn.keeps_pair hF.var hks
          have hbW := hb.trans (hks.below hsz (by simp; exact hF.ge))
          clear hF2 hG hP'
          simp only [tup0, tup1]
          unfold isV at hx
          subst hx
          have hP' : ∀ W', Keeps [] W.drew W' → W'.cell? ⟨b, o + k * 3 + 1, none⟩ = some (.int .i64 width) ∧ W'.cell? ⟨b, o + k * 3 + 2, none⟩ = some (.int .u64 (most : Int)) := fun W' hk =>
            (hP W' (hbW.trans ((keeps_drew hk).nil_below.mono hbW.size))).2
          go_wp2_with fail
          refine wp_region_calls 11 [] (by kernel_rfl) (by kernel_rfl) rfl trivial ?_
          simp only [List.take_succ_cons, List.take_zero, List.drop_succ_cons, List.drop_zero]
          iterate 5 refine dep_reckons rfl (by kernel_rfl) (fun W hG hF => by go_simp <;> rfl) (by simp only [Act.put, List.setIfInBounds_toArray, List.set_cons_zero, List.set_cons_succ]; rfl) ?_
          refine dep_reckons rfl (by kernel_rfl) (fun W' hG hF' => by have hp' := hP' W' hG; go_simp <;> rfl) (by simp only [Act.put, List.setIfInBounds_toArray, List.set_cons_zero, List.set_cons_succ]; rfl) ?_
          iterate 4 refine dep_reckons rfl (by kernel_rfl) (fun W hG hF => by go_simp <;> rfl) (by simp only [Act.put, List.setIfInBounds_toArray, List.set_cons_zero, List.set_cons_succ]; rfl) ?_
          refine dep_reckons rfl (by kernel_rfl) (fun W' hG hF' => by have hp' := hP' W' hG; go_simp <;> rfl) (by simp only [Act.put, List.setIfInBounds_toArray, List.set_cons_zero, List.set_cons_succ]; rfl) ?_
          refine dep_nil fun W4 hG4 hF4 => ?_
          have hk4 := keeps_drew hG4
          clear hF4 hG4 hP'
          have hi4 := hi2.below hk4.nil_below
          have hv4 := hv2.keeps hk4 (by simp)
          have hr4 := hr2.keeps_ hk4 fun _ _ _ => by simp
          have hks4 := hks.trans hk4 (fun i hi => by cases hi)
          clear hi2 hv2 hr2 hks hk4
          go_wp2_with fail
          refine (inUpto_any _ g s width most _ hi4).mono ?_
          rw [HS.out, HV.out]
          rintro e w3 ⟨rfl, hi3, hk3⟩
          have hF3 := hF.step hks4 hv4 hr4 hsm hi3 hk3
          clear hF hks4 hv4 hr4 hi3 hk3 hi4 hbW
          obtain ⟨A7, n7, c7, hF3⟩ : ∃ A n c, FR w w3 g w1.heap.size A n c S := ⟨_, _, _, hF3⟩
          have cf : ∀ W, Keeps [] w3.drew W → W.cell? ⟨w1.heap.size, 0, none⟩ = some (.slice A7 n7 c7) ∧ W.cell? ⟨w1.heap.size, 1, none⟩ = some (.int .i64 S.err) := fun W hk => by
            have hF1 := hF3.below_ (keeps_drew hk).nil_below
            exact ⟨hF1.var.cell 0, hF1.var.cell 1⟩
          have hlen : S.b.length = n7 := hF3.ref.rd.1
          go_wp2_with fail
          refine wp_region_calls 36 [(6, .known (.bool true)), (16, .known (.int .i64 (n7 : Int))), (24, .known (.int .i64 S.err)), (31, .known (.int .i64 (doneS S))), (33, .known (.int .i64 (doneS S)))] (by kernel_rfl) (by kernel_rfl) rfl ⟨trivial, trivial, trivial, trivial, trivial, trivial⟩ ?_
          simp only [List.take_succ_cons, List.take_zero, List.drop_succ_cons, List.drop_zero]
          iterate 6 refine dep_reckons rfl (by kernel_rfl) (fun W hG hF => by go_simp <;> rfl) (by simp only [Act.put, List.setIfInBounds_toArray, List.set_cons_zero, List.set_cons_succ]; rfl) ?_
          refine dep_known (c := .bool true) rfl (by kernel_rfl) (fun W hG hF' => ?_) (by simp only [Act.put, List.setIfInBounds_toArray, List.set_cons_zero, List.set_cons_succ]; rfl) ?_
          · have bw := (keeps_drew hG).nil_below
            have hPW := hF3.below_ bw
            unfold opGives
            go_simp
            refine (Same_any none none 0 0 0 0 [] [] W (Rd.nil _ _) (Rd.nil _ _)).mono ?_
            rintro e w2 ⟨rfl, hb2⟩
            exact ⟨_, rfl, by simp, Keeps.of_below (hb2.below _) []⟩
          iterate 9 refine dep_reckons rfl (by kernel_rfl) (fun W hG hF => by go_simp <;> rfl) (by simp only [Act.put, List.setIfInBounds_toArray, List.set_cons_zero, List.set_cons_succ]; rfl) ?_
          refine dep_known (c := .int .i64 (n7 : Int)) rfl (by kernel_rfl) (fun W hG hF' => ?_) (by simp only [Act.put, List.setIfInBounds_toArray, List.set_cons_zero, List.set_cons_succ]; rfl) ?_
          · have bw := (keeps_drew hG).nil_below
            have hPW := hF3.below_ bw
            unfold opGives
            go_simp
            refine (inLeft_any _ g S W hPW.inn).mono ?_
            rintro e w2 ⟨rfl, rfl⟩
            exact ⟨_, rfl, by rw [hlen], Keeps.refl [] _⟩
          refine dep_reckons rfl (by kernel_rfl) (fun W hG hF => by go_simp <;> rfl) (by simp only [Act.put, List.setIfInBounds_toArray, List.set_cons_zero, List.set_cons_succ]; rfl) ?_
          refine dep_reckons rfl (by kernel_rfl) (fun W hG hF' => by have hp' := cf W hG; go_simp <;> rfl) (by simp only [Act.put, List.setIfInBounds_toArray, List.set_cons_zero, List.set_cons_succ]; rfl) ?_
          iterate 5 refine dep_reckons rfl (by kernel_rfl) (fun W hG hF => by go_simp <;> rfl) (by simp only [Act.put, List.setIfInBounds_toArray, List.set_cons_zero, List.set_cons_succ]; rfl) ?_
          refine dep_known (c := .int .i64 S.err) rfl (by kernel_rfl) (fun W hG hF' => ?_) (by simp only [Act.put, List.setIfInBounds_toArray, List.set_cons_zero, List.set_cons_succ]; rfl) ?_
          · have bw := (keeps_drew hG).nil_below
            have hPW := hF3.below_ bw
            unfold opGives
            go_simp
            refine (inErr_any _ g S W hPW.inn).mono ?_
            rintro e w2 ⟨rfl, rfl⟩
            exact ⟨_, rfl, rfl, Keeps.refl [] _⟩
          refine dep_reckons rfl (by kernel_rfl) (fun W hG hF => by go_simp <;> rfl) (by simp only [Act.put, List.setIfInBounds_toArray, List.set_cons_zero, List.set_cons_succ]; rfl) ?_
          refine dep_reckons rfl (by kernel_rfl) (fun W hG hF' => by have hp' := cf W hG; go_simp <;> rfl) (by simp only [Act.put, List.setIfInBounds_toArray, List.set_cons_zero, List.set_cons_succ]; rfl) ?_
          iterate 4 refine dep_reckons rfl (by kernel_rfl) (fun W hG hF => by go_simp <;> rfl) (by simp only [Act.put, List.setIfInBounds_toArray, List.set_cons_zero, List.set_cons_succ]; rfl) ?_
          refine dep_known (c := .int .i64 (doneS S)) rfl (by kernel_rfl) (fun W hG hF' => ?_) (by simp only [Act.put, List.setIfInBounds_toArray, List.set_cons_zero, List.set_cons_succ]; rfl) ?_
          · have bw := (keeps_drew hG).nil_below
            have hPW := hF3.below_ bw
            unfold opGives
            go_simp
            refine (inDone_any _ g S W hPW.inn).mono ?_
            rintro e w2 ⟨rfl, rfl⟩
            exact ⟨_, rfl, rfl, Keeps.refl [] _⟩
          refine dep_reckons rfl (by kernel_rfl) (fun W hG hF' => by have hp' := cf W hG; go_simp <;> rfl) (by simp only [Act.put, List.setIfInBounds_toArray, List.set_cons_zero, List.set_cons_succ]; rfl) ?_
          refine dep_known (c := .int .i64 (doneS S)) rfl (by kernel_rfl) (fun W hG hF' => ?_) (by simp only [Act.put, List.setIfInBounds_toArray, List.set_cons_zero, List.set_cons_succ]; rfl) ?_
          · have bw := (keeps_drew hG).nil_below
            have hPW := hF3.below_ bw
            unfold opGives
            go_simp
            refine (refDone_any A7 n7 c7 S W hPW.ref).mono ?_
            rintro e w2 ⟨rfl, hb2⟩
            exact ⟨_, rfl, rfl, Keeps.of_below hb2 []⟩
          iterate 2 refine dep_reckons rfl (by kernel_rfl) (fun W hG hF => by go_simp <;> rfl) (by simp only [Act.put, List.setIfInBounds_toArray, List.set_cons_zero, List.set_cons_succ]; rfl) ?_
          refine dep_nil fun W hG hF' => ?_
          have hF := hF3.below_ (keeps_drew hG).nil_below
          clear hF' hG cf
          go_wp2_with fail
          exact ⟨⟨k + 1, A7, n7, c7, S, by omega, by omega, rfl, hF⟩, by simp [intOf]; omega⟩
        · by_cases k2 : kind = 2
          · subst k2
            obtain ⟨q0, q1, q2⟩ := hP wr hb
            have ql : b < wr.heap.size := by omega
            have hsm := rawS_small (k := width) hF.small
            obtain ⟨S, hS⟩ : ∃ z, rawS s width = z := ⟨_, rfl⟩
            obtain ⟨T, hV⟩ : ∃ z, rawB s width = z := ⟨_, rfl⟩
            rw [hS] at hsm
            have HS := Lib.hid hS
            have HV := Lib.hid hV
            clear hS hV
            go_wp2_with fail
            clear q0 q1 q2 ql
            have hP' : ∀ W, Keeps [w1.heap.size] wr W → W.cell? ⟨b, o + k * 3 + 1, none⟩ = some (.int .i64 width) ∧ W.cell? ⟨b, o + k * 3 + 2, none⟩ = some (.int .u64 (most : Int)) := fun W hk => by
              have hW := hb.trans (hk.below hsz (by simp; exact hF.ge))
              exact (hP W hW).2
            refine wp_region_writes [w1.heap.size] 11 10 (RefStored w1.heap.size S) [(0, .early (isV (.agg #[.slice A9 n9 c9, .int .i64 s.err]))), (6, .early (RefTold w1.heap.size S (rdV w1.heap.size T))), (7, .early (RefTold w1.heap.size S (rdV w1.heap.size T)))] (by kernel_rfl) (by kernel_rfl) rfl
              ⟨isV_keeps, refTold_keeps rdV_keeps, refTold_keeps rdV_keeps, trivial⟩ refStored_keeps (by kernel_rfl) ?_
            simp only [List.take_succ_cons, List.take_zero, List.drop_succ_cons, List.drop_zero]
            refine dep_early rfl (by kernel_rfl) (fun W hG hF' => ?_) (fun v0 => ?_)
            · have hW := hF.below_ (keeps_drew hG).nil_below
              have r0 := hW.var.cell 0
              have r1 := hW.var.cell 1
              simp only [List.getElem?_toArray, List.getElem?_cons_zero, List.getElem?_cons_succ] at r0 r1
              unfold opGives
              go_simp
              exact ⟨rfl, Keeps.refl [] _⟩
            simp only [Act.put, List.setIfInBounds_toArray, List.set_cons_zero, List.set_cons_succ]
            iterate 4 refine dep_reckons rfl (by kernel_rfl) (fun W hG hF => by go_simp <;> rfl) (by simp only [Act.put, List.setIfInBounds_toArray, List.set_cons_zero, List.set_cons_succ]; rfl) ?_
            refine dep_reckons rfl (by kernel_rfl) (fun W hG hF => by have hp' := hP' W (keeps_drew hG); go_simp <;> rfl) (by simp only [Act.put, List.setIfInBounds_toArray, List.set_cons_zero, List.set_cons_succ]; rfl) ?_
            refine dep_early rfl (by kernel_rfl) (fun W hG hF' => ?_) (fun v6 => ?_)
            · have hf := hF' _ List.mem_cons_self (by kernel_rfl)
              unfold isV at hf
              subst hf
              have hW := hF.below_ (keeps_drew hG).nil_below
              unfold opGives
              go_simp
              refine (refRaw_any A9 n9 c9 s width W hW.ref).mono ?_
              rw [HS.out, HV.out]
              rintro e w2 ⟨⟨A1, n1, c1, At, ct, rfl, h1, h2, h3⟩, hb2⟩
              exact ⟨_, rfl, ⟨A1, n1, c1, _, rfl, h1, rd_ne_pair h1.rd (hW.var.below hb2 hW.var.lt), At, T.length, ct, rfl, h2, rd_ne_pair h2 (hW.var.below hb2 hW.var.lt)⟩, Keeps.of_below hb2 []⟩
            simp only [Act.put, List.setIfInBounds_toArray, List.set_cons_zero, List.set_cons_succ]
            refine dep_early rfl (by kernel_rfl) (fun W hG hF' => ?_) (fun v7 => ?_)
            · have hf := hF' _ List.mem_cons_self (by kernel_rfl)
              unfold opGives
              go_simp
              exact ⟨hf, Keeps.refl [] _⟩
            simp only [Act.put, List.setIfInBounds_toArray, List.set_cons_zero, List.set_cons_succ]
            refine dep_reckons (c := tupGet v7 0) rfl (by kernel_rfl) (fun W hG hF' => by obtain ⟨A1, n1, c1, x, rfl, _⟩ := hF' _ List.mem_cons_self (by kernel_rfl); go_simp; rfl) (by simp only [Act.put, List.setIfInBounds_toArray, List.set_cons_zero, List.set_cons_succ]; rfl) ?_
            refine dep_reckons (c := tupGet v7 1) rfl (by kernel_rfl) (fun W hG hF' => by obtain ⟨A1, n1, c1, x, rfl, _⟩ := hF' _ List.mem_cons_self (by kernel_rfl); go_simp; rfl) (by simp only [Act.put, List.setIfInBounds_toArray, List.set_cons_zero, List.set_cons_succ]; rfl) ?_
            refine dep_last rfl (by kernel_rfl) (fun W hG hF' => ?_) (fun v10 => ?_)
            · obtain ⟨A1, n1, c1, x, rfl, h1, h2, _⟩ := hF' _ List.mem_cons_self (by kernel_rfl)
              have hW := hF.below_ (keeps_drew hG).nil_below
              have rz := hW.var.frozen
              have rl := hW.var.lt
              have r0 := hW.var.cell 0
              have r1 := hW.var.cell 1
              simp only [List.getElem?_toArray, List.getElem?_cons_zero, List.getElem?_cons_succ] at r0 r1
              unfold opGives
              simp only [tup0]
              go_simp
              exact hW.stored h1 _
            simp only [Act.put, List.setIfInBounds_toArray, List.set_cons_zero, List.set_cons_succ]
            refine dep_nil fun W hG hF2 => ?_
            have hks := keeps_drew hG
            obtain ⟨A1, n1, c1, hv2, hr2⟩ := hF2 _ List.mem_cons_self
            obtain ⟨_, _, _, x, rfl, _, _, hx⟩ := hF2 _ (List.mem_cons_of_mem _ List.mem_cons_self)
            have hi2 := hF.inn.keeps_pair hF.var hks
            have hbW := hb.trans (hks.below hsz (by simp; exact hF.ge))
            clear hF2 hG hP'
            simp only [tup0, tup1]
            obtain ⟨At, nt, ct, rfl, hrt, _⟩ := hx
            obtain ⟨q0, q1, q2⟩ := hP W hbW
            go_wp2_with fail
            refine (inRaw_any _ g s width _ hi2 wf1 (by have := hF.small; omega)).mono ?_
            rw [HS.out, HV.out]
            rintro e w3 ⟨⟨Ab, cb, rfl, hob⟩, hi3, hk3⟩
            have hrb := Rd.of_own hob
            have hrt3 := hrt.keeps_in hi2 hk3
            clear hob hrt
            have hF3 := hF.step hks hv2 hr2 hsm hi3 hk3
            clear hF hks hv2 hr2 hi3 hk3 hi2 q0 q1 q2 hbW
            obtain ⟨A7, n7, c7, hF3⟩ : ∃ A n c, FR w w3 g w1.heap.size A n c S := ⟨_, _, _, hF3⟩
            have cf : ∀ W, Keeps [] w3.drew W → W.cell? ⟨w1.heap.size, 0, none⟩ = some (.slice A7 n7 c7) ∧ W.cell? ⟨w1.heap.size, 1, none⟩ = some (.int .i64 S.err) := fun W hk => by
              have hF1 := hF3.below_ (keeps_drew hk).nil_below
              exact ⟨hF1.var.cell 0, hF1.var.cell 1⟩
            have hlen : S.b.length = n7 := hF3.ref.rd.1
            go_wp2_with fail
            refine wp_region_calls 36 [(6, .known (.bool true)), (16, .known (.int .i64 (n7 : Int))), (24, .known (.int .i64 S.err)), (31, .known (.int .i64 (doneS S))), (33, .known (.int .i64 (doneS S)))] (by kernel_rfl) (by kernel_rfl) rfl ⟨trivial, trivial, trivial, trivial, trivial, trivial⟩ ?_
            simp only [List.take_succ_cons, List.take_zero, List.drop_succ_cons, List.drop_zero]
            iterate 6 refine dep_reckons rfl (by kernel_rfl) (fun W hG hF => by go_simp <;> rfl) (by simp only [Act.put, List.setIfInBounds_toArray, List.set_cons_zero, List.set_cons_succ]; rfl) ?_
            refine dep_known (c := .bool true) rfl (by kernel_rfl) (fun W hG hF' => ?_) (by simp only [Act.put, List.setIfInBounds_toArray, List.set_cons_zero, List.set_cons_succ]; rfl) ?_
            · have bw := (keeps_drew hG).nil_below
              have hPW := hF3.below_ bw
              unfold opGives
              go_simp
              refine (Same_any Ab At _ _ _ _ T T W (hrb.below_ bw) (hrt3.below_ bw)).mono ?_
              rintro e w2 ⟨rfl, hb2⟩
              exact ⟨_, rfl, by simp, Keeps.of_below (hb2.below _) []⟩
            iterate 9 refine dep_reckons rfl (by kernel_rfl) (fun W hG hF => by go_simp <;> rfl) (by simp only [Act.put, List.setIfInBounds_toArray, List.set_cons_zero, List.set_cons_succ]; rfl) ?_
            refine dep_known (c := .int .i64 (n7 : Int)) rfl (by kernel_rfl) (fun W hG hF' => ?_) (by simp only [Act.put, List.setIfInBounds_toArray, List.set_cons_zero, List.set_cons_succ]; rfl) ?_
            · have bw := (keeps_drew hG).nil_below
              have hPW := hF3.below_ bw
              unfold opGives
              go_simp
              refine (inLeft_any _ g S W hPW.inn).mono ?_
              rintro e w2 ⟨rfl, rfl⟩
              exact ⟨_, rfl, by rw [hlen], Keeps.refl [] _⟩
            refine dep_reckons rfl (by kernel_rfl) (fun W hG hF => by go_simp <;> rfl) (by simp only [Act.put, List.setIfInBounds_toArray, List.set_cons_zero, List.set_cons_succ]; rfl) ?_
            refine dep_reckons rfl (by kernel_rfl) (fun W hG hF' => by have hp' := cf W hG; go_simp <;> rfl) (by simp only [Act.put, List.setIfInBounds_toArray, List.set_cons_zero, List.set_cons_succ]; rfl) ?_
            iterate 5 refine dep_reckons rfl (by kernel_rfl) (fun W hG hF => by go_simp <;> rfl) (by simp only [Act.put, List.setIfInBounds_toArray, List.set_cons_zero, List.set_cons_succ]; rfl) ?_
            refine dep_known (c := .int .i64 S.err) rfl (by kernel_rfl) (fun W hG hF' => ?_) (by simp only [Act.put, List.setIfInBounds_toArray, List.set_cons_zero, List.set_cons_succ]; rfl) ?_
            · have bw := (keeps_drew hG).nil_below
              have hPW := hF3.below_ bw
              unfold opGives
              go_simp
              refine (inErr_any _ g S W hPW.inn).mono ?_
              rintro e w2 ⟨rfl, rfl⟩
              exact ⟨_, rfl, rfl, Keeps.refl [] _⟩
            refine dep_reckons rfl (by kernel_rfl) (fun W hG hF => by go_simp <;> rfl) (by simp only [Act.put, List.setIfInBounds_toArray, List.set_cons_zero, List.set_cons_succ]; rfl) ?_
            refine dep_reckons rfl (by kernel_rfl) (fun W hG hF' => by have hp' := cf W hG; go_simp <;> rfl) (by simp only [Act.put, List.setIfInBounds_toArray, List.set_cons_zero, List.set_cons_succ]; rfl) ?_
            iterate 4 refine dep_reckons rfl (by kernel_rfl) (fun W hG hF => by go_simp <;> rfl) (by simp only [Act.put, List.setIfInBounds_toArray, List.set_cons_zero, List.set_cons_succ]; rfl) ?_
            refine dep_known (c := .int .i64 (doneS S)) rfl (by kernel_rfl) (fun W hG hF' => ?_) (by simp only [Act.put, List.setIfInBounds_toArray, List.set_cons_zero, List.set_cons_succ]; rfl) ?_
            · have bw := (keeps_drew hG).nil_below
              have hPW := hF3.below_ bw
              unfold opGives
              go_simp
              refine (inDone_any _ g S W hPW.inn).mono ?_
              rintro e w2 ⟨rfl, rfl⟩
              exact ⟨_, rfl, rfl, Keeps.refl [] _⟩
            refine dep_reckons rfl (by kernel_rfl) (fun W hG hF' => by have hp' := cf W hG; go_simp <;> rfl) (by simp only [Act.put, List.setIfInBounds_toArray, List.set_cons_zero, List.set_cons_succ]; rfl) ?_
            refine dep_known (c := .int .i64 (doneS S)) rfl (by kernel_rfl) (fun W hG hF' => ?_) (by simp only [Act.put, List.setIfInBounds_toArray, List.set_cons_zero, List.set_cons_succ]; rfl) ?_
            · have bw := (keeps_drew hG).nil_below
              have hPW := hF3.below_ bw
              unfold opGives
              go_simp
              refine (refDone_any A7 n7 c7 S W hPW.ref).mono ?_
              rintro e w2 ⟨rfl, hb2⟩
              exact ⟨_, rfl, rfl, Keeps.of_below hb2 []⟩
            iterate 2 refine dep_reckons rfl (by kernel_rfl) (fun W hG hF => by go_simp <;> rfl) (by simp only [Act.put, List.setIfInBounds_toArray, List.set_cons_zero, List.set_cons_succ]; rfl) ?_
            refine dep_nil fun W hG hF' => ?_
            have hF := hF3.below_ (keeps_drew hG).nil_below
            clear hF' hG cf
            go_wp2_with fail
            exact ⟨⟨k + 1, A7, n7, c7, S, by omega, by omega, rfl, hF⟩, by simp [intOf]; omega⟩
          · by_cases k3 : kind = 3
            · subst k3
              obtain ⟨q0, q1, q2⟩ := hP wr hb
              have ql : b < wr.heap.size := by omega
              have hsm := readS_small (k := width) hF.small
              obtain ⟨S, hS⟩ : ∃ z, readS s width = z := ⟨_, rfl⟩
              obtain ⟨T, hV⟩ : ∃ z, readB s width = z := ⟨_, rfl⟩
              rw [hS] at hsm
              have HS := Lib.hid hS
              have HV := Lib.hid hV
              clear hS hV
              go_wp2_with fail
              clear q0 q1 q2 ql
              have hP' : ∀ W, Keeps [w1.heap.size] wr W → W.cell? ⟨b, o + k * 3 + 1, none⟩ = some (.int .i64 width) ∧ W.cell? ⟨b, o + k * 3 + 2, none⟩ = some (.int .u64 (most : Int)) := fun W hk => by
                have hW := hb.trans (hk.below hsz (by simp; exact hF.ge))
                exact (hP W hW).2
              refine wp_region_writes [w1.heap.size] 11 10 (RefStored w1.heap.size S) [(0, .early (isV (.agg #[.slice A9 n9 c9, .int .i64 s.err]))), (6, .early (RefTold w1.heap.size S (rdV w1.heap.size T))), (7, .early (RefTold w1.heap.size S (rdV w1.heap.size T)))] (by kernel_rfl) (by kernel_rfl) rfl
                ⟨isV_keeps, refTold_keeps rdV_keeps, refTold_keeps rdV_keeps, trivial⟩ refStored_keeps (by kernel_rfl) ?_
              simp only [List.take_succ_cons, List.take_zero, List.drop_succ_cons, List.drop_zero]
              refine dep_early rfl (by kernel_rfl) (fun W hG hF' => ?_) (fun v0 => ?_)
              · have hW := hF.below_ (keeps_drew hG).nil_below
                have r0 := hW.var.cell 0
                have r1 := hW.var.cell 1
                simp only [List.getElem?_toArray, List.getElem?_cons_zero, List.getElem?_cons_succ] at r0 r1
                unfold opGives
                go_simp
                exact ⟨rfl, Keeps.refl [] _⟩
              simp only [Act.put, List.setIfInBounds_toArray, List.set_cons_zero, List.set_cons_succ]
              iterate 4 refine dep_reckons rfl (by kernel_rfl) (fun W hG hF => by go_simp <;> rfl) (by simp only [Act.put, List.setIfInBounds_toArray, List.set_cons_zero, List.set_cons_succ]; rfl) ?_
              refine dep_reckons rfl (by kernel_rfl) (fun W hG hF => by have hp' := hP' W (keeps_drew hG); go_simp <;> rfl) (by simp only [Act.put, List.setIfInBounds_toArray, List.set_cons_zero, List.set_cons_succ]; rfl) ?_
              refine dep_early rfl (by kernel_rfl) (fun W hG hF' => ?_) (fun v6 => ?_)
              · have hf := hF' _ List.mem_cons_self (by kernel_rfl)
                unfold isV at hf
                subst hf
                have hW := hF.below_ (keeps_drew hG).nil_below
                unfold opGives
                go_simp
                refine (refRead_any A9 n9 c9 s width W hW.ref).mono ?_
                rw [HS.out, HV.out]
                rintro e w2 ⟨⟨A1, n1, c1, At, ct, rfl, h1, h2, h3⟩, hb2⟩
                exact ⟨_, rfl, ⟨A1, n1, c1, _, rfl, h1, rd_ne_pair h1.rd (hW.var.below hb2 hW.var.lt), At, T.length, ct, rfl, h2, rd_ne_pair h2 (hW.var.below hb2 hW.var.lt)⟩, Keeps.of_below hb2 []⟩
              simp only [Act.put, List.setIfInBounds_toArray, List.set_cons_zero, List.set_cons_succ]
              refine dep_early rfl (by kernel_rfl) (fun W hG hF' => ?_) (fun v7 => ?_)
              · have hf := hF' _ List.mem_cons_self (by kernel_rfl)
                unfold opGives
                go_simp
                exact ⟨hf, Keeps.refl [] _⟩
              simp only [Act.put, List.setIfInBounds_toArray, List.set_cons_zero, List.set_cons_succ]
              refine dep_reckons (c := tupGet v7 0) rfl (by kernel_rfl) (fun W hG hF' => by obtain ⟨A1, n1, c1, x, rfl, _⟩ := hF' _ List.mem_cons_self (by kernel_rfl); go_simp; rfl) (by simp only [Act.put, List.setIfInBounds_toArray, List.set_cons_zero, List.set_cons_succ]; rfl) ?_
              refine dep_reckons (c := tupGet v7 1) rfl (by kernel_rfl) (fun W hG hF' => by obtain ⟨A1, n1, c1, x, rfl, _⟩ := hF' _ List.mem_cons_self (by kernel_rfl); go_simp; rfl) (by simp only [Act.put, List.setIfInBounds_toArray, List.set_cons_zero, List.set_cons_succ]; rfl) ?_
              refine dep_last rfl (by kernel_rfl) (fun W hG hF' => ?_) (fun v10 => ?_)
              · obtain ⟨A1, n1, c1, x, rfl, h1, h2, _⟩ := hF' _ List.mem_cons_self (by kernel_rfl)
                have hW := hF.below_ (keeps_drew hG).nil_below
                have rz := hW.var.frozen
                have rl := hW.var.lt
                have r0 := hW.var.cell 0
                have r1 := hW.var.cell 1
                simp only [List.getElem?_toArray, List.getElem?_cons_zero, List.getElem?_cons_succ] at r0 r1
                unfold opGives
                simp only [tup0]
                go_simp
                exact hW.stored h1 _
              simp only [Act.put, List.setIfInBounds_toArray, List.set_cons_zero, List.set_cons_succ]
              refine dep_nil fun W hG hF2 => ?_
              have hks := keeps_drew hG
              obtain ⟨A1, n1, c1, hv2, hr2⟩ := hF2 _ List.mem_cons_self
              obtain ⟨_, _, _, x, rfl, _, _, hx⟩ := hF2 _ (List.mem_cons_of_mem _ List.mem_cons_self)
              have hi2 := hF.inn.keeps_pair hF.var hks
              have hbW := hb.trans (hks.below hsz (by simp; exact hF.ge))
              clear hF2 hG hP'
              simp only [tup0, tup1]
              obtain ⟨At, nt, ct, rfl, hrt, _⟩ := hx
              obtain ⟨q0, q1, q2⟩ := hP W hbW
              go_wp2_with fail
              refine (inText_any _ g s width _ hi2 (by have := hF.small; omega)).mono ?_
              rw [HS.out, HV.out]
              rintro e w3 ⟨⟨Ab, cb, rfl, hob⟩, hi3, hk3⟩
              have hrb := Rd.of_own hob
              have hrt3 := hrt.keeps_in hi2 hk3
              clear hob hrt
              have hF3 := hF.step hks hv2 hr2 hsm hi3 hk3
              clear hF hks hv2 hr2 hi3 hk3 hi2 q0 q1 q2 hbW
              obtain ⟨A7, n7, c7, hF3⟩ : ∃ A n c, FR w w3 g w1.heap.size A n c S := ⟨_, _, _, hF3⟩
              have cf : ∀ W, Keeps [] w3.drew W → W.cell? ⟨w1.heap.size, 0, none⟩ = some (.slice A7 n7 c7) ∧ W.cell? ⟨w1.heap.size, 1, none⟩ = some (.int .i64 S.err) := fun W hk => by
                have hF1 := hF3.below_ (keeps_drew hk).nil_below
                exact ⟨hF1.var.cell 0, hF1.var.cell 1⟩
              have hlen : S.b.length = n7 := hF3.ref.rd.1
              go_wp2_with fail
              refine wp_region_calls 36 [(6, .known (.bool true)), (16, .known (.int .i64 (n7 : Int))), (24, .known (.int .i64 S.err)), (31, .known (.int .i64 (doneS S))), (33, .known (.int .i64 (doneS S)))] (by kernel_rfl) (by kernel_rfl) rfl ⟨trivial, trivial, trivial, trivial, trivial, trivial⟩ ?_
              simp only [List.take_succ_cons, List.take_zero, List.drop_succ_cons, List.drop_zero]
              iterate 6 refine dep_reckons rfl (by kernel_rfl) (fun W hG hF => by go_simp <;> rfl) (by simp only [Act.put, List.setIfInBounds_toArray, List.set_cons_zero, List.set_cons_succ]; rfl) ?_
              refine dep_known (c := .bool true) rfl (by kernel_rfl) (fun W hG hF' => ?_) (by simp only [Act.put, List.setIfInBounds_toArray, List.set_cons_zero, List.set_cons_succ]; rfl) ?_
              · have bw := (keeps_drew hG).nil_below
                have hPW := hF3.below_ bw
                unfold opGives
                go_simp
                refine (Same_any Ab At _ _ _ _ T T W (hrb.below_ bw) (hrt3.below_ bw)).mono ?_
                rintro e w2 ⟨rfl, hb2⟩
                exact ⟨_, rfl, by simp, Keeps.of_below (hb2.below _) []⟩
              iterate 9 refine dep_reckons rfl (by kernel_rfl) (fun W hG hF => by go_simp <;> rfl) (by simp only [Act.put, List.setIfInBounds_toArray, List.set_cons_zero, List.set_cons_succ]; rfl) ?_
              refine dep_known (c := .int .i64 (n7 : Int)) rfl (by kernel_rfl) (fun W hG hF' => ?_) (by simp only [Act.put, List.setIfInBounds_toArray, List.set_cons_zero, List.set_cons_succ]; rfl) ?_
              · have bw := (keeps_drew hG).nil_below
                have hPW := hF3.below_ bw
                unfold opGives
                go_simp
                refine (inLeft_any _ g S W hPW.inn).mono ?_
                rintro e w2 ⟨rfl, rfl⟩
                exact ⟨_, rfl, by rw [hlen], Keeps.refl [] _⟩
              refine dep_reckons rfl (by kernel_rfl) (fun W hG hF => by go_simp <;> rfl) (by simp only [Act.put, List.setIfInBounds_toArray, List.set_cons_zero, List.set_cons_succ]; rfl) ?_
              refine dep_reckons rfl (by kernel_rfl) (fun W hG hF' => by have hp' := cf W hG; go_simp <;> rfl) (by simp only [Act.put, List.setIfInBounds_toArray, List.set_cons_zero, List.set_cons_succ]; rfl) ?_
              iterate 5 refine dep_reckons rfl (by kernel_rfl) (fun W hG hF => by go_simp <;> rfl) (by simp only [Act.put, List.setIfInBounds_toArray, List.set_cons_zero, List.set_cons_succ]; rfl) ?_
              refine dep_known (c := .int .i64 S.err) rfl (by kernel_rfl) (fun W hG hF' => ?_) (by simp only [Act.put, List.setIfInBounds_toArray, List.set_cons_zero, List.set_cons_succ]; rfl) ?_
              · have bw := (keeps_drew hG).nil_below
                have hPW := hF3.below_ bw
                unfold opGives
                go_simp
                refine (inErr_any _ g S W hPW.inn).mono ?_
                rintro e w2 ⟨rfl, rfl⟩
                exact ⟨_, rfl, rfl, Keeps.refl [] _⟩
              refine dep_reckons rfl (by kernel_rfl) (fun W hG hF => by go_simp <;> rfl) (by simp only [Act.put, List.setIfInBounds_toArray, List.set_cons_zero, List.set_cons_succ]; rfl) ?_
              refine dep_reckons rfl (by kernel_rfl) (fun W hG hF' => by have hp' := cf W hG; go_simp <;> rfl) (by simp only [Act.put, List.setIfInBounds_toArray, List.set_cons_zero, List.set_cons_succ]; rfl) ?_
              iterate 4 refine dep_reckons rfl (by kernel_rfl) (fun W hG hF => by go_simp <;> rfl) (by simp only [Act.put, List.setIfInBounds_toArray, List.set_cons_zero, List.set_cons_succ]; rfl) ?_
              refine dep_known (c := .int .i64 (doneS S)) rfl (by kernel_rfl) (fun W hG hF' => ?_) (by simp only [Act.put, List.setIfInBounds_toArray, List.set_cons_zero, List.set_cons_succ]; rfl) ?_
              · have bw := (keeps_drew hG).nil_below
                have hPW := hF3.below_ bw
                unfold opGives
                go_simp
                refine (inDone_any _ g S W hPW.inn).mono ?_
                rintro e w2 ⟨rfl, rfl⟩
                exact ⟨_, rfl, rfl, Keeps.refl [] _⟩
              refine dep_reckons rfl (by kernel_rfl) (fun W hG hF' => by have hp' := cf W hG; go_simp <;> rfl) (by simp only [Act.put, List.setIfInBounds_toArray, List.set_cons_zero, List.set_cons_succ]; rfl) ?_
              refine dep_known (c := .int .i64 (doneS S)) rfl (by kernel_rfl) (fun W hG hF' => ?_) (by simp only [Act.put, List.setIfInBounds_toArray, List.set_cons_zero, List.set_cons_succ]; rfl) ?_
              · have bw := (keeps_drew hG).nil_below
                have hPW := hF3.below_ bw
                unfold opGives
                go_simp
                refine (refDone_any A7 n7 c7 S W hPW.ref).mono ?_
                rintro e w2 ⟨rfl, hb2⟩
                exact ⟨_, rfl, rfl, Keeps.of_below hb2 []⟩
              iterate 2 refine dep_reckons rfl (by kernel_rfl) (fun W hG hF => by go_simp <;> rfl) (by simp only [Act.put, List.setIfInBounds_toArray, List.set_cons_zero, List.set_cons_succ]; rfl) ?_
              refine dep_nil fun W hG hF' => ?_
              have hF := hF3.below_ (keeps_drew hG).nil_below
              clear hF' hG cf
              go_wp2_with fail
              exact ⟨⟨k + 1, A7, n7, c7, S, by omega, by omega, rfl, hF⟩, by simp [intOf]; omega⟩
            · obtain ⟨q0, q1, q2⟩ := hP wr hb
              have ql : b < wr.heap.size := by omega
              have hsm := uptoS_small (k := 1) (most := 1) hF.small
              obtain ⟨V, hV⟩ : ∃ z, decide (uptoN s 1 1 = 1) = z := ⟨_, rfl⟩
              obtain ⟨S, hS⟩ : ∃ z, uptoS s 1 1 = z := ⟨_, rfl⟩
              rw [hS] at hsm
              have HS := Lib.hid hS
              have HV := Lib.hid hV
              clear hS hV
              have r0 := hF.var.cell 0
              have r1 := hF.var.cell 1
              have rz := hF.var.frozen
              have rl := hF.var.lt
              simp only [List.getElem?_toArray, List.getElem?_cons_zero, List.getElem?_cons_succ] at r0 r1
              go_wp2_with fail
              refine (refBool_any A9 n9 c9 s _ hF.ref).mono ?_
              rw [HS.out, HV.out]
              rintro e w2 ⟨⟨A1, n1, c1, rfl, h1⟩, hb2⟩
              simp only [rinV]
              have hW := hF.below_ hb2
              obtain ⟨hst, hks⟩ := hW.stored h1 undef
              obtain ⟨A2, n2, c2, hv2, hr2⟩ := hst
              have hi2 := hW.inn.keeps_pair hW.var hks
              clear r0 r1 rz rl q0 q1 q2 ql
              have r0 := hW.var.cell 0
              have r1 := hW.var.cell 1
              have rz := hW.var.frozen
              have rl := hW.var.lt
              simp only [List.getElem?_toArray, List.getElem?_cons_zero, List.getElem?_cons_succ] at r0 r1
              go_wp2_with fail
              refine (inBool_any _ g s _ hi2).mono ?_
              rw [HS.out, HV.out]
              rintro e w3 ⟨rfl, hi3, hk3⟩
              have hF3 := hW.step hks hv2 hr2 hsm hi3 hk3
              clear hF hW hks hv2 hr2 hi3 hk3 hi2 r0 r1 rz rl
              obtain ⟨A7, n7, c7, hF3⟩ : ∃ A n c, FR w w3 g w1.heap.size A n c S := ⟨_, _, _, hF3⟩
              have cf : ∀ W, Keeps [] w3.drew W → W.cell? ⟨w1.heap.size, 0, none⟩ = some (.slice A7 n7 c7) ∧ W.cell? ⟨w1.heap.size, 1, none⟩ = some (.int .i64 S.err) := fun W hk => by
                have hF1 := hF3.below_ (keeps_drew hk).nil_below
                exact ⟨hF1.var.cell 0, hF1.var.cell 1⟩
              have hlen : S.b.length = n7 := hF3.ref.rd.1
              go_wp2_with fail
              refine wp_region_calls 36 [(6, .known (.bool true)), (16, .known (.int .i64 (n7 : Int))), (24, .known (.int .i64 S.err)), (31, .known (.int .i64 (doneS S))), (33, .known (.int .i64 (doneS S)))] (by kernel_rfl) (by kernel_rfl) rfl ⟨trivial, trivial, trivial, trivial, trivial, trivial⟩ ?_
              simp only [List.take_succ_cons, List.take_zero, List.drop_succ_cons, List.drop_zero]
              iterate 6 refine dep_reckons rfl (by kernel_rfl) (fun W hG hF => by go_simp <;> rfl) (by simp only [Act.put, List.setIfInBounds_toArray, List.set_cons_zero, List.set_cons_succ]; rfl) ?_
              refine dep_known (c := .bool true) rfl (by kernel_rfl) (fun W hG hF' => ?_) (by simp only [Act.put, List.setIfInBounds_toArray, List.set_cons_zero, List.set_cons_succ]; rfl) ?_
              · have bw := (keeps_drew hG).nil_below
                have hPW := hF3.below_ bw
                unfold opGives
                go_simp
                refine (Same_any none none 0 0 0 0 [] [] W (Rd.nil _ _) (Rd.nil _ _)).mono ?_
                rintro e w2 ⟨rfl, hb2⟩
                exact ⟨_, rfl, by simp, Keeps.of_below (hb2.below _) []⟩
              iterate 9 refine dep_reckons rfl (by kernel_rfl) (fun W hG hF => by go_simp <;> rfl) (by simp only [Act.put, List.setIfInBounds_toArray, List.set_cons_zero, List.set_cons_succ]; rfl) ?_
              refine dep_known (c := .int .i64 (n7 : Int)) rfl (by kernel_rfl) (fun W hG hF' => ?_) (by simp only [Act.put, List.setIfInBounds_toArray, List.set_cons_zero, List.set_cons_succ]; rfl) ?_
              · have bw := (keeps_drew hG).nil_below
                have hPW := hF3.below_ bw
                unfold opGives
                go_simp
                refine (inLeft_any _ g S W hPW.inn).mono ?_
                rintro e w2 ⟨rfl, rfl⟩
                exact ⟨_, rfl, by rw [hlen], Keeps.refl [] _⟩
              refine dep_reckons rfl (by kernel_rfl) (fun W hG hF => by go_simp <;> rfl) (by simp only [Act.put, List.setIfInBounds_toArray, List.set_cons_zero, List.set_cons_succ]; rfl) ?_
              refine dep_reckons rfl (by kernel_rfl) (fun W hG hF' => by have hp' := cf W hG; go_simp <;> rfl) (by simp only [Act.put, List.setIfInBounds_toArray, List.set_cons_zero, List.set_cons_succ]; rfl) ?_
              iterate 5 refine dep_reckons rfl (by kernel_rfl) (fun W hG hF => by go_simp <;> rfl) (by simp only [Act.put, List.setIfInBounds_toArray, List.set_cons_zero, List.set_cons_succ]; rfl) ?_
              refine dep_known (c := .int .i64 S.err) rfl (by kernel_rfl) (fun W hG hF' => ?_) (by simp only [Act.put, List.setIfInBounds_toArray, List.set_cons_zero, List.set_cons_succ]; rfl) ?_
              · have bw := (keeps_drew hG).nil_below
                have hPW := hF3.below_ bw
                unfold opGives
                go_simp
                refine (inErr_any _ g S W hPW.inn).mono ?_
                rintro e w2 ⟨rfl, rfl⟩
                exact ⟨_, rfl, rfl, Keeps.refl [] _⟩
              refine dep_reckons rfl (by kernel_rfl) (fun W hG hF => by go_simp <;> rfl) (by simp only [Act.put, List.setIfInBounds_toArray, List.set_cons_zero, List.set_cons_succ]; rfl) ?_
              refine dep_reckons rfl (by kernel_rfl) (fun W hG hF' => by have hp' := cf W hG; go_simp <;> rfl) (by simp only [Act.put, List.setIfInBounds_toArray, List.set_cons_zero, List.set_cons_succ]; rfl) ?_
              iterate 4 refine dep_reckons rfl (by kernel_rfl) (fun W hG hF => by go_simp <;> rfl) (by simp only [Act.put, List.setIfInBounds_toArray, List.set_cons_zero, List.set_cons_succ]; rfl) ?_
              refine dep_known (c := .int .i64 (doneS S)) rfl (by kernel_rfl) (fun W hG hF' => ?_) (by simp only [Act.put, List.setIfInBounds_toArray, List.set_cons_zero, List.set_cons_succ]; rfl) ?_
              · have bw := (keeps_drew hG).nil_below
                have hPW := hF3.below_ bw
                unfold opGives
                go_simp
                refine (inDone_any _ g S W hPW.inn).mono ?_
                rintro e w2 ⟨rfl, rfl⟩
                exact ⟨_, rfl, rfl, Keeps.refl [] _⟩
              refine dep_reckons rfl (by kernel_rfl) (fun W hG hF' => by have hp' := cf W hG; go_simp <;> rfl) (by simp only [Act.put, List.setIfInBounds_toArray, List.set_cons_zero, List.set_cons_succ]; rfl) ?_
              refine dep_known (c := .int .i64 (doneS S)) rfl (by kernel_rfl) (fun W hG hF' => ?_) (by simp only [Act.put, List.setIfInBounds_toArray, List.set_cons_zero, List.set_cons_succ]; rfl) ?_
              · have bw := (keeps_drew hG).nil_below
                have hPW := hF3.below_ bw
                unfold opGives
                go_simp
                refine (refDone_any A7 n7 c7 S W hPW.ref).mono ?_
                rintro e w2 ⟨rfl, hb2⟩
                exact ⟨_, rfl, rfl, Keeps.of_below hb2 []⟩
              iterate 2 refine dep_reckons rfl (by kernel_rfl) (fun W hG hF => by go_simp <;> rfl) (by simp only [Act.put, List.setIfInBounds_toArray, List.set_cons_zero, List.set_cons_succ]; rfl) ?_
              refine dep_nil fun W hG hF' => ?_
              have hF := hF3.below_ (keeps_drew hG).nil_below
              clear hF' hG cf
              go_wp2_with fail
              exact ⟨⟨k + 1, A7, n7, c7, S, by omega, by omega, rfl, hF⟩, by simp [intOf]; omega⟩
    · have hb9 := hF.below
      rcases (by omega : k = m ∨ (k < m ∧ k = 30)) with rfl | ⟨h1, rfl⟩
      iterate 2
        · go_wp2_with fail
          refine (awake01 wr).mono ?_
          rintro e w9 ⟨rfl, hb8⟩
          have hsz := hb9.size
          go_wp2_with fail
          go_ret
          exact ⟨rfl, hb9.trans (hb8.mono hsz)⟩
end Go.Proofs.Ytehfddafjemedaa
