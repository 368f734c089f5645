/- Contracts: the table that is made when it is needed: fill, doSlow, Do, ready, Made, At. -/
import Derived.Test.YtgflgncpjlgeoaaCrc2
import Derived.Test.YtgflgncpjlgeoaaReg
namespace Go.Proofs.Ytgflgncpjlgeoaa
open Go.RowKit
set_option linter.unusedSimpArgs false
set_option linter.unusedVariables false

set_option maxRecDepth 100000 in
set_option maxHeartbeats 2000000 in
theorem fill_any (g : Nat) (f : Nat → Nat) (w : World) (h : CT w g 0 1 0 f) :
    Calls Try.prog 71 #[.pointer (some ⟨g, 0, none⟩)] w fun e w' => e = .returned (.tuple #[]) ∧ CT w' g 0 1 1 (halfN 8) ∧ Keeps [g] w w' := by
  go_enter Try.func71, Try.ntmps71
  go_wp2_with fail
  go_loopw [3] (fun i wr => ∃ (k : Nat) (F : Nat → Nat), k ≤ 256 ∧ i = .int .i64 (k : Int) ∧ CT wr g 0 1 0 F ∧ Keeps [g] w wr ∧ Hid (∀ j, j < k → F j = halfN 8 j)) (fun i _ => 256 - (intOf i).toNat)
  case atStart => exact ⟨0, f, by omega, rfl, h, Keeps.refl _ _, Lib.hid (fun j hj => absurd hj (Nat.not_lt_zero j))⟩
  case round =>
    obtain ⟨k, F, hk, rfl, hT, hK, HF⟩ := hrel
    by_cases hlt : k < 256
    · have hw32 : IntKind.u32.wrap (k : Int) = (k : Int) := by rw [IntKind.wrap_u32]; omega
      have hk32 : (k : Int) % 4294967296 = (k : Int) := by omega
      have hhv := fun W => halved_any k (by omega) W
      obtain ⟨H, hH⟩ : ∃ z, halfN 8 k = z := ⟨_, rfl⟩
      simp only [hH] at hhv
      have HF2 : Hid (∀ j, j < k + 1 → (fun i => if i = k then H else F i) j = halfN 8 j) := Lib.hid (fun j hj => by
        by_cases e : j = k
        · simp only [e, if_true]; exact hH.symm
        · simp only [if_neg e]; exact HF.out j (by omega))
      have ck := hT.ct k hlt
      have fz := hT.fz
      have hg := hT.lt
      clear hH
      go_wp2_with fail
      refine wp_region_writes [g] 9 8 (fun v W => CT W g 0 1 0 (fun i => if i = k then H else F i)) [(4, .known (.int .u32 (H : Int)))] (by kernel_rfl) (by kernel_rfl) rfl ⟨trivial, trivial⟩ (fun v W W' hk h => h.keeps hk (by simp)) (by kernel_rfl) ?_
      simp only [List.take_succ_cons, List.take_zero, List.drop_succ_cons, List.drop_zero]
      iterate 4 refine dep_reckons rfl (by kernel_rfl) (fun W hG hF' => by go_simp <;> rfl) (by simp only [Act.put, List.setIfInBounds_toArray, List.set_cons_zero, List.set_cons_succ]; rfl) ?_
      refine dep_known (c := .int .u32 (H : Int)) rfl (by kernel_rfl) (fun W hG hF' => ?_) (by simp only [Act.put, List.setIfInBounds_toArray, List.set_cons_zero, List.set_cons_succ]; rfl) ?_
      · unfold opGives
        go_simp
        refine (hhv W).mono ?_
        rintro e w2 ⟨rfl, rfl⟩
        exact ⟨_, rfl, rfl, Keeps.refl _ _⟩
      iterate 3 refine dep_reckons rfl (by kernel_rfl) (fun W hG hF' => by go_simp <;> rfl) (by simp only [Act.put, List.setIfInBounds_toArray, List.set_cons_zero, List.set_cons_succ]; rfl) ?_
      refine dep_last rfl (by kernel_rfl) (fun W hG hF' => ?_) (fun v1 => ?_)
      · have hW := hT.keeps (keeps_drew hG) (by simp)
        have ck2 := hW.ct k hlt
        have fz2 := hW.fz
        have hg2 := hW.lt
        unfold opGives
        go_simp
        exact ⟨hW.st k H, (Keeps.refl [g] W).setCell (p := ⟨g, _, none⟩) (.inl (by simp)) _⟩
      simp only [Act.put, List.setIfInBounds_toArray, List.set_cons_zero, List.set_cons_succ]
      refine dep_nil fun W hG hF2 => ?_
      have hT2 := hF2 _ List.mem_cons_self
      have hK2 := hK.trans (keeps_drew hG) fun i hi => .inl hi
      clear hF2 hG hT hK hhv ck fz
      go_wp2_with fail
      exact ⟨⟨k + 1, _, by omega, rfl, hT2, hK2, HF2⟩, by simp [intOf]; omega⟩
    · obtain rfl : k = 256 := by omega
      have hT2 : CT wr g 0 1 0 (halfN 8) := hT.congr_ HF.out
      have hadd := run_call_add (P := Try.prog) Try.func82 (by kernel_rfl) (by kernel_rfl) (by kernel_rfl) .i32 (by kernel_rfl) (y := 1) (s := 1) hT2.c3 (hT2.fz 3) (by simp [go_sem]; rfl)
      have hg := hT.lt
      clear hlt
      go_wp2
      refine bodyPost_end (by simp [results, Try.results71, go_sem]) rfl ⟨rfl, hT2.s3 1, hK.setCell (p := ⟨g, 3, none⟩) (.inl (by simp)) _⟩

set_option maxRecDepth 100000 in
set_option maxHeartbeats 2000000 in
theorem doSlow_any (g : Nat) (f : Nat → Nat) (w : World) (h : CT w g 0 0 0 f) :
    Calls Try.prog 74 #[.pointer (some ⟨g, 0, none⟩), .func (.func 71) #[.pointer (some ⟨g, 0, none⟩)] #[]] w fun e w' => e = .returned (.tuple #[]) ∧ CT w' g 1 0 1 (halfN 8) ∧ Keeps [g] w w' := by
  have h1 := h.s1 1
  have hl := run_call_load (P := Try.prog) Try.func78 (by kernel_rfl) (by kernel_rfl) (by kernel_rfl) .u32 (by kernel_rfl) (w := w.setCell ⟨g, 1, none⟩ (.int .i32 1)) h1.c0
  have hnot : ∀ (x : Bool) (w : World), (Op.unary .not (.bool x)).run Try.prog w = .ok (.bool (!x)) w := fun _ _ => rfl
  have hlk := lock_free ⟨g, 1, none⟩ w h.c1 (h.fz 1)
  have hfl := fill_any g f _ h1
  have hk1 := (Keeps.refl [g] w).setCell (p := ⟨g, 1, none⟩) (.inl (by simp)) (.int .i32 1)
  go_enter_defers Try.func74, Try.ntmps74
  go_wp2_with (go_at_call 79; refine hlk.mono ?_; rintro e w' ⟨rfl, rfl⟩)
  go_wp2_with (first | (go_at_call 73; go_in) | (go_at_call 71; refine hfl.mono ?_; rintro e w2 ⟨rfl, h2, hk2⟩))
  have hK2 := hk1.trans hk2 fun i hi => .inl hi
  refine leaves_cons (f := 81) (args := #[.pointer (some ⟨g, 0, none⟩), .bool true]) (by simp) (by simp [go_sem]) ?_
  refine (store_deferred ⟨g, 0, none⟩ _ .returning _ h2.c0 (h2.fz 0)).mono ?_
  rintro e u' w'' ⟨rfl, rfl, rfl⟩
  have h3 := h2.drew.s0 1
  have hK3 := hK2.drew.setCell (p := ⟨g, 0, none⟩) (.inl (by simp)) (.int .u32 1)
  refine leaves_cons (f := 80) (args := #[.pointer (some ⟨g, 1, none⟩)]) (by simp [settle]) (by simp [go_sem]) ?_
  refine (unlock_deferred ⟨g, 1, none⟩ _ _ h3.c1 (h3.fz 1)).mono ?_
  rintro e u' w'' ⟨rfl, rfl, rfl⟩
  have h4 := h3.s1 0
  have hK4 := hK3.setCell (p := ⟨g, 1, none⟩) (.inl (by simp)) (.int .i32 0)
  clear hk1 hk2 hK2 hK3 h1 h2 h3 hl hlk hfl
  simp [Leaves, settle, results, Try.results74]
  exact ⟨h4, hK4⟩

/-- A table, made or not. -/
def tabN (b : Bool) : Int := if b = true then 1 else 0
def tabF (b : Bool) : Nat → Nat := if b = true then halfN 8 else fun _ => 0
def TB (w : World) (g : Nat) (b : Bool) : Prop := CT w g (tabN b) 0 (tabN b) (tabF b)
theorem TB.below {w w' : World} {g : Nat} {b : Bool} (h : TB w g b) (hb : Below w.heap.size w w') : TB w' g b := CT.below h hb
theorem TB.keeps {w w' : World} {g : Nat} {b : Bool} {S : List Nat} (h : TB w g b) (hk : Keeps S w w') (hn : g ∉ S) : TB w' g b := CT.keeps h hk hn
theorem TB.lt {w : World} {g : Nat} {b : Bool} (h : TB w g b) : g < w.heap.size := World.rowIs.lt h

set_option maxRecDepth 100000 in
set_option maxHeartbeats 2000000 in
theorem onceDo_any (g : Nat) (b : Bool) (w : World) (h : TB w g b) :
    Calls Try.prog 70 #[.pointer (some ⟨g, 0, none⟩), .func (.func 71) #[.pointer (some ⟨g, 0, none⟩)] #[]] w fun e w' => e = .returned (.tuple #[]) ∧ TB w' g true ∧ Keeps [g] w w' := by
  have hnot : ∀ (x : Bool) (w : World), (Op.unary .not (.bool x)).run Try.prog w = .ok (.bool (!x)) w := fun _ _ => rfl
  cases b with
  | false =>
    have h0 : CT w g 0 0 0 (fun _ => 0) := h
    have hl := run_call_load (P := Try.prog) Try.func78 (by kernel_rfl) (by kernel_rfl) (by kernel_rfl) .u32 (by kernel_rfl) h0.c0
    have hsl := doSlow_any g _ w h0
    go_enter Try.func70, Try.ntmps70
    go_wp2_with (first | (go_at_call 74; refine hsl.mono ?_; rintro e w' ⟨rfl, h2, hk2⟩) | (go_at_call 73; go_in))
    refine bodyPost_end (by simp [results, Try.results70, go_sem]) rfl ⟨rfl, h2, hk2⟩
  | true =>
    have h0 : CT w g 1 0 1 (halfN 8) := h
    have hl := run_call_load (P := Try.prog) Try.func78 (by kernel_rfl) (by kernel_rfl) (by kernel_rfl) .u32 (by kernel_rfl) h0.c0
    go_enter Try.func70, Try.ntmps70
    go_wp2
    refine bodyPost_end (by simp [results, Try.results70, go_sem]) rfl ⟨rfl, h, Keeps.refl _ _⟩

set_option maxRecDepth 100000 in
set_option maxHeartbeats 2000000 in
theorem ready_any (g : Nat) (b : Bool) (w : World) (h : TB w g b) :
    Calls Try.prog 61 #[.pointer (some ⟨g, 0, none⟩)] w fun e w' => e = .returned (.pointer (some ⟨g, 4, none⟩)) ∧ TB w' g true ∧ Keeps [g] w w' := by
  have hmf : ∀ (fn : Fn) (first cap : Array Value) (w : World), (Instr.makeFunc fn first cap).run Try.prog w = .ok (.func fn first cap) w := fun _ _ _ _ => rfl
  have hdo := onceDo_any g b w h
  go_enter Try.func61, Try.ntmps61
  go_wp2_with fail
  refine hdo.mono ?_
  rintro e w1 ⟨rfl, h1, hk1⟩
  clear hdo
  go_wp2_with fail
  go_ret
  exact ⟨rfl, h1, hk1⟩

theorem zero_table : Try.zeroCells95.toList = (List.range 260).map (ccell 0 0 0 (fun _ => 0)) := by kernel_rfl
theorem zero_size : Try.zeroCells95.size = 260 := by kernel_rfl
theorem new_table (w : World) : TB (w.alloc (.cells Try.zeroCells95 95)) w.heap.size false := by
  have h := World.rowIs_alloc w Try.zeroCells95 95 (ccell 0 0 0 (fun _ => 0)) (fun i hi => by
    rw [zero_size] at hi
    rw [← Array.getElem?_toList, zero_table, List.getElem?_map, List.getElem?_range hi]
    rfl)
  rw [zero_size] at h
  exact h
theorem crcNew_any (w : World) : Calls Try.prog 20 #[] w fun e w' => e = .returned (.pointer (some ⟨w.heap.size, 0, none⟩)) ∧ TB w' w.heap.size false ∧ Below w.heap.size w w' := by
  have hT := new_table w
  have hb : Below w.heap.size w (w.alloc (.cells Try.zeroCells95 95)) := (Below.refl _ _).alloc (Nat.le_refl _) _
  go_enter Try.func20, Try.ntmps20
  go_wp2
  go_ret
  exact ⟨rfl, hT, hb⟩

set_option maxRecDepth 100000 in
set_option maxHeartbeats 2000000 in
theorem on_any (g : Nat) (b : Bool) (s : Nat) (hs : s < 4294967296) (A : Option Addr) (n c : Nat) (xs : List UInt8) (w : World) (h : TB w g b) (ha : Rd w A n xs) (hga : 0 < n → ∀ ad, A = some ad → ad.block ≠ g) :
    Calls Try.prog 77 #[.pointer (some ⟨g, 0, none⟩), .int .u32 (s : Int), .slice A n c] w fun e w' => e = .returned (.int .u32 ((onC s xs : Nat) : Int)) ∧ TB w' g true ∧ Keeps [g] w w' := by
  have hn := ha.2.1
  have HX := Lib.hid ha.1
  go_enter Try.func77, Try.ntmps77
  go_wp2_with fail
  refine (ready_any g b w h).mono ?_
  rintro e w1 ⟨rfl, h1, hk1⟩
  have ha1 : Rd w1 A n xs := ha.keeps hk1 fun h0 ad e hm => hga h0 ad e (by simpa using hm)
  clear ha hga h
  go_wp2_with fail
  go_loop [1, 14] (fun v i => ∃ k : Nat, k ≤ n ∧ i = .int .i64 (k : Int) ∧ v = .int .u32 ((onC s (xs.take k) : Nat) : Int)) (fun _ i => n - (intOf i).toNat)
  case atStart => exact ⟨0, Nat.zero_le _, rfl, rfl⟩
  case round =>
    obtain ⟨k, hk, rfl, rfl⟩ := hrel
    have hlo := onC_lt (xs.take k) hs
    by_cases hlt : k < n
    · obtain ⟨bb, o, rfl, hc⟩ := ha1.at_ k hlt
      have hbl := block_lt_of_cell hc
      simp only at hbl
      have hsucc : onC s (xs.take (k + 1)) = halfN 8 ((onC s (xs.take k) % 256) ^^^ (xs.getD k 0).toNat) ^^^ onC s (xs.take k) / 256 := by rw [take_succ_getD xs k 0 (by rw [HX.out]; exact hlt), onC_snoc, on_table]
      obtain ⟨x, hx⟩ : ∃ x, xs.getD k 0 = x := ⟨_, rfl⟩
      rw [hx] at hc hsucc
      obtain ⟨m, hm⟩ : ∃ m, onC s (xs.take k) = m := ⟨_, rfl⟩
      rw [hm] at hlo hsucc ⊢
      have hx8 := x.toNat_lt
      have hxx := u8_xor_nat (m % 256) x.toNat (by omega) hx8
      rw [show ((m % 256 : Nat) : Int) = (m : Int) % 256 by omega] at hxx
      have hxl : m % 256 ^^^ x.toNat < 256 := Nat.xor_lt_two_pow (n := 8) (by omega) (by omega)
      obtain ⟨q, hq⟩ : ∃ q, m % 256 ^^^ x.toNat = q := ⟨_, rfl⟩
      rw [hq] at hxl hsucc hxx
      have ck := CT.ct h1 q hxl
      rw [show tabF true = halfN 8 from rfl] at ck
      have hH := halfN_lt 8 (show q < 4294967296 by omega)
      obtain ⟨H, hHH⟩ : ∃ z, halfN 8 q = z := ⟨_, rfl⟩
      rw [hHH] at hsucc hH ck
      have hxs := xor_shr H m hH hlo
      have HS := Lib.hid hsucc
      have hg1 := h1.lt
      clear hsucc hm hx hq hHH
      go_wp2_with fail
      exact ⟨⟨k + 1, by omega, rfl, by rw [HS.out]⟩, by simp [intOf]; omega⟩
    · obtain rfl : k = n := by omega
      have e := List.take_of_length_le (l := xs) (i := k) (by rw [HX.out]; omega)
      rw [e] at hlo ⊢
      clear hlt e
      go_wp2_with fail
      go_ret
      exact ⟨rfl, h1, hk1⟩

set_option maxRecDepth 100000 in
set_option maxHeartbeats 2000000 in
theorem more_any (g : Nat) (b : Bool) (s : Nat) (hs : s < 4294967296) (A : Option Addr) (n c : Nat) (xs : List UInt8) (w : World) (h : TB w g b) (ha : Rd w A n xs) (hga : 0 < n → ∀ ad, A = some ad → ad.block ≠ g) :
    Calls Try.prog 72 #[.pointer (some ⟨g, 0, none⟩), .int .u32 (s : Int), .slice A n c] w fun e w' => e = .returned (.int .u32 ((crcMore s xs : Nat) : Int)) ∧ TB w' g true ∧ Keeps [g] w w' := by
  have hlt := onC_lt (s := oth s) xs (oth_lt hs)
  have hon := on_any g b (oth s) (oth_lt hs) A n c xs w h ha hga
  have hx1 := xor_all s hs
  have hx2 := xor_all _ hlt
  go_enter Try.func72, Try.ntmps72
  go_wp2_with fail
  refine hon.mono ?_
  rintro e w1 ⟨rfl, h1, hk1⟩
  clear hon
  go_wp2_with fail
  go_ret
  exact ⟨rfl, h1, hk1⟩
end Go.Proofs.Ytgflgncpjlgeoaa
