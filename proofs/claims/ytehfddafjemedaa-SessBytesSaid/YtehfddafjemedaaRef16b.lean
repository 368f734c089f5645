/- Contracts of the document's answer, layer 16: Put, Set. -/
import Derived.Test.YtehfddafjemedaaRef16
import Derived.Test.YtehfddafjemedaaReg
namespace Go.Proofs.Ytehfddafjemedaa
open Go.RowKit
set_option linter.unusedSimpArgs false
set_option linter.unusedVariables false

def cl5 (r : SRow) : List Value := [.int .i64 r.cl, .int .u64 r.num, .int .u64 r.seq, .int .i64 r.code, .int .u64 r.ver]
theorem cl5_one {l : List SRow} : ∀ u ∈ l.flatMap cl5, u.oneCell' = true := by
  intro u hu
  obtain ⟨y, _, hy⟩ := List.mem_flatMap.1 hu
  simp only [cl5, List.mem_cons, List.not_mem_nil, or_false] at hy
  rcases hy with rfl | rfl | rfl | rfl | rfl <;> rfl
theorem cl5_len (l : List SRow) : (l.flatMap cl5).length = l.length * 5 := by
  induction l with
  | nil => rfl
  | cons x l ih => rw [List.flatMap_cons, List.length_append, ih, List.length_cons]; simp [cl5]; omega
theorem cl5_get {l : List SRow} : ∀ {k j : Nat}, k < l.length → j < 5 → (l.flatMap cl5)[k * 5 + j]? = some ((l.getD k .zero).cell j) := by
  induction l with
  | nil => intro k j hk; simp at hk
  | cons x l ih =>
    intro k j hk hj
    rw [List.flatMap_cons]
    cases k with
    | zero =>
      rw [Nat.zero_mul, Nat.zero_add, List.getElem?_append_left (by simp [cl5]; exact hj)]
      have h5 : j = 0 ∨ j = 1 ∨ j = 2 ∨ j = 3 ∨ j = 4 := by omega
      rcases h5 with rfl | rfl | rfl | rfl | rfl <;> rfl
    | succ k =>
      rw [List.getElem?_append_right (by simp [cl5]; omega)]
      have e : (k + 1) * 5 + j - (cl5 x).length = k * 5 + j := by simp [cl5]; omega
      rw [e, ih (by simpa using hk) hj]
      simp
/-- Rows of the call's own read as rows. -/
theorem RowsAt.of_own {w : World} {base : Nat} {e : TypeId} {A : Option Addr} {n c : Nat} {l : List SRow} (h : w.ownsRow base e 5 (.slice A n c) n (l.flatMap cl5)) : RowsAt w A n l := by
  have hl : l.length = n := by have := h.1; rw [cl5_len] at this; omega
  obtain ⟨_, _, hv, h1, h2⟩ := own_form h
  refine ⟨hl, by injection hv with _ _ e3; subst e3; unfold maxLen at h2; omega, fun hn => ?_⟩
  obtain ⟨g, cap, hv, _, hlt⟩ := h.form hn
  have hA : A = some ⟨g, 0, none⟩ := by injection hv
  subst hA
  refine ⟨g, 0, rfl, fun i j hi hj => ?_⟩
  have := h.cells (g := g) rfl (i * 5 + j) _ (cl5_get (by omega) hj)
  rw [add_lit0] at this
  rw [Nat.add_assoc]
  exact this
/-- A tail of rows as a source. -/
theorem RowsAt.src_tail {w : World} {A : Option Addr} {n c m : Nat} {l : List SRow} (h : RowsAt w A n l) (hm : m ≤ n) (hc : n ≤ c) : Src w 5 (if c = m then A else A.map (·.add (m * 5))) (n - m) ((l.drop m).flatMap cl5) := by
  refine ⟨by rw [cl5_len, List.length_drop, h.1], cl5_one, fun hn => ?_⟩
  obtain ⟨b, o, rfl, hcell⟩ := h.2.2 (by omega)
  rw [if_neg (by omega)]
  refine ⟨b, o + m * 5, by simp [add_lit0], fun j u hj => ?_⟩
  have hjl : j < (n - m) * 5 := by
    have := (List.getElem?_eq_some_iff.1 hj).1
    rw [cl5_len, List.length_drop, h.1] at this
    exact this
  have e : j = j / 5 * 5 + j % 5 := by omega
  rw [e, cl5_get (by rw [List.length_drop, h.1]; omega) (Nat.mod_lt _ (by omega))] at hj
  have h1 := hcell (m + j / 5) (j % 5) (by omega) (Nat.mod_lt _ (by omega))
  have e2 : o + (m + j / 5) * 5 + j % 5 = o + m * 5 + j := by omega
  rw [e2] at h1
  rw [h1, ← hj]
  simp [List.getD_eq_getElem?_getD, List.getElem?_drop]

/-- Where the document's Put lays a row. -/
def Before (rows : List SRow) (c : Int) (k : Nat) : Prop := ∀ y ∈ rows.take k, y.cl < c
theorem Before.succ {rows : List SRow} {c : Int} {k : Nat} (h : Before rows c k) (hk : k < rows.length) (hn : (rows.getD k .zero).cl < c) : Before rows c (k + 1) := by
  intro y hy
  rw [take_succ_getD rows k .zero hk] at hy
  rcases List.mem_append.1 hy with hy | hy
  · exact h y hy
  · rw [List.mem_singleton.1 hy]; exact hn
theorem put_at {rows : List SRow} {c : Int} {k : Nat} (h : Before rows c k) (hk : k ≤ rows.length) (hn : k < rows.length → ¬ (rows.getD k .zero).cl < c) :
    rows.takeWhile (fun y => decide (y.cl < c)) = rows.take k ∧ rows.dropWhile (fun y => decide (y.cl < c)) = rows.drop k := by
  have hs : rows.take k ++ rows.drop k = rows := List.take_append_drop k rows
  have h1 : (rows.drop k).takeWhile (fun y => decide (y.cl < c)) = [] ∧ (rows.drop k).dropWhile (fun y => decide (y.cl < c)) = rows.drop k := by
    by_cases hl : k < rows.length
    · rw [drop_getD rows k .zero hl]
      have := hn hl
      have hd : decide ((rows.getD k .zero).cl < c) = false := decide_eq_false this
      rw [List.takeWhile_cons, List.dropWhile_cons, hd]
      exact ⟨rfl, rfl⟩
    · have : rows.drop k = [] := List.drop_of_length_le (by omega)
      rw [this]
      exact ⟨rfl, rfl⟩
  have h2 : ∀ y ∈ rows.take k, decide (y.cl < c) = true := fun y hy => decide_eq_true (h y hy)
  constructor
  · have := List.takeWhile_append_of_pos (l₂ := rows.drop k) h2
    rw [hs, h1.1, List.append_nil] at this
    exact this
  · have := List.dropWhile_append_of_pos (l₂ := rows.drop k) h2
    rw [hs, h1.2] at this
    exact this
theorem putL_at {rows : List SRow} {r : SRow} {k : Nat} (h : Before rows r.cl k) (hk : k ≤ rows.length) (hn : k < rows.length → ¬ (rows.getD k .zero).cl < r.cl) :
    putL rows r = (rows.take k ++ [r]) ++ rows.drop (if k < rows.length ∧ (rows.getD k .zero).cl = r.cl then k + 1 else k) := by
  obtain ⟨h1, h2⟩ := put_at h hk hn
  unfold putL
  rw [h1, h2]
  by_cases hl : k < rows.length
  · rw [drop_getD rows k .zero hl]
    unfold dropL
    by_cases he : (rows.getD k .zero).cl = r.cl
    · rw [if_pos ⟨hl, he⟩]; simp only [he, if_true]; simp
    · rw [if_neg (fun hh => he hh.2)]; simp only [he, if_false]; rw [← drop_getD rows k .zero hl]; simp
  · have e : rows.drop k = [] := List.drop_of_length_le (by omega)
    rw [if_neg (fun hh => hl hh.1), e]
    simp [dropL]

theorem info_refrow : (Try.prog.info? 31).map (fun i => (i.zero, i.size, i.bytes)) = some (some (.agg #[.int .i64 0, .int .u64 0, .int .u64 0, .int .i64 0, .int .u64 0]), 5, 40) := by kernel_rfl

set_option maxRecDepth 100000 in
set_option maxHeartbeats 2000000 in
theorem refPut_any (A : Option Addr) (n c : Nat) (rows : List SRow) (r : SRow) (w : World) (h : RowsAt w A n rows) (hc : n ≤ c) (hn : n ≤ 900) :
    Calls Try.prog 57 #[.slice A n c, r.val] w fun e w' => (∃ A' c', e = .returned (.slice A' (putL rows r).length c') ∧ w'.ownsRow w.heap.size 31 5 (.slice A' (putL rows r).length c') (putL rows r).length ((putL rows r).flatMap cl5)) ∧ Below w.heap.size w w' := by
  obtain ⟨i0, hi0, hz0, hz1, hz2⟩ := info_parts info_refrow
  have HL := Lib.hid h.1
  have hb0 : Below w.heap.size w (w.alloc (.cells #[.int .i64 r.cl, .int .u64 r.num, .int .u64 r.seq, .int .i64 r.code, .int .u64 r.ver] 31)) := (Below.refl _ _).alloc (Nat.le_refl _) _
  have hx0 := Blk.new w 31 #[.int .i64 r.cl, .int .u64 r.num, .int .u64 r.seq, .int .i64 r.code, .int .u64 r.ver]
  have hs0 : (w.alloc (.cells #[.int .i64 r.cl, .int .u64 r.num, .int .u64 r.seq, .int .i64 r.code, .int .u64 r.ver] 31)).heap.size = w.heap.size + 1 := by simp
  simp only [SRow.val]
  go_enter Try.func57, Try.ntmps57
  go_wp2_with fail
  generalize (w.alloc (.cells #[.int .i64 r.cl, .int .u64 r.num, .int .u64 r.seq, .int .i64 r.code, .int .u64 r.ver] 31)) = w0 at hb0 hx0 hs0 ⊢
  have HS0 := Lib.hid hs0
  clear hs0
  go_loopw [5, 6] (fun v i wr => ∃ (k : Nat), k ≤ n ∧ i = .int .i64 (k : Int) ∧ wr.ownsRow (w.heap.size + 1) 31 5 v k ((rows.take k).flatMap cl5) ∧ Before rows r.cl k ∧ Blk wr w.heap.size 31 #[.int .i64 r.cl, .int .u64 r.num, .int .u64 r.seq, .int .i64 r.code, .int .u64 r.ver] ∧ Below w.heap.size w wr) (fun _ i _ => n - (intOf i).toNat)
  case atStart => exact ⟨0, Nat.zero_le _, rfl, World.ownsRow_nil _ _ _ _, fun y hy => by simp at hy, hx0, hb0⟩
  case round =>
    obtain ⟨k, hk, rfl, ho, hbe, hx, hb⟩ := hrel
    obtain ⟨Av, cv, hsl, hlc, hcm⟩ := own_form ho
    subst hsl
    have hs := hb.size
    have x0 := hx.cell 0
    have x1 := hx.cell 1
    have x2 := hx.cell 2
    have x3 := hx.cell 3
    have x4 := hx.cell 4
    have xl := hx.lt
    simp only [List.getElem?_toArray, List.getElem?_cons_zero, List.getElem?_cons_succ] at x0 x1 x2 x3 x4
    by_cases hlt : k < n
    · obtain ⟨b, o, rfl, hcc⟩ := h.at_ k hlt
      obtain ⟨y, hy⟩ : ∃ y, rows.getD k .zero = y := ⟨_, rfl⟩
      rw [hy] at hcc
      have hcr : ∀ j, j < 5 → wr.cell? ⟨b, o + k * 5 + j, none⟩ = some (y.cell j) := fun j hj => (hb.cell (block_lt_of_cell (hcc j hj))).trans (hcc j hj)
      have c0 : wr.cell? ⟨b, o + k * 5, none⟩ = some (.int .i64 y.cl) := hcr 0 (by omega)
      have c1 : wr.cell? ⟨b, o + k * 5 + 1, none⟩ = some (.int .u64 y.num) := hcr 1 (by omega)
      have c2 : wr.cell? ⟨b, o + k * 5 + 2, none⟩ = some (.int .u64 y.seq) := hcr 2 (by omega)
      have c3 : wr.cell? ⟨b, o + k * 5 + 3, none⟩ = some (.int .i64 y.code) := hcr 3 (by omega)
      have c4 : wr.cell? ⟨b, o + k * 5 + 4, none⟩ = some (.int .u64 y.ver) := hcr 4 (by omega)
      have cl := block_lt_of_cell c0
      simp only at cl
      have HY := Lib.hid hy
      clear hcc hcr hy
      have tk : ((k : Int) < (n : Int)) := by omega
      by_cases hy2 : y.cl < r.cl
      · clear hlt
        go_wp2_with fail
        go_quiet (fail)
        have hlen5 : (rows.take k).length = k := by rw [List.length_take, HL.out]; omega
        have hyc : (rows.take k).flatMap cl5 ++ cl5 y = (rows.take (k + 1)).flatMap cl5 := by
          rw [take_succ_getD rows k .zero (by rw [HL.out]; omega), List.flatMap_append, HY.out]; simp
        have HYC := Lib.hid hyc
        clear hyc hlen5
        go_wp2_with (at_builtin; refine wpList_append_src rfl (.tmp 21) (.tmp 26) _ rfl (w.heap.size + 1) 31 i0 _ 5 40 Try.underlying22 hi0 hz0 hz1 hz2 rfl (by omega) (.slice Av k cv) k ((rows.take k).flatMap cl5) rfl ?d0 (some ⟨wr.heap.size, 0, none⟩) 1 1 (cl5 y) rfl ?d1 ?d2 ?d3 ?d4 ?d5)
        case d0 => exact own_below ho ((below_drewN (Below.refl _ wr) _).trans ((Below.refl _ _).alloc (by simp) _)) (own_lt ho)
        case d1 => exact Src.one _ #[.int .i64 y.cl, .int .u64 y.num, .int .u64 y.seq, .int .i64 y.code, .int .u64 y.ver] 31 (by simp [Value.oneCell'])
        case d2 => unfold maxLen; omega
        case d3 => omega
        case d4 => simp; omega
        case d5 =>
          intro v' w6 ho6 hgr _
          have hk6 := Keeps.of_grown hgr
          have hbA : ∀ X q, Below wr.heap.size wr ((wr.drewN q).alloc X) := fun X q => (below_drewN (Below.refl _ wr) _).trans ((Below.refl _ _).alloc (by simp) _)
          have hx6 := ((hx.drewN _).alloc _).keeps hk6 (fun hm => by have := own_ge ho w.heap.size (by simpa using hm); omega)
          have hB6 : Below w.heap.size w w6 := (hb.trans ((hbA _ _).mono hs)).trans (hk6.below (by simp; omega) fun j hj => by have := own_ge ho j (by simpa using hj); omega)
          rw [HYC.out] at ho6
          have hbe6 := hbe.succ (by rw [HL.out]; omega) (by rw [HY.out]; exact hy2)
          clear hgr hk6 hbA hx hb ho hbe c0 c1 c2 c3 c4 x0 x1 x2 x3 x4 HYC
          go_wp2_with fail
          exact ⟨⟨k + 1, by omega, rfl, ho6, hbe6, hx6, hB6⟩, by simp [intOf]; omega⟩
      · have hy3 : r.cl ≤ y.cl := by omega
        clear hlt
        go_wp2_with fail
        go_quiet (fail)
        go_wp2_with (at_builtin; refine wpList_append_src rfl (.tmp 30) (.tmp 32) _ rfl (w.heap.size + 1) 31 i0 _ 5 40 Try.underlying22 hi0 hz0 hz1 hz2 rfl (by omega) (.slice Av k cv) k ((rows.take k).flatMap cl5) rfl ?e0 (some ⟨wr.heap.size, 0, none⟩) 1 1 (cl5 r) rfl ?e1 ?e2 ?e3 ?e4 ?e5)
        case e0 => exact own_below ho ((below_drewN (Below.refl _ wr) _).trans ((Below.refl _ _).alloc (by simp) _)) (own_lt ho)
        case e1 => exact Src.one _ #[.int .i64 r.cl, .int .u64 r.num, .int .u64 r.seq, .int .i64 r.code, .int .u64 r.ver] 31 (by simp [Value.oneCell'])
        case e2 => unfold maxLen; omega
        case e3 => omega
        case e4 => simp; omega
        case e5 =>
          intro v' w6 ho6 hgr _
          obtain ⟨A6, c6, hv6, hlc6, hcm6⟩ := own_form ho6
          subst hv6
          have hk6 := Keeps.of_grown hgr
          have hbA : ∀ X q, Below wr.heap.size wr ((wr.drewN q).alloc X) := fun X q => (below_drewN (Below.refl _ wr) _).trans ((Below.refl _ _).alloc (by simp) _)
          have hx6 := ((hx.drewN _).alloc _).keeps hk6 (fun hm => by have := own_ge ho w.heap.size (by simpa using hm); omega)
          have hB6 : Below w.heap.size w w6 := (hb.trans ((hbA _ _).mono hs)).trans (hk6.below (by simp; omega) fun j hj => by have := own_ge ho j (by simpa using hj); omega)
          have h6 : RowsAt w6 (some ⟨b, o, none⟩) n rows := h.below (hB6)
          clear c0 c1 c2 c3 c4 x0 x1 x2 x3 x4 hgr hk6 hbA hx hb ho xl cl
          obtain ⟨b', o', e', hcc⟩ := h6.at_ k (by omega)
          injection e' with e'
          injection e' with e1 e2
          subst e1 e2
          have c0 : w6.cell? ⟨b, o + k * 5, none⟩ = some (.int .i64 y.cl) := by have := hcc 0 (by omega); rw [HY.out] at this; exact this
          have cl := block_lt_of_cell c0
          have x0 := hx6.cell 0
          have xl := hx6.lt
          simp only [List.getElem?_toArray, List.getElem?_cons_zero, List.getElem?_cons_succ] at x0 cl
          by_cases hye : y.cl = r.cl
          · have t2 : (y.cl == r.cl) = true := by simp [hye]
            have HYE := Lib.hid hye
            clear hye hcc
            have HP : Hid (putL rows r = ((rows.take k ++ [r]) ++ rows.drop (k + 1))) := Lib.hid (by
              rw [putL_at hbe (by rw [HL.out]; omega) (fun _ => by rw [HY.out]; omega), if_pos ⟨by rw [HL.out]; omega, by rw [HY.out]; exact HYE.out⟩])
            by_cases hci : c = (k + 1)
            · have hnm : n = (k + 1) := by omega
              have hdr : rows.drop (k + 1) = [] := List.drop_of_length_le (by rw [HL.out]; omega)
              have HDR := Lib.hid hdr
              have hsr : ∀ q, Src (w6.drewN q) 5 (some ⟨b, o, none⟩) 0 [] := fun q => ⟨rfl, fun u hu => by simp at hu, fun h => absurd h (Nat.lt_irrefl 0)⟩
              clear hdr hnm
              obtain rfl : c = (k + 1) := hci
              go_wp2_with fail
              go_quiet (fail)
              go_wp2_with (at_builtin; refine wpList_append_src rfl (.tmp 50) (.tmp 53) _ rfl (w.heap.size + 1) 31 i0 _ 5 40 Try.underlying22 hi0 hz0 hz1 hz2 rfl (by omega) (.slice A6 (k + 1) c6) (k + 1) ((rows.take k).flatMap cl5 ++ cl5 r) rfl ?axd0 _ 0 _ [] rfl ?axd1 ?axd2 ?axd3 ?axd4 ?axd5)
              case axd0 => exact own_below ho6 (below_drewN (Below.refl _ w6) _) (own_lt ho6)
              case axd1 => exact hsr _
              case axd2 => unfold maxLen; omega
              case axd3 => omega
              case axd4 => simp; omega
              case axd5 =>
                intro v9 w9 ho9 hgr9 _
                try simp only [Nat.add_zero, List.append_nil] at ho9
                obtain ⟨A9, c9, hv9, hlc9, hcm9⟩ := own_form ho9
                subst hv9
                have hk9 := Keeps.of_grown hgr9
                have hB9 : Below w.heap.size w w9 := (hB6.trans (below_drewN (Below.refl _ w6) _)).trans (hk9.below (by simp; omega) fun j hj => by have := own_ge ho6 j (by simpa using hj); omega)
                have hlen : (putL rows r).length = k + 1 := by rw [HP.out, HDR.out]; simp [HL.out]; omega
                have hfl : (putL rows r).flatMap cl5 = (rows.take k).flatMap cl5 ++ cl5 r := by rw [HP.out, HDR.out]; simp
                rw [← hfl, ← hlen] at ho9
                rw [← hlen]
                clear hgr9 hk9 hsr hfl hlen
                go_wp2_with fail
                go_ret
                exact ⟨⟨A9, c9, rfl, own_rebase ho9 fun j hj => by have := own_ge ho9 j hj; omega⟩, hB9⟩
            · skip
              have hsr : ∀ q, Src (w6.drewN q) 5 (some ⟨b, o + (k + 1) * 5, none⟩) (n - (k + 1)) ((rows.drop (k + 1)).flatMap cl5) := fun q => by have := (h6.below (below_drewN (Below.refl _ w6) q)).src_tail (c := c) (m := (k + 1)) (by omega) hc; rw [if_neg hci] at this; simpa [add_lit0] using this
              go_wp2_with fail
              go_quiet (fail)
              go_wp2_with (at_builtin; refine wpList_append_src rfl (.tmp 50) (.tmp 53) _ rfl (w.heap.size + 1) 31 i0 _ 5 40 Try.underlying22 hi0 hz0 hz1 hz2 rfl (by omega) (.slice A6 (k + 1) c6) (k + 1) ((rows.take k).flatMap cl5 ++ cl5 r) rfl ?ad0 _ (n - (k + 1)) _ ((rows.drop (k + 1)).flatMap cl5) rfl ?ad1 ?ad2 ?ad3 ?ad4 ?ad5)
              case ad0 => exact own_below ho6 (below_drewN (Below.refl _ w6) _) (own_lt ho6)
              case ad1 => exact hsr _
              case ad2 => unfold maxLen; omega
              case ad3 => omega
              case ad4 => simp; omega
              case ad5 =>
                intro v9 w9 ho9 hgr9 _
                obtain ⟨A9, c9, hv9, hlc9, hcm9⟩ := own_form ho9
                subst hv9
                have hk9 := Keeps.of_grown hgr9
                have hB9 : Below w.heap.size w w9 := (hB6.trans (below_drewN (Below.refl _ w6) _)).trans (hk9.below (by simp; omega) fun j hj => by have := own_ge ho6 j (by simpa using hj); omega)
                have hlen : (putL rows r).length = k + 1 + (n - (k + 1)) := by rw [HP.out]; simp [HL.out]; omega
                have hfl : (putL rows r).flatMap cl5 = (rows.take k).flatMap cl5 ++ (cl5 r ++ (rows.drop (k + 1)).flatMap cl5) := by rw [HP.out]; simp
                have hfl2 : (putL rows r).flatMap cl5 = (rows.take k).flatMap cl5 ++ cl5 r ++ (rows.drop (k + 1)).flatMap cl5 := by rw [hfl, List.append_assoc]
                first | rw [← hfl, ← hlen] at ho9 | rw [← hfl2, ← hlen] at ho9
                rw [← hlen]
                clear hgr9 hk9 hsr hfl hfl2 hlen
                go_wp2_with fail
                go_ret
                exact ⟨⟨A9, c9, rfl, own_rebase ho9 fun j hj => by have := own_ge ho9 j hj; omega⟩, hB9⟩
          · have t2 : (y.cl == r.cl) = false := by simp [hye]
            have HP : Hid (putL rows r = ((rows.take k ++ [r]) ++ rows.drop k)) := Lib.hid (by
              rw [putL_at hbe (by rw [HL.out]; omega) (fun _ => by rw [HY.out]; omega), if_neg (fun hh => hye (by rw [HY.out] at hh; exact hh.2))])
            clear hye hcc
            have hci : ¬ c = k := by omega
            have hsr : ∀ q, Src (w6.drewN q) 5 (some ⟨b, o + k * 5, none⟩) (n - k) ((rows.drop k).flatMap cl5) := fun q => by have := (h6.below (below_drewN (Below.refl _ w6) q)).src_tail (c := c) (m := k) (by omega) hc; rw [if_neg hci] at this; simpa [add_lit0] using this
            go_wp2_with fail
            go_quiet (fail)
            go_wp2_with (at_builtin; refine wpList_append_src rfl (.tmp 50) (.tmp 53) _ rfl (w.heap.size + 1) 31 i0 _ 5 40 Try.underlying22 hi0 hz0 hz1 hz2 rfl (by omega) (.slice A6 (k + 1) c6) (k + 1) ((rows.take k).flatMap cl5 ++ cl5 r) rfl ?bd0 _ (n - k) _ ((rows.drop k).flatMap cl5) rfl ?bd1 ?bd2 ?bd3 ?bd4 ?bd5)
            case bd0 => exact own_below ho6 (below_drewN (Below.refl _ w6) _) (own_lt ho6)
            case bd1 => exact hsr _
            case bd2 => unfold maxLen; omega
            case bd3 => omega
            case bd4 => simp; omega
            case bd5 =>
              intro v9 w9 ho9 hgr9 _
              obtain ⟨A9, c9, hv9, hlc9, hcm9⟩ := own_form ho9
              subst hv9
              have hk9 := Keeps.of_grown hgr9
              have hB9 : Below w.heap.size w w9 := (hB6.trans (below_drewN (Below.refl _ w6) _)).trans (hk9.below (by simp; omega) fun j hj => by have := own_ge ho6 j (by simpa using hj); omega)
              have hlen : (putL rows r).length = k + 1 + (n - k) := by rw [HP.out]; simp [HL.out]; omega
              have hfl : (putL rows r).flatMap cl5 = (rows.take k).flatMap cl5 ++ (cl5 r ++ (rows.drop k).flatMap cl5) := by rw [HP.out]; simp
              have hfl2 : (putL rows r).flatMap cl5 = (rows.take k).flatMap cl5 ++ cl5 r ++ (rows.drop k).flatMap cl5 := by rw [hfl, List.append_assoc]
              first | rw [← hfl, ← hlen] at ho9 | rw [← hfl2, ← hlen] at ho9
              rw [← hlen]
              clear hgr9 hk9 hsr hfl hfl2 hlen
              go_wp2_with fail
              go_ret
              exact ⟨⟨A9, c9, rfl, own_rebase ho9 fun j hj => by have := own_ge ho9 j hj; omega⟩, hB9⟩
    · obtain rfl : k = n := by omega
      have td : decide ((k : Int) < (k : Int)) = false := by simp
      clear hlt
      go_wp2_with fail
      go_quiet (fail)
      go_wp2_with (at_builtin; refine wpList_append_src rfl (.tmp 30) (.tmp 32) _ rfl (w.heap.size + 1) 31 i0 _ 5 40 Try.underlying22 hi0 hz0 hz1 hz2 rfl (by omega) (.slice Av k cv) k ((rows.take k).flatMap cl5) rfl ?f0 (some ⟨wr.heap.size, 0, none⟩) 1 1 (cl5 r) rfl ?f1 ?f2 ?f3 ?f4 ?f5)
      case f0 => exact own_below ho ((below_drewN (Below.refl _ wr) _).trans ((Below.refl _ _).alloc (by simp) _)) (own_lt ho)
      case f1 => exact Src.one _ #[.int .i64 r.cl, .int .u64 r.num, .int .u64 r.seq, .int .i64 r.code, .int .u64 r.ver] 31 (by simp [Value.oneCell'])
      case f2 => unfold maxLen; omega
      case f3 => omega
      case f4 => simp; omega
      case f5 =>
        intro v' w6 ho6 hgr _
        obtain ⟨A6, c6, hv6, hlc6, hcm6⟩ := own_form ho6
        subst hv6
        have hk6 := Keeps.of_grown hgr
        have hbA : ∀ X q, Below wr.heap.size wr ((wr.drewN q).alloc X) := fun X q => (below_drewN (Below.refl _ wr) _).trans ((Below.refl _ _).alloc (by simp) _)
        have hB6 : Below w.heap.size w w6 := (hb.trans ((hbA _ _).mono hs)).trans (hk6.below (by simp; omega) fun j hj => by have := own_ge ho j (by simpa using hj); omega)
        have xl6 := (((hx.drewN _).alloc _).keeps hk6 (fun hm => by have := own_ge ho w.heap.size (by simpa using hm); omega)).lt
        clear x0 x1 x2 x3 x4 hgr hk6 hbA hx hb ho xl
        have hdr : rows.drop k = [] := List.drop_of_length_le (by rw [HL.out]; omega)
        have HP : Hid (putL rows r = rows.take k ++ [r]) := Lib.hid (by
          rw [putL_at hbe (by rw [HL.out]; omega) (fun hh => by rw [HL.out] at hh; omega), if_neg (fun hh => by rw [HL.out] at hh; omega), hdr, List.append_nil])
        have hsr : ∀ W A', Src W 5 A' 0 [] := fun W A' => ⟨rfl, fun u hu => by simp at hu, fun h => absurd h (Nat.lt_irrefl 0)⟩
        clear hdr
        by_cases hci : c = k
        · obtain rfl : k = c := hci.symm
          rcases A with _ | ad
          · skip
            go_wp2_with fail
            go_quiet (fail)
            go_wp2_with (at_builtin; refine wpList_append_src rfl (.tmp 50) (.tmp 53) _ rfl (w.heap.size + 1) 31 i0 _ 5 40 Try.underlying22 hi0 hz0 hz1 hz2 rfl (by omega) (.slice A6 (k + 1) c6) (k + 1) ((rows.take k).flatMap cl5 ++ cl5 r) rfl ?zad0 _ 0 _ [] rfl ?zad1 ?zad2 ?zad3 ?zad4 ?zad5)
            case zad0 => exact own_below ho6 (below_drewN (Below.refl _ w6) _) (own_lt ho6)
            case zad1 => exact hsr _ _
            case zad2 => unfold maxLen; omega
            case zad3 => omega
            case zad4 => simp; omega
            case zad5 =>
              intro v9 w9 ho9 hgr9 _
              try simp only [Nat.add_zero, List.append_nil] at ho9
              obtain ⟨A9, c9, hv9, hlc9, hcm9⟩ := own_form ho9
              subst hv9
              have hk9 := Keeps.of_grown hgr9
              have hB9 : Below w.heap.size w w9 := (hB6.trans (below_drewN (Below.refl _ w6) _)).trans (hk9.below (by simp; omega) fun j hj => by have := own_ge ho6 j (by simpa using hj); omega)
              have hlen : (putL rows r).length = k + 1 := by rw [HP.out]; simp [HL.out]
              have hfl : (putL rows r).flatMap cl5 = (rows.take k).flatMap cl5 ++ cl5 r := by rw [HP.out]; simp
              rw [← hfl, ← hlen] at ho9
              rw [← hlen]
              clear hgr9 hk9 hsr hfl hlen
              go_wp2_with fail
              go_ret
              exact ⟨⟨A9, c9, rfl, own_rebase ho9 fun j hj => by have := own_ge ho9 j hj; omega⟩, hB9⟩
          · skip
            go_wp2_with fail
            go_quiet (fail)
            go_wp2_with (at_builtin; refine wpList_append_src rfl (.tmp 50) (.tmp 53) _ rfl (w.heap.size + 1) 31 i0 _ 5 40 Try.underlying22 hi0 hz0 hz1 hz2 rfl (by omega) (.slice A6 (k + 1) c6) (k + 1) ((rows.take k).flatMap cl5 ++ cl5 r) rfl ?zbd0 _ 0 _ [] rfl ?zbd1 ?zbd2 ?zbd3 ?zbd4 ?zbd5)
            case zbd0 => exact own_below ho6 (below_drewN (Below.refl _ w6) _) (own_lt ho6)
            case zbd1 => exact hsr _ _
            case zbd2 => unfold maxLen; omega
            case zbd3 => omega
            case zbd4 => simp; omega
            case zbd5 =>
              intro v9 w9 ho9 hgr9 _
              try simp only [Nat.add_zero, List.append_nil] at ho9
              obtain ⟨A9, c9, hv9, hlc9, hcm9⟩ := own_form ho9
              subst hv9
              have hk9 := Keeps.of_grown hgr9
              have hB9 : Below w.heap.size w w9 := (hB6.trans (below_drewN (Below.refl _ w6) _)).trans (hk9.below (by simp; omega) fun j hj => by have := own_ge ho6 j (by simpa using hj); omega)
              have hlen : (putL rows r).length = k + 1 := by rw [HP.out]; simp [HL.out]
              have hfl : (putL rows r).flatMap cl5 = (rows.take k).flatMap cl5 ++ cl5 r := by rw [HP.out]; simp
              rw [← hfl, ← hlen] at ho9
              rw [← hlen]
              clear hgr9 hk9 hsr hfl hlen
              go_wp2_with fail
              go_ret
              exact ⟨⟨A9, c9, rfl, own_rebase ho9 fun j hj => by have := own_ge ho9 j hj; omega⟩, hB9⟩
        · rcases A with _ | ad
          · skip
            go_wp2_with fail
            go_quiet (fail)
            go_wp2_with (at_builtin; refine wpList_append_src rfl (.tmp 50) (.tmp 53) _ rfl (w.heap.size + 1) 31 i0 _ 5 40 Try.underlying22 hi0 hz0 hz1 hz2 rfl (by omega) (.slice A6 (k + 1) c6) (k + 1) ((rows.take k).flatMap cl5 ++ cl5 r) rfl ?zcd0 _ 0 _ [] rfl ?zcd1 ?zcd2 ?zcd3 ?zcd4 ?zcd5)
            case zcd0 => exact own_below ho6 (below_drewN (Below.refl _ w6) _) (own_lt ho6)
            case zcd1 => exact hsr _ _
            case zcd2 => unfold maxLen; omega
            case zcd3 => omega
            case zcd4 => simp; omega
            case zcd5 =>
              intro v9 w9 ho9 hgr9 _
              try simp only [Nat.add_zero, List.append_nil] at ho9
              obtain ⟨A9, c9, hv9, hlc9, hcm9⟩ := own_form ho9
              subst hv9
              have hk9 := Keeps.of_grown hgr9
              have hB9 : Below w.heap.size w w9 := (hB6.trans (below_drewN (Below.refl _ w6) _)).trans (hk9.below (by simp; omega) fun j hj => by have := own_ge ho6 j (by simpa using hj); omega)
              have hlen : (putL rows r).length = k + 1 := by rw [HP.out]; simp [HL.out]
              have hfl : (putL rows r).flatMap cl5 = (rows.take k).flatMap cl5 ++ cl5 r := by rw [HP.out]; simp
              rw [← hfl, ← hlen] at ho9
              rw [← hlen]
              clear hgr9 hk9 hsr hfl hlen
              go_wp2_with fail
              go_ret
              exact ⟨⟨A9, c9, rfl, own_rebase ho9 fun j hj => by have := own_ge ho9 j hj; omega⟩, hB9⟩
          · skip
            go_wp2_with fail
            go_quiet (fail)
            go_wp2_with (at_builtin; refine wpList_append_src rfl (.tmp 50) (.tmp 53) _ rfl (w.heap.size + 1) 31 i0 _ 5 40 Try.underlying22 hi0 hz0 hz1 hz2 rfl (by omega) (.slice A6 (k + 1) c6) (k + 1) ((rows.take k).flatMap cl5 ++ cl5 r) rfl ?zdd0 _ 0 _ [] rfl ?zdd1 ?zdd2 ?zdd3 ?zdd4 ?zdd5)
            case zdd0 => exact own_below ho6 (below_drewN (Below.refl _ w6) _) (own_lt ho6)
            case zdd1 => exact hsr _ _
            case zdd2 => unfold maxLen; omega
            case zdd3 => omega
            case zdd4 => simp; omega
            case zdd5 =>
              intro v9 w9 ho9 hgr9 _
              try simp only [Nat.add_zero, List.append_nil] at ho9
              obtain ⟨A9, c9, hv9, hlc9, hcm9⟩ := own_form ho9
              subst hv9
              have hk9 := Keeps.of_grown hgr9
              have hB9 : Below w.heap.size w w9 := (hB6.trans (below_drewN (Below.refl _ w6) _)).trans (hk9.below (by simp; omega) fun j hj => by have := own_ge ho6 j (by simpa using hj); omega)
              have hlen : (putL rows r).length = k + 1 := by rw [HP.out]; simp [HL.out]
              have hfl : (putL rows r).flatMap cl5 = (rows.take k).flatMap cl5 ++ cl5 r := by rw [HP.out]; simp
              rw [← hfl, ← hlen] at ho9
              rw [← hlen]
              clear hgr9 hk9 hsr hfl hlen
              go_wp2_with fail
              go_ret
              exact ⟨⟨A9, c9, rfl, own_rebase ho9 fun j hj => by have := own_ge ho9 j hj; omega⟩, hB9⟩
end Go.Proofs.Ytehfddafjemedaa
