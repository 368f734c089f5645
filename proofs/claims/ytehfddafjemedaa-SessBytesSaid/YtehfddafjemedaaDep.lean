/- A region that draws its order, walked once in the order of the text: each operation sees what it depends on, in whatever world may have come of the others. No program in sight. -/
import Derived.Test.YtehfddafjemedaaMem
namespace Go.Proofs.Ytehfddafjemedaa
open Go.RowKit
set_option linter.unusedSimpArgs false
set_option linter.unusedVariables false

/-- What an operation gives: a value and a world; a call by its contract. -/
def opGives (P : Program) (o : Oper) (a : Act) (W : World) (R : Value → World → Prop) : Prop :=
  match (execOp a.eval o).run P W with
  | .ok (.value v) w' => R v w'
  | .ok .skip w' => R undef w'
  | .ok (.enter f args) w' => Calls P f args w' (fun e w'' => ∃ v, e = .returned v ∧ R v w'')
  | _ => False

theorem wp_of_gives {P : Program} {o : Oper} {a : Act} {W : World} {R : Value → World → Prop} {K : Act → World → Prop} {Q : Exit → Act → World → Prop} (h : opGives P o a W R)
    (hK : ∀ v w', R v w' → K (a.put o.dst v) w') : o.wp P a W K Q := by
  unfold opGives at h
  unfold Oper.wp
  generalize (execOp a.eval o).run P W = r at *
  cases r with
  | ok n w' =>
    cases n <;> simp only at h <;> simp only [Oper.upon]
    case value v => exact hK _ _ h
    case skip => exact hK _ _ h
    case enter f args => exact Calls.mono h fun e w'' ⟨v, he, hr⟩ => by subst he; exact hK _ _ hr
  | halt x w' => exact h.elim

theorem gives_congr {P : Program} {o : Oper} {a b : Act} {W : World} {R : Value → World → Prop} (he : execOp b.eval o = execOp a.eval o) (h : opGives P o b W R) : opGives P o a W R := by
  unfold opGives at *
  rwa [he] at h

/-- How an operation is met: it reckons; a call whose value is known; whatever comes, with what is known of it; the one that may write where the others do not, on which none of the others waits; one on which that one waits. -/
inductive DK where
  | reckons
  | known (c : Value)
  | some_ (φ : Value → World → Prop)
  | last (φ : Value → World → Prop)
  | early (φ : Value → World → Prop)

def depB (o : Oper) (i : Nat) : Bool := o.after.any fun e => Region.binds .any e && e.on == i

def Facts (K : List (Nat × (World → Prop))) (o : Oper) (W : World) : Prop := ∀ p ∈ K, depB o p.1 = true → p.2 W

/-- The walk in the order of the text. -/
def wpDep (P : Program) (ops : Array Oper) (T : Nat → DK) (G0 G : World → World → Prop) (w0 : World) (Q : Act → World → Prop) : List (Nat × (World → Prop)) → Nat → List Oper → Act → Prop
  | K, _, [], a => ∀ W, G w0 W → (∀ p ∈ K, p.2 W) → Q a W
  | K, k, o :: rest, a =>
    if Region.wanted o (yielded ops a.tmps) = true then
      match T k with
      | .reckons => ∃ c, (∀ W, G w0 W → Facts K o W → (execOp a.eval o).run P W = .ok (.value c) W) ∧ wpDep P ops T G0 G w0 Q K (k + 1) rest (a.put o.dst c)
      | .known c => (∀ W, G w0 W → Facts K o W → opGives P o a W (fun v W' => v = c ∧ G0 W W')) ∧ wpDep P ops T G0 G w0 Q K (k + 1) rest (a.put o.dst c)
      | .some_ φ => (∀ W, G w0 W → Facts K o W → opGives P o a W (fun v W' => φ v W' ∧ G0 W W')) ∧ ∀ v, wpDep P ops T G0 G w0 Q ((k, φ v) :: K) (k + 1) rest (a.put o.dst v)
      | .last φ => (∀ W, G0 w0 W → Facts K o W → opGives P o a W (fun v W' => φ v W' ∧ G W W')) ∧ ∀ v, wpDep P ops T G0 G w0 Q ((k, φ v) :: K) (k + 1) rest (a.put o.dst v)
      | .early φ => (∀ W, G0 w0 W → Facts K o W → opGives P o a W (fun v W' => φ v W' ∧ G0 W W')) ∧ ∀ v, wpDep P ops T G0 G w0 Q ((k, φ v) :: K) (k + 1) rest (a.put o.dst v)
    else wpDep P ops T G0 G w0 Q K (k + 1) rest (a.put o.dst undef)

/-! ### Side conditions, by reckoning -/
def ancB (ops : Array Oper) : Nat → Nat → Nat → Bool
  | 0, _, _ => false
  | f + 1, j, i => match ops[j]? with
    | some o => depB o i || (List.range j).any fun k => depB o k && ancB ops f k i
    | none => false

def sideB (ops : Array Oper) (n m : Nat) : Bool :=
  Region.noSelect ops && decide (m ≤ ops.size) &&
  (List.range m).all (fun i => match ops[i]? with
    | some o => (match o.dst with | some d => decide (d < n) && (List.range ops.size).all (fun j => j == i || match ops[j]? with | some o' => o'.dst != some d | none => true) | none => true) &&
        (o.looksAt ops).all (fun t => (List.range ops.size).all fun j => match ops[j]? with | some o' => o'.dst != some t || depB o j | none => true)
    | none => false) &&
  (List.range ops.size).all (fun i => match ops[i]? with
    | some o => o.after.all fun e => !Region.binds .any e || decide (e.on < i)
    | none => false) &&
  (List.range ops.size).all (fun j => decide (j < m) || (List.range j).all fun i => ancB ops ops.size j i)

structure Side (ops : Array Oper) (n m : Nat) : Prop where
  sel : ∀ (j : Nat) (o : Oper) cs b, ops[j]? = some o → o.op ≠ .select cs b
  le : m ≤ ops.size
  dst : ∀ (i : Nat) (o : Oper), i < m → ops[i]? = some o → ∀ d, o.dst = some d → d < n ∧ ∀ (j : Nat) (o' : Oper), j ≠ i → ops[j]? = some o' → o'.dst ≠ some d
  looks : ∀ (i : Nat) (o : Oper), i < m → ops[i]? = some o → ∀ t ∈ o.looksAt ops, ∀ (j : Nat) (o' : Oper), ops[j]? = some o' → o'.dst = some t → depB o j = true
  back : ∀ (i : Nat) (o : Oper), ops[i]? = some o → ∀ e ∈ o.after, Region.binds .any e = true → e.on < i
  tail : ∀ j, m ≤ j → j < ops.size → ∀ i, i < j → ancB ops ops.size j i = true

theorem side_of {ops : Array Oper} {n m : Nat} (h : sideB ops n m = true) : Side ops n m := by
  simp only [sideB, Bool.and_eq_true, List.all_eq_true, List.mem_range, decide_eq_true_eq] at h
  obtain ⟨⟨⟨⟨h1, h2⟩, h3⟩, h4⟩, h5⟩ := h
  refine ⟨Region.noSelect_spec h1, h2, ?_, ?_, ?_, ?_⟩
  · intro i o hi ho
    have h := h3 i hi
    rw [ho] at h
    simp only at h
    intro d hd
    · rw [hd] at h
      simp only [Bool.and_eq_true, decide_eq_true_eq, List.all_eq_true, List.mem_range] at h
      refine ⟨h.1.1, fun j o' hj hj' => ?_⟩
      have := h.1.2 j (Array.getElem?_eq_some_iff.1 hj').1
      rw [hj'] at this
      simp only [Bool.or_eq_true, beq_iff_eq, bne_iff_ne] at this
      exact this.resolve_left hj
  · intro i o hi ho t ht j o' hj hd
    have h := h3 i hi
    rw [ho] at h
    simp only [Bool.and_eq_true, List.all_eq_true, List.mem_range] at h
    have := h.2 t ht j (Array.getElem?_eq_some_iff.1 hj).1
    rw [hj] at this
    simp only [Bool.or_eq_true, bne_iff_ne] at this
    exact this.resolve_left (fun hn => hn hd)
  · intro i o ho e he hb
    have h := h4 i (Array.getElem?_eq_some_iff.1 ho).1
    rw [ho] at h
    simp only [Array.all_eq_true_iff_forall_mem, Bool.or_eq_true, Bool.not_eq_true', decide_eq_true_eq] at h
    exact (h e he).resolve_left (by rw [hb]; simp)
  · intro j hj hjs i hi
    have h := h5 j hjs
    simp only [Bool.or_eq_true, decide_eq_true_eq, List.all_eq_true, List.mem_range] at h
    exact h.resolve_left (by omega) i hi

section
variable {P : Program} {ops : Array Oper} {T : Nat → DK} {G0 G : World → World → Prop} {w0 : World} {a0 : Act} {m : Nat}

theorem dep_listed {o : Oper} {L : Array Bool} (hd : ∀ e ∈ o.after, Region.binds .any e = true → L.getD e.on false = true) {i : Nat} (h : depB o i = true) : L.getD i false = true := by
  simp only [depB, Array.any_eq_true', Bool.and_eq_true, beq_iff_eq] at h
  obtain ⟨e, he, hb, rfl⟩ := h
  exact hd e he hb

/-- The listed ones are closed under what they wait for. -/
def Closed (ops : Array Oper) (L : Array Bool) : Prop := ∀ (i : Nat) (o : Oper), ops[i]? = some o → L.getD i false = true → ∀ e ∈ o.after, Region.binds .any e = true → L.getD e.on false = true

theorem anc_listed {L : Array Bool} (hc : Closed ops L) : ∀ (f j i : Nat), ancB ops f j i = true → (∀ o, ops[j]? = some o → ∀ e ∈ o.after, Region.binds .any e = true → L.getD e.on false = true) → L.getD i false = true := by
  intro f
  induction f with
  | zero => intro j i h; simp [ancB] at h
  | succ f ih =>
    intro j i h hd
    cases ho : ops[j]? with
    | none => simp [ancB, ho] at h
    | some o =>
      simp only [ancB, ho, Bool.or_eq_true, List.any_eq_true, List.mem_range, Bool.and_eq_true] at h
      rcases h with h | ⟨k, hk, h1, h2⟩
      · exact dep_listed (hd o ho) h
      · have hk' := dep_listed (hd o ho) h1
        exact ih k i h2 (fun o' ho' => hc k o' ho' hk')

def slot (o : Oper) (a : Act) : Option Value := o.dst.bind fun d => a.tmps[d]?
/-- What stands where it writes, if it writes to a place. -/
def SlotIs (o : Oper) (a : Act) (v : Value) : Prop := o.dst ≠ none → slot o a = some v
theorem slotIs_eq {o : Oper} {a b : Act} {v : Value} (h1 : SlotIs o a v) (h2 : SlotIs o b v) : slot o a = slot o b := by
  by_cases h : o.dst = none
  · simp [slot, h]
  · rw [h1 h, h2 h]

/-- What holds of an operation that has come up. -/
def Good (P : Program) (ops : Array Oper) (T : Nat → DK) (G : World → World → Prop) (i : Nat) (o : Oper) (a : Act) (W : World) : Prop :=
  if Region.wanted o (yielded ops a.tmps) = true then
    match T i with
    | .reckons => ∃ c, SlotIs o a c ∧ ∀ W1, G W W1 → (execOp a.eval o).run P W1 = .ok (.value c) W1
    | .known c => SlotIs o a c
    | .some_ φ => ∃ v, SlotIs o a v ∧ φ v W
    | .last φ => ∃ v, SlotIs o a v ∧ φ v W
    | .early φ => ∃ v, SlotIs o a v ∧ φ v W
  else SlotIs o a undef

structure Inv (P : Program) (ops : Array Oper) (T : Nat → DK) (G0 G : World → World → Prop) (w0 : World) (a0 : Act) (m : Nat) (L : Array Bool) (a : Act) (W : World) : Prop where
  lsz : L.size = ops.size
  g : G w0 W
  g0 : (∀ k φ, T k = .last φ → L.getD k false = false) → G0 w0 W
  out : ∀ t : Nat, (∀ (i : Nat) (o : Oper), i < m → ops[i]? = some o → o.dst ≠ some t) → a.tmps[t]? = a0.tmps[t]?
  sz : a.tmps.size = a0.tmps.size
  df : a.defers = a0.defers
  good : ∀ (i : Nat) (o : Oper), i < m → ops[i]? = some o → L.getD i false = true → Good P ops T G i o a W
  dc : Closed ops L
  nt : ∀ i, m ≤ i → L.getD i false = false

structure Agree (ops : Array Oper) (m : Nat) (L : Array Bool) (a : Act) (k : Nat) (b : Act) : Prop where
  sz : b.tmps.size = a.tmps.size
  df : b.defers = a.defers
  out : ∀ t : Nat, (∀ (i : Nat) (o : Oper), i < m → ops[i]? = some o → o.dst ≠ some t) → b.tmps[t]? = a.tmps[t]?
  on : ∀ (i : Nat) (o : Oper), i < k → i < m → ops[i]? = some o → L.getD i false = true → slot o b = slot o a

theorem put_slot {a : Act} {o : Oper} (hlt : ∀ d, o.dst = some d → d < a.tmps.size) (v : Value) : SlotIs o (a.put o.dst v) v := by
  intro h
  cases hd : o.dst with
  | none => exact absurd hd h
  | some d => simp [slot, hd, Act.put, hlt d hd]
theorem put_far {a : Act} {x : Option Tmp} {t : Nat} (h : ∀ d, x = some d → d ≠ t) (v : Value) : (a.put x v).tmps[t]? = a.tmps[t]? := by
  cases x with
  | none => rfl
  | some d => simp [Act.put, Array.getElem?_setIfInBounds_ne (h d rfl)]
theorem slot_far {a : Act} {x : Option Tmp} {o : Oper} (h : ∀ d d', x = some d → o.dst = some d' → d ≠ d') (v : Value) : slot o (a.put x v) = slot o a := by
  cases hd : o.dst with
  | none => simp [slot, hd]
  | some d' =>
    simp only [slot, hd, Option.bind_some]
    exact put_far (fun d hx => h d d' hx hd) v
theorem put_other {a : Act} {d t : Nat} (h : d ≠ t) (v : Value) : (a.put (some d) v).tmps[t]? = a.tmps[t]? := by
  simp [Act.put, Array.getElem?_setIfInBounds_ne h]
theorem put_size {a : Act} {x : Option Tmp} (v : Value) : (a.put x v).tmps.size = a.tmps.size := by cases x <;> simp [Act.put]
theorem put_defers {a : Act} {x : Option Tmp} (v : Value) : (a.put x v).defers = a.defers := by cases x <;> rfl

/-- Two frames that are one at all that an operation looks at. -/
theorem exec_eq {o : Oper} {a b : Act} (hs : ∀ cs b, o.op ≠ .select cs b) (h : ∀ t ∈ o.looksAt ops, b.tmps[t]? = a.tmps[t]?) :
    execOp b.eval o = execOp a.eval o ∧ Region.wanted o (yielded ops b.tmps) = Region.wanted o (yielded ops a.tmps) := by
  constructor
  · refine execOp_congr o hs fun x hx => ?_
    cases x with
    | tmp t =>
      have := h t (List.mem_append_left _ (List.mem_filterMap.2 ⟨.tmp t, by simpa using hx, rfl⟩))
      simp only [Act.eval, Array.getD_eq_getD_getElem?, this]
    | _ => rfl
  · unfold Region.wanted
    cases hg : o.guard with
    | none => rfl
    | some gw =>
      obtain ⟨g, want⟩ := gw
      have hy : yielded ops b.tmps g = yielded ops a.tmps g := by
        unfold yielded
        cases ht : (ops[g]?).bind (·.dst) with
        | none => rfl
        | some t =>
          have := h t (by simp [Oper.looksAt, hg, ht])
          simp only [Option.bind_some, this]
      simp only [hy]

theorem agree_looks {n : Nat} (S : Side ops n m) {L : Array Bool} {a b : Act} {k : Nat} (h : Agree ops m L a k b) {j : Nat} {o : Oper} (hj : j < m) (hjk : j ≤ k) (ho : ops[j]? = some o)
    (hd : ∀ e ∈ o.after, Region.binds .any e = true → L.getD e.on false = true) : ∀ t ∈ o.looksAt ops, b.tmps[t]? = a.tmps[t]? := by
  intro t ht
  by_cases hex : ∃ (i : Nat) (o' : Oper), i < m ∧ ops[i]? = some o' ∧ o'.dst = some t
  · obtain ⟨i, o', him, hi, hdt⟩ := hex
    have hdep := S.looks j o hj ho t ht i o' hi hdt
    have hl := dep_listed hd hdep
    have hij : i < j := by
      simp only [depB, Array.any_eq_true', Bool.and_eq_true, beq_iff_eq] at hdep
      obtain ⟨e, he, hb, rfl⟩ := hdep
      exact S.back j o ho e he hb
    have := h.on i o' (by omega) him hi hl
    simpa [slot, hdt] using this
  · exact h.out t fun i o' hi ho' hdt => hex ⟨i, o', hi, ho', hdt⟩

/-- Nothing waits for it. -/
def Lone (ops : Array Oper) (m k : Nat) : Prop := ∀ (j : Nat) (o : Oper), j < m → ops[j]? = some o → depB o k = false
/-- What is asked of the one that may write, and of those on which it waits. -/
def LastOk (ops : Array Oper) (T : Nat → DK) (G0 : World → World → Prop) (m : Nat) : Prop := ∀ k φ, T k = .last φ → (∀ v W W', G0 W W' → φ v W → φ v W') ∧ Lone ops m k ∧ ∀ i φ', T i = .last φ' → i = k
def EarlyOk (ops : Array Oper) (T : Nat → DK) : Prop := ∀ j φ k φ', T j = .early φ → T k = .last φ' → ancB ops ops.size k j = true
def KOK (ops : Array Oper) (G : World → World → Prop) (m : Nat) (L : Array Bool) (W : World) (K : List (Nat × (World → Prop))) : Prop := ∀ p ∈ K, ((∀ W1 W2, G W1 W2 → p.2 W1 → p.2 W2) ∨ Lone ops m p.1) ∧ (L.getD p.1 false = true → p.2 W) ∧ p.1 < m

theorem adv {n : Nat} {Q : Act → World → Prop} (S : Side ops n m) (hn : a0.tmps.size = n) (hrefl : ∀ W, G W W) (hst : ∀ k φ, T k = .some_ φ ∨ T k = .early φ → ∀ v W W', G W W' → φ v W → φ v W') (hla : LastOk ops T G0 m)
    {L : Array Bool} {a b : Act} {W : World} {K : List (Nat × (World → Prop))} {k : Nat} {o : Oper} {rest : List Oper} (I : Inv P ops T G0 G w0 a0 m L a W) (hk : k < m) (ho : ops[k]? = some o)
    (hw : wpDep P ops T G0 G w0 Q K k (o :: rest) b) (hA : Agree ops m L a k b) (hK : KOK ops G m L W K) :
    ∃ K1 b1, wpDep P ops T G0 G w0 Q K1 (k + 1) rest b1 ∧ Agree ops m L a (k + 1) b1 ∧ KOK ops G m L W K1 := by
  have hdd := S.dst k o hk ho
  have hdb : ∀ d, o.dst = some d → d < b.tmps.size := fun d hd => by rw [hA.sz, I.sz, hn]; exact (hdd d hd).1
  -- the frame behind the operation
  have step : ∀ v, (L.getD k false = true → SlotIs o a v) → Agree ops m L a (k + 1) (b.put o.dst v) := by
    intro v hv
    refine ⟨by rw [put_size]; exact hA.sz, by rw [put_defers]; exact hA.df, fun t ht => ?_, fun i o' hi him ho' hl => ?_⟩
    · rw [put_far (fun d hd e => ht k o hk ho (by rw [hd, e]))]
      exact hA.out t ht
    · by_cases hik : i = k
      · subst hik
        rw [ho] at ho'
        injection ho' with ho'
        subst ho'
        exact slotIs_eq (put_slot hdb v) (hv hl)
      · have h1 := hA.on i o' (by omega) him ho' hl
        rw [← h1]
        exact slot_far (fun d d' hd hd' e => (hdd d hd).2 i o' hik ho' (by rw [hd', e])) v
  have hdeps : L.getD k false = true → ∀ e ∈ o.after, Region.binds .any e = true → L.getD e.on false = true := I.dc k o ho
  have heq : L.getD k false = true → execOp b.eval o = execOp a.eval o ∧ Region.wanted o (yielded ops b.tmps) = Region.wanted o (yielded ops a.tmps) := fun hl =>
    exec_eq (S.sel k o · · ho) (agree_looks S hA hk (Nat.le_refl k) ho (hdeps hl))
  have hfacts : L.getD k false = true → Facts K o W := fun hl p hp hdp => (hK p hp).2.1 (dep_listed (hdeps hl) hdp)
  unfold wpDep at hw
  by_cases hwt : Region.wanted o (yielded ops b.tmps) = true
  · rw [if_pos hwt] at hw
    have hgood : L.getD k false = true → (match T k with
        | .reckons => ∃ c, SlotIs o a c ∧ ∀ W1, G W W1 → (execOp a.eval o).run P W1 = .ok (.value c) W1
        | .known c => SlotIs o a c
        | .some_ φ => ∃ v, SlotIs o a v ∧ φ v W
        | .last φ => ∃ v, SlotIs o a v ∧ φ v W
        | .early φ => ∃ v, SlotIs o a v ∧ φ v W) := fun hl => by
      have := I.good k o hk ho hl
      unfold Good at this
      rwa [if_pos (by rw [← (heq hl).2]; exact hwt)] at this
    cases hT : T k with
    | reckons =>
      rw [hT] at hw hgood
      simp only at hw hgood
      obtain ⟨c, h1, h2⟩ := hw
      refine ⟨K, _, h2, step c fun hl => ?_, hK⟩
      obtain ⟨c', hs, hr⟩ := hgood hl
      have e1 := h1 W I.g (hfacts hl)
      have e2 := hr W (hrefl W)
      rw [(heq hl).1, e2] at e1
      injection e1 with e1 _
      injection e1 with e1
      rw [← e1]
      exact hs
    | known c =>
      rw [hT] at hw hgood
      exact ⟨K, _, hw.2, step c hgood, hK⟩
    | some_ φ =>
      rw [hT] at hw hgood
      simp only at hw hgood
      by_cases hl : L.getD k false = true
      · obtain ⟨v, hs, hφ⟩ := hgood hl
        refine ⟨_, _, hw.2 v, step v fun _ => hs, fun p hp => ?_⟩
        rcases List.mem_cons.1 hp with rfl | hp
        · exact ⟨.inl fun W1 W2 hg h => hst k φ (.inl hT) v W1 W2 hg h, fun _ => hφ, hk⟩
        · exact hK p hp
      · refine ⟨_, _, hw.2 undef, step undef fun h => absurd h hl, fun p hp => ?_⟩
        rcases List.mem_cons.1 hp with rfl | hp
        · exact ⟨.inl fun W1 W2 hg h => hst k φ (.inl hT) undef W1 W2 hg h, fun h => absurd h hl, hk⟩
        · exact hK p hp
    | last φ =>
      rw [hT] at hw hgood
      simp only at hw hgood
      have hlone := (hla k φ hT).2.1
      by_cases hl : L.getD k false = true
      · obtain ⟨v, hs, hφ⟩ := hgood hl
        refine ⟨_, _, hw.2 v, step v fun _ => hs, fun p hp => ?_⟩
        rcases List.mem_cons.1 hp with rfl | hp
        · exact ⟨.inr hlone, fun _ => hφ, hk⟩
        · exact hK p hp
      · refine ⟨_, _, hw.2 undef, step undef fun h => absurd h hl, fun p hp => ?_⟩
        rcases List.mem_cons.1 hp with rfl | hp
        · exact ⟨.inr hlone, fun h => absurd h hl, hk⟩
        · exact hK p hp
    | early φ =>
      rw [hT] at hw hgood
      simp only at hw hgood
      by_cases hl : L.getD k false = true
      · obtain ⟨v, hs, hφ⟩ := hgood hl
        refine ⟨_, _, hw.2 v, step v fun _ => hs, fun p hp => ?_⟩
        rcases List.mem_cons.1 hp with rfl | hp
        · exact ⟨.inl fun W1 W2 hg h => hst k φ (.inr hT) v W1 W2 hg h, fun _ => hφ, hk⟩
        · exact hK p hp
      · refine ⟨_, _, hw.2 undef, step undef fun h => absurd h hl, fun p hp => ?_⟩
        rcases List.mem_cons.1 hp with rfl | hp
        · exact ⟨.inl fun W1 W2 hg h => hst k φ (.inr hT) undef W1 W2 hg h, fun h => absurd h hl, hk⟩
        · exact hK p hp
  · rw [if_neg hwt] at hw
    refine ⟨K, _, hw, step undef fun hl => ?_, hK⟩
    have := I.good k o hk ho hl
    unfold Good at this
    rwa [if_neg (by rw [← (heq hl).2]; exact hwt)] at this

theorem replay {n : Nat} {Q : Act → World → Prop} (S : Side ops n m) (hn : a0.tmps.size = n) (hrefl : ∀ W, G W W) (hst : ∀ k φ, T k = .some_ φ ∨ T k = .early φ → ∀ v W W', G W W' → φ v W → φ v W') (hla : LastOk ops T G0 m)
    {L : Array Bool} {a : Act} {W : World} (I : Inv P ops T G0 G w0 a0 m L a W) : ∀ (l : List Oper) (k : Nat) (K : List (Nat × (World → Prop))) (b : Act), (∀ j, l[j]? = if k + j < m then ops[k + j]? else none) →
    wpDep P ops T G0 G w0 Q K k l b → Agree ops m L a k b → KOK ops G m L W K → ∀ j, k ≤ j → j ≤ m → ∃ K1 b1, wpDep P ops T G0 G w0 Q K1 j (l.drop (j - k)) b1 ∧ Agree ops m L a j b1 ∧ KOK ops G m L W K1 := by
  intro l
  induction l with
  | nil =>
    intro k K b hl hw hA hK j hkj hjm
    have h0 := hl 0
    by_cases hkm : k < m
    · rw [if_pos (by omega)] at h0
      have : k < ops.size := by have := S.le; omega
      simp [Array.getElem?_eq_getElem this] at h0
    · have : j = k := by omega
      subst this
      exact ⟨K, b, by simpa using hw, hA, hK⟩
  | cons o l ih =>
    intro k K b hl hw hA hK j hkj hjm
    by_cases hjk : j = k
    · subst hjk
      exact ⟨K, b, by simpa using hw, hA, hK⟩
    · have h0 := hl 0
      have hkm : k < m := by omega
      rw [if_pos (by omega)] at h0
      have ho : ops[k]? = some o := by simpa using h0.symm
      obtain ⟨K1, b1, h1, h2, h3⟩ := adv S hn hrefl hst hla I hkm ho hw hA hK
      obtain ⟨K2, b2, h4, h5, h6⟩ := ih (k + 1) K1 b1 (fun j => by have := hl (j + 1); simpa [Nat.add_assoc, Nat.add_comm 1 j] using this) h1 h2 h3 j (by omega) hjm
      have e : j - k = (j - (k + 1)) + 1 := by omega
      rw [e, List.drop_succ_cons]
      exact ⟨K2, b2, h4, h5, h6⟩

theorem getD_of {L : Array Bool} {i : Nat} (h : L.getD i true = false) : L.getD i false = false := by
  by_cases hl : i < L.size
  · simp [hl] at h ⊢
    exact h
  · simp [hl]

theorem inv_step {n : Nat} (S : Side ops n m) (hn : a0.tmps.size = n) (htrans : ∀ W1 W2 W3, G W1 W2 → G W2 W3 → G W1 W3) (htrans0 : ∀ W1 W2 W3, G0 W1 W2 → G0 W2 W3 → G0 W1 W3) (hst : ∀ k φ, T k = .some_ φ ∨ T k = .early φ → ∀ v W W', G W W' → φ v W → φ v W') (hla : LastOk ops T G0 m)
    {L : Array Bool} {a : Act} {W W' : World} (I : Inv P ops T G0 G w0 a0 m L a W) {j : Nat} {o : Oper} (hj : j < m) (ho : ops[j]? = some o) (hu : L.getD j true = false)
    (hd : ∀ e ∈ o.after, Region.binds .any e = true → L.getD e.on false = true) (v : Value) (hg : G W W') (hg0 : (∀ φ, T j ≠ .last φ) → G0 W W') (hgood : Good P ops T G j o (a.put o.dst v) W') :
    Inv P ops T G0 G w0 a0 m (L.setIfInBounds j true) (a.put o.dst v) W' := by
  have hdo := S.dst j o hj ho
  have hjs : j < L.size := by rw [I.lsz]; exact (Array.getElem?_eq_some_iff.1 ho).1
  have hset : ∀ i, (L.setIfInBounds j true).getD i false = true → i = j ∨ L.getD i false = true := by
    intro i hi
    by_cases hij : i = j
    · exact .inl hij
    · rw [getD_set_ne false (Ne.symm hij)] at hi
      exact .inr hi
  have hnl : (∀ k φ, T k = .last φ → (L.setIfInBounds j true).getD k false = false) → G0 w0 W' := fun h => by
    refine htrans0 _ _ _ (I.g0 fun k φ hk => ?_) (hg0 fun φ hT => ?_)
    · by_cases hkj : k = j
      · subst hkj; exact getD_of hu
      · have := h k φ hk
        rwa [getD_set_ne false (Ne.symm hkj)] at this
    · have := h j φ hT
      simp [hjs] at this
  refine ⟨by rw [Array.size_setIfInBounds]; exact I.lsz, htrans _ _ _ I.g hg, hnl, fun t ht => ?_, by rw [put_size]; exact I.sz, by rw [put_defers]; exact I.df, fun i o' hi ho' hl => ?_, fun i o' ho' hl e he hb => ?_, fun i hi => ?_⟩
  · rw [put_far (fun d hd e => ht j o hj ho (by rw [hd, e]))]
    exact I.out t ht
  · by_cases hij : i = j
    · subst hij
      rw [ho] at ho'
      injection ho' with ho'
      subst ho'
      exact hgood
    · have hl' := (hset i hl).resolve_left hij
      have hold := I.good i o' hi ho' hl'
      have heq := exec_eq (ops := ops) (a := a) (b := a.put o.dst v) (S.sel i o' · · ho') (fun t ht => by
        refine put_far (fun d hdd e => ?_) v
        subst e
        have hdep := S.looks i o' hi ho' d ht j o ho hdd
        have := dep_listed (I.dc i o' ho' hl') hdep
        rw [getD_of hu] at this
        cases this)
      have hslot : slot o' (a.put o.dst v) = slot o' a := slot_far (fun d d' hd hd' e => (hdo d hd).2 i o' hij ho' (by rw [hd', e])) v
      unfold Good SlotIs at *
      rw [heq.1, heq.2, hslot]
      by_cases hw : Region.wanted o' (yielded ops a.tmps) = true
      · rw [if_pos hw] at hold ⊢
        cases hT : T i with
        | reckons =>
          rw [hT] at hold
          simp only at hold ⊢
          obtain ⟨c, h1, h2⟩ := hold
          exact ⟨c, h1, fun W1 h => h2 W1 (htrans _ _ _ hg h)⟩
        | known c =>
          rw [hT] at hold
          exact hold
        | some_ φ =>
          rw [hT] at hold
          simp only at hold ⊢
          obtain ⟨u, h1, h2⟩ := hold
          exact ⟨u, h1, hst i φ (.inl hT) u W W' hg h2⟩
        | last φ =>
          rw [hT] at hold
          simp only at hold ⊢
          obtain ⟨u, h1, h2⟩ := hold
          exact ⟨u, h1, (hla i φ hT).1 u W W' (hg0 fun φ' h' => hij ((hla i φ hT).2.2 j φ' h').symm) h2⟩
        | early φ =>
          rw [hT] at hold
          simp only at hold ⊢
          obtain ⟨u, h1, h2⟩ := hold
          exact ⟨u, h1, hst i φ (.inr hT) u W W' hg h2⟩
      · rw [if_neg hw] at hold ⊢
        exact hold
  · by_cases hij : i = j
    · subst hij
      rw [ho] at ho'
      injection ho' with ho'
      subst ho'
      exact getD_set_true (hd e he hb)
    · exact getD_set_true (I.dc i o' ho' ((hset i hl).resolve_left hij) e he hb)
  · have hne : i ≠ j := by omega
    rw [getD_set_ne false (Ne.symm hne)]
    exact I.nt i hi

theorem frames_eq {n : Nat} (S : Side ops n m) {L : Array Bool} {a b : Act} (h : Agree ops m L a m b) (hall : ∀ i, i < m → L.getD i false = true) : b = a := by
  obtain ⟨bt, bd⟩ := b
  obtain ⟨at_, ad⟩ := a
  obtain ⟨h1, h2, h3, h4⟩ := h
  simp only at h1 h2 h3 h4
  have : bt = at_ := by
    apply Array.ext_getElem?
    intro t
    by_cases hex : ∃ (i : Nat) (o' : Oper), i < m ∧ ops[i]? = some o' ∧ o'.dst = some t
    · obtain ⟨i, o', him, hi, hdt⟩ := hex
      have := h4 i o' him him hi (hall i him)
      simpa [slot, hdt] using this
    · exact h3 t fun i o' hi ho' hdt => hex ⟨i, o', hi, ho', hdt⟩
  rw [this, h2]

/-- How many are still to come. -/
def left (N : Nat) (L : Array Bool) : Nat := ((List.range N).filter fun i => !L.getD i false).length

theorem left_set {N j : Nat} {L : Array Bool} (hj : j < N) (hs : j < L.size) (hu : L.getD j false = false) : left N (L.setIfInBounds j true) < left N L := by
  unfold left
  have h1 : ((List.range N).filter fun i => !(L.setIfInBounds j true).getD i false) = ((List.range N).filter fun i => !L.getD i false).filter fun i => decide (i ≠ j) := by
    rw [List.filter_filter]
    apply List.filter_congr
    intro i _
    by_cases hij : i = j
    · subst hij
      simp [hs]
    · rw [getD_set_ne false (Ne.symm hij)]
      simp [hij]
  rw [h1]
  have hmem : j ∈ (List.range N).filter fun i => !L.getD i false := by
    rw [List.mem_filter]
    exact ⟨List.mem_range.2 hj, by rw [hu]; rfl⟩
  generalize (List.range N).filter (fun i => !L.getD i false) = l at hmem
  induction l with
  | nil => cases hmem
  | cons x l ih =>
    by_cases hx : x = j
    · subst hx
      simp only [List.filter_cons, ne_eq, not_true_eq_false, decide_false, List.length_cons]
      have := List.length_filter_le (fun i => decide (i ≠ x)) l
      simp only [ne_eq] at this
      simp only [Bool.false_eq_true, if_false]
      omega
    · have hm : j ∈ l := by
        rcases List.mem_cons.1 hmem with h | h
        · exact absurd h.symm hx
        · exact h
      have := ih hm
      simp only [List.filter_cons, ne_eq, hx, not_false_eq_true, decide_true, if_true, List.length_cons]
      simp only [ne_eq] at this
      omega

theorem left_zero {N : Nat} {L : Array Bool} (h : left N L = 0) : ∀ i, i < N → L.getD i false = true := by
  intro i hi
  unfold left at h
  have h0 := List.eq_nil_of_length_eq_zero h
  cases hb : L.getD i false with
  | true => rfl
  | false =>
    have : i ∈ (List.range N).filter fun i => !L.getD i false := by
      rw [List.mem_filter]
      exact ⟨List.mem_range.2 hi, by rw [hb]; rfl⟩
    rw [h0] at this
    cases this

/-- Nothing may come up: all has. -/
theorem all_of_ready {n : Nat} (S : Side ops n m) {L : Array Bool} (hls : L.size = ops.size) (hr : Region.ready .any ops L = []) : ∀ i, i < ops.size → L.getD i false = true := by
  intro i
  induction i using Nat.strongRecOn with
  | _ i ih =>
    intro hi
    cases hb : L.getD i false with
    | true => rfl
    | false =>
      have : i ∈ Region.ready .any ops L := by
        rw [mem_ready]
        refine ⟨by simpa [hls, hi] using hb, ops[i], Array.getElem?_eq_getElem hi, fun e he hbd => ?_⟩
        have hlt := S.back i ops[i] (Array.getElem?_eq_getElem hi) e he hbd
        exact ih e.on hlt (by omega)
      rw [hr] at this
      cases this

theorem none_ready {L : Array Bool} (hall : ∀ i, i < ops.size → L.getD i false = true) : Region.ready .any ops L = [] := by
  cases hr : Region.ready .any ops L with
  | nil => rfl
  | cons j r =>
    have hj : j ∈ Region.ready .any ops L := by rw [hr]; exact List.mem_cons_self
    rw [mem_ready] at hj
    obtain ⟨h0, o, ho, _⟩ := hj
    have h1 := hall j (Array.getElem?_eq_some_iff.1 ho).1
    rw [getD_of h0] at h1
    cases h1

/-- The tail: from here on the order is forced. -/
theorem wpAny_tail {n : Nat} {Q : Exit → Act → World → Prop} (S : Side ops n m) : ∀ (fuel k : Nat) (L : Array Bool) (a : Act) (W : World), m ≤ k → L.size = ops.size → (∀ i, L.getD i false = true ↔ i < k ∧ i < ops.size) → left ops.size L ≤ fuel →
    wpList P ops Q (ops.toList.drop k) a W → wpAny P .any ops Q fuel L a W := by
  have fin : ∀ (k : Nat) (L : Array Bool) (a : Act) (W : World), (∀ i, L.getD i false = true ↔ i < k ∧ i < ops.size) → (∀ i, i < ops.size → L.getD i false = true) → wpList P ops Q (ops.toList.drop k) a W → Q .normal a W := by
    intro k L a W hL hall hw
    have hk : ops.size ≤ k := by
      rcases Nat.lt_or_ge k ops.size with h | h
      · have := (hL k).1 (hall k h)
        omega
      · exact h
    rw [List.drop_of_length_le (by simpa using hk)] at hw
    exact hw
  intro fuel
  induction fuel with
  | zero =>
    intro k L a W hk hls hL hf hw
    have hall := left_zero (Nat.le_zero.1 hf)
    exact ⟨none_ready hall, fin k L a W hL hall hw⟩
  | succ fuel ih =>
    intro k L a W hk hls hL hf hw
    refine ⟨fun hr => fin k L a W hL (all_of_ready S hls hr) hw, fun j hj => ?_⟩
    rw [mem_ready] at hj
    obtain ⟨h0, o, ho, hd⟩ := hj
    have hjs := (Array.getElem?_eq_some_iff.1 ho).1
    have hjk : k ≤ j := by
      rcases Nat.lt_or_ge j k with h | h
      · have := (hL j).2 ⟨h, hjs⟩
        rw [getD_of h0] at this
        cases this
      · exact h
    have hcl : Closed ops L := by
      intro i o' ho' hl e he hb
      have h1 := (hL i).1 hl
      have h2 := S.back i o' ho' e he hb
      exact (hL _).2 ⟨by omega, by omega⟩
    have hjk' : j = k := by
      rcases Nat.lt_or_ge k j with h | h
      · have := anc_listed hcl ops.size j k (S.tail j (by omega) hjs k h) (fun o' ho' => by rw [ho] at ho'; injection ho' with ho'; subst ho'; exact hd)
        have := (hL k).1 this
        omega
      · omega
    subst hjk'
    have hdrop : ops.toList.drop j = o :: ops.toList.drop (j + 1) := by
      have hjl : j < ops.toList.length := by simpa using hjs
      rw [List.drop_eq_getElem_cons hjl]
      congr 1
      have := (Array.getElem?_eq_some_iff.1 ho).2
      simpa using this
    rw [hdrop] at hw
    have next : ∀ a' W', wpList P ops Q (ops.toList.drop (j + 1)) a' W' → wpAny P .any ops Q fuel (L.setIfInBounds j true) a' W' := fun a' W' h =>
      ih (j + 1) _ a' W' (by omega) (by rw [Array.size_setIfInBounds]; exact hls) (fun i => by
        by_cases hij : i = j
        · subst hij
          simp [hls, hjs]
        · rw [getD_set_ne false (Ne.symm hij), hL i]
          constructor
          · rintro ⟨h1, h2⟩
            exact ⟨by omega, h2⟩
          · rintro ⟨h1, h2⟩
            exact ⟨by omega, h2⟩) (by
        have := left_set (N := ops.size) hjs (by rw [hls]; exact hjs) (getD_of h0)
        omega) h
    unfold wpOp
    rw [ho]
    unfold wpList at hw
    simp only
    split
    · rename_i hwt
      rw [if_pos hwt] at hw
      exact hw.imp (Oper.wp_mono next) id
    · rename_i hwt
      rw [if_neg hwt] at hw
      exact next _ _ hw

theorem wpAny_dep {n : Nat} {Q : Exit → Act → World → Prop} (S : Side ops n m) (hn : a0.tmps.size = n) (hrefl : ∀ W, G W W) (hrefl0 : ∀ W, G0 W W) (hsub : ∀ W W', G0 W W' → G W W') (htrans : ∀ W1 W2 W3, G W1 W2 → G W2 W3 → G W1 W3) (htrans0 : ∀ W1 W2 W3, G0 W1 W2 → G0 W2 W3 → G0 W1 W3)
    (hst : ∀ k φ, T k = .some_ φ ∨ T k = .early φ → ∀ v W W', G W W' → φ v W → φ v W') (hla : LastOk ops T G0 m) (hea : EarlyOk ops T)
    (h : wpDep P ops T G0 G w0 (fun a' W' => wpList P ops Q (ops.toList.drop m) a' W') [] 0 (ops.toList.take m) a0) :
    ∀ (fuel : Nat) (L : Array Bool) (a : Act) (W : World), Inv P ops T G0 G w0 a0 m L a W → left ops.size L ≤ fuel → wpAny P .any ops Q fuel L a W := by
  have hlist : ∀ j, (ops.toList.take m)[j]? = if 0 + j < m then ops[0 + j]? else none := by
    intro j
    rw [Nat.zero_add, List.getElem?_take]
    split <;> simp
  have rep : ∀ {L : Array Bool} {a : Act} {W : World}, Inv P ops T G0 G w0 a0 m L a W → ∀ j, j ≤ m → ∃ K1 b1, wpDep P ops T G0 G w0 (fun a' W' => wpList P ops Q (ops.toList.drop m) a' W') K1 j ((ops.toList.take m).drop (j - 0)) b1 ∧ Agree ops m L a j b1 ∧ KOK ops G m L W K1 :=
    fun I j hj => replay S hn hrefl hst hla I _ 0 [] a0 hlist h ⟨I.sz.symm, I.df.symm, fun t ht => (I.out t ht).symm, fun i o hi => absurd hi (Nat.not_lt_zero _)⟩ (fun p hp => by cases hp) j (Nat.zero_le _) hj
  have done : ∀ {L : Array Bool} {a : Act} {W : World}, Inv P ops T G0 G w0 a0 m L a W → (∀ i, i < m → L.getD i false = true) → wpList P ops Q (ops.toList.drop m) a W := by
    intro L a W I hall
    obtain ⟨K1, b1, h1, h2, h3⟩ := rep I m (Nat.le_refl m)
    have he : (ops.toList.take m).drop (m - 0) = [] := List.drop_of_length_le (by simp; omega)
    rw [he] at h1
    unfold wpDep at h1
    have hb := frames_eq S h2 hall
    subst hb
    exact h1 W I.g fun p hp => (h3 p hp).2.1 (hall _ (h3 p hp).2.2)
  intro fuel
  induction fuel with
  | zero =>
    intro L a W I hf
    have hall := left_zero (Nat.le_zero.1 hf)
    have hm : ¬ m < ops.size := fun h => by
      have h1 := hall m h
      rw [I.nt m (Nat.le_refl m)] at h1
      cases h1
    have hd := done I (fun i hi => hall i (by have := S.le; omega))
    rw [List.drop_of_length_le (by simp; omega)] at hd
    exact ⟨none_ready hall, hd⟩
  | succ fuel ih =>
    intro L a W I hf
    refine ⟨fun hr => ?_, fun j hj => ?_⟩
    · have hall := all_of_ready S I.lsz hr
      have hm : ¬ m < ops.size := fun h => by
        have h1 := hall m h
        rw [I.nt m (Nat.le_refl m)] at h1
        cases h1
      have hd := done I (fun i hi => hall i (by have := S.le; omega))
      rw [List.drop_of_length_le (by simp; omega)] at hd
      exact hd
    · rw [mem_ready] at hj
      obtain ⟨h0, o, ho, hd⟩ := hj
      have hjs := (Array.getElem?_eq_some_iff.1 ho).1
      by_cases hjm : j < m
      · obtain ⟨K1, b1, h1, hA, hK⟩ := rep I j (Nat.le_of_lt hjm)
        have hrest : (ops.toList.take m).drop (j - 0) = o :: (ops.toList.take m).drop (j + 1) := by
          have hjl : j < (ops.toList.take m).length := by simp; omega
          rw [Nat.sub_zero, List.drop_eq_getElem_cons hjl]
          congr 1
          have := (Array.getElem?_eq_some_iff.1 ho).2
          simpa using this
        rw [hrest] at h1
        have heq := exec_eq (ops := ops) (a := a) (b := b1) (S.sel j o · · ho) (agree_looks S hA hjm (Nat.le_refl j) ho hd)
        have hdo := S.dst j o hjm ho
        have hda : ∀ d, o.dst = some d → d < a.tmps.size := fun d hd => by rw [I.sz, hn]; exact (hdo d hd).1
        have hfacts : ∀ W1, G W W1 → Facts K1 o W1 := fun W1 hg p hp hdp => by
          rcases (hK p hp).1 with h | h
          · exact h W W1 hg ((hK p hp).2.1 (dep_listed hd hdp))
          · rw [h j o hjm ho] at hdp
            cases hdp
        have hleft := left_set (N := ops.size) hjs (by rw [I.lsz]; exact hjs) (getD_of h0)
        -- whether it is wanted does not hang on its own slot
        have hself : ∀ v, execOp (a.put o.dst v).eval o = execOp a.eval o ∧ Region.wanted o (yielded ops (a.put o.dst v).tmps) = Region.wanted o (yielded ops a.tmps) := fun v =>
          exec_eq (ops := ops) (S.sel j o · · ho) (fun t ht => by
            refine put_far (fun d hdd e => ?_) v
            subst e
            have hdep := S.looks j o hjm ho d ht j o ho hdd
            simp only [depB, Array.any_eq_true', Bool.and_eq_true, beq_iff_eq] at hdep
            obtain ⟨e, he, hb, hej⟩ := hdep
            have := S.back j o ho e he hb
            omega)
        unfold wpOp
        rw [ho]
        simp only
        unfold wpDep at h1
        by_cases hwt : Region.wanted o (yielded ops b1.tmps) = true
        · rw [if_pos hwt] at h1
          have hwa : Region.wanted o (yielded ops a.tmps) = true := by rw [← heq.2]; exact hwt
          rw [if_pos hwa]
          have good_of : ∀ (v : Value) (W' : World), (match T j with
              | .reckons => ∃ c, SlotIs o (a.put o.dst v) c ∧ ∀ W1, G W' W1 → (execOp a.eval o).run P W1 = .ok (.value c) W1
              | .known c => SlotIs o (a.put o.dst v) c
              | .some_ φ => ∃ u, SlotIs o (a.put o.dst v) u ∧ φ u W'
              | .last φ => ∃ u, SlotIs o (a.put o.dst v) u ∧ φ u W'
              | .early φ => ∃ u, SlotIs o (a.put o.dst v) u ∧ φ u W') → Good P ops T G j o (a.put o.dst v) W' := fun v W' hh => by
            unfold Good
            rw [(hself v).1, (hself v).2, if_pos hwa]
            exact hh
          have go : ∀ (v : Value) (W' : World), G W W' → ((∀ φ, T j ≠ .last φ) → G0 W W') → Good P ops T G j o (a.put o.dst v) W' → wpAny P .any ops Q fuel (L.setIfInBounds j true) (a.put o.dst v) W' := fun v W' hg hg0' hgood =>
            ih _ _ _ (inv_step S hn htrans htrans0 hst hla I hjm ho h0 hd v hg hg0' hgood) (by omega)
          left
          cases hT : T j with
          | reckons =>
            rw [hT] at h1
            simp only at h1
            obtain ⟨c, hc, _⟩ := h1
            have hrun := hc W I.g (hfacts W (hrefl W))
            rw [heq.1] at hrun
            unfold Oper.wp
            rw [hrun]
            refine go c W (hrefl W) (fun _ => hrefl0 W) (good_of c W ?_)
            rw [hT]
            refine ⟨c, put_slot hda c, fun W1 hg => ?_⟩
            have := hc W1 (htrans _ _ _ I.g hg) (hfacts W1 hg)
            rwa [heq.1] at this
          | known c =>
            rw [hT] at h1
            refine wp_of_gives (gives_congr heq.1 (h1.1 W I.g (hfacts W (hrefl W)))) fun v w' hv => ?_
            obtain ⟨rfl, hg⟩ := hv
            refine go _ w' (hsub _ _ hg) (fun _ => hg) (good_of _ w' ?_)
            rw [hT]
            exact put_slot hda _
          | some_ φ =>
            rw [hT] at h1
            refine wp_of_gives (gives_congr heq.1 (h1.1 W I.g (hfacts W (hrefl W)))) fun v w' hv => ?_
            refine go v w' (hsub _ _ hv.2) (fun _ => hv.2) (good_of v w' ?_)
            rw [hT]
            exact ⟨v, put_slot hda v, hv.1⟩
          | last φ =>
            rw [hT] at h1
            refine wp_of_gives (gives_congr heq.1 (h1.1 W (I.g0 fun k φ' hk => by rw [(hla j φ hT).2.2 k φ' hk]; exact getD_of h0) (hfacts W (hrefl W)))) fun v w' hv => ?_
            refine go v w' hv.2 (fun h => absurd hT (h φ)) (good_of v w' ?_)
            rw [hT]
            exact ⟨v, put_slot hda v, hv.1⟩
          | early φ =>
            rw [hT] at h1
            have hg0 : G0 w0 W := I.g0 fun k φ' hk => by
              cases hl : L.getD k false with
              | false => rfl
              | true =>
                have hanc := hea j φ k φ' hT hk
                have := anc_listed I.dc ops.size k j hanc (fun o' ho' => I.dc k o' ho' hl)
                rw [getD_of h0] at this
                cases this
            refine wp_of_gives (gives_congr heq.1 (h1.1 W hg0 (hfacts W (hrefl W)))) fun v w' hv => ?_
            refine go v w' (hsub _ _ hv.2) (fun _ => hv.2) (good_of v w' ?_)
            rw [hT]
            exact ⟨v, put_slot hda v, hv.1⟩
        · have hwa : ¬ Region.wanted o (yielded ops a.tmps) = true := by rw [← heq.2]; exact hwt
          rw [if_neg hwa]
          refine ih _ _ _ (inv_step S hn htrans htrans0 hst hla I hjm ho h0 hd undef (hrefl W) (fun _ => hrefl0 W) ?_) (by omega)
          unfold Good
          rw [(hself undef).2, if_neg hwa]
          exact put_slot hda undef
      · -- the tail begins
        have hjm' : m ≤ j := by omega
        have hcl := I.dc
        have hanc : ∀ i, i < j → L.getD i false = true := fun i hi =>
          anc_listed hcl ops.size j i (S.tail j hjm' hjs i hi) (fun o' ho' => by rw [ho] at ho'; injection ho' with ho'; subst ho'; exact hd)
        have hjeq : j = m := by
          rcases Nat.lt_or_ge m j with h1 | h1
          · have h2 := hanc m h1
            rw [I.nt m (Nat.le_refl m)] at h2
            cases h2
          · omega
        subst hjeq
        have hL : ∀ i, L.getD i false = true ↔ i < j ∧ i < ops.size := by
          intro i
          constructor
          · intro hl
            rcases Nat.lt_or_ge i j with h1 | h1
            · exact ⟨h1, by omega⟩
            · rw [I.nt i h1] at hl
              cases hl
          · exact fun h1 => hanc i h1.1
        have hw := done I hanc
        have hall := wpAny_tail S (fuel + 1) j L a W (Nat.le_refl j) I.lsz hL hf hw
        exact hall.2 j (by rw [mem_ready]; exact ⟨h0, o, ho, hd⟩)

theorem rep_false (n i : Nat) : (Array.replicate n false).getD i false = false := by
  by_cases h : i < n <;> simp [h]

/-- **A region that draws, its operations written out, walked in the order of the text.** The last ones, from the m-th on, must come last and in this order, and are walked as ever. -/
theorem wp_region_dep {id : Nat} {Q : Exit → Act → World → Prop} {a : Act} {w : World} {l : List Oper} (m : Nat) (T : Nat → DK) (G0 G : World → World → Prop) (hm : P.follows .mixedOrders = true)
    (hS : sideB l.toArray a.tmps.size m = true) (hrefl : ∀ W, G W W) (hrefl0 : ∀ W, G0 W W) (hsub : ∀ W W', G0 W W' → G W W') (htrans : ∀ W1 W2 W3, G W1 W2 → G W2 W3 → G W1 W3) (htrans0 : ∀ W1 W2 W3, G0 W1 W2 → G0 W2 W3 → G0 W1 W3)
    (hst : ∀ k φ, T k = .some_ φ ∨ T k = .early φ → ∀ v W W', G W W' → φ v W → φ v W') (hla : LastOk l.toArray T G0 m) (hea : EarlyOk l.toArray T)
    (h : wpDep P l.toArray T G0 G w.drew (fun a' W' => wpList P l.toArray Q (l.drop m) a' W') [] 0 (l.take m) a) : (Code.region id l.toArray true).wp P Q a w := by
  have S := side_of hS
  refine wp_region_any hm ?_
  have h' : wpDep P l.toArray T G0 G w.drew (fun a' W' => wpList P l.toArray Q (l.toArray.toList.drop m) a' W') [] 0 (l.toArray.toList.take m) a := by simpa using h
  refine wpAny_dep S rfl hrefl hrefl0 hsub htrans htrans0 hst hla hea h' _ _ _ _ ⟨by simp, hrefl _, fun _ => hrefl0 _, fun t _ => rfl, rfl, rfl, fun i o _ _ hl => ?_, fun i o _ hl => ?_, fun i _ => ?_⟩ ?_
  · rw [rep_false] at hl
    cases hl
  · rw [rep_false] at hl
    cases hl
  · exact rep_false _ _
  · unfold left
    have := List.length_filter_le (fun i => !(Array.replicate l.toArray.size false).getD i false) (List.range l.toArray.size)
    simpa using this

/-! ### The steps -/
section
variable {Q : Act → World → Prop} {K : List (Nat × (World → Prop))} {k : Nat} {o : Oper} {rest : List Oper} {a a' : Act}
theorem dep_nil (h : ∀ W, G w0 W → (∀ p ∈ K, p.2 W) → Q a W) : wpDep P ops T G0 G w0 Q K k [] a := h
theorem dep_skip (hw : Region.wanted o (yielded ops a.tmps) = false) (ha : a.put o.dst undef = a') (h : wpDep P ops T G0 G w0 Q K (k + 1) rest a') : wpDep P ops T G0 G w0 Q K k (o :: rest) a := by
  subst ha
  unfold wpDep
  rw [if_neg (by rw [hw]; simp)]
  exact h
theorem dep_reckons {c : Value} (hT : T k = .reckons) (hw : Region.wanted o (yielded ops a.tmps) = true) (hrun : ∀ W, G w0 W → Facts K o W → (execOp a.eval o).run P W = .ok (.value c) W)
    (ha : a.put o.dst c = a') (h : wpDep P ops T G0 G w0 Q K (k + 1) rest a') : wpDep P ops T G0 G w0 Q K k (o :: rest) a := by
  subst ha
  unfold wpDep
  rw [if_pos hw, hT]
  exact ⟨c, hrun, h⟩
theorem dep_known {c : Value} (hT : T k = .known c) (hw : Region.wanted o (yielded ops a.tmps) = true) (hrun : ∀ W, G w0 W → Facts K o W → opGives P o a W (fun v W' => v = c ∧ G0 W W'))
    (ha : a.put o.dst c = a') (h : wpDep P ops T G0 G w0 Q K (k + 1) rest a') : wpDep P ops T G0 G w0 Q K k (o :: rest) a := by
  subst ha
  unfold wpDep
  rw [if_pos hw, hT]
  exact ⟨hrun, h⟩
theorem dep_some {φ : Value → World → Prop} (hT : T k = .some_ φ) (hw : Region.wanted o (yielded ops a.tmps) = true) (hrun : ∀ W, G w0 W → Facts K o W → opGives P o a W (fun v W' => φ v W' ∧ G0 W W'))
    (h : ∀ v, wpDep P ops T G0 G w0 Q ((k, φ v) :: K) (k + 1) rest (a.put o.dst v)) : wpDep P ops T G0 G w0 Q K k (o :: rest) a := by
  unfold wpDep
  rw [if_pos hw, hT]
  exact ⟨hrun, h⟩
theorem dep_last {φ : Value → World → Prop} (hT : T k = .last φ) (hw : Region.wanted o (yielded ops a.tmps) = true) (hrun : ∀ W, G0 w0 W → Facts K o W → opGives P o a W (fun v W' => φ v W' ∧ G W W'))
    (h : ∀ v, wpDep P ops T G0 G w0 Q ((k, φ v) :: K) (k + 1) rest (a.put o.dst v)) : wpDep P ops T G0 G w0 Q K k (o :: rest) a := by
  unfold wpDep
  rw [if_pos hw, hT]
  exact ⟨hrun, h⟩
theorem dep_early {φ : Value → World → Prop} (hT : T k = .early φ) (hw : Region.wanted o (yielded ops a.tmps) = true) (hrun : ∀ W, G0 w0 W → Facts K o W → opGives P o a W (fun v W' => φ v W' ∧ G0 W W'))
    (h : ∀ v, wpDep P ops T G0 G w0 Q ((k, φ v) :: K) (k + 1) rest (a.put o.dst v)) : wpDep P ops T G0 G w0 Q K k (o :: rest) a := by
  unfold wpDep
  rw [if_pos hw, hT]
  exact ⟨hrun, h⟩
end
end
attribute [irreducible] wpDep

theorem gives_append_src {P : Program} {o : Oper} {a : Act} {W : World} {R : Value → World → Prop} (s x : Operand) (t : TypeId)
    (ho : o.op = .call { callee := .builtin .append, args := #[s, x], argTypes := #[t, t] })
    (base : Nat) (e : TypeId) (i : TypeInfo) (z : Value) (size bytes : Nat) (ht : P.underlying t = some (.slice e)) (hi : P.info? e = some i) (hz : i.zero = some z)
    (hsize : i.size = size) (hby : i.bytes = bytes) (hzs : z.cells.size = size) (hsz : 0 < size)
    (v : Value) (n : Nat) (xs : List Value) (hs : a.eval s = v) (hown : W.ownsRow base e size v n xs)
    (A : Option Addr) (m c : Nat) (news : List Value) (hx : a.eval x = .slice A m c) (hr : Src W size A m news)
    (h63 : n + m ≤ maxLen) (hbytes : (n + m) * bytes ≤ 140737488355328) (hbase : base ≤ W.heap.size)
    (h : ∀ v' w', w'.ownsRow base e size v' (n + m) (xs ++ news) → W.grownBy w' v.ownBlock → (v'.ownBlock = v.ownBlock ∨ v'.ownBlock = some W.heap.size) → R v' w') : opGives P o a W R := by
  obtain ⟨v', w', hrun, h2, h3, h4⟩ := run_append_src (P := P) (w := W) base t o.type e i z size bytes ht hi hz hsize hby hzs hsz v n xs hown A m c news hr h63 hbytes hbase
  unfold opGives execOp
  simp only [ho, resolve, invoke, builtin, Sem.run_bind, Sem.run_pure, Result.andThen_ok, List.map_toArray, List.map_cons, List.map_nil, hs, hx, hrun]
  exact h v' w' h2 h3 h4
end Go.Proofs.Ytehfddafjemedaa
