/- THE ENGINE, 6: a region whose order is drawn. -/
import Derived.Test.YthophgadmkjamaaFLoop
import Derived.Orders
namespace Go.Mw
open Go

def edgeB (l : List Oper) (i j : Nat) : Bool := match l[i]? with
  | some o => o.after.toList.any (fun e => Region.binds .any e && Nat.beq e.on j)
  | none => false
def depB (l : List Oper) : Nat → Nat → Nat → Bool
  | 0, _, _ => false
  | n + 1, i, j => edgeB l i j || (match l[i]? with
    | some o => o.after.toList.any (fun e => Region.binds .any e && depB l n e.on j)
    | none => false)
def dstB (l : List Oper) (i : Nat) : Option Nat := (l[i]?).bind (·.dst)
def looksB (l : List Oper) (i : Nat) : List Nat := match l[i]? with
  | some o => o.looksAt l.toArray
  | none => []
/-- Behind an operation that is not quiet all depends on it (allocations among themselves need not). -/
def chkP (l : List Oper) (qs as : List Nat) : List Nat → Bool
  | [] => true
  | i :: rest => (qs.contains i || rest.all fun j => as.contains j || depB l l.length j i) && chkP l qs as rest
/-- What an operation looks at was written ahead of it, or not in this region. -/
def lookOk (l : List Oper) (done : List Nat) (i : Nat) : Bool := (List.range l.length).all fun j => match dstB l j with
  | some d => !(looksB l i).contains d || (done.contains j && edgeB l i j)
  | none => true
def chkL (l : List Oper) : List Nat → List Nat → Bool
  | _, [] => true
  | done, i :: rest => !done.contains i && !rest.contains i && lookOk l done i && chkL l (i :: done) rest
/-- A quiet operation that does not float comes ahead of all that turns things behind it. -/
def chkA (l : List Oper) (qs as flo : List Nat) : List Nat → Bool
  | [] => true
  | i :: rest => (!qs.contains i || flo.contains i || rest.all fun j => qs.contains j || as.contains j || flo.contains j || depB l l.length j i) && chkA l qs as flo rest
def isSelect : Op → Bool
  | .select .. => true
  | _ => false
def drawOk (l : List Oper) (qs as flo pi : List Nat) : Bool :=
  ((List.range l.length).all fun i => pi.contains i) && (pi.all fun i => Nat.blt i l.length) &&
  (l.all fun o => !isSelect o.op) &&
  ((List.range l.length).all fun i => match l[i]? with
    | some o => o.after.toList.all fun e => !Region.binds .any e || Nat.blt e.on i
    | none => true) &&
  ((List.range l.length).all fun i => (List.range l.length).all fun j => Nat.beq i j || (match dstB l i, dstB l j with
    | some d, some e => !Nat.beq d e
    | _, _ => true)) &&
  (qs.all fun i => !as.contains i && (dstB l i).isSome) &&
  chkP l qs as pi && chkA l qs as flo pi && chkL l [] pi

/-- A quiet operation: v, and of what is there nothing turns. -/
def Qt (c : Cx) (Ls : List Blk) (ρ : Env) (o : Oper) (v : Value) : Prop := ∀ w, Hs Ls w → Fr c.B c.M w → OpOut c ρ o w (fun v' w' => v' = v ∧ Fr w [] w')
def QG (c : Cx) (ops : Array Oper) (Ls : List Blk) (ρ : Env) (o : Oper) (v : Value) : Prop :=
  (∀ d, o.dst = some d → d < c.N) ∧ noDefer o.op = true ∧
  match o.guard with
  | none => Qt c Ls ρ o v
  | some (j, b) => ∃ t b', gdst ops j = some t ∧ ρ t = .bool b' ∧ if b' = b then Qt c Ls ρ o v else v = undef

def Alc (c : Cx) (o : Oper) (T : TypeId) (zl : List Value) : Prop :=
  o.op = .alloc T ∧ o.guard = none ∧ (∀ d, o.dst = some d → d < c.N) ∧ ∃ z, (∀ w, (zeroValue T).run c.P w = .ok z w) ∧ z.cells = List.toArray zl
theorem Alc.same {c : Cx} {o : Oper} {T T' : TypeId} {zl zl' : List Value} (h : Alc c o T zl) (h' : Alc c o T' zl') (w : World) : T = T' ∧ zl = zl' := by
  obtain ⟨h1, _, _, z, h3, h4⟩ := h
  obtain ⟨g1, _, _, z', g3, g4⟩ := h'
  rw [h1] at g1
  obtain rfl : T = T' := by simpa using g1
  have := (h3 w).symm.trans (g3 w)
  simp only [Result.ok.injEq, and_true] at this
  subst this
  rw [h4] at g4
  exact ⟨rfl, by simpa using g4⟩

/-- The proof along one order: quiet operations, allocations, and the rest. -/
def TR (c : Cx) (l : List Oper) (Ls : List Blk) (qs as flo : List Nat) (K : Env → List Blk → Prop) : List Nat → Env → List Blk → Prop
  | [], ρ, L => K ρ L
  | i :: pi, ρ, L => ∃ o, l[i]? = some o ∧
    if qs.contains i then ∃ v, QG c l.toArray (if flo.contains i then Ls else L) ρ o v ∧ TR c l Ls qs as flo K pi (putD ρ o.dst v) L
    else if as.contains i then ∃ T zl, Alc c o T zl ∧ ∀ r, c.B.heap.size ≤ r → TR c l Ls qs as flo K pi (putD ρ o.dst (.pointer (some ⟨r, 0, none⟩))) ((r, cel zl T) :: L)
    else Step c l.toArray ρ L o (fun v L' => (flo.contains i = true → ∀ w, Hs L' w → Hs L w) ∧ TR c l Ls qs as flo K pi (putD ρ o.dst v) L')

theorem evE_congr {ρ ρ' : Env} {x : Operand} (h : ∀ t, x = .tmp t → ρ t = ρ' t) : evE ρ x = evE ρ' x := by
  cases x with
  | tmp t => exact h t rfl
  | const v => rfl
  | global g => rfl
  | func f => rfl
theorem looks_op {ops : Array Oper} {o : Oper} {t : Nat} (h : Operand.tmp t ∈ o.op.operands) : t ∈ o.looksAt ops := by
  unfold Oper.looksAt
  exact List.mem_append_left _ (List.mem_filterMap.2 ⟨.tmp t, by simpa using h, rfl⟩)
theorem looks_guard {ops : Array Oper} {o : Oper} {j t : Nat} {b : Bool} (hg : o.guard = some (j, b)) (h : gdst ops j = some t) : t ∈ o.looksAt ops := by
  unfold Oper.looksAt
  refine List.mem_append_right _ ?_
  rw [hg]
  unfold gdst at h
  simp [h]
theorem execOp_same {ops : Array Oper} {o : Oper} {ρ ρ' : Env} (hs : isSelect o.op = false) (h : ∀ t ∈ o.looksAt ops, ρ t = ρ' t) : execOp (evE ρ) o = execOp (evE ρ') o := by
  refine execOp_congr o (fun cs b e => by rw [e] at hs; simp [isSelect] at hs) fun x hx => evE_congr fun t e => h t (looks_op (by rw [← e]; exact hx))
theorem OpOut.congr {c : Cx} {ops : Array Oper} {o : Oper} {ρ ρ' : Env} {w : World} {Φ : Value → World → Prop} (hs : isSelect o.op = false) (h : ∀ t ∈ o.looksAt ops, ρ t = ρ' t) (ho : OpOut c ρ o w Φ) : OpOut c ρ' o w Φ := by
  unfold OpOut at *
  rw [← execOp_same hs h]
  exact ho
theorem QG.congr {c : Cx} {ops : Array Oper} {Ls : List Blk} {o : Oper} {ρ ρ' : Env} {v : Value} (hs : isSelect o.op = false) (h : ∀ t ∈ o.looksAt ops, ρ t = ρ' t) (hq : QG c ops Ls ρ o v) : QG c ops Ls ρ' o v := by
  obtain ⟨h1, h2, h3⟩ := hq
  refine ⟨h1, h2, ?_⟩
  cases hg : o.guard with
  | none => rw [hg] at h3; exact fun w a b => (h3 w a b).congr hs h
  | some g =>
    obtain ⟨j, b⟩ := g
    rw [hg] at h3
    obtain ⟨t, b', e1, e2, e3⟩ := h3
    refine ⟨t, b', e1, by rw [← h t (looks_guard hg e1)]; exact e2, ?_⟩
    split at e3
    · rw [if_pos ‹_›]; exact fun w a b => (e3 w a b).congr hs h
    · rw [if_neg ‹_›]; exact e3

theorem QG.weaken {c : Cx} {ops : Array Oper} {L1 L2 : List Blk} {o : Oper} {ρ : Env} {v : Value} (hw : ∀ w, Hs L2 w → Hs L1 w) (hq : QG c ops L1 ρ o v) : QG c ops L2 ρ o v := by
  obtain ⟨h1, h2, h3⟩ := hq
  refine ⟨h1, h2, ?_⟩
  cases hg : o.guard with
  | none => rw [hg] at h3; exact fun w a b => h3 w (hw w a) b
  | some g =>
    obtain ⟨j, b⟩ := g
    rw [hg] at h3
    obtain ⟨t, b', e1, e2, e3⟩ := h3
    refine ⟨t, b', e1, e2, ?_⟩
    split at e3
    · rw [if_pos ‹_›]; exact fun w a b => e3 w (hw w a) b
    · rw [if_neg ‹_›]; exact e3

/-- Is it listed? -/
def Lst (X : Array Bool) (i : Nat) : Prop := X.getD i false = true
theorem Lst.set_self {X : Array Bool} {i : Nat} (h : i < X.size) : Lst (X.setIfInBounds i true) i := by simp [Lst, h]
theorem Lst.set {X : Array Bool} {i j : Nat} (h : Lst X j) : Lst (X.setIfInBounds i true) j := getD_set_true h
theorem Lst.of_set {X : Array Bool} {i j : Nat} (h : Lst (X.setIfInBounds i true) j) : j = i ∨ Lst X j := by
  by_cases e : j = i
  · exact .inl e
  · refine .inr ?_
    unfold Lst at *
    rwa [getD_set_ne false (Ne.symm e)] at h

structure RI (c : Cx) (l : List Oper) (Ls : List Blk) (qs as flo : List Nat) (K : Env → List Blk → Prop) (ρ0 : Env) (ds : List Deferred) (X : Array Bool) (a : Act) (w : World) (done todo : List Nat) (ρ g : Env) (L : List Blk) (rA : Nat → Nat) : Prop where
  ag : Ag c.N ds a g
  sz : X.size = l.length
  cov : ∀ i, i < l.length → i ∈ done ∨ i ∈ todo
  lt1 : ∀ i ∈ done, i < l.length
  lt2 : ∀ i ∈ todo, i < l.length
  cl : ∀ i, Lst X i → ∀ j, edgeB l i j = true → Lst X j
  chkl : chkL l done todo = true
  chkp : chkP l qs as todo = true
  looked : ∀ i ∈ done, lookOk l done i = true
  tr : TR c l Ls qs as flo K todo ρ L
  exe : ∀ i ∈ done, qs.contains i = false → Lst X i
  pend : ∀ i ∈ done, qs.contains i = true → ¬ Lst X i → ∃ o d, l[i]? = some o ∧ o.dst = some d ∧ QG c l.toArray (if flo.contains i then Ls else L) ρ o (ρ d)
  chka : chkA l qs as flo todo = true
  anch : ∀ i ∈ done, qs.contains i = true → flo.contains i = false → ∀ j ∈ todo, qs.contains j = false → as.contains j = false → flo.contains j = false → depB l l.length j i = true
  ahead : ∀ i ∈ todo, Lst X i → as.contains i = true
  env1 : ∀ i ∈ done, Lst X i → ∀ d, dstB l i = some d → g d = ρ d
  env2 : ∀ i ∈ todo, Lst X i → ∃ o T zl, l[i]? = some o ∧ Alc c o T zl ∧ w.heap[rA i]? = some (cel zl T) ∧ c.B.heap.size ≤ rA i ∧ (∀ x ∈ L, x.1 ≠ rA i) ∧ ∀ d, o.dst = some d → g d = .pointer (some ⟨rA i, 0, none⟩)
  env2' : ∀ i ∈ todo, Lst X i → ∀ j ∈ todo, Lst X j → i ≠ j → rA i ≠ rA j
  env3 : ∀ t, (∀ i, Lst X i → dstB l i ≠ some t) → g t = ρ0 t
  env4 : ∀ t, (∀ i ∈ done, dstB l i ≠ some t) → ρ t = ρ0 t
  hs : Hs L w
  fr : Fr c.B c.M w

section
variable {c : Cx} {l : List Oper} {Ls : List Blk} {qs as flo pi : List Nat} {K : Env → List Blk → Prop} {ρ0 : Env} {ds : List Deferred}

structure Stat (l : List Oper) (qs as : List Nat) : Prop where
  sel : ∀ o ∈ l, isSelect o.op = false
  back : ∀ i j, edgeB l i j = true → j < i
  dst : ∀ i j d, dstB l i = some d → dstB l j = some d → i = j
  quiet : ∀ i, qs.contains i = true → as.contains i = false ∧ ∃ d, dstB l i = some d

theorem dep_listed {X : Array Bool} (hcl : ∀ i, Lst X i → ∀ j, edgeB l i j = true → Lst X j) : ∀ (n i j : Nat), (∀ k, edgeB l i k = true → Lst X k) → depB l n i j = true → Lst X j := by
  intro n
  induction n with
  | zero => intro i j _ h; simp [depB] at h
  | succ n ih =>
    intro i j hi h
    simp only [depB, Bool.or_eq_true] at h
    rcases h with h | h
    · exact hi j h
    · cases ho : l[i]? with
      | none => simp [ho] at h
      | some o =>
        simp only [ho, List.any_eq_true, Bool.and_eq_true] at h
        obtain ⟨e, he, hb, hd⟩ := h
        have hl : Lst X e.on := hi e.on (by simp only [edgeB, ho, List.any_eq_true, Bool.and_eq_true]; exact ⟨e, he, hb, by simp⟩)
        exact ih e.on j (fun k hk => hcl _ hl k hk) hd

theorem lookOk_of {done : List Nat} {i j d : Nat} (h : lookOk l done i = true) (hd : dstB l j = some d) (hl : d ∈ looksB l i) : j ∈ done ∧ edgeB l i j = true := by
  have hj : j < l.length := by
    unfold dstB at hd
    cases ho : l[j]? with
    | none => simp [ho] at hd
    | some o => exact (List.getElem?_eq_some_iff.1 ho).1
  simp only [lookOk, List.all_eq_true, List.mem_range] at h
  have := h j hj
  rw [hd] at this
  simp only [Bool.or_eq_true, Bool.not_eq_true', Bool.and_eq_true, List.contains_eq_mem, decide_eq_true_eq, decide_eq_false_iff_not] at this
  rcases this with h | h
  · exact absurd hl h
  · exact h
theorem lookOk_mono {done done' : List Nat} {i : Nat} (h : lookOk l done i = true) (hs : ∀ x ∈ done, x ∈ done') : lookOk l done' i = true := by
  simp only [lookOk, List.all_eq_true, List.mem_range] at h ⊢
  intro j hj
  have := h j hj
  cases hd : dstB l j with
  | none => rfl
  | some d =>
    rw [hd] at this
    simp only [Bool.or_eq_true, Bool.not_eq_true', Bool.and_eq_true, List.contains_eq_mem, decide_eq_true_eq, decide_eq_false_iff_not] at this ⊢
    exact this.imp id fun h => ⟨hs _ h.1, h.2⟩

theorem chkL_disj : ∀ {todo done : List Nat}, chkL l done todo = true → (∀ i ∈ done, i ∉ todo) ∧ todo.Nodup
  | [], _, _ => ⟨by simp, List.nodup_nil⟩
  | i :: rest, done, h => by
    simp only [chkL, Bool.and_eq_true, Bool.not_eq_true'] at h
    obtain ⟨⟨⟨h1, h2⟩, _⟩, h4⟩ := h
    obtain ⟨g1, g2⟩ := chkL_disj h4
    have hnd : i ∉ done := by simpa using h1
    have hnr : i ∉ rest := by simpa using h2
    refine ⟨fun k hk hm => ?_, List.nodup_cons.2 ⟨hnr, g2⟩⟩
    rcases List.mem_cons.1 hm with rfl | hm
    · exact hnd hk
    · exact g1 k (.tail _ hk) hm

/-- On along the order, as far as nothing has to be done. -/
theorem RI.advance (st : Stat l qs as) {X : Array Bool} {a : Act} {w : World} : ∀ (todo done : List Nat) (ρ g : Env) (L : List Blk) (rA : Nat → Nat), RI c l Ls qs as flo K ρ0 ds X a w done todo ρ g L rA →
    ∃ done' todo' ρ' L', RI c l Ls qs as flo K ρ0 ds X a w done' todo' ρ' g L' rA ∧ ∀ h t, todo' = h :: t → qs.contains h = false ∧ ¬ Lst X h := by
  intro todo
  induction todo with
  | nil => intro done ρ g L rA h; exact ⟨done, [], ρ, L, h, by simp⟩
  | cons i rest ih =>
    intro done ρ g L rA h
    have hck := h.chkl
    simp only [chkL, Bool.and_eq_true, Bool.not_eq_true'] at hck
    obtain ⟨⟨⟨hc1, hc2⟩, hc3⟩, hc4⟩ := hck
    have hcp := h.chkp
    simp only [chkP, Bool.and_eq_true] at hcp
    have hnd : i ∉ done := by simpa using hc1
    have hnr : i ∉ rest := by simpa using hc2
    have hcov : ∀ k, k < l.length → k ∈ i :: done ∨ k ∈ rest := fun k hk => (h.cov k hk).elim (fun h => .inl (.tail _ h)) (fun h => by rcases List.mem_cons.1 h with rfl | h; exact .inl (.head _); exact .inr h)
    have hlt1 : ∀ k ∈ i :: done, k < l.length := fun k hk => by rcases List.mem_cons.1 hk with rfl | hk; exact h.lt2 _ (.head _); exact h.lt1 _ hk
    have hlooked : ∀ k ∈ i :: done, lookOk l (i :: done) k = true := fun k hk => by
      rcases List.mem_cons.1 hk with rfl | hk
      · exact lookOk_mono hc3 fun x hx => .tail _ hx
      · exact lookOk_mono (h.looked k hk) fun x hx => .tail _ hx
    have htr := h.tr
    obtain ⟨o, ho, htr⟩ := htr
    have hdo : dstB l i = o.dst := by simp [dstB, ho]
    -- what is looked at elsewhere is not this one's
    have apart : ∀ k ∈ done, ∀ ok, l[k]? = some ok → ∀ t ∈ ok.looksAt l.toArray, o.dst ≠ some t := fun k hk ok hok t ht e => by
      have := lookOk_of (h.looked k hk) (hdo.trans e) (by simpa [looksB, hok] using ht)
      exact hnd this.1
    have own : ∀ t ∈ o.looksAt l.toArray, o.dst ≠ some t := fun t ht e => by
      have := lookOk_of hc3 (hdo.trans e) (by simpa [looksB, ho] using ht)
      exact hnd this.1
    have putOther : ∀ (v : Value) t, o.dst ≠ some t → putD ρ o.dst v t = ρ t := fun v t e => by
      cases hd : o.dst with
      | none => rfl
      | some d => exact upd_ne _ _ (fun e' => e (by rw [hd, e']))
    have hpend : ∀ (v : Value) (L' : List Blk), (∀ w, Hs L' w → Hs L w) → ∀ k ∈ done, qs.contains k = true → ¬ Lst X k → ∃ o' d, l[k]? = some o' ∧ o'.dst = some d ∧ QG c l.toArray (if flo.contains k then Ls else L') (putD ρ o.dst v) o' (putD ρ o.dst v d) := fun v L' hL' k hk hq hn => by
      obtain ⟨ok, d, e1, e2, e3⟩ := h.pend k hk hq hn
      refine ⟨ok, d, e1, e2, ?_⟩
      have hne : o.dst ≠ some d := fun e => by
        have := st.dst i k d (hdo.trans e) (by simp [dstB, e1, e2])
        subst this; exact hnd hk
      rw [putOther v d hne]
      refine QG.weaken (fun w hw => ?_) (e3.congr (st.sel ok (List.mem_of_getElem? e1)) fun t ht => (putOther v t (apart k hk ok e1 t ht)).symm)
      split at hw
      · rw [if_pos ‹_›]; exact hw
      · rw [if_neg ‹_›]; exact hL' w hw
    have hchka := h.chka
    simp only [chkA, Bool.and_eq_true] at hchka
    have hanch : ∀ k ∈ i :: done, qs.contains k = true → flo.contains k = false → ∀ j ∈ rest, qs.contains j = false → as.contains j = false → flo.contains j = false → depB l l.length j k = true := fun k hk hq hfl j hj hjq hja hjf => by
      rcases List.mem_cons.1 hk with rfl | hk
      · have := hchka.1
        rw [hq, hfl] at this
        simp only [Bool.not_true, Bool.false_or, List.all_eq_true, Bool.or_eq_true] at this
        rcases this j hj with ((h1 | h1) | h1) | h1
        · rw [hjq] at h1; cases h1
        · rw [hja] at h1; cases h1
        · rw [hjf] at h1; cases h1
        · exact h1
      · exact h.anch k hk hq hfl j (.tail _ hj) hjq hja hjf
    have henv1 : ∀ (v : Value), ∀ k ∈ done, Lst X k → ∀ d, dstB l k = some d → g d = putD ρ o.dst v d := fun v k hk hl d hd => by
      rw [putOther v d (fun e => by have := st.dst i k d (hdo.trans e) hd; subst this; exact hnd hk)]
      exact h.env1 k hk hl d hd
    have henv4 : ∀ (v : Value) t, (∀ k ∈ i :: done, dstB l k ≠ some t) → putD ρ o.dst v t = ρ0 t := fun v t ht => by
      rw [putOther v t (fun e => ht i (.head _) (hdo.trans e))]
      exact h.env4 t fun k hk => ht k (.tail _ hk)
    by_cases hq : qs.contains i = true
    · rw [if_pos hq] at htr
      obtain ⟨v, hqg, htr⟩ := htr
      obtain ⟨hna, d, hd⟩ := st.quiet i hq
      have hnl : ¬ Lst X i := fun hl => by rw [h.ahead i (.head _) hl] at hna; cases hna
      refine ih (i :: done) (putD ρ o.dst v) g L rA ?_
      exact {
        ag := h.ag, sz := h.sz, cov := hcov, lt1 := hlt1, lt2 := fun k hk => h.lt2 k (.tail _ hk), cl := h.cl, chkl := hc4, chkp := hcp.2, looked := hlooked, tr := htr,
        exe := fun k hk hn => by
          rcases List.mem_cons.1 hk with rfl | hk
          · rw [hq] at hn; cases hn
          · exact h.exe k hk hn
        pend := fun k hk hqk hn => by
          rcases List.mem_cons.1 hk with rfl | hk
          · refine ⟨o, d, ho, by rw [← hdo]; exact hd, ?_⟩
            have e : putD ρ o.dst v d = v := by rw [← hdo, hd]; exact upd_same _ _ _
            rw [e]
            exact hqg.congr (st.sel o (List.mem_of_getElem? ho)) fun t ht => (putOther v t (own t ht)).symm
          · exact hpend v L (fun _ h => h) k hk hqk hn
        chka := hchka.2, anch := hanch
        ahead := fun k hk hl => h.ahead k (.tail _ hk) hl
        env1 := fun k hk hl d' hd' => by
          rcases List.mem_cons.1 hk with rfl | hk
          · exact absurd hl hnl
          · exact henv1 v k hk hl d' hd'
        env2 := fun k hk hl => h.env2 k (.tail _ hk) hl
        env2' := fun k hk hl j hj hlj => h.env2' k (.tail _ hk) hl j (.tail _ hj) hlj
        env3 := h.env3
        env4 := henv4 v
        hs := h.hs, fr := h.fr }
    · have hq' : qs.contains i = false := by simpa using hq
      rw [if_neg hq] at htr
      by_cases hl : Lst X i
      · have ha := h.ahead i (.head _) hl
        rw [if_pos ha] at htr
        obtain ⟨T, zl, halc, htr⟩ := htr
        obtain ⟨o', T', zl', ho', halc', hblk, hbig, hkey, hptr⟩ := h.env2 i (.head _) hl
        rw [ho] at ho'
        obtain rfl : o = o' := by simpa using ho'
        obtain ⟨rfl, rfl⟩ := halc.same halc' w
        refine ih (i :: done) (putD ρ o.dst (.pointer (some ⟨rA i, 0, none⟩))) g ((rA i, cel zl T) :: L) rA ?_
        exact {
          ag := h.ag, sz := h.sz, cov := hcov, lt1 := hlt1, lt2 := fun k hk => h.lt2 k (.tail _ hk), cl := h.cl, chkl := hc4, chkp := hcp.2, looked := hlooked, tr := htr (rA i) hbig,
          exe := fun k hk hn => by
            rcases List.mem_cons.1 hk with rfl | hk
            · exact hl
            · exact h.exe k hk hn
          pend := fun k hk hqk hn => by
            rcases List.mem_cons.1 hk with rfl | hk
            · exact absurd hl hn
            · exact hpend _ _ (fun w hw => hw.sub (List.sublist_cons_self _ _)) k hk hqk hn
          chka := hchka.2, anch := hanch
          ahead := fun k hk hl => h.ahead k (.tail _ hk) hl
          env1 := fun k hk hlk d' hd' => by
            rcases List.mem_cons.1 hk with rfl | hk
            · have hod : o.dst = some d' := by rw [← hdo]; exact hd'
              rw [hptr d' hod, hod]; exact (upd_same _ _ _).symm
            · exact henv1 _ k hk hlk d' hd'
          env2 := fun k hk hlk => by
            obtain ⟨o2, T2, zl2, e1, e2, e3, e4, e5, e6⟩ := h.env2 k (.tail _ hk) hlk
            refine ⟨o2, T2, zl2, e1, e2, e3, e4, fun x hx => ?_, e6⟩
            rcases List.mem_cons.1 hx with rfl | hx
            · exact h.env2' i (.head _) hl k (.tail _ hk) hlk (fun e => hnr (e ▸ hk))
            · exact e5 x hx
          env2' := fun k hk hlk j hj hlj => h.env2' k (.tail _ hk) hlk j (.tail _ hj) hlj
          env3 := h.env3
          env4 := henv4 _
          hs := ⟨List.pairwise_cons.2 ⟨fun x hx e => hkey x hx e.symm, h.hs.nodup⟩, fun x hx => by
            rcases List.mem_cons.1 hx with rfl | hx
            · exact hblk
            · exact h.hs.mem x hx⟩
          fr := h.fr }
      · exact ⟨done, i :: rest, ρ, L, h, fun h' t e => by cases e; exact ⟨hq', hl⟩⟩

theorem edge_of {i : Nat} {o : Oper} (ho : l[i]? = some o) {e : Edge} (he : e ∈ o.after) (hb : Region.binds .any e = true) : edgeB l i e.on = true := by
  simp only [edgeB, ho, List.any_eq_true, Bool.and_eq_true]
  exact ⟨e, by simpa using he, hb, by simp⟩
theorem edge_inv {i j : Nat} (h : edgeB l i j = true) : ∃ o e, l[i]? = some o ∧ e ∈ o.after ∧ Region.binds .any e = true ∧ e.on = j := by
  unfold edgeB at h
  cases ho : l[i]? with
  | none => simp [ho] at h
  | some o =>
    simp only [ho, List.any_eq_true, Bool.and_eq_true] at h
    obtain ⟨e, he, hb, hj⟩ := h
    exact ⟨o, e, rfl, by simpa using he, hb, Nat.eq_of_beq_eq_true hj⟩

/-- The environment as it is, at what an operation looks at whose edges are listed. -/
theorem RI.sees (_st : Stat l qs as) {X : Array Bool} {a : Act} {w : World} {todo done : List Nat} {ρ g : Env} {L : List Blk} {rA : Nat → Nat} (h : RI c l Ls qs as flo K ρ0 ds X a w done todo ρ g L rA)
    {i : Nat} {o : Oper} (ho : l[i]? = some o) (hlk : lookOk l done i = true) (he : ∀ j, edgeB l i j = true → Lst X j) : ∀ t ∈ o.looksAt l.toArray, ρ t = g t := by
  intro t ht
  have hin : t ∈ looksB l i := by simpa [looksB, ho] using ht
  by_cases hex : ∃ j, dstB l j = some t
  · obtain ⟨j, hj⟩ := hex
    obtain ⟨h1, h2⟩ := lookOk_of hlk hj hin
    exact (h.env1 j h1 (he j h2) t hj).symm
  · rw [h.env3 t (fun j _ e => hex ⟨j, e⟩), h.env4 t (fun j _ e => hex ⟨j, e⟩)]

theorem wanted_of {N : Nat} {ops : Array Oper} {g : Env} {a : Act} (ha : Ag N ds a g) {o : Oper} {j t : Nat} {b b' : Bool} (hg : o.guard = some (j, b)) (h1 : gdst ops j = some t) (h2 : g t = .bool b') : Region.wanted o (yielded ops a.tmps) = (b' == b) := by
  simp [Region.wanted, hg, yielded_of ha h1 h2]

/-- One operation that the machine picks. -/
theorem RI.exec (st : Stat l qs as) (hLs : ∀ w, Fr c.B c.M w → Hs Ls w) (hall : ∀ i, as.contains i = true → ∀ o, l[i]? = some o → ∃ T zl, Alc c o T zl) {X : Array Bool} {a : Act} {w : World} {todo done : List Nat} {ρ g : Env} {L : List Blk} {rA : Nat → Nat}
    (h : RI c l Ls qs as flo K ρ0 ds X a w done todo ρ g L rA) (hhead : ∀ k t, todo = k :: t → qs.contains k = false ∧ ¬ Lst X k)
    {i : Nat} (hi : i < l.length) (hn : ¬ Lst X i) (he : ∀ j, edgeB l i j = true → Lst X j) {o : Oper} (ho : l[i]? = some o) {Nx : Act → World → Prop} {Q : Exit → Act → World → Prop}
    (hNx : ∀ a' w' done' todo' ρ' g' L' rA', RI c l Ls qs as flo K ρ0 ds (X.setIfInBounds i true) a' w' done' todo' ρ' g' L' rA' → (∀ k t, todo' = k :: t → qs.contains k = false ∧ ¬ Lst (X.setIfInBounds i true) k) → Nx a' w') :
    if Region.wanted o (yielded l.toArray a.tmps) then o.wpIn c.F 0 c.P a w Nx Q else (∀ f, o.about c.P w a.eval = some f → c.F.fn f) ∧ Nx (a.put o.dst undef) w := by
  have hsz : i < X.size := by rw [h.sz]; exact hi
  have hdo : dstB l i = o.dst := by simp [dstB, ho]
  have hset : ∀ k, k ≠ i → (Lst (X.setIfInBounds i true) k ↔ Lst X k) := fun k hk => ⟨fun hl => (Lst.of_set hl).resolve_left hk, Lst.set⟩
  have hcl' : ∀ k, Lst (X.setIfInBounds i true) k → ∀ j, edgeB l k j = true → Lst (X.setIfInBounds i true) j := fun k hk j hj => by
    rcases Lst.of_set hk with rfl | hk
    · exact (he j hj).set
    · exact (h.cl k hk j hj).set
  have hsel := st.sel o (List.mem_of_getElem? ho)
  have henv3 : ∀ (v : Value), (∀ t, (∀ k, Lst (X.setIfInBounds i true) k → dstB l k ≠ some t) → putD g o.dst v t = ρ0 t) := fun v t ht => by
    have h1 : o.dst ≠ some t := fun e => ht i (Lst.set_self hsz) (hdo.trans e)
    have e : putD g o.dst v t = g t := by
      cases hd : o.dst with
      | none => rfl
      | some d => exact upd_ne _ _ (fun e' => h1 (by rw [hd, e']))
    rw [e]
    exact h.env3 t fun k hk => ht k hk.set
  have gOther : ∀ (v : Value) (k d : Nat), k ≠ i → dstB l k = some d → putD g o.dst v d = g d := fun v k d hk hd => by
    cases hod : o.dst with
    | none => rfl
    | some e => exact upd_ne _ _ (fun e' => hk (st.dst k i d hd (by rw [hdo, hod, e'])))
  rcases h.cov i hi with hdone | htodo
  · -- a quiet one whose value is known
    have hq : qs.contains i = true := by
      by_cases hq : qs.contains i = true
      · exact hq
      · exact absurd (h.exe i hdone (by simpa using hq)) hn
    obtain ⟨o', d, ho', hd, hqg⟩ := h.pend i hdone hq hn
    rw [ho] at ho'
    obtain rfl : o = o' := by simpa using ho'
    have hsee := h.sees st ho (h.looked i hdone) he
    have hg := hqg.congr hsel hsee
    obtain ⟨hN, hdf, hG⟩ := hg
    have keep : ∀ w', Fr w [] w' → Nx (a.put o.dst (ρ d)) w' := fun w' hw => by
      refine hNx _ _ done todo ρ (putD g o.dst (ρ d)) L rA ?_ fun k t e => by
        obtain ⟨h1, h2⟩ := hhead k t e
        refine ⟨h1, fun hl => ?_⟩
        rcases Lst.of_set hl with rfl | hl
        · rw [hq] at h1; cases h1
        · exact h2 hl
      have hne : ∀ k ∈ todo, Lst (X.setIfInBounds i true) k → k ≠ i ∧ Lst X k := fun k hk hl => by
        rcases Lst.of_set hl with rfl | hl
        · exact absurd hk (by
            intro hk
            have := h.chkl
            exact (chkL_disj this).1 _ hdone hk)
        · exact ⟨fun e => hn (e ▸ hl), hl⟩
      exact {
        ag := h.ag.putD hN _, sz := by simpa using h.sz, cov := h.cov, lt1 := h.lt1, lt2 := h.lt2, cl := hcl', chkl := h.chkl, chkp := h.chkp, looked := h.looked, tr := h.tr,
        exe := fun k hk hn => (h.exe k hk hn).set
        pend := fun k hk hqk hnk => h.pend k hk hqk fun hl => hnk hl.set
        chka := h.chka, anch := h.anch
        ahead := fun k hk hl => h.ahead k hk (hne k hk hl).2
        env1 := fun k hk hl d' hd' => by
          by_cases e : k = i
          · subst e
            have : d' = d := by rw [hdo, hd] at hd'; exact (Option.some.inj hd').symm
            subst this
            rw [hd]; exact upd_same _ _ _
          · rw [gOther _ k d' e hd']; exact h.env1 k hk ((hset k e).1 hl) d' hd'
        env2 := fun k hk hl => by
          obtain ⟨hki, hlk⟩ := hne k hk hl
          obtain ⟨o2, T2, zl2, e1, e2, e3, e4, e5, e6⟩ := h.env2 k hk hlk
          exact ⟨o2, T2, zl2, e1, e2, (hw.old _ (lt_of_some e3) (by simp)).trans e3, e4, e5, fun d' hd' => by rw [gOther _ k d' hki (by simp [dstB, e1, hd'])]; exact e6 d' hd'⟩
        env2' := fun k hk hl j hj hlj => h.env2' k hk (hne k hk hl).2 j hj (hne j hj hlj).2
        env3 := henv3 _
        env4 := h.env4
        hs := h.hs.later hw (fun _ _ => by simp)
        fr := h.fr.trans hw (by simp) }
    have runs : Qt c (if flo.contains i then Ls else L) g o (ρ d) → o.wpIn c.F 0 c.P a w Nx Q := fun hQ =>
      (hQ w (by split; exact hLs w h.fr; exact h.hs) h.fr).wp hdf (by rw [h.ag.eval]) fun v w' ⟨e1, e2⟩ => by subst e1; exact keep w' e2
    cases hgd : o.guard with
    | none =>
      rw [hgd] at hG
      rw [if_pos (by simp [Region.wanted, hgd])]
      exact runs hG
    | some gd =>
      obtain ⟨j, b⟩ := gd
      rw [hgd] at hG
      obtain ⟨t, b', e1, e2, e3⟩ := hG
      rw [wanted_of h.ag hgd e1 e2]
      by_cases e : b' = b
      · rw [if_pos e] at e3
        rw [if_pos (by simpa using e)]
        exact runs e3
      · rw [if_neg e] at e3
        rw [if_neg (by simpa using e)]
        refine ⟨fun _ _ => trivial, ?_⟩
        rw [← e3]
        exact keep w (Fr.refl w [])
  · cases hT : todo with
    | nil => rw [hT] at htodo; cases htodo
    | cons k rest =>
      subst hT
      obtain ⟨hkq, hkl⟩ := hhead k rest rfl
      have hckp := h.chkp
      simp only [chkP, Bool.and_eq_true, hkq, Bool.false_or, List.all_eq_true, Bool.or_eq_true] at hckp
      have hckl := h.chkl
      simp only [chkL, Bool.and_eq_true, Bool.not_eq_true'] at hckl
      obtain ⟨⟨⟨hc1, hc2⟩, hc3⟩, hc4⟩ := hckl
      -- an allocation, now or ahead of its turn
      have alloc : as.contains i = true → if Region.wanted o (yielded l.toArray a.tmps) then o.wpIn c.F 0 c.P a w Nx Q else (∀ f, o.about c.P w a.eval = some f → c.F.fn f) ∧ Nx (a.put o.dst undef) w := fun hia => by
        obtain ⟨T, zl, halc⟩ := hall i hia o ho
        have halc0 := halc
        obtain ⟨hop, hgd, hN, z, hz, hzc⟩ := halc
        rw [if_pos (by simp [Region.wanted, hgd])]
        have hout : OpOut c g o w (fun v w' => v = .pointer (some ⟨w.heap.size, 0, none⟩) ∧ w' = newBlk w (cel zl T)) := by
          unfold OpOut
          have : (execOp (evE g) o).run c.P w = .ok (.value (.pointer (some ⟨w.heap.size, 0, none⟩))) (newBlk w (cel zl T)) := by
            simp only [execOp, hop, Instr.alloc, Sem.run_bind, hz, Result.andThen_ok, newVar, newRow, hzc, Sem.run_pure, run_newObj, newBlk, cel]
          rw [this]
          exact ⟨rfl, rfl⟩
        refine hout.wp (by rw [hop]; rfl) (by rw [h.ag.eval]) ?_
        rintro v w' ⟨rfl, rfl⟩
        have hkeys : ∀ x ∈ L, x.1 ≠ w.heap.size := fun x hx => by have := lt_of_some (h.hs.mem x hx); omega
        have hri : RI c l Ls qs as flo K ρ0 ds (X.setIfInBounds i true) (a.put o.dst (.pointer (some ⟨w.heap.size, 0, none⟩))) (newBlk w (cel zl T)) done (k :: rest) ρ (putD g o.dst (.pointer (some ⟨w.heap.size, 0, none⟩))) L (fun j => if j = i then w.heap.size else rA j) := {
          ag := h.ag.putD hN _, sz := by simpa using h.sz, cov := h.cov, lt1 := h.lt1, lt2 := h.lt2, cl := hcl', chkl := h.chkl, chkp := h.chkp, looked := h.looked, tr := h.tr,
          exe := fun j hj hn => (h.exe j hj hn).set
          pend := fun j hj hqj hnj => h.pend j hj hqj fun hl => hnj hl.set
          chka := h.chka, anch := h.anch
          ahead := fun j hj hl => by
            rcases Lst.of_set hl with rfl | hl
            · exact hia
            · exact h.ahead j hj hl
          env1 := fun j hj hl d' hd' => by
            have hji : j ≠ i := fun e => (chkL_disj h.chkl).1 _ (e ▸ hj) htodo
            rw [gOther _ j d' hji hd']
            exact h.env1 j hj ((hset j hji).1 hl) d' hd'
          env2 := fun j hj hl => by
            by_cases e : j = i
            · subst e
              refine ⟨o, T, zl, ho, halc0, ?_, ?_, ?_, ?_⟩
              · simp only [if_true]; rw [newBlk_get]; simp
              · simp only [if_true]; exact h.fr.size
              · simp only [if_true]; exact hkeys
              · intro d hd; simp only [if_true]; rw [hd]; exact upd_same _ _ _
            · obtain ⟨o2, T2, zl2, e1, e2, e3, e4, e5, e6⟩ := h.env2 j hj ((hset j e).1 hl)
              refine ⟨o2, T2, zl2, e1, e2, ?_, ?_, ?_, ?_⟩
              · simp only [if_neg e]; rw [newBlk_get, if_neg (by have := lt_of_some e3; omega)]; exact e3
              · simp only [if_neg e]; exact e4
              · simp only [if_neg e]; exact e5
              · intro d hd; simp only [if_neg e]; rw [gOther _ j d e (by simp [dstB, e1, hd])]; exact e6 d hd
          env2' := fun j hj hl j' hj' hl' hne => by
            by_cases e : j = i
            · subst e
              have e' : j' ≠ j := Ne.symm hne
              obtain ⟨_, _, _, _, _, e3, _⟩ := h.env2 j' hj' ((hset j' e').1 hl')
              simp only [if_true, if_neg e']
              have := lt_of_some e3; omega
            · by_cases e' : j' = i
              · subst e'
                obtain ⟨_, _, _, _, _, e3, _⟩ := h.env2 j hj ((hset j e).1 hl)
                simp only [if_true, if_neg e]
                have := lt_of_some e3; omega
              · simp only [if_neg e, if_neg e']
                exact h.env2' j hj ((hset j e).1 hl) j' hj' ((hset j' e').1 hl') hne
          env3 := henv3 _
          env4 := h.env4
          hs := (h.hs.alloc (cel zl T)).sub (List.sublist_cons_self _ _)
          fr := h.fr.alloc _ }
        obtain ⟨d1, t1, ρ1, L1, hri', hh'⟩ := hri.advance st
        exact hNx _ _ _ _ _ _ _ _ hri' hh'
      by_cases hik : i = k
      · subst hik
        by_cases hia : as.contains i = true
        · exact alloc hia
        · -- the head, which turns things
          have htr := h.tr
          obtain ⟨o', ho', htr⟩ := htr
          rw [ho] at ho'
          obtain rfl : o = o' := by simpa using ho'
          rw [if_neg (by rw [hkq]; simp), if_neg hia] at htr
          obtain ⟨hN, hdf, hS⟩ := htr
          have hnd : i ∉ done := by simpa using hc1
          have hnr : i ∉ rest := by simpa using hc2
          have hsee := h.sees st ho hc3 he
          have putOther : ∀ (v : Value) t, o.dst ≠ some t → putD ρ o.dst v t = ρ t := fun v t e => by
            cases hd : o.dst with
            | none => rfl
            | some d => exact upd_ne _ _ (fun e' => e (by rw [hd, e']))
          have next : ∀ (v : Value) w' L', Hs L' w' → Fr c.B c.M w' → Kp L w L' w' → (flo.contains i = true → ∀ w, Hs L' w → Hs L w) ∧ TR c l Ls qs as flo K rest (putD ρ o.dst v) L' → Nx (a.put o.dst v) w' := fun v w' L' h1 h2 hkp ⟨hkeep, h3⟩ => by
            have hri : RI c l Ls qs as flo K ρ0 ds (X.setIfInBounds i true) (a.put o.dst v) w' (i :: done) rest (putD ρ o.dst v) (putD g o.dst v) L' rA := {
              ag := h.ag.putD hN _, sz := by simpa using h.sz,
              cov := fun j hj => (h.cov j hj).elim (fun h => .inl (.tail _ h)) (fun h => by rcases List.mem_cons.1 h with rfl | h; exact .inl (.head _); exact .inr h)
              lt1 := fun j hj => by rcases List.mem_cons.1 hj with rfl | hj; exact hi; exact h.lt1 _ hj
              lt2 := fun j hj => h.lt2 j (.tail _ hj), cl := hcl', chkl := hc4, chkp := hckp.2,
              looked := fun j hj => by
                rcases List.mem_cons.1 hj with rfl | hj
                · exact lookOk_mono hc3 fun x hx => .tail _ hx
                · exact lookOk_mono (h.looked j hj) fun x hx => .tail _ hx
              tr := h3
              exe := fun j hj hn => by
                rcases List.mem_cons.1 hj with rfl | hj
                · exact Lst.set_self hsz
                · exact (h.exe j hj hn).set
              pend := fun j hj hqj hnj => by
                rcases List.mem_cons.1 hj with rfl | hj
                · exact absurd (Lst.set_self hsz) hnj
                · obtain ⟨oj, d, e1, e2, e3⟩ := h.pend j hj hqj fun hl => hnj hl.set
                  refine ⟨oj, d, e1, e2, ?_⟩
                  have hfl : flo.contains j = true ∨ flo.contains i = true := by
                    cases hfl : flo.contains j with
                    | true => exact .inl rfl
                    | false =>
                      cases hfi : flo.contains i with
                      | true => exact .inr rfl
                      | false => exact absurd (dep_listed h.cl l.length i j he (h.anch j hj hqj hfl i (.head _) hkq (by simpa using hia) hfi)).set hnj
                  have e3 : QG c l.toArray (if flo.contains j then Ls else L') ρ oj (ρ d) := by
                    refine QG.weaken (fun w hw => ?_) e3
                    split at hw
                    · rw [if_pos ‹_›]; exact hw
                    · rename_i hnf
                      rw [if_neg hnf]
                      exact hkeep (hfl.resolve_left hnf) w hw
                  have hne : o.dst ≠ some d := fun e => by
                    have := st.dst i j d (hdo.trans e) (by simp [dstB, e1, e2])
                    subst this; exact hnd hj
                  rw [putOther v d hne]
                  refine e3.congr (st.sel oj (List.mem_of_getElem? e1)) fun t ht => (putOther v t fun e => ?_).symm
                  exact hnd (lookOk_of (h.looked j hj) (hdo.trans e) (by simpa [looksB, e1] using ht)).1
              chka := by
                have := h.chka
                simp only [chkA, Bool.and_eq_true] at this
                exact this.2
              anch := fun k hk hqk hfl j hj hjq hja hjf => by
                rcases List.mem_cons.1 hk with rfl | hk
                · rw [hkq] at hqk; cases hqk
                · exact h.anch k hk hqk hfl j (.tail _ hj) hjq hja hjf
              ahead := fun j hj hl => by
                rcases Lst.of_set hl with rfl | hl
                · exact absurd hj hnr
                · exact h.ahead j (.tail _ hj) hl
              env1 := fun j hj hl d' hd' => by
                rcases List.mem_cons.1 hj with rfl | hj
                · have hod : o.dst = some d' := by rw [← hdo]; exact hd'
                  rw [hod]; simp only [putD, upd_same]
                · have hji : j ≠ i := fun e => hnd (e ▸ hj)
                  rw [gOther _ j d' hji hd', putOther v d' (fun e => hji (st.dst j i d' hd' (hdo.trans e)))]
                  exact h.env1 j hj ((hset j hji).1 hl) d' hd'
              env2 := fun j hj hl => by
                have hji : j ≠ i := fun e => hnr (e ▸ hj)
                obtain ⟨o2, T2, zl2, e1, e2, e3, e4, e5, e6⟩ := h.env2 j (.tail _ hj) ((hset j hji).1 hl)
                refine ⟨o2, T2, zl2, e1, e2, (hkp.1 _ (lt_of_some e3) e5).trans e3, e4, fun x hx e => ?_, fun d' hd' => by rw [gOther _ j d' hji (by simp [dstB, e1, hd'])]; exact e6 d' hd'⟩
                rcases hkp.2 x hx with ⟨y, hy, e'⟩ | h'
                · exact e5 y hy (e'.trans e)
                · have := lt_of_some e3; omega
              env2' := fun j hj hl j' hj' hl' hne => by
                have hji : j ≠ i := fun e => hnr (e ▸ hj)
                have hji' : j' ≠ i := fun e => hnr (e ▸ hj')
                exact h.env2' j (.tail _ hj) ((hset j hji).1 hl) j' (.tail _ hj') ((hset j' hji').1 hl') hne
              env3 := henv3 _
              env4 := fun t ht => by
                rw [putOther v t (fun e => ht i (.head _) (hdo.trans e))]
                exact h.env4 t fun j hj => ht j (.tail _ hj)
              hs := h1, fr := h2 }
            obtain ⟨d1, t1, ρ1, L1, hri', hh'⟩ := hri.advance st
            exact hNx _ _ _ _ _ _ _ _ hri' hh'
          have runs : (∀ w, Hs L w → Fr c.B c.M w → OpOut c ρ o w (fun v w' => ∃ L', Hs L' w' ∧ Fr c.B c.M w' ∧ Kp L w L' w' ∧ (flo.contains i = true → ∀ w, Hs L' w → Hs L w) ∧ TR c l Ls qs as flo K rest (putD ρ o.dst v) L')) → o.wpIn c.F 0 c.P a w Nx Q := fun hS =>
            ((hS w h.hs h.fr).congr hsel hsee).wp hdf (by rw [h.ag.eval]) fun v w' ⟨L', h1, h2, hk, h3⟩ => next v w' L' h1 h2 hk h3
          cases hgd : o.guard with
          | none =>
            rw [hgd] at hS
            rw [if_pos (by simp [Region.wanted, hgd])]
            exact runs hS
          | some gd =>
            obtain ⟨j, b⟩ := gd
            rw [hgd] at hS
            obtain ⟨t, b', e1, e2, e3⟩ := hS
            rw [hsee t (looks_guard hgd e1)] at e2
            rw [wanted_of h.ag hgd e1 e2]
            by_cases e : b' = b
            · rw [if_pos e] at e3
              rw [if_pos (by simpa using e)]
              exact runs e3
            · rw [if_neg e] at e3
              rw [if_neg (by simpa using e)]
              exact ⟨fun _ _ => trivial, next undef w L h.hs h.fr (Kp.refl _ _) e3⟩
      · have hir : i ∈ rest := (List.mem_cons.1 htodo).resolve_left hik
        rcases hckp.1 i hir with hp | hp
        · exact alloc hp
        · exact absurd (dep_listed h.cl l.length i k he hp) hkl

/-- All is listed: the proof's end holds. -/
theorem RI.done (_st : Stat l qs as) {X : Array Bool} {a : Act} {w : World} {todo done : List Nat} {ρ g : Env} {L : List Blk} {rA : Nat → Nat}
    (h : RI c l Ls qs as flo K ρ0 ds X a w done todo ρ g L rA) (hhead : ∀ k t, todo = k :: t → qs.contains k = false ∧ ¬ Lst X k) (hall : ∀ i, i < l.length → Lst X i) :
    K ρ L ∧ Ag c.N ds a ρ := by
  cases todo with
  | cons k t => exact absurd (hall k (h.lt2 k (.head _))) (hhead k t rfl).2
  | nil =>
    refine ⟨h.tr, ?_⟩
    have e : g = ρ := by
      funext t
      by_cases hex : ∃ j, dstB l j = some t
      · obtain ⟨j, hj⟩ := hex
        have hlt : j < l.length := by
          unfold dstB at hj
          cases ho : l[j]? with
          | none => simp [ho] at hj
          | some o => exact (List.getElem?_eq_some_iff.1 ho).1
        have hd : j ∈ done := (h.cov j hlt).resolve_right (by simp)
        exact h.env1 j hd (hall j hlt) t hj
      · rw [h.env3 t (fun j _ e => hex ⟨j, e⟩), h.env4 t (fun j _ e => hex ⟨j, e⟩)]
    exact e ▸ h.ag

def unl (n : Nat) (X : Array Bool) : List Nat := (List.range n).filter fun i => !X.getD i false
theorem unl_set {n i : Nat} {X : Array Bool} (hi : i < n) (hn : ¬ Lst X i) (hsz : i < X.size) : (unl n (X.setIfInBounds i true)).length < (unl n X).length := by
  have hsub : unl n (X.setIfInBounds i true) = (unl n X).filter (fun j => j != i) := by
    unfold unl
    rw [List.filter_filter]
    refine List.filter_congr fun j _ => ?_
    by_cases e : j = i
    · subst e
      have := Lst.set_self (X := X) hsz
      unfold Lst at this
      simp only [this]
      simp
    · simp only [getD_set_ne false (Ne.symm e)]
      have : (j != i) = true := by simpa using e
      rw [this]; simp
  have hmem : i ∈ unl n X := by
    unfold unl
    rw [List.mem_filter]
    refine ⟨List.mem_range.2 hi, ?_⟩
    cases hx : X.getD i false with
    | false => rfl
    | true => exact absurd hx hn
  rw [hsub]
  have h2 : ((unl n X).filter (fun j => j != i)).length < (unl n X).length := by
    rcases Nat.lt_or_ge ((unl n X).filter (fun j => j != i)).length (unl n X).length with h | h
    · exact h
    · have := (List.filter_sublist (p := fun j => j != i) (l := unl n X)).eq_of_length_le h
      rw [← this] at hmem
      rw [List.mem_filter] at hmem
      simp at hmem
  exact h2

theorem run_draw (st : Stat l qs as) (hLs : ∀ w, Fr c.B c.M w → Hs Ls w) (hall : ∀ i, as.contains i = true → ∀ o, l[i]? = some o → ∃ T zl, Alc c o T zl) {Q : Exit → Act → World → Prop}
    (hK : ∀ ρ L a w, K ρ L → Ag c.N ds a ρ → Hs L w → Fr c.B c.M w → Q .normal a w) :
    ∀ (fuel t : Nat) (X : Array Bool) (a : Act) (w : World) (done todo : List Nat) (ρ g : Env) (L : List Blk) (rA : Nat → Nat), RI c l Ls qs as flo K ρ0 ds X a w done todo ρ g L rA → (∀ k t, todo = k :: t → qs.contains k = false ∧ ¬ Lst X k) →
      (unl l.length X).length ≤ fuel → wpOpsIn c.F 0 c.P l.toArray Q (Region.linearise.go .any l.toArray fuel t X []) a w := by
  have fin : ∀ {X : Array Bool} {a : Act} {w : World} {done todo : List Nat} {ρ g : Env} {L : List Blk} {rA : Nat → Nat}, RI c l Ls qs as flo K ρ0 ds X a w done todo ρ g L rA → (∀ k t, todo = k :: t → qs.contains k = false ∧ ¬ Lst X k) →
      (∀ i, i < l.length → Lst X i) → Q .normal a w := fun h hh ha => by
    obtain ⟨h1, h2⟩ := h.done st hh ha
    exact hK _ _ _ _ h1 h2 h.hs h.fr
  intro fuel
  induction fuel with
  | zero =>
    intro t X a w done todo ρ g L rA h hh hf
    have hu : unl l.length X = [] := List.eq_nil_of_length_eq_zero (by omega)
    refine fin h hh fun i hi => ?_
    by_cases hl : Lst X i
    · exact hl
    · have : i ∈ unl l.length X := by
        unfold unl
        rw [List.mem_filter]
        refine ⟨List.mem_range.2 hi, ?_⟩
        cases hx : X.getD i false with
        | false => rfl
        | true => exact absurd hx hl
      rw [hu] at this; cases this
  | succ fuel ih =>
    intro t X a w done todo ρ g L rA h hh hf
    simp only [Region.linearise.go]
    change wpOpsIn c.F 0 c.P l.toArray Q (match (Region.ready .any l.toArray X)[t % (Region.ready .any l.toArray X).length]? with
      | some i => Region.linearise.go .any l.toArray fuel (t / (Region.ready .any l.toArray X).length) (X.setIfInBounds i true) [i]
      | none => [].reverse) a w
    cases hr : (Region.ready .any l.toArray X)[t % (Region.ready .any l.toArray X).length]? with
    | none =>
      have hnil : Region.ready .any l.toArray X = [] := by
        cases hrr : Region.ready .any l.toArray X with
        | nil => rfl
        | cons x xs =>
          rw [hrr] at hr
          have hlt : t % (x :: xs).length < (x :: xs).length := Nat.mod_lt _ (by simp)
          rw [List.getElem?_eq_getElem hlt] at hr
          cases hr
      have hallX : ∀ n i, i < n → i < l.length → Lst X i := by
        intro n
        induction n with
        | zero => intro i hi; omega
        | succ n ihn =>
          intro i hi hil
          by_cases hl : Lst X i
          · exact hl
          · exfalso
            obtain ⟨o, ho⟩ : ∃ o, l[i]? = some o := ⟨l[i], List.getElem?_eq_getElem hil⟩
            have hmem : i ∈ Region.ready .any l.toArray X := by
              rw [mem_ready]
              refine ⟨?_, o, by simpa using ho, fun e he hb => ?_⟩
              · have hsz : i < X.size := by rw [h.sz]; exact hil
                have : X.getD i false = false := by cases hx : X.getD i false with
                  | false => rfl
                  | true => exact absurd hx hl
                simpa [Array.getD, hsz] using this
              · have hb' := st.back i e.on (edge_of ho he hb)
                exact ihn e.on (by omega) (by omega)
            rw [hnil] at hmem; cases hmem
      simp only [List.reverse_nil, wpOpsIn]
      exact fin h hh fun i hi => hallX l.length i hi hi
    | some i =>
      have hmem := List.mem_of_getElem? hr
      rw [mem_ready] at hmem
      obtain ⟨h0, o, ho, hedge⟩ := hmem
      have ho' : l[i]? = some o := by simpa using ho
      have hi : i < l.length := (List.getElem?_eq_some_iff.1 ho').1
      have hsz : i < X.size := by rw [h.sz]; exact hi
      have hn : ¬ Lst X i := by
        unfold Lst
        have h0' : X[i] = false := by simpa [Array.getD, hsz] using h0
        simp [Array.getD, hsz, h0']
      have he : ∀ j, edgeB l i j = true → Lst X j := fun j hj => by
        obtain ⟨o2, e, e1, e2, e3, e4⟩ := edge_inv hj
        rw [ho'] at e1
        obtain rfl : o = o2 := by simpa using e1
        rw [← e4]
        exact hedge e e2 e3
      simp only []
      rw [linearise_go_acc, List.reverse_singleton, List.singleton_append]
      simp only [wpOpsIn, ho]
      refine h.exec st hLs hall hh hi hn he ho' ?_
      intro a' w' done' todo' ρ' g' L' rA' h' hh'
      exact ih _ _ _ _ _ _ _ _ _ _ h' hh' (by have := unl_set hi hn hsz; omega)

theorem stat_of {pi : List Nat} (h : drawOk l qs as flo pi = true) : Stat l qs as := by
  simp only [drawOk, Bool.and_eq_true, List.all_eq_true, List.mem_range] at h
  obtain ⟨⟨⟨⟨⟨⟨⟨⟨_, _⟩, hs⟩, hb⟩, hd⟩, hq⟩, _⟩, _⟩, _⟩ := h
  refine ⟨fun o ho => by simpa using hs o ho, fun i j hij => ?_, fun i j d hi hj => ?_, fun i hi => ?_⟩
  · obtain ⟨o, e, e1, e2, e3, e4⟩ := edge_inv hij
    have hil : i < l.length := (List.getElem?_eq_some_iff.1 e1).1
    have := hb i hil
    rw [e1] at this
    simp only [List.all_eq_true, Bool.or_eq_true, Bool.not_eq_true'] at this
    rcases this e (by simpa using e2) with h | h
    · rw [e3] at h; cases h
    · rw [← e4]; simpa [Nat.blt_eq] using h
  · have lt : ∀ {k : Nat} {d : Nat}, dstB l k = some d → k < l.length := fun {k d} hk => by
      unfold dstB at hk
      cases ho : l[k]? with
      | none => simp [ho] at hk
      | some o => exact (List.getElem?_eq_some_iff.1 ho).1
    have := hd i (lt hi) j (lt hj)
    rw [hi, hj] at this
    simp only [Bool.or_eq_true, Bool.not_eq_true'] at this
    rcases this with h | h
    · exact Nat.eq_of_beq_eq_true h
    · simp at h
  · have := hq i (by simpa using hi)
    simp only [Bool.not_eq_true'] at this
    exact ⟨this.1, Option.isSome_iff_exists.1 this.2⟩

def Cx.re (c : Cx) (w0 : World) (M' : List Nat) : Cx := { c with B := w0, M := M' }

theorem draw_run {c c' : Cx} {R : Post} {ks : List Kt} {ρ : Env} {ds : List Deferred} {L Ls : List Blk} {l : List Oper} {qs as flo pi : List Nat} (hok : drawOk l qs as flo pi = true) (hP : c'.P = c.P) (hN : c'.N = c.N) (hr : c'.rnd = c.rnd)
    {w0 : World} (hs0 : Hs L w0) (hfr0 : Fr c'.B c'.M w0) (hback : ∀ w, Fr c'.B c'.M w → Fr c.B c.M w) (hLs : ∀ w, Fr c'.B c'.M w → Hs Ls w) (hall : ∀ i, as.contains i = true → ∀ o, l[i]? = some o → ∃ T zl, Alc c' o T zl)
    (h : TR c' l Ls qs as flo (fun ρ' L' => XK c R ks ρ' ds L') pi ρ L) {a : Act} (ha : Ag c.N ds a ρ) (t : Nat) :
    wpOpsIn c.F 0 c.P l.toArray (lft c (pst c R ks)) (Region.linearise .any l.toArray t) a w0 := by
  have st := stat_of hok
  have hh := hok
  simp only [drawOk, Bool.and_eq_true, List.all_eq_true, List.mem_range] at hh
  obtain ⟨⟨⟨⟨⟨⟨⟨⟨hcov, hlt⟩, _⟩, _⟩, _⟩, _⟩, hp⟩, hca⟩, hl⟩ := hh
  have hX : ∀ i, ¬ Lst (Array.replicate l.toArray.size false) i := fun i hl => by
    unfold Lst at hl
    simp only [Array.getD_eq_getD_getElem?, Array.getElem?_replicate] at hl
    split at hl <;> simp at hl
  have hri0 : RI c' l Ls qs as flo (fun ρ' L' => XK c R ks ρ' ds L') ρ ds (Array.replicate l.toArray.size false) a w0 [] pi ρ ρ L (fun _ => 0) := {
    ag := by rw [hN]; exact ha
    sz := by simp
    cov := fun i hi => .inr (by simpa using hcov i hi)
    lt1 := by simp
    lt2 := fun i hi => by simpa [Nat.blt_eq] using hlt i hi
    cl := fun i hi => absurd hi (hX i)
    chkl := hl, chkp := hp, chka := hca, looked := by simp, tr := h
    exe := by simp
    pend := by simp
    anch := by simp
    ahead := fun i _ hl => absurd hl (hX i)
    env1 := by simp
    env2 := fun i _ hl => absurd hl (hX i)
    env2' := fun i _ hl => absurd hl (hX i)
    env3 := fun _ _ => rfl
    env4 := fun _ _ => rfl
    hs := hs0, fr := hfr0 }
  obtain ⟨d1, t1, ρ1, L1, hri, hh⟩ := hri0.advance st
  have hF : c'.F = c.F := by simp [Cx.F, hr]
  rw [← hF, ← hP]
  refine run_draw (c := c') st hLs hall ?_ _ t _ a w0 d1 t1 ρ1 ρ L1 _ hri hh ?_
  · intro ρ' L' a' w' hk hag hs' hf'
    exact ⟨ρ', ds, L', by rw [← hN]; exact hag, hs', hback w' hf', hk⟩
  · unfold unl
    have := List.length_filter_le (fun i => !(Array.replicate l.toArray.size false).getD i false) (List.range l.length)
    simpa using this

/-- A REGION WHOSE ORDER IS DRAWN: shown along one order pi that drawOk takes; no quiet operation floats. -/
theorem XK.draw {c : Cx} {R : Post} {ks : List Kt} {ρ : Env} {ds : List Deferred} {L : List Blk} {id : Nat} {l : List Oper} (qs as flo pi : List Nat) (hm : c.P.follows .mixedOrders = true) (hok : drawOk l qs as flo pi = true)
    (hall : ∀ i, as.contains i = true → ∀ o, l[i]? = some o → ∃ T zl, Alc c o T zl)
    (h : TR c l [] qs as flo (fun ρ' L' => XK c R ks ρ' ds L') pi ρ L) : XK c R (.code (.region id l.toArray true) :: ks) ρ ds L := by
  intro a w ha hs hf
  refine wpIn_region_draw fun t => ?_
  simp only [Region.schedule, hm, Bool.true_or, if_true]
  exact draw_run hok rfl rfl rfl (hs.drawn _) (hf.drawn _) (fun _ h => h) (fun w _ => Hs.nil w) hall h ha t

/-- With quiet operations that float among the others: flo; they read what M' has not. -/
theorem XK.drawF {c : Cx} {R : Post} {ks : List Kt} {ρ : Env} {ds : List Deferred} {L Ls : List Blk} {id : Nat} {l : List Oper} (qs as flo pi : List Nat) (M' : List Nat) (hm : c.P.follows .mixedOrders = true) (hok : drawOk l qs as flo pi = true)
    (hM : ∀ r ∈ M', Wr c r) (hrem : Rem M' L Ls) (hall : ∀ i, as.contains i = true → ∀ o, l[i]? = some o → ∃ T zl, ∀ w0, Alc (c.re w0 M') o T zl)
    (h : ∀ w0, c.B.heap.size ≤ w0.heap.size → TR (c.re w0 M') l Ls qs as flo (fun ρ' L' => XK c R ks ρ' ds L') pi ρ L) : XK c R (.code (.region id l.toArray true) :: ks) ρ ds L := by
  intro a w ha hs hf
  refine wpIn_region_draw fun t => ?_
  simp only [Region.schedule, hm, Bool.true_or, if_true]
  have hs0 : Hs L { w with drawn := w.drawn + 1 } := hs.drawn _
  have hf0 : Fr c.B c.M { w with drawn := w.drawn + 1 } := hf.drawn _
  exact draw_run (c := c) (c' := c.re { w with drawn := w.drawn + 1 } M') hok rfl rfl rfl hs0 (Fr.refl _ _) (fun w' hw' => hf0.trans hw' hM) (fun w' hw' => (hs0.sub hrem.sub).later hw' (hrem.ne hs0.nodup))
    (fun i hi o ho => let ⟨T, zl, h⟩ := hall i hi o ho; ⟨T, zl, h _⟩) (h _ hf0.size) ha t

/-! ### steps along the order -/
inductive GOK (ops : Array Oper) (ρ : Env) : Option (Nat × Bool) → Prop where
  | n : GOK ops ρ none
  | t {j t b} (hj : gdst ops j = some t) (hb : ρ t = .bool b) : GOK ops ρ (some (j, b))
section
variable {c : Cx} {l : List Oper} {Ls L : List Blk} {qs as flo pi : List Nat} {K : Env → List Blk → Prop} {ρ : Env} {i : Nat} {ty : TypeId} {pos : String} {af : Array Edge} {g : Option (Nat × Bool)} {op : Op}
theorem TR.nil (h : K ρ L) : TR c l Ls qs as flo K [] ρ L := h
theorem QG.of {o : Oper} {v : Value} {L' : List Blk} (hg : GOK l.toArray ρ o.guard) (hN : ∀ d, o.dst = some d → d < c.N) (hdf : noDefer o.op = true) (hq : Qt c L' ρ o v) : QG c l.toArray L' ρ o v := by
  refine ⟨hN, hdf, ?_⟩
  cases hgd : o.guard with
  | none => exact hq
  | some g =>
    obtain ⟨j, b⟩ := g
    rw [hgd] at hg
    cases hg with
    | t hj hb => exact ⟨_, b, hj, hb, by rw [if_pos rfl]; exact hq⟩
theorem Qt.ov {d : Option Nat} {v : Value} {L' : List Blk} (hv : OV c ρ L' ⟨d, op, ty, pos, af, none⟩ v) : Qt c L' ρ ⟨d, op, ty, pos, af, g⟩ v := fun w hs hf => by
  have h : (execOp (evE ρ) ⟨d, op, ty, pos, af, g⟩).run c.P w = .ok (.value v) w := hv w hs hf
  unfold OpOut
  rw [h]
  exact ⟨rfl, Fr.refl w []⟩
theorem TR.q {d : Nat} {v : Value} (ho : l[i]? = some ⟨some d, op, ty, pos, af, g⟩) (hq : qs.contains i = true) (hg : GOK l.toArray ρ g) (hN : Nat.blt d c.N = true) (hdf : noDefer op = true)
    (hv : Qt c (if flo.contains i then Ls else L) ρ ⟨some d, op, ty, pos, af, g⟩ v) (k : TR c l Ls qs as flo K pi (upd ρ d v) L) : TR c l Ls qs as flo K (i :: pi) ρ L := by
  refine ⟨_, ho, ?_⟩
  rw [if_pos hq]
  exact ⟨v, QG.of hg (okd_of (o := some d) hN) hdf hv, k⟩
theorem TR.v {d : Nat} {v : Value} (ho : l[i]? = some ⟨some d, op, ty, pos, af, g⟩) (hq : qs.contains i = true) (hg : GOK l.toArray ρ g) (hN : Nat.blt d c.N = true) (hdf : noDefer op = true)
    (hfl : flo.contains i = false) (hv : OV c ρ L ⟨some d, op, ty, pos, af, none⟩ v) (k : TR c l Ls qs as flo K pi (upd ρ d v) L) : TR c l Ls qs as flo K (i :: pi) ρ L :=
  TR.q ho hq hg hN hdf (by rw [hfl]; exact Qt.ov hv) k
theorem TR.vf {d : Nat} {v : Value} (ho : l[i]? = some ⟨some d, op, ty, pos, af, g⟩) (hq : qs.contains i = true) (hg : GOK l.toArray ρ g) (hN : Nat.blt d c.N = true) (hdf : noDefer op = true)
    (hfl : flo.contains i = true) (hv : OV c ρ Ls ⟨some d, op, ty, pos, af, none⟩ v) (k : TR c l Ls qs as flo K pi (upd ρ d v) L) : TR c l Ls qs as flo K (i :: pi) ρ L :=
  TR.q ho hq hg hN hdf (by rw [hfl]; exact Qt.ov hv) k
theorem TR.sk {d : Nat} {j t : Nat} {b : Bool} (ho : l[i]? = some ⟨some d, op, ty, pos, af, some (j, b)⟩) (hq : qs.contains i = true) (hj : gdst l.toArray j = some t) (hb : ρ t = .bool (!b)) (hN : Nat.blt d c.N = true) (hdf : noDefer op = true)
    (k : TR c l Ls qs as flo K pi (upd ρ d undef) L) : TR c l Ls qs as flo K (i :: pi) ρ L := by
  refine ⟨_, ho, ?_⟩
  rw [if_pos hq]
  exact ⟨undef, ⟨okd_of (o := some d) hN, hdf, t, !b, hj, hb, by rw [if_neg (by simp)]⟩, k⟩
theorem TR.alc {d : Nat} {T : TypeId} {z : Value} {zl : List Value} (ho : l[i]? = some ⟨some d, .alloc T, ty, pos, af, none⟩) (hq : qs.contains i = false) (ha : as.contains i = true) (hN : Nat.blt d c.N = true) (hz : ∀ w, (zeroValue T).run c.P w = .ok z w) (hc : z.cells = List.toArray zl)
    (k : ∀ r, c.B.heap.size ≤ r → TR c l Ls qs as flo K pi (upd ρ d (.pointer (some ⟨r, 0, none⟩))) ((r, cel zl T) :: L)) : TR c l Ls qs as flo K (i :: pi) ρ L := by
  refine ⟨_, ho, ?_⟩
  rw [if_neg (by rw [hq]; simp), if_pos ha]
  exact ⟨T, zl, ⟨rfl, rfl, okd_of (o := some d) hN, z, hz, hc⟩, k⟩
/-- What turns things: by the rules of a plain region, for this operation alone. -/
theorem Step.mono {c : Cx} {ops : Array Oper} {ρ : Env} {L : List Blk} {o : Oper} {K K' : Value → List Blk → Prop} (h : Step c ops ρ L o K) (hk : ∀ v L', K v L' → K' v L') : Step c ops ρ L o K' := by
  obtain ⟨h1, h2, h3⟩ := h
  refine ⟨h1, h2, ?_⟩
  have up : ∀ w, OpOut c ρ o w (fun v w' => ∃ L', Hs L' w' ∧ Fr c.B c.M w' ∧ Kp L w L' w' ∧ K v L') → OpOut c ρ o w (fun v w' => ∃ L', Hs L' w' ∧ Fr c.B c.M w' ∧ Kp L w L' w' ∧ K' v L') := fun w h =>
    h.mono fun v w' ⟨L', g1, g2, g3, g4⟩ => ⟨L', g1, g2, g3, hk v L' g4⟩
  cases hg : o.guard with
  | none =>
    rw [hg] at h3
    exact fun w hs hf => up w (h3 w hs hf)
  | some gd =>
    obtain ⟨j, b⟩ := gd
    rw [hg] at h3
    obtain ⟨t, b', e1, e2, e3⟩ := h3
    refine ⟨t, b', e1, e2, ?_⟩
    split
    · rw [if_pos ‹_›] at e3
      exact fun w hs hf => up w (e3 w hs hf)
    · rw [if_neg ‹_›] at e3
      exact hk _ _ e3
theorem TR.go {o : Oper} (ho : l[i]? = some o) (hq : qs.contains i = false) (ha : as.contains i = false) (hfl : flo.contains i = false) (h : XO c (fun _ ρ' _ L' => TR c l Ls qs as flo K pi ρ' L') l.toArray [o] [] ρ [] L) : TR c l Ls qs as flo K (i :: pi) ρ L := by
  refine ⟨o, ho, ?_⟩
  rw [if_neg (by rw [hq]; simp), if_neg (by rw [ha]; simp)]
  exact Step.mono h fun v L' hk => ⟨fun e => absurd (hfl.symm.trans e) (by decide), hk⟩
/-- An operation that keeps all blocks: what is quiet may wait. -/
theorem TR.goK {o : Oper} (ho : l[i]? = some o) (hq : qs.contains i = false) (ha : as.contains i = false) (h : XO c (fun _ ρ' _ L' => (∀ w, Hs L' w → Hs L w) ∧ TR c l Ls qs as flo K pi ρ' L') l.toArray [o] [] ρ [] L) : TR c l Ls qs as flo K (i :: pi) ρ L := by
  refine ⟨o, ho, ?_⟩
  rw [if_neg (by rw [hq]; simp), if_neg (by rw [ha]; simp)]
  exact Step.mono h fun v L' hk => ⟨fun _ => hk.1, hk.2⟩
theorem TR.backK {ops : Array Oper} {ds : List Deferred} {L0 : List Blk} (hs : L0.Sublist L) (h : TR c l Ls qs as flo K pi ρ L) : XO c (fun _ ρ' _ L' => (∀ w, Hs L' w → Hs L0 w) ∧ TR c l Ls qs as flo K pi ρ' L') ops [] [] ρ ds L := ⟨fun w hw => hw.sub hs, h⟩
theorem TR.back {R : Post} {ops : Array Oper} {ds : List Deferred} (h : R .normal ρ ds L) : XO c R ops [] [] ρ ds L := h
theorem TR.split {t : Nat} {b : Bool} (hb : ρ t = .bool b) (ht : b = true → TR c l Ls qs as flo K pi (upd ρ t (.bool true)) L) (hf : b = false → TR c l Ls qs as flo K pi (upd ρ t (.bool false)) L) : TR c l Ls qs as flo K pi ρ L := by
  have e : ρ = upd ρ t (.bool b) := by
    funext x
    by_cases h : x = t
    · subst h; rw [upd_same, hb]
    · rw [upd_ne _ _ h]
  cases b with
  | true => rw [e]; exact ht rfl
  | false => rw [e]; exact hf rfl
theorem TR.say (t : Nat) {u v : Value} (hu : ρ t = u) (e : u = v) (k : TR c l Ls qs as flo K pi (upd ρ t v) L) : TR c l Ls qs as flo K pi ρ L := by
  have e : ρ = upd ρ t v := by
    funext x
    by_cases h : x = t
    · subst h; rw [upd_same, hu, e]
    · rw [upd_ne _ _ h]
  rw [e]; exact k
theorem Qt.callV {d f : Nat} {fo : Operand} {args : List Operand} {tys : Array TypeId} {cap vs : List Value} {Lf L' : List Blk} {v : Value}
    (hf : evE ρ fo = .func (.func f) #[] (List.toArray cap)) (ha : Evs ρ args vs) (hcf : ∀ as w, (callFunc f as).run c.P w = .ok (.enter f as) w)
    (hc : CtV c.P f (vs ++ cap) Lf v) (hsub : Sel L' Lf) : Qt c L' ρ ⟨some d, .call ⟨.value fo, List.toArray args, tys⟩, ty, pos, af, g⟩ v := fun w hs _ => by
  have h : (execOp (evE ρ) ⟨some d, .call ⟨.value fo, List.toArray args, tys⟩, ty, pos, af, g⟩).run c.P w = .ok (.enter f (List.toArray (vs ++ cap))) w := run_call (od := some d) (pos := pos) (af := af) hf ha hcf w
  unfold OpOut
  rw [h]
  have h' : CallsIn c.F 0 c.P f (List.toArray (vs ++ cap)) w _ := hc w (hs.sel hsub)
  refine h'.mono ?_
  rintro e w' ⟨u, L2, rfl, h2, _, _, rfl, _⟩
  exact ⟨u, rfl, rfl, h2⟩
theorem TR.cv {d f : Nat} {fo : Operand} {args : List Operand} {tys : Array TypeId} {cap vs : List Value} {Lf : List Blk} {v : Value} (ho : l[i]? = some ⟨some d, .call ⟨.value fo, List.toArray args, tys⟩, ty, pos, af, g⟩) (hq : qs.contains i = true) (hg : GOK l.toArray ρ g) (hN : Nat.blt d c.N = true) (hfl : flo.contains i = false)
    (hf : evE ρ fo = .func (.func f) #[] (List.toArray cap)) (ha : Evs ρ args vs) (hcf : ∀ as w, (callFunc f as).run c.P w = .ok (.enter f as) w)
    (hc : CtV c.P f (vs ++ cap) Lf v) (hsub : Sel L Lf) (k : TR c l Ls qs as flo K pi (upd ρ d v) L) : TR c l Ls qs as flo K (i :: pi) ρ L :=
  TR.q ho hq hg hN rfl (by rw [hfl]; exact Qt.callV hf ha hcf hc hsub) k
theorem TR.cvf {d f : Nat} {fo : Operand} {args : List Operand} {tys : Array TypeId} {cap vs : List Value} {Lf : List Blk} {v : Value} (ho : l[i]? = some ⟨some d, .call ⟨.value fo, List.toArray args, tys⟩, ty, pos, af, g⟩) (hq : qs.contains i = true) (hg : GOK l.toArray ρ g) (hN : Nat.blt d c.N = true) (hfl : flo.contains i = true)
    (hf : evE ρ fo = .func (.func f) #[] (List.toArray cap)) (ha : Evs ρ args vs) (hcf : ∀ as w, (callFunc f as).run c.P w = .ok (.enter f as) w)
    (hc : CtV c.P f (vs ++ cap) Lf v) (hsub : Sel Ls Lf) (k : TR c l Ls qs as flo K pi (upd ρ d v) L) : TR c l Ls qs as flo K (i :: pi) ρ L :=
  TR.q ho hq hg hN rfl (by rw [hfl]; exact Qt.callV hf ha hcf hc hsub) k
theorem alc_cons {a : Nat} {as : List Nat} {o0 : Oper} {T : TypeId} {zl : List Value} (ho : l[a]? = some o0) (h : Alc c o0 T zl) (ht : ∀ i, as.contains i = true → ∀ o, l[i]? = some o → ∃ T zl, Alc c o T zl) :
    ∀ i, (a :: as).contains i = true → ∀ o, l[i]? = some o → ∃ T zl, Alc c o T zl := by
  intro i hi o hio
  simp only [List.contains_cons, Bool.or_eq_true, beq_iff_eq] at hi
  rcases hi with rfl | hi
  · rw [ho] at hio
    obtain rfl := Option.some.inj hio
    exact ⟨T, zl, h⟩
  · exact ht i hi o hio
theorem alc_consF {a : Nat} {as : List Nat} {o0 : Oper} {T : TypeId} {zl : List Value} {M' : List Nat} (ho : l[a]? = some o0) (h : ∀ w0, Alc (c.re w0 M') o0 T zl) (ht : ∀ i, as.contains i = true → ∀ o, l[i]? = some o → ∃ T zl, ∀ w0, Alc (c.re w0 M') o T zl) :
    ∀ i, (a :: as).contains i = true → ∀ o, l[i]? = some o → ∃ T zl, ∀ w0, Alc (c.re w0 M') o T zl := by
  intro i hi o hio
  simp only [List.contains_cons, Bool.or_eq_true, beq_iff_eq] at hi
  rcases hi with rfl | hi
  · rw [ho] at hio
    obtain rfl := Option.some.inj hio
    exact ⟨T, zl, h⟩
  · exact ht i hi o hio
theorem alc_mk {d : Nat} {T : TypeId} {z : Value} {zl : List Value} (hN : Nat.blt d c.N = true) (hz : ∀ w, (zeroValue T).run c.P w = .ok z w) (hc : z.cells = List.toArray zl) : Alc c ⟨some d, .alloc T, ty, pos, af, none⟩ T zl :=
  ⟨rfl, rfl, okd_of (o := some d) hN, z, hz, hc⟩
theorem alc_none {P : Nat → Prop} : ∀ i, ([] : List Nat).contains i = true → P i := fun i h => by simp at h
end
end
end Go.Mw
