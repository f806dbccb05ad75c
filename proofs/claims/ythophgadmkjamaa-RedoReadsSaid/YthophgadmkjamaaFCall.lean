/- THE ENGINE, 3: contracts and calls. -/
import Derived.Test.YthophgadmkjamaaFMem
namespace Go.Mw
open Go

def envL (l : List Value) : Env := fun t => match nth l t with
  | some v => v
  | none => undef

/-- A CONTRACT: called where the blocks of L lie, f returns; of the old blocks only those of M have turned; L' are blocks of M, or new ones. -/
def Ct (P : Program) (f : FuncId) (args : List Value) (L : List Blk) (M : List Nat) (R : Value → List Blk → Prop) : Prop :=
  ∀ w, Hs L w → CallsIn Fence.wide 0 P f (List.toArray args) w (fun e w' => ∃ v L', e = .returned v ∧ Fr w M w' ∧ Hs L' w' ∧ (∀ x ∈ L', x.1 ∈ M ∨ w.heap.size ≤ x.1) ∧ R v L')

theorem Ct.mono {P : Program} {f : FuncId} {args : List Value} {L : List Blk} {M : List Nat} {R R' : Value → List Blk → Prop} (h : Ct P f args L M R) (hr : ∀ v L', R v L' → R' v L') : Ct P f args L M R' :=
  fun w hs => (h w hs).mono fun _ _ ⟨v, L', h1, h2, h3, h4, h5⟩ => ⟨v, L', h1, h2, h3, h4, hr _ _ h5⟩

/-- The operands' values. -/
inductive Evs (ρ : Env) : List Operand → List Value → Prop where
  | nil : Evs ρ [] []
  | cons {x : Operand} {v : Value} {xs : List Operand} {vs : List Value} (h : evE ρ x = v) (t : Evs ρ xs vs) : Evs ρ (x :: xs) (v :: vs)
theorem Evs.map {ρ : Env} {xs : List Operand} {vs : List Value} (h : Evs ρ xs vs) : xs.map (evE ρ) = vs := by
  induction h with
  | nil => rfl
  | cons h _ ih => simp [h, ih]

/-- L2 is L without the blocks of M. -/
inductive Del (r : Nat) : List Blk → List Blk → Prop where
  | hd {o L} : Del r ((r, o) :: L) L
  | tl {x L L'} (h : Del r L L') : Del r (x :: L) (x :: L')
theorem Del.sub {r : Nat} {L L' : List Blk} (h : Del r L L') : L'.Sublist L := by
  induction h with
  | hd => exact List.sublist_cons_self _ _
  | tl _ ih => exact ih.cons_cons _
theorem Del.mem {r : Nat} {L L' : List Blk} (h : Del r L L') : ∃ o, (r, o) ∈ L := by
  induction h with
  | hd => exact ⟨_, .head _⟩
  | tl _ ih => obtain ⟨o, ho⟩ := ih; exact ⟨o, .tail _ ho⟩
theorem Del.ne {r : Nat} {L L' : List Blk} (h : Del r L L') (hn : L.Pairwise (fun x y => x.1 ≠ y.1)) : ∀ x ∈ L', x.1 ≠ r := by
  induction h with
  | hd => intro x hx e; exact (List.rel_of_pairwise_cons hn hx) e.symm
  | tl hd ih =>
    intro x hx e
    rcases List.mem_cons.1 hx with rfl | hx
    · obtain ⟨o, ho⟩ := hd.mem
      exact (List.rel_of_pairwise_cons hn ho) e
    · exact ih (List.Pairwise.of_cons hn) x hx e
inductive Rem : List Nat → List Blk → List Blk → Prop where
  | nil {L} : Rem [] L L
  | cons {r M L L1 L2} (h : Del r L L1) (t : Rem M L1 L2) : Rem (r :: M) L L2
theorem Rem.sub {M : List Nat} {L L' : List Blk} (h : Rem M L L') : L'.Sublist L := by
  induction h with
  | nil => exact List.Sublist.refl _
  | cons h _ ih => exact ih.trans h.sub
theorem Rem.ne {M : List Nat} {L L' : List Blk} (h : Rem M L L') : L.Pairwise (fun x y => x.1 ≠ y.1) → ∀ x ∈ L', x.1 ∉ M := by
  induction h with
  | nil => intro _ x _; simp
  | @cons r M L L1 L2 h t ih =>
    intro hn x hx
    simp only [List.mem_cons, not_or]
    exact ⟨h.ne hn x (t.sub.subset hx), ih (hn.sublist h.sub) x hx⟩

theorem Rem.mem {M : List Nat} {L L' : List Blk} (h : Rem M L L') : ∀ r ∈ M, ∃ o, (r, o) ∈ L := by
  induction h with
  | nil => intro r hr; cases hr
  | cons h _ ih =>
    intro r hr
    rcases List.mem_cons.1 hr with rfl | hr
    · exact h.mem
    · obtain ⟨o, ho⟩ := ih r hr
      exact ⟨o, h.sub.subset ho⟩
/-- L' chosen out of L, each at most once. -/
inductive Sel : List Blk → List Blk → Prop where
  | nil {L} : Sel L []
  | cons {x L L1 L'} (h : Del x.1 L L1) (hm : x ∈ L) (t : Sel L1 L') : Sel L (x :: L')
theorem Sel.mem {L L' : List Blk} (h : Sel L L') : ∀ x ∈ L', x ∈ L := by
  induction h with
  | nil => simp
  | cons h hm _ ih =>
    intro x hx
    rcases List.mem_cons.1 hx with rfl | hx
    · exact hm
    · exact h.sub.subset (ih x hx)
theorem Sel.nodup {L L' : List Blk} (h : Sel L L') : L.Pairwise (fun x y => x.1 ≠ y.1) → L'.Pairwise (fun x y => x.1 ≠ y.1) := by
  induction h with
  | nil => intro _; exact .nil
  | @cons x L L1 L' h hm t ih =>
    intro hn
    refine List.pairwise_cons.2 ⟨fun y hy e => h.ne hn y (t.mem y hy) e.symm, ih (hn.sublist h.sub)⟩
theorem Hs.sel {L L' : List Blk} {w : World} (hs : Hs L w) (h : Sel L L') : Hs L' w := ⟨h.nodup hs.nodup, fun x hx => hs.mem x (h.mem x hx)⟩

/-- What lies behind a call. -/
theorem Hs.behind {L L2 L' : List Blk} {M : List Nat} {w w' : World} (hs : Hs L w) (hf : Fr w M w') (hs' : Hs L' w') (hn : ∀ x ∈ L', x.1 ∈ M ∨ w.heap.size ≤ x.1) (hr : Rem M L L2) : Hs (L' ++ L2) w' := by
  have h2 : Hs L2 w := hs.sub hr.sub
  have h2' : Hs L2 w' := h2.later hf (hr.ne hs.nodup)
  refine ⟨List.pairwise_append.2 ⟨hs'.nodup, h2'.nodup, fun x hx y hy e => ?_⟩, fun x hx => ?_⟩
  · rcases hn x hx with h | h
    · exact hr.ne hs.nodup y hy (e ▸ h)
    · have := lt_of_some (h2.mem y hy); omega
  · rcases List.mem_append.1 hx with h | h
    · exact hs'.mem x h
    · exact h2'.mem x h

section ops
variable {c : Cx} {R : Post} {ops : Array Oper} {rest : List Oper} {ks : List Kt} {ρ : Env} {ds : List Deferred} {L : List Blk}
variable {ty : TypeId} {pos : String} {af : Array Edge}

theorem run_call {P : Program} {f : FuncId} {fo : Operand} {args : List Operand} {cap vs : List Value} {od : Option Nat} {tys : Array TypeId} (hf : evE ρ fo = .func (.func f) #[] (List.toArray cap)) (ha : Evs ρ args vs) (hcf : ∀ as w, (callFunc f as).run P w = .ok (.enter f as) w) (w : World) :
    (execOp (evE ρ) ⟨od, .call ⟨.value fo, List.toArray args, tys⟩, ty, pos, af, none⟩).run P w = .ok (.enter f (List.toArray (vs ++ cap))) w := by
  simp only [execOp, resolve, hf, List.map_toArray, ha.map, Deferred.ofValue, Sem.run_bind]
  simp [invoke, hcf]

theorem XO.callG {d : Option Nat} {f : FuncId} {fo : Operand} {args : List Operand} {tys : Array TypeId} {cap vs : List Value} {Lf L2 : List Blk} {M : List Nat} {Rf : Value → List Blk → Prop}
    (hN : okd c.N d = true) (hf : evE ρ fo = .func (.func f) #[] (List.toArray cap)) (ha : Evs ρ args vs) (hcf : ∀ as w, (callFunc f as).run c.P w = .ok (.enter f as) w)
    (hc : Ct c.P f (vs ++ cap) Lf M Rf) (hsub : Sel L Lf) (hM : ∀ r ∈ M, Wr c r) (hrem : Rem M L L2)
    (k : ∀ v L', Rf v L' → (∀ x ∈ L', x.1 ∈ M ∨ c.B.heap.size ≤ x.1) → XO c R ops rest ks (putD ρ d v) ds (L' ++ L2)) :
    XO c R ops (⟨d, .call ⟨.value fo, List.toArray args, tys⟩, ty, pos, af, none⟩ :: rest) ks ρ ds L :=
  XO.step hN rfl fun w hs hfr => by
    unfold OpOut
    rw [run_call hf ha hcf w]
    have h' : CallsIn c.F 0 c.P f (List.toArray (vs ++ cap)) w _ := hc w (hs.sel hsub)
    refine h'.mono ?_
    rintro e w' ⟨v, L', rfl, h2, h3, h4, h5⟩
    refine ⟨v, rfl, L' ++ L2, hs.behind h2 h3 h4 hrem, hfr.trans h2 hM, ⟨fun r hr hx => h2.old r hr fun hm => ?_, fun x hx => ?_⟩, k v L' h5 (fun x hx => (h4 x hx).imp id fun h => Nat.le_trans hfr.size h)⟩
    · obtain ⟨o, ho⟩ := hrem.mem r hm
      exact hx _ ho rfl
    · rcases List.mem_append.1 hx with hx | hx
      · rcases h4 x hx with h | h
        · obtain ⟨o, ho⟩ := hrem.mem _ h
          exact .inl ⟨_, ho, rfl⟩
        · exact .inr h
      · exact .inl ⟨x, hrem.sub.subset hx, rfl⟩
end ops

/-! ### entry and end -/
inductive Res1 (P : Program) (ρ : Env) (L : List Blk) : ResultVar → Value → Prop where
  | tmp {t v} (h : ρ t = v) : Res1 P ρ L (.tmp t) v
  | cell {a T r o l E v} (h : ρ a = .pointer (some ⟨r, o, none⟩)) (hT : ∀ w, (isAgg T).run P w = .ok false w) (hm : (r, cel l E) ∈ L) (hk : nth l o = some v) : Res1 P ρ L (.cell a T) v
  | cellA {a T r o l E vs n} (h : ρ a = .pointer (some ⟨r, o, none⟩)) (hT : ∀ w, (isAgg T).run P w = .ok true w) (hz : ∀ w, (sizeOf T).run P w = .ok n w) (hm : (r, cel l E) ∈ L) (hv : (l.drop o).take n = vs) (hn : vs.length = n) : Res1 P ρ L (.cell a T) (.agg (List.toArray vs))
inductive ResL (P : Program) (ρ : Env) (L : List Blk) : List ResultVar → List Value → Prop where
  | nil : ResL P ρ L [] []
  | cons {x v xs vs} (h : Res1 P ρ L x v) (t : ResL P ρ L xs vs) : ResL P ρ L (x :: xs) (v :: vs)
def tupV : List Value → Value
  | [v] => v
  | vs => .tuple (List.toArray vs)

def resSem (tmps : Array Value) : ResultVar → Sem Value
  | .tmp t => pure (tmps.getD t undef)
  | .cell b t => do loadVar t (← asAddr (tmps.getD b undef))
theorem results_eq (fn : Func) (tmps : Array Value) : results fn tmps = (fn.results.mapM (resSem tmps) >>= fun vs => pure (if h : vs.size = 1 then vs[0] else .tuple vs)) := by
  unfold results
  congr 1
theorem Res1.run {P : Program} {ρ : Env} {L : List Blk} {x : ResultVar} {v : Value} (h : Res1 P ρ L x v) {N : Nat} {ds : List Deferred} {a : Act} {w : World} (ha : Ag N ds a ρ) (hs : Hs L w) :
    (resSem a.tmps x).run P w = .ok v w := by
  cases h with
  | tmp h => simp only [resSem, ha.get, h]; rfl
  | cell h hT hm hk =>
    have hb := hs.mem _ hm
    rw [nth_eq] at hk
    simp only [resSem, ha.get, h, asAddr, loadVar, Sem.run_bind, Sem.run_pure, Result.andThen_ok, hT, Bool.false_eq_true, if_false, run_load, cell_of hb, hk]
  | cellA h hT hz hm hv hn =>
    have hb := hs.mem _ hm
    simp only [resSem, ha.get, h, asAddr, loadVar, Sem.run_bind, Sem.run_pure, Result.andThen_ok, hT, if_true, hz, run_loadRow hb hv hn]
theorem run_mapRes {P : Program} {ρ : Env} {L : List Blk} {rs : List ResultVar} {vs : List Value} (h : ResL P ρ L rs vs) {N : Nat} {ds : List Deferred} {a : Act} {w : World} (ha : Ag N ds a ρ) (hs : Hs L w) :
    (rs.mapM (resSem a.tmps)).run P w = .ok vs w := by
  induction h with
  | nil => simp
  | cons h _ ih =>
    rw [List.mapM_cons, Sem.run_bind, h.run ha hs, Result.andThen_ok, Sem.run_bind, ih]
    rfl
theorem results_of {P : Program} {fn : Func} {rs : List ResultVar} {vs : List Value} {ρ : Env} {L : List Blk} (hr : fn.results = List.toArray rs) (h : ResL P ρ L rs vs) {N : Nat} {ds : List Deferred} {a : Act} {w : World} (ha : Ag N ds a ρ) (hs : Hs L w) :
    (results fn a.tmps).run P w = .ok (tupV vs) w := by
  rw [results_eq, hr]
  simp only [Sem.run_bind, List.mapM_toArray, Sem.run_map]
  rw [run_mapRes h ha hs]
  simp only [Result.andThen_ok, Sem.run_pure]
  congr 1
  match vs with
  | [] => rfl
  | [v] => rfl
  | _ :: _ :: _ => simp [tupV]

/-- What is shown where a function ends. -/
def Fin (P : Program) (rs : List ResultVar) (B : World) (M : List Nat) (Rf : Value → List Blk → Prop) : Post := fun e ρ ds L =>
  (e = .normal ∨ e = .ret) ∧ ds = [] ∧ ∃ vs L', ResL P ρ L rs vs ∧ Sel L L' ∧ (∀ x ∈ L', x.1 ∈ M ∨ B.heap.size ≤ x.1) ∧ Rf (tupV vs) L'

theorem Fin.ret {P : Program} {rs : List ResultVar} {B : World} {M : List Nat} {Rf : Value → List Blk → Prop} {ρ : Env} {L L' : List Blk} {vs : List Value} (h1 : ResL P ρ L rs vs) (h2 : Sel L L') (h3 : ∀ x ∈ L', x.1 ∈ M ∨ B.heap.size ≤ x.1) (h4 : Rf (tupV vs) L') : Fin P rs B M Rf .ret ρ [] L :=
  ⟨.inr rfl, rfl, vs, L', h1, h2, h3, h4⟩
theorem Fin.nor {P : Program} {rs : List ResultVar} {B : World} {M : List Nat} {Rf : Value → List Blk → Prop} {ρ : Env} {L L' : List Blk} {vs : List Value} (h1 : ResL P ρ L rs vs) (h2 : Sel L L') (h3 : ∀ x ∈ L', x.1 ∈ M ∨ B.heap.size ≤ x.1) (h4 : Rf (tupV vs) L') : Fin P rs B M Rf .normal ρ [] L :=
  ⟨.inl rfl, rfl, vs, L', h1, h2, h3, h4⟩

theorem Ct.of {P : Program} {f : FuncId} {fn : Func} {k : Code} {N : Nat} {args : List Value} {L : List Blk} {M : List Nat} {Rf : Value → List Blk → Prop} {rs : List ResultVar}
    (hf : P.funcs[f]? = some fn) (hb : fn.body = some k) (hn : fn.ntmps = N) (hrs : fn.results = List.toArray rs) (hl : args.length ≤ N)
    (h : ∀ B, XK ⟨P, none, N, B, M⟩ (Fin P rs B M Rf) [.code k] (envL args) [] L) : Ct P f args L M Rf := by
  intro w hs
  refine callsIn_of_wp hf hb trivial ?_ rfl
  have hag : Ag N [] { tmps := List.toArray args ++ Array.replicate (fn.ntmps - (List.toArray args).size) undef, defers := [] } (envL args) := by
    refine ⟨by simp [hn]; omega, rfl, fun t => ?_⟩
    simp only [envL, nth_eq, Array.getD_eq_getD_getElem?, Array.getElem?_append, List.size_toArray, List.getElem?_toArray]
    by_cases ht : t < args.length
    · rw [if_pos ht, List.getElem?_eq_getElem ht]; rfl
    · rw [if_neg ht, List.getElem?_eq_none (by omega), Array.getElem?_replicate]
      split <;> rfl
  have h0 := h w _ w hag hs (Fr.refl w M)
  refine wpIn_mono h0 ?_
  rintro e a w' ⟨ρ, ds, L1, ha, hs', hf', he, rfl, vs, L', hres, hsel, hnew, hR⟩
  have hres' := results_of hrs hres ha hs'
  rcases he with rfl | rfl
  · exact ⟨ha.defers, _, hres', _, L', rfl, hf', hs'.sel hsel, hnew, hR⟩
  · exact ⟨ha.defers, _, hres', _, L', rfl, hf', hs'.sel hsel, hnew, hR⟩
end Go.Mw
