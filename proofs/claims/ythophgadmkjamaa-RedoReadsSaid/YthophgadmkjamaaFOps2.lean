/- THE ENGINE, 7: values built, slices made and appended to, comparisons of whole structs. -/
import Derived.Test.YthophgadmkjamaaFDraw
import Derived.Laws.StructEq
namespace Go.Mw
open Go

/-! ### building -/
/-- A struct's places: (offset, size) of each field. -/
def Pl (P : Program) (T : TypeId) (pl : List (Nat × Nat)) : Prop := ∃ fs, (∀ w, (underlying T).run P w = .ok (.struct fs) w) ∧ ∀ w, (fs.mapM fun f => do pure (f.offset, ← sizeOf f.type) : Sem (Array (Nat × Nat))).run P w = .ok (List.toArray pl) w

theorem foldl_splice : ∀ (vs : List Value) (cs : List Value) (off j : Nat), off + j + vs.length ≤ cs.length → ((vs.zipIdx j).foldl (fun (cs : Array Value) (x : Value × Nat) => cs.setIfInBounds (off + x.2) x.1) (List.toArray cs)) = List.toArray (splice cs (off + j) vs)
  | [], cs, off, j, _ => by simp [splice_nil]
  | v :: vs, cs, off, j, h => by
    simp only [List.length_cons] at h
    rw [List.zipIdx_cons, List.foldl_cons]
    rw [show (List.toArray cs).setIfInBounds (off + j) v = List.toArray (cs.set (off + j) v) from by simp]
    rw [foldl_splice vs (cs.set (off + j) v) off (j + 1) (by simp; omega), ← Nat.add_assoc, splice_cons (by simp only [List.length_cons]; omega)]

inductive Fill (pl : Nat → Option (Nat × Nat)) : List Value → List (Nat × Value) → List Value → Prop where
  | nil {cs} : Fill pl cs [] cs
  | cons {i off n : Nat} {v : Value} {cs vl cs' out : List Value} {ps : List (Nat × Value)} (hp : pl i = some (off, n)) (hv : v.cells = List.toArray vl) (hn : vl.length = n) (hl : off + n ≤ cs.length) (hs : splice cs off vl = cs') (t : Fill pl cs' ps out) : Fill pl cs ((i, v) :: ps) out
theorem Fill.run {pl : Nat → Option (Nat × Nat)} {cs out : List Value} {ps : List (Nat × Value)} (h : Fill pl cs ps out) : Instr.fill pl (List.toArray cs) ps = some (List.toArray out) := by
  induction h with
  | nil => rfl
  | @cons i off n v cs vl cs' out ps hp hv hn hl hs t ih =>
    subst hn hs
    simp only [Instr.fill, hp, hv, List.size_toArray, ne_eq, not_true_eq_false, decide_false, Bool.false_or]
    rw [if_neg (by simp; omega)]
    rw [← ih]
    congr 1
    have := foldl_splice vl cs off 0 (by omega)
    simp only [Nat.add_zero] at this
    rw [← this]
    simp only [← Array.foldl_toList, Array.toList_zipIdx]

section ops
variable {c : Cx} {R : Post} {ops : Array Oper} {rest : List Oper} {ks : List Kt} {ρ : Env} {ds : List Deferred} {L : List Blk}
variable {d : Nat} {od : Option Nat} {ty : TypeId} {pos : String} {af : Array Edge}

theorem evs_parts {ps : List (Nat × Operand)} {qs : List (Nat × Value)} (hq : Evs ρ (ps.map (·.2)) (qs.map (·.2))) (hi : ps.map (·.1) = qs.map (·.1)) : (ps.map fun (x : Nat × Operand) => match x with | (i, x) => (i, evE ρ x)) = qs := by
  have hm := hq.map
  show ps.map (fun p => (p.1, evE ρ p.2)) = qs
  induction ps generalizing qs with
  | nil => cases qs with
    | nil => rfl
    | cons _ _ => simp at hi
  | cons p ps ih => cases qs with
    | nil => simp at hi
    | cons q qs =>
      simp only [List.map_cons, List.cons.injEq] at hi hm ⊢
      cases hq with
      | cons _ t => exact ⟨by rw [hm.1, hi.1], ih t hi.2 hm.2⟩

/-- A struct built of parts, whole arrays among them. -/
theorem OV.bldS {T : TypeId} {ps : List (Nat × Operand)} {qs : List (Nat × Value)} {pl : List (Nat × Nat)} {zl out : List Value} (hq : Evs ρ (ps.map (·.2)) (qs.map (·.2))) (hi : ps.map (·.1) = qs.map (·.1))
    (hpl : Pl c.P T pl) (hz : ∀ w, (zeroValue T).run c.P w = .ok (.agg (List.toArray zl)) w) (hF : Fill (fun i => pl[i]?) zl qs out) :
    OV c ρ L ⟨od, .build T (List.toArray ps), ty, pos, af, none⟩ (.agg (List.toArray out)) := fun w _ _ => by
  obtain ⟨fs, hu, hm⟩ := hpl
  simp only [execOp, List.map_toArray, Sem.run_bind]
  rw [evs_parts hq hi]
  simp only [Instr.build, Sem.run_bind, hz, Result.andThen_ok, hu, hm, Value.cells]
  have := hF.run
  rw [show (fun (x : Nat) => (List.toArray pl)[x]?) = (fun i => pl[i]?) from by funext x; simp]
  rw [this]
  rfl
theorem OV.bldA {T el : TypeId} {n sz : Nat} {ps : List (Nat × Operand)} {qs : List (Nat × Value)} {zl out : List Value} (hq : Evs ρ (ps.map (·.2)) (qs.map (·.2))) (hi : ps.map (·.1) = qs.map (·.1))
    (hu : ∀ w, (underlying T).run c.P w = .ok (.array n el) w) (hsz : ∀ w, (sizeOf el).run c.P w = .ok sz w) (hz : ∀ w, (zeroValue T).run c.P w = .ok (.agg (List.toArray zl)) w) (hF : Fill (fun i => some (i * sz, sz)) zl qs out) :
    OV c ρ L ⟨od, .build T (List.toArray ps), ty, pos, af, none⟩ (.agg (List.toArray out)) := fun w _ _ => by
  simp only [execOp, List.map_toArray, Sem.run_bind]
  rw [evs_parts hq hi]
  simp only [Instr.build, Sem.run_bind, hz, Result.andThen_ok, hu, hsz, Value.cells]
  rw [hF.run]
  rfl
/-- With the built value spelled by whoever uses it. -/
theorem OV.said {o : Oper} {v v' : Value} (h : OV c ρ L o v) (e : v = v') : OV c ρ L o v' := e ▸ h

theorem zeros_eq (zl : List Value) (n : Nat) : ((Array.range (n * zl.length)).map fun i => (List.toArray zl)[i % (List.toArray zl).size]!) = List.toArray (List.replicate n zl).flatten := by
  apply Array.ext'
  simp only [Array.toList_map, Array.toList_range, List.size_toArray]
  induction n with
  | zero => simp
  | succ n ih =>
    rw [Nat.succ_mul, List.range_add, List.map_append, ih, List.replicate_succ', List.flatten_append]
    congr 1
    simp only [List.map_map, List.flatten_cons, List.flatten_nil, List.append_nil]
    apply List.ext_getElem?
    intro j
    by_cases hj : j < zl.length
    · simp only [List.getElem?_map, List.getElem?_range hj, Option.map_some, Function.comp, Nat.mul_add_mod_self_right, Nat.mod_eq_of_lt hj]
      simp [hj]
    · simp [hj]

theorem zeros_none {n sz : Nat} (h0 : n * sz = 0) (f : Nat → Value) : (Array.range (n * sz)).map f = #[] := Array.eq_empty_of_size_eq_zero (by simp [h0])
theorem XO.bsl {T el : TypeId} {n sz : Nat} {ps : List (Nat × Operand)} {qs : List (Nat × Value)} {z : Value} {zl out : List Value} (hN : Nat.blt d c.N = true) (hq : Evs ρ (ps.map (·.2)) (qs.map (·.2))) (hi : ps.map (·.1) = qs.map (·.1))
    (hu : ∀ w, (underlying T).run c.P w = .ok (.slice el) w) (hsz : ∀ w, (sizeOf el).run c.P w = .ok sz w) (hz : ∀ w, (zeroValue el).run c.P w = .ok z w) (hzc : z.cells = List.toArray zl) (hzl : zl.length = sz) (hsmall : n * sz ≤ 16777216)
    (hF : Fill (fun i => some (i * sz, sz)) (List.replicate n zl).flatten qs out)
    (k : ∀ r, c.B.heap.size ≤ r → XO c R ops rest ks (upd ρ d (.slice (some ⟨r, 0, none⟩) n n)) ds ((r, cel out el) :: L)) :
    XO c R ops (⟨some d, .buildSlice T n (List.toArray ps), ty, pos, af, none⟩ :: rest) ks ρ ds L :=
  XO.valw hN rfl fun w hs hf => by
    refine ⟨_, newBlk w (cel out el), _, .inl ?_, hs.alloc _, hf.alloc _, Kp.alloc _ _ _, k w.heap.size hf.size⟩
    simp only [execOp, List.map_toArray, Sem.run_bind]
    rw [evs_parts hq hi]
    simp only [Instr.buildSlice, Sem.run_bind, hu, hsz, Result.andThen_ok]
    rw [if_neg (by omega)]
    by_cases h0 : n * sz = 0
    · rw [if_pos h0]
      have he : (List.replicate n zl).flatten = [] := by
        apply List.eq_nil_of_length_eq_zero; rw [List.length_flatten]; simp [hzl, h0]
      have := hF.run
      rw [he] at this
      have e : Instr.fill (fun i => some (i * sz, sz)) #[] qs = some (List.toArray out) := this
      simp only [Sem.run_pure, Result.andThen_ok, zeros_none h0, e]
      simp [newRow, newBlk, cel]
    · rw [if_neg h0]
      simp only [Sem.run_bind, hz, Result.andThen_ok, hzc, Sem.run_pure]
      have e := zeros_eq zl n
      rw [hzl] at e
      rw [e, hF.run]
      simp [newRow, newBlk, cel]

theorem XO.mks {T el : TypeId} {x y : Operand} {n sz : Nat} {bytes : Nat} {info : TypeInfo} {z : Value} {zl : List Value} (hN : Nat.blt d c.N = true) (hx : evE ρ x = .int .i64 (n : Int)) (hy : evE ρ y = .int .i64 (n : Int))
    (hu : ∀ w, (underlying T).run c.P w = .ok (.slice el) w) (hsz : ∀ w, (sizeOf el).run c.P w = .ok sz w) (hti : ∀ w, (typeInfo el).run c.P w = .ok info w) (hby : info.bytes = bytes) (hz : ∀ w, (zeroValue el).run c.P w = .ok z w) (hzc : z.cells = List.toArray zl) (hzl : zl.length = sz) (hsmall : bytes * n ≤ 281474976710656 ∧ n ≤ 281474976710656)
    (k : ∀ r, c.B.heap.size ≤ r → XO c R ops rest ks (upd ρ d (.slice (some ⟨r, 0, none⟩) n n)) ds ((r, cel (List.replicate n zl).flatten el) :: L)) :
    XO c R ops (⟨some d, .makeSlice T x y, ty, pos, af, none⟩ :: rest) ks ρ ds L :=
  XO.valw hN rfl fun w hs hf => by
    refine ⟨_, newBlk w (cel (List.replicate n zl).flatten el), _, .inl ?_, hs.alloc _, hf.alloc _, Kp.alloc _ _ _, k w.heap.size hf.size⟩
    have hw : IntKind.i64.wrap (n : Int) = (n : Int) := by
      simp only [IntKind.wrap, IntKind.bits, IntKind.signed]; simp; omega
    simp only [execOp, hx, hy, Instr.makeSlice, asInt, asIntOf, Sem.run_bind, Sem.run_pure, Result.andThen_ok, hu, hti, hby, hw]
    have hb : ¬ ((bytes : Int) * (n : Int) > 2 ^ 48) := by
      have : (bytes : Int) * (n : Int) = ((bytes * n : Nat) : Int) := by simp
      rw [this]; have := hsmall.1; omega
    have hn0 : ¬ ((n : Int) < 0) := by omega
    simp only [hn0, hb, decide_false, Bool.or_self, Bool.false_or, Bool.false_eq_true, if_false, gt_iff_lt, Int.lt_irrefl]
    simp only [Sem.run_bind, run_askRoom, Result.andThen_ok, hsz, Int.toNat_natCast]
    by_cases h0 : n * sz = 0
    · have he : (List.replicate n zl).flatten = [] := by
        apply List.eq_nil_of_length_eq_zero; rw [List.length_flatten]; simp [hzl, h0]
      rw [if_pos h0]
      simp only [he, Sem.run_pure, Result.andThen_ok, zeros_none h0]
      simp [newRow, newBlk, cel]
    · rw [if_neg h0]
      simp only [Sem.run_bind, hz, Result.andThen_ok, hzc, Sem.run_pure]
      have e := zeros_eq zl n
      rw [hzl] at e
      rw [e]
      simp [newRow, newBlk, cel]

/-- A slice against nil. -/
theorem OV.eqNs {t yt e : TypeId} {x y : Operand} {a : Option Addr} {n m : Nat} (hx : evE ρ x = .slice a n m) (hy : evE ρ y = .slice none 0 0) (hu : ∀ w, (underlying t).run c.P w = .ok (.slice e) w) :
    OV c ρ L ⟨od, .binOp .eql t x y yt, ty, pos, af, none⟩ (.bool a.isNone) := fun w _ _ => by
  have hg : (eqGuard .eql t x y (.slice a n m) (.slice none 0 0)).run c.P w = .ok () w := rfl
  have he : (Op.equal t (.slice a n m) (.slice none 0 0)).run c.P w = .ok a.isNone w := by
    show (Op.equalIn (9999 + 1) t _ _).run c.P w = _
    rw [Op.equalIn, Sem.run_bind, hu, Result.andThen_ok]
    cases a <;> rfl
  simp only [execOp, hx, hy, Sem.run_bind, hg, Result.andThen_ok]
  have : binOp .eql t (.slice a n m) (.slice none 0 0) = (Op.equal t (.slice a n m) (.slice none 0 0) >>= fun b => pure (.bool b)) := rfl
  rw [this]; simp only [Sem.run_bind, he, Result.andThen_ok, Sem.run_pure]

theorem OV.eqB {t yt : TypeId} {x y : Operand} {a b : Bool} (hx : evE ρ x = .bool a) (hy : evE ρ y = .bool b) (hu : ∀ w, (underlying t).run c.P w = .ok .bool w) :
    OV c ρ L ⟨od, .binOp .eql t x y yt, ty, pos, af, none⟩ (.bool (a == b)) := fun w _ _ => by
  have hg : (eqGuard .eql t x y (.bool a) (.bool b)).run c.P w = .ok () w := rfl
  have he : (Op.equal t (.bool a) (.bool b)).run c.P w = .ok (a == b) w := by
    show (Op.equalIn (9999 + 1) t _ _).run c.P w = _
    rw [Op.equalIn, Sem.run_bind, hu, Result.andThen_ok]
    rfl
  simp only [execOp, hx, hy, Sem.run_bind, hg, Result.andThen_ok]
  have : binOp .eql t (.bool a) (.bool b) = (Op.equal t (.bool a) (.bool b) >>= fun b => pure (.bool b)) := rfl
  rw [this]; simp only [Sem.run_bind, he, Result.andThen_ok, Sem.run_pure]
theorem OV.neB {t yt : TypeId} {x y : Operand} {a b : Bool} (hx : evE ρ x = .bool a) (hy : evE ρ y = .bool b) (hu : ∀ w, (underlying t).run c.P w = .ok .bool w) :
    OV c ρ L ⟨od, .binOp .neq t x y yt, ty, pos, af, none⟩ (.bool (!(a == b))) := fun w _ _ => by
  have hg : (eqGuard .neq t x y (.bool a) (.bool b)).run c.P w = .ok () w := rfl
  have he : (Op.equal t (.bool a) (.bool b)).run c.P w = .ok (a == b) w := by
    show (Op.equalIn (9999 + 1) t _ _).run c.P w = _
    rw [Op.equalIn, Sem.run_bind, hu, Result.andThen_ok]
    rfl
  simp only [execOp, hx, hy, Sem.run_bind, hg, Result.andThen_ok]
  have : binOp .neq t (.bool a) (.bool b) = (Op.equal t (.bool a) (.bool b) >>= fun b => pure (.bool (!b))) := rfl
  rw [this]; simp only [Sem.run_bind, he, Result.andThen_ok, Sem.run_pure]
theorem OV.min2 {x y : Operand} {K : IntKind} {a b : Int} {tys : Array TypeId} (hx : evE ρ x = .int K a) (hy : evE ρ y = .int K b) :
    OV c ρ L ⟨od, .call ⟨.builtin .min, List.toArray [x, y], tys⟩, ty, pos, af, none⟩ (.int K (min a b)) := fun w _ _ => by
  simp only [execOp, resolve, List.map_toArray, List.map_cons, List.map_nil, hx, hy, Sem.run_bind, Sem.run_pure, Result.andThen_ok, invoke, builtin, Builtin.min_]
  have e : (if b < a then b else a) = min a b := by simp only [Int.min_def]; split <;> split <;> omega
  simp [Builtin.min2, e]
end ops
end Go.Mw
