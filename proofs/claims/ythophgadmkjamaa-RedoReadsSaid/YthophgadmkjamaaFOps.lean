/- THE ENGINE, 4: more operations. -/
import Derived.Test.YthophgadmkjamaaFCall
namespace Go.Mw
open Go
section ops
variable {c : Cx} {R : Post} {ops : Array Oper} {rest : List Oper} {ks : List Kt} {ρ : Env} {ds : List Deferred} {L : List Blk}
variable {d : Nat} {od : Option Nat} {ty : TypeId} {pos : String} {af : Array Edge}

/-- indexAddr, of a slice. -/
theorem OV.ixS {T el : TypeId} {x y : Operand} {r o len cap sz : Nat} {K : IntKind} {i : Int} (hx : evE ρ x = .slice (some ⟨r, o, none⟩) len cap) (hy : evE ρ y = .int K i)
    (hu : ∀ w, (underlying T).run c.P w = .ok (.slice el) w) (hz : ∀ w, (sizeOf el).run c.P w = .ok sz w) (h0 : 0 ≤ i) (h1 : i < (len : Int))
    : OV c ρ L ⟨od, .indexAddr T x y, ty, pos, af, none⟩ (.pointer (some ⟨r, o + i.toNat * sz, none⟩)) :=
  fun w _ _ => by
    simp only [execOp, hx, hy, Instr.indexAt, asIntOf, Sem.run_bind, Sem.run_pure, Result.andThen_ok, hu, hz, h0, h1, and_self, if_true, addr_add]
theorem OV.ixA {T el : TypeId} {x y : Operand} {r o len sz : Nat} {K : IntKind} {i : Int} (hx : evE ρ x = .pointer (some ⟨r, o, none⟩)) (hy : evE ρ y = .int K i)
    (hu : ∀ w, (underlying T).run c.P w = .ok (.array len el) w) (hz : ∀ w, (sizeOf el).run c.P w = .ok sz w) (h0 : 0 ≤ i) (h1 : i < (len : Int))
    : OV c ρ L ⟨od, .indexAddr T x y, ty, pos, af, none⟩ (.pointer (some ⟨r, o + i.toNat * sz, none⟩)) :=
  fun w _ _ => by
    simp only [execOp, hx, hy, Instr.indexAt, asIntOf, Instr.sureAddr, Sem.run_bind, Sem.run_pure, Result.andThen_ok, hu, hz, h0, h1, and_self, if_true, addr_add]
/-- index, of an array by value. -/
theorem OV.ixV {T el : TypeId} {x y : Operand} {l : List Value} {v : Value} {len : Nat} {K : IntKind} {i : Int} (hx : evE ρ x = .agg (List.toArray l)) (hy : evE ρ y = .int K i)
    (hu : ∀ w, (underlying T).run c.P w = .ok (.array len el) w) (hg : ∀ w, (isAgg el).run c.P w = .ok false w) (hz : ∀ w, (sizeOf el).run c.P w = .ok 1 w) (h0 : 0 ≤ i) (h1 : i < (len : Int)) (hk : nth l i.toNat = some v)
    : OV c ρ L ⟨od, .index T x y, ty, pos, af, none⟩ v :=
  fun w _ _ => by
    rw [nth_eq] at hk
    simp only [execOp, hx, hy, Instr.index, asIntOf, Sem.run_bind, Sem.run_pure, Result.andThen_ok, hu, hz, h0, h1, and_self, if_true, part, hg, Bool.false_eq_true, if_false, Nat.mul_one, List.getElem?_toArray, hk]
/-- field, of a struct by value. -/
theorem OV.fld {T : TypeId} {x : Operand} {f : Nat} {fs : Array Field} {fd : Field} {l : List Value} {v : Value} (hx : evE ρ x = .agg (List.toArray l))
    (hu : ∀ w, (underlying T).run c.P w = .ok (.struct fs) w) (hf : fs[f]? = some fd) (hg : ∀ w, (isAgg fd.type).run c.P w = .ok false w) (hk : nth l fd.offset = some v)
    : OV c ρ L ⟨od, .field T x f, ty, pos, af, none⟩ v :=
  fun w _ _ => by
    rw [nth_eq] at hk
    simp only [execOp, hx, Instr.field, asAgg, Sem.run_bind, Sem.run_pure, Result.andThen_ok, hu, hf, part, hg, Bool.false_eq_true, if_false, List.getElem?_toArray, hk]

theorem OV.lenS {T el : TypeId} {x : Operand} {a : Option Addr} {len cap : Nat} (hx : evE ρ x = .slice a len cap) (hu : ∀ w, (underlying T).run c.P w = .ok (.slice el) w)
    : OV c ρ L ⟨od, .call ⟨.builtin .len, List.toArray [x], #[T]⟩, ty, pos, af, none⟩ (.int .i64 (len : Int)) :=
  fun w _ _ => by
    simp only [execOp, resolve, List.map_toArray, List.map_cons, List.map_nil, hx, Sem.run_bind, Sem.run_pure, Result.andThen_ok, invoke, builtin, Builtin.len_]
    simp [hu, goInt]

/-- x[lo:hi] of a slice. -/
theorem OV.slS {T el : TypeId} {x : Operand} {lo hi : Option Operand} {r o len cap sz l h : Nat} (hx : evE ρ x = .slice (some ⟨r, o, none⟩) len cap) (hu : ∀ w, (underlying T).run c.P w = .ok (.slice el) w) (hz : ∀ w, (sizeOf el).run c.P w = .ok sz w)
    (hlo : match lo with | some y => evE ρ y = .int .i64 (l : Int) | none => l = 0) (hhi : match hi with | some y => evE ρ y = .int .i64 (h : Int) | none => h = len) (h1 : l ≤ h) (h2 : h ≤ cap) (hlt : l < cap)
    : OV c ρ L ⟨od, .slice T x lo hi none, ty, pos, af, none⟩ (.slice (some ⟨r, o + l * sz, none⟩) (h - l) (cap - l)) :=
  fun w _ _ => by
    have e1 : ((0 : Int) ≤ (h : Int) ∧ (h : Int) ≤ (cap : Int)) := ⟨by omega, by omega⟩
    have e2 : ((0 : Int) ≤ (l : Int) ∧ (l : Int) ≤ (h : Int)) := ⟨by omega, by omega⟩
    have hne : ¬ (cap = l) := by omega
    have hs : (Instr.sliceBounds true len cap (lo.map (evE ρ)) (hi.map (evE ρ)) none).run c.P w = .ok (l, h, cap) w := by
      unfold Instr.sliceBounds
      cases lo <;> cases hi <;> simp only [Option.map_none, Option.map_some] at hlo hhi ⊢
      · subst hlo hhi; simp
      · subst hlo; simp [hhi, Instr.sliceBound, asIntOf, e1, Nat.not_lt.2 h2]
      · subst hhi; simp [hlo, Instr.sliceBound, asIntOf, e2, Nat.not_lt.2 h1]
      · simp [hlo, hhi, Instr.sliceBound, asIntOf, h1, h2]
    simp only [execOp, hx, Instr.sliceAt, Sem.run_bind, hu, Result.andThen_ok, Instr.slice, Option.map_none, hs, hz, Sem.run_pure, if_neg hne, Option.map_some, addr_add]
/-- x[lo:hi] of an array. -/
theorem OV.slA {T el : TypeId} {x : Operand} {lo hi : Option Operand} {r o n sz l h : Nat} (hx : evE ρ x = .pointer (some ⟨r, o, none⟩)) (hu : ∀ w, (underlying T).run c.P w = .ok (.array n el) w) (hz : ∀ w, (sizeOf el).run c.P w = .ok sz w)
    (hlo : match lo with | some y => evE ρ y = .int .i64 (l : Int) | none => l = 0) (hhi : match hi with | some y => evE ρ y = .int .i64 (h : Int) | none => h = n) (h1 : l ≤ h) (h2 : h ≤ n) (hlt : l < n)
    : OV c ρ L ⟨od, .slice T x lo hi none, ty, pos, af, none⟩ (.slice (some ⟨r, o + l * sz, none⟩) (h - l) (n - l)) :=
  fun w _ _ => by
    have e1 : ((0 : Int) ≤ (h : Int) ∧ (h : Int) ≤ (n : Int)) := ⟨by omega, by omega⟩
    have e2 : ((0 : Int) ≤ (l : Int) ∧ (l : Int) ≤ (h : Int)) := ⟨by omega, by omega⟩
    have hne : ¬ (n = l) := by omega
    have hs : (Instr.sliceBounds false n n (lo.map (evE ρ)) (hi.map (evE ρ)) none).run c.P w = .ok (l, h, n) w := by
      unfold Instr.sliceBounds
      cases lo <;> cases hi <;> simp only [Option.map_none, Option.map_some] at hlo hhi ⊢
      · subst hlo hhi; simp
      · subst hlo; simp [hhi, Instr.sliceBound, asIntOf, e1, Nat.not_lt.2 h2]
      · subst hhi; simp [hlo, Instr.sliceBound, asIntOf, e2, Nat.not_lt.2 h1]
      · simp [hlo, hhi, Instr.sliceBound, asIntOf, h1, h2]
    simp only [execOp, hx, Instr.sliceAt, Sem.run_bind, hu, Result.andThen_ok, Instr.sureAddr, Sem.run_pure, Option.map_none, hs, hz, if_neg hne, addr_add]

/-- A value built, given as a fact of the program. -/
theorem OV.bld {T : TypeId} {ps : List (Nat × Operand)} {qs : List (Nat × Value)} {v : Value} (hq : Evs ρ (ps.map (·.2)) (qs.map (·.2))) (hi : ps.map (·.1) = qs.map (·.1)) (hb : ∀ w, (Instr.build T (List.toArray qs)).run c.P w = .ok v w)
    : OV c ρ L ⟨od, .build T (List.toArray ps), ty, pos, af, none⟩ v :=
  fun w _ _ => by
    have hm := hq.map
    have e : ps.map (fun p => (p.1, evE ρ p.2)) = qs := by
      clear hb
      induction ps generalizing qs with
      | nil => cases qs with
        | nil => rfl
        | cons _ _ => simp at hi
      | cons p ps ih => cases qs with
        | nil => simp at hi
        | cons q qs =>
          simp only [List.map_cons, List.cons.injEq] at hi hm ⊢
          cases hq with
          | cons _ t => exact ⟨by rw [hm.1, hi.1], ih t hi.2 hm.2⟩
    simp only [execOp, List.map_toArray, Sem.run_bind]
    rw [show (ps.map fun (x : Nat × Operand) => match x with | (i, x) => (i, evE ρ x)) = qs from e]
    simp only [hb, Result.andThen_ok, Sem.run_pure]

theorem OV.mkF {fn : Fn} {fst cap : List Operand} {vf vs : List Value} (hf : Evs ρ fst vf) (hc : Evs ρ cap vs) : OV c ρ L ⟨od, .makeFunc fn (List.toArray fst) (List.toArray cap), ty, pos, af, none⟩ (.func fn (List.toArray vf) (List.toArray vs)) :=
  fun w _ _ => by simp only [execOp, List.map_toArray, hf.map, hc.map]; rfl

/-- pointers against nil. -/
theorem run_eqNil {P : Program} {op : BinOp} {t : TypeId} {x y : Operand} {yt : TypeId} {e : TypeId} {p : Option Addr} {b : Bool} (hop : op = .eql ∨ op = .neq) (hu : ∀ w, (underlying t).run P w = .ok (.pointer e) w) (hx : evE ρ x = .pointer p) (hy : evE ρ y = .pointer none)
    (hb : b = (if op = .eql then p.isNone else !p.isNone)) (w : World) : (execOp (evE ρ) ⟨od, .binOp op t x y yt, ty, pos, af, none⟩).run P w = .ok (.value (.bool b)) w := by
  have hg : (eqGuard op t x y (.pointer p) (.pointer none)).run P w = .ok () w := by
    unfold eqGuard; rcases hop with rfl | rfl <;> rfl
  have he : (Op.equal t (.pointer p) (.pointer none)).run P w = .ok p.isNone w := by
    show (Op.equalIn (9999 + 1) t (.pointer p) (.pointer none)).run P w = _
    rw [Op.equalIn, Sem.run_bind, hu, Result.andThen_ok]
    cases p <;> rfl
  simp only [execOp, hx, hy, Sem.run_bind, hg, Result.andThen_ok]
  rcases hop with rfl | rfl
  · have : binOp .eql t (.pointer p) (.pointer none) = (Op.equal t (.pointer p) (.pointer none) >>= fun b => pure (.bool b)) := by cases p <;> rfl
    rw [this]; simp only [Sem.run_bind, he, Result.andThen_ok, Sem.run_pure, hb, if_true]
  · have : binOp .neq t (.pointer p) (.pointer none) = (Op.equal t (.pointer p) (.pointer none) >>= fun b => pure (.bool (!b))) := by cases p <;> rfl
    rw [this]; simp only [Sem.run_bind, he, Result.andThen_ok, Sem.run_pure, hb]; rfl
theorem OV.eqN {t yt e : TypeId} {x y : Operand} {p : Option Addr} (hx : evE ρ x = .pointer p) (hy : evE ρ y = .pointer none) (hu : ∀ w, (underlying t).run c.P w = .ok (.pointer e) w) : OV c ρ L ⟨od, .binOp .eql t x y yt, ty, pos, af, none⟩ (.bool p.isNone) :=
  fun w _ _ => run_eqNil (.inl rfl) hu hx hy rfl w
theorem OV.neN {t yt e : TypeId} {x y : Operand} {p : Option Addr} (hx : evE ρ x = .pointer p) (hy : evE ρ y = .pointer none) (hu : ∀ w, (underlying t).run c.P w = .ok (.pointer e) w) : OV c ρ L ⟨od, .binOp .neq t x y yt, ty, pos, af, none⟩ (.bool (!p.isNone)) :=
  fun w _ _ => run_eqNil (.inr rfl) hu hx hy rfl w

theorem OV.cvt {s t : TypeId} {x : Operand} {K K' : IntKind} {S : TypeDesc} {a z : Int} (hx : evE ρ x = .int K a) (hs : ∀ w, (underlying s).run c.P w = .ok S w) (hS : (match S with | .int _ => true | _ => false) = true) (ht : ∀ w, (underlying t).run c.P w = .ok (.int K') w) (hz : K'.wrap a = z)
    : OV c ρ L ⟨od, .convert s t x, ty, pos, af, none⟩ (.int K' z) :=
  fun w _ _ => by
    subst hz
    cases S <;> simp at hS
    simp only [execOp, convert, hx, Sem.run_bind, hs, ht, Result.andThen_ok, Conv.intToInt, Sem.run_pure]
end ops
end Go.Mw
