/- THE ENGINE, 9: whole structs and arrays compared; copy; scopes. -/
import Derived.Test.YthophgadmkjamaaFAppend
import Derived.ChangeKeysEq
namespace Go.Mw
open Go

/-- Two cells of one kind, compared. -/
def eqv : Value → Value → Bool
  | .int _ a, .int _ b => a == b
  | .bool a, .bool b => a == b
  | _, _ => false
/-- Whole numbers of one kind (true), or Bools (false), at the same place. -/
def alike1 : Bool → Value → Value → Bool
  | true, .int k _, .int k' _ => decide (k = k')
  | false, .bool _, .bool _ => true
  | _, _, _ => false
def eqvs : List Value → List Value → Bool
  | [], [] => true
  | x :: xs, y :: ys => eqv x y && eqvs xs ys
  | _, _ => false
def alike : List Bool → List Value → List Value → Bool
  | [], [], [] => true
  | s :: sh, x :: xs, y :: ys => alike1 s x y && alike sh xs ys
  | _, _, _ => false

theorem eqvs_append : ∀ {a b c d : List Value}, a.length = b.length → eqvs (a ++ c) (b ++ d) = (eqvs a b && eqvs c d)
  | [], [], _, _, _ => by simp [eqvs]
  | x :: a, y :: b, c, d, h => by
    simp only [List.cons_append, eqvs, eqvs_append (a := a) (b := b) (c := c) (d := d) (by simpa using h), Bool.and_assoc]
  | [], _ :: _, _, _, h => by simp at h
  | _ :: _, [], _, _, h => by simp at h
theorem alike_append : ∀ {s t : List Bool} {a b c d : List Value}, a.length = s.length → b.length = s.length → alike (s ++ t) (a ++ c) (b ++ d) = (alike s a b && alike t c d)
  | [], t, [], [], _, _, _, _ => by simp [alike]
  | x :: s, t, y :: a, z :: b, c, d, h, h' => by
    simp only [List.cons_append, alike, alike_append (s := s) (t := t) (a := a) (b := b) (c := c) (d := d) (by simpa using h) (by simpa using h'), Bool.and_assoc]
  | [], _, _ :: _, _, _, _, h, _ => by simp at h
  | [], _, _, _ :: _, _, _, _, h => by simp at h
  | _ :: _, _, [], _, _, _, h, _ => by simp at h
  | _ :: _, _, _, [], _, _, _, h => by simp at h
theorem alike_length : ∀ {s : List Bool} {a b : List Value}, alike s a b = true → a.length = s.length ∧ b.length = s.length
  | [], [], [], _ => ⟨rfl, rfl⟩
  | _ :: s, _ :: a, _ :: b, h => by
    simp only [alike, Bool.and_eq_true] at h
    have := alike_length h.2
    exact ⟨by simp [this.1], by simp [this.2]⟩
  | [], _ :: _, _, h => by simp [alike] at h
  | [], [], _ :: _, h => by simp [alike] at h
  | _ :: _, [], _, h => by simp [alike] at h
  | _ :: _, _ :: _, [], h => by simp [alike] at h
theorem alike_split {s t : List Bool} {xs ys : List Value} (h : alike (s ++ t) xs ys = true) :
    alike s (xs.take s.length) (ys.take s.length) = true ∧ alike t (xs.drop s.length) (ys.drop s.length) = true ∧ eqvs xs ys = (eqvs (xs.take s.length) (ys.take s.length) && eqvs (xs.drop s.length) (ys.drop s.length)) := by
  obtain ⟨h1, h2⟩ := alike_length h
  simp only [List.length_append] at h1 h2
  have l1 : (xs.take s.length).length = s.length := by simp; omega
  have l2 : (ys.take s.length).length = s.length := by simp; omega
  have e1 := alike_append (s := s) (t := t) (c := xs.drop s.length) (d := ys.drop s.length) l1 l2
  have e2 := eqvs_append (c := xs.drop s.length) (d := ys.drop s.length) (l1.trans l2.symm)
  rw [List.take_append_drop, List.take_append_drop] at e1 e2
  rw [e1] at h
  simp only [Bool.and_eq_true] at h
  exact ⟨h.1, h.2, e2⟩

/-- The fields, one behind the other, each of a shape that F takes. -/
def FlatF (F : TypeId → List Bool → Prop) : Nat → List Field → List Bool → Prop
  | _, [], sh => sh = []
  | off, f :: fs, sh => f.offset = off ∧ f.name ≠ "_" ∧ ∃ s1 s2, sh = s1 ++ s2 ∧ F f.type s1 ∧ FlatF F (off + s1.length) fs s2
/-- A type made of whole numbers and Bools alone: its cells' shape. -/
def Flat (P : Program) : Nat → TypeId → List Bool → Prop
  | 0, _, _ => False
  | d + 1, t, sh =>
    ((∃ k, P.underlying t = some (.int k)) ∧ sh = [true] ∧ (∀ w, (isAgg t).run P w = .ok false w) ∧ ∀ w, (sizeOf t).run P w = .ok 1 w) ∨
    (P.underlying t = some .bool ∧ sh = [false] ∧ (∀ w, (isAgg t).run P w = .ok false w) ∧ ∀ w, (sizeOf t).run P w = .ok 1 w) ∨
    (∃ m e s i, P.underlying t = some (.array m e) ∧ P.info? e = some i ∧ P.cellsOf e = s.length ∧ Flat P d e s ∧ sh = (List.replicate m s).flatten ∧ (∀ w, (isAgg t).run P w = .ok true w) ∧ ∀ w, (sizeOf t).run P w = .ok sh.length w) ∨
    (P.underlying t = some (.struct (P.fieldsOf t)) ∧ P.stoodInHeld t = false ∧ FlatF (Flat P d) 0 (P.fieldsOf t).toList sh ∧ (∀ w, (isAgg t).run P w = .ok true w) ∧ ∀ w, (sizeOf t).run P w = .ok sh.length w)

def asV (agg : Bool) (xs : List Value) : Value := if agg then .agg (List.toArray xs) else xs.headD undef
def EqT (P : Program) (d : Nat) (t : TypeId) (sh : List Bool) : Prop := ∃ agg, (∀ w, (isAgg t).run P w = .ok agg w) ∧ (∀ w, (sizeOf t).run P w = .ok sh.length w) ∧ (agg = false → sh.length = 1) ∧
  ∀ w (xs ys : List Value), alike sh xs ys = true → (Op.equalIn d t (asV agg xs) (asV agg ys)).run P w = .ok (eqvs xs ys) w

theorem run_part {P : Program} {w : World} {t : TypeId} {agg : Bool} {X xs : List Value} {off n : Nat} (ha : ∀ w, (isAgg t).run P w = .ok agg w) (hs : ∀ w, (sizeOf t).run P w = .ok n w) (h1 : agg = false → n = 1) (hx : (X.drop off).take n = xs) (hn : xs.length = n) :
    (part t (List.toArray X) off).run P w = .ok (asV agg xs) w := by
  cases agg with
  | true =>
    simp only [part, Sem.run_bind, ha, Result.andThen_ok, if_true, hs, Sem.run_pure, asV]
    congr 2
    simp only [List.extract_toArray, List.extract_eq_take_drop]
    rw [← hx]; simp
  | false =>
    have h1 := h1 rfl
    subst h1
    match xs, hn with
    | [v], _ =>
      have hv : X[off]? = some v := by
        have : ((X.drop off).take 1)[0]? = some v := by rw [hx]; rfl
        rw [List.getElem?_take_of_lt (by omega), List.getElem?_drop] at this
        simpa using this
      simp only [part, Sem.run_bind, ha, Result.andThen_ok, Bool.false_eq_true, if_false, List.getElem?_toArray, hv, Sem.run_pure, asV, List.headD_cons]

theorem flat_fields {P : Program} {F : TypeId → List Bool → Prop} {d : Nat} (hF : ∀ t n, F t n → EqT P d t n) (X Y : List Value) : ∀ (fs : List Field) (off : Nat) (sh : List Bool), FlatF F off fs sh → ∀ w, alike sh (X.drop off) (Y.drop off) = true →
    (Op.eqFields d (List.toArray X) (List.toArray Y) fs).run P w = .ok (eqvs (X.drop off) (Y.drop off)) w
  | [], off, sh, h, w, hal => by
    simp only [FlatF] at h
    subst h
    obtain ⟨l1, l2⟩ := alike_length hal
    have e1 : X.drop off = [] := List.eq_nil_of_length_eq_zero (by simpa using l1)
    have e2 : Y.drop off = [] := List.eq_nil_of_length_eq_zero (by simpa using l2)
    rw [e1, e2]
    simp [Op.eqFields, eqvs]
  | f :: fs, off, sh, h, w, hal => by
    obtain ⟨ho, hname, s1, s2, rfl, hk, hrest⟩ := h
    obtain ⟨agg, ha, hs, h1, heq⟩ := hF _ _ hk
    obtain ⟨p1, p2, p3⟩ := alike_split hal
    obtain ⟨l1, l2⟩ := alike_length p1
    simp only [Op.eqFields, if_pos hname, ho, Sem.run_bind, run_part ha hs h1 rfl l1, run_part ha hs h1 rfl l2, Result.andThen_ok, heq w _ _ p1]
    rw [List.drop_drop, List.drop_drop] at p2
    have ih := flat_fields hF X Y fs (off + s1.length) s2 hrest w p2
    rw [p3]
    simp only [List.drop_drop]
    cases hb : eqvs ((X.drop off).take s1.length) ((Y.drop off).take s1.length) with
    | true => simpa using ih
    | false => simp

theorem flat_items {P : Program} {d : Nat} {e : TypeId} {s : List Bool} (hE : EqT P d e s) (X Y : List Value) : ∀ (m i : Nat) w, alike (List.replicate m s).flatten (X.drop (i * s.length)) (Y.drop (i * s.length)) = true →
    (Op.eqItems d e s.length (List.toArray X) (List.toArray Y) (List.range' i m)).run P w = .ok (eqvs (X.drop (i * s.length)) (Y.drop (i * s.length))) w
  | 0, i, w, hal => by
    obtain ⟨l1, l2⟩ := alike_length hal
    have e1 : X.drop (0 + i * s.length) = [] := List.eq_nil_of_length_eq_zero (by simpa using l1)
    have e2 : Y.drop (0 + i * s.length) = [] := List.eq_nil_of_length_eq_zero (by simpa using l2)
    rw [Nat.zero_add] at e1 e2
    rw [e1, e2]
    simp [Op.eqItems, eqvs]
  | m + 1, i, w, hal => by
    obtain ⟨agg, ha, hs, h1, heq⟩ := hE
    rw [List.replicate_succ, List.flatten_cons] at hal
    obtain ⟨p1, p2, p3⟩ := alike_split hal
    obtain ⟨l1, l2⟩ := alike_length p1
    have e2 : (i + 1) * s.length = i * s.length + s.length := by rw [Nat.add_mul, Nat.one_mul]
    have ih := flat_items ⟨agg, ha, hs, h1, heq⟩ X Y m (i + 1) w (by rw [e2]; rw [List.drop_drop, List.drop_drop] at p2; exact p2)
    rw [List.range'_succ]
    simp only [Op.eqItems, Sem.run_bind, run_part ha hs h1 rfl l1, run_part ha hs h1 rfl l2, Result.andThen_ok, heq w _ _ p1]
    rw [p3]
    simp only [List.drop_drop, ← e2]
    cases hb : eqvs ((X.drop (i * s.length)).take s.length) ((Y.drop (i * s.length)).take s.length) with
    | true => simpa using ih
    | false => simp

theorem flat_eq {P : Program} (j : Nat) : ∀ (d : Nat) (t : TypeId) (sh : List Bool), Flat P d t sh → EqT P (d + j) t sh
  | 0, _, _, h => by cases h
  | d + 1, t, sh, h => by
    have hd : d + 1 + j = d + j + 1 := by omega
    rw [hd]
    rcases h with ⟨⟨k, hu⟩, rfl, ha, hs⟩ | ⟨hu, rfl, ha, hs⟩ | ⟨m, e, s, i, hu, hi, hk, he, rfl, ha, hs⟩ | ⟨hu, hst, hF, ha, hs⟩
    · refine ⟨false, ha, hs, fun _ => rfl, fun w xs ys hal => ?_⟩
      match xs, ys with
      | [x], [y] =>
        simp only [alike, Bool.and_true] at hal
        simp only [asV, List.headD_cons, Bool.false_eq_true, if_false, eqvs, Bool.and_true]
        cases x <;> cases y <;> simp only [alike1, Bool.false_eq_true] at hal
        case int.int k1 a k2 b =>
          have : k1 = k2 := by simpa using hal
          subst this
          simp only [eqv]
          exact run_equalIn_int w (d + j) t _ k _ _ hu
      | [], _ => simp [alike] at hal
      | [x], [] => simp [alike] at hal
      | [x], _ :: _ :: _ => simp [alike] at hal
      | _ :: _ :: _, [] => simp [alike] at hal
      | _ :: _ :: _, _ :: _ => simp [alike] at hal
    · refine ⟨false, ha, hs, fun _ => rfl, fun w xs ys hal => ?_⟩
      match xs, ys with
      | [x], [y] =>
        simp only [alike, Bool.and_true] at hal
        simp only [asV, List.headD_cons, Bool.false_eq_true, if_false, eqvs, Bool.and_true]
        cases x <;> cases y <;> simp only [alike1, Bool.false_eq_true] at hal
        simp only [eqv]
        exact run_equalIn_bool' w (d + j) t _ _ hu
      | [], _ => simp [alike] at hal
      | [x], [] => simp [alike] at hal
      | [x], _ :: _ :: _ => simp [alike] at hal
      | _ :: _ :: _, [] => simp [alike] at hal
      | _ :: _ :: _, _ :: _ => simp [alike] at hal
    · refine ⟨true, ha, hs, fun h => by (cases h), fun w xs ys hal => ?_⟩
      simp only [asV, if_true]
      rw [run_equalIn_array w (d + j) _ _ hu hi, List.range_eq_range', hk]
      have := flat_items (flat_eq j d e s he) xs ys m 0 w (by simpa using hal)
      simpa using this
    · refine ⟨true, ha, hs, fun h => by (cases h), fun w xs ys hal => ?_⟩
      simp only [asV, if_true]
      rw [run_equalIn_agg w (d + j) t _ _ hu hst]
      have := flat_fields (fun t n h => flat_eq j d t n h) xs ys _ 0 sh hF w (by simpa using hal)
      simpa using this

section ops
variable {c : Cx} {ρ : Env} {L : List Blk} {od : Option Nat} {ty : TypeId} {pos : String} {af : Array Edge}
theorem run_eqA {P : Program} {T : TypeId} {sh : List Bool} {xs ys : List Value} (hfl : Flat P 8 T sh) (hag : ∀ w, (isAgg T).run P w = .ok true w) (hal : alike sh xs ys = true) (w : World) :
    (Op.equalIn 10000 T (.agg (List.toArray xs)) (.agg (List.toArray ys))).run P w = .ok (eqvs xs ys) w := by
  obtain ⟨agg, ha, _, _, h⟩ := flat_eq 9992 8 T sh hfl
  have : agg = true := by
    have := (ha w).symm.trans (hag w)
    simpa using this
  subst this
  exact h w xs ys hal
theorem OV.eqA {T yt : TypeId} {x y : Operand} {sh : List Bool} {xs ys : List Value} (hx : evE ρ x = .agg (List.toArray xs)) (hy : evE ρ y = .agg (List.toArray ys)) (hfl : Flat c.P 8 T sh) (hag : ∀ w, (isAgg T).run c.P w = .ok true w) (hg : c.P.eqGuardType c.P.depth T = false) (hal : alike sh xs ys = true) :
    OV c ρ L ⟨od, .binOp .eql T x y yt, ty, pos, af, none⟩ (.bool (eqvs xs ys)) := fun w _ _ => by
  simp only [execOp, hx, hy, Sem.run_bind, run_eqGuard_agg w _ _ _ _ _ _ hg, run_eql_struct, run_eqA hfl hag hal, Result.andThen_ok, Sem.run_pure]
theorem OV.neA {T yt : TypeId} {x y : Operand} {sh : List Bool} {xs ys : List Value} (hx : evE ρ x = .agg (List.toArray xs)) (hy : evE ρ y = .agg (List.toArray ys)) (hfl : Flat c.P 8 T sh) (hag : ∀ w, (isAgg T).run c.P w = .ok true w) (hg : c.P.eqGuardType c.P.depth T = false) (hal : alike sh xs ys = true) :
    OV c ρ L ⟨od, .binOp .neq T x y yt, ty, pos, af, none⟩ (.bool (!eqvs xs ys)) := fun w _ _ => by
  simp only [execOp, hx, hy, Sem.run_bind, run_eqGuard_agg w _ _ _ _ _ _ hg, run_neq_struct, run_eqA hfl hag hal, Result.andThen_ok, Sem.run_pure]
end ops
end Go.Mw
