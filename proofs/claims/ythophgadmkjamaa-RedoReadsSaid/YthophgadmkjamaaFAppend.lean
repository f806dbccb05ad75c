/- THE ENGINE, 8: append and copy. -/
import Derived.Test.YthophgadmkjamaaFOps2
namespace Go.Mw
open Go

/-- A block taken out of the list. -/
inductive Tak (r : Nat) (o : Obj) : List Blk → List Blk → Prop where
  | hd {L} : Tak r o ((r, o) :: L) L
  | tl {x L L'} (h : Tak r o L L') : Tak r o (x :: L) (x :: L')
theorem Tak.split {r : Nat} {o : Obj} {L L' : List Blk} (h : Tak r o L L') : ∃ a b, L = a ++ (r, o) :: b ∧ L' = a ++ b := by
  induction h with
  | hd => exact ⟨[], _, rfl, rfl⟩
  | @tl x _ _ _ ih => obtain ⟨a, b, rfl, rfl⟩ := ih; exact ⟨x :: a, b, rfl, rfl⟩

theorem Tak.app {r : Nat} {o : Obj} {A L L' : List Blk} (h : Tak r o L L') : Tak r o (A ++ L) (A ++ L') := by
  induction A with
  | nil => exact h
  | cons x A ih => exact .tl ih
theorem Del.app {r : Nat} {A L L' : List Blk} (h : Del r L L') : Del r (A ++ L) (A ++ L') := by
  induction A with
  | nil => exact h
  | cons x A ih => exact .tl ih
theorem Put.app {r : Nat} {o o' : Obj} {A L L' : List Blk} (h : Put r o o' L L') : Put r o o' (A ++ L) (A ++ L') := by
  induction A with
  | nil => exact h
  | cons x A ih => exact .tl ih

/-- A slice that begins its block, or nil: the block, the capacity, the spare cells. -/
structure Sl where
  r : Option Nat
  cap : Nat
  sp : List Value
def slV (s : Sl) (n : Nat) : Value := .slice (s.r.map fun r => ⟨r, 0, none⟩) n s.cap
def slB (s : Sl) (xs : List Value) (el : TypeId) : List Blk := match s.r with
  | none => []
  | some r => [(r, cel (xs ++ s.sp) el)]
def Own (s : Sl) (n : Nat) (xs : List Value) (sz : Nat) : Prop := xs.length = n * sz ∧ match s.r with
  | none => n = 0 ∧ s.cap = 0 ∧ s.sp = []
  | some _ => n ≤ s.cap ∧ s.sp.length = (s.cap - n) * sz
def nilS : Sl := ⟨none, 0, []⟩
theorem Own.nil (sz : Nat) : Own nilS 0 [] sz := ⟨by simp, rfl, rfl, rfl⟩

theorem growBy_le (need : Nat) : ∀ (k c : Nat), c ≤ need + (need + 768) / 4 → Builtin.growBy need k c ≤ need + (need + 768) / 4
  | 0, c, h => h
  | k + 1, c, h => by
    simp only [Builtin.growBy]
    split
    · exact h
    · exact growBy_le need k _ (by omega)
theorem nsc_le {need cap : Nat} (h : cap < need) : Builtin.nextslicecap need cap ≤ 2 * need + 200 := by
  unfold Builtin.nextslicecap
  split
  · omega
  · split
    · omega
    · have := growBy_le need 4 cap (by omega); omega

theorem need_ok {k bytes : Nat} (h : k ≤ 281474976710656) : ¬ (((k : Nat) : Int) > IntKind.i64.max ∧ bytes = 0) := by
  rintro ⟨h', _⟩
  simp [IntKind.max, IntKind.bits, IntKind.signed] at h'
  omega
theorem nsc_ok {need cap bytes : Nat} (hc : cap < need) (h : (2 * need + 200) * bytes ≤ 281474976710656) : ¬ (Builtin.nextslicecap need cap * bytes > 2 ^ 48) := by
  have h2 := Nat.mul_le_mul_right bytes (nsc_le hc)
  omega
theorem cut_ge (need old : Nat) (el : TypeId) (t : Nat) : need ≤ (Question.appendCap need old el).cut t := by
  simp only [Question.cut]
  exact Nat.le_add_right _ _

section ops
variable {c : Cx} {R : Post} {ops : Array Oper} {rest : List Oper} {ks : List Kt} {ρ : Env} {ds : List Deferred} {L : List Blk}
variable {d : Nat} {od : Option Nat} {ty : TypeId} {pos : String} {af : Array Edge}

theorem run_firstCells {P : Program} {w : World} {q o n sz m mc : Nat} {lq ys : List Value} {E : TypeId} {fr : Nat × Nat} (h : w.heap[q]? = some (.cells (List.toArray lq) E fr)) (hv : (lq.drop o).take (n * sz) = ys) (hn : ys.length = n * sz) :
    (Builtin.firstCells sz n (.slice (some ⟨q, o, none⟩) m mc)).run P w = .ok (List.toArray ys) w := run_loadRow h hv hn

/-- append(s, x...): s begins its block or is nil; x lies elsewhere. -/
theorem XO.ap {T T2 el e2 : TypeId} {x y : Operand} {s : Sl} {n m mc q o sz bytes : Nat} {info : TypeInfo} {z : Value} {zl lq ys xs : List Value} {E : TypeId} {fr : Nat × Nat} {L1 : List Blk}
    (hN : Nat.blt d c.N = true) (hx : evE ρ x = slV s n) (hy : evE ρ y = .slice (some ⟨q, o, none⟩) m mc) (hown : Own s n xs sz)
    (hu : ∀ w, (underlying T).run c.P w = .ok (.slice el) w) (hu2 : ∀ w, (underlying T2).run c.P w = .ok (.slice e2) w)
    (hsz : ∀ w, (sizeOf el).run c.P w = .ok sz w) (hti : ∀ w, (typeInfo el).run c.P w = .ok info w) (hby : info.bytes = bytes) (hz : ∀ w, (zeroValue el).run c.P w = .ok z w) (hzc : z.cells = List.toArray zl) (hzl : zl.length = sz)
    (hL : match s.r with | none => L1 = L | some r => ∃ a b, L = a ++ (r, cel (xs ++ s.sp) el) :: b ∧ L1 = a ++ b)
    (hq : (q, .cells (List.toArray lq) E fr) ∈ L1) (hv : (lq.drop o).take (m * sz) = ys) (hyl : ys.length = m * sz) (hone : ∀ v ∈ ys, v.oneCell' = true)
    (hw : ∀ r, s.r = some r → Wr c r) (hm : 1 ≤ m ∨ s.r ≠ none) (hsmall : (2 * (n + m) + 200) * bytes ≤ 281474976710656 ∧ n + m ≤ 281474976710656)
    (k : ∀ r' cap' sp', Own ⟨some r', cap', sp'⟩ (n + m) (xs ++ ys) sz → Wr c r' → (s.r = some r' ∨ c.B.heap.size ≤ r') → XO c R ops rest ks (upd ρ d (.slice (some ⟨r', 0, none⟩) (n + m) cap')) ds ((r', cel ((xs ++ ys) ++ sp') el) :: L1)) :
    XO c R ops (⟨some d, .call ⟨.builtin .append, List.toArray [x, y], #[T, T2]⟩, ty, pos, af, none⟩ :: rest) ks ρ ds L :=
  XO.step hN rfl fun w hs hf => by
    have hs1 : Hs L1 w := by
      cases hr : s.r with
      | none => rw [hr] at hL; simp only at hL; rw [hL]; exact hs
      | some r =>
        rw [hr] at hL
        obtain ⟨a, b, rfl, rfl⟩ := hL
        exact hs.sub ((List.Sublist.refl a).append (List.sublist_cons_self _ _))
    have hqw := hs1.mem _ hq
    have hff : (Builtin.firstCells sz m (.slice (some ⟨q, o, none⟩) m mc)).run c.P w = .ok (List.toArray ys) w := run_firstCells hqw hv hyl
    have hlen : (Builtin.lenOf (.slice (some ⟨q, o, none⟩) m mc)).run c.P w = .ok m w := rfl
    obtain ⟨hxl, hcase⟩ := hown
    have hmul : (n + m) * sz = n * sz + m * sz := Nat.add_mul _ _ _
    by_cases hfit : n + m ≤ s.cap
    · -- there is room
      cases hr : s.r with
      | none =>
        rw [hr] at hcase
        simp only at hcase
        exfalso
        rcases hm with h | h
        · omega
        · exact h hr
      | some r =>
        rw [hr] at hcase hL
        simp only at hcase
        obtain ⟨a, b, rfl, rfl⟩ := hL
        have hrw : w.heap[r]? = some (cel (xs ++ s.sp) el) := hs.mem (r, cel (xs ++ s.sp) el) (by simp)
        have hfits : n * sz + m * sz ≤ n * sz + s.sp.length := by
          rw [hcase.2, ← Nat.add_mul, ← Nat.add_mul]
          exact Nat.mul_le_mul_right _ (by omega)
        have hst : (storeCells ⟨r, 0 + n * sz, none⟩ ys).run c.P w = .ok () (setBlk w r (cel (splice (xs ++ s.sp) (0 + n * sz + 0) ys) el)) :=
          run_storeCells (0 + n * sz) ys w (xs ++ s.sp) 0 hrw (by simp only [List.length_append]; omega) hone
        have hsp : splice (xs ++ s.sp) (0 + n * sz + 0) ys = (xs ++ ys) ++ s.sp.drop ys.length := by
          simp only [Nat.zero_add, Nat.add_zero, splice, ← hxl]
          rw [List.take_left', List.append_assoc, List.drop_append, List.drop_of_length_le (by omega)]
          · simp
          · rfl
        have hrun : (execOp (evE ρ) ⟨some d, .call ⟨.builtin .append, List.toArray [x, y], #[T, T2]⟩, ty, pos, af, none⟩).run c.P w = .ok (.value (.slice (some ⟨r, 0, none⟩) (n + m) s.cap)) (setBlk w r (cel ((xs ++ ys) ++ s.sp.drop ys.length) el)) := by
          simp only [execOp, resolve, List.map_toArray, List.map_cons, List.map_nil, hx, hy, slV, hr, Option.map_some, Sem.run_bind, Sem.run_pure, Result.andThen_ok, invoke, builtin, Builtin.append_]
          simp only [List.getElem?_toArray, List.getElem?_cons_zero, List.getElem?_cons_succ, Sem.run_bind, hu, hsz, hu2, Result.andThen_ok, Sem.run_pure]
          simp only [if_false, Bool.false_eq_true]
          rw [Sem.run_bind, hlen, Result.andThen_ok, if_pos hfit]
          simp only [Bool.not_false, if_true, Sem.run_bind, hff, Result.andThen_ok, Sem.run_pure]
          rw [addr_add, hst, hsp]
          rfl
        unfold OpOut
        rw [hrun]
        have hput : Put r (cel (xs ++ s.sp) el) (cel ((xs ++ ys) ++ s.sp.drop ys.length) el) (a ++ (r, cel (xs ++ s.sp) el) :: b) (a ++ (r, cel ((xs ++ ys) ++ s.sp.drop ys.length) el) :: b) := by
          clear hs hrun k hw hq hs1
          induction a with
          | nil => exact .hd
          | cons x a ih => exact .tl ih
        have hs2 := hs.put hput
        have hs3 : Hs ((r, cel ((xs ++ ys) ++ s.sp.drop ys.length) el) :: (a ++ b)) (setBlk w r (cel ((xs ++ ys) ++ s.sp.drop ys.length) el)) := by
          refine ⟨?_, fun x hx => hs2.mem x ?_⟩
          · have := hs2.nodup
            exact (List.pairwise_middle (fun h => Ne.symm h)).1 this
          · simp only [List.mem_cons, List.mem_append] at hx ⊢
            rcases hx with h | h | h
            · exact .inr (.inl h)
            · exact .inl h
            · exact .inr (.inr h)
        refine ⟨_, hs3, hf.set (hw r hr) (lt_of_some hrw) _, ⟨hput.kp.1, fun x hx => .inl ?_⟩, k r s.cap _ ⟨by simp only [List.length_append]; omega, hfit, ?_⟩ (hw r hr) (.inl hr)⟩
        · rcases List.mem_cons.1 hx with rfl | hx
          · exact ⟨(r, cel (xs ++ s.sp) el), by simp, rfl⟩
          · exact ⟨x, by simp only [List.mem_append, List.mem_cons] at hx ⊢; rcases hx with h | h; exact .inl h; exact .inr (.inr h), rfl⟩
        show (s.sp.drop ys.length).length = (s.cap - (n + m)) * sz
        rw [List.length_drop, hcase.2, hyl, ← Nat.sub_mul]
        congr 1; omega
    · -- a new array
      have hnsc : ¬ (Builtin.nextslicecap (n + m) s.cap * bytes > 2 ^ 48) := nsc_ok (by omega) hsmall.1
      have hneed : ¬ (((n + m : Nat) : Int) > IntKind.i64.max ∧ bytes = 0) := need_ok hsmall.2
      have hold : (Builtin.firstCells sz n (slV s n)).run c.P { w with drawn := w.drawn + 1 } = .ok (List.toArray xs) { w with drawn := w.drawn + 1 } := by
        cases hr : s.r with
        | none =>
          rw [hr] at hcase
          simp only at hcase
          have : xs = [] := List.eq_nil_of_length_eq_zero (by rw [hxl, hcase.1]; simp)
          subst this
          simp only [slV, hr, Option.map_none]
          rfl
        | some r =>
          rw [hr] at hL
          obtain ⟨a, b, rfl, rfl⟩ := hL
          have hrw : ({ w with drawn := w.drawn + 1 } : World).heap[r]? = some (cel (xs ++ s.sp) el) := hs.mem (r, cel (xs ++ s.sp) el) (by simp)
          simp only [slV, hr, Option.map_some]
          exact run_firstCells hrw (by rw [List.drop_zero, ← hxl]; simp) hxl
      have hnew : (Builtin.firstCells sz m (.slice (some ⟨q, o, none⟩) m mc)).run c.P { w with drawn := w.drawn + 1 } = .ok (List.toArray ys) { w with drawn := w.drawn + 1 } := run_firstCells (w := { w with drawn := w.drawn + 1 }) hqw hv hyl
      obtain ⟨nc, hnc, hcut⟩ : ∃ nc, n + m ≤ nc ∧ (Question.appendCap (n + m) s.cap el).cut (w.tape w.drawn (.appendCap (n + m) s.cap el)) = nc := ⟨_, cut_ge _ _ _ _, rfl⟩
      have hzr : Builtin.zeroCells (List.toArray zl) (nc - (n + m)) = List.toArray (List.replicate (nc - (n + m)) zl).flatten := by
        unfold Builtin.zeroCells
        have := zeros_eq zl (nc - (n + m))
        simpa using this
      have hrun : (execOp (evE ρ) ⟨some d, .call ⟨.builtin .append, List.toArray [x, y], #[T, T2]⟩, ty, pos, af, none⟩).run c.P w = .ok (.value (.slice (some ⟨w.heap.size, 0, none⟩) (n + m) nc)) (newBlk { w with drawn := w.drawn + 1 } (cel ((xs ++ ys) ++ (List.replicate (nc - (n + m)) zl).flatten) el)) := by
        have hsv : slV s n = .slice (s.r.map fun r => ⟨r, 0, none⟩) n s.cap := rfl
        rw [hsv] at hold
        simp only [execOp, resolve, List.map_toArray, List.map_cons, List.map_nil, hx, hy, hsv, Sem.run_bind, Sem.run_pure, Result.andThen_ok, invoke, builtin, Builtin.append_]
        simp only [List.getElem?_toArray, List.getElem?_cons_zero, List.getElem?_cons_succ, Sem.run_bind, hu, hsz, hu2, Result.andThen_ok, Sem.run_pure]
        simp only [if_false, Bool.false_eq_true, false_or]
        rw [Sem.run_bind, hlen, Result.andThen_ok, if_neg hfit]
        rw [Sem.run_bind, hti, Result.andThen_ok, hby, if_neg hneed]
        rw [Sem.run_bind, hti, Result.andThen_ok, hby, if_neg hnsc]
        rw [Sem.run_bind, run_choose]
        simp only [Question.forced, Bool.false_eq_true, if_false]
        rw [Result.andThen_ok, hcut, Sem.run_bind, hti, Result.andThen_ok, Sem.run_bind, run_askRoom, Result.andThen_ok, Sem.run_bind, hold, Result.andThen_ok, Sem.run_bind]
        simp only [Bool.not_false, if_true]
        rw [hnew, Result.andThen_ok, Sem.run_bind, hz, Result.andThen_ok, hzc, hzr]
        simp only [newRow, Sem.run_bind, run_newObj, Result.andThen_ok, Sem.run_pure, List.append_toArray]
        rfl
      unfold OpOut
      rw [hrun]
      refine ⟨_, (hs1.drawn _).alloc _, (hf.drawn _).alloc _, ⟨fun i hi _ => ?_, fun x hx => ?_⟩, k w.heap.size nc _ ⟨by simp only [List.length_append]; omega, hnc, ?_⟩ (.inr hf.size) (.inr hf.size)⟩
      · rw [newBlk_get, if_neg (by show i ≠ w.heap.size; omega)]
      · rcases List.mem_cons.1 hx with rfl | hx
        · exact .inr (Nat.le_refl _)
        · refine .inl ⟨x, ?_, rfl⟩
          cases hr : s.r with
          | none => rw [hr] at hL; simp only at hL; rw [← hL]; exact hx
          | some r =>
            rw [hr] at hL
            obtain ⟨a, b, rfl, rfl⟩ := hL
            simp only [List.mem_append, List.mem_cons] at hx ⊢
            rcases hx with h | h
            · exact .inl h
            · exact .inr (.inr h)
      · simp [List.length_flatten, hzl]
/-- append to a slice that is there. -/
theorem XO.apS {T T2 el e2 : TypeId} {x y : Operand} {r cap : Nat} {sp : List Value} {n m mc q o sz bytes : Nat} {info : TypeInfo} {z : Value} {zl lq ys xs : List Value} {E : TypeId} {fr : Nat × Nat} {L1 : List Blk}
    (hN : Nat.blt d c.N = true) (hx : evE ρ x = .slice (some ⟨r, 0, none⟩) n cap) (hy : evE ρ y = .slice (some ⟨q, o, none⟩) m mc)
    (hu : ∀ w, (underlying T).run c.P w = .ok (.slice el) w) (hu2 : ∀ w, (underlying T2).run c.P w = .ok (.slice e2) w)
    (hsz : ∀ w, (sizeOf el).run c.P w = .ok sz w) (hti : ∀ w, (typeInfo el).run c.P w = .ok info w) (hby : info.bytes = bytes) (hz : ∀ w, (zeroValue el).run c.P w = .ok z w) (hzc : z.cells = List.toArray zl) (hzl : zl.length = sz)
    (hL : Tak r (cel (xs ++ sp) el) L L1) (hown : Own ⟨some r, cap, sp⟩ n xs sz)
    (hq : (q, .cells (List.toArray lq) E fr) ∈ L1) (hv : (lq.drop o).take (m * sz) = ys) (hyl : ys.length = m * sz) (hone : ∀ v ∈ ys, v.oneCell' = true)
    (hw : Wr c r) (hsmall : (2 * (n + m) + 200) * bytes ≤ 281474976710656 ∧ n + m ≤ 281474976710656)
    (k : ∀ r' cap' sp', Own ⟨some r', cap', sp'⟩ (n + m) (xs ++ ys) sz → (r = r' ∨ c.B.heap.size ≤ r') → Wr c r' → XO c R ops rest ks (upd ρ d (.slice (some ⟨r', 0, none⟩) (n + m) cap')) ds ((r', cel ((xs ++ ys) ++ sp') el) :: L1)) :
    XO c R ops (⟨some d, .call ⟨.builtin .append, List.toArray [x, y], #[T, T2]⟩, ty, pos, af, none⟩ :: rest) ks ρ ds L :=
  XO.ap (s := ⟨some r, cap, sp⟩) hN hx hy hown hu hu2 hsz hti hby hz hzc hzl hL.split hq hv hyl hone (fun r' h => by cases h; exact hw) (.inr (by simp)) hsmall
    (fun r' cap' sp' h1 h2 h3 => k r' cap' sp' h1 (h3.imp (fun h => Option.some.inj h) id) h2)
/-- append to nil. -/
theorem XO.apN {T T2 el e2 : TypeId} {x y : Operand} {m mc q o sz bytes : Nat} {info : TypeInfo} {z : Value} {zl lq ys : List Value} {E : TypeId} {fr : Nat × Nat}
    (hN : Nat.blt d c.N = true) (hx : evE ρ x = .slice none 0 0) (hy : evE ρ y = .slice (some ⟨q, o, none⟩) m mc)
    (hu : ∀ w, (underlying T).run c.P w = .ok (.slice el) w) (hu2 : ∀ w, (underlying T2).run c.P w = .ok (.slice e2) w)
    (hsz : ∀ w, (sizeOf el).run c.P w = .ok sz w) (hti : ∀ w, (typeInfo el).run c.P w = .ok info w) (hby : info.bytes = bytes) (hz : ∀ w, (zeroValue el).run c.P w = .ok z w) (hzc : z.cells = List.toArray zl) (hzl : zl.length = sz)
    (hq : (q, .cells (List.toArray lq) E fr) ∈ L) (hv : (lq.drop o).take (m * sz) = ys) (hyl : ys.length = m * sz) (hone : ∀ v ∈ ys, v.oneCell' = true)
    (hm : 1 ≤ m) (hsmall : (2 * m + 200) * bytes ≤ 281474976710656 ∧ m ≤ 281474976710656)
    (k : ∀ r' cap' sp', Own ⟨some r', cap', sp'⟩ m ys sz → c.B.heap.size ≤ r' → XO c R ops rest ks (upd ρ d (.slice (some ⟨r', 0, none⟩) m cap')) ds ((r', cel (ys ++ sp') el) :: L)) :
    XO c R ops (⟨some d, .call ⟨.builtin .append, List.toArray [x, y], #[T, T2]⟩, ty, pos, af, none⟩ :: rest) ks ρ ds L :=
  XO.ap (s := nilS) (n := 0) (xs := []) hN hx hy (Own.nil sz) hu hu2 hsz hti hby hz hzc hzl (L1 := L) rfl hq hv hyl hone (fun r' h => by cases h) (.inl hm) (by rw [Nat.zero_add]; exact hsmall)
    (fun r' cap' sp' h1 h2 h3 => by
      simp only [Nat.zero_add, List.nil_append] at h1 ⊢
      exact k r' cap' sp' h1 (h3.resolve_left (by simp [nilS])))
end ops
end Go.Mw
