/- THE ENGINE, 2: memory, calls, contracts. -/
import Derived.Test.YthophgadmkjamaaFCore
namespace Go.Mw
open Go

def cel (l : List Value) (E : TypeId) : Obj := .cells (List.toArray l) E (0, 0)

theorem cell_of {w : World} {r o : Nat} {l : List Value} {E : TypeId} {fr : Nat × Nat} (h : w.heap[r]? = some (.cells (List.toArray l) E fr)) : w.cell? ⟨r, o, none⟩ = l[o]? := by
  simp [World.cell?, h]
theorem frozen_of {w : World} {r o : Nat} {l : List Value} {E : TypeId} (h : w.heap[r]? = some (cel l E)) : w.frozen? ⟨r, o, none⟩ = false := by
  simp [World.frozen?, h, cel]
theorem addr_add (r o n : Nat) : (⟨r, o, none⟩ : Addr).add n = ⟨r, o + n, none⟩ := by
  unfold Addr.add; split
  · rename_i h; subst h; rfl
  · rfl
theorem setCell_of {w : World} {r o : Nat} {l : List Value} {E : TypeId} (h : w.heap[r]? = some (cel l E)) (v : Value) :
    w.setCell ⟨r, o, none⟩ v = { w with heap := w.heap.setIfInBounds r (cel (l.set o v) E) } := by
  have hr := lt_of_some h
  have hr' : w.heap[r] = cel l E := by simpa [Array.getElem?_eq_getElem hr] using h
  simp only [World.setCell]
  congr 1
  apply Array.ext_getElem?
  intro i
  rw [Array.getElem?_modify, Array.getElem?_setIfInBounds]
  by_cases e : r = i
  · subst e
    simp [hr, hr', cel]
  · simp [e]

/-- The world with block r turned. -/
def setBlk (w : World) (r : Nat) (o : Obj) : World := { w with heap := w.heap.setIfInBounds r o }
theorem setBlk_get {w : World} {r : Nat} {o : Obj} (h : r < w.heap.size) (i : Nat) : (setBlk w r o).heap[i]? = if i = r then some o else w.heap[i]? := by
  simp only [setBlk, Array.getElem?_setIfInBounds]
  by_cases e : r = i
  · subst e; simp [h]
  · rw [if_neg e, if_neg (Ne.symm e)]

theorem run_store1 {P : Program} {w : World} {r o : Nat} {l : List Value} {E : TypeId} {v : Value} (h : w.heap[r]? = some (cel l E)) (ho : o < l.length) (hv : v.oneCell' = true) :
    (store ⟨r, o, none⟩ v).run P w = .ok () (setBlk w r (cel (l.set o v) E)) := by
  rw [run_store P w _ v .plain hv, cell_of h, List.getElem?_eq_getElem ho]
  simp only [frozen_of h, Bool.false_eq_true, if_false, setCell_of h, setBlk]

/-- A stretch written over. -/
def splice (l : List Value) (o : Nat) (vs : List Value) : List Value := l.take o ++ (vs ++ l.drop (o + vs.length))
theorem splice_length {l vs : List Value} {o : Nat} (h : o + vs.length ≤ l.length) : (splice l o vs).length = l.length := by
  simp [splice]; omega
theorem splice_nil (l : List Value) (o : Nat) : splice l o [] = l := by simp [splice]
theorem splice_cons {l vs : List Value} {o : Nat} {v : Value} (h : o + (v :: vs).length ≤ l.length) : splice (l.set o v) (o + 1) vs = splice l o (v :: vs) := by
  simp only [List.length_cons] at h
  have ho : o < l.length := by omega
  simp only [splice]
  have e1 : (l.set o v).take (o + 1) = l.take o ++ [v] := by
    rw [List.take_set, List.take_succ_eq_append_getElem ho, List.set_append_right o v (by simp; omega)]
    simp [List.length_take, Nat.min_eq_left (Nat.le_of_lt ho)]
  have e2 : (l.set o v).drop (o + 1 + vs.length) = l.drop (o + (v :: vs).length) := by
    rw [List.drop_set_of_lt (by omega)]
    congr 1
    simp only [List.length_cons]; omega
  rw [e1, e2]
  simp

theorem setBlk_setBlk (w : World) (r : Nat) (o o' : Obj) : setBlk (setBlk w r o) r o' = setBlk w r o' := by
  simp [setBlk]
theorem setBlk_same {w : World} {r : Nat} {o : Obj} (h : w.heap[r]? = some o) : setBlk w r o = w := by
  have hr := lt_of_some h
  have : w.heap.setIfInBounds r o = w.heap := by
    apply Array.ext_getElem?
    intro i
    rw [Array.getElem?_setIfInBounds]
    by_cases e : r = i
    · subst e; rw [h]; simp only [if_true, hr]
    · simp [e]
  simp [setBlk, this]

theorem run_storeCells {P : Program} {E : TypeId} {r : Nat} (o : Nat) : ∀ (vs : List Value) (w : World) (l : List Value) (i : Nat), w.heap[r]? = some (cel l E) → o + i + vs.length ≤ l.length → (∀ v ∈ vs, v.oneCell' = true) →
    (storeCells ⟨r, o, none⟩ vs i).run P w = .ok () (setBlk w r (cel (splice l (o + i) vs) E))
  | [], w, l, i, h, _, _ => by
    rw [splice_nil, setBlk_same h]; rfl
  | v :: vs, w, l, i, h, hl, hv => by
    simp only [List.length_cons] at hl
    have hlt := lt_of_some h
    simp only [storeCells, Sem.run_bind, addr_add]
    rw [run_store1 h (by omega) (hv v (by simp))]
    simp only [Result.andThen_ok]
    have h' : (setBlk w r (cel (l.set (o + i) v) E)).heap[r]? = some (cel (l.set (o + i) v) E) := by rw [setBlk_get hlt]; simp
    rw [run_storeCells o vs _ _ (i + 1) h' (by simp; omega) (fun v hv' => hv v (by simp [hv'])), setBlk_setBlk]
    rw [← Nat.add_assoc, splice_cons (by simp only [List.length_cons]; omega)]

theorem run_loadRow {P : Program} {w : World} {r o : Nat} {l vs : List Value} {E : TypeId} {fr : Nat × Nat} {n : Nat} (h : w.heap[r]? = some (.cells (List.toArray l) E fr)) (hv : (l.drop o).take n = vs) (hn : vs.length = n) :
    (loadCells ⟨r, o, none⟩ n).run P w = .ok (List.toArray vs) w := by
  subst hn
  refine run_loadCells_list w _ vs fun j v hj => ?_
  rw [addr_add, cell_of h]
  have hlt : j < vs.length := (List.getElem?_eq_some_iff.1 hj).1
  rw [← hj]
  rw [show vs[j]? = ((l.drop o).take vs.length)[j]? from by rw [hv]]
  rw [List.getElem?_take_of_lt hlt, List.getElem?_drop]

/-! ### the list of blocks -/
inductive Put (r : Nat) (o o' : Obj) : List Blk → List Blk → Prop where
  | hd {L} : Put r o o' ((r, o) :: L) ((r, o') :: L)
  | tl {x L L'} (h : Put r o o' L L') : Put r o o' (x :: L) (x :: L')
theorem Put.mem {r : Nat} {o o' : Obj} {L L' : List Blk} (h : Put r o o' L L') : (r, o) ∈ L := by
  induction h with
  | hd => exact .head _
  | tl _ ih => exact .tail _ ih
theorem Put.keys {r : Nat} {o o' : Obj} {L L' : List Blk} (h : Put r o o' L L') : L'.map (·.1) = L.map (·.1) := by
  induction h with
  | hd => rfl
  | tl _ ih => simp [ih]
theorem Put.new {r : Nat} {o o' : Obj} {L L' : List Blk} (h : Put r o o' L L') (hn : L.Pairwise (fun x y => x.1 ≠ y.1)) : ∀ x ∈ L', x = (r, o') ∨ (x ∈ L ∧ x.1 ≠ r) := by
  induction h with
  | hd =>
    intro x hx
    rcases List.mem_cons.1 hx with rfl | hx
    · exact .inl rfl
    · exact .inr ⟨.tail _ hx, fun e => (List.rel_of_pairwise_cons hn hx) e.symm⟩
  | @tl y L L' hp ih =>
    intro x hx
    rcases List.mem_cons.1 hx with rfl | hx
    · refine .inr ⟨.head _, fun e => ?_⟩
      exact (List.rel_of_pairwise_cons hn hp.mem) e
    · rcases ih (List.Pairwise.of_cons hn) x hx with h | ⟨h, h'⟩
      · exact .inl h
      · exact .inr ⟨.tail _ h, h'⟩
theorem pairwise_keys {L L' : List Blk} (h : L'.map (·.1) = L.map (·.1)) (hn : L.Pairwise (fun x y => x.1 ≠ y.1)) : L'.Pairwise (fun x y => x.1 ≠ y.1) := by
  have h1 : (L.map (·.1)).Pairwise (· ≠ ·) := List.pairwise_map.2 hn
  rw [← h] at h1
  exact List.pairwise_map.1 h1
theorem Hs.put {r : Nat} {o o' : Obj} {L L' : List Blk} {w : World} (hs : Hs L w) (h : Put r o o' L L') : Hs L' (setBlk w r o') := by
  have hr := lt_of_some (hs.mem _ h.mem)
  refine ⟨pairwise_keys h.keys hs.nodup, fun x hx => ?_⟩
  rw [setBlk_get hr]
  rcases h.new hs.nodup x hx with rfl | ⟨h1, h2⟩
  · simp
  · rw [if_neg h2]; exact hs.mem x h1

def Wr (c : Cx) (r : Nat) : Prop := r ∈ c.M ∨ c.B.heap.size ≤ r
theorem Fr.set {c : Cx} {w : World} {r : Nat} (hf : Fr c.B c.M w) (hw : Wr c r) (hr : r < w.heap.size) (o : Obj) : Fr c.B c.M (setBlk w r o) := by
  refine ⟨by simp [setBlk]; exact hf.size, hf.os, hf.tape, hf.output, fun i hi hm => ?_⟩
  rw [setBlk_get hr]
  by_cases e : i = r
  · subst e
    rcases hw with h | h
    · exact absurd h hm
    · omega
  · rw [if_neg e]; exact hf.old i hi hm

/-- A new block. -/
def newBlk (w : World) (o : Obj) : World := { w with heap := w.heap.push o }
theorem newBlk_get (w : World) (o : Obj) (i : Nat) : (newBlk w o).heap[i]? = if i = w.heap.size then some o else w.heap[i]? := by
  simp only [newBlk, Array.getElem?_push]
theorem Hs.alloc {L : List Blk} {w : World} (hs : Hs L w) (o : Obj) : Hs ((w.heap.size, o) :: L) (newBlk w o) := by
  refine ⟨List.pairwise_cons.2 ⟨fun x hx => ?_, hs.nodup⟩, fun x hx => ?_⟩
  · have := lt_of_some (hs.mem x hx); simp only [ne_eq]; omega
  · rw [newBlk_get]
    rcases List.mem_cons.1 hx with rfl | hx
    · simp
    · have := lt_of_some (hs.mem x hx)
      rw [if_neg (by omega)]; exact hs.mem x hx
theorem Fr.alloc {B w : World} {M : List Nat} (hf : Fr B M w) (o : Obj) : Fr B M (newBlk w o) := by
  refine ⟨by simp [newBlk]; have := hf.size; omega, hf.os, hf.tape, hf.output, fun i hi hm => ?_⟩
  rw [newBlk_get, if_neg (by have := hf.size; omega)]
  exact hf.old i hi hm
theorem Put.kp {r : Nat} {o o' : Obj} {L L' : List Blk} (h : Put r o o' L L') {w : World} : Kp L w L' (setBlk w r o') := by
  refine ⟨fun i hi hx => ?_, fun x hx => ?_⟩
  · have hne : i ≠ r := fun e => hx _ h.mem e.symm
    by_cases hr : r < w.heap.size
    · rw [setBlk_get hr, if_neg hne]
    · simp [setBlk, Array.getElem?_setIfInBounds, Ne.symm hne]
  · have : x.1 ∈ L'.map (·.1) := List.mem_map.2 ⟨x, hx, rfl⟩
    rw [h.keys] at this
    obtain ⟨y, hy, e⟩ := List.mem_map.1 this
    exact .inl ⟨y, hy, e⟩
theorem Kp.alloc (L : List Blk) (w : World) (o : Obj) : Kp L w ((w.heap.size, o) :: L) (newBlk w o) := by
  refine ⟨fun i hi _ => ?_, fun x hx => ?_⟩
  · rw [newBlk_get, if_neg (by omega)]
  · rcases List.mem_cons.1 hx with rfl | hx
    · exact .inr (Nat.le_refl _)
    · exact .inl ⟨x, hx, rfl⟩
theorem Fr.drawn {B w : World} {M : List Nat} (hf : Fr B M w) (n : Nat) : Fr B M { w with drawn := n } := ⟨hf.size, hf.os, hf.tape, hf.output, hf.old⟩
theorem Hs.drawn {L : List Blk} {w : World} (hs : Hs L w) (n : Nat) : Hs L { w with drawn := n } := ⟨hs.nodup, hs.mem⟩

section ops
variable {c : Cx} {R : Post} {ops : Array Oper} {rest : List Oper} {ks : List Kt} {ρ : Env} {ds : List Deferred} {L : List Blk}
variable {d : Nat} {od : Option Nat} {ty : TypeId} {pos : String} {af : Array Edge}

/-- An operation that yields a value and a new world. -/
theorem XO.valw {op : Op} (hN : okd c.N od = true) (hdf : noDefer op = true)
    (hv : ∀ w, Hs L w → Fr c.B c.M w → ∃ v w' L', ((execOp (evE ρ) ⟨od, op, ty, pos, af, none⟩).run c.P w = .ok (.value v) w' ∨ ((execOp (evE ρ) ⟨od, op, ty, pos, af, none⟩).run c.P w = .ok .skip w' ∧ v = undef)) ∧ Hs L' w' ∧ Fr c.B c.M w' ∧ Kp L w L' w' ∧ XO c R ops rest ks (putD ρ od v) ds L') :
    XO c R ops (⟨od, op, ty, pos, af, none⟩ :: rest) ks ρ ds L :=
  XO.step hN hdf fun w hs hf => by
    obtain ⟨v, w', L', h1, h2, h3, h4, h5⟩ := hv w hs hf
    unfold OpOut
    rcases h1 with h1 | ⟨h1, rfl⟩
    · rw [h1]; exact ⟨L', h2, h3, h4, h5⟩
    · rw [h1]; exact ⟨L', h2, h3, h4, h5⟩

theorem OV.ld {x : Operand} {T E : TypeId} {fr : Nat × Nat} {r o : Nat} {l : List Value} {v : Value} (hx : evE ρ x = .pointer (some ⟨r, o, none⟩)) (hT : ∀ w, (isAgg T).run c.P w = .ok false w)
    (hm : (r, .cells (List.toArray l) E fr) ∈ L) (hk : nth l o = some v) : OV c ρ L ⟨od, .load T x, ty, pos, af, none⟩ v :=
  fun w hs _ => by
    have h := hs.mem _ hm
    rw [nth_eq] at hk
    simp only [execOp, hx, Instr.loadAt, Instr.sureAddr, loadVar, Sem.run_bind, Sem.run_pure, Result.andThen_ok, hT, Bool.false_eq_true, if_false, run_load, cell_of h, hk]
theorem OV.ldA {x : Operand} {T E : TypeId} {fr : Nat × Nat} {r o n : Nat} {l vs : List Value} (hx : evE ρ x = .pointer (some ⟨r, o, none⟩)) (hT : ∀ w, (isAgg T).run c.P w = .ok true w)
    (hz : ∀ w, (sizeOf T).run c.P w = .ok n w) (hm : (r, .cells (List.toArray l) E fr) ∈ L) (hv : (l.drop o).take n = vs) (hn : vs.length = n) : OV c ρ L ⟨od, .load T x, ty, pos, af, none⟩ (.agg (List.toArray vs)) :=
  fun w hs _ => by
    have h := hs.mem _ hm
    simp only [execOp, hx, Instr.loadAt, Instr.sureAddr, loadVar, Sem.run_bind, Sem.run_pure, Result.andThen_ok, hT, hz, if_true, run_loadRow h hv hn]

theorem XO.st {x y : Operand} {T E : TypeId} {r o : Nat} {l : List Value} {v : Value} {L' : List Blk} (hx : evE ρ x = .pointer (some ⟨r, o, none⟩)) (hy : evE ρ y = v) (hv : v.oneCell' = true)
    (hz : ∀ w, (sizeOf T).run c.P w = .ok 1 w) (hp : Put r (cel l E) (cel (l.set o v) E) L L') (ho : o < l.length) (hw : Wr c r) (k : XO c R ops rest ks ρ ds L') :
    XO c R ops (⟨none, .store T x y, ty, pos, af, none⟩ :: rest) ks ρ ds L :=
  XO.valw rfl rfl fun w hs hf => by
    have h := hs.mem _ hp.mem
    refine ⟨undef, _, L', .inr ⟨?_, rfl⟩, hs.put hp, hf.set hw (lt_of_some h) _, hp.kp, k⟩
    have hc : v.cells = #[v] := by cases v <;> first | rfl | simp [Value.oneCell'] at hv
    simp only [execOp, hx, hy, Instr.storeAt, Instr.sureAddr, storeVar, Sem.run_bind, Sem.run_pure, Result.andThen_ok, hc, hz]
    simp only [List.size_toArray, List.length_cons, List.length_nil, Nat.zero_add, ne_eq, not_true_eq_false, if_false, storeCells, addr_add, Nat.add_zero, Sem.run_bind, Sem.run_pure]
    rw [run_store1 h ho hv]
    rfl
theorem XO.stA {x y : Operand} {T E : TypeId} {r o n : Nat} {l vs l' : List Value} {L' : List Blk} (hx : evE ρ x = .pointer (some ⟨r, o, none⟩)) (hy : evE ρ y = .agg (List.toArray vs)) (hv : ∀ v ∈ vs, v.oneCell' = true)
    (hz : ∀ w, (sizeOf T).run c.P w = .ok n w) (hn : vs.length = n) (hp : Put r (cel l E) (cel l' E) L L') (hl : splice l o vs = l') (ho : o + n ≤ l.length) (hw : Wr c r) (k : XO c R ops rest ks ρ ds L') :
    XO c R ops (⟨none, .store T x y, ty, pos, af, none⟩ :: rest) ks ρ ds L :=
  XO.valw rfl rfl fun w hs hf => by
    have h := hs.mem _ hp.mem
    subst hl
    refine ⟨undef, _, L', .inr ⟨?_, rfl⟩, hs.put hp, hf.set hw (lt_of_some h) _, hp.kp, k⟩
    simp only [execOp, hx, hy, Instr.storeAt, Instr.sureAddr, storeVar, Sem.run_bind, Sem.run_pure, Result.andThen_ok, Value.cells, hz]
    simp only [List.size_toArray, hn, ne_eq, not_true_eq_false, if_false]
    rw [run_storeCells o vs w l 0 h (by omega) hv]
    rfl

theorem XO.alloc {T : TypeId} {z : Value} {zl : List Value} (hN : Nat.blt d c.N = true) (hz : ∀ w, (zeroValue T).run c.P w = .ok z w) (hc : z.cells = List.toArray zl)
    (k : ∀ r, c.B.heap.size ≤ r → XO c R ops rest ks (upd ρ d (.pointer (some ⟨r, 0, none⟩))) ds ((r, cel zl T) :: L)) :
    XO c R ops (⟨some d, .alloc T, ty, pos, af, none⟩ :: rest) ks ρ ds L :=
  XO.valw hN rfl fun w hs hf => by
    refine ⟨_, newBlk w (cel zl T), _, .inl ?_, hs.alloc _, hf.alloc _, Kp.alloc _ _ _, k w.heap.size hf.size⟩
    simp only [execOp, Instr.alloc, Sem.run_bind, hz, Result.andThen_ok, newVar, newRow, hc, Sem.run_pure, run_newObj, newBlk, cel]
theorem XO.box {T : TypeId} {x : Operand} {v : Value} {zl : List Value} (hN : Nat.blt d c.N = true) (hx : evE ρ x = v) (hc : v.cells = List.toArray zl)
    (k : ∀ r, c.B.heap.size ≤ r → XO c R ops rest ks (upd ρ d (.pointer (some ⟨r, 0, none⟩))) ds ((r, cel zl T) :: L)) :
    XO c R ops (⟨some d, .box T x, ty, pos, af, none⟩ :: rest) ks ρ ds L :=
  XO.valw hN rfl fun w hs hf => by
    refine ⟨_, newBlk w (cel zl T), _, .inl ?_, hs.alloc _, hf.alloc _, Kp.alloc _ _ _, k w.heap.size hf.size⟩
    simp only [execOp, Instr.box, Sem.run_bind, hx, Result.andThen_ok, newVar, newRow, hc, Sem.run_pure, run_newObj, newBlk, cel]

/-- fieldAddr, of a program: the field's offset. -/
def FA (P : Program) (T : TypeId) (f off : Nat) : Prop := ∀ a w, (Instr.fieldAt T (.pointer (some a)) f).run P w = .ok (.pointer (some (a.add off))) w
theorem OV.fa {T : TypeId} {x : Operand} {f off r o : Nat} (hx : evE ρ x = .pointer (some ⟨r, o, none⟩)) (hf : FA c.P T f off) : OV c ρ L ⟨od, .fieldAddr T x f, ty, pos, af, none⟩ (.pointer (some ⟨r, o + off, none⟩)) :=
  fun w _ _ => by simp only [execOp, hx, Sem.run_bind, hf _ w, Result.andThen_ok, addr_add, Sem.run_pure]
theorem FA.of {P : Program} {T : TypeId} {f : Nat} {fs : Array Field} {x : Field} {n : Nat} (hu : ∀ w, (underlying T).run P w = .ok (.struct fs) w) (hf : fs[f]? = some x) {off : Nat} (ho : x.offset = off) (hz : ∀ w, (sizeOf x.type).run P w = .ok (n + 1) w) : FA P T f off := by
  subst ho
  intro a w
  simp only [Instr.fieldAt, Sem.run_bind, hu, Result.andThen_ok, hf, Instr.sureAddr, Sem.run_pure, fieldPlace, hz]
  simp
end ops
end Go.Mw
