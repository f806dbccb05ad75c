/- THE ENGINE (generic, over any program): a function's code is run over an environment (a function from slots to values) and a list of the heap's blocks that are known; each rule is one step. -/
import Derived.RangeFuncLeaves
import Derived.Below
import Derived.TacticsIn
import Derived.Laws.Cells
namespace Go.Mw
open Go

abbrev Env := Nat → Value
abbrev Blk := Nat × Obj

def upd (ρ : Env) (d : Nat) (v : Value) : Env := fun t => bif Nat.beq t d then v else ρ t
def putD (ρ : Env) : Option Tmp → Value → Env
  | some d, v => upd ρ d v
  | none, _ => ρ

theorem beq_false {a b : Nat} (h : a ≠ b) : Nat.beq a b = false := by
  cases hb : Nat.beq a b
  · rfl
  · exact absurd (Nat.eq_of_beq_eq_true hb) h
theorem upd_same (ρ : Env) (d : Nat) (v : Value) : upd ρ d v d = v := by simp [upd]
theorem upd_ne (ρ : Env) {t d : Nat} (v : Value) (h : t ≠ d) : upd ρ d v t = ρ t := by
  simp only [upd]
  rw [beq_false h]
  rfl

structure Ag (N : Nat) (ds : List Deferred) (a : Act) (ρ : Env) : Prop where
  size : a.tmps.size = N
  defers : a.defers = ds
  get : ∀ t, a.tmps.getD t undef = ρ t

def evE (ρ : Env) : Operand → Value
  | .tmp t => ρ t
  | .const v => v
  | .global g => .pointer (some ⟨g, 0, none⟩)
  | .func f => .func (.func f) #[] #[]

theorem Ag.eval {N : Nat} {ds : List Deferred} {a : Act} {ρ : Env} (h : Ag N ds a ρ) : a.eval = evE ρ := by
  funext x
  cases x with
  | tmp t => exact h.get t
  | const v => rfl
  | global g => rfl
  | func f => rfl

theorem Ag.put {N : Nat} {ds : List Deferred} {a : Act} {ρ : Env} (h : Ag N ds a ρ) {d : Nat} (hd : d < N) (v : Value) : Ag N ds (a.put (some d) v) (upd ρ d v) := by
  refine ⟨by simp [Act.put, h.size], by simp [Act.put, h.defers], fun t => ?_⟩
  have hs : d < a.tmps.size := by rw [h.size]; exact hd
  by_cases e : t = d
  · subst e
    rw [upd_same]
    simp [Act.put, hs]
  · rw [upd_ne _ _ e, ← h.get t]
    simp [Act.put, Array.getElem?_setIfInBounds_ne (Ne.symm e)]

theorem Ag.putD {N : Nat} {ds : List Deferred} {a : Act} {ρ : Env} (h : Ag N ds a ρ) {o : Option Tmp} (hd : ∀ d, o = some d → d < N) (v : Value) : Ag N ds (a.put o v) (putD ρ o v) := by
  cases o with
  | none => exact ⟨h.size, h.defers, h.get⟩
  | some d => exact h.put (hd d rfl) v

/-- The blocks that are known: each lies as listed; no block is listed twice. -/
structure Hs (L : List Blk) (w : World) : Prop where
  nodup : L.Pairwise (fun x y => x.1 ≠ y.1)
  mem : ∀ x ∈ L, w.heap[x.1]? = some x.2

/-- Since B: only blocks of M have turned. -/
structure Fr (B : World) (M : List Nat) (w : World) : Prop where
  size : B.heap.size ≤ w.heap.size
  os : w.os = B.os
  tape : w.tape = B.tape
  output : w.output = B.output
  old : ∀ r, r < B.heap.size → r ∉ M → w.heap[r]? = B.heap[r]?

theorem Fr.refl (B : World) (M : List Nat) : Fr B M B := ⟨Nat.le_refl _, rfl, rfl, rfl, fun _ _ _ => rfl⟩
theorem Fr.trans {B w w' : World} {M M' : List Nat} (h : Fr B M w) (h' : Fr w M' w') (hM : ∀ r ∈ M', r ∈ M ∨ B.heap.size ≤ r) : Fr B M w' :=
  ⟨Nat.le_trans h.size h'.size, h'.os.trans h.os, h'.tape.trans h.tape, h'.output.trans h.output, fun r hr hm =>
    (h'.old r (Nat.lt_of_lt_of_le hr h.size) (fun hm' => (hM r hm').elim hm (fun hle => absurd hr (Nat.not_lt.2 hle)))).trans (h.old r hr hm)⟩
theorem Fr.weaken {B w : World} {M M' : List Nat} (h : Fr B M w) (hM : ∀ r ∈ M, r ∈ M') : Fr B M' w :=
  ⟨h.size, h.os, h.tape, h.output, fun r hr hm => h.old r hr (fun h => hm (hM r h))⟩
theorem Fr.below {B w : World} (h : Fr B [] w) : Go.RowKit.Below B.heap.size B w :=
  ⟨h.os, h.tape, h.output, h.size, fun k hk => h.old k hk (by simp)⟩

theorem lt_of_some {w : World} {r : Nat} {o : Obj} (h : w.heap[r]? = some o) : r < w.heap.size := (Array.getElem?_eq_some_iff.1 h).1

/-- Facts of the list in a later world. -/
theorem Hs.later {L : List Blk} {w w' : World} {M : List Nat} (h : Hs L w) (hf : Fr w M w') (hM : ∀ x ∈ L, x.1 ∉ M) : Hs L w' :=
  ⟨h.nodup, fun x hx => (hf.old x.1 (lt_of_some (h.mem x hx)) (hM x hx)).trans (h.mem x hx)⟩

theorem Hs.nil (w : World) : Hs [] w := ⟨List.Pairwise.nil, by simp⟩

theorem Hs.sub {L L' : List Blk} {w : World} (h : Hs L w) (hs : L'.Sublist L) : Hs L' w :=
  ⟨h.nodup.sublist hs, fun x hx => h.mem x (hs.subset hx)⟩

structure Cx where
  P : Program
  rnd : Option Nat
  N : Nat
  B : World
  M : List Nat

def Cx.F (c : Cx) : Fence := { Fence.wide with round := c.rnd }
theorem Cx.fn (c : Cx) (f : FuncId) : c.F.fn f := trivial
theorem Cx.room (c : Cx) (n : Nat) : c.F.room n := fun _ h => by cases h

abbrev Post := Exit → Env → List Deferred → List Blk → Prop

def lft (c : Cx) (Q : Post) : Exit → Act → World → Prop := fun e a w => ∃ ρ ds L, Ag c.N ds a ρ ∧ Hs L w ∧ Fr c.B c.M w ∧ Q e ρ ds L

def CW (c : Cx) (k : Code) (Q : Post) (ρ : Env) (ds : List Deferred) (L : List Blk) : Prop :=
  ∀ a w, Ag c.N ds a ρ → Hs L w → Fr c.B c.M w → k.wpIn c.F 0 c.P (lft c Q) a w

theorem CW.mono {c : Cx} {k : Code} {Q Q' : Post} {ρ : Env} {ds : List Deferred} {L : List Blk} (h : CW c k Q ρ ds L) (hq : ∀ e ρ ds L, Q e ρ ds L → Q' e ρ ds L) : CW c k Q' ρ ds L :=
  fun a w ha hs hf => wpIn_mono (h a w ha hs hf) fun _ _ _ ⟨ρ, ds, L, h1, h2, h3, h4⟩ => ⟨ρ, ds, L, h1, h2, h3, hq _ _ _ _ h4⟩

inductive Kt where
  | code (k : Code)
  | blk (id : Nat)
  | rnd (I : Env → List Deferred → List Blk → Prop)
  | scp

def pst (c : Cx) (R : Post) : List Kt → Post
  | [] => R
  | .code k :: ks => fun e ρ ds L => match e with
    | .normal => CW c k (pst c R ks) ρ ds L
    | e => pst c R ks e ρ ds L
  | .blk id :: ks => fun e ρ ds L => match e with
    | .exit i => if i = id then pst c R ks .normal ρ ds L else pst c R ks (.exit i) ρ ds L
    | e => pst c R ks e ρ ds L
  | .rnd I :: ks => fun e ρ ds L => match e with
    | .normal => I ρ ds L
    | e => pst c R ks e ρ ds L
  | .scp :: ks => fun e ρ ds L => match e with
    | .goto _ => False
    | e => pst c R ks e ρ ds L

def XK (c : Cx) (R : Post) (ks : List Kt) (ρ : Env) (ds : List Deferred) (L : List Blk) : Prop := pst c R ks .normal ρ ds L

section rules
variable {c : Cx} {R : Post} {ks : List Kt} {ρ : Env} {ds : List Deferred} {L : List Blk}

theorem XK.seq {x y : Code} (h : XK c R (.code x :: .code y :: ks) ρ ds L) : XK c R (.code (.seq x y) :: ks) ρ ds L := by
  intro a w ha hs hf
  refine wpIn_seq (wpIn_mono (h a w ha hs hf) ?_)
  rintro e a w ⟨ρ, ds, L, h1, h2, h3, h4⟩
  cases e with
  | normal => exact h4 a w h1 h2 h3
  | exit id => exact ⟨ρ, ds, L, h1, h2, h3, h4⟩
  | goto id => exact ⟨ρ, ds, L, h1, h2, h3, h4⟩
  | ret => exact ⟨ρ, ds, L, h1, h2, h3, h4⟩
  | panic id => exact ⟨ρ, ds, L, h1, h2, h3, h4⟩
  | outgrown => exact ⟨ρ, ds, L, h1, h2, h3, h4⟩

theorem XK.skip (h : XK c R ks ρ ds L) : XK c R (.code .skip :: ks) ρ ds L :=
  fun _ _ ha hs hf => wpIn_skip ⟨ρ, ds, L, ha, hs, hf, h⟩
theorem XK.label {l : Nat} (h : XK c R ks ρ ds L) : XK c R (.code (.label l) :: ks) ρ ds L :=
  fun _ _ ha hs hf => wpIn_label ⟨ρ, ds, L, ha, hs, hf, h⟩
theorem XK.ret (h : pst c R ks .ret ρ ds L) : XK c R (.code .ret :: ks) ρ ds L :=
  fun _ _ ha hs hf => wpIn_ret ⟨ρ, ds, L, ha, hs, hf, h⟩
theorem XK.exit {id : Nat} (h : pst c R ks (.exit id) ρ ds L) : XK c R (.code (.exit id) :: ks) ρ ds L :=
  fun _ _ ha hs hf => wpIn_exit ⟨ρ, ds, L, ha, hs, hf, h⟩
theorem XK.block {id : Nat} {k : Code} (h : XK c R (.code k :: .blk id :: ks) ρ ds L) : XK c R (.code (.block id k) :: ks) ρ ds L := by
  intro a w ha hs hf
  refine wpIn_block (wpIn_mono (h a w ha hs hf) ?_)
  rintro e a w ⟨ρ, ds, L, h1, h2, h3, h4⟩
  cases e with
  | exit i =>
    simp only [Exit.inBlock]
    simp only [pst] at h4
    split
    · rw [if_pos ‹_›] at h4; exact ⟨ρ, ds, L, h1, h2, h3, h4⟩
    · rw [if_neg ‹_›] at h4; exact ⟨ρ, ds, L, h1, h2, h3, h4⟩
  | normal => exact ⟨ρ, ds, L, h1, h2, h3, h4⟩
  | goto id => exact ⟨ρ, ds, L, h1, h2, h3, h4⟩
  | ret => exact ⟨ρ, ds, L, h1, h2, h3, h4⟩
  | panic id => exact ⟨ρ, ds, L, h1, h2, h3, h4⟩
  | outgrown => exact ⟨ρ, ds, L, h1, h2, h3, h4⟩
theorem XK.inblk {id : Nat} (h : XK c R ks ρ ds L) : XK c R (.blk id :: ks) ρ ds L := h

/-- Where an exit leads. -/
def dropTo (id : Nat) : List Kt → Option (List Kt)
  | [] => none
  | .blk i :: ks => bif Nat.beq id i then some ks else dropTo id ks
  | .code _ :: ks => dropTo id ks
  | .rnd _ :: ks => dropTo id ks
  | .scp :: ks => dropTo id ks
theorem pst_dropTo {id : Nat} {ks' : List Kt} : ∀ {ks : List Kt}, dropTo id ks = some ks' → pst c R ks' .normal ρ ds L → pst c R ks (.exit id) ρ ds L
  | [], h, _ => by cases h
  | .blk i :: ks, h, hk => by
    simp only [dropTo] at h
    simp only [pst]
    by_cases e : id = i
    · subst e
      rw [if_pos rfl]
      rw [show Nat.beq id id = true from by simp] at h
      simp only [cond_true, Option.some.injEq] at h
      rw [h]; exact hk
    · rw [if_neg e]
      rw [beq_false e] at h
      exact pst_dropTo h hk
  | .code _ :: ks, h, hk => pst_dropTo (ks := ks) h hk
  | .rnd _ :: ks, h, hk => pst_dropTo (ks := ks) h hk
  | .scp :: ks, h, hk => pst_dropTo (ks := ks) h hk
theorem XK.exitTo {id : Nat} {ks' : List Kt} (hd : dropTo id ks = some ks') (h : XK c R ks' ρ ds L) : XK c R (.code (.exit id) :: ks) ρ ds L :=
  XK.exit (pst_dropTo hd h)

theorem pst_ret : ∀ {ks : List Kt}, R .ret ρ ds L → pst c R ks .ret ρ ds L
  | [], h => h
  | .blk _ :: ks, h => pst_ret (ks := ks) h
  | .code _ :: ks, h => pst_ret (ks := ks) h
  | .rnd _ :: ks, h => pst_ret (ks := ks) h
  | .scp :: ks, h => pst_ret (ks := ks) h
theorem XK.retTo (h : R .ret ρ ds L) : XK c R (.code .ret :: ks) ρ ds L := XK.ret (pst_ret h)

theorem XK.cond {o : Operand} {x y : Code} {b : Bool} (hb : evE ρ o = .bool b) (ht : b = true → XK c R (.code x :: ks) ρ ds L) (hf : b = false → XK c R (.code y :: ks) ρ ds L) :
    XK c R (.code (.cond o x y) :: ks) ρ ds L := by
  intro a w ha hs hfr
  refine wpIn_cond_split (t := b) (by rw [ha.eval]; exact hb) (fun e => ?_) (fun e => ?_)
  · exact ht e a w ha hs hfr
  · exact hf e a w ha hs hfr
theorem XK.cond_t {o : Operand} {x y : Code} (hb : evE ρ o = .bool true) (ht : XK c R (.code x :: ks) ρ ds L) : XK c R (.code (.cond o x y) :: ks) ρ ds L :=
  XK.cond hb (fun _ => ht) (fun e => by cases e)
theorem XK.cond_f {o : Operand} {x y : Code} (hb : evE ρ o = .bool false) (hf : XK c R (.code y :: ks) ρ ds L) : XK c R (.code (.cond o x y) :: ks) ρ ds L :=
  XK.cond hb (fun e => by cases e) (fun _ => hf)

/-- A loop, over a ghost x: E says the state at the head. -/
theorem XK.loop {X : Type} (E : X → Env → List Deferred → List Blk → Prop) (μ : X → Nat) {body : Code} (x0 : X) (h0 : E x0 ρ ds L)
    (round : ∀ x ρ ds L, E x ρ ds L → XK c R (.code body :: .rnd (fun ρ' ds' L' => ∃ x', E x' ρ' ds' L' ∧ μ x' < μ x) :: ks) ρ ds L) :
    XK c R (.code (.loop body) :: ks) ρ ds L := by
  intro a w ha hs hf
  let S : Act → World → X → Prop := fun a w x => ∃ ρ ds L, Ag c.N ds a ρ ∧ Hs L w ∧ Fr c.B c.M w ∧ E x ρ ds L
  let T : Act → World → Nat → Prop := fun a w n => ∃ x, S a w x ∧ μ x = n
  have least : ∀ a w n, T a w n → ∃ m, T a w m ∧ ∀ k, T a w k → m ≤ k := by
    intro a w n
    induction n using Nat.strongRecOn with
    | _ n ih =>
      intro hn
      by_cases h : ∃ k, k < n ∧ T a w k
      · obtain ⟨k, hk, hT⟩ := h; exact ih k hk hT
      · exact ⟨n, hn, fun k hk => Nat.le_of_not_lt fun hlt => h ⟨k, hlt, hk⟩⟩
  let ν : Act → World → Nat := fun a w => @dite _ (∃ m, T a w m ∧ ∀ k, T a w k → m ≤ k) (Classical.propDecidable _) (fun h => Classical.choose h) (fun _ => 0)
  have hν : ∀ a w, (∃ x, S a w x) → T a w (ν a w) ∧ ∀ k, T a w k → ν a w ≤ k := by
    intro a w ⟨x, hx⟩
    have h := least a w (μ x) ⟨x, hx, rfl⟩
    simp only [ν]
    rw [dif_pos h]
    exact Classical.choose_spec h
  refine wpIn_loop (fun a w => ∃ x, S a w x) ν ⟨x0, ρ, ds, L, ha, hs, hf, h0⟩ ?_
  intro a w hI
  obtain ⟨⟨x, ⟨ρ, ds, L, ha, hs, hf, hE⟩, hx⟩, _⟩ := hν a w hI
  refine wpIn_mono (round x ρ ds L hE a w ha hs hf) ?_
  rintro e a' w' ⟨ρ', ds', L', h1, h2, h3, h4⟩
  cases e with
  | normal =>
    obtain ⟨x', hE', hlt⟩ := h4
    have hS : S a' w' x' := ⟨ρ', ds', L', h1, h2, h3, hE'⟩
    exact ⟨⟨x', hS⟩, by have := (hν a' w' ⟨x', hS⟩).2 (μ x') ⟨x', hS, rfl⟩; omega⟩
  | exit id => exact ⟨ρ', ds', L', h1, h2, h3, h4⟩
  | goto id => exact ⟨ρ', ds', L', h1, h2, h3, h4⟩
  | ret => exact ⟨ρ', ds', L', h1, h2, h3, h4⟩
  | panic id => exact ⟨ρ', ds', L', h1, h2, h3, h4⟩
  | outgrown => exact ⟨ρ', ds', L', h1, h2, h3, h4⟩
theorem stepR_scope {P : Program} {b : Frame} {a : Act} {k : List Item} {cs : List Frame} {w : World} {x : Code} : step P (lone (b.atR a (.code (.scope x) :: k)) cs w) = .next (lone (b.atR a (.code x :: .inScope x :: k)) cs w) :=
  step_lone_go (by simp [stepG, stepG.exec, Frame.atR])
theorem stepR_inScope {P : Program} {b : Frame} {a : Act} {k : List Item} {cs : List Frame} {w : World} {x : Code} : step P (lone (b.atR a (.inScope x :: k)) cs w) = .next (lone (b.atR a k) cs w) :=
  step_lone_go (by simp [stepG, stepG.exec, Frame.atR])
theorem XK.scope {k : Code} (h : XK c R (.code k :: .scp :: ks) ρ ds L) : XK c R (.code (.scope k) :: ks) ρ ds L := by
  intro a w ha hs hf b kk cs hro hb hr
  obtain ⟨e, a₁, w₁, ⟨ρ', ds', L', h1, h2, h3, h4⟩, harr⟩ := h a w ha hs hf b (.inScope k :: kk) cs hro hb hr
  cases e with
  | normal => exact ⟨.normal, a₁, w₁, ⟨ρ', ds', L', h1, h2, h3, h4⟩, .head (fenced_calm hb hr rfl) stepR_scope (StepsIn.trans harr (.one (fenced_calm hb hr rfl) stepR_inScope))⟩
  | exit id =>
    have hx : Go.exitTo id (.inScope k :: kk) = Go.exitTo id kk := by simp [Go.exitTo]
    exact ⟨.exit id, a₁, w₁, ⟨ρ', ds', L', h1, h2, h3, h4⟩, fun k' hk => .head (fenced_calm hb hr rfl) stepR_scope (harr.1 k' (by rw [hx]; exact hk)), fun hr' hk => let ⟨k₁, h1, h2⟩ := harr.2 hr' (by rw [hx]; exact hk); ⟨k₁, h1, .head (fenced_calm hb hr rfl) stepR_scope h2⟩⟩
  | goto l => exact h4.elim
  | ret => exact ⟨.ret, a₁, w₁, ⟨ρ', ds', L', h1, h2, h3, h4⟩, .of_steps (.one (fenced_calm hb hr rfl) stepR_scope) harr⟩
  | panic ch => exact ⟨.panic ch, a₁, w₁, ⟨ρ', ds', L', h1, h2, h3, h4⟩, .of_steps (.one (fenced_calm hb hr rfl) stepR_scope) harr⟩
  | outgrown => exact ⟨.outgrown, a₁, w₁, ⟨ρ', ds', L', h1, h2, h3, h4⟩, .of_steps (.one (fenced_calm hb hr rfl) stepR_scope) harr⟩
theorem XK.scpEnd (h : XK c R ks ρ ds L) : XK c R (.scp :: ks) ρ ds L := h
theorem XK.rnd {I : Env → List Deferred → List Blk → Prop} (h : I ρ ds L) : XK c R (.rnd I :: ks) ρ ds L := h

/-- A cut: what is behind is shown of every state that E allows. -/
theorem XK.cut {X : Type} (E : X → Env → List Deferred → List Blk → Prop) (x : X) (h : E x ρ ds L) (hk : ∀ x ρ ds L, E x ρ ds L → XK c R ks ρ ds L) : XK c R ks ρ ds L := hk x ρ ds L h
end rules


/-! ### Operations -/
/-- What an operation comes to, by its operands' values alone. -/
def OpOut (c : Cx) (ρ : Env) (o : Oper) (w : World) (Φ : Value → World → Prop) : Prop :=
  match (execOp (evE ρ) o).run c.P w with
  | .ok (.value v) w' => Φ v w'
  | .ok .skip w' => Φ undef w'
  | .ok (.enter f args) w' => CallsIn c.F 0 c.P f args w' (fun e w'' => ∃ v, e = .returned v ∧ Φ v w'')
  | .ok (.row row args) w' => RowsIn c.F 0 c.P row args w' Φ
  | .ok (.round l f tmps assign body) w' => RoundIn c.F 0 c.P l f tmps assign body w' (fun e w'' => ∃ v, e = .returned v ∧ Φ v w'')
  | _ => False

theorem OpOut.mono {c : Cx} {ρ : Env} {o : Oper} {w : World} {Φ Ψ : Value → World → Prop} (h : OpOut c ρ o w Φ) (hp : ∀ v w', Φ v w' → Ψ v w') : OpOut c ρ o w Ψ := by
  unfold OpOut at *
  generalize (execOp (evE ρ) o).run c.P w = r at h ⊢
  cases r with
  | ok n w' =>
    cases n <;> simp only at h ⊢ <;>
      first
        | exact hp _ _ h
        | exact CallsIn.mono h (fun e w'' ⟨v, h1, h2⟩ => ⟨v, h1, hp _ _ h2⟩)
        | exact RowsIn.mono h (fun _ _ he => hp _ _ he)
        | exact RoundIn.mono h (fun e w'' ⟨v, h1, h2⟩ => ⟨v, h1, hp _ _ h2⟩)
  | halt x w' => cases x <;> simp only at h

def noDefer : Op → Bool
  | .defer _ => false
  | _ => true
theorem noDefer_of {o : Op} (h : noDefer o = true) : ∀ c, o ≠ .defer c := by
  intro c e; subst e; simp [noDefer] at h
theorem semAt_of (c : Cx) {o : Oper} (h : noDefer o.op = true) (ρ : Operand → Value) : o.semAt c.F.round ρ = execOp ρ o := by
  cases hr : c.F.round with
  | none => rfl
  | some l => exact Oper.semAt_some l ρ o (noDefer_of h)

/-- The machine's own word on an operation, out of OpOut. -/
theorem OpOut.wp {c : Cx} {ρ : Env} {o : Oper} {w : World} {Φ : Value → World → Prop} (h : OpOut c ρ o w Φ) (hdf : noDefer o.op = true) {a : Act} (he : execOp a.eval o = execOp (evE ρ) o) {next : Act → World → Prop} {Q : Exit → Act → World → Prop}
    (hn : ∀ v w', Φ v w' → next (a.put o.dst v) w') : o.wpIn c.F 0 c.P a w next Q := by
  refine ⟨fun f _ => trivial, ?_⟩
  rw [semAt_of c hdf, he]
  unfold OpOut at h
  generalize (execOp (evE ρ) o).run c.P w = r at h ⊢
  have hd : c.F.depth.isSome = true → 1 ≤ 0 := fun h => by simp [Cx.F, Fence.wide] at h
  cases r with
  | ok n w' =>
    cases n <;> simp only [Oper.uponIn] at h ⊢
    case value v => exact hn _ _ h
    case skip => exact hn _ _ h
    case enter f args => exact ⟨hd, CallsIn.mono h (fun e w'' ⟨v, h1, h2⟩ => by subst h1; exact hn _ _ h2)⟩
    case row r args => exact ⟨hd, RowsIn.mono h (fun _ _ he => hn _ _ he)⟩
    case round => exact ⟨hd, RoundIn.mono h (fun e w'' ⟨v, h1, h2⟩ => by subst h1; exact hn _ _ h2)⟩
  | halt x w' => cases x <;> simp only at h

/-- What an operation keeps: old blocks that are not listed; and what is listed behind it was listed ahead of it, or is new. -/
def Kp (L : List Blk) (w : World) (L' : List Blk) (w' : World) : Prop :=
  (∀ r, r < w.heap.size → (∀ x ∈ L, x.1 ≠ r) → w'.heap[r]? = w.heap[r]?) ∧ ∀ x ∈ L', (∃ y ∈ L, y.1 = x.1) ∨ w.heap.size ≤ x.1
theorem Kp.refl (L : List Blk) (w : World) : Kp L w L w := ⟨fun _ _ _ => rfl, fun x hx => .inl ⟨x, hx, rfl⟩⟩

def gdst (ops : Array Oper) (j : Nat) : Option Nat := (ops[j]?).bind (·.dst)
/-- One operation of a region: K says what is shown behind it, of its value and the blocks. -/
def Step (c : Cx) (ops : Array Oper) (ρ : Env) (L : List Blk) (o : Oper) (K : Value → List Blk → Prop) : Prop :=
  (∀ d, o.dst = some d → d < c.N) ∧ noDefer o.op = true ∧
  match o.guard with
  | none => ∀ w, Hs L w → Fr c.B c.M w → OpOut c ρ o w (fun v w' => ∃ L', Hs L' w' ∧ Fr c.B c.M w' ∧ Kp L w L' w' ∧ K v L')
  | some (j, b) => ∃ t b', gdst ops j = some t ∧ ρ t = .bool b' ∧
      if b' = b then ∀ w, Hs L w → Fr c.B c.M w → OpOut c ρ o w (fun v w' => ∃ L', Hs L' w' ∧ Fr c.B c.M w' ∧ Kp L w L' w' ∧ K v L')
      else K undef L
def XO (c : Cx) (R : Post) (ops : Array Oper) : List Oper → List Kt → Env → List Deferred → List Blk → Prop
  | [], ks, ρ, ds, L => XK c R ks ρ ds L
  | o :: rest, ks, ρ, ds, L => Step c ops ρ L o (fun v L' => XO c R ops rest ks (putD ρ o.dst v) ds L')

theorem yielded_of {N : Nat} {ds : List Deferred} {ops : Array Oper} {ρ : Env} {a : Act} (ha : Ag N ds a ρ) {j t : Nat} {b : Bool} (hj : gdst ops j = some t) (hb : ρ t = .bool b) : yielded ops a.tmps j = some b := by
  unfold yielded
  unfold gdst at hj
  rw [hj]
  have := ha.get t
  rw [hb] at this
  simp only [Option.bind_some]
  cases hs : a.tmps[t]? with
  | none => simp [Array.getD_eq_getD_getElem?, hs, undef] at this
  | some v => simp [Array.getD_eq_getD_getElem?, hs] at this; simp [this]

theorem XO.sound {c : Cx} {R : Post} {ops : Array Oper} {ks : List Kt} {ds : List Deferred} : ∀ (l : List Oper) (ρ : Env) (L : List Blk), XO c R ops l ks ρ ds L → ∀ a w, Ag c.N ds a ρ → Hs L w → Fr c.B c.M w → wpListIn c.F 0 c.P ops (lft c (pst c R ks)) l a w
  | [], ρ, L, h, a, w, ha, hs, hf => ⟨ρ, ds, L, ha, hs, hf, h⟩
  | o :: rest, ρ, L, h, a, w, ha, hs, hf => by
    obtain ⟨hN, hdf, h⟩ := h
    have go : OpOut c ρ o w (fun v w' => ∃ L', Hs L' w' ∧ Fr c.B c.M w' ∧ Kp L w L' w' ∧ XO c R ops rest ks (putD ρ o.dst v) ds L') → o.wpIn c.F 0 c.P a w (wpListIn c.F 0 c.P ops (lft c (pst c R ks)) rest) (lft c (pst c R ks)) := fun h =>
      h.wp hdf (by rw [ha.eval]) fun v w' ⟨L', h1, h2, _, h3⟩ => XO.sound rest _ _ h3 _ _ (ha.putD hN v) h1 h2
    cases hg : o.guard with
    | none =>
      rw [hg] at h
      have hw : Region.wanted o (yielded ops a.tmps) = true := by simp [Region.wanted, hg]
      simp only [wpListIn, hw, if_true]
      exact go (h w hs hf)
    | some g =>
      obtain ⟨j, b⟩ := g
      rw [hg] at h
      obtain ⟨t, b', h1, h2, h3⟩ := h
      have hy := yielded_of ha h1 h2
      by_cases e : b' = b
      · rw [if_pos e] at h3
        have hw : Region.wanted o (yielded ops a.tmps) = true := by simp [Region.wanted, hg, hy, e]
        simp only [wpListIn, hw, if_true]
        exact go (h3 w hs hf)
      · rw [if_neg e] at h3
        have hw : Region.wanted o (yielded ops a.tmps) = false := by simp [Region.wanted, hg, hy, e]
        simp only [wpListIn, hw, Bool.false_eq_true, if_false]
        exact ⟨fun _ _ => trivial, XO.sound rest _ _ h3 _ _ (ha.putD hN undef) hs hf⟩

section ops
variable {c : Cx} {R : Post} {ops : Array Oper} {rest : List Oper} {ks : List Kt} {ρ : Env} {ds : List Deferred} {L : List Blk}

theorem XK.region {id : Nat} {l : List Oper} (h : XO c R l.toArray l ks ρ ds L) : XK c R (.code (.region id l.toArray false) :: ks) ρ ds L :=
  fun a w ha hs hf => wpIn_region_lit (XO.sound l ρ L h a w ha hs hf)
theorem XO.nil (h : XK c R ks ρ ds L) : XO c R ops [] ks ρ ds L := h

def okd (N : Nat) : Option Nat → Bool
  | some d => Nat.blt d N
  | none => true
theorem okd_of {N : Nat} {o : Option Nat} (h : okd N o = true) : ∀ d, o = some d → d < N := by
  intro d e; subst e; simpa [okd, Nat.blt_eq] using h
/-- The general step. -/
theorem XO.step {d : Option Nat} {op : Op} {ty : TypeId} {pos : String} {af : Array Edge} (hN : okd c.N d = true) (hdf : noDefer op = true)
    (h : ∀ w, Hs L w → Fr c.B c.M w → OpOut c ρ ⟨d, op, ty, pos, af, none⟩ w (fun v w' => ∃ L', Hs L' w' ∧ Fr c.B c.M w' ∧ Kp L w L' w' ∧ XO c R ops rest ks (putD ρ d v) ds L')) :
    XO c R ops (⟨d, op, ty, pos, af, none⟩ :: rest) ks ρ ds L := ⟨okd_of hN, hdf, h⟩

/-- An operation yields v, and the world stays. -/
def OV (c : Cx) (ρ : Env) (L : List Blk) (o : Oper) (v : Value) : Prop := ∀ w, Hs L w → Fr c.B c.M w → (execOp (evE ρ) o).run c.P w = .ok (.value v) w
theorem XO.val {d : Nat} {op : Op} {ty : TypeId} {pos : String} {af : Array Edge} {v : Value} (hN : Nat.blt d c.N = true) (hdf : noDefer op = true)
    (hv : OV c ρ L ⟨some d, op, ty, pos, af, none⟩ v)
    (k : XO c R ops rest ks (upd ρ d v) ds L) : XO c R ops (⟨some d, op, ty, pos, af, none⟩ :: rest) ks ρ ds L :=
  XO.step hN hdf fun w hs hf => by
    unfold OpOut
    rw [hv w hs hf]
    exact ⟨L, hs, hf, Kp.refl _ _, k⟩

theorem XO.guard_t {d : Option Nat} {op : Op} {ty : TypeId} {pos : String} {af : Array Edge} {j t : Nat} {b : Bool} (hj : gdst ops j = some t) (hb : ρ t = .bool b)
    (k : XO c R ops (⟨d, op, ty, pos, af, none⟩ :: rest) ks ρ ds L) : XO c R ops (⟨d, op, ty, pos, af, some (j, b)⟩ :: rest) ks ρ ds L := by
  obtain ⟨h1, h2, h3⟩ := k
  refine ⟨h1, h2, t, b, hj, hb, ?_⟩
  rw [if_pos rfl]
  exact h3
theorem XO.guard_f {d : Option Nat} {op : Op} {ty : TypeId} {pos : String} {af : Array Edge} {j t : Nat} {b : Bool} (hj : gdst ops j = some t) (hb : ρ t = .bool (!b)) (hN : okd c.N d = true) (hdf : noDefer op = true)
    (k : XO c R ops rest ks (putD ρ d undef) ds L) : XO c R ops (⟨d, op, ty, pos, af, some (j, b)⟩ :: rest) ks ρ ds L := by
  refine ⟨okd_of hN, hdf, t, !b, hj, hb, ?_⟩
  rw [if_neg (by simp)]
  exact k
/-- A slot that holds a Bool: both ways. -/
theorem XO.split {l : List Oper} {t : Nat} {b : Bool} (hb : ρ t = .bool b) (ht : b = true → XO c R ops l ks (upd ρ t (.bool true)) ds L) (hf : b = false → XO c R ops l ks (upd ρ t (.bool false)) ds L) : XO c R ops l ks ρ ds L := by
  have e : ρ = upd ρ t (.bool b) := by
    funext x
    by_cases h : x = t
    · subst h; rw [upd_same, hb]
    · rw [upd_ne _ _ h]
  cases b with
  | true => rw [e]; exact ht rfl
  | false => rw [e]; exact hf rfl
theorem XK.split {t : Nat} {b : Bool} (hb : ρ t = .bool b) (ht : b = true → XK c R ks (upd ρ t (.bool true)) ds L) (hf : b = false → XK c R ks (upd ρ t (.bool false)) ds L) : XK c R ks ρ ds L := by
  have e : ρ = upd ρ t (.bool b) := by
    funext x
    by_cases h : x = t
    · subst h; rw [upd_same, hb]
    · rw [upd_ne _ _ h]
  cases b with
  | true => rw [e]; exact ht rfl
  | false => rw [e]; exact hf rfl

/-- A slot is spelled anew. -/
theorem XO.say {l : List Oper} (t : Nat) {u v : Value} (hu : ρ t = u) (e : u = v) (k : XO c R ops l ks (upd ρ t v) ds L) : XO c R ops l ks ρ ds L := by
  have e : ρ = upd ρ t v := by
    funext x
    by_cases h : x = t
    · subst h; rw [upd_same, hu, e]
    · rw [upd_ne _ _ h]
  rw [e]; exact k
theorem XK.say (t : Nat) {u v : Value} (hu : ρ t = u) (e : u = v) (k : XK c R ks (upd ρ t v) ds L) : XK c R ks ρ ds L := by
  have e : ρ = upd ρ t v := by
    funext x
    by_cases h : x = t
    · subst h; rw [upd_same, hu, e]
    · rw [upd_ne _ _ h]
  rw [e]; exact k

variable {od : Option Nat} {ty : TypeId} {pos : String} {af : Array Edge}

theorem OV.mv {x : Operand} {v : Value} (hx : evE ρ x = v) : OV c ρ L ⟨od, .move x, ty, pos, af, none⟩ v :=
  fun w _ _ => by subst hx; rfl
theorem OV.asg {x : Operand} {v : Value} (hx : evE ρ x = v) : OV c ρ L ⟨od, .assign x, ty, pos, af, none⟩ v :=
  fun w _ _ => by subst hx; rfl
theorem OV.pick_t {x y z : Operand} {v : Value} (hx : evE ρ x = .bool true) (hy : evE ρ y = v) : OV c ρ L ⟨od, .pick x y z, ty, pos, af, none⟩ v :=
  fun w _ _ => by subst hy; simp only [execOp, hx]; rfl
theorem OV.pick_f {x y z : Operand} {v : Value} (hx : evE ρ x = .bool false) (hy : evE ρ z = v) : OV c ρ L ⟨od, .pick x y z, ty, pos, af, none⟩ v :=
  fun w _ _ => by subst hy; simp only [execOp, hx]; rfl
theorem OV.nilc {x : Operand} {a : Addr} (hx : evE ρ x = .pointer (some a)) : OV c ρ L ⟨od, .nilCheck x, ty, pos, af, none⟩ (.pointer (some a)) :=
  fun w _ _ => by simp only [execOp, hx]; rfl
theorem OV.nilcF {x : Operand} {f : Fn} {a b : Array Value} (hx : evE ρ x = .func f a b) (hf : ∀ n, f ≠ .method n) : OV c ρ L ⟨od, .nilCheck x, ty, pos, af, none⟩ (.func f a b) :=
  fun w _ _ => by simp only [execOp, hx]; cases f <;> first | rfl | exact absurd rfl (hf _)
theorem OV.notB {x : Operand} {t : TypeId} {b : Bool} (hx : evE ρ x = .bool b) : OV c ρ L ⟨od, .unOp .not t x, ty, pos, af, none⟩ (.bool (!b)) :=
  fun w _ _ => by simp only [execOp, hx]; rfl

def nth : List Value → Nat → Option Value
  | [], _ => none
  | v :: _, 0 => some v
  | _ :: l, k + 1 => nth l k
theorem nth_eq : ∀ (l : List Value) (k : Nat), nth l k = l[k]?
  | [], _ => rfl
  | _ :: _, 0 => rfl
  | _ :: l, k + 1 => by simp only [nth, List.getElem?_cons_succ]; exact nth_eq l k
theorem OV.ext {x : Operand} {i : Nat} {l : List Value} {v : Value} (hx : evE ρ x = .tuple (List.toArray l)) (hi : nth l i = some v) : OV c ρ L ⟨od, .extract x i, ty, pos, af, none⟩ v :=
  fun w _ _ => by
    simp only [execOp, hx, Instr.extract]
    rw [nth_eq] at hi
    simp only [List.getElem?_toArray, hi]
    rfl

/-! whole numbers -/
theorem eqGuard_int (op : BinOp) (t : TypeId) (x y : Operand) (k k' : IntKind) (a b : Int) (P : Program) (w : World) : (eqGuard op t x y (.int k a) (.int k' b)).run P w = .ok () w := by
  unfold eqGuard
  cases op <;> rfl
theorem run_bin {op : BinOp} {t : TypeId} {x y : Operand} {k : IntKind} {a b : Int} {P : Program} {w : World} {yt : TypeId} {v : Value} (hx : evE ρ x = .int k a) (hy : evE ρ y = .int k b) (hv : binOp op t (.int k a) (.int k b) = .pure v) :
    (execOp (evE ρ) ⟨od, .binOp op t x y yt, ty, pos, af, none⟩).run P w = .ok (.value v) w := by
  simp only [execOp, hx, hy, Sem.run_bind, eqGuard_int, Result.andThen_ok, hv]
  rfl
section ints
variable {t yt : TypeId} {x y : Operand} {K : IntKind} {a b z : Int}
theorem OV.add (hx : evE ρ x = .int K a) (hy : evE ρ y = .int K b) (hz : K.wrap (a + b) = z) : OV c ρ L ⟨od, .binOp .add t x y yt, ty, pos, af, none⟩ (.int K z) :=
  fun w _ _ => run_bin hx hy (by subst hz; simp [binOp, Op.intArith]; rfl)
theorem OV.sub (hx : evE ρ x = .int K a) (hy : evE ρ y = .int K b) (hz : K.wrap (a - b) = z) : OV c ρ L ⟨od, .binOp .sub t x y yt, ty, pos, af, none⟩ (.int K z) :=
  fun w _ _ => run_bin hx hy (by subst hz; simp [binOp, Op.intArith]; rfl)
theorem OV.mul (hx : evE ρ x = .int K a) (hy : evE ρ y = .int K b) (hz : K.wrap (a * b) = z) : OV c ρ L ⟨od, .binOp .mul t x y yt, ty, pos, af, none⟩ (.int K z) :=
  fun w _ _ => run_bin hx hy (by subst hz; simp [binOp, Op.intArith]; rfl)
theorem OV.quo (hx : evE ρ x = .int K a) (hy : evE ρ y = .int K b) (h0 : b ≠ 0) (hz : K.wrap (a.tdiv b) = z) : OV c ρ L ⟨od, .binOp .quo t x y yt, ty, pos, af, none⟩ (.int K z) :=
  fun w _ _ => run_bin hx hy (by subst hz; simp [binOp, Op.intDiv, h0]; rfl)
theorem OV.rem (hx : evE ρ x = .int K a) (hy : evE ρ y = .int K b) (h0 : b ≠ 0) (hz : a.tmod b = z) : OV c ρ L ⟨od, .binOp .rem t x y yt, ty, pos, af, none⟩ (.int K z) :=
  fun w _ _ => run_bin hx hy (by subst hz; simp [binOp, Op.intDiv, h0]; rfl)
theorem OV.lss (hx : evE ρ x = .int K a) (hy : evE ρ y = .int K b) : OV c ρ L ⟨od, .binOp .lss t x y yt, ty, pos, af, none⟩ (.bool (decide (a < b))) :=
  fun w _ _ => run_bin hx hy (by simp [binOp, Op.intCmp]; rfl)
theorem OV.leq (hx : evE ρ x = .int K a) (hy : evE ρ y = .int K b) : OV c ρ L ⟨od, .binOp .leq t x y yt, ty, pos, af, none⟩ (.bool (decide (a ≤ b))) :=
  fun w _ _ => run_bin hx hy (by simp [binOp, Op.intCmp]; rfl)
theorem OV.gtr (hx : evE ρ x = .int K a) (hy : evE ρ y = .int K b) : OV c ρ L ⟨od, .binOp .gtr t x y yt, ty, pos, af, none⟩ (.bool (decide (b < a))) :=
  fun w _ _ => run_bin hx hy (by simp [binOp, Op.intCmp]; rfl)
theorem OV.geq (hx : evE ρ x = .int K a) (hy : evE ρ y = .int K b) : OV c ρ L ⟨od, .binOp .geq t x y yt, ty, pos, af, none⟩ (.bool (decide (b ≤ a))) :=
  fun w _ _ => run_bin hx hy (by simp [binOp, Op.intCmp]; rfl)
theorem OV.eql (hx : evE ρ x = .int K a) (hy : evE ρ y = .int K b) : OV c ρ L ⟨od, .binOp .eql t x y yt, ty, pos, af, none⟩ (.bool (decide (a = b))) :=
  fun w _ _ => run_bin hx hy (by simp only [binOp, Op.intCmp, ne_eq, not_true_eq_false, if_false]; rfl)
theorem OV.neq (hx : evE ρ x = .int K a) (hy : evE ρ y = .int K b) : OV c ρ L ⟨od, .binOp .neq t x y yt, ty, pos, af, none⟩ (.bool (!decide (a = b))) :=
  fun w _ _ => run_bin hx hy (by simp only [binOp, Op.intCmp, ne_eq, not_true_eq_false, if_false]; rfl)
end ints
end ops
end Go.Mw
