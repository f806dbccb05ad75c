/- THE ENGINE, 11: ranges over functions: iterators, rounds, marks. -/
import Derived.Test.YthophgadmkjamaaFOps3
import Derived.RangeFuncRecord
import Derived.RangeFuncNested
namespace Go.Mw
open Go

theorem putObj_eq (w : World) (r : Nat) (o : Obj) : w.putObj r o = setBlk w r o := rfl
def keys (L : List Blk) : List Nat := L.map (·.1)
theorem mem_keys {L : List Blk} {x : Blk} (h : x ∈ L) : x.1 ∈ keys L := List.mem_map.2 ⟨x, h, rfl⟩
theorem of_keys {L : List Blk} {r : Nat} (h : r ∈ keys L) : ∃ o, (r, o) ∈ L := by
  obtain ⟨x, hx, rfl⟩ := List.mem_map.1 h
  exact ⟨x.2, hx⟩

/-- A call of yield: a round. -/
def YdC (P : Program) (l : Nat) (args : List Value) (L : List Blk) (M : List Nat) (R : Bool → List Blk → Prop) : Prop :=
  ∀ w, Hs L w → ∃ fn tmps assign body, (Instr.yield l (List.toArray args)).run P w = .ok (.round l fn tmps assign body) w ∧
    RoundIn Fence.wide 0 P l fn tmps assign body w (fun e w' => ∃ b L', e = .returned (.bool b) ∧ Fr w M w' ∧ Hs L' w' ∧ (∀ x ∈ L', x.1 ∈ M ∨ w.heap.size ≤ x.1) ∧ R b L')

/-- AN ITERATOR'S CONTRACT: called with yield, it tells xs, one by one, until a round says no. Li is what it reads. -/
def ItC (P : Program) (f : FuncId) (cap : List Value) (Li : List Blk) (xs : List (List Value)) : Prop :=
  ∀ (l : Nat) (Lr : List Blk) (J : Nat → List Blk → Prop) (Jx : List Blk → Prop) (L0 : List Blk),
    (∀ i Lc, i < xs.length → J i Lc → YdC P l (xs.getD i []) (Lc ++ (Li ++ Lr)) (keys Lc) (fun b L' => bif b then J (i + 1) L' else Jx L')) →
    J 0 L0 →
    Ct P f ([.func (.yield l) #[] #[]] ++ cap) (L0 ++ (Li ++ Lr)) (keys L0) (fun _ L' => J xs.length L' ∨ Jx L')

theorem Hs.disj {A Lc T : List Blk} {w : World} (hs : Hs (A ++ (Lc ++ T)) w) : ∀ x ∈ A ++ T, x.1 ∉ keys Lc := by
  intro x hx hk
  obtain ⟨o, ho⟩ := of_keys hk
  have hn := List.pairwise_append.1 hs.nodup
  rcases List.mem_append.1 hx with h | h
  · exact hn.2.2 x h (x.1, o) (List.mem_append_left _ ho) rfl
  · exact (List.pairwise_append.1 hn.2.1).2.2 (x.1, o) ho x h rfl
theorem Hs.swap {A Lc T L' : List Blk} {w w' : World} (hs : Hs (A ++ (Lc ++ T)) w) (hf : Fr w (keys Lc) w') (hs' : Hs L' w') (hn : ∀ x ∈ L', x.1 ∈ keys Lc ∨ w.heap.size ≤ x.1) : Hs (A ++ (L' ++ T)) w' := by
  have hd := hs.disj
  have hAT : Hs (A ++ T) w := hs.sub ((List.Sublist.refl A).append (List.sublist_append_right _ _))
  have hAT' := hAT.later hf hd
  have hx : ∀ x ∈ A ++ T, ∀ y ∈ L', x.1 ≠ y.1 := by
    intro x hx y hy e
    rcases hn y hy with h | h
    · exact hd x hx (e ▸ h)
    · have := lt_of_some (hAT.mem x hx); omega
  have hp := List.pairwise_append.1 hAT'.nodup
  refine ⟨List.pairwise_append.2 ⟨hp.1, List.pairwise_append.2 ⟨hs'.nodup, hp.2.1, fun x hx' y hy e => hx y (List.mem_append_right _ hy) x hx' e.symm⟩, fun x hx' y hy => ?_⟩, fun x hx' => ?_⟩
  · rcases List.mem_append.1 hy with h | h
    · exact hx x (List.mem_append_left _ hx') y h
    · exact hp.2.2 x hx' y h
  · rcases List.mem_append.1 hx' with h | h
    · exact hAT'.mem x (List.mem_append_left _ h)
    · rcases List.mem_append.1 h with h | h
      · exact hs'.mem x h
      · exact hAT'.mem x (List.mem_append_right _ h)
theorem Sel.drop {x : Blk} {L L' : List Blk} (h : Sel L L') : Sel (x :: L) L' := by
  induction h generalizing x with
  | nil => exact .nil
  | cons h hm _ ih => exact .cons h.tl (.tail _ hm) ih
theorem Sel.refl : ∀ (L : List Blk), Sel L L
  | [] => .nil
  | x :: L => .cons (L1 := L) (by exact Del.hd (r := x.1) (o := x.2)) (.head _) (Sel.refl L)
theorem Sel.mid {P Q T : List Blk} (h : Sel (P ++ Q) T) : ∀ {A : List Blk}, Sel (P ++ (A ++ Q)) (A ++ T)
  | [] => h
  | x :: A => .cons (L1 := P ++ (A ++ Q)) (Del.app (by exact Del.hd (r := x.1) (o := x.2))) (List.mem_append_right _ (.head _)) (Sel.mid h)
theorem Sel.pre : ∀ {A B : List Blk}, Sel (A ++ B) A
  | [], _ => .nil
  | x :: A, B => .cons (L1 := A ++ B) (by exact Del.hd (r := x.1) (o := x.2)) (.head _) Sel.pre
theorem Sel.pre' {L A B : List Blk} (h : L = A ++ B) : Sel L A := h ▸ Sel.pre
theorem Sel.refl' {L A : List Blk} (h : L = A) : Sel L A := h ▸ Sel.refl _
theorem Tak.mem {r : Nat} {o : Obj} {L L' : List Blk} (h : Tak r o L L') : (r, o) ∈ L := by
  obtain ⟨a, b, rfl, rfl⟩ := h.split; simp
theorem Tak.sub {r : Nat} {o : Obj} {L L' : List Blk} (h : Tak r o L L') : L'.Sublist L := by
  obtain ⟨a, b, rfl, rfl⟩ := h.split
  exact (List.Sublist.refl a).append (List.sublist_cons_self _ _)
theorem Tak.front {r : Nat} {o : Obj} {L L' : List Blk} {w : World} (h : Tak r o L L') (hs : Hs L w) : Hs ((r, o) :: L') w := by
  obtain ⟨a, b, rfl, rfl⟩ := h.split
  refine ⟨(List.pairwise_middle (fun h => Ne.symm h)).1 hs.nodup, fun x hx => hs.mem x ?_⟩
  simp only [List.mem_cons, List.mem_append] at hx ⊢
  rcases hx with h | h | h
  · exact .inr (.inl h)
  · exact .inl h
  · exact .inr (.inr h)
theorem Hs.takPut {r : Nat} {o : Obj} {L L' : List Blk} {w : World} (hs : Hs L w) (h : Tak r o L L') (o' : Obj) : Hs ((r, o') :: L') (setBlk w r o') := (h.front hs).put .hd

section
variable {c : Cx} {R : Post} {ops : Array Oper} {rest : List Oper} {ks : List Kt} {ρ : Env} {ds : List Deferred} {L : List Blk}
variable {ty : TypeId} {pos : String} {af : Array Edge}
theorem run_callY {P : Program} {l : Nat} {fo : Operand} {args : List Operand} {vs : List Value} {od : Option Nat} {tys : Array TypeId} {w : World} {n : Next} (hf : evE ρ fo = .func (.yield l) #[] #[]) (ha : Evs ρ args vs) (hy : (Instr.yield l (List.toArray vs)).run P w = .ok n w) :
    (execOp (evE ρ) ⟨od, .call ⟨.value fo, List.toArray args, tys⟩, ty, pos, af, none⟩).run P w = .ok n w := by
  simp only [execOp, resolve, hf, List.map_toArray, ha.map, Deferred.ofValue, Sem.run_bind]
  simp [invoke, hy]
theorem XO.callY {d l : Nat} {fo : Operand} {args : List Operand} {tys : Array TypeId} {vs : List Value} {A Lc Q T : List Blk} {Ry : Bool → List Blk → Prop}
    (hN : Nat.blt d c.N = true) (hf : evE ρ fo = .func (.yield l) #[] #[]) (ha : Evs ρ args vs)
    (hy : YdC c.P l vs (Lc ++ T) (keys Lc) Ry) (hL : L = A ++ (Lc ++ Q)) (hq : Sel (A ++ Q) T) (hW : ∀ r ∈ keys Lc, Wr c r)
    (k : ∀ b L', Ry b L' → (∀ x ∈ L', x.1 ∈ keys Lc ∨ c.B.heap.size ≤ x.1) → XO c R ops rest ks (upd ρ d (.bool b)) ds (A ++ (L' ++ Q))) :
    XO c R ops (⟨some d, .call ⟨.value fo, List.toArray args, tys⟩, ty, pos, af, none⟩ :: rest) ks ρ ds L :=
  XO.step hN rfl fun w hs hfr => by
    subst hL
    obtain ⟨fn, tmps, assign, body, hy1, hy2⟩ := hy w (hs.sel (Sel.mid hq))
    unfold OpOut
    rw [run_callY hf ha hy1]
    have h' : RoundIn c.F 0 c.P l fn tmps assign body w _ := hy2
    refine h'.mono ?_
    rintro e w' ⟨b, L', rfl, h2, h3, h4, h5⟩
    refine ⟨.bool b, rfl, A ++ (L' ++ Q), hs.swap h2 h3 h4, hfr.trans h2 hW, ⟨fun r hr hx => h2.old r hr fun hm => ?_, fun x hx => ?_⟩, k b L' h5 (fun x hx => (h4 x hx).imp id fun h => Nat.le_trans hfr.size h)⟩
    · obtain ⟨o, ho⟩ := of_keys hm
      exact hx _ (List.mem_append_right _ (List.mem_append_left _ ho)) rfl
    · rcases List.mem_append.1 hx with h | h
      · exact .inl ⟨x, List.mem_append_left _ h, rfl⟩
      · rcases List.mem_append.1 h with h | h
        · rcases h4 x h with h | h
          · obtain ⟨o, ho⟩ := of_keys h
            exact .inl ⟨_, List.mem_append_right _ (List.mem_append_left _ ho), rfl⟩
          · exact .inr h
        · exact .inl ⟨x, List.mem_append_right _ (List.mem_append_right _ h), rfl⟩
end

def mkD (D : Nat) : Deferred := { target := .collected D, args := #[] }
def dfO : Obj := .deferred (some [])
def putPs (ρ : Env) : List Nat → List Value → Env
  | p :: ps, v :: vs => putPs (upd ρ p v) ps vs
  | _, _ => ρ
theorem Ag.putPs {N : Nat} {ds : List Deferred} : ∀ (ps : List Nat) (vs : List Value) (t : Array Value) (ρ : Env), Ag N ds { tmps := t, defers := ds } ρ → (∀ p ∈ ps, p < N) →
    Ag N [] { tmps := (ps.zip vs).foldl (fun t x => t.setIfInBounds x.1 x.2) t, defers := [] } (putPs ρ ps vs)
  | [], _, t, ρ, h, _ => ⟨h.size, rfl, h.get⟩
  | p :: ps, [], t, ρ, h, _ => ⟨h.size, rfl, h.get⟩
  | p :: ps, v :: vs, t, ρ, h, hp => by
    have h1 : Ag N ds { tmps := t.setIfInBounds p v, defers := ds } (upd ρ p v) := h.put (hp p (.head _)) v
    exact Ag.putPs ps vs _ _ h1 (fun q hq => hp q (.tail _ hq))

/-- What is asked at a round's end. -/
def RdP {X : Type} (l : Nat) (o : Obj) (Lf : X → List Blk) (I : X → Prop) (Ix : Code → X → Prop) (B : World) (M : List Nat) : Post := fun e _ ds L =>
  ds = [] ∧ ∃ x, Sel L ((l, o) :: Lf x) ∧ (∀ y ∈ Lf x, y.1 ∈ M ∨ B.heap.size ≤ y.1) ∧ match e with
    | .normal => I x
    | .ret => Ix .ret x
    | .exit id => Ix (.exit id) x
    | .goto t => Ix (.goto t) x
    | _ => False
/-- Between the assignment of a round's variables and its body. -/
def AsP (c : Cx) (R : Obj → Post) (body : Code) (l : Nat) (oR : Obj) : Post := fun e ρ ds L =>
  e = .normal ∧ ∃ L1, Tak l oR L L1 ∧ ∀ o, XK c (R o) [.code body] ρ ds ((l, o) :: L1)

theorem Sel.keysub {L L' : List Blk} (h : Sel L L') : ∀ x ∈ L', x ∈ L := h.mem

def mkLoop (fn : FuncId) (tmps : Array Value) (ps : Array Tmp) (assign body : Code) (D : Nat) (st : LoopState) (pe : Option Code) : Loop := { state := st, pending := pe, fn, tmps, params := ps, assign, body, defers := D }
theorem XK.rangeF {X : Type} {c : Cx} {R : Post} {ks : List Kt} {ρ : Env} {ds : List Deferred} {L : List Blk} {g : Operand} {ps : List Nat} {assign body : Code} {f : FuncId} {cap : List Value} {xs : List (List Value)} {Li Lr : List Blk}
    (Lf : X → List Blk) (I : Nat → X → Prop) (Ix : Code → X → Prop) (x0 : X)
    (hr : c.rnd = none) (hg : evE ρ g = .func (.func f) #[] (List.toArray cap)) (hcf : ∀ as w, (callFunc f as).run c.P w = .ok (.enter f as) w)
    (hit : ItC c.P f cap Li xs) (hsel : Sel L (Lf x0 ++ (Li ++ Lr))) (h0 : I 0 x0) (hW : ∀ r ∈ keys (Lf x0), Wr c r)
    (hps' : ps.all (fun p => Nat.blt p c.N) = true) (hxs : ∀ v ∈ xs, v.length = ps.length)
    (round : ∀ i x l oR B, i < xs.length → I i x → c.B.heap.size ≤ l →
      XK ⟨c.P, some l, c.N, B, l :: keys (Lf x)⟩ (AsP ⟨c.P, some l, c.N, B, l :: keys (Lf x)⟩ (fun o => RdP l o Lf (I (i + 1)) Ix B (keys (Lf x))) body l oR) [.code assign] (putPs ρ ps (xs.getD i [])) [] ((l, oR) :: (Lf x ++ (Li ++ Lr))))
    (hdone : ∀ x D, I xs.length x → c.B.heap.size ≤ D → (∀ y ∈ Lf x, y.1 ∈ keys (Lf x0) ∨ c.B.heap.size ≤ y.1) → XK c R ks ρ (mkD D :: ds) ((D, dfO) :: (Lf x ++ (Li ++ Lr))))
    (hjump : ∀ x D k, Ix k x → c.B.heap.size ≤ D → (∀ y ∈ Lf x, y.1 ∈ keys (Lf x0) ∨ c.B.heap.size ≤ y.1) → XK c R (.code k :: ks) ρ (mkD D :: ds) ((D, dfO) :: (Lf x ++ (Li ++ Lr)))) :
    XK c R (.code (.rangeFunc g (List.toArray ps) assign body) :: ks) ρ ds L := by
  have hps : ∀ p ∈ ps, p < c.N := fun p hp => Nat.le_of_ble_eq_true (List.all_eq_true.1 hps' p hp)
  intro a w ha hs hf
  refine wpIn_rangeFunc ?_
  intro fn hfn
  have hround : c.F.round = none := hr
  obtain ⟨D, hD⟩ : ∃ D, D = w.heap.size := ⟨_, rfl⟩
  obtain ⟨l, hl⟩ : ∃ l, l = w.heap.size + 1 := ⟨_, rfl⟩
  obtain ⟨rec, hrec⟩ : ∃ rec : LoopState → Option Code → Loop, rec = mkLoop fn a.tmps (List.toArray ps) assign body w.heap.size := ⟨_, rfl⟩
  obtain ⟨W1, hW1⟩ : ∃ W1, newBlk (newBlk w dfO) (.loop (rec .ready none)) = W1 := ⟨_, rfl⟩
  have hs0 : Hs ((l, .loop (rec .ready none)) :: (D, dfO) :: (Lf x0 ++ (Li ++ Lr))) W1 := by
    rw [← hW1, hD, hl]
    have h1 := (hs.sel hsel).alloc dfO
    have h2 := h1.alloc (.loop (rec .ready none))
    rw [show (newBlk w dfO).heap.size = w.heap.size + 1 from by simp [newBlk]] at h2
    exact h2
  have hfW1 : Fr c.B c.M W1 := by rw [← hW1]; exact (hf.alloc _).alloc _
  have hBD : c.B.heap.size ≤ D := by rw [hD]; exact hf.size
  have hBl : c.B.heap.size ≤ l := by rw [hl]; have := hf.size; omega
  have hsz1 : W1.heap.size = w.heap.size + 2 := by rw [← hW1]; simp [newBlk]
  refine ⟨l, [mkD D], W1, { target := .fn (.func f) (List.toArray cap), args := #[.func (.yield l) #[] #[]] }, W1, f, #[.func (.yield l) #[] #[]] ++ List.toArray cap, W1, ?_, ?_, fun _ _ => trivial, ?_, fun h => by simp [Cx.F, Fence.wide] at h, ?_⟩
  · rw [hround, ← hW1, hl, hD, hrec]; exact run_enterLoop_outer _ _ _ _ _
  · rw [ha.eval]
    simp only [resolve, hg]
    simp [evE, Deferred.ofValue]
  · simp only [invoke]
    exact hcf _ _
  · -- the iterator's contract
    have hrs : ∀ st pe, (rec st pe).state = st := fun _ _ => by rw [hrec]; rfl
    have hendL : ∀ (st : LoopState) (pe : Option Code) (W : World), st ≠ .busy → W.heap[l]? = some (.loop (rec st pe)) → (Instr.endLoop l).run c.P W = .ok pe (setBlk W l (.loop (rec .exhausted pe))) := by
      intro st pe W h1 h2
      rw [hrec] at h2 ⊢
      exact run_endLoop h2 h1
    have hendR : ∀ (st : LoopState) (pe jump : Option Code) (W : World), W.heap[l]? = some (.loop (rec st pe)) → (Instr.endRound l jump).run c.P W = .ok (.bool jump.isNone) (setBlk W l (.loop (rec (if jump.isNone then .ready else .done) jump))) := by
      intro st pe jump W h2
      rw [hrec] at h2 ⊢
      exact run_endRound jump h2
    have hbeg : ∀ (pe : Option Code) (W : World), W.heap[l]? = some (.loop (rec .ready pe)) → (Instr.beginRound l).run c.P W = .ok () (setBlk W l (.loop (rec .busy pe))) := by
      intro pe W h2
      rw [hrec] at h2 ⊢
      exact run_beginRound h2 rfl
    have hyl : ∀ (st : LoopState) (pe : Option Code) (W : World) (vs : List Value), vs.length = ps.length → W.heap[l]? = some (.loop (rec st pe)) → (Instr.yield l (List.toArray vs)).run c.P W = .ok (.round l fn (((List.toArray ps).zip (List.toArray vs)).foldl (fun tmps (t, v) => tmps.setIfInBounds t v) a.tmps) assign body) W := by
      intro st pe W vs h1 h2
      rw [hrec] at h2
      exact run_yield h2 (by simpa [mkLoop] using h1)
    have hct := hit l Lr
      (fun i Lc => ∃ x, I i x ∧ Lc = (l, .loop (rec .ready none)) :: (D, dfO) :: Lf x ∧ ∀ y ∈ Lf x, y.1 ∈ keys (Lf x0) ∨ W1.heap.size ≤ y.1)
      (fun Lc => ∃ x k, Ix k x ∧ Lc = (l, .loop (rec .done (some k))) :: (D, dfO) :: Lf x ∧ ∀ y ∈ Lf x, y.1 ∈ keys (Lf x0) ∨ W1.heap.size ≤ y.1)
      ((l, .loop (rec .ready none)) :: (D, dfO) :: Lf x0) ?_ ⟨x0, h0, rfl, fun y hy => .inl (mem_keys hy)⟩
    · rw [show (#[Value.func (.yield l) #[] #[]] ++ List.toArray cap) = List.toArray ([Value.func (.yield l) #[] #[]] ++ cap) from by simp]
      have hct' : CallsIn c.F (0 - 1) c.P f (List.toArray ([Value.func (.yield l) #[] #[]] ++ cap)) W1 _ := hct W1 hs0
      refine hct'.mono ?_
      rintro e w' ⟨v, L', rfl, h2, h3, h4, h5⟩
      have hsw : Hs ([] ++ (L' ++ (Li ++ Lr))) w' := Hs.swap (A := []) (Lc := (l, .loop (rec .ready none)) :: (D, dfO) :: Lf x0) hs0 h2 h3 h4
      have hM : ∀ r ∈ keys ((l, .loop (rec .ready none)) :: (D, dfO) :: Lf x0), r ∈ c.M ∨ c.B.heap.size ≤ r := by
        intro r hr'
        simp only [keys, List.map_cons, List.mem_cons] at hr'
        rcases hr' with rfl | rfl | h
        · exact .inr hBl
        · exact .inr hBD
        · exact hW r h
      have hfr' := hfW1.trans h2 hM
      have hag' : Ag c.N (mkD D :: ds) { a with defers := [mkD D] ++ a.defers } ρ := ⟨ha.size, by simp [ha.defers], ha.get⟩
      rcases h5 with ⟨x, hI, rfl, hnew⟩ | ⟨x, k, hI, rfl, hnew⟩
      · have hl3 := hsw.mem (l, .loop (rec .ready none)) (by simp)
        refine ⟨none, _, hendL _ _ _ (by simp) hl3, ?_⟩
        have hs4 : Hs ((D, dfO) :: (Lf x ++ (Li ++ Lr))) (setBlk w' l (.loop (rec .exhausted none))) :=
          Hs.sub (hsw.takPut (L' := (D, dfO) :: (Lf x ++ (Li ++ Lr))) .hd _) (List.sublist_cons_self _ _)
        exact ⟨ρ, _, _, hag', hs4, hfr'.set (.inr hBl) (lt_of_some hl3) _, hdone x D hI hBD (fun y hy => (hnew y hy).imp id fun h => by rw [hsz1] at h; have := hf.size; omega)⟩
      · have hl3 := hsw.mem (l, .loop (rec .done (some k))) (by simp)
        refine ⟨some k, _, hendL _ _ _ (by simp) hl3, ?_⟩
        have hs4 : Hs ((D, dfO) :: (Lf x ++ (Li ++ Lr))) (setBlk w' l (.loop (rec .exhausted (some k)))) :=
          Hs.sub (hsw.takPut (L' := (D, dfO) :: (Lf x ++ (Li ++ Lr))) .hd _) (List.sublist_cons_self _ _)
        exact hjump x D k hI hBD (fun y hy => (hnew y hy).imp id fun h => by rw [hsz1] at h; have := hf.size; omega) _ _ hag' hs4 (hfr'.set (.inr hBl) (lt_of_some hl3) _)
    · -- one round
      rintro i Lc hi ⟨x, hI, rfl, hnew⟩ W hsW
      have hlW := hsW.mem (l, .loop (rec .ready none)) (by simp)
      have hDW := hsW.mem (D, dfO) (by simp)
      have hvl : (xs.getD i []).length = ps.length := by
        rw [List.getD_eq_getElem?_getD, List.getElem?_eq_getElem hi]; exact hxs _ (List.getElem_mem hi)
      have hy := hyl _ _ _ (xs.getD i []) hvl hlW
      have hns := List.pairwise_cons.1 hsW.nodup
      have hns2 := List.pairwise_cons.1 hns.2
      have hlk : l ∉ keys (Lf x) := fun h => by
        obtain ⟨o, ho⟩ := of_keys h
        exact hns.1 (l, o) (.tail _ (List.mem_append_left _ ho)) rfl
      have hDk : D ∉ keys (Lf x) := fun h => by
        obtain ⟨o, ho⟩ := of_keys h
        exact hns2.1 (D, o) (List.mem_append_left _ ho) rfl
      have hDl : D ≠ l := by omega
      refine ⟨fn, _, assign, body, hy, roundIn_of_wpIn trivial ?_⟩
      have hag0 : Ag c.N [] { tmps := ((List.toArray ps).zip (List.toArray (xs.getD i []))).foldl (fun tmps (t, v) => tmps.setIfInBounds t v) a.tmps, defers := [] } (putPs ρ ps (xs.getD i [])) := by
        have := Ag.putPs (ds := a.defers) ps (xs.getD i []) a.tmps ρ ⟨ha.size, rfl, ha.get⟩ hps
        simpa using this
      have hsW' : Hs ((l, .loop (rec .ready none)) :: (Lf x ++ (Li ++ Lr))) W := hsW.sub ((List.sublist_cons_self _ _).cons_cons _)
      refine wpIn_mono (round i x l (.loop (rec .ready none)) W hi hI hBl _ W hag0 hsW' (Fr.refl _ _)) ?_
      rintro e a1 w1 ⟨ρ1, ds1, L1, hag1, hs1, hf1, rfl, L2, htak, hb⟩
      have hl1 := hs1.mem _ htak.mem
      refine ⟨_, hbeg _ _ hl1, ?_⟩
      have hs2 := hs1.takPut htak (.loop (rec .busy none))
      have hf2 : Fr W (l :: keys (Lf x)) (setBlk w1 l (.loop (rec .busy none))) := Fr.set (c := ⟨c.P, some l, c.N, W, l :: keys (Lf x)⟩) hf1 (.inl (.head _)) (lt_of_some hl1) _
      refine wpIn_mono (hb (.loop (rec .busy none)) a1 _ hag1 hs2 hf2) ?_
      rintro e a3 w3 ⟨ρ3, ds3, L3, hag3, hs3, hf3, rfl, x', hsel', hnew', hcase⟩
      have hs3' := hs3.sel hsel'
      have hl3 := hs3'.mem (l, .loop (rec .busy none)) (by simp)
      have hD3 : w3.heap[D]? = some dfO := (hf3.old D (lt_of_some hDW) (by simp only [List.mem_cons, not_or]; exact ⟨hDl, hDk⟩)).trans hDW
      have hn3 := List.pairwise_cons.1 hs3'.nodup
      have hfin : ∀ r : Loop, Hs ((l, .loop r) :: (D, dfO) :: Lf x') (setBlk w3 l (.loop r)) := by
        intro r
        have hA : Hs ((l, .loop (rec .busy none)) :: (D, dfO) :: Lf x') w3 := by
          refine ⟨List.pairwise_cons.2 ⟨fun y hy => ?_, List.pairwise_cons.2 ⟨fun y hy => ?_, hn3.2⟩⟩, fun y hy => ?_⟩
          · rcases List.mem_cons.1 hy with rfl | hy
            · exact fun e => hDl e.symm
            · exact hn3.1 y hy
          · intro e
            rcases hnew' y hy with h | h
            · exact hDk (by rw [show D = y.1 from e]; exact h)
            · have := lt_of_some hDW; have e' : D = y.1 := e; omega
          · rcases List.mem_cons.1 hy with rfl | hy
            · exact hl3
            · rcases List.mem_cons.1 hy with rfl | hy
              · exact hD3
              · exact hs3'.mem y (.tail _ hy)
        exact hA.put .hd
      have hfrf : ∀ r : Loop, Fr W (keys ((l, .loop (rec .ready none)) :: (D, dfO) :: Lf x)) (setBlk w3 l (.loop r)) := by
        intro r
        refine (Fr.set (c := ⟨c.P, some l, c.N, W, l :: keys (Lf x)⟩) hf3 (.inl (.head _)) (lt_of_some hl3) (.loop r)).weaken ?_
        intro q hq
        rcases List.mem_cons.1 hq with rfl | hq
        · exact .head _
        · exact .tail _ (.tail _ hq)
      have hWsz : W1.heap.size ≤ W.heap.size := by
        have := lt_of_some hlW
        rw [hsz1]; simp only at this; omega
      have hnn : ∀ (r : Loop), ∀ y ∈ ((l, .loop r) :: (D, dfO) :: Lf x' : List Blk), y.1 ∈ keys ((l, .loop (rec .ready none)) :: (D, dfO) :: Lf x) ∨ W.heap.size ≤ y.1 := by
        intro r y hy
        rcases List.mem_cons.1 hy with rfl | hy
        · exact .inl (.head _)
        · rcases List.mem_cons.1 hy with rfl | hy
          · exact .inl (.tail _ (.head _))
          · exact (hnew' y hy).imp (fun h => .tail _ (.tail _ h)) id
      have hnk : ∀ y ∈ Lf x', y.1 ∈ keys (Lf x0) ∨ W1.heap.size ≤ y.1 := by
        intro y hy
        rcases hnew' y hy with h | h
        · obtain ⟨o, ho⟩ := of_keys h
          exact hnew (y.1, o) ho
        · exact .inr (by omega)
      cases e with
      | normal => exact ⟨_, _, hendR _ _ none _ hl3, true, _, rfl, hfrf _, hfin _, hnn _, x', hcase, rfl, hnk⟩
      | ret => exact ⟨_, _, hendR _ _ (some .ret) _ hl3, false, _, rfl, hfrf _, hfin _, hnn _, x', _, hcase, rfl, hnk⟩
      | exit id => exact ⟨_, _, hendR _ _ (some (.exit id)) _ hl3, false, _, rfl, hfrf _, hfin _, hnn _, x', _, hcase, rfl, hnk⟩
      | goto id => exact ⟨_, _, hendR _ _ (some (.goto id)) _ hl3, false, _, rfl, hfrf _, hfin _, hnn _, x', _, hcase, rfl, hnk⟩
      | panic id => exact hcase.elim
      | outgrown => exact hcase.elim

theorem XK.exitOut {c : Cx} {R : Post} {ρ : Env} {ds : List Deferred} {L : List Blk} {id : Nat} : ∀ {ks : List Kt}, dropTo id ks = none → R (.exit id) ρ ds L → pst c R ks (.exit id) ρ ds L
  | [], _, h => h
  | .blk i :: ks, hd, h => by
    simp only [dropTo] at hd
    simp only [pst]
    by_cases e : id = i
    · subst e; simp at hd
    · rw [if_neg e]; rw [beq_false e] at hd; exact XK.exitOut hd h
  | .code _ :: ks, hd, h => XK.exitOut (ks := ks) hd h
  | .rnd _ :: ks, hd, h => XK.exitOut (ks := ks) hd h
  | .scp :: ks, hd, h => XK.exitOut (ks := ks) hd h
theorem XK.exitRd {c : Cx} {R : Post} {ks : List Kt} {ρ : Env} {ds : List Deferred} {L : List Blk} {id : Nat} (hd : dropTo id ks = none) (h : R (.exit id) ρ ds L) : XK c R (.code (.exit id) :: ks) ρ ds L := XK.exit (XK.exitOut hd h)

/-! ### a function that ends with marks -/
inductive Marks (Wp : Nat → Prop) : List Deferred → List Blk → List Blk → Prop where
  | nil {L} : Marks Wp [] L L
  | cons {D L L1 L2 ds} (h : Tak D dfO L L1) (hw : Wp D) (t : Marks Wp ds L1 L2) : Marks Wp (mkD D :: ds) L L2
theorem Marks.app {Wp : Nat → Prop} {ds : List Deferred} {A L L' : List Blk} (h : Marks Wp ds L L') : Marks Wp ds (A ++ L) (A ++ L') := by
  induction h with
  | nil => exact .nil
  | cons h hw _ ih => exact .cons h.app hw ih
def mkDs (Ds : List Nat) : List Deferred := Ds.map mkD
def mkB (Ds : List Nat) : List Blk := Ds.map fun D => (D, dfO)
theorem Marks.mk {Wp : Nat → Prop} : ∀ {Ds : List Nat}, (∀ D ∈ Ds, Wp D) → Marks Wp (mkDs Ds) (mkB Ds) []
  | [], _ => .nil
  | D :: Ds, h => .cons .hd (h D (.head _)) (Marks.mk (fun x hx => h x (.tail _ hx)))
theorem leaves_marks {P : Program} {F : Fence} {n : Nat} {fn : Func} {tmps : Array Value} {R : Ending → World → Prop} {c : Cx} {ds : List Deferred} {L L1 : List Blk} (h : Marks (Wr c) ds L L1) :
    ∀ w, Hs L w → Fr c.B c.M w → (∀ w', Hs L1 w' → Fr c.B c.M w' → LeavesInM F n P fn tmps R [] .returning w') → LeavesInM F n P fn tmps R ds .returning w := by
  induction h with
  | nil => intro w hs hf hk; exact hk w hs hf
  | @cons D L L1 L2 ds h hw t ih =>
    intro w hs hf hk
    have hD := hs.mem _ h.mem
    have hs2 := hs.takPut h (.deferred none)
    exact ⟨by simp, .inl ⟨D, setBlk w D (.deferred none), rfl, run_takeDeferred hD, ih _ (hs2.sub (List.sublist_cons_self _ _)) (hf.set hw (lt_of_some hD) _) hk⟩⟩

def FinM (c : Cx) (rs : List ResultVar) (Rf : Value → List Blk → Prop) : Post := fun e ρ ds L =>
  (e = .normal ∨ e = .ret) ∧ ∃ L1, Marks (Wr c) ds L L1 ∧ ∃ vs L', ResL c.P ρ L1 rs vs ∧ Sel L1 L' ∧ (∀ x ∈ L', x.1 ∈ c.M ∨ c.B.heap.size ≤ x.1) ∧ Rf (tupV vs) L'
theorem FinM.ret {c : Cx} {rs : List ResultVar} {Rf : Value → List Blk → Prop} {ρ : Env} {ds : List Deferred} {L L1 L' : List Blk} {vs : List Value} (h0 : Marks (Wr c) ds L L1) (h1 : ResL c.P ρ L1 rs vs) (h2 : Sel L1 L') (h3 : ∀ x ∈ L', x.1 ∈ c.M ∨ c.B.heap.size ≤ x.1) (h4 : Rf (tupV vs) L') : FinM c rs Rf .ret ρ ds L :=
  ⟨.inr rfl, L1, h0, vs, L', h1, h2, h3, h4⟩
theorem FinM.nor {c : Cx} {rs : List ResultVar} {Rf : Value → List Blk → Prop} {ρ : Env} {ds : List Deferred} {L L1 L' : List Blk} {vs : List Value} (h0 : Marks (Wr c) ds L L1) (h1 : ResL c.P ρ L1 rs vs) (h2 : Sel L1 L') (h3 : ∀ x ∈ L', x.1 ∈ c.M ∨ c.B.heap.size ≤ x.1) (h4 : Rf (tupV vs) L') : FinM c rs Rf .normal ρ ds L :=
  ⟨.inl rfl, L1, h0, vs, L', h1, h2, h3, h4⟩

theorem Ct.ofM {P : Program} {f : FuncId} {fn : Func} {k : Code} {N : Nat} {args : List Value} {L : List Blk} {M : List Nat} {Rf : Value → List Blk → Prop} {rs : List ResultVar}
    (hf : P.funcs[f]? = some fn) (hb : fn.body = some k) (hn : fn.ntmps = N) (hrs : fn.results = List.toArray rs) (hl : args.length ≤ N)
    (h : ∀ B, XK ⟨P, none, N, B, M⟩ (FinM ⟨P, none, N, B, M⟩ rs Rf) [.code k] (envL args) [] L) : Ct P f args L M Rf := by
  intro w hs
  refine callsIn_of_wp_marks hf hb trivial ?_ rfl
  have hag : Ag N [] { tmps := List.toArray args ++ Array.replicate (fn.ntmps - (List.toArray args).size) undef, defers := [] } (envL args) := by
    refine ⟨by simp [hn]; omega, rfl, fun t => ?_⟩
    simp only [envL, nth_eq, Array.getD_eq_getD_getElem?, Array.getElem?_append, List.size_toArray, List.getElem?_toArray]
    by_cases ht : t < args.length
    · rw [if_pos ht, List.getElem?_eq_getElem ht]; rfl
    · rw [if_neg ht, List.getElem?_eq_none (by omega), Array.getElem?_replicate]
      split <;> rfl
  have h0 := h w _ w hag hs (Fr.refl w M)
  refine wpIn_mono h0 ?_
  rintro e a w' ⟨ρ, ds, L1, ha, hs', hf', he, L2, hmk, vs, L', hres, hsel, hnew, hR⟩
  have hfin : ∀ w'', Hs L2 w'' → Fr w M w'' → LeavesInM Fence.wide 0 P fn a.tmps (fun e w' => ∃ v L', e = .returned v ∧ Fr w M w' ∧ Hs L' w' ∧ (∀ x ∈ L', x.1 ∈ M ∨ w.heap.size ≤ x.1) ∧ Rf v L') [] .returning w'' := by
    intro w'' hs'' hf''
    exact ⟨_, results_of hrs hres ha hs'', _, L', rfl, hf'', hs''.sel hsel, hnew, hR⟩
  have := leaves_marks (F := Fence.wide) (n := 0) (P := P) (fn := fn) (tmps := a.tmps) (c := ⟨P, none, N, w, M⟩) hmk w' hs' hf' hfin
  rw [← ha.defers] at this
  rcases he with rfl | rfl
  · exact this
  · exact this

/-! ### loops whose marks grow -/
section
variable {c : Cx} {R : Post} {ks : List Kt} {ρ : Env} {ds : List Deferred} {L : List Blk}
def HeadD {X : Type} (lc : List (Nat × Value)) (lv : X → List (Nat × Value)) (Lf : X → List Blk) (I : X → Prop) (df : X → List Deferred) (x : X) (ρ : Env) (ds' : List Deferred) (L : List Blk) : Prop :=
  AgL ρ lc ∧ AgL ρ (lv x) ∧ ds' = df x ∧ Sel L (Lf x) ∧ I x
theorem XK.loopD {X : Type} {body : Code} (lc : List (Nat × Value)) (lv : X → List (Nat × Value)) (Lf : X → List Blk) (I : X → Prop) (df : X → List Deferred) (μ : X → Nat) (x0 : X)
    (h1 : AgL ρ lc) (h2 : AgL ρ (lv x0)) (h5 : ds = df x0) (h3 : Sel L (Lf x0)) (h4 : I x0)
    (round : ∀ x σ, I x → XK c R (.code body :: .rnd (fun ρ' ds' L' => ∃ x', HeadD lc lv Lf I df x' ρ' ds' L' ∧ μ x' < μ x) :: ks) (updL (updL σ lc) (lv x)) (df x) (Lf x)) :
    XK c R (.code (.loop body) :: ks) ρ ds L := by
  refine XK.loop (HeadD lc lv Lf I df) μ x0 ⟨h1, h2, h5, h3, h4⟩ ?_
  rintro x ρ' ds' L' ⟨g1, g2, rfl, g3, g4⟩
  have := round x ρ' g4
  rw [updL_Head g1 g2] at this
  exact XK.weak g3 this
end
end Go.Mw
namespace Go.Mw
open Go
theorem XK.asEnd {c : Cx} {R : Obj → Post} {body : Code} {l : Nat} {oR : Obj} {ρ : Env} {ds : List Deferred} {L L1 : List Blk} (h : Tak l oR L L1) (k : ∀ o, XK c (R o) [.code body] ρ ds ((l, o) :: L1)) : XK c (AsP c R body l oR) [] ρ ds L := ⟨rfl, L1, h, k⟩
section
variable {X : Type} {c : Cx} {l : Nat} {o : Obj} {Lf : X → List Blk} {I : X → Prop} {Ix : Code → X → Prop} {B : World} {M : List Nat} {ρ : Env} {L : List Blk}
theorem XK.rdEnd (x : X) (h1 : Sel L ((l, o) :: Lf x)) (h2 : ∀ y ∈ Lf x, y.1 ∈ M ∨ B.heap.size ≤ y.1) (h3 : I x) : XK c (RdP l o Lf I Ix B M) [] ρ [] L := ⟨rfl, x, h1, h2, h3⟩
theorem XK.rdRet {ks : List Kt} (x : X) (h1 : Sel L ((l, o) :: Lf x)) (h2 : ∀ y ∈ Lf x, y.1 ∈ M ∨ B.heap.size ≤ y.1) (h3 : Ix .ret x) : XK c (RdP l o Lf I Ix B M) (.code .ret :: ks) ρ [] L := XK.retTo ⟨rfl, x, h1, h2, h3⟩
theorem XK.rdExit {ks : List Kt} {id : Nat} (hd : dropTo id ks = none) (x : X) (h1 : Sel L ((l, o) :: Lf x)) (h2 : ∀ y ∈ Lf x, y.1 ∈ M ∨ B.heap.size ≤ y.1) (h3 : Ix (.exit id) x) : XK c (RdP l o Lf I Ix B M) (.code (.exit id) :: ks) ρ [] L := XK.exitRd hd ⟨rfl, x, h1, h2, h3⟩
end
end Go.Mw
namespace Go.Mw
open Go
theorem nwNil {p : Blk → Prop} : ∀ y ∈ ([] : List Blk), p y := fun _ h => nomatch h
theorem nwCons {p : Blk → Prop} {x : Blk} {l : List Blk} (h : p x) (t : ∀ y ∈ l, p y) : ∀ y ∈ x :: l, p y := by
  intro y hy
  rcases List.mem_cons.1 hy with rfl | hy
  · exact h
  · exact t y hy
theorem nwApp {p : Blk → Prop} {a b : List Blk} (h : ∀ y ∈ a, p y) (t : ∀ y ∈ b, p y) : ∀ y ∈ a ++ b, p y := by
  intro y hy
  rcases List.mem_append.1 hy with h1 | h1
  · exact h y h1
  · exact t y h1
end Go.Mw
