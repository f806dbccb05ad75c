/- THE ENGINE, 5: environments spelled out; loops and joins by lists of slots; calls of the plain kinds. -/
import Derived.Test.YthophgadmkjamaaFOps
namespace Go.Mw
open Go

def updL (ρ : Env) : List (Nat × Value) → Env
  | [] => ρ
  | p :: l => upd (updL ρ l) p.1 p.2
def AgL (ρ : Env) : List (Nat × Value) → Prop
  | [] => True
  | p :: l => ρ p.1 = p.2 ∧ AgL ρ l
theorem updL_same {ρ : Env} : ∀ {l : List (Nat × Value)}, AgL ρ l → updL ρ l = ρ
  | [], _ => rfl
  | p :: l, h => by
    simp only [updL, updL_same h.2]
    funext t
    by_cases e : t = p.1
    · subst e; rw [upd_same, h.1]
    · rw [upd_ne _ _ e]

/-- The heads at which fewer blocks will do. -/
def codeHead : List Kt → Prop
  | .code _ :: _ => True
  | _ => False
section
variable {c : Cx} {R : Post} {ops : Array Oper} {ks : List Kt} {ρ : Env} {ds : List Deferred} {L L2 : List Blk}
theorem XK.weak {k : Code} (h : Sel L L2) (hk : XK c R (.code k :: ks) ρ ds L2) : XK c R (.code k :: ks) ρ ds L :=
  fun a w ha hs hf => hk a w ha (hs.sel h) hf

/-- The environment spelled out: what else is in it is forgotten. -/
theorem XK.norm {l : List (Nat × Value)} (hl : AgL ρ l) (k : ∀ σ, XK c R ks (updL σ l) ds L) : XK c R ks ρ ds L := by
  have := k ρ
  rwa [updL_same hl] at this
theorem XO.norm {o : List Oper} {l : List (Nat × Value)} (hl : AgL ρ l) (k : ∀ σ, XO c R ops o ks (updL σ l) ds L) : XO c R ops o ks ρ ds L := by
  have := k ρ
  rwa [updL_same hl] at this

def Head {X : Type} (lc : List (Nat × Value)) (lv : X → List (Nat × Value)) (Lf : X → List Blk) (I : X → Prop) (ds : List Deferred) (x : X) (ρ : Env) (ds' : List Deferred) (L : List Blk) : Prop :=
  AgL ρ lc ∧ AgL ρ (lv x) ∧ ds' = ds ∧ Sel L (Lf x) ∧ I x

theorem updL_Head {X : Type} {lc : List (Nat × Value)} {lv : X → List (Nat × Value)} {x : X} (h1 : AgL ρ lc) (h2 : AgL ρ (lv x)) : updL (updL ρ lc) (lv x) = ρ := by
  rw [updL_same h1, updL_same h2]

theorem XK.loopL {X : Type} {body : Code} (lc : List (Nat × Value)) (lv : X → List (Nat × Value)) (Lf : X → List Blk) (I : X → Prop) (μ : X → Nat) (x0 : X)
    (h1 : AgL ρ lc) (h2 : AgL ρ (lv x0)) (h3 : Sel L (Lf x0)) (h4 : I x0)
    (round : ∀ x σ, I x → XK c R (.code body :: .rnd (fun ρ' ds' L' => ∃ x', Head lc lv Lf I ds x' ρ' ds' L' ∧ μ x' < μ x) :: ks) (updL (updL σ lc) (lv x)) ds (Lf x)) :
    XK c R (.code (.loop body) :: ks) ρ ds L := by
  refine XK.loop (Head lc lv Lf I ds) μ x0 ⟨h1, h2, rfl, h3, h4⟩ ?_
  rintro x ρ' ds' L' ⟨g1, g2, rfl, g3, g4⟩
  have := round x ρ' g4
  rw [updL_Head g1 g2] at this
  exact XK.weak g3 this

theorem pst_rnd_mono {I : Env → List Deferred → List Blk → Prop} (h : ∀ ρ ds L, I ρ ds L → XK c R ks ρ ds L) : ∀ e ρ ds L, pst c R (.rnd I :: ks) e ρ ds L → pst c R ks e ρ ds L := by
  intro e ρ ds L hp
  cases e with
  | normal => exact h _ _ _ hp
  | exit id => exact hp
  | goto id => exact hp
  | ret => exact hp
  | panic id => exact hp
  | outgrown => exact hp
/-- A join: the ways through k meet. -/
theorem XK.join {k : Code} (I : Env → List Deferred → List Blk → Prop) (h : XK c R (.code k :: .rnd I :: ks) ρ ds L) (hk : ∀ ρ ds L, I ρ ds L → XK c R ks ρ ds L) : XK c R (.code k :: ks) ρ ds L :=
  CW.mono h (pst_rnd_mono hk)
theorem XK.joinL {X : Type} {k k2 : Code} (lc : List (Nat × Value)) (lv : X → List (Nat × Value)) (Lf : X → List Blk) (I : X → Prop)
    (h : XK c R (.code k :: .rnd (fun ρ' ds' L' => ∃ x', Head lc lv Lf I ds x' ρ' ds' L') :: .code k2 :: ks) ρ ds L)
    (hk : ∀ x σ, I x → XK c R (.code k2 :: ks) (updL (updL σ lc) (lv x)) ds (Lf x)) : XK c R (.code k :: .code k2 :: ks) ρ ds L := by
  refine XK.join _ h ?_
  rintro ρ' ds' L' ⟨x, g1, g2, rfl, g3, g4⟩
  have := hk x ρ' g4
  rw [updL_Head g1 g2] at this
  exact XK.weak g3 this
end

theorem grab_all {l : List Value} {n : Nat} (h : l.length = n) : (l.drop 0).take n = l := by simp [← h]
theorem grab_mid {l a m b : List Value} {o n : Nat} (h : l = a ++ (m ++ b)) (ha : a.length = o) (hm : m.length = n) : (l.drop o).take n = m := by
  subst h ha hm; simp
theorem splice_all {l vs : List Value} (h : vs.length = l.length) : splice l 0 vs = vs := by simp [splice, h]

/-! ### contracts of the plain kinds -/
/-- f returns v, and of what was there nothing turns. -/
def CtV (P : Program) (f : FuncId) (args : List Value) (L : List Blk) (v : Value) : Prop := Ct P f args L [] (fun u L' => u = v ∧ L' = [])
/-- f returns v, and the blocks M lie as L1 lists them. -/
def CtM (P : Program) (f : FuncId) (args : List Value) (L : List Blk) (M : List Nat) (v : Value) (L1 : List Blk) : Prop := Ct P f args L M (fun u L' => u = v ∧ L' = L1)
inductive App : List Blk → List Blk → List Blk → Prop where
  | nil {l} : App [] l l
  | cons {x l m n} (h : App l m n) : App (x :: l) m (x :: n)
theorem App.eq {l m n : List Blk} (h : App l m n) : l ++ m = n := by
  induction h with
  | nil => rfl
  | cons _ ih => simp [ih]

section
variable {c : Cx} {R : Post} {ops : Array Oper} {rest : List Oper} {ks : List Kt} {ρ : Env} {ds : List Deferred} {L : List Blk}
variable {ty : TypeId} {pos : String} {af : Array Edge}
theorem XO.callV {d f : Nat} {fo : Operand} {args : List Operand} {tys : Array TypeId} {cap vs : List Value} {Lf : List Blk} {v : Value}
    (hN : Nat.blt d c.N = true) (hf : evE ρ fo = .func (.func f) #[] (List.toArray cap)) (ha : Evs ρ args vs) (hcf : ∀ as w, (callFunc f as).run c.P w = .ok (.enter f as) w)
    (hc : CtV c.P f (vs ++ cap) Lf v) (hsub : Sel L Lf) (k : XO c R ops rest ks (upd ρ d v) ds L) :
    XO c R ops (⟨some d, .call ⟨.value fo, List.toArray args, tys⟩, ty, pos, af, none⟩ :: rest) ks ρ ds L :=
  XO.callG (M := []) hN hf ha hcf hc hsub (fun _ h => by cases h) .nil (by rintro _ _ ⟨rfl, rfl⟩ _; exact k)
theorem XO.callM {d : Option Nat} {f : Nat} {fo : Operand} {args : List Operand} {tys : Array TypeId} {cap vs : List Value} {Lf L1 L2 L3 : List Blk} {M : List Nat} {v : Value}
    (hN : okd c.N d = true) (hf : evE ρ fo = .func (.func f) #[] (List.toArray cap)) (ha : Evs ρ args vs) (hcf : ∀ as w, (callFunc f as).run c.P w = .ok (.enter f as) w)
    (hc : CtM c.P f (vs ++ cap) Lf M v L1) (hsub : Sel L Lf) (hM : ∀ r ∈ M, Wr c r) (hrem : Rem M L L2) (happ : App L1 L2 L3) (k : XO c R ops rest ks (putD ρ d v) ds L3) :
    XO c R ops (⟨d, .call ⟨.value fo, List.toArray args, tys⟩, ty, pos, af, none⟩ :: rest) ks ρ ds L :=
  XO.callG hN hf ha hcf hc hsub hM hrem (by rintro _ _ ⟨rfl, rfl⟩ _; rw [happ.eq]; exact k)
end
end Go.Mw
