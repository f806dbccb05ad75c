/- THE ENGINE, 10: bits, rounds that are counted, copy, blocks restated. -/
import Derived.Test.YthophgadmkjamaaFEq
import Derived.LoopNIn
import Derived.Laws.BitsLemmas
namespace Go.Mw
open Go

section ops
variable {c : Cx} {R : Post} {ops : Array Oper} {rest : List Oper} {ks : List Kt} {ρ : Env} {ds : List Deferred} {L : List Blk}
variable {d : Nat} {od : Option Nat} {ty : TypeId} {pos : String} {af : Array Edge}
section ints
variable {t yt : TypeId} {x y : Operand} {K K' : IntKind} {a b z : Int}
theorem run_bin2 {op : BinOp} {v : Value} {P : Program} {w : World} (hx : evE ρ x = .int K a) (hy : evE ρ y = .int K' b) (hv : ∀ w, (binOp op t (.int K a) (.int K' b)).run P w = .ok v w) :
    (execOp (evE ρ) ⟨od, .binOp op t x y yt, ty, pos, af, none⟩).run P w = .ok (.value v) w := by
  simp only [execOp, hx, hy, Sem.run_bind, eqGuard_int, Result.andThen_ok, hv]
  rfl
theorem OV.orB (hx : evE ρ x = .int K a) (hy : evE ρ y = .int K b) (hz : bits .or K a b = z) : OV c ρ L ⟨od, .binOp .or t x y yt, ty, pos, af, none⟩ (.int K z) :=
  fun w _ _ => run_bin2 hx hy (fun w => by subst hz; simp only [binOp_or, intBits_or, Sem.run_pure])
theorem OV.andB (hx : evE ρ x = .int K a) (hy : evE ρ y = .int K b) (hz : bits .and K a b = z) : OV c ρ L ⟨od, .binOp .and t x y yt, ty, pos, af, none⟩ (.int K z) :=
  fun w _ _ => run_bin2 hx hy (fun w => by subst hz; simp only [binOp_and, intBits_and, Sem.run_pure])
theorem OV.shl (hx : evE ρ x = .int K a) (hy : evE ρ y = .int K' b) (h0 : 0 ≤ b) (hz : K.wrap (a * 2 ^ (min b.toNat K.bits)) = z) : OV c ρ L ⟨od, .binOp .shl t x y yt, ty, pos, af, none⟩ (.int K z) :=
  fun w _ _ => run_bin2 hx hy (fun w => by
    subst hz
    have : binOp .shl t (.int K a) (.int K' b) = Op.shift .shl K a K' b := by simp [binOp]
    rw [this]; simp [Op.shift, Int.not_lt.2 h0])
theorem OV.shr (hx : evE ρ x = .int K a) (hy : evE ρ y = .int K' b) (h0 : 0 ≤ b) (hz : a.fdiv (2 ^ (min b.toNat K.bits)) = z) : OV c ρ L ⟨od, .binOp .shr t x y yt, ty, pos, af, none⟩ (.int K z) :=
  fun w _ _ => run_bin2 hx hy (fun w => by
    subst hz
    have : binOp .shr t (.int K a) (.int K' b) = Op.shift .shr K a K' b := by simp [binOp]
    rw [this]; simp [Op.shift, Int.not_lt.2 h0])
end ints

/-- A block's cells are spelled anew. -/
theorem XO.blk {l l' : List Value} {E : TypeId} {r : Nat} {L' : List Blk} {o : List Oper} (hp : Put r (cel l E) (cel l' E) L L') (e : l = l') (k : XO c R ops o ks ρ ds L') : XO c R ops o ks ρ ds L := by
  subst e
  have : L = L' := by
    clear k
    induction hp with
    | hd => rfl
    | tl _ ih => rw [ih]
  rw [this]; exact k
theorem XK.blk {l l' : List Value} {E : TypeId} {r : Nat} {L' : List Blk} (hp : Put r (cel l E) (cel l' E) L L') (e : l = l') (k : XK c R ks ρ ds L') : XK c R ks ρ ds L := by
  subst e
  have : L = L' := by
    clear k
    induction hp with
    | hd => rfl
    | tl _ ih => rw [ih]
  rw [this]; exact k

/-! rounds that are counted -/
def rnds (c : Cx) (R : Post) (body : Code) (ks : List Kt) : Nat → Env → List Deferred → List Blk → Prop
  | 0 => fun _ _ _ => False
  | m + 1 => fun ρ ds L => XK c R (.code body :: .rnd (rnds c R body ks m) :: ks) ρ ds L
theorem rnds_sound {c : Cx} {R : Post} {body : Code} {ks : List Kt} : ∀ (m : Nat) (ρ : Env) (ds : List Deferred) (L : List Blk), rnds c R body ks m ρ ds L → ∀ a w, Ag c.N ds a ρ → Hs L w → Fr c.B c.M w → Code.roundsIn c.F 0 c.P body (lft c (pst c R ks)) m a w
  | 0, _, _, _, h, _, _, _, _, _ => h
  | m + 1, ρ, ds, L, h, a, w, ha, hs, hf => by
    refine wpIn_mono (h a w ha hs hf) ?_
    rintro e a' w' ⟨ρ', ds', L', h1, h2, h3, h4⟩
    cases e with
    | normal => exact rnds_sound m ρ' ds' L' h4 a' w' h1 h2 h3
    | exit id => exact ⟨ρ', ds', L', h1, h2, h3, h4⟩
    | goto id => exact ⟨ρ', ds', L', h1, h2, h3, h4⟩
    | ret => exact ⟨ρ', ds', L', h1, h2, h3, h4⟩
    | panic id => exact ⟨ρ', ds', L', h1, h2, h3, h4⟩
    | outgrown => exact ⟨ρ', ds', L', h1, h2, h3, h4⟩
theorem XK.loopN {body : Code} (m : Nat) (h : rnds c R body ks m ρ ds L) : XK c R (.code (.loop body) :: ks) ρ ds L :=
  fun a w ha hs hf => wpIn_loop_rounds m (rnds_sound m ρ ds L h a w ha hs hf)
theorem rnds.one {body : Code} {m : Nat} (h : XK c R (.code body :: .rnd (rnds c R body ks m) :: ks) ρ ds L) : rnds c R body ks (m + 1) ρ ds L := h

/-- copy, of slices that lie in different blocks. -/
theorem XO.cpy {T T2 el : TypeId} {x y : Operand} {r o n m rq q sz k1 k2 : Nat} {l ys l' lq : List Value} {E E2 : TypeId} {fr : Nat × Nat} {L' : List Blk} (hN : okd c.N od = true)
    (hx : evE ρ x = .slice (some ⟨r, o, none⟩) n k1) (hy : evE ρ y = .slice (some ⟨rq, q, none⟩) m k2)
    (hu : ∀ w, (underlying T).run c.P w = .ok (.slice el) w) (hsz : ∀ w, (sizeOf el).run c.P w = .ok sz w)
    (hq : (rq, .cells (List.toArray lq) E2 fr) ∈ L) (hv : (lq.drop q).take (min m n * sz) = ys) (hyl : ys.length = min m n * sz) (hone : ∀ v ∈ ys, v.oneCell' = true)
    (hp : Put r (cel l E) (cel l' E) L L') (hl : splice l o ys = l') (ho : o + ys.length ≤ l.length) (hw : Wr c r)
    (k : XO c R ops rest ks (putD ρ od (.int .i64 ((min m n : Nat) : Int))) ds L') :
    XO c R ops (⟨od, .call ⟨.builtin .copy, List.toArray [x, y], #[T, T2]⟩, ty, pos, af, none⟩ :: rest) ks ρ ds L :=
  XO.valw hN rfl fun w hs hf => by
    subst hl
    have h := hs.mem _ hp.mem
    refine ⟨_, _, L', .inl ?_, hs.put hp, hf.set hw (lt_of_some h) _, hp.kp, k⟩
    have hff : (Builtin.firstCells sz (min m n) (.slice (some ⟨rq, q, none⟩) m k2)).run c.P w = .ok (List.toArray ys) w := run_firstCells (hs.mem _ hq) hv hyl
    have hlen : (Builtin.lenOf (.slice (some ⟨rq, q, none⟩) m k2)).run c.P w = .ok m w := rfl
    simp only [execOp, resolve, List.map_toArray, List.map_cons, List.map_nil, hx, hy, Sem.run_bind, Sem.run_pure, Result.andThen_ok, invoke, builtin, Builtin.copy_]
    simp only [List.getElem?_toArray, List.getElem?_cons_zero, List.getElem?_cons_succ, Sem.run_bind, hu, hsz, Result.andThen_ok, Sem.run_pure]
    rw [hlen, Result.andThen_ok, show (m.min n) = min m n from rfl, hff, Result.andThen_ok]
    rw [run_storeCells o ys w l 0 h (by omega) hone]
    rfl
end ops

theorem splice_next {done vs l : List Value} {o : Nat} {z : Value} {m n : Nat} (hl : l = done ++ List.replicate m z) (ho : o = done.length) (hm : m = vs.length + n) : splice l o vs = (done ++ vs) ++ List.replicate n z := by
  subst hl ho hm
  simp [splice, List.drop_append]
theorem set_next {done l : List Value} {o : Nat} {z v : Value} {m n : Nat} (hl : l = done ++ List.replicate m z) (ho : o = done.length) (hm : m = 1 + n) : l.set o v = (done ++ [v]) ++ List.replicate n z := by
  subst hl ho hm
  rw [List.set_append_right _ _ (Nat.le_refl _), Nat.sub_self, Nat.add_comm 1 n, List.replicate_succ]
  simp
end Go.Mw
