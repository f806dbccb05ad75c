/- THE PLAIN LAW OF LAYER 6, 3: steps. -/
import Derived.Test.YthophgadmkjamaaFLaw06b
namespace Go.Mw
open Go

section
variable {c : Cx} {ρ : Env} {L : List Blk} {od : Option Nat} {ty : TypeId} {pos : String} {af : Array Edge}
theorem OV.eqNf {t yt : TypeId} {x y : Operand} {f : Fn} {a b : Array Value} {ps rs : Array TypeId} {vr : Bool} (hx : evE ρ x = .func f a b) (hy : evE ρ y = .nilFunc) (hu : ∀ w, (underlying t).run c.P w = .ok (.func ps rs vr) w) :
    OV c ρ L ⟨od, .binOp .eql t x y yt, ty, pos, af, none⟩ (.bool false) := fun w _ _ => by
  have hg : (eqGuard .eql t x y (.func f a b) .nilFunc).run c.P w = .ok () w := rfl
  have he : (Op.equal t (.func f a b) .nilFunc).run c.P w = .ok false w := by
    show (Op.equalIn (9999 + 1) t _ _).run c.P w = _
    rw [Op.equalIn, Sem.run_bind, hu, Result.andThen_ok]
    rfl
  simp only [execOp, hx, hy, Sem.run_bind, hg, Result.andThen_ok]
  have : binOp .eql t (.func f a b) .nilFunc = (Op.equal t (.func f a b) .nilFunc >>= fun b => pure (.bool b)) := rfl
  rw [this]; simp only [Sem.run_bind, he, Result.andThen_ok, Sem.run_pure]
theorem OV.eqNf0 {t yt : TypeId} {x y : Operand} {ps rs : Array TypeId} {vr : Bool} (hx : evE ρ x = .nilFunc) (hy : evE ρ y = .nilFunc) (hu : ∀ w, (underlying t).run c.P w = .ok (.func ps rs vr) w) :
    OV c ρ L ⟨od, .binOp .eql t x y yt, ty, pos, af, none⟩ (.bool true) := fun w _ _ => by
  have hg : (eqGuard .eql t x y .nilFunc .nilFunc).run c.P w = .ok () w := rfl
  have he : (Op.equal t .nilFunc .nilFunc).run c.P w = .ok true w := by
    show (Op.equalIn (9999 + 1) t _ _).run c.P w = _
    rw [Op.equalIn, Sem.run_bind, hu, Result.andThen_ok]
    rfl
  simp only [execOp, hx, hy, Sem.run_bind, hg, Result.andThen_ok]
  have : binOp .eql t .nilFunc .nilFunc = (Op.equal t .nilFunc .nilFunc >>= fun b => pure (.bool b)) := rfl
  rw [this]; simp only [Sem.run_bind, he, Result.andThen_ok, Sem.run_pure]
end

/-- A step of the statements. -/
structure Stp where
  kind : Int
  page : Int
  psn : Int
  body : List Int
  n : Int
def stepL (s : Stp) : List Value := [.int .i64 s.kind, .int .i64 s.page] ++ (verL s.psn s.body ++ [.int .i64 s.n])
structure Stp.wf (s : Stp) : Prop where
  kind : -9223372036854775808 ≤ s.kind ∧ s.kind ≤ 9223372036854775807
  page : -9223372036854775808 ≤ s.page ∧ s.page ≤ 9223372036854775807
  psn : -9223372036854775808 ≤ s.psn ∧ s.psn ≤ 9223372036854775807
  n : -9223372036854775808 ≤ s.n ∧ s.n ≤ 9223372036854775807
  len : s.body.length = 96
  body : By s.body
def zStp : Stp := ⟨0, 0, 0, zrs 96, 0⟩
theorem stepL_len {s : Stp} (h : s.wf) : (stepL s).length = 100 := by simp [stepL, verL_len, h.len]
theorem stepL_one (s : Stp) : ∀ v ∈ stepL s, v.oneCell' = true := by
  refine one_app (ones_of rfl) (one_app (one_app (ones_of rfl) bys_one) (ones_of rfl))
theorem stepL_ver {s : Stp} (h : s.wf) : ((stepL s).drop (0 + 2)).take 97 = verL s.psn s.body := by
  have e : (verL s.psn s.body).length = 97 := by rw [verL_len, h.len]
  show (verL s.psn s.body ++ [Value.int .i64 s.n]).take 97 = _
  rw [List.take_left' e]
theorem stepL_n {s : Stp} (h : s.wf) : nth (stepL s) (0 + 99) = some (.int .i64 s.n) := by
  have e : (verL s.psn s.body).length = 97 := by rw [verL_len, h.len]
  rw [nth_eq, show stepL s = ([.int .i64 s.kind, .int .i64 s.page] ++ verL s.psn s.body) ++ [.int .i64 s.n] from by simp [stepL], List.getElem?_append_right (by simp [e])]
  simp [e]
structure S6 where
  i : Nat
  G : Lg
  D : Dev
  sl : Sl
  Ds : List Nat
theorem flush_l (G : Lg) (D : Dev) : (G.flush D).1.l = G.l := by
  unfold Lg.flush; split
  · rfl
  · split <;> rfl
theorem flush_j (G : Lg) (D : Dev) : (G.flush D).1.j = G.j := by
  unfold Lg.flush; split
  · rfl
  · split <;> rfl
theorem eqvs_bys1 : ∀ l : List Int, eqvs (bys l) (bys l) = true := fun l => by rw [eqvs_bys rfl]; simp
theorem eqvs_rec (r : Rcd) : eqvs (recL r) (recL r) = true := by
  simp only [recL]
  rw [eqvs_append rfl, eqvs_bys1]
  simp [eqvs, eqv]
theorem alike_rec {r r' : Rcd} (h : r.body.length = 96) (h' : r'.body.length = 96) : alike (List.replicate 101 true) (recL r) (recL r') = true := by
  rw [show List.replicate 101 true = List.replicate 5 true ++ List.replicate 96 true from rfl]
  simp only [recL]
  rw [alike_append rfl rfl, ← h, alike_bys (h.trans h'.symm)]
  rfl
theorem LInv.room {j : Job} {node : Int} {k : Nat} {G : Lg} {D : Dev} (h : LInv j node k G D) (hk : k ≤ 1000) : G.room = j.log - (G.next - G.start) := by
  have h1 := h.next
  unfold Lg.room Lg.next at *
  rw [if_neg (by omega), h.gj]; omega
theorem getD_mapR {l : List Rcd} {i : Nat} (h : i < l.length) : (l.map fun r => [recV r]).getD i [] = [recV (l.getD i zRcd)] := by
  simp [List.getD_eq_getElem?_getD, List.getElem?_map, List.getElem?_eq_getElem h]
theorem getD_take {l : List Rcd} {i m : Nat} (h : i < m) : (l.take m).getD i zRcd = l.getD i zRcd := by
  simp only [List.getD_eq_getElem?_getD, List.getElem?_take_of_lt h]
end Go.Mw
