/- THE PLAIN DATA, 5: flushing and cutting a log. -/
import Derived.Test.YthophgadmkjamaaFRedo0
namespace Go.Mw
open Go

section
variable {c : Cx} {ρ : Env} {L : List Blk} {od : Option Nat} {ty : TypeId} {pos : String} {af : Array Edge}
/-- x[lo:] of a slice, up to its end. -/
theorem OV.slF {T el : TypeId} {x y : Operand} {a : Option Addr} {len cap sz l : Nat} (hx : evE ρ x = .slice a len cap) (hu : ∀ w, (underlying T).run c.P w = .ok (.slice el) w) (hz : ∀ w, (sizeOf el).run c.P w = .ok sz w)
    (hlo : evE ρ y = .int .i64 (l : Int)) (h1 : l ≤ len) (h2 : len ≤ cap)
    : OV c ρ L ⟨od, .slice T x (some y) none none, ty, pos, af, none⟩ (.slice (if cap = l then a else a.map (·.add (l * sz))) (len - l) (cap - l)) :=
  fun w _ _ => by
    have e2 : ((0 : Int) ≤ (l : Int) ∧ (l : Int) ≤ (len : Int)) := ⟨by omega, by omega⟩
    have hs : (Instr.sliceBounds true len cap (some (evE ρ y)) none none).run c.P w = .ok (l, len, cap) w := by
      unfold Instr.sliceBounds
      simp [hlo, Instr.sliceBound, asIntOf, e2, Nat.not_lt.2 h1]
    simp only [execOp, hx, Instr.sliceAt, Sem.run_bind, hu, Result.andThen_ok, Instr.slice, Option.map_none, Option.map_some, hs, hz, Sem.run_pure]
end

theorem putRec_flat {r : Rcd} (h : r.may = true) : (putRec r).1 = [half r 177 0, half r 178 48].flatten := by
  unfold putRec; rw [if_pos h]; simp
theorem b4_By' (n : Int) : By (b4 n) := b4_By n
theorem By.append {a b : List Int} (ha : By a) (hb : By b) : By (a ++ b) := fun x hx => (List.mem_append.1 hx).elim (ha x) (hb x)
theorem half_By {r : Rcd} (hb : By r.body) {t : Int} (ht : 0 ≤ t ∧ t ≤ 255) (k : Nat) : By (half r t k) := by
  unfold half
  refine .append (.append (.append (.append (.append (.append ?_ ?_) (b4_By _)) (b4_By _)) (b4_By _)) ?_) (zrs_By 2)
  · intro x hx; rw [List.mem_singleton.1 hx]; exact ht
  · intro x hx; rw [List.mem_singleton.1 hx]; omega
  · intro x hx; exact hb x (List.drop_subset _ _ (List.take_subset _ _ hx))
/-- What holds of a log's records. -/
structure Lg.good (G : Lg) : Prop where
  wf : G.wf
  may : ∀ i, i < G.l.length → (G.l.getD i zRcd).may = true ∧ (G.l.getD i zRcd).lsn = G.start + i ∧ By (G.l.getD i zRcd).body
def flushD (j : Job) (node : Int) : Dev → List Rcd → Dev
  | D, [] => D
  | D, x :: xs => flushD j node (D.wrs (j.slot node x.lsn) [half x 177 0, half x 178 48]) xs
theorem flushD_append (j : Job) (node : Int) : ∀ (a b : List Rcd) (D : Dev), flushD j node D (a ++ b) = flushD j node (flushD j node D a) b
  | [], _, _ => rfl
  | x :: a, b, D => by simp only [List.cons_append, flushD]; exact flushD_append j node a b _
theorem wrs_keep : ∀ (l : List (List Int)) (D : Dev) (f : Int), D.wf → (∀ y ∈ l, y.length = 64 ∧ By y) → (D.wrs f l).wf ∧ (D.wrs f l).S.length = D.S.length ∧ (D.wrs f l).E = D.E ∧ (D.wrs f l).nodes = D.nodes
  | [], D, f, h, _ => ⟨h, rfl, rfl, rfl⟩
  | x :: l, D, f, h, hl => by
    have h1 : (D.dos (·.wr1 f.toNat x)).1.wf := h.dos (fun D1 hD1 => hD1.wr1 _ (hl x (.head _)).1 (hl x (.head _)).2)
    have h2 : (D.dos (·.wr1 f.toNat x)).1.S.length = D.S.length := dos_len _ _
    have h3 : (D.dos (·.wr1 f.toNat x)).1.E = D.E ∧ (D.dos (·.wr1 f.toNat x)).1.nodes = D.nodes := by
      unfold Dev.dos; split
      · exact ⟨rfl, rfl⟩
      · exact ⟨rfl, rfl⟩
    rw [Dev.wrs]
    split
    · obtain ⟨g1, g2, g3, g4⟩ := wrs_keep l _ (f + 1) h1 (fun y hy => hl y (.tail _ hy))
      exact ⟨g1, g2.trans h2, g3.trans h3.1, g4.trans h3.2⟩
    · exact ⟨h1, h2, h3⟩
end Go.Mw
namespace Go.Mw
def Lg.flush (G : Lg) (D : Dev) : Lg × Dev × Int :=
  if G.start + G.l.length ≤ G.flushed + 1 then (G, D, 0) else if G.epoch < D.E G.node.toNat then (G, D, 8)
  else ({ G with flushed := G.start + G.l.length - 1 }, flushD G.j G.node D (G.l.drop (G.flushed - G.start + 1).toNat), 0)
end Go.Mw
namespace Go.Mw
theorem lgL_job {r : Nat} {sl : Sl} {G : Lg} : ((lgL r sl G).drop (0 + 1)).take 5 = jobL G.j := rfl
end Go.Mw
namespace Go.Mw
theorem flush_next {j : Job} {node : Int} {D Di : Dev} {l : List Rcd} {k i : Nat} (h : Di = flushD j node D ((l.drop k).take i)) (hk : k + i < l.length) :
    Di.wrs (j.slot node (l.getD (k + i) zRcd).lsn) [half (l.getD (k + i) zRcd) 177 0, half (l.getD (k + i) zRcd) 178 48] = flushD j node D ((l.drop k).take (i + 1)) := by
  have e : (l.drop k).take (i + 1) = (l.drop k).take i ++ [l.getD (k + i) zRcd] := by
    have hi : i < (l.drop k).length := by rw [List.length_drop]; omega
    rw [List.take_succ_eq_append_getElem hi, List.getElem_drop, List.getD_eq_getElem?_getD, List.getElem?_eq_getElem hk]; rfl
  rw [e, flushD_append, ← h]; rfl
theorem half2 {r : Rcd} (hb : r.body.length = 96) (hB : By r.body) : ∀ y ∈ [half r 177 0, half r 178 48], y.length = 64 ∧ By y := by
  intro y hy
  simp only [List.mem_cons, List.not_mem_nil, or_false] at hy
  rcases hy with rfl | rfl
  · exact ⟨half_len hb _ (by omega), half_By hB (by omega) _⟩
  · exact ⟨half_len hb _ (by omega), half_By hB (by omega) _⟩
end Go.Mw
namespace Go.Mw
theorem flush_fin {G : Lg} {D D1 : Dev} {k i : Nat} {fl : Int} (hk : G.flushed - G.start + 1 = (k : Int)) (hle : k ≤ G.l.length) (h1 : G.l.length - k ≤ i) (h2 : i ≤ G.l.length - k) (hD : D1 = flushD G.j G.node D ((G.l.drop k).take i)) (hfl : fl = G.flushed + (i : Int)) (ho : i = 0 ∨ ¬ G.epoch < D.E G.node.toNat) :
    G.flush D = ({ G with flushed := fl }, D1, 0) := by
  have hi : i = G.l.length - k := by omega
  unfold Lg.flush
  by_cases h : G.start + G.l.length ≤ G.flushed + 1
  · rw [if_pos h]
    have h0 : i = 0 := by omega
    subst h0
    rw [hD, hfl]
    simp only [List.take_zero, flushD, Int.natCast_zero, Int.add_zero]
  · rw [if_neg h, if_neg (ho.resolve_left (by omega)), hD, hfl]
    rw [List.take_of_length_le (by rw [List.length_drop]; omega), show (G.flushed - G.start + 1).toNat = k from by omega, show G.start + (G.l.length : Int) - 1 = G.flushed + (i : Int) from by omega]
theorem flush_f8 {G : Lg} {D : Dev} {k : Nat} (hk : G.flushed - G.start + 1 = (k : Int)) (hle : k < G.l.length) (h : G.epoch < D.E G.node.toNat) : G.flush D = (G, D, 8) := by
  unfold Lg.flush
  rw [if_neg (by omega), if_pos h]
end Go.Mw
namespace Go.Mw
theorem headB_By (s e : Int) : By (headB s e) := by
  unfold headB
  refine .append (.append (.append ?_ (b4_By _)) (b4_By _)) (zrs_By 55)
  intro x hx; rw [List.mem_singleton.1 hx]; omega
theorem putHead_By (s e : Int) : By (putHead s e).1 := by
  unfold putHead; split
  · exact zrs_By 64
  · split
    · exact headB_By s e
    · exact zrs_By 64
theorem headSec (s e : Int) : ∀ y ∈ [(putHead s e).1], y.length = 64 ∧ By y := by
  intro y hy
  rw [List.mem_singleton.1 hy]
  exact ⟨putHead_len s e, putHead_By s e⟩
def Lg.cut (G : Lg) (D : Dev) (st : Int) : Lg × Dev × Int :=
  if ¬ (G.start ≤ st ∧ st ≤ G.flushed + 1) then (G, D, 2) else if G.epoch < D.E G.node.toNat then (G, D, 8)
  else ({ G with start := st, l := G.l.drop (st - G.start).toNat }, D.wrs (G.j.head G.node) [(putHead st G.epoch).1], 0)
theorem flat_one (x : List Int) : bys x = bys [x].flatten := by simp
end Go.Mw
