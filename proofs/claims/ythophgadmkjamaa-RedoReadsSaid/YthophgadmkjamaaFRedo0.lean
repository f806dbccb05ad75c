/- THE PLAIN DATA, 4: a log. -/
import Derived.Test.YthophgadmkjamaaFDefs3
namespace Go.Mw
open Go

section
variable {c : Cx} {ρ : Env} {L : List Blk} {od : Option Nat} {ty : TypeId} {pos : String} {af : Array Edge}
theorem OV.max2 {x y : Operand} {K : IntKind} {a b : Int} {tys : Array TypeId} (hx : evE ρ x = .int K a) (hy : evE ρ y = .int K b) :
    OV c ρ L ⟨od, .call ⟨.builtin .max, List.toArray [x, y], tys⟩, ty, pos, af, none⟩ (.int K (max a b)) := fun w _ _ => by
  simp only [execOp, resolve, List.map_toArray, List.map_cons, List.map_nil, hx, hy, Sem.run_bind, Sem.run_pure, Result.andThen_ok, invoke, builtin, Builtin.max_]
  have e : (if a < b then b else a) = max a b := by simp only [Int.max_def]; split <;> split <;> omega
  simp [Builtin.max2, e]
end

theorem fill1 {zl vl : List Value} {n : Nat} (hz : zl.length = n) (hv : vl.length = n) : Fill (fun i => some (i * n, n)) (List.replicate 1 zl).flatten [(0, .agg (List.toArray vl))] vl := by
  have e : (List.replicate 1 zl).flatten = zl := by simp
  rw [e]
  refine .cons (vl := vl) (cs' := vl) rfl rfl hv (by omega) ?_ .nil
  rw [Nat.zero_mul]
  exact splice_all (hv.trans hz.symm)

/-- The records' cells, one behind the other. -/
def recsL (l : List Rcd) : List Value := (l.map recL).flatten
theorem recsL_len {l : List Rcd} (h : ∀ r ∈ l, r.body.length = 96) : (recsL l).length = l.length * 101 := by
  induction l with
  | nil => rfl
  | cons r l ih =>
    have := ih (fun x hx => h x (.tail _ hx))
    simp only [recsL, List.map_cons, List.flatten_cons, List.length_append] at this ⊢
    rw [this, recL_len, h r (.head _), List.length_cons]; omega
theorem recsL_append (a b : List Rcd) : recsL (a ++ b) = recsL a ++ recsL b := by simp [recsL]
theorem recsL_one (l : List Rcd) : ∀ v ∈ recsL l, v.oneCell' = true := by
  intro v hv
  simp only [recsL, List.mem_flatten, List.mem_map] at hv
  obtain ⟨_, ⟨r, _, rfl⟩, hv⟩ := hv
  exact recL_one r v hv
theorem recsL_single (r : Rcd) : recsL [r] = recL r := by simp [recsL]
theorem recsL_drop {l : List Rcd} (h : ∀ r ∈ l, r.body.length = 96) (k : Nat) : (recsL l).drop (k * 101) = recsL (l.drop k) := by
  induction l generalizing k with
  | nil => simp [recsL]
  | cons r l ih =>
    cases k with
    | zero => simp
    | succ k =>
      have hr : (recL r).length = 101 := by rw [recL_len, h r (.head _)]
      have e : recsL (r :: l) = recL r ++ recsL l := by simp [recsL]
      rw [e, List.drop_append, hr, List.drop_of_length_le (by rw [hr]; omega), show (k + 1) * 101 - 101 = k * 101 from by omega, ih (fun x hx => h x (.tail _ hx))]
      simp
theorem recsL_take {l : List Rcd} (h : ∀ r ∈ l, r.body.length = 96) {k : Nat} (hk : k < l.length) (sp : List Value) : ((recsL l ++ sp).drop (k * 101)).take 101 = recL (l.getD k zRcd) := by
  have hl := recsL_len h
  have hk' : k * 101 ≤ (recsL l).length := by rw [hl]; omega
  rw [List.drop_append_of_le_length hk', recsL_drop h, List.drop_eq_getElem_cons hk]
  have e : ∀ r l', recsL (r :: l') = recL r ++ recsL l' := fun r l' => by simp [recsL]
  rw [e, List.append_assoc, List.take_left' (by rw [recL_len, h _ (List.getElem_mem hk)]), List.getD_eq_getElem?_getD, List.getElem?_eq_getElem hk]
  rfl

/-- What a scan tells. -/
def Dev.sec (D : Dev) (i : Int) : List Int := D.S.getD i.toNat []
def Dev.rec2 (D : Dev) (j : Job) (node n : Int) : Rcd × Int := getR (D.sec (j.slot node n)) (D.sec (j.slot node n + 1))
def scanL (D : Dev) (j : Job) (node : Int) : Nat → Int → Int → List Rcd
  | 0, _, _ => []
  | k + 1, n, ep => if n < 2147483647 ∧ (D.rec2 j node n).2 = 0 ∧ (D.rec2 j node n).1.node = node ∧ (D.rec2 j node n).1.lsn = n ∧ ep ≤ (D.rec2 j node n).1.epoch ∧ (D.rec2 j node n).1.page < j.pages
      then (D.rec2 j node n).1 :: scanL D j node k (n + 1) (D.rec2 j node n).1.epoch else []
def Dev.hd (D : Dev) (j : Job) (node : Int) : Int × Int × Int := takeHead (D.sec (j.head node))
def Dev.scan (D : Dev) (j : Job) (node : Int) : List Rcd := scanL D j node j.log.toNat (D.hd j node).1 (max 1 (D.hd j node).2.1)
theorem takeHead_ok' {x : List Int} (h : (takeHead x).2.2 = 0) : 1 ≤ (takeHead x).1 ∧ (takeHead x).1 ≤ 2147483647 := by
  unfold takeHead at h ⊢
  split at h
  · rename_i hc
    rw [if_pos hc]
    have := hc.1
    unfold putHead at this
    split at this
    · omega
    · split at this
      · omega
      · simp at this
  · simp at h
theorem getR_len (a b : List Int) (ha : a.length = 64) (hb : b.length = 64) : (getR a b).1.body.length = 96 := by
  unfold getR; split
  · exact saidR_len ha hb
  · exact zrs_len 96

/-- A log. -/
structure Lg where
  j : Job
  node : Int
  epoch : Int
  start : Int
  flushed : Int
  l : List Rcd
def lgL (r : Nat) (sl : Sl) (G : Lg) : List Value := [.pointer (some ⟨r, 0, none⟩)] ++ jobL G.j ++ [.int .i64 G.node, .int .i64 G.epoch, .int .i64 G.start, .int .i64 G.flushed, slV sl G.l.length]
end Go.Mw
namespace Go.Mw
open Go
theorem head_bd {j : Job} {n : Int} (h : j.may = true) (h0 : 0 ≤ n) (h1 : n < j.nodes) : 0 ≤ j.head n ∧ j.head n < j.secs := by
  have hj := of_decide_eq_true h
  have hm := job_mul3 hj h0 h1
  have e1 : j.head n = 9 + n * (1 + 2 * j.log) := rfl
  have e2 : j.secs = 9 + j.nodes * (1 + 2 * j.log) + 2 * j.pages := rfl
  omega
theorem slot_bd {j : Job} {n k : Int} (h : j.may = true) (h0 : 0 ≤ n) (h1 : n < j.nodes) : 0 ≤ j.slot n k ∧ j.slot n k + 1 < j.secs := by
  have hj := of_decide_eq_true h
  have hm := job_mul3 hj h0 h1
  have hr := mod_log (j := j) (a := k - 1) (by omega)
  have e0 : j.slot n k = j.head n + 1 + 2 * ((k - 1) % j.log) := rfl
  have e1 : j.head n = 9 + n * (1 + 2 * j.log) := rfl
  have e2 : j.secs = 9 + j.nodes * (1 + 2 * j.log) + 2 * j.pages := rfl
  omega
theorem Dev.wf.sec_ok {D : Dev} (h : D.wf) {i : Int} (h0 : 0 ≤ i) (h1 : i < D.S.length) : (D.sec i).length = 64 ∧ By (D.sec i) := h.get (by omega)
theorem scan_stop {D : Dev} {j : Job} {node n ep : Int} (k : Nat) (h : ¬ (n < 2147483647 ∧ (D.rec2 j node n).2 = 0 ∧ (D.rec2 j node n).1.node = node ∧ (D.rec2 j node n).1.lsn = n ∧ ep ≤ (D.rec2 j node n).1.epoch ∧ (D.rec2 j node n).1.page < j.pages)) : scanL D j node k n ep = [] := by
  cases k with
  | zero => rfl
  | succ k => rw [scanL, if_neg h]
theorem scan_step {D : Dev} {j : Job} {node n ep : Int} {k : Nat} (hk : 0 < k) (h : n < 2147483647 ∧ (D.rec2 j node n).2 = 0 ∧ (D.rec2 j node n).1.node = node ∧ (D.rec2 j node n).1.lsn = n ∧ ep ≤ (D.rec2 j node n).1.epoch ∧ (D.rec2 j node n).1.page < j.pages) :
    scanL D j node k n ep = (D.rec2 j node n).1 :: scanL D j node (k - 1) (n + 1) (D.rec2 j node n).1.epoch := by
  obtain ⟨k, rfl⟩ := Nat.exists_eq_succ_of_ne_zero (by omega : k ≠ 0)
  rw [scanL, if_pos h]; rfl
end Go.Mw
namespace Go.Mw
theorem scan_next {D : Dev} {j : Job} {node : Int} {o : List Rcd} {x : Rcd} {hs : Int} {k : Nat} (h : D.scan j node = o ++ (x :: scanL D j node (k - o.length - 1) (hs + (o.length : Int) + 1) x.epoch)) :
    D.scan j node = (o ++ [x]) ++ scanL D j node (k - (o ++ [x]).length) (hs + ((o ++ [x]).length : Int)) x.epoch := by
  rw [h, List.append_assoc, List.length_append, List.length_singleton, show k - (o.length + 1) = k - o.length - 1 from by omega, show hs + ((o.length + 1 : Nat) : Int) = hs + (o.length : Int) + 1 from by omega]
  rfl
theorem own_next {o : List Rcd} {x : Rcd} {s : Sl} (h : Own s (o.length + 1) (recsL o ++ recL x) 101) : Own s (o ++ [x]).length (recsL (o ++ [x])) 101 := by
  rw [List.length_append, recsL_append, recsL_single]; exact h
theorem body_next {o : List Rcd} {x : Rcd} (h : ∀ q ∈ o, q.body.length = 96) (hx : x.body.length = 96) : ∀ q ∈ o ++ [x], q.body.length = 96 := by
  intro q hq
  rcases List.mem_append.1 hq with hq | hq
  · exact h q hq
  · rw [List.mem_singleton.1 hq]; exact hx
end Go.Mw
namespace Go.Mw
structure Lg.wf (G : Lg) : Prop where
  may : G.j.may = true
  node0 : 0 ≤ G.node
  node1 : G.node < G.j.nodes
  ep0 : 1 ≤ G.epoch
  ep1 : G.epoch ≤ 2147483647
  st0 : 1 ≤ G.start
  st1 : G.start ≤ 2147483647
  fl0 : G.start - 1 ≤ G.flushed
  fl1 : G.flushed ≤ G.start + G.l.length - 1
  len : G.l.length ≤ 64
  body : ∀ r ∈ G.l, r.body.length = 96
def Lg.next (G : Lg) : Int := G.start + G.l.length
def Lg.room (G : Lg) : Int := if 2147483647 ≤ G.next then 0 else G.j.log - G.l.length
end Go.Mw
namespace Go.Mw
theorem selApp : ∀ (A B : List Blk), Sel (A ++ B) A
  | [], _ => .nil
  | x :: A, B => .cons (L1 := A ++ B) (by exact Del.hd (r := x.1) (o := x.2)) (.head _) (selApp A B)
theorem scanL_len (D : Dev) (j : Job) (node : Int) : ∀ (k : Nat) (n ep : Int), (scanL D j node k n ep).length ≤ k
  | 0, _, _ => by simp [scanL]
  | k + 1, n, ep => by
    rw [scanL]; split
    · rw [List.length_cons]; have := scanL_len D j node k (n + 1) (D.rec2 j node n).1.epoch; omega
    · simp
theorem scan_len (D : Dev) (j : Job) (node : Int) : (D.scan j node).length ≤ j.log.toNat := scanL_len D j node _ _ _
def openG (D : Dev) (j : Job) (node epoch : Int) : Lg := ⟨j, node, epoch, (D.hd j node).1, (D.hd j node).1 + (D.scan j node).length - 1, D.scan j node⟩
theorem newCons {B : World} {M : List Nat} {x : Blk} {l : List Blk} (h : B.heap.size ≤ x.1) (t : ∀ y ∈ l, y.1 ∈ M ∨ B.heap.size ≤ y.1) : ∀ y ∈ x :: l, y.1 ∈ M ∨ B.heap.size ≤ y.1 := by
  intro y hy
  rcases List.mem_cons.1 hy with rfl | hy
  · exact .inr h
  · exact t y hy
end Go.Mw
namespace Go.Mw
open Go
theorem fillRec (n e k p s : Int) {b : List Int} (hb : b.length = 96) : Fill (fun i => ([(0, 1), (1, 1), (2, 1), (3, 1), (4, 1), (5, 96)] : List (Nat × Nat))[i]?) ([.int .i64 0, .int .i64 0, .int .i64 0, .int .i64 0, .int .i64 0] ++ List.replicate 96 (.int .u8 0))
    [(0, .int .i64 n), (1, .int .i64 e), (2, .int .i64 k), (3, .int .i64 p), (4, .int .i64 s), (5, .agg (List.toArray (bys b)))] (recL ⟨n, e, k, p, s, b⟩) := by
  refine .cons (vl := [.int .i64 n]) (cs' := [.int .i64 n, .int .i64 0, .int .i64 0, .int .i64 0, .int .i64 0] ++ List.replicate 96 (.int .u8 0)) rfl rfl rfl (by simp) rfl ?_
  refine .cons (vl := [.int .i64 e]) (cs' := [.int .i64 n, .int .i64 e, .int .i64 0, .int .i64 0, .int .i64 0] ++ List.replicate 96 (.int .u8 0)) rfl rfl rfl (by simp) rfl ?_
  refine .cons (vl := [.int .i64 k]) (cs' := [.int .i64 n, .int .i64 e, .int .i64 k, .int .i64 0, .int .i64 0] ++ List.replicate 96 (.int .u8 0)) rfl rfl rfl (by simp) rfl ?_
  refine .cons (vl := [.int .i64 p]) (cs' := [.int .i64 n, .int .i64 e, .int .i64 k, .int .i64 p, .int .i64 0] ++ List.replicate 96 (.int .u8 0)) rfl rfl rfl (by simp) rfl ?_
  refine .cons (vl := [.int .i64 s]) (cs' := [.int .i64 n, .int .i64 e, .int .i64 k, .int .i64 p, .int .i64 s] ++ List.replicate 96 (.int .u8 0)) rfl rfl rfl (by simp) rfl ?_
  refine .cons (vl := bys b) (cs' := recL ⟨n, e, k, p, s, b⟩) rfl rfl (by simp [bys_length, hb]) (by simp) ?_ .nil
  have := splice_next (done := [.int .i64 n, .int .i64 e, .int .i64 k, .int .i64 p, .int .i64 s]) (vs := bys b) (o := 5) (z := .int .u8 0) (m := 96) (n := 0) rfl rfl (by simp [bys_length, hb])
  rw [this]; simp [recL]
def verL (psn : Int) (b : List Int) : List Value := [.int .i64 psn] ++ bys b
theorem verL_len (psn : Int) (b : List Int) : (verL psn b).length = 1 + b.length := by simp [verL, bys]; omega
theorem verL_body (psn : Int) {b : List Int} (hb : b.length = 96) : ((verL psn b).drop (0 + 1)).take 96 = bys b := by
  simp only [verL]
  rw [show (0 + 1) = ([Value.int .i64 psn]).length from rfl, List.drop_left']
  · exact List.take_of_length_le (by simp [bys_length, hb])
  · rfl

def Lg.app (G : Lg) (p psn : Int) (b : List Int) : Lg × Int × Int :=
  if ¬ (0 ≤ p ∧ p < G.j.pages ∧ 1 ≤ psn ∧ psn ≤ 2147483647) then (G, 0, 2) else if G.room = 0 then (G, 0, 5) else ({ G with l := G.l ++ [⟨G.node, G.epoch, G.next, p, psn, b⟩] }, G.next, 0)
def slK (s : Sl) : List Nat := s.r.toList
end Go.Mw
namespace Go.Mw
theorem lgL_set {r ra n ca : Nat} {sa : List Value} {sl : Sl} {G : Lg} {l' : List Rcd} (h : l'.length = n) : (lgL r sl G).set (0 + 10) (.slice (some ⟨ra, 0, none⟩) n ca) = lgL r ⟨some ra, ca, sa⟩ { G with l := l' } := by
  subst h; rfl
end Go.Mw
