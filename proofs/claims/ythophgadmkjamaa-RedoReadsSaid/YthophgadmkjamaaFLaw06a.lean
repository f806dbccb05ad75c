/- THE PLAIN LAW OF LAYER 6: what a scan tells behind appends, flushes and cuts. -/
import Derived.Test.YthophgadmkjamaaFRedo1
namespace Go.Mw
open Go

theorem getD_app (a b : List Int) (o i : Nat) (h : a.length = o) : (a ++ b).getD (o + i) 0 = b.getD i 0 := by
  subst h
  simp [List.getD_eq_getElem?_getD, List.getElem?_append_right]
theorem t4_b4 {n : Int} (h : 0 ≤ n ∧ n ≤ 2147483647) {pre post : List Int} {o : Nat} (ho : pre.length = o) : t4 (pre ++ (b4 n ++ post)) o = n := by
  have e : ∀ i, i < 4 → (pre ++ (b4 n ++ post)).getD (o + i) 0 = (b4 n).getD i 0 := by
    intro i hi
    rw [getD_app _ _ _ _ ho, List.getD_eq_getElem?_getD, List.getElem?_append_left (by simpa [b4_len] using hi), List.getD_eq_getElem?_getD]
  have e0 := e 0 (by omega)
  have e1 := e 1 (by omega)
  have e2 := e 2 (by omega)
  have e3 := e 3 (by omega)
  simp only [Nat.add_zero] at e0
  simp only [t4, e0, e1, e2, e3]
  simp only [b4, List.getD_cons_zero, List.getD_cons_succ]
  omega
theorem half_eq (r : Rcd) (t : Int) (k : Nat) : half r t k = ([t, (r.node * 16 + r.page) % 256] ++ (b4 r.epoch ++ (b4 r.lsn ++ (b4 r.psn ++ ((r.body.drop k).take 48 ++ zrs 2))))) := by
  simp [half]
theorem half_body (r : Rcd) (t : Int) (k : Nat) (h : r.body.length = 96) (hk : k ≤ 48) : ((half r t k).drop 14).take 48 = (r.body.drop k).take 48 := by
  have e : half r t k = ([t, (r.node * 16 + r.page) % 256] ++ b4 r.epoch ++ b4 r.lsn ++ b4 r.psn) ++ ((r.body.drop k).take 48 ++ zrs 2) := by simp [half]
  rw [e, List.drop_left' (by simp [b4_len]), List.take_left' (by simp [h]; omega)]
theorem said_half {r : Rcd} (hm : r.may = true) (hb : r.body.length = 96) : saidR (half r 177 0) (half r 178 48) = r := by
  have hmm := of_decide_eq_true hm
  have e1 : (half r 177 0).getD 1 0 = r.node * 16 + r.page := by
    have : (half r 177 0).getD 1 0 = (r.node * 16 + r.page) % 256 := by rw [half_eq]; rfl
    rw [this]; omega
  have e2 : t4 (half r 177 0) 2 = r.epoch := by rw [half_eq]; exact t4_b4 (by omega) rfl
  have e3 : t4 (half r 177 0) 6 = r.lsn := by
    rw [half_eq, show ([177, (r.node * 16 + r.page) % 256] ++ (b4 r.epoch ++ (b4 r.lsn ++ (b4 r.psn ++ ((r.body.drop 0).take 48 ++ zrs 2))))) = ([177, (r.node * 16 + r.page) % 256] ++ b4 r.epoch) ++ (b4 r.lsn ++ (b4 r.psn ++ ((r.body.drop 0).take 48 ++ zrs 2))) from by simp]
    exact t4_b4 (by omega) rfl
  have e4 : t4 (half r 177 0) 10 = r.psn := by
    rw [half_eq, show ([177, (r.node * 16 + r.page) % 256] ++ (b4 r.epoch ++ (b4 r.lsn ++ (b4 r.psn ++ ((r.body.drop 0).take 48 ++ zrs 2))))) = ([177, (r.node * 16 + r.page) % 256] ++ b4 r.epoch ++ b4 r.lsn) ++ (b4 r.psn ++ ((r.body.drop 0).take 48 ++ zrs 2)) from by simp]
    exact t4_b4 (by omega) rfl
  have e5 : ((half r 177 0).drop 14).take 48 ++ ((half r 178 48).drop 14).take 48 = r.body := by
    rw [half_body r _ _ hb (by omega), half_body r _ _ hb (by omega)]
    rw [List.drop_zero, List.take_of_length_le (l := r.body.drop 48) (by rw [List.length_drop]; omega), List.take_append_drop]
  obtain ⟨n, e, k, p, s, b⟩ := r
  simp only [saidR, e1, e2, e3, e4, e5]
  simp only at hmm
  congr 1 <;> omega
theorem get_half {r : Rcd} (hm : r.may = true) (hb : r.body.length = 96) : getR (half r 177 0) (half r 178 48) = (r, 0) := by
  unfold getR
  rw [said_half hm hb]
  have e : putRec r = (half r 177 0 ++ half r 178 48, 0) := by unfold putRec; rw [if_pos hm]
  rw [e, if_pos ⟨rfl, rfl⟩]
theorem get_zero : (getR (zrs 64) (zrs 64)).2 = 12 := by
  have : (saidR (zrs 64) (zrs 64)).may = false := by decide
  unfold getR putRec
  rw [this]; rfl
theorem take_head {st ep : Int} (h : 1 ≤ st ∧ st ≤ 2147483647) (he : 1 ≤ ep ∧ ep ≤ 2147483647) : takeHead (putHead st ep).1 = (st, ep, 0) := by
  have e0 : putHead st ep = (headB st ep, 0) := by unfold putHead; rw [if_neg (by omega), if_pos (by omega)]
  have hne : headB st ep ≠ zrs 64 := by
    intro e
    have := congrArg (fun l => List.getD l 0 0) e
    simp [headB, zrs] at this
  have e1 : t4 (headB st ep) 1 = ep := by
    rw [show headB st ep = [179] ++ (b4 ep ++ (b4 st ++ zrs 55)) from by simp [headB]]
    exact t4_b4 (by omega) rfl
  have e2 : t4 (headB st ep) 5 = st := by
    rw [show headB st ep = ([179] ++ b4 ep) ++ (b4 st ++ zrs 55) from by simp [headB]]
    exact t4_b4 (by omega) rfl
  have e3 : headS (headB st ep) = st := by unfold headS; rw [if_neg hne, e2]
  rw [e0]
  unfold takeHead
  rw [e3, e1, e0, if_pos ⟨rfl, rfl⟩]
theorem take_zero : takeHead (zrs 64) = (1, 0, 0) := by decide

/-! writes, where nothing is cut -/
theorem dos_sec {D : Dev} (hc : D.cut = false) {k : Nat} {x : List Int} (hk : k < D.S.length) (i : Int) (hi : 0 ≤ i) : (D.dos (·.wr1 k x)).1.sec i = if i = (k : Int) then x else D.sec i := by
  rw [dos_yes (by simp [hc])]
  simp only [Dev.sec, Dev.wr1, Dev.tick, List.getD_eq_getElem?_getD, List.getElem?_set]
  by_cases h : i = (k : Int)
  · subst h; simp [hk]
  · rw [if_neg (by omega), if_neg h]
theorem wrs_one {D : Dev} (hc : D.cut = false) {f : Int} {x : List Int} (h0 : 0 ≤ f) (h1 : f < D.S.length) (i : Int) (hi : 0 ≤ i) : (D.wrs f [x]).sec i = if i = f then x else D.sec i := by
  rw [Dev.wrs, if_pos (by rw [dos_yes (by simp [hc])]), Dev.wrs, dos_sec hc (by omega) i hi, Int.toNat_of_nonneg h0]
theorem dos_cut {D : Dev} (hc : D.cut = false) (k : Nat) (x : List Int) : (D.dos (·.wr1 k x)).1.cut = false := by
  rw [dos_yes (by simp [hc])]; exact hc
theorem wrs_two {D : Dev} (hc : D.cut = false) {f : Int} {x y : List Int} (h0 : 0 ≤ f) (h1 : f + 1 < D.S.length) (i : Int) (hi : 0 ≤ i) : (D.wrs f [x, y]).sec i = if i = f then x else if i = f + 1 then y else D.sec i := by
  rw [Dev.wrs, if_pos (by rw [dos_yes (by simp [hc])])]
  rw [wrs_one (dos_cut hc _ _) (by omega) (by rw [dos_len]; exact h1) i hi, dos_sec hc (by omega) i hi, Int.toNat_of_nonneg h0]
  by_cases h : i = f
  · rw [if_neg (by omega), if_pos h, if_pos h]
  · by_cases h2 : i = f + 1
    · rw [if_pos h2, if_neg h, if_pos h2]
    · rw [if_neg h2, if_neg h, if_neg h, if_neg h2]
theorem wrs_cut : ∀ (l : List (List Int)) {D : Dev} (f : Int), D.cut = false → (D.wrs f l).cut = false
  | [], _, _, hc => hc
  | x :: l, D, f, hc => by
    rw [Dev.wrs]; split
    · exact wrs_cut l _ (dos_cut hc _ _)
    · exact dos_cut hc _ _

theorem slot_inj {j : Job} {node n m : Int} (h : 0 < j.log) : j.slot node n = j.slot node m ↔ (n - 1) % j.log = (m - 1) % j.log := by
  simp only [Job.slot]; omega
theorem rec2_wrs {D : Dev} {j : Job} {node n m : Int} (hj : j.may = true) (h0 : 0 ≤ node) (h1 : node < j.nodes) (hc : D.cut = false) (hz : j.secs ≤ D.S.length) (a b : List Int) :
    (D.wrs (j.slot node n) [a, b]).rec2 j node m = if (m - 1) % j.log = (n - 1) % j.log then getR a b else D.rec2 j node m := by
  have hb := slot_bd (k := n) hj h0 h1
  have hb' := slot_bd (k := m) hj h0 h1
  have hjl := of_decide_eq_true hj
  simp only [Dev.rec2]
  rw [wrs_two hc hb.1 (by omega) _ hb'.1, wrs_two hc hb.1 (by omega) _ (by omega)]
  have e : ∀ k, j.slot node k = j.head node + 1 + 2 * ((k - 1) % j.log) := fun _ => rfl
  have en := e n
  have em := e m
  by_cases h : (m - 1) % j.log = (n - 1) % j.log
  · have hs : j.slot node m = j.slot node n := by rw [en, em, h]
    rw [if_pos h, if_pos hs, hs, if_neg (by omega), if_pos rfl]
  · rw [if_neg h, if_neg (by omega), if_neg (by omega), if_neg (by omega), if_neg (by omega)]
theorem hd_wrs2 {D : Dev} {j : Job} {node n : Int} (hj : j.may = true) (h0 : 0 ≤ node) (h1 : node < j.nodes) (hc : D.cut = false) (hz : j.secs ≤ D.S.length) (a b : List Int) :
    (D.wrs (j.slot node n) [a, b]).hd j node = D.hd j node := by
  have hb := slot_bd (k := n) hj h0 h1
  have hh := head_bd hj h0 h1
  have hm := mod_log (j := j) (a := n - 1) (by have := of_decide_eq_true hj; omega)
  have e : j.slot node n = j.head node + 1 + 2 * ((n - 1) % j.log) := rfl
  simp only [Dev.hd]
  rw [wrs_two hc hb.1 (by omega) _ hh.1, if_neg (by omega), if_neg (by omega)]
theorem rec2_wrs1 {D : Dev} {j : Job} {node m : Int} (hj : j.may = true) (h0 : 0 ≤ node) (h1 : node < j.nodes) (hc : D.cut = false) (hz : j.secs ≤ D.S.length) (a : List Int) :
    (D.wrs (j.head node) [a]).rec2 j node m = D.rec2 j node m := by
  have hb := slot_bd (k := m) hj h0 h1
  have hh := head_bd hj h0 h1
  have hm := mod_log (j := j) (a := m - 1) (by have := of_decide_eq_true hj; omega)
  have e : j.slot node m = j.head node + 1 + 2 * ((m - 1) % j.log) := rfl
  simp only [Dev.rec2]
  rw [wrs_one hc hh.1 (by omega) _ hb.1, wrs_one hc hh.1 (by omega) _ (by omega), if_neg (by omega), if_neg (by omega)]
theorem hd_wrs1 {D : Dev} {j : Job} {node : Int} (hj : j.may = true) (h0 : 0 ≤ node) (h1 : node < j.nodes) (hc : D.cut = false) (hz : j.secs ≤ D.S.length) (a : List Int) :
    (D.wrs (j.head node) [a]).hd j node = takeHead a := by
  have hh := head_bd hj h0 h1
  simp only [Dev.hd]
  rw [wrs_one hc hh.1 (by omega) _ hh.1, if_pos rfl]

/-! what holds of a log and its device -/
structure LInv (j : Job) (node : Int) (k : Nat) (G : Lg) (D : Dev) : Prop where
  gj : G.j = j
  gn : G.node = node
  ge : G.epoch = 1
  good : G.good
  dwf : D.wf
  cut : D.cut = false
  dE : D.E node.toNat = 1
  size : (D.S.length : Int) = j.secs
  nodes : D.nodes = j.nodes
  next : G.next ≤ 1 + k
  len : (G.l.length : Int) ≤ j.log
  recs : ∀ i, i < G.l.length → (G.l.getD i zRcd).node = node ∧ (G.l.getD i zRcd).epoch = 1 ∧ (G.l.getD i zRcd).page < j.pages
  hd : ∃ e, e ≤ 1 ∧ D.hd j node = (G.start, e, 0)
  slots : ∀ i : Nat, (i : Int) < G.flushed - G.start + 1 → D.rec2 j node (G.start + i) = (G.l.getD i zRcd, 0)
  fresh : ∀ n : Int, G.flushed < n → ¬ ((D.rec2 j node n).2 = 0 ∧ (D.rec2 j node n).1.lsn = n)

theorem scan_of {D : Dev} {j : Job} {node : Int} {l : List Rcd} {st : Int} {m : Nat} (hm : m ≤ l.length)
    (hr : ∀ i, i < m → st + (i : Int) < 2147483647 ∧ D.rec2 j node (st + i) = (l.getD i zRcd, 0) ∧ (l.getD i zRcd).node = node ∧ (l.getD i zRcd).lsn = st + i ∧ (l.getD i zRcd).epoch = 1 ∧ (l.getD i zRcd).page < j.pages)
    (hf : ¬ ((D.rec2 j node (st + m)).2 = 0 ∧ (D.rec2 j node (st + m)).1.lsn = st + m)) :
    ∀ (d i k : Nat), i + d = m → d ≤ k → scanL D j node k (st + i) 1 = (l.take m).drop i
  | 0, i, k, h, _ => by
    have hi : i = m := by omega
    subst hi
    rw [List.drop_of_length_le (by rw [List.length_take]; omega)]
    cases k with
    | zero => rfl
    | succ k => rw [scanL, if_neg]; rintro ⟨_, h2, _, h4, _⟩; exact hf ⟨h2, h4⟩
  | d + 1, i, k, h, hk => by
    obtain ⟨k, rfl⟩ : ∃ k', k = k' + 1 := ⟨k - 1, by omega⟩
    obtain ⟨h1, h2, h3, h4, h5, h6⟩ := hr i (by omega)
    have hi : i < (l.take m).length := by rw [List.length_take]; omega
    have e : (l.take m)[i] = l.getD i zRcd := by
      rw [List.getElem_take, List.getD_eq_getElem?_getD, List.getElem?_eq_getElem (by omega)]; rfl
    rw [scanL, h2, if_pos ⟨h1, rfl, h3, h4, by rw [h5]; omega, h6⟩, List.drop_eq_getElem_cons hi, e]
    have ih := scan_of hm hr hf d (i + 1) k (by omega) (by omega)
    rw [h5, show st + (i : Int) + 1 = st + ((i + 1 : Nat) : Int) from by omega, ih]
theorem LInv.scan {j : Job} {node : Int} {k : Nat} {G : Lg} {D : Dev} (h : LInv j node k G D) (hk : k ≤ 1000) : D.scan j node = G.l.take (G.flushed - G.start + 1).toNat := by
  obtain ⟨e, he, hhd⟩ := h.hd
  have hw := h.good.wf
  have hfl0 := hw.fl0
  have hfl1 := hw.fl1
  have hst := hw.st0
  have hnx : G.start + (G.l.length : Int) ≤ 1 + k := h.next
  have hlen := h.len
  unfold Dev.scan
  rw [hhd]
  simp only
  rw [show max 1 e = 1 from by omega]
  have := scan_of (D := D) (j := j) (node := node) (l := G.l) (st := G.start) (m := (G.flushed - G.start + 1).toNat) (by omega)
    (fun i hi => ⟨by omega, h.slots i (by omega), (h.recs i (by omega)).1, (h.good.may i (by omega)).2.1, (h.recs i (by omega)).2.1, (h.recs i (by omega)).2.2⟩)
    (h.fresh _ (by omega)) (G.flushed - G.start + 1).toNat 0 j.log.toNat (by omega) (by omega)
  simpa using this

theorem rec2_zero {j : Job} {node : Int} (hj : j.may = true) (h0 : 0 ≤ node) (h1 : node < j.nodes) (n : Int) : ((jobDev j).rec2 j node n).2 = 12 ∧ (jobDev j).hd j node = (1, 0, 0) := by
  have hb := slot_bd (k := n) hj h0 h1
  have hh := head_bd hj h0 h1
  have e : ∀ i : Int, 0 ≤ i → i < j.secs → (jobDev j).sec i = zrs 64 := by
    intro i h2 h3
    simp only [Dev.sec, jobDev, devAt, List.getD_eq_getElem?_getD, List.getElem?_replicate]
    rw [if_pos (by omega)]; rfl
  constructor
  · simp only [Dev.rec2]
    rw [e _ hb.1 (by omega), e _ (by omega) (by omega)]
    exact get_zero
  · simp only [Dev.hd]
    rw [e _ hh.1 (by omega)]
    exact take_zero
theorem jobDev_wf {j : Job} (hj : j.may = true) : (jobDev j).wf := by
  have h := of_decide_eq_true hj
  have hm := job_mul h
  have e : j.secs = 9 + j.nodes * (1 + 2 * j.log) + 2 * j.pages := rfl
  exact devAt_wf _ (by omega) (by omega) (by omega)
theorem scan_zero {j : Job} {node : Int} (hj : j.may = true) (h0 : 0 ≤ node) (h1 : node < j.nodes) : (jobDev j).scan j node = [] := by
  unfold Dev.scan
  exact scan_stop _ (fun h => by have := (rec2_zero hj h0 h1 ((jobDev j).hd j node).1).1; omega)

theorem LInv.start {j : Job} {node : Int} (hj : j.may = true) (h0 : 0 ≤ node) (h1 : node < j.nodes) : LInv j node 0 (openG (jobDev j) j node 1) (jobDev j) := by
  have hz := rec2_zero hj h0 h1
  have hs := scan_zero hj h0 h1
  have hh := (hz 1).2
  have hjj := of_decide_eq_true hj
  have e : openG (jobDev j) j node 1 = ⟨j, node, 1, 1, 0, []⟩ := by
    unfold openG
    rw [hs, hh]; rfl
  have hm := job_mul hjj
  have es : j.secs = 9 + j.nodes * (1 + 2 * j.log) + 2 * j.pages := rfl
  rw [e]
  refine ⟨rfl, rfl, rfl, ⟨⟨hj, h0, h1, by simp, by simp, by simp, by simp, by simp, by simp, by simp, fun r hr => by cases hr⟩, fun i hi => by simp at hi⟩, jobDev_wf hj, rfl, ?_, ?_, rfl, by simp [Lg.next], by show (0 : Int) ≤ _; omega, fun i hi => by simp at hi, ⟨0, by simp, hh⟩, fun i hi => by simp only at hi; omega, fun n _ h => ?_⟩
  · show (if node.toNat < j.nodes.toNat then (1 : Int) else 0) = 1
    rw [if_pos (by omega)]
  · show ((List.replicate j.secs.toNat (zrs 64)).length : Int) = _
    rw [List.length_replicate]; omega
  · have := (hz n).1; omega

theorem LInv.later {j : Job} {node : Int} {k k' : Nat} {G : Lg} {D : Dev} (h : LInv j node k G D) (hk : k ≤ k') : LInv j node k' G D :=
  { h with next := by have := h.next; omega }

/-! appending -/
theorem getD_snoc {l : List Rcd} {x : Rcd} {i : Nat} : (l ++ [x]).getD i zRcd = if i < l.length then l.getD i zRcd else if i = l.length then x else zRcd := by
  simp only [List.getD_eq_getElem?_getD]
  by_cases h : i < l.length
  · rw [if_pos h, List.getElem?_append_left h]
  · rw [if_neg h, List.getElem?_append_right (by omega)]
    by_cases h2 : i = l.length
    · rw [if_pos h2, h2, Nat.sub_self]; rfl
    · rw [if_neg h2, List.getElem?_eq_none (by simp; omega)]; rfl
theorem LInv.app {j : Job} {node : Int} {k : Nat} {G : Lg} {D : Dev} (h : LInv j node k G D) (hk : k ≤ 1000) {p psn : Int} {b : List Int} (hb : b.length = 96) (hB : By b) : LInv j node (k + 1) (G.app p psn b).1 D := by
  have hw := h.good.wf
  have hj := of_decide_eq_true hw.may
  have hnx : G.start + (G.l.length : Int) ≤ 1 + k := h.next
  have hst := hw.st0
  have hgj := h.gj
  unfold Lg.app
  split
  · exact h.later (by omega)
  · split
    · exact h.later (by omega)
    · rename_i hp hr
      have hp' := Classical.not_not.1 hp
      have hroom : ¬ ((G.l.length : Int) = j.log) := by
        intro e
        apply hr
        unfold Lg.room Lg.next
        rw [if_neg (by omega), h.gj]; omega
      have hlen := h.len
      have hjl : j.log ≤ 64 := by rw [← hgj]; omega
      have hn1 : node < G.j.nodes := by rw [← h.gn]; exact hw.node1
      have hn0 : 0 ≤ node := by rw [← h.gn]; exact hw.node0
      have hpg : p < j.pages := by rw [← hgj]; omega
      refine ⟨h.gj, h.gn, h.ge, ⟨⟨hw.may, hw.node0, hw.node1, hw.ep0, hw.ep1, hw.st0, hw.st1, hw.fl0, ?_, ?_, ?_⟩, ?_⟩, h.dwf, h.cut, h.dE, h.size, h.nodes, ?_, ?_, ?_, h.hd, ?_, h.fresh⟩
      · show G.flushed ≤ G.start + ((G.l ++ [_]).length : Int) - 1
        rw [List.length_append, List.length_singleton]; have := hw.fl1; omega
      · show (G.l ++ [_]).length ≤ 64
        rw [List.length_append, List.length_singleton]; omega
      · exact body_next hw.body hb
      · intro i hi
        have hi' : i < G.l.length + 1 := by simpa using hi
        simp only [getD_snoc]
        by_cases h2 : i < G.l.length
        · rw [if_pos h2]; exact h.good.may i h2
        · rw [if_neg h2, if_pos (by omega)]
          refine ⟨?_, ?_, hB⟩
          · unfold Rcd.may
            refine decide_eq_true ?_
            simp only [h.gn, h.ge, Lg.next]
            omega
          · simp only [Lg.next]; omega
      · show G.start + ((G.l ++ [_]).length : Int) ≤ 1 + ((k + 1 : Nat) : Int)
        rw [List.length_append, List.length_singleton]; omega
      · show ((G.l ++ [_]).length : Int) ≤ j.log
        rw [List.length_append, List.length_singleton]; omega
      · intro i hi
        have hi' : i < G.l.length + 1 := by simpa using hi
        simp only [getD_snoc]
        by_cases h2 : i < G.l.length
        · rw [if_pos h2]; exact h.recs i h2
        · rw [if_neg h2, if_pos (by omega)]
          exact ⟨h.gn, h.ge, hpg⟩
      · intro i hi
        have hi2 : (i : Int) < G.flushed - G.start + 1 := hi
        have hfl := hw.fl1
        have := h.slots i hi2
        simp only [getD_snoc]
        rw [if_pos (by omega)]
        exact this

/-! flushing -/
theorem LInv.write {j : Job} {node : Int} {k : Nat} {G : Lg} {D : Dev} (h : LInv j node k G D) {m : Nat} (hm : G.flushed - G.start + 1 = (m : Int)) (hlt : m < G.l.length) :
    LInv j node k { G with flushed := G.flushed + 1 } (D.wrs (j.slot node (G.l.getD m zRcd).lsn) [half (G.l.getD m zRcd) 177 0, half (G.l.getD m zRcd) 178 48]) := by
  have hw := h.good.wf
  have hj : j.may = true := by rw [← h.gj]; exact hw.may
  have hjj := of_decide_eq_true hj
  have hn1 : node < j.nodes := by rw [← h.gn, ← h.gj]; exact hw.node1
  have hn0 : 0 ≤ node := by rw [← h.gn]; exact hw.node0
  obtain ⟨hmay, hlsn, hBy⟩ := h.good.may m hlt
  have hbody : (G.l.getD m zRcd).body.length = 96 := hw.body _ (by rw [List.getD_eq_getElem?_getD, List.getElem?_eq_getElem hlt]; exact List.getElem_mem hlt)
  have hz : j.secs ≤ D.S.length := by rw [h.size]; omega
  obtain ⟨k1, k2, k3, k4⟩ := wrs_keep _ D (j.slot node (G.l.getD m zRcd).lsn) h.dwf (half2 hbody hBy)
  have hn : (G.l.getD m zRcd).lsn = G.flushed + 1 := by omega
  have hlen := h.len
  have hr2 := fun n => rec2_wrs (D := D) (n := (G.l.getD m zRcd).lsn) (m := n) hj hn0 hn1 h.cut hz (half (G.l.getD m zRcd) 177 0) (half (G.l.getD m zRcd) 178 48)
  refine ⟨h.gj, h.gn, h.ge, ⟨⟨hw.may, hw.node0, hw.node1, hw.ep0, hw.ep1, hw.st0, hw.st1, ?_, ?_, hw.len, hw.body⟩, h.good.may⟩, k1, wrs_cut _ _ h.cut, by rw [k3]; exact h.dE, by rw [k2]; exact h.size, by rw [k4]; exact h.nodes, h.next, h.len, h.recs, ?_, ?_, ?_⟩
  · show G.start - 1 ≤ G.flushed + 1; have := hw.fl0; omega
  · show G.flushed + 1 ≤ G.start + (G.l.length : Int) - 1; omega
  · obtain ⟨e, he, hh⟩ := h.hd
    exact ⟨e, he, (hd_wrs2 hj hn0 hn1 h.cut hz _ _).trans hh⟩
  · intro i hi
    have hi2 : (i : Int) < G.flushed + 1 - G.start + 1 := hi
    show (D.wrs _ _).rec2 j node (G.start + i) = (G.l.getD i zRcd, 0)
    rw [hr2]
    by_cases he : i = m
    · subst he
      rw [if_pos (by rw [hlsn]), get_half hmay hbody]
    · have hlt2 : i < m := by omega
      rw [if_neg, h.slots i (by omega)]
      intro e
      rw [hn] at e
      have h1 : (G.flushed + 1 - 1 - (G.start + (i : Int) - 1)) % j.log = 0 := by
        rw [Int.sub_emod, ← e, Int.sub_self, Int.zero_emod]
      rw [Int.emod_eq_of_lt (by omega) (by omega)] at h1
      omega
  · intro n hn2
    have hn3 : G.flushed + 1 < n := hn2
    show ¬ (((D.wrs _ _).rec2 j node n).2 = 0 ∧ ((D.wrs _ _).rec2 j node n).1.lsn = n)
    rw [hr2]
    split
    · rw [get_half hmay hbody]
      rintro ⟨_, h2⟩
      simp only at h2
      omega
    · exact h.fresh n (by omega)
theorem flush_inv {j : Job} {node : Int} {k : Nat} : ∀ (d : Nat) (G : Lg) (D : Dev) (m : Nat), LInv j node k G D → G.flushed - G.start + 1 = (m : Int) → m + d = G.l.length →
    LInv j node k { G with flushed := G.start + G.l.length - 1 } (flushD j node D (G.l.drop m))
  | 0, G, D, m, h, hm, hd => by
    rw [List.drop_of_length_le (by omega)]
    have e : ({ G with flushed := G.start + G.l.length - 1 } : Lg) = G := by
      have : G.start + (G.l.length : Int) - 1 = G.flushed := by omega
      rw [this]
    rw [e]; exact h
  | d + 1, G, D, m, h, hm, hd => by
    have hlt : m < G.l.length := by omega
    rw [List.drop_eq_getElem_cons hlt, flushD]
    have e : G.l[m] = G.l.getD m zRcd := by rw [List.getD_eq_getElem?_getD, List.getElem?_eq_getElem hlt]; rfl
    rw [e]
    exact flush_inv d { G with flushed := G.flushed + 1 } _ (m + 1) (h.write hm hlt) (by show G.flushed + 1 - G.start + 1 = _; omega) (by show m + 1 + d = G.l.length; omega)
theorem LInv.flush {j : Job} {node : Int} {k : Nat} {G : Lg} {D : Dev} (h : LInv j node k G D) : LInv j node k (G.flush D).1 (G.flush D).2.1 := by
  have hw := h.good.wf
  unfold Lg.flush
  split
  · exact h
  · split
    · exact h
    · have hf0 := hw.fl0
      have hf1 := hw.fl1
      have := flush_inv (j := j) (node := node) (k := k) (G.l.length - (G.flushed - G.start + 1).toNat) G D (G.flushed - G.start + 1).toNat h (by omega) (by omega)
      rw [← h.gj, ← h.gn] at this ⊢
      exact this

/-! cutting -/
theorem getD_drop {l : List Rcd} {a i : Nat} : (l.drop a).getD i zRcd = l.getD (a + i) zRcd := by
  simp only [List.getD_eq_getElem?_getD, List.getElem?_drop]
theorem LInv.cutL {j : Job} {node : Int} {k : Nat} {G : Lg} {D : Dev} (h : LInv j node k G D) (hk : k ≤ 1000) (st : Int) : LInv j node k (G.cut D st).1 (G.cut D st).2.1 := by
  have hw := h.good.wf
  have hj : j.may = true := by rw [← h.gj]; exact hw.may
  have hn1 : node < j.nodes := by rw [← h.gn, ← h.gj]; exact hw.node1
  have hn0 : 0 ≤ node := by rw [← h.gn]; exact hw.node0
  have hz : j.secs ≤ D.S.length := by rw [h.size]; omega
  unfold Lg.cut
  split
  · exact h
  · split
    · exact h
    · rename_i h1 _
      have h1' := Classical.not_not.1 h1
      have hf0 := hw.fl0
      have hf1 := hw.fl1
      have hst := hw.st0
      have hnx : G.start + (G.l.length : Int) ≤ 1 + k := h.next
      obtain ⟨k1, k2, k3, k4⟩ := wrs_keep _ D (j.head node) h.dwf (headSec st G.epoch)
      have hlen := h.len
      have hl64 := hw.len
      rw [h.gj, h.gn]
      refine ⟨rfl, rfl, h.ge, ⟨⟨hj, hn0, hn1, hw.ep0, hw.ep1, ?_, ?_, ?_, ?_, ?_, ?_⟩, ?_⟩, k1, wrs_cut _ _ h.cut, by rw [k3]; exact h.dE, by rw [k2]; exact h.size, by rw [k4]; exact h.nodes, ?_, ?_, ?_, ?_, ?_, ?_⟩
      · show 1 ≤ st; omega
      · show st ≤ 2147483647; omega
      · show st - 1 ≤ G.flushed; omega
      · show G.flushed ≤ st + ((G.l.drop _).length : Int) - 1
        rw [List.length_drop]; omega
      · show (G.l.drop _).length ≤ 64
        rw [List.length_drop]; omega
      · intro r hr; exact hw.body r (List.drop_subset _ _ hr)
      · intro i hi
        have hi' : i < G.l.length - (st - G.start).toNat := by simpa using hi
        simp only [getD_drop]
        have := h.good.may ((st - G.start).toNat + i) (by omega)
        exact ⟨this.1, by rw [this.2.1]; omega, this.2.2⟩
      · show st + ((G.l.drop _).length : Int) ≤ 1 + k
        rw [List.length_drop]; omega
      · show ((G.l.drop _).length : Int) ≤ j.log
        rw [List.length_drop]; omega
      · intro i hi
        have hi' : i < G.l.length - (st - G.start).toNat := by simpa using hi
        simp only [getD_drop]
        exact h.recs _ (by omega)
      · refine ⟨1, by omega, (hd_wrs1 hj hn0 hn1 h.cut hz _).trans ?_⟩
        rw [h.ge]; exact take_head (by omega) (by omega)
      · intro i hi
        have hi2 : (i : Int) < G.flushed - st + 1 := hi
        show (D.wrs _ _).rec2 j node (st + i) = ((G.l.drop _).getD i zRcd, 0)
        rw [rec2_wrs1 hj hn0 hn1 h.cut hz, getD_drop, ← h.slots _ (by omega)]
        congr 1; omega
      · intro n hn2
        show ¬ (((D.wrs _ _).rec2 j node n).2 = 0 ∧ ((D.wrs _ _).rec2 j node n).1.lsn = n)
        rw [rec2_wrs1 hj hn0 hn1 h.cut hz]
        exact h.fresh n hn2
end Go.Mw
