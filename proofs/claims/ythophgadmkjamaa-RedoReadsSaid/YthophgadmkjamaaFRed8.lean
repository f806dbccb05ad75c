/- Contracts of functions, printed by a program of this claim (wip/tools/gen.py). -/
import Derived.Test.YthophgadmkjamaaFIter
import Derived.Test.YthophgadmkjamaaFRed7
import Derived.KernelRfl
set_option maxRecDepth 20000
set_option linter.unusedVariables false
set_option linter.unusedSimpArgs false
namespace Go.Proofs.Ythophgadmkjamaa
open Go Go.Mw Go.Proofs

theorem Red8_zv_52 : ∀ w, (zeroValue 52).run Try.prog w = .ok (.agg (List.toArray ([.int .i64 0, .int .i64 0, .int .i64 0, .int .i64 0, .int .i64 0] ++ List.replicate 96 (.int .u8 0)))) w := fun w => by kernel_rfl
theorem Red8_zv_43 : ∀ w, (zeroValue 43).run Try.prog w = .ok (.slice none 0 0) w := fun w => by kernel_rfl
theorem Red8_fa_155_6 : FA Try.prog 155 6 10 := FA.of (n := 0) Try.runUnderlying155 rfl rfl Try.sizeOf43

theorem valuesR_ok (a : Option Addr) (n m : Nat) :
    Ct Try.prog 84 [.slice a n m] [] [] (fun v L => ∃ b, v = .func (.func 179) #[] (List.toArray [.pointer (some ⟨b, 0, none⟩)]) ∧ L = [(b, cel [.slice a n m] 43)]) := by
  refine Ct.of (N := 4) (rs := [.tmp 2]) Try.func84 rfl rfl rfl (Nat.le_of_ble_eq_true rfl) (fun B => ?_)
  refine XK.seq ?_
  refine XK.region ?_
  refine XO.box (v := .slice _ _ _) rfl rfl rfl (fun r1 hr1 => ?_)
  refine XO.val rfl rfl (OV.asg (v := .nilFunc) rfl) ?_
  refine XO.nil ?_
  refine XK.seq ?_
  refine XK.region ?_
  refine XO.val rfl rfl (OV.mkF .nil (.cons (v := .pointer _) rfl .nil)) ?_
  refine XO.val rfl rfl (OV.asg (v := .func _ _ _) rfl) ?_
  refine XO.nil ?_
  refine XK.retTo (Fin.ret (.cons (.tmp (v := .func _ _ _) rfl) .nil) (.cons (x := (r1, _)) (by repeat (first | exact Del.hd | apply Del.tl | apply Del.app)) (by repeat (first | exact List.Mem.head _ | apply List.Mem.tail | apply List.mem_append_right)) .nil) (by (repeat (first | exact nwNil | refine nwCons (by first | exact .inr ‹_› | (left; repeat (first | exact List.Mem.head _ | apply List.Mem.tail)) | (right; omega)) ?_ | assumption))) ?_)
  exact ⟨r1, rfl, rfl⟩

theorem valuesR1_nil (b : Nat) :
    ItC Try.prog 179 [.pointer (some ⟨b, 0, none⟩)] [(b, cel [.slice none 0 0] 43)] [] := by
  intro ly Lr J Jx L0 hY hJ
  refine Ct.of (N := 16) (rs := []) Try.func179 rfl rfl rfl (Nat.le_of_ble_eq_true rfl) (fun B => ?_)
  refine XK.seq ?_
  refine XK.region ?_
  refine XO.val rfl rfl (OV.ld rfl Try.isAgg43 (by repeat (first | exact List.Mem.head _ | apply List.Mem.tail | apply List.mem_append_right)) rfl) ?_
  refine XO.val rfl rfl (OV.lenS rfl Try.runUnderlying43) ?_
  refine XO.val rfl rfl (OV.mv (v := .int _ _) rfl) ?_
  refine XO.nil ?_
  refine XK.block ?_
  refine XK.loopL (X := Nat × List Blk) (lc := [(0, .func _ _ _), (5, .slice _ _ _), (6, .int _ _)]) (lv := fun (x : Nat × List Blk) => [(7, .int .i64 (x.1 : Int))]) (Lf := fun (x : Nat × List Blk) => x.2 ++ ([(b, cel [.slice none 0 0] 43)] ++ Lr)) (I := fun (x : Nat × List Blk) => x.1 ≤ 0 ∧ J x.1 x.2 ∧ ∀ y ∈ x.2, y.1 ∈ keys L0 ∨ B.heap.size ≤ y.1) (μ := fun (x : Nat × List Blk) => 0 - x.1) (0, L0) ⟨rfl, rfl, rfl, trivial⟩ ⟨rfl, trivial⟩ (by (repeat (first | exact Sel.nil | refine Sel.cons (by repeat (first | exact Del.hd | apply Del.tl | apply Del.app)) (by repeat (first | exact List.Mem.head _ | apply List.Mem.tail | apply List.mem_append_right)) ?_ | exact Sel.refl _ | exact Sel.pre | exact Sel.refl' rfl | exact Sel.pre' rfl | apply Sel.drop))) ⟨by omega, hJ, fun y hy => .inl (mem_keys hy)⟩ ?_
  intro x σ hI
  refine XK.seq ?_
  refine XK.region ?_
  refine XO.val rfl rfl (OV.lss rfl rfl) ?_
  refine XO.nil ?_
  refine XK.seq ?_
  refine XK.split (t := 8) rfl (fun hh1 => ?_) (fun hh1 => ?_)
  · replace hh1 := of_decide_eq_true hh1
    exfalso; omega
  · replace hh1 := of_decide_eq_false hh1
    have hx0 : x.1 = 0 := by omega
    refine XK.cond_f rfl ?_
    refine XK.exitTo rfl ?_
    refine XK.norTo (Fin.nor .nil (by first | exact Sel.drop (Sel.pre (A := L1)) | exact Sel.pre (A := x.2)) (by first | exact (fun y hy => (hn y hy).elim (fun h => by obtain ⟨o, ho⟩ := of_keys h; exact hI.2.2 (y.1, o) ho) .inr) | exact hI.2.2) ?_)
    first | exact .inr hR | (have h := hI.2.1; rw [hx0] at h; left; simpa using h)

theorem valuesR1_some (b : Nat) (rs : List Rcd) (hb : ∀ r ∈ rs, r.body.length = 96) (hlen : rs.length ≤ 4096) (q cp : Nat) (sp : List Value) :
    ItC Try.prog 179 [.pointer (some ⟨b, 0, none⟩)] [(b, cel [.slice (some ⟨q, 0, none⟩) rs.length cp] 43), (q, cel (recsL rs ++ sp) 52)] (rs.map fun r => [recV r]) := by
  have helem : ∀ i, i < rs.length → (rs.map fun r => [recV r]).getD i [] = [recV (rs.getD i zRcd)] := fun i hi => by
    simp [List.getD_eq_getElem?_getD, List.getElem?_map, List.getElem?_eq_getElem hi]
  intro ly Lr J Jx L0 hY hJ
  refine Ct.of (N := 16) (rs := []) Try.func179 rfl rfl rfl (Nat.le_of_ble_eq_true rfl) (fun B => ?_)
  refine XK.seq ?_
  refine XK.region ?_
  refine XO.val rfl rfl (OV.ld rfl Try.isAgg43 (by repeat (first | exact List.Mem.head _ | apply List.Mem.tail | apply List.mem_append_right)) rfl) ?_
  refine XO.val rfl rfl (OV.lenS rfl Try.runUnderlying43) ?_
  refine XO.val rfl rfl (OV.mv (v := .int _ _) rfl) ?_
  refine XO.nil ?_
  refine XK.block ?_
  refine XK.loopL (X := Nat × List Blk) (lc := [(0, .func _ _ _), (5, .slice _ _ _), (6, .int _ _)]) (lv := fun (x : Nat × List Blk) => [(7, .int .i64 (x.1 : Int))]) (Lf := fun (x : Nat × List Blk) => x.2 ++ ([(b, cel [.slice (some ⟨q, 0, none⟩) rs.length cp] 43), (q, cel (recsL rs ++ sp) 52)] ++ Lr)) (I := fun (x : Nat × List Blk) => x.1 ≤ rs.length ∧ J x.1 x.2 ∧ ∀ y ∈ x.2, y.1 ∈ keys L0 ∨ B.heap.size ≤ y.1) (μ := fun (x : Nat × List Blk) => rs.length - x.1) (0, L0) ⟨rfl, rfl, rfl, trivial⟩ ⟨rfl, trivial⟩ (by (repeat (first | exact Sel.nil | refine Sel.cons (by repeat (first | exact Del.hd | apply Del.tl | apply Del.app)) (by repeat (first | exact List.Mem.head _ | apply List.Mem.tail | apply List.mem_append_right)) ?_ | exact Sel.refl _ | exact Sel.pre | exact Sel.refl' rfl | exact Sel.pre' rfl | apply Sel.drop))) ⟨by omega, hJ, fun y hy => .inl (mem_keys hy)⟩ ?_
  intro x σ hI
  refine XK.seq ?_
  refine XK.region ?_
  refine XO.val rfl rfl (OV.lss rfl rfl) ?_
  refine XO.nil ?_
  refine XK.seq ?_
  refine XK.split (t := 8) rfl (fun hh1 => ?_) (fun hh1 => ?_)
  · replace hh1 := of_decide_eq_true hh1
    have hx : x.1 < rs.length := by omega
    have hbx : (rs.getD x.1 zRcd).body.length = 96 := hb _ (by rw [List.getD_eq_getElem?_getD, List.getElem?_eq_getElem hx]; exact List.getElem_mem hx)
    have hy := hY x.1 x.2 (by rw [List.length_map]; exact hx) hI.2.1
    rw [helem x.1 hx] at hy
    refine XK.cond_t rfl ?_
    refine XK.skip ?_
    refine XK.seq ?_
    refine XK.block ?_
    refine XK.seq ?_
    refine XK.region ?_
    refine XO.val rfl rfl (OV.ixS rfl rfl Try.runUnderlying43 Try.sizeOf52 (by omega) (by omega)) ?_
    refine XO.val rfl rfl (OV.ldA rfl Try.isAgg52 Try.sizeOf52 (by repeat (first | exact List.Mem.head _ | apply List.Mem.tail | apply List.mem_append_right)) (show ((recsL rs ++ sp).drop (0 + Int.toNat (x.1 : Int) * 101)).take 101 = recL (rs.getD x.1 zRcd) from by rw [Nat.zero_add, Int.toNat_natCast]; exact recsL_take hb hx sp) (by rw [recL_len, hbx])) ?_
    refine XO.alloc rfl Red8_zv_52 rfl (fun r4 hr4 => ?_)
    refine XO.stA rfl rfl (by (repeat (first | with_reducible (apply one_app) | with_reducible exact bys_one | with_reducible exact recL_one _ | with_reducible exact one_rep rfl | exact ones_of rfl | exact bys_one))) Try.sizeOf52 (by (first | assumption | (simp only [List.length_append, bys_length, b4_len, zrs_len, headB_len, putHead_len, List.length_replicate, List.length_cons, List.length_nil, List.length_set, List.length_take, List.length_drop, recL_len]; done) | (simp only [List.length_append, bys_length, b4_len, zrs_len, headB_len, putHead_len, List.length_replicate, List.length_cons, List.length_nil, List.length_set, List.length_take, List.length_drop, recL_len]; omega) | rfl | (simp [*, bys_length]; done) | (simp [*, bys_length]; omega))) (by repeat (first | exact Put.hd | apply Put.tl | apply Put.app)) (by first | exact splice_all (by (first | assumption | (simp only [List.length_append, bys_length, b4_len, zrs_len, headB_len, putHead_len, List.length_replicate, List.length_cons, List.length_nil, List.length_set, List.length_take, List.length_drop, recL_len]; done) | (simp only [List.length_append, bys_length, b4_len, zrs_len, headB_len, putHead_len, List.length_replicate, List.length_cons, List.length_nil, List.length_set, List.length_take, List.length_drop, recL_len]; omega) | rfl | (simp [*, bys_length]; done) | (simp [*, bys_length]; omega))) | rfl) (by (first | (simp only [List.length_append, bys_length, b4_len, zrs_len, headB_len, putHead_len, List.length_replicate, List.length_cons, List.length_nil, List.length_set, List.length_take, List.length_drop, recL_len]; omega) | omega | exact Nat.le_of_ble_eq_true rfl | (simp; done) | (simp; omega))) (by (first | exact .inr ‹_› | (left; ((repeat (first | exact List.Mem.head _ | apply List.Mem.tail)))))) ?_
    refine XO.nil ?_
    refine XK.seq ?_
    refine XK.region ?_
    refine XO.val rfl rfl (OV.mv (v := .func _ _ _) rfl) ?_
    refine XO.val rfl rfl (OV.ldA rfl Try.isAgg52 Try.sizeOf52 (by repeat (first | exact List.Mem.head _ | apply List.Mem.tail | apply List.mem_append_right)) (grab_all (by (first | assumption | (simp only [List.length_append, bys_length, b4_len, zrs_len, headB_len, putHead_len, List.length_replicate, List.length_cons, List.length_nil, List.length_set, List.length_take, List.length_drop, recL_len]; done) | (simp only [List.length_append, bys_length, b4_len, zrs_len, headB_len, putHead_len, List.length_replicate, List.length_cons, List.length_nil, List.length_set, List.length_take, List.length_drop, recL_len]; omega) | rfl | (simp [*, bys_length]; done) | (simp [*, bys_length]; omega)))) (by (first | assumption | (simp only [List.length_append, bys_length, b4_len, zrs_len, headB_len, putHead_len, List.length_replicate, List.length_cons, List.length_nil, List.length_set, List.length_take, List.length_drop, recL_len]; done) | (simp only [List.length_append, bys_length, b4_len, zrs_len, headB_len, putHead_len, List.length_replicate, List.length_cons, List.length_nil, List.length_set, List.length_take, List.length_drop, recL_len]; omega) | rfl | (simp [*, bys_length]; done) | (simp [*, bys_length]; omega)))) ?_
    refine XO.callY (A := [(r4, cel (recL (rs.getD x.1 zRcd)) 52)]) (Lc := x.2) (Q := ([(b, cel [.slice (some ⟨q, 0, none⟩) rs.length cp] 43), (q, cel (recsL rs ++ sp) 52)] ++ Lr)) rfl rfl (.cons (v := .agg _) rfl .nil) (hy) rfl (by (repeat (first | exact Sel.nil | refine Sel.cons (by repeat (first | exact Del.hd | apply Del.tl | apply Del.app)) (by repeat (first | exact List.Mem.head _ | apply List.Mem.tail | apply List.mem_append_right)) ?_ | exact Sel.refl _ | exact Sel.pre | exact Sel.refl' rfl | exact Sel.pre' rfl | apply Sel.drop))) (fun r hr => by obtain ⟨o, ho⟩ := of_keys hr; exact hI.2.2 (r, o) ho) ?_
    intro b L1 hR hn
    refine XO.val rfl rfl (OV.notB rfl) ?_
    refine XO.nil ?_
    refine XK.split (t := 14) rfl (fun hh2 => ?_) (fun hh2 => ?_)
    · replace hh2 := bnot_t hh2
      try replace hh2 := of_decide_eq_false hh2
      rw [hh2] at hR
      refine XK.cond_t rfl ?_
      refine XK.retTo (Fin.ret .nil (by first | exact Sel.drop (Sel.pre (A := L1)) | exact Sel.pre (A := x.2)) (by first | exact (fun y hy => (hn y hy).elim (fun h => by obtain ⟨o, ho⟩ := of_keys h; exact hI.2.2 (y.1, o) ho) .inr) | exact hI.2.2) ?_)
      first | exact .inr hR | (have h := hI.2.1; rw [hx0] at h; left; simpa using h)
    · replace hh2 := bnot_f hh2
      try replace hh2 := of_decide_eq_true hh2
      rw [hh2] at hR
      refine XK.cond_f rfl ?_
      refine XK.skip ?_
      refine XK.inblk ?_
      refine XK.region ?_
      refine XO.val rfl rfl (OV.add rfl rfl (wrap_in (by omega))) ?_
      refine XO.val rfl rfl (OV.mv (v := .int _ _) rfl) ?_
      refine XO.nil ?_
      refine XK.rnd ⟨(x.1 + 1, L1), ⟨⟨rfl, rfl, rfl, trivial⟩, ⟨rfl, trivial⟩, rfl, (by (repeat (first | exact Sel.nil | refine Sel.cons (by repeat (first | exact Del.hd | apply Del.tl | apply Del.app)) (by repeat (first | exact List.Mem.head _ | apply List.Mem.tail | apply List.mem_append_right)) ?_ | exact Sel.refl _ | exact Sel.pre | exact Sel.refl' rfl | exact Sel.pre' rfl | apply Sel.drop))), ⟨by show x.1 + 1 ≤ _; omega, hR, fun y hy => (hn y hy).elim (fun h => by obtain ⟨o, ho⟩ := of_keys h; exact hI.2.2 (y.1, o) ho) .inr⟩⟩, (by show rs.length - (x.1 + 1) < rs.length - x.1; omega)⟩
  · replace hh1 := of_decide_eq_false hh1
    have hx0 : x.1 = rs.length := by omega
    refine XK.cond_f rfl ?_
    refine XK.exitTo rfl ?_
    refine XK.norTo (Fin.nor .nil (by first | exact Sel.drop (Sel.pre (A := L1)) | exact Sel.pre (A := x.2)) (by first | exact (fun y hy => (hn y hy).elim (fun h => by obtain ⟨o, ho⟩ := of_keys h; exact hI.2.2 (y.1, o) ho) .inr) | exact hI.2.2) ?_)
    first | exact .inr hR | (have h := hI.2.1; rw [hx0] at h; left; simpa using h)

theorem records1_nil (b : Nat) :
    ItC Try.prog 83 [.pointer (some ⟨b, 0, none⟩)] [(b, cel [.slice none 0 0] 43)] [] := by
  intro ly Lr J Jx L0 hY hJ
  refine Ct.ofM (N := 11) (rs := []) Try.func83 rfl rfl rfl (Nat.le_of_ble_eq_true rfl) (fun B => ?_)
  refine XK.seq ?_
  refine XK.region ?_
  refine XO.box (v := .func _ _ _) rfl rfl rfl (fun r2 hr2 => ?_)
  refine XO.nil ?_
  refine XK.seq ?_
  refine XK.region ?_
  refine XO.val rfl rfl (OV.ld rfl Try.isAgg43 (by repeat (first | exact List.Mem.head _ | apply List.Mem.tail | apply List.mem_append_right)) rfl) ?_
  refine XO.callG (cap := []) rfl rfl (.cons (v := .slice _ _ _) rfl .nil) Try.call84 (valuesR_ok none 0 0) (by repeat (first | exact Sel.nil | refine Sel.cons (by repeat (first | exact Del.hd | apply Del.tl | apply Del.app)) (by repeat (first | exact List.Mem.head _ | apply List.Mem.tail | apply List.mem_append_right)) ?_)) (by ((repeat (first | exact wrs_nil | (refine wrs_cons (by (first | exact .inr ‹_› | (left; ((repeat (first | exact List.Mem.head _ | apply List.Mem.tail)))))) ?_))))) .nil ?_
  rintro _ _ ⟨b2, rfl, rfl⟩ hnew
  refine XO.nil ?_
  refine XK.block ?_
  refine XK.rangeF (X := List Blk) (cap := [.pointer (some ⟨b2, 0, none⟩)]) (Li := [(b2, cel [.slice none 0 0] 43)]) (Lr := ((r2, cel [.func (.yield ly) #[] #[]] 169) :: (b, cel [.slice none 0 0] 43) :: Lr)) (fun (x : List Blk) => x) (fun (i : Nat) (x : List Blk) => J i x) (fun (k : Code) (x : List Blk) => k = .ret ∧ Jx x) L0 rfl rfl Try.call179 (valuesR1_nil b2) (Sel.mid (P := [(b2, cel [.slice none 0 0] 43), (r2, cel [.func (.yield ly) #[] #[]] 169)]) (A := L0) (by (repeat (first | exact Sel.nil | refine Sel.cons (by repeat (first | exact Del.hd | apply Del.tl | apply Del.app)) (by repeat (first | exact List.Mem.head _ | apply List.Mem.tail | apply List.mem_append_right)) ?_ | exact Sel.refl _ | exact Sel.pre | exact Sel.refl' rfl | exact Sel.pre' rfl | apply Sel.drop)))) hJ (fun r hr => .inl hr) rfl (by intro v hv; simp at hv) (fun i x l oR B1 hi hI hBl => ?_) (fun x D hI hD hnew => ?_) (fun x D k hI hD hnew => ?_)
  · have _round := trivial
    exfalso; simp at hi
  · have _done := trivial
    refine XK.inblk ?_
    refine XK.norTo (FinM.nor (by (repeat (first | exact Marks.nil | (apply Marks.cons; (repeat (first | exact Tak.hd | apply Tak.tl | apply Tak.app)); (first | exact Or.inr ‹_› | (left; repeat (first | exact List.Mem.head _ | apply List.Mem.tail))))))) .nil (by exact Sel.pre (A := x)) hnew ?_)
    first | exact .inr hX | exact .inl hI
  · obtain ⟨rfl, hX⟩ := hI
    refine XK.retTo (FinM.ret (by (repeat (first | exact Marks.nil | (apply Marks.cons; (repeat (first | exact Tak.hd | apply Tak.tl | apply Tak.app)); (first | exact Or.inr ‹_› | (left; repeat (first | exact List.Mem.head _ | apply List.Mem.tail))))))) .nil (by exact Sel.pre (A := x)) hnew ?_)
    first | exact .inr hX | exact .inl hI

theorem records1_some (b : Nat) (rs : List Rcd) (hb : ∀ r ∈ rs, r.body.length = 96) (hlen : rs.length ≤ 4096) (q cp : Nat) (sp : List Value) :
    ItC Try.prog 83 [.pointer (some ⟨b, 0, none⟩)] [(b, cel [.slice (some ⟨q, 0, none⟩) rs.length cp] 43), (q, cel (recsL rs ++ sp) 52)] (rs.map fun r => [recV r]) := by
  have helem : ∀ i, i < rs.length → (rs.map fun r => [recV r]).getD i [] = [recV (rs.getD i zRcd)] := fun i hi => by
    simp [List.getD_eq_getElem?_getD, List.getElem?_map, List.getElem?_eq_getElem hi]
  intro ly Lr J Jx L0 hY hJ
  refine Ct.ofM (N := 11) (rs := []) Try.func83 rfl rfl rfl (Nat.le_of_ble_eq_true rfl) (fun B => ?_)
  refine XK.seq ?_
  refine XK.region ?_
  refine XO.box (v := .func _ _ _) rfl rfl rfl (fun r2 hr2 => ?_)
  refine XO.nil ?_
  refine XK.seq ?_
  refine XK.region ?_
  refine XO.val rfl rfl (OV.ld rfl Try.isAgg43 (by repeat (first | exact List.Mem.head _ | apply List.Mem.tail | apply List.mem_append_right)) rfl) ?_
  refine XO.callG (cap := []) rfl rfl (.cons (v := .slice _ _ _) rfl .nil) Try.call84 (valuesR_ok (some ⟨q, 0, none⟩) rs.length cp) (by repeat (first | exact Sel.nil | refine Sel.cons (by repeat (first | exact Del.hd | apply Del.tl | apply Del.app)) (by repeat (first | exact List.Mem.head _ | apply List.Mem.tail | apply List.mem_append_right)) ?_)) (by ((repeat (first | exact wrs_nil | (refine wrs_cons (by (first | exact .inr ‹_› | (left; ((repeat (first | exact List.Mem.head _ | apply List.Mem.tail)))))) ?_))))) .nil ?_
  rintro _ _ ⟨b2, rfl, rfl⟩ hnew
  refine XO.nil ?_
  refine XK.block ?_
  refine XK.rangeF (X := List Blk) (cap := [.pointer (some ⟨b2, 0, none⟩)]) (Li := [(b2, cel [.slice (some ⟨q, 0, none⟩) rs.length cp] 43), (q, cel (recsL rs ++ sp) 52)]) (Lr := ((r2, cel [.func (.yield ly) #[] #[]] 169) :: (b, cel [.slice (some ⟨q, 0, none⟩) rs.length cp] 43) :: Lr)) (fun (x : List Blk) => x) (fun (i : Nat) (x : List Blk) => J i x) (fun (k : Code) (x : List Blk) => k = .ret ∧ Jx x) L0 rfl rfl Try.call179 (valuesR1_some b2 rs hb hlen q cp sp) (Sel.mid (P := [(b2, cel [.slice (some ⟨q, 0, none⟩) rs.length cp] 43), (r2, cel [.func (.yield ly) #[] #[]] 169)]) (A := L0) (by (repeat (first | exact Sel.nil | refine Sel.cons (by repeat (first | exact Del.hd | apply Del.tl | apply Del.app)) (by repeat (first | exact List.Mem.head _ | apply List.Mem.tail | apply List.mem_append_right)) ?_ | exact Sel.refl _ | exact Sel.pre | exact Sel.refl' rfl | exact Sel.pre' rfl | apply Sel.drop)))) hJ (fun r hr => .inl hr) rfl (by intro v hv; obtain ⟨r, _, rfl⟩ := List.mem_map.1 hv; rfl) (fun i x l oR B1 hi hI hBl => ?_) (fun x D hI hD hnew => ?_) (fun x D k hI hD hnew => ?_)
  · have _round := trivial
    have hx : i < rs.length := by simpa using hi
    have hbx : (rs.getD i zRcd).body.length = 96 := hb _ (by rw [List.getD_eq_getElem?_getD, List.getElem?_eq_getElem hx]; exact List.getElem_mem hx)
    have hy := hY i x hi hI
    rw [helem i hx] at hy ⊢
    refine XK.region ?_
    refine XO.alloc rfl Red8_zv_52 rfl (fun r3 hr3 => ?_)
    refine XO.stA rfl rfl (by (repeat (first | with_reducible (apply one_app) | with_reducible exact bys_one | with_reducible exact recL_one _ | with_reducible exact one_rep rfl | exact ones_of rfl | exact bys_one))) Try.sizeOf52 (by (first | assumption | (simp only [List.length_append, bys_length, b4_len, zrs_len, headB_len, putHead_len, List.length_replicate, List.length_cons, List.length_nil, List.length_set, List.length_take, List.length_drop, recL_len]; done) | (simp only [List.length_append, bys_length, b4_len, zrs_len, headB_len, putHead_len, List.length_replicate, List.length_cons, List.length_nil, List.length_set, List.length_take, List.length_drop, recL_len]; omega) | rfl | (simp [*, bys_length]; done) | (simp [*, bys_length]; omega))) (by repeat (first | exact Put.hd | apply Put.tl | apply Put.app)) (by first | exact splice_all (by (first | assumption | (simp only [List.length_append, bys_length, b4_len, zrs_len, headB_len, putHead_len, List.length_replicate, List.length_cons, List.length_nil, List.length_set, List.length_take, List.length_drop, recL_len]; done) | (simp only [List.length_append, bys_length, b4_len, zrs_len, headB_len, putHead_len, List.length_replicate, List.length_cons, List.length_nil, List.length_set, List.length_take, List.length_drop, recL_len]; omega) | rfl | (simp [*, bys_length]; done) | (simp [*, bys_length]; omega))) | rfl) (by (first | (simp only [List.length_append, bys_length, b4_len, zrs_len, headB_len, putHead_len, List.length_replicate, List.length_cons, List.length_nil, List.length_set, List.length_take, List.length_drop, recL_len]; omega) | omega | exact Nat.le_of_ble_eq_true rfl | (simp; done) | (simp; omega))) (by (first | exact .inr ‹_› | (left; ((repeat (first | exact List.Mem.head _ | apply List.Mem.tail)))))) ?_
    refine XO.nil ?_
    refine XK.asEnd (by repeat (first | exact Tak.hd | apply Tak.tl | apply Tak.app)) (fun o => ?_)
    refine XK.block ?_
    refine XK.seq ?_
    refine XK.region ?_
    refine XO.val rfl rfl (OV.ld rfl Try.isAgg169 (by repeat (first | exact List.Mem.head _ | apply List.Mem.tail | apply List.mem_append_right)) rfl) ?_
    refine XO.val rfl rfl (OV.ldA rfl Try.isAgg52 Try.sizeOf52 (by repeat (first | exact List.Mem.head _ | apply List.Mem.tail | apply List.mem_append_right)) (grab_all (by (first | assumption | (simp only [List.length_append, bys_length, b4_len, zrs_len, headB_len, putHead_len, List.length_replicate, List.length_cons, List.length_nil, List.length_set, List.length_take, List.length_drop, recL_len]; done) | (simp only [List.length_append, bys_length, b4_len, zrs_len, headB_len, putHead_len, List.length_replicate, List.length_cons, List.length_nil, List.length_set, List.length_take, List.length_drop, recL_len]; omega) | rfl | (simp [*, bys_length]; done) | (simp [*, bys_length]; omega)))) (by (first | assumption | (simp only [List.length_append, bys_length, b4_len, zrs_len, headB_len, putHead_len, List.length_replicate, List.length_cons, List.length_nil, List.length_set, List.length_take, List.length_drop, recL_len]; done) | (simp only [List.length_append, bys_length, b4_len, zrs_len, headB_len, putHead_len, List.length_replicate, List.length_cons, List.length_nil, List.length_set, List.length_take, List.length_drop, recL_len]; omega) | rfl | (simp [*, bys_length]; done) | (simp [*, bys_length]; omega)))) ?_
    refine XO.callY (A := [(l, o), (r3, cel (recL (rs.getD i zRcd)) 52)]) (Lc := x) (Q := ([(b2, cel [.slice (some ⟨q, 0, none⟩) rs.length cp] 43), (q, cel (recsL rs ++ sp) 52)] ++ ((r2, cel [.func (.yield ly) #[] #[]] 169) :: (b, cel [.slice (some ⟨q, 0, none⟩) rs.length cp] 43) :: Lr))) rfl rfl (.cons (v := .agg _) rfl .nil) (hy) rfl (by (repeat (first | exact Sel.nil | refine Sel.cons (by repeat (first | exact Del.hd | apply Del.tl | apply Del.app)) (by repeat (first | exact List.Mem.head _ | apply List.Mem.tail | apply List.mem_append_right)) ?_ | exact Sel.refl _ | exact Sel.pre | exact Sel.refl' rfl | exact Sel.pre' rfl | apply Sel.drop))) (fun r hr => .inl (.tail _ hr)) ?_
    intro b L1 hR hn
    refine XO.val rfl rfl (OV.notB rfl) ?_
    refine XO.nil ?_
    refine XK.split (t := 10) rfl (fun hh1 => ?_) (fun hh1 => ?_)
    · replace hh1 := bnot_t hh1
      try replace hh1 := of_decide_eq_false hh1
      rw [hh1] at hR
      refine XK.cond_t rfl ?_
      exact XK.rdRet L1 (by (repeat (first | exact Sel.nil | refine Sel.cons (by repeat (first | exact Del.hd | apply Del.tl | apply Del.app)) (by repeat (first | exact List.Mem.head _ | apply List.Mem.tail | apply List.mem_append_right)) ?_ | exact Sel.refl _ | exact Sel.pre | exact Sel.refl' rfl | exact Sel.pre' rfl | apply Sel.drop))) hn ⟨rfl, hR⟩
    · replace hh1 := bnot_f hh1
      try replace hh1 := of_decide_eq_true hh1
      rw [hh1] at hR
      refine XK.cond_f rfl ?_
      refine XK.skip ?_
      refine XK.inblk ?_
      exact XK.rdEnd L1 (by (repeat (first | exact Sel.nil | refine Sel.cons (by repeat (first | exact Del.hd | apply Del.tl | apply Del.app)) (by repeat (first | exact List.Mem.head _ | apply List.Mem.tail | apply List.mem_append_right)) ?_ | exact Sel.refl _ | exact Sel.pre | exact Sel.refl' rfl | exact Sel.pre' rfl | apply Sel.drop))) hn hR
  · have _done := trivial
    refine XK.inblk ?_
    refine XK.norTo (FinM.nor (by (repeat (first | exact Marks.nil | (apply Marks.cons; (repeat (first | exact Tak.hd | apply Tak.tl | apply Tak.app)); (first | exact Or.inr ‹_› | (left; repeat (first | exact List.Mem.head _ | apply List.Mem.tail))))))) .nil (by exact Sel.pre (A := x)) hnew ?_)
    first | exact .inr hX | exact .inl hI
  · obtain ⟨rfl, hX⟩ := hI
    refine XK.retTo (FinM.ret (by (repeat (first | exact Marks.nil | (apply Marks.cons; (repeat (first | exact Tak.hd | apply Tak.tl | apply Tak.app)); (first | exact Or.inr ‹_› | (left; repeat (first | exact List.Mem.head _ | apply List.Mem.tail))))))) .nil (by exact Sel.pre (A := x)) hnew ?_)
    first | exact .inr hX | exact .inl hI

theorem lgRecords_nil (g r cap : Nat) (sp : List Value) (G : Lg) (hG : G.wf) (hO : Mw.Own ⟨none, cap, sp⟩ G.l.length (recsL G.l) 101) :
    Ct Try.prog 25 [.pointer (some ⟨g, 0, none⟩)] [(g, cel (lgL r ⟨none, cap, sp⟩ G) 155)] [] (fun v L => ∃ b sl, v = .func (.func 83) #[] (List.toArray [.pointer (some ⟨b, 0, none⟩)]) ∧ L = (b, cel [slV sl G.l.length] 43) :: slB sl (recsL G.l) 52 ∧ Mw.Own sl G.l.length (recsL G.l) 101) := by
  have hlen := hG.len
  have hbd := recsL_len hG.body
  have hl0 : G.l.length = 0 := hO.2.1
  have hl1 : G.l = [] := List.eq_nil_of_length_eq_zero hl0
  have hcp : cap = 0 := hO.2.2.1
  refine Ct.of (N := 12) (rs := [.tmp 2]) Try.func25 rfl rfl rfl (Nat.le_of_ble_eq_true rfl) (fun B => ?_)
  refine XK.seq ?_
  refine XK.region ?_
  refine XO.val rfl rfl (OV.asg (v := .nilFunc) rfl) ?_
  refine XO.nil ?_
  refine XK.seq ?_
  refine XK.region ?_
  refine XO.alloc rfl Red8_zv_43 rfl (fun r3 hr3 => ?_)
  refine XO.nil ?_
  refine XK.seq ?_
  refine XK.seq ?_
  refine XK.region ?_
  refine XO.val rfl rfl (OV.mv (v := .pointer _) rfl) ?_
  refine XO.callV (cap := []) rfl rfl (.cons (v := .pointer _) rfl .nil) Try.call76 (lgThere_ok g r ⟨none, cap, sp⟩ G) (by repeat (first | exact Sel.nil | refine Sel.cons (by repeat (first | exact Del.hd | apply Del.tl | apply Del.app)) (by repeat (first | exact List.Mem.head _ | apply List.Mem.tail | apply List.mem_append_right)) ?_)) ?_
  refine XO.nil ?_
  refine XK.cond_t rfl ?_
  refine XK.region ?_
  refine XO.val rfl rfl (OV.mv (v := .pointer _) rfl) ?_
  refine XO.val rfl rfl (OV.nilc rfl) ?_
  refine XO.val rfl rfl (OV.fa rfl Red8_fa_155_6) ?_
  refine XO.val rfl rfl (OV.ld rfl Try.isAgg43 (by repeat (first | exact List.Mem.head _ | apply List.Mem.tail | apply List.mem_append_right)) rfl) ?_
  refine XO.say (u := slV ⟨none, cap, sp⟩ G.l.length) (v := .slice none 0 0) 9 rfl (by simp [slV, hl0, hcp]) ?_
  refine XO.callV (cap := []) rfl rfl (.cons (v := .slice _ _ _) rfl .nil) Try.call82 (cloneR_nil) (by repeat (first | exact Sel.nil | refine Sel.cons (by repeat (first | exact Del.hd | apply Del.tl | apply Del.app)) (by repeat (first | exact List.Mem.head _ | apply List.Mem.tail | apply List.mem_append_right)) ?_)) ?_
  refine XO.st rfl (v := .slice _ _ _) rfl rfl Try.sizeOf43 (by repeat (first | exact Put.hd | apply Put.tl | apply Put.app)) (by (first | (simp only [List.length_append, bys_length, b4_len, zrs_len, headB_len, putHead_len, List.length_replicate, List.length_cons, List.length_nil, List.length_set, List.length_take, List.length_drop, recL_len]; omega) | omega | exact Nat.le_of_ble_eq_true rfl | (simp; done) | (simp; omega))) (by (first | exact .inr ‹_› | (left; ((repeat (first | exact List.Mem.head _ | apply List.Mem.tail)))))) ?_
  refine XO.nil ?_
  refine XK.seq ?_
  refine XK.region ?_
  refine XO.val rfl rfl (OV.mkF .nil (.cons (v := .pointer _) rfl .nil)) ?_
  refine XO.val rfl rfl (OV.asg (v := .func _ _ _) rfl) ?_
  refine XO.nil ?_
  refine XK.retTo (Fin.ret (.cons (.tmp (v := .func _ _ _) rfl) .nil) (.cons (x := (r3, _)) (by repeat (first | exact Del.hd | apply Del.tl | apply Del.app)) (by repeat (first | exact List.Mem.head _ | apply List.Mem.tail | apply List.mem_append_right)) .nil) (by (repeat (first | exact nwNil | refine nwCons (by first | exact .inr ‹_› | (left; repeat (first | exact List.Mem.head _ | apply List.Mem.tail)) | (right; omega)) ?_ | assumption))) ?_)
  exact ⟨r3, ⟨none, 0, []⟩, rfl, by simp [slV, slB, hl0], by simp [hl1, recsL], by simp [hl1], rfl, rfl⟩

theorem lgRecords_some (g r q cap : Nat) (sp : List Value) (G : Lg) (hG : G.wf) (hO : Mw.Own ⟨some q, cap, sp⟩ G.l.length (recsL G.l) 101) :
    Ct Try.prog 25 [.pointer (some ⟨g, 0, none⟩)] [(g, cel (lgL r ⟨some q, cap, sp⟩ G) 155), (q, cel (recsL G.l ++ sp) 52)] [] (fun v L => ∃ b sl, v = .func (.func 83) #[] (List.toArray [.pointer (some ⟨b, 0, none⟩)]) ∧ L = (b, cel [slV sl G.l.length] 43) :: slB sl (recsL G.l) 52 ∧ Mw.Own sl G.l.length (recsL G.l) 101) := by
  have hlen := hG.len
  have hbd := recsL_len hG.body
  refine Ct.of (N := 12) (rs := [.tmp 2]) Try.func25 rfl rfl rfl (Nat.le_of_ble_eq_true rfl) (fun B => ?_)
  refine XK.seq ?_
  refine XK.region ?_
  refine XO.val rfl rfl (OV.asg (v := .nilFunc) rfl) ?_
  refine XO.nil ?_
  refine XK.seq ?_
  refine XK.region ?_
  refine XO.alloc rfl Red8_zv_43 rfl (fun r3 hr3 => ?_)
  refine XO.nil ?_
  refine XK.seq ?_
  refine XK.seq ?_
  refine XK.region ?_
  refine XO.val rfl rfl (OV.mv (v := .pointer _) rfl) ?_
  refine XO.callV (cap := []) rfl rfl (.cons (v := .pointer _) rfl .nil) Try.call76 (lgThere_ok g r ⟨some q, cap, sp⟩ G) (by repeat (first | exact Sel.nil | refine Sel.cons (by repeat (first | exact Del.hd | apply Del.tl | apply Del.app)) (by repeat (first | exact List.Mem.head _ | apply List.Mem.tail | apply List.mem_append_right)) ?_)) ?_
  refine XO.nil ?_
  refine XK.cond_t rfl ?_
  refine XK.region ?_
  refine XO.val rfl rfl (OV.mv (v := .pointer _) rfl) ?_
  refine XO.val rfl rfl (OV.nilc rfl) ?_
  refine XO.val rfl rfl (OV.fa rfl Red8_fa_155_6) ?_
  refine XO.val rfl rfl (OV.ld rfl Try.isAgg43 (by repeat (first | exact List.Mem.head _ | apply List.Mem.tail | apply List.mem_append_right)) rfl) ?_
  refine XO.callG (cap := []) rfl rfl (.cons (v := .slice _ _ _) rfl .nil) Try.call82 (cloneR_ok q 0 G.l.length cap (recsL G.l ++ sp) (recsL G.l) 52 (by rw [List.drop_zero, List.take_left' hbd]) hbd (recsL_one _) (by omega)) (by repeat (first | exact Sel.nil | refine Sel.cons (by repeat (first | exact Del.hd | apply Del.tl | apply Del.app)) (by repeat (first | exact List.Mem.head _ | apply List.Mem.tail | apply List.mem_append_right)) ?_)) (by ((repeat (first | exact wrs_nil | (refine wrs_cons (by (first | exact .inr ‹_› | (left; ((repeat (first | exact List.Mem.head _ | apply List.Mem.tail)))))) ?_))))) .nil ?_
  rintro _ _ ⟨rc, sc, cc, rfl, rfl, hown⟩ hnew
  have hrc : B.heap.size ≤ rc := (hnew _ (.head _)).resolve_left (by simp)
  refine XO.st rfl (v := .slice _ _ _) rfl rfl Try.sizeOf43 (by repeat (first | exact Put.hd | apply Put.tl | apply Put.app)) (by (first | (simp only [List.length_append, bys_length, b4_len, zrs_len, headB_len, putHead_len, List.length_replicate, List.length_cons, List.length_nil, List.length_set, List.length_take, List.length_drop, recL_len]; omega) | omega | exact Nat.le_of_ble_eq_true rfl | (simp; done) | (simp; omega))) (by (first | exact .inr ‹_› | (left; ((repeat (first | exact List.Mem.head _ | apply List.Mem.tail)))))) ?_
  refine XO.nil ?_
  refine XK.seq ?_
  refine XK.region ?_
  refine XO.val rfl rfl (OV.mkF .nil (.cons (v := .pointer _) rfl .nil)) ?_
  refine XO.val rfl rfl (OV.asg (v := .func _ _ _) rfl) ?_
  refine XO.nil ?_
  refine XK.retTo (Fin.ret (.cons (.tmp (v := .func _ _ _) rfl) .nil) (.cons (x := (r3, _)) (by repeat (first | exact Del.hd | apply Del.tl | apply Del.app)) (by repeat (first | exact List.Mem.head _ | apply List.Mem.tail | apply List.mem_append_right)) (.cons (x := (rc, _)) (by repeat (first | exact Del.hd | apply Del.tl | apply Del.app)) (by repeat (first | exact List.Mem.head _ | apply List.Mem.tail | apply List.mem_append_right)) .nil)) (by (repeat (first | exact nwNil | refine nwCons (by first | exact .inr ‹_› | (left; repeat (first | exact List.Mem.head _ | apply List.Mem.tail)) | (right; omega)) ?_ | assumption))) ?_)
  exact ⟨r3, ⟨some rc, cc, sc⟩, rfl, rfl, hown⟩


theorem lgRecords_ok (g r : Nat) (sl : Sl) (G : Lg) (hG : G.wf) (hO : Mw.Own sl G.l.length (recsL G.l) 101) :
    Ct Try.prog 25 [.pointer (some ⟨g, 0, none⟩)] ((g, cel (lgL r sl G) 155) :: slB sl (recsL G.l) 52) []
      (fun v L => ∃ b sl, v = .func (.func 83) #[] (List.toArray [.pointer (some ⟨b, 0, none⟩)]) ∧ L = (b, cel [slV sl G.l.length] 43) :: slB sl (recsL G.l) 52 ∧ Mw.Own sl G.l.length (recsL G.l) 101) := by
  obtain ⟨ro, cap, sp⟩ := sl
  cases ro with
  | none => exact lgRecords_nil g r cap sp G hG hO
  | some q => exact lgRecords_some g r q cap sp G hG hO
theorem records1_ok (b : Nat) (sl : Sl) (rs : List Rcd) (hb : ∀ r ∈ rs, r.body.length = 96) (hlen : rs.length ≤ 4096) (hO : Mw.Own sl rs.length (recsL rs) 101) :
    ItC Try.prog 83 [.pointer (some ⟨b, 0, none⟩)] ((b, cel [slV sl rs.length] 43) :: slB sl (recsL rs) 52) (rs.map fun r => [recV r]) := by
  obtain ⟨ro, cap, sp⟩ := sl
  cases ro with
  | none =>
    have h0 : rs.length = 0 := hO.2.1
    have h1 : rs = [] := List.eq_nil_of_length_eq_zero h0
    have h2 : cap = 0 := hO.2.2.1
    subst h1 h2
    exact records1_nil b
  | some q => exact records1_some b rs hb hlen q cap sp

end Go.Proofs.Ythophgadmkjamaa
