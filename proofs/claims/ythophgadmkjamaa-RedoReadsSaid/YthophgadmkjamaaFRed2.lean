/- Contracts of functions, printed by a program of this claim (wip/tools/gen.py). -/
import Derived.Test.YthophgadmkjamaaFRed1
import Derived.KernelRfl
set_option maxRecDepth 20000
set_option linter.unusedVariables false
set_option linter.unusedSimpArgs false
namespace Go.Proofs.Ythophgadmkjamaa
open Go Go.Mw Go.Proofs

theorem Red2_zv_157 : ∀ w, (zeroValue 157).run Try.prog w = .ok (.agg (List.toArray (bys (zrs 64)))) w := fun w => by kernel_rfl
theorem Red2_zv_164 : ∀ w, (zeroValue 164).run Try.prog w = .ok (.agg (List.toArray ([.int .i64 0, .int .i64 0]))) w := fun w => by kernel_rfl
theorem Red2_fa_164_1 : FA Try.prog 164 1 1 := FA.of (n := 0) Try.runUnderlying164 rfl rfl Try.sizeOf2
theorem Red2_fa_164_0 : FA Try.prog 164 0 0 := FA.of (n := 0) Try.runUnderlying164 rfl rfl Try.sizeOf2
theorem Red2_bld_52_0_1_2 (a0 : Int) (a1 : Int) (a2 : Int) : ∀ w, (Instr.build 52 (List.toArray [(0, .int .i64 a0), (1, .int .i64 a1), (2, .int .i64 a2)])).run Try.prog w = .ok (.agg (List.toArray ([.int .i64 a0, .int .i64 a1, .int .i64 a2, .int .i64 0, .int .i64 0] ++ List.replicate 96 (.int .u8 0)))) w := fun w => by kernel_rfl
theorem Red2_zv_52 : ∀ w, (zeroValue 52).run Try.prog w = .ok (.agg (List.toArray ([.int .i64 0, .int .i64 0, .int .i64 0, .int .i64 0, .int .i64 0] ++ List.replicate 96 (.int .u8 0)))) w := fun w => by kernel_rfl
theorem Red2_fa_23_3 : FA Try.prog 23 3 3 := FA.of (n := 0) Try.runUnderlying23 rfl rfl Try.sizeOf3
theorem Red2_fa_52_0 : FA Try.prog 52 0 0 := FA.of (n := 0) Try.runUnderlying52 rfl rfl Try.sizeOf3
theorem Red2_fa_52_2 : FA Try.prog 52 2 2 := FA.of (n := 0) Try.runUnderlying52 rfl rfl Try.sizeOf2
theorem Red2_fa_52_1 : FA Try.prog 52 1 1 := FA.of (n := 0) Try.runUnderlying52 rfl rfl Try.sizeOf2
theorem Red2_fa_52_3 : FA Try.prog 52 3 3 := FA.of (n := 0) Try.runUnderlying52 rfl rfl Try.sizeOf3
theorem Red2_fa_23_1 : FA Try.prog 23 1 1 := FA.of (n := 0) Try.runUnderlying23 rfl rfl Try.sizeOf3

set_option maxHeartbeats 8000000 in
theorem scan_ok (r s : Nat) (D : Dev) (hD : D.wf) (j : Job) (h : j.may = true) (node : Int) (h0 : 0 ≤ node) (h1 : node < j.nodes) (hz : j.secs ≤ D.S.length) :
    Ct Try.prog 75 [.pointer (some ⟨r, 0, none⟩), jobV j, .int .i64 node] [(r, cel (devL s D) 86), (s, cel (secL D) 157)] [] (fun v L => ((D.hd j node).2.2 = 0 → ∃ sl, v = .tuple (List.toArray [.int .i64 (D.hd j node).1, slV sl (D.scan j node).length, .int .i64 0]) ∧ L = slB sl (recsL (D.scan j node)) 52 ∧ Mw.Own sl (D.scan j node).length (recsL (D.scan j node)) 101) ∧ ((D.hd j node).2.2 ≠ 0 → v = .tuple (List.toArray [.int .i64 0, .slice none 0 0, .int .i64 12]) ∧ L = [])) := by
  have hj := of_decide_eq_true h
  have hs := head_bd h h0 h1
  have hlen := hD.len
  have hg1 := hD.sec_ok (i := j.head node) hs.1 (by omega)
  have hg1a : (D.S.getD (j.head node).toNat []).length = 64 := hg1.1
  refine Ct.of (N := 109) (rs := [.tmp 6, .tmp 7, .tmp 8]) Try.func75 rfl rfl rfl (Nat.le_of_ble_eq_true rfl) (fun B => ?_)
  refine XK.seq ?_
  refine XK.region ?_
  refine XO.box (v := .pointer _) rfl rfl rfl (fun r3 hr3 => ?_)
  refine XO.box (v := .agg _) rfl rfl rfl (fun r4 hr4 => ?_)
  refine XO.box (v := .int _ _) rfl rfl rfl (fun r5 hr5 => ?_)
  refine XO.val rfl rfl (OV.asg (v := .int _ _) rfl) ?_
  refine XO.val rfl rfl (OV.asg (v := .slice _ _ _) rfl) ?_
  refine XO.val rfl rfl (OV.asg (v := .int _ _) rfl) ?_
  refine XO.nil ?_
  refine XK.scope ?_
  refine XK.seq ?_
  refine XK.region ?_
  refine XO.val rfl rfl (OV.ldA rfl Try.isAgg23 Try.sizeOf23 (by repeat (first | exact List.Mem.head _ | apply List.Mem.tail | apply List.mem_append_right)) (grab_all (by (first | assumption | (simp only [List.length_append, bys_length, b4_len, zrs_len, headB_len, putHead_len, List.length_replicate, List.length_cons, List.length_nil, List.length_set, List.length_take, List.length_drop, recL_len]; done) | (simp only [List.length_append, bys_length, b4_len, zrs_len, headB_len, putHead_len, List.length_replicate, List.length_cons, List.length_nil, List.length_set, List.length_take, List.length_drop, recL_len]; omega) | rfl | (simp [*, bys_length]; done) | (simp [*, bys_length]; omega)))) (by (first | assumption | (simp only [List.length_append, bys_length, b4_len, zrs_len, headB_len, putHead_len, List.length_replicate, List.length_cons, List.length_nil, List.length_set, List.length_take, List.length_drop, recL_len]; done) | (simp only [List.length_append, bys_length, b4_len, zrs_len, headB_len, putHead_len, List.length_replicate, List.length_cons, List.length_nil, List.length_set, List.length_take, List.length_drop, recL_len]; omega) | rfl | (simp [*, bys_length]; done) | (simp [*, bys_length]; omega)))) ?_
  refine XO.val rfl rfl (OV.ld rfl Try.isAgg3 (by repeat (first | exact List.Mem.head _ | apply List.Mem.tail | apply List.mem_append_right)) rfl) ?_
  refine XO.callV (cap := []) rfl rfl (.cons (v := .agg _) rfl (.cons (v := .int _ _) rfl .nil)) Try.call81 (areaHead_ok j h node h0 h1) (by repeat (first | exact Sel.nil | refine Sel.cons (by repeat (first | exact Del.hd | apply Del.tl | apply Del.app)) (by repeat (first | exact List.Mem.head _ | apply List.Mem.tail | apply List.mem_append_right)) ?_)) ?_
  refine XO.val rfl rfl (OV.mv (v := .tuple _) rfl) ?_
  refine XO.val rfl rfl (OV.ext rfl rfl) ?_
  refine XO.val rfl rfl (OV.ext rfl rfl) ?_
  refine XO.val rfl rfl (OV.asg (v := .int _ _) rfl) ?_
  refine XO.val rfl rfl (OV.asg (v := .int _ _) rfl) ?_
  refine XO.nil ?_
  refine XK.seq ?_
  refine XK.region ?_
  refine XO.val rfl rfl (OV.ld rfl Try.isAgg27 (by repeat (first | exact List.Mem.head _ | apply List.Mem.tail | apply List.mem_append_right)) rfl) ?_
  refine XO.val rfl rfl (OV.mv (v := .int _ _) rfl) ?_
  refine XO.callV (cap := []) rfl rfl (.cons (v := .pointer _) rfl (.cons (v := .int _ _) rfl .nil)) Try.call166 (devRead_ok r s D hD (j.head node) hs.1 (by omega)) (by repeat (first | exact Sel.nil | refine Sel.cons (by repeat (first | exact Del.hd | apply Del.tl | apply Del.app)) (by repeat (first | exact List.Mem.head _ | apply List.Mem.tail | apply List.mem_append_right)) ?_)) ?_
  refine XO.val rfl rfl (OV.mv (v := .tuple _) rfl) ?_
  refine XO.val rfl rfl (OV.ext rfl rfl) ?_
  refine XO.val rfl rfl (OV.ext rfl rfl) ?_
  refine XO.alloc rfl Red2_zv_157 rfl (fun r11 hr11 => ?_)
  refine XO.stA rfl rfl (by (repeat (first | with_reducible (apply one_app) | with_reducible exact bys_one | with_reducible exact recL_one _ | with_reducible exact one_rep rfl | exact ones_of rfl | exact bys_one))) Try.sizeOf157 (by (first | assumption | (simp only [List.length_append, bys_length, b4_len, zrs_len, headB_len, putHead_len, List.length_replicate, List.length_cons, List.length_nil, List.length_set, List.length_take, List.length_drop, recL_len]; done) | (simp only [List.length_append, bys_length, b4_len, zrs_len, headB_len, putHead_len, List.length_replicate, List.length_cons, List.length_nil, List.length_set, List.length_take, List.length_drop, recL_len]; omega) | rfl | (simp [*, bys_length]; done) | (simp [*, bys_length]; omega))) (by repeat (first | exact Put.hd | apply Put.tl | apply Put.app)) (by first | exact splice_all (by (first | assumption | (simp only [List.length_append, bys_length, b4_len, zrs_len, headB_len, putHead_len, List.length_replicate, List.length_cons, List.length_nil, List.length_set, List.length_take, List.length_drop, recL_len]; done) | (simp only [List.length_append, bys_length, b4_len, zrs_len, headB_len, putHead_len, List.length_replicate, List.length_cons, List.length_nil, List.length_set, List.length_take, List.length_drop, recL_len]; omega) | rfl | (simp [*, bys_length]; done) | (simp [*, bys_length]; omega))) | rfl) (by (first | (simp only [List.length_append, bys_length, b4_len, zrs_len, headB_len, putHead_len, List.length_replicate, List.length_cons, List.length_nil, List.length_set, List.length_take, List.length_drop, recL_len]; omega) | omega | exact Nat.le_of_ble_eq_true rfl | (simp; done) | (simp; omega))) (by (first | exact .inr ‹_› | (left; ((repeat (first | exact List.Mem.head _ | apply List.Mem.tail)))))) ?_
  refine XO.val rfl rfl (OV.asg (v := .int _ _) rfl) ?_
  refine XO.nil ?_
  refine XK.seq ?_
  refine XK.region ?_
  refine XO.val rfl rfl (OV.ldA rfl Try.isAgg157 Try.sizeOf157 (by repeat (first | exact List.Mem.head _ | apply List.Mem.tail | apply List.mem_append_right)) (grab_all (by (first | assumption | (simp only [List.length_append, bys_length, b4_len, zrs_len, headB_len, putHead_len, List.length_replicate, List.length_cons, List.length_nil, List.length_set, List.length_take, List.length_drop, recL_len]; done) | (simp only [List.length_append, bys_length, b4_len, zrs_len, headB_len, putHead_len, List.length_replicate, List.length_cons, List.length_nil, List.length_set, List.length_take, List.length_drop, recL_len]; omega) | rfl | (simp [*, bys_length]; done) | (simp [*, bys_length]; omega)))) (by (first | assumption | (simp only [List.length_append, bys_length, b4_len, zrs_len, headB_len, putHead_len, List.length_replicate, List.length_cons, List.length_nil, List.length_set, List.length_take, List.length_drop, recL_len]; done) | (simp only [List.length_append, bys_length, b4_len, zrs_len, headB_len, putHead_len, List.length_replicate, List.length_cons, List.length_nil, List.length_set, List.length_take, List.length_drop, recL_len]; omega) | rfl | (simp [*, bys_length]; done) | (simp [*, bys_length]; omega)))) ?_
  refine XO.callV (cap := []) rfl rfl (.cons (v := .agg _) rfl .nil) Try.call167 (takeHead_ok (D.sec (j.head node)) hg1.1 hg1.2) (by repeat (first | exact Sel.nil | refine Sel.cons (by repeat (first | exact Del.hd | apply Del.tl | apply Del.app)) (by repeat (first | exact List.Mem.head _ | apply List.Mem.tail | apply List.mem_append_right)) ?_)) ?_
  refine XO.val rfl rfl (OV.mv (v := .tuple _) rfl) ?_
  refine XO.val rfl rfl (OV.ext rfl rfl) ?_
  refine XO.val rfl rfl (OV.ext rfl rfl) ?_
  refine XO.alloc rfl Red2_zv_164 rfl (fun r13 hr13 => ?_)
  refine XO.stA rfl rfl (by (repeat (first | with_reducible (apply one_app) | with_reducible exact bys_one | with_reducible exact recL_one _ | with_reducible exact one_rep rfl | exact ones_of rfl | exact bys_one))) Try.sizeOf164 (by (first | assumption | (simp only [List.length_append, bys_length, b4_len, zrs_len, headB_len, putHead_len, List.length_replicate, List.length_cons, List.length_nil, List.length_set, List.length_take, List.length_drop, recL_len]; done) | (simp only [List.length_append, bys_length, b4_len, zrs_len, headB_len, putHead_len, List.length_replicate, List.length_cons, List.length_nil, List.length_set, List.length_take, List.length_drop, recL_len]; omega) | rfl | (simp [*, bys_length]; done) | (simp [*, bys_length]; omega))) (by repeat (first | exact Put.hd | apply Put.tl | apply Put.app)) (by first | exact splice_all (by (first | assumption | (simp only [List.length_append, bys_length, b4_len, zrs_len, headB_len, putHead_len, List.length_replicate, List.length_cons, List.length_nil, List.length_set, List.length_take, List.length_drop, recL_len]; done) | (simp only [List.length_append, bys_length, b4_len, zrs_len, headB_len, putHead_len, List.length_replicate, List.length_cons, List.length_nil, List.length_set, List.length_take, List.length_drop, recL_len]; omega) | rfl | (simp [*, bys_length]; done) | (simp [*, bys_length]; omega))) | rfl) (by (first | (simp only [List.length_append, bys_length, b4_len, zrs_len, headB_len, putHead_len, List.length_replicate, List.length_cons, List.length_nil, List.length_set, List.length_take, List.length_drop, recL_len]; omega) | omega | exact Nat.le_of_ble_eq_true rfl | (simp; done) | (simp; omega))) (by (first | exact .inr ‹_› | (left; ((repeat (first | exact List.Mem.head _ | apply List.Mem.tail)))))) ?_
  refine XO.val rfl rfl (OV.asg (v := .int _ _) rfl) ?_
  refine XO.nil ?_
  refine XK.seq ?_
  refine XK.seq ?_
  refine XK.region ?_
  refine XO.val rfl rfl (OV.mv (v := .int _ _) rfl) ?_
  refine XO.val rfl rfl (OV.neq rfl rfl) ?_
  refine XO.nil ?_
  refine XK.split (t := 39) rfl (fun hh1 => ?_) (fun hh1 => ?_)
  · replace hh1 := bnot_t hh1
    replace hh1 := of_decide_eq_false hh1
    refine XK.cond_t rfl ?_
    refine XK.seq ?_
    refine XK.region ?_
    refine XO.val rfl rfl (OV.asg (v := .int _ _) rfl) ?_
    refine XO.val rfl rfl (OV.asg (v := .slice _ _ _) rfl) ?_
    refine XO.val rfl rfl (OV.asg (v := .int _ _) rfl) ?_
    refine XO.nil ?_
    refine XK.retTo (Fin.ret (.cons (.tmp (v := .int _ _) rfl) (.cons (.tmp (v := .slice _ _ _) rfl) (.cons (.tmp (v := .int _ _) rfl) .nil))) .nil (by first | (simp; done) | (intro x hx; simp only [List.mem_cons, List.not_mem_nil, or_false] at hx; subst hx; right; assumption)) ?_)
    first | exact ⟨fun h => absurd h hh1, fun _ => ⟨rfl, rfl⟩⟩ | exact ⟨fun _ => ⟨⟨none, cap, sp⟩, by rw [hX]; simp [slV, ho, hcp, tupV, Dev.hd, Dev.sec], by rw [hX]; rfl, by rw [hX]; exact hI.2.2.1⟩, fun hn => absurd hh1 hn⟩ | exact ⟨fun _ => ⟨⟨some rr, cap, sp⟩, by rw [hX]; rfl, by rw [hX]; rfl, by rw [hX]; exact hI.2.2.1⟩, fun hn => absurd hh1 hn⟩
  · replace hh1 := bnot_f hh1
    replace hh1 := of_decide_eq_true hh1
    have hh : 1 ≤ (D.hd j node).1 ∧ (D.hd j node).1 ≤ 2147483647 := takeHead_ok' hh1
    have htk := takeHead_ok' hh1
    have ee : (takeHead (D.sec (j.head node))).1 = (D.hd j node).1 := rfl
    refine XK.cond_f rfl ?_
    refine XK.skip ?_
    refine XK.seq ?_
    refine XK.region ?_
    refine XO.val rfl rfl (OV.mkF .nil (.cons (v := .pointer _) rfl (.cons (v := .pointer _) rfl (.cons (v := .pointer _) rfl .nil)))) ?_
    refine XO.val rfl rfl (OV.asg (v := .func _ _ _) rfl) ?_
    refine XO.nil ?_
    refine XK.seq ?_
    refine XK.region ?_
    refine XO.val rfl rfl (OV.ld rfl Try.isAgg3 (by repeat (first | exact List.Mem.head _ | apply List.Mem.tail | apply List.mem_append_right)) rfl) ?_
    refine XO.val rfl rfl (OV.fa rfl Red2_fa_164_1) ?_
    refine XO.val rfl rfl (OV.ld rfl Try.isAgg2 (by repeat (first | exact List.Mem.head _ | apply List.Mem.tail | apply List.mem_append_right)) rfl) ?_
    refine XO.val rfl rfl (OV.max2 rfl rfl) ?_
    refine XO.val rfl rfl (OV.fa rfl Red2_fa_164_0) ?_
    refine XO.val rfl rfl (OV.ld rfl Try.isAgg2 (by repeat (first | exact List.Mem.head _ | apply List.Mem.tail | apply List.mem_append_right)) rfl) ?_
    refine XO.val rfl rfl (OV.sub rfl rfl (wrap_in (by omega))) ?_
    refine XO.val rfl rfl (OV.bld (qs := [(0, .int .i64 _), (1, .int .i64 _), (2, .int .i64 _)]) (.cons (v := .int _ _) rfl (.cons (v := .int _ _) rfl (.cons (v := .int _ _) rfl .nil))) rfl (Red2_bld_52_0_1_2 _ _ _)) ?_
    refine XO.alloc rfl Red2_zv_52 rfl (fun r16 hr16 => ?_)
    refine XO.stA rfl rfl (by (repeat (first | with_reducible (apply one_app) | with_reducible exact bys_one | with_reducible exact recL_one _ | with_reducible exact one_rep rfl | exact ones_of rfl | exact bys_one))) Try.sizeOf52 (by (first | assumption | (simp only [List.length_append, bys_length, b4_len, zrs_len, headB_len, putHead_len, List.length_replicate, List.length_cons, List.length_nil, List.length_set, List.length_take, List.length_drop, recL_len]; done) | (simp only [List.length_append, bys_length, b4_len, zrs_len, headB_len, putHead_len, List.length_replicate, List.length_cons, List.length_nil, List.length_set, List.length_take, List.length_drop, recL_len]; omega) | rfl | (simp [*, bys_length]; done) | (simp [*, bys_length]; omega))) (by repeat (first | exact Put.hd | apply Put.tl | apply Put.app)) (by first | exact splice_all (by (first | assumption | (simp only [List.length_append, bys_length, b4_len, zrs_len, headB_len, putHead_len, List.length_replicate, List.length_cons, List.length_nil, List.length_set, List.length_take, List.length_drop, recL_len]; done) | (simp only [List.length_append, bys_length, b4_len, zrs_len, headB_len, putHead_len, List.length_replicate, List.length_cons, List.length_nil, List.length_set, List.length_take, List.length_drop, recL_len]; omega) | rfl | (simp [*, bys_length]; done) | (simp [*, bys_length]; omega))) | rfl) (by (first | (simp only [List.length_append, bys_length, b4_len, zrs_len, headB_len, putHead_len, List.length_replicate, List.length_cons, List.length_nil, List.length_set, List.length_take, List.length_drop, recL_len]; omega) | omega | exact Nat.le_of_ble_eq_true rfl | (simp; done) | (simp; omega))) (by (first | exact .inr ‹_› | (left; ((repeat (first | exact List.Mem.head _ | apply List.Mem.tail)))))) ?_
    refine XO.nil ?_
    refine XK.seq ?_
    refine XK.region ?_
    refine XO.val rfl rfl (OV.asg (v := .slice _ _ _) rfl) ?_
    refine XO.nil ?_
    refine XK.seq ?_
    refine XK.label ?_
    refine XK.seq ?_
    refine XK.seq ?_
    refine XK.region ?_
    refine XO.val rfl rfl (OV.fa rfl Red2_fa_164_0) ?_
    refine XO.val rfl rfl (OV.ld rfl Try.isAgg2 (by repeat (first | exact List.Mem.head _ | apply List.Mem.tail | apply List.mem_append_right)) rfl) ?_
    refine XO.val rfl rfl (OV.asg (v := .int _ _) rfl) ?_
    refine XO.nil ?_
    refine XK.block ?_
    refine XK.loopL (X := List Rcd × Rcd × Sl) (lc := [(4, .pointer _), (5, .pointer _), (6, .int _ _), (7, .slice _ _ _), (8, .int _ _), (13, .pointer _), (15, .func _ _ _), (16, .pointer _)]) (lv := fun (x : List Rcd × Rcd × Sl) => [(17, slV x.2.2 x.1.length), (18, .int .i64 ((D.hd j node).1 + (x.1.length : Int)))]) (Lf := fun (x : List Rcd × Rcd × Sl) => [(r, cel (devL s D) 86), (s, cel (secL D) 157), (r3, cel [.pointer (some ⟨r, 0, none⟩)] 27), (r4, cel (jobL j) 23), (r5, cel [.int .i64 node] 3), (r13, cel [.int .i64 (D.hd j node).1, .int .i64 (D.hd j node).2.1] 164), (r16, cel (recL x.2.1) 52)] ++ slB x.2.2 (recsL x.1) 52) (I := fun (x : List Rcd × Rcd × Sl) => x.1.length ≤ j.log.toNat ∧ D.scan j node = x.1 ++ scanL D j node (j.log.toNat - x.1.length) ((D.hd j node).1 + (x.1.length : Int)) x.2.1.epoch ∧ Mw.Own x.2.2 x.1.length (recsL x.1) 101 ∧ (∀ q, x.2.2.r = some q → B.heap.size ≤ q) ∧ (∀ q ∈ x.1, q.body.length = 96) ∧ x.2.1.body.length = 96) (μ := fun (x : List Rcd × Rcd × Sl) => j.log.toNat - x.1.length) ([], ⟨node, max 1 (D.hd j node).2.1, (D.hd j node).1 - 1, 0, 0, zrs 96⟩, nilS) ⟨rfl, rfl, rfl, rfl, rfl, rfl, rfl, rfl, trivial⟩ ⟨rfl, congrArg (Value.int .i64) (Int.add_zero _).symm, trivial⟩ (.cons (by repeat (first | exact Del.hd | apply Del.tl | apply Del.app)) (by repeat (first | exact List.Mem.head _ | apply List.Mem.tail | apply List.mem_append_right)) (.cons (by repeat (first | exact Del.hd | apply Del.tl | apply Del.app)) (by repeat (first | exact List.Mem.head _ | apply List.Mem.tail | apply List.mem_append_right)) (.cons (by repeat (first | exact Del.hd | apply Del.tl | apply Del.app)) (by repeat (first | exact List.Mem.head _ | apply List.Mem.tail | apply List.mem_append_right)) (.cons (by repeat (first | exact Del.hd | apply Del.tl | apply Del.app)) (by repeat (first | exact List.Mem.head _ | apply List.Mem.tail | apply List.mem_append_right)) (.cons (by repeat (first | exact Del.hd | apply Del.tl | apply Del.app)) (by repeat (first | exact List.Mem.head _ | apply List.Mem.tail | apply List.mem_append_right)) (.cons (by repeat (first | exact Del.hd | apply Del.tl | apply Del.app)) (by repeat (first | exact List.Mem.head _ | apply List.Mem.tail | apply List.mem_append_right)) (.cons (by repeat (first | exact Del.hd | apply Del.tl | apply Del.app)) (by repeat (first | exact List.Mem.head _ | apply List.Mem.tail | apply List.mem_append_right)) .nil))))))) ⟨by simp, by simp [Dev.scan], Own.nil 101, (fun q hq => by cases hq), (fun q hq => by cases hq), zrs_len 96⟩ ?_
    rintro ⟨o, la, ⟨ro, cap, sp⟩⟩ σ hI
    dsimp only at hI ⊢
    rcases ro with _ | rr
    · have _case := trivial
      have ho : o = [] := List.eq_nil_of_length_eq_zero hI.2.2.1.2.1
      have hcp : cap = 0 := hI.2.2.1.2.2.1
      refine XK.say (u := slV ⟨none, cap, sp⟩ o.length) (v := .slice none 0 0) 17 rfl (by simp [slV, ho, hcp]) ?_
      refine XK.seq ?_
      refine XK.seq ?_
      refine XK.region ?_
      refine XO.val rfl rfl (OV.mv (v := .int _ _) rfl) ?_
      refine XO.val rfl rfl (OV.fa rfl Red2_fa_164_0) ?_
      refine XO.val rfl rfl (OV.ld rfl Try.isAgg2 (by repeat (first | exact List.Mem.head _ | apply List.Mem.tail | apply List.mem_append_right)) rfl) ?_
      refine XO.val rfl rfl (OV.fa rfl Red2_fa_23_3) ?_
      refine XO.val rfl rfl (OV.ld rfl Try.isAgg3 (by repeat (first | exact List.Mem.head _ | apply List.Mem.tail | apply List.mem_append_right)) rfl) ?_
      refine XO.val rfl rfl (OV.add rfl rfl (wrap_in (by omega))) ?_
      refine XO.val rfl rfl (OV.lss rfl rfl) ?_
      refine XO.val rfl rfl (OV.mv (v := .bool _) rfl) ?_
      refine XO.split (t := 58) rfl (fun hh2 => ?_) (fun hh2 => ?_)
      · replace hh2 := of_decide_eq_true hh2
        refine XO.guard_t rfl rfl ?_
        refine XO.val rfl rfl (OV.mv (v := .int _ _) rfl) ?_
        refine XO.guard_t rfl rfl ?_
        refine XO.val rfl rfl (OV.lss rfl rfl) ?_
        refine XO.val rfl rfl (OV.pick_t (v := .bool _) rfl rfl) ?_
        refine XO.nil ?_
        refine XK.split (t := 61) rfl (fun hh3 => ?_) (fun hh3 => ?_)
        · replace hh3 := of_decide_eq_true hh3
          have hsl := slot_bd (k := ((D.hd j node).1 + (o.length : Int))) h h0 h1
          have hq1 := hD.sec_ok (i := j.slot node ((D.hd j node).1 + (o.length : Int))) hsl.1 (by omega)
          have hq2 := hD.sec_ok (i := j.slot node ((D.hd j node).1 + (o.length : Int)) + 1) (by omega) (by omega)
          have hbl := getR_len (D.sec (j.slot node ((D.hd j node).1 + (o.length : Int)))) (D.sec (j.slot node ((D.hd j node).1 + (o.length : Int)) + 1)) hq1.1 hq2.1
          refine XK.cond_t rfl ?_
          refine XK.skip ?_
          refine XK.seq ?_
          refine XK.block ?_
          refine XK.seq ?_
          refine XK.region ?_
          refine XO.val rfl rfl (OV.mv (v := .func _ _ _) rfl) ?_
          refine XO.val rfl rfl (OV.mv (v := .int _ _) rfl) ?_
          refine XO.callV rfl rfl (.cons (v := .int _ _) rfl .nil) Try.call168 (scan1_ok r4 r5 r3 r s D hD j h node h0 h1 hz ((D.hd j node).1 + (o.length : Int)) (by omega) (by omega)) (by repeat (first | exact Sel.nil | refine Sel.cons (by repeat (first | exact Del.hd | apply Del.tl | apply Del.app)) (by repeat (first | exact List.Mem.head _ | apply List.Mem.tail | apply List.mem_append_right)) ?_)) ?_
          refine XO.val rfl rfl (OV.ext rfl rfl) ?_
          refine XO.val rfl rfl (OV.ext rfl rfl) ?_
          refine XO.callV (cap := []) rfl rfl (.cons (v := .agg _) rfl (.cons (v := .agg _) rfl .nil)) Try.call169 (get_ok (D.sec (j.slot node ((D.hd j node).1 + (o.length : Int)))) (D.sec (j.slot node ((D.hd j node).1 + (o.length : Int)) + 1)) hq1.1 hq2.1 hq1.2) (by repeat (first | exact Sel.nil | refine Sel.cons (by repeat (first | exact Del.hd | apply Del.tl | apply Del.app)) (by repeat (first | exact List.Mem.head _ | apply List.Mem.tail | apply List.mem_append_right)) ?_)) ?_
          refine XO.val rfl rfl (OV.mv (v := .tuple _) rfl) ?_
          refine XO.val rfl rfl (OV.ext rfl rfl) ?_
          refine XO.val rfl rfl (OV.ext rfl rfl) ?_
          refine XO.alloc rfl Red2_zv_52 rfl (fun r19 hr19 => ?_)
          refine XO.stA rfl rfl (by (repeat (first | with_reducible (apply one_app) | with_reducible exact bys_one | with_reducible exact recL_one _ | with_reducible exact one_rep rfl | exact ones_of rfl | exact bys_one))) Try.sizeOf52 (by (first | assumption | (simp only [List.length_append, bys_length, b4_len, zrs_len, headB_len, putHead_len, List.length_replicate, List.length_cons, List.length_nil, List.length_set, List.length_take, List.length_drop, recL_len]; done) | (simp only [List.length_append, bys_length, b4_len, zrs_len, headB_len, putHead_len, List.length_replicate, List.length_cons, List.length_nil, List.length_set, List.length_take, List.length_drop, recL_len]; omega) | rfl | (simp [*, bys_length]; done) | (simp [*, bys_length]; omega))) (by repeat (first | exact Put.hd | apply Put.tl | apply Put.app)) (by first | exact splice_all (by (first | assumption | (simp only [List.length_append, bys_length, b4_len, zrs_len, headB_len, putHead_len, List.length_replicate, List.length_cons, List.length_nil, List.length_set, List.length_take, List.length_drop, recL_len]; done) | (simp only [List.length_append, bys_length, b4_len, zrs_len, headB_len, putHead_len, List.length_replicate, List.length_cons, List.length_nil, List.length_set, List.length_take, List.length_drop, recL_len]; omega) | rfl | (simp [*, bys_length]; done) | (simp [*, bys_length]; omega))) | rfl) (by (first | (simp only [List.length_append, bys_length, b4_len, zrs_len, headB_len, putHead_len, List.length_replicate, List.length_cons, List.length_nil, List.length_set, List.length_take, List.length_drop, recL_len]; omega) | omega | exact Nat.le_of_ble_eq_true rfl | (simp; done) | (simp; omega))) (by (first | exact .inr ‹_› | (left; ((repeat (first | exact List.Mem.head _ | apply List.Mem.tail)))))) ?_
          refine XO.val rfl rfl (OV.asg (v := .int _ _) rfl) ?_
          refine XO.nil ?_
          refine XK.seq ?_
          refine XK.seq ?_
          refine XK.region ?_
          refine XO.val rfl rfl (OV.mv (v := .int _ _) rfl) ?_
          refine XO.val rfl rfl (OV.neq rfl rfl) ?_
          refine XO.val rfl rfl (OV.mv (v := .bool _) rfl) ?_
          refine XO.split (t := 75) rfl (fun hh4 => ?_) (fun hh4 => ?_)
          · replace hh4 := bnot_t hh4
            replace hh4 := of_decide_eq_false hh4
            have hX : D.scan j node = o := by rw [hI.2.1, scan_stop _ (fun g => hh4 g.2.1), List.append_nil]
            iterate 4 refine XO.guard_f rfl rfl rfl rfl ?_
            refine XO.val rfl rfl (OV.pick_t (v := .bool _) rfl rfl) ?_
            refine XO.val rfl rfl (OV.mv (v := .bool _) rfl) ?_
            iterate 4 refine XO.guard_f rfl rfl rfl rfl ?_
            refine XO.val rfl rfl (OV.pick_t (v := .bool _) rfl rfl) ?_
            refine XO.val rfl rfl (OV.mv (v := .bool _) rfl) ?_
            iterate 5 refine XO.guard_f rfl rfl rfl rfl ?_
            refine XO.val rfl rfl (OV.pick_t (v := .bool _) rfl rfl) ?_
            refine XO.val rfl rfl (OV.mv (v := .bool _) rfl) ?_
            iterate 5 refine XO.guard_f rfl rfl rfl rfl ?_
            refine XO.val rfl rfl (OV.pick_t (v := .bool _) rfl rfl) ?_
            refine XO.nil ?_
            refine XK.cond_t rfl ?_
            refine XK.exitTo rfl ?_
            refine XK.seq ?_
            refine XK.region ?_
            refine XO.val rfl rfl (OV.fa rfl Red2_fa_164_0) ?_
            refine XO.val rfl rfl (OV.ld rfl Try.isAgg2 (by repeat (first | exact List.Mem.head _ | apply List.Mem.tail | apply List.mem_append_right)) rfl) ?_
            refine XO.val rfl rfl (OV.mv (v := .slice _ _ _) rfl) ?_
            refine XO.val rfl rfl (OV.asg (v := .int _ _) rfl) ?_
            refine XO.val rfl rfl (OV.asg (v := .slice _ _ _) rfl) ?_
            refine XO.val rfl rfl (OV.asg (v := .int _ _) rfl) ?_
            refine XO.nil ?_
            refine XK.retTo (Fin.ret (.cons (.tmp (v := .int _ _) rfl) (.cons (.tmp (v := .slice _ _ _) rfl) (.cons (.tmp (v := .int _ _) rfl) .nil))) .nil (by first | (simp; done) | (intro x hx; simp only [List.mem_cons, List.not_mem_nil, or_false] at hx; subst hx; right; assumption)) ?_)
            first | exact ⟨fun h => absurd h hh1, fun _ => ⟨rfl, rfl⟩⟩ | exact ⟨fun _ => ⟨⟨none, cap, sp⟩, by rw [hX]; simp [slV, ho, hcp, tupV, Dev.hd, Dev.sec], by rw [hX]; rfl, by rw [hX]; exact hI.2.2.1⟩, fun hn => absurd hh1 hn⟩ | exact ⟨fun _ => ⟨⟨some rr, cap, sp⟩, by rw [hX]; rfl, by rw [hX]; rfl, by rw [hX]; exact hI.2.2.1⟩, fun hn => absurd hh1 hn⟩
          · replace hh4 := bnot_f hh4
            replace hh4 := of_decide_eq_true hh4
            have q2 : (D.rec2 j node ((D.hd j node).1 + (o.length : Int))).2 = 0 := hh4
            refine XO.guard_t rfl rfl ?_
            refine XO.val rfl rfl (OV.fa rfl Red2_fa_52_0) ?_
            refine XO.guard_t rfl rfl ?_
            refine XO.val rfl rfl (OV.ld rfl Try.isAgg3 (by repeat (first | exact List.Mem.head _ | apply List.Mem.tail | apply List.mem_append_right)) rfl) ?_
            refine XO.guard_t rfl rfl ?_
            refine XO.val rfl rfl (OV.ld rfl Try.isAgg3 (by repeat (first | exact List.Mem.head _ | apply List.Mem.tail | apply List.mem_append_right)) rfl) ?_
            refine XO.guard_t rfl rfl ?_
            refine XO.val rfl rfl (OV.neq rfl rfl) ?_
            refine XO.val rfl rfl (OV.pick_f (v := .bool _) rfl rfl) ?_
            refine XO.val rfl rfl (OV.mv (v := .bool _) rfl) ?_
            refine XO.split (t := 81) rfl (fun hh5 => ?_) (fun hh5 => ?_)
            · replace hh5 := bnot_t hh5
              replace hh5 := of_decide_eq_false hh5
              have hX : D.scan j node = o := by rw [hI.2.1, scan_stop _ (fun g => hh5 g.2.2.1), List.append_nil]
              iterate 4 refine XO.guard_f rfl rfl rfl rfl ?_
              refine XO.val rfl rfl (OV.pick_t (v := .bool _) rfl rfl) ?_
              refine XO.val rfl rfl (OV.mv (v := .bool _) rfl) ?_
              iterate 5 refine XO.guard_f rfl rfl rfl rfl ?_
              refine XO.val rfl rfl (OV.pick_t (v := .bool _) rfl rfl) ?_
              refine XO.val rfl rfl (OV.mv (v := .bool _) rfl) ?_
              iterate 5 refine XO.guard_f rfl rfl rfl rfl ?_
              refine XO.val rfl rfl (OV.pick_t (v := .bool _) rfl rfl) ?_
              refine XO.nil ?_
              refine XK.cond_t rfl ?_
              refine XK.exitTo rfl ?_
              refine XK.seq ?_
              refine XK.region ?_
              refine XO.val rfl rfl (OV.fa rfl Red2_fa_164_0) ?_
              refine XO.val rfl rfl (OV.ld rfl Try.isAgg2 (by repeat (first | exact List.Mem.head _ | apply List.Mem.tail | apply List.mem_append_right)) rfl) ?_
              refine XO.val rfl rfl (OV.mv (v := .slice _ _ _) rfl) ?_
              refine XO.val rfl rfl (OV.asg (v := .int _ _) rfl) ?_
              refine XO.val rfl rfl (OV.asg (v := .slice _ _ _) rfl) ?_
              refine XO.val rfl rfl (OV.asg (v := .int _ _) rfl) ?_
              refine XO.nil ?_
              refine XK.retTo (Fin.ret (.cons (.tmp (v := .int _ _) rfl) (.cons (.tmp (v := .slice _ _ _) rfl) (.cons (.tmp (v := .int _ _) rfl) .nil))) .nil (by first | (simp; done) | (intro x hx; simp only [List.mem_cons, List.not_mem_nil, or_false] at hx; subst hx; right; assumption)) ?_)
              first | exact ⟨fun h => absurd h hh1, fun _ => ⟨rfl, rfl⟩⟩ | exact ⟨fun _ => ⟨⟨none, cap, sp⟩, by rw [hX]; simp [slV, ho, hcp, tupV, Dev.hd, Dev.sec], by rw [hX]; rfl, by rw [hX]; exact hI.2.2.1⟩, fun hn => absurd hh1 hn⟩ | exact ⟨fun _ => ⟨⟨some rr, cap, sp⟩, by rw [hX]; rfl, by rw [hX]; rfl, by rw [hX]; exact hI.2.2.1⟩, fun hn => absurd hh1 hn⟩
            · replace hh5 := bnot_f hh5
              replace hh5 := of_decide_eq_true hh5
              have q3 : (D.rec2 j node ((D.hd j node).1 + (o.length : Int))).1.node = node := hh5
              refine XO.guard_t rfl rfl ?_
              refine XO.val rfl rfl (OV.fa rfl Red2_fa_52_2) ?_
              refine XO.guard_t rfl rfl ?_
              refine XO.val rfl rfl (OV.ld rfl Try.isAgg2 (by repeat (first | exact List.Mem.head _ | apply List.Mem.tail | apply List.mem_append_right)) rfl) ?_
              refine XO.guard_t rfl rfl ?_
              refine XO.val rfl rfl (OV.mv (v := .int _ _) rfl) ?_
              refine XO.guard_t rfl rfl ?_
              refine XO.val rfl rfl (OV.neq rfl rfl) ?_
              refine XO.val rfl rfl (OV.pick_f (v := .bool _) rfl rfl) ?_
              refine XO.val rfl rfl (OV.mv (v := .bool _) rfl) ?_
              refine XO.split (t := 87) rfl (fun hh6 => ?_) (fun hh6 => ?_)
              · replace hh6 := bnot_t hh6
                replace hh6 := of_decide_eq_false hh6
                have hX : D.scan j node = o := by rw [hI.2.1, scan_stop _ (fun g => hh6 g.2.2.2.1), List.append_nil]
                iterate 5 refine XO.guard_f rfl rfl rfl rfl ?_
                refine XO.val rfl rfl (OV.pick_t (v := .bool _) rfl rfl) ?_
                refine XO.val rfl rfl (OV.mv (v := .bool _) rfl) ?_
                iterate 5 refine XO.guard_f rfl rfl rfl rfl ?_
                refine XO.val rfl rfl (OV.pick_t (v := .bool _) rfl rfl) ?_
                refine XO.nil ?_
                refine XK.cond_t rfl ?_
                refine XK.exitTo rfl ?_
                refine XK.seq ?_
                refine XK.region ?_
                refine XO.val rfl rfl (OV.fa rfl Red2_fa_164_0) ?_
                refine XO.val rfl rfl (OV.ld rfl Try.isAgg2 (by repeat (first | exact List.Mem.head _ | apply List.Mem.tail | apply List.mem_append_right)) rfl) ?_
                refine XO.val rfl rfl (OV.mv (v := .slice _ _ _) rfl) ?_
                refine XO.val rfl rfl (OV.asg (v := .int _ _) rfl) ?_
                refine XO.val rfl rfl (OV.asg (v := .slice _ _ _) rfl) ?_
                refine XO.val rfl rfl (OV.asg (v := .int _ _) rfl) ?_
                refine XO.nil ?_
                refine XK.retTo (Fin.ret (.cons (.tmp (v := .int _ _) rfl) (.cons (.tmp (v := .slice _ _ _) rfl) (.cons (.tmp (v := .int _ _) rfl) .nil))) .nil (by first | (simp; done) | (intro x hx; simp only [List.mem_cons, List.not_mem_nil, or_false] at hx; subst hx; right; assumption)) ?_)
                first | exact ⟨fun h => absurd h hh1, fun _ => ⟨rfl, rfl⟩⟩ | exact ⟨fun _ => ⟨⟨none, cap, sp⟩, by rw [hX]; simp [slV, ho, hcp, tupV, Dev.hd, Dev.sec], by rw [hX]; rfl, by rw [hX]; exact hI.2.2.1⟩, fun hn => absurd hh1 hn⟩ | exact ⟨fun _ => ⟨⟨some rr, cap, sp⟩, by rw [hX]; rfl, by rw [hX]; rfl, by rw [hX]; exact hI.2.2.1⟩, fun hn => absurd hh1 hn⟩
              · replace hh6 := bnot_f hh6
                replace hh6 := of_decide_eq_true hh6
                have q4 : (D.rec2 j node ((D.hd j node).1 + (o.length : Int))).1.lsn = ((D.hd j node).1 + (o.length : Int)) := hh6
                refine XO.guard_t rfl rfl ?_
                refine XO.val rfl rfl (OV.fa rfl Red2_fa_52_1) ?_
                refine XO.guard_t rfl rfl ?_
                refine XO.val rfl rfl (OV.ld rfl Try.isAgg2 (by repeat (first | exact List.Mem.head _ | apply List.Mem.tail | apply List.mem_append_right)) rfl) ?_
                refine XO.guard_t rfl rfl ?_
                refine XO.val rfl rfl (OV.fa rfl Red2_fa_52_1) ?_
                refine XO.guard_t rfl rfl ?_
                refine XO.val rfl rfl (OV.ld rfl Try.isAgg2 (by repeat (first | exact List.Mem.head _ | apply List.Mem.tail | apply List.mem_append_right)) rfl) ?_
                refine XO.guard_t rfl rfl ?_
                refine XO.val rfl rfl (OV.lss rfl rfl) ?_
                refine XO.val rfl rfl (OV.pick_f (v := .bool _) rfl rfl) ?_
                refine XO.val rfl rfl (OV.mv (v := .bool _) rfl) ?_
                refine XO.split (t := 94) rfl (fun hh7 => ?_) (fun hh7 => ?_)
                · replace hh7 := of_decide_eq_true hh7
                  have hX : D.scan j node = o := by rw [hI.2.1, scan_stop _ (fun g => absurd g.2.2.2.2.1 (Int.not_le.2 hh7)), List.append_nil]
                  iterate 5 refine XO.guard_f rfl rfl rfl rfl ?_
                  refine XO.val rfl rfl (OV.pick_t (v := .bool _) rfl rfl) ?_
                  refine XO.nil ?_
                  refine XK.cond_t rfl ?_
                  refine XK.exitTo rfl ?_
                  refine XK.seq ?_
                  refine XK.region ?_
                  refine XO.val rfl rfl (OV.fa rfl Red2_fa_164_0) ?_
                  refine XO.val rfl rfl (OV.ld rfl Try.isAgg2 (by repeat (first | exact List.Mem.head _ | apply List.Mem.tail | apply List.mem_append_right)) rfl) ?_
                  refine XO.val rfl rfl (OV.mv (v := .slice _ _ _) rfl) ?_
                  refine XO.val rfl rfl (OV.asg (v := .int _ _) rfl) ?_
                  refine XO.val rfl rfl (OV.asg (v := .slice _ _ _) rfl) ?_
                  refine XO.val rfl rfl (OV.asg (v := .int _ _) rfl) ?_
                  refine XO.nil ?_
                  refine XK.retTo (Fin.ret (.cons (.tmp (v := .int _ _) rfl) (.cons (.tmp (v := .slice _ _ _) rfl) (.cons (.tmp (v := .int _ _) rfl) .nil))) .nil (by first | (simp; done) | (intro x hx; simp only [List.mem_cons, List.not_mem_nil, or_false] at hx; subst hx; right; assumption)) ?_)
                  first | exact ⟨fun h => absurd h hh1, fun _ => ⟨rfl, rfl⟩⟩ | exact ⟨fun _ => ⟨⟨none, cap, sp⟩, by rw [hX]; simp [slV, ho, hcp, tupV, Dev.hd, Dev.sec], by rw [hX]; rfl, by rw [hX]; exact hI.2.2.1⟩, fun hn => absurd hh1 hn⟩ | exact ⟨fun _ => ⟨⟨some rr, cap, sp⟩, by rw [hX]; rfl, by rw [hX]; rfl, by rw [hX]; exact hI.2.2.1⟩, fun hn => absurd hh1 hn⟩
                · replace hh7 := of_decide_eq_false hh7
                  have q5 : la.epoch ≤ (D.rec2 j node ((D.hd j node).1 + (o.length : Int))).1.epoch := Int.not_lt.1 hh7
                  refine XO.guard_t rfl rfl ?_
                  refine XO.val rfl rfl (OV.fa rfl Red2_fa_52_3) ?_
                  refine XO.guard_t rfl rfl ?_
                  refine XO.val rfl rfl (OV.ld rfl Try.isAgg3 (by repeat (first | exact List.Mem.head _ | apply List.Mem.tail | apply List.mem_append_right)) rfl) ?_
                  refine XO.guard_t rfl rfl ?_
                  refine XO.val rfl rfl (OV.fa rfl Red2_fa_23_1) ?_
                  refine XO.guard_t rfl rfl ?_
                  refine XO.val rfl rfl (OV.ld rfl Try.isAgg3 (by repeat (first | exact List.Mem.head _ | apply List.Mem.tail | apply List.mem_append_right)) rfl) ?_
                  refine XO.guard_t rfl rfl ?_
                  refine XO.val rfl rfl (OV.geq rfl rfl) ?_
                  refine XO.val rfl rfl (OV.pick_f (v := .bool _) rfl rfl) ?_
                  refine XO.nil ?_
                  refine XK.split (t := 100) rfl (fun hh8 => ?_) (fun hh8 => ?_)
                  · replace hh8 := of_decide_eq_true hh8
                    have hX : D.scan j node = o := by rw [hI.2.1, scan_stop _ (fun g => absurd g.2.2.2.2.2 (Int.not_lt.2 hh8)), List.append_nil]
                    refine XK.cond_t rfl ?_
                    refine XK.exitTo rfl ?_
                    refine XK.seq ?_
                    refine XK.region ?_
                    refine XO.val rfl rfl (OV.fa rfl Red2_fa_164_0) ?_
                    refine XO.val rfl rfl (OV.ld rfl Try.isAgg2 (by repeat (first | exact List.Mem.head _ | apply List.Mem.tail | apply List.mem_append_right)) rfl) ?_
                    refine XO.val rfl rfl (OV.mv (v := .slice _ _ _) rfl) ?_
                    refine XO.val rfl rfl (OV.asg (v := .int _ _) rfl) ?_
                    refine XO.val rfl rfl (OV.asg (v := .slice _ _ _) rfl) ?_
                    refine XO.val rfl rfl (OV.asg (v := .int _ _) rfl) ?_
                    refine XO.nil ?_
                    refine XK.retTo (Fin.ret (.cons (.tmp (v := .int _ _) rfl) (.cons (.tmp (v := .slice _ _ _) rfl) (.cons (.tmp (v := .int _ _) rfl) .nil))) .nil (by first | (simp; done) | (intro x hx; simp only [List.mem_cons, List.not_mem_nil, or_false] at hx; subst hx; right; assumption)) ?_)
                    first | exact ⟨fun h => absurd h hh1, fun _ => ⟨rfl, rfl⟩⟩ | exact ⟨fun _ => ⟨⟨none, cap, sp⟩, by rw [hX]; simp [slV, ho, hcp, tupV, Dev.hd, Dev.sec], by rw [hX]; rfl, by rw [hX]; exact hI.2.2.1⟩, fun hn => absurd hh1 hn⟩ | exact ⟨fun _ => ⟨⟨some rr, cap, sp⟩, by rw [hX]; rfl, by rw [hX]; rfl, by rw [hX]; exact hI.2.2.1⟩, fun hn => absurd hh1 hn⟩
                  · replace hh8 := of_decide_eq_false hh8
                    have q6 : (D.rec2 j node ((D.hd j node).1 + (o.length : Int))).1.page < j.pages := Int.not_le.1 hh8
                    have hst := hI.2.1.trans (congrArg (o ++ ·) (scan_step (by omega) ⟨by omega, q2, q3, q4, q5, q6⟩))
                    refine XK.cond_f rfl ?_
                    refine XK.skip ?_
                    refine XK.seq ?_
                    refine XK.region ?_
                    refine XO.val rfl rfl (OV.mv (v := .slice _ _ _) rfl) ?_
                    refine XO.val rfl rfl (OV.ldA rfl Try.isAgg52 Try.sizeOf52 (by repeat (first | exact List.Mem.head _ | apply List.Mem.tail | apply List.mem_append_right)) (grab_all (by (first | assumption | (simp only [List.length_append, bys_length, b4_len, zrs_len, headB_len, putHead_len, List.length_replicate, List.length_cons, List.length_nil, List.length_set, List.length_take, List.length_drop, recL_len]; done) | (simp only [List.length_append, bys_length, b4_len, zrs_len, headB_len, putHead_len, List.length_replicate, List.length_cons, List.length_nil, List.length_set, List.length_take, List.length_drop, recL_len]; omega) | rfl | (simp [*, bys_length]; done) | (simp [*, bys_length]; omega)))) (by (first | assumption | (simp only [List.length_append, bys_length, b4_len, zrs_len, headB_len, putHead_len, List.length_replicate, List.length_cons, List.length_nil, List.length_set, List.length_take, List.length_drop, recL_len]; done) | (simp only [List.length_append, bys_length, b4_len, zrs_len, headB_len, putHead_len, List.length_replicate, List.length_cons, List.length_nil, List.length_set, List.length_take, List.length_drop, recL_len]; omega) | rfl | (simp [*, bys_length]; done) | (simp [*, bys_length]; omega)))) ?_
                    refine XO.bsl (qs := [(0, .agg _)]) rfl (.cons (v := .agg _) rfl .nil) rfl Try.runUnderlying43 Try.sizeOf52 Red2_zv_52 rfl (by (first | assumption | (simp only [List.length_append, bys_length, b4_len, zrs_len, headB_len, putHead_len, List.length_replicate, List.length_cons, List.length_nil, List.length_set, List.length_take, List.length_drop, recL_len]; done) | (simp only [List.length_append, bys_length, b4_len, zrs_len, headB_len, putHead_len, List.length_replicate, List.length_cons, List.length_nil, List.length_set, List.length_take, List.length_drop, recL_len]; omega) | rfl | (simp [*, bys_length]; done) | (simp [*, bys_length]; omega))) (by decide) (fill1 (by (first | assumption | (simp only [List.length_append, bys_length, b4_len, zrs_len, headB_len, putHead_len, List.length_replicate, List.length_cons, List.length_nil, List.length_set, List.length_take, List.length_drop, recL_len]; done) | (simp only [List.length_append, bys_length, b4_len, zrs_len, headB_len, putHead_len, List.length_replicate, List.length_cons, List.length_nil, List.length_set, List.length_take, List.length_drop, recL_len]; omega) | rfl | (simp [*, bys_length]; done) | (simp [*, bys_length]; omega))) (by (first | assumption | (simp only [List.length_append, bys_length, b4_len, zrs_len, headB_len, putHead_len, List.length_replicate, List.length_cons, List.length_nil, List.length_set, List.length_take, List.length_drop, recL_len]; done) | (simp only [List.length_append, bys_length, b4_len, zrs_len, headB_len, putHead_len, List.length_replicate, List.length_cons, List.length_nil, List.length_set, List.length_take, List.length_drop, recL_len]; omega) | rfl | (simp [*, bys_length]; done) | (simp [*, bys_length]; omega)))) (fun r103 hr103 => ?_)
                    refine XO.apN (bytes := 136) rfl rfl rfl Try.runUnderlying43 Try.runUnderlying43 Try.sizeOf52 Try.typeInfo52 rfl Red2_zv_52 rfl (by (first | assumption | (simp only [List.length_append, bys_length, b4_len, zrs_len, headB_len, putHead_len, List.length_replicate, List.length_cons, List.length_nil, List.length_set, List.length_take, List.length_drop, recL_len]; done) | (simp only [List.length_append, bys_length, b4_len, zrs_len, headB_len, putHead_len, List.length_replicate, List.length_cons, List.length_nil, List.length_set, List.length_take, List.length_drop, recL_len]; omega) | rfl | (simp [*, bys_length]; done) | (simp [*, bys_length]; omega))) (by repeat (first | exact List.Mem.head _ | apply List.Mem.tail | apply List.mem_append_right)) (grab_all (by (first | assumption | (simp only [List.length_append, bys_length, b4_len, zrs_len, headB_len, putHead_len, List.length_replicate, List.length_cons, List.length_nil, List.length_set, List.length_take, List.length_drop, recL_len]; done) | (simp only [List.length_append, bys_length, b4_len, zrs_len, headB_len, putHead_len, List.length_replicate, List.length_cons, List.length_nil, List.length_set, List.length_take, List.length_drop, recL_len]; omega) | rfl | (simp [*, bys_length]; done) | (simp [*, bys_length]; omega)))) (by (first | assumption | (simp only [List.length_append, bys_length, b4_len, zrs_len, headB_len, putHead_len, List.length_replicate, List.length_cons, List.length_nil, List.length_set, List.length_take, List.length_drop, recL_len]; done) | (simp only [List.length_append, bys_length, b4_len, zrs_len, headB_len, putHead_len, List.length_replicate, List.length_cons, List.length_nil, List.length_set, List.length_take, List.length_drop, recL_len]; omega) | rfl | (simp [*, bys_length]; done) | (simp [*, bys_length]; omega))) (by (repeat (first | with_reducible (apply one_app) | with_reducible exact bys_one | with_reducible exact recL_one _ | with_reducible exact one_rep rfl | exact ones_of rfl | exact bys_one))) (by omega) (by omega) (fun ra ca sa hown hra => ?_)
                    apply XO.blk (r := ra)
                    · (repeat (first | exact Put.hd | apply Put.tl | apply Put.app))
                    · exact (show _ = recsL (o ++ [(D.rec2 j node ((D.hd j node).1 + (o.length : Int))).1]) ++ sa from by rw [ho, List.nil_append, recsL_single]; rfl)
                    refine XO.val rfl rfl (OV.asg (v := .slice _ _ _) rfl) ?_
                    refine XO.nil ?_
                    refine XK.region ?_
                    refine XO.val rfl rfl (OV.ldA rfl Try.isAgg52 Try.sizeOf52 (by repeat (first | exact List.Mem.head _ | apply List.Mem.tail | apply List.mem_append_right)) (grab_all (by (first | assumption | (simp only [List.length_append, bys_length, b4_len, zrs_len, headB_len, putHead_len, List.length_replicate, List.length_cons, List.length_nil, List.length_set, List.length_take, List.length_drop, recL_len]; done) | (simp only [List.length_append, bys_length, b4_len, zrs_len, headB_len, putHead_len, List.length_replicate, List.length_cons, List.length_nil, List.length_set, List.length_take, List.length_drop, recL_len]; omega) | rfl | (simp [*, bys_length]; done) | (simp [*, bys_length]; omega)))) (by (first | assumption | (simp only [List.length_append, bys_length, b4_len, zrs_len, headB_len, putHead_len, List.length_replicate, List.length_cons, List.length_nil, List.length_set, List.length_take, List.length_drop, recL_len]; done) | (simp only [List.length_append, bys_length, b4_len, zrs_len, headB_len, putHead_len, List.length_replicate, List.length_cons, List.length_nil, List.length_set, List.length_take, List.length_drop, recL_len]; omega) | rfl | (simp [*, bys_length]; done) | (simp [*, bys_length]; omega)))) ?_
                    refine XO.stA rfl rfl (by (repeat (first | with_reducible (apply one_app) | with_reducible exact bys_one | with_reducible exact recL_one _ | with_reducible exact one_rep rfl | exact ones_of rfl | exact bys_one))) Try.sizeOf52 (by (first | assumption | (simp only [List.length_append, bys_length, b4_len, zrs_len, headB_len, putHead_len, List.length_replicate, List.length_cons, List.length_nil, List.length_set, List.length_take, List.length_drop, recL_len]; done) | (simp only [List.length_append, bys_length, b4_len, zrs_len, headB_len, putHead_len, List.length_replicate, List.length_cons, List.length_nil, List.length_set, List.length_take, List.length_drop, recL_len]; omega) | rfl | (simp [*, bys_length]; done) | (simp [*, bys_length]; omega))) (by repeat (first | exact Put.hd | apply Put.tl | apply Put.app)) (by first | exact splice_all (by (first | assumption | (simp only [List.length_append, bys_length, b4_len, zrs_len, headB_len, putHead_len, List.length_replicate, List.length_cons, List.length_nil, List.length_set, List.length_take, List.length_drop, recL_len]; done) | (simp only [List.length_append, bys_length, b4_len, zrs_len, headB_len, putHead_len, List.length_replicate, List.length_cons, List.length_nil, List.length_set, List.length_take, List.length_drop, recL_len]; omega) | rfl | (simp [*, bys_length]; done) | (simp [*, bys_length]; omega))) | rfl) (by (first | (simp only [List.length_append, bys_length, b4_len, zrs_len, headB_len, putHead_len, List.length_replicate, List.length_cons, List.length_nil, List.length_set, List.length_take, List.length_drop, recL_len]; omega) | omega | exact Nat.le_of_ble_eq_true rfl | (simp; done) | (simp; omega))) (by (first | exact .inr ‹_› | (left; ((repeat (first | exact List.Mem.head _ | apply List.Mem.tail)))))) ?_
                    refine XO.nil ?_
                    refine XK.inblk ?_
                    refine XK.region ?_
                    refine XO.val rfl rfl (OV.mv (v := .int _ _) rfl) ?_
                    refine XO.val rfl rfl (OV.add rfl rfl (wrap_in (by omega))) ?_
                    refine XO.val rfl rfl (OV.asg (v := .int _ _) rfl) ?_
                    refine XO.nil ?_
                    refine XK.rnd ⟨(o ++ [(D.rec2 j node ((D.hd j node).1 + (o.length : Int))).1], (D.rec2 j node ((D.hd j node).1 + (o.length : Int))).1, ⟨some ra, ca, sa⟩), ⟨⟨rfl, rfl, rfl, rfl, rfl, rfl, rfl, rfl, trivial⟩, ⟨(show Value.slice (some ⟨ra, 0, none⟩) 1 ca = slV ⟨some ra, ca, sa⟩ (o ++ [(D.rec2 j node ((D.hd j node).1 + (o.length : Int))).1]).length from by rw [ho]; rfl), congrArg (Value.int .i64) (by rw [List.length_append, List.length_singleton]; omega), trivial⟩, rfl, (.cons (by repeat (first | exact Del.hd | apply Del.tl | apply Del.app)) (by repeat (first | exact List.Mem.head _ | apply List.Mem.tail | apply List.mem_append_right)) (.cons (by repeat (first | exact Del.hd | apply Del.tl | apply Del.app)) (by repeat (first | exact List.Mem.head _ | apply List.Mem.tail | apply List.mem_append_right)) (.cons (by repeat (first | exact Del.hd | apply Del.tl | apply Del.app)) (by repeat (first | exact List.Mem.head _ | apply List.Mem.tail | apply List.mem_append_right)) (.cons (by repeat (first | exact Del.hd | apply Del.tl | apply Del.app)) (by repeat (first | exact List.Mem.head _ | apply List.Mem.tail | apply List.mem_append_right)) (.cons (by repeat (first | exact Del.hd | apply Del.tl | apply Del.app)) (by repeat (first | exact List.Mem.head _ | apply List.Mem.tail | apply List.mem_append_right)) (.cons (by repeat (first | exact Del.hd | apply Del.tl | apply Del.app)) (by repeat (first | exact List.Mem.head _ | apply List.Mem.tail | apply List.mem_append_right)) (.cons (by repeat (first | exact Del.hd | apply Del.tl | apply Del.app)) (by repeat (first | exact List.Mem.head _ | apply List.Mem.tail | apply List.mem_append_right)) (.cons (by repeat (first | exact Del.hd | apply Del.tl | apply Del.app)) (by repeat (first | exact List.Mem.head _ | apply List.Mem.tail | apply List.mem_append_right)) .nil)))))))), ⟨(by show (o ++ [_]).length ≤ _; rw [List.length_append, List.length_singleton]; omega), scan_next hst, (by refine own_next ?_; rw [show o.length + 1 = 1 from by rw [ho]; rfl, show recsL o = [] from by rw [ho]; rfl]; exact hown), (fun q hq => by cases hq; exact hra), body_next hI.2.2.2.2.1 hbl, hbl⟩⟩, (by show j.log.toNat - (o ++ [_]).length < j.log.toNat - o.length; rw [List.length_append, List.length_singleton]; omega)⟩
        · replace hh3 := of_decide_eq_false hh3
          have hX : D.scan j node = o := by rw [hI.2.1, scan_stop _ (fun g => hh3 g.1), List.append_nil]
          refine XK.cond_f rfl ?_
          refine XK.exitTo rfl ?_
          refine XK.seq ?_
          refine XK.region ?_
          refine XO.val rfl rfl (OV.fa rfl Red2_fa_164_0) ?_
          refine XO.val rfl rfl (OV.ld rfl Try.isAgg2 (by repeat (first | exact List.Mem.head _ | apply List.Mem.tail | apply List.mem_append_right)) rfl) ?_
          refine XO.val rfl rfl (OV.mv (v := .slice _ _ _) rfl) ?_
          refine XO.val rfl rfl (OV.asg (v := .int _ _) rfl) ?_
          refine XO.val rfl rfl (OV.asg (v := .slice _ _ _) rfl) ?_
          refine XO.val rfl rfl (OV.asg (v := .int _ _) rfl) ?_
          refine XO.nil ?_
          refine XK.retTo (Fin.ret (.cons (.tmp (v := .int _ _) rfl) (.cons (.tmp (v := .slice _ _ _) rfl) (.cons (.tmp (v := .int _ _) rfl) .nil))) .nil (by first | (simp; done) | (intro x hx; simp only [List.mem_cons, List.not_mem_nil, or_false] at hx; subst hx; right; assumption)) ?_)
          first | exact ⟨fun h => absurd h hh1, fun _ => ⟨rfl, rfl⟩⟩ | exact ⟨fun _ => ⟨⟨none, cap, sp⟩, by rw [hX]; simp [slV, ho, hcp, tupV, Dev.hd, Dev.sec], by rw [hX]; rfl, by rw [hX]; exact hI.2.2.1⟩, fun hn => absurd hh1 hn⟩ | exact ⟨fun _ => ⟨⟨some rr, cap, sp⟩, by rw [hX]; rfl, by rw [hX]; rfl, by rw [hX]; exact hI.2.2.1⟩, fun hn => absurd hh1 hn⟩
      · replace hh2 := of_decide_eq_false hh2
        have hX : D.scan j node = o := by
          rw [hI.2.1, show j.log.toNat - o.length = 0 from by omega]; exact List.append_nil _
        iterate 2 refine XO.guard_f rfl rfl rfl rfl ?_
        refine XO.val rfl rfl (OV.pick_f (v := .bool _) rfl rfl) ?_
        refine XO.nil ?_
        refine XK.cond_f rfl ?_
        refine XK.exitTo rfl ?_
        refine XK.seq ?_
        refine XK.region ?_
        refine XO.val rfl rfl (OV.fa rfl Red2_fa_164_0) ?_
        refine XO.val rfl rfl (OV.ld rfl Try.isAgg2 (by repeat (first | exact List.Mem.head _ | apply List.Mem.tail | apply List.mem_append_right)) rfl) ?_
        refine XO.val rfl rfl (OV.mv (v := .slice _ _ _) rfl) ?_
        refine XO.val rfl rfl (OV.asg (v := .int _ _) rfl) ?_
        refine XO.val rfl rfl (OV.asg (v := .slice _ _ _) rfl) ?_
        refine XO.val rfl rfl (OV.asg (v := .int _ _) rfl) ?_
        refine XO.nil ?_
        refine XK.retTo (Fin.ret (.cons (.tmp (v := .int _ _) rfl) (.cons (.tmp (v := .slice _ _ _) rfl) (.cons (.tmp (v := .int _ _) rfl) .nil))) .nil (by first | (simp; done) | (intro x hx; simp only [List.mem_cons, List.not_mem_nil, or_false] at hx; subst hx; right; assumption)) ?_)
        first | exact ⟨fun h => absurd h hh1, fun _ => ⟨rfl, rfl⟩⟩ | exact ⟨fun _ => ⟨⟨none, cap, sp⟩, by rw [hX]; simp [slV, ho, hcp, tupV, Dev.hd, Dev.sec], by rw [hX]; rfl, by rw [hX]; exact hI.2.2.1⟩, fun hn => absurd hh1 hn⟩ | exact ⟨fun _ => ⟨⟨some rr, cap, sp⟩, by rw [hX]; rfl, by rw [hX]; rfl, by rw [hX]; exact hI.2.2.1⟩, fun hn => absurd hh1 hn⟩
    · have _case := trivial
      have hrr : B.heap.size ≤ rr := hI.2.2.2.1 rr rfl
      have hlr := recsL_len hI.2.2.2.2.1
      refine XK.seq ?_
      refine XK.seq ?_
      refine XK.region ?_
      refine XO.val rfl rfl (OV.mv (v := .int _ _) rfl) ?_
      refine XO.val rfl rfl (OV.fa rfl Red2_fa_164_0) ?_
      refine XO.val rfl rfl (OV.ld rfl Try.isAgg2 (by repeat (first | exact List.Mem.head _ | apply List.Mem.tail | apply List.mem_append_right)) rfl) ?_
      refine XO.val rfl rfl (OV.fa rfl Red2_fa_23_3) ?_
      refine XO.val rfl rfl (OV.ld rfl Try.isAgg3 (by repeat (first | exact List.Mem.head _ | apply List.Mem.tail | apply List.mem_append_right)) rfl) ?_
      refine XO.val rfl rfl (OV.add rfl rfl (wrap_in (by omega))) ?_
      refine XO.val rfl rfl (OV.lss rfl rfl) ?_
      refine XO.val rfl rfl (OV.mv (v := .bool _) rfl) ?_
      refine XO.split (t := 58) rfl (fun hh9 => ?_) (fun hh9 => ?_)
      · replace hh9 := of_decide_eq_true hh9
        refine XO.guard_t rfl rfl ?_
        refine XO.val rfl rfl (OV.mv (v := .int _ _) rfl) ?_
        refine XO.guard_t rfl rfl ?_
        refine XO.val rfl rfl (OV.lss rfl rfl) ?_
        refine XO.val rfl rfl (OV.pick_t (v := .bool _) rfl rfl) ?_
        refine XO.nil ?_
        refine XK.split (t := 61) rfl (fun hh10 => ?_) (fun hh10 => ?_)
        · replace hh10 := of_decide_eq_true hh10
          have hsl := slot_bd (k := ((D.hd j node).1 + (o.length : Int))) h h0 h1
          have hq1 := hD.sec_ok (i := j.slot node ((D.hd j node).1 + (o.length : Int))) hsl.1 (by omega)
          have hq2 := hD.sec_ok (i := j.slot node ((D.hd j node).1 + (o.length : Int)) + 1) (by omega) (by omega)
          have hbl := getR_len (D.sec (j.slot node ((D.hd j node).1 + (o.length : Int)))) (D.sec (j.slot node ((D.hd j node).1 + (o.length : Int)) + 1)) hq1.1 hq2.1
          refine XK.cond_t rfl ?_
          refine XK.skip ?_
          refine XK.seq ?_
          refine XK.block ?_
          refine XK.seq ?_
          refine XK.region ?_
          refine XO.val rfl rfl (OV.mv (v := .func _ _ _) rfl) ?_
          refine XO.val rfl rfl (OV.mv (v := .int _ _) rfl) ?_
          refine XO.callV rfl rfl (.cons (v := .int _ _) rfl .nil) Try.call168 (scan1_ok r4 r5 r3 r s D hD j h node h0 h1 hz ((D.hd j node).1 + (o.length : Int)) (by omega) (by omega)) (by repeat (first | exact Sel.nil | refine Sel.cons (by repeat (first | exact Del.hd | apply Del.tl | apply Del.app)) (by repeat (first | exact List.Mem.head _ | apply List.Mem.tail | apply List.mem_append_right)) ?_)) ?_
          refine XO.val rfl rfl (OV.ext rfl rfl) ?_
          refine XO.val rfl rfl (OV.ext rfl rfl) ?_
          refine XO.callV (cap := []) rfl rfl (.cons (v := .agg _) rfl (.cons (v := .agg _) rfl .nil)) Try.call169 (get_ok (D.sec (j.slot node ((D.hd j node).1 + (o.length : Int)))) (D.sec (j.slot node ((D.hd j node).1 + (o.length : Int)) + 1)) hq1.1 hq2.1 hq1.2) (by repeat (first | exact Sel.nil | refine Sel.cons (by repeat (first | exact Del.hd | apply Del.tl | apply Del.app)) (by repeat (first | exact List.Mem.head _ | apply List.Mem.tail | apply List.mem_append_right)) ?_)) ?_
          refine XO.val rfl rfl (OV.mv (v := .tuple _) rfl) ?_
          refine XO.val rfl rfl (OV.ext rfl rfl) ?_
          refine XO.val rfl rfl (OV.ext rfl rfl) ?_
          refine XO.alloc rfl Red2_zv_52 rfl (fun r19 hr19 => ?_)
          refine XO.stA rfl rfl (by (repeat (first | with_reducible (apply one_app) | with_reducible exact bys_one | with_reducible exact recL_one _ | with_reducible exact one_rep rfl | exact ones_of rfl | exact bys_one))) Try.sizeOf52 (by (first | assumption | (simp only [List.length_append, bys_length, b4_len, zrs_len, headB_len, putHead_len, List.length_replicate, List.length_cons, List.length_nil, List.length_set, List.length_take, List.length_drop, recL_len]; done) | (simp only [List.length_append, bys_length, b4_len, zrs_len, headB_len, putHead_len, List.length_replicate, List.length_cons, List.length_nil, List.length_set, List.length_take, List.length_drop, recL_len]; omega) | rfl | (simp [*, bys_length]; done) | (simp [*, bys_length]; omega))) (by repeat (first | exact Put.hd | apply Put.tl | apply Put.app)) (by first | exact splice_all (by (first | assumption | (simp only [List.length_append, bys_length, b4_len, zrs_len, headB_len, putHead_len, List.length_replicate, List.length_cons, List.length_nil, List.length_set, List.length_take, List.length_drop, recL_len]; done) | (simp only [List.length_append, bys_length, b4_len, zrs_len, headB_len, putHead_len, List.length_replicate, List.length_cons, List.length_nil, List.length_set, List.length_take, List.length_drop, recL_len]; omega) | rfl | (simp [*, bys_length]; done) | (simp [*, bys_length]; omega))) | rfl) (by (first | (simp only [List.length_append, bys_length, b4_len, zrs_len, headB_len, putHead_len, List.length_replicate, List.length_cons, List.length_nil, List.length_set, List.length_take, List.length_drop, recL_len]; omega) | omega | exact Nat.le_of_ble_eq_true rfl | (simp; done) | (simp; omega))) (by (first | exact .inr ‹_› | (left; ((repeat (first | exact List.Mem.head _ | apply List.Mem.tail)))))) ?_
          refine XO.val rfl rfl (OV.asg (v := .int _ _) rfl) ?_
          refine XO.nil ?_
          refine XK.seq ?_
          refine XK.seq ?_
          refine XK.region ?_
          refine XO.val rfl rfl (OV.mv (v := .int _ _) rfl) ?_
          refine XO.val rfl rfl (OV.neq rfl rfl) ?_
          refine XO.val rfl rfl (OV.mv (v := .bool _) rfl) ?_
          refine XO.split (t := 75) rfl (fun hh11 => ?_) (fun hh11 => ?_)
          · replace hh11 := bnot_t hh11
            replace hh11 := of_decide_eq_false hh11
            have hX : D.scan j node = o := by rw [hI.2.1, scan_stop _ (fun g => hh11 g.2.1), List.append_nil]
            iterate 4 refine XO.guard_f rfl rfl rfl rfl ?_
            refine XO.val rfl rfl (OV.pick_t (v := .bool _) rfl rfl) ?_
            refine XO.val rfl rfl (OV.mv (v := .bool _) rfl) ?_
            iterate 4 refine XO.guard_f rfl rfl rfl rfl ?_
            refine XO.val rfl rfl (OV.pick_t (v := .bool _) rfl rfl) ?_
            refine XO.val rfl rfl (OV.mv (v := .bool _) rfl) ?_
            iterate 5 refine XO.guard_f rfl rfl rfl rfl ?_
            refine XO.val rfl rfl (OV.pick_t (v := .bool _) rfl rfl) ?_
            refine XO.val rfl rfl (OV.mv (v := .bool _) rfl) ?_
            iterate 5 refine XO.guard_f rfl rfl rfl rfl ?_
            refine XO.val rfl rfl (OV.pick_t (v := .bool _) rfl rfl) ?_
            refine XO.nil ?_
            refine XK.cond_t rfl ?_
            refine XK.exitTo rfl ?_
            refine XK.seq ?_
            refine XK.region ?_
            refine XO.val rfl rfl (OV.fa rfl Red2_fa_164_0) ?_
            refine XO.val rfl rfl (OV.ld rfl Try.isAgg2 (by repeat (first | exact List.Mem.head _ | apply List.Mem.tail | apply List.mem_append_right)) rfl) ?_
            refine XO.val rfl rfl (OV.mv (v := .slice _ _ _) rfl) ?_
            refine XO.val rfl rfl (OV.asg (v := .int _ _) rfl) ?_
            refine XO.val rfl rfl (OV.asg (v := .slice _ _ _) rfl) ?_
            refine XO.val rfl rfl (OV.asg (v := .int _ _) rfl) ?_
            refine XO.nil ?_
            refine XK.retTo (Fin.ret (.cons (.tmp (v := .int _ _) rfl) (.cons (.tmp (v := .slice _ _ _) rfl) (.cons (.tmp (v := .int _ _) rfl) .nil))) (.cons (x := (rr, _)) (by repeat (first | exact Del.hd | apply Del.tl | apply Del.app)) (by repeat (first | exact List.Mem.head _ | apply List.Mem.tail | apply List.mem_append_right)) .nil) (by first | (simp; done) | (intro x hx; simp only [List.mem_cons, List.not_mem_nil, or_false] at hx; subst hx; right; assumption)) ?_)
            first | exact ⟨fun h => absurd h hh1, fun _ => ⟨rfl, rfl⟩⟩ | exact ⟨fun _ => ⟨⟨none, cap, sp⟩, by rw [hX]; simp [slV, ho, hcp, tupV, Dev.hd, Dev.sec], by rw [hX]; rfl, by rw [hX]; exact hI.2.2.1⟩, fun hn => absurd hh1 hn⟩ | exact ⟨fun _ => ⟨⟨some rr, cap, sp⟩, by rw [hX]; rfl, by rw [hX]; rfl, by rw [hX]; exact hI.2.2.1⟩, fun hn => absurd hh1 hn⟩
          · replace hh11 := bnot_f hh11
            replace hh11 := of_decide_eq_true hh11
            have q2 : (D.rec2 j node ((D.hd j node).1 + (o.length : Int))).2 = 0 := hh11
            refine XO.guard_t rfl rfl ?_
            refine XO.val rfl rfl (OV.fa rfl Red2_fa_52_0) ?_
            refine XO.guard_t rfl rfl ?_
            refine XO.val rfl rfl (OV.ld rfl Try.isAgg3 (by repeat (first | exact List.Mem.head _ | apply List.Mem.tail | apply List.mem_append_right)) rfl) ?_
            refine XO.guard_t rfl rfl ?_
            refine XO.val rfl rfl (OV.ld rfl Try.isAgg3 (by repeat (first | exact List.Mem.head _ | apply List.Mem.tail | apply List.mem_append_right)) rfl) ?_
            refine XO.guard_t rfl rfl ?_
            refine XO.val rfl rfl (OV.neq rfl rfl) ?_
            refine XO.val rfl rfl (OV.pick_f (v := .bool _) rfl rfl) ?_
            refine XO.val rfl rfl (OV.mv (v := .bool _) rfl) ?_
            refine XO.split (t := 81) rfl (fun hh12 => ?_) (fun hh12 => ?_)
            · replace hh12 := bnot_t hh12
              replace hh12 := of_decide_eq_false hh12
              have hX : D.scan j node = o := by rw [hI.2.1, scan_stop _ (fun g => hh12 g.2.2.1), List.append_nil]
              iterate 4 refine XO.guard_f rfl rfl rfl rfl ?_
              refine XO.val rfl rfl (OV.pick_t (v := .bool _) rfl rfl) ?_
              refine XO.val rfl rfl (OV.mv (v := .bool _) rfl) ?_
              iterate 5 refine XO.guard_f rfl rfl rfl rfl ?_
              refine XO.val rfl rfl (OV.pick_t (v := .bool _) rfl rfl) ?_
              refine XO.val rfl rfl (OV.mv (v := .bool _) rfl) ?_
              iterate 5 refine XO.guard_f rfl rfl rfl rfl ?_
              refine XO.val rfl rfl (OV.pick_t (v := .bool _) rfl rfl) ?_
              refine XO.nil ?_
              refine XK.cond_t rfl ?_
              refine XK.exitTo rfl ?_
              refine XK.seq ?_
              refine XK.region ?_
              refine XO.val rfl rfl (OV.fa rfl Red2_fa_164_0) ?_
              refine XO.val rfl rfl (OV.ld rfl Try.isAgg2 (by repeat (first | exact List.Mem.head _ | apply List.Mem.tail | apply List.mem_append_right)) rfl) ?_
              refine XO.val rfl rfl (OV.mv (v := .slice _ _ _) rfl) ?_
              refine XO.val rfl rfl (OV.asg (v := .int _ _) rfl) ?_
              refine XO.val rfl rfl (OV.asg (v := .slice _ _ _) rfl) ?_
              refine XO.val rfl rfl (OV.asg (v := .int _ _) rfl) ?_
              refine XO.nil ?_
              refine XK.retTo (Fin.ret (.cons (.tmp (v := .int _ _) rfl) (.cons (.tmp (v := .slice _ _ _) rfl) (.cons (.tmp (v := .int _ _) rfl) .nil))) (.cons (x := (rr, _)) (by repeat (first | exact Del.hd | apply Del.tl | apply Del.app)) (by repeat (first | exact List.Mem.head _ | apply List.Mem.tail | apply List.mem_append_right)) .nil) (by first | (simp; done) | (intro x hx; simp only [List.mem_cons, List.not_mem_nil, or_false] at hx; subst hx; right; assumption)) ?_)
              first | exact ⟨fun h => absurd h hh1, fun _ => ⟨rfl, rfl⟩⟩ | exact ⟨fun _ => ⟨⟨none, cap, sp⟩, by rw [hX]; simp [slV, ho, hcp, tupV, Dev.hd, Dev.sec], by rw [hX]; rfl, by rw [hX]; exact hI.2.2.1⟩, fun hn => absurd hh1 hn⟩ | exact ⟨fun _ => ⟨⟨some rr, cap, sp⟩, by rw [hX]; rfl, by rw [hX]; rfl, by rw [hX]; exact hI.2.2.1⟩, fun hn => absurd hh1 hn⟩
            · replace hh12 := bnot_f hh12
              replace hh12 := of_decide_eq_true hh12
              have q3 : (D.rec2 j node ((D.hd j node).1 + (o.length : Int))).1.node = node := hh12
              refine XO.guard_t rfl rfl ?_
              refine XO.val rfl rfl (OV.fa rfl Red2_fa_52_2) ?_
              refine XO.guard_t rfl rfl ?_
              refine XO.val rfl rfl (OV.ld rfl Try.isAgg2 (by repeat (first | exact List.Mem.head _ | apply List.Mem.tail | apply List.mem_append_right)) rfl) ?_
              refine XO.guard_t rfl rfl ?_
              refine XO.val rfl rfl (OV.mv (v := .int _ _) rfl) ?_
              refine XO.guard_t rfl rfl ?_
              refine XO.val rfl rfl (OV.neq rfl rfl) ?_
              refine XO.val rfl rfl (OV.pick_f (v := .bool _) rfl rfl) ?_
              refine XO.val rfl rfl (OV.mv (v := .bool _) rfl) ?_
              refine XO.split (t := 87) rfl (fun hh13 => ?_) (fun hh13 => ?_)
              · replace hh13 := bnot_t hh13
                replace hh13 := of_decide_eq_false hh13
                have hX : D.scan j node = o := by rw [hI.2.1, scan_stop _ (fun g => hh13 g.2.2.2.1), List.append_nil]
                iterate 5 refine XO.guard_f rfl rfl rfl rfl ?_
                refine XO.val rfl rfl (OV.pick_t (v := .bool _) rfl rfl) ?_
                refine XO.val rfl rfl (OV.mv (v := .bool _) rfl) ?_
                iterate 5 refine XO.guard_f rfl rfl rfl rfl ?_
                refine XO.val rfl rfl (OV.pick_t (v := .bool _) rfl rfl) ?_
                refine XO.nil ?_
                refine XK.cond_t rfl ?_
                refine XK.exitTo rfl ?_
                refine XK.seq ?_
                refine XK.region ?_
                refine XO.val rfl rfl (OV.fa rfl Red2_fa_164_0) ?_
                refine XO.val rfl rfl (OV.ld rfl Try.isAgg2 (by repeat (first | exact List.Mem.head _ | apply List.Mem.tail | apply List.mem_append_right)) rfl) ?_
                refine XO.val rfl rfl (OV.mv (v := .slice _ _ _) rfl) ?_
                refine XO.val rfl rfl (OV.asg (v := .int _ _) rfl) ?_
                refine XO.val rfl rfl (OV.asg (v := .slice _ _ _) rfl) ?_
                refine XO.val rfl rfl (OV.asg (v := .int _ _) rfl) ?_
                refine XO.nil ?_
                refine XK.retTo (Fin.ret (.cons (.tmp (v := .int _ _) rfl) (.cons (.tmp (v := .slice _ _ _) rfl) (.cons (.tmp (v := .int _ _) rfl) .nil))) (.cons (x := (rr, _)) (by repeat (first | exact Del.hd | apply Del.tl | apply Del.app)) (by repeat (first | exact List.Mem.head _ | apply List.Mem.tail | apply List.mem_append_right)) .nil) (by first | (simp; done) | (intro x hx; simp only [List.mem_cons, List.not_mem_nil, or_false] at hx; subst hx; right; assumption)) ?_)
                first | exact ⟨fun h => absurd h hh1, fun _ => ⟨rfl, rfl⟩⟩ | exact ⟨fun _ => ⟨⟨none, cap, sp⟩, by rw [hX]; simp [slV, ho, hcp, tupV, Dev.hd, Dev.sec], by rw [hX]; rfl, by rw [hX]; exact hI.2.2.1⟩, fun hn => absurd hh1 hn⟩ | exact ⟨fun _ => ⟨⟨some rr, cap, sp⟩, by rw [hX]; rfl, by rw [hX]; rfl, by rw [hX]; exact hI.2.2.1⟩, fun hn => absurd hh1 hn⟩
              · replace hh13 := bnot_f hh13
                replace hh13 := of_decide_eq_true hh13
                have q4 : (D.rec2 j node ((D.hd j node).1 + (o.length : Int))).1.lsn = ((D.hd j node).1 + (o.length : Int)) := hh13
                refine XO.guard_t rfl rfl ?_
                refine XO.val rfl rfl (OV.fa rfl Red2_fa_52_1) ?_
                refine XO.guard_t rfl rfl ?_
                refine XO.val rfl rfl (OV.ld rfl Try.isAgg2 (by repeat (first | exact List.Mem.head _ | apply List.Mem.tail | apply List.mem_append_right)) rfl) ?_
                refine XO.guard_t rfl rfl ?_
                refine XO.val rfl rfl (OV.fa rfl Red2_fa_52_1) ?_
                refine XO.guard_t rfl rfl ?_
                refine XO.val rfl rfl (OV.ld rfl Try.isAgg2 (by repeat (first | exact List.Mem.head _ | apply List.Mem.tail | apply List.mem_append_right)) rfl) ?_
                refine XO.guard_t rfl rfl ?_
                refine XO.val rfl rfl (OV.lss rfl rfl) ?_
                refine XO.val rfl rfl (OV.pick_f (v := .bool _) rfl rfl) ?_
                refine XO.val rfl rfl (OV.mv (v := .bool _) rfl) ?_
                refine XO.split (t := 94) rfl (fun hh14 => ?_) (fun hh14 => ?_)
                · replace hh14 := of_decide_eq_true hh14
                  have hX : D.scan j node = o := by rw [hI.2.1, scan_stop _ (fun g => absurd g.2.2.2.2.1 (Int.not_le.2 hh14)), List.append_nil]
                  iterate 5 refine XO.guard_f rfl rfl rfl rfl ?_
                  refine XO.val rfl rfl (OV.pick_t (v := .bool _) rfl rfl) ?_
                  refine XO.nil ?_
                  refine XK.cond_t rfl ?_
                  refine XK.exitTo rfl ?_
                  refine XK.seq ?_
                  refine XK.region ?_
                  refine XO.val rfl rfl (OV.fa rfl Red2_fa_164_0) ?_
                  refine XO.val rfl rfl (OV.ld rfl Try.isAgg2 (by repeat (first | exact List.Mem.head _ | apply List.Mem.tail | apply List.mem_append_right)) rfl) ?_
                  refine XO.val rfl rfl (OV.mv (v := .slice _ _ _) rfl) ?_
                  refine XO.val rfl rfl (OV.asg (v := .int _ _) rfl) ?_
                  refine XO.val rfl rfl (OV.asg (v := .slice _ _ _) rfl) ?_
                  refine XO.val rfl rfl (OV.asg (v := .int _ _) rfl) ?_
                  refine XO.nil ?_
                  refine XK.retTo (Fin.ret (.cons (.tmp (v := .int _ _) rfl) (.cons (.tmp (v := .slice _ _ _) rfl) (.cons (.tmp (v := .int _ _) rfl) .nil))) (.cons (x := (rr, _)) (by repeat (first | exact Del.hd | apply Del.tl | apply Del.app)) (by repeat (first | exact List.Mem.head _ | apply List.Mem.tail | apply List.mem_append_right)) .nil) (by first | (simp; done) | (intro x hx; simp only [List.mem_cons, List.not_mem_nil, or_false] at hx; subst hx; right; assumption)) ?_)
                  first | exact ⟨fun h => absurd h hh1, fun _ => ⟨rfl, rfl⟩⟩ | exact ⟨fun _ => ⟨⟨none, cap, sp⟩, by rw [hX]; simp [slV, ho, hcp, tupV, Dev.hd, Dev.sec], by rw [hX]; rfl, by rw [hX]; exact hI.2.2.1⟩, fun hn => absurd hh1 hn⟩ | exact ⟨fun _ => ⟨⟨some rr, cap, sp⟩, by rw [hX]; rfl, by rw [hX]; rfl, by rw [hX]; exact hI.2.2.1⟩, fun hn => absurd hh1 hn⟩
                · replace hh14 := of_decide_eq_false hh14
                  have q5 : la.epoch ≤ (D.rec2 j node ((D.hd j node).1 + (o.length : Int))).1.epoch := Int.not_lt.1 hh14
                  refine XO.guard_t rfl rfl ?_
                  refine XO.val rfl rfl (OV.fa rfl Red2_fa_52_3) ?_
                  refine XO.guard_t rfl rfl ?_
                  refine XO.val rfl rfl (OV.ld rfl Try.isAgg3 (by repeat (first | exact List.Mem.head _ | apply List.Mem.tail | apply List.mem_append_right)) rfl) ?_
                  refine XO.guard_t rfl rfl ?_
                  refine XO.val rfl rfl (OV.fa rfl Red2_fa_23_1) ?_
                  refine XO.guard_t rfl rfl ?_
                  refine XO.val rfl rfl (OV.ld rfl Try.isAgg3 (by repeat (first | exact List.Mem.head _ | apply List.Mem.tail | apply List.mem_append_right)) rfl) ?_
                  refine XO.guard_t rfl rfl ?_
                  refine XO.val rfl rfl (OV.geq rfl rfl) ?_
                  refine XO.val rfl rfl (OV.pick_f (v := .bool _) rfl rfl) ?_
                  refine XO.nil ?_
                  refine XK.split (t := 100) rfl (fun hh15 => ?_) (fun hh15 => ?_)
                  · replace hh15 := of_decide_eq_true hh15
                    have hX : D.scan j node = o := by rw [hI.2.1, scan_stop _ (fun g => absurd g.2.2.2.2.2 (Int.not_lt.2 hh15)), List.append_nil]
                    refine XK.cond_t rfl ?_
                    refine XK.exitTo rfl ?_
                    refine XK.seq ?_
                    refine XK.region ?_
                    refine XO.val rfl rfl (OV.fa rfl Red2_fa_164_0) ?_
                    refine XO.val rfl rfl (OV.ld rfl Try.isAgg2 (by repeat (first | exact List.Mem.head _ | apply List.Mem.tail | apply List.mem_append_right)) rfl) ?_
                    refine XO.val rfl rfl (OV.mv (v := .slice _ _ _) rfl) ?_
                    refine XO.val rfl rfl (OV.asg (v := .int _ _) rfl) ?_
                    refine XO.val rfl rfl (OV.asg (v := .slice _ _ _) rfl) ?_
                    refine XO.val rfl rfl (OV.asg (v := .int _ _) rfl) ?_
                    refine XO.nil ?_
                    refine XK.retTo (Fin.ret (.cons (.tmp (v := .int _ _) rfl) (.cons (.tmp (v := .slice _ _ _) rfl) (.cons (.tmp (v := .int _ _) rfl) .nil))) (.cons (x := (rr, _)) (by repeat (first | exact Del.hd | apply Del.tl | apply Del.app)) (by repeat (first | exact List.Mem.head _ | apply List.Mem.tail | apply List.mem_append_right)) .nil) (by first | (simp; done) | (intro x hx; simp only [List.mem_cons, List.not_mem_nil, or_false] at hx; subst hx; right; assumption)) ?_)
                    first | exact ⟨fun h => absurd h hh1, fun _ => ⟨rfl, rfl⟩⟩ | exact ⟨fun _ => ⟨⟨none, cap, sp⟩, by rw [hX]; simp [slV, ho, hcp, tupV, Dev.hd, Dev.sec], by rw [hX]; rfl, by rw [hX]; exact hI.2.2.1⟩, fun hn => absurd hh1 hn⟩ | exact ⟨fun _ => ⟨⟨some rr, cap, sp⟩, by rw [hX]; rfl, by rw [hX]; rfl, by rw [hX]; exact hI.2.2.1⟩, fun hn => absurd hh1 hn⟩
                  · replace hh15 := of_decide_eq_false hh15
                    have q6 : (D.rec2 j node ((D.hd j node).1 + (o.length : Int))).1.page < j.pages := Int.not_le.1 hh15
                    have hst := hI.2.1.trans (congrArg (o ++ ·) (scan_step (by omega) ⟨by omega, q2, q3, q4, q5, q6⟩))
                    refine XK.cond_f rfl ?_
                    refine XK.skip ?_
                    refine XK.seq ?_
                    refine XK.region ?_
                    refine XO.val rfl rfl (OV.mv (v := .slice _ _ _) rfl) ?_
                    refine XO.val rfl rfl (OV.ldA rfl Try.isAgg52 Try.sizeOf52 (by repeat (first | exact List.Mem.head _ | apply List.Mem.tail | apply List.mem_append_right)) (grab_all (by (first | assumption | (simp only [List.length_append, bys_length, b4_len, zrs_len, headB_len, putHead_len, List.length_replicate, List.length_cons, List.length_nil, List.length_set, List.length_take, List.length_drop, recL_len]; done) | (simp only [List.length_append, bys_length, b4_len, zrs_len, headB_len, putHead_len, List.length_replicate, List.length_cons, List.length_nil, List.length_set, List.length_take, List.length_drop, recL_len]; omega) | rfl | (simp [*, bys_length]; done) | (simp [*, bys_length]; omega)))) (by (first | assumption | (simp only [List.length_append, bys_length, b4_len, zrs_len, headB_len, putHead_len, List.length_replicate, List.length_cons, List.length_nil, List.length_set, List.length_take, List.length_drop, recL_len]; done) | (simp only [List.length_append, bys_length, b4_len, zrs_len, headB_len, putHead_len, List.length_replicate, List.length_cons, List.length_nil, List.length_set, List.length_take, List.length_drop, recL_len]; omega) | rfl | (simp [*, bys_length]; done) | (simp [*, bys_length]; omega)))) ?_
                    refine XO.bsl (qs := [(0, .agg _)]) rfl (.cons (v := .agg _) rfl .nil) rfl Try.runUnderlying43 Try.sizeOf52 Red2_zv_52 rfl (by (first | assumption | (simp only [List.length_append, bys_length, b4_len, zrs_len, headB_len, putHead_len, List.length_replicate, List.length_cons, List.length_nil, List.length_set, List.length_take, List.length_drop, recL_len]; done) | (simp only [List.length_append, bys_length, b4_len, zrs_len, headB_len, putHead_len, List.length_replicate, List.length_cons, List.length_nil, List.length_set, List.length_take, List.length_drop, recL_len]; omega) | rfl | (simp [*, bys_length]; done) | (simp [*, bys_length]; omega))) (by decide) (fill1 (by (first | assumption | (simp only [List.length_append, bys_length, b4_len, zrs_len, headB_len, putHead_len, List.length_replicate, List.length_cons, List.length_nil, List.length_set, List.length_take, List.length_drop, recL_len]; done) | (simp only [List.length_append, bys_length, b4_len, zrs_len, headB_len, putHead_len, List.length_replicate, List.length_cons, List.length_nil, List.length_set, List.length_take, List.length_drop, recL_len]; omega) | rfl | (simp [*, bys_length]; done) | (simp [*, bys_length]; omega))) (by (first | assumption | (simp only [List.length_append, bys_length, b4_len, zrs_len, headB_len, putHead_len, List.length_replicate, List.length_cons, List.length_nil, List.length_set, List.length_take, List.length_drop, recL_len]; done) | (simp only [List.length_append, bys_length, b4_len, zrs_len, headB_len, putHead_len, List.length_replicate, List.length_cons, List.length_nil, List.length_set, List.length_take, List.length_drop, recL_len]; omega) | rfl | (simp [*, bys_length]; done) | (simp [*, bys_length]; omega)))) (fun r103 hr103 => ?_)
                    refine XO.apS (bytes := 136) rfl rfl rfl Try.runUnderlying43 Try.runUnderlying43 Try.sizeOf52 Try.typeInfo52 rfl Red2_zv_52 rfl (by (first | assumption | (simp only [List.length_append, bys_length, b4_len, zrs_len, headB_len, putHead_len, List.length_replicate, List.length_cons, List.length_nil, List.length_set, List.length_take, List.length_drop, recL_len]; done) | (simp only [List.length_append, bys_length, b4_len, zrs_len, headB_len, putHead_len, List.length_replicate, List.length_cons, List.length_nil, List.length_set, List.length_take, List.length_drop, recL_len]; omega) | rfl | (simp [*, bys_length]; done) | (simp [*, bys_length]; omega))) (by repeat (first | exact Tak.hd | apply Tak.tl | apply Tak.app)) hI.2.2.1 (by repeat (first | exact List.Mem.head _ | apply List.Mem.tail | apply List.mem_append_right)) (grab_all (by (first | assumption | (simp only [List.length_append, bys_length, b4_len, zrs_len, headB_len, putHead_len, List.length_replicate, List.length_cons, List.length_nil, List.length_set, List.length_take, List.length_drop, recL_len]; done) | (simp only [List.length_append, bys_length, b4_len, zrs_len, headB_len, putHead_len, List.length_replicate, List.length_cons, List.length_nil, List.length_set, List.length_take, List.length_drop, recL_len]; omega) | rfl | (simp [*, bys_length]; done) | (simp [*, bys_length]; omega)))) (by (first | assumption | (simp only [List.length_append, bys_length, b4_len, zrs_len, headB_len, putHead_len, List.length_replicate, List.length_cons, List.length_nil, List.length_set, List.length_take, List.length_drop, recL_len]; done) | (simp only [List.length_append, bys_length, b4_len, zrs_len, headB_len, putHead_len, List.length_replicate, List.length_cons, List.length_nil, List.length_set, List.length_take, List.length_drop, recL_len]; omega) | rfl | (simp [*, bys_length]; done) | (simp [*, bys_length]; omega))) (by (repeat (first | with_reducible (apply one_app) | with_reducible exact bys_one | with_reducible exact recL_one _ | with_reducible exact one_rep rfl | exact ones_of rfl | exact bys_one))) (by (first | exact .inr ‹_› | (left; ((repeat (first | exact List.Mem.head _ | apply List.Mem.tail)))))) (by omega) (fun ra ca sa hown hra hwa => ?_)
                    apply XO.blk (r := ra)
                    · (repeat (first | exact Put.hd | apply Put.tl | apply Put.app))
                    · exact (show _ = recsL (o ++ [(D.rec2 j node ((D.hd j node).1 + (o.length : Int))).1]) ++ sa from by rw [recsL_append, recsL_single]; rfl)
                    refine XO.val rfl rfl (OV.asg (v := .slice _ _ _) rfl) ?_
                    refine XO.nil ?_
                    refine XK.region ?_
                    refine XO.val rfl rfl (OV.ldA rfl Try.isAgg52 Try.sizeOf52 (by repeat (first | exact List.Mem.head _ | apply List.Mem.tail | apply List.mem_append_right)) (grab_all (by (first | assumption | (simp only [List.length_append, bys_length, b4_len, zrs_len, headB_len, putHead_len, List.length_replicate, List.length_cons, List.length_nil, List.length_set, List.length_take, List.length_drop, recL_len]; done) | (simp only [List.length_append, bys_length, b4_len, zrs_len, headB_len, putHead_len, List.length_replicate, List.length_cons, List.length_nil, List.length_set, List.length_take, List.length_drop, recL_len]; omega) | rfl | (simp [*, bys_length]; done) | (simp [*, bys_length]; omega)))) (by (first | assumption | (simp only [List.length_append, bys_length, b4_len, zrs_len, headB_len, putHead_len, List.length_replicate, List.length_cons, List.length_nil, List.length_set, List.length_take, List.length_drop, recL_len]; done) | (simp only [List.length_append, bys_length, b4_len, zrs_len, headB_len, putHead_len, List.length_replicate, List.length_cons, List.length_nil, List.length_set, List.length_take, List.length_drop, recL_len]; omega) | rfl | (simp [*, bys_length]; done) | (simp [*, bys_length]; omega)))) ?_
                    refine XO.stA rfl rfl (by (repeat (first | with_reducible (apply one_app) | with_reducible exact bys_one | with_reducible exact recL_one _ | with_reducible exact one_rep rfl | exact ones_of rfl | exact bys_one))) Try.sizeOf52 (by (first | assumption | (simp only [List.length_append, bys_length, b4_len, zrs_len, headB_len, putHead_len, List.length_replicate, List.length_cons, List.length_nil, List.length_set, List.length_take, List.length_drop, recL_len]; done) | (simp only [List.length_append, bys_length, b4_len, zrs_len, headB_len, putHead_len, List.length_replicate, List.length_cons, List.length_nil, List.length_set, List.length_take, List.length_drop, recL_len]; omega) | rfl | (simp [*, bys_length]; done) | (simp [*, bys_length]; omega))) (by repeat (first | exact Put.hd | apply Put.tl | apply Put.app)) (by first | exact splice_all (by (first | assumption | (simp only [List.length_append, bys_length, b4_len, zrs_len, headB_len, putHead_len, List.length_replicate, List.length_cons, List.length_nil, List.length_set, List.length_take, List.length_drop, recL_len]; done) | (simp only [List.length_append, bys_length, b4_len, zrs_len, headB_len, putHead_len, List.length_replicate, List.length_cons, List.length_nil, List.length_set, List.length_take, List.length_drop, recL_len]; omega) | rfl | (simp [*, bys_length]; done) | (simp [*, bys_length]; omega))) | rfl) (by (first | (simp only [List.length_append, bys_length, b4_len, zrs_len, headB_len, putHead_len, List.length_replicate, List.length_cons, List.length_nil, List.length_set, List.length_take, List.length_drop, recL_len]; omega) | omega | exact Nat.le_of_ble_eq_true rfl | (simp; done) | (simp; omega))) (by (first | exact .inr ‹_› | (left; ((repeat (first | exact List.Mem.head _ | apply List.Mem.tail)))))) ?_
                    refine XO.nil ?_
                    refine XK.inblk ?_
                    refine XK.region ?_
                    refine XO.val rfl rfl (OV.mv (v := .int _ _) rfl) ?_
                    refine XO.val rfl rfl (OV.add rfl rfl (wrap_in (by omega))) ?_
                    refine XO.val rfl rfl (OV.asg (v := .int _ _) rfl) ?_
                    refine XO.nil ?_
                    refine XK.rnd ⟨(o ++ [(D.rec2 j node ((D.hd j node).1 + (o.length : Int))).1], (D.rec2 j node ((D.hd j node).1 + (o.length : Int))).1, ⟨some ra, ca, sa⟩), ⟨⟨rfl, rfl, rfl, rfl, rfl, rfl, rfl, rfl, trivial⟩, ⟨(show Value.slice (some ⟨ra, 0, none⟩) (o.length + 1) ca = slV ⟨some ra, ca, sa⟩ (o ++ [(D.rec2 j node ((D.hd j node).1 + (o.length : Int))).1]).length from by rw [List.length_append]; rfl), congrArg (Value.int .i64) (by rw [List.length_append, List.length_singleton]; omega), trivial⟩, rfl, (.cons (by repeat (first | exact Del.hd | apply Del.tl | apply Del.app)) (by repeat (first | exact List.Mem.head _ | apply List.Mem.tail | apply List.mem_append_right)) (.cons (by repeat (first | exact Del.hd | apply Del.tl | apply Del.app)) (by repeat (first | exact List.Mem.head _ | apply List.Mem.tail | apply List.mem_append_right)) (.cons (by repeat (first | exact Del.hd | apply Del.tl | apply Del.app)) (by repeat (first | exact List.Mem.head _ | apply List.Mem.tail | apply List.mem_append_right)) (.cons (by repeat (first | exact Del.hd | apply Del.tl | apply Del.app)) (by repeat (first | exact List.Mem.head _ | apply List.Mem.tail | apply List.mem_append_right)) (.cons (by repeat (first | exact Del.hd | apply Del.tl | apply Del.app)) (by repeat (first | exact List.Mem.head _ | apply List.Mem.tail | apply List.mem_append_right)) (.cons (by repeat (first | exact Del.hd | apply Del.tl | apply Del.app)) (by repeat (first | exact List.Mem.head _ | apply List.Mem.tail | apply List.mem_append_right)) (.cons (by repeat (first | exact Del.hd | apply Del.tl | apply Del.app)) (by repeat (first | exact List.Mem.head _ | apply List.Mem.tail | apply List.mem_append_right)) (.cons (by repeat (first | exact Del.hd | apply Del.tl | apply Del.app)) (by repeat (first | exact List.Mem.head _ | apply List.Mem.tail | apply List.mem_append_right)) .nil)))))))), ⟨(by show (o ++ [_]).length ≤ _; rw [List.length_append, List.length_singleton]; omega), scan_next hst, own_next hown, (fun q hq => by cases hq; exact hra.elim (fun e => e ▸ hrr) id), body_next hI.2.2.2.2.1 hbl, hbl⟩⟩, (by show j.log.toNat - (o ++ [_]).length < j.log.toNat - o.length; rw [List.length_append, List.length_singleton]; omega)⟩
        · replace hh10 := of_decide_eq_false hh10
          have hX : D.scan j node = o := by rw [hI.2.1, scan_stop _ (fun g => hh10 g.1), List.append_nil]
          refine XK.cond_f rfl ?_
          refine XK.exitTo rfl ?_
          refine XK.seq ?_
          refine XK.region ?_
          refine XO.val rfl rfl (OV.fa rfl Red2_fa_164_0) ?_
          refine XO.val rfl rfl (OV.ld rfl Try.isAgg2 (by repeat (first | exact List.Mem.head _ | apply List.Mem.tail | apply List.mem_append_right)) rfl) ?_
          refine XO.val rfl rfl (OV.mv (v := .slice _ _ _) rfl) ?_
          refine XO.val rfl rfl (OV.asg (v := .int _ _) rfl) ?_
          refine XO.val rfl rfl (OV.asg (v := .slice _ _ _) rfl) ?_
          refine XO.val rfl rfl (OV.asg (v := .int _ _) rfl) ?_
          refine XO.nil ?_
          refine XK.retTo (Fin.ret (.cons (.tmp (v := .int _ _) rfl) (.cons (.tmp (v := .slice _ _ _) rfl) (.cons (.tmp (v := .int _ _) rfl) .nil))) (.cons (x := (rr, _)) (by repeat (first | exact Del.hd | apply Del.tl | apply Del.app)) (by repeat (first | exact List.Mem.head _ | apply List.Mem.tail | apply List.mem_append_right)) .nil) (by first | (simp; done) | (intro x hx; simp only [List.mem_cons, List.not_mem_nil, or_false] at hx; subst hx; right; assumption)) ?_)
          first | exact ⟨fun h => absurd h hh1, fun _ => ⟨rfl, rfl⟩⟩ | exact ⟨fun _ => ⟨⟨none, cap, sp⟩, by rw [hX]; simp [slV, ho, hcp, tupV, Dev.hd, Dev.sec], by rw [hX]; rfl, by rw [hX]; exact hI.2.2.1⟩, fun hn => absurd hh1 hn⟩ | exact ⟨fun _ => ⟨⟨some rr, cap, sp⟩, by rw [hX]; rfl, by rw [hX]; rfl, by rw [hX]; exact hI.2.2.1⟩, fun hn => absurd hh1 hn⟩
      · replace hh9 := of_decide_eq_false hh9
        have hX : D.scan j node = o := by
          rw [hI.2.1, show j.log.toNat - o.length = 0 from by omega]; exact List.append_nil _
        iterate 2 refine XO.guard_f rfl rfl rfl rfl ?_
        refine XO.val rfl rfl (OV.pick_f (v := .bool _) rfl rfl) ?_
        refine XO.nil ?_
        refine XK.cond_f rfl ?_
        refine XK.exitTo rfl ?_
        refine XK.seq ?_
        refine XK.region ?_
        refine XO.val rfl rfl (OV.fa rfl Red2_fa_164_0) ?_
        refine XO.val rfl rfl (OV.ld rfl Try.isAgg2 (by repeat (first | exact List.Mem.head _ | apply List.Mem.tail | apply List.mem_append_right)) rfl) ?_
        refine XO.val rfl rfl (OV.mv (v := .slice _ _ _) rfl) ?_
        refine XO.val rfl rfl (OV.asg (v := .int _ _) rfl) ?_
        refine XO.val rfl rfl (OV.asg (v := .slice _ _ _) rfl) ?_
        refine XO.val rfl rfl (OV.asg (v := .int _ _) rfl) ?_
        refine XO.nil ?_
        refine XK.retTo (Fin.ret (.cons (.tmp (v := .int _ _) rfl) (.cons (.tmp (v := .slice _ _ _) rfl) (.cons (.tmp (v := .int _ _) rfl) .nil))) (.cons (x := (rr, _)) (by repeat (first | exact Del.hd | apply Del.tl | apply Del.app)) (by repeat (first | exact List.Mem.head _ | apply List.Mem.tail | apply List.mem_append_right)) .nil) (by first | (simp; done) | (intro x hx; simp only [List.mem_cons, List.not_mem_nil, or_false] at hx; subst hx; right; assumption)) ?_)
        first | exact ⟨fun h => absurd h hh1, fun _ => ⟨rfl, rfl⟩⟩ | exact ⟨fun _ => ⟨⟨none, cap, sp⟩, by rw [hX]; simp [slV, ho, hcp, tupV, Dev.hd, Dev.sec], by rw [hX]; rfl, by rw [hX]; exact hI.2.2.1⟩, fun hn => absurd hh1 hn⟩ | exact ⟨fun _ => ⟨⟨some rr, cap, sp⟩, by rw [hX]; rfl, by rw [hX]; rfl, by rw [hX]; exact hI.2.2.1⟩, fun hn => absurd hh1 hn⟩

end Go.Proofs.Ythophgadmkjamaa
