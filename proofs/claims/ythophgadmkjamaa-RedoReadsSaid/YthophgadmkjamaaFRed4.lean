/- Contracts of functions, printed by a program of this claim (wip/tools/gen.py). -/
import Derived.Test.YthophgadmkjamaaFRed3
import Derived.KernelRfl
set_option maxRecDepth 20000
set_option linter.unusedVariables false
set_option linter.unusedSimpArgs false
namespace Go.Proofs.Ythophgadmkjamaa
open Go Go.Mw Go.Proofs

theorem Red4_bld_155_0_1_2_3_4_5_6 (a0 : Option Addr) (a1_0 : Int) (a1_1 : Int) (a1_2 : Int) (a1_3 : Int) (a1_4 : Int) (a2 : Int) (a3 : Int) (a4 : Int) (a5 : Int) (a6 : Option Addr) (a6n a6c : Nat) : ∀ w, (Instr.build 155 (List.toArray [(0, .pointer a0), (1, .agg (List.toArray [.int .i64 a1_0, .int .i64 a1_1, .int .i64 a1_2, .int .i64 a1_3, .int .i64 a1_4])), (2, .int .i64 a2), (3, .int .i64 a3), (4, .int .i64 a4), (5, .int .i64 a5), (6, .slice a6 a6n a6c)])).run Try.prog w = .ok (.agg (List.toArray ([.pointer a0, .int .i64 a1_0, .int .i64 a1_1, .int .i64 a1_2, .int .i64 a1_3, .int .i64 a1_4, .int .i64 a2, .int .i64 a3, .int .i64 a4, .int .i64 a5, .slice a6 a6n a6c]))) w := fun w => by kernel_rfl

theorem redoRead_ok (r s : Nat) (D : Dev) (hD : D.wf) (j : Job) (h : j.may = true) (node : Int) (h0 : 0 ≤ node) (h1 : node < j.nodes) (hz : j.secs ≤ D.S.length) (hok : (D.hd j node).2.2 = 0) :
    Ct Try.prog 20 [.pointer (some ⟨r, 0, none⟩), jobV j, .int .i64 node] [(r, cel (devL s D) 86), (s, cel (secL D) 157)] [] (fun v L => ∃ sl, v = .tuple (List.toArray [.int .i64 (D.hd j node).1, slV sl (D.scan j node).length, .int .i64 0]) ∧ L = slB sl (recsL (D.scan j node)) 52 ∧ Mw.Own sl (D.scan j node).length (recsL (D.scan j node)) 101) := by
  refine Ct.of (N := 24) (rs := [.tmp 6, .tmp 7, .tmp 8]) Try.func20 rfl rfl rfl (Nat.le_of_ble_eq_true rfl) (fun B => ?_)
  refine XK.seq ?_
  refine XK.region ?_
  refine XO.box (v := .agg _) rfl rfl rfl (fun r4 hr4 => ?_)
  refine XO.val rfl rfl (OV.asg (v := .int _ _) rfl) ?_
  refine XO.val rfl rfl (OV.asg (v := .slice _ _ _) rfl) ?_
  refine XO.val rfl rfl (OV.asg (v := .int _ _) rfl) ?_
  refine XO.nil ?_
  refine XK.seq ?_
  refine XK.seq ?_
  refine XK.region ?_
  refine XO.val rfl rfl (OV.mv (v := .pointer _) rfl) ?_
  refine XO.val rfl rfl (OV.ldA rfl Try.isAgg23 Try.sizeOf23 (by repeat (first | exact List.Mem.head _ | apply List.Mem.tail | apply List.mem_append_right)) (grab_all (by (first | assumption | (simp only [List.length_append, bys_length, b4_len, zrs_len, headB_len, putHead_len, List.length_replicate, List.length_cons, List.length_nil, List.length_set, List.length_take, List.length_drop, recL_len]; done) | (simp only [List.length_append, bys_length, b4_len, zrs_len, headB_len, putHead_len, List.length_replicate, List.length_cons, List.length_nil, List.length_set, List.length_take, List.length_drop, recL_len]; omega) | rfl | (simp [*, bys_length]; done) | (simp [*, bys_length]; omega)))) (by (first | assumption | (simp only [List.length_append, bys_length, b4_len, zrs_len, headB_len, putHead_len, List.length_replicate, List.length_cons, List.length_nil, List.length_set, List.length_take, List.length_drop, recL_len]; done) | (simp only [List.length_append, bys_length, b4_len, zrs_len, headB_len, putHead_len, List.length_replicate, List.length_cons, List.length_nil, List.length_set, List.length_take, List.length_drop, recL_len]; omega) | rfl | (simp [*, bys_length]; done) | (simp [*, bys_length]; omega)))) ?_
  refine XO.val rfl rfl (OV.mv (v := .int _ _) rfl) ?_
  refine XO.callV (cap := []) rfl rfl (.cons (v := .pointer _) rfl (.cons (v := .agg _) rfl (.cons (v := .int _ _) rfl .nil))) Try.call74 (redoMay_ok r s D hD j h node h0 h1 hz) (by repeat (first | exact Sel.nil | refine Sel.cons (by repeat (first | exact Del.hd | apply Del.tl | apply Del.app)) (by repeat (first | exact List.Mem.head _ | apply List.Mem.tail | apply List.mem_append_right)) ?_)) ?_
  refine XO.val rfl rfl (OV.asg (v := .int _ _) rfl) ?_
  refine XO.nil ?_
  refine XK.seq ?_
  refine XK.region ?_
  refine XO.val rfl rfl (OV.mv (v := .int _ _) rfl) ?_
  refine XO.val rfl rfl (OV.neq rfl rfl) ?_
  refine XO.nil ?_
  refine XK.say (u := .bool false) (v := .bool false) 15 rfl rfl ?_
  refine XK.cond_f rfl ?_
  refine XK.skip ?_
  refine XK.seq ?_
  refine XK.region ?_
  refine XO.val rfl rfl (OV.mv (v := .pointer _) rfl) ?_
  refine XO.val rfl rfl (OV.ldA rfl Try.isAgg23 Try.sizeOf23 (by repeat (first | exact List.Mem.head _ | apply List.Mem.tail | apply List.mem_append_right)) (grab_all (by (first | assumption | (simp only [List.length_append, bys_length, b4_len, zrs_len, headB_len, putHead_len, List.length_replicate, List.length_cons, List.length_nil, List.length_set, List.length_take, List.length_drop, recL_len]; done) | (simp only [List.length_append, bys_length, b4_len, zrs_len, headB_len, putHead_len, List.length_replicate, List.length_cons, List.length_nil, List.length_set, List.length_take, List.length_drop, recL_len]; omega) | rfl | (simp [*, bys_length]; done) | (simp [*, bys_length]; omega)))) (by (first | assumption | (simp only [List.length_append, bys_length, b4_len, zrs_len, headB_len, putHead_len, List.length_replicate, List.length_cons, List.length_nil, List.length_set, List.length_take, List.length_drop, recL_len]; done) | (simp only [List.length_append, bys_length, b4_len, zrs_len, headB_len, putHead_len, List.length_replicate, List.length_cons, List.length_nil, List.length_set, List.length_take, List.length_drop, recL_len]; omega) | rfl | (simp [*, bys_length]; done) | (simp [*, bys_length]; omega)))) ?_
  refine XO.val rfl rfl (OV.mv (v := .int _ _) rfl) ?_
  refine XO.callG (cap := []) rfl rfl (.cons (v := .pointer _) rfl (.cons (v := .agg _) rfl (.cons (v := .int _ _) rfl .nil))) Try.call75 (scan_ok r s D hD j h node h0 h1 hz) (by repeat (first | exact Sel.nil | refine Sel.cons (by repeat (first | exact Del.hd | apply Del.tl | apply Del.app)) (by repeat (first | exact List.Mem.head _ | apply List.Mem.tail | apply List.mem_append_right)) ?_)) (by ((repeat (first | exact wrs_nil | (refine wrs_cons (by (first | exact .inr ‹_› | (left; ((repeat (first | exact List.Mem.head _ | apply List.Mem.tail)))))) ?_))))) .nil ?_
  rintro _ L2 ⟨hR, _⟩ hnew
  obtain ⟨sl, rfl, rfl, hown⟩ := hR hok
  refine XO.val rfl rfl (OV.ext rfl rfl) ?_
  refine XO.val rfl rfl (OV.ext rfl rfl) ?_
  refine XO.val rfl rfl (OV.ext rfl rfl) ?_
  refine XO.val rfl rfl (OV.asg (v := .int _ _) rfl) ?_
  refine XO.val rfl rfl (OV.asg (v := .slice _ _ _) rfl) ?_
  refine XO.val rfl rfl (OV.asg (v := .int _ _) rfl) ?_
  refine XO.nil ?_
  refine XK.retTo (Fin.ret (.cons (.tmp (v := .int _ _) rfl) (.cons (.tmp (v := .slice _ _ _) rfl) (.cons (.tmp (v := .int _ _) rfl) .nil))) (selApp _ _) hnew ?_)
  exact ⟨sl, rfl, rfl, hown⟩

theorem redoRead_bad (r s : Nat) (D : Dev) (hD : D.wf) (j : Job) (h : j.may = true) (node : Int) (h0 : 0 ≤ node) (h1 : node < j.nodes) (hz : j.secs ≤ D.S.length) (hok : (D.hd j node).2.2 ≠ 0) :
    CtV Try.prog 20 [.pointer (some ⟨r, 0, none⟩), jobV j, .int .i64 node] [(r, cel (devL s D) 86), (s, cel (secL D) 157)] (.tuple (List.toArray [.int .i64 0, .slice none 0 0, .int .i64 12])) := by
  refine Ct.of (N := 24) (rs := [.tmp 6, .tmp 7, .tmp 8]) Try.func20 rfl rfl rfl (Nat.le_of_ble_eq_true rfl) (fun B => ?_)
  refine XK.seq ?_
  refine XK.region ?_
  refine XO.box (v := .agg _) rfl rfl rfl (fun r4 hr4 => ?_)
  refine XO.val rfl rfl (OV.asg (v := .int _ _) rfl) ?_
  refine XO.val rfl rfl (OV.asg (v := .slice _ _ _) rfl) ?_
  refine XO.val rfl rfl (OV.asg (v := .int _ _) rfl) ?_
  refine XO.nil ?_
  refine XK.seq ?_
  refine XK.seq ?_
  refine XK.region ?_
  refine XO.val rfl rfl (OV.mv (v := .pointer _) rfl) ?_
  refine XO.val rfl rfl (OV.ldA rfl Try.isAgg23 Try.sizeOf23 (by repeat (first | exact List.Mem.head _ | apply List.Mem.tail | apply List.mem_append_right)) (grab_all (by (first | assumption | (simp only [List.length_append, bys_length, b4_len, zrs_len, headB_len, putHead_len, List.length_replicate, List.length_cons, List.length_nil, List.length_set, List.length_take, List.length_drop, recL_len]; done) | (simp only [List.length_append, bys_length, b4_len, zrs_len, headB_len, putHead_len, List.length_replicate, List.length_cons, List.length_nil, List.length_set, List.length_take, List.length_drop, recL_len]; omega) | rfl | (simp [*, bys_length]; done) | (simp [*, bys_length]; omega)))) (by (first | assumption | (simp only [List.length_append, bys_length, b4_len, zrs_len, headB_len, putHead_len, List.length_replicate, List.length_cons, List.length_nil, List.length_set, List.length_take, List.length_drop, recL_len]; done) | (simp only [List.length_append, bys_length, b4_len, zrs_len, headB_len, putHead_len, List.length_replicate, List.length_cons, List.length_nil, List.length_set, List.length_take, List.length_drop, recL_len]; omega) | rfl | (simp [*, bys_length]; done) | (simp [*, bys_length]; omega)))) ?_
  refine XO.val rfl rfl (OV.mv (v := .int _ _) rfl) ?_
  refine XO.callV (cap := []) rfl rfl (.cons (v := .pointer _) rfl (.cons (v := .agg _) rfl (.cons (v := .int _ _) rfl .nil))) Try.call74 (redoMay_ok r s D hD j h node h0 h1 hz) (by repeat (first | exact Sel.nil | refine Sel.cons (by repeat (first | exact Del.hd | apply Del.tl | apply Del.app)) (by repeat (first | exact List.Mem.head _ | apply List.Mem.tail | apply List.mem_append_right)) ?_)) ?_
  refine XO.val rfl rfl (OV.asg (v := .int _ _) rfl) ?_
  refine XO.nil ?_
  refine XK.seq ?_
  refine XK.region ?_
  refine XO.val rfl rfl (OV.mv (v := .int _ _) rfl) ?_
  refine XO.val rfl rfl (OV.neq rfl rfl) ?_
  refine XO.nil ?_
  refine XK.say (u := .bool false) (v := .bool false) 15 rfl rfl ?_
  refine XK.cond_f rfl ?_
  refine XK.skip ?_
  refine XK.seq ?_
  refine XK.region ?_
  refine XO.val rfl rfl (OV.mv (v := .pointer _) rfl) ?_
  refine XO.val rfl rfl (OV.ldA rfl Try.isAgg23 Try.sizeOf23 (by repeat (first | exact List.Mem.head _ | apply List.Mem.tail | apply List.mem_append_right)) (grab_all (by (first | assumption | (simp only [List.length_append, bys_length, b4_len, zrs_len, headB_len, putHead_len, List.length_replicate, List.length_cons, List.length_nil, List.length_set, List.length_take, List.length_drop, recL_len]; done) | (simp only [List.length_append, bys_length, b4_len, zrs_len, headB_len, putHead_len, List.length_replicate, List.length_cons, List.length_nil, List.length_set, List.length_take, List.length_drop, recL_len]; omega) | rfl | (simp [*, bys_length]; done) | (simp [*, bys_length]; omega)))) (by (first | assumption | (simp only [List.length_append, bys_length, b4_len, zrs_len, headB_len, putHead_len, List.length_replicate, List.length_cons, List.length_nil, List.length_set, List.length_take, List.length_drop, recL_len]; done) | (simp only [List.length_append, bys_length, b4_len, zrs_len, headB_len, putHead_len, List.length_replicate, List.length_cons, List.length_nil, List.length_set, List.length_take, List.length_drop, recL_len]; omega) | rfl | (simp [*, bys_length]; done) | (simp [*, bys_length]; omega)))) ?_
  refine XO.val rfl rfl (OV.mv (v := .int _ _) rfl) ?_
  refine XO.callG (cap := []) rfl rfl (.cons (v := .pointer _) rfl (.cons (v := .agg _) rfl (.cons (v := .int _ _) rfl .nil))) Try.call75 (scan_ok r s D hD j h node h0 h1 hz) (by repeat (first | exact Sel.nil | refine Sel.cons (by repeat (first | exact Del.hd | apply Del.tl | apply Del.app)) (by repeat (first | exact List.Mem.head _ | apply List.Mem.tail | apply List.mem_append_right)) ?_)) (by ((repeat (first | exact wrs_nil | (refine wrs_cons (by (first | exact .inr ‹_› | (left; ((repeat (first | exact List.Mem.head _ | apply List.Mem.tail)))))) ?_))))) .nil ?_
  rintro _ L2 ⟨_, hR⟩ hnew
  obtain ⟨rfl, rfl⟩ := hR hok
  refine XO.val rfl rfl (OV.ext rfl rfl) ?_
  refine XO.val rfl rfl (OV.ext rfl rfl) ?_
  refine XO.val rfl rfl (OV.ext rfl rfl) ?_
  refine XO.val rfl rfl (OV.asg (v := .int _ _) rfl) ?_
  refine XO.val rfl rfl (OV.asg (v := .slice _ _ _) rfl) ?_
  refine XO.val rfl rfl (OV.asg (v := .int _ _) rfl) ?_
  refine XO.nil ?_
  refine XK.retTo (Fin.ret (.cons (.tmp (v := .int _ _) rfl) (.cons (.tmp (v := .slice _ _ _) rfl) (.cons (.tmp (v := .int _ _) rfl) .nil))) .nil (by simp) ?_)
  exact ⟨rfl, rfl⟩

theorem redoOpen_ok (r s : Nat) (D : Dev) (hD : D.wf) (j : Job) (h : j.may = true) (node : Int) (h0 : 0 ≤ node) (h1 : node < j.nodes) (hz : j.secs ≤ D.S.length) (ep : Int) (he0 : 1 ≤ ep) (he1 : ep ≤ 2147483647) (hok : (D.hd j node).2.2 = 0) :
    Ct Try.prog 16 [.pointer (some ⟨r, 0, none⟩), jobV j, .int .i64 node, .int .i64 ep] [(r, cel (devL s D) 86), (s, cel (secL D) 157)] [] (fun v L => ∃ g sl, v = .tuple (List.toArray [.pointer (some ⟨g, 0, none⟩), .int .i64 0]) ∧ L = (g, cel (lgL r sl (openG D j node ep)) 155) :: slB sl (recsL (D.scan j node)) 52 ∧ Mw.Own sl (D.scan j node).length (recsL (D.scan j node)) 101) := by
  have hj := of_decide_eq_true h
  have hsl := scan_len D j node
  have hh : 1 ≤ (D.hd j node).1 ∧ (D.hd j node).1 ≤ 2147483647 := takeHead_ok' hok
  refine Ct.of (N := 51) (rs := [.tmp 8, .tmp 9]) Try.func16 rfl rfl rfl (Nat.le_of_ble_eq_true rfl) (fun B => ?_)
  refine XK.seq ?_
  refine XK.region ?_
  refine XO.box (v := .agg _) rfl rfl rfl (fun r5 hr5 => ?_)
  refine XO.val rfl rfl (OV.asg (v := .pointer _) rfl) ?_
  refine XO.val rfl rfl (OV.asg (v := .int _ _) rfl) ?_
  refine XO.nil ?_
  refine XK.seq ?_
  refine XK.seq ?_
  refine XK.region ?_
  refine XO.val rfl rfl (OV.mv (v := .pointer _) rfl) ?_
  refine XO.val rfl rfl (OV.ldA rfl Try.isAgg23 Try.sizeOf23 (by repeat (first | exact List.Mem.head _ | apply List.Mem.tail | apply List.mem_append_right)) (grab_all (by (first | assumption | (simp only [List.length_append, bys_length, b4_len, zrs_len, headB_len, putHead_len, List.length_replicate, List.length_cons, List.length_nil, List.length_set, List.length_take, List.length_drop, recL_len]; done) | (simp only [List.length_append, bys_length, b4_len, zrs_len, headB_len, putHead_len, List.length_replicate, List.length_cons, List.length_nil, List.length_set, List.length_take, List.length_drop, recL_len]; omega) | rfl | (simp [*, bys_length]; done) | (simp [*, bys_length]; omega)))) (by (first | assumption | (simp only [List.length_append, bys_length, b4_len, zrs_len, headB_len, putHead_len, List.length_replicate, List.length_cons, List.length_nil, List.length_set, List.length_take, List.length_drop, recL_len]; done) | (simp only [List.length_append, bys_length, b4_len, zrs_len, headB_len, putHead_len, List.length_replicate, List.length_cons, List.length_nil, List.length_set, List.length_take, List.length_drop, recL_len]; omega) | rfl | (simp [*, bys_length]; done) | (simp [*, bys_length]; omega)))) ?_
  refine XO.val rfl rfl (OV.mv (v := .int _ _) rfl) ?_
  refine XO.callV (cap := []) rfl rfl (.cons (v := .pointer _) rfl (.cons (v := .agg _) rfl (.cons (v := .int _ _) rfl .nil))) Try.call74 (redoMay_ok r s D hD j h node h0 h1 hz) (by repeat (first | exact Sel.nil | refine Sel.cons (by repeat (first | exact Del.hd | apply Del.tl | apply Del.app)) (by repeat (first | exact List.Mem.head _ | apply List.Mem.tail | apply List.mem_append_right)) ?_)) ?_
  refine XO.val rfl rfl (OV.asg (v := .int _ _) rfl) ?_
  refine XO.nil ?_
  refine XK.seq ?_
  refine XK.region ?_
  refine XO.val rfl rfl (OV.mv (v := .int _ _) rfl) ?_
  refine XO.val rfl rfl (OV.neq rfl rfl) ?_
  refine XO.nil ?_
  refine XK.say (u := .bool false) (v := .bool false) 19 rfl rfl ?_
  refine XK.cond_f rfl ?_
  refine XK.skip ?_
  refine XK.seq ?_
  refine XK.seq ?_
  refine XK.region ?_
  refine XO.val rfl rfl (OV.mv (v := .int _ _) rfl) ?_
  refine XO.val rfl rfl (OV.lss rfl rfl) ?_
  refine XO.val rfl rfl (OV.mv (v := .bool _) rfl) ?_
  refine XO.say (v := .bool false) 23 rfl (congrArg Value.bool (by simp; omega)) ?_
  refine XO.guard_t rfl rfl ?_
  refine XO.val rfl rfl (OV.mv (v := .int _ _) rfl) ?_
  refine XO.guard_t rfl rfl ?_
  refine XO.val rfl rfl (OV.gtr rfl rfl) ?_
  refine XO.val rfl rfl (OV.pick_f (v := .bool _) rfl rfl) ?_
  refine XO.nil ?_
  refine XK.say (v := .bool false) 26 rfl (congrArg Value.bool (by simp; omega)) ?_
  refine XK.cond_f rfl ?_
  refine XK.skip ?_
  refine XK.seq ?_
  refine XK.region ?_
  refine XO.val rfl rfl (OV.mv (v := .pointer _) rfl) ?_
  refine XO.val rfl rfl (OV.ldA rfl Try.isAgg23 Try.sizeOf23 (by repeat (first | exact List.Mem.head _ | apply List.Mem.tail | apply List.mem_append_right)) (grab_all (by (first | assumption | (simp only [List.length_append, bys_length, b4_len, zrs_len, headB_len, putHead_len, List.length_replicate, List.length_cons, List.length_nil, List.length_set, List.length_take, List.length_drop, recL_len]; done) | (simp only [List.length_append, bys_length, b4_len, zrs_len, headB_len, putHead_len, List.length_replicate, List.length_cons, List.length_nil, List.length_set, List.length_take, List.length_drop, recL_len]; omega) | rfl | (simp [*, bys_length]; done) | (simp [*, bys_length]; omega)))) (by (first | assumption | (simp only [List.length_append, bys_length, b4_len, zrs_len, headB_len, putHead_len, List.length_replicate, List.length_cons, List.length_nil, List.length_set, List.length_take, List.length_drop, recL_len]; done) | (simp only [List.length_append, bys_length, b4_len, zrs_len, headB_len, putHead_len, List.length_replicate, List.length_cons, List.length_nil, List.length_set, List.length_take, List.length_drop, recL_len]; omega) | rfl | (simp [*, bys_length]; done) | (simp [*, bys_length]; omega)))) ?_
  refine XO.val rfl rfl (OV.mv (v := .int _ _) rfl) ?_
  refine XO.callG (cap := []) rfl rfl (.cons (v := .pointer _) rfl (.cons (v := .agg _) rfl (.cons (v := .int _ _) rfl .nil))) Try.call75 (scan_ok r s D hD j h node h0 h1 hz) (by repeat (first | exact Sel.nil | refine Sel.cons (by repeat (first | exact Del.hd | apply Del.tl | apply Del.app)) (by repeat (first | exact List.Mem.head _ | apply List.Mem.tail | apply List.mem_append_right)) ?_)) (by ((repeat (first | exact wrs_nil | (refine wrs_cons (by (first | exact .inr ‹_› | (left; ((repeat (first | exact List.Mem.head _ | apply List.Mem.tail)))))) ?_))))) .nil ?_
  rintro _ L2 ⟨hR, _⟩ hnew
  obtain ⟨sl, rfl, rfl, hown⟩ := hR hok
  refine XO.val rfl rfl (OV.mv (v := .tuple _) rfl) ?_
  refine XO.val rfl rfl (OV.ext rfl rfl) ?_
  refine XO.val rfl rfl (OV.ext rfl rfl) ?_
  refine XO.val rfl rfl (OV.ext rfl rfl) ?_
  refine XO.val rfl rfl (OV.asg (v := .int _ _) rfl) ?_
  refine XO.val rfl rfl (OV.asg (v := .slice _ _ _) rfl) ?_
  refine XO.val rfl rfl (OV.asg (v := .int _ _) rfl) ?_
  refine XO.nil ?_
  refine XK.seq ?_
  refine XK.seq ?_
  refine XK.region ?_
  refine XO.val rfl rfl (OV.mv (v := .int _ _) rfl) ?_
  refine XO.val rfl rfl (OV.neq rfl rfl) ?_
  refine XO.nil ?_
  refine XK.say (u := .bool false) (v := .bool false) 36 rfl rfl ?_
  refine XK.cond_f rfl ?_
  refine XK.skip ?_
  refine XK.seq ?_
  refine XK.region ?_
  refine XO.val rfl rfl (OV.mv (v := .pointer _) rfl) ?_
  refine XO.val rfl rfl (OV.ldA rfl Try.isAgg23 Try.sizeOf23 (by repeat (first | exact List.Mem.head _ | apply List.Mem.tail | apply List.mem_append_right)) (grab_all (by (first | assumption | (simp only [List.length_append, bys_length, b4_len, zrs_len, headB_len, putHead_len, List.length_replicate, List.length_cons, List.length_nil, List.length_set, List.length_take, List.length_drop, recL_len]; done) | (simp only [List.length_append, bys_length, b4_len, zrs_len, headB_len, putHead_len, List.length_replicate, List.length_cons, List.length_nil, List.length_set, List.length_take, List.length_drop, recL_len]; omega) | rfl | (simp [*, bys_length]; done) | (simp [*, bys_length]; omega)))) (by (first | assumption | (simp only [List.length_append, bys_length, b4_len, zrs_len, headB_len, putHead_len, List.length_replicate, List.length_cons, List.length_nil, List.length_set, List.length_take, List.length_drop, recL_len]; done) | (simp only [List.length_append, bys_length, b4_len, zrs_len, headB_len, putHead_len, List.length_replicate, List.length_cons, List.length_nil, List.length_set, List.length_take, List.length_drop, recL_len]; omega) | rfl | (simp [*, bys_length]; done) | (simp [*, bys_length]; omega)))) ?_
  refine XO.val rfl rfl (OV.mv (v := .int _ _) rfl) ?_
  refine XO.val rfl rfl (OV.mv (v := .int _ _) rfl) ?_
  refine XO.val rfl rfl (OV.mv (v := .int _ _) rfl) ?_
  refine XO.val rfl rfl (OV.mv (v := .int _ _) rfl) ?_
  refine XO.val rfl rfl (OV.mv (v := .slice _ _ _) rfl) ?_
  refine XO.val rfl rfl (OV.lenS rfl Try.runUnderlying43) ?_
  refine XO.val rfl rfl (OV.add rfl rfl (wrap_in (by omega))) ?_
  refine XO.val rfl rfl (OV.sub rfl rfl (wrap_in (by omega))) ?_
  refine XO.val rfl rfl (OV.mv (v := .slice _ _ _) rfl) ?_
  refine XO.val rfl rfl (OV.bld (qs := [(0, .pointer _), (1, .agg _), (2, .int .i64 _), (3, .int .i64 _), (4, .int .i64 _), (5, .int .i64 _), (6, .slice _ _ _)]) (.cons (v := .pointer _) rfl (.cons (v := .agg _) rfl (.cons (v := .int _ _) rfl (.cons (v := .int _ _) rfl (.cons (v := .int _ _) rfl (.cons (v := .int _ _) rfl (.cons (v := .slice _ _ _) rfl .nil))))))) rfl (Red4_bld_155_0_1_2_3_4_5_6 _ _ _ _ _ _ _ _ _ _ _ _ _)) ?_
  refine XO.box (v := .agg _) rfl rfl rfl (fun r50 hr50 => ?_)
  refine XO.val rfl rfl (OV.asg (v := .pointer _) rfl) ?_
  refine XO.val rfl rfl (OV.asg (v := .int _ _) rfl) ?_
  refine XO.nil ?_
  refine XK.retTo (Fin.ret (.cons (.tmp (v := .pointer _) rfl) (.cons (.tmp (v := .int _ _) rfl) .nil)) (.cons .hd (.head _) (selApp _ _)) (newCons hr50 hnew) ?_)
  exact ⟨r50, sl, rfl, rfl, hown⟩

theorem redoOpen_bad (r s : Nat) (D : Dev) (hD : D.wf) (j : Job) (h : j.may = true) (node : Int) (h0 : 0 ≤ node) (h1 : node < j.nodes) (hz : j.secs ≤ D.S.length) (ep : Int) (he0 : 1 ≤ ep) (he1 : ep ≤ 2147483647) (hok : (D.hd j node).2.2 ≠ 0) :
    CtV Try.prog 16 [.pointer (some ⟨r, 0, none⟩), jobV j, .int .i64 node, .int .i64 ep] [(r, cel (devL s D) 86), (s, cel (secL D) 157)] (.tuple (List.toArray [.pointer none, .int .i64 12])) := by
  refine Ct.of (N := 51) (rs := [.tmp 8, .tmp 9]) Try.func16 rfl rfl rfl (Nat.le_of_ble_eq_true rfl) (fun B => ?_)
  refine XK.seq ?_
  refine XK.region ?_
  refine XO.box (v := .agg _) rfl rfl rfl (fun r5 hr5 => ?_)
  refine XO.val rfl rfl (OV.asg (v := .pointer _) rfl) ?_
  refine XO.val rfl rfl (OV.asg (v := .int _ _) rfl) ?_
  refine XO.nil ?_
  refine XK.seq ?_
  refine XK.seq ?_
  refine XK.region ?_
  refine XO.val rfl rfl (OV.mv (v := .pointer _) rfl) ?_
  refine XO.val rfl rfl (OV.ldA rfl Try.isAgg23 Try.sizeOf23 (by repeat (first | exact List.Mem.head _ | apply List.Mem.tail | apply List.mem_append_right)) (grab_all (by (first | assumption | (simp only [List.length_append, bys_length, b4_len, zrs_len, headB_len, putHead_len, List.length_replicate, List.length_cons, List.length_nil, List.length_set, List.length_take, List.length_drop, recL_len]; done) | (simp only [List.length_append, bys_length, b4_len, zrs_len, headB_len, putHead_len, List.length_replicate, List.length_cons, List.length_nil, List.length_set, List.length_take, List.length_drop, recL_len]; omega) | rfl | (simp [*, bys_length]; done) | (simp [*, bys_length]; omega)))) (by (first | assumption | (simp only [List.length_append, bys_length, b4_len, zrs_len, headB_len, putHead_len, List.length_replicate, List.length_cons, List.length_nil, List.length_set, List.length_take, List.length_drop, recL_len]; done) | (simp only [List.length_append, bys_length, b4_len, zrs_len, headB_len, putHead_len, List.length_replicate, List.length_cons, List.length_nil, List.length_set, List.length_take, List.length_drop, recL_len]; omega) | rfl | (simp [*, bys_length]; done) | (simp [*, bys_length]; omega)))) ?_
  refine XO.val rfl rfl (OV.mv (v := .int _ _) rfl) ?_
  refine XO.callV (cap := []) rfl rfl (.cons (v := .pointer _) rfl (.cons (v := .agg _) rfl (.cons (v := .int _ _) rfl .nil))) Try.call74 (redoMay_ok r s D hD j h node h0 h1 hz) (by repeat (first | exact Sel.nil | refine Sel.cons (by repeat (first | exact Del.hd | apply Del.tl | apply Del.app)) (by repeat (first | exact List.Mem.head _ | apply List.Mem.tail | apply List.mem_append_right)) ?_)) ?_
  refine XO.val rfl rfl (OV.asg (v := .int _ _) rfl) ?_
  refine XO.nil ?_
  refine XK.seq ?_
  refine XK.region ?_
  refine XO.val rfl rfl (OV.mv (v := .int _ _) rfl) ?_
  refine XO.val rfl rfl (OV.neq rfl rfl) ?_
  refine XO.nil ?_
  refine XK.say (u := .bool false) (v := .bool false) 19 rfl rfl ?_
  refine XK.cond_f rfl ?_
  refine XK.skip ?_
  refine XK.seq ?_
  refine XK.seq ?_
  refine XK.region ?_
  refine XO.val rfl rfl (OV.mv (v := .int _ _) rfl) ?_
  refine XO.val rfl rfl (OV.lss rfl rfl) ?_
  refine XO.val rfl rfl (OV.mv (v := .bool _) rfl) ?_
  refine XO.say (v := .bool false) 23 rfl (congrArg Value.bool (by simp; omega)) ?_
  refine XO.guard_t rfl rfl ?_
  refine XO.val rfl rfl (OV.mv (v := .int _ _) rfl) ?_
  refine XO.guard_t rfl rfl ?_
  refine XO.val rfl rfl (OV.gtr rfl rfl) ?_
  refine XO.val rfl rfl (OV.pick_f (v := .bool _) rfl rfl) ?_
  refine XO.nil ?_
  refine XK.say (v := .bool false) 26 rfl (congrArg Value.bool (by simp; omega)) ?_
  refine XK.cond_f rfl ?_
  refine XK.skip ?_
  refine XK.seq ?_
  refine XK.region ?_
  refine XO.val rfl rfl (OV.mv (v := .pointer _) rfl) ?_
  refine XO.val rfl rfl (OV.ldA rfl Try.isAgg23 Try.sizeOf23 (by repeat (first | exact List.Mem.head _ | apply List.Mem.tail | apply List.mem_append_right)) (grab_all (by (first | assumption | (simp only [List.length_append, bys_length, b4_len, zrs_len, headB_len, putHead_len, List.length_replicate, List.length_cons, List.length_nil, List.length_set, List.length_take, List.length_drop, recL_len]; done) | (simp only [List.length_append, bys_length, b4_len, zrs_len, headB_len, putHead_len, List.length_replicate, List.length_cons, List.length_nil, List.length_set, List.length_take, List.length_drop, recL_len]; omega) | rfl | (simp [*, bys_length]; done) | (simp [*, bys_length]; omega)))) (by (first | assumption | (simp only [List.length_append, bys_length, b4_len, zrs_len, headB_len, putHead_len, List.length_replicate, List.length_cons, List.length_nil, List.length_set, List.length_take, List.length_drop, recL_len]; done) | (simp only [List.length_append, bys_length, b4_len, zrs_len, headB_len, putHead_len, List.length_replicate, List.length_cons, List.length_nil, List.length_set, List.length_take, List.length_drop, recL_len]; omega) | rfl | (simp [*, bys_length]; done) | (simp [*, bys_length]; omega)))) ?_
  refine XO.val rfl rfl (OV.mv (v := .int _ _) rfl) ?_
  refine XO.callG (cap := []) rfl rfl (.cons (v := .pointer _) rfl (.cons (v := .agg _) rfl (.cons (v := .int _ _) rfl .nil))) Try.call75 (scan_ok r s D hD j h node h0 h1 hz) (by repeat (first | exact Sel.nil | refine Sel.cons (by repeat (first | exact Del.hd | apply Del.tl | apply Del.app)) (by repeat (first | exact List.Mem.head _ | apply List.Mem.tail | apply List.mem_append_right)) ?_)) (by ((repeat (first | exact wrs_nil | (refine wrs_cons (by (first | exact .inr ‹_› | (left; ((repeat (first | exact List.Mem.head _ | apply List.Mem.tail)))))) ?_))))) .nil ?_
  rintro _ L2 ⟨_, hR⟩ hnew
  obtain ⟨rfl, rfl⟩ := hR hok
  refine XO.val rfl rfl (OV.mv (v := .tuple _) rfl) ?_
  refine XO.val rfl rfl (OV.ext rfl rfl) ?_
  refine XO.val rfl rfl (OV.ext rfl rfl) ?_
  refine XO.val rfl rfl (OV.ext rfl rfl) ?_
  refine XO.val rfl rfl (OV.asg (v := .int _ _) rfl) ?_
  refine XO.val rfl rfl (OV.asg (v := .slice _ _ _) rfl) ?_
  refine XO.val rfl rfl (OV.asg (v := .int _ _) rfl) ?_
  refine XO.nil ?_
  refine XK.seq ?_
  refine XK.seq ?_
  refine XK.region ?_
  refine XO.val rfl rfl (OV.mv (v := .int _ _) rfl) ?_
  refine XO.val rfl rfl (OV.neq rfl rfl) ?_
  refine XO.nil ?_
  refine XK.say (u := .bool true) (v := .bool true) 36 rfl rfl ?_
  refine XK.cond_t rfl ?_
  refine XK.seq ?_
  refine XK.region ?_
  refine XO.val rfl rfl (OV.mv (v := .int _ _) rfl) ?_
  refine XO.val rfl rfl (OV.asg (v := .pointer _) rfl) ?_
  refine XO.val rfl rfl (OV.asg (v := .int _ _) rfl) ?_
  refine XO.nil ?_
  refine XK.retTo (Fin.ret (.cons (.tmp (v := .pointer _) rfl) (.cons (.tmp (v := .int _ _) rfl) .nil)) .nil (by simp) ?_)
  exact ⟨rfl, rfl⟩

end Go.Proofs.Ythophgadmkjamaa
