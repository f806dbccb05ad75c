/- Contracts of functions, printed by a program of this claim (wip/tools/gen.py). -/
import Derived.Test.YthophgadmkjamaaFRed2
import Derived.KernelRfl
set_option maxRecDepth 20000
set_option linter.unusedVariables false
set_option linter.unusedSimpArgs false
namespace Go.Proofs.Ythophgadmkjamaa
open Go Go.Mw Go.Proofs

theorem Red3_fa_155_0 : FA Try.prog 155 0 0 := FA.of (n := 0) Try.runUnderlying155 rfl rfl Try.sizeOf27
theorem Red3_fa_155_4 : FA Try.prog 155 4 8 := FA.of (n := 0) Try.runUnderlying155 rfl rfl Try.sizeOf2
theorem Red3_fa_155_5 : FA Try.prog 155 5 9 := FA.of (n := 0) Try.runUnderlying155 rfl rfl Try.sizeOf2
theorem Red3_mixed : Try.prog.follows .mixedOrders = true := by kernel_rfl
theorem Red3_fa_155_6 : FA Try.prog 155 6 10 := FA.of (n := 0) Try.runUnderlying155 rfl rfl Try.sizeOf43
theorem Red3_fa_155_1 : FA Try.prog 155 1 1 := FA.of (n := 4) Try.runUnderlying155 rfl rfl Try.sizeOf23
theorem Red3_fa_23_3 : FA Try.prog 23 3 3 := FA.of (n := 0) Try.runUnderlying23 rfl rfl Try.sizeOf3
theorem Red3_zv_23 : ∀ w, (zeroValue 23).run Try.prog w = .ok (.agg (List.toArray ([.int .i64 0, .int .i64 0, .int .i64 0, .int .i64 0, .int .i64 0]))) w := fun w => by kernel_rfl
theorem Red3_bld_23_0_1_2_3_4 (a0 : Int) (a1 : Int) (a2 : Int) (a3 : Int) (a4 : Int) : ∀ w, (Instr.build 23 (List.toArray [(0, .int .i64 a0), (1, .int .i64 a1), (2, .int .i64 a2), (3, .int .i64 a3), (4, .int .i64 a4)])).run Try.prog w = .ok (.agg (List.toArray ([.int .i64 a0, .int .i64 a1, .int .i64 a2, .int .i64 a3, .int .i64 a4]))) w := fun w => by kernel_rfl

theorem lgThere_ok (g r : Nat) (sl : Sl) (G : Lg) :
    CtV Try.prog 76 [.pointer (some ⟨g, 0, none⟩)] [(g, cel (lgL r sl G) 155)] (.bool true) := by
  refine Ct.of (N := 12) (rs := [.tmp 2]) Try.func76 rfl rfl rfl (Nat.le_of_ble_eq_true rfl) (fun B => ?_)
  refine XK.seq ?_
  refine XK.region ?_
  refine XO.val rfl rfl (OV.asg (v := .bool _) rfl) ?_
  refine XO.nil ?_
  refine XK.seq ?_
  refine XK.region ?_
  refine XO.val rfl rfl (OV.mv (v := .pointer _) rfl) ?_
  refine XO.val rfl rfl (OV.neN rfl rfl Try.runUnderlying29) ?_
  refine XO.val rfl rfl (OV.mv (v := .bool _) rfl) ?_
  refine XO.say (u := .bool true) (v := .bool true) 5 rfl rfl ?_
  refine XO.guard_t rfl rfl ?_
  refine XO.val rfl rfl (OV.mv (v := .pointer _) rfl) ?_
  refine XO.guard_t rfl rfl ?_
  refine XO.val rfl rfl (OV.nilc rfl) ?_
  refine XO.guard_t rfl rfl ?_
  refine XO.val rfl rfl (OV.fa rfl Red3_fa_155_0) ?_
  refine XO.guard_t rfl rfl ?_
  refine XO.val rfl rfl (OV.ld rfl Try.isAgg27 (by repeat (first | exact List.Mem.head _ | apply List.Mem.tail | apply List.mem_append_right)) rfl) ?_
  refine XO.guard_t rfl rfl ?_
  refine XO.val rfl rfl (OV.neN rfl rfl Try.runUnderlying27) ?_
  refine XO.val rfl rfl (OV.pick_t (v := .bool _) rfl rfl) ?_
  refine XO.val rfl rfl (OV.asg (v := .bool _) rfl) ?_
  refine XO.nil ?_
  refine XK.retTo (Fin.ret (.cons (.tmp (v := .bool _) rfl) .nil) .nil (by simp) ?_)
  exact ⟨rfl, rfl⟩

theorem lgStart_ok (g r : Nat) (sl : Sl) (G : Lg) :
    CtV Try.prog 21 [.pointer (some ⟨g, 0, none⟩)] [(g, cel (lgL r sl G) 155)] (.int .i64 G.start) := by
  refine Ct.of (N := 10) (rs := [.tmp 2]) Try.func21 rfl rfl rfl (Nat.le_of_ble_eq_true rfl) (fun B => ?_)
  refine XK.seq ?_
  refine XK.region ?_
  refine XO.val rfl rfl (OV.asg (v := .int _ _) rfl) ?_
  refine XO.nil ?_
  refine XK.seq ?_
  refine XK.seq ?_
  refine XK.region ?_
  refine XO.val rfl rfl (OV.mv (v := .pointer _) rfl) ?_
  refine XO.callV (cap := []) rfl rfl (.cons (v := .pointer _) rfl .nil) Try.call76 (lgThere_ok g r sl G) (by repeat (first | exact Sel.nil | refine Sel.cons (by repeat (first | exact Del.hd | apply Del.tl | apply Del.app)) (by repeat (first | exact List.Mem.head _ | apply List.Mem.tail | apply List.mem_append_right)) ?_)) ?_
  refine XO.val rfl rfl (OV.notB rfl) ?_
  refine XO.nil ?_
  refine XK.cond_f rfl ?_
  refine XK.skip ?_
  refine XK.seq ?_
  refine XK.region ?_
  refine XO.val rfl rfl (OV.mv (v := .pointer _) rfl) ?_
  refine XO.val rfl rfl (OV.nilc rfl) ?_
  refine XO.val rfl rfl (OV.fa rfl Red3_fa_155_4) ?_
  refine XO.val rfl rfl (OV.ld rfl Try.isAgg2 (by repeat (first | exact List.Mem.head _ | apply List.Mem.tail | apply List.mem_append_right)) rfl) ?_
  refine XO.val rfl rfl (OV.asg (v := .int _ _) rfl) ?_
  refine XO.nil ?_
  refine XK.retTo (Fin.ret (.cons (.tmp (v := .int _ _) rfl) .nil) .nil (by simp) ?_)
  exact ⟨rfl, rfl⟩

theorem lgFlushed_ok (g r : Nat) (sl : Sl) (G : Lg) :
    CtV Try.prog 22 [.pointer (some ⟨g, 0, none⟩)] [(g, cel (lgL r sl G) 155)] (.int .i64 G.flushed) := by
  refine Ct.of (N := 10) (rs := [.tmp 2]) Try.func22 rfl rfl rfl (Nat.le_of_ble_eq_true rfl) (fun B => ?_)
  refine XK.seq ?_
  refine XK.region ?_
  refine XO.val rfl rfl (OV.asg (v := .int _ _) rfl) ?_
  refine XO.nil ?_
  refine XK.seq ?_
  refine XK.seq ?_
  refine XK.region ?_
  refine XO.val rfl rfl (OV.mv (v := .pointer _) rfl) ?_
  refine XO.callV (cap := []) rfl rfl (.cons (v := .pointer _) rfl .nil) Try.call76 (lgThere_ok g r sl G) (by repeat (first | exact Sel.nil | refine Sel.cons (by repeat (first | exact Del.hd | apply Del.tl | apply Del.app)) (by repeat (first | exact List.Mem.head _ | apply List.Mem.tail | apply List.mem_append_right)) ?_)) ?_
  refine XO.val rfl rfl (OV.notB rfl) ?_
  refine XO.nil ?_
  refine XK.cond_f rfl ?_
  refine XK.skip ?_
  refine XK.seq ?_
  refine XK.region ?_
  refine XO.val rfl rfl (OV.mv (v := .pointer _) rfl) ?_
  refine XO.val rfl rfl (OV.nilc rfl) ?_
  refine XO.val rfl rfl (OV.fa rfl Red3_fa_155_5) ?_
  refine XO.val rfl rfl (OV.ld rfl Try.isAgg2 (by repeat (first | exact List.Mem.head _ | apply List.Mem.tail | apply List.mem_append_right)) rfl) ?_
  refine XO.val rfl rfl (OV.asg (v := .int _ _) rfl) ?_
  refine XO.nil ?_
  refine XK.retTo (Fin.ret (.cons (.tmp (v := .int _ _) rfl) .nil) .nil (by simp) ?_)
  exact ⟨rfl, rfl⟩

theorem lgNext_ok (g r : Nat) (sl : Sl) (G : Lg) (hG : G.wf) :
    CtV Try.prog 23 [.pointer (some ⟨g, 0, none⟩)] [(g, cel (lgL r sl G) 155)] (.int .i64 G.next) := by
  have h1 := hG.st0
  have h2 := hG.st1
  have h3 := hG.len
  refine Ct.of (N := 16) (rs := [.tmp 2]) Try.func23 rfl rfl rfl (Nat.le_of_ble_eq_true rfl) (fun B => ?_)
  refine XK.seq ?_
  refine XK.region ?_
  refine XO.val rfl rfl (OV.asg (v := .int _ _) rfl) ?_
  refine XO.nil ?_
  refine XK.seq ?_
  refine XK.seq ?_
  refine XK.region ?_
  refine XO.val rfl rfl (OV.mv (v := .pointer _) rfl) ?_
  refine XO.callV (cap := []) rfl rfl (.cons (v := .pointer _) rfl .nil) Try.call76 (lgThere_ok g r sl G) (by repeat (first | exact Sel.nil | refine Sel.cons (by repeat (first | exact Del.hd | apply Del.tl | apply Del.app)) (by repeat (first | exact List.Mem.head _ | apply List.Mem.tail | apply List.mem_append_right)) ?_)) ?_
  refine XO.val rfl rfl (OV.notB rfl) ?_
  refine XO.nil ?_
  refine XK.cond_f rfl ?_
  refine XK.skip ?_
  refine XK.seq ?_
  refine XK.draw [0, 1, 2, 3, 4, 5, 6, 7, 8, 9, 10] [] [] [0, 1, 2, 3, 4, 5, 6, 7, 8, 9, 10] Red3_mixed (by kernel_rfl) alc_none ?_
  refine TR.v rfl rfl .n rfl rfl rfl (OV.mv (v := .pointer _) rfl) ?_
  refine TR.v rfl rfl .n rfl rfl rfl (OV.nilc rfl) ?_
  refine TR.v rfl rfl .n rfl rfl rfl (OV.fa rfl Red3_fa_155_4) ?_
  refine TR.v rfl rfl .n rfl rfl rfl (OV.ld rfl Try.isAgg2 (by repeat (first | exact List.Mem.head _ | apply List.Mem.tail | apply List.mem_append_right)) rfl) ?_
  refine TR.v rfl rfl .n rfl rfl rfl (OV.mv (v := .pointer _) rfl) ?_
  refine TR.v rfl rfl .n rfl rfl rfl (OV.nilc rfl) ?_
  refine TR.v rfl rfl .n rfl rfl rfl (OV.fa rfl Red3_fa_155_6) ?_
  refine TR.v rfl rfl .n rfl rfl rfl (OV.ld rfl Try.isAgg43 (by repeat (first | exact List.Mem.head _ | apply List.Mem.tail | apply List.mem_append_right)) rfl) ?_
  refine TR.v rfl rfl .n rfl rfl rfl (OV.lenS rfl Try.runUnderlying43) ?_
  refine TR.v rfl rfl .n rfl rfl rfl (OV.add rfl rfl (wrap_in (by omega))) ?_
  refine TR.v rfl rfl .n rfl rfl rfl (OV.asg (v := .int _ _) rfl) ?_
  refine TR.nil ?_
  refine XK.retTo (Fin.ret (.cons (.tmp (v := .int _ _) rfl) .nil) .nil (by simp) ?_)
  exact ⟨rfl, rfl⟩

theorem lgRoom_ok (g r : Nat) (sl : Sl) (G : Lg) (hG : G.wf) :
    CtV Try.prog 24 [.pointer (some ⟨g, 0, none⟩)] [(g, cel (lgL r sl G) 155)] (.int .i64 G.room) := by
  have h3 := hG.len
  have hj := of_decide_eq_true hG.may
  refine Ct.of (N := 22) (rs := [.tmp 2]) Try.func24 rfl rfl rfl (Nat.le_of_ble_eq_true rfl) (fun B => ?_)
  refine XK.seq ?_
  refine XK.region ?_
  refine XO.val rfl rfl (OV.asg (v := .int _ _) rfl) ?_
  refine XO.nil ?_
  refine XK.seq ?_
  refine XK.seq ?_
  refine XK.region ?_
  refine XO.val rfl rfl (OV.mv (v := .pointer _) rfl) ?_
  refine XO.callV (cap := []) rfl rfl (.cons (v := .pointer _) rfl .nil) Try.call76 (lgThere_ok g r sl G) (by repeat (first | exact Sel.nil | refine Sel.cons (by repeat (first | exact Del.hd | apply Del.tl | apply Del.app)) (by repeat (first | exact List.Mem.head _ | apply List.Mem.tail | apply List.mem_append_right)) ?_)) ?_
  refine XO.val rfl rfl (OV.notB rfl) ?_
  refine XO.val rfl rfl (OV.mv (v := .bool _) rfl) ?_
  refine XO.guard_t rfl rfl ?_
  refine XO.val rfl rfl (OV.mv (v := .pointer _) rfl) ?_
  refine XO.guard_t rfl rfl ?_
  refine XO.callV (cap := []) rfl rfl (.cons (v := .pointer _) rfl .nil) Try.call23 (lgNext_ok g r sl G hG) (by repeat (first | exact Sel.nil | refine Sel.cons (by repeat (first | exact Del.hd | apply Del.tl | apply Del.app)) (by repeat (first | exact List.Mem.head _ | apply List.Mem.tail | apply List.mem_append_right)) ?_)) ?_
  refine XO.guard_t rfl rfl ?_
  refine XO.val rfl rfl (OV.geq rfl rfl) ?_
  refine XO.val rfl rfl (OV.pick_f (v := .bool _) rfl rfl) ?_
  refine XO.nil ?_
  refine XK.split (t := 10) rfl (fun hh1 => ?_) (fun hh1 => ?_)
  · replace hh1 := of_decide_eq_true hh1
    refine XK.cond_t rfl ?_
    refine XK.seq ?_
    refine XK.region ?_
    refine XO.val rfl rfl (OV.asg (v := .int _ _) rfl) ?_
    refine XO.nil ?_
    refine XK.retTo (Fin.ret (.cons (.tmp (v := .int _ _) rfl) .nil) .nil (by simp) ?_)
    refine ⟨congrArg (Value.int .i64) ?_, rfl⟩
    simp only [Lg.room]
    first | rw [if_pos ‹_›] | rw [if_neg ‹_›]
  · replace hh1 := of_decide_eq_false hh1
    refine XK.cond_f rfl ?_
    refine XK.skip ?_
    refine XK.seq ?_
    refine XK.draw [0, 1, 2, 3, 4, 5, 6, 7, 8, 9, 10, 11] [] [] [0, 1, 2, 3, 4, 5, 6, 7, 8, 9, 10, 11] Red3_mixed (by kernel_rfl) alc_none ?_
    refine TR.v rfl rfl .n rfl rfl rfl (OV.mv (v := .pointer _) rfl) ?_
    refine TR.v rfl rfl .n rfl rfl rfl (OV.nilc rfl) ?_
    refine TR.v rfl rfl .n rfl rfl rfl (OV.fa rfl Red3_fa_155_1) ?_
    refine TR.v rfl rfl .n rfl rfl rfl (OV.fa rfl Red3_fa_23_3) ?_
    refine TR.v rfl rfl .n rfl rfl rfl (OV.ld rfl Try.isAgg3 (by repeat (first | exact List.Mem.head _ | apply List.Mem.tail | apply List.mem_append_right)) rfl) ?_
    refine TR.v rfl rfl .n rfl rfl rfl (OV.mv (v := .pointer _) rfl) ?_
    refine TR.v rfl rfl .n rfl rfl rfl (OV.nilc rfl) ?_
    refine TR.v rfl rfl .n rfl rfl rfl (OV.fa rfl Red3_fa_155_6) ?_
    refine TR.v rfl rfl .n rfl rfl rfl (OV.ld rfl Try.isAgg43 (by repeat (first | exact List.Mem.head _ | apply List.Mem.tail | apply List.mem_append_right)) rfl) ?_
    refine TR.v rfl rfl .n rfl rfl rfl (OV.lenS rfl Try.runUnderlying43) ?_
    refine TR.v rfl rfl .n rfl rfl rfl (OV.sub rfl rfl (wrap_in (by omega))) ?_
    refine TR.v rfl rfl .n rfl rfl rfl (OV.asg (v := .int _ _) rfl) ?_
    refine TR.nil ?_
    refine XK.retTo (Fin.ret (.cons (.tmp (v := .int _ _) rfl) .nil) .nil (by simp) ?_)
    refine ⟨congrArg (Value.int .i64) ?_, rfl⟩
    simp only [Lg.room]
    first | rw [if_pos ‹_›] | rw [if_neg ‹_›]

theorem job_ok  :
    CtV Try.prog 72 [] [] (jobV ⟨2, 1, 1, 4, 2⟩) := by
  refine Ct.of (N := 2) (rs := [.cell 0 23]) Try.func72 rfl rfl rfl (Nat.le_of_ble_eq_true rfl) (fun B => ?_)
  refine XK.seq ?_
  refine XK.region ?_
  refine XO.alloc rfl Red3_zv_23 rfl (fun r0 hr0 => ?_)
  refine XO.nil ?_
  refine XK.seq ?_
  refine XK.region ?_
  refine XO.val rfl rfl (OV.bld (qs := [(0, .int .i64 _), (1, .int .i64 _), (2, .int .i64 _), (3, .int .i64 _), (4, .int .i64 _)]) (.cons (v := .int _ _) rfl (.cons (v := .int _ _) rfl (.cons (v := .int _ _) rfl (.cons (v := .int _ _) rfl (.cons (v := .int _ _) rfl .nil))))) rfl (Red3_bld_23_0_1_2_3_4 _ _ _ _ _)) ?_
  refine XO.stA rfl rfl (ones_of rfl) Try.sizeOf23 (by (first | assumption | (simp only [List.length_append, bys_length, b4_len, zrs_len, headB_len, putHead_len, List.length_replicate, List.length_cons, List.length_nil, List.length_set, List.length_take, List.length_drop, recL_len]; done) | (simp only [List.length_append, bys_length, b4_len, zrs_len, headB_len, putHead_len, List.length_replicate, List.length_cons, List.length_nil, List.length_set, List.length_take, List.length_drop, recL_len]; omega) | rfl | (simp [*, bys_length]; done) | (simp [*, bys_length]; omega))) (by repeat (first | exact Put.hd | apply Put.tl | apply Put.app)) (by first | exact splice_all (by (first | assumption | (simp only [List.length_append, bys_length, b4_len, zrs_len, headB_len, putHead_len, List.length_replicate, List.length_cons, List.length_nil, List.length_set, List.length_take, List.length_drop, recL_len]; done) | (simp only [List.length_append, bys_length, b4_len, zrs_len, headB_len, putHead_len, List.length_replicate, List.length_cons, List.length_nil, List.length_set, List.length_take, List.length_drop, recL_len]; omega) | rfl | (simp [*, bys_length]; done) | (simp [*, bys_length]; omega))) | rfl) (by (first | (simp only [List.length_append, bys_length, b4_len, zrs_len, headB_len, putHead_len, List.length_replicate, List.length_cons, List.length_nil, List.length_set, List.length_take, List.length_drop, recL_len]; omega) | omega | exact Nat.le_of_ble_eq_true rfl | (simp; done) | (simp; omega))) (by (first | exact .inr ‹_› | (left; ((repeat (first | exact List.Mem.head _ | apply List.Mem.tail)))))) ?_
  refine XO.nil ?_
  refine XK.retTo (Fin.ret (.cons (.cellA rfl Try.isAgg23 Try.sizeOf23 (by repeat (first | exact List.Mem.head _ | apply List.Mem.tail | apply List.mem_append_right)) (grab_all (by (first | assumption | (simp only [List.length_append, bys_length, b4_len, zrs_len, headB_len, putHead_len, List.length_replicate, List.length_cons, List.length_nil, List.length_set, List.length_take, List.length_drop, recL_len]; done) | (simp only [List.length_append, bys_length, b4_len, zrs_len, headB_len, putHead_len, List.length_replicate, List.length_cons, List.length_nil, List.length_set, List.length_take, List.length_drop, recL_len]; omega) | rfl | (simp [*, bys_length]; done) | (simp [*, bys_length]; omega)))) (by (first | assumption | (simp only [List.length_append, bys_length, b4_len, zrs_len, headB_len, putHead_len, List.length_replicate, List.length_cons, List.length_nil, List.length_set, List.length_take, List.length_drop, recL_len]; done) | (simp only [List.length_append, bys_length, b4_len, zrs_len, headB_len, putHead_len, List.length_replicate, List.length_cons, List.length_nil, List.length_set, List.length_take, List.length_drop, recL_len]; omega) | rfl | (simp [*, bys_length]; done) | (simp [*, bys_length]; omega)))) .nil) .nil (by simp) ?_)
  exact ⟨rfl, rfl⟩

end Go.Proofs.Ythophgadmkjamaa
