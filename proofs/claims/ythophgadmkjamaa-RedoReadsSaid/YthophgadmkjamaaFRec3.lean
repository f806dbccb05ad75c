/- Contracts of functions, printed by a program of this claim (wip/tools/gen.py). -/
import Derived.Test.YthophgadmkjamaaFRec2
import Derived.KernelRfl
set_option maxRecDepth 20000
set_option linter.unusedVariables false
set_option linter.unusedSimpArgs false
namespace Go.Proofs.Ythophgadmkjamaa
open Go Go.Mw Go.Proofs

theorem Rec3_fa_52_0 : FA Try.prog 52 0 0 := FA.of (n := 0) Try.runUnderlying52 rfl rfl Try.sizeOf3
theorem Rec3_fa_52_3 : FA Try.prog 52 3 3 := FA.of (n := 0) Try.runUnderlying52 rfl rfl Try.sizeOf3
theorem Rec3_fa_52_1 : FA Try.prog 52 1 1 := FA.of (n := 0) Try.runUnderlying52 rfl rfl Try.sizeOf2
theorem Rec3_fa_52_2 : FA Try.prog 52 2 2 := FA.of (n := 0) Try.runUnderlying52 rfl rfl Try.sizeOf2
theorem Rec3_fa_52_4 : FA Try.prog 52 4 4 := FA.of (n := 0) Try.runUnderlying52 rfl rfl Try.sizeOf2
theorem Rec3_zv_158 : ∀ w, (zeroValue 158).run Try.prog w = .ok (.agg (List.toArray (bys (zrs 128)))) w := fun w => by kernel_rfl
theorem Rec3_mixed : Try.prog.follows .mixedOrders = true := by kernel_rfl
theorem Rec3_fa_52_5 : FA Try.prog 52 5 5 := FA.of (n := 95) Try.runUnderlying52 rfl rfl Try.sizeOf34

theorem recMay_ok (r : Rcd) :
    CtV Try.prog 170 [recV r] [] (.bool r.may) := by
  refine Ct.of (N := 26) (rs := [.tmp 2]) Try.func170 rfl rfl rfl (Nat.le_of_ble_eq_true rfl) (fun B => ?_)
  refine XK.seq ?_
  refine XK.region ?_
  refine XO.box (v := .agg _) rfl rfl rfl (fun r1 hr1 => ?_)
  refine XO.val rfl rfl (OV.asg (v := .bool _) rfl) ?_
  refine XO.nil ?_
  refine XK.seq ?_
  refine XK.region ?_
  refine XO.val rfl rfl (OV.fa rfl Rec3_fa_52_0) ?_
  refine XO.val rfl rfl (OV.ld rfl Try.isAgg3 (by repeat (first | exact List.Mem.head _ | apply List.Mem.tail | apply List.mem_append_right)) rfl) ?_
  refine XO.callV (cap := []) rfl rfl (.cons (v := .int _ _) rfl (.cons (v := .int _ _) rfl (.cons (v := .int _ _) rfl .nil))) Try.call175 (within_ok _ _ _) (by repeat (first | exact Sel.nil | refine Sel.cons (by repeat (first | exact Del.hd | apply Del.tl | apply Del.app)) (by repeat (first | exact List.Mem.head _ | apply List.Mem.tail | apply List.mem_append_right)) ?_)) ?_
  refine XO.val rfl rfl (OV.mv (v := .bool _) rfl) ?_
  refine XO.split (t := 6) rfl (fun hh1 => ?_) (fun hh1 => ?_)
  · try replace hh1 := of_decide_eq_true hh1
    refine XO.guard_t rfl rfl ?_
    refine XO.val rfl rfl (OV.fa rfl Rec3_fa_52_3) ?_
    refine XO.guard_t rfl rfl ?_
    refine XO.val rfl rfl (OV.ld rfl Try.isAgg3 (by repeat (first | exact List.Mem.head _ | apply List.Mem.tail | apply List.mem_append_right)) rfl) ?_
    refine XO.guard_t rfl rfl ?_
    refine XO.callV (cap := []) rfl rfl (.cons (v := .int _ _) rfl (.cons (v := .int _ _) rfl (.cons (v := .int _ _) rfl .nil))) Try.call175 (within_ok _ _ _) (by repeat (first | exact Sel.nil | refine Sel.cons (by repeat (first | exact Del.hd | apply Del.tl | apply Del.app)) (by repeat (first | exact List.Mem.head _ | apply List.Mem.tail | apply List.mem_append_right)) ?_)) ?_
    refine XO.val rfl rfl (OV.pick_t (v := .bool _) rfl rfl) ?_
    refine XO.val rfl rfl (OV.mv (v := .bool _) rfl) ?_
    refine XO.split (t := 11) rfl (fun hh2 => ?_) (fun hh2 => ?_)
    · try replace hh2 := of_decide_eq_true hh2
      refine XO.guard_t rfl rfl ?_
      refine XO.val rfl rfl (OV.fa rfl Rec3_fa_52_1) ?_
      refine XO.guard_t rfl rfl ?_
      refine XO.val rfl rfl (OV.ld rfl Try.isAgg2 (by repeat (first | exact List.Mem.head _ | apply List.Mem.tail | apply List.mem_append_right)) rfl) ?_
      refine XO.guard_t rfl rfl ?_
      refine XO.callV (cap := []) rfl rfl (.cons (v := .int _ _) rfl (.cons (v := .int _ _) rfl (.cons (v := .int _ _) rfl .nil))) Try.call175 (within_ok _ _ _) (by repeat (first | exact Sel.nil | refine Sel.cons (by repeat (first | exact Del.hd | apply Del.tl | apply Del.app)) (by repeat (first | exact List.Mem.head _ | apply List.Mem.tail | apply List.mem_append_right)) ?_)) ?_
      refine XO.val rfl rfl (OV.pick_t (v := .bool _) rfl rfl) ?_
      refine XO.val rfl rfl (OV.mv (v := .bool _) rfl) ?_
      refine XO.split (t := 16) rfl (fun hh3 => ?_) (fun hh3 => ?_)
      · try replace hh3 := of_decide_eq_true hh3
        refine XO.guard_t rfl rfl ?_
        refine XO.val rfl rfl (OV.fa rfl Rec3_fa_52_2) ?_
        refine XO.guard_t rfl rfl ?_
        refine XO.val rfl rfl (OV.ld rfl Try.isAgg2 (by repeat (first | exact List.Mem.head _ | apply List.Mem.tail | apply List.mem_append_right)) rfl) ?_
        refine XO.guard_t rfl rfl ?_
        refine XO.callV (cap := []) rfl rfl (.cons (v := .int _ _) rfl (.cons (v := .int _ _) rfl (.cons (v := .int _ _) rfl .nil))) Try.call175 (within_ok _ _ _) (by repeat (first | exact Sel.nil | refine Sel.cons (by repeat (first | exact Del.hd | apply Del.tl | apply Del.app)) (by repeat (first | exact List.Mem.head _ | apply List.Mem.tail | apply List.mem_append_right)) ?_)) ?_
        refine XO.val rfl rfl (OV.pick_t (v := .bool _) rfl rfl) ?_
        refine XO.val rfl rfl (OV.mv (v := .bool _) rfl) ?_
        refine XO.split (t := 21) rfl (fun hh4 => ?_) (fun hh4 => ?_)
        · try replace hh4 := of_decide_eq_true hh4
          refine XO.guard_t rfl rfl ?_
          refine XO.val rfl rfl (OV.fa rfl Rec3_fa_52_4) ?_
          refine XO.guard_t rfl rfl ?_
          refine XO.val rfl rfl (OV.ld rfl Try.isAgg2 (by repeat (first | exact List.Mem.head _ | apply List.Mem.tail | apply List.mem_append_right)) rfl) ?_
          refine XO.guard_t rfl rfl ?_
          refine XO.callV (cap := []) rfl rfl (.cons (v := .int _ _) rfl (.cons (v := .int _ _) rfl (.cons (v := .int _ _) rfl .nil))) Try.call175 (within_ok _ _ _) (by repeat (first | exact Sel.nil | refine Sel.cons (by repeat (first | exact Del.hd | apply Del.tl | apply Del.app)) (by repeat (first | exact List.Mem.head _ | apply List.Mem.tail | apply List.mem_append_right)) ?_)) ?_
          refine XO.val rfl rfl (OV.pick_t (v := .bool _) rfl rfl) ?_
          refine XO.val rfl rfl (OV.asg (v := .bool _) rfl) ?_
          refine XO.nil ?_
          refine XK.retTo (Fin.ret (.cons (.tmp (v := .bool _) rfl) .nil) .nil (by simp) ?_)
          refine ⟨congrArg Value.bool ?_, rfl⟩
          simp only [Rcd.may]
          first | exact decide_eq_decide.2 (by omega) | exact (decide_eq_false (by omega)).symm
        · try replace hh4 := of_decide_eq_false hh4
          iterate 3 refine XO.guard_f rfl rfl rfl rfl ?_
          refine XO.val rfl rfl (OV.pick_f (v := .bool _) rfl rfl) ?_
          refine XO.val rfl rfl (OV.asg (v := .bool _) rfl) ?_
          refine XO.nil ?_
          refine XK.retTo (Fin.ret (.cons (.tmp (v := .bool _) rfl) .nil) .nil (by simp) ?_)
          refine ⟨congrArg Value.bool ?_, rfl⟩
          simp only [Rcd.may]
          first | exact decide_eq_decide.2 (by omega) | exact (decide_eq_false (by omega)).symm
      · try replace hh3 := of_decide_eq_false hh3
        iterate 3 refine XO.guard_f rfl rfl rfl rfl ?_
        refine XO.val rfl rfl (OV.pick_f (v := .bool _) rfl rfl) ?_
        refine XO.val rfl rfl (OV.mv (v := .bool _) rfl) ?_
        iterate 3 refine XO.guard_f rfl rfl rfl rfl ?_
        refine XO.val rfl rfl (OV.pick_f (v := .bool _) rfl rfl) ?_
        refine XO.val rfl rfl (OV.asg (v := .bool _) rfl) ?_
        refine XO.nil ?_
        refine XK.retTo (Fin.ret (.cons (.tmp (v := .bool _) rfl) .nil) .nil (by simp) ?_)
        refine ⟨congrArg Value.bool ?_, rfl⟩
        simp only [Rcd.may]
        first | exact decide_eq_decide.2 (by omega) | exact (decide_eq_false (by omega)).symm
    · try replace hh2 := of_decide_eq_false hh2
      iterate 3 refine XO.guard_f rfl rfl rfl rfl ?_
      refine XO.val rfl rfl (OV.pick_f (v := .bool _) rfl rfl) ?_
      refine XO.val rfl rfl (OV.mv (v := .bool _) rfl) ?_
      iterate 3 refine XO.guard_f rfl rfl rfl rfl ?_
      refine XO.val rfl rfl (OV.pick_f (v := .bool _) rfl rfl) ?_
      refine XO.val rfl rfl (OV.mv (v := .bool _) rfl) ?_
      iterate 3 refine XO.guard_f rfl rfl rfl rfl ?_
      refine XO.val rfl rfl (OV.pick_f (v := .bool _) rfl rfl) ?_
      refine XO.val rfl rfl (OV.asg (v := .bool _) rfl) ?_
      refine XO.nil ?_
      refine XK.retTo (Fin.ret (.cons (.tmp (v := .bool _) rfl) .nil) .nil (by simp) ?_)
      refine ⟨congrArg Value.bool ?_, rfl⟩
      simp only [Rcd.may]
      first | exact decide_eq_decide.2 (by omega) | exact (decide_eq_false (by omega)).symm
  · try replace hh1 := of_decide_eq_false hh1
    iterate 3 refine XO.guard_f rfl rfl rfl rfl ?_
    refine XO.val rfl rfl (OV.pick_f (v := .bool _) rfl rfl) ?_
    refine XO.val rfl rfl (OV.mv (v := .bool _) rfl) ?_
    iterate 3 refine XO.guard_f rfl rfl rfl rfl ?_
    refine XO.val rfl rfl (OV.pick_f (v := .bool _) rfl rfl) ?_
    refine XO.val rfl rfl (OV.mv (v := .bool _) rfl) ?_
    iterate 3 refine XO.guard_f rfl rfl rfl rfl ?_
    refine XO.val rfl rfl (OV.pick_f (v := .bool _) rfl rfl) ?_
    refine XO.val rfl rfl (OV.mv (v := .bool _) rfl) ?_
    iterate 3 refine XO.guard_f rfl rfl rfl rfl ?_
    refine XO.val rfl rfl (OV.pick_f (v := .bool _) rfl rfl) ?_
    refine XO.val rfl rfl (OV.asg (v := .bool _) rfl) ?_
    refine XO.nil ?_
    refine XK.retTo (Fin.ret (.cons (.tmp (v := .bool _) rfl) .nil) .nil (by simp) ?_)
    refine ⟨congrArg Value.bool ?_, rfl⟩
    simp only [Rcd.may]
    first | exact decide_eq_decide.2 (by omega) | exact (decide_eq_false (by omega)).symm

theorem recPut_ok (r : Rcd) (hb : r.body.length = 96) :
    CtV Try.prog 77 [recV r] [] (.tuple (List.toArray [.agg (List.toArray (bys (putRec r).1)), .int .i64 (putRec r).2])) := by
  refine Ct.of (N := 60) (rs := [.cell 2 158, .tmp 3]) Try.func77 rfl rfl rfl (Nat.le_of_ble_eq_true rfl) (fun B => ?_)
  refine XK.seq ?_
  refine XK.region ?_
  refine XO.box (v := .agg _) rfl rfl rfl (fun r1 hr1 => ?_)
  refine XO.alloc rfl Rec3_zv_158 rfl (fun r2 hr2 => ?_)
  refine XO.val rfl rfl (OV.asg (v := .int _ _) rfl) ?_
  refine XO.nil ?_
  refine XK.seq ?_
  refine XK.region ?_
  refine XO.alloc rfl Rec3_zv_158 rfl (fun r4 hr4 => ?_)
  refine XO.nil ?_
  refine XK.seq ?_
  refine XK.seq ?_
  refine XK.region ?_
  refine XO.val rfl rfl (OV.ldA rfl Try.isAgg52 Try.sizeOf52 (by repeat (first | exact List.Mem.head _ | apply List.Mem.tail | apply List.mem_append_right)) (grab_all (by (first | assumption | (simp only [List.length_append, bys_length, b4_len, zrs_len, headB_len, putHead_len, List.length_replicate, List.length_cons, List.length_nil, List.length_set, List.length_take, List.length_drop, recL_len]; done) | (simp only [List.length_append, bys_length, b4_len, zrs_len, headB_len, putHead_len, List.length_replicate, List.length_cons, List.length_nil, List.length_set, List.length_take, List.length_drop, recL_len]; omega) | rfl | (simp [*, bys_length]; done) | (simp [*, bys_length]; omega)))) (by (first | assumption | (simp only [List.length_append, bys_length, b4_len, zrs_len, headB_len, putHead_len, List.length_replicate, List.length_cons, List.length_nil, List.length_set, List.length_take, List.length_drop, recL_len]; done) | (simp only [List.length_append, bys_length, b4_len, zrs_len, headB_len, putHead_len, List.length_replicate, List.length_cons, List.length_nil, List.length_set, List.length_take, List.length_drop, recL_len]; omega) | rfl | (simp [*, bys_length]; done) | (simp [*, bys_length]; omega)))) ?_
  refine XO.callV (cap := []) rfl rfl (.cons (v := .agg _) rfl .nil) Try.call170 (recMay_ok r) (by repeat (first | exact Sel.nil | refine Sel.cons (by repeat (first | exact Del.hd | apply Del.tl | apply Del.app)) (by repeat (first | exact List.Mem.head _ | apply List.Mem.tail | apply List.mem_append_right)) ?_)) ?_
  refine XO.val rfl rfl (OV.notB rfl) ?_
  refine XO.nil ?_
  refine XK.split (t := 10) rfl (fun hh1 => ?_) (fun hh1 => ?_)
  · replace hh1 := bnot_t hh1
    try replace hh1 := of_decide_eq_false hh1
    have hm : ¬ (r.may = true) := fun h => hh1 (of_decide_eq_true h)
    refine XK.cond_t rfl ?_
    refine XK.seq ?_
    refine XK.region ?_
    refine XO.val rfl rfl (OV.ldA rfl Try.isAgg158 Try.sizeOf158 (by repeat (first | exact List.Mem.head _ | apply List.Mem.tail | apply List.mem_append_right)) (grab_all (by (first | assumption | (simp only [List.length_append, bys_length, b4_len, zrs_len, headB_len, putHead_len, List.length_replicate, List.length_cons, List.length_nil, List.length_set, List.length_take, List.length_drop, recL_len]; done) | (simp only [List.length_append, bys_length, b4_len, zrs_len, headB_len, putHead_len, List.length_replicate, List.length_cons, List.length_nil, List.length_set, List.length_take, List.length_drop, recL_len]; omega) | rfl | (simp [*, bys_length]; done) | (simp [*, bys_length]; omega)))) (by (first | assumption | (simp only [List.length_append, bys_length, b4_len, zrs_len, headB_len, putHead_len, List.length_replicate, List.length_cons, List.length_nil, List.length_set, List.length_take, List.length_drop, recL_len]; done) | (simp only [List.length_append, bys_length, b4_len, zrs_len, headB_len, putHead_len, List.length_replicate, List.length_cons, List.length_nil, List.length_set, List.length_take, List.length_drop, recL_len]; omega) | rfl | (simp [*, bys_length]; done) | (simp [*, bys_length]; omega)))) ?_
    refine XO.stA rfl rfl (by (repeat (first | with_reducible (apply one_app) | with_reducible exact bys_one | with_reducible exact recL_one _ | with_reducible exact one_rep rfl | exact ones_of rfl | exact bys_one))) Try.sizeOf158 (by (first | assumption | (simp only [List.length_append, bys_length, b4_len, zrs_len, headB_len, putHead_len, List.length_replicate, List.length_cons, List.length_nil, List.length_set, List.length_take, List.length_drop, recL_len]; done) | (simp only [List.length_append, bys_length, b4_len, zrs_len, headB_len, putHead_len, List.length_replicate, List.length_cons, List.length_nil, List.length_set, List.length_take, List.length_drop, recL_len]; omega) | rfl | (simp [*, bys_length]; done) | (simp [*, bys_length]; omega))) (by repeat (first | exact Put.hd | apply Put.tl | apply Put.app)) (by first | exact splice_all (by (first | assumption | (simp only [List.length_append, bys_length, b4_len, zrs_len, headB_len, putHead_len, List.length_replicate, List.length_cons, List.length_nil, List.length_set, List.length_take, List.length_drop, recL_len]; done) | (simp only [List.length_append, bys_length, b4_len, zrs_len, headB_len, putHead_len, List.length_replicate, List.length_cons, List.length_nil, List.length_set, List.length_take, List.length_drop, recL_len]; omega) | rfl | (simp [*, bys_length]; done) | (simp [*, bys_length]; omega))) | rfl) (by (first | (simp only [List.length_append, bys_length, b4_len, zrs_len, headB_len, putHead_len, List.length_replicate, List.length_cons, List.length_nil, List.length_set, List.length_take, List.length_drop, recL_len]; omega) | omega | exact Nat.le_of_ble_eq_true rfl | (simp; done) | (simp; omega))) (by (first | exact .inr ‹_› | (left; ((repeat (first | exact List.Mem.head _ | apply List.Mem.tail)))))) ?_
    refine XO.val rfl rfl (OV.asg (v := .int _ _) rfl) ?_
    refine XO.nil ?_
    refine XK.retTo (Fin.ret (.cons (.cellA rfl Try.isAgg158 Try.sizeOf158 (by repeat (first | exact List.Mem.head _ | apply List.Mem.tail | apply List.mem_append_right)) (grab_all (by (first | assumption | (simp only [List.length_append, bys_length, b4_len, zrs_len, headB_len, putHead_len, List.length_replicate, List.length_cons, List.length_nil, List.length_set, List.length_take, List.length_drop, recL_len]; done) | (simp only [List.length_append, bys_length, b4_len, zrs_len, headB_len, putHead_len, List.length_replicate, List.length_cons, List.length_nil, List.length_set, List.length_take, List.length_drop, recL_len]; omega) | rfl | (simp [*, bys_length]; done) | (simp [*, bys_length]; omega)))) (by (first | assumption | (simp only [List.length_append, bys_length, b4_len, zrs_len, headB_len, putHead_len, List.length_replicate, List.length_cons, List.length_nil, List.length_set, List.length_take, List.length_drop, recL_len]; done) | (simp only [List.length_append, bys_length, b4_len, zrs_len, headB_len, putHead_len, List.length_replicate, List.length_cons, List.length_nil, List.length_set, List.length_take, List.length_drop, recL_len]; omega) | rfl | (simp [*, bys_length]; done) | (simp [*, bys_length]; omega)))) (.cons (.tmp (v := .int _ _) rfl) .nil)) .nil (by simp) ?_)
    refine ⟨?_, rfl⟩
    simp only [putRec]
    first | (rw [if_neg hm]; rfl) | (rw [if_pos ‹_›]; simp only [half, bys_append, bys_zrs, List.nil_append, List.append_assoc]; rfl)
  · replace hh1 := bnot_f hh1
    try replace hh1 := of_decide_eq_true hh1
    have hm : r.may = true := decide_eq_true hh1
    refine XK.cond_f rfl ?_
    refine XK.skip ?_
    refine XK.seq ?_
    refine XK.seq ?_
    refine XK.region ?_
    refine XO.val rfl rfl (OV.mv (v := .int _ _) rfl) ?_
    refine XO.nil ?_
    refine XK.block ?_
    refine XK.loopN 3 ?_
    refine rnds.one ?_
    refine XK.seq ?_
    refine XK.region ?_
    refine XO.val rfl rfl (OV.lss rfl rfl) ?_
    refine XO.nil ?_
    refine XK.seq ?_
    refine XK.say (u := .bool true) (v := .bool true) 13 rfl rfl ?_
    refine XK.cond_t rfl ?_
    refine XK.skip ?_
    refine XK.seq ?_
    refine XK.block ?_
    refine XK.seq ?_
    refine XK.region ?_
    refine XO.val rfl rfl (OV.mv (v := .int _ _) rfl) ?_
    refine XO.val rfl rfl (OV.asg (v := .int _ _) rfl) ?_
    refine XO.nil ?_
    refine XK.seq ?_
    refine XK.region ?_
    refine XO.val rfl rfl (OV.mv (v := .int _ _) rfl) ?_
    refine XO.val rfl rfl (OV.ixA rfl rfl Try.runUnderlying158 Try.sizeOf157 (by decide) (by decide)) ?_
    refine XO.val rfl rfl (OV.asg (v := .pointer _) rfl) ?_
    refine XO.nil ?_
    refine XK.seq ?_
    refine XK.draw [0, 1, 2, 3, 4, 5, 6, 7, 8, 9, 10, 11, 12, 13, 15, 16] [] [1, 7, 10, 11, 15] [0, 1, 2, 3, 4, 5, 6, 7, 8, 9, 10, 11, 12, 13, 15, 14, 16, 17] Rec3_mixed (by kernel_rfl) alc_none ?_
    refine TR.v rfl rfl .n rfl rfl rfl (OV.mv (v := .pointer _) rfl) ?_
    refine TR.vf rfl rfl .n rfl rfl rfl (OV.mv (v := .pointer _) rfl) ?_
    refine TR.cv (cap := []) rfl rfl .n rfl rfl rfl .nil Try.call171 (tags_ok) (by repeat (first | exact Sel.nil | refine Sel.cons (by repeat (first | exact Del.hd | apply Del.tl | apply Del.app)) (by repeat (first | exact List.Mem.head _ | apply List.Mem.tail | apply List.mem_append_right)) ?_)) ?_
    refine TR.v rfl rfl .n rfl rfl rfl (OV.mv (v := .int _ _) rfl) ?_
    refine TR.v rfl rfl .n rfl rfl rfl (OV.ixV rfl rfl Try.runUnderlying284 Try.isAgg5 Try.sizeOf5 (by decide) (by decide) rfl) ?_
    refine TR.v rfl rfl .n rfl rfl rfl (OV.fa rfl Rec3_fa_52_0) ?_
    refine TR.v rfl rfl .n rfl rfl rfl (OV.ld rfl Try.isAgg3 (by repeat (first | exact List.Mem.head _ | apply List.Mem.tail | apply List.mem_append_right)) rfl) ?_
    refine TR.vf rfl rfl .n rfl rfl rfl (OV.shl rfl rfl (by decide) (shl4 (by omega))) ?_
    refine TR.v rfl rfl .n rfl rfl rfl (OV.fa rfl Rec3_fa_52_3) ?_
    refine TR.v rfl rfl .n rfl rfl rfl (OV.ld rfl Try.isAgg3 (by repeat (first | exact List.Mem.head _ | apply List.Mem.tail | apply List.mem_append_right)) rfl) ?_
    refine TR.vf rfl rfl .n rfl rfl rfl (OV.orB rfl rfl (or4 (by omega) (by omega))) ?_
    refine TR.vf rfl rfl .n rfl rfl rfl (OV.cvt rfl Try.runUnderlying3 rfl Try.runUnderlying5 (IntKind.wrap_u8 _)) ?_
    refine TR.v rfl rfl .n rfl rfl rfl (OV.nilc rfl) ?_
    refine TR.v rfl rfl .n rfl rfl rfl (OV.ixA rfl rfl Try.runUnderlying157 Try.sizeOf5 (by decide) (by decide)) ?_
    refine TR.vf rfl rfl .n rfl rfl rfl (OV.nilc rfl) ?_
    refine TR.go rfl rfl rfl rfl ?_
    refine XO.st rfl (v := .int _ _) rfl rfl Try.sizeOf5 (by repeat (first | exact Put.hd | apply Put.tl | apply Put.app)) (by (first | (simp only [List.length_append, bys_length, b4_len, zrs_len, headB_len, putHead_len, List.length_replicate, List.length_cons, List.length_nil, List.length_set, List.length_take, List.length_drop, recL_len]; omega) | omega | exact Nat.le_of_ble_eq_true rfl | (simp; done) | (simp; omega))) (by (first | exact .inr ‹_› | (left; ((repeat (first | exact List.Mem.head _ | apply List.Mem.tail)))))) ?_
    apply XO.blk (r := r4)
    · (repeat (first | exact Put.hd | apply Put.tl | apply Put.app))
    · exact set_next (done := []) (m := 128) (n := 127) rfl rfl rfl
    refine TR.back ?_
    refine TR.v rfl rfl .n rfl rfl rfl (OV.ixA rfl rfl Try.runUnderlying157 Try.sizeOf5 (by decide) (by decide)) ?_
    refine TR.go rfl rfl rfl rfl ?_
    refine XO.st rfl (v := .int _ _) rfl rfl Try.sizeOf5 (by repeat (first | exact Put.hd | apply Put.tl | apply Put.app)) (by (first | (simp only [List.length_append, bys_length, b4_len, zrs_len, headB_len, putHead_len, List.length_replicate, List.length_cons, List.length_nil, List.length_set, List.length_take, List.length_drop, recL_len]; omega) | omega | exact Nat.le_of_ble_eq_true rfl | (simp; done) | (simp; omega))) (by (first | exact .inr ‹_› | (left; ((repeat (first | exact List.Mem.head _ | apply List.Mem.tail)))))) ?_
    apply XO.blk (r := r4)
    · (repeat (first | exact Put.hd | apply Put.tl | apply Put.app))
    · exact set_next (n := 126) rfl (by (first | assumption | (simp only [List.length_append, bys_length, b4_len, zrs_len, headB_len, putHead_len, List.length_replicate, List.length_cons, List.length_nil, List.length_set, List.length_take, List.length_drop, recL_len]; done) | (simp only [List.length_append, bys_length, b4_len, zrs_len, headB_len, putHead_len, List.length_replicate, List.length_cons, List.length_nil, List.length_set, List.length_take, List.length_drop, recL_len]; omega) | rfl | (simp [*, bys_length]; done) | (simp [*, bys_length]; omega))) (by (first | assumption | (simp only [List.length_append, bys_length, b4_len, zrs_len, headB_len, putHead_len, List.length_replicate, List.length_cons, List.length_nil, List.length_set, List.length_take, List.length_drop, recL_len]; done) | (simp only [List.length_append, bys_length, b4_len, zrs_len, headB_len, putHead_len, List.length_replicate, List.length_cons, List.length_nil, List.length_set, List.length_take, List.length_drop, recL_len]; omega) | rfl | (simp [*, bys_length]; done) | (simp [*, bys_length]; omega)))
    refine TR.back ?_
    refine TR.nil ?_
    refine XK.seq ?_
    refine XK.region ?_
    refine XO.val rfl rfl (OV.mv (v := .pointer _) rfl) ?_
    refine XO.callG (cap := []) rfl rfl (.cons (v := .pointer _) rfl (.cons (v := .int _ _) rfl .nil)) Try.call172 (putter_ok r4 (0 + Int.toNat 0 * 64) 2) .nil (by ((repeat (first | exact wrs_nil | (refine wrs_cons (by (first | exact .inr ‹_› | (left; ((repeat (first | exact List.Mem.head _ | apply List.Mem.tail)))))) ?_))))) .nil ?_
    rintro _ _ ⟨p0, q0, rfl, rfl⟩ hnew
    have hp0 : B.heap.size ≤ p0 := (hnew _ (.head _)).resolve_left (by simp)
    have hq0 : B.heap.size ≤ q0 := (hnew _ (.tail _ (.head _))).resolve_left (by simp)
    refine XO.val rfl rfl (OV.asg (v := .func _ _ _) rfl) ?_
    refine XO.nil ?_
    refine XK.seq ?_
    refine XK.region ?_
    refine XO.val rfl rfl (OV.mv (v := .func _ _ _) rfl) ?_
    refine XO.val rfl rfl (OV.fa rfl Rec3_fa_52_1) ?_
    refine XO.val rfl rfl (OV.ld rfl Try.isAgg2 (by repeat (first | exact List.Mem.head _ | apply List.Mem.tail | apply List.mem_append_right)) rfl) ?_
    refine XO.callM rfl rfl (.cons (v := .int _ _) rfl .nil) Try.call239 (put1_ok p0 q0 r4 (0 + Int.toNat 0 * 64) r.epoch 2 (([] ++ [.int .u8 177] ++ [.int .u8 ((r.node * 16 + r.page) % 256)]) ++ List.replicate 126 (.int .u8 0)) 158 (by omega) (by omega) (by (first | assumption | (simp only [List.length_append, bys_length, b4_len, zrs_len, headB_len, putHead_len, List.length_replicate, List.length_cons, List.length_nil, List.length_set, List.length_take, List.length_drop, recL_len]; done) | (simp only [List.length_append, bys_length, b4_len, zrs_len, headB_len, putHead_len, List.length_replicate, List.length_cons, List.length_nil, List.length_set, List.length_take, List.length_drop, recL_len]; omega) | rfl | (simp [*, bys_length]; done) | (simp [*, bys_length]; omega)))) (by repeat (first | exact Sel.nil | refine Sel.cons (by repeat (first | exact Del.hd | apply Del.tl | apply Del.app)) (by repeat (first | exact List.Mem.head _ | apply List.Mem.tail | apply List.mem_append_right)) ?_)) (by ((repeat (first | exact wrs_nil | (refine wrs_cons (by (first | exact .inr ‹_› | (left; ((repeat (first | exact List.Mem.head _ | apply List.Mem.tail)))))) ?_))))) (by repeat (first | exact Rem.nil | (apply Rem.cons; (repeat (first | exact Del.hd | apply Del.tl | apply Del.app))))) (by repeat (first | exact App.nil | apply App.cons)) ?_
    apply XO.blk (r := r4)
    · (repeat (first | exact Put.hd | apply Put.tl | apply Put.app))
    · exact splice_next (n := 122) rfl (by (first | assumption | (simp only [List.length_append, bys_length, b4_len, zrs_len, headB_len, putHead_len, List.length_replicate, List.length_cons, List.length_nil, List.length_set, List.length_take, List.length_drop, recL_len]; done) | (simp only [List.length_append, bys_length, b4_len, zrs_len, headB_len, putHead_len, List.length_replicate, List.length_cons, List.length_nil, List.length_set, List.length_take, List.length_drop, recL_len]; omega) | rfl | (simp [*, bys_length]; done) | (simp [*, bys_length]; omega))) (by (first | assumption | (simp only [List.length_append, bys_length, b4_len, zrs_len, headB_len, putHead_len, List.length_replicate, List.length_cons, List.length_nil, List.length_set, List.length_take, List.length_drop, recL_len]; done) | (simp only [List.length_append, bys_length, b4_len, zrs_len, headB_len, putHead_len, List.length_replicate, List.length_cons, List.length_nil, List.length_set, List.length_take, List.length_drop, recL_len]; omega) | rfl | (simp [*, bys_length]; done) | (simp [*, bys_length]; omega)))
    refine XO.nil ?_
    refine XK.seq ?_
    refine XK.region ?_
    refine XO.val rfl rfl (OV.mv (v := .func _ _ _) rfl) ?_
    refine XO.val rfl rfl (OV.fa rfl Rec3_fa_52_2) ?_
    refine XO.val rfl rfl (OV.ld rfl Try.isAgg2 (by repeat (first | exact List.Mem.head _ | apply List.Mem.tail | apply List.mem_append_right)) rfl) ?_
    refine XO.callM rfl rfl (.cons (v := .int _ _) rfl .nil) Try.call239 (put1_ok p0 q0 r4 (0 + Int.toNat 0 * 64) r.lsn (2 + 4) ((([] ++ [.int .u8 177] ++ [.int .u8 ((r.node * 16 + r.page) % 256)]) ++ bys (b4 r.epoch)) ++ List.replicate 122 (.int .u8 0)) 158 (by omega) (by omega) (by (first | assumption | (simp only [List.length_append, bys_length, b4_len, zrs_len, headB_len, putHead_len, List.length_replicate, List.length_cons, List.length_nil, List.length_set, List.length_take, List.length_drop, recL_len]; done) | (simp only [List.length_append, bys_length, b4_len, zrs_len, headB_len, putHead_len, List.length_replicate, List.length_cons, List.length_nil, List.length_set, List.length_take, List.length_drop, recL_len]; omega) | rfl | (simp [*, bys_length]; done) | (simp [*, bys_length]; omega)))) (by repeat (first | exact Sel.nil | refine Sel.cons (by repeat (first | exact Del.hd | apply Del.tl | apply Del.app)) (by repeat (first | exact List.Mem.head _ | apply List.Mem.tail | apply List.mem_append_right)) ?_)) (by ((repeat (first | exact wrs_nil | (refine wrs_cons (by (first | exact .inr ‹_› | (left; ((repeat (first | exact List.Mem.head _ | apply List.Mem.tail)))))) ?_))))) (by repeat (first | exact Rem.nil | (apply Rem.cons; (repeat (first | exact Del.hd | apply Del.tl | apply Del.app))))) (by repeat (first | exact App.nil | apply App.cons)) ?_
    apply XO.blk (r := r4)
    · (repeat (first | exact Put.hd | apply Put.tl | apply Put.app))
    · exact splice_next (n := 118) rfl (by (first | assumption | (simp only [List.length_append, bys_length, b4_len, zrs_len, headB_len, putHead_len, List.length_replicate, List.length_cons, List.length_nil, List.length_set, List.length_take, List.length_drop, recL_len]; done) | (simp only [List.length_append, bys_length, b4_len, zrs_len, headB_len, putHead_len, List.length_replicate, List.length_cons, List.length_nil, List.length_set, List.length_take, List.length_drop, recL_len]; omega) | rfl | (simp [*, bys_length]; done) | (simp [*, bys_length]; omega))) (by (first | assumption | (simp only [List.length_append, bys_length, b4_len, zrs_len, headB_len, putHead_len, List.length_replicate, List.length_cons, List.length_nil, List.length_set, List.length_take, List.length_drop, recL_len]; done) | (simp only [List.length_append, bys_length, b4_len, zrs_len, headB_len, putHead_len, List.length_replicate, List.length_cons, List.length_nil, List.length_set, List.length_take, List.length_drop, recL_len]; omega) | rfl | (simp [*, bys_length]; done) | (simp [*, bys_length]; omega)))
    refine XO.nil ?_
    refine XK.seq ?_
    refine XK.region ?_
    refine XO.val rfl rfl (OV.mv (v := .func _ _ _) rfl) ?_
    refine XO.val rfl rfl (OV.fa rfl Rec3_fa_52_4) ?_
    refine XO.val rfl rfl (OV.ld rfl Try.isAgg2 (by repeat (first | exact List.Mem.head _ | apply List.Mem.tail | apply List.mem_append_right)) rfl) ?_
    refine XO.callM rfl rfl (.cons (v := .int _ _) rfl .nil) Try.call239 (put1_ok p0 q0 r4 (0 + Int.toNat 0 * 64) r.psn ((2 + 4) + 4) (((([] ++ [.int .u8 177] ++ [.int .u8 ((r.node * 16 + r.page) % 256)]) ++ bys (b4 r.epoch)) ++ bys (b4 r.lsn)) ++ List.replicate 118 (.int .u8 0)) 158 (by omega) (by omega) (by (first | assumption | (simp only [List.length_append, bys_length, b4_len, zrs_len, headB_len, putHead_len, List.length_replicate, List.length_cons, List.length_nil, List.length_set, List.length_take, List.length_drop, recL_len]; done) | (simp only [List.length_append, bys_length, b4_len, zrs_len, headB_len, putHead_len, List.length_replicate, List.length_cons, List.length_nil, List.length_set, List.length_take, List.length_drop, recL_len]; omega) | rfl | (simp [*, bys_length]; done) | (simp [*, bys_length]; omega)))) (by repeat (first | exact Sel.nil | refine Sel.cons (by repeat (first | exact Del.hd | apply Del.tl | apply Del.app)) (by repeat (first | exact List.Mem.head _ | apply List.Mem.tail | apply List.mem_append_right)) ?_)) (by ((repeat (first | exact wrs_nil | (refine wrs_cons (by (first | exact .inr ‹_› | (left; ((repeat (first | exact List.Mem.head _ | apply List.Mem.tail)))))) ?_))))) (by repeat (first | exact Rem.nil | (apply Rem.cons; (repeat (first | exact Del.hd | apply Del.tl | apply Del.app))))) (by repeat (first | exact App.nil | apply App.cons)) ?_
    apply XO.blk (r := r4)
    · (repeat (first | exact Put.hd | apply Put.tl | apply Put.app))
    · exact splice_next (n := 114) rfl (by (first | assumption | (simp only [List.length_append, bys_length, b4_len, zrs_len, headB_len, putHead_len, List.length_replicate, List.length_cons, List.length_nil, List.length_set, List.length_take, List.length_drop, recL_len]; done) | (simp only [List.length_append, bys_length, b4_len, zrs_len, headB_len, putHead_len, List.length_replicate, List.length_cons, List.length_nil, List.length_set, List.length_take, List.length_drop, recL_len]; omega) | rfl | (simp [*, bys_length]; done) | (simp [*, bys_length]; omega))) (by (first | assumption | (simp only [List.length_append, bys_length, b4_len, zrs_len, headB_len, putHead_len, List.length_replicate, List.length_cons, List.length_nil, List.length_set, List.length_take, List.length_drop, recL_len]; done) | (simp only [List.length_append, bys_length, b4_len, zrs_len, headB_len, putHead_len, List.length_replicate, List.length_cons, List.length_nil, List.length_set, List.length_take, List.length_drop, recL_len]; omega) | rfl | (simp [*, bys_length]; done) | (simp [*, bys_length]; omega)))
    refine XO.nil ?_
    refine XK.draw [0, 1, 2, 3, 4, 5, 6, 7, 8, 9] [] [] [0, 1, 2, 3, 4, 5, 6, 7, 8, 9, 10] Rec3_mixed (by kernel_rfl) alc_none ?_
    refine TR.v rfl rfl .n rfl rfl rfl (OV.mv (v := .pointer _) rfl) ?_
    refine TR.v rfl rfl .n rfl rfl rfl (OV.nilc rfl) ?_
    refine TR.v rfl rfl .n rfl rfl rfl (OV.slA rfl Try.runUnderlying157 Try.sizeOf5 (l := 14) (h := 64) rfl rfl (by omega) (by omega) (by omega)) ?_
    refine TR.v rfl rfl .n rfl rfl rfl (OV.fa rfl Rec3_fa_52_5) ?_
    refine TR.v rfl rfl .n rfl rfl rfl (OV.mv (v := .int _ _) rfl) ?_
    refine TR.v rfl rfl .n rfl rfl rfl (OV.mul rfl rfl (wrap_in (by omega))) ?_
    refine TR.v rfl rfl .n rfl rfl rfl (OV.mv (v := .int _ _) rfl) ?_
    refine TR.v rfl rfl .n rfl rfl rfl (OV.add rfl rfl (wrap_in (by omega))) ?_
    refine TR.v rfl rfl .n rfl rfl rfl (OV.mul rfl rfl (wrap_in (by omega))) ?_
    refine TR.v rfl rfl .n rfl rfl rfl (OV.slA rfl Try.runUnderlying34 Try.sizeOf5 (l := 0) (h := 48) rfl rfl (by omega) (by omega) (by omega)) ?_
    refine TR.go rfl rfl rfl rfl ?_
    refine XO.cpy rfl rfl rfl Try.runUnderlying54 Try.sizeOf5 (by repeat (first | exact List.Mem.head _ | apply List.Mem.tail | apply List.mem_append_right)) (recL_mid r 0 48) (by (first | assumption | (simp only [List.length_append, bys_length, b4_len, zrs_len, headB_len, putHead_len, List.length_replicate, List.length_cons, List.length_nil, List.length_set, List.length_take, List.length_drop, recL_len]; done) | (simp only [List.length_append, bys_length, b4_len, zrs_len, headB_len, putHead_len, List.length_replicate, List.length_cons, List.length_nil, List.length_set, List.length_take, List.length_drop, recL_len]; omega) | rfl | (simp [*, bys_length]; done) | (simp [*, bys_length]; omega))) (by (repeat (first | with_reducible (apply one_app) | with_reducible exact bys_one | with_reducible exact recL_one _ | with_reducible exact one_rep rfl | exact ones_of rfl | exact bys_one))) (by repeat (first | exact Put.hd | apply Put.tl | apply Put.app)) rfl (by (first | (simp only [List.length_append, bys_length, b4_len, zrs_len, headB_len, putHead_len, List.length_replicate, List.length_cons, List.length_nil, List.length_set, List.length_take, List.length_drop, recL_len]; omega) | omega | exact Nat.le_of_ble_eq_true rfl | (simp; done) | (simp; omega))) (by (first | exact .inr ‹_› | (left; ((repeat (first | exact List.Mem.head _ | apply List.Mem.tail)))))) ?_
    apply XO.blk (r := r4)
    · (repeat (first | exact Put.hd | apply Put.tl | apply Put.app))
    · exact splice_next (n := 66) rfl (by (first | assumption | (simp only [List.length_append, bys_length, b4_len, zrs_len, headB_len, putHead_len, List.length_replicate, List.length_cons, List.length_nil, List.length_set, List.length_take, List.length_drop, recL_len]; done) | (simp only [List.length_append, bys_length, b4_len, zrs_len, headB_len, putHead_len, List.length_replicate, List.length_cons, List.length_nil, List.length_set, List.length_take, List.length_drop, recL_len]; omega) | rfl | (simp [*, bys_length]; done) | (simp [*, bys_length]; omega))) (by (first | assumption | (simp only [List.length_append, bys_length, b4_len, zrs_len, headB_len, putHead_len, List.length_replicate, List.length_cons, List.length_nil, List.length_set, List.length_take, List.length_drop, recL_len]; done) | (simp only [List.length_append, bys_length, b4_len, zrs_len, headB_len, putHead_len, List.length_replicate, List.length_cons, List.length_nil, List.length_set, List.length_take, List.length_drop, recL_len]; omega) | rfl | (simp [*, bys_length]; done) | (simp [*, bys_length]; omega)))
    apply XO.blk (r := r4)
    · (repeat (first | exact Put.hd | apply Put.tl | apply Put.app))
    · exact pad (n := 2) (k := 64) rfl
    refine TR.back ?_
    refine TR.nil ?_
    refine XK.inblk ?_
    refine XK.region ?_
    refine XO.val rfl rfl (OV.add rfl rfl (wrap_in (by omega))) ?_
    refine XO.val rfl rfl (OV.mv (v := .int _ _) rfl) ?_
    refine XO.nil ?_
    refine XK.rnd ?_
    refine rnds.one ?_
    refine XK.seq ?_
    refine XK.region ?_
    refine XO.val rfl rfl (OV.lss rfl rfl) ?_
    refine XO.nil ?_
    refine XK.seq ?_
    refine XK.say (u := .bool true) (v := .bool true) 13 rfl rfl ?_
    refine XK.cond_t rfl ?_
    refine XK.skip ?_
    refine XK.seq ?_
    refine XK.block ?_
    refine XK.seq ?_
    refine XK.region ?_
    refine XO.val rfl rfl (OV.mv (v := .int _ _) rfl) ?_
    refine XO.val rfl rfl (OV.asg (v := .int _ _) rfl) ?_
    refine XO.nil ?_
    refine XK.seq ?_
    refine XK.region ?_
    refine XO.val rfl rfl (OV.mv (v := .int _ _) rfl) ?_
    refine XO.val rfl rfl (OV.ixA rfl rfl Try.runUnderlying158 Try.sizeOf157 (by decide) (by decide)) ?_
    refine XO.val rfl rfl (OV.asg (v := .pointer _) rfl) ?_
    refine XO.nil ?_
    refine XK.seq ?_
    refine XK.draw [0, 1, 2, 3, 4, 5, 6, 7, 8, 9, 10, 11, 12, 13, 15, 16] [] [1, 7, 10, 11, 15] [0, 1, 2, 3, 4, 5, 6, 7, 8, 9, 10, 11, 12, 13, 15, 14, 16, 17] Rec3_mixed (by kernel_rfl) alc_none ?_
    refine TR.v rfl rfl .n rfl rfl rfl (OV.mv (v := .pointer _) rfl) ?_
    refine TR.vf rfl rfl .n rfl rfl rfl (OV.mv (v := .pointer _) rfl) ?_
    refine TR.cv (cap := []) rfl rfl .n rfl rfl rfl .nil Try.call171 (tags_ok) (by repeat (first | exact Sel.nil | refine Sel.cons (by repeat (first | exact Del.hd | apply Del.tl | apply Del.app)) (by repeat (first | exact List.Mem.head _ | apply List.Mem.tail | apply List.mem_append_right)) ?_)) ?_
    refine TR.v rfl rfl .n rfl rfl rfl (OV.mv (v := .int _ _) rfl) ?_
    refine TR.v rfl rfl .n rfl rfl rfl (OV.ixV rfl rfl Try.runUnderlying284 Try.isAgg5 Try.sizeOf5 (by decide) (by decide) rfl) ?_
    refine TR.v rfl rfl .n rfl rfl rfl (OV.fa rfl Rec3_fa_52_0) ?_
    refine TR.v rfl rfl .n rfl rfl rfl (OV.ld rfl Try.isAgg3 (by repeat (first | exact List.Mem.head _ | apply List.Mem.tail | apply List.mem_append_right)) rfl) ?_
    refine TR.vf rfl rfl .n rfl rfl rfl (OV.shl rfl rfl (by decide) (shl4 (by omega))) ?_
    refine TR.v rfl rfl .n rfl rfl rfl (OV.fa rfl Rec3_fa_52_3) ?_
    refine TR.v rfl rfl .n rfl rfl rfl (OV.ld rfl Try.isAgg3 (by repeat (first | exact List.Mem.head _ | apply List.Mem.tail | apply List.mem_append_right)) rfl) ?_
    refine TR.vf rfl rfl .n rfl rfl rfl (OV.orB rfl rfl (or4 (by omega) (by omega))) ?_
    refine TR.vf rfl rfl .n rfl rfl rfl (OV.cvt rfl Try.runUnderlying3 rfl Try.runUnderlying5 (IntKind.wrap_u8 _)) ?_
    refine TR.v rfl rfl .n rfl rfl rfl (OV.nilc rfl) ?_
    refine TR.v rfl rfl .n rfl rfl rfl (OV.ixA rfl rfl Try.runUnderlying157 Try.sizeOf5 (by decide) (by decide)) ?_
    refine TR.vf rfl rfl .n rfl rfl rfl (OV.nilc rfl) ?_
    refine TR.go rfl rfl rfl rfl ?_
    refine XO.st rfl (v := .int _ _) rfl rfl Try.sizeOf5 (by repeat (first | exact Put.hd | apply Put.tl | apply Put.app)) (by (first | (simp only [List.length_append, bys_length, b4_len, zrs_len, headB_len, putHead_len, List.length_replicate, List.length_cons, List.length_nil, List.length_set, List.length_take, List.length_drop, recL_len]; omega) | omega | exact Nat.le_of_ble_eq_true rfl | (simp; done) | (simp; omega))) (by (first | exact .inr ‹_› | (left; ((repeat (first | exact List.Mem.head _ | apply List.Mem.tail)))))) ?_
    apply XO.blk (r := r4)
    · (repeat (first | exact Put.hd | apply Put.tl | apply Put.app))
    · exact set_next (n := 63) rfl (by (first | assumption | (simp only [List.length_append, bys_length, b4_len, zrs_len, headB_len, putHead_len, List.length_replicate, List.length_cons, List.length_nil, List.length_set, List.length_take, List.length_drop, recL_len]; done) | (simp only [List.length_append, bys_length, b4_len, zrs_len, headB_len, putHead_len, List.length_replicate, List.length_cons, List.length_nil, List.length_set, List.length_take, List.length_drop, recL_len]; omega) | rfl | (simp [*, bys_length]; done) | (simp [*, bys_length]; omega))) (by (first | assumption | (simp only [List.length_append, bys_length, b4_len, zrs_len, headB_len, putHead_len, List.length_replicate, List.length_cons, List.length_nil, List.length_set, List.length_take, List.length_drop, recL_len]; done) | (simp only [List.length_append, bys_length, b4_len, zrs_len, headB_len, putHead_len, List.length_replicate, List.length_cons, List.length_nil, List.length_set, List.length_take, List.length_drop, recL_len]; omega) | rfl | (simp [*, bys_length]; done) | (simp [*, bys_length]; omega)))
    refine TR.back ?_
    refine TR.v rfl rfl .n rfl rfl rfl (OV.ixA rfl rfl Try.runUnderlying157 Try.sizeOf5 (by decide) (by decide)) ?_
    refine TR.go rfl rfl rfl rfl ?_
    refine XO.st rfl (v := .int _ _) rfl rfl Try.sizeOf5 (by repeat (first | exact Put.hd | apply Put.tl | apply Put.app)) (by (first | (simp only [List.length_append, bys_length, b4_len, zrs_len, headB_len, putHead_len, List.length_replicate, List.length_cons, List.length_nil, List.length_set, List.length_take, List.length_drop, recL_len]; omega) | omega | exact Nat.le_of_ble_eq_true rfl | (simp; done) | (simp; omega))) (by (first | exact .inr ‹_› | (left; ((repeat (first | exact List.Mem.head _ | apply List.Mem.tail)))))) ?_
    apply XO.blk (r := r4)
    · (repeat (first | exact Put.hd | apply Put.tl | apply Put.app))
    · exact set_next (n := 62) rfl (by (first | assumption | (simp only [List.length_append, bys_length, b4_len, zrs_len, headB_len, putHead_len, List.length_replicate, List.length_cons, List.length_nil, List.length_set, List.length_take, List.length_drop, recL_len]; done) | (simp only [List.length_append, bys_length, b4_len, zrs_len, headB_len, putHead_len, List.length_replicate, List.length_cons, List.length_nil, List.length_set, List.length_take, List.length_drop, recL_len]; omega) | rfl | (simp [*, bys_length]; done) | (simp [*, bys_length]; omega))) (by (first | assumption | (simp only [List.length_append, bys_length, b4_len, zrs_len, headB_len, putHead_len, List.length_replicate, List.length_cons, List.length_nil, List.length_set, List.length_take, List.length_drop, recL_len]; done) | (simp only [List.length_append, bys_length, b4_len, zrs_len, headB_len, putHead_len, List.length_replicate, List.length_cons, List.length_nil, List.length_set, List.length_take, List.length_drop, recL_len]; omega) | rfl | (simp [*, bys_length]; done) | (simp [*, bys_length]; omega)))
    refine TR.back ?_
    refine TR.nil ?_
    refine XK.seq ?_
    refine XK.region ?_
    refine XO.val rfl rfl (OV.mv (v := .pointer _) rfl) ?_
    refine XO.callG (cap := []) rfl rfl (.cons (v := .pointer _) rfl (.cons (v := .int _ _) rfl .nil)) Try.call172 (putter_ok r4 (0 + Int.toNat (0 + 1) * 64) 2) .nil (by ((repeat (first | exact wrs_nil | (refine wrs_cons (by (first | exact .inr ‹_› | (left; ((repeat (first | exact List.Mem.head _ | apply List.Mem.tail)))))) ?_))))) .nil ?_
    rintro _ _ ⟨p1, q1, rfl, rfl⟩ hnew
    have hp1 : B.heap.size ≤ p1 := (hnew _ (.head _)).resolve_left (by simp)
    have hq1 : B.heap.size ≤ q1 := (hnew _ (.tail _ (.head _))).resolve_left (by simp)
    refine XO.val rfl rfl (OV.asg (v := .func _ _ _) rfl) ?_
    refine XO.nil ?_
    refine XK.seq ?_
    refine XK.region ?_
    refine XO.val rfl rfl (OV.mv (v := .func _ _ _) rfl) ?_
    refine XO.val rfl rfl (OV.fa rfl Rec3_fa_52_1) ?_
    refine XO.val rfl rfl (OV.ld rfl Try.isAgg2 (by repeat (first | exact List.Mem.head _ | apply List.Mem.tail | apply List.mem_append_right)) rfl) ?_
    refine XO.callM rfl rfl (.cons (v := .int _ _) rfl .nil) Try.call239 (put1_ok p1 q1 r4 (0 + Int.toNat (0 + 1) * 64) r.epoch 2 (((([] ++ [.int .u8 177] ++ [.int .u8 ((r.node * 16 + r.page) % 256)]) ++ bys (b4 r.epoch) ++ bys (b4 r.lsn) ++ bys (b4 r.psn) ++ bys ((r.body.drop 0).take 48) ++ List.replicate 2 (.int .u8 0)) ++ [.int .u8 178] ++ [.int .u8 ((r.node * 16 + r.page) % 256)]) ++ List.replicate 62 (.int .u8 0)) 158 (by omega) (by omega) (by (first | assumption | (simp only [List.length_append, bys_length, b4_len, zrs_len, headB_len, putHead_len, List.length_replicate, List.length_cons, List.length_nil, List.length_set, List.length_take, List.length_drop, recL_len]; done) | (simp only [List.length_append, bys_length, b4_len, zrs_len, headB_len, putHead_len, List.length_replicate, List.length_cons, List.length_nil, List.length_set, List.length_take, List.length_drop, recL_len]; omega) | rfl | (simp [*, bys_length]; done) | (simp [*, bys_length]; omega)))) (by repeat (first | exact Sel.nil | refine Sel.cons (by repeat (first | exact Del.hd | apply Del.tl | apply Del.app)) (by repeat (first | exact List.Mem.head _ | apply List.Mem.tail | apply List.mem_append_right)) ?_)) (by ((repeat (first | exact wrs_nil | (refine wrs_cons (by (first | exact .inr ‹_› | (left; ((repeat (first | exact List.Mem.head _ | apply List.Mem.tail)))))) ?_))))) (by repeat (first | exact Rem.nil | (apply Rem.cons; (repeat (first | exact Del.hd | apply Del.tl | apply Del.app))))) (by repeat (first | exact App.nil | apply App.cons)) ?_
    apply XO.blk (r := r4)
    · (repeat (first | exact Put.hd | apply Put.tl | apply Put.app))
    · exact splice_next (n := 58) rfl (by (first | assumption | (simp only [List.length_append, bys_length, b4_len, zrs_len, headB_len, putHead_len, List.length_replicate, List.length_cons, List.length_nil, List.length_set, List.length_take, List.length_drop, recL_len]; done) | (simp only [List.length_append, bys_length, b4_len, zrs_len, headB_len, putHead_len, List.length_replicate, List.length_cons, List.length_nil, List.length_set, List.length_take, List.length_drop, recL_len]; omega) | rfl | (simp [*, bys_length]; done) | (simp [*, bys_length]; omega))) (by (first | assumption | (simp only [List.length_append, bys_length, b4_len, zrs_len, headB_len, putHead_len, List.length_replicate, List.length_cons, List.length_nil, List.length_set, List.length_take, List.length_drop, recL_len]; done) | (simp only [List.length_append, bys_length, b4_len, zrs_len, headB_len, putHead_len, List.length_replicate, List.length_cons, List.length_nil, List.length_set, List.length_take, List.length_drop, recL_len]; omega) | rfl | (simp [*, bys_length]; done) | (simp [*, bys_length]; omega)))
    refine XO.nil ?_
    refine XK.seq ?_
    refine XK.region ?_
    refine XO.val rfl rfl (OV.mv (v := .func _ _ _) rfl) ?_
    refine XO.val rfl rfl (OV.fa rfl Rec3_fa_52_2) ?_
    refine XO.val rfl rfl (OV.ld rfl Try.isAgg2 (by repeat (first | exact List.Mem.head _ | apply List.Mem.tail | apply List.mem_append_right)) rfl) ?_
    refine XO.callM rfl rfl (.cons (v := .int _ _) rfl .nil) Try.call239 (put1_ok p1 q1 r4 (0 + Int.toNat (0 + 1) * 64) r.lsn (2 + 4) ((((([] ++ [.int .u8 177] ++ [.int .u8 ((r.node * 16 + r.page) % 256)]) ++ bys (b4 r.epoch) ++ bys (b4 r.lsn) ++ bys (b4 r.psn) ++ bys ((r.body.drop 0).take 48) ++ List.replicate 2 (.int .u8 0)) ++ [.int .u8 178] ++ [.int .u8 ((r.node * 16 + r.page) % 256)]) ++ bys (b4 r.epoch)) ++ List.replicate 58 (.int .u8 0)) 158 (by omega) (by omega) (by (first | assumption | (simp only [List.length_append, bys_length, b4_len, zrs_len, headB_len, putHead_len, List.length_replicate, List.length_cons, List.length_nil, List.length_set, List.length_take, List.length_drop, recL_len]; done) | (simp only [List.length_append, bys_length, b4_len, zrs_len, headB_len, putHead_len, List.length_replicate, List.length_cons, List.length_nil, List.length_set, List.length_take, List.length_drop, recL_len]; omega) | rfl | (simp [*, bys_length]; done) | (simp [*, bys_length]; omega)))) (by repeat (first | exact Sel.nil | refine Sel.cons (by repeat (first | exact Del.hd | apply Del.tl | apply Del.app)) (by repeat (first | exact List.Mem.head _ | apply List.Mem.tail | apply List.mem_append_right)) ?_)) (by ((repeat (first | exact wrs_nil | (refine wrs_cons (by (first | exact .inr ‹_› | (left; ((repeat (first | exact List.Mem.head _ | apply List.Mem.tail)))))) ?_))))) (by repeat (first | exact Rem.nil | (apply Rem.cons; (repeat (first | exact Del.hd | apply Del.tl | apply Del.app))))) (by repeat (first | exact App.nil | apply App.cons)) ?_
    apply XO.blk (r := r4)
    · (repeat (first | exact Put.hd | apply Put.tl | apply Put.app))
    · exact splice_next (n := 54) rfl (by (first | assumption | (simp only [List.length_append, bys_length, b4_len, zrs_len, headB_len, putHead_len, List.length_replicate, List.length_cons, List.length_nil, List.length_set, List.length_take, List.length_drop, recL_len]; done) | (simp only [List.length_append, bys_length, b4_len, zrs_len, headB_len, putHead_len, List.length_replicate, List.length_cons, List.length_nil, List.length_set, List.length_take, List.length_drop, recL_len]; omega) | rfl | (simp [*, bys_length]; done) | (simp [*, bys_length]; omega))) (by (first | assumption | (simp only [List.length_append, bys_length, b4_len, zrs_len, headB_len, putHead_len, List.length_replicate, List.length_cons, List.length_nil, List.length_set, List.length_take, List.length_drop, recL_len]; done) | (simp only [List.length_append, bys_length, b4_len, zrs_len, headB_len, putHead_len, List.length_replicate, List.length_cons, List.length_nil, List.length_set, List.length_take, List.length_drop, recL_len]; omega) | rfl | (simp [*, bys_length]; done) | (simp [*, bys_length]; omega)))
    refine XO.nil ?_
    refine XK.seq ?_
    refine XK.region ?_
    refine XO.val rfl rfl (OV.mv (v := .func _ _ _) rfl) ?_
    refine XO.val rfl rfl (OV.fa rfl Rec3_fa_52_4) ?_
    refine XO.val rfl rfl (OV.ld rfl Try.isAgg2 (by repeat (first | exact List.Mem.head _ | apply List.Mem.tail | apply List.mem_append_right)) rfl) ?_
    refine XO.callM rfl rfl (.cons (v := .int _ _) rfl .nil) Try.call239 (put1_ok p1 q1 r4 (0 + Int.toNat (0 + 1) * 64) r.psn ((2 + 4) + 4) (((((([] ++ [.int .u8 177] ++ [.int .u8 ((r.node * 16 + r.page) % 256)]) ++ bys (b4 r.epoch) ++ bys (b4 r.lsn) ++ bys (b4 r.psn) ++ bys ((r.body.drop 0).take 48) ++ List.replicate 2 (.int .u8 0)) ++ [.int .u8 178] ++ [.int .u8 ((r.node * 16 + r.page) % 256)]) ++ bys (b4 r.epoch)) ++ bys (b4 r.lsn)) ++ List.replicate 54 (.int .u8 0)) 158 (by omega) (by omega) (by (first | assumption | (simp only [List.length_append, bys_length, b4_len, zrs_len, headB_len, putHead_len, List.length_replicate, List.length_cons, List.length_nil, List.length_set, List.length_take, List.length_drop, recL_len]; done) | (simp only [List.length_append, bys_length, b4_len, zrs_len, headB_len, putHead_len, List.length_replicate, List.length_cons, List.length_nil, List.length_set, List.length_take, List.length_drop, recL_len]; omega) | rfl | (simp [*, bys_length]; done) | (simp [*, bys_length]; omega)))) (by repeat (first | exact Sel.nil | refine Sel.cons (by repeat (first | exact Del.hd | apply Del.tl | apply Del.app)) (by repeat (first | exact List.Mem.head _ | apply List.Mem.tail | apply List.mem_append_right)) ?_)) (by ((repeat (first | exact wrs_nil | (refine wrs_cons (by (first | exact .inr ‹_› | (left; ((repeat (first | exact List.Mem.head _ | apply List.Mem.tail)))))) ?_))))) (by repeat (first | exact Rem.nil | (apply Rem.cons; (repeat (first | exact Del.hd | apply Del.tl | apply Del.app))))) (by repeat (first | exact App.nil | apply App.cons)) ?_
    apply XO.blk (r := r4)
    · (repeat (first | exact Put.hd | apply Put.tl | apply Put.app))
    · exact splice_next (n := 50) rfl (by (first | assumption | (simp only [List.length_append, bys_length, b4_len, zrs_len, headB_len, putHead_len, List.length_replicate, List.length_cons, List.length_nil, List.length_set, List.length_take, List.length_drop, recL_len]; done) | (simp only [List.length_append, bys_length, b4_len, zrs_len, headB_len, putHead_len, List.length_replicate, List.length_cons, List.length_nil, List.length_set, List.length_take, List.length_drop, recL_len]; omega) | rfl | (simp [*, bys_length]; done) | (simp [*, bys_length]; omega))) (by (first | assumption | (simp only [List.length_append, bys_length, b4_len, zrs_len, headB_len, putHead_len, List.length_replicate, List.length_cons, List.length_nil, List.length_set, List.length_take, List.length_drop, recL_len]; done) | (simp only [List.length_append, bys_length, b4_len, zrs_len, headB_len, putHead_len, List.length_replicate, List.length_cons, List.length_nil, List.length_set, List.length_take, List.length_drop, recL_len]; omega) | rfl | (simp [*, bys_length]; done) | (simp [*, bys_length]; omega)))
    refine XO.nil ?_
    refine XK.draw [0, 1, 2, 3, 4, 5, 6, 7, 8, 9] [] [] [0, 1, 2, 3, 4, 5, 6, 7, 8, 9, 10] Rec3_mixed (by kernel_rfl) alc_none ?_
    refine TR.v rfl rfl .n rfl rfl rfl (OV.mv (v := .pointer _) rfl) ?_
    refine TR.v rfl rfl .n rfl rfl rfl (OV.nilc rfl) ?_
    refine TR.v rfl rfl .n rfl rfl rfl (OV.slA rfl Try.runUnderlying157 Try.sizeOf5 (l := 14) (h := 64) rfl rfl (by omega) (by omega) (by omega)) ?_
    refine TR.v rfl rfl .n rfl rfl rfl (OV.fa rfl Rec3_fa_52_5) ?_
    refine TR.v rfl rfl .n rfl rfl rfl (OV.mv (v := .int _ _) rfl) ?_
    refine TR.v rfl rfl .n rfl rfl rfl (OV.mul rfl rfl (wrap_in (by omega))) ?_
    refine TR.v rfl rfl .n rfl rfl rfl (OV.mv (v := .int _ _) rfl) ?_
    refine TR.v rfl rfl .n rfl rfl rfl (OV.add rfl rfl (wrap_in (by omega))) ?_
    refine TR.v rfl rfl .n rfl rfl rfl (OV.mul rfl rfl (wrap_in (by omega))) ?_
    refine TR.v rfl rfl .n rfl rfl rfl (OV.slA rfl Try.runUnderlying34 Try.sizeOf5 (l := 48) (h := 96) rfl rfl (by omega) (by omega) (by omega)) ?_
    refine TR.go rfl rfl rfl rfl ?_
    refine XO.cpy rfl rfl rfl Try.runUnderlying54 Try.sizeOf5 (by repeat (first | exact List.Mem.head _ | apply List.Mem.tail | apply List.mem_append_right)) (recL_mid r 48 48) (by (first | assumption | (simp only [List.length_append, bys_length, b4_len, zrs_len, headB_len, putHead_len, List.length_replicate, List.length_cons, List.length_nil, List.length_set, List.length_take, List.length_drop, recL_len]; done) | (simp only [List.length_append, bys_length, b4_len, zrs_len, headB_len, putHead_len, List.length_replicate, List.length_cons, List.length_nil, List.length_set, List.length_take, List.length_drop, recL_len]; omega) | rfl | (simp [*, bys_length]; done) | (simp [*, bys_length]; omega))) (by (repeat (first | with_reducible (apply one_app) | with_reducible exact bys_one | with_reducible exact recL_one _ | with_reducible exact one_rep rfl | exact ones_of rfl | exact bys_one))) (by repeat (first | exact Put.hd | apply Put.tl | apply Put.app)) rfl (by (first | (simp only [List.length_append, bys_length, b4_len, zrs_len, headB_len, putHead_len, List.length_replicate, List.length_cons, List.length_nil, List.length_set, List.length_take, List.length_drop, recL_len]; omega) | omega | exact Nat.le_of_ble_eq_true rfl | (simp; done) | (simp; omega))) (by (first | exact .inr ‹_› | (left; ((repeat (first | exact List.Mem.head _ | apply List.Mem.tail)))))) ?_
    apply XO.blk (r := r4)
    · (repeat (first | exact Put.hd | apply Put.tl | apply Put.app))
    · exact splice_next (n := 2) rfl (by (first | assumption | (simp only [List.length_append, bys_length, b4_len, zrs_len, headB_len, putHead_len, List.length_replicate, List.length_cons, List.length_nil, List.length_set, List.length_take, List.length_drop, recL_len]; done) | (simp only [List.length_append, bys_length, b4_len, zrs_len, headB_len, putHead_len, List.length_replicate, List.length_cons, List.length_nil, List.length_set, List.length_take, List.length_drop, recL_len]; omega) | rfl | (simp [*, bys_length]; done) | (simp [*, bys_length]; omega))) (by (first | assumption | (simp only [List.length_append, bys_length, b4_len, zrs_len, headB_len, putHead_len, List.length_replicate, List.length_cons, List.length_nil, List.length_set, List.length_take, List.length_drop, recL_len]; done) | (simp only [List.length_append, bys_length, b4_len, zrs_len, headB_len, putHead_len, List.length_replicate, List.length_cons, List.length_nil, List.length_set, List.length_take, List.length_drop, recL_len]; omega) | rfl | (simp [*, bys_length]; done) | (simp [*, bys_length]; omega)))
    refine TR.back ?_
    refine TR.nil ?_
    refine XK.inblk ?_
    refine XK.region ?_
    refine XO.val rfl rfl (OV.add rfl rfl (wrap_in (by omega))) ?_
    refine XO.val rfl rfl (OV.mv (v := .int _ _) rfl) ?_
    refine XO.nil ?_
    refine XK.rnd ?_
    refine rnds.one ?_
    refine XK.seq ?_
    refine XK.region ?_
    refine XO.val rfl rfl (OV.lss rfl rfl) ?_
    refine XO.nil ?_
    refine XK.seq ?_
    refine XK.say (u := .bool false) (v := .bool false) 13 rfl rfl ?_
    refine XK.cond_f rfl ?_
    refine XK.exitTo rfl ?_
    refine XK.seq ?_
    refine XK.region ?_
    refine XO.val rfl rfl (OV.ldA rfl Try.isAgg158 Try.sizeOf158 (by repeat (first | exact List.Mem.head _ | apply List.Mem.tail | apply List.mem_append_right)) (grab_all (by (first | assumption | (simp only [List.length_append, bys_length, b4_len, zrs_len, headB_len, putHead_len, List.length_replicate, List.length_cons, List.length_nil, List.length_set, List.length_take, List.length_drop, recL_len]; done) | (simp only [List.length_append, bys_length, b4_len, zrs_len, headB_len, putHead_len, List.length_replicate, List.length_cons, List.length_nil, List.length_set, List.length_take, List.length_drop, recL_len]; omega) | rfl | (simp [*, bys_length]; done) | (simp [*, bys_length]; omega)))) (by (first | assumption | (simp only [List.length_append, bys_length, b4_len, zrs_len, headB_len, putHead_len, List.length_replicate, List.length_cons, List.length_nil, List.length_set, List.length_take, List.length_drop, recL_len]; done) | (simp only [List.length_append, bys_length, b4_len, zrs_len, headB_len, putHead_len, List.length_replicate, List.length_cons, List.length_nil, List.length_set, List.length_take, List.length_drop, recL_len]; omega) | rfl | (simp [*, bys_length]; done) | (simp [*, bys_length]; omega)))) ?_
    refine XO.stA rfl rfl (by (repeat (first | with_reducible (apply one_app) | with_reducible exact bys_one | with_reducible exact recL_one _ | with_reducible exact one_rep rfl | exact ones_of rfl | exact bys_one))) Try.sizeOf158 (by (first | assumption | (simp only [List.length_append, bys_length, b4_len, zrs_len, headB_len, putHead_len, List.length_replicate, List.length_cons, List.length_nil, List.length_set, List.length_take, List.length_drop, recL_len]; done) | (simp only [List.length_append, bys_length, b4_len, zrs_len, headB_len, putHead_len, List.length_replicate, List.length_cons, List.length_nil, List.length_set, List.length_take, List.length_drop, recL_len]; omega) | rfl | (simp [*, bys_length]; done) | (simp [*, bys_length]; omega))) (by repeat (first | exact Put.hd | apply Put.tl | apply Put.app)) (by first | exact splice_all (by (first | assumption | (simp only [List.length_append, bys_length, b4_len, zrs_len, headB_len, putHead_len, List.length_replicate, List.length_cons, List.length_nil, List.length_set, List.length_take, List.length_drop, recL_len]; done) | (simp only [List.length_append, bys_length, b4_len, zrs_len, headB_len, putHead_len, List.length_replicate, List.length_cons, List.length_nil, List.length_set, List.length_take, List.length_drop, recL_len]; omega) | rfl | (simp [*, bys_length]; done) | (simp [*, bys_length]; omega))) | rfl) (by (first | (simp only [List.length_append, bys_length, b4_len, zrs_len, headB_len, putHead_len, List.length_replicate, List.length_cons, List.length_nil, List.length_set, List.length_take, List.length_drop, recL_len]; omega) | omega | exact Nat.le_of_ble_eq_true rfl | (simp; done) | (simp; omega))) (by (first | exact .inr ‹_› | (left; ((repeat (first | exact List.Mem.head _ | apply List.Mem.tail)))))) ?_
    refine XO.val rfl rfl (OV.asg (v := .int _ _) rfl) ?_
    refine XO.nil ?_
    refine XK.retTo (Fin.ret (.cons (.cellA rfl Try.isAgg158 Try.sizeOf158 (by repeat (first | exact List.Mem.head _ | apply List.Mem.tail | apply List.mem_append_right)) (grab_all (by (first | assumption | (simp only [List.length_append, bys_length, b4_len, zrs_len, headB_len, putHead_len, List.length_replicate, List.length_cons, List.length_nil, List.length_set, List.length_take, List.length_drop, recL_len]; done) | (simp only [List.length_append, bys_length, b4_len, zrs_len, headB_len, putHead_len, List.length_replicate, List.length_cons, List.length_nil, List.length_set, List.length_take, List.length_drop, recL_len]; omega) | rfl | (simp [*, bys_length]; done) | (simp [*, bys_length]; omega)))) (by (first | assumption | (simp only [List.length_append, bys_length, b4_len, zrs_len, headB_len, putHead_len, List.length_replicate, List.length_cons, List.length_nil, List.length_set, List.length_take, List.length_drop, recL_len]; done) | (simp only [List.length_append, bys_length, b4_len, zrs_len, headB_len, putHead_len, List.length_replicate, List.length_cons, List.length_nil, List.length_set, List.length_take, List.length_drop, recL_len]; omega) | rfl | (simp [*, bys_length]; done) | (simp [*, bys_length]; omega)))) (.cons (.tmp (v := .int _ _) rfl) .nil)) .nil (by simp) ?_)
    refine ⟨?_, rfl⟩
    simp only [putRec]
    first | (rw [if_neg hm]; rfl) | (rw [if_pos ‹_›]; simp only [half, bys_append, bys_zrs, List.nil_append, List.append_assoc]; rfl)

end Go.Proofs.Ythophgadmkjamaa
