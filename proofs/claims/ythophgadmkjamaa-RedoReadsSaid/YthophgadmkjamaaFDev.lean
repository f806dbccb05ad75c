/- Contracts of functions, printed by a program of this claim (wip/tools/gen.py). -/
import Derived.Test.YthophgadmkjamaaChecked
import Derived.Test.YthophgadmkjamaaFDefs
import Derived.KernelRfl
set_option maxRecDepth 20000
set_option linter.unusedVariables false
set_option linter.unusedSimpArgs false
namespace Go.Proofs.Ythophgadmkjamaa
open Go Go.Mw Go.Proofs

theorem Dev_fa_23_0 : FA Try.prog 23 0 0 := FA.of (n := 0) Try.runUnderlying23 rfl rfl Try.sizeOf3
theorem Dev_fa_23_1 : FA Try.prog 23 1 1 := FA.of (n := 0) Try.runUnderlying23 rfl rfl Try.sizeOf3
theorem Dev_fa_23_2 : FA Try.prog 23 2 2 := FA.of (n := 0) Try.runUnderlying23 rfl rfl Try.sizeOf3
theorem Dev_fa_23_3 : FA Try.prog 23 3 3 := FA.of (n := 0) Try.runUnderlying23 rfl rfl Try.sizeOf3
theorem Dev_fa_23_4 : FA Try.prog 23 4 4 := FA.of (n := 0) Try.runUnderlying23 rfl rfl Try.sizeOf3
theorem Dev_fa_86_2 : FA Try.prog 86 2 9 := FA.of (n := 0) Try.runUnderlying86 rfl rfl Try.sizeOf3

theorem may_ok (j : Job) :
    CtV Try.prog 45 [jobV j] [] (.bool j.may) := by
  refine Ct.of (N := 51) (rs := [.tmp 2]) Try.func45 rfl rfl rfl (Nat.le_of_ble_eq_true rfl) (fun B => ?_)
  refine XK.seq ?_
  refine XK.region ?_
  refine XO.box (v := .agg _) rfl rfl rfl (fun r1 hr1 => ?_)
  refine XO.val rfl rfl (OV.asg (v := .bool _) rfl) ?_
  refine XO.nil ?_
  refine XK.seq ?_
  refine XK.region ?_
  refine XO.val rfl rfl (OV.fa rfl Dev_fa_23_0) ?_
  refine XO.val rfl rfl (OV.ld rfl Try.isAgg3 (by repeat (first | exact List.Mem.head _ | apply List.Mem.tail | apply List.mem_append_right)) rfl) ?_
  refine XO.val rfl rfl (OV.geq rfl rfl) ?_
  refine XO.val rfl rfl (OV.mv (v := .bool _) rfl) ?_
  refine XO.split (t := 6) rfl (fun hh1 => ?_) (fun hh1 => ?_)
  · replace hh1 := of_decide_eq_true hh1
    refine XO.guard_t rfl rfl ?_
    refine XO.val rfl rfl (OV.fa rfl Dev_fa_23_0) ?_
    refine XO.guard_t rfl rfl ?_
    refine XO.val rfl rfl (OV.ld rfl Try.isAgg3 (by repeat (first | exact List.Mem.head _ | apply List.Mem.tail | apply List.mem_append_right)) rfl) ?_
    refine XO.guard_t rfl rfl ?_
    refine XO.val rfl rfl (OV.leq rfl rfl) ?_
    refine XO.val rfl rfl (OV.pick_t (v := .bool _) rfl rfl) ?_
    refine XO.val rfl rfl (OV.mv (v := .bool _) rfl) ?_
    refine XO.split (t := 11) rfl (fun hh2 => ?_) (fun hh2 => ?_)
    · replace hh2 := of_decide_eq_true hh2
      refine XO.guard_t rfl rfl ?_
      refine XO.val rfl rfl (OV.fa rfl Dev_fa_23_1) ?_
      refine XO.guard_t rfl rfl ?_
      refine XO.val rfl rfl (OV.ld rfl Try.isAgg3 (by repeat (first | exact List.Mem.head _ | apply List.Mem.tail | apply List.mem_append_right)) rfl) ?_
      refine XO.guard_t rfl rfl ?_
      refine XO.val rfl rfl (OV.geq rfl rfl) ?_
      refine XO.val rfl rfl (OV.pick_t (v := .bool _) rfl rfl) ?_
      refine XO.val rfl rfl (OV.mv (v := .bool _) rfl) ?_
      refine XO.split (t := 16) rfl (fun hh3 => ?_) (fun hh3 => ?_)
      · replace hh3 := of_decide_eq_true hh3
        refine XO.guard_t rfl rfl ?_
        refine XO.val rfl rfl (OV.fa rfl Dev_fa_23_1) ?_
        refine XO.guard_t rfl rfl ?_
        refine XO.val rfl rfl (OV.ld rfl Try.isAgg3 (by repeat (first | exact List.Mem.head _ | apply List.Mem.tail | apply List.mem_append_right)) rfl) ?_
        refine XO.guard_t rfl rfl ?_
        refine XO.val rfl rfl (OV.leq rfl rfl) ?_
        refine XO.val rfl rfl (OV.pick_t (v := .bool _) rfl rfl) ?_
        refine XO.val rfl rfl (OV.mv (v := .bool _) rfl) ?_
        refine XO.split (t := 21) rfl (fun hh4 => ?_) (fun hh4 => ?_)
        · replace hh4 := of_decide_eq_true hh4
          refine XO.guard_t rfl rfl ?_
          refine XO.val rfl rfl (OV.fa rfl Dev_fa_23_2) ?_
          refine XO.guard_t rfl rfl ?_
          refine XO.val rfl rfl (OV.ld rfl Try.isAgg3 (by repeat (first | exact List.Mem.head _ | apply List.Mem.tail | apply List.mem_append_right)) rfl) ?_
          refine XO.guard_t rfl rfl ?_
          refine XO.val rfl rfl (OV.geq rfl rfl) ?_
          refine XO.val rfl rfl (OV.pick_t (v := .bool _) rfl rfl) ?_
          refine XO.val rfl rfl (OV.mv (v := .bool _) rfl) ?_
          refine XO.split (t := 26) rfl (fun hh5 => ?_) (fun hh5 => ?_)
          · replace hh5 := of_decide_eq_true hh5
            refine XO.guard_t rfl rfl ?_
            refine XO.val rfl rfl (OV.fa rfl Dev_fa_23_2) ?_
            refine XO.guard_t rfl rfl ?_
            refine XO.val rfl rfl (OV.ld rfl Try.isAgg3 (by repeat (first | exact List.Mem.head _ | apply List.Mem.tail | apply List.mem_append_right)) rfl) ?_
            refine XO.guard_t rfl rfl ?_
            refine XO.val rfl rfl (OV.leq rfl rfl) ?_
            refine XO.val rfl rfl (OV.pick_t (v := .bool _) rfl rfl) ?_
            refine XO.val rfl rfl (OV.mv (v := .bool _) rfl) ?_
            refine XO.split (t := 31) rfl (fun hh6 => ?_) (fun hh6 => ?_)
            · replace hh6 := of_decide_eq_true hh6
              refine XO.guard_t rfl rfl ?_
              refine XO.val rfl rfl (OV.fa rfl Dev_fa_23_3) ?_
              refine XO.guard_t rfl rfl ?_
              refine XO.val rfl rfl (OV.ld rfl Try.isAgg3 (by repeat (first | exact List.Mem.head _ | apply List.Mem.tail | apply List.mem_append_right)) rfl) ?_
              refine XO.guard_t rfl rfl ?_
              refine XO.val rfl rfl (OV.geq rfl rfl) ?_
              refine XO.val rfl rfl (OV.pick_t (v := .bool _) rfl rfl) ?_
              refine XO.val rfl rfl (OV.mv (v := .bool _) rfl) ?_
              refine XO.split (t := 36) rfl (fun hh7 => ?_) (fun hh7 => ?_)
              · replace hh7 := of_decide_eq_true hh7
                refine XO.guard_t rfl rfl ?_
                refine XO.val rfl rfl (OV.fa rfl Dev_fa_23_3) ?_
                refine XO.guard_t rfl rfl ?_
                refine XO.val rfl rfl (OV.ld rfl Try.isAgg3 (by repeat (first | exact List.Mem.head _ | apply List.Mem.tail | apply List.mem_append_right)) rfl) ?_
                refine XO.guard_t rfl rfl ?_
                refine XO.val rfl rfl (OV.leq rfl rfl) ?_
                refine XO.val rfl rfl (OV.pick_t (v := .bool _) rfl rfl) ?_
                refine XO.val rfl rfl (OV.mv (v := .bool _) rfl) ?_
                refine XO.split (t := 41) rfl (fun hh8 => ?_) (fun hh8 => ?_)
                · replace hh8 := of_decide_eq_true hh8
                  refine XO.guard_t rfl rfl ?_
                  refine XO.val rfl rfl (OV.fa rfl Dev_fa_23_4) ?_
                  refine XO.guard_t rfl rfl ?_
                  refine XO.val rfl rfl (OV.ld rfl Try.isAgg3 (by repeat (first | exact List.Mem.head _ | apply List.Mem.tail | apply List.mem_append_right)) rfl) ?_
                  refine XO.guard_t rfl rfl ?_
                  refine XO.val rfl rfl (OV.geq rfl rfl) ?_
                  refine XO.val rfl rfl (OV.pick_t (v := .bool _) rfl rfl) ?_
                  refine XO.val rfl rfl (OV.mv (v := .bool _) rfl) ?_
                  refine XO.split (t := 46) rfl (fun hh9 => ?_) (fun hh9 => ?_)
                  · replace hh9 := of_decide_eq_true hh9
                    refine XO.guard_t rfl rfl ?_
                    refine XO.val rfl rfl (OV.fa rfl Dev_fa_23_4) ?_
                    refine XO.guard_t rfl rfl ?_
                    refine XO.val rfl rfl (OV.ld rfl Try.isAgg3 (by repeat (first | exact List.Mem.head _ | apply List.Mem.tail | apply List.mem_append_right)) rfl) ?_
                    refine XO.guard_t rfl rfl ?_
                    refine XO.val rfl rfl (OV.leq rfl rfl) ?_
                    refine XO.val rfl rfl (OV.pick_t (v := .bool _) rfl rfl) ?_
                    refine XO.val rfl rfl (OV.asg (v := .bool _) rfl) ?_
                    refine XO.nil ?_
                    refine XK.retTo (Fin.ret (.cons (.tmp (v := .bool _) rfl) .nil) .nil (by simp) ?_)
                    refine ⟨congrArg Value.bool ?_, rfl⟩
                    simp only [Job.may]
                    first | exact decide_eq_decide.2 (by omega) | exact (decide_eq_false (by omega)).symm
                  · replace hh9 := of_decide_eq_false hh9
                    iterate 3 refine XO.guard_f rfl rfl rfl rfl ?_
                    refine XO.val rfl rfl (OV.pick_f (v := .bool _) rfl rfl) ?_
                    refine XO.val rfl rfl (OV.asg (v := .bool _) rfl) ?_
                    refine XO.nil ?_
                    refine XK.retTo (Fin.ret (.cons (.tmp (v := .bool _) rfl) .nil) .nil (by simp) ?_)
                    refine ⟨congrArg Value.bool ?_, rfl⟩
                    simp only [Job.may]
                    first | exact decide_eq_decide.2 (by omega) | exact (decide_eq_false (by omega)).symm
                · replace hh8 := of_decide_eq_false hh8
                  iterate 3 refine XO.guard_f rfl rfl rfl rfl ?_
                  refine XO.val rfl rfl (OV.pick_f (v := .bool _) rfl rfl) ?_
                  refine XO.val rfl rfl (OV.mv (v := .bool _) rfl) ?_
                  iterate 3 refine XO.guard_f rfl rfl rfl rfl ?_
                  refine XO.val rfl rfl (OV.pick_f (v := .bool _) rfl rfl) ?_
                  refine XO.val rfl rfl (OV.asg (v := .bool _) rfl) ?_
                  refine XO.nil ?_
                  refine XK.retTo (Fin.ret (.cons (.tmp (v := .bool _) rfl) .nil) .nil (by simp) ?_)
                  refine ⟨congrArg Value.bool ?_, rfl⟩
                  simp only [Job.may]
                  first | exact decide_eq_decide.2 (by omega) | exact (decide_eq_false (by omega)).symm
              · replace hh7 := of_decide_eq_false hh7
                iterate 3 refine XO.guard_f rfl rfl rfl rfl ?_
                refine XO.val rfl rfl (OV.pick_f (v := .bool _) rfl rfl) ?_
                refine XO.val rfl rfl (OV.mv (v := .bool _) rfl) ?_
                iterate 3 refine XO.guard_f rfl rfl rfl rfl ?_
                refine XO.val rfl rfl (OV.pick_f (v := .bool _) rfl rfl) ?_
                refine XO.val rfl rfl (OV.mv (v := .bool _) rfl) ?_
                iterate 3 refine XO.guard_f rfl rfl rfl rfl ?_
                refine XO.val rfl rfl (OV.pick_f (v := .bool _) rfl rfl) ?_
                refine XO.val rfl rfl (OV.asg (v := .bool _) rfl) ?_
                refine XO.nil ?_
                refine XK.retTo (Fin.ret (.cons (.tmp (v := .bool _) rfl) .nil) .nil (by simp) ?_)
                refine ⟨congrArg Value.bool ?_, rfl⟩
                simp only [Job.may]
                first | exact decide_eq_decide.2 (by omega) | exact (decide_eq_false (by omega)).symm
            · replace hh6 := of_decide_eq_false hh6
              iterate 3 refine XO.guard_f rfl rfl rfl rfl ?_
              refine XO.val rfl rfl (OV.pick_f (v := .bool _) rfl rfl) ?_
              refine XO.val rfl rfl (OV.mv (v := .bool _) rfl) ?_
              iterate 3 refine XO.guard_f rfl rfl rfl rfl ?_
              refine XO.val rfl rfl (OV.pick_f (v := .bool _) rfl rfl) ?_
              refine XO.val rfl rfl (OV.mv (v := .bool _) rfl) ?_
              iterate 3 refine XO.guard_f rfl rfl rfl rfl ?_
              refine XO.val rfl rfl (OV.pick_f (v := .bool _) rfl rfl) ?_
              refine XO.val rfl rfl (OV.mv (v := .bool _) rfl) ?_
              iterate 3 refine XO.guard_f rfl rfl rfl rfl ?_
              refine XO.val rfl rfl (OV.pick_f (v := .bool _) rfl rfl) ?_
              refine XO.val rfl rfl (OV.asg (v := .bool _) rfl) ?_
              refine XO.nil ?_
              refine XK.retTo (Fin.ret (.cons (.tmp (v := .bool _) rfl) .nil) .nil (by simp) ?_)
              refine ⟨congrArg Value.bool ?_, rfl⟩
              simp only [Job.may]
              first | exact decide_eq_decide.2 (by omega) | exact (decide_eq_false (by omega)).symm
          · replace hh5 := of_decide_eq_false hh5
            iterate 3 refine XO.guard_f rfl rfl rfl rfl ?_
            refine XO.val rfl rfl (OV.pick_f (v := .bool _) rfl rfl) ?_
            refine XO.val rfl rfl (OV.mv (v := .bool _) rfl) ?_
            iterate 3 refine XO.guard_f rfl rfl rfl rfl ?_
            refine XO.val rfl rfl (OV.pick_f (v := .bool _) rfl rfl) ?_
            refine XO.val rfl rfl (OV.mv (v := .bool _) rfl) ?_
            iterate 3 refine XO.guard_f rfl rfl rfl rfl ?_
            refine XO.val rfl rfl (OV.pick_f (v := .bool _) rfl rfl) ?_
            refine XO.val rfl rfl (OV.mv (v := .bool _) rfl) ?_
            iterate 3 refine XO.guard_f rfl rfl rfl rfl ?_
            refine XO.val rfl rfl (OV.pick_f (v := .bool _) rfl rfl) ?_
            refine XO.val rfl rfl (OV.mv (v := .bool _) rfl) ?_
            iterate 3 refine XO.guard_f rfl rfl rfl rfl ?_
            refine XO.val rfl rfl (OV.pick_f (v := .bool _) rfl rfl) ?_
            refine XO.val rfl rfl (OV.asg (v := .bool _) rfl) ?_
            refine XO.nil ?_
            refine XK.retTo (Fin.ret (.cons (.tmp (v := .bool _) rfl) .nil) .nil (by simp) ?_)
            refine ⟨congrArg Value.bool ?_, rfl⟩
            simp only [Job.may]
            first | exact decide_eq_decide.2 (by omega) | exact (decide_eq_false (by omega)).symm
        · replace hh4 := of_decide_eq_false hh4
          iterate 3 refine XO.guard_f rfl rfl rfl rfl ?_
          refine XO.val rfl rfl (OV.pick_f (v := .bool _) rfl rfl) ?_
          refine XO.val rfl rfl (OV.mv (v := .bool _) rfl) ?_
          iterate 3 refine XO.guard_f rfl rfl rfl rfl ?_
          refine XO.val rfl rfl (OV.pick_f (v := .bool _) rfl rfl) ?_
          refine XO.val rfl rfl (OV.mv (v := .bool _) rfl) ?_
          iterate 3 refine XO.guard_f rfl rfl rfl rfl ?_
          refine XO.val rfl rfl (OV.pick_f (v := .bool _) rfl rfl) ?_
          refine XO.val rfl rfl (OV.mv (v := .bool _) rfl) ?_
          iterate 3 refine XO.guard_f rfl rfl rfl rfl ?_
          refine XO.val rfl rfl (OV.pick_f (v := .bool _) rfl rfl) ?_
          refine XO.val rfl rfl (OV.mv (v := .bool _) rfl) ?_
          iterate 3 refine XO.guard_f rfl rfl rfl rfl ?_
          refine XO.val rfl rfl (OV.pick_f (v := .bool _) rfl rfl) ?_
          refine XO.val rfl rfl (OV.mv (v := .bool _) rfl) ?_
          iterate 3 refine XO.guard_f rfl rfl rfl rfl ?_
          refine XO.val rfl rfl (OV.pick_f (v := .bool _) rfl rfl) ?_
          refine XO.val rfl rfl (OV.asg (v := .bool _) rfl) ?_
          refine XO.nil ?_
          refine XK.retTo (Fin.ret (.cons (.tmp (v := .bool _) rfl) .nil) .nil (by simp) ?_)
          refine ⟨congrArg Value.bool ?_, rfl⟩
          simp only [Job.may]
          first | exact decide_eq_decide.2 (by omega) | exact (decide_eq_false (by omega)).symm
      · replace hh3 := of_decide_eq_false hh3
        iterate 3 refine XO.guard_f rfl rfl rfl rfl ?_
        refine XO.val rfl rfl (OV.pick_f (v := .bool _) rfl rfl) ?_
        refine XO.val rfl rfl (OV.mv (v := .bool _) rfl) ?_
        iterate 3 refine XO.guard_f rfl rfl rfl rfl ?_
        refine XO.val rfl rfl (OV.pick_f (v := .bool _) rfl rfl) ?_
        refine XO.val rfl rfl (OV.mv (v := .bool _) rfl) ?_
        iterate 3 refine XO.guard_f rfl rfl rfl rfl ?_
        refine XO.val rfl rfl (OV.pick_f (v := .bool _) rfl rfl) ?_
        refine XO.val rfl rfl (OV.mv (v := .bool _) rfl) ?_
        iterate 3 refine XO.guard_f rfl rfl rfl rfl ?_
        refine XO.val rfl rfl (OV.pick_f (v := .bool _) rfl rfl) ?_
        refine XO.val rfl rfl (OV.mv (v := .bool _) rfl) ?_
        iterate 3 refine XO.guard_f rfl rfl rfl rfl ?_
        refine XO.val rfl rfl (OV.pick_f (v := .bool _) rfl rfl) ?_
        refine XO.val rfl rfl (OV.mv (v := .bool _) rfl) ?_
        iterate 3 refine XO.guard_f rfl rfl rfl rfl ?_
        refine XO.val rfl rfl (OV.pick_f (v := .bool _) rfl rfl) ?_
        refine XO.val rfl rfl (OV.mv (v := .bool _) rfl) ?_
        iterate 3 refine XO.guard_f rfl rfl rfl rfl ?_
        refine XO.val rfl rfl (OV.pick_f (v := .bool _) rfl rfl) ?_
        refine XO.val rfl rfl (OV.asg (v := .bool _) rfl) ?_
        refine XO.nil ?_
        refine XK.retTo (Fin.ret (.cons (.tmp (v := .bool _) rfl) .nil) .nil (by simp) ?_)
        refine ⟨congrArg Value.bool ?_, rfl⟩
        simp only [Job.may]
        first | exact decide_eq_decide.2 (by omega) | exact (decide_eq_false (by omega)).symm
    · replace hh2 := of_decide_eq_false hh2
      iterate 3 refine XO.guard_f rfl rfl rfl rfl ?_
      refine XO.val rfl rfl (OV.pick_f (v := .bool _) rfl rfl) ?_
      refine XO.val rfl rfl (OV.mv (v := .bool _) rfl) ?_
      iterate 3 refine XO.guard_f rfl rfl rfl rfl ?_
      refine XO.val rfl rfl (OV.pick_f (v := .bool _) rfl rfl) ?_
      refine XO.val rfl rfl (OV.mv (v := .bool _) rfl) ?_
      iterate 3 refine XO.guard_f rfl rfl rfl rfl ?_
      refine XO.val rfl rfl (OV.pick_f (v := .bool _) rfl rfl) ?_
      refine XO.val rfl rfl (OV.mv (v := .bool _) rfl) ?_
      iterate 3 refine XO.guard_f rfl rfl rfl rfl ?_
      refine XO.val rfl rfl (OV.pick_f (v := .bool _) rfl rfl) ?_
      refine XO.val rfl rfl (OV.mv (v := .bool _) rfl) ?_
      iterate 3 refine XO.guard_f rfl rfl rfl rfl ?_
      refine XO.val rfl rfl (OV.pick_f (v := .bool _) rfl rfl) ?_
      refine XO.val rfl rfl (OV.mv (v := .bool _) rfl) ?_
      iterate 3 refine XO.guard_f rfl rfl rfl rfl ?_
      refine XO.val rfl rfl (OV.pick_f (v := .bool _) rfl rfl) ?_
      refine XO.val rfl rfl (OV.mv (v := .bool _) rfl) ?_
      iterate 3 refine XO.guard_f rfl rfl rfl rfl ?_
      refine XO.val rfl rfl (OV.pick_f (v := .bool _) rfl rfl) ?_
      refine XO.val rfl rfl (OV.mv (v := .bool _) rfl) ?_
      iterate 3 refine XO.guard_f rfl rfl rfl rfl ?_
      refine XO.val rfl rfl (OV.pick_f (v := .bool _) rfl rfl) ?_
      refine XO.val rfl rfl (OV.asg (v := .bool _) rfl) ?_
      refine XO.nil ?_
      refine XK.retTo (Fin.ret (.cons (.tmp (v := .bool _) rfl) .nil) .nil (by simp) ?_)
      refine ⟨congrArg Value.bool ?_, rfl⟩
      simp only [Job.may]
      first | exact decide_eq_decide.2 (by omega) | exact (decide_eq_false (by omega)).symm
  · replace hh1 := of_decide_eq_false hh1
    iterate 3 refine XO.guard_f rfl rfl rfl rfl ?_
    refine XO.val rfl rfl (OV.pick_f (v := .bool _) rfl rfl) ?_
    refine XO.val rfl rfl (OV.mv (v := .bool _) rfl) ?_
    iterate 3 refine XO.guard_f rfl rfl rfl rfl ?_
    refine XO.val rfl rfl (OV.pick_f (v := .bool _) rfl rfl) ?_
    refine XO.val rfl rfl (OV.mv (v := .bool _) rfl) ?_
    iterate 3 refine XO.guard_f rfl rfl rfl rfl ?_
    refine XO.val rfl rfl (OV.pick_f (v := .bool _) rfl rfl) ?_
    refine XO.val rfl rfl (OV.mv (v := .bool _) rfl) ?_
    iterate 3 refine XO.guard_f rfl rfl rfl rfl ?_
    refine XO.val rfl rfl (OV.pick_f (v := .bool _) rfl rfl) ?_
    refine XO.val rfl rfl (OV.mv (v := .bool _) rfl) ?_
    iterate 3 refine XO.guard_f rfl rfl rfl rfl ?_
    refine XO.val rfl rfl (OV.pick_f (v := .bool _) rfl rfl) ?_
    refine XO.val rfl rfl (OV.mv (v := .bool _) rfl) ?_
    iterate 3 refine XO.guard_f rfl rfl rfl rfl ?_
    refine XO.val rfl rfl (OV.pick_f (v := .bool _) rfl rfl) ?_
    refine XO.val rfl rfl (OV.mv (v := .bool _) rfl) ?_
    iterate 3 refine XO.guard_f rfl rfl rfl rfl ?_
    refine XO.val rfl rfl (OV.pick_f (v := .bool _) rfl rfl) ?_
    refine XO.val rfl rfl (OV.mv (v := .bool _) rfl) ?_
    iterate 3 refine XO.guard_f rfl rfl rfl rfl ?_
    refine XO.val rfl rfl (OV.pick_f (v := .bool _) rfl rfl) ?_
    refine XO.val rfl rfl (OV.mv (v := .bool _) rfl) ?_
    iterate 3 refine XO.guard_f rfl rfl rfl rfl ?_
    refine XO.val rfl rfl (OV.pick_f (v := .bool _) rfl rfl) ?_
    refine XO.val rfl rfl (OV.asg (v := .bool _) rfl) ?_
    refine XO.nil ?_
    refine XK.retTo (Fin.ret (.cons (.tmp (v := .bool _) rfl) .nil) .nil (by simp) ?_)
    refine ⟨congrArg Value.bool ?_, rfl⟩
    simp only [Job.may]
    first | exact decide_eq_decide.2 (by omega) | exact (decide_eq_false (by omega)).symm

theorem refMay_ok (j : Job) :
    CtV Try.prog 13 [jobV j] [] (.bool j.may) := by
  refine Ct.of (N := 51) (rs := [.tmp 2]) Try.func13 rfl rfl rfl (Nat.le_of_ble_eq_true rfl) (fun B => ?_)
  refine XK.seq ?_
  refine XK.region ?_
  refine XO.box (v := .agg _) rfl rfl rfl (fun r1 hr1 => ?_)
  refine XO.val rfl rfl (OV.asg (v := .bool _) rfl) ?_
  refine XO.nil ?_
  refine XK.seq ?_
  refine XK.region ?_
  refine XO.val rfl rfl (OV.fa rfl Dev_fa_23_0) ?_
  refine XO.val rfl rfl (OV.ld rfl Try.isAgg3 (by repeat (first | exact List.Mem.head _ | apply List.Mem.tail | apply List.mem_append_right)) rfl) ?_
  refine XO.val rfl rfl (OV.geq rfl rfl) ?_
  refine XO.val rfl rfl (OV.mv (v := .bool _) rfl) ?_
  refine XO.split (t := 6) rfl (fun hh1 => ?_) (fun hh1 => ?_)
  · replace hh1 := of_decide_eq_true hh1
    refine XO.guard_t rfl rfl ?_
    refine XO.val rfl rfl (OV.fa rfl Dev_fa_23_0) ?_
    refine XO.guard_t rfl rfl ?_
    refine XO.val rfl rfl (OV.ld rfl Try.isAgg3 (by repeat (first | exact List.Mem.head _ | apply List.Mem.tail | apply List.mem_append_right)) rfl) ?_
    refine XO.guard_t rfl rfl ?_
    refine XO.val rfl rfl (OV.leq rfl rfl) ?_
    refine XO.val rfl rfl (OV.pick_t (v := .bool _) rfl rfl) ?_
    refine XO.val rfl rfl (OV.mv (v := .bool _) rfl) ?_
    refine XO.split (t := 11) rfl (fun hh2 => ?_) (fun hh2 => ?_)
    · replace hh2 := of_decide_eq_true hh2
      refine XO.guard_t rfl rfl ?_
      refine XO.val rfl rfl (OV.fa rfl Dev_fa_23_1) ?_
      refine XO.guard_t rfl rfl ?_
      refine XO.val rfl rfl (OV.ld rfl Try.isAgg3 (by repeat (first | exact List.Mem.head _ | apply List.Mem.tail | apply List.mem_append_right)) rfl) ?_
      refine XO.guard_t rfl rfl ?_
      refine XO.val rfl rfl (OV.geq rfl rfl) ?_
      refine XO.val rfl rfl (OV.pick_t (v := .bool _) rfl rfl) ?_
      refine XO.val rfl rfl (OV.mv (v := .bool _) rfl) ?_
      refine XO.split (t := 16) rfl (fun hh3 => ?_) (fun hh3 => ?_)
      · replace hh3 := of_decide_eq_true hh3
        refine XO.guard_t rfl rfl ?_
        refine XO.val rfl rfl (OV.fa rfl Dev_fa_23_1) ?_
        refine XO.guard_t rfl rfl ?_
        refine XO.val rfl rfl (OV.ld rfl Try.isAgg3 (by repeat (first | exact List.Mem.head _ | apply List.Mem.tail | apply List.mem_append_right)) rfl) ?_
        refine XO.guard_t rfl rfl ?_
        refine XO.val rfl rfl (OV.leq rfl rfl) ?_
        refine XO.val rfl rfl (OV.pick_t (v := .bool _) rfl rfl) ?_
        refine XO.val rfl rfl (OV.mv (v := .bool _) rfl) ?_
        refine XO.split (t := 21) rfl (fun hh4 => ?_) (fun hh4 => ?_)
        · replace hh4 := of_decide_eq_true hh4
          refine XO.guard_t rfl rfl ?_
          refine XO.val rfl rfl (OV.fa rfl Dev_fa_23_2) ?_
          refine XO.guard_t rfl rfl ?_
          refine XO.val rfl rfl (OV.ld rfl Try.isAgg3 (by repeat (first | exact List.Mem.head _ | apply List.Mem.tail | apply List.mem_append_right)) rfl) ?_
          refine XO.guard_t rfl rfl ?_
          refine XO.val rfl rfl (OV.geq rfl rfl) ?_
          refine XO.val rfl rfl (OV.pick_t (v := .bool _) rfl rfl) ?_
          refine XO.val rfl rfl (OV.mv (v := .bool _) rfl) ?_
          refine XO.split (t := 26) rfl (fun hh5 => ?_) (fun hh5 => ?_)
          · replace hh5 := of_decide_eq_true hh5
            refine XO.guard_t rfl rfl ?_
            refine XO.val rfl rfl (OV.fa rfl Dev_fa_23_2) ?_
            refine XO.guard_t rfl rfl ?_
            refine XO.val rfl rfl (OV.ld rfl Try.isAgg3 (by repeat (first | exact List.Mem.head _ | apply List.Mem.tail | apply List.mem_append_right)) rfl) ?_
            refine XO.guard_t rfl rfl ?_
            refine XO.val rfl rfl (OV.leq rfl rfl) ?_
            refine XO.val rfl rfl (OV.pick_t (v := .bool _) rfl rfl) ?_
            refine XO.val rfl rfl (OV.mv (v := .bool _) rfl) ?_
            refine XO.split (t := 31) rfl (fun hh6 => ?_) (fun hh6 => ?_)
            · replace hh6 := of_decide_eq_true hh6
              refine XO.guard_t rfl rfl ?_
              refine XO.val rfl rfl (OV.fa rfl Dev_fa_23_3) ?_
              refine XO.guard_t rfl rfl ?_
              refine XO.val rfl rfl (OV.ld rfl Try.isAgg3 (by repeat (first | exact List.Mem.head _ | apply List.Mem.tail | apply List.mem_append_right)) rfl) ?_
              refine XO.guard_t rfl rfl ?_
              refine XO.val rfl rfl (OV.geq rfl rfl) ?_
              refine XO.val rfl rfl (OV.pick_t (v := .bool _) rfl rfl) ?_
              refine XO.val rfl rfl (OV.mv (v := .bool _) rfl) ?_
              refine XO.split (t := 36) rfl (fun hh7 => ?_) (fun hh7 => ?_)
              · replace hh7 := of_decide_eq_true hh7
                refine XO.guard_t rfl rfl ?_
                refine XO.val rfl rfl (OV.fa rfl Dev_fa_23_3) ?_
                refine XO.guard_t rfl rfl ?_
                refine XO.val rfl rfl (OV.ld rfl Try.isAgg3 (by repeat (first | exact List.Mem.head _ | apply List.Mem.tail | apply List.mem_append_right)) rfl) ?_
                refine XO.guard_t rfl rfl ?_
                refine XO.val rfl rfl (OV.leq rfl rfl) ?_
                refine XO.val rfl rfl (OV.pick_t (v := .bool _) rfl rfl) ?_
                refine XO.val rfl rfl (OV.mv (v := .bool _) rfl) ?_
                refine XO.split (t := 41) rfl (fun hh8 => ?_) (fun hh8 => ?_)
                · replace hh8 := of_decide_eq_true hh8
                  refine XO.guard_t rfl rfl ?_
                  refine XO.val rfl rfl (OV.fa rfl Dev_fa_23_4) ?_
                  refine XO.guard_t rfl rfl ?_
                  refine XO.val rfl rfl (OV.ld rfl Try.isAgg3 (by repeat (first | exact List.Mem.head _ | apply List.Mem.tail | apply List.mem_append_right)) rfl) ?_
                  refine XO.guard_t rfl rfl ?_
                  refine XO.val rfl rfl (OV.geq rfl rfl) ?_
                  refine XO.val rfl rfl (OV.pick_t (v := .bool _) rfl rfl) ?_
                  refine XO.val rfl rfl (OV.mv (v := .bool _) rfl) ?_
                  refine XO.split (t := 46) rfl (fun hh9 => ?_) (fun hh9 => ?_)
                  · replace hh9 := of_decide_eq_true hh9
                    refine XO.guard_t rfl rfl ?_
                    refine XO.val rfl rfl (OV.fa rfl Dev_fa_23_4) ?_
                    refine XO.guard_t rfl rfl ?_
                    refine XO.val rfl rfl (OV.ld rfl Try.isAgg3 (by repeat (first | exact List.Mem.head _ | apply List.Mem.tail | apply List.mem_append_right)) rfl) ?_
                    refine XO.guard_t rfl rfl ?_
                    refine XO.val rfl rfl (OV.leq rfl rfl) ?_
                    refine XO.val rfl rfl (OV.pick_t (v := .bool _) rfl rfl) ?_
                    refine XO.val rfl rfl (OV.asg (v := .bool _) rfl) ?_
                    refine XO.nil ?_
                    refine XK.retTo (Fin.ret (.cons (.tmp (v := .bool _) rfl) .nil) .nil (by simp) ?_)
                    refine ⟨congrArg Value.bool ?_, rfl⟩
                    simp only [Job.may]
                    first | exact decide_eq_decide.2 (by omega) | exact (decide_eq_false (by omega)).symm
                  · replace hh9 := of_decide_eq_false hh9
                    iterate 3 refine XO.guard_f rfl rfl rfl rfl ?_
                    refine XO.val rfl rfl (OV.pick_f (v := .bool _) rfl rfl) ?_
                    refine XO.val rfl rfl (OV.asg (v := .bool _) rfl) ?_
                    refine XO.nil ?_
                    refine XK.retTo (Fin.ret (.cons (.tmp (v := .bool _) rfl) .nil) .nil (by simp) ?_)
                    refine ⟨congrArg Value.bool ?_, rfl⟩
                    simp only [Job.may]
                    first | exact decide_eq_decide.2 (by omega) | exact (decide_eq_false (by omega)).symm
                · replace hh8 := of_decide_eq_false hh8
                  iterate 3 refine XO.guard_f rfl rfl rfl rfl ?_
                  refine XO.val rfl rfl (OV.pick_f (v := .bool _) rfl rfl) ?_
                  refine XO.val rfl rfl (OV.mv (v := .bool _) rfl) ?_
                  iterate 3 refine XO.guard_f rfl rfl rfl rfl ?_
                  refine XO.val rfl rfl (OV.pick_f (v := .bool _) rfl rfl) ?_
                  refine XO.val rfl rfl (OV.asg (v := .bool _) rfl) ?_
                  refine XO.nil ?_
                  refine XK.retTo (Fin.ret (.cons (.tmp (v := .bool _) rfl) .nil) .nil (by simp) ?_)
                  refine ⟨congrArg Value.bool ?_, rfl⟩
                  simp only [Job.may]
                  first | exact decide_eq_decide.2 (by omega) | exact (decide_eq_false (by omega)).symm
              · replace hh7 := of_decide_eq_false hh7
                iterate 3 refine XO.guard_f rfl rfl rfl rfl ?_
                refine XO.val rfl rfl (OV.pick_f (v := .bool _) rfl rfl) ?_
                refine XO.val rfl rfl (OV.mv (v := .bool _) rfl) ?_
                iterate 3 refine XO.guard_f rfl rfl rfl rfl ?_
                refine XO.val rfl rfl (OV.pick_f (v := .bool _) rfl rfl) ?_
                refine XO.val rfl rfl (OV.mv (v := .bool _) rfl) ?_
                iterate 3 refine XO.guard_f rfl rfl rfl rfl ?_
                refine XO.val rfl rfl (OV.pick_f (v := .bool _) rfl rfl) ?_
                refine XO.val rfl rfl (OV.asg (v := .bool _) rfl) ?_
                refine XO.nil ?_
                refine XK.retTo (Fin.ret (.cons (.tmp (v := .bool _) rfl) .nil) .nil (by simp) ?_)
                refine ⟨congrArg Value.bool ?_, rfl⟩
                simp only [Job.may]
                first | exact decide_eq_decide.2 (by omega) | exact (decide_eq_false (by omega)).symm
            · replace hh6 := of_decide_eq_false hh6
              iterate 3 refine XO.guard_f rfl rfl rfl rfl ?_
              refine XO.val rfl rfl (OV.pick_f (v := .bool _) rfl rfl) ?_
              refine XO.val rfl rfl (OV.mv (v := .bool _) rfl) ?_
              iterate 3 refine XO.guard_f rfl rfl rfl rfl ?_
              refine XO.val rfl rfl (OV.pick_f (v := .bool _) rfl rfl) ?_
              refine XO.val rfl rfl (OV.mv (v := .bool _) rfl) ?_
              iterate 3 refine XO.guard_f rfl rfl rfl rfl ?_
              refine XO.val rfl rfl (OV.pick_f (v := .bool _) rfl rfl) ?_
              refine XO.val rfl rfl (OV.mv (v := .bool _) rfl) ?_
              iterate 3 refine XO.guard_f rfl rfl rfl rfl ?_
              refine XO.val rfl rfl (OV.pick_f (v := .bool _) rfl rfl) ?_
              refine XO.val rfl rfl (OV.asg (v := .bool _) rfl) ?_
              refine XO.nil ?_
              refine XK.retTo (Fin.ret (.cons (.tmp (v := .bool _) rfl) .nil) .nil (by simp) ?_)
              refine ⟨congrArg Value.bool ?_, rfl⟩
              simp only [Job.may]
              first | exact decide_eq_decide.2 (by omega) | exact (decide_eq_false (by omega)).symm
          · replace hh5 := of_decide_eq_false hh5
            iterate 3 refine XO.guard_f rfl rfl rfl rfl ?_
            refine XO.val rfl rfl (OV.pick_f (v := .bool _) rfl rfl) ?_
            refine XO.val rfl rfl (OV.mv (v := .bool _) rfl) ?_
            iterate 3 refine XO.guard_f rfl rfl rfl rfl ?_
            refine XO.val rfl rfl (OV.pick_f (v := .bool _) rfl rfl) ?_
            refine XO.val rfl rfl (OV.mv (v := .bool _) rfl) ?_
            iterate 3 refine XO.guard_f rfl rfl rfl rfl ?_
            refine XO.val rfl rfl (OV.pick_f (v := .bool _) rfl rfl) ?_
            refine XO.val rfl rfl (OV.mv (v := .bool _) rfl) ?_
            iterate 3 refine XO.guard_f rfl rfl rfl rfl ?_
            refine XO.val rfl rfl (OV.pick_f (v := .bool _) rfl rfl) ?_
            refine XO.val rfl rfl (OV.mv (v := .bool _) rfl) ?_
            iterate 3 refine XO.guard_f rfl rfl rfl rfl ?_
            refine XO.val rfl rfl (OV.pick_f (v := .bool _) rfl rfl) ?_
            refine XO.val rfl rfl (OV.asg (v := .bool _) rfl) ?_
            refine XO.nil ?_
            refine XK.retTo (Fin.ret (.cons (.tmp (v := .bool _) rfl) .nil) .nil (by simp) ?_)
            refine ⟨congrArg Value.bool ?_, rfl⟩
            simp only [Job.may]
            first | exact decide_eq_decide.2 (by omega) | exact (decide_eq_false (by omega)).symm
        · replace hh4 := of_decide_eq_false hh4
          iterate 3 refine XO.guard_f rfl rfl rfl rfl ?_
          refine XO.val rfl rfl (OV.pick_f (v := .bool _) rfl rfl) ?_
          refine XO.val rfl rfl (OV.mv (v := .bool _) rfl) ?_
          iterate 3 refine XO.guard_f rfl rfl rfl rfl ?_
          refine XO.val rfl rfl (OV.pick_f (v := .bool _) rfl rfl) ?_
          refine XO.val rfl rfl (OV.mv (v := .bool _) rfl) ?_
          iterate 3 refine XO.guard_f rfl rfl rfl rfl ?_
          refine XO.val rfl rfl (OV.pick_f (v := .bool _) rfl rfl) ?_
          refine XO.val rfl rfl (OV.mv (v := .bool _) rfl) ?_
          iterate 3 refine XO.guard_f rfl rfl rfl rfl ?_
          refine XO.val rfl rfl (OV.pick_f (v := .bool _) rfl rfl) ?_
          refine XO.val rfl rfl (OV.mv (v := .bool _) rfl) ?_
          iterate 3 refine XO.guard_f rfl rfl rfl rfl ?_
          refine XO.val rfl rfl (OV.pick_f (v := .bool _) rfl rfl) ?_
          refine XO.val rfl rfl (OV.mv (v := .bool _) rfl) ?_
          iterate 3 refine XO.guard_f rfl rfl rfl rfl ?_
          refine XO.val rfl rfl (OV.pick_f (v := .bool _) rfl rfl) ?_
          refine XO.val rfl rfl (OV.asg (v := .bool _) rfl) ?_
          refine XO.nil ?_
          refine XK.retTo (Fin.ret (.cons (.tmp (v := .bool _) rfl) .nil) .nil (by simp) ?_)
          refine ⟨congrArg Value.bool ?_, rfl⟩
          simp only [Job.may]
          first | exact decide_eq_decide.2 (by omega) | exact (decide_eq_false (by omega)).symm
      · replace hh3 := of_decide_eq_false hh3
        iterate 3 refine XO.guard_f rfl rfl rfl rfl ?_
        refine XO.val rfl rfl (OV.pick_f (v := .bool _) rfl rfl) ?_
        refine XO.val rfl rfl (OV.mv (v := .bool _) rfl) ?_
        iterate 3 refine XO.guard_f rfl rfl rfl rfl ?_
        refine XO.val rfl rfl (OV.pick_f (v := .bool _) rfl rfl) ?_
        refine XO.val rfl rfl (OV.mv (v := .bool _) rfl) ?_
        iterate 3 refine XO.guard_f rfl rfl rfl rfl ?_
        refine XO.val rfl rfl (OV.pick_f (v := .bool _) rfl rfl) ?_
        refine XO.val rfl rfl (OV.mv (v := .bool _) rfl) ?_
        iterate 3 refine XO.guard_f rfl rfl rfl rfl ?_
        refine XO.val rfl rfl (OV.pick_f (v := .bool _) rfl rfl) ?_
        refine XO.val rfl rfl (OV.mv (v := .bool _) rfl) ?_
        iterate 3 refine XO.guard_f rfl rfl rfl rfl ?_
        refine XO.val rfl rfl (OV.pick_f (v := .bool _) rfl rfl) ?_
        refine XO.val rfl rfl (OV.mv (v := .bool _) rfl) ?_
        iterate 3 refine XO.guard_f rfl rfl rfl rfl ?_
        refine XO.val rfl rfl (OV.pick_f (v := .bool _) rfl rfl) ?_
        refine XO.val rfl rfl (OV.mv (v := .bool _) rfl) ?_
        iterate 3 refine XO.guard_f rfl rfl rfl rfl ?_
        refine XO.val rfl rfl (OV.pick_f (v := .bool _) rfl rfl) ?_
        refine XO.val rfl rfl (OV.asg (v := .bool _) rfl) ?_
        refine XO.nil ?_
        refine XK.retTo (Fin.ret (.cons (.tmp (v := .bool _) rfl) .nil) .nil (by simp) ?_)
        refine ⟨congrArg Value.bool ?_, rfl⟩
        simp only [Job.may]
        first | exact decide_eq_decide.2 (by omega) | exact (decide_eq_false (by omega)).symm
    · replace hh2 := of_decide_eq_false hh2
      iterate 3 refine XO.guard_f rfl rfl rfl rfl ?_
      refine XO.val rfl rfl (OV.pick_f (v := .bool _) rfl rfl) ?_
      refine XO.val rfl rfl (OV.mv (v := .bool _) rfl) ?_
      iterate 3 refine XO.guard_f rfl rfl rfl rfl ?_
      refine XO.val rfl rfl (OV.pick_f (v := .bool _) rfl rfl) ?_
      refine XO.val rfl rfl (OV.mv (v := .bool _) rfl) ?_
      iterate 3 refine XO.guard_f rfl rfl rfl rfl ?_
      refine XO.val rfl rfl (OV.pick_f (v := .bool _) rfl rfl) ?_
      refine XO.val rfl rfl (OV.mv (v := .bool _) rfl) ?_
      iterate 3 refine XO.guard_f rfl rfl rfl rfl ?_
      refine XO.val rfl rfl (OV.pick_f (v := .bool _) rfl rfl) ?_
      refine XO.val rfl rfl (OV.mv (v := .bool _) rfl) ?_
      iterate 3 refine XO.guard_f rfl rfl rfl rfl ?_
      refine XO.val rfl rfl (OV.pick_f (v := .bool _) rfl rfl) ?_
      refine XO.val rfl rfl (OV.mv (v := .bool _) rfl) ?_
      iterate 3 refine XO.guard_f rfl rfl rfl rfl ?_
      refine XO.val rfl rfl (OV.pick_f (v := .bool _) rfl rfl) ?_
      refine XO.val rfl rfl (OV.mv (v := .bool _) rfl) ?_
      iterate 3 refine XO.guard_f rfl rfl rfl rfl ?_
      refine XO.val rfl rfl (OV.pick_f (v := .bool _) rfl rfl) ?_
      refine XO.val rfl rfl (OV.mv (v := .bool _) rfl) ?_
      iterate 3 refine XO.guard_f rfl rfl rfl rfl ?_
      refine XO.val rfl rfl (OV.pick_f (v := .bool _) rfl rfl) ?_
      refine XO.val rfl rfl (OV.asg (v := .bool _) rfl) ?_
      refine XO.nil ?_
      refine XK.retTo (Fin.ret (.cons (.tmp (v := .bool _) rfl) .nil) .nil (by simp) ?_)
      refine ⟨congrArg Value.bool ?_, rfl⟩
      simp only [Job.may]
      first | exact decide_eq_decide.2 (by omega) | exact (decide_eq_false (by omega)).symm
  · replace hh1 := of_decide_eq_false hh1
    iterate 3 refine XO.guard_f rfl rfl rfl rfl ?_
    refine XO.val rfl rfl (OV.pick_f (v := .bool _) rfl rfl) ?_
    refine XO.val rfl rfl (OV.mv (v := .bool _) rfl) ?_
    iterate 3 refine XO.guard_f rfl rfl rfl rfl ?_
    refine XO.val rfl rfl (OV.pick_f (v := .bool _) rfl rfl) ?_
    refine XO.val rfl rfl (OV.mv (v := .bool _) rfl) ?_
    iterate 3 refine XO.guard_f rfl rfl rfl rfl ?_
    refine XO.val rfl rfl (OV.pick_f (v := .bool _) rfl rfl) ?_
    refine XO.val rfl rfl (OV.mv (v := .bool _) rfl) ?_
    iterate 3 refine XO.guard_f rfl rfl rfl rfl ?_
    refine XO.val rfl rfl (OV.pick_f (v := .bool _) rfl rfl) ?_
    refine XO.val rfl rfl (OV.mv (v := .bool _) rfl) ?_
    iterate 3 refine XO.guard_f rfl rfl rfl rfl ?_
    refine XO.val rfl rfl (OV.pick_f (v := .bool _) rfl rfl) ?_
    refine XO.val rfl rfl (OV.mv (v := .bool _) rfl) ?_
    iterate 3 refine XO.guard_f rfl rfl rfl rfl ?_
    refine XO.val rfl rfl (OV.pick_f (v := .bool _) rfl rfl) ?_
    refine XO.val rfl rfl (OV.mv (v := .bool _) rfl) ?_
    iterate 3 refine XO.guard_f rfl rfl rfl rfl ?_
    refine XO.val rfl rfl (OV.pick_f (v := .bool _) rfl rfl) ?_
    refine XO.val rfl rfl (OV.mv (v := .bool _) rfl) ?_
    iterate 3 refine XO.guard_f rfl rfl rfl rfl ?_
    refine XO.val rfl rfl (OV.pick_f (v := .bool _) rfl rfl) ?_
    refine XO.val rfl rfl (OV.mv (v := .bool _) rfl) ?_
    iterate 3 refine XO.guard_f rfl rfl rfl rfl ?_
    refine XO.val rfl rfl (OV.pick_f (v := .bool _) rfl rfl) ?_
    refine XO.val rfl rfl (OV.asg (v := .bool _) rfl) ?_
    refine XO.nil ?_
    refine XK.retTo (Fin.ret (.cons (.tmp (v := .bool _) rfl) .nil) .nil (by simp) ?_)
    refine ⟨congrArg Value.bool ?_, rfl⟩
    simp only [Job.may]
    first | exact decide_eq_decide.2 (by omega) | exact (decide_eq_false (by omega)).symm

theorem there_ok (r s : Nat) (D : Dev) (hD : D.wf) :
    CtV Try.prog 99 [.pointer (some ⟨r, 0, none⟩)] [(r, cel (devL s D) 86)] (.bool true) := by
  have hn := hD.nodes0
  refine Ct.of (N := 12) (rs := [.tmp 2]) Try.func99 rfl rfl rfl (Nat.le_of_ble_eq_true rfl) (fun B => ?_)
  refine XK.seq ?_
  refine XK.region ?_
  refine XO.val rfl rfl (OV.asg (v := .bool _) rfl) ?_
  refine XO.nil ?_
  refine XK.seq ?_
  refine XK.region ?_
  refine XO.val rfl rfl (OV.mv (v := .pointer _) rfl) ?_
  refine XO.val rfl rfl (OV.neN rfl rfl Try.runUnderlying27) ?_
  refine XO.val rfl rfl (OV.mv (v := .bool _) rfl) ?_
  refine XO.say (u := .bool true) (v := .bool true) 5 rfl rfl ?_
  refine XO.guard_t rfl rfl ?_
  refine XO.val rfl rfl (OV.mv (v := .pointer _) rfl) ?_
  refine XO.guard_t rfl rfl ?_
  refine XO.val rfl rfl (OV.nilc rfl) ?_
  refine XO.guard_t rfl rfl ?_
  refine XO.val rfl rfl (OV.fa rfl Dev_fa_86_2) ?_
  refine XO.guard_t rfl rfl ?_
  refine XO.val rfl rfl (OV.ld rfl Try.isAgg3 (by repeat (first | exact List.Mem.head _ | apply List.Mem.tail | apply List.mem_append_right)) rfl) ?_
  refine XO.guard_t rfl rfl ?_
  refine XO.val rfl rfl (OV.gtr rfl rfl) ?_
  refine XO.val rfl rfl (OV.pick_t (v := .bool _) rfl rfl) ?_
  refine XO.val rfl rfl (OV.asg (v := .bool _) rfl) ?_
  refine XO.nil ?_
  refine XK.retTo (Fin.ret (.cons (.tmp (v := .bool _) rfl) .nil) .nil (by simp) ?_)
  exact ⟨congrArg Value.bool (decide_eq_true (by omega)), rfl⟩

theorem there_nil  :
    CtV Try.prog 99 [.pointer none] [] (.bool false) := by
  refine Ct.of (N := 12) (rs := [.tmp 2]) Try.func99 rfl rfl rfl (Nat.le_of_ble_eq_true rfl) (fun B => ?_)
  refine XK.seq ?_
  refine XK.region ?_
  refine XO.val rfl rfl (OV.asg (v := .bool _) rfl) ?_
  refine XO.nil ?_
  refine XK.seq ?_
  refine XK.region ?_
  refine XO.val rfl rfl (OV.mv (v := .pointer _) rfl) ?_
  refine XO.val rfl rfl (OV.neN rfl rfl Try.runUnderlying27) ?_
  refine XO.val rfl rfl (OV.mv (v := .bool _) rfl) ?_
  refine XO.say (u := .bool false) (v := .bool false) 5 rfl rfl ?_
  iterate 5 refine XO.guard_f rfl rfl rfl rfl ?_
  refine XO.val rfl rfl (OV.pick_f (v := .bool _) rfl rfl) ?_
  refine XO.val rfl rfl (OV.asg (v := .bool _) rfl) ?_
  refine XO.nil ?_
  refine XK.retTo (Fin.ret (.cons (.tmp (v := .bool _) rfl) .nil) .nil (by simp) ?_)
  exact ⟨rfl, rfl⟩

theorem node_ok (r s : Nat) (D : Dev) (i : Int) :
    CtV Try.prog 187 [.pointer (some ⟨r, 0, none⟩), .int .i64 i] [(r, cel (devL s D) 86)] (.bool (decide (0 ≤ i ∧ i < D.nodes))) := by
  refine Ct.of (N := 15) (rs := [.tmp 4]) Try.func187 rfl rfl rfl (Nat.le_of_ble_eq_true rfl) (fun B => ?_)
  refine XK.seq ?_
  refine XK.region ?_
  refine XO.val rfl rfl (OV.asg (v := .bool _) rfl) ?_
  refine XO.nil ?_
  refine XK.seq ?_
  refine XK.region ?_
  refine XO.val rfl rfl (OV.mv (v := .int _ _) rfl) ?_
  refine XO.val rfl rfl (OV.geq rfl rfl) ?_
  refine XO.val rfl rfl (OV.mv (v := .bool _) rfl) ?_
  refine XO.split (t := 7) rfl (fun hh1 => ?_) (fun hh1 => ?_)
  · replace hh1 := of_decide_eq_true hh1
    refine XO.guard_t rfl rfl ?_
    refine XO.val rfl rfl (OV.mv (v := .int _ _) rfl) ?_
    refine XO.guard_t rfl rfl ?_
    refine XO.val rfl rfl (OV.mv (v := .pointer _) rfl) ?_
    refine XO.guard_t rfl rfl ?_
    refine XO.val rfl rfl (OV.nilc rfl) ?_
    refine XO.guard_t rfl rfl ?_
    refine XO.val rfl rfl (OV.fa rfl Dev_fa_86_2) ?_
    refine XO.guard_t rfl rfl ?_
    refine XO.val rfl rfl (OV.ld rfl Try.isAgg3 (by repeat (first | exact List.Mem.head _ | apply List.Mem.tail | apply List.mem_append_right)) rfl) ?_
    refine XO.guard_t rfl rfl ?_
    refine XO.val rfl rfl (OV.lss rfl rfl) ?_
    refine XO.val rfl rfl (OV.pick_t (v := .bool _) rfl rfl) ?_
    refine XO.val rfl rfl (OV.asg (v := .bool _) rfl) ?_
    refine XO.nil ?_
    refine XK.retTo (Fin.ret (.cons (.tmp (v := .bool _) rfl) .nil) .nil (by simp) ?_)
    refine ⟨congrArg Value.bool ?_, rfl⟩
    first | exact decide_eq_decide.2 (by omega) | exact (decide_eq_false (by omega)).symm
  · replace hh1 := of_decide_eq_false hh1
    iterate 6 refine XO.guard_f rfl rfl rfl rfl ?_
    refine XO.val rfl rfl (OV.pick_f (v := .bool _) rfl rfl) ?_
    refine XO.val rfl rfl (OV.asg (v := .bool _) rfl) ?_
    refine XO.nil ?_
    refine XK.retTo (Fin.ret (.cons (.tmp (v := .bool _) rfl) .nil) .nil (by simp) ?_)
    refine ⟨congrArg Value.bool ?_, rfl⟩
    first | exact decide_eq_decide.2 (by omega) | exact (decide_eq_false (by omega)).symm

end Go.Proofs.Ythophgadmkjamaa
