/- Contracts of functions, printed by a program of this claim (wip/tools/gen.py). -/
import Derived.Test.YthophgadmkjamaaFSeg
import Derived.Test.YthophgadmkjamaaFRed8
import Derived.KernelRfl
set_option maxRecDepth 20000
set_option linter.unusedVariables false
set_option linter.unusedSimpArgs false
namespace Go.Proofs.Ythophgadmkjamaa
open Go Go.Mw Go.Proofs

theorem Red9_zv_36 : ∀ w, (zeroValue 36).run Try.prog w = .ok (.agg (List.toArray ([.int .i64 0] ++ List.replicate 96 (.int .u8 0)))) w := fun w => by kernel_rfl
theorem Red9_bld_36_0 (a0 : Int) : ∀ w, (Instr.build 36 (List.toArray [(0, .int .i64 a0)])).run Try.prog w = .ok (.agg (List.toArray ([.int .i64 a0] ++ List.replicate 96 (.int .u8 0)))) w := fun w => by kernel_rfl
theorem Red9_fa_36_1 : FA Try.prog 36 1 1 := FA.of (n := 95) Try.runUnderlying36 rfl rfl Try.sizeOf34

theorem ver97 (psn c : Int) : (verL psn (c :: zrs 95)).length = 97 := by simp [verL, bys, zrs]

theorem version_ok (psn c : Int) :
    CtV Try.prog 73 [.int .i64 psn, .int .u8 c] [] (.agg (List.toArray (verL psn (c :: zrs 95)))) := by
  refine Ct.of (N := 12) (rs := [.cell 4 36]) Try.func73 rfl rfl rfl (Nat.le_of_ble_eq_true rfl) (fun B => ?_)
  refine XK.seq ?_
  refine XK.region ?_
  refine XO.alloc rfl Red9_zv_36 rfl (fun r4 hr4 => ?_)
  refine XO.nil ?_
  refine XK.seq ?_
  refine XK.region ?_
  refine XO.val rfl rfl (OV.mv (v := .int _ _) rfl) ?_
  refine XO.val rfl rfl (OV.bld (qs := [(0, .int .i64 _)]) (.cons (v := .int _ _) rfl .nil) rfl (Red9_bld_36_0 _)) ?_
  refine XO.alloc rfl Red9_zv_36 rfl (fun r5 hr5 => ?_)
  refine XO.stA rfl rfl (by (repeat (first | with_reducible (apply one_app) | with_reducible exact bys_one | with_reducible exact recL_one _ | with_reducible exact one_rep rfl | exact ones_of rfl | exact bys_one))) Try.sizeOf36 (by (first | assumption | (simp only [List.length_append, bys_length, b4_len, zrs_len, headB_len, putHead_len, List.length_replicate, List.length_cons, List.length_nil, List.length_set, List.length_take, List.length_drop, recL_len]; done) | (simp only [List.length_append, bys_length, b4_len, zrs_len, headB_len, putHead_len, List.length_replicate, List.length_cons, List.length_nil, List.length_set, List.length_take, List.length_drop, recL_len]; omega) | rfl | (simp [*, bys_length]; done) | (simp [*, bys_length]; omega))) (by repeat (first | exact Put.hd | apply Put.tl | apply Put.app)) (by first | exact splice_all (by (first | assumption | (simp only [List.length_append, bys_length, b4_len, zrs_len, headB_len, putHead_len, List.length_replicate, List.length_cons, List.length_nil, List.length_set, List.length_take, List.length_drop, recL_len]; done) | (simp only [List.length_append, bys_length, b4_len, zrs_len, headB_len, putHead_len, List.length_replicate, List.length_cons, List.length_nil, List.length_set, List.length_take, List.length_drop, recL_len]; omega) | rfl | (simp [*, bys_length]; done) | (simp [*, bys_length]; omega))) | rfl) (by (first | (simp only [List.length_append, bys_length, b4_len, zrs_len, headB_len, putHead_len, List.length_replicate, List.length_cons, List.length_nil, List.length_set, List.length_take, List.length_drop, recL_len]; omega) | omega | exact Nat.le_of_ble_eq_true rfl | (simp; done) | (simp; omega))) (by (first | exact .inr ‹_› | (left; ((repeat (first | exact List.Mem.head _ | apply List.Mem.tail)))))) ?_
  apply XO.blk (r := r5)
  · (repeat (first | exact Put.hd | apply Put.tl | apply Put.app))
  · exact (show _ = [.int .i64 psn] ++ bys (zrs 96) from by rw [bys_zrs])
  refine XO.nil ?_
  refine XK.seq ?_
  refine XK.region ?_
  refine XO.val rfl rfl (OV.mv (v := .int _ _) rfl) ?_
  refine XO.val rfl rfl (OV.fa rfl Red9_fa_36_1) ?_
  refine XO.val rfl rfl (OV.ixA rfl rfl Try.runUnderlying34 Try.sizeOf5 (by omega) (by omega)) ?_
  refine XO.st rfl (v := .int _ _) rfl rfl Try.sizeOf5 (by repeat (first | exact Put.hd | apply Put.tl | apply Put.app)) (by (first | (simp only [List.length_append, bys_length, b4_len, zrs_len, headB_len, putHead_len, List.length_replicate, List.length_cons, List.length_nil, List.length_set, List.length_take, List.length_drop, recL_len]; omega) | omega | exact Nat.le_of_ble_eq_true rfl | (simp; done) | (simp; omega))) (by (first | exact .inr ‹_› | (left; ((repeat (first | exact List.Mem.head _ | apply List.Mem.tail)))))) ?_
  apply XO.blk (r := r5)
  · (repeat (first | exact Put.hd | apply Put.tl | apply Put.app))
  · exact (show _ = verL psn (c :: zrs 95) from rfl)
  refine XO.nil ?_
  refine XK.seq ?_
  refine XK.region ?_
  refine XO.val rfl rfl (OV.ldA rfl Try.isAgg36 Try.sizeOf36 (by repeat (first | exact List.Mem.head _ | apply List.Mem.tail | apply List.mem_append_right)) (grab_all (ver97 _ _)) (ver97 _ _)) ?_
  refine XO.stA rfl rfl (one_app (ones_of rfl) bys_one) Try.sizeOf36 (ver97 _ _) (by repeat (first | exact Put.hd | apply Put.tl | apply Put.app)) (splice_all (ver97 _ _)) (by (first | (simp only [List.length_append, bys_length, b4_len, zrs_len, headB_len, putHead_len, List.length_replicate, List.length_cons, List.length_nil, List.length_set, List.length_take, List.length_drop, recL_len]; omega) | omega | exact Nat.le_of_ble_eq_true rfl | (simp; done) | (simp; omega))) (by (first | exact .inr ‹_› | (left; ((repeat (first | exact List.Mem.head _ | apply List.Mem.tail)))))) ?_
  refine XO.nil ?_
  refine XK.retTo (Fin.ret (.cons (.cellA rfl Try.isAgg36 Try.sizeOf36 (by repeat (first | exact List.Mem.head _ | apply List.Mem.tail | apply List.mem_append_right)) (grab_all (ver97 _ _)) (ver97 _ _)) .nil) .nil (by simp) ?_)
  exact ⟨rfl, rfl⟩

end Go.Proofs.Ythophgadmkjamaa
