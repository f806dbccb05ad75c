/- Contracts of functions, printed by a program of this claim (wip/tools/gen.py). -/
import Derived.Test.YthophgadmkjamaaFDefs3
import Derived.Test.YthophgadmkjamaaFDv3
import Derived.KernelRfl
set_option maxRecDepth 20000
set_option linter.unusedVariables false
set_option linter.unusedSimpArgs false
namespace Go.Proofs.Ythophgadmkjamaa
open Go Go.Mw Go.Proofs

theorem Dv4_zv_86 : ∀ w, (zeroValue 86).run Try.prog w = .ok (.agg (List.toArray ([.slice none 0 0, .int .i64 0, .int .i64 0, .int .i64 0, .int .i64 0, .int .i64 0, .int .i64 0, .int .i64 0, .int .i64 0, .int .i64 0, .bool false, .int .i64 0, .bool false, .int .i64 0]))) w := fun w => by kernel_rfl
theorem Dv4_fa_86_0 : FA Try.prog 86 0 0 := FA.of (n := 0) Try.runUnderlying86 rfl rfl Try.sizeOf83
theorem Dv4_zv_157 : ∀ w, (zeroValue 157).run Try.prog w = .ok (.agg (List.toArray (bys (zrs 64)))) w := fun w => by kernel_rfl
theorem Dv4_fa_86_1 : FA Try.prog 86 1 1 := FA.of (n := 7) Try.runUnderlying86 rfl rfl Try.sizeOf84

theorem devCopy_ok (r s : Nat) (D : Dev) (hD : D.wf) :
    Ct Try.prog 163 [.pointer (some ⟨r, 0, none⟩)] [(r, cel (devL s D) 86), (s, cel (secL D) 157)] [] (fun v L => (∃ q, v = .pointer (some ⟨q, 0, none⟩)) ∧ L = []) := by
  have hl := hD.len
  have hsec := fun y hy => (hD.sec y hy).1
  have hfl := flat_len hsec
  refine Ct.of (N := 16) (rs := [.tmp 2]) Try.func163 rfl rfl rfl (Nat.le_of_ble_eq_true rfl) (fun B => ?_)
  refine XK.seq ?_
  refine XK.region ?_
  refine XO.val rfl rfl (OV.asg (v := .pointer _) rfl) ?_
  refine XO.nil ?_
  refine XK.seq ?_
  refine XK.seq ?_
  refine XK.region ?_
  refine XO.val rfl rfl (OV.mv (v := .pointer _) rfl) ?_
  refine XO.callV (cap := []) rfl rfl (.cons (v := .pointer _) rfl .nil) Try.call99 (there_ok r s D hD) (by repeat (first | exact Sel.nil | refine Sel.cons (by repeat (first | exact Del.hd | apply Del.tl | apply Del.app)) (by repeat (first | exact List.Mem.head _ | apply List.Mem.tail | apply List.mem_append_right)) ?_)) ?_
  refine XO.val rfl rfl (OV.notB rfl) ?_
  refine XO.nil ?_
  refine XK.say (u := .bool false) (v := .bool false) 6 rfl rfl ?_
  refine XK.cond_f rfl ?_
  refine XK.skip ?_
  refine XK.seq ?_
  refine XK.region ?_
  refine XO.val rfl rfl (OV.mv (v := .pointer _) rfl) ?_
  refine XO.val rfl rfl (OV.nilc rfl) ?_
  refine XO.val rfl rfl (OV.ldA rfl Try.isAgg86 Try.sizeOf86 (by repeat (first | exact List.Mem.head _ | apply List.Mem.tail | apply List.mem_append_right)) (grab_all rfl) rfl) ?_
  refine XO.alloc rfl Dv4_zv_86 rfl (fun r3 hr3 => ?_)
  refine XO.stA rfl rfl (ones_of rfl) Try.sizeOf86 (by (first | assumption | (simp only [List.length_append, bys_length, b4_len, zrs_len, headB_len, putHead_len, List.length_replicate, List.length_cons, List.length_nil, List.length_set, List.length_take, List.length_drop, recL_len]; done) | (simp only [List.length_append, bys_length, b4_len, zrs_len, headB_len, putHead_len, List.length_replicate, List.length_cons, List.length_nil, List.length_set, List.length_take, List.length_drop, recL_len]; omega) | rfl | (simp [*, bys_length]; done) | (simp [*, bys_length]; omega))) (by repeat (first | exact Put.hd | apply Put.tl | apply Put.app)) (by first | exact splice_all (by (first | assumption | (simp only [List.length_append, bys_length, b4_len, zrs_len, headB_len, putHead_len, List.length_replicate, List.length_cons, List.length_nil, List.length_set, List.length_take, List.length_drop, recL_len]; done) | (simp only [List.length_append, bys_length, b4_len, zrs_len, headB_len, putHead_len, List.length_replicate, List.length_cons, List.length_nil, List.length_set, List.length_take, List.length_drop, recL_len]; omega) | rfl | (simp [*, bys_length]; done) | (simp [*, bys_length]; omega))) | rfl) (by (first | (simp only [List.length_append, bys_length, b4_len, zrs_len, headB_len, putHead_len, List.length_replicate, List.length_cons, List.length_nil, List.length_set, List.length_take, List.length_drop, recL_len]; omega) | omega | exact Nat.le_of_ble_eq_true rfl | (simp; done) | (simp; omega))) (by (first | exact .inr ‹_› | (left; ((repeat (first | exact List.Mem.head _ | apply List.Mem.tail)))))) ?_
  refine XO.nil ?_
  refine XK.seq ?_
  refine XK.region ?_
  refine XO.val rfl rfl (OV.mv (v := .pointer _) rfl) ?_
  refine XO.val rfl rfl (OV.nilc rfl) ?_
  refine XO.val rfl rfl (OV.fa rfl Dv4_fa_86_0) ?_
  refine XO.val rfl rfl (OV.ld rfl Try.isAgg83 (by repeat (first | exact List.Mem.head _ | apply List.Mem.tail | apply List.mem_append_right)) rfl) ?_
  refine XO.callG (cap := []) rfl rfl (.cons (v := .slice _ _ _) rfl .nil) Try.call236 (cloneS_ok s 0 D.S.length D.S.length (secL D) (secL D) 157 (by rw [List.drop_zero]; exact List.take_of_length_le (by simp only [secL, bys_length]; omega)) (by simp only [secL, bys_length]; omega) bys_one hl) (by repeat (first | exact Sel.nil | refine Sel.cons (by repeat (first | exact Del.hd | apply Del.tl | apply Del.app)) (by repeat (first | exact List.Mem.head _ | apply List.Mem.tail | apply List.mem_append_right)) ?_)) (by ((repeat (first | exact wrs_nil | (refine wrs_cons (by (first | exact .inr ‹_› | (left; ((repeat (first | exact List.Mem.head _ | apply List.Mem.tail)))))) ?_))))) .nil ?_
  rintro _ _ ⟨rc, sc, cc, rfl, rfl, hown⟩ hnew
  refine XO.val rfl rfl (OV.fa rfl Dv4_fa_86_0) ?_
  refine XO.st rfl (v := .slice _ _ _) rfl rfl Try.sizeOf83 (by repeat (first | exact Put.hd | apply Put.tl | apply Put.app)) (by (first | (simp only [List.length_append, bys_length, b4_len, zrs_len, headB_len, putHead_len, List.length_replicate, List.length_cons, List.length_nil, List.length_set, List.length_take, List.length_drop, recL_len]; omega) | omega | exact Nat.le_of_ble_eq_true rfl | (simp; done) | (simp; omega))) (by (first | exact .inr ‹_› | (left; ((repeat (first | exact List.Mem.head _ | apply List.Mem.tail)))))) ?_
  refine XO.nil ?_
  refine XK.seq ?_
  refine XK.region ?_
  refine XO.val rfl rfl (OV.asg (v := .pointer _) rfl) ?_
  refine XO.nil ?_
  refine XK.retTo (Fin.ret (.cons (.tmp (v := .pointer _) rfl) .nil) .nil (by simp) ?_)
  exact ⟨⟨r3, rfl⟩, rfl⟩

theorem devSize_ok (r s : Nat) (D : Dev) (hD : D.wf) :
    CtV Try.prog 165 [.pointer (some ⟨r, 0, none⟩)] [(r, cel (devL s D) 86)] (.int .i64 (D.S.length : Int)) := by
  refine Ct.of (N := 11) (rs := [.tmp 2]) Try.func165 rfl rfl rfl (Nat.le_of_ble_eq_true rfl) (fun B => ?_)
  refine XK.seq ?_
  refine XK.region ?_
  refine XO.val rfl rfl (OV.asg (v := .int _ _) rfl) ?_
  refine XO.nil ?_
  refine XK.seq ?_
  refine XK.seq ?_
  refine XK.region ?_
  refine XO.val rfl rfl (OV.mv (v := .pointer _) rfl) ?_
  refine XO.callV (cap := []) rfl rfl (.cons (v := .pointer _) rfl .nil) Try.call99 (there_ok r s D hD) (by repeat (first | exact Sel.nil | refine Sel.cons (by repeat (first | exact Del.hd | apply Del.tl | apply Del.app)) (by repeat (first | exact List.Mem.head _ | apply List.Mem.tail | apply List.mem_append_right)) ?_)) ?_
  refine XO.val rfl rfl (OV.notB rfl) ?_
  refine XO.nil ?_
  refine XK.say (u := .bool false) (v := .bool false) 5 rfl rfl ?_
  refine XK.cond_f rfl ?_
  refine XK.skip ?_
  refine XK.seq ?_
  refine XK.region ?_
  refine XO.val rfl rfl (OV.mv (v := .pointer _) rfl) ?_
  refine XO.val rfl rfl (OV.nilc rfl) ?_
  refine XO.val rfl rfl (OV.fa rfl Dv4_fa_86_0) ?_
  refine XO.val rfl rfl (OV.ld rfl Try.isAgg83 (by repeat (first | exact List.Mem.head _ | apply List.Mem.tail | apply List.mem_append_right)) rfl) ?_
  refine XO.val rfl rfl (OV.lenS rfl Try.runUnderlying83) ?_
  refine XO.val rfl rfl (OV.asg (v := .int _ _) rfl) ?_
  refine XO.nil ?_
  refine XK.retTo (Fin.ret (.cons (.tmp (v := .int _ _) rfl) .nil) .nil (by simp) ?_)
  exact ⟨rfl, rfl⟩

theorem devRead_ok (r s : Nat) (D : Dev) (hD : D.wf) (i : Int) (h0 : 0 ≤ i) (h1 : i < D.S.length) :
    CtV Try.prog 166 [.pointer (some ⟨r, 0, none⟩), .int .i64 i] [(r, cel (devL s D) 86), (s, cel (secL D) 157)] (.tuple (List.toArray [.agg (List.toArray (bys (D.S.getD i.toNat []))), .int .i64 0])) := by
  have hl := hD.len
  have hsec := fun y hy => (hD.sec y hy).1
  have hfl := flat_len hsec
  have hg := (hD.get (k := i.toNat) (by omega)).1
  refine Ct.of (N := 31) (rs := [.cell 4 157, .tmp 5]) Try.func166 rfl rfl rfl (Nat.le_of_ble_eq_true rfl) (fun B => ?_)
  refine XK.seq ?_
  refine XK.region ?_
  refine XO.alloc rfl Dv4_zv_157 rfl (fun r4 hr4 => ?_)
  refine XO.val rfl rfl (OV.asg (v := .int _ _) rfl) ?_
  refine XO.nil ?_
  refine XK.seq ?_
  refine XK.block ?_
  refine XK.seq ?_
  refine XK.region ?_
  refine XO.val rfl rfl (OV.mv (v := .pointer _) rfl) ?_
  refine XO.callV (cap := []) rfl rfl (.cons (v := .pointer _) rfl .nil) Try.call99 (there_ok r s D hD) (by repeat (first | exact Sel.nil | refine Sel.cons (by repeat (first | exact Del.hd | apply Del.tl | apply Del.app)) (by repeat (first | exact List.Mem.head _ | apply List.Mem.tail | apply List.mem_append_right)) ?_)) ?_
  refine XO.val rfl rfl (OV.notB rfl) ?_
  refine XO.val rfl rfl (OV.asg (v := .bool _) rfl) ?_
  refine XO.nil ?_
  refine XK.say (u := .bool false) (v := .bool false) 6 rfl rfl ?_
  refine XK.cond_f rfl ?_
  refine XK.seq ?_
  refine XK.region ?_
  refine XO.val rfl rfl (OV.mv (v := .int _ _) rfl) ?_
  refine XO.val rfl rfl (OV.lss rfl rfl) ?_
  refine XO.val rfl rfl (OV.mv (v := .bool _) rfl) ?_
  refine XO.say (v := .bool false) 14 rfl (congrArg Value.bool (by simp; omega)) ?_
  refine XO.guard_t rfl rfl ?_
  refine XO.val rfl rfl (OV.mv (v := .int _ _) rfl) ?_
  refine XO.guard_t rfl rfl ?_
  refine XO.val rfl rfl (OV.mv (v := .pointer _) rfl) ?_
  refine XO.guard_t rfl rfl ?_
  refine XO.val rfl rfl (OV.nilc rfl) ?_
  refine XO.guard_t rfl rfl ?_
  refine XO.val rfl rfl (OV.fa rfl Dv4_fa_86_0) ?_
  refine XO.guard_t rfl rfl ?_
  refine XO.val rfl rfl (OV.ld rfl Try.isAgg83 (by repeat (first | exact List.Mem.head _ | apply List.Mem.tail | apply List.mem_append_right)) rfl) ?_
  refine XO.guard_t rfl rfl ?_
  refine XO.val rfl rfl (OV.lenS rfl Try.runUnderlying83) ?_
  refine XO.guard_t rfl rfl ?_
  refine XO.val rfl rfl (OV.geq rfl rfl) ?_
  refine XO.val rfl rfl (OV.pick_f (v := .bool _) rfl rfl) ?_
  refine XO.val rfl rfl (OV.asg (v := .bool _) rfl) ?_
  refine XO.nil ?_
  refine XK.say (v := .bool false) 11 rfl (congrArg Value.bool (by simp; omega)) ?_
  refine XK.cond_f rfl ?_
  refine XK.skip ?_
  refine XK.inblk ?_
  refine XK.seq ?_
  refine XK.region ?_
  refine XO.val rfl rfl (OV.mv (v := .pointer _) rfl) ?_
  refine XO.val rfl rfl (OV.nilc rfl) ?_
  refine XO.val rfl rfl (OV.fa rfl Dv4_fa_86_0) ?_
  refine XO.val rfl rfl (OV.ld rfl Try.isAgg83 (by repeat (first | exact List.Mem.head _ | apply List.Mem.tail | apply List.mem_append_right)) rfl) ?_
  refine XO.val rfl rfl (OV.mv (v := .int _ _) rfl) ?_
  refine XO.val rfl rfl (OV.ixS rfl rfl Try.runUnderlying83 Try.sizeOf157 (by omega) (by omega)) ?_
  refine XO.val rfl rfl (OV.ldA rfl Try.isAgg157 Try.sizeOf157 (by repeat (first | exact List.Mem.head _ | apply List.Mem.tail | apply List.mem_append_right)) ((congrArg (fun o => ((secL D).drop o).take 64) (Nat.zero_add _)).trans (sec_take hsec (by omega))) (by (first | assumption | (simp only [List.length_append, bys_length, b4_len, zrs_len, headB_len, putHead_len, List.length_replicate, List.length_cons, List.length_nil, List.length_set, List.length_take, List.length_drop, recL_len]; done) | (simp only [List.length_append, bys_length, b4_len, zrs_len, headB_len, putHead_len, List.length_replicate, List.length_cons, List.length_nil, List.length_set, List.length_take, List.length_drop, recL_len]; omega) | rfl | (simp [*, bys_length]; done) | (simp [*, bys_length]; omega)))) ?_
  refine XO.stA rfl rfl (by (repeat (first | with_reducible (apply one_app) | with_reducible exact bys_one | with_reducible exact recL_one _ | with_reducible exact one_rep rfl | exact ones_of rfl | exact bys_one))) Try.sizeOf157 (by (first | assumption | (simp only [List.length_append, bys_length, b4_len, zrs_len, headB_len, putHead_len, List.length_replicate, List.length_cons, List.length_nil, List.length_set, List.length_take, List.length_drop, recL_len]; done) | (simp only [List.length_append, bys_length, b4_len, zrs_len, headB_len, putHead_len, List.length_replicate, List.length_cons, List.length_nil, List.length_set, List.length_take, List.length_drop, recL_len]; omega) | rfl | (simp [*, bys_length]; done) | (simp [*, bys_length]; omega))) (by repeat (first | exact Put.hd | apply Put.tl | apply Put.app)) (by first | exact splice_all (by (first | assumption | (simp only [List.length_append, bys_length, b4_len, zrs_len, headB_len, putHead_len, List.length_replicate, List.length_cons, List.length_nil, List.length_set, List.length_take, List.length_drop, recL_len]; done) | (simp only [List.length_append, bys_length, b4_len, zrs_len, headB_len, putHead_len, List.length_replicate, List.length_cons, List.length_nil, List.length_set, List.length_take, List.length_drop, recL_len]; omega) | rfl | (simp [*, bys_length]; done) | (simp [*, bys_length]; omega))) | rfl) (by (first | (simp only [List.length_append, bys_length, b4_len, zrs_len, headB_len, putHead_len, List.length_replicate, List.length_cons, List.length_nil, List.length_set, List.length_take, List.length_drop, recL_len]; omega) | omega | exact Nat.le_of_ble_eq_true rfl | (simp; done) | (simp; omega))) (by (first | exact .inr ‹_› | (left; ((repeat (first | exact List.Mem.head _ | apply List.Mem.tail)))))) ?_
  refine XO.val rfl rfl (OV.asg (v := .int _ _) rfl) ?_
  refine XO.nil ?_
  refine XK.retTo (Fin.ret (.cons (.cellA rfl Try.isAgg157 Try.sizeOf157 (by repeat (first | exact List.Mem.head _ | apply List.Mem.tail | apply List.mem_append_right)) (grab_all (by (first | assumption | (simp only [List.length_append, bys_length, b4_len, zrs_len, headB_len, putHead_len, List.length_replicate, List.length_cons, List.length_nil, List.length_set, List.length_take, List.length_drop, recL_len]; done) | (simp only [List.length_append, bys_length, b4_len, zrs_len, headB_len, putHead_len, List.length_replicate, List.length_cons, List.length_nil, List.length_set, List.length_take, List.length_drop, recL_len]; omega) | rfl | (simp [*, bys_length]; done) | (simp [*, bys_length]; omega)))) (by (first | assumption | (simp only [List.length_append, bys_length, b4_len, zrs_len, headB_len, putHead_len, List.length_replicate, List.length_cons, List.length_nil, List.length_set, List.length_take, List.length_drop, recL_len]; done) | (simp only [List.length_append, bys_length, b4_len, zrs_len, headB_len, putHead_len, List.length_replicate, List.length_cons, List.length_nil, List.length_set, List.length_take, List.length_drop, recL_len]; omega) | rfl | (simp [*, bys_length]; done) | (simp [*, bys_length]; omega)))) (.cons (.tmp (v := .int _ _) rfl) .nil)) .nil (by simp) ?_)
  exact ⟨rfl, rfl⟩

theorem devWho_ok (r s : Nat) (D : Dev) (hD : D.wf) (n e : Int) (more : Bool) (h0 : 0 ≤ n) (h1 : n < D.nodes) :
    CtV Try.prog 173 [.pointer (some ⟨r, 0, none⟩), .int .i64 n, .int .i64 e, .bool more] [(r, cel (devL s D) 86)] (.int .i64 (whoI D n e more)) := by
  have hn := hD.nodes1
  refine Ct.of (N := 45) (rs := [.tmp 8]) Try.func173 rfl rfl rfl (Nat.le_of_ble_eq_true rfl) (fun B => ?_)
  refine XK.seq ?_
  refine XK.region ?_
  refine XO.val rfl rfl (OV.asg (v := .int _ _) rfl) ?_
  refine XO.nil ?_
  refine XK.seq ?_
  refine XK.block ?_
  refine XK.seq ?_
  refine XK.region ?_
  refine XO.val rfl rfl (OV.mv (v := .pointer _) rfl) ?_
  refine XO.callV (cap := []) rfl rfl (.cons (v := .pointer _) rfl .nil) Try.call99 (there_ok r s D hD) (by repeat (first | exact Sel.nil | refine Sel.cons (by repeat (first | exact Del.hd | apply Del.tl | apply Del.app)) (by repeat (first | exact List.Mem.head _ | apply List.Mem.tail | apply List.mem_append_right)) ?_)) ?_
  refine XO.val rfl rfl (OV.notB rfl) ?_
  refine XO.val rfl rfl (OV.asg (v := .bool _) rfl) ?_
  refine XO.nil ?_
  refine XK.say (u := .bool false) (v := .bool false) 9 rfl rfl ?_
  refine XK.cond_f rfl ?_
  refine XK.seq ?_
  refine XK.region ?_
  refine XO.val rfl rfl (OV.mv (v := .pointer _) rfl) ?_
  refine XO.val rfl rfl (OV.mv (v := .int _ _) rfl) ?_
  refine XO.callV (cap := []) rfl rfl (.cons (v := .pointer _) rfl (.cons (v := .int _ _) rfl .nil)) Try.call187 (node_ok r s D n) (by repeat (first | exact Sel.nil | refine Sel.cons (by repeat (first | exact Del.hd | apply Del.tl | apply Del.app)) (by repeat (first | exact List.Mem.head _ | apply List.Mem.tail | apply List.mem_append_right)) ?_)) ?_
  refine XO.val rfl rfl (OV.notB rfl) ?_
  refine XO.val rfl rfl (OV.mv (v := .bool _) rfl) ?_
  refine XO.say (v := .bool false) 18 rfl (congrArg Value.bool (by simp; omega)) ?_
  refine XO.guard_t rfl rfl ?_
  refine XO.val rfl rfl (OV.mv (v := .int _ _) rfl) ?_
  refine XO.guard_t rfl rfl ?_
  refine XO.val rfl rfl (OV.lss rfl rfl) ?_
  refine XO.val rfl rfl (OV.pick_f (v := .bool _) rfl rfl) ?_
  refine XO.val rfl rfl (OV.mv (v := .bool _) rfl) ?_
  refine XO.split (t := 22) rfl (fun hh1 => ?_) (fun hh1 => ?_)
  · replace hh1 := of_decide_eq_true hh1
    iterate 8 refine XO.guard_f rfl rfl rfl rfl ?_
    refine XO.val rfl rfl (OV.pick_t (v := .bool _) rfl rfl) ?_
    refine XO.val rfl rfl (OV.mv (v := .bool _) rfl) ?_
    iterate 2 refine XO.guard_f rfl rfl rfl rfl ?_
    refine XO.val rfl rfl (OV.pick_t (v := .bool _) rfl rfl) ?_
    refine XO.val rfl rfl (OV.asg (v := .bool _) rfl) ?_
    refine XO.nil ?_
    refine XK.cond_t rfl ?_
    refine XK.seq ?_
    refine XK.region ?_
    refine XO.val rfl rfl (OV.asg (v := .int _ _) rfl) ?_
    refine XO.nil ?_
    refine XK.retTo (Fin.ret (.cons (.tmp (v := .int _ _) rfl) .nil) .nil (by simp) ?_)
    refine ⟨congrArg (Value.int .i64) ?_, rfl⟩
    simp only [whoI]
    first | (rw [if_pos (fun h => absurd h.1 (by omega))]) | (rw [if_pos (fun h => absurd h.2.1 (by omega))]) | (rw [if_neg (fun h => h ⟨by omega, by omega, by assumption⟩)]; first | rw [if_pos ‹_›] | rw [if_neg ‹_›]) | (rw [if_pos (fun h => absurd (h.2.2.symm.trans ‹more = false›) (by decide))])
  · replace hh1 := of_decide_eq_false hh1
    refine XO.guard_t rfl rfl ?_
    refine XO.val rfl rfl (OV.mv (v := .int _ _) rfl) ?_
    refine XO.guard_t rfl rfl ?_
    refine XO.val rfl rfl (OV.mv (v := .pointer _) rfl) ?_
    refine XO.guard_t rfl rfl ?_
    refine XO.val rfl rfl (OV.mv (v := .int _ _) rfl) ?_
    refine XO.guard_t rfl rfl ?_
    refine XO.val rfl rfl (OV.nilc rfl) ?_
    refine XO.guard_t rfl rfl ?_
    refine XO.val rfl rfl (OV.fa rfl Dv4_fa_86_1) ?_
    refine XO.guard_t rfl rfl ?_
    refine XO.val rfl rfl (OV.ixA rfl rfl Try.runUnderlying84 Try.sizeOf2 (by omega) (by omega)) ?_
    refine XO.guard_t rfl rfl ?_
    refine XO.val rfl rfl (OV.ld rfl Try.isAgg2 (by repeat (first | exact List.Mem.head _ | apply List.Mem.tail | apply List.mem_append_right)) (by rw [show 0 + 1 + n.toNat * 1 = 1 + n.toNat from by omega]; exact nth_epoch s D (by omega))) ?_
    refine XO.guard_t rfl rfl ?_
    refine XO.val rfl rfl (OV.gtr rfl rfl) ?_
    refine XO.val rfl rfl (OV.pick_f (v := .bool _) rfl rfl) ?_
    refine XO.val rfl rfl (OV.mv (v := .bool _) rfl) ?_
    refine XO.split (t := 32) rfl (fun hh2 => ?_) (fun hh2 => ?_)
    · replace hh2 := of_decide_eq_true hh2
      iterate 2 refine XO.guard_f rfl rfl rfl rfl ?_
      refine XO.val rfl rfl (OV.pick_t (v := .bool _) rfl rfl) ?_
      refine XO.val rfl rfl (OV.asg (v := .bool _) rfl) ?_
      refine XO.nil ?_
      refine XK.cond_t rfl ?_
      refine XK.seq ?_
      refine XK.region ?_
      refine XO.val rfl rfl (OV.asg (v := .int _ _) rfl) ?_
      refine XO.nil ?_
      refine XK.retTo (Fin.ret (.cons (.tmp (v := .int _ _) rfl) .nil) .nil (by simp) ?_)
      refine ⟨congrArg (Value.int .i64) ?_, rfl⟩
      simp only [whoI]
      first | (rw [if_pos (fun h => absurd h.1 (by omega))]) | (rw [if_pos (fun h => absurd h.2.1 (by omega))]) | (rw [if_neg (fun h => h ⟨by omega, by omega, by assumption⟩)]; first | rw [if_pos ‹_›] | rw [if_neg ‹_›]) | (rw [if_pos (fun h => absurd (h.2.2.symm.trans ‹more = false›) (by decide))])
    · replace hh2 := of_decide_eq_false hh2
      refine XO.guard_t rfl rfl ?_
      refine XO.val rfl rfl (OV.mv (v := .bool _) rfl) ?_
      refine XO.guard_t rfl rfl ?_
      refine XO.val rfl rfl (OV.notB rfl) ?_
      refine XO.val rfl rfl (OV.pick_f (v := .bool _) rfl rfl) ?_
      refine XO.val rfl rfl (OV.asg (v := .bool _) rfl) ?_
      refine XO.nil ?_
      refine XK.split (t := 13) rfl (fun hh3 => ?_) (fun hh3 => ?_)
      · replace hh3 := bnot_t hh3
        try replace hh3 := of_decide_eq_false hh3
        refine XK.cond_t rfl ?_
        refine XK.seq ?_
        refine XK.region ?_
        refine XO.val rfl rfl (OV.asg (v := .int _ _) rfl) ?_
        refine XO.nil ?_
        refine XK.retTo (Fin.ret (.cons (.tmp (v := .int _ _) rfl) .nil) .nil (by simp) ?_)
        refine ⟨congrArg (Value.int .i64) ?_, rfl⟩
        simp only [whoI]
        first | (rw [if_pos (fun h => absurd h.1 (by omega))]) | (rw [if_pos (fun h => absurd h.2.1 (by omega))]) | (rw [if_neg (fun h => h ⟨by omega, by omega, by assumption⟩)]; first | rw [if_pos ‹_›] | rw [if_neg ‹_›]) | (rw [if_pos (fun h => absurd (h.2.2.symm.trans ‹more = false›) (by decide))])
      · replace hh3 := bnot_f hh3
        try replace hh3 := of_decide_eq_true hh3
        refine XK.cond_f rfl ?_
        refine XK.seq ?_
        refine XK.region ?_
        refine XO.val rfl rfl (OV.mv (v := .int _ _) rfl) ?_
        refine XO.val rfl rfl (OV.mv (v := .pointer _) rfl) ?_
        refine XO.val rfl rfl (OV.mv (v := .int _ _) rfl) ?_
        refine XO.val rfl rfl (OV.nilc rfl) ?_
        refine XO.val rfl rfl (OV.fa rfl Dv4_fa_86_1) ?_
        refine XO.val rfl rfl (OV.ixA rfl rfl Try.runUnderlying84 Try.sizeOf2 (by omega) (by omega)) ?_
        refine XO.val rfl rfl (OV.ld rfl Try.isAgg2 (by repeat (first | exact List.Mem.head _ | apply List.Mem.tail | apply List.mem_append_right)) (by rw [show 0 + 1 + n.toNat * 1 = 1 + n.toNat from by omega]; exact nth_epoch s D (by omega))) ?_
        refine XO.val rfl rfl (OV.lss rfl rfl) ?_
        refine XO.val rfl rfl (OV.asg (v := .bool _) rfl) ?_
        refine XO.nil ?_
        refine XK.split (t := 36) rfl (fun hh4 => ?_) (fun hh4 => ?_)
        · replace hh4 := of_decide_eq_true hh4
          refine XK.cond_t rfl ?_
          refine XK.seq ?_
          refine XK.region ?_
          refine XO.val rfl rfl (OV.asg (v := .int _ _) rfl) ?_
          refine XO.nil ?_
          refine XK.retTo (Fin.ret (.cons (.tmp (v := .int _ _) rfl) .nil) .nil (by simp) ?_)
          refine ⟨congrArg (Value.int .i64) ?_, rfl⟩
          simp only [whoI]
          first | (rw [if_pos (fun h => absurd h.1 (by omega))]) | (rw [if_pos (fun h => absurd h.2.1 (by omega))]) | (rw [if_neg (fun h => h ⟨by omega, by omega, by assumption⟩)]; first | rw [if_pos ‹_›] | rw [if_neg ‹_›]) | (rw [if_pos (fun h => absurd (h.2.2.symm.trans ‹more = false›) (by decide))])
        · replace hh4 := of_decide_eq_false hh4
          refine XK.cond_f rfl ?_
          refine XK.skip ?_
          refine XK.inblk ?_
          refine XK.seq ?_
          refine XK.region ?_
          refine XO.val rfl rfl (OV.asg (v := .int _ _) rfl) ?_
          refine XO.nil ?_
          refine XK.retTo (Fin.ret (.cons (.tmp (v := .int _ _) rfl) .nil) .nil (by simp) ?_)
          refine ⟨congrArg (Value.int .i64) ?_, rfl⟩
          simp only [whoI]
          first | (rw [if_pos (fun h => absurd h.1 (by omega))]) | (rw [if_pos (fun h => absurd h.2.1 (by omega))]) | (rw [if_neg (fun h => h ⟨by omega, by omega, by assumption⟩)]; first | rw [if_pos ‹_›] | rw [if_neg ‹_›]) | (rw [if_pos (fun h => absurd (h.2.2.symm.trans ‹more = false›) (by decide))])

end Go.Proofs.Ythophgadmkjamaa
