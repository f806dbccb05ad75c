/- Contracts of functions, printed by a program of this claim (wip/tools/gen.py). -/
import Derived.Test.YthophgadmkjamaaFRed6
import Derived.KernelRfl
set_option maxRecDepth 20000
set_option linter.unusedVariables false
set_option linter.unusedSimpArgs false
namespace Go.Proofs.Ythophgadmkjamaa
open Go Go.Mw Go.Proofs

theorem Red7_fa_155_4 : FA Try.prog 155 4 8 := FA.of (n := 0) Try.runUnderlying155 rfl rfl Try.sizeOf2
theorem Red7_fa_155_5 : FA Try.prog 155 5 9 := FA.of (n := 0) Try.runUnderlying155 rfl rfl Try.sizeOf2
theorem Red7_fa_155_3 : FA Try.prog 155 3 7 := FA.of (n := 0) Try.runUnderlying155 rfl rfl Try.sizeOf2
theorem Red7_bld_164_0_1 (a0 : Int) (a1 : Int) : ∀ w, (Instr.build 164 (List.toArray [(0, .int .i64 a0), (1, .int .i64 a1)])).run Try.prog w = .ok (.agg (List.toArray ([.int .i64 a0, .int .i64 a1]))) w := fun w => by kernel_rfl
theorem Red7_zv_164 : ∀ w, (zeroValue 164).run Try.prog w = .ok (.agg (List.toArray ([.int .i64 0, .int .i64 0]))) w := fun w => by kernel_rfl
theorem Red7_zv_157 : ∀ w, (zeroValue 157).run Try.prog w = .ok (.agg (List.toArray (bys (zrs 64)))) w := fun w => by kernel_rfl
theorem Red7_mixed : Try.prog.follows .mixedOrders = true := by kernel_rfl
theorem Red7_fa_155_1 : FA Try.prog 155 1 1 := FA.of (n := 4) Try.runUnderlying155 rfl rfl Try.sizeOf23
theorem Red7_fa_155_2 : FA Try.prog 155 2 6 := FA.of (n := 0) Try.runUnderlying155 rfl rfl Try.sizeOf3
theorem Red7_fa_155_0 : FA Try.prog 155 0 0 := FA.of (n := 0) Try.runUnderlying155 rfl rfl Try.sizeOf27
theorem Red7_fa_155_6 : FA Try.prog 155 6 10 := FA.of (n := 0) Try.runUnderlying155 rfl rfl Try.sizeOf43

theorem cloneR_nil  :
    CtV Try.prog 82 [.slice none 0 0] [] (.slice none 0 0) := by
  refine Ct.of (N := 8) (rs := [.tmp 2]) Try.func82 rfl rfl rfl (Nat.le_of_ble_eq_true rfl) (fun B => ?_)
  refine XK.seq ?_
  refine XK.region ?_
  refine XO.val rfl rfl (OV.asg (v := .slice _ _ _) rfl) ?_
  refine XO.nil ?_
  refine XK.seq ?_
  refine XK.seq ?_
  refine XK.region ?_
  refine XO.val rfl rfl (OV.mv (v := .slice _ _ _) rfl) ?_
  refine XO.val rfl rfl (OV.eqNs rfl rfl Try.runUnderlying43) ?_
  refine XO.nil ?_
  refine XK.say (u := .bool true) (v := .bool true) 4 rfl rfl ?_
  refine XK.cond_t rfl ?_
  refine XK.seq ?_
  refine XK.region ?_
  refine XO.val rfl rfl (OV.asg (v := .slice _ _ _) rfl) ?_
  refine XO.nil ?_
  refine XK.retTo (Fin.ret (.cons (.tmp (v := .slice _ _ _) rfl) .nil) .nil (by simp) ?_)
  exact ⟨rfl, rfl⟩

set_option maxHeartbeats 4000000 in
theorem lgCut_nil (g r s cap : Nat) (sp : List Value) (G : Lg) (hG : G.wf) (hO : Mw.Own ⟨none, cap, sp⟩ G.l.length (recsL G.l) 101) (D : Dev) (hD : D.wf) (hz : G.j.secs ≤ D.S.length) (hn : G.j.nodes ≤ D.nodes) (hE : G.epoch ≤ D.E G.node.toNat) (st : Int) (hs0 : -9223372036854775808 ≤ st) (hs1 : st ≤ 9223372036854775807) :
    Ct Try.prog 19 [.pointer (some ⟨g, 0, none⟩), .int .i64 st] [(g, cel (lgL r ⟨none, cap, sp⟩ G) 155), (r, cel (devL s D) 86), (s, cel (secL D) 157)] [g, r, s] (fun v L => ∃ sl, v = .int .i64 (G.cut D st).2.2 ∧ L = [(g, cel (lgL r sl (G.cut D st).1) 155), (r, cel (devL s (G.cut D st).2.1) 86), (s, cel (secL (G.cut D st).2.1) 157)] ++ slB sl (recsL (G.cut D st).1.l) 52 ∧ Mw.Own sl (G.cut D st).1.l.length (recsL (G.cut D st).1.l) 101) := by
  have hlen := hG.len
  have hbd := recsL_len hG.body
  have hfl0 := hG.fl0
  have hfl1 := hG.fl1
  have hst := hG.st0
  have hst1 := hG.st1
  have hnd := hG.node1
  have hh := head_bd hG.may hG.node0 hG.node1
  have hcap : G.l.length ≤ cap := by have := hO.2.1; omega
  have hl0 : G.l.length = 0 := hO.2.1
  have hl1 : G.l = [] := List.eq_nil_of_length_eq_zero hl0
  have hcp : cap = 0 := hO.2.2.1
  refine Ct.of (N := 89) (rs := [.tmp 4]) Try.func19 rfl rfl rfl (Nat.le_of_ble_eq_true rfl) (fun B => ?_)
  refine XK.seq ?_
  refine XK.region ?_
  refine XO.val rfl rfl (OV.asg (v := .int _ _) rfl) ?_
  refine XO.nil ?_
  refine XK.seq ?_
  refine XK.block ?_
  refine XK.seq ?_
  refine XK.region ?_
  refine XO.val rfl rfl (OV.mv (v := .pointer _) rfl) ?_
  refine XO.callV (cap := []) rfl rfl (.cons (v := .pointer _) rfl .nil) Try.call76 (lgThere_ok g r ⟨none, cap, sp⟩ G) (by repeat (first | exact Sel.nil | refine Sel.cons (by repeat (first | exact Del.hd | apply Del.tl | apply Del.app)) (by repeat (first | exact List.Mem.head _ | apply List.Mem.tail | apply List.mem_append_right)) ?_)) ?_
  refine XO.val rfl rfl (OV.notB rfl) ?_
  refine XO.val rfl rfl (OV.asg (v := .bool _) rfl) ?_
  refine XO.nil ?_
  refine XK.cond_f rfl ?_
  refine XK.seq ?_
  refine XK.region ?_
  refine XO.val rfl rfl (OV.mv (v := .int _ _) rfl) ?_
  refine XO.val rfl rfl (OV.mv (v := .pointer _) rfl) ?_
  refine XO.val rfl rfl (OV.nilc rfl) ?_
  refine XO.val rfl rfl (OV.fa rfl Red7_fa_155_4) ?_
  refine XO.val rfl rfl (OV.ld rfl Try.isAgg2 (by repeat (first | exact List.Mem.head _ | apply List.Mem.tail | apply List.mem_append_right)) rfl) ?_
  refine XO.val rfl rfl (OV.lss rfl rfl) ?_
  refine XO.val rfl rfl (OV.mv (v := .bool _) rfl) ?_
  refine XO.split (t := 21) rfl (fun hh1 => ?_) (fun hh1 => ?_)
  · replace hh1 := of_decide_eq_true hh1
    iterate 7 refine XO.guard_f rfl rfl rfl rfl ?_
    refine XO.val rfl rfl (OV.pick_t (v := .bool _) rfl rfl) ?_
    refine XO.val rfl rfl (OV.asg (v := .bool _) rfl) ?_
    refine XO.nil ?_
    refine XK.cond_t rfl ?_
    refine XK.seq ?_
    refine XK.region ?_
    refine XO.val rfl rfl (OV.asg (v := .int _ _) rfl) ?_
    refine XO.nil ?_
    refine XK.retTo (Fin.ret (.cons (.tmp (v := .int _ _) rfl) .nil) (by first | exact (.cons (x := (g, _)) (by repeat (first | exact Del.hd | apply Del.tl | apply Del.app)) (by repeat (first | exact List.Mem.head _ | apply List.Mem.tail | apply List.mem_append_right)) (.cons (x := (r, _)) (by repeat (first | exact Del.hd | apply Del.tl | apply Del.app)) (by repeat (first | exact List.Mem.head _ | apply List.Mem.tail | apply List.mem_append_right)) (.cons (x := (s, _)) (by repeat (first | exact Del.hd | apply Del.tl | apply Del.app)) (by repeat (first | exact List.Mem.head _ | apply List.Mem.tail | apply List.mem_append_right)) .nil)))) (by simp) ?_)
    first | (have hc : G.cut D st = _ := if_pos (fun h => absurd h (by omega)); rw [hc]; exact ⟨⟨none, cap, sp⟩, rfl, rfl, hO⟩) | (have hc : G.cut D st = _ := (if_neg (fun h => h ⟨by omega, by omega⟩)).trans (if_pos hlt); rw [hc]; refine ⟨⟨none, cap, sp⟩, rfl, ?_, hO⟩; simp only [if_pos hlt]; rfl) | (have hc : G.cut D st = _ := (if_neg (fun h => h ⟨by omega, by omega⟩)).trans (if_neg hne); rw [hc]; refine ⟨⟨none, 0, []⟩, rfl, ?_, ⟨by simp [hl1, recsL], by simp [hl1], rfl, rfl⟩⟩; simp only [hl1, List.drop_nil, slB]; simp only [slV, lgL]; rfl)
  · replace hh1 := of_decide_eq_false hh1
    refine XO.guard_t rfl rfl ?_
    refine XO.val rfl rfl (OV.mv (v := .int _ _) rfl) ?_
    refine XO.guard_t rfl rfl ?_
    refine XO.val rfl rfl (OV.mv (v := .pointer _) rfl) ?_
    refine XO.guard_t rfl rfl ?_
    refine XO.val rfl rfl (OV.nilc rfl) ?_
    refine XO.guard_t rfl rfl ?_
    refine XO.val rfl rfl (OV.fa rfl Red7_fa_155_5) ?_
    refine XO.guard_t rfl rfl ?_
    refine XO.val rfl rfl (OV.ld rfl Try.isAgg2 (by repeat (first | exact List.Mem.head _ | apply List.Mem.tail | apply List.mem_append_right)) rfl) ?_
    refine XO.guard_t rfl rfl ?_
    refine XO.val rfl rfl (OV.add rfl rfl (wrap_in (by omega))) ?_
    refine XO.guard_t rfl rfl ?_
    refine XO.val rfl rfl (OV.gtr rfl rfl) ?_
    refine XO.val rfl rfl (OV.pick_f (v := .bool _) rfl rfl) ?_
    refine XO.val rfl rfl (OV.asg (v := .bool _) rfl) ?_
    refine XO.nil ?_
    refine XK.split (t := 14) rfl (fun hh2 => ?_) (fun hh2 => ?_)
    · replace hh2 := of_decide_eq_true hh2
      refine XK.cond_t rfl ?_
      refine XK.seq ?_
      refine XK.region ?_
      refine XO.val rfl rfl (OV.asg (v := .int _ _) rfl) ?_
      refine XO.nil ?_
      refine XK.retTo (Fin.ret (.cons (.tmp (v := .int _ _) rfl) .nil) (by first | exact (.cons (x := (g, _)) (by repeat (first | exact Del.hd | apply Del.tl | apply Del.app)) (by repeat (first | exact List.Mem.head _ | apply List.Mem.tail | apply List.mem_append_right)) (.cons (x := (r, _)) (by repeat (first | exact Del.hd | apply Del.tl | apply Del.app)) (by repeat (first | exact List.Mem.head _ | apply List.Mem.tail | apply List.mem_append_right)) (.cons (x := (s, _)) (by repeat (first | exact Del.hd | apply Del.tl | apply Del.app)) (by repeat (first | exact List.Mem.head _ | apply List.Mem.tail | apply List.mem_append_right)) .nil)))) (by simp) ?_)
      first | (have hc : G.cut D st = _ := if_pos (fun h => absurd h (by omega)); rw [hc]; exact ⟨⟨none, cap, sp⟩, rfl, rfl, hO⟩) | (have hc : G.cut D st = _ := (if_neg (fun h => h ⟨by omega, by omega⟩)).trans (if_pos hlt); rw [hc]; refine ⟨⟨none, cap, sp⟩, rfl, ?_, hO⟩; simp only [if_pos hlt]; rfl) | (have hc : G.cut D st = _ := (if_neg (fun h => h ⟨by omega, by omega⟩)).trans (if_neg hne); rw [hc]; refine ⟨⟨none, 0, []⟩, rfl, ?_, ⟨by simp [hl1, recsL], by simp [hl1], rfl, rfl⟩⟩; simp only [hl1, List.drop_nil, slB]; simp only [slV, lgL]; rfl)
    · replace hh2 := of_decide_eq_false hh2
      obtain ⟨k, hk⟩ : ∃ k : Nat, st - G.start = (k : Int) := ⟨(st - G.start).toNat, by omega⟩
      have hk0 : k = 0 := by omega
      have e81 : Value.slice (if cap = k then none else (none : Option Addr).map (·.add (k * 101))) (G.l.length - k) (cap - k) = .slice none 0 0 := by
        rw [hcp, hk0, hl0]; rfl
      refine XK.cond_f rfl ?_
      refine XK.skip ?_
      refine XK.inblk ?_
      refine XK.seq ?_
      refine XK.region ?_
      refine XO.val rfl rfl (OV.mv (v := .int _ _) rfl) ?_
      refine XO.val rfl rfl (OV.mv (v := .pointer _) rfl) ?_
      refine XO.val rfl rfl (OV.nilc rfl) ?_
      refine XO.val rfl rfl (OV.fa rfl Red7_fa_155_3) ?_
      refine XO.val rfl rfl (OV.ld rfl Try.isAgg2 (by repeat (first | exact List.Mem.head _ | apply List.Mem.tail | apply List.mem_append_right)) rfl) ?_
      refine XO.val rfl rfl (OV.bld (qs := [(0, .int .i64 _), (1, .int .i64 _)]) (.cons (v := .int _ _) rfl (.cons (v := .int _ _) rfl .nil)) rfl (Red7_bld_164_0_1 _ _)) ?_
      refine XO.alloc rfl Red7_zv_164 rfl (fun r5 hr5 => ?_)
      refine XO.stA rfl rfl (by (repeat (first | with_reducible (apply one_app) | with_reducible exact bys_one | with_reducible exact recL_one _ | with_reducible exact one_rep rfl | exact ones_of rfl | exact bys_one))) Try.sizeOf164 (by (first | assumption | (simp only [List.length_append, bys_length, b4_len, zrs_len, headB_len, putHead_len, List.length_replicate, List.length_cons, List.length_nil, List.length_set, List.length_take, List.length_drop, recL_len]; done) | (simp only [List.length_append, bys_length, b4_len, zrs_len, headB_len, putHead_len, List.length_replicate, List.length_cons, List.length_nil, List.length_set, List.length_take, List.length_drop, recL_len]; omega) | rfl | (simp [*, bys_length]; done) | (simp [*, bys_length]; omega))) (by repeat (first | exact Put.hd | apply Put.tl | apply Put.app)) (by first | exact splice_all (by (first | assumption | (simp only [List.length_append, bys_length, b4_len, zrs_len, headB_len, putHead_len, List.length_replicate, List.length_cons, List.length_nil, List.length_set, List.length_take, List.length_drop, recL_len]; done) | (simp only [List.length_append, bys_length, b4_len, zrs_len, headB_len, putHead_len, List.length_replicate, List.length_cons, List.length_nil, List.length_set, List.length_take, List.length_drop, recL_len]; omega) | rfl | (simp [*, bys_length]; done) | (simp [*, bys_length]; omega))) | rfl) (by (first | (simp only [List.length_append, bys_length, b4_len, zrs_len, headB_len, putHead_len, List.length_replicate, List.length_cons, List.length_nil, List.length_set, List.length_take, List.length_drop, recL_len]; omega) | omega | exact Nat.le_of_ble_eq_true rfl | (simp; done) | (simp; omega))) (by (first | exact .inr ‹_› | (left; ((repeat (first | exact List.Mem.head _ | apply List.Mem.tail)))))) ?_
      refine XO.nil ?_
      refine XK.seq ?_
      refine XK.region ?_
      refine XO.val rfl rfl (OV.ldA rfl Try.isAgg164 Try.sizeOf164 (by repeat (first | exact List.Mem.head _ | apply List.Mem.tail | apply List.mem_append_right)) (grab_all (by (first | assumption | (simp only [List.length_append, bys_length, b4_len, zrs_len, headB_len, putHead_len, List.length_replicate, List.length_cons, List.length_nil, List.length_set, List.length_take, List.length_drop, recL_len]; done) | (simp only [List.length_append, bys_length, b4_len, zrs_len, headB_len, putHead_len, List.length_replicate, List.length_cons, List.length_nil, List.length_set, List.length_take, List.length_drop, recL_len]; omega) | rfl | (simp [*, bys_length]; done) | (simp [*, bys_length]; omega)))) (by (first | assumption | (simp only [List.length_append, bys_length, b4_len, zrs_len, headB_len, putHead_len, List.length_replicate, List.length_cons, List.length_nil, List.length_set, List.length_take, List.length_drop, recL_len]; done) | (simp only [List.length_append, bys_length, b4_len, zrs_len, headB_len, putHead_len, List.length_replicate, List.length_cons, List.length_nil, List.length_set, List.length_take, List.length_drop, recL_len]; omega) | rfl | (simp [*, bys_length]; done) | (simp [*, bys_length]; omega)))) ?_
      refine XO.callV (cap := []) rfl rfl (.cons (v := .agg _) rfl .nil) Try.call80 (putHead_ok st G.epoch) (by repeat (first | exact Sel.nil | refine Sel.cons (by repeat (first | exact Del.hd | apply Del.tl | apply Del.app)) (by repeat (first | exact List.Mem.head _ | apply List.Mem.tail | apply List.mem_append_right)) ?_)) ?_
      refine XO.val rfl rfl (OV.mv (v := .tuple _) rfl) ?_
      refine XO.val rfl rfl (OV.ext rfl rfl) ?_
      refine XO.val rfl rfl (OV.ext rfl rfl) ?_
      refine XO.alloc rfl Red7_zv_157 rfl (fun r6 hr6 => ?_)
      refine XO.stA rfl rfl (by (repeat (first | with_reducible (apply one_app) | with_reducible exact bys_one | with_reducible exact recL_one _ | with_reducible exact one_rep rfl | exact ones_of rfl | exact bys_one))) Try.sizeOf157 (by (first | assumption | (simp only [List.length_append, bys_length, b4_len, zrs_len, headB_len, putHead_len, List.length_replicate, List.length_cons, List.length_nil, List.length_set, List.length_take, List.length_drop, recL_len]; done) | (simp only [List.length_append, bys_length, b4_len, zrs_len, headB_len, putHead_len, List.length_replicate, List.length_cons, List.length_nil, List.length_set, List.length_take, List.length_drop, recL_len]; omega) | rfl | (simp [*, bys_length]; done) | (simp [*, bys_length]; omega))) (by repeat (first | exact Put.hd | apply Put.tl | apply Put.app)) (by first | exact splice_all (by (first | assumption | (simp only [List.length_append, bys_length, b4_len, zrs_len, headB_len, putHead_len, List.length_replicate, List.length_cons, List.length_nil, List.length_set, List.length_take, List.length_drop, recL_len]; done) | (simp only [List.length_append, bys_length, b4_len, zrs_len, headB_len, putHead_len, List.length_replicate, List.length_cons, List.length_nil, List.length_set, List.length_take, List.length_drop, recL_len]; omega) | rfl | (simp [*, bys_length]; done) | (simp [*, bys_length]; omega))) | rfl) (by (first | (simp only [List.length_append, bys_length, b4_len, zrs_len, headB_len, putHead_len, List.length_replicate, List.length_cons, List.length_nil, List.length_set, List.length_take, List.length_drop, recL_len]; omega) | omega | exact Nat.le_of_ble_eq_true rfl | (simp; done) | (simp; omega))) (by (first | exact .inr ‹_› | (left; ((repeat (first | exact List.Mem.head _ | apply List.Mem.tail)))))) ?_
      refine XO.val rfl rfl (OV.asg (v := .int _ _) rfl) ?_
      refine XO.nil ?_
      refine XK.seq ?_
      refine XK.draw [0, 1, 2, 3, 4, 5, 6, 7, 8, 9, 10, 11, 12, 13] [] [] [0, 1, 2, 3, 4, 5, 6, 7, 8, 9, 10, 11, 12, 13] Red7_mixed (by kernel_rfl) alc_none ?_
      refine TR.v rfl rfl .n rfl rfl rfl (OV.mv (v := .pointer _) rfl) ?_
      refine TR.v rfl rfl .n rfl rfl rfl (OV.nilc rfl) ?_
      refine TR.v rfl rfl .n rfl rfl rfl (OV.fa rfl Red7_fa_155_1) ?_
      refine TR.v rfl rfl .n rfl rfl rfl (OV.ldA rfl Try.isAgg23 Try.sizeOf23 (by repeat (first | exact List.Mem.head _ | apply List.Mem.tail | apply List.mem_append_right)) lgL_job rfl) ?_
      refine TR.v rfl rfl .n rfl rfl rfl (OV.mv (v := .pointer _) rfl) ?_
      refine TR.v rfl rfl .n rfl rfl rfl (OV.nilc rfl) ?_
      refine TR.v rfl rfl .n rfl rfl rfl (OV.fa rfl Red7_fa_155_2) ?_
      refine TR.v rfl rfl .n rfl rfl rfl (OV.ld rfl Try.isAgg3 (by repeat (first | exact List.Mem.head _ | apply List.Mem.tail | apply List.mem_append_right)) rfl) ?_
      refine TR.cv (cap := []) rfl rfl .n rfl rfl rfl (.cons (v := .agg _) rfl (.cons (v := .int _ _) rfl .nil)) Try.call81 (areaHead_ok G.j hG.may G.node hG.node0 hG.node1) (by repeat (first | exact Sel.nil | refine Sel.cons (by repeat (first | exact Del.hd | apply Del.tl | apply Del.app)) (by repeat (first | exact List.Mem.head _ | apply List.Mem.tail | apply List.mem_append_right)) ?_)) ?_
      refine TR.v rfl rfl .n rfl rfl rfl (OV.mv (v := .tuple _) rfl) ?_
      refine TR.v rfl rfl .n rfl rfl rfl (OV.ext rfl rfl) ?_
      refine TR.v rfl rfl .n rfl rfl rfl (OV.ext rfl rfl) ?_
      refine TR.v rfl rfl .n rfl rfl rfl (OV.asg (v := .int _ _) rfl) ?_
      refine TR.v rfl rfl .n rfl rfl rfl (OV.asg (v := .int _ _) rfl) ?_
      refine TR.nil ?_
      refine XK.seq ?_
      refine XK.seq ?_
      refine XK.draw [0, 1, 2, 3, 4, 5, 6, 7, 8, 9, 10, 11, 12, 13, 16] [] [14] [0, 1, 2, 3, 4, 5, 6, 7, 8, 9, 10, 11, 12, 13, 14, 15, 16] Red7_mixed (by kernel_rfl) alc_none ?_
      refine TR.v rfl rfl .n rfl rfl rfl (OV.mv (v := .pointer _) rfl) ?_
      refine TR.v rfl rfl .n rfl rfl rfl (OV.nilc rfl) ?_
      refine TR.v rfl rfl .n rfl rfl rfl (OV.fa rfl Red7_fa_155_0) ?_
      refine TR.v rfl rfl .n rfl rfl rfl (OV.ld rfl Try.isAgg27 (by repeat (first | exact List.Mem.head _ | apply List.Mem.tail | apply List.mem_append_right)) rfl) ?_
      refine TR.v rfl rfl .n rfl rfl rfl (OV.mv (v := .pointer _) rfl) ?_
      refine TR.v rfl rfl .n rfl rfl rfl (OV.nilc rfl) ?_
      refine TR.v rfl rfl .n rfl rfl rfl (OV.fa rfl Red7_fa_155_2) ?_
      refine TR.v rfl rfl .n rfl rfl rfl (OV.ld rfl Try.isAgg3 (by repeat (first | exact List.Mem.head _ | apply List.Mem.tail | apply List.mem_append_right)) rfl) ?_
      refine TR.v rfl rfl .n rfl rfl rfl (OV.mv (v := .pointer _) rfl) ?_
      refine TR.v rfl rfl .n rfl rfl rfl (OV.nilc rfl) ?_
      refine TR.v rfl rfl .n rfl rfl rfl (OV.fa rfl Red7_fa_155_3) ?_
      refine TR.v rfl rfl .n rfl rfl rfl (OV.ld rfl Try.isAgg2 (by repeat (first | exact List.Mem.head _ | apply List.Mem.tail | apply List.mem_append_right)) rfl) ?_
      refine TR.v rfl rfl .n rfl rfl rfl (OV.mv (v := .int _ _) rfl) ?_
      refine TR.v rfl rfl .n rfl rfl rfl (OV.ldA rfl Try.isAgg157 Try.sizeOf157 (by repeat (first | exact List.Mem.head _ | apply List.Mem.tail | apply List.mem_append_right)) (grab_all (by (first | assumption | (simp only [List.length_append, bys_length, b4_len, zrs_len, headB_len, putHead_len, List.length_replicate, List.length_cons, List.length_nil, List.length_set, List.length_take, List.length_drop, recL_len]; done) | (simp only [List.length_append, bys_length, b4_len, zrs_len, headB_len, putHead_len, List.length_replicate, List.length_cons, List.length_nil, List.length_set, List.length_take, List.length_drop, recL_len]; omega) | rfl | (simp [*, bys_length]; done) | (simp [*, bys_length]; omega)))) (by (first | assumption | (simp only [List.length_append, bys_length, b4_len, zrs_len, headB_len, putHead_len, List.length_replicate, List.length_cons, List.length_nil, List.length_set, List.length_take, List.length_drop, recL_len]; done) | (simp only [List.length_append, bys_length, b4_len, zrs_len, headB_len, putHead_len, List.length_replicate, List.length_cons, List.length_nil, List.length_set, List.length_take, List.length_drop, recL_len]; omega) | rfl | (simp [*, bys_length]; done) | (simp [*, bys_length]; omega)))) ?_
      refine TR.goK rfl rfl rfl ?_
      refine XO.bsl (qs := [(0, .agg _)]) rfl (.cons (v := .agg _) rfl .nil) rfl Try.runUnderlying83 Try.sizeOf157 Red7_zv_157 rfl (by (first | assumption | (simp only [List.length_append, bys_length, b4_len, zrs_len, headB_len, putHead_len, List.length_replicate, List.length_cons, List.length_nil, List.length_set, List.length_take, List.length_drop, recL_len]; done) | (simp only [List.length_append, bys_length, b4_len, zrs_len, headB_len, putHead_len, List.length_replicate, List.length_cons, List.length_nil, List.length_set, List.length_take, List.length_drop, recL_len]; omega) | rfl | (simp [*, bys_length]; done) | (simp [*, bys_length]; omega))) (by decide) (fill1 (by (first | assumption | (simp only [List.length_append, bys_length, b4_len, zrs_len, headB_len, putHead_len, List.length_replicate, List.length_cons, List.length_nil, List.length_set, List.length_take, List.length_drop, recL_len]; done) | (simp only [List.length_append, bys_length, b4_len, zrs_len, headB_len, putHead_len, List.length_replicate, List.length_cons, List.length_nil, List.length_set, List.length_take, List.length_drop, recL_len]; omega) | rfl | (simp [*, bys_length]; done) | (simp [*, bys_length]; omega))) (by (first | assumption | (simp only [List.length_append, bys_length, b4_len, zrs_len, headB_len, putHead_len, List.length_replicate, List.length_cons, List.length_nil, List.length_set, List.length_take, List.length_drop, recL_len]; done) | (simp only [List.length_append, bys_length, b4_len, zrs_len, headB_len, putHead_len, List.length_replicate, List.length_cons, List.length_nil, List.length_set, List.length_take, List.length_drop, recL_len]; omega) | rfl | (simp [*, bys_length]; done) | (simp [*, bys_length]; omega)))) (fun r67 hr67 => ?_)
      apply XO.blk (r := r67)
      · (repeat (first | exact Put.hd | apply Put.tl | apply Put.app))
      · exact (flat_one _)
      refine TR.backK (by repeat (first | exact List.Sublist.refl _ | apply List.Sublist.cons | apply List.sublist_append_of_sublist_right)) ?_
      refine TR.go rfl rfl rfl rfl ?_
      refine XO.callM (cap := []) rfl rfl (.cons (v := .pointer _) rfl (.cons (v := .int _ _) rfl (.cons (v := .int _ _) rfl (.cons (v := .int _ _) rfl (.cons (v := .slice _ _ _) rfl .nil))))) Try.call79 (devWrite_ok r s r67 1 D hD G.node G.epoch (G.j.head G.node) [(putHead st G.epoch).1] (headSec _ _) 157 hG.node0 (by omega) hh.1 (by show _ + 1 ≤ _; omega) (by have := hG.ep0; omega) hE) (by repeat (first | exact Sel.nil | refine Sel.cons (by repeat (first | exact Del.hd | apply Del.tl | apply Del.app)) (by repeat (first | exact List.Mem.head _ | apply List.Mem.tail | apply List.mem_append_right)) ?_)) (by ((repeat (first | exact wrs_nil | (refine wrs_cons (by (first | exact .inr ‹_› | (left; ((repeat (first | exact List.Mem.head _ | apply List.Mem.tail)))))) ?_))))) (by repeat (first | exact Rem.nil | (apply Rem.cons; (repeat (first | exact Del.hd | apply Del.tl | apply Del.app))))) (by repeat (first | exact App.nil | apply App.cons)) ?_
      refine TR.back ?_
      refine TR.v rfl rfl .n rfl rfl rfl (OV.neq rfl rfl) ?_
      refine TR.nil ?_
      refine XK.split (t := 69) rfl (fun hh3 => ?_) (fun hh3 => ?_)
      · replace hh3 := bnot_t hh3
        replace hh3 := of_decide_eq_false hh3
        have hlt : G.epoch < D.E G.node.toNat := by
          by_cases h : G.epoch < D.E G.node.toNat
          · exact h
          · exact absurd (if_neg h) hh3
        refine XK.cond_t rfl ?_
        refine XK.seq ?_
        refine XK.region ?_
        refine XO.val rfl rfl (OV.asg (v := .int _ _) rfl) ?_
        refine XO.nil ?_
        refine XK.retTo (Fin.ret (.cons (.tmp (v := .int _ _) rfl) .nil) (by first | exact (.cons (x := (g, _)) (by repeat (first | exact Del.hd | apply Del.tl | apply Del.app)) (by repeat (first | exact List.Mem.head _ | apply List.Mem.tail | apply List.mem_append_right)) (.cons (x := (r, _)) (by repeat (first | exact Del.hd | apply Del.tl | apply Del.app)) (by repeat (first | exact List.Mem.head _ | apply List.Mem.tail | apply List.mem_append_right)) (.cons (x := (s, _)) (by repeat (first | exact Del.hd | apply Del.tl | apply Del.app)) (by repeat (first | exact List.Mem.head _ | apply List.Mem.tail | apply List.mem_append_right)) .nil)))) (by simp) ?_)
        first | (have hc : G.cut D st = _ := if_pos (fun h => absurd h (by omega)); rw [hc]; exact ⟨⟨none, cap, sp⟩, rfl, rfl, hO⟩) | (have hc : G.cut D st = _ := (if_neg (fun h => h ⟨by omega, by omega⟩)).trans (if_pos hlt); rw [hc]; refine ⟨⟨none, cap, sp⟩, rfl, ?_, hO⟩; simp only [if_pos hlt]; rfl) | (have hc : G.cut D st = _ := (if_neg (fun h => h ⟨by omega, by omega⟩)).trans (if_neg hne); rw [hc]; refine ⟨⟨none, 0, []⟩, rfl, ?_, ⟨by simp [hl1, recsL], by simp [hl1], rfl, rfl⟩⟩; simp only [hl1, List.drop_nil, slB]; simp only [slV, lgL]; rfl)
      · replace hh3 := bnot_f hh3
        replace hh3 := of_decide_eq_true hh3
        have hne : ¬ (G.epoch < D.E G.node.toNat) := fun h => absurd ((if_pos h).symm.trans hh3) (by decide)
        apply XK.blk (r := r)
        · (repeat (first | exact Put.hd | apply Put.tl | apply Put.app))
        · exact congrArg (devL s) (if_neg hne)
        apply XK.blk (r := s)
        · (repeat (first | exact Put.hd | apply Put.tl | apply Put.app))
        · exact congrArg secL (if_neg hne)
        refine XK.cond_f rfl ?_
        refine XK.skip ?_
        refine XK.seq ?_
        refine XK.draw [0, 1, 2, 3, 4, 5, 6, 7, 8, 9, 10, 11, 12, 13, 14] [] [] [0, 1, 2, 3, 4, 5, 6, 7, 8, 9, 10, 11, 12, 13, 14, 15] Red7_mixed (by kernel_rfl) alc_none ?_
        refine TR.v rfl rfl .n rfl rfl rfl (OV.mv (v := .pointer _) rfl) ?_
        refine TR.v rfl rfl .n rfl rfl rfl (OV.mv (v := .pointer _) rfl) ?_
        refine TR.v rfl rfl .n rfl rfl rfl (OV.nilc rfl) ?_
        refine TR.v rfl rfl .n rfl rfl rfl (OV.fa rfl Red7_fa_155_6) ?_
        refine TR.v rfl rfl .n rfl rfl rfl (OV.ld rfl Try.isAgg43 (by repeat (first | exact List.Mem.head _ | apply List.Mem.tail | apply List.mem_append_right)) rfl) ?_
        refine TR.v rfl rfl .n rfl rfl rfl (OV.mv (v := .int _ _) rfl) ?_
        refine TR.v rfl rfl .n rfl rfl rfl (OV.mv (v := .pointer _) rfl) ?_
        refine TR.v rfl rfl .n rfl rfl rfl (OV.nilc rfl) ?_
        refine TR.v rfl rfl .n rfl rfl rfl (OV.fa rfl Red7_fa_155_4) ?_
        refine TR.v rfl rfl .n rfl rfl rfl (OV.ld rfl Try.isAgg2 (by repeat (first | exact List.Mem.head _ | apply List.Mem.tail | apply List.mem_append_right)) rfl) ?_
        refine TR.v rfl rfl .n rfl rfl rfl (OV.sub rfl rfl (wrap_in (by omega))) ?_
        refine TR.say (v := .int .i64 (k : Int)) 80 rfl (congrArg (Value.int .i64) hk) ?_
        refine TR.v rfl rfl .n rfl rfl rfl (OV.said (OV.slF (l := k) rfl Try.runUnderlying43 Try.sizeOf52 rfl (by omega) hcap) e81) ?_
        refine TR.cv (cap := []) rfl rfl .n rfl rfl rfl (.cons (v := .slice _ _ _) rfl .nil) Try.call82 (cloneR_nil) (by repeat (first | exact Sel.nil | refine Sel.cons (by repeat (first | exact Del.hd | apply Del.tl | apply Del.app)) (by repeat (first | exact List.Mem.head _ | apply List.Mem.tail | apply List.mem_append_right)) ?_)) ?_
        refine TR.v rfl rfl .n rfl rfl rfl (OV.nilc rfl) ?_
        refine TR.v rfl rfl .n rfl rfl rfl (OV.fa rfl Red7_fa_155_6) ?_
        refine TR.go rfl rfl rfl rfl ?_
        refine XO.st rfl (v := .slice _ _ _) rfl rfl Try.sizeOf43 (by repeat (first | exact Put.hd | apply Put.tl | apply Put.app)) (by (first | (simp only [List.length_append, bys_length, b4_len, zrs_len, headB_len, putHead_len, List.length_replicate, List.length_cons, List.length_nil, List.length_set, List.length_take, List.length_drop, recL_len]; omega) | omega | exact Nat.le_of_ble_eq_true rfl | (simp; done) | (simp; omega))) (by (first | exact .inr ‹_› | (left; ((repeat (first | exact List.Mem.head _ | apply List.Mem.tail)))))) ?_
        refine TR.back ?_
        refine TR.nil ?_
        refine XK.seq ?_
        refine XK.region ?_
        refine XO.val rfl rfl (OV.mv (v := .pointer _) rfl) ?_
        refine XO.val rfl rfl (OV.mv (v := .int _ _) rfl) ?_
        refine XO.val rfl rfl (OV.nilc rfl) ?_
        refine XO.val rfl rfl (OV.fa rfl Red7_fa_155_4) ?_
        refine XO.st rfl (v := .int _ _) rfl rfl Try.sizeOf2 (by repeat (first | exact Put.hd | apply Put.tl | apply Put.app)) (by (first | (simp only [List.length_append, bys_length, b4_len, zrs_len, headB_len, putHead_len, List.length_replicate, List.length_cons, List.length_nil, List.length_set, List.length_take, List.length_drop, recL_len]; omega) | omega | exact Nat.le_of_ble_eq_true rfl | (simp; done) | (simp; omega))) (by (first | exact .inr ‹_› | (left; ((repeat (first | exact List.Mem.head _ | apply List.Mem.tail)))))) ?_
        refine XO.nil ?_
        refine XK.seq ?_
        refine XK.region ?_
        refine XO.val rfl rfl (OV.asg (v := .int _ _) rfl) ?_
        refine XO.nil ?_
        refine XK.retTo (Fin.ret (.cons (.tmp (v := .int _ _) rfl) .nil) (by first | exact (.cons (x := (g, _)) (by repeat (first | exact Del.hd | apply Del.tl | apply Del.app)) (by repeat (first | exact List.Mem.head _ | apply List.Mem.tail | apply List.mem_append_right)) (.cons (x := (r, _)) (by repeat (first | exact Del.hd | apply Del.tl | apply Del.app)) (by repeat (first | exact List.Mem.head _ | apply List.Mem.tail | apply List.mem_append_right)) (.cons (x := (s, _)) (by repeat (first | exact Del.hd | apply Del.tl | apply Del.app)) (by repeat (first | exact List.Mem.head _ | apply List.Mem.tail | apply List.mem_append_right)) .nil)))) (by simp) ?_)
        first | (have hc : G.cut D st = _ := if_pos (fun h => absurd h (by omega)); rw [hc]; exact ⟨⟨none, cap, sp⟩, rfl, rfl, hO⟩) | (have hc : G.cut D st = _ := (if_neg (fun h => h ⟨by omega, by omega⟩)).trans (if_pos hlt); rw [hc]; refine ⟨⟨none, cap, sp⟩, rfl, ?_, hO⟩; simp only [if_pos hlt]; rfl) | (have hc : G.cut D st = _ := (if_neg (fun h => h ⟨by omega, by omega⟩)).trans (if_neg hne); rw [hc]; refine ⟨⟨none, 0, []⟩, rfl, ?_, ⟨by simp [hl1, recsL], by simp [hl1], rfl, rfl⟩⟩; simp only [hl1, List.drop_nil, slB]; simp only [slV, lgL]; rfl)

set_option maxHeartbeats 4000000 in
theorem lgCut_some (g r s q cap : Nat) (sp : List Value) (G : Lg) (hG : G.wf) (hO : Mw.Own ⟨some q, cap, sp⟩ G.l.length (recsL G.l) 101) (D : Dev) (hD : D.wf) (hz : G.j.secs ≤ D.S.length) (hn : G.j.nodes ≤ D.nodes) (hE : G.epoch ≤ D.E G.node.toNat) (st : Int) (hs0 : -9223372036854775808 ≤ st) (hs1 : st ≤ 9223372036854775807) :
    Ct Try.prog 19 [.pointer (some ⟨g, 0, none⟩), .int .i64 st] [(g, cel (lgL r ⟨some q, cap, sp⟩ G) 155), (r, cel (devL s D) 86), (s, cel (secL D) 157), (q, cel (recsL G.l ++ sp) 52)] [g, r, s, q] (fun v L => ∃ sl, v = .int .i64 (G.cut D st).2.2 ∧ L = [(g, cel (lgL r sl (G.cut D st).1) 155), (r, cel (devL s (G.cut D st).2.1) 86), (s, cel (secL (G.cut D st).2.1) 157)] ++ slB sl (recsL (G.cut D st).1.l) 52 ∧ Mw.Own sl (G.cut D st).1.l.length (recsL (G.cut D st).1.l) 101) := by
  have hlen := hG.len
  have hbd := recsL_len hG.body
  have hfl0 := hG.fl0
  have hfl1 := hG.fl1
  have hst := hG.st0
  have hst1 := hG.st1
  have hnd := hG.node1
  have hh := head_bd hG.may hG.node0 hG.node1
  have hcap : G.l.length ≤ cap := hO.2.1
  refine Ct.of (N := 89) (rs := [.tmp 4]) Try.func19 rfl rfl rfl (Nat.le_of_ble_eq_true rfl) (fun B => ?_)
  refine XK.seq ?_
  refine XK.region ?_
  refine XO.val rfl rfl (OV.asg (v := .int _ _) rfl) ?_
  refine XO.nil ?_
  refine XK.seq ?_
  refine XK.block ?_
  refine XK.seq ?_
  refine XK.region ?_
  refine XO.val rfl rfl (OV.mv (v := .pointer _) rfl) ?_
  refine XO.callV (cap := []) rfl rfl (.cons (v := .pointer _) rfl .nil) Try.call76 (lgThere_ok g r ⟨some q, cap, sp⟩ G) (by repeat (first | exact Sel.nil | refine Sel.cons (by repeat (first | exact Del.hd | apply Del.tl | apply Del.app)) (by repeat (first | exact List.Mem.head _ | apply List.Mem.tail | apply List.mem_append_right)) ?_)) ?_
  refine XO.val rfl rfl (OV.notB rfl) ?_
  refine XO.val rfl rfl (OV.asg (v := .bool _) rfl) ?_
  refine XO.nil ?_
  refine XK.cond_f rfl ?_
  refine XK.seq ?_
  refine XK.region ?_
  refine XO.val rfl rfl (OV.mv (v := .int _ _) rfl) ?_
  refine XO.val rfl rfl (OV.mv (v := .pointer _) rfl) ?_
  refine XO.val rfl rfl (OV.nilc rfl) ?_
  refine XO.val rfl rfl (OV.fa rfl Red7_fa_155_4) ?_
  refine XO.val rfl rfl (OV.ld rfl Try.isAgg2 (by repeat (first | exact List.Mem.head _ | apply List.Mem.tail | apply List.mem_append_right)) rfl) ?_
  refine XO.val rfl rfl (OV.lss rfl rfl) ?_
  refine XO.val rfl rfl (OV.mv (v := .bool _) rfl) ?_
  refine XO.split (t := 21) rfl (fun hh1 => ?_) (fun hh1 => ?_)
  · replace hh1 := of_decide_eq_true hh1
    iterate 7 refine XO.guard_f rfl rfl rfl rfl ?_
    refine XO.val rfl rfl (OV.pick_t (v := .bool _) rfl rfl) ?_
    refine XO.val rfl rfl (OV.asg (v := .bool _) rfl) ?_
    refine XO.nil ?_
    refine XK.cond_t rfl ?_
    refine XK.seq ?_
    refine XK.region ?_
    refine XO.val rfl rfl (OV.asg (v := .int _ _) rfl) ?_
    refine XO.nil ?_
    refine XK.retTo (Fin.ret (.cons (.tmp (v := .int _ _) rfl) .nil) (by first | exact (.cons (x := (g, _)) (by repeat (first | exact Del.hd | apply Del.tl | apply Del.app)) (by repeat (first | exact List.Mem.head _ | apply List.Mem.tail | apply List.mem_append_right)) (.cons (x := (r, _)) (by repeat (first | exact Del.hd | apply Del.tl | apply Del.app)) (by repeat (first | exact List.Mem.head _ | apply List.Mem.tail | apply List.mem_append_right)) (.cons (x := (s, _)) (by repeat (first | exact Del.hd | apply Del.tl | apply Del.app)) (by repeat (first | exact List.Mem.head _ | apply List.Mem.tail | apply List.mem_append_right)) (.cons (x := (rc, _)) (by repeat (first | exact Del.hd | apply Del.tl | apply Del.app)) (by repeat (first | exact List.Mem.head _ | apply List.Mem.tail | apply List.mem_append_right)) .nil)))) | exact (.cons (x := (g, _)) (by repeat (first | exact Del.hd | apply Del.tl | apply Del.app)) (by repeat (first | exact List.Mem.head _ | apply List.Mem.tail | apply List.mem_append_right)) (.cons (x := (r, _)) (by repeat (first | exact Del.hd | apply Del.tl | apply Del.app)) (by repeat (first | exact List.Mem.head _ | apply List.Mem.tail | apply List.mem_append_right)) (.cons (x := (s, _)) (by repeat (first | exact Del.hd | apply Del.tl | apply Del.app)) (by repeat (first | exact List.Mem.head _ | apply List.Mem.tail | apply List.mem_append_right)) (.cons (x := (q, _)) (by repeat (first | exact Del.hd | apply Del.tl | apply Del.app)) (by repeat (first | exact List.Mem.head _ | apply List.Mem.tail | apply List.mem_append_right)) .nil))))) (by intro x hx; simp only [List.mem_cons, List.not_mem_nil, or_false] at hx; rcases hx with rfl | rfl | rfl | rfl <;> first | exact .inr hrc | (left; ((repeat (first | exact List.Mem.head _ | apply List.Mem.tail))); done)) ?_)
    first | (have hc : G.cut D st = _ := if_pos (fun h => absurd h (by omega)); rw [hc]; exact ⟨⟨some q, cap, sp⟩, rfl, rfl, hO⟩) | (have hc : G.cut D st = _ := (if_neg (fun h => h ⟨by omega, by omega⟩)).trans (if_pos hlt); rw [hc]; refine ⟨⟨some q, cap, sp⟩, rfl, ?_, hO⟩; simp only [if_pos hlt]; rfl) | (have hc : G.cut D st = _ := (if_neg (fun h => h ⟨by omega, by omega⟩)).trans (if_neg hne); rw [hc]; refine ⟨⟨some rc, cc, sc⟩, rfl, ?_, (by rw [← List.length_drop] at hown; rw [show (st - G.start).toNat = k from by omega]; exact hown)⟩; rw [show (st - G.start).toNat = k from by omega]; simp only [slB, lgL, slV, List.length_drop]; rfl)
  · replace hh1 := of_decide_eq_false hh1
    refine XO.guard_t rfl rfl ?_
    refine XO.val rfl rfl (OV.mv (v := .int _ _) rfl) ?_
    refine XO.guard_t rfl rfl ?_
    refine XO.val rfl rfl (OV.mv (v := .pointer _) rfl) ?_
    refine XO.guard_t rfl rfl ?_
    refine XO.val rfl rfl (OV.nilc rfl) ?_
    refine XO.guard_t rfl rfl ?_
    refine XO.val rfl rfl (OV.fa rfl Red7_fa_155_5) ?_
    refine XO.guard_t rfl rfl ?_
    refine XO.val rfl rfl (OV.ld rfl Try.isAgg2 (by repeat (first | exact List.Mem.head _ | apply List.Mem.tail | apply List.mem_append_right)) rfl) ?_
    refine XO.guard_t rfl rfl ?_
    refine XO.val rfl rfl (OV.add rfl rfl (wrap_in (by omega))) ?_
    refine XO.guard_t rfl rfl ?_
    refine XO.val rfl rfl (OV.gtr rfl rfl) ?_
    refine XO.val rfl rfl (OV.pick_f (v := .bool _) rfl rfl) ?_
    refine XO.val rfl rfl (OV.asg (v := .bool _) rfl) ?_
    refine XO.nil ?_
    refine XK.split (t := 14) rfl (fun hh2 => ?_) (fun hh2 => ?_)
    · replace hh2 := of_decide_eq_true hh2
      refine XK.cond_t rfl ?_
      refine XK.seq ?_
      refine XK.region ?_
      refine XO.val rfl rfl (OV.asg (v := .int _ _) rfl) ?_
      refine XO.nil ?_
      refine XK.retTo (Fin.ret (.cons (.tmp (v := .int _ _) rfl) .nil) (by first | exact (.cons (x := (g, _)) (by repeat (first | exact Del.hd | apply Del.tl | apply Del.app)) (by repeat (first | exact List.Mem.head _ | apply List.Mem.tail | apply List.mem_append_right)) (.cons (x := (r, _)) (by repeat (first | exact Del.hd | apply Del.tl | apply Del.app)) (by repeat (first | exact List.Mem.head _ | apply List.Mem.tail | apply List.mem_append_right)) (.cons (x := (s, _)) (by repeat (first | exact Del.hd | apply Del.tl | apply Del.app)) (by repeat (first | exact List.Mem.head _ | apply List.Mem.tail | apply List.mem_append_right)) (.cons (x := (rc, _)) (by repeat (first | exact Del.hd | apply Del.tl | apply Del.app)) (by repeat (first | exact List.Mem.head _ | apply List.Mem.tail | apply List.mem_append_right)) .nil)))) | exact (.cons (x := (g, _)) (by repeat (first | exact Del.hd | apply Del.tl | apply Del.app)) (by repeat (first | exact List.Mem.head _ | apply List.Mem.tail | apply List.mem_append_right)) (.cons (x := (r, _)) (by repeat (first | exact Del.hd | apply Del.tl | apply Del.app)) (by repeat (first | exact List.Mem.head _ | apply List.Mem.tail | apply List.mem_append_right)) (.cons (x := (s, _)) (by repeat (first | exact Del.hd | apply Del.tl | apply Del.app)) (by repeat (first | exact List.Mem.head _ | apply List.Mem.tail | apply List.mem_append_right)) (.cons (x := (q, _)) (by repeat (first | exact Del.hd | apply Del.tl | apply Del.app)) (by repeat (first | exact List.Mem.head _ | apply List.Mem.tail | apply List.mem_append_right)) .nil))))) (by intro x hx; simp only [List.mem_cons, List.not_mem_nil, or_false] at hx; rcases hx with rfl | rfl | rfl | rfl <;> first | exact .inr hrc | (left; ((repeat (first | exact List.Mem.head _ | apply List.Mem.tail))); done)) ?_)
      first | (have hc : G.cut D st = _ := if_pos (fun h => absurd h (by omega)); rw [hc]; exact ⟨⟨some q, cap, sp⟩, rfl, rfl, hO⟩) | (have hc : G.cut D st = _ := (if_neg (fun h => h ⟨by omega, by omega⟩)).trans (if_pos hlt); rw [hc]; refine ⟨⟨some q, cap, sp⟩, rfl, ?_, hO⟩; simp only [if_pos hlt]; rfl) | (have hc : G.cut D st = _ := (if_neg (fun h => h ⟨by omega, by omega⟩)).trans (if_neg hne); rw [hc]; refine ⟨⟨some rc, cc, sc⟩, rfl, ?_, (by rw [← List.length_drop] at hown; rw [show (st - G.start).toNat = k from by omega]; exact hown)⟩; rw [show (st - G.start).toNat = k from by omega]; simp only [slB, lgL, slV, List.length_drop]; rfl)
    · replace hh2 := of_decide_eq_false hh2
      obtain ⟨k, hk⟩ : ∃ k : Nat, st - G.start = (k : Int) := ⟨(st - G.start).toNat, by omega⟩
      have e81 : Value.slice (if cap = k then some ⟨q, 0, none⟩ else (some ⟨q, 0, none⟩ : Option Addr).map (·.add (k * 101))) (G.l.length - k) (cap - k) = .slice (some ⟨q, (if cap = k then 0 else 0 + k * 101), none⟩) (G.l.length - k) (cap - k) := by
        by_cases hck : cap = k
        · rw [if_pos hck, if_pos hck]
        · rw [if_neg hck, if_neg hck, Option.map_some, addr_add]
      have hv : ((recsL G.l ++ sp).drop (if cap = k then 0 else 0 + k * 101)).take ((G.l.length - k) * 101) = recsL (G.l.drop k) := by
        have hbk := recsL_len (fun x hx => hG.body x (List.drop_subset k _ hx))
        by_cases hck : cap = k
        · rw [show G.l.length - k = 0 from by omega, show G.l.drop k = [] from List.drop_of_length_le (by omega), Nat.zero_mul, List.take_zero]; rfl
        · rw [if_neg hck, Nat.zero_add, List.drop_append_of_le_length (by rw [hbd]; omega), recsL_drop hG.body, List.take_left' (by rw [hbk, List.length_drop])]
      refine XK.cond_f rfl ?_
      refine XK.skip ?_
      refine XK.inblk ?_
      refine XK.seq ?_
      refine XK.region ?_
      refine XO.val rfl rfl (OV.mv (v := .int _ _) rfl) ?_
      refine XO.val rfl rfl (OV.mv (v := .pointer _) rfl) ?_
      refine XO.val rfl rfl (OV.nilc rfl) ?_
      refine XO.val rfl rfl (OV.fa rfl Red7_fa_155_3) ?_
      refine XO.val rfl rfl (OV.ld rfl Try.isAgg2 (by repeat (first | exact List.Mem.head _ | apply List.Mem.tail | apply List.mem_append_right)) rfl) ?_
      refine XO.val rfl rfl (OV.bld (qs := [(0, .int .i64 _), (1, .int .i64 _)]) (.cons (v := .int _ _) rfl (.cons (v := .int _ _) rfl .nil)) rfl (Red7_bld_164_0_1 _ _)) ?_
      refine XO.alloc rfl Red7_zv_164 rfl (fun r5 hr5 => ?_)
      refine XO.stA rfl rfl (by (repeat (first | with_reducible (apply one_app) | with_reducible exact bys_one | with_reducible exact recL_one _ | with_reducible exact one_rep rfl | exact ones_of rfl | exact bys_one))) Try.sizeOf164 (by (first | assumption | (simp only [List.length_append, bys_length, b4_len, zrs_len, headB_len, putHead_len, List.length_replicate, List.length_cons, List.length_nil, List.length_set, List.length_take, List.length_drop, recL_len]; done) | (simp only [List.length_append, bys_length, b4_len, zrs_len, headB_len, putHead_len, List.length_replicate, List.length_cons, List.length_nil, List.length_set, List.length_take, List.length_drop, recL_len]; omega) | rfl | (simp [*, bys_length]; done) | (simp [*, bys_length]; omega))) (by repeat (first | exact Put.hd | apply Put.tl | apply Put.app)) (by first | exact splice_all (by (first | assumption | (simp only [List.length_append, bys_length, b4_len, zrs_len, headB_len, putHead_len, List.length_replicate, List.length_cons, List.length_nil, List.length_set, List.length_take, List.length_drop, recL_len]; done) | (simp only [List.length_append, bys_length, b4_len, zrs_len, headB_len, putHead_len, List.length_replicate, List.length_cons, List.length_nil, List.length_set, List.length_take, List.length_drop, recL_len]; omega) | rfl | (simp [*, bys_length]; done) | (simp [*, bys_length]; omega))) | rfl) (by (first | (simp only [List.length_append, bys_length, b4_len, zrs_len, headB_len, putHead_len, List.length_replicate, List.length_cons, List.length_nil, List.length_set, List.length_take, List.length_drop, recL_len]; omega) | omega | exact Nat.le_of_ble_eq_true rfl | (simp; done) | (simp; omega))) (by (first | exact .inr ‹_› | (left; ((repeat (first | exact List.Mem.head _ | apply List.Mem.tail)))))) ?_
      refine XO.nil ?_
      refine XK.seq ?_
      refine XK.region ?_
      refine XO.val rfl rfl (OV.ldA rfl Try.isAgg164 Try.sizeOf164 (by repeat (first | exact List.Mem.head _ | apply List.Mem.tail | apply List.mem_append_right)) (grab_all (by (first | assumption | (simp only [List.length_append, bys_length, b4_len, zrs_len, headB_len, putHead_len, List.length_replicate, List.length_cons, List.length_nil, List.length_set, List.length_take, List.length_drop, recL_len]; done) | (simp only [List.length_append, bys_length, b4_len, zrs_len, headB_len, putHead_len, List.length_replicate, List.length_cons, List.length_nil, List.length_set, List.length_take, List.length_drop, recL_len]; omega) | rfl | (simp [*, bys_length]; done) | (simp [*, bys_length]; omega)))) (by (first | assumption | (simp only [List.length_append, bys_length, b4_len, zrs_len, headB_len, putHead_len, List.length_replicate, List.length_cons, List.length_nil, List.length_set, List.length_take, List.length_drop, recL_len]; done) | (simp only [List.length_append, bys_length, b4_len, zrs_len, headB_len, putHead_len, List.length_replicate, List.length_cons, List.length_nil, List.length_set, List.length_take, List.length_drop, recL_len]; omega) | rfl | (simp [*, bys_length]; done) | (simp [*, bys_length]; omega)))) ?_
      refine XO.callV (cap := []) rfl rfl (.cons (v := .agg _) rfl .nil) Try.call80 (putHead_ok st G.epoch) (by repeat (first | exact Sel.nil | refine Sel.cons (by repeat (first | exact Del.hd | apply Del.tl | apply Del.app)) (by repeat (first | exact List.Mem.head _ | apply List.Mem.tail | apply List.mem_append_right)) ?_)) ?_
      refine XO.val rfl rfl (OV.mv (v := .tuple _) rfl) ?_
      refine XO.val rfl rfl (OV.ext rfl rfl) ?_
      refine XO.val rfl rfl (OV.ext rfl rfl) ?_
      refine XO.alloc rfl Red7_zv_157 rfl (fun r6 hr6 => ?_)
      refine XO.stA rfl rfl (by (repeat (first | with_reducible (apply one_app) | with_reducible exact bys_one | with_reducible exact recL_one _ | with_reducible exact one_rep rfl | exact ones_of rfl | exact bys_one))) Try.sizeOf157 (by (first | assumption | (simp only [List.length_append, bys_length, b4_len, zrs_len, headB_len, putHead_len, List.length_replicate, List.length_cons, List.length_nil, List.length_set, List.length_take, List.length_drop, recL_len]; done) | (simp only [List.length_append, bys_length, b4_len, zrs_len, headB_len, putHead_len, List.length_replicate, List.length_cons, List.length_nil, List.length_set, List.length_take, List.length_drop, recL_len]; omega) | rfl | (simp [*, bys_length]; done) | (simp [*, bys_length]; omega))) (by repeat (first | exact Put.hd | apply Put.tl | apply Put.app)) (by first | exact splice_all (by (first | assumption | (simp only [List.length_append, bys_length, b4_len, zrs_len, headB_len, putHead_len, List.length_replicate, List.length_cons, List.length_nil, List.length_set, List.length_take, List.length_drop, recL_len]; done) | (simp only [List.length_append, bys_length, b4_len, zrs_len, headB_len, putHead_len, List.length_replicate, List.length_cons, List.length_nil, List.length_set, List.length_take, List.length_drop, recL_len]; omega) | rfl | (simp [*, bys_length]; done) | (simp [*, bys_length]; omega))) | rfl) (by (first | (simp only [List.length_append, bys_length, b4_len, zrs_len, headB_len, putHead_len, List.length_replicate, List.length_cons, List.length_nil, List.length_set, List.length_take, List.length_drop, recL_len]; omega) | omega | exact Nat.le_of_ble_eq_true rfl | (simp; done) | (simp; omega))) (by (first | exact .inr ‹_› | (left; ((repeat (first | exact List.Mem.head _ | apply List.Mem.tail)))))) ?_
      refine XO.val rfl rfl (OV.asg (v := .int _ _) rfl) ?_
      refine XO.nil ?_
      refine XK.seq ?_
      refine XK.draw [0, 1, 2, 3, 4, 5, 6, 7, 8, 9, 10, 11, 12, 13] [] [] [0, 1, 2, 3, 4, 5, 6, 7, 8, 9, 10, 11, 12, 13] Red7_mixed (by kernel_rfl) alc_none ?_
      refine TR.v rfl rfl .n rfl rfl rfl (OV.mv (v := .pointer _) rfl) ?_
      refine TR.v rfl rfl .n rfl rfl rfl (OV.nilc rfl) ?_
      refine TR.v rfl rfl .n rfl rfl rfl (OV.fa rfl Red7_fa_155_1) ?_
      refine TR.v rfl rfl .n rfl rfl rfl (OV.ldA rfl Try.isAgg23 Try.sizeOf23 (by repeat (first | exact List.Mem.head _ | apply List.Mem.tail | apply List.mem_append_right)) lgL_job rfl) ?_
      refine TR.v rfl rfl .n rfl rfl rfl (OV.mv (v := .pointer _) rfl) ?_
      refine TR.v rfl rfl .n rfl rfl rfl (OV.nilc rfl) ?_
      refine TR.v rfl rfl .n rfl rfl rfl (OV.fa rfl Red7_fa_155_2) ?_
      refine TR.v rfl rfl .n rfl rfl rfl (OV.ld rfl Try.isAgg3 (by repeat (first | exact List.Mem.head _ | apply List.Mem.tail | apply List.mem_append_right)) rfl) ?_
      refine TR.cv (cap := []) rfl rfl .n rfl rfl rfl (.cons (v := .agg _) rfl (.cons (v := .int _ _) rfl .nil)) Try.call81 (areaHead_ok G.j hG.may G.node hG.node0 hG.node1) (by repeat (first | exact Sel.nil | refine Sel.cons (by repeat (first | exact Del.hd | apply Del.tl | apply Del.app)) (by repeat (first | exact List.Mem.head _ | apply List.Mem.tail | apply List.mem_append_right)) ?_)) ?_
      refine TR.v rfl rfl .n rfl rfl rfl (OV.mv (v := .tuple _) rfl) ?_
      refine TR.v rfl rfl .n rfl rfl rfl (OV.ext rfl rfl) ?_
      refine TR.v rfl rfl .n rfl rfl rfl (OV.ext rfl rfl) ?_
      refine TR.v rfl rfl .n rfl rfl rfl (OV.asg (v := .int _ _) rfl) ?_
      refine TR.v rfl rfl .n rfl rfl rfl (OV.asg (v := .int _ _) rfl) ?_
      refine TR.nil ?_
      refine XK.seq ?_
      refine XK.seq ?_
      refine XK.draw [0, 1, 2, 3, 4, 5, 6, 7, 8, 9, 10, 11, 12, 13, 16] [] [14] [0, 1, 2, 3, 4, 5, 6, 7, 8, 9, 10, 11, 12, 13, 14, 15, 16] Red7_mixed (by kernel_rfl) alc_none ?_
      refine TR.v rfl rfl .n rfl rfl rfl (OV.mv (v := .pointer _) rfl) ?_
      refine TR.v rfl rfl .n rfl rfl rfl (OV.nilc rfl) ?_
      refine TR.v rfl rfl .n rfl rfl rfl (OV.fa rfl Red7_fa_155_0) ?_
      refine TR.v rfl rfl .n rfl rfl rfl (OV.ld rfl Try.isAgg27 (by repeat (first | exact List.Mem.head _ | apply List.Mem.tail | apply List.mem_append_right)) rfl) ?_
      refine TR.v rfl rfl .n rfl rfl rfl (OV.mv (v := .pointer _) rfl) ?_
      refine TR.v rfl rfl .n rfl rfl rfl (OV.nilc rfl) ?_
      refine TR.v rfl rfl .n rfl rfl rfl (OV.fa rfl Red7_fa_155_2) ?_
      refine TR.v rfl rfl .n rfl rfl rfl (OV.ld rfl Try.isAgg3 (by repeat (first | exact List.Mem.head _ | apply List.Mem.tail | apply List.mem_append_right)) rfl) ?_
      refine TR.v rfl rfl .n rfl rfl rfl (OV.mv (v := .pointer _) rfl) ?_
      refine TR.v rfl rfl .n rfl rfl rfl (OV.nilc rfl) ?_
      refine TR.v rfl rfl .n rfl rfl rfl (OV.fa rfl Red7_fa_155_3) ?_
      refine TR.v rfl rfl .n rfl rfl rfl (OV.ld rfl Try.isAgg2 (by repeat (first | exact List.Mem.head _ | apply List.Mem.tail | apply List.mem_append_right)) rfl) ?_
      refine TR.v rfl rfl .n rfl rfl rfl (OV.mv (v := .int _ _) rfl) ?_
      refine TR.v rfl rfl .n rfl rfl rfl (OV.ldA rfl Try.isAgg157 Try.sizeOf157 (by repeat (first | exact List.Mem.head _ | apply List.Mem.tail | apply List.mem_append_right)) (grab_all (by (first | assumption | (simp only [List.length_append, bys_length, b4_len, zrs_len, headB_len, putHead_len, List.length_replicate, List.length_cons, List.length_nil, List.length_set, List.length_take, List.length_drop, recL_len]; done) | (simp only [List.length_append, bys_length, b4_len, zrs_len, headB_len, putHead_len, List.length_replicate, List.length_cons, List.length_nil, List.length_set, List.length_take, List.length_drop, recL_len]; omega) | rfl | (simp [*, bys_length]; done) | (simp [*, bys_length]; omega)))) (by (first | assumption | (simp only [List.length_append, bys_length, b4_len, zrs_len, headB_len, putHead_len, List.length_replicate, List.length_cons, List.length_nil, List.length_set, List.length_take, List.length_drop, recL_len]; done) | (simp only [List.length_append, bys_length, b4_len, zrs_len, headB_len, putHead_len, List.length_replicate, List.length_cons, List.length_nil, List.length_set, List.length_take, List.length_drop, recL_len]; omega) | rfl | (simp [*, bys_length]; done) | (simp [*, bys_length]; omega)))) ?_
      refine TR.goK rfl rfl rfl ?_
      refine XO.bsl (qs := [(0, .agg _)]) rfl (.cons (v := .agg _) rfl .nil) rfl Try.runUnderlying83 Try.sizeOf157 Red7_zv_157 rfl (by (first | assumption | (simp only [List.length_append, bys_length, b4_len, zrs_len, headB_len, putHead_len, List.length_replicate, List.length_cons, List.length_nil, List.length_set, List.length_take, List.length_drop, recL_len]; done) | (simp only [List.length_append, bys_length, b4_len, zrs_len, headB_len, putHead_len, List.length_replicate, List.length_cons, List.length_nil, List.length_set, List.length_take, List.length_drop, recL_len]; omega) | rfl | (simp [*, bys_length]; done) | (simp [*, bys_length]; omega))) (by decide) (fill1 (by (first | assumption | (simp only [List.length_append, bys_length, b4_len, zrs_len, headB_len, putHead_len, List.length_replicate, List.length_cons, List.length_nil, List.length_set, List.length_take, List.length_drop, recL_len]; done) | (simp only [List.length_append, bys_length, b4_len, zrs_len, headB_len, putHead_len, List.length_replicate, List.length_cons, List.length_nil, List.length_set, List.length_take, List.length_drop, recL_len]; omega) | rfl | (simp [*, bys_length]; done) | (simp [*, bys_length]; omega))) (by (first | assumption | (simp only [List.length_append, bys_length, b4_len, zrs_len, headB_len, putHead_len, List.length_replicate, List.length_cons, List.length_nil, List.length_set, List.length_take, List.length_drop, recL_len]; done) | (simp only [List.length_append, bys_length, b4_len, zrs_len, headB_len, putHead_len, List.length_replicate, List.length_cons, List.length_nil, List.length_set, List.length_take, List.length_drop, recL_len]; omega) | rfl | (simp [*, bys_length]; done) | (simp [*, bys_length]; omega)))) (fun r67 hr67 => ?_)
      apply XO.blk (r := r67)
      · (repeat (first | exact Put.hd | apply Put.tl | apply Put.app))
      · exact (flat_one _)
      refine TR.backK (by repeat (first | exact List.Sublist.refl _ | apply List.Sublist.cons | apply List.sublist_append_of_sublist_right)) ?_
      refine TR.go rfl rfl rfl rfl ?_
      refine XO.callM (cap := []) rfl rfl (.cons (v := .pointer _) rfl (.cons (v := .int _ _) rfl (.cons (v := .int _ _) rfl (.cons (v := .int _ _) rfl (.cons (v := .slice _ _ _) rfl .nil))))) Try.call79 (devWrite_ok r s r67 1 D hD G.node G.epoch (G.j.head G.node) [(putHead st G.epoch).1] (headSec _ _) 157 hG.node0 (by omega) hh.1 (by show _ + 1 ≤ _; omega) (by have := hG.ep0; omega) hE) (by repeat (first | exact Sel.nil | refine Sel.cons (by repeat (first | exact Del.hd | apply Del.tl | apply Del.app)) (by repeat (first | exact List.Mem.head _ | apply List.Mem.tail | apply List.mem_append_right)) ?_)) (by ((repeat (first | exact wrs_nil | (refine wrs_cons (by (first | exact .inr ‹_› | (left; ((repeat (first | exact List.Mem.head _ | apply List.Mem.tail)))))) ?_))))) (by repeat (first | exact Rem.nil | (apply Rem.cons; (repeat (first | exact Del.hd | apply Del.tl | apply Del.app))))) (by repeat (first | exact App.nil | apply App.cons)) ?_
      refine TR.back ?_
      refine TR.v rfl rfl .n rfl rfl rfl (OV.neq rfl rfl) ?_
      refine TR.nil ?_
      refine XK.split (t := 69) rfl (fun hh3 => ?_) (fun hh3 => ?_)
      · replace hh3 := bnot_t hh3
        replace hh3 := of_decide_eq_false hh3
        have hlt : G.epoch < D.E G.node.toNat := by
          by_cases h : G.epoch < D.E G.node.toNat
          · exact h
          · exact absurd (if_neg h) hh3
        refine XK.cond_t rfl ?_
        refine XK.seq ?_
        refine XK.region ?_
        refine XO.val rfl rfl (OV.asg (v := .int _ _) rfl) ?_
        refine XO.nil ?_
        refine XK.retTo (Fin.ret (.cons (.tmp (v := .int _ _) rfl) .nil) (by first | exact (.cons (x := (g, _)) (by repeat (first | exact Del.hd | apply Del.tl | apply Del.app)) (by repeat (first | exact List.Mem.head _ | apply List.Mem.tail | apply List.mem_append_right)) (.cons (x := (r, _)) (by repeat (first | exact Del.hd | apply Del.tl | apply Del.app)) (by repeat (first | exact List.Mem.head _ | apply List.Mem.tail | apply List.mem_append_right)) (.cons (x := (s, _)) (by repeat (first | exact Del.hd | apply Del.tl | apply Del.app)) (by repeat (first | exact List.Mem.head _ | apply List.Mem.tail | apply List.mem_append_right)) (.cons (x := (rc, _)) (by repeat (first | exact Del.hd | apply Del.tl | apply Del.app)) (by repeat (first | exact List.Mem.head _ | apply List.Mem.tail | apply List.mem_append_right)) .nil)))) | exact (.cons (x := (g, _)) (by repeat (first | exact Del.hd | apply Del.tl | apply Del.app)) (by repeat (first | exact List.Mem.head _ | apply List.Mem.tail | apply List.mem_append_right)) (.cons (x := (r, _)) (by repeat (first | exact Del.hd | apply Del.tl | apply Del.app)) (by repeat (first | exact List.Mem.head _ | apply List.Mem.tail | apply List.mem_append_right)) (.cons (x := (s, _)) (by repeat (first | exact Del.hd | apply Del.tl | apply Del.app)) (by repeat (first | exact List.Mem.head _ | apply List.Mem.tail | apply List.mem_append_right)) (.cons (x := (q, _)) (by repeat (first | exact Del.hd | apply Del.tl | apply Del.app)) (by repeat (first | exact List.Mem.head _ | apply List.Mem.tail | apply List.mem_append_right)) .nil))))) (by intro x hx; simp only [List.mem_cons, List.not_mem_nil, or_false] at hx; rcases hx with rfl | rfl | rfl | rfl <;> first | exact .inr hrc | (left; ((repeat (first | exact List.Mem.head _ | apply List.Mem.tail))); done)) ?_)
        first | (have hc : G.cut D st = _ := if_pos (fun h => absurd h (by omega)); rw [hc]; exact ⟨⟨some q, cap, sp⟩, rfl, rfl, hO⟩) | (have hc : G.cut D st = _ := (if_neg (fun h => h ⟨by omega, by omega⟩)).trans (if_pos hlt); rw [hc]; refine ⟨⟨some q, cap, sp⟩, rfl, ?_, hO⟩; simp only [if_pos hlt]; rfl) | (have hc : G.cut D st = _ := (if_neg (fun h => h ⟨by omega, by omega⟩)).trans (if_neg hne); rw [hc]; refine ⟨⟨some rc, cc, sc⟩, rfl, ?_, (by rw [← List.length_drop] at hown; rw [show (st - G.start).toNat = k from by omega]; exact hown)⟩; rw [show (st - G.start).toNat = k from by omega]; simp only [slB, lgL, slV, List.length_drop]; rfl)
      · replace hh3 := bnot_f hh3
        replace hh3 := of_decide_eq_true hh3
        have hne : ¬ (G.epoch < D.E G.node.toNat) := fun h => absurd ((if_pos h).symm.trans hh3) (by decide)
        apply XK.blk (r := r)
        · (repeat (first | exact Put.hd | apply Put.tl | apply Put.app))
        · exact congrArg (devL s) (if_neg hne)
        apply XK.blk (r := s)
        · (repeat (first | exact Put.hd | apply Put.tl | apply Put.app))
        · exact congrArg secL (if_neg hne)
        refine XK.cond_f rfl ?_
        refine XK.skip ?_
        refine XK.seq ?_
        refine XK.draw [0, 1, 2, 3, 4, 5, 6, 7, 8, 9, 10, 11, 13, 14] [] [12] [0, 1, 2, 3, 4, 5, 6, 7, 8, 9, 10, 11, 12, 13, 14, 15] Red7_mixed (by kernel_rfl) alc_none ?_
        refine TR.v rfl rfl .n rfl rfl rfl (OV.mv (v := .pointer _) rfl) ?_
        refine TR.v rfl rfl .n rfl rfl rfl (OV.mv (v := .pointer _) rfl) ?_
        refine TR.v rfl rfl .n rfl rfl rfl (OV.nilc rfl) ?_
        refine TR.v rfl rfl .n rfl rfl rfl (OV.fa rfl Red7_fa_155_6) ?_
        refine TR.v rfl rfl .n rfl rfl rfl (OV.ld rfl Try.isAgg43 (by repeat (first | exact List.Mem.head _ | apply List.Mem.tail | apply List.mem_append_right)) rfl) ?_
        refine TR.v rfl rfl .n rfl rfl rfl (OV.mv (v := .int _ _) rfl) ?_
        refine TR.v rfl rfl .n rfl rfl rfl (OV.mv (v := .pointer _) rfl) ?_
        refine TR.v rfl rfl .n rfl rfl rfl (OV.nilc rfl) ?_
        refine TR.v rfl rfl .n rfl rfl rfl (OV.fa rfl Red7_fa_155_4) ?_
        refine TR.v rfl rfl .n rfl rfl rfl (OV.ld rfl Try.isAgg2 (by repeat (first | exact List.Mem.head _ | apply List.Mem.tail | apply List.mem_append_right)) rfl) ?_
        refine TR.v rfl rfl .n rfl rfl rfl (OV.sub rfl rfl (wrap_in (by omega))) ?_
        refine TR.say (v := .int .i64 (k : Int)) 80 rfl (congrArg (Value.int .i64) hk) ?_
        refine TR.v rfl rfl .n rfl rfl rfl (OV.said (OV.slF (l := k) rfl Try.runUnderlying43 Try.sizeOf52 rfl (by omega) hcap) e81) ?_
        refine TR.goK rfl rfl rfl ?_
        refine XO.callG (cap := []) rfl rfl (.cons (v := .slice _ _ _) rfl .nil) Try.call82 (cloneR_ok q (if cap = k then 0 else 0 + k * 101) (G.l.length - k) (cap - k) (recsL G.l ++ sp) (recsL (G.l.drop k)) 52 hv (by rw [recsL_len (fun x hx => hG.body x (List.drop_subset _ _ hx)), List.length_drop]) (recsL_one _) (by omega)) (by repeat (first | exact Sel.nil | refine Sel.cons (by repeat (first | exact Del.hd | apply Del.tl | apply Del.app)) (by repeat (first | exact List.Mem.head _ | apply List.Mem.tail | apply List.mem_append_right)) ?_)) (by ((repeat (first | exact wrs_nil | (refine wrs_cons (by (first | exact .inr ‹_› | (left; ((repeat (first | exact List.Mem.head _ | apply List.Mem.tail)))))) ?_))))) .nil ?_
        rintro _ _ ⟨rc, sc, cc, rfl, rfl, hown⟩ hnew
        have hrc : B.heap.size ≤ rc := (hnew _ (.head _)).resolve_left (by simp)
        refine TR.backK (by repeat (first | exact List.Sublist.refl _ | apply List.Sublist.cons | apply List.sublist_append_of_sublist_right)) ?_
        refine TR.v rfl rfl .n rfl rfl rfl (OV.nilc rfl) ?_
        refine TR.v rfl rfl .n rfl rfl rfl (OV.fa rfl Red7_fa_155_6) ?_
        refine TR.go rfl rfl rfl rfl ?_
        refine XO.st rfl (v := .slice _ _ _) rfl rfl Try.sizeOf43 (by repeat (first | exact Put.hd | apply Put.tl | apply Put.app)) (by (first | (simp only [List.length_append, bys_length, b4_len, zrs_len, headB_len, putHead_len, List.length_replicate, List.length_cons, List.length_nil, List.length_set, List.length_take, List.length_drop, recL_len]; omega) | omega | exact Nat.le_of_ble_eq_true rfl | (simp; done) | (simp; omega))) (by (first | exact .inr ‹_› | (left; ((repeat (first | exact List.Mem.head _ | apply List.Mem.tail)))))) ?_
        refine TR.back ?_
        refine TR.nil ?_
        refine XK.seq ?_
        refine XK.region ?_
        refine XO.val rfl rfl (OV.mv (v := .pointer _) rfl) ?_
        refine XO.val rfl rfl (OV.mv (v := .int _ _) rfl) ?_
        refine XO.val rfl rfl (OV.nilc rfl) ?_
        refine XO.val rfl rfl (OV.fa rfl Red7_fa_155_4) ?_
        refine XO.st rfl (v := .int _ _) rfl rfl Try.sizeOf2 (by repeat (first | exact Put.hd | apply Put.tl | apply Put.app)) (by (first | (simp only [List.length_append, bys_length, b4_len, zrs_len, headB_len, putHead_len, List.length_replicate, List.length_cons, List.length_nil, List.length_set, List.length_take, List.length_drop, recL_len]; omega) | omega | exact Nat.le_of_ble_eq_true rfl | (simp; done) | (simp; omega))) (by (first | exact .inr ‹_› | (left; ((repeat (first | exact List.Mem.head _ | apply List.Mem.tail)))))) ?_
        refine XO.nil ?_
        refine XK.seq ?_
        refine XK.region ?_
        refine XO.val rfl rfl (OV.asg (v := .int _ _) rfl) ?_
        refine XO.nil ?_
        refine XK.retTo (Fin.ret (.cons (.tmp (v := .int _ _) rfl) .nil) (by first | exact (.cons (x := (g, _)) (by repeat (first | exact Del.hd | apply Del.tl | apply Del.app)) (by repeat (first | exact List.Mem.head _ | apply List.Mem.tail | apply List.mem_append_right)) (.cons (x := (r, _)) (by repeat (first | exact Del.hd | apply Del.tl | apply Del.app)) (by repeat (first | exact List.Mem.head _ | apply List.Mem.tail | apply List.mem_append_right)) (.cons (x := (s, _)) (by repeat (first | exact Del.hd | apply Del.tl | apply Del.app)) (by repeat (first | exact List.Mem.head _ | apply List.Mem.tail | apply List.mem_append_right)) (.cons (x := (rc, _)) (by repeat (first | exact Del.hd | apply Del.tl | apply Del.app)) (by repeat (first | exact List.Mem.head _ | apply List.Mem.tail | apply List.mem_append_right)) .nil)))) | exact (.cons (x := (g, _)) (by repeat (first | exact Del.hd | apply Del.tl | apply Del.app)) (by repeat (first | exact List.Mem.head _ | apply List.Mem.tail | apply List.mem_append_right)) (.cons (x := (r, _)) (by repeat (first | exact Del.hd | apply Del.tl | apply Del.app)) (by repeat (first | exact List.Mem.head _ | apply List.Mem.tail | apply List.mem_append_right)) (.cons (x := (s, _)) (by repeat (first | exact Del.hd | apply Del.tl | apply Del.app)) (by repeat (first | exact List.Mem.head _ | apply List.Mem.tail | apply List.mem_append_right)) (.cons (x := (q, _)) (by repeat (first | exact Del.hd | apply Del.tl | apply Del.app)) (by repeat (first | exact List.Mem.head _ | apply List.Mem.tail | apply List.mem_append_right)) .nil))))) (by intro x hx; simp only [List.mem_cons, List.not_mem_nil, or_false] at hx; rcases hx with rfl | rfl | rfl | rfl <;> first | exact .inr hrc | (left; ((repeat (first | exact List.Mem.head _ | apply List.Mem.tail))); done)) ?_)
        first | (have hc : G.cut D st = _ := if_pos (fun h => absurd h (by omega)); rw [hc]; exact ⟨⟨some q, cap, sp⟩, rfl, rfl, hO⟩) | (have hc : G.cut D st = _ := (if_neg (fun h => h ⟨by omega, by omega⟩)).trans (if_pos hlt); rw [hc]; refine ⟨⟨some q, cap, sp⟩, rfl, ?_, hO⟩; simp only [if_pos hlt]; rfl) | (have hc : G.cut D st = _ := (if_neg (fun h => h ⟨by omega, by omega⟩)).trans (if_neg hne); rw [hc]; refine ⟨⟨some rc, cc, sc⟩, rfl, ?_, (by rw [← List.length_drop] at hown; rw [show (st - G.start).toNat = k from by omega]; exact hown)⟩; rw [show (st - G.start).toNat = k from by omega]; simp only [slB, lgL, slV, List.length_drop]; rfl)


theorem lgCut_ok (g r s : Nat) (sl : Sl) (G : Lg) (hG : G.wf) (hO : Mw.Own sl G.l.length (recsL G.l) 101) (D : Dev) (hD : D.wf) (hz : G.j.secs ≤ D.S.length) (hn : G.j.nodes ≤ D.nodes) (hE : G.epoch ≤ D.E G.node.toNat) (st : Int) (hs0 : -9223372036854775808 ≤ st) (hs1 : st ≤ 9223372036854775807) :
    Ct Try.prog 19 [.pointer (some ⟨g, 0, none⟩), .int .i64 st] ([(g, cel (lgL r sl G) 155), (r, cel (devL s D) 86), (s, cel (secL D) 157)] ++ slB sl (recsL G.l) 52) ([g, r, s] ++ slK sl)
      (fun v L => ∃ sl, v = .int .i64 (G.cut D st).2.2 ∧ L = [(g, cel (lgL r sl (G.cut D st).1) 155), (r, cel (devL s (G.cut D st).2.1) 86), (s, cel (secL (G.cut D st).2.1) 157)] ++ slB sl (recsL (G.cut D st).1.l) 52 ∧ Mw.Own sl (G.cut D st).1.l.length (recsL (G.cut D st).1.l) 101) := by
  obtain ⟨ro, cap, sp⟩ := sl
  cases ro with
  | none => exact lgCut_nil g r s cap sp G hG hO D hD hz hn hE st hs0 hs1
  | some q => exact lgCut_some g r s q cap sp G hG hO D hD hz hn hE st hs0 hs1

end Go.Proofs.Ythophgadmkjamaa
