/- Contracts of functions, printed by a program of this claim (wip/tools/gen.py). -/
import Derived.Test.YthophgadmkjamaaFRedo1
import Derived.Test.YthophgadmkjamaaFRed5
import Derived.KernelRfl
set_option maxRecDepth 20000
set_option linter.unusedVariables false
set_option linter.unusedSimpArgs false
namespace Go.Proofs.Ythophgadmkjamaa
open Go Go.Mw Go.Proofs

theorem Red6_mixed : Try.prog.follows .mixedOrders = true := by kernel_rfl
theorem Red6_fa_155_6 : FA Try.prog 155 6 10 := FA.of (n := 0) Try.runUnderlying155 rfl rfl Try.sizeOf43
theorem Red6_fa_155_5 : FA Try.prog 155 5 9 := FA.of (n := 0) Try.runUnderlying155 rfl rfl Try.sizeOf2
theorem Red6_fa_155_4 : FA Try.prog 155 4 8 := FA.of (n := 0) Try.runUnderlying155 rfl rfl Try.sizeOf2
theorem Red6_zv_52 : ∀ w, (zeroValue 52).run Try.prog w = .ok (.agg (List.toArray ([.int .i64 0, .int .i64 0, .int .i64 0, .int .i64 0, .int .i64 0] ++ List.replicate 96 (.int .u8 0)))) w := fun w => by kernel_rfl
theorem Red6_zv_158 : ∀ w, (zeroValue 158).run Try.prog w = .ok (.agg (List.toArray (bys (zrs 128)))) w := fun w => by kernel_rfl
theorem Red6_fa_155_1 : FA Try.prog 155 1 1 := FA.of (n := 4) Try.runUnderlying155 rfl rfl Try.sizeOf23
theorem Red6_fa_155_2 : FA Try.prog 155 2 6 := FA.of (n := 0) Try.runUnderlying155 rfl rfl Try.sizeOf3
theorem Red6_fa_52_2 : FA Try.prog 52 2 2 := FA.of (n := 0) Try.runUnderlying52 rfl rfl Try.sizeOf2
theorem Red6_fa_155_0 : FA Try.prog 155 0 0 := FA.of (n := 0) Try.runUnderlying155 rfl rfl Try.sizeOf27
theorem Red6_fa_155_3 : FA Try.prog 155 3 7 := FA.of (n := 0) Try.runUnderlying155 rfl rfl Try.sizeOf2

set_option maxHeartbeats 1000000 in
theorem lgFlush_nil (g r s cap : Nat) (sp : List Value) (G : Lg) (hG : G.good) (hO : Mw.Own ⟨none, cap, sp⟩ G.l.length (recsL G.l) 101) (D : Dev) (hD : D.wf) (hz : G.j.secs ≤ D.S.length) (hn : G.j.nodes ≤ D.nodes) (hE : G.epoch ≤ D.E G.node.toNat) :
    Ct Try.prog 18 [.pointer (some ⟨g, 0, none⟩)] [(g, cel (lgL r ⟨none, cap, sp⟩ G) 155), (r, cel (devL s D) 86), (s, cel (secL D) 157)] [g, r, s] (fun v L => v = .int .i64 (G.flush D).2.2 ∧ L = [(g, cel (lgL r ⟨none, cap, sp⟩ (G.flush D).1) 155), (r, cel (devL s (G.flush D).2.1) 86), (s, cel (secL (G.flush D).2.1) 157)]) := by
  have hlen := hG.wf.len
  have hbd := recsL_len hG.wf.body
  have hfl0 := hG.wf.fl0
  have hfl1 := hG.wf.fl1
  have hst := hG.wf.st0
  have hst1 := hG.wf.st1
  have hnd := hG.wf.node1
  obtain ⟨k, hk⟩ : ∃ k : Nat, G.flushed - G.start + 1 = (k : Int) := ⟨(G.flushed - G.start + 1).toNat, by omega⟩
  have hcap : G.l.length ≤ cap := by have := hO.2.1; omega
  have hl0 : G.l.length = 0 := hO.2.1
  refine Ct.of (N := 73) (rs := [.tmp 2]) Try.func18 rfl rfl rfl (Nat.le_of_ble_eq_true rfl) (fun B => ?_)
  refine XK.seq ?_
  refine XK.region ?_
  refine XO.val rfl rfl (OV.asg (v := .int _ _) rfl) ?_
  refine XO.nil ?_
  refine XK.seq ?_
  refine XK.seq ?_
  refine XK.region ?_
  refine XO.val rfl rfl (OV.mv (v := .pointer _) rfl) ?_
  refine XO.callV (cap := []) rfl rfl (.cons (v := .pointer _) rfl .nil) Try.call76 (lgThere_ok g r ⟨none, cap, sp⟩ G) (by repeat (first | exact Sel.nil | refine Sel.cons (by repeat (first | exact Del.hd | apply Del.tl | apply Del.app)) (by repeat (first | exact List.Mem.head _ | apply List.Mem.tail | apply List.mem_append_right)) ?_)) ?_
  refine XO.val rfl rfl (OV.notB rfl) ?_
  refine XO.nil ?_
  refine XK.cond_f rfl ?_
  refine XK.skip ?_
  refine XK.seq ?_
  refine XK.seq ?_
  refine XK.draw [0, 1, 2, 3, 4, 5, 6, 7, 8, 9, 10, 11, 12, 13, 14, 15, 16] [] [] [0, 1, 2, 3, 4, 5, 6, 7, 8, 9, 10, 11, 12, 13, 14, 15, 16] Red6_mixed (by kernel_rfl) alc_none ?_
  refine TR.v rfl rfl .n rfl rfl rfl (OV.mv (v := .pointer _) rfl) ?_
  refine TR.v rfl rfl .n rfl rfl rfl (OV.nilc rfl) ?_
  refine TR.v rfl rfl .n rfl rfl rfl (OV.fa rfl Red6_fa_155_6) ?_
  refine TR.v rfl rfl .n rfl rfl rfl (OV.ld rfl Try.isAgg43 (by repeat (first | exact List.Mem.head _ | apply List.Mem.tail | apply List.mem_append_right)) rfl) ?_
  refine TR.v rfl rfl .n rfl rfl rfl (OV.mv (v := .pointer _) rfl) ?_
  refine TR.v rfl rfl .n rfl rfl rfl (OV.nilc rfl) ?_
  refine TR.v rfl rfl .n rfl rfl rfl (OV.fa rfl Red6_fa_155_5) ?_
  refine TR.v rfl rfl .n rfl rfl rfl (OV.ld rfl Try.isAgg2 (by repeat (first | exact List.Mem.head _ | apply List.Mem.tail | apply List.mem_append_right)) rfl) ?_
  refine TR.v rfl rfl .n rfl rfl rfl (OV.mv (v := .pointer _) rfl) ?_
  refine TR.v rfl rfl .n rfl rfl rfl (OV.nilc rfl) ?_
  refine TR.v rfl rfl .n rfl rfl rfl (OV.fa rfl Red6_fa_155_4) ?_
  refine TR.v rfl rfl .n rfl rfl rfl (OV.ld rfl Try.isAgg2 (by repeat (first | exact List.Mem.head _ | apply List.Mem.tail | apply List.mem_append_right)) rfl) ?_
  refine TR.v rfl rfl .n rfl rfl rfl (OV.sub rfl rfl (wrap_in (by omega))) ?_
  refine TR.v rfl rfl .n rfl rfl rfl (OV.add rfl rfl (wrap_in (by omega))) ?_
  refine TR.say (v := .int .i64 (k : Int)) 25 rfl (congrArg (Value.int .i64) hk) ?_
  refine TR.v rfl rfl .n rfl rfl rfl (OV.slF (l := k) rfl Try.runUnderlying43 Try.sizeOf52 rfl (by omega) hcap) ?_
  refine TR.v rfl rfl .n rfl rfl rfl (OV.lenS rfl Try.runUnderlying43) ?_
  refine TR.v rfl rfl .n rfl rfl rfl (OV.mv (v := .int _ _) rfl) ?_
  refine TR.nil ?_
  refine XK.block ?_
  refine XK.loopL (X := Nat × Dev × Int) (lc := [(0, .pointer _), (26, .slice _ _ _), (27, .int _ _)]) (lv := fun (x : Nat × Dev × Int) => [(2, .int .i64 0), (28, .int .i64 (x.1 : Int))]) (Lf := fun (x : Nat × Dev × Int) => [(g, cel (lgL r ⟨none, cap, sp⟩ { G with flushed := x.2.2 }) 155), (r, cel (devL s x.2.1) 86), (s, cel (secL x.2.1) 157)]) (I := fun (x : Nat × Dev × Int) => x.1 ≤ G.l.length - k ∧ x.2.1 = flushD G.j G.node D ((G.l.drop k).take x.1) ∧ x.2.1.wf ∧ x.2.1.S.length = D.S.length ∧ x.2.1.E = D.E ∧ x.2.1.nodes = D.nodes ∧ x.2.2 = G.flushed + (x.1 : Int) ∧ (x.1 = 0 ∨ ¬ G.epoch < D.E G.node.toNat)) (μ := fun (x : Nat × Dev × Int) => G.l.length - k - x.1) (0, D, G.flushed) ⟨rfl, rfl, rfl, trivial⟩ ⟨rfl, rfl, trivial⟩ (.cons (by repeat (first | exact Del.hd | apply Del.tl | apply Del.app)) (by repeat (first | exact List.Mem.head _ | apply List.Mem.tail | apply List.mem_append_right)) (.cons (by repeat (first | exact Del.hd | apply Del.tl | apply Del.app)) (by repeat (first | exact List.Mem.head _ | apply List.Mem.tail | apply List.mem_append_right)) (.cons (by repeat (first | exact Del.hd | apply Del.tl | apply Del.app)) (by repeat (first | exact List.Mem.head _ | apply List.Mem.tail | apply List.mem_append_right)) .nil))) ⟨by omega, rfl, hD, rfl, rfl, rfl, (Int.add_zero _).symm, .inl rfl⟩ ?_
  intro x σ hI
  refine XK.seq ?_
  refine XK.region ?_
  refine XO.val rfl rfl (OV.lss rfl rfl) ?_
  refine XO.nil ?_
  refine XK.seq ?_
  refine XK.split (t := 29) rfl (fun hh1 => ?_) (fun hh1 => ?_)
  · replace hh1 := of_decide_eq_true hh1
    exfalso; omega
  · replace hh1 := of_decide_eq_false hh1
    refine XK.cond_f rfl ?_
    refine XK.exitTo rfl ?_
    refine XK.seq ?_
    refine XK.region ?_
    refine XO.val rfl rfl (OV.asg (v := .int _ _) rfl) ?_
    refine XO.nil ?_
    refine XK.retTo (Fin.ret (.cons (.tmp (v := .int _ _) rfl) .nil) (.cons (x := (g, _)) (by repeat (first | exact Del.hd | apply Del.tl | apply Del.app)) (by repeat (first | exact List.Mem.head _ | apply List.Mem.tail | apply List.mem_append_right)) (.cons (x := (r, _)) (by repeat (first | exact Del.hd | apply Del.tl | apply Del.app)) (by repeat (first | exact List.Mem.head _ | apply List.Mem.tail | apply List.mem_append_right)) (.cons (x := (s, _)) (by repeat (first | exact Del.hd | apply Del.tl | apply Del.app)) (by repeat (first | exact List.Mem.head _ | apply List.Mem.tail | apply List.mem_append_right)) .nil))) (by simp) ?_)
    first | (have hlD : G.epoch < D.E G.node.toNat := (by rw [← hI.2.2.2.2.1]; exact hlt); have hf := flush_f8 hk (by omega) hlD; have h0 : x.1 = 0 := hI.2.2.2.2.2.2.2.resolve_right (fun hn => hn hlD); have hx1 : x.2.1 = D := (by have e := hI.2.1; rw [h0, List.take_zero] at e; exact e); have hx2 : x.2.2 = G.flushed := (by have e := hI.2.2.2.2.2.2.1; omega); rw [hf]; exact ⟨rfl, by simp only [if_pos hlt, if_pos hlD, hx1, hx2]⟩) | (rw [flush_fin hk (by omega) (by omega) hI.1 hI.2.1 hI.2.2.2.2.2.2.1 hI.2.2.2.2.2.2.2]; exact ⟨rfl, rfl⟩)

set_option maxHeartbeats 1000000 in
theorem lgFlush_some (g r s q cap : Nat) (sp : List Value) (G : Lg) (hG : G.good) (hO : Mw.Own ⟨some q, cap, sp⟩ G.l.length (recsL G.l) 101) (D : Dev) (hD : D.wf) (hz : G.j.secs ≤ D.S.length) (hn : G.j.nodes ≤ D.nodes) (hE : G.epoch ≤ D.E G.node.toNat) :
    Ct Try.prog 18 [.pointer (some ⟨g, 0, none⟩)] [(g, cel (lgL r ⟨some q, cap, sp⟩ G) 155), (r, cel (devL s D) 86), (s, cel (secL D) 157), (q, cel (recsL G.l ++ sp) 52)] [g, r, s] (fun v L => v = .int .i64 (G.flush D).2.2 ∧ L = [(g, cel (lgL r ⟨some q, cap, sp⟩ (G.flush D).1) 155), (r, cel (devL s (G.flush D).2.1) 86), (s, cel (secL (G.flush D).2.1) 157)]) := by
  have hlen := hG.wf.len
  have hbd := recsL_len hG.wf.body
  have hfl0 := hG.wf.fl0
  have hfl1 := hG.wf.fl1
  have hst := hG.wf.st0
  have hst1 := hG.wf.st1
  have hnd := hG.wf.node1
  obtain ⟨k, hk⟩ : ∃ k : Nat, G.flushed - G.start + 1 = (k : Int) := ⟨(G.flushed - G.start + 1).toNat, by omega⟩
  have hcap : G.l.length ≤ cap := hO.2.1
  refine Ct.of (N := 73) (rs := [.tmp 2]) Try.func18 rfl rfl rfl (Nat.le_of_ble_eq_true rfl) (fun B => ?_)
  refine XK.seq ?_
  refine XK.region ?_
  refine XO.val rfl rfl (OV.asg (v := .int _ _) rfl) ?_
  refine XO.nil ?_
  refine XK.seq ?_
  refine XK.seq ?_
  refine XK.region ?_
  refine XO.val rfl rfl (OV.mv (v := .pointer _) rfl) ?_
  refine XO.callV (cap := []) rfl rfl (.cons (v := .pointer _) rfl .nil) Try.call76 (lgThere_ok g r ⟨some q, cap, sp⟩ G) (by repeat (first | exact Sel.nil | refine Sel.cons (by repeat (first | exact Del.hd | apply Del.tl | apply Del.app)) (by repeat (first | exact List.Mem.head _ | apply List.Mem.tail | apply List.mem_append_right)) ?_)) ?_
  refine XO.val rfl rfl (OV.notB rfl) ?_
  refine XO.nil ?_
  refine XK.cond_f rfl ?_
  refine XK.skip ?_
  refine XK.seq ?_
  refine XK.seq ?_
  refine XK.draw [0, 1, 2, 3, 4, 5, 6, 7, 8, 9, 10, 11, 12, 13, 14, 15, 16] [] [] [0, 1, 2, 3, 4, 5, 6, 7, 8, 9, 10, 11, 12, 13, 14, 15, 16] Red6_mixed (by kernel_rfl) alc_none ?_
  refine TR.v rfl rfl .n rfl rfl rfl (OV.mv (v := .pointer _) rfl) ?_
  refine TR.v rfl rfl .n rfl rfl rfl (OV.nilc rfl) ?_
  refine TR.v rfl rfl .n rfl rfl rfl (OV.fa rfl Red6_fa_155_6) ?_
  refine TR.v rfl rfl .n rfl rfl rfl (OV.ld rfl Try.isAgg43 (by repeat (first | exact List.Mem.head _ | apply List.Mem.tail | apply List.mem_append_right)) rfl) ?_
  refine TR.v rfl rfl .n rfl rfl rfl (OV.mv (v := .pointer _) rfl) ?_
  refine TR.v rfl rfl .n rfl rfl rfl (OV.nilc rfl) ?_
  refine TR.v rfl rfl .n rfl rfl rfl (OV.fa rfl Red6_fa_155_5) ?_
  refine TR.v rfl rfl .n rfl rfl rfl (OV.ld rfl Try.isAgg2 (by repeat (first | exact List.Mem.head _ | apply List.Mem.tail | apply List.mem_append_right)) rfl) ?_
  refine TR.v rfl rfl .n rfl rfl rfl (OV.mv (v := .pointer _) rfl) ?_
  refine TR.v rfl rfl .n rfl rfl rfl (OV.nilc rfl) ?_
  refine TR.v rfl rfl .n rfl rfl rfl (OV.fa rfl Red6_fa_155_4) ?_
  refine TR.v rfl rfl .n rfl rfl rfl (OV.ld rfl Try.isAgg2 (by repeat (first | exact List.Mem.head _ | apply List.Mem.tail | apply List.mem_append_right)) rfl) ?_
  refine TR.v rfl rfl .n rfl rfl rfl (OV.sub rfl rfl (wrap_in (by omega))) ?_
  refine TR.v rfl rfl .n rfl rfl rfl (OV.add rfl rfl (wrap_in (by omega))) ?_
  refine TR.say (v := .int .i64 (k : Int)) 25 rfl (congrArg (Value.int .i64) hk) ?_
  refine TR.v rfl rfl .n rfl rfl rfl (OV.slF (l := k) rfl Try.runUnderlying43 Try.sizeOf52 rfl (by omega) hcap) ?_
  refine TR.v rfl rfl .n rfl rfl rfl (OV.lenS rfl Try.runUnderlying43) ?_
  refine TR.v rfl rfl .n rfl rfl rfl (OV.mv (v := .int _ _) rfl) ?_
  refine TR.nil ?_
  refine XK.block ?_
  refine XK.loopL (X := Nat × Dev × Int) (lc := [(0, .pointer _), (26, .slice _ _ _), (27, .int _ _)]) (lv := fun (x : Nat × Dev × Int) => [(2, .int .i64 0), (28, .int .i64 (x.1 : Int))]) (Lf := fun (x : Nat × Dev × Int) => [(g, cel (lgL r ⟨some q, cap, sp⟩ { G with flushed := x.2.2 }) 155), (r, cel (devL s x.2.1) 86), (s, cel (secL x.2.1) 157), (q, cel (recsL G.l ++ sp) 52)]) (I := fun (x : Nat × Dev × Int) => x.1 ≤ G.l.length - k ∧ x.2.1 = flushD G.j G.node D ((G.l.drop k).take x.1) ∧ x.2.1.wf ∧ x.2.1.S.length = D.S.length ∧ x.2.1.E = D.E ∧ x.2.1.nodes = D.nodes ∧ x.2.2 = G.flushed + (x.1 : Int) ∧ (x.1 = 0 ∨ ¬ G.epoch < D.E G.node.toNat)) (μ := fun (x : Nat × Dev × Int) => G.l.length - k - x.1) (0, D, G.flushed) ⟨rfl, rfl, rfl, trivial⟩ ⟨rfl, rfl, trivial⟩ (.cons (by repeat (first | exact Del.hd | apply Del.tl | apply Del.app)) (by repeat (first | exact List.Mem.head _ | apply List.Mem.tail | apply List.mem_append_right)) (.cons (by repeat (first | exact Del.hd | apply Del.tl | apply Del.app)) (by repeat (first | exact List.Mem.head _ | apply List.Mem.tail | apply List.mem_append_right)) (.cons (by repeat (first | exact Del.hd | apply Del.tl | apply Del.app)) (by repeat (first | exact List.Mem.head _ | apply List.Mem.tail | apply List.mem_append_right)) (.cons (by repeat (first | exact Del.hd | apply Del.tl | apply Del.app)) (by repeat (first | exact List.Mem.head _ | apply List.Mem.tail | apply List.mem_append_right)) .nil)))) ⟨by omega, rfl, hD, rfl, rfl, rfl, (Int.add_zero _).symm, .inl rfl⟩ ?_
  intro x σ hI
  refine XK.seq ?_
  refine XK.region ?_
  refine XO.val rfl rfl (OV.lss rfl rfl) ?_
  refine XO.nil ?_
  refine XK.seq ?_
  refine XK.split (t := 29) rfl (fun hh1 => ?_) (fun hh1 => ?_)
  · replace hh1 := of_decide_eq_true hh1
    have hki : k + x.1 < G.l.length := by omega
    have hmay := hG.may (k + x.1) hki
    have hmm := of_decide_eq_true hmay.1
    have hb : (G.l.getD (k + x.1) zRcd).body.length = 96 := hG.wf.body _ (by rw [List.getD_eq_getElem?_getD, List.getElem?_eq_getElem hki]; exact List.getElem_mem hki)
    have hpl := putRec_len hb
    have hsl := slot_bd (k := (G.l.getD (k + x.1) zRcd).lsn) hG.wf.may hG.wf.node0 hG.wf.node1
    have hws : ∀ y ∈ [half (G.l.getD (k + x.1) zRcd) 177 0, half (G.l.getD (k + x.1) zRcd) 178 48], y.length = 64 ∧ By y := half2 hb hmay.2.2
    have hk4 := wrs_keep _ x.2.1 (G.j.slot G.node (G.l.getD (k + x.1) zRcd).lsn) hI.2.2.1 hws
    have e26 : Value.slice (if cap = k then some ⟨q, 0, none⟩ else (some ⟨q, 0, none⟩ : Option Addr).map (·.add (k * 101))) (G.l.length - k) (cap - k) = .slice (some ⟨q, 0 + k * 101, none⟩) (G.l.length - k) (cap - k) := by
      rw [if_neg (by omega), Option.map_some, addr_add]
    refine XK.say (v := .slice (some ⟨q, 0 + k * 101, none⟩) (G.l.length - k) (cap - k)) 26 rfl e26 ?_
    refine XK.cond_t rfl ?_
    refine XK.skip ?_
    refine XK.seq ?_
    refine XK.block ?_
    refine XK.seq ?_
    refine XK.region ?_
    refine XO.val rfl rfl (OV.ixS rfl rfl Try.runUnderlying43 Try.sizeOf52 (by omega) (by omega)) ?_
    refine XO.val rfl rfl (OV.ldA rfl Try.isAgg52 Try.sizeOf52 (by repeat (first | exact List.Mem.head _ | apply List.Mem.tail | apply List.mem_append_right)) (show ((recsL G.l ++ sp).drop (0 + k * 101 + Int.toNat (x.1 : Int) * 101)).take 101 = recL (G.l.getD (k + x.1) zRcd) from by rw [show 0 + k * 101 + Int.toNat (x.1 : Int) * 101 = (k + x.1) * 101 from by omega]; exact recsL_take hG.wf.body hki sp) (by rw [recL_len, hb])) ?_
    refine XO.alloc rfl Red6_zv_52 rfl (fun r4 hr4 => ?_)
    refine XO.stA rfl rfl (by (repeat (first | with_reducible (apply one_app) | with_reducible exact bys_one | with_reducible exact recL_one _ | with_reducible exact one_rep rfl | exact ones_of rfl | exact bys_one))) Try.sizeOf52 (by (first | assumption | (simp only [List.length_append, bys_length, b4_len, zrs_len, headB_len, putHead_len, List.length_replicate, List.length_cons, List.length_nil, List.length_set, List.length_take, List.length_drop, recL_len]; done) | (simp only [List.length_append, bys_length, b4_len, zrs_len, headB_len, putHead_len, List.length_replicate, List.length_cons, List.length_nil, List.length_set, List.length_take, List.length_drop, recL_len]; omega) | rfl | (simp [*, bys_length]; done) | (simp [*, bys_length]; omega))) (by repeat (first | exact Put.hd | apply Put.tl | apply Put.app)) (by first | exact splice_all (by (first | assumption | (simp only [List.length_append, bys_length, b4_len, zrs_len, headB_len, putHead_len, List.length_replicate, List.length_cons, List.length_nil, List.length_set, List.length_take, List.length_drop, recL_len]; done) | (simp only [List.length_append, bys_length, b4_len, zrs_len, headB_len, putHead_len, List.length_replicate, List.length_cons, List.length_nil, List.length_set, List.length_take, List.length_drop, recL_len]; omega) | rfl | (simp [*, bys_length]; done) | (simp [*, bys_length]; omega))) | rfl) (by (first | (simp only [List.length_append, bys_length, b4_len, zrs_len, headB_len, putHead_len, List.length_replicate, List.length_cons, List.length_nil, List.length_set, List.length_take, List.length_drop, recL_len]; omega) | omega | exact Nat.le_of_ble_eq_true rfl | (simp; done) | (simp; omega))) (by (first | exact .inr ‹_› | (left; ((repeat (first | exact List.Mem.head _ | apply List.Mem.tail)))))) ?_
    refine XO.nil ?_
    refine XK.seq ?_
    refine XK.region ?_
    refine XO.val rfl rfl (OV.ldA rfl Try.isAgg52 Try.sizeOf52 (by repeat (first | exact List.Mem.head _ | apply List.Mem.tail | apply List.mem_append_right)) (grab_all (by (first | assumption | (simp only [List.length_append, bys_length, b4_len, zrs_len, headB_len, putHead_len, List.length_replicate, List.length_cons, List.length_nil, List.length_set, List.length_take, List.length_drop, recL_len]; done) | (simp only [List.length_append, bys_length, b4_len, zrs_len, headB_len, putHead_len, List.length_replicate, List.length_cons, List.length_nil, List.length_set, List.length_take, List.length_drop, recL_len]; omega) | rfl | (simp [*, bys_length]; done) | (simp [*, bys_length]; omega)))) (by (first | assumption | (simp only [List.length_append, bys_length, b4_len, zrs_len, headB_len, putHead_len, List.length_replicate, List.length_cons, List.length_nil, List.length_set, List.length_take, List.length_drop, recL_len]; done) | (simp only [List.length_append, bys_length, b4_len, zrs_len, headB_len, putHead_len, List.length_replicate, List.length_cons, List.length_nil, List.length_set, List.length_take, List.length_drop, recL_len]; omega) | rfl | (simp [*, bys_length]; done) | (simp [*, bys_length]; omega)))) ?_
    refine XO.callV (cap := []) rfl rfl (.cons (v := .agg _) rfl .nil) Try.call77 (recPut_ok (G.l.getD (k + x.1) zRcd) hb) (by repeat (first | exact Sel.nil | refine Sel.cons (by repeat (first | exact Del.hd | apply Del.tl | apply Del.app)) (by repeat (first | exact List.Mem.head _ | apply List.Mem.tail | apply List.mem_append_right)) ?_)) ?_
    refine XO.val rfl rfl (OV.mv (v := .tuple _) rfl) ?_
    refine XO.val rfl rfl (OV.ext rfl rfl) ?_
    refine XO.val rfl rfl (OV.ext rfl rfl) ?_
    refine XO.alloc rfl Red6_zv_158 rfl (fun r5 hr5 => ?_)
    refine XO.stA rfl rfl (by (repeat (first | with_reducible (apply one_app) | with_reducible exact bys_one | with_reducible exact recL_one _ | with_reducible exact one_rep rfl | exact ones_of rfl | exact bys_one))) Try.sizeOf158 (by (first | assumption | (simp only [List.length_append, bys_length, b4_len, zrs_len, headB_len, putHead_len, List.length_replicate, List.length_cons, List.length_nil, List.length_set, List.length_take, List.length_drop, recL_len]; done) | (simp only [List.length_append, bys_length, b4_len, zrs_len, headB_len, putHead_len, List.length_replicate, List.length_cons, List.length_nil, List.length_set, List.length_take, List.length_drop, recL_len]; omega) | rfl | (simp [*, bys_length]; done) | (simp [*, bys_length]; omega))) (by repeat (first | exact Put.hd | apply Put.tl | apply Put.app)) (by first | exact splice_all (by (first | assumption | (simp only [List.length_append, bys_length, b4_len, zrs_len, headB_len, putHead_len, List.length_replicate, List.length_cons, List.length_nil, List.length_set, List.length_take, List.length_drop, recL_len]; done) | (simp only [List.length_append, bys_length, b4_len, zrs_len, headB_len, putHead_len, List.length_replicate, List.length_cons, List.length_nil, List.length_set, List.length_take, List.length_drop, recL_len]; omega) | rfl | (simp [*, bys_length]; done) | (simp [*, bys_length]; omega))) | rfl) (by (first | (simp only [List.length_append, bys_length, b4_len, zrs_len, headB_len, putHead_len, List.length_replicate, List.length_cons, List.length_nil, List.length_set, List.length_take, List.length_drop, recL_len]; omega) | omega | exact Nat.le_of_ble_eq_true rfl | (simp; done) | (simp; omega))) (by (first | exact .inr ‹_› | (left; ((repeat (first | exact List.Mem.head _ | apply List.Mem.tail)))))) ?_
    apply XO.blk (r := r5)
    · (repeat (first | exact Put.hd | apply Put.tl | apply Put.app))
    · exact (congrArg bys (putRec_flat hmay.1))
    refine XO.val rfl rfl (OV.asg (v := .int _ _) rfl) ?_
    refine XO.nil ?_
    refine XK.seq ?_
    refine XK.draw [0, 1, 2, 3, 4, 5, 6, 7, 8, 9, 10, 11, 12, 13, 14, 15] [] [] [0, 1, 2, 3, 4, 5, 6, 7, 8, 9, 10, 11, 12, 13, 14, 15] Red6_mixed (by kernel_rfl) alc_none ?_
    refine TR.v rfl rfl .n rfl rfl rfl (OV.mv (v := .pointer _) rfl) ?_
    refine TR.v rfl rfl .n rfl rfl rfl (OV.nilc rfl) ?_
    refine TR.v rfl rfl .n rfl rfl rfl (OV.fa rfl Red6_fa_155_1) ?_
    refine TR.v rfl rfl .n rfl rfl rfl (OV.ldA rfl Try.isAgg23 Try.sizeOf23 (by repeat (first | exact List.Mem.head _ | apply List.Mem.tail | apply List.mem_append_right)) lgL_job rfl) ?_
    refine TR.v rfl rfl .n rfl rfl rfl (OV.mv (v := .pointer _) rfl) ?_
    refine TR.v rfl rfl .n rfl rfl rfl (OV.nilc rfl) ?_
    refine TR.v rfl rfl .n rfl rfl rfl (OV.fa rfl Red6_fa_155_2) ?_
    refine TR.v rfl rfl .n rfl rfl rfl (OV.ld rfl Try.isAgg3 (by repeat (first | exact List.Mem.head _ | apply List.Mem.tail | apply List.mem_append_right)) rfl) ?_
    refine TR.v rfl rfl .n rfl rfl rfl (OV.fa rfl Red6_fa_52_2) ?_
    refine TR.v rfl rfl .n rfl rfl rfl (OV.ld rfl Try.isAgg2 (by repeat (first | exact List.Mem.head _ | apply List.Mem.tail | apply List.mem_append_right)) rfl) ?_
    refine TR.cv (cap := []) rfl rfl .n rfl rfl rfl (.cons (v := .agg _) rfl (.cons (v := .int _ _) rfl (.cons (v := .int _ _) rfl .nil))) Try.call78 (areaRecord_ok G.j hG.wf.may G.node hG.wf.node0 hG.wf.node1 (G.l.getD (k + x.1) zRcd).lsn (by omega) (by omega)) (by repeat (first | exact Sel.nil | refine Sel.cons (by repeat (first | exact Del.hd | apply Del.tl | apply Del.app)) (by repeat (first | exact List.Mem.head _ | apply List.Mem.tail | apply List.mem_append_right)) ?_)) ?_
    refine TR.v rfl rfl .n rfl rfl rfl (OV.mv (v := .tuple _) rfl) ?_
    refine TR.v rfl rfl .n rfl rfl rfl (OV.ext rfl rfl) ?_
    refine TR.v rfl rfl .n rfl rfl rfl (OV.ext rfl rfl) ?_
    refine TR.v rfl rfl .n rfl rfl rfl (OV.asg (v := .int _ _) rfl) ?_
    refine TR.v rfl rfl .n rfl rfl rfl (OV.asg (v := .int _ _) rfl) ?_
    refine TR.nil ?_
    refine XK.seq ?_
    refine XK.seq ?_
    refine XK.draw [0, 1, 2, 3, 4, 5, 6, 7, 8, 9, 10, 11, 12, 13, 15] [] [] [0, 1, 2, 3, 4, 5, 6, 7, 8, 9, 10, 11, 12, 13, 14, 15] Red6_mixed (by kernel_rfl) alc_none ?_
    refine TR.v rfl rfl .n rfl rfl rfl (OV.mv (v := .pointer _) rfl) ?_
    refine TR.v rfl rfl .n rfl rfl rfl (OV.nilc rfl) ?_
    refine TR.v rfl rfl .n rfl rfl rfl (OV.fa rfl Red6_fa_155_0) ?_
    refine TR.v rfl rfl .n rfl rfl rfl (OV.ld rfl Try.isAgg27 (by repeat (first | exact List.Mem.head _ | apply List.Mem.tail | apply List.mem_append_right)) rfl) ?_
    refine TR.v rfl rfl .n rfl rfl rfl (OV.mv (v := .pointer _) rfl) ?_
    refine TR.v rfl rfl .n rfl rfl rfl (OV.nilc rfl) ?_
    refine TR.v rfl rfl .n rfl rfl rfl (OV.fa rfl Red6_fa_155_2) ?_
    refine TR.v rfl rfl .n rfl rfl rfl (OV.ld rfl Try.isAgg3 (by repeat (first | exact List.Mem.head _ | apply List.Mem.tail | apply List.mem_append_right)) rfl) ?_
    refine TR.v rfl rfl .n rfl rfl rfl (OV.mv (v := .pointer _) rfl) ?_
    refine TR.v rfl rfl .n rfl rfl rfl (OV.nilc rfl) ?_
    refine TR.v rfl rfl .n rfl rfl rfl (OV.fa rfl Red6_fa_155_3) ?_
    refine TR.v rfl rfl .n rfl rfl rfl (OV.ld rfl Try.isAgg2 (by repeat (first | exact List.Mem.head _ | apply List.Mem.tail | apply List.mem_append_right)) rfl) ?_
    refine TR.v rfl rfl .n rfl rfl rfl (OV.mv (v := .int _ _) rfl) ?_
    refine TR.v rfl rfl .n rfl rfl rfl (OV.slA rfl Try.runUnderlying158 Try.sizeOf157 rfl rfl (by omega) (by omega) (by omega)) ?_
    refine TR.go rfl rfl rfl rfl ?_
    refine XO.callM (cap := []) rfl rfl (.cons (v := .pointer _) rfl (.cons (v := .int _ _) rfl (.cons (v := .int _ _) rfl (.cons (v := .int _ _) rfl (.cons (v := .slice _ _ _) rfl .nil))))) Try.call79 (devWrite_ok r s r5 2 x.2.1 hI.2.2.1 G.node G.epoch (G.j.slot G.node (G.l.getD (k + x.1) zRcd).lsn) [half (G.l.getD (k + x.1) zRcd) 177 0, half (G.l.getD (k + x.1) zRcd) 178 48] hws 158 hG.wf.node0 (by rw [hI.2.2.2.2.2.1]; omega) hsl.1 (by show _ + 2 ≤ _; rw [hI.2.2.2.1]; omega) (by have := hG.wf.ep0; omega) (by rw [hI.2.2.2.2.1]; exact hE)) (by repeat (first | exact Sel.nil | refine Sel.cons (by repeat (first | exact Del.hd | apply Del.tl | apply Del.app)) (by repeat (first | exact List.Mem.head _ | apply List.Mem.tail | apply List.mem_append_right)) ?_)) (by ((repeat (first | exact wrs_nil | (refine wrs_cons (by (first | exact .inr ‹_› | (left; ((repeat (first | exact List.Mem.head _ | apply List.Mem.tail)))))) ?_))))) (by repeat (first | exact Rem.nil | (apply Rem.cons; (repeat (first | exact Del.hd | apply Del.tl | apply Del.app))))) (by repeat (first | exact App.nil | apply App.cons)) ?_
    refine TR.back ?_
    refine TR.v rfl rfl .n rfl rfl rfl (OV.neq rfl rfl) ?_
    refine TR.nil ?_
    refine XK.split (t := 66) rfl (fun hh2 => ?_) (fun hh2 => ?_)
    · replace hh2 := bnot_t hh2
      replace hh2 := of_decide_eq_false hh2
      have hlt : G.epoch < x.2.1.E G.node.toNat := by
        by_cases h : G.epoch < x.2.1.E G.node.toNat
        · exact h
        · exact absurd (if_neg h) hh2
      refine XK.cond_t rfl ?_
      refine XK.seq ?_
      refine XK.region ?_
      refine XO.val rfl rfl (OV.asg (v := .int _ _) rfl) ?_
      refine XO.nil ?_
      refine XK.retTo (Fin.ret (.cons (.tmp (v := .int _ _) rfl) .nil) (.cons (x := (g, _)) (by repeat (first | exact Del.hd | apply Del.tl | apply Del.app)) (by repeat (first | exact List.Mem.head _ | apply List.Mem.tail | apply List.mem_append_right)) (.cons (x := (r, _)) (by repeat (first | exact Del.hd | apply Del.tl | apply Del.app)) (by repeat (first | exact List.Mem.head _ | apply List.Mem.tail | apply List.mem_append_right)) (.cons (x := (s, _)) (by repeat (first | exact Del.hd | apply Del.tl | apply Del.app)) (by repeat (first | exact List.Mem.head _ | apply List.Mem.tail | apply List.mem_append_right)) .nil))) (by simp) ?_)
      first | (have hlD : G.epoch < D.E G.node.toNat := (by rw [← hI.2.2.2.2.1]; exact hlt); have hf := flush_f8 hk (by omega) hlD; have h0 : x.1 = 0 := hI.2.2.2.2.2.2.2.resolve_right (fun hn => hn hlD); have hx1 : x.2.1 = D := (by have e := hI.2.1; rw [h0, List.take_zero] at e; exact e); have hx2 : x.2.2 = G.flushed := (by have e := hI.2.2.2.2.2.2.1; omega); rw [hf]; exact ⟨rfl, by simp only [if_pos hlt, if_pos hlD, hx1, hx2]⟩) | (rw [flush_fin hk (by omega) (by omega) hI.1 hI.2.1 hI.2.2.2.2.2.2.1 hI.2.2.2.2.2.2.2]; exact ⟨rfl, rfl⟩)
    · replace hh2 := bnot_f hh2
      replace hh2 := of_decide_eq_true hh2
      have hne : ¬ (G.epoch < x.2.1.E G.node.toNat) := fun h => absurd ((if_pos h).symm.trans hh2) (by decide)
      apply XK.blk (r := r)
      · (repeat (first | exact Put.hd | apply Put.tl | apply Put.app))
      · exact congrArg (devL s) (if_neg hne)
      apply XK.blk (r := s)
      · (repeat (first | exact Put.hd | apply Put.tl | apply Put.app))
      · exact congrArg secL (if_neg hne)
      refine XK.cond_f rfl ?_
      refine XK.skip ?_
      refine XK.region ?_
      refine XO.val rfl rfl (OV.mv (v := .pointer _) rfl) ?_
      refine XO.val rfl rfl (OV.fa rfl Red6_fa_52_2) ?_
      refine XO.val rfl rfl (OV.ld rfl Try.isAgg2 (by repeat (first | exact List.Mem.head _ | apply List.Mem.tail | apply List.mem_append_right)) rfl) ?_
      refine XO.val rfl rfl (OV.nilc rfl) ?_
      refine XO.val rfl rfl (OV.fa rfl Red6_fa_155_5) ?_
      refine XO.st rfl (v := .int _ _) rfl rfl Try.sizeOf2 (by repeat (first | exact Put.hd | apply Put.tl | apply Put.app)) (by (first | (simp only [List.length_append, bys_length, b4_len, zrs_len, headB_len, putHead_len, List.length_replicate, List.length_cons, List.length_nil, List.length_set, List.length_take, List.length_drop, recL_len]; omega) | omega | exact Nat.le_of_ble_eq_true rfl | (simp; done) | (simp; omega))) (by (first | exact .inr ‹_› | (left; ((repeat (first | exact List.Mem.head _ | apply List.Mem.tail)))))) ?_
      refine XO.nil ?_
      refine XK.inblk ?_
      refine XK.region ?_
      refine XO.val rfl rfl (OV.add rfl rfl (wrap_in (by omega))) ?_
      refine XO.val rfl rfl (OV.mv (v := .int _ _) rfl) ?_
      refine XO.nil ?_
      refine XK.say 26 rfl e26.symm ?_
      refine XK.rnd ⟨(x.1 + 1, x.2.1.wrs (G.j.slot G.node (G.l.getD (k + x.1) zRcd).lsn) [half (G.l.getD (k + x.1) zRcd) 177 0, half (G.l.getD (k + x.1) zRcd) 178 48], (G.l.getD (k + x.1) zRcd).lsn), ⟨⟨rfl, rfl, rfl, trivial⟩, ⟨rfl, congrArg (Value.int .i64) (by omega), trivial⟩, rfl, (.cons (by repeat (first | exact Del.hd | apply Del.tl | apply Del.app)) (by repeat (first | exact List.Mem.head _ | apply List.Mem.tail | apply List.mem_append_right)) (.cons (by repeat (first | exact Del.hd | apply Del.tl | apply Del.app)) (by repeat (first | exact List.Mem.head _ | apply List.Mem.tail | apply List.mem_append_right)) (.cons (by repeat (first | exact Del.hd | apply Del.tl | apply Del.app)) (by repeat (first | exact List.Mem.head _ | apply List.Mem.tail | apply List.mem_append_right)) (.cons (by repeat (first | exact Del.hd | apply Del.tl | apply Del.app)) (by repeat (first | exact List.Mem.head _ | apply List.Mem.tail | apply List.mem_append_right)) .nil)))), ⟨by show x.1 + 1 ≤ _; omega, flush_next hI.2.1 hki, hk4.1, hk4.2.1.trans hI.2.2.2.1, hk4.2.2.1.trans hI.2.2.2.2.1, hk4.2.2.2.trans hI.2.2.2.2.2.1, (by show (G.l.getD (k + x.1) zRcd).lsn = G.flushed + ((x.1 + 1 : Nat) : Int); have := hmay.2.1; omega), .inr (by rw [← hI.2.2.2.2.1]; exact hne)⟩⟩, (by show G.l.length - k - (x.1 + 1) < G.l.length - k - x.1; omega)⟩
  · replace hh1 := of_decide_eq_false hh1
    refine XK.cond_f rfl ?_
    refine XK.exitTo rfl ?_
    refine XK.seq ?_
    refine XK.region ?_
    refine XO.val rfl rfl (OV.asg (v := .int _ _) rfl) ?_
    refine XO.nil ?_
    refine XK.retTo (Fin.ret (.cons (.tmp (v := .int _ _) rfl) .nil) (.cons (x := (g, _)) (by repeat (first | exact Del.hd | apply Del.tl | apply Del.app)) (by repeat (first | exact List.Mem.head _ | apply List.Mem.tail | apply List.mem_append_right)) (.cons (x := (r, _)) (by repeat (first | exact Del.hd | apply Del.tl | apply Del.app)) (by repeat (first | exact List.Mem.head _ | apply List.Mem.tail | apply List.mem_append_right)) (.cons (x := (s, _)) (by repeat (first | exact Del.hd | apply Del.tl | apply Del.app)) (by repeat (first | exact List.Mem.head _ | apply List.Mem.tail | apply List.mem_append_right)) .nil))) (by simp) ?_)
    first | (have hlD : G.epoch < D.E G.node.toNat := (by rw [← hI.2.2.2.2.1]; exact hlt); have hf := flush_f8 hk (by omega) hlD; have h0 : x.1 = 0 := hI.2.2.2.2.2.2.2.resolve_right (fun hn => hn hlD); have hx1 : x.2.1 = D := (by have e := hI.2.1; rw [h0, List.take_zero] at e; exact e); have hx2 : x.2.2 = G.flushed := (by have e := hI.2.2.2.2.2.2.1; omega); rw [hf]; exact ⟨rfl, by simp only [if_pos hlt, if_pos hlD, hx1, hx2]⟩) | (rw [flush_fin hk (by omega) (by omega) hI.1 hI.2.1 hI.2.2.2.2.2.2.1 hI.2.2.2.2.2.2.2]; exact ⟨rfl, rfl⟩)


theorem lgFlush_ok (g r s : Nat) (sl : Sl) (G : Lg) (hG : G.good) (hO : Mw.Own sl G.l.length (recsL G.l) 101) (D : Dev) (hD : D.wf) (hz : G.j.secs ≤ D.S.length) (hn : G.j.nodes ≤ D.nodes) (hE : G.epoch ≤ D.E G.node.toNat) :
    Ct Try.prog 18 [.pointer (some ⟨g, 0, none⟩)] ([(g, cel (lgL r sl G) 155), (r, cel (devL s D) 86), (s, cel (secL D) 157)] ++ slB sl (recsL G.l) 52) [g, r, s]
      (fun v L => v = .int .i64 (G.flush D).2.2 ∧ L = [(g, cel (lgL r sl (G.flush D).1) 155), (r, cel (devL s (G.flush D).2.1) 86), (s, cel (secL (G.flush D).2.1) 157)]) := by
  obtain ⟨ro, cap, sp⟩ := sl
  cases ro with
  | none => exact lgFlush_nil g r s cap sp G hG hO D hD hz hn hE
  | some q => exact lgFlush_some g r s q cap sp G hG hO D hD hz hn hE

end Go.Proofs.Ythophgadmkjamaa
