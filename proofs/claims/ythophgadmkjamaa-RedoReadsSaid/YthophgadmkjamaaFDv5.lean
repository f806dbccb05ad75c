/- Contracts of functions, printed by a program of this claim (wip/tools/gen.py). -/
import Derived.Test.YthophgadmkjamaaFDv4
import Derived.KernelRfl
set_option maxRecDepth 20000
set_option linter.unusedVariables false
set_option linter.unusedSimpArgs false
namespace Go.Proofs.Ythophgadmkjamaa
open Go Go.Mw Go.Proofs

theorem Dv5_mixed : Try.prog.follows .mixedOrders = true := by kernel_rfl
theorem Dv5_fa_86_0 : FA Try.prog 86 0 0 := FA.of (n := 0) Try.runUnderlying86 rfl rfl Try.sizeOf83
theorem Dv5_zv_3 : ∀ w, (zeroValue 3).run Try.prog w = .ok (.int .i64 0) w := fun w => by kernel_rfl
theorem Dv5_zv_157 : ∀ w, (zeroValue 157).run Try.prog w = .ok (.agg (List.toArray (bys (zrs 64)))) w := fun w => by kernel_rfl

theorem devWrite_ok (r s q cap : Nat) (D : Dev) (hD : D.wf) (n e f : Int) (l : List (List Int)) (hl : ∀ y ∈ l, y.length = 64 ∧ By y) (E : Nat) (h0 : 0 ≤ n) (h1 : n < D.nodes) (hf0 : 0 ≤ f) (hf1 : f + l.length ≤ D.S.length) (he0 : 0 ≤ e) (he1 : e ≤ D.E n.toNat) :
    CtM Try.prog 79 [.pointer (some ⟨r, 0, none⟩), .int .i64 n, .int .i64 e, .int .i64 f, .slice (some ⟨q, 0, none⟩) l.length cap] [(r, cel (devL s D) 86), (s, cel (secL D) 157), (q, cel (bys l.flatten) E)] [r, s] (.int .i64 (if e < D.E n.toNat then 8 else 0)) [(r, cel (devL s (if e < D.E n.toNat then D else D.wrs f l)) 86), (s, cel (secL (if e < D.E n.toNat then D else D.wrs f l)) 157)] := by
  have hlen := hD.len
  have hwho : whoI D n e true = if e < D.E n.toNat then 8 else 0 := by simp [whoI, he0, he1]
  refine Ct.of (N := 62) (rs := [.tmp 10]) Try.func79 rfl rfl rfl (Nat.le_of_ble_eq_true rfl) (fun B => ?_)
  refine XK.seq ?_
  refine XK.region ?_
  refine XO.box (v := .pointer _) rfl rfl rfl (fun r5 hr5 => ?_)
  refine XO.box (v := .int _ _) rfl rfl rfl (fun r8 hr8 => ?_)
  refine XO.val rfl rfl (OV.asg (v := .int _ _) rfl) ?_
  refine XO.nil ?_
  refine XK.scope ?_
  refine XK.seq ?_
  refine XK.draw [0, 1, 2, 3, 4, 5, 6, 7, 8, 9, 10, 11, 12, 13, 14, 15, 16, 17, 18, 19, 20, 21, 22, 23, 24, 25, 26, 27] [] [] [0, 1, 2, 3, 4, 5, 6, 7, 8, 9, 10, 11, 12, 13, 14, 15, 16, 17, 18, 19, 20, 21, 22, 23, 24, 25, 26, 27] Dv5_mixed (by kernel_rfl) alc_none ?_
  refine TR.v rfl rfl .n rfl rfl rfl (OV.ld rfl Try.isAgg27 (by repeat (first | exact List.Mem.head _ | apply List.Mem.tail | apply List.mem_append_right)) rfl) ?_
  refine TR.cv (cap := []) rfl rfl .n rfl rfl rfl (.cons (v := .pointer _) rfl .nil) Try.call99 (there_ok r s D hD) (by repeat (first | exact Sel.nil | refine Sel.cons (by repeat (first | exact Del.hd | apply Del.tl | apply Del.app)) (by repeat (first | exact List.Mem.head _ | apply List.Mem.tail | apply List.mem_append_right)) ?_)) ?_
  refine TR.v rfl rfl .n rfl rfl rfl (OV.mv (v := .bool _) rfl) ?_
  refine TR.v rfl rfl (.t rfl rfl) rfl rfl rfl (OV.ld rfl Try.isAgg3 (by repeat (first | exact List.Mem.head _ | apply List.Mem.tail | apply List.mem_append_right)) rfl) ?_
  refine TR.v rfl rfl (.t rfl rfl) rfl rfl rfl (OV.geq rfl rfl) ?_
  refine TR.v rfl rfl .n rfl rfl rfl (OV.pick_t (v := .bool _) rfl rfl) ?_
  refine TR.v rfl rfl .n rfl rfl rfl (OV.mv (v := .bool _) rfl) ?_
  refine TR.say (v := .bool true) 21 rfl (congrArg Value.bool (by simp; omega)) ?_
  refine TR.v rfl rfl (.t rfl rfl) rfl rfl rfl (OV.ld rfl Try.isAgg3 (by repeat (first | exact List.Mem.head _ | apply List.Mem.tail | apply List.mem_append_right)) rfl) ?_
  refine TR.v rfl rfl (.t rfl rfl) rfl rfl rfl (OV.ld rfl Try.isAgg27 (by repeat (first | exact List.Mem.head _ | apply List.Mem.tail | apply List.mem_append_right)) rfl) ?_
  refine TR.v rfl rfl (.t rfl rfl) rfl rfl rfl (OV.nilc rfl) ?_
  refine TR.v rfl rfl (.t rfl rfl) rfl rfl rfl (OV.fa rfl Dv5_fa_86_0) ?_
  refine TR.v rfl rfl (.t rfl rfl) rfl rfl rfl (OV.ld rfl Try.isAgg83 (by repeat (first | exact List.Mem.head _ | apply List.Mem.tail | apply List.mem_append_right)) rfl) ?_
  refine TR.v rfl rfl (.t rfl rfl) rfl rfl rfl (OV.lenS rfl Try.runUnderlying83) ?_
  refine TR.v rfl rfl (.t rfl rfl) rfl rfl rfl (OV.leq rfl rfl) ?_
  refine TR.v rfl rfl .n rfl rfl rfl (OV.pick_t (v := .bool _) rfl rfl) ?_
  refine TR.v rfl rfl .n rfl rfl rfl (OV.mv (v := .bool _) rfl) ?_
  refine TR.say (v := .bool true) 30 rfl (congrArg Value.bool (by simp; omega)) ?_
  refine TR.v rfl rfl (.t rfl rfl) rfl rfl rfl (OV.mv (v := .slice _ _ _) rfl) ?_
  refine TR.v rfl rfl (.t rfl rfl) rfl rfl rfl (OV.lenS rfl Try.runUnderlying83) ?_
  refine TR.v rfl rfl (.t rfl rfl) rfl rfl rfl (OV.ld rfl Try.isAgg27 (by repeat (first | exact List.Mem.head _ | apply List.Mem.tail | apply List.mem_append_right)) rfl) ?_
  refine TR.v rfl rfl (.t rfl rfl) rfl rfl rfl (OV.nilc rfl) ?_
  refine TR.v rfl rfl (.t rfl rfl) rfl rfl rfl (OV.fa rfl Dv5_fa_86_0) ?_
  refine TR.v rfl rfl (.t rfl rfl) rfl rfl rfl (OV.ld rfl Try.isAgg83 (by repeat (first | exact List.Mem.head _ | apply List.Mem.tail | apply List.mem_append_right)) rfl) ?_
  refine TR.v rfl rfl (.t rfl rfl) rfl rfl rfl (OV.lenS rfl Try.runUnderlying83) ?_
  refine TR.v rfl rfl (.t rfl rfl) rfl rfl rfl (OV.ld rfl Try.isAgg3 (by repeat (first | exact List.Mem.head _ | apply List.Mem.tail | apply List.mem_append_right)) rfl) ?_
  refine TR.v rfl rfl (.t rfl rfl) rfl rfl rfl (OV.sub rfl rfl (wrap_in (by omega))) ?_
  refine TR.v rfl rfl (.t rfl rfl) rfl rfl rfl (OV.leq rfl rfl) ?_
  refine TR.v rfl rfl .n rfl rfl rfl (OV.pick_t (v := .bool _) rfl rfl) ?_
  refine TR.v rfl rfl .n rfl rfl rfl (OV.asg (v := .bool _) rfl) ?_
  refine TR.say 11 rfl (congrArg Value.bool (decide_eq_true (by omega))) ?_
  refine TR.nil ?_
  refine XK.seq ?_
  refine XK.seq ?_
  refine XK.region ?_
  refine XO.val rfl rfl (OV.ld rfl Try.isAgg27 (by repeat (first | exact List.Mem.head _ | apply List.Mem.tail | apply List.mem_append_right)) rfl) ?_
  refine XO.val rfl rfl (OV.mv (v := .int _ _) rfl) ?_
  refine XO.val rfl rfl (OV.mv (v := .int _ _) rfl) ?_
  refine XO.val rfl rfl (OV.mv (v := .bool _) rfl) ?_
  refine XO.callV (cap := []) rfl rfl (.cons (v := .pointer _) rfl (.cons (v := .int _ _) rfl (.cons (v := .int _ _) rfl (.cons (v := .bool _) rfl .nil)))) Try.call173 (devWho_ok r s D hD n e true h0 h1) (by repeat (first | exact Sel.nil | refine Sel.cons (by repeat (first | exact Del.hd | apply Del.tl | apply Del.app)) (by repeat (first | exact List.Mem.head _ | apply List.Mem.tail | apply List.mem_append_right)) ?_)) ?_
  refine XO.val rfl rfl (OV.asg (v := .int _ _) rfl) ?_
  refine XO.nil ?_
  refine XK.seq ?_
  refine XK.region ?_
  refine XO.val rfl rfl (OV.mv (v := .int _ _) rfl) ?_
  refine XO.val rfl rfl (OV.neq rfl rfl) ?_
  refine XO.nil ?_
  refine XK.split (t := 48) rfl (fun hh1 => ?_) (fun hh1 => ?_)
  · replace hh1 := bnot_t hh1
    replace hh1 := of_decide_eq_false hh1
    have hlt : e < D.E n.toNat := by
      by_cases h : e < D.E n.toNat
      · exact h
      · exact absurd (hwho.trans (if_neg h)) hh1
    refine XK.cond_t rfl ?_
    refine XK.seq ?_
    refine XK.region ?_
    refine XO.val rfl rfl (OV.mv (v := .int _ _) rfl) ?_
    refine XO.val rfl rfl (OV.asg (v := .int _ _) rfl) ?_
    refine XO.nil ?_
    refine XK.retTo (Fin.ret (.cons (.tmp (v := .int _ _) rfl) .nil) (.cons (x := (r, _)) (by repeat (first | exact Del.hd | apply Del.tl | apply Del.app)) (by repeat (first | exact List.Mem.head _ | apply List.Mem.tail | apply List.mem_append_right)) (.cons (x := (s, _)) (by repeat (first | exact Del.hd | apply Del.tl | apply Del.app)) (by repeat (first | exact List.Mem.head _ | apply List.Mem.tail | apply List.mem_append_right)) .nil)) (by simp) ?_)
    first | exact ⟨congrArg (Value.int .i64) hwho, by simp only [if_pos hlt]⟩ | exact ⟨congrArg (Value.int .i64) (if_neg hlt).symm, by simp only [if_neg hlt, hX]⟩
  · replace hh1 := bnot_f hh1
    replace hh1 := of_decide_eq_true hh1
    have hlt : ¬ (e < D.E n.toNat) := fun h => absurd (hh1) (by rw [hwho, if_pos h]; decide)
    refine XK.cond_f rfl ?_
    refine XK.skip ?_
    refine XK.seq ?_
    refine XK.label ?_
    refine XK.seq ?_
    refine XK.seq ?_
    refine XK.region ?_
    refine XO.val rfl rfl (OV.mv (v := .slice _ _ _) rfl) ?_
    refine XO.val rfl rfl (OV.lenS rfl Try.runUnderlying83) ?_
    refine XO.val rfl rfl (OV.mv (v := .int _ _) rfl) ?_
    refine XO.nil ?_
    refine XK.block ?_
    refine XK.loopL (X := Nat × Dev) (lc := [(5, .pointer _), (8, .pointer _), (10, .int _ _), (50, .slice _ _ _), (51, .int _ _)]) (lv := fun (x : Nat × Dev) => [(52, .int .i64 (x.1 : Int))]) (Lf := fun (x : Nat × Dev) => [(r, cel (devL s x.2) 86), (s, cel (secL x.2) 157), (r5, cel [.pointer (some ⟨r, 0, none⟩)] 27), (r8, cel [.int .i64 f] 3), (q, cel (bys l.flatten) E)]) (I := fun (x : Nat × Dev) => x.1 ≤ l.length ∧ x.2.wf ∧ x.2.S.length = D.S.length ∧ D.wrs f l = x.2.wrs (f + (x.1 : Int)) (l.drop x.1)) (μ := fun (x : Nat × Dev) => l.length - x.1) (0, D) ⟨rfl, rfl, rfl, rfl, rfl, trivial⟩ ⟨rfl, trivial⟩ (.cons (by repeat (first | exact Del.hd | apply Del.tl | apply Del.app)) (by repeat (first | exact List.Mem.head _ | apply List.Mem.tail | apply List.mem_append_right)) (.cons (by repeat (first | exact Del.hd | apply Del.tl | apply Del.app)) (by repeat (first | exact List.Mem.head _ | apply List.Mem.tail | apply List.mem_append_right)) (.cons (by repeat (first | exact Del.hd | apply Del.tl | apply Del.app)) (by repeat (first | exact List.Mem.head _ | apply List.Mem.tail | apply List.mem_append_right)) (.cons (by repeat (first | exact Del.hd | apply Del.tl | apply Del.app)) (by repeat (first | exact List.Mem.head _ | apply List.Mem.tail | apply List.mem_append_right)) (.cons (by repeat (first | exact Del.hd | apply Del.tl | apply Del.app)) (by repeat (first | exact List.Mem.head _ | apply List.Mem.tail | apply List.mem_append_right)) .nil))))) ⟨by omega, hD, rfl, by simp⟩ ?_
    intro x σ hI
    refine XK.seq ?_
    refine XK.region ?_
    refine XO.val rfl rfl (OV.lss rfl rfl) ?_
    refine XO.nil ?_
    refine XK.seq ?_
    refine XK.split (t := 53) rfl (fun hh2 => ?_) (fun hh2 => ?_)
    · replace hh2 := of_decide_eq_true hh2
      have hx : x.1 < l.length := by omega
      have hg := getD_sec hl hx
      have hW := hI.2.2.2.trans (wrs_drop hx)
      refine XK.cond_t rfl ?_
      refine XK.skip ?_
      refine XK.seq ?_
      refine XK.block ?_
      refine XK.seq ?_
      refine XK.region ?_
      refine XO.val rfl rfl (OV.mv (v := .int _ _) rfl) ?_
      refine XO.val rfl rfl (OV.ixS rfl rfl Try.runUnderlying83 Try.sizeOf157 (by omega) (by omega)) ?_
      refine XO.val rfl rfl (OV.ldA rfl Try.isAgg157 Try.sizeOf157 (by repeat (first | exact List.Mem.head _ | apply List.Mem.tail | apply List.mem_append_right)) (show ((bys l.flatten).drop (0 + Int.toNat (x.1 : Int) * 64)).take 64 = bys (l.getD x.1 []) from (congrArg (fun o => ((bys l.flatten).drop o).take 64) (Nat.zero_add _)).trans (sec_take (fun y hy => (hl y hy).1) hx)) (by rw [bys_length]; exact hg.1)) ?_
      refine XO.alloc rfl Dv5_zv_3 rfl (fun r13 hr13 => ?_)
      refine XO.alloc rfl Dv5_zv_157 rfl (fun r14 hr14 => ?_)
      refine XO.st rfl (v := .int _ _) rfl rfl Try.sizeOf3 (by repeat (first | exact Put.hd | apply Put.tl | apply Put.app)) (by (first | (simp only [List.length_append, bys_length, b4_len, zrs_len, headB_len, putHead_len, List.length_replicate, List.length_cons, List.length_nil, List.length_set, List.length_take, List.length_drop, recL_len]; omega) | omega | exact Nat.le_of_ble_eq_true rfl | (simp; done) | (simp; omega))) (by (first | exact .inr ‹_› | (left; ((repeat (first | exact List.Mem.head _ | apply List.Mem.tail)))))) ?_
      refine XO.stA rfl rfl (by (repeat (first | with_reducible (apply one_app) | with_reducible exact bys_one | with_reducible exact recL_one _ | with_reducible exact one_rep rfl | exact ones_of rfl | exact bys_one))) Try.sizeOf157 (by (first | assumption | (simp only [List.length_append, bys_length, b4_len, zrs_len, headB_len, putHead_len, List.length_replicate, List.length_cons, List.length_nil, List.length_set, List.length_take, List.length_drop, recL_len]; done) | (simp only [List.length_append, bys_length, b4_len, zrs_len, headB_len, putHead_len, List.length_replicate, List.length_cons, List.length_nil, List.length_set, List.length_take, List.length_drop, recL_len]; omega) | rfl | (simp [*, bys_length]; done) | (simp [*, bys_length]; omega))) (by repeat (first | exact Put.hd | apply Put.tl | apply Put.app)) (by first | exact splice_all (by (first | assumption | (simp only [List.length_append, bys_length, b4_len, zrs_len, headB_len, putHead_len, List.length_replicate, List.length_cons, List.length_nil, List.length_set, List.length_take, List.length_drop, recL_len]; done) | (simp only [List.length_append, bys_length, b4_len, zrs_len, headB_len, putHead_len, List.length_replicate, List.length_cons, List.length_nil, List.length_set, List.length_take, List.length_drop, recL_len]; omega) | rfl | (simp [*, bys_length]; done) | (simp [*, bys_length]; omega))) | rfl) (by (first | (simp only [List.length_append, bys_length, b4_len, zrs_len, headB_len, putHead_len, List.length_replicate, List.length_cons, List.length_nil, List.length_set, List.length_take, List.length_drop, recL_len]; omega) | omega | exact Nat.le_of_ble_eq_true rfl | (simp; done) | (simp; omega))) (by (first | exact .inr ‹_› | (left; ((repeat (first | exact List.Mem.head _ | apply List.Mem.tail)))))) ?_
      refine XO.nil ?_
      refine XK.seq ?_
      refine XK.region ?_
      refine XO.val rfl rfl (OV.ld rfl Try.isAgg27 (by repeat (first | exact List.Mem.head _ | apply List.Mem.tail | apply List.mem_append_right)) rfl) ?_
      refine XO.val rfl rfl (OV.mkF .nil (.cons (v := .pointer _) rfl (.cons (v := .pointer _) rfl (.cons (v := .pointer _) rfl (.cons (v := .pointer _) rfl .nil))))) ?_
      refine XO.callM (cap := []) rfl rfl (.cons (v := .pointer _) rfl (.cons (v := .func _ _ _) rfl .nil)) Try.call101 (doesWrite_ok r14 r5 r8 r13 r s x.2 hI.2.1 (l.getD x.1 []) hg.1 f x.1 hf0 (by omega) (by omega)) (by repeat (first | exact Sel.nil | refine Sel.cons (by repeat (first | exact Del.hd | apply Del.tl | apply Del.app)) (by repeat (first | exact List.Mem.head _ | apply List.Mem.tail | apply List.mem_append_right)) ?_)) (by ((repeat (first | exact wrs_nil | (refine wrs_cons (by (first | exact .inr ‹_› | (left; ((repeat (first | exact List.Mem.head _ | apply List.Mem.tail)))))) ?_))))) (by repeat (first | exact Rem.nil | (apply Rem.cons; (repeat (first | exact Del.hd | apply Del.tl | apply Del.app))))) (by repeat (first | exact App.nil | apply App.cons)) ?_
      refine XO.val rfl rfl (OV.notB rfl) ?_
      refine XO.nil ?_
      refine XK.split (t := 60) rfl (fun hh3 => ?_) (fun hh3 => ?_)
      · replace hh3 := bnot_t hh3
        try replace hh3 := of_decide_eq_false hh3
        have hX : (x.2.dos (·.wr1 (f + (x.1 : Int)).toNat (l.getD x.1 []))).1 = D.wrs f l := by rw [hW, if_neg (by rw [hh3]; decide)]
        refine XK.cond_t rfl ?_
        refine XK.exitTo rfl ?_
        refine XK.seq ?_
        refine XK.region ?_
        refine XO.val rfl rfl (OV.asg (v := .int _ _) rfl) ?_
        refine XO.nil ?_
        refine XK.retTo (Fin.ret (.cons (.tmp (v := .int _ _) rfl) .nil) (.cons (x := (r, _)) (by repeat (first | exact Del.hd | apply Del.tl | apply Del.app)) (by repeat (first | exact List.Mem.head _ | apply List.Mem.tail | apply List.mem_append_right)) (.cons (x := (s, _)) (by repeat (first | exact Del.hd | apply Del.tl | apply Del.app)) (by repeat (first | exact List.Mem.head _ | apply List.Mem.tail | apply List.mem_append_right)) .nil)) (by simp) ?_)
        first | exact ⟨congrArg (Value.int .i64) hwho, by simp only [if_pos hlt]⟩ | exact ⟨congrArg (Value.int .i64) (if_neg hlt).symm, by simp only [if_neg hlt, hX]⟩
      · replace hh3 := bnot_f hh3
        try replace hh3 := of_decide_eq_true hh3
        have hW2 := hW.trans (if_pos hh3)
        refine XK.cond_f rfl ?_
        refine XK.skip ?_
        refine XK.inblk ?_
        refine XK.region ?_
        refine XO.val rfl rfl (OV.add rfl rfl (wrap_in (by omega))) ?_
        refine XO.val rfl rfl (OV.mv (v := .int _ _) rfl) ?_
        refine XO.nil ?_
        refine XK.rnd ⟨(x.1 + 1, (x.2.dos (·.wr1 (f + (x.1 : Int)).toNat (l.getD x.1 []))).1), ⟨⟨rfl, rfl, rfl, rfl, rfl, trivial⟩, ⟨rfl, trivial⟩, rfl, (.cons (by repeat (first | exact Del.hd | apply Del.tl | apply Del.app)) (by repeat (first | exact List.Mem.head _ | apply List.Mem.tail | apply List.mem_append_right)) (.cons (by repeat (first | exact Del.hd | apply Del.tl | apply Del.app)) (by repeat (first | exact List.Mem.head _ | apply List.Mem.tail | apply List.mem_append_right)) (.cons (by repeat (first | exact Del.hd | apply Del.tl | apply Del.app)) (by repeat (first | exact List.Mem.head _ | apply List.Mem.tail | apply List.mem_append_right)) (.cons (by repeat (first | exact Del.hd | apply Del.tl | apply Del.app)) (by repeat (first | exact List.Mem.head _ | apply List.Mem.tail | apply List.mem_append_right)) (.cons (by repeat (first | exact Del.hd | apply Del.tl | apply Del.app)) (by repeat (first | exact List.Mem.head _ | apply List.Mem.tail | apply List.mem_append_right)) .nil))))), ⟨by omega, hI.2.1.dos (fun D1 hD1 => hD1.wr1 _ hg.1 hg.2), (dos_len _ _).trans hI.2.2.1, hW2⟩⟩, by show l.length - (x.1 + 1) < l.length - x.1; omega⟩
    · replace hh2 := of_decide_eq_false hh2
      have hX : x.2 = D.wrs f l := by rw [hI.2.2.2, wrs_end (by omega)]
      refine XK.cond_f rfl ?_
      refine XK.exitTo rfl ?_
      refine XK.seq ?_
      refine XK.region ?_
      refine XO.val rfl rfl (OV.asg (v := .int _ _) rfl) ?_
      refine XO.nil ?_
      refine XK.retTo (Fin.ret (.cons (.tmp (v := .int _ _) rfl) .nil) (.cons (x := (r, _)) (by repeat (first | exact Del.hd | apply Del.tl | apply Del.app)) (by repeat (first | exact List.Mem.head _ | apply List.Mem.tail | apply List.mem_append_right)) (.cons (x := (s, _)) (by repeat (first | exact Del.hd | apply Del.tl | apply Del.app)) (by repeat (first | exact List.Mem.head _ | apply List.Mem.tail | apply List.mem_append_right)) .nil)) (by simp) ?_)
      first | exact ⟨congrArg (Value.int .i64) hwho, by simp only [if_pos hlt]⟩ | exact ⟨congrArg (Value.int .i64) (if_neg hlt).symm, by simp only [if_neg hlt, hX]⟩

end Go.Proofs.Ythophgadmkjamaa
