/- Contracts of functions, printed by a program of this claim (wip/tools/gen.py). -/
import Derived.Test.YthophgadmkjamaaFDefs2
import Derived.Test.YthophgadmkjamaaFArea
import Derived.Test.YthophgadmkjamaaFRec4
import Derived.KernelRfl
set_option maxRecDepth 20000
set_option linter.unusedVariables false
set_option linter.unusedSimpArgs false
namespace Go.Proofs.Ythophgadmkjamaa
open Go Go.Mw Go.Proofs

theorem Dv_zv_157 : ∀ w, (zeroValue 157).run Try.prog w = .ok (.agg (List.toArray (bys (zrs 64)))) w := fun w => by kernel_rfl
theorem Dv_zv_52 : ∀ w, (zeroValue 52).run Try.prog w = .ok (.agg (List.toArray ([.int .i64 0, .int .i64 0, .int .i64 0, .int .i64 0, .int .i64 0] ++ List.replicate 96 (.int .u8 0)))) w := fun w => by kernel_rfl
theorem Dv_fa_86_1 : FA Try.prog 86 1 1 := FA.of (n := 7) Try.runUnderlying86 rfl rfl Try.sizeOf84
theorem Dv_mixed : Try.prog.follows .mixedOrders = true := by kernel_rfl
theorem Dv_fa_86_0 : FA Try.prog 86 0 0 := FA.of (n := 0) Try.runUnderlying86 rfl rfl Try.sizeOf83

theorem cloneS_ok (q o n cap : Nat) (lq ys : List Value) (E : Nat) (hv : (lq.drop o).take (n * 64) = ys) (hl : ys.length = n * 64) (h1 : ∀ v ∈ ys, v.oneCell' = true) (hn : n ≤ 4096) :
    Ct Try.prog 236 [.slice (some ⟨q, o, none⟩) n cap] [(q, cel lq E)] [] (fun v L => ∃ r sp c, v = .slice (some ⟨r, 0, none⟩) n c ∧ L = [(r, cel (ys ++ sp) 157)] ∧ Mw.Own ⟨some r, c, sp⟩ n ys 64) := by
  refine Ct.of (N := 8) (rs := [.tmp 2]) Try.func236 rfl rfl rfl (Nat.le_of_ble_eq_true rfl) (fun B => ?_)
  refine XK.seq ?_
  refine XK.region ?_
  refine XO.val rfl rfl (OV.asg (v := .slice _ _ _) rfl) ?_
  refine XO.nil ?_
  refine XK.seq ?_
  refine XK.seq ?_
  refine XK.region ?_
  refine XO.val rfl rfl (OV.mv (v := .slice _ _ _) rfl) ?_
  refine XO.val rfl rfl (OV.eqNs rfl rfl Try.runUnderlying83) ?_
  refine XO.nil ?_
  refine XK.say (u := .bool false) (v := .bool false) 4 rfl rfl ?_
  refine XK.cond_f rfl ?_
  refine XK.skip ?_
  refine XK.seq ?_
  refine XK.region ?_
  refine XO.bsl (qs := []) (out := []) rfl .nil rfl Try.runUnderlying83 Try.sizeOf157 Dv_zv_157 rfl (by (first | assumption | (simp only [List.length_append, bys_length, b4_len, zrs_len, headB_len, putHead_len, List.length_replicate, List.length_cons, List.length_nil, List.length_set, List.length_take, List.length_drop, recL_len]; done) | (simp only [List.length_append, bys_length, b4_len, zrs_len, headB_len, putHead_len, List.length_replicate, List.length_cons, List.length_nil, List.length_set, List.length_take, List.length_drop, recL_len]; omega) | rfl | (simp [*, bys_length]; done) | (simp [*, bys_length]; omega))) (by decide) .nil (fun r5 hr5 => ?_)
  refine XO.val rfl rfl (OV.mv (v := .slice _ _ _) rfl) ?_
  refine XO.apS (bytes := 64) rfl rfl rfl Try.runUnderlying83 Try.runUnderlying83 Try.sizeOf157 Try.typeInfo157 rfl Dv_zv_157 rfl (by (first | assumption | (simp only [List.length_append, bys_length, b4_len, zrs_len, headB_len, putHead_len, List.length_replicate, List.length_cons, List.length_nil, List.length_set, List.length_take, List.length_drop, recL_len]; done) | (simp only [List.length_append, bys_length, b4_len, zrs_len, headB_len, putHead_len, List.length_replicate, List.length_cons, List.length_nil, List.length_set, List.length_take, List.length_drop, recL_len]; omega) | rfl | (simp [*, bys_length]; done) | (simp [*, bys_length]; omega))) (by repeat (first | exact Tak.hd | apply Tak.tl | apply Tak.app)) (show Mw.Own ⟨some r5, 0, []⟩ 0 [] _ from ⟨rfl, Nat.le_refl _, rfl⟩) (by repeat (first | exact List.Mem.head _ | apply List.Mem.tail | apply List.mem_append_right)) hv hl h1 (by (first | exact .inr ‹_› | (left; ((repeat (first | exact List.Mem.head _ | apply List.Mem.tail)))))) (by omega) (fun ra ca sa hown hra hwa => ?_)
  refine XO.val rfl rfl (OV.asg (v := .slice _ _ _) rfl) ?_
  refine XO.nil ?_
  refine XK.retTo (Fin.ret (.cons (.tmp (v := .slice _ _ _) rfl) .nil) (.cons (x := (ra, _)) (by repeat (first | exact Del.hd | apply Del.tl | apply Del.app)) (by repeat (first | exact List.Mem.head _ | apply List.Mem.tail | apply List.mem_append_right)) .nil) (by intro x hx; simp only [List.mem_cons, List.not_mem_nil, or_false] at hx; subst hx; right; rcases hra with e | e; exact e ▸ hr5; exact e) ?_)
  simp only [Nat.zero_add, List.nil_append] at hown ⊢
  exact ⟨ra, sa, ca, rfl, rfl, hown⟩

theorem cloneR_ok (q o n cap : Nat) (lq ys : List Value) (E : Nat) (hv : (lq.drop o).take (n * 101) = ys) (hl : ys.length = n * 101) (h1 : ∀ v ∈ ys, v.oneCell' = true) (hn : n ≤ 4096) :
    Ct Try.prog 82 [.slice (some ⟨q, o, none⟩) n cap] [(q, cel lq E)] [] (fun v L => ∃ r sp c, v = .slice (some ⟨r, 0, none⟩) n c ∧ L = [(r, cel (ys ++ sp) 52)] ∧ Mw.Own ⟨some r, c, sp⟩ n ys 101) := by
  refine Ct.of (N := 8) (rs := [.tmp 2]) Try.func82 rfl rfl rfl (Nat.le_of_ble_eq_true rfl) (fun B => ?_)
  refine XK.seq ?_
  refine XK.region ?_
  refine XO.val rfl rfl (OV.asg (v := .slice _ _ _) rfl) ?_
  refine XO.nil ?_
  refine XK.seq ?_
  refine XK.seq ?_
  refine XK.region ?_
  refine XO.val rfl rfl (OV.mv (v := .slice _ _ _) rfl) ?_
  refine XO.val rfl rfl (OV.eqNs rfl rfl Try.runUnderlying43) ?_
  refine XO.nil ?_
  refine XK.say (u := .bool false) (v := .bool false) 4 rfl rfl ?_
  refine XK.cond_f rfl ?_
  refine XK.skip ?_
  refine XK.seq ?_
  refine XK.region ?_
  refine XO.bsl (qs := []) (out := []) rfl .nil rfl Try.runUnderlying43 Try.sizeOf52 Dv_zv_52 rfl (by (first | assumption | (simp only [List.length_append, bys_length, b4_len, zrs_len, headB_len, putHead_len, List.length_replicate, List.length_cons, List.length_nil, List.length_set, List.length_take, List.length_drop, recL_len]; done) | (simp only [List.length_append, bys_length, b4_len, zrs_len, headB_len, putHead_len, List.length_replicate, List.length_cons, List.length_nil, List.length_set, List.length_take, List.length_drop, recL_len]; omega) | rfl | (simp [*, bys_length]; done) | (simp [*, bys_length]; omega))) (by decide) .nil (fun r5 hr5 => ?_)
  refine XO.val rfl rfl (OV.mv (v := .slice _ _ _) rfl) ?_
  refine XO.apS (bytes := 136) rfl rfl rfl Try.runUnderlying43 Try.runUnderlying43 Try.sizeOf52 Try.typeInfo52 rfl Dv_zv_52 rfl (by (first | assumption | (simp only [List.length_append, bys_length, b4_len, zrs_len, headB_len, putHead_len, List.length_replicate, List.length_cons, List.length_nil, List.length_set, List.length_take, List.length_drop, recL_len]; done) | (simp only [List.length_append, bys_length, b4_len, zrs_len, headB_len, putHead_len, List.length_replicate, List.length_cons, List.length_nil, List.length_set, List.length_take, List.length_drop, recL_len]; omega) | rfl | (simp [*, bys_length]; done) | (simp [*, bys_length]; omega))) (by repeat (first | exact Tak.hd | apply Tak.tl | apply Tak.app)) (show Mw.Own ⟨some r5, 0, []⟩ 0 [] _ from ⟨rfl, Nat.le_refl _, rfl⟩) (by repeat (first | exact List.Mem.head _ | apply List.Mem.tail | apply List.mem_append_right)) hv hl h1 (by (first | exact .inr ‹_› | (left; ((repeat (first | exact List.Mem.head _ | apply List.Mem.tail)))))) (by omega) (fun ra ca sa hown hra hwa => ?_)
  refine XO.val rfl rfl (OV.asg (v := .slice _ _ _) rfl) ?_
  refine XO.nil ?_
  refine XK.retTo (Fin.ret (.cons (.tmp (v := .slice _ _ _) rfl) .nil) (.cons (x := (ra, _)) (by repeat (first | exact Del.hd | apply Del.tl | apply Del.app)) (by repeat (first | exact List.Mem.head _ | apply List.Mem.tail | apply List.mem_append_right)) .nil) (by intro x hx; simp only [List.mem_cons, List.not_mem_nil, or_false] at hx; subst hx; right; rcases hra with e | e; exact e ▸ hr5; exact e) ?_)
  simp only [Nat.zero_add, List.nil_append] at hown ⊢
  exact ⟨ra, sa, ca, rfl, rfl, hown⟩

theorem epoch_ok (r s : Nat) (D : Dev) (hD : D.wf) (i : Int) (h0 : 0 ≤ i) (h1 : i < D.nodes) :
    CtV Try.prog 100 [.pointer (some ⟨r, 0, none⟩), .int .i64 i] [(r, cel (devL s D) 86)] (.tuple (List.toArray [.int .i64 (D.E i.toNat), .int .i64 0])) := by
  have hn := hD.nodes1
  refine Ct.of (N := 21) (rs := [.tmp 4, .tmp 5]) Try.func100 rfl rfl rfl (Nat.le_of_ble_eq_true rfl) (fun B => ?_)
  refine XK.seq ?_
  refine XK.region ?_
  refine XO.val rfl rfl (OV.asg (v := .int _ _) rfl) ?_
  refine XO.val rfl rfl (OV.asg (v := .int _ _) rfl) ?_
  refine XO.nil ?_
  refine XK.seq ?_
  refine XK.block ?_
  refine XK.seq ?_
  refine XK.region ?_
  refine XO.val rfl rfl (OV.mv (v := .pointer _) rfl) ?_
  refine XO.callV (cap := []) rfl rfl (.cons (v := .pointer _) rfl .nil) Try.call99 (there_ok r s D hD) (by repeat (first | exact Sel.nil | refine Sel.cons (by repeat (first | exact Del.hd | apply Del.tl | apply Del.app)) (by repeat (first | exact List.Mem.head _ | apply List.Mem.tail | apply List.mem_append_right)) ?_)) ?_
  refine XO.val rfl rfl (OV.notB rfl) ?_
  refine XO.val rfl rfl (OV.asg (v := .bool _) rfl) ?_
  refine XO.nil ?_
  refine XK.say (u := .bool false) (v := .bool false) 6 rfl rfl ?_
  refine XK.cond_f rfl ?_
  refine XK.seq ?_
  refine XK.region ?_
  refine XO.val rfl rfl (OV.mv (v := .pointer _) rfl) ?_
  refine XO.val rfl rfl (OV.mv (v := .int _ _) rfl) ?_
  refine XO.callV (cap := []) rfl rfl (.cons (v := .pointer _) rfl (.cons (v := .int _ _) rfl .nil)) Try.call187 (node_ok r s D i) (by repeat (first | exact Sel.nil | refine Sel.cons (by repeat (first | exact Del.hd | apply Del.tl | apply Del.app)) (by repeat (first | exact List.Mem.head _ | apply List.Mem.tail | apply List.mem_append_right)) ?_)) ?_
  refine XO.val rfl rfl (OV.notB rfl) ?_
  refine XO.val rfl rfl (OV.asg (v := .bool _) rfl) ?_
  refine XO.nil ?_
  refine XK.say (v := .bool false) 10 rfl (congrArg Value.bool (by simp; omega)) ?_
  refine XK.cond_f rfl ?_
  refine XK.skip ?_
  refine XK.inblk ?_
  refine XK.seq ?_
  refine XK.region ?_
  refine XO.val rfl rfl (OV.mv (v := .pointer _) rfl) ?_
  refine XO.val rfl rfl (OV.mv (v := .int _ _) rfl) ?_
  refine XO.val rfl rfl (OV.nilc rfl) ?_
  refine XO.val rfl rfl (OV.fa rfl Dv_fa_86_1) ?_
  refine XO.val rfl rfl (OV.ixA rfl rfl Try.runUnderlying84 Try.sizeOf2 (by omega) (by omega)) ?_
  refine XO.val rfl rfl (OV.ld rfl Try.isAgg2 (by repeat (first | exact List.Mem.head _ | apply List.Mem.tail | apply List.mem_append_right)) (by rw [show 0 + 1 + i.toNat * 1 = 1 + i.toNat from by omega]; exact nth_epoch s D (by omega))) ?_
  refine XO.val rfl rfl (OV.asg (v := .int _ _) rfl) ?_
  refine XO.val rfl rfl (OV.asg (v := .int _ _) rfl) ?_
  refine XO.nil ?_
  refine XK.retTo (Fin.ret (.cons (.tmp (v := .int _ _) rfl) (.cons (.tmp (v := .int _ _) rfl) .nil)) .nil (by simp) ?_)
  exact ⟨rfl, rfl⟩

theorem up1_ok (p q r s : Nat) (D : Dev) (hD : D.wf) (i : Int) (h0 : 0 ≤ i) (h1 : i < D.nodes) :
    CtM Try.prog 102 [.pointer (some ⟨p, 0, none⟩), .pointer (some ⟨q, 0, none⟩)] [(r, cel (devL s D) 86), (p, cel [.pointer (some ⟨r, 0, none⟩)] 27), (q, cel [.int .i64 i] 3)] [r] (.tuple #[]) [(r, cel (devL s (D.up1 i.toNat)) 86)] := by
  have hn := hD.nodes1
  have he0 := hD.epoch0 i.toNat
  have he1 := hD.epoch1 i.toNat
  refine Ct.of (N := 12) (rs := []) Try.func102 rfl rfl rfl (Nat.le_of_ble_eq_true rfl) (fun B => ?_)
  refine XK.draw [0, 1, 2, 3, 4, 5, 6, 7, 8, 9] [] [] [0, 1, 2, 3, 4, 5, 6, 7, 8, 9, 10] Dv_mixed (by kernel_rfl) alc_none ?_
  refine TR.v rfl rfl .n rfl rfl rfl (OV.ld rfl Try.isAgg27 (by repeat (first | exact List.Mem.head _ | apply List.Mem.tail | apply List.mem_append_right)) rfl) ?_
  refine TR.v rfl rfl .n rfl rfl rfl (OV.ld rfl Try.isAgg3 (by repeat (first | exact List.Mem.head _ | apply List.Mem.tail | apply List.mem_append_right)) rfl) ?_
  refine TR.v rfl rfl .n rfl rfl rfl (OV.nilc rfl) ?_
  refine TR.v rfl rfl .n rfl rfl rfl (OV.fa rfl Dv_fa_86_1) ?_
  refine TR.v rfl rfl .n rfl rfl rfl (OV.ixA rfl rfl Try.runUnderlying84 Try.sizeOf2 (by omega) (by omega)) ?_
  refine TR.v rfl rfl .n rfl rfl rfl (OV.ld rfl Try.isAgg2 (by repeat (first | exact List.Mem.head _ | apply List.Mem.tail | apply List.mem_append_right)) (by rw [show 0 + 1 + i.toNat * 1 = 1 + i.toNat from by omega]; exact nth_epoch s D (by omega))) ?_
  refine TR.v rfl rfl .n rfl rfl rfl (OV.add rfl rfl (wrap_in (by omega))) ?_
  refine TR.v rfl rfl .n rfl rfl rfl (OV.nilc rfl) ?_
  refine TR.v rfl rfl .n rfl rfl rfl (OV.fa rfl Dv_fa_86_1) ?_
  refine TR.v rfl rfl .n rfl rfl rfl (OV.ixA rfl rfl Try.runUnderlying84 Try.sizeOf2 (by omega) (by omega)) ?_
  refine TR.go rfl rfl rfl rfl ?_
  refine XO.st rfl (v := .int _ _) rfl rfl Try.sizeOf2 (by repeat (first | exact Put.hd | apply Put.tl | apply Put.app)) (by show 0 + 1 + i.toNat * 1 < 14; omega) (by (first | exact .inr ‹_› | (left; ((repeat (first | exact List.Mem.head _ | apply List.Mem.tail)))))) ?_
  refine TR.back ?_
  refine TR.nil ?_
  refine XK.norTo (Fin.nor .nil (.cons (x := (r, _)) (by repeat (first | exact Del.hd | apply Del.tl | apply Del.app)) (by repeat (first | exact List.Mem.head _ | apply List.Mem.tail | apply List.mem_append_right)) .nil) (by simp) ?_)
  refine ⟨rfl, ?_⟩
  rw [show 0 + 1 + i.toNat * 1 = 1 + i.toNat from by omega, set_epoch s D _ (by omega)]
  rfl

theorem write1_ok (a p q t r s : Nat) (D : Dev) (hD : D.wf) (x : List Int) (hx : x.length = 64) (f i : Int) (h0 : 0 ≤ f) (h1 : 0 ≤ i) (h2 : f + i < D.S.length) :
    CtM Try.prog 174 [.pointer (some ⟨a, 0, none⟩), .pointer (some ⟨p, 0, none⟩), .pointer (some ⟨q, 0, none⟩), .pointer (some ⟨t, 0, none⟩)] [(s, cel (secL D) 157), (r, cel (devL s D) 86), (a, cel (bys x) 157), (p, cel [.pointer (some ⟨r, 0, none⟩)] 27), (q, cel [.int .i64 f] 3), (t, cel [.int .i64 i] 3)] [s] (.tuple #[]) [(s, cel (secL (D.wr1 (f + i).toNat x)) 157)] := by
  have hl := hD.len
  have hsec := fun y hy => (hD.sec y hy).1
  have hfl := flat_len hsec
  refine Ct.of (N := 13) (rs := []) Try.func174 rfl rfl rfl (Nat.le_of_ble_eq_true rfl) (fun B => ?_)
  refine XK.draw [0, 1, 2, 3, 4, 5, 6, 7, 8] [] [] [0, 1, 2, 3, 4, 5, 6, 7, 8, 9] Dv_mixed (by kernel_rfl) alc_none ?_
  refine TR.v rfl rfl .n rfl rfl rfl (OV.ld rfl Try.isAgg27 (by repeat (first | exact List.Mem.head _ | apply List.Mem.tail | apply List.mem_append_right)) rfl) ?_
  refine TR.v rfl rfl .n rfl rfl rfl (OV.nilc rfl) ?_
  refine TR.v rfl rfl .n rfl rfl rfl (OV.fa rfl Dv_fa_86_0) ?_
  refine TR.v rfl rfl .n rfl rfl rfl (OV.ld rfl Try.isAgg83 (by repeat (first | exact List.Mem.head _ | apply List.Mem.tail | apply List.mem_append_right)) rfl) ?_
  refine TR.v rfl rfl .n rfl rfl rfl (OV.ld rfl Try.isAgg3 (by repeat (first | exact List.Mem.head _ | apply List.Mem.tail | apply List.mem_append_right)) rfl) ?_
  refine TR.v rfl rfl .n rfl rfl rfl (OV.ld rfl Try.isAgg3 (by repeat (first | exact List.Mem.head _ | apply List.Mem.tail | apply List.mem_append_right)) rfl) ?_
  refine TR.v rfl rfl .n rfl rfl rfl (OV.add rfl rfl (wrap_in (by omega))) ?_
  refine TR.v rfl rfl .n rfl rfl rfl (OV.ldA rfl Try.isAgg157 Try.sizeOf157 (by repeat (first | exact List.Mem.head _ | apply List.Mem.tail | apply List.mem_append_right)) (grab_all (by (first | assumption | (simp only [List.length_append, bys_length, b4_len, zrs_len, headB_len, putHead_len, List.length_replicate, List.length_cons, List.length_nil, List.length_set, List.length_take, List.length_drop, recL_len]; done) | (simp only [List.length_append, bys_length, b4_len, zrs_len, headB_len, putHead_len, List.length_replicate, List.length_cons, List.length_nil, List.length_set, List.length_take, List.length_drop, recL_len]; omega) | rfl | (simp [*, bys_length]; done) | (simp [*, bys_length]; omega)))) (by (first | assumption | (simp only [List.length_append, bys_length, b4_len, zrs_len, headB_len, putHead_len, List.length_replicate, List.length_cons, List.length_nil, List.length_set, List.length_take, List.length_drop, recL_len]; done) | (simp only [List.length_append, bys_length, b4_len, zrs_len, headB_len, putHead_len, List.length_replicate, List.length_cons, List.length_nil, List.length_set, List.length_take, List.length_drop, recL_len]; omega) | rfl | (simp [*, bys_length]; done) | (simp [*, bys_length]; omega)))) ?_
  refine TR.v rfl rfl .n rfl rfl rfl (OV.ixS rfl rfl Try.runUnderlying83 Try.sizeOf157 (by omega) (by omega)) ?_
  refine TR.go rfl rfl rfl rfl ?_
  refine XO.stA rfl rfl (by (repeat (first | with_reducible (apply one_app) | with_reducible exact bys_one | with_reducible exact recL_one _ | with_reducible exact one_rep rfl | exact ones_of rfl | exact bys_one))) Try.sizeOf157 (by (first | assumption | (simp only [List.length_append, bys_length, b4_len, zrs_len, headB_len, putHead_len, List.length_replicate, List.length_cons, List.length_nil, List.length_set, List.length_take, List.length_drop, recL_len]; done) | (simp only [List.length_append, bys_length, b4_len, zrs_len, headB_len, putHead_len, List.length_replicate, List.length_cons, List.length_nil, List.length_set, List.length_take, List.length_drop, recL_len]; omega) | rfl | (simp [*, bys_length]; done) | (simp [*, bys_length]; omega))) (by repeat (first | exact Put.hd | apply Put.tl | apply Put.app)) rfl (by simp only [secL, bys_length, hfl]; omega) (by (first | exact .inr ‹_› | (left; ((repeat (first | exact List.Mem.head _ | apply List.Mem.tail)))))) ?_
  refine TR.back ?_
  refine TR.nil ?_
  refine XK.norTo (Fin.nor .nil (.cons (x := (s, _)) (by repeat (first | exact Del.hd | apply Del.tl | apply Del.app)) (by repeat (first | exact List.Mem.head _ | apply List.Mem.tail | apply List.mem_append_right)) .nil) (by simp) ?_)
  refine ⟨rfl, ?_⟩
  rw [show 0 + (f + i).toNat * 64 = (f + i).toNat * 64 from by omega]
  simp only [secL, Dev.wr1]
  rw [sec_put hsec (by omega) hx]

end Go.Proofs.Ythophgadmkjamaa
