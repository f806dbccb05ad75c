/- Contracts of functions, printed by a program of this claim (wip/tools/gen.py). -/
import Derived.Test.YthophgadmkjamaaChecked
import Derived.Test.YthophgadmkjamaaFDefs
import Derived.KernelRfl
set_option maxRecDepth 20000
set_option linter.unusedVariables false
set_option linter.unusedSimpArgs false
namespace Go.Proofs.Ythophgadmkjamaa
open Go Go.Mw Go.Proofs

theorem Rec_zv_284 : ∀ w, (zeroValue 284).run Try.prog w = .ok (.agg (List.toArray (bys (zrs 3)))) w := fun w => by kernel_rfl
theorem Rec_bld_284_0_1_2 (a0 : Int) (a1 : Int) (a2 : Int) : ∀ w, (Instr.build 284 (List.toArray [(0, .int .u8 a0), (1, .int .u8 a1), (2, .int .u8 a2)])).run Try.prog w = .ok (.agg (List.toArray ([.int .u8 a0, .int .u8 a1, .int .u8 a2]))) w := fun w => by kernel_rfl
theorem Rec_mixed : Try.prog.follows .mixedOrders = true := by kernel_rfl

theorem tags_ok  :
    CtV Try.prog 171 [] [] (.agg (List.toArray (bys [177, 178, 179]))) := by
  refine Ct.of (N := 2) (rs := [.cell 0 284]) Try.func171 rfl rfl rfl (Nat.le_of_ble_eq_true rfl) (fun B => ?_)
  refine XK.seq ?_
  refine XK.region ?_
  refine XO.alloc rfl Rec_zv_284 rfl (fun r0 hr0 => ?_)
  refine XO.nil ?_
  refine XK.seq ?_
  refine XK.region ?_
  refine XO.val rfl rfl (OV.bld (qs := [(0, .int .u8 _), (1, .int .u8 _), (2, .int .u8 _)]) (.cons (v := .int _ _) rfl (.cons (v := .int _ _) rfl (.cons (v := .int _ _) rfl .nil))) rfl (Rec_bld_284_0_1_2 _ _ _)) ?_
  refine XO.stA rfl rfl (by (repeat (first | with_reducible (apply one_app) | with_reducible exact bys_one | with_reducible exact recL_one _ | with_reducible exact one_rep rfl | exact ones_of rfl | exact bys_one))) Try.sizeOf284 (by (first | assumption | (simp only [List.length_append, bys_length, b4_len, zrs_len, headB_len, putHead_len, List.length_replicate, List.length_cons, List.length_nil, List.length_set, List.length_take, List.length_drop, recL_len]; done) | (simp only [List.length_append, bys_length, b4_len, zrs_len, headB_len, putHead_len, List.length_replicate, List.length_cons, List.length_nil, List.length_set, List.length_take, List.length_drop, recL_len]; omega) | rfl | (simp [*, bys_length]; done) | (simp [*, bys_length]; omega))) (by repeat (first | exact Put.hd | apply Put.tl | apply Put.app)) (by first | exact splice_all (by (first | assumption | (simp only [List.length_append, bys_length, b4_len, zrs_len, headB_len, putHead_len, List.length_replicate, List.length_cons, List.length_nil, List.length_set, List.length_take, List.length_drop, recL_len]; done) | (simp only [List.length_append, bys_length, b4_len, zrs_len, headB_len, putHead_len, List.length_replicate, List.length_cons, List.length_nil, List.length_set, List.length_take, List.length_drop, recL_len]; omega) | rfl | (simp [*, bys_length]; done) | (simp [*, bys_length]; omega))) | rfl) (by (first | (simp only [List.length_append, bys_length, b4_len, zrs_len, headB_len, putHead_len, List.length_replicate, List.length_cons, List.length_nil, List.length_set, List.length_take, List.length_drop, recL_len]; omega) | omega | exact Nat.le_of_ble_eq_true rfl | (simp; done) | (simp; omega))) (by (first | exact .inr ‹_› | (left; ((repeat (first | exact List.Mem.head _ | apply List.Mem.tail)))))) ?_
  refine XO.nil ?_
  refine XK.retTo (Fin.ret (.cons (.cellA rfl Try.isAgg284 Try.sizeOf284 (by repeat (first | exact List.Mem.head _ | apply List.Mem.tail | apply List.mem_append_right)) (grab_all (by (first | assumption | (simp only [List.length_append, bys_length, b4_len, zrs_len, headB_len, putHead_len, List.length_replicate, List.length_cons, List.length_nil, List.length_set, List.length_take, List.length_drop, recL_len]; done) | (simp only [List.length_append, bys_length, b4_len, zrs_len, headB_len, putHead_len, List.length_replicate, List.length_cons, List.length_nil, List.length_set, List.length_take, List.length_drop, recL_len]; omega) | rfl | (simp [*, bys_length]; done) | (simp [*, bys_length]; omega)))) (by (first | assumption | (simp only [List.length_append, bys_length, b4_len, zrs_len, headB_len, putHead_len, List.length_replicate, List.length_cons, List.length_nil, List.length_set, List.length_take, List.length_drop, recL_len]; done) | (simp only [List.length_append, bys_length, b4_len, zrs_len, headB_len, putHead_len, List.length_replicate, List.length_cons, List.length_nil, List.length_set, List.length_take, List.length_drop, recL_len]; omega) | rfl | (simp [*, bys_length]; done) | (simp [*, bys_length]; omega)))) .nil) .nil (by simp) ?_)
  exact ⟨rfl, rfl⟩

theorem within_ok (n a b : Int) :
    CtV Try.prog 175 [.int .i64 n, .int .i64 a, .int .i64 b] [] (.bool (decide (a ≤ n ∧ n ≤ b))) := by
  refine Ct.of (N := 15) (rs := [.tmp 6]) Try.func175 rfl rfl rfl (Nat.le_of_ble_eq_true rfl) (fun B => ?_)
  refine XK.seq ?_
  refine XK.region ?_
  refine XO.val rfl rfl (OV.asg (v := .bool _) rfl) ?_
  refine XO.nil ?_
  refine XK.seq ?_
  refine XK.region ?_
  refine XO.val rfl rfl (OV.mv (v := .int _ _) rfl) ?_
  refine XO.val rfl rfl (OV.mv (v := .int _ _) rfl) ?_
  refine XO.val rfl rfl (OV.geq rfl rfl) ?_
  refine XO.val rfl rfl (OV.mv (v := .bool _) rfl) ?_
  refine XO.split (t := 10) rfl (fun hh1 => ?_) (fun hh1 => ?_)
  · replace hh1 := of_decide_eq_true hh1
    refine XO.guard_t rfl rfl ?_
    refine XO.val rfl rfl (OV.mv (v := .int _ _) rfl) ?_
    refine XO.guard_t rfl rfl ?_
    refine XO.val rfl rfl (OV.mv (v := .int _ _) rfl) ?_
    refine XO.guard_t rfl rfl ?_
    refine XO.val rfl rfl (OV.leq rfl rfl) ?_
    refine XO.val rfl rfl (OV.pick_t (v := .bool _) rfl rfl) ?_
    refine XO.val rfl rfl (OV.asg (v := .bool _) rfl) ?_
    refine XO.nil ?_
    refine XK.retTo (Fin.ret (.cons (.tmp (v := .bool _) rfl) .nil) .nil (by simp) ?_)
    refine ⟨congrArg Value.bool ?_, rfl⟩
    first | exact decide_eq_decide.2 (by omega) | exact (decide_eq_false (by omega)).symm
  · replace hh1 := of_decide_eq_false hh1
    iterate 3 refine XO.guard_f rfl rfl rfl rfl ?_
    refine XO.val rfl rfl (OV.pick_f (v := .bool _) rfl rfl) ?_
    refine XO.val rfl rfl (OV.asg (v := .bool _) rfl) ?_
    refine XO.nil ?_
    refine XK.retTo (Fin.ret (.cons (.tmp (v := .bool _) rfl) .nil) .nil (by simp) ?_)
    refine ⟨congrArg Value.bool ?_, rfl⟩
    first | exact decide_eq_decide.2 (by omega) | exact (decide_eq_false (by omega)).symm

theorem putter_ok (rs o : Nat) (at_ : Int) :
    Ct Try.prog 172 [.pointer (some ⟨rs, o, none⟩), .int .i64 at_] [] [] (fun v L => ∃ p q, v = .func (.func 239) #[] (List.toArray [.pointer (some ⟨p, 0, none⟩), .pointer (some ⟨q, 0, none⟩)]) ∧ L = [(p, cel [.pointer (some ⟨rs, o, none⟩)] 283), (q, cel [.int .i64 at_] 3)]) := by
  refine Ct.of (N := 6) (rs := [.tmp 4]) Try.func172 rfl rfl rfl (Nat.le_of_ble_eq_true rfl) (fun B => ?_)
  refine XK.seq ?_
  refine XK.region ?_
  refine XO.box (v := .pointer _) rfl rfl rfl (fun r2 hr2 => ?_)
  refine XO.box (v := .int _ _) rfl rfl rfl (fun r3 hr3 => ?_)
  refine XO.val rfl rfl (OV.asg (v := .nilFunc) rfl) ?_
  refine XO.nil ?_
  refine XK.seq ?_
  refine XK.region ?_
  refine XO.val rfl rfl (OV.mkF .nil (.cons (v := .pointer _) rfl (.cons (v := .pointer _) rfl .nil))) ?_
  refine XO.val rfl rfl (OV.asg (v := .func _ _ _) rfl) ?_
  refine XO.nil ?_
  refine XK.retTo (Fin.ret (.cons (.tmp (v := .func _ _ _) rfl) .nil) (.cons (x := (r2, _)) (by repeat (first | exact Del.hd | apply Del.tl | apply Del.app)) (by repeat (first | exact List.Mem.head _ | apply List.Mem.tail | apply List.mem_append_right)) (.cons (x := (r3, _)) (by repeat (first | exact Del.hd | apply Del.tl | apply Del.app)) (by repeat (first | exact List.Mem.head _ | apply List.Mem.tail | apply List.mem_append_right)) .nil)) (by simp_all) ?_)
  exact ⟨r2, r3, rfl, rfl⟩

theorem taker_ok (x : List Int) (at_ : Int) (hx : x.length = 64) :
    Ct Try.prog 237 [.agg (List.toArray (bys x)), .int .i64 at_] [] [] (fun v L => ∃ p q, v = .func (.func 259) #[] (List.toArray [.pointer (some ⟨q, 0, none⟩), .pointer (some ⟨p, 0, none⟩)]) ∧ L = [(p, cel (bys x) 157), (q, cel [.int .i64 at_] 3)]) := by
  refine Ct.of (N := 6) (rs := [.tmp 4]) Try.func237 rfl rfl rfl (Nat.le_of_ble_eq_true rfl) (fun B => ?_)
  refine XK.seq ?_
  refine XK.region ?_
  refine XO.box (v := .agg _) rfl rfl rfl (fun r2 hr2 => ?_)
  refine XO.box (v := .int _ _) rfl rfl rfl (fun r3 hr3 => ?_)
  refine XO.val rfl rfl (OV.asg (v := .nilFunc) rfl) ?_
  refine XO.nil ?_
  refine XK.seq ?_
  refine XK.region ?_
  refine XO.val rfl rfl (OV.mkF .nil (.cons (v := .pointer _) rfl (.cons (v := .pointer _) rfl .nil))) ?_
  refine XO.val rfl rfl (OV.asg (v := .func _ _ _) rfl) ?_
  refine XO.nil ?_
  refine XK.retTo (Fin.ret (.cons (.tmp (v := .func _ _ _) rfl) .nil) (.cons (x := (r2, _)) (by repeat (first | exact Del.hd | apply Del.tl | apply Del.app)) (by repeat (first | exact List.Mem.head _ | apply List.Mem.tail | apply List.mem_append_right)) (.cons (x := (r3, _)) (by repeat (first | exact Del.hd | apply Del.tl | apply Del.app)) (by repeat (first | exact List.Mem.head _ | apply List.Mem.tail | apply List.mem_append_right)) .nil)) (by simp_all) ?_)
  exact ⟨r2, r3, rfl, rfl⟩

theorem put1_ok (p q rs o : Nat) (n at_ : Int) (l : List Value) (E : Nat) (h0 : 0 ≤ at_) (h1 : at_ ≤ 60) (hl : o + 64 ≤ l.length) :
    CtM Try.prog 239 [.int .i64 n, .pointer (some ⟨p, 0, none⟩), .pointer (some ⟨q, 0, none⟩)] [(p, cel [.pointer (some ⟨rs, o, none⟩)] 283), (q, cel [.int .i64 at_] 3), (rs, cel l E)] [q, rs] (.tuple #[]) [(q, cel [.int .i64 (at_ + 4)] 3), (rs, cel (splice l (o + at_.toNat) (bys (b4 n))) E)] := by
  refine Ct.of (N := 36) (rs := []) Try.func239 rfl rfl rfl (Nat.le_of_ble_eq_true rfl) (fun B => ?_)
  refine XK.seq ?_
  refine XK.drawF [0, 1, 2, 3, 4, 5, 6, 7, 8, 9, 10, 11, 12, 13, 14, 15, 16, 17, 18, 19, 20, 21, 22, 23, 25, 26, 28, 29, 31, 32] [] [2, 3, 4, 5, 6, 7, 8, 9, 10, 14, 15, 16, 17, 18, 19, 20, 21, 25, 28, 31] [0, 1, 2, 3, 4, 5, 6, 7, 8, 9, 10, 11, 12, 13, 14, 15, 16, 17, 18, 19, 20, 21, 22, 23, 25, 28, 31, 24, 26, 27, 29, 30, 32, 33] [rs] Rec_mixed (by kernel_rfl) (by ((repeat (first | exact wrs_nil | (refine wrs_cons (by (first | exact .inr ‹_› | (left; ((repeat (first | exact List.Mem.head _ | apply List.Mem.tail)))))) ?_))))) (by repeat (first | exact Rem.nil | (apply Rem.cons; (repeat (first | exact Del.hd | apply Del.tl | apply Del.app))))) alc_none (fun w0 hw0 => ?_)
  refine TR.v rfl rfl .n rfl rfl rfl (OV.ld rfl Try.isAgg283 (by repeat (first | exact List.Mem.head _ | apply List.Mem.tail | apply List.mem_append_right)) rfl) ?_
  refine TR.v rfl rfl .n rfl rfl rfl (OV.ld rfl Try.isAgg3 (by repeat (first | exact List.Mem.head _ | apply List.Mem.tail | apply List.mem_append_right)) rfl) ?_
  refine TR.vf rfl rfl .n rfl rfl rfl (OV.ld rfl Try.isAgg283 (by repeat (first | exact List.Mem.head _ | apply List.Mem.tail | apply List.mem_append_right)) rfl) ?_
  refine TR.vf rfl rfl .n rfl rfl rfl (OV.ld rfl Try.isAgg3 (by repeat (first | exact List.Mem.head _ | apply List.Mem.tail | apply List.mem_append_right)) rfl) ?_
  refine TR.vf rfl rfl .n rfl rfl rfl (OV.add rfl rfl (wrap_in (by omega))) ?_
  refine TR.vf rfl rfl .n rfl rfl rfl (OV.ld rfl Try.isAgg283 (by repeat (first | exact List.Mem.head _ | apply List.Mem.tail | apply List.mem_append_right)) rfl) ?_
  refine TR.vf rfl rfl .n rfl rfl rfl (OV.ld rfl Try.isAgg3 (by repeat (first | exact List.Mem.head _ | apply List.Mem.tail | apply List.mem_append_right)) rfl) ?_
  refine TR.vf rfl rfl .n rfl rfl rfl (OV.add rfl rfl (wrap_in (by omega))) ?_
  refine TR.vf rfl rfl .n rfl rfl rfl (OV.ld rfl Try.isAgg283 (by repeat (first | exact List.Mem.head _ | apply List.Mem.tail | apply List.mem_append_right)) rfl) ?_
  refine TR.vf rfl rfl .n rfl rfl rfl (OV.ld rfl Try.isAgg3 (by repeat (first | exact List.Mem.head _ | apply List.Mem.tail | apply List.mem_append_right)) rfl) ?_
  refine TR.vf rfl rfl .n rfl rfl rfl (OV.add rfl rfl (wrap_in (by omega))) ?_
  refine TR.v rfl rfl .n rfl rfl rfl (OV.mv (v := .int _ _) rfl) ?_
  refine TR.v rfl rfl .n rfl rfl rfl (OV.shr rfl rfl (by decide) rfl) ?_
  refine TR.v rfl rfl .n rfl rfl rfl (OV.cvt rfl Try.runUnderlying2 rfl Try.runUnderlying5 (sh_u8 _ 24 16777216 (by decide) (by decide))) ?_
  refine TR.vf rfl rfl .n rfl rfl rfl (OV.mv (v := .int _ _) rfl) ?_
  refine TR.vf rfl rfl .n rfl rfl rfl (OV.shr rfl rfl (by decide) rfl) ?_
  refine TR.vf rfl rfl .n rfl rfl rfl (OV.cvt rfl Try.runUnderlying2 rfl Try.runUnderlying5 (sh_u8 _ 16 65536 (by decide) (by decide))) ?_
  refine TR.vf rfl rfl .n rfl rfl rfl (OV.mv (v := .int _ _) rfl) ?_
  refine TR.vf rfl rfl .n rfl rfl rfl (OV.shr rfl rfl (by decide) rfl) ?_
  refine TR.vf rfl rfl .n rfl rfl rfl (OV.cvt rfl Try.runUnderlying2 rfl Try.runUnderlying5 (sh_u8 _ 8 256 (by decide) (by decide))) ?_
  refine TR.vf rfl rfl .n rfl rfl rfl (OV.mv (v := .int _ _) rfl) ?_
  refine TR.vf rfl rfl .n rfl rfl rfl (OV.cvt rfl Try.runUnderlying2 rfl Try.runUnderlying5 (IntKind.wrap_u8 _)) ?_
  refine TR.v rfl rfl .n rfl rfl rfl (OV.nilc rfl) ?_
  refine TR.v rfl rfl .n rfl rfl rfl (OV.ixA rfl rfl Try.runUnderlying157 Try.sizeOf5 (by omega) (by omega)) ?_
  refine TR.vf rfl rfl .n rfl rfl rfl (OV.nilc rfl) ?_
  refine TR.vf rfl rfl .n rfl rfl rfl (OV.nilc rfl) ?_
  refine TR.vf rfl rfl .n rfl rfl rfl (OV.nilc rfl) ?_
  refine TR.go rfl rfl rfl rfl ?_
  refine XO.st rfl (v := .int _ _) rfl rfl Try.sizeOf5 (by repeat (first | exact Put.hd | apply Put.tl | apply Put.app)) (by (first | (simp only [List.length_append, bys_length, b4_len, zrs_len, headB_len, putHead_len, List.length_replicate, List.length_cons, List.length_nil, List.length_set, List.length_take, List.length_drop, recL_len]; omega) | omega | exact Nat.le_of_ble_eq_true rfl | (simp; done) | (simp; omega))) (by (first | exact .inr ‹_› | (left; ((repeat (first | exact List.Mem.head _ | apply List.Mem.tail)))))) ?_
  refine TR.back ?_
  refine TR.v rfl rfl .n rfl rfl rfl (OV.ixA rfl rfl Try.runUnderlying157 Try.sizeOf5 (by omega) (by omega)) ?_
  refine TR.go rfl rfl rfl rfl ?_
  refine XO.st rfl (v := .int _ _) rfl rfl Try.sizeOf5 (by repeat (first | exact Put.hd | apply Put.tl | apply Put.app)) (by (first | (simp only [List.length_append, bys_length, b4_len, zrs_len, headB_len, putHead_len, List.length_replicate, List.length_cons, List.length_nil, List.length_set, List.length_take, List.length_drop, recL_len]; omega) | omega | exact Nat.le_of_ble_eq_true rfl | (simp; done) | (simp; omega))) (by (first | exact .inr ‹_› | (left; ((repeat (first | exact List.Mem.head _ | apply List.Mem.tail)))))) ?_
  refine TR.back ?_
  refine TR.v rfl rfl .n rfl rfl rfl (OV.ixA rfl rfl Try.runUnderlying157 Try.sizeOf5 (by omega) (by omega)) ?_
  refine TR.go rfl rfl rfl rfl ?_
  refine XO.st rfl (v := .int _ _) rfl rfl Try.sizeOf5 (by repeat (first | exact Put.hd | apply Put.tl | apply Put.app)) (by (first | (simp only [List.length_append, bys_length, b4_len, zrs_len, headB_len, putHead_len, List.length_replicate, List.length_cons, List.length_nil, List.length_set, List.length_take, List.length_drop, recL_len]; omega) | omega | exact Nat.le_of_ble_eq_true rfl | (simp; done) | (simp; omega))) (by (first | exact .inr ‹_› | (left; ((repeat (first | exact List.Mem.head _ | apply List.Mem.tail)))))) ?_
  refine TR.back ?_
  refine TR.v rfl rfl .n rfl rfl rfl (OV.ixA rfl rfl Try.runUnderlying157 Try.sizeOf5 (by omega) (by omega)) ?_
  refine TR.go rfl rfl rfl rfl ?_
  refine XO.st rfl (v := .int _ _) rfl rfl Try.sizeOf5 (by repeat (first | exact Put.hd | apply Put.tl | apply Put.app)) (by (first | (simp only [List.length_append, bys_length, b4_len, zrs_len, headB_len, putHead_len, List.length_replicate, List.length_cons, List.length_nil, List.length_set, List.length_take, List.length_drop, recL_len]; omega) | omega | exact Nat.le_of_ble_eq_true rfl | (simp; done) | (simp; omega))) (by (first | exact .inr ‹_› | (left; ((repeat (first | exact List.Mem.head _ | apply List.Mem.tail)))))) ?_
  refine TR.back ?_
  refine TR.nil ?_
  refine XK.region ?_
  refine XO.val rfl rfl (OV.ld rfl Try.isAgg3 (by repeat (first | exact List.Mem.head _ | apply List.Mem.tail | apply List.mem_append_right)) rfl) ?_
  refine XO.val rfl rfl (OV.add rfl rfl (wrap_in (by omega))) ?_
  refine XO.st rfl (v := .int _ _) rfl rfl Try.sizeOf3 (by repeat (first | exact Put.hd | apply Put.tl | apply Put.app)) (by (first | (simp only [List.length_append, bys_length, b4_len, zrs_len, headB_len, putHead_len, List.length_replicate, List.length_cons, List.length_nil, List.length_set, List.length_take, List.length_drop, recL_len]; omega) | omega | exact Nat.le_of_ble_eq_true rfl | (simp; done) | (simp; omega))) (by (first | exact .inr ‹_› | (left; ((repeat (first | exact List.Mem.head _ | apply List.Mem.tail)))))) ?_
  refine XO.nil ?_
  refine XK.norTo (Fin.nor .nil (.cons (x := (q, _)) (by repeat (first | exact Del.hd | apply Del.tl | apply Del.app)) (by repeat (first | exact List.Mem.head _ | apply List.Mem.tail | apply List.mem_append_right)) (.cons (x := (rs, _)) (by repeat (first | exact Del.hd | apply Del.tl | apply Del.app)) (by repeat (first | exact List.Mem.head _ | apply List.Mem.tail | apply List.mem_append_right)) .nil)) (by simp) ?_)
  refine ⟨rfl, ?_⟩
  rw [set_b4 n (by omega) (by omega) (by omega) (by omega), show o + at_.toNat * 1 = o + at_.toNat from by omega]
  rfl

theorem take1_ok (p q : Nat) (at_ : Int) (x : List Int) (hx : x.length = 64) (hB : By x) (h0 : 0 ≤ at_) (h1 : at_ ≤ 60) :
    CtM Try.prog 259 [.pointer (some ⟨q, 0, none⟩), .pointer (some ⟨p, 0, none⟩)] [(p, cel (bys x) 157), (q, cel [.int .i64 at_] 3)] [q] (.int .i64 (t4 x at_.toNat)) [(q, cel [.int .i64 (at_ + 4)] 3)] := by
  refine Ct.of (N := 31) (rs := [.tmp 2]) Try.func259 rfl rfl rfl (Nat.le_of_ble_eq_true rfl) (fun B => ?_)
  refine XK.seq ?_
  refine XK.region ?_
  refine XO.val rfl rfl (OV.asg (v := .int _ _) rfl) ?_
  refine XO.nil ?_
  refine XK.seq ?_
  refine XK.region ?_
  refine XO.val rfl rfl (OV.ld rfl Try.isAgg3 (by repeat (first | exact List.Mem.head _ | apply List.Mem.tail | apply List.mem_append_right)) rfl) ?_
  refine XO.val rfl rfl (OV.add rfl rfl (wrap_in (by omega))) ?_
  refine XO.st rfl (v := .int _ _) rfl rfl Try.sizeOf3 (by repeat (first | exact Put.hd | apply Put.tl | apply Put.app)) (by (first | (simp only [List.length_append, bys_length, b4_len, zrs_len, headB_len, putHead_len, List.length_replicate, List.length_cons, List.length_nil, List.length_set, List.length_take, List.length_drop, recL_len]; omega) | omega | exact Nat.le_of_ble_eq_true rfl | (simp; done) | (simp; omega))) (by (first | exact .inr ‹_› | (left; ((repeat (first | exact List.Mem.head _ | apply List.Mem.tail)))))) ?_
  refine XO.nil ?_
  refine XK.seq ?_
  refine XK.draw [0, 1, 2, 3, 4, 5, 6, 7, 8, 9, 10, 11, 12, 13, 14, 15, 16, 17, 18, 19, 20, 21, 22, 23, 24, 25, 26] [] [] [0, 1, 2, 3, 4, 5, 6, 7, 8, 9, 10, 11, 12, 13, 14, 15, 16, 17, 18, 19, 20, 21, 22, 23, 24, 25, 26] Rec_mixed (by kernel_rfl) alc_none ?_
  refine TR.v rfl rfl .n rfl rfl rfl (OV.ld rfl Try.isAgg3 (by repeat (first | exact List.Mem.head _ | apply List.Mem.tail | apply List.mem_append_right)) rfl) ?_
  refine TR.v rfl rfl .n rfl rfl rfl (OV.sub rfl rfl (wrap_in (by omega))) ?_
  refine TR.v rfl rfl .n rfl rfl rfl (OV.ixA rfl rfl Try.runUnderlying157 Try.sizeOf5 (by omega) (by omega)) ?_
  refine TR.v rfl rfl .n rfl rfl rfl (OV.ld rfl Try.isAgg5 (by repeat (first | exact List.Mem.head _ | apply List.Mem.tail | apply List.mem_append_right)) (nth_bys (by omega))) ?_
  refine TR.v rfl rfl .n rfl rfl rfl (OV.cvt rfl Try.runUnderlying5 rfl Try.runUnderlying2 (cvt_byte (hB.get _))) ?_
  refine TR.v rfl rfl .n rfl rfl rfl (OV.shl rfl rfl (by decide) (shl_byte (hB.get _) 24 16777216 (by decide) (by decide))) ?_
  refine TR.v rfl rfl .n rfl rfl rfl (OV.ld rfl Try.isAgg3 (by repeat (first | exact List.Mem.head _ | apply List.Mem.tail | apply List.mem_append_right)) rfl) ?_
  refine TR.v rfl rfl .n rfl rfl rfl (OV.sub rfl rfl (wrap_in (by omega))) ?_
  refine TR.v rfl rfl .n rfl rfl rfl (OV.ixA rfl rfl Try.runUnderlying157 Try.sizeOf5 (by omega) (by omega)) ?_
  refine TR.v rfl rfl .n rfl rfl rfl (OV.ld rfl Try.isAgg5 (by repeat (first | exact List.Mem.head _ | apply List.Mem.tail | apply List.mem_append_right)) (nth_bys (by omega))) ?_
  refine TR.v rfl rfl .n rfl rfl rfl (OV.cvt rfl Try.runUnderlying5 rfl Try.runUnderlying2 (cvt_byte (hB.get _))) ?_
  refine TR.v rfl rfl .n rfl rfl rfl (OV.shl rfl rfl (by decide) (shl_byte (hB.get _) 16 65536 (by decide) (by decide))) ?_
  refine TR.v rfl rfl .n rfl rfl rfl (OV.orB rfl rfl (or_b1 (hB.get _) (hB.get _))) ?_
  refine TR.v rfl rfl .n rfl rfl rfl (OV.ld rfl Try.isAgg3 (by repeat (first | exact List.Mem.head _ | apply List.Mem.tail | apply List.mem_append_right)) rfl) ?_
  refine TR.v rfl rfl .n rfl rfl rfl (OV.sub rfl rfl (wrap_in (by omega))) ?_
  refine TR.v rfl rfl .n rfl rfl rfl (OV.ixA rfl rfl Try.runUnderlying157 Try.sizeOf5 (by omega) (by omega)) ?_
  refine TR.v rfl rfl .n rfl rfl rfl (OV.ld rfl Try.isAgg5 (by repeat (first | exact List.Mem.head _ | apply List.Mem.tail | apply List.mem_append_right)) (nth_bys (by omega))) ?_
  refine TR.v rfl rfl .n rfl rfl rfl (OV.cvt rfl Try.runUnderlying5 rfl Try.runUnderlying2 (cvt_byte (hB.get _))) ?_
  refine TR.v rfl rfl .n rfl rfl rfl (OV.shl rfl rfl (by decide) (shl_byte (hB.get _) 8 256 (by decide) (by decide))) ?_
  refine TR.v rfl rfl .n rfl rfl rfl (OV.orB rfl rfl (or_b2 (hB.get _) (hB.get _) (hB.get _))) ?_
  refine TR.v rfl rfl .n rfl rfl rfl (OV.ld rfl Try.isAgg3 (by repeat (first | exact List.Mem.head _ | apply List.Mem.tail | apply List.mem_append_right)) rfl) ?_
  refine TR.v rfl rfl .n rfl rfl rfl (OV.sub rfl rfl (wrap_in (by omega))) ?_
  refine TR.v rfl rfl .n rfl rfl rfl (OV.ixA rfl rfl Try.runUnderlying157 Try.sizeOf5 (by omega) (by omega)) ?_
  refine TR.v rfl rfl .n rfl rfl rfl (OV.ld rfl Try.isAgg5 (by repeat (first | exact List.Mem.head _ | apply List.Mem.tail | apply List.mem_append_right)) (nth_bys (by omega))) ?_
  refine TR.v rfl rfl .n rfl rfl rfl (OV.cvt rfl Try.runUnderlying5 rfl Try.runUnderlying2 (cvt_byte (hB.get _))) ?_
  refine TR.v rfl rfl .n rfl rfl rfl (OV.orB rfl rfl (or_b3 (hB.get _) (hB.get _) (hB.get _) (hB.get _))) ?_
  refine TR.v rfl rfl .n rfl rfl rfl (OV.asg (v := .int _ _) rfl) ?_
  refine TR.nil ?_
  refine XK.retTo (Fin.ret (.cons (.tmp (v := .int _ _) rfl) .nil) (.cons (x := (q, _)) (by repeat (first | exact Del.hd | apply Del.tl | apply Del.app)) (by repeat (first | exact List.Mem.head _ | apply List.Mem.tail | apply List.mem_append_right)) .nil) (by simp) ?_)
  refine ⟨congrArg (Value.int .i64) ?_, rfl⟩
  rw [show 0 + (at_ + 4 - 4).toNat * 1 = at_.toNat from by omega, show 0 + (at_ + 4 - 3).toNat * 1 = at_.toNat + 1 from by omega, show 0 + (at_ + 4 - 2).toNat * 1 = at_.toNat + 2 from by omega, show 0 + (at_ + 4 - 1).toNat * 1 = at_.toNat + 3 from by omega]
  rfl

end Go.Proofs.Ythophgadmkjamaa
