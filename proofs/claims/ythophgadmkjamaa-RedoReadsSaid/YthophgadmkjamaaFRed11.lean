/- Contracts of functions, printed by a program of this claim (wip/tools/gen.py). -/
import Derived.Test.YthophgadmkjamaaFLaw06c
import Derived.Test.YthophgadmkjamaaFRed10
import Derived.KernelRfl
set_option maxRecDepth 20000
set_option linter.unusedVariables false
set_option linter.unusedSimpArgs false
namespace Go.Proofs.Ythophgadmkjamaa
open Go Go.Mw Go.Proofs

theorem Red11_zv_4 : ∀ w, (zeroValue 4).run Try.prog w = .ok (.bool false) w := fun w => by kernel_rfl
theorem Red11_fa_23_0 : FA Try.prog 23 0 0 := FA.of (n := 0) Try.runUnderlying23 rfl rfl Try.sizeOf3
theorem Red11_zv_38 : ∀ w, (zeroValue 38).run Try.prog w = .ok (.agg (List.toArray ([.int .i64 0, .int .i64 0, .int .i64 0] ++ List.replicate 96 (.int .u8 0) ++ [.int .i64 0]))) w := fun w => by kernel_rfl
theorem Red11_fa_38_0 : FA Try.prog 38 0 0 := FA.of (n := 0) Try.runUnderlying38 rfl rfl Try.sizeOf3
theorem Red11_fa_38_1 : FA Try.prog 38 1 1 := FA.of (n := 0) Try.runUnderlying38 rfl rfl Try.sizeOf3
theorem Red11_fa_38_2 : FA Try.prog 38 2 2 := FA.of (n := 96) Try.runUnderlying38 rfl rfl Try.sizeOf36
theorem Red11_zv_2 : ∀ w, (zeroValue 2).run Try.prog w = .ok (.int .i64 0) w := fun w => by kernel_rfl
theorem Red11_zv_43 : ∀ w, (zeroValue 43).run Try.prog w = .ok (.slice none 0 0) w := fun w => by kernel_rfl
theorem Red11_mixed : Try.prog.follows .mixedOrders = true := by kernel_rfl
theorem Red11_fa_23_3 : FA Try.prog 23 3 3 := FA.of (n := 0) Try.runUnderlying23 rfl rfl Try.sizeOf3
theorem Red11_zv_3 : ∀ w, (zeroValue 3).run Try.prog w = .ok (.int .i64 0) w := fun w => by kernel_rfl
theorem Red11_zv_52 : ∀ w, (zeroValue 52).run Try.prog w = .ok (.agg (List.toArray ([.int .i64 0, .int .i64 0, .int .i64 0, .int .i64 0, .int .i64 0] ++ List.replicate 96 (.int .u8 0)))) w := fun w => by kernel_rfl
theorem Red11_flat_7_3 : Flat Try.prog 7 3 ([true]) := .inl ⟨⟨.i64, by kernel_rfl⟩, rfl, Try.isAgg3, Try.sizeOf3⟩
theorem Red11_flat_7_2 : Flat Try.prog 7 2 ([true]) := .inl ⟨⟨.i64, by kernel_rfl⟩, rfl, Try.isAgg2, Try.sizeOf2⟩
theorem Red11_flat_6_5 : Flat Try.prog 6 5 ([true]) := .inl ⟨⟨.u8, by kernel_rfl⟩, rfl, Try.isAgg5, Try.sizeOf5⟩
theorem Red11_flat_7_34 : Flat Try.prog 7 34 (List.replicate 96 true) := .inr (.inr (.inl ⟨96, 5, [true], (Try.prog.info? 5).get (by kernel_rfl), by kernel_rfl, by kernel_rfl, by kernel_rfl, Red11_flat_6_5, by kernel_rfl, Try.isAgg34, Try.sizeOf34⟩))
theorem Red11_flat_8_52 : Flat Try.prog 8 52 (([true]) ++ ([true]) ++ ([true]) ++ ([true]) ++ ([true]) ++ (List.replicate 96 true) ++ []) := .inr (.inr (.inr ⟨by kernel_rfl, by kernel_rfl, ⟨rfl, by decide, [true], _, rfl, Red11_flat_7_3, ⟨rfl, by decide, [true], _, rfl, Red11_flat_7_2, ⟨rfl, by decide, [true], _, rfl, Red11_flat_7_2, ⟨rfl, by decide, [true], _, rfl, Red11_flat_7_3, ⟨rfl, by decide, [true], _, rfl, Red11_flat_7_2, ⟨rfl, by decide, List.replicate 96 true, _, rfl, Red11_flat_7_34, rfl⟩⟩⟩⟩⟩⟩, Try.isAgg52, Try.sizeOf52⟩))
theorem Red11_eqg_52 : Try.prog.eqGuardType Try.prog.depth 52 = false := by kernel_rfl
theorem Red11_fa_52_2 : FA Try.prog 52 2 2 := FA.of (n := 0) Try.runUnderlying52 rfl rfl Try.sizeOf2
theorem Red11_fa_52_0 : FA Try.prog 52 0 0 := FA.of (n := 0) Try.runUnderlying52 rfl rfl Try.sizeOf3
theorem Red11_fa_52_1 : FA Try.prog 52 1 1 := FA.of (n := 0) Try.runUnderlying52 rfl rfl Try.sizeOf2
theorem Red11_fa_38_3 : FA Try.prog 38 3 99 := FA.of (n := 0) Try.runUnderlying38 rfl rfl Try.sizeOf2

set_option maxHeartbeats 8000000 in
theorem redoReads_nil (j : Job) (node : Int) (a : Option Addr) (cap : Nat) :
    CtV Try.prog 3 [jobV j, .int .i64 node, .slice a 0 cap] [] (.bool true) := by
  refine Ct.ofM (N := 171) (rs := [.cell 6 4]) Try.func3 rfl rfl rfl (Nat.le_of_ble_eq_true rfl) (fun B => ?_)
  refine XK.seq ?_
  refine XK.region ?_
  refine XO.box (v := .agg _) rfl rfl rfl (fun r3 hr3 => ?_)
  refine XO.box (v := .int _ _) rfl rfl rfl (fun r4 hr4 => ?_)
  refine XO.alloc rfl Red11_zv_4 rfl (fun r6 hr6 => ?_)
  refine XO.nil ?_
  refine XK.seq ?_
  refine XK.seq ?_
  refine XK.region ?_
  refine XO.val rfl rfl (OV.ldA rfl Try.isAgg23 Try.sizeOf23 (by repeat (first | exact List.Mem.head _ | apply List.Mem.tail | apply List.mem_append_right)) (grab_all (by (first | assumption | (simp only [List.length_append, bys_length, b4_len, zrs_len, headB_len, putHead_len, List.length_replicate, List.length_cons, List.length_nil, List.length_set, List.length_take, List.length_drop, recL_len]; done) | (simp only [List.length_append, bys_length, b4_len, zrs_len, headB_len, putHead_len, List.length_replicate, List.length_cons, List.length_nil, List.length_set, List.length_take, List.length_drop, recL_len]; omega) | rfl | (simp [*, bys_length]; done) | (simp [*, bys_length]; omega)))) (by (first | assumption | (simp only [List.length_append, bys_length, b4_len, zrs_len, headB_len, putHead_len, List.length_replicate, List.length_cons, List.length_nil, List.length_set, List.length_take, List.length_drop, recL_len]; done) | (simp only [List.length_append, bys_length, b4_len, zrs_len, headB_len, putHead_len, List.length_replicate, List.length_cons, List.length_nil, List.length_set, List.length_take, List.length_drop, recL_len]; omega) | rfl | (simp [*, bys_length]; done) | (simp [*, bys_length]; omega)))) ?_
  refine XO.callV (cap := []) rfl rfl (.cons (v := .agg _) rfl .nil) Try.call13 (refMay_ok j) (by repeat (first | exact Sel.nil | refine Sel.cons (by repeat (first | exact Del.hd | apply Del.tl | apply Del.app)) (by repeat (first | exact List.Mem.head _ | apply List.Mem.tail | apply List.mem_append_right)) ?_)) ?_
  refine XO.val rfl rfl (OV.notB rfl) ?_
  refine XO.val rfl rfl (OV.mv (v := .bool _) rfl) ?_
  refine XO.split (t := 21) rfl (fun hh1 => ?_) (fun hh1 => ?_)
  · replace hh1 := bnot_t hh1
    try replace hh1 := of_decide_eq_false hh1
    iterate 2 refine XO.guard_f rfl rfl rfl rfl ?_
    refine XO.val rfl rfl (OV.pick_t (v := .bool _) rfl rfl) ?_
    refine XO.val rfl rfl (OV.mv (v := .bool _) rfl) ?_
    iterate 4 refine XO.guard_f rfl rfl rfl rfl ?_
    refine XO.val rfl rfl (OV.pick_t (v := .bool _) rfl rfl) ?_
    refine XO.val rfl rfl (OV.mv (v := .bool _) rfl) ?_
    iterate 3 refine XO.guard_f rfl rfl rfl rfl ?_
    refine XO.val rfl rfl (OV.pick_t (v := .bool _) rfl rfl) ?_
    refine XO.nil ?_
    refine XK.cond_t rfl ?_
    refine XK.seq ?_
    refine XK.region ?_
    refine XO.callV (cap := []) rfl rfl .nil Try.call14 (known_ok) (by repeat (first | exact Sel.nil | refine Sel.cons (by repeat (first | exact Del.hd | apply Del.tl | apply Del.app)) (by repeat (first | exact List.Mem.head _ | apply List.Mem.tail | apply List.mem_append_right)) ?_)) ?_
    refine XO.st rfl (v := .bool _) rfl rfl Try.sizeOf4 (by repeat (first | exact Put.hd | apply Put.tl | apply Put.app)) (by (first | (simp only [List.length_append, bys_length, b4_len, zrs_len, headB_len, putHead_len, List.length_replicate, List.length_cons, List.length_nil, List.length_set, List.length_take, List.length_drop, recL_len]; omega) | omega | exact Nat.le_of_ble_eq_true rfl | (simp; done) | (simp; omega))) (by (first | exact .inr ‹_› | (left; ((repeat (first | exact List.Mem.head _ | apply List.Mem.tail)))))) ?_
    refine XO.nil ?_
    refine XK.retTo (FinM.ret (by first | exact Marks.nil | exact Marks.seg (by (repeat (first | exact TakL.hd | with_reducible exact TakL.hdA | exact TakL.last | apply TakL.tl | with_reducible apply TakL.nilA | apply TakL.app | with_reducible apply TakL.appA))) (fun D hD => .inr (hI.2.2.2.2 D hD))) (.cons (.cell rfl Try.isAgg4 (by repeat (first | exact List.Mem.head _ | apply List.Mem.tail | apply List.mem_append_right)) rfl) .nil) .nil (by simp) ?_)
    exact ⟨rfl, rfl⟩
  · replace hh1 := bnot_f hh1
    try replace hh1 := of_decide_eq_true hh1
    have hmay : j.may = true := by first | exact hh1 | exact decide_eq_true hh1
    have hj := of_decide_eq_true hmay
    refine XO.guard_t rfl rfl ?_
    refine XO.val rfl rfl (OV.ld rfl Try.isAgg3 (by repeat (first | exact List.Mem.head _ | apply List.Mem.tail | apply List.mem_append_right)) rfl) ?_
    refine XO.guard_t rfl rfl ?_
    refine XO.val rfl rfl (OV.lss rfl rfl) ?_
    refine XO.val rfl rfl (OV.pick_f (v := .bool _) rfl rfl) ?_
    refine XO.val rfl rfl (OV.mv (v := .bool _) rfl) ?_
    refine XO.split (t := 25) rfl (fun hh2 => ?_) (fun hh2 => ?_)
    · replace hh2 := of_decide_eq_true hh2
      iterate 4 refine XO.guard_f rfl rfl rfl rfl ?_
      refine XO.val rfl rfl (OV.pick_t (v := .bool _) rfl rfl) ?_
      refine XO.val rfl rfl (OV.mv (v := .bool _) rfl) ?_
      iterate 3 refine XO.guard_f rfl rfl rfl rfl ?_
      refine XO.val rfl rfl (OV.pick_t (v := .bool _) rfl rfl) ?_
      refine XO.nil ?_
      refine XK.cond_t rfl ?_
      refine XK.seq ?_
      refine XK.region ?_
      refine XO.callV (cap := []) rfl rfl .nil Try.call14 (known_ok) (by repeat (first | exact Sel.nil | refine Sel.cons (by repeat (first | exact Del.hd | apply Del.tl | apply Del.app)) (by repeat (first | exact List.Mem.head _ | apply List.Mem.tail | apply List.mem_append_right)) ?_)) ?_
      refine XO.st rfl (v := .bool _) rfl rfl Try.sizeOf4 (by repeat (first | exact Put.hd | apply Put.tl | apply Put.app)) (by (first | (simp only [List.length_append, bys_length, b4_len, zrs_len, headB_len, putHead_len, List.length_replicate, List.length_cons, List.length_nil, List.length_set, List.length_take, List.length_drop, recL_len]; omega) | omega | exact Nat.le_of_ble_eq_true rfl | (simp; done) | (simp; omega))) (by (first | exact .inr ‹_› | (left; ((repeat (first | exact List.Mem.head _ | apply List.Mem.tail)))))) ?_
      refine XO.nil ?_
      refine XK.retTo (FinM.ret (by first | exact Marks.nil | exact Marks.seg (by (repeat (first | exact TakL.hd | with_reducible exact TakL.hdA | exact TakL.last | apply TakL.tl | with_reducible apply TakL.nilA | apply TakL.app | with_reducible apply TakL.appA))) (fun D hD => .inr (hI.2.2.2.2 D hD))) (.cons (.cell rfl Try.isAgg4 (by repeat (first | exact List.Mem.head _ | apply List.Mem.tail | apply List.mem_append_right)) rfl) .nil) .nil (by simp) ?_)
      exact ⟨rfl, rfl⟩
    · replace hh2 := of_decide_eq_false hh2
      refine XO.guard_t rfl rfl ?_
      refine XO.val rfl rfl (OV.ld rfl Try.isAgg3 (by repeat (first | exact List.Mem.head _ | apply List.Mem.tail | apply List.mem_append_right)) rfl) ?_
      refine XO.guard_t rfl rfl ?_
      refine XO.val rfl rfl (OV.fa rfl Red11_fa_23_0) ?_
      refine XO.guard_t rfl rfl ?_
      refine XO.val rfl rfl (OV.ld rfl Try.isAgg3 (by repeat (first | exact List.Mem.head _ | apply List.Mem.tail | apply List.mem_append_right)) rfl) ?_
      refine XO.guard_t rfl rfl ?_
      refine XO.val rfl rfl (OV.geq rfl rfl) ?_
      refine XO.val rfl rfl (OV.pick_f (v := .bool _) rfl rfl) ?_
      refine XO.val rfl rfl (OV.mv (v := .bool _) rfl) ?_
      refine XO.split (t := 31) rfl (fun hh3 => ?_) (fun hh3 => ?_)
      · replace hh3 := of_decide_eq_true hh3
        iterate 3 refine XO.guard_f rfl rfl rfl rfl ?_
        refine XO.val rfl rfl (OV.pick_t (v := .bool _) rfl rfl) ?_
        refine XO.nil ?_
        refine XK.cond_t rfl ?_
        refine XK.seq ?_
        refine XK.region ?_
        refine XO.callV (cap := []) rfl rfl .nil Try.call14 (known_ok) (by repeat (first | exact Sel.nil | refine Sel.cons (by repeat (first | exact Del.hd | apply Del.tl | apply Del.app)) (by repeat (first | exact List.Mem.head _ | apply List.Mem.tail | apply List.mem_append_right)) ?_)) ?_
        refine XO.st rfl (v := .bool _) rfl rfl Try.sizeOf4 (by repeat (first | exact Put.hd | apply Put.tl | apply Put.app)) (by (first | (simp only [List.length_append, bys_length, b4_len, zrs_len, headB_len, putHead_len, List.length_replicate, List.length_cons, List.length_nil, List.length_set, List.length_take, List.length_drop, recL_len]; omega) | omega | exact Nat.le_of_ble_eq_true rfl | (simp; done) | (simp; omega))) (by (first | exact .inr ‹_› | (left; ((repeat (first | exact List.Mem.head _ | apply List.Mem.tail)))))) ?_
        refine XO.nil ?_
        refine XK.retTo (FinM.ret (by first | exact Marks.nil | exact Marks.seg (by (repeat (first | exact TakL.hd | with_reducible exact TakL.hdA | exact TakL.last | apply TakL.tl | with_reducible apply TakL.nilA | apply TakL.app | with_reducible apply TakL.appA))) (fun D hD => .inr (hI.2.2.2.2 D hD))) (.cons (.cell rfl Try.isAgg4 (by repeat (first | exact List.Mem.head _ | apply List.Mem.tail | apply List.mem_append_right)) rfl) .nil) .nil (by simp) ?_)
        exact ⟨rfl, rfl⟩
      · replace hh3 := of_decide_eq_false hh3
        have h0 : 0 ≤ node := by omega
        have h1 : node < j.nodes := by omega
        refine XO.guard_t rfl rfl ?_
        refine XO.val rfl rfl (OV.mv (v := .slice _ _ _) rfl) ?_
        refine XO.guard_t rfl rfl ?_
        refine XO.val rfl rfl (OV.lenS rfl Try.runUnderlying24) ?_
        refine XO.guard_t rfl rfl ?_
        refine XO.val rfl rfl (OV.gtr rfl rfl) ?_
        refine XO.val rfl rfl (OV.pick_f (v := .bool _) rfl rfl) ?_
        refine XO.nil ?_
        refine XK.split (t := 35) rfl (fun hh4 => ?_) (fun hh4 => ?_)
        · replace hh4 := of_decide_eq_true hh4
          refine XK.cond_t rfl ?_
          refine XK.seq ?_
          refine XK.region ?_
          refine XO.callV (cap := []) rfl rfl .nil Try.call14 (known_ok) (by repeat (first | exact Sel.nil | refine Sel.cons (by repeat (first | exact Del.hd | apply Del.tl | apply Del.app)) (by repeat (first | exact List.Mem.head _ | apply List.Mem.tail | apply List.mem_append_right)) ?_)) ?_
          refine XO.st rfl (v := .bool _) rfl rfl Try.sizeOf4 (by repeat (first | exact Put.hd | apply Put.tl | apply Put.app)) (by (first | (simp only [List.length_append, bys_length, b4_len, zrs_len, headB_len, putHead_len, List.length_replicate, List.length_cons, List.length_nil, List.length_set, List.length_take, List.length_drop, recL_len]; omega) | omega | exact Nat.le_of_ble_eq_true rfl | (simp; done) | (simp; omega))) (by (first | exact .inr ‹_› | (left; ((repeat (first | exact List.Mem.head _ | apply List.Mem.tail)))))) ?_
          refine XO.nil ?_
          refine XK.retTo (FinM.ret (by first | exact Marks.nil | exact Marks.seg (by (repeat (first | exact TakL.hd | with_reducible exact TakL.hdA | exact TakL.last | apply TakL.tl | with_reducible apply TakL.nilA | apply TakL.app | with_reducible apply TakL.appA))) (fun D hD => .inr (hI.2.2.2.2 D hD))) (.cons (.cell rfl Try.isAgg4 (by repeat (first | exact List.Mem.head _ | apply List.Mem.tail | apply List.mem_append_right)) rfl) .nil) .nil (by simp) ?_)
          exact ⟨rfl, rfl⟩
        · replace hh4 := of_decide_eq_false hh4
          refine XK.cond_f rfl ?_
          refine XK.skip ?_
          refine XK.seq ?_
          refine XK.region ?_
          refine XO.val rfl rfl (OV.ldA rfl Try.isAgg23 Try.sizeOf23 (by repeat (first | exact List.Mem.head _ | apply List.Mem.tail | apply List.mem_append_right)) (grab_all (by (first | assumption | (simp only [List.length_append, bys_length, b4_len, zrs_len, headB_len, putHead_len, List.length_replicate, List.length_cons, List.length_nil, List.length_set, List.length_take, List.length_drop, recL_len]; done) | (simp only [List.length_append, bys_length, b4_len, zrs_len, headB_len, putHead_len, List.length_replicate, List.length_cons, List.length_nil, List.length_set, List.length_take, List.length_drop, recL_len]; omega) | rfl | (simp [*, bys_length]; done) | (simp [*, bys_length]; omega)))) (by (first | assumption | (simp only [List.length_append, bys_length, b4_len, zrs_len, headB_len, putHead_len, List.length_replicate, List.length_cons, List.length_nil, List.length_set, List.length_take, List.length_drop, recL_len]; done) | (simp only [List.length_append, bys_length, b4_len, zrs_len, headB_len, putHead_len, List.length_replicate, List.length_cons, List.length_nil, List.length_set, List.length_take, List.length_drop, recL_len]; omega) | rfl | (simp [*, bys_length]; done) | (simp [*, bys_length]; omega)))) ?_
          refine XO.callG (cap := []) rfl rfl (.cons (v := .agg _) rfl .nil) Try.call15 (lawNew_ok j hmay) (by repeat (first | exact Sel.nil | refine Sel.cons (by repeat (first | exact Del.hd | apply Del.tl | apply Del.app)) (by repeat (first | exact List.Mem.head _ | apply List.Mem.tail | apply List.mem_append_right)) ?_)) (by ((repeat (first | exact wrs_nil | (refine wrs_cons (by (first | exact .inr ‹_› | (left; ((repeat (first | exact List.Mem.head _ | apply List.Mem.tail)))))) ?_))))) .nil ?_
          rintro _ _ ⟨r, s, rfl, rfl⟩ hn0
          have hr : B.heap.size ≤ r := (hn0 _ (.head _)).resolve_left (by simp)
          have hs : B.heap.size ≤ s := (hn0 _ (.tail _ (.head _))).resolve_left (by simp)
          have J0 := LInv.start hmay h0 h1
          refine XO.val rfl rfl (OV.asg (v := .pointer _) rfl) ?_
          refine XO.nil ?_
          refine XK.seq ?_
          refine XK.region ?_
          refine XO.val rfl rfl (OV.mv (v := .pointer _) rfl) ?_
          refine XO.val rfl rfl (OV.ldA rfl Try.isAgg23 Try.sizeOf23 (by repeat (first | exact List.Mem.head _ | apply List.Mem.tail | apply List.mem_append_right)) (grab_all (by (first | assumption | (simp only [List.length_append, bys_length, b4_len, zrs_len, headB_len, putHead_len, List.length_replicate, List.length_cons, List.length_nil, List.length_set, List.length_take, List.length_drop, recL_len]; done) | (simp only [List.length_append, bys_length, b4_len, zrs_len, headB_len, putHead_len, List.length_replicate, List.length_cons, List.length_nil, List.length_set, List.length_take, List.length_drop, recL_len]; omega) | rfl | (simp [*, bys_length]; done) | (simp [*, bys_length]; omega)))) (by (first | assumption | (simp only [List.length_append, bys_length, b4_len, zrs_len, headB_len, putHead_len, List.length_replicate, List.length_cons, List.length_nil, List.length_set, List.length_take, List.length_drop, recL_len]; done) | (simp only [List.length_append, bys_length, b4_len, zrs_len, headB_len, putHead_len, List.length_replicate, List.length_cons, List.length_nil, List.length_set, List.length_take, List.length_drop, recL_len]; omega) | rfl | (simp [*, bys_length]; done) | (simp [*, bys_length]; omega)))) ?_
          refine XO.val rfl rfl (OV.ld rfl Try.isAgg3 (by repeat (first | exact List.Mem.head _ | apply List.Mem.tail | apply List.mem_append_right)) rfl) ?_
          refine XO.callG (cap := []) rfl rfl (.cons (v := .pointer _) rfl (.cons (v := .agg _) rfl (.cons (v := .int _ _) rfl (.cons (v := .int _ _) rfl .nil)))) Try.call16 (redoOpen_ok r s (jobDev j) J0.dwf j hmay node h0 h1 (by rw [J0.size]; exact Int.le_refl _) 1 (by decide) (by decide) (by obtain ⟨_, _, h⟩ := J0.hd; rw [h])) (by repeat (first | exact Sel.nil | refine Sel.cons (by repeat (first | exact Del.hd | apply Del.tl | apply Del.app)) (by repeat (first | exact List.Mem.head _ | apply List.Mem.tail | apply List.mem_append_right)) ?_)) (by ((repeat (first | exact wrs_nil | (refine wrs_cons (by (first | exact .inr ‹_› | (left; ((repeat (first | exact List.Mem.head _ | apply List.Mem.tail)))))) ?_))))) .nil ?_
          rintro _ _ ⟨g, sl0, rfl, rfl, hO0⟩ hn1
          have hg : B.heap.size ≤ g := (hn1 _ (.head _)).resolve_left (by simp)
          have hk0 := slK_of (p := fun r => B.heap.size ≤ r) (fun x hx => (hn1 x (.tail _ hx)).resolve_left (by simp))
          refine XO.val rfl rfl (OV.mv (v := .tuple _) rfl) ?_
          refine XO.val rfl rfl (OV.ext rfl rfl) ?_
          refine XO.val rfl rfl (OV.ext rfl rfl) ?_
          refine XO.val rfl rfl (OV.asg (v := .pointer _) rfl) ?_
          refine XO.val rfl rfl (OV.asg (v := .int _ _) rfl) ?_
          refine XO.nil ?_
          refine XK.seq ?_
          refine XK.seq ?_
          refine XK.region ?_
          refine XO.val rfl rfl (OV.mv (v := .int _ _) rfl) ?_
          refine XO.val rfl rfl (OV.neq rfl rfl) ?_
          refine XO.nil ?_
          refine XK.say (v := .bool false) 47 rfl (congrArg Value.bool (rfl)) ?_
          refine XK.cond_f rfl ?_
          refine XK.skip ?_
          refine XK.seq ?_
          refine XK.seq ?_
          refine XK.region ?_
          refine XO.val rfl rfl (OV.asg (v := .int _ _) rfl) ?_
          refine XO.nil ?_
          refine XK.block ?_
          refine XK.loopD (X := S6) (lc := [(2, .slice _ _ _), (3, .pointer _), (4, .pointer _), (6, .pointer _), (7, .pointer _), (8, .pointer _)]) (lv := fun (x : S6) => [(10, .int .i64 (x.i : Int))]) (Lf := fun (x : S6) => [(g, cel (lgL r x.sl x.G) 155), (r, cel (devL s x.D) 86), (s, cel (secL x.D) 157), (r3, cel (jobL j) 23), (r4, cel [.int .i64 node] 3), (r6, cel [.bool false] 4)] ++ (slB x.sl (recsL x.G.l) 52 ++ mkB x.Ds)) (I := fun (x : S6) => x.i ≤ 0 ∧ LInv j node x.i x.G x.D ∧ Mw.Own x.sl x.G.l.length (recsL x.G.l) 101 ∧ (∀ r ∈ slK x.sl, B.heap.size ≤ r) ∧ ∀ D ∈ x.Ds, B.heap.size ≤ D) (df := fun (x : S6) => mkDs x.Ds) (μ := fun (x : S6) => 0 - x.i) ⟨0, openG (jobDev j) j node 1, jobDev j, sl0, []⟩ ⟨rfl, rfl, rfl, rfl, rfl, rfl, trivial⟩ ⟨rfl, trivial⟩ rfl (by (repeat (first | exact Sel.nil | refine Sel.cons (by repeat (first | exact Del.hd | apply Del.tl | apply Del.app)) (by repeat (first | exact List.Mem.head _ | apply List.Mem.tail | apply List.mem_append_right)) ?_ | (apply Sel.seg1; ((repeat (first | exact TakL.hd | with_reducible exact TakL.hdA | exact TakL.last | apply TakL.tl | with_reducible apply TakL.nilA | apply TakL.app | with_reducible apply TakL.appA)); done)) | with_reducible apply Sel.nilA | refine Sel.seg (by (repeat (first | exact TakL.hd | with_reducible exact TakL.hdA | exact TakL.last | apply TakL.tl | with_reducible apply TakL.nilA | apply TakL.app | with_reducible apply TakL.appA))) ?_ | refine Sel.segA (by (repeat (first | exact TakL.hd | with_reducible exact TakL.hdA | exact TakL.last | apply TakL.tl | with_reducible apply TakL.nilA | apply TakL.app | with_reducible apply TakL.appA))) ?_))) ⟨Nat.zero_le _, J0, hO0, hk0, by simp⟩ ?_
          intro x σ hI
          have hI0 := hI
          refine XK.seq ?_
          refine XK.seq ?_
          refine XK.region ?_
          refine XO.val rfl rfl (OV.mv (v := .int _ _) rfl) ?_
          refine XO.val rfl rfl (OV.mv (v := .slice _ _ _) rfl) ?_
          refine XO.val rfl rfl (OV.lenS rfl Try.runUnderlying24) ?_
          refine XO.val rfl rfl (OV.lss rfl rfl) ?_
          refine XO.nil ?_
          refine XK.split (t := 51) rfl (fun hh5 => ?_) (fun hh5 => ?_)
          · replace hh5 := of_decide_eq_true hh5
            exfalso; omega
          · replace hh5 := of_decide_eq_false hh5
            refine XK.cond_f rfl ?_
            refine XK.exitTo rfl ?_
            refine XK.seq ?_
            refine XK.region ?_
            refine XO.callV (cap := []) rfl rfl .nil Try.call14 (known_ok) (by repeat (first | exact Sel.nil | refine Sel.cons (by repeat (first | exact Del.hd | apply Del.tl | apply Del.app)) (by repeat (first | exact List.Mem.head _ | apply List.Mem.tail | apply List.mem_append_right)) ?_)) ?_
            refine XO.st rfl (v := .bool _) rfl rfl Try.sizeOf4 (by repeat (first | exact Put.hd | apply Put.tl | apply Put.app)) (by (first | (simp only [List.length_append, bys_length, b4_len, zrs_len, headB_len, putHead_len, List.length_replicate, List.length_cons, List.length_nil, List.length_set, List.length_take, List.length_drop, recL_len]; omega) | omega | exact Nat.le_of_ble_eq_true rfl | (simp; done) | (simp; omega))) (by (first | exact .inr ‹_› | (left; ((repeat (first | exact List.Mem.head _ | apply List.Mem.tail)))))) ?_
            refine XO.nil ?_
            refine XK.retTo (FinM.ret (by first | exact Marks.nil | exact Marks.seg (by (repeat (first | exact TakL.hd | with_reducible exact TakL.hdA | exact TakL.last | apply TakL.tl | with_reducible apply TakL.nilA | apply TakL.app | with_reducible apply TakL.appA))) (fun D hD => .inr (hI.2.2.2.2 D hD))) (.cons (.cell rfl Try.isAgg4 (by repeat (first | exact List.Mem.head _ | apply List.Mem.tail | apply List.mem_append_right)) rfl) .nil) .nil (by simp) ?_)
            exact ⟨rfl, rfl⟩

set_option maxHeartbeats 8000000 in
theorem redoReads_some (j : Job) (node : Int) (q o cap : Nat) (lq : List Value) (E : Nat) (fr : Nat × Nat) (st : List Stp) (hst : ∀ i, i < st.length → (lq.drop (o + i * 100)).take 100 = stepL (st.getD i zStp)) (hwf : ∀ i, i < st.length → (st.getD i zStp).wf) :
    CtV Try.prog 3 [jobV j, .int .i64 node, .slice (some ⟨q, o, none⟩) st.length cap] [(q, .cells (List.toArray lq) E fr)] (.bool true) := by
  refine Ct.ofM (N := 171) (rs := [.cell 6 4]) Try.func3 rfl rfl rfl (Nat.le_of_ble_eq_true rfl) (fun B => ?_)
  refine XK.seq ?_
  refine XK.region ?_
  refine XO.box (v := .agg _) rfl rfl rfl (fun r3 hr3 => ?_)
  refine XO.box (v := .int _ _) rfl rfl rfl (fun r4 hr4 => ?_)
  refine XO.alloc rfl Red11_zv_4 rfl (fun r6 hr6 => ?_)
  refine XO.nil ?_
  refine XK.seq ?_
  refine XK.seq ?_
  refine XK.region ?_
  refine XO.val rfl rfl (OV.ldA rfl Try.isAgg23 Try.sizeOf23 (by repeat (first | exact List.Mem.head _ | apply List.Mem.tail | apply List.mem_append_right)) (grab_all (by (first | assumption | (simp only [List.length_append, bys_length, b4_len, zrs_len, headB_len, putHead_len, List.length_replicate, List.length_cons, List.length_nil, List.length_set, List.length_take, List.length_drop, recL_len]; done) | (simp only [List.length_append, bys_length, b4_len, zrs_len, headB_len, putHead_len, List.length_replicate, List.length_cons, List.length_nil, List.length_set, List.length_take, List.length_drop, recL_len]; omega) | rfl | (simp [*, bys_length]; done) | (simp [*, bys_length]; omega)))) (by (first | assumption | (simp only [List.length_append, bys_length, b4_len, zrs_len, headB_len, putHead_len, List.length_replicate, List.length_cons, List.length_nil, List.length_set, List.length_take, List.length_drop, recL_len]; done) | (simp only [List.length_append, bys_length, b4_len, zrs_len, headB_len, putHead_len, List.length_replicate, List.length_cons, List.length_nil, List.length_set, List.length_take, List.length_drop, recL_len]; omega) | rfl | (simp [*, bys_length]; done) | (simp [*, bys_length]; omega)))) ?_
  refine XO.callV (cap := []) rfl rfl (.cons (v := .agg _) rfl .nil) Try.call13 (refMay_ok j) (by repeat (first | exact Sel.nil | refine Sel.cons (by repeat (first | exact Del.hd | apply Del.tl | apply Del.app)) (by repeat (first | exact List.Mem.head _ | apply List.Mem.tail | apply List.mem_append_right)) ?_)) ?_
  refine XO.val rfl rfl (OV.notB rfl) ?_
  refine XO.val rfl rfl (OV.mv (v := .bool _) rfl) ?_
  refine XO.split (t := 21) rfl (fun hh1 => ?_) (fun hh1 => ?_)
  · replace hh1 := bnot_t hh1
    try replace hh1 := of_decide_eq_false hh1
    iterate 2 refine XO.guard_f rfl rfl rfl rfl ?_
    refine XO.val rfl rfl (OV.pick_t (v := .bool _) rfl rfl) ?_
    refine XO.val rfl rfl (OV.mv (v := .bool _) rfl) ?_
    iterate 4 refine XO.guard_f rfl rfl rfl rfl ?_
    refine XO.val rfl rfl (OV.pick_t (v := .bool _) rfl rfl) ?_
    refine XO.val rfl rfl (OV.mv (v := .bool _) rfl) ?_
    iterate 3 refine XO.guard_f rfl rfl rfl rfl ?_
    refine XO.val rfl rfl (OV.pick_t (v := .bool _) rfl rfl) ?_
    refine XO.nil ?_
    refine XK.cond_t rfl ?_
    refine XK.seq ?_
    refine XK.region ?_
    refine XO.callV (cap := []) rfl rfl .nil Try.call14 (known_ok) (by repeat (first | exact Sel.nil | refine Sel.cons (by repeat (first | exact Del.hd | apply Del.tl | apply Del.app)) (by repeat (first | exact List.Mem.head _ | apply List.Mem.tail | apply List.mem_append_right)) ?_)) ?_
    refine XO.st rfl (v := .bool _) rfl rfl Try.sizeOf4 (by repeat (first | exact Put.hd | apply Put.tl | apply Put.app)) (by (first | (simp only [List.length_append, bys_length, b4_len, zrs_len, headB_len, putHead_len, List.length_replicate, List.length_cons, List.length_nil, List.length_set, List.length_take, List.length_drop, recL_len]; omega) | omega | exact Nat.le_of_ble_eq_true rfl | (simp; done) | (simp; omega))) (by (first | exact .inr ‹_› | (left; ((repeat (first | exact List.Mem.head _ | apply List.Mem.tail)))))) ?_
    refine XO.nil ?_
    refine XK.retTo (FinM.ret (by first | exact Marks.nil | exact Marks.seg (by (repeat (first | exact TakL.hd | with_reducible exact TakL.hdA | exact TakL.last | apply TakL.tl | with_reducible apply TakL.nilA | apply TakL.app | with_reducible apply TakL.appA))) (fun D hD => .inr (hI.2.2.2.2 D hD))) (.cons (.cell rfl Try.isAgg4 (by repeat (first | exact List.Mem.head _ | apply List.Mem.tail | apply List.mem_append_right)) rfl) .nil) .nil (by simp) ?_)
    exact ⟨rfl, rfl⟩
  · replace hh1 := bnot_f hh1
    try replace hh1 := of_decide_eq_true hh1
    have hmay : j.may = true := by first | exact hh1 | exact decide_eq_true hh1
    have hj := of_decide_eq_true hmay
    refine XO.guard_t rfl rfl ?_
    refine XO.val rfl rfl (OV.ld rfl Try.isAgg3 (by repeat (first | exact List.Mem.head _ | apply List.Mem.tail | apply List.mem_append_right)) rfl) ?_
    refine XO.guard_t rfl rfl ?_
    refine XO.val rfl rfl (OV.lss rfl rfl) ?_
    refine XO.val rfl rfl (OV.pick_f (v := .bool _) rfl rfl) ?_
    refine XO.val rfl rfl (OV.mv (v := .bool _) rfl) ?_
    refine XO.split (t := 25) rfl (fun hh2 => ?_) (fun hh2 => ?_)
    · replace hh2 := of_decide_eq_true hh2
      iterate 4 refine XO.guard_f rfl rfl rfl rfl ?_
      refine XO.val rfl rfl (OV.pick_t (v := .bool _) rfl rfl) ?_
      refine XO.val rfl rfl (OV.mv (v := .bool _) rfl) ?_
      iterate 3 refine XO.guard_f rfl rfl rfl rfl ?_
      refine XO.val rfl rfl (OV.pick_t (v := .bool _) rfl rfl) ?_
      refine XO.nil ?_
      refine XK.cond_t rfl ?_
      refine XK.seq ?_
      refine XK.region ?_
      refine XO.callV (cap := []) rfl rfl .nil Try.call14 (known_ok) (by repeat (first | exact Sel.nil | refine Sel.cons (by repeat (first | exact Del.hd | apply Del.tl | apply Del.app)) (by repeat (first | exact List.Mem.head _ | apply List.Mem.tail | apply List.mem_append_right)) ?_)) ?_
      refine XO.st rfl (v := .bool _) rfl rfl Try.sizeOf4 (by repeat (first | exact Put.hd | apply Put.tl | apply Put.app)) (by (first | (simp only [List.length_append, bys_length, b4_len, zrs_len, headB_len, putHead_len, List.length_replicate, List.length_cons, List.length_nil, List.length_set, List.length_take, List.length_drop, recL_len]; omega) | omega | exact Nat.le_of_ble_eq_true rfl | (simp; done) | (simp; omega))) (by (first | exact .inr ‹_› | (left; ((repeat (first | exact List.Mem.head _ | apply List.Mem.tail)))))) ?_
      refine XO.nil ?_
      refine XK.retTo (FinM.ret (by first | exact Marks.nil | exact Marks.seg (by (repeat (first | exact TakL.hd | with_reducible exact TakL.hdA | exact TakL.last | apply TakL.tl | with_reducible apply TakL.nilA | apply TakL.app | with_reducible apply TakL.appA))) (fun D hD => .inr (hI.2.2.2.2 D hD))) (.cons (.cell rfl Try.isAgg4 (by repeat (first | exact List.Mem.head _ | apply List.Mem.tail | apply List.mem_append_right)) rfl) .nil) .nil (by simp) ?_)
      exact ⟨rfl, rfl⟩
    · replace hh2 := of_decide_eq_false hh2
      refine XO.guard_t rfl rfl ?_
      refine XO.val rfl rfl (OV.ld rfl Try.isAgg3 (by repeat (first | exact List.Mem.head _ | apply List.Mem.tail | apply List.mem_append_right)) rfl) ?_
      refine XO.guard_t rfl rfl ?_
      refine XO.val rfl rfl (OV.fa rfl Red11_fa_23_0) ?_
      refine XO.guard_t rfl rfl ?_
      refine XO.val rfl rfl (OV.ld rfl Try.isAgg3 (by repeat (first | exact List.Mem.head _ | apply List.Mem.tail | apply List.mem_append_right)) rfl) ?_
      refine XO.guard_t rfl rfl ?_
      refine XO.val rfl rfl (OV.geq rfl rfl) ?_
      refine XO.val rfl rfl (OV.pick_f (v := .bool _) rfl rfl) ?_
      refine XO.val rfl rfl (OV.mv (v := .bool _) rfl) ?_
      refine XO.split (t := 31) rfl (fun hh3 => ?_) (fun hh3 => ?_)
      · replace hh3 := of_decide_eq_true hh3
        iterate 3 refine XO.guard_f rfl rfl rfl rfl ?_
        refine XO.val rfl rfl (OV.pick_t (v := .bool _) rfl rfl) ?_
        refine XO.nil ?_
        refine XK.cond_t rfl ?_
        refine XK.seq ?_
        refine XK.region ?_
        refine XO.callV (cap := []) rfl rfl .nil Try.call14 (known_ok) (by repeat (first | exact Sel.nil | refine Sel.cons (by repeat (first | exact Del.hd | apply Del.tl | apply Del.app)) (by repeat (first | exact List.Mem.head _ | apply List.Mem.tail | apply List.mem_append_right)) ?_)) ?_
        refine XO.st rfl (v := .bool _) rfl rfl Try.sizeOf4 (by repeat (first | exact Put.hd | apply Put.tl | apply Put.app)) (by (first | (simp only [List.length_append, bys_length, b4_len, zrs_len, headB_len, putHead_len, List.length_replicate, List.length_cons, List.length_nil, List.length_set, List.length_take, List.length_drop, recL_len]; omega) | omega | exact Nat.le_of_ble_eq_true rfl | (simp; done) | (simp; omega))) (by (first | exact .inr ‹_› | (left; ((repeat (first | exact List.Mem.head _ | apply List.Mem.tail)))))) ?_
        refine XO.nil ?_
        refine XK.retTo (FinM.ret (by first | exact Marks.nil | exact Marks.seg (by (repeat (first | exact TakL.hd | with_reducible exact TakL.hdA | exact TakL.last | apply TakL.tl | with_reducible apply TakL.nilA | apply TakL.app | with_reducible apply TakL.appA))) (fun D hD => .inr (hI.2.2.2.2 D hD))) (.cons (.cell rfl Try.isAgg4 (by repeat (first | exact List.Mem.head _ | apply List.Mem.tail | apply List.mem_append_right)) rfl) .nil) .nil (by simp) ?_)
        exact ⟨rfl, rfl⟩
      · replace hh3 := of_decide_eq_false hh3
        have h0 : 0 ≤ node := by omega
        have h1 : node < j.nodes := by omega
        refine XO.guard_t rfl rfl ?_
        refine XO.val rfl rfl (OV.mv (v := .slice _ _ _) rfl) ?_
        refine XO.guard_t rfl rfl ?_
        refine XO.val rfl rfl (OV.lenS rfl Try.runUnderlying24) ?_
        refine XO.guard_t rfl rfl ?_
        refine XO.val rfl rfl (OV.gtr rfl rfl) ?_
        refine XO.val rfl rfl (OV.pick_f (v := .bool _) rfl rfl) ?_
        refine XO.nil ?_
        refine XK.split (t := 35) rfl (fun hh4 => ?_) (fun hh4 => ?_)
        · replace hh4 := of_decide_eq_true hh4
          refine XK.cond_t rfl ?_
          refine XK.seq ?_
          refine XK.region ?_
          refine XO.callV (cap := []) rfl rfl .nil Try.call14 (known_ok) (by repeat (first | exact Sel.nil | refine Sel.cons (by repeat (first | exact Del.hd | apply Del.tl | apply Del.app)) (by repeat (first | exact List.Mem.head _ | apply List.Mem.tail | apply List.mem_append_right)) ?_)) ?_
          refine XO.st rfl (v := .bool _) rfl rfl Try.sizeOf4 (by repeat (first | exact Put.hd | apply Put.tl | apply Put.app)) (by (first | (simp only [List.length_append, bys_length, b4_len, zrs_len, headB_len, putHead_len, List.length_replicate, List.length_cons, List.length_nil, List.length_set, List.length_take, List.length_drop, recL_len]; omega) | omega | exact Nat.le_of_ble_eq_true rfl | (simp; done) | (simp; omega))) (by (first | exact .inr ‹_› | (left; ((repeat (first | exact List.Mem.head _ | apply List.Mem.tail)))))) ?_
          refine XO.nil ?_
          refine XK.retTo (FinM.ret (by first | exact Marks.nil | exact Marks.seg (by (repeat (first | exact TakL.hd | with_reducible exact TakL.hdA | exact TakL.last | apply TakL.tl | with_reducible apply TakL.nilA | apply TakL.app | with_reducible apply TakL.appA))) (fun D hD => .inr (hI.2.2.2.2 D hD))) (.cons (.cell rfl Try.isAgg4 (by repeat (first | exact List.Mem.head _ | apply List.Mem.tail | apply List.mem_append_right)) rfl) .nil) .nil (by simp) ?_)
          exact ⟨rfl, rfl⟩
        · replace hh4 := of_decide_eq_false hh4
          refine XK.cond_f rfl ?_
          refine XK.skip ?_
          refine XK.seq ?_
          refine XK.region ?_
          refine XO.val rfl rfl (OV.ldA rfl Try.isAgg23 Try.sizeOf23 (by repeat (first | exact List.Mem.head _ | apply List.Mem.tail | apply List.mem_append_right)) (grab_all (by (first | assumption | (simp only [List.length_append, bys_length, b4_len, zrs_len, headB_len, putHead_len, List.length_replicate, List.length_cons, List.length_nil, List.length_set, List.length_take, List.length_drop, recL_len]; done) | (simp only [List.length_append, bys_length, b4_len, zrs_len, headB_len, putHead_len, List.length_replicate, List.length_cons, List.length_nil, List.length_set, List.length_take, List.length_drop, recL_len]; omega) | rfl | (simp [*, bys_length]; done) | (simp [*, bys_length]; omega)))) (by (first | assumption | (simp only [List.length_append, bys_length, b4_len, zrs_len, headB_len, putHead_len, List.length_replicate, List.length_cons, List.length_nil, List.length_set, List.length_take, List.length_drop, recL_len]; done) | (simp only [List.length_append, bys_length, b4_len, zrs_len, headB_len, putHead_len, List.length_replicate, List.length_cons, List.length_nil, List.length_set, List.length_take, List.length_drop, recL_len]; omega) | rfl | (simp [*, bys_length]; done) | (simp [*, bys_length]; omega)))) ?_
          refine XO.callG (cap := []) rfl rfl (.cons (v := .agg _) rfl .nil) Try.call15 (lawNew_ok j hmay) (by repeat (first | exact Sel.nil | refine Sel.cons (by repeat (first | exact Del.hd | apply Del.tl | apply Del.app)) (by repeat (first | exact List.Mem.head _ | apply List.Mem.tail | apply List.mem_append_right)) ?_)) (by ((repeat (first | exact wrs_nil | (refine wrs_cons (by (first | exact .inr ‹_› | (left; ((repeat (first | exact List.Mem.head _ | apply List.Mem.tail)))))) ?_))))) .nil ?_
          rintro _ _ ⟨r, s, rfl, rfl⟩ hn0
          have hr : B.heap.size ≤ r := (hn0 _ (.head _)).resolve_left (by simp)
          have hs : B.heap.size ≤ s := (hn0 _ (.tail _ (.head _))).resolve_left (by simp)
          have J0 := LInv.start hmay h0 h1
          refine XO.val rfl rfl (OV.asg (v := .pointer _) rfl) ?_
          refine XO.nil ?_
          refine XK.seq ?_
          refine XK.region ?_
          refine XO.val rfl rfl (OV.mv (v := .pointer _) rfl) ?_
          refine XO.val rfl rfl (OV.ldA rfl Try.isAgg23 Try.sizeOf23 (by repeat (first | exact List.Mem.head _ | apply List.Mem.tail | apply List.mem_append_right)) (grab_all (by (first | assumption | (simp only [List.length_append, bys_length, b4_len, zrs_len, headB_len, putHead_len, List.length_replicate, List.length_cons, List.length_nil, List.length_set, List.length_take, List.length_drop, recL_len]; done) | (simp only [List.length_append, bys_length, b4_len, zrs_len, headB_len, putHead_len, List.length_replicate, List.length_cons, List.length_nil, List.length_set, List.length_take, List.length_drop, recL_len]; omega) | rfl | (simp [*, bys_length]; done) | (simp [*, bys_length]; omega)))) (by (first | assumption | (simp only [List.length_append, bys_length, b4_len, zrs_len, headB_len, putHead_len, List.length_replicate, List.length_cons, List.length_nil, List.length_set, List.length_take, List.length_drop, recL_len]; done) | (simp only [List.length_append, bys_length, b4_len, zrs_len, headB_len, putHead_len, List.length_replicate, List.length_cons, List.length_nil, List.length_set, List.length_take, List.length_drop, recL_len]; omega) | rfl | (simp [*, bys_length]; done) | (simp [*, bys_length]; omega)))) ?_
          refine XO.val rfl rfl (OV.ld rfl Try.isAgg3 (by repeat (first | exact List.Mem.head _ | apply List.Mem.tail | apply List.mem_append_right)) rfl) ?_
          refine XO.callG (cap := []) rfl rfl (.cons (v := .pointer _) rfl (.cons (v := .agg _) rfl (.cons (v := .int _ _) rfl (.cons (v := .int _ _) rfl .nil)))) Try.call16 (redoOpen_ok r s (jobDev j) J0.dwf j hmay node h0 h1 (by rw [J0.size]; exact Int.le_refl _) 1 (by decide) (by decide) (by obtain ⟨_, _, h⟩ := J0.hd; rw [h])) (by repeat (first | exact Sel.nil | refine Sel.cons (by repeat (first | exact Del.hd | apply Del.tl | apply Del.app)) (by repeat (first | exact List.Mem.head _ | apply List.Mem.tail | apply List.mem_append_right)) ?_)) (by ((repeat (first | exact wrs_nil | (refine wrs_cons (by (first | exact .inr ‹_› | (left; ((repeat (first | exact List.Mem.head _ | apply List.Mem.tail)))))) ?_))))) .nil ?_
          rintro _ _ ⟨g, sl0, rfl, rfl, hO0⟩ hn1
          have hg : B.heap.size ≤ g := (hn1 _ (.head _)).resolve_left (by simp)
          have hk0 := slK_of (p := fun r => B.heap.size ≤ r) (fun x hx => (hn1 x (.tail _ hx)).resolve_left (by simp))
          refine XO.val rfl rfl (OV.mv (v := .tuple _) rfl) ?_
          refine XO.val rfl rfl (OV.ext rfl rfl) ?_
          refine XO.val rfl rfl (OV.ext rfl rfl) ?_
          refine XO.val rfl rfl (OV.asg (v := .pointer _) rfl) ?_
          refine XO.val rfl rfl (OV.asg (v := .int _ _) rfl) ?_
          refine XO.nil ?_
          refine XK.seq ?_
          refine XK.seq ?_
          refine XK.region ?_
          refine XO.val rfl rfl (OV.mv (v := .int _ _) rfl) ?_
          refine XO.val rfl rfl (OV.neq rfl rfl) ?_
          refine XO.nil ?_
          refine XK.say (v := .bool false) 47 rfl (congrArg Value.bool (rfl)) ?_
          refine XK.cond_f rfl ?_
          refine XK.skip ?_
          refine XK.seq ?_
          refine XK.seq ?_
          refine XK.region ?_
          refine XO.val rfl rfl (OV.asg (v := .int _ _) rfl) ?_
          refine XO.nil ?_
          refine XK.block ?_
          refine XK.loopD (X := S6) (lc := [(2, .slice _ _ _), (3, .pointer _), (4, .pointer _), (6, .pointer _), (7, .pointer _), (8, .pointer _)]) (lv := fun (x : S6) => [(10, .int .i64 (x.i : Int))]) (Lf := fun (x : S6) => [(g, cel (lgL r x.sl x.G) 155), (r, cel (devL s x.D) 86), (s, cel (secL x.D) 157), (r3, cel (jobL j) 23), (r4, cel [.int .i64 node] 3), (q, .cells (List.toArray lq) E fr), (r6, cel [.bool false] 4)] ++ (slB x.sl (recsL x.G.l) 52 ++ mkB x.Ds)) (I := fun (x : S6) => x.i ≤ st.length ∧ LInv j node x.i x.G x.D ∧ Mw.Own x.sl x.G.l.length (recsL x.G.l) 101 ∧ (∀ r ∈ slK x.sl, B.heap.size ≤ r) ∧ ∀ D ∈ x.Ds, B.heap.size ≤ D) (df := fun (x : S6) => mkDs x.Ds) (μ := fun (x : S6) => st.length - x.i) ⟨0, openG (jobDev j) j node 1, jobDev j, sl0, []⟩ ⟨rfl, rfl, rfl, rfl, rfl, rfl, trivial⟩ ⟨rfl, trivial⟩ rfl (by (repeat (first | exact Sel.nil | refine Sel.cons (by repeat (first | exact Del.hd | apply Del.tl | apply Del.app)) (by repeat (first | exact List.Mem.head _ | apply List.Mem.tail | apply List.mem_append_right)) ?_ | (apply Sel.seg1; ((repeat (first | exact TakL.hd | with_reducible exact TakL.hdA | exact TakL.last | apply TakL.tl | with_reducible apply TakL.nilA | apply TakL.app | with_reducible apply TakL.appA)); done)) | with_reducible apply Sel.nilA | refine Sel.seg (by (repeat (first | exact TakL.hd | with_reducible exact TakL.hdA | exact TakL.last | apply TakL.tl | with_reducible apply TakL.nilA | apply TakL.app | with_reducible apply TakL.appA))) ?_ | refine Sel.segA (by (repeat (first | exact TakL.hd | with_reducible exact TakL.hdA | exact TakL.last | apply TakL.tl | with_reducible apply TakL.nilA | apply TakL.app | with_reducible apply TakL.appA))) ?_))) ⟨Nat.zero_le _, J0, hO0, hk0, by simp⟩ ?_
          intro x σ hI
          have hI0 := hI
          refine XK.seq ?_
          refine XK.seq ?_
          refine XK.region ?_
          refine XO.val rfl rfl (OV.mv (v := .int _ _) rfl) ?_
          refine XO.val rfl rfl (OV.mv (v := .slice _ _ _) rfl) ?_
          refine XO.val rfl rfl (OV.lenS rfl Try.runUnderlying24) ?_
          refine XO.val rfl rfl (OV.lss rfl rfl) ?_
          refine XO.nil ?_
          refine XK.split (t := 51) rfl (fun hh5 => ?_) (fun hh5 => ?_)
          · replace hh5 := of_decide_eq_true hh5
            have hx : x.i < st.length := by omega
            have hsw := hwf x.i hx
            have hxl : x.i ≤ 60 := by omega
            refine XK.cond_t rfl ?_
            refine XK.skip ?_
            refine XK.seq ?_
            refine XK.block ?_
            refine XK.seq ?_
            refine XK.region ?_
            refine XO.val rfl rfl (OV.mv (v := .slice _ _ _) rfl) ?_
            refine XO.val rfl rfl (OV.mv (v := .int _ _) rfl) ?_
            refine XO.val rfl rfl (OV.ixS rfl rfl Try.runUnderlying24 Try.sizeOf38 (by omega) (by omega)) ?_
            refine XO.val rfl rfl (OV.ldA rfl Try.isAgg38 Try.sizeOf38 (by repeat (first | exact List.Mem.head _ | apply List.Mem.tail | apply List.mem_append_right)) (show ((lq.drop (o + Int.toNat (x.i : Int) * 100)).take 100) = stepL (st.getD x.i zStp) from by rw [Int.toNat_natCast]; exact hst x.i hx) (stepL_len hsw)) ?_
            refine XO.alloc rfl Red11_zv_38 rfl (fun r11 hr11 => ?_)
            refine XO.stA rfl rfl (stepL_one _) Try.sizeOf38 (stepL_len hsw) (by repeat (first | exact Put.hd | apply Put.tl | apply Put.app)) (splice_all (by rw [stepL_len hsw]; rfl)) (by (first | (simp only [List.length_append, bys_length, b4_len, zrs_len, headB_len, putHead_len, List.length_replicate, List.length_cons, List.length_nil, List.length_set, List.length_take, List.length_drop, recL_len]; omega) | omega | exact Nat.le_of_ble_eq_true rfl | (simp; done) | (simp; omega))) (by (first | exact .inr ‹_› | (left; ((repeat (first | exact List.Mem.head _ | apply List.Mem.tail)))))) ?_
            refine XO.nil ?_
            refine XK.seq ?_
            refine XK.seq ?_
            refine XK.region ?_
            refine XO.val rfl rfl (OV.fa rfl Red11_fa_38_0) ?_
            refine XO.val rfl rfl (OV.ld rfl Try.isAgg3 (by repeat (first | exact List.Mem.head _ | apply List.Mem.tail | apply List.mem_append_right)) rfl) ?_
            refine XO.nil ?_
            refine XK.block ?_
            refine XK.seq ?_
            refine XK.region ?_
            refine XO.val rfl rfl (OV.eql rfl rfl) ?_
            refine XO.val rfl rfl (OV.asg (v := .bool _) rfl) ?_
            refine XO.nil ?_
            refine XK.split (t := 60) rfl (fun hh6 => ?_) (fun hh6 => ?_)
            · replace hh6 := of_decide_eq_true hh6
              refine XK.cond_t rfl ?_
              refine XK.region ?_
              refine XO.val rfl rfl (OV.mv (v := .pointer _) rfl) ?_
              refine XO.val rfl rfl (OV.fa rfl Red11_fa_38_1) ?_
              refine XO.val rfl rfl (OV.ld rfl Try.isAgg3 (by repeat (first | exact List.Mem.head _ | apply List.Mem.tail | apply List.mem_append_right)) rfl) ?_
              refine XO.val rfl rfl (OV.fa rfl Red11_fa_38_2) ?_
              refine XO.val rfl rfl (OV.ldA rfl Try.isAgg36 Try.sizeOf36 (by repeat (first | exact List.Mem.head _ | apply List.Mem.tail | apply List.mem_append_right)) (stepL_ver hsw) (by rw [verL_len, hsw.len])) ?_
              refine XO.callG (cap := []) rfl rfl (.cons (v := .pointer _) rfl (.cons (v := .int _ _) rfl (.cons (v := .agg _) rfl .nil))) Try.call17 (lgAppend_ok g r x.sl x.G hI.2.1.good.wf hI.2.2.1 (st.getD x.i zStp).page (st.getD x.i zStp).psn (st.getD x.i zStp).body hsw.len) (by (repeat (first | exact Sel.nil | refine Sel.cons (by repeat (first | exact Del.hd | apply Del.tl | apply Del.app)) (by repeat (first | exact List.Mem.head _ | apply List.Mem.tail | apply List.mem_append_right)) ?_ | (apply Sel.seg1; ((repeat (first | exact TakL.hd | with_reducible exact TakL.hdA | exact TakL.last | apply TakL.tl | with_reducible apply TakL.nilA | apply TakL.app | with_reducible apply TakL.appA)); done)) | with_reducible apply Sel.nilA | refine Sel.seg (by (repeat (first | exact TakL.hd | with_reducible exact TakL.hdA | exact TakL.last | apply TakL.tl | with_reducible apply TakL.nilA | apply TakL.app | with_reducible apply TakL.appA))) ?_ | refine Sel.segA (by (repeat (first | exact TakL.hd | with_reducible exact TakL.hdA | exact TakL.last | apply TakL.tl | with_reducible apply TakL.nilA | apply TakL.app | with_reducible apply TakL.appA))) ?_))) (wrs_cons (.inr hg) (fun r hr => .inr (hI.2.2.2.1 r hr))) (by ((repeat (first | exact Rem.nil | (apply Rem.cons; (repeat (first | exact Del.hd | apply Del.tl | apply Del.app))) | (apply Rem.seg; ((repeat (first | exact TakL.hd | with_reducible exact TakL.hdA | exact TakL.last | apply TakL.tl | with_reducible apply TakL.nilA | apply TakL.app | with_reducible apply TakL.appA)); done)))))) ?_
              rintro _ _ ⟨sl1, rfl, rfl, hO1⟩ hn1
              have I1 := hI.2.1.app (by omega) (p := (st.getD x.i zStp).page) (psn := (st.getD x.i zStp).psn) (b := (st.getD x.i zStp).body) hsw.len hsw.body
              obtain ⟨G1, hG1⟩ : ∃ G1, G1 = (x.G.app (st.getD x.i zStp).page (st.getD x.i zStp).psn (st.getD x.i zStp).body).1 := ⟨_, rfl⟩
              rw [← hG1] at I1 hO1 hn1 ⊢
              obtain ⟨D1, hD1⟩ : ∃ D1, D1 = x.D := ⟨_, rfl⟩
              rw [← hD1] at I1 ⊢
              have hK1 := slK_next (c := ⟨Try.prog, none, 171, B, []⟩) (fun x hx => hn1 x (.tail _ hx)) (wrs_cons (.inr hg) (fun r hr => .inr (hI.2.2.2.1 r hr)))
              have hK2 : ∀ r ∈ slK sl1, B.heap.size ≤ r := fun r hr => (hK1 r hr).resolve_left (by simp)
              have hfl0 := I1.good.wf.fl0
              have hfl1 := I1.good.wf.fl1
              have hst0 := I1.good.wf.st0
              have hst1 := I1.good.wf.st1
              have hln := I1.good.wf.len
              have hnx : G1.next = G1.start + (G1.l.length : Int) := rfl
              have hnx1 := I1.next
              have hroom := I1.room (by omega)
              have hlog := hj.2.2.2.2.2.2.2
              obtain ⟨sc, hsc⟩ : ∃ sc, sc = G1.l.take (G1.flushed - G1.start + 1).toNat := ⟨_, rfl⟩
              have hscan : D1.scan j node = sc := (I1.scan (by omega)).trans hsc.symm
              have hscl : (sc.length : Int) = G1.flushed - G1.start + 1 := by rw [hsc, List.length_take]; omega
              obtain ⟨eh, _, hhd⟩ := I1.hd
              have hh1 : (D1.hd j node).1 = G1.start := by rw [hhd]
              have hh2 : (D1.hd j node).2.2 = 0 := by rw [hhd]
              have hz1 : j.secs ≤ (D1.S.length : Int) := by rw [I1.size]; exact Int.le_refl _
              refine XO.nil ?_
              refine XK.inblk ?_
              refine XK.seq ?_
              refine XK.region ?_
              refine XO.val rfl rfl (OV.mv (v := .pointer _) rfl) ?_
              refine XO.val rfl rfl (OV.ldA rfl Try.isAgg23 Try.sizeOf23 (by repeat (first | exact List.Mem.head _ | apply List.Mem.tail | apply List.mem_append_right)) (grab_all (by (first | assumption | (simp only [List.length_append, bys_length, b4_len, zrs_len, headB_len, putHead_len, List.length_replicate, List.length_cons, List.length_nil, List.length_set, List.length_take, List.length_drop, recL_len]; done) | (simp only [List.length_append, bys_length, b4_len, zrs_len, headB_len, putHead_len, List.length_replicate, List.length_cons, List.length_nil, List.length_set, List.length_take, List.length_drop, recL_len]; omega) | rfl | (simp [*, bys_length]; done) | (simp [*, bys_length]; omega)))) (by (first | assumption | (simp only [List.length_append, bys_length, b4_len, zrs_len, headB_len, putHead_len, List.length_replicate, List.length_cons, List.length_nil, List.length_set, List.length_take, List.length_drop, recL_len]; done) | (simp only [List.length_append, bys_length, b4_len, zrs_len, headB_len, putHead_len, List.length_replicate, List.length_cons, List.length_nil, List.length_set, List.length_take, List.length_drop, recL_len]; omega) | rfl | (simp [*, bys_length]; done) | (simp [*, bys_length]; omega)))) ?_
              refine XO.val rfl rfl (OV.ld rfl Try.isAgg3 (by repeat (first | exact List.Mem.head _ | apply List.Mem.tail | apply List.mem_append_right)) rfl) ?_
              refine XO.callG (cap := []) rfl rfl (.cons (v := .pointer _) rfl (.cons (v := .agg _) rfl (.cons (v := .int _ _) rfl .nil))) Try.call20 (redoRead_ok r s D1 I1.dwf j hmay node h0 h1 hz1 hh2) (by (repeat (first | exact Sel.nil | refine Sel.cons (by repeat (first | exact Del.hd | apply Del.tl | apply Del.app)) (by repeat (first | exact List.Mem.head _ | apply List.Mem.tail | apply List.mem_append_right)) ?_ | (apply Sel.seg1; ((repeat (first | exact TakL.hd | with_reducible exact TakL.hdA | exact TakL.last | apply TakL.tl | with_reducible apply TakL.nilA | apply TakL.app | with_reducible apply TakL.appA)); done)) | with_reducible apply Sel.nilA | refine Sel.seg (by (repeat (first | exact TakL.hd | with_reducible exact TakL.hdA | exact TakL.last | apply TakL.tl | with_reducible apply TakL.nilA | apply TakL.app | with_reducible apply TakL.appA))) ?_ | refine Sel.segA (by (repeat (first | exact TakL.hd | with_reducible exact TakL.hdA | exact TakL.last | apply TakL.tl | with_reducible apply TakL.nilA | apply TakL.app | with_reducible apply TakL.appA))) ?_))) (by ((repeat (first | exact wrs_nil | (refine wrs_cons (by (first | exact .inr ‹_› | (left; ((repeat (first | exact List.Mem.head _ | apply List.Mem.tail)))))) ?_))))) .nil ?_
              rintro _ _ ⟨slr, rfl, rfl, hOr⟩ hnr
              rw [hscan] at hOr hnr
              rw [hscan, hh1]
              refine XO.val rfl rfl (OV.mv (v := .tuple _) rfl) ?_
              refine XO.val rfl rfl (OV.ext rfl rfl) ?_
              refine XO.val rfl rfl (OV.ext rfl rfl) ?_
              refine XO.val rfl rfl (OV.ext rfl rfl) ?_
              refine XO.alloc rfl Red11_zv_2 rfl (fun r12 hr12 => ?_)
              refine XO.alloc rfl Red11_zv_43 rfl (fun r13 hr13 => ?_)
              refine XO.st rfl (v := .int _ _) rfl rfl Try.sizeOf2 (by repeat (first | exact Put.hd | apply Put.tl | apply Put.app)) (by (first | (simp only [List.length_append, bys_length, b4_len, zrs_len, headB_len, putHead_len, List.length_replicate, List.length_cons, List.length_nil, List.length_set, List.length_take, List.length_drop, recL_len]; omega) | omega | exact Nat.le_of_ble_eq_true rfl | (simp; done) | (simp; omega))) (by (first | exact .inr ‹_› | (left; ((repeat (first | exact List.Mem.head _ | apply List.Mem.tail)))))) ?_
              refine XO.st rfl (v := .slice _ _ _) rfl rfl Try.sizeOf43 (by repeat (first | exact Put.hd | apply Put.tl | apply Put.app)) (by (first | (simp only [List.length_append, bys_length, b4_len, zrs_len, headB_len, putHead_len, List.length_replicate, List.length_cons, List.length_nil, List.length_set, List.length_take, List.length_drop, recL_len]; omega) | omega | exact Nat.le_of_ble_eq_true rfl | (simp; done) | (simp; omega))) (by (first | exact .inr ‹_› | (left; ((repeat (first | exact List.Mem.head _ | apply List.Mem.tail)))))) ?_
              refine XO.val rfl rfl (OV.asg (v := .int _ _) rfl) ?_
              refine XO.nil ?_
              refine XK.seq ?_
              refine XK.seq ?_
              refine XK.draw [0, 1, 2, 3, 4, 5, 6, 7, 8, 9, 10, 11, 12, 13, 14, 15, 16, 17, 18, 19, 20, 21, 22, 23, 24, 25, 26, 27, 28, 29, 30, 31, 32, 33, 34, 35, 36, 37] [] [] [0, 1, 2, 3, 4, 5, 6, 7, 8, 9, 10, 11, 12, 13, 14, 15, 16, 17, 18, 19, 20, 21, 22, 23, 24, 25, 26, 27, 28, 29, 30, 31, 32, 33, 34, 35, 36, 37] Red11_mixed (by kernel_rfl) alc_none ?_
              refine TR.v rfl rfl .n rfl rfl rfl (OV.mv (v := .int _ _) rfl) ?_
              refine TR.v rfl rfl .n rfl rfl rfl (OV.neq rfl rfl) ?_
              refine TR.v rfl rfl .n rfl rfl rfl (OV.mv (v := .bool _) rfl) ?_
              refine TR.say (v := .bool false) 88 rfl (congrArg Value.bool (rfl)) ?_
              refine TR.v rfl rfl (.t rfl rfl) rfl rfl rfl (OV.ld rfl Try.isAgg2 (by repeat (first | exact List.Mem.head _ | apply List.Mem.tail | apply List.mem_append_right)) rfl) ?_
              refine TR.v rfl rfl (.t rfl rfl) rfl rfl rfl (OV.mv (v := .pointer _) rfl) ?_
              refine TR.cv (cap := []) rfl rfl (.t rfl rfl) rfl rfl rfl (.cons (v := .pointer _) rfl .nil) Try.call21 (lgStart_ok g r sl1 G1) (by repeat (first | exact Sel.nil | refine Sel.cons (by repeat (first | exact Del.hd | apply Del.tl | apply Del.app)) (by repeat (first | exact List.Mem.head _ | apply List.Mem.tail | apply List.mem_append_right)) ?_)) ?_
              refine TR.v rfl rfl (.t rfl rfl) rfl rfl rfl (OV.neq rfl rfl) ?_
              refine TR.v rfl rfl .n rfl rfl rfl (OV.pick_f (v := .bool _) rfl rfl) ?_
              refine TR.v rfl rfl .n rfl rfl rfl (OV.mv (v := .bool _) rfl) ?_
              refine TR.say (v := .bool false) 94 rfl (congrArg Value.bool (bneq_f rfl)) ?_
              refine TR.v rfl rfl (.t rfl rfl) rfl rfl rfl (OV.ld rfl Try.isAgg2 (by repeat (first | exact List.Mem.head _ | apply List.Mem.tail | apply List.mem_append_right)) rfl) ?_
              refine TR.v rfl rfl (.t rfl rfl) rfl rfl rfl (OV.ld rfl Try.isAgg43 (by repeat (first | exact List.Mem.head _ | apply List.Mem.tail | apply List.mem_append_right)) rfl) ?_
              refine TR.v rfl rfl (.t rfl rfl) rfl rfl rfl (OV.lenS rfl Try.runUnderlying43) ?_
              refine TR.v rfl rfl (.t rfl rfl) rfl rfl rfl (OV.add rfl rfl (wrap_in (by omega))) ?_
              refine TR.v rfl rfl (.t rfl rfl) rfl rfl rfl (OV.sub rfl rfl (wrap_in (by omega))) ?_
              refine TR.v rfl rfl (.t rfl rfl) rfl rfl rfl (OV.mv (v := .pointer _) rfl) ?_
              refine TR.cv (cap := []) rfl rfl (.t rfl rfl) rfl rfl rfl (.cons (v := .pointer _) rfl .nil) Try.call22 (lgFlushed_ok g r sl1 G1) (by repeat (first | exact Sel.nil | refine Sel.cons (by repeat (first | exact Del.hd | apply Del.tl | apply Del.app)) (by repeat (first | exact List.Mem.head _ | apply List.Mem.tail | apply List.mem_append_right)) ?_)) ?_
              refine TR.v rfl rfl (.t rfl rfl) rfl rfl rfl (OV.neq rfl rfl) ?_
              refine TR.v rfl rfl .n rfl rfl rfl (OV.pick_f (v := .bool _) rfl rfl) ?_
              refine TR.v rfl rfl .n rfl rfl rfl (OV.mv (v := .bool _) rfl) ?_
              refine TR.say (v := .bool false) 104 rfl (congrArg Value.bool (bneq_f (by omega))) ?_
              refine TR.v rfl rfl (.t rfl rfl) rfl rfl rfl (OV.mv (v := .pointer _) rfl) ?_
              refine TR.cv (cap := []) rfl rfl (.t rfl rfl) rfl rfl rfl (.cons (v := .pointer _) rfl .nil) Try.call22 (lgFlushed_ok g r sl1 G1) (by repeat (first | exact Sel.nil | refine Sel.cons (by repeat (first | exact Del.hd | apply Del.tl | apply Del.app)) (by repeat (first | exact List.Mem.head _ | apply List.Mem.tail | apply List.mem_append_right)) ?_)) ?_
              refine TR.v rfl rfl (.t rfl rfl) rfl rfl rfl (OV.mv (v := .pointer _) rfl) ?_
              refine TR.cv (cap := []) rfl rfl (.t rfl rfl) rfl rfl rfl (.cons (v := .pointer _) rfl .nil) Try.call23 (lgNext_ok g r sl1 G1 I1.good.wf) (by repeat (first | exact Sel.nil | refine Sel.cons (by repeat (first | exact Del.hd | apply Del.tl | apply Del.app)) (by repeat (first | exact List.Mem.head _ | apply List.Mem.tail | apply List.mem_append_right)) ?_)) ?_
              refine TR.v rfl rfl (.t rfl rfl) rfl rfl rfl (OV.geq rfl rfl) ?_
              refine TR.v rfl rfl .n rfl rfl rfl (OV.pick_f (v := .bool _) rfl rfl) ?_
              refine TR.v rfl rfl .n rfl rfl rfl (OV.mv (v := .bool _) rfl) ?_
              refine TR.say (v := .bool false) 111 rfl (congrArg Value.bool (decide_eq_false (by omega))) ?_
              refine TR.v rfl rfl (.t rfl rfl) rfl rfl rfl (OV.mv (v := .pointer _) rfl) ?_
              refine TR.cv (cap := []) rfl rfl (.t rfl rfl) rfl rfl rfl (.cons (v := .pointer _) rfl .nil) Try.call24 (lgRoom_ok g r sl1 G1 I1.good.wf) (by repeat (first | exact Sel.nil | refine Sel.cons (by repeat (first | exact Del.hd | apply Del.tl | apply Del.app)) (by repeat (first | exact List.Mem.head _ | apply List.Mem.tail | apply List.mem_append_right)) ?_)) ?_
              refine TR.v rfl rfl (.t rfl rfl) rfl rfl rfl (OV.fa rfl Red11_fa_23_3) ?_
              refine TR.v rfl rfl (.t rfl rfl) rfl rfl rfl (OV.ld rfl Try.isAgg3 (by repeat (first | exact List.Mem.head _ | apply List.Mem.tail | apply List.mem_append_right)) rfl) ?_
              refine TR.v rfl rfl (.t rfl rfl) rfl rfl rfl (OV.mv (v := .pointer _) rfl) ?_
              refine TR.cv (cap := []) rfl rfl (.t rfl rfl) rfl rfl rfl (.cons (v := .pointer _) rfl .nil) Try.call23 (lgNext_ok g r sl1 G1 I1.good.wf) (by repeat (first | exact Sel.nil | refine Sel.cons (by repeat (first | exact Del.hd | apply Del.tl | apply Del.app)) (by repeat (first | exact List.Mem.head _ | apply List.Mem.tail | apply List.mem_append_right)) ?_)) ?_
              refine TR.v rfl rfl (.t rfl rfl) rfl rfl rfl (OV.mv (v := .pointer _) rfl) ?_
              refine TR.cv (cap := []) rfl rfl (.t rfl rfl) rfl rfl rfl (.cons (v := .pointer _) rfl .nil) Try.call21 (lgStart_ok g r sl1 G1) (by repeat (first | exact Sel.nil | refine Sel.cons (by repeat (first | exact Del.hd | apply Del.tl | apply Del.app)) (by repeat (first | exact List.Mem.head _ | apply List.Mem.tail | apply List.mem_append_right)) ?_)) ?_
              refine TR.v rfl rfl (.t rfl rfl) rfl rfl rfl (OV.sub rfl rfl (wrap_in (by omega))) ?_
              refine TR.v rfl rfl (.t rfl rfl) rfl rfl rfl (OV.sub rfl rfl (wrap_in (by omega))) ?_
              refine TR.v rfl rfl (.t rfl rfl) rfl rfl rfl (OV.neq rfl rfl) ?_
              refine TR.v rfl rfl .n rfl rfl rfl (OV.pick_f (v := .bool _) rfl rfl) ?_
              refine TR.nil ?_
              refine XK.say (v := .bool false) 123 rfl (congrArg Value.bool (bneq_f (by omega))) ?_
              refine XK.cond_f rfl ?_
              refine XK.skip ?_
              refine XK.seq ?_
              refine XK.region ?_
              refine XO.alloc rfl Red11_zv_3 rfl (fun r15 hr15 => ?_)
              refine XO.st rfl (v := .int _ _) rfl rfl Try.sizeOf3 (by repeat (first | exact Put.hd | apply Put.tl | apply Put.app)) (by (first | (simp only [List.length_append, bys_length, b4_len, zrs_len, headB_len, putHead_len, List.length_replicate, List.length_cons, List.length_nil, List.length_set, List.length_take, List.length_drop, recL_len]; omega) | omega | exact Nat.le_of_ble_eq_true rfl | (simp; done) | (simp; omega))) (by (first | exact .inr ‹_› | (left; ((repeat (first | exact List.Mem.head _ | apply List.Mem.tail)))))) ?_
              refine XO.nil ?_
              refine XK.seq ?_
              refine XK.region ?_
              refine XO.val rfl rfl (OV.mv (v := .pointer _) rfl) ?_
              refine XO.callG (cap := []) rfl rfl (.cons (v := .pointer _) rfl .nil) Try.call25 (lgRecords_ok g r sl1 G1 I1.good.wf hO1) (by (repeat (first | exact Sel.nil | refine Sel.cons (by repeat (first | exact Del.hd | apply Del.tl | apply Del.app)) (by repeat (first | exact List.Mem.head _ | apply List.Mem.tail | apply List.mem_append_right)) ?_ | (apply Sel.seg1; ((repeat (first | exact TakL.hd | with_reducible exact TakL.hdA | exact TakL.last | apply TakL.tl | with_reducible apply TakL.nilA | apply TakL.app | with_reducible apply TakL.appA)); done)) | with_reducible apply Sel.nilA | refine Sel.seg (by (repeat (first | exact TakL.hd | with_reducible exact TakL.hdA | exact TakL.last | apply TakL.tl | with_reducible apply TakL.nilA | apply TakL.app | with_reducible apply TakL.appA))) ?_ | refine Sel.segA (by (repeat (first | exact TakL.hd | with_reducible exact TakL.hdA | exact TakL.last | apply TakL.tl | with_reducible apply TakL.nilA | apply TakL.app | with_reducible apply TakL.appA))) ?_))) (by ((repeat (first | exact wrs_nil | (refine wrs_cons (by (first | exact .inr ‹_› | (left; ((repeat (first | exact List.Mem.head _ | apply List.Mem.tail)))))) ?_))))) .nil ?_
              rintro _ _ ⟨bb, slq, rfl, rfl, hOq⟩ hnq
              refine XO.val rfl rfl (OV.asg (v := .func _ _ _) rfl) ?_
              refine XO.nil ?_
              refine XK.seq ?_
              refine XK.seq ?_
              refine XK.region ?_
              refine XO.val rfl rfl (OV.mv (v := .func _ _ _) rfl) ?_
              refine XO.val rfl rfl (OV.eqNf rfl rfl Try.runUnderlying49) ?_
              refine XO.nil ?_
              refine XK.cond_f rfl ?_
              refine XK.skip ?_
              refine XK.seq ?_
              refine XK.seq ?_
              refine XK.region ?_
              refine XO.val rfl rfl (OV.mv (v := .func _ _ _) rfl) ?_
              refine XO.nil ?_
              refine XK.block ?_
              refine XK.rangeF (X := Nat) (cap := [.pointer (some ⟨bb, 0, none⟩)]) (Li := ((bb, cel [slV slq G1.l.length] 43) :: slB slq (recsL G1.l) 52)) (Lr := ((g, cel (lgL r sl1 G1) 155) :: (r, cel (devL s D1) 86) :: (s, cel (secL D1) 157) :: (r3, cel (jobL j) 23) :: (r4, cel [.int .i64 node] 3) :: (r6, cel [.bool false] 4) :: (q, .cells (List.toArray lq) E fr) :: (r12, cel [.int .i64 G1.start] 2) :: (r13, cel [slV slr sc.length] 43) :: (slB slr (recsL sc) 52 ++ (slB sl1 (recsL G1.l) 52 ++ mkB x.Ds)))) (fun (y : Nat) => [(r15, cel [.int .i64 (y : Int)] 3)]) (fun (i : Nat) (y : Nat) => y = i) (fun (k : Code) (y : Nat) => False) 0 rfl rfl Try.call83 (records1_ok bb slq G1.l I1.good.wf.body (by omega) hOq) (by (repeat (first | exact Sel.nil | refine Sel.cons (by repeat (first | exact Del.hd | apply Del.tl | apply Del.app)) (by repeat (first | exact List.Mem.head _ | apply List.Mem.tail | apply List.mem_append_right)) ?_ | (apply Sel.seg1; ((repeat (first | exact TakL.hd | with_reducible exact TakL.hdA | exact TakL.last | apply TakL.tl | with_reducible apply TakL.nilA | apply TakL.app | with_reducible apply TakL.appA)); done)) | with_reducible apply Sel.nilA | refine Sel.seg (by (repeat (first | exact TakL.hd | with_reducible exact TakL.hdA | exact TakL.last | apply TakL.tl | with_reducible apply TakL.nilA | apply TakL.app | with_reducible apply TakL.appA))) ?_ | refine Sel.segA (by (repeat (first | exact TakL.hd | with_reducible exact TakL.hdA | exact TakL.last | apply TakL.tl | with_reducible apply TakL.nilA | apply TakL.app | with_reducible apply TakL.appA))) ?_))) rfl (by ((repeat (first | exact wrs_nil | (refine wrs_cons (by (first | exact .inr ‹_› | (left; ((repeat (first | exact List.Mem.head _ | apply List.Mem.tail)))))) ?_))))) rfl (by intro v hv; obtain ⟨r, _, rfl⟩ := List.mem_map.1 hv; rfl) (fun i y l oR B1 hi hI hBl => ?_) (fun y D hI hD hnew => ?_) (fun y D k hI hD hnew => ?_)
              · have _round := trivial
                have hy : i < G1.l.length := by simpa using hi
                subst hI
                rw [getD_mapR hy]
                have hrb : (G1.l.getD y zRcd).body.length = 96 := I1.good.wf.body _ (by rw [List.getD_eq_getElem?_getD, List.getElem?_eq_getElem hy]; exact List.getElem_mem hy)
                have hrr := I1.recs y hy
                have hrl := (I1.good.may y hy).2.1
                refine XK.region ?_
                refine XO.alloc rfl Red11_zv_52 rfl (fun r17 hr17 => ?_)
                refine XO.stA rfl rfl (by (repeat (first | with_reducible (apply one_app) | with_reducible exact bys_one | with_reducible exact recL_one _ | with_reducible exact one_rep rfl | exact ones_of rfl | exact bys_one))) Try.sizeOf52 (by (first | assumption | (simp only [List.length_append, bys_length, b4_len, zrs_len, headB_len, putHead_len, List.length_replicate, List.length_cons, List.length_nil, List.length_set, List.length_take, List.length_drop, recL_len]; done) | (simp only [List.length_append, bys_length, b4_len, zrs_len, headB_len, putHead_len, List.length_replicate, List.length_cons, List.length_nil, List.length_set, List.length_take, List.length_drop, recL_len]; omega) | rfl | (simp [*, bys_length]; done) | (simp [*, bys_length]; omega))) (by repeat (first | exact Put.hd | apply Put.tl | apply Put.app)) (by first | exact splice_all (by (first | assumption | (simp only [List.length_append, bys_length, b4_len, zrs_len, headB_len, putHead_len, List.length_replicate, List.length_cons, List.length_nil, List.length_set, List.length_take, List.length_drop, recL_len]; done) | (simp only [List.length_append, bys_length, b4_len, zrs_len, headB_len, putHead_len, List.length_replicate, List.length_cons, List.length_nil, List.length_set, List.length_take, List.length_drop, recL_len]; omega) | rfl | (simp [*, bys_length]; done) | (simp [*, bys_length]; omega))) | rfl) (by (first | (simp only [List.length_append, bys_length, b4_len, zrs_len, headB_len, putHead_len, List.length_replicate, List.length_cons, List.length_nil, List.length_set, List.length_take, List.length_drop, recL_len]; omega) | omega | exact Nat.le_of_ble_eq_true rfl | (simp; done) | (simp; omega))) (by (first | exact .inr ‹_› | (left; ((repeat (first | exact List.Mem.head _ | apply List.Mem.tail)))))) ?_
                refine XO.nil ?_
                refine XK.asEnd (by repeat (first | exact Tak.hd | apply Tak.tl | apply Tak.app)) (fun o => ?_)
                refine XK.block ?_
                refine XK.seq ?_
                refine XK.seq ?_
                refine XK.draw [0, 1, 2, 3, 4, 5, 6, 7, 8, 9, 10, 11, 12, 13, 14, 15, 16, 17, 18, 19, 20, 21, 22, 23, 24, 25, 26, 27, 28, 29, 30] [] [] [0, 1, 2, 3, 4, 5, 6, 7, 8, 9, 10, 11, 12, 13, 14, 15, 16, 17, 18, 19, 20, 21, 22, 23, 24, 25, 26, 27, 28, 29, 30] Red11_mixed (by kernel_rfl) alc_none ?_
                refine TR.v rfl rfl .n rfl rfl rfl (OV.ld rfl Try.isAgg3 (by repeat (first | exact List.Mem.head _ | apply List.Mem.tail | apply List.mem_append_right)) rfl) ?_
                refine TR.v rfl rfl .n rfl rfl rfl (OV.ld rfl Try.isAgg43 (by repeat (first | exact List.Mem.head _ | apply List.Mem.tail | apply List.mem_append_right)) rfl) ?_
                refine TR.v rfl rfl .n rfl rfl rfl (OV.lenS rfl Try.runUnderlying43) ?_
                refine TR.v rfl rfl .n rfl rfl rfl (OV.lss rfl rfl) ?_
                refine TR.v rfl rfl .n rfl rfl rfl (OV.mv (v := .bool _) rfl) ?_
                refine TR.split (t := 134) rfl (fun hh7 => ?_) (fun hh7 => ?_)
                · replace hh7 := of_decide_eq_true hh7
                  have hys : y < sc.length := by omega
                  obtain ⟨qr, cr, pr, rfl⟩ := own_some hOr (by omega)
                  refine TR.v rfl rfl (.t rfl rfl) rfl rfl rfl (OV.ld rfl Try.isAgg43 (by repeat (first | exact List.Mem.head _ | apply List.Mem.tail | apply List.mem_append_right)) rfl) ?_
                  refine TR.v rfl rfl (.t rfl rfl) rfl rfl rfl (OV.ld rfl Try.isAgg3 (by repeat (first | exact List.Mem.head _ | apply List.Mem.tail | apply List.mem_append_right)) rfl) ?_
                  refine TR.v rfl rfl (.t rfl rfl) rfl rfl rfl (OV.ixS rfl rfl Try.runUnderlying43 Try.sizeOf52 (by omega) (by omega)) ?_
                  refine TR.v rfl rfl (.t rfl rfl) rfl rfl rfl (OV.ldA rfl Try.isAgg52 Try.sizeOf52 (by repeat (first | exact List.Mem.head _ | apply List.Mem.tail | apply List.mem_append_right)) (show ((recsL sc ++ pr).drop (0 + Int.toNat (y : Int) * 101)).take 101 = recL (G1.l.getD y zRcd) from by rw [Nat.zero_add, Int.toNat_natCast, recsL_take (fun x hx => I1.good.wf.body x (by rw [hsc] at hx; exact List.take_subset _ _ hx)) hys, hsc, getD_take (by omega)]) (by rw [recL_len, hrb])) ?_
                  refine TR.v rfl rfl (.t rfl rfl) rfl rfl rfl (OV.ldA rfl Try.isAgg52 Try.sizeOf52 (by repeat (first | exact List.Mem.head _ | apply List.Mem.tail | apply List.mem_append_right)) (grab_all (by (first | assumption | (simp only [List.length_append, bys_length, b4_len, zrs_len, headB_len, putHead_len, List.length_replicate, List.length_cons, List.length_nil, List.length_set, List.length_take, List.length_drop, recL_len]; done) | (simp only [List.length_append, bys_length, b4_len, zrs_len, headB_len, putHead_len, List.length_replicate, List.length_cons, List.length_nil, List.length_set, List.length_take, List.length_drop, recL_len]; omega) | rfl | (simp [*, bys_length]; done) | (simp [*, bys_length]; omega)))) (by (first | assumption | (simp only [List.length_append, bys_length, b4_len, zrs_len, headB_len, putHead_len, List.length_replicate, List.length_cons, List.length_nil, List.length_set, List.length_take, List.length_drop, recL_len]; done) | (simp only [List.length_append, bys_length, b4_len, zrs_len, headB_len, putHead_len, List.length_replicate, List.length_cons, List.length_nil, List.length_set, List.length_take, List.length_drop, recL_len]; omega) | rfl | (simp [*, bys_length]; done) | (simp [*, bys_length]; omega)))) ?_
                  refine TR.v rfl rfl (.t rfl rfl) rfl rfl rfl (OV.neA rfl rfl Red11_flat_8_52 Try.isAgg52 Red11_eqg_52 (alike_rec hrb hrb)) ?_
                  refine TR.v rfl rfl .n rfl rfl rfl (OV.pick_t (v := .bool _) rfl rfl) ?_
                  refine TR.v rfl rfl .n rfl rfl rfl (OV.mv (v := .bool _) rfl) ?_
                  refine TR.say (v := .bool false) 142 rfl (congrArg Value.bool (by rw [eqvs_rec]; rfl)) ?_
                  refine TR.v rfl rfl (.t rfl rfl) rfl rfl rfl (OV.fa rfl Red11_fa_52_2) ?_
                  refine TR.v rfl rfl (.t rfl rfl) rfl rfl rfl (OV.ld rfl Try.isAgg2 (by repeat (first | exact List.Mem.head _ | apply List.Mem.tail | apply List.mem_append_right)) rfl) ?_
                  refine TR.v rfl rfl (.t rfl rfl) rfl rfl rfl (OV.ld rfl Try.isAgg2 (by repeat (first | exact List.Mem.head _ | apply List.Mem.tail | apply List.mem_append_right)) rfl) ?_
                  refine TR.v rfl rfl (.t rfl rfl) rfl rfl rfl (OV.ld rfl Try.isAgg3 (by repeat (first | exact List.Mem.head _ | apply List.Mem.tail | apply List.mem_append_right)) rfl) ?_
                  refine TR.v rfl rfl (.t rfl rfl) rfl rfl rfl (OV.add rfl rfl (wrap_in (by omega))) ?_
                  refine TR.v rfl rfl (.t rfl rfl) rfl rfl rfl (OV.neq rfl rfl) ?_
                  refine TR.v rfl rfl .n rfl rfl rfl (OV.pick_f (v := .bool _) rfl rfl) ?_
                  refine TR.v rfl rfl .n rfl rfl rfl (OV.mv (v := .bool _) rfl) ?_
                  refine TR.say (v := .bool false) 150 rfl (congrArg Value.bool (bneq_f (by omega))) ?_
                  refine TR.v rfl rfl (.t rfl rfl) rfl rfl rfl (OV.fa rfl Red11_fa_52_0) ?_
                  refine TR.v rfl rfl (.t rfl rfl) rfl rfl rfl (OV.ld rfl Try.isAgg3 (by repeat (first | exact List.Mem.head _ | apply List.Mem.tail | apply List.mem_append_right)) rfl) ?_
                  refine TR.v rfl rfl (.t rfl rfl) rfl rfl rfl (OV.ld rfl Try.isAgg3 (by repeat (first | exact List.Mem.head _ | apply List.Mem.tail | apply List.mem_append_right)) rfl) ?_
                  refine TR.v rfl rfl (.t rfl rfl) rfl rfl rfl (OV.neq rfl rfl) ?_
                  refine TR.v rfl rfl .n rfl rfl rfl (OV.pick_f (v := .bool _) rfl rfl) ?_
                  refine TR.v rfl rfl .n rfl rfl rfl (OV.mv (v := .bool _) rfl) ?_
                  refine TR.say (v := .bool false) 156 rfl (congrArg Value.bool (bneq_f hrr.1)) ?_
                  refine TR.v rfl rfl (.t rfl rfl) rfl rfl rfl (OV.fa rfl Red11_fa_52_1) ?_
                  refine TR.v rfl rfl (.t rfl rfl) rfl rfl rfl (OV.ld rfl Try.isAgg2 (by repeat (first | exact List.Mem.head _ | apply List.Mem.tail | apply List.mem_append_right)) rfl) ?_
                  refine TR.v rfl rfl (.t rfl rfl) rfl rfl rfl (OV.neq rfl rfl) ?_
                  refine TR.v rfl rfl .n rfl rfl rfl (OV.pick_f (v := .bool _) rfl rfl) ?_
                  refine TR.nil ?_
                  refine XK.say (v := .bool false) 160 rfl (congrArg Value.bool (bneq_f hrr.2.1)) ?_
                  refine XK.cond_f rfl ?_
                  refine XK.skip ?_
                  refine XK.region ?_
                  refine XO.val rfl rfl (OV.ld rfl Try.isAgg3 (by repeat (first | exact List.Mem.head _ | apply List.Mem.tail | apply List.mem_append_right)) rfl) ?_
                  refine XO.val rfl rfl (OV.add rfl rfl (wrap_in (by omega))) ?_
                  refine XO.st rfl (v := .int _ _) rfl rfl Try.sizeOf3 (by repeat (first | exact Put.hd | apply Put.tl | apply Put.app)) (by (first | (simp only [List.length_append, bys_length, b4_len, zrs_len, headB_len, putHead_len, List.length_replicate, List.length_cons, List.length_nil, List.length_set, List.length_take, List.length_drop, recL_len]; omega) | omega | exact Nat.le_of_ble_eq_true rfl | (simp; done) | (simp; omega))) (by (first | exact .inr ‹_› | (left; ((repeat (first | exact List.Mem.head _ | apply List.Mem.tail)))))) ?_
                  refine XO.nil ?_
                  refine XK.inblk ?_
                  exact XK.rdEnd (y + 1) (by (repeat (first | exact Sel.nil | refine Sel.cons (by repeat (first | exact Del.hd | apply Del.tl | apply Del.app)) (by repeat (first | exact List.Mem.head _ | apply List.Mem.tail | apply List.mem_append_right)) ?_ | (apply Sel.seg1; ((repeat (first | exact TakL.hd | with_reducible exact TakL.hdA | exact TakL.last | apply TakL.tl | with_reducible apply TakL.nilA | apply TakL.app | with_reducible apply TakL.appA)); done)) | with_reducible apply Sel.nilA | refine Sel.seg (by (repeat (first | exact TakL.hd | with_reducible exact TakL.hdA | exact TakL.last | apply TakL.tl | with_reducible apply TakL.nilA | apply TakL.app | with_reducible apply TakL.appA))) ?_ | refine Sel.segA (by (repeat (first | exact TakL.hd | with_reducible exact TakL.hdA | exact TakL.last | apply TakL.tl | with_reducible apply TakL.nilA | apply TakL.app | with_reducible apply TakL.appA))) ?_))) (by (repeat (first | exact nwNil | refine nwCons (by first | exact .inr ‹_› | (left; repeat (first | exact List.Mem.head _ | apply List.Mem.tail)) | (right; omega)) ?_ | assumption))) rfl
                · replace hh7 := of_decide_eq_false hh7
                  refine TR.sk rfl rfl rfl rfl rfl rfl ?_
                  refine TR.sk rfl rfl rfl rfl rfl rfl ?_
                  refine TR.sk rfl rfl rfl rfl rfl rfl ?_
                  refine TR.sk rfl rfl rfl rfl rfl rfl ?_
                  refine TR.sk rfl rfl rfl rfl rfl rfl ?_
                  refine TR.sk rfl rfl rfl rfl rfl rfl ?_
                  refine TR.v rfl rfl .n rfl rfl rfl (OV.pick_f (v := .bool _) rfl rfl) ?_
                  refine TR.v rfl rfl .n rfl rfl rfl (OV.mv (v := .bool _) rfl) ?_
                  refine TR.v rfl rfl (.t rfl rfl) rfl rfl rfl (OV.fa rfl Red11_fa_52_2) ?_
                  refine TR.v rfl rfl (.t rfl rfl) rfl rfl rfl (OV.ld rfl Try.isAgg2 (by repeat (first | exact List.Mem.head _ | apply List.Mem.tail | apply List.mem_append_right)) rfl) ?_
                  refine TR.v rfl rfl (.t rfl rfl) rfl rfl rfl (OV.ld rfl Try.isAgg2 (by repeat (first | exact List.Mem.head _ | apply List.Mem.tail | apply List.mem_append_right)) rfl) ?_
                  refine TR.v rfl rfl (.t rfl rfl) rfl rfl rfl (OV.ld rfl Try.isAgg3 (by repeat (first | exact List.Mem.head _ | apply List.Mem.tail | apply List.mem_append_right)) rfl) ?_
                  refine TR.v rfl rfl (.t rfl rfl) rfl rfl rfl (OV.add rfl rfl (wrap_in (by omega))) ?_
                  refine TR.v rfl rfl (.t rfl rfl) rfl rfl rfl (OV.neq rfl rfl) ?_
                  refine TR.v rfl rfl .n rfl rfl rfl (OV.pick_f (v := .bool _) rfl rfl) ?_
                  refine TR.v rfl rfl .n rfl rfl rfl (OV.mv (v := .bool _) rfl) ?_
                  refine TR.say (v := .bool false) 150 rfl (congrArg Value.bool (bneq_f (by omega))) ?_
                  refine TR.v rfl rfl (.t rfl rfl) rfl rfl rfl (OV.fa rfl Red11_fa_52_0) ?_
                  refine TR.v rfl rfl (.t rfl rfl) rfl rfl rfl (OV.ld rfl Try.isAgg3 (by repeat (first | exact List.Mem.head _ | apply List.Mem.tail | apply List.mem_append_right)) rfl) ?_
                  refine TR.v rfl rfl (.t rfl rfl) rfl rfl rfl (OV.ld rfl Try.isAgg3 (by repeat (first | exact List.Mem.head _ | apply List.Mem.tail | apply List.mem_append_right)) rfl) ?_
                  refine TR.v rfl rfl (.t rfl rfl) rfl rfl rfl (OV.neq rfl rfl) ?_
                  refine TR.v rfl rfl .n rfl rfl rfl (OV.pick_f (v := .bool _) rfl rfl) ?_
                  refine TR.v rfl rfl .n rfl rfl rfl (OV.mv (v := .bool _) rfl) ?_
                  refine TR.say (v := .bool false) 156 rfl (congrArg Value.bool (bneq_f hrr.1)) ?_
                  refine TR.v rfl rfl (.t rfl rfl) rfl rfl rfl (OV.fa rfl Red11_fa_52_1) ?_
                  refine TR.v rfl rfl (.t rfl rfl) rfl rfl rfl (OV.ld rfl Try.isAgg2 (by repeat (first | exact List.Mem.head _ | apply List.Mem.tail | apply List.mem_append_right)) rfl) ?_
                  refine TR.v rfl rfl (.t rfl rfl) rfl rfl rfl (OV.neq rfl rfl) ?_
                  refine TR.v rfl rfl .n rfl rfl rfl (OV.pick_f (v := .bool _) rfl rfl) ?_
                  refine TR.nil ?_
                  refine XK.say (v := .bool false) 160 rfl (congrArg Value.bool (bneq_f hrr.2.1)) ?_
                  refine XK.cond_f rfl ?_
                  refine XK.skip ?_
                  refine XK.region ?_
                  refine XO.val rfl rfl (OV.ld rfl Try.isAgg3 (by repeat (first | exact List.Mem.head _ | apply List.Mem.tail | apply List.mem_append_right)) rfl) ?_
                  refine XO.val rfl rfl (OV.add rfl rfl (wrap_in (by omega))) ?_
                  refine XO.st rfl (v := .int _ _) rfl rfl Try.sizeOf3 (by repeat (first | exact Put.hd | apply Put.tl | apply Put.app)) (by (first | (simp only [List.length_append, bys_length, b4_len, zrs_len, headB_len, putHead_len, List.length_replicate, List.length_cons, List.length_nil, List.length_set, List.length_take, List.length_drop, recL_len]; omega) | omega | exact Nat.le_of_ble_eq_true rfl | (simp; done) | (simp; omega))) (by (first | exact .inr ‹_› | (left; ((repeat (first | exact List.Mem.head _ | apply List.Mem.tail)))))) ?_
                  refine XO.nil ?_
                  refine XK.inblk ?_
                  exact XK.rdEnd (y + 1) (by (repeat (first | exact Sel.nil | refine Sel.cons (by repeat (first | exact Del.hd | apply Del.tl | apply Del.app)) (by repeat (first | exact List.Mem.head _ | apply List.Mem.tail | apply List.mem_append_right)) ?_ | (apply Sel.seg1; ((repeat (first | exact TakL.hd | with_reducible exact TakL.hdA | exact TakL.last | apply TakL.tl | with_reducible apply TakL.nilA | apply TakL.app | with_reducible apply TakL.appA)); done)) | with_reducible apply Sel.nilA | refine Sel.seg (by (repeat (first | exact TakL.hd | with_reducible exact TakL.hdA | exact TakL.last | apply TakL.tl | with_reducible apply TakL.nilA | apply TakL.app | with_reducible apply TakL.appA))) ?_ | refine Sel.segA (by (repeat (first | exact TakL.hd | with_reducible exact TakL.hdA | exact TakL.last | apply TakL.tl | with_reducible apply TakL.nilA | apply TakL.app | with_reducible apply TakL.appA))) ?_))) (by (repeat (first | exact nwNil | refine nwCons (by first | exact .inr ‹_› | (left; repeat (first | exact List.Mem.head _ | apply List.Mem.tail)) | (right; omega)) ?_ | assumption))) rfl
              · have _done := trivial
                have hyl : y = G1.l.length := by rw [hI]; simp
                refine XK.inblk ?_
                refine XK.seq ?_
                refine XK.draw [0, 1, 2, 3, 4, 5, 6] [] [] [0, 1, 2, 3, 4, 5, 6] Red11_mixed (by kernel_rfl) alc_none ?_
                refine TR.v rfl rfl .n rfl rfl rfl (OV.ld rfl Try.isAgg3 (by repeat (first | exact List.Mem.head _ | apply List.Mem.tail | apply List.mem_append_right)) rfl) ?_
                refine TR.v rfl rfl .n rfl rfl rfl (OV.mv (v := .pointer _) rfl) ?_
                refine TR.cv (cap := []) rfl rfl .n rfl rfl rfl (.cons (v := .pointer _) rfl .nil) Try.call23 (lgNext_ok g r sl1 G1 I1.good.wf) (by repeat (first | exact Sel.nil | refine Sel.cons (by repeat (first | exact Del.hd | apply Del.tl | apply Del.app)) (by repeat (first | exact List.Mem.head _ | apply List.Mem.tail | apply List.mem_append_right)) ?_)) ?_
                refine TR.v rfl rfl .n rfl rfl rfl (OV.mv (v := .pointer _) rfl) ?_
                refine TR.cv (cap := []) rfl rfl .n rfl rfl rfl (.cons (v := .pointer _) rfl .nil) Try.call21 (lgStart_ok g r sl1 G1) (by repeat (first | exact Sel.nil | refine Sel.cons (by repeat (first | exact Del.hd | apply Del.tl | apply Del.app)) (by repeat (first | exact List.Mem.head _ | apply List.Mem.tail | apply List.mem_append_right)) ?_)) ?_
                refine TR.v rfl rfl .n rfl rfl rfl (OV.sub rfl rfl (wrap_in (by omega))) ?_
                refine TR.v rfl rfl .n rfl rfl rfl (OV.neq rfl rfl) ?_
                refine TR.nil ?_
                refine XK.say (v := .bool false) 169 rfl (congrArg Value.bool (bneq_f (by omega))) ?_
                refine XK.cond_f rfl ?_
                refine XK.skip ?_
                refine XK.inblk ?_
                refine XK.region ?_
                refine XO.val rfl rfl (OV.mv (v := .int _ _) rfl) ?_
                refine XO.val rfl rfl (OV.add rfl rfl (wrap_in (by omega))) ?_
                refine XO.val rfl rfl (OV.asg (v := .int _ _) rfl) ?_
                refine XO.nil ?_
                refine XK.rnd ⟨⟨x.i + 1, G1, D1, sl1, D :: x.Ds⟩, ⟨⟨rfl, rfl, rfl, rfl, rfl, rfl, trivial⟩, ⟨rfl, trivial⟩, rfl, (by (repeat (first | exact Sel.nil | refine Sel.cons (by repeat (first | exact Del.hd | apply Del.tl | apply Del.app)) (by repeat (first | exact List.Mem.head _ | apply List.Mem.tail | apply List.mem_append_right)) ?_ | (apply Sel.seg1; ((repeat (first | exact TakL.hd | with_reducible exact TakL.hdA | exact TakL.last | apply TakL.tl | with_reducible apply TakL.nilA | apply TakL.app | with_reducible apply TakL.appA)); done)) | with_reducible apply Sel.nilA | refine Sel.seg (by (repeat (first | exact TakL.hd | with_reducible exact TakL.hdA | exact TakL.last | apply TakL.tl | with_reducible apply TakL.nilA | apply TakL.app | with_reducible apply TakL.appA))) ?_ | refine Sel.segA (by (repeat (first | exact TakL.hd | with_reducible exact TakL.hdA | exact TakL.last | apply TakL.tl | with_reducible apply TakL.nilA | apply TakL.app | with_reducible apply TakL.appA))) ?_))), ⟨by show x.i + 1 ≤ _; omega, I1, hO1, hK2, by intro d hd; rcases List.mem_cons.1 hd with rfl | hd; exact hD; exact hI0.2.2.2.2 d hd⟩⟩, (by show st.length - (x.i + 1) < st.length - x.i; omega)⟩
              · exact hI.elim
            · replace hh6 := of_decide_eq_false hh6
              refine XK.cond_f rfl ?_
              refine XK.seq ?_
              refine XK.region ?_
              refine XO.val rfl rfl (OV.eql rfl rfl) ?_
              refine XO.val rfl rfl (OV.asg (v := .bool _) rfl) ?_
              refine XO.nil ?_
              refine XK.split (t := 68) rfl (fun hh8 => ?_) (fun hh8 => ?_)
              · replace hh8 := of_decide_eq_true hh8
                refine XK.cond_t rfl ?_
                refine XK.region ?_
                refine XO.val rfl rfl (OV.mv (v := .pointer _) rfl) ?_
                refine XO.callG (cap := []) rfl rfl (.cons (v := .pointer _) rfl .nil) Try.call18 (lgFlush_ok g r s x.sl x.G hI.2.1.good hI.2.2.1 x.D hI.2.1.dwf (by rw [hI.2.1.gj, hI.2.1.size]; exact Int.le_refl _) (by rw [hI.2.1.gj, hI.2.1.nodes]; exact Int.le_refl _) (by rw [hI.2.1.gn, hI.2.1.ge, hI.2.1.dE]; exact Int.le_refl _)) (by (repeat (first | exact Sel.nil | refine Sel.cons (by repeat (first | exact Del.hd | apply Del.tl | apply Del.app)) (by repeat (first | exact List.Mem.head _ | apply List.Mem.tail | apply List.mem_append_right)) ?_ | (apply Sel.seg1; ((repeat (first | exact TakL.hd | with_reducible exact TakL.hdA | exact TakL.last | apply TakL.tl | with_reducible apply TakL.nilA | apply TakL.app | with_reducible apply TakL.appA)); done)) | with_reducible apply Sel.nilA | refine Sel.seg (by (repeat (first | exact TakL.hd | with_reducible exact TakL.hdA | exact TakL.last | apply TakL.tl | with_reducible apply TakL.nilA | apply TakL.app | with_reducible apply TakL.appA))) ?_ | refine Sel.segA (by (repeat (first | exact TakL.hd | with_reducible exact TakL.hdA | exact TakL.last | apply TakL.tl | with_reducible apply TakL.nilA | apply TakL.app | with_reducible apply TakL.appA))) ?_))) (by ((repeat (first | exact wrs_nil | (refine wrs_cons (by (first | exact .inr ‹_› | (left; ((repeat (first | exact List.Mem.head _ | apply List.Mem.tail)))))) ?_))))) (by ((repeat (first | exact Rem.nil | (apply Rem.cons; (repeat (first | exact Del.hd | apply Del.tl | apply Del.app))) | (apply Rem.seg; ((repeat (first | exact TakL.hd | with_reducible exact TakL.hdA | exact TakL.last | apply TakL.tl | with_reducible apply TakL.nilA | apply TakL.app | with_reducible apply TakL.appA)); done)))))) ?_
                rintro _ _ ⟨rfl, rfl⟩ hn1
                have I1 := hI.2.1.flush.later (Nat.le_succ x.i)
                have hO1 := hI.2.2.1
                obtain ⟨sl1, hsl1⟩ : ∃ s, s = x.sl := ⟨_, rfl⟩
                have hK2 := hI.2.2.2.1
                rw [← flush_l x.G x.D] at hO1
                rw [show recsL x.G.l = recsL (x.G.flush x.D).1.l from by rw [flush_l]]
                obtain ⟨D1, hD1⟩ : ∃ D1, D1 = (x.G.flush x.D).2.1 := ⟨_, rfl⟩
                obtain ⟨G1, hG1⟩ : ∃ G1, G1 = (x.G.flush x.D).1 := ⟨_, rfl⟩
                rw [← hD1, ← hG1] at I1
                rw [← hD1, ← hG1, ← hsl1]
                rw [← hG1, ← hsl1] at hO1
                rw [← hsl1] at hK2
                have hfl0 := I1.good.wf.fl0
                have hfl1 := I1.good.wf.fl1
                have hst0 := I1.good.wf.st0
                have hst1 := I1.good.wf.st1
                have hln := I1.good.wf.len
                have hnx : G1.next = G1.start + (G1.l.length : Int) := rfl
                have hnx1 := I1.next
                have hroom := I1.room (by omega)
                have hlog := hj.2.2.2.2.2.2.2
                obtain ⟨sc, hsc⟩ : ∃ sc, sc = G1.l.take (G1.flushed - G1.start + 1).toNat := ⟨_, rfl⟩
                have hscan : D1.scan j node = sc := (I1.scan (by omega)).trans hsc.symm
                have hscl : (sc.length : Int) = G1.flushed - G1.start + 1 := by rw [hsc, List.length_take]; omega
                obtain ⟨eh, _, hhd⟩ := I1.hd
                have hh1 : (D1.hd j node).1 = G1.start := by rw [hhd]
                have hh2 : (D1.hd j node).2.2 = 0 := by rw [hhd]
                have hz1 : j.secs ≤ (D1.S.length : Int) := by rw [I1.size]; exact Int.le_refl _
                refine XO.nil ?_
                refine XK.inblk ?_
                refine XK.seq ?_
                refine XK.region ?_
                refine XO.val rfl rfl (OV.mv (v := .pointer _) rfl) ?_
                refine XO.val rfl rfl (OV.ldA rfl Try.isAgg23 Try.sizeOf23 (by repeat (first | exact List.Mem.head _ | apply List.Mem.tail | apply List.mem_append_right)) (grab_all (by (first | assumption | (simp only [List.length_append, bys_length, b4_len, zrs_len, headB_len, putHead_len, List.length_replicate, List.length_cons, List.length_nil, List.length_set, List.length_take, List.length_drop, recL_len]; done) | (simp only [List.length_append, bys_length, b4_len, zrs_len, headB_len, putHead_len, List.length_replicate, List.length_cons, List.length_nil, List.length_set, List.length_take, List.length_drop, recL_len]; omega) | rfl | (simp [*, bys_length]; done) | (simp [*, bys_length]; omega)))) (by (first | assumption | (simp only [List.length_append, bys_length, b4_len, zrs_len, headB_len, putHead_len, List.length_replicate, List.length_cons, List.length_nil, List.length_set, List.length_take, List.length_drop, recL_len]; done) | (simp only [List.length_append, bys_length, b4_len, zrs_len, headB_len, putHead_len, List.length_replicate, List.length_cons, List.length_nil, List.length_set, List.length_take, List.length_drop, recL_len]; omega) | rfl | (simp [*, bys_length]; done) | (simp [*, bys_length]; omega)))) ?_
                refine XO.val rfl rfl (OV.ld rfl Try.isAgg3 (by repeat (first | exact List.Mem.head _ | apply List.Mem.tail | apply List.mem_append_right)) rfl) ?_
                refine XO.callG (cap := []) rfl rfl (.cons (v := .pointer _) rfl (.cons (v := .agg _) rfl (.cons (v := .int _ _) rfl .nil))) Try.call20 (redoRead_ok r s D1 I1.dwf j hmay node h0 h1 hz1 hh2) (by (repeat (first | exact Sel.nil | refine Sel.cons (by repeat (first | exact Del.hd | apply Del.tl | apply Del.app)) (by repeat (first | exact List.Mem.head _ | apply List.Mem.tail | apply List.mem_append_right)) ?_ | (apply Sel.seg1; ((repeat (first | exact TakL.hd | with_reducible exact TakL.hdA | exact TakL.last | apply TakL.tl | with_reducible apply TakL.nilA | apply TakL.app | with_reducible apply TakL.appA)); done)) | with_reducible apply Sel.nilA | refine Sel.seg (by (repeat (first | exact TakL.hd | with_reducible exact TakL.hdA | exact TakL.last | apply TakL.tl | with_reducible apply TakL.nilA | apply TakL.app | with_reducible apply TakL.appA))) ?_ | refine Sel.segA (by (repeat (first | exact TakL.hd | with_reducible exact TakL.hdA | exact TakL.last | apply TakL.tl | with_reducible apply TakL.nilA | apply TakL.app | with_reducible apply TakL.appA))) ?_))) (by ((repeat (first | exact wrs_nil | (refine wrs_cons (by (first | exact .inr ‹_› | (left; ((repeat (first | exact List.Mem.head _ | apply List.Mem.tail)))))) ?_))))) .nil ?_
                rintro _ _ ⟨slr, rfl, rfl, hOr⟩ hnr
                rw [hscan] at hOr hnr
                rw [hscan, hh1]
                refine XO.val rfl rfl (OV.mv (v := .tuple _) rfl) ?_
                refine XO.val rfl rfl (OV.ext rfl rfl) ?_
                refine XO.val rfl rfl (OV.ext rfl rfl) ?_
                refine XO.val rfl rfl (OV.ext rfl rfl) ?_
                refine XO.alloc rfl Red11_zv_2 rfl (fun r12 hr12 => ?_)
                refine XO.alloc rfl Red11_zv_43 rfl (fun r13 hr13 => ?_)
                refine XO.st rfl (v := .int _ _) rfl rfl Try.sizeOf2 (by repeat (first | exact Put.hd | apply Put.tl | apply Put.app)) (by (first | (simp only [List.length_append, bys_length, b4_len, zrs_len, headB_len, putHead_len, List.length_replicate, List.length_cons, List.length_nil, List.length_set, List.length_take, List.length_drop, recL_len]; omega) | omega | exact Nat.le_of_ble_eq_true rfl | (simp; done) | (simp; omega))) (by (first | exact .inr ‹_› | (left; ((repeat (first | exact List.Mem.head _ | apply List.Mem.tail)))))) ?_
                refine XO.st rfl (v := .slice _ _ _) rfl rfl Try.sizeOf43 (by repeat (first | exact Put.hd | apply Put.tl | apply Put.app)) (by (first | (simp only [List.length_append, bys_length, b4_len, zrs_len, headB_len, putHead_len, List.length_replicate, List.length_cons, List.length_nil, List.length_set, List.length_take, List.length_drop, recL_len]; omega) | omega | exact Nat.le_of_ble_eq_true rfl | (simp; done) | (simp; omega))) (by (first | exact .inr ‹_› | (left; ((repeat (first | exact List.Mem.head _ | apply List.Mem.tail)))))) ?_
                refine XO.val rfl rfl (OV.asg (v := .int _ _) rfl) ?_
                refine XO.nil ?_
                refine XK.seq ?_
                refine XK.seq ?_
                refine XK.draw [0, 1, 2, 3, 4, 5, 6, 7, 8, 9, 10, 11, 12, 13, 14, 15, 16, 17, 18, 19, 20, 21, 22, 23, 24, 25, 26, 27, 28, 29, 30, 31, 32, 33, 34, 35, 36, 37] [] [] [0, 1, 2, 3, 4, 5, 6, 7, 8, 9, 10, 11, 12, 13, 14, 15, 16, 17, 18, 19, 20, 21, 22, 23, 24, 25, 26, 27, 28, 29, 30, 31, 32, 33, 34, 35, 36, 37] Red11_mixed (by kernel_rfl) alc_none ?_
                refine TR.v rfl rfl .n rfl rfl rfl (OV.mv (v := .int _ _) rfl) ?_
                refine TR.v rfl rfl .n rfl rfl rfl (OV.neq rfl rfl) ?_
                refine TR.v rfl rfl .n rfl rfl rfl (OV.mv (v := .bool _) rfl) ?_
                refine TR.say (v := .bool false) 88 rfl (congrArg Value.bool (rfl)) ?_
                refine TR.v rfl rfl (.t rfl rfl) rfl rfl rfl (OV.ld rfl Try.isAgg2 (by repeat (first | exact List.Mem.head _ | apply List.Mem.tail | apply List.mem_append_right)) rfl) ?_
                refine TR.v rfl rfl (.t rfl rfl) rfl rfl rfl (OV.mv (v := .pointer _) rfl) ?_
                refine TR.cv (cap := []) rfl rfl (.t rfl rfl) rfl rfl rfl (.cons (v := .pointer _) rfl .nil) Try.call21 (lgStart_ok g r sl1 G1) (by repeat (first | exact Sel.nil | refine Sel.cons (by repeat (first | exact Del.hd | apply Del.tl | apply Del.app)) (by repeat (first | exact List.Mem.head _ | apply List.Mem.tail | apply List.mem_append_right)) ?_)) ?_
                refine TR.v rfl rfl (.t rfl rfl) rfl rfl rfl (OV.neq rfl rfl) ?_
                refine TR.v rfl rfl .n rfl rfl rfl (OV.pick_f (v := .bool _) rfl rfl) ?_
                refine TR.v rfl rfl .n rfl rfl rfl (OV.mv (v := .bool _) rfl) ?_
                refine TR.say (v := .bool false) 94 rfl (congrArg Value.bool (bneq_f rfl)) ?_
                refine TR.v rfl rfl (.t rfl rfl) rfl rfl rfl (OV.ld rfl Try.isAgg2 (by repeat (first | exact List.Mem.head _ | apply List.Mem.tail | apply List.mem_append_right)) rfl) ?_
                refine TR.v rfl rfl (.t rfl rfl) rfl rfl rfl (OV.ld rfl Try.isAgg43 (by repeat (first | exact List.Mem.head _ | apply List.Mem.tail | apply List.mem_append_right)) rfl) ?_
                refine TR.v rfl rfl (.t rfl rfl) rfl rfl rfl (OV.lenS rfl Try.runUnderlying43) ?_
                refine TR.v rfl rfl (.t rfl rfl) rfl rfl rfl (OV.add rfl rfl (wrap_in (by omega))) ?_
                refine TR.v rfl rfl (.t rfl rfl) rfl rfl rfl (OV.sub rfl rfl (wrap_in (by omega))) ?_
                refine TR.v rfl rfl (.t rfl rfl) rfl rfl rfl (OV.mv (v := .pointer _) rfl) ?_
                refine TR.cv (cap := []) rfl rfl (.t rfl rfl) rfl rfl rfl (.cons (v := .pointer _) rfl .nil) Try.call22 (lgFlushed_ok g r sl1 G1) (by repeat (first | exact Sel.nil | refine Sel.cons (by repeat (first | exact Del.hd | apply Del.tl | apply Del.app)) (by repeat (first | exact List.Mem.head _ | apply List.Mem.tail | apply List.mem_append_right)) ?_)) ?_
                refine TR.v rfl rfl (.t rfl rfl) rfl rfl rfl (OV.neq rfl rfl) ?_
                refine TR.v rfl rfl .n rfl rfl rfl (OV.pick_f (v := .bool _) rfl rfl) ?_
                refine TR.v rfl rfl .n rfl rfl rfl (OV.mv (v := .bool _) rfl) ?_
                refine TR.say (v := .bool false) 104 rfl (congrArg Value.bool (bneq_f (by omega))) ?_
                refine TR.v rfl rfl (.t rfl rfl) rfl rfl rfl (OV.mv (v := .pointer _) rfl) ?_
                refine TR.cv (cap := []) rfl rfl (.t rfl rfl) rfl rfl rfl (.cons (v := .pointer _) rfl .nil) Try.call22 (lgFlushed_ok g r sl1 G1) (by repeat (first | exact Sel.nil | refine Sel.cons (by repeat (first | exact Del.hd | apply Del.tl | apply Del.app)) (by repeat (first | exact List.Mem.head _ | apply List.Mem.tail | apply List.mem_append_right)) ?_)) ?_
                refine TR.v rfl rfl (.t rfl rfl) rfl rfl rfl (OV.mv (v := .pointer _) rfl) ?_
                refine TR.cv (cap := []) rfl rfl (.t rfl rfl) rfl rfl rfl (.cons (v := .pointer _) rfl .nil) Try.call23 (lgNext_ok g r sl1 G1 I1.good.wf) (by repeat (first | exact Sel.nil | refine Sel.cons (by repeat (first | exact Del.hd | apply Del.tl | apply Del.app)) (by repeat (first | exact List.Mem.head _ | apply List.Mem.tail | apply List.mem_append_right)) ?_)) ?_
                refine TR.v rfl rfl (.t rfl rfl) rfl rfl rfl (OV.geq rfl rfl) ?_
                refine TR.v rfl rfl .n rfl rfl rfl (OV.pick_f (v := .bool _) rfl rfl) ?_
                refine TR.v rfl rfl .n rfl rfl rfl (OV.mv (v := .bool _) rfl) ?_
                refine TR.say (v := .bool false) 111 rfl (congrArg Value.bool (decide_eq_false (by omega))) ?_
                refine TR.v rfl rfl (.t rfl rfl) rfl rfl rfl (OV.mv (v := .pointer _) rfl) ?_
                refine TR.cv (cap := []) rfl rfl (.t rfl rfl) rfl rfl rfl (.cons (v := .pointer _) rfl .nil) Try.call24 (lgRoom_ok g r sl1 G1 I1.good.wf) (by repeat (first | exact Sel.nil | refine Sel.cons (by repeat (first | exact Del.hd | apply Del.tl | apply Del.app)) (by repeat (first | exact List.Mem.head _ | apply List.Mem.tail | apply List.mem_append_right)) ?_)) ?_
                refine TR.v rfl rfl (.t rfl rfl) rfl rfl rfl (OV.fa rfl Red11_fa_23_3) ?_
                refine TR.v rfl rfl (.t rfl rfl) rfl rfl rfl (OV.ld rfl Try.isAgg3 (by repeat (first | exact List.Mem.head _ | apply List.Mem.tail | apply List.mem_append_right)) rfl) ?_
                refine TR.v rfl rfl (.t rfl rfl) rfl rfl rfl (OV.mv (v := .pointer _) rfl) ?_
                refine TR.cv (cap := []) rfl rfl (.t rfl rfl) rfl rfl rfl (.cons (v := .pointer _) rfl .nil) Try.call23 (lgNext_ok g r sl1 G1 I1.good.wf) (by repeat (first | exact Sel.nil | refine Sel.cons (by repeat (first | exact Del.hd | apply Del.tl | apply Del.app)) (by repeat (first | exact List.Mem.head _ | apply List.Mem.tail | apply List.mem_append_right)) ?_)) ?_
                refine TR.v rfl rfl (.t rfl rfl) rfl rfl rfl (OV.mv (v := .pointer _) rfl) ?_
                refine TR.cv (cap := []) rfl rfl (.t rfl rfl) rfl rfl rfl (.cons (v := .pointer _) rfl .nil) Try.call21 (lgStart_ok g r sl1 G1) (by repeat (first | exact Sel.nil | refine Sel.cons (by repeat (first | exact Del.hd | apply Del.tl | apply Del.app)) (by repeat (first | exact List.Mem.head _ | apply List.Mem.tail | apply List.mem_append_right)) ?_)) ?_
                refine TR.v rfl rfl (.t rfl rfl) rfl rfl rfl (OV.sub rfl rfl (wrap_in (by omega))) ?_
                refine TR.v rfl rfl (.t rfl rfl) rfl rfl rfl (OV.sub rfl rfl (wrap_in (by omega))) ?_
                refine TR.v rfl rfl (.t rfl rfl) rfl rfl rfl (OV.neq rfl rfl) ?_
                refine TR.v rfl rfl .n rfl rfl rfl (OV.pick_f (v := .bool _) rfl rfl) ?_
                refine TR.nil ?_
                refine XK.say (v := .bool false) 123 rfl (congrArg Value.bool (bneq_f (by omega))) ?_
                refine XK.cond_f rfl ?_
                refine XK.skip ?_
                refine XK.seq ?_
                refine XK.region ?_
                refine XO.alloc rfl Red11_zv_3 rfl (fun r15 hr15 => ?_)
                refine XO.st rfl (v := .int _ _) rfl rfl Try.sizeOf3 (by repeat (first | exact Put.hd | apply Put.tl | apply Put.app)) (by (first | (simp only [List.length_append, bys_length, b4_len, zrs_len, headB_len, putHead_len, List.length_replicate, List.length_cons, List.length_nil, List.length_set, List.length_take, List.length_drop, recL_len]; omega) | omega | exact Nat.le_of_ble_eq_true rfl | (simp; done) | (simp; omega))) (by (first | exact .inr ‹_› | (left; ((repeat (first | exact List.Mem.head _ | apply List.Mem.tail)))))) ?_
                refine XO.nil ?_
                refine XK.seq ?_
                refine XK.region ?_
                refine XO.val rfl rfl (OV.mv (v := .pointer _) rfl) ?_
                refine XO.callG (cap := []) rfl rfl (.cons (v := .pointer _) rfl .nil) Try.call25 (lgRecords_ok g r sl1 G1 I1.good.wf hO1) (by (repeat (first | exact Sel.nil | refine Sel.cons (by repeat (first | exact Del.hd | apply Del.tl | apply Del.app)) (by repeat (first | exact List.Mem.head _ | apply List.Mem.tail | apply List.mem_append_right)) ?_ | (apply Sel.seg1; ((repeat (first | exact TakL.hd | with_reducible exact TakL.hdA | exact TakL.last | apply TakL.tl | with_reducible apply TakL.nilA | apply TakL.app | with_reducible apply TakL.appA)); done)) | with_reducible apply Sel.nilA | refine Sel.seg (by (repeat (first | exact TakL.hd | with_reducible exact TakL.hdA | exact TakL.last | apply TakL.tl | with_reducible apply TakL.nilA | apply TakL.app | with_reducible apply TakL.appA))) ?_ | refine Sel.segA (by (repeat (first | exact TakL.hd | with_reducible exact TakL.hdA | exact TakL.last | apply TakL.tl | with_reducible apply TakL.nilA | apply TakL.app | with_reducible apply TakL.appA))) ?_))) (by ((repeat (first | exact wrs_nil | (refine wrs_cons (by (first | exact .inr ‹_› | (left; ((repeat (first | exact List.Mem.head _ | apply List.Mem.tail)))))) ?_))))) .nil ?_
                rintro _ _ ⟨bb, slq, rfl, rfl, hOq⟩ hnq
                refine XO.val rfl rfl (OV.asg (v := .func _ _ _) rfl) ?_
                refine XO.nil ?_
                refine XK.seq ?_
                refine XK.seq ?_
                refine XK.region ?_
                refine XO.val rfl rfl (OV.mv (v := .func _ _ _) rfl) ?_
                refine XO.val rfl rfl (OV.eqNf rfl rfl Try.runUnderlying49) ?_
                refine XO.nil ?_
                refine XK.cond_f rfl ?_
                refine XK.skip ?_
                refine XK.seq ?_
                refine XK.seq ?_
                refine XK.region ?_
                refine XO.val rfl rfl (OV.mv (v := .func _ _ _) rfl) ?_
                refine XO.nil ?_
                refine XK.block ?_
                refine XK.rangeF (X := Nat) (cap := [.pointer (some ⟨bb, 0, none⟩)]) (Li := ((bb, cel [slV slq G1.l.length] 43) :: slB slq (recsL G1.l) 52)) (Lr := ((g, cel (lgL r sl1 G1) 155) :: (r, cel (devL s D1) 86) :: (s, cel (secL D1) 157) :: (r3, cel (jobL j) 23) :: (r4, cel [.int .i64 node] 3) :: (r6, cel [.bool false] 4) :: (q, .cells (List.toArray lq) E fr) :: (r12, cel [.int .i64 G1.start] 2) :: (r13, cel [slV slr sc.length] 43) :: (slB slr (recsL sc) 52 ++ (slB sl1 (recsL G1.l) 52 ++ mkB x.Ds)))) (fun (y : Nat) => [(r15, cel [.int .i64 (y : Int)] 3)]) (fun (i : Nat) (y : Nat) => y = i) (fun (k : Code) (y : Nat) => False) 0 rfl rfl Try.call83 (records1_ok bb slq G1.l I1.good.wf.body (by omega) hOq) (by (repeat (first | exact Sel.nil | refine Sel.cons (by repeat (first | exact Del.hd | apply Del.tl | apply Del.app)) (by repeat (first | exact List.Mem.head _ | apply List.Mem.tail | apply List.mem_append_right)) ?_ | (apply Sel.seg1; ((repeat (first | exact TakL.hd | with_reducible exact TakL.hdA | exact TakL.last | apply TakL.tl | with_reducible apply TakL.nilA | apply TakL.app | with_reducible apply TakL.appA)); done)) | with_reducible apply Sel.nilA | refine Sel.seg (by (repeat (first | exact TakL.hd | with_reducible exact TakL.hdA | exact TakL.last | apply TakL.tl | with_reducible apply TakL.nilA | apply TakL.app | with_reducible apply TakL.appA))) ?_ | refine Sel.segA (by (repeat (first | exact TakL.hd | with_reducible exact TakL.hdA | exact TakL.last | apply TakL.tl | with_reducible apply TakL.nilA | apply TakL.app | with_reducible apply TakL.appA))) ?_))) rfl (by ((repeat (first | exact wrs_nil | (refine wrs_cons (by (first | exact .inr ‹_› | (left; ((repeat (first | exact List.Mem.head _ | apply List.Mem.tail)))))) ?_))))) rfl (by intro v hv; obtain ⟨r, _, rfl⟩ := List.mem_map.1 hv; rfl) (fun i y l oR B1 hi hI hBl => ?_) (fun y D hI hD hnew => ?_) (fun y D k hI hD hnew => ?_)
                · have _round := trivial
                  have hy : i < G1.l.length := by simpa using hi
                  subst hI
                  rw [getD_mapR hy]
                  have hrb : (G1.l.getD y zRcd).body.length = 96 := I1.good.wf.body _ (by rw [List.getD_eq_getElem?_getD, List.getElem?_eq_getElem hy]; exact List.getElem_mem hy)
                  have hrr := I1.recs y hy
                  have hrl := (I1.good.may y hy).2.1
                  refine XK.region ?_
                  refine XO.alloc rfl Red11_zv_52 rfl (fun r17 hr17 => ?_)
                  refine XO.stA rfl rfl (by (repeat (first | with_reducible (apply one_app) | with_reducible exact bys_one | with_reducible exact recL_one _ | with_reducible exact one_rep rfl | exact ones_of rfl | exact bys_one))) Try.sizeOf52 (by (first | assumption | (simp only [List.length_append, bys_length, b4_len, zrs_len, headB_len, putHead_len, List.length_replicate, List.length_cons, List.length_nil, List.length_set, List.length_take, List.length_drop, recL_len]; done) | (simp only [List.length_append, bys_length, b4_len, zrs_len, headB_len, putHead_len, List.length_replicate, List.length_cons, List.length_nil, List.length_set, List.length_take, List.length_drop, recL_len]; omega) | rfl | (simp [*, bys_length]; done) | (simp [*, bys_length]; omega))) (by repeat (first | exact Put.hd | apply Put.tl | apply Put.app)) (by first | exact splice_all (by (first | assumption | (simp only [List.length_append, bys_length, b4_len, zrs_len, headB_len, putHead_len, List.length_replicate, List.length_cons, List.length_nil, List.length_set, List.length_take, List.length_drop, recL_len]; done) | (simp only [List.length_append, bys_length, b4_len, zrs_len, headB_len, putHead_len, List.length_replicate, List.length_cons, List.length_nil, List.length_set, List.length_take, List.length_drop, recL_len]; omega) | rfl | (simp [*, bys_length]; done) | (simp [*, bys_length]; omega))) | rfl) (by (first | (simp only [List.length_append, bys_length, b4_len, zrs_len, headB_len, putHead_len, List.length_replicate, List.length_cons, List.length_nil, List.length_set, List.length_take, List.length_drop, recL_len]; omega) | omega | exact Nat.le_of_ble_eq_true rfl | (simp; done) | (simp; omega))) (by (first | exact .inr ‹_› | (left; ((repeat (first | exact List.Mem.head _ | apply List.Mem.tail)))))) ?_
                  refine XO.nil ?_
                  refine XK.asEnd (by repeat (first | exact Tak.hd | apply Tak.tl | apply Tak.app)) (fun o => ?_)
                  refine XK.block ?_
                  refine XK.seq ?_
                  refine XK.seq ?_
                  refine XK.draw [0, 1, 2, 3, 4, 5, 6, 7, 8, 9, 10, 11, 12, 13, 14, 15, 16, 17, 18, 19, 20, 21, 22, 23, 24, 25, 26, 27, 28, 29, 30] [] [] [0, 1, 2, 3, 4, 5, 6, 7, 8, 9, 10, 11, 12, 13, 14, 15, 16, 17, 18, 19, 20, 21, 22, 23, 24, 25, 26, 27, 28, 29, 30] Red11_mixed (by kernel_rfl) alc_none ?_
                  refine TR.v rfl rfl .n rfl rfl rfl (OV.ld rfl Try.isAgg3 (by repeat (first | exact List.Mem.head _ | apply List.Mem.tail | apply List.mem_append_right)) rfl) ?_
                  refine TR.v rfl rfl .n rfl rfl rfl (OV.ld rfl Try.isAgg43 (by repeat (first | exact List.Mem.head _ | apply List.Mem.tail | apply List.mem_append_right)) rfl) ?_
                  refine TR.v rfl rfl .n rfl rfl rfl (OV.lenS rfl Try.runUnderlying43) ?_
                  refine TR.v rfl rfl .n rfl rfl rfl (OV.lss rfl rfl) ?_
                  refine TR.v rfl rfl .n rfl rfl rfl (OV.mv (v := .bool _) rfl) ?_
                  refine TR.split (t := 134) rfl (fun hh9 => ?_) (fun hh9 => ?_)
                  · replace hh9 := of_decide_eq_true hh9
                    have hys : y < sc.length := by omega
                    obtain ⟨qr, cr, pr, rfl⟩ := own_some hOr (by omega)
                    refine TR.v rfl rfl (.t rfl rfl) rfl rfl rfl (OV.ld rfl Try.isAgg43 (by repeat (first | exact List.Mem.head _ | apply List.Mem.tail | apply List.mem_append_right)) rfl) ?_
                    refine TR.v rfl rfl (.t rfl rfl) rfl rfl rfl (OV.ld rfl Try.isAgg3 (by repeat (first | exact List.Mem.head _ | apply List.Mem.tail | apply List.mem_append_right)) rfl) ?_
                    refine TR.v rfl rfl (.t rfl rfl) rfl rfl rfl (OV.ixS rfl rfl Try.runUnderlying43 Try.sizeOf52 (by omega) (by omega)) ?_
                    refine TR.v rfl rfl (.t rfl rfl) rfl rfl rfl (OV.ldA rfl Try.isAgg52 Try.sizeOf52 (by repeat (first | exact List.Mem.head _ | apply List.Mem.tail | apply List.mem_append_right)) (show ((recsL sc ++ pr).drop (0 + Int.toNat (y : Int) * 101)).take 101 = recL (G1.l.getD y zRcd) from by rw [Nat.zero_add, Int.toNat_natCast, recsL_take (fun x hx => I1.good.wf.body x (by rw [hsc] at hx; exact List.take_subset _ _ hx)) hys, hsc, getD_take (by omega)]) (by rw [recL_len, hrb])) ?_
                    refine TR.v rfl rfl (.t rfl rfl) rfl rfl rfl (OV.ldA rfl Try.isAgg52 Try.sizeOf52 (by repeat (first | exact List.Mem.head _ | apply List.Mem.tail | apply List.mem_append_right)) (grab_all (by (first | assumption | (simp only [List.length_append, bys_length, b4_len, zrs_len, headB_len, putHead_len, List.length_replicate, List.length_cons, List.length_nil, List.length_set, List.length_take, List.length_drop, recL_len]; done) | (simp only [List.length_append, bys_length, b4_len, zrs_len, headB_len, putHead_len, List.length_replicate, List.length_cons, List.length_nil, List.length_set, List.length_take, List.length_drop, recL_len]; omega) | rfl | (simp [*, bys_length]; done) | (simp [*, bys_length]; omega)))) (by (first | assumption | (simp only [List.length_append, bys_length, b4_len, zrs_len, headB_len, putHead_len, List.length_replicate, List.length_cons, List.length_nil, List.length_set, List.length_take, List.length_drop, recL_len]; done) | (simp only [List.length_append, bys_length, b4_len, zrs_len, headB_len, putHead_len, List.length_replicate, List.length_cons, List.length_nil, List.length_set, List.length_take, List.length_drop, recL_len]; omega) | rfl | (simp [*, bys_length]; done) | (simp [*, bys_length]; omega)))) ?_
                    refine TR.v rfl rfl (.t rfl rfl) rfl rfl rfl (OV.neA rfl rfl Red11_flat_8_52 Try.isAgg52 Red11_eqg_52 (alike_rec hrb hrb)) ?_
                    refine TR.v rfl rfl .n rfl rfl rfl (OV.pick_t (v := .bool _) rfl rfl) ?_
                    refine TR.v rfl rfl .n rfl rfl rfl (OV.mv (v := .bool _) rfl) ?_
                    refine TR.say (v := .bool false) 142 rfl (congrArg Value.bool (by rw [eqvs_rec]; rfl)) ?_
                    refine TR.v rfl rfl (.t rfl rfl) rfl rfl rfl (OV.fa rfl Red11_fa_52_2) ?_
                    refine TR.v rfl rfl (.t rfl rfl) rfl rfl rfl (OV.ld rfl Try.isAgg2 (by repeat (first | exact List.Mem.head _ | apply List.Mem.tail | apply List.mem_append_right)) rfl) ?_
                    refine TR.v rfl rfl (.t rfl rfl) rfl rfl rfl (OV.ld rfl Try.isAgg2 (by repeat (first | exact List.Mem.head _ | apply List.Mem.tail | apply List.mem_append_right)) rfl) ?_
                    refine TR.v rfl rfl (.t rfl rfl) rfl rfl rfl (OV.ld rfl Try.isAgg3 (by repeat (first | exact List.Mem.head _ | apply List.Mem.tail | apply List.mem_append_right)) rfl) ?_
                    refine TR.v rfl rfl (.t rfl rfl) rfl rfl rfl (OV.add rfl rfl (wrap_in (by omega))) ?_
                    refine TR.v rfl rfl (.t rfl rfl) rfl rfl rfl (OV.neq rfl rfl) ?_
                    refine TR.v rfl rfl .n rfl rfl rfl (OV.pick_f (v := .bool _) rfl rfl) ?_
                    refine TR.v rfl rfl .n rfl rfl rfl (OV.mv (v := .bool _) rfl) ?_
                    refine TR.say (v := .bool false) 150 rfl (congrArg Value.bool (bneq_f (by omega))) ?_
                    refine TR.v rfl rfl (.t rfl rfl) rfl rfl rfl (OV.fa rfl Red11_fa_52_0) ?_
                    refine TR.v rfl rfl (.t rfl rfl) rfl rfl rfl (OV.ld rfl Try.isAgg3 (by repeat (first | exact List.Mem.head _ | apply List.Mem.tail | apply List.mem_append_right)) rfl) ?_
                    refine TR.v rfl rfl (.t rfl rfl) rfl rfl rfl (OV.ld rfl Try.isAgg3 (by repeat (first | exact List.Mem.head _ | apply List.Mem.tail | apply List.mem_append_right)) rfl) ?_
                    refine TR.v rfl rfl (.t rfl rfl) rfl rfl rfl (OV.neq rfl rfl) ?_
                    refine TR.v rfl rfl .n rfl rfl rfl (OV.pick_f (v := .bool _) rfl rfl) ?_
                    refine TR.v rfl rfl .n rfl rfl rfl (OV.mv (v := .bool _) rfl) ?_
                    refine TR.say (v := .bool false) 156 rfl (congrArg Value.bool (bneq_f hrr.1)) ?_
                    refine TR.v rfl rfl (.t rfl rfl) rfl rfl rfl (OV.fa rfl Red11_fa_52_1) ?_
                    refine TR.v rfl rfl (.t rfl rfl) rfl rfl rfl (OV.ld rfl Try.isAgg2 (by repeat (first | exact List.Mem.head _ | apply List.Mem.tail | apply List.mem_append_right)) rfl) ?_
                    refine TR.v rfl rfl (.t rfl rfl) rfl rfl rfl (OV.neq rfl rfl) ?_
                    refine TR.v rfl rfl .n rfl rfl rfl (OV.pick_f (v := .bool _) rfl rfl) ?_
                    refine TR.nil ?_
                    refine XK.say (v := .bool false) 160 rfl (congrArg Value.bool (bneq_f hrr.2.1)) ?_
                    refine XK.cond_f rfl ?_
                    refine XK.skip ?_
                    refine XK.region ?_
                    refine XO.val rfl rfl (OV.ld rfl Try.isAgg3 (by repeat (first | exact List.Mem.head _ | apply List.Mem.tail | apply List.mem_append_right)) rfl) ?_
                    refine XO.val rfl rfl (OV.add rfl rfl (wrap_in (by omega))) ?_
                    refine XO.st rfl (v := .int _ _) rfl rfl Try.sizeOf3 (by repeat (first | exact Put.hd | apply Put.tl | apply Put.app)) (by (first | (simp only [List.length_append, bys_length, b4_len, zrs_len, headB_len, putHead_len, List.length_replicate, List.length_cons, List.length_nil, List.length_set, List.length_take, List.length_drop, recL_len]; omega) | omega | exact Nat.le_of_ble_eq_true rfl | (simp; done) | (simp; omega))) (by (first | exact .inr ‹_› | (left; ((repeat (first | exact List.Mem.head _ | apply List.Mem.tail)))))) ?_
                    refine XO.nil ?_
                    refine XK.inblk ?_
                    exact XK.rdEnd (y + 1) (by (repeat (first | exact Sel.nil | refine Sel.cons (by repeat (first | exact Del.hd | apply Del.tl | apply Del.app)) (by repeat (first | exact List.Mem.head _ | apply List.Mem.tail | apply List.mem_append_right)) ?_ | (apply Sel.seg1; ((repeat (first | exact TakL.hd | with_reducible exact TakL.hdA | exact TakL.last | apply TakL.tl | with_reducible apply TakL.nilA | apply TakL.app | with_reducible apply TakL.appA)); done)) | with_reducible apply Sel.nilA | refine Sel.seg (by (repeat (first | exact TakL.hd | with_reducible exact TakL.hdA | exact TakL.last | apply TakL.tl | with_reducible apply TakL.nilA | apply TakL.app | with_reducible apply TakL.appA))) ?_ | refine Sel.segA (by (repeat (first | exact TakL.hd | with_reducible exact TakL.hdA | exact TakL.last | apply TakL.tl | with_reducible apply TakL.nilA | apply TakL.app | with_reducible apply TakL.appA))) ?_))) (by (repeat (first | exact nwNil | refine nwCons (by first | exact .inr ‹_› | (left; repeat (first | exact List.Mem.head _ | apply List.Mem.tail)) | (right; omega)) ?_ | assumption))) rfl
                  · replace hh9 := of_decide_eq_false hh9
                    refine TR.sk rfl rfl rfl rfl rfl rfl ?_
                    refine TR.sk rfl rfl rfl rfl rfl rfl ?_
                    refine TR.sk rfl rfl rfl rfl rfl rfl ?_
                    refine TR.sk rfl rfl rfl rfl rfl rfl ?_
                    refine TR.sk rfl rfl rfl rfl rfl rfl ?_
                    refine TR.sk rfl rfl rfl rfl rfl rfl ?_
                    refine TR.v rfl rfl .n rfl rfl rfl (OV.pick_f (v := .bool _) rfl rfl) ?_
                    refine TR.v rfl rfl .n rfl rfl rfl (OV.mv (v := .bool _) rfl) ?_
                    refine TR.v rfl rfl (.t rfl rfl) rfl rfl rfl (OV.fa rfl Red11_fa_52_2) ?_
                    refine TR.v rfl rfl (.t rfl rfl) rfl rfl rfl (OV.ld rfl Try.isAgg2 (by repeat (first | exact List.Mem.head _ | apply List.Mem.tail | apply List.mem_append_right)) rfl) ?_
                    refine TR.v rfl rfl (.t rfl rfl) rfl rfl rfl (OV.ld rfl Try.isAgg2 (by repeat (first | exact List.Mem.head _ | apply List.Mem.tail | apply List.mem_append_right)) rfl) ?_
                    refine TR.v rfl rfl (.t rfl rfl) rfl rfl rfl (OV.ld rfl Try.isAgg3 (by repeat (first | exact List.Mem.head _ | apply List.Mem.tail | apply List.mem_append_right)) rfl) ?_
                    refine TR.v rfl rfl (.t rfl rfl) rfl rfl rfl (OV.add rfl rfl (wrap_in (by omega))) ?_
                    refine TR.v rfl rfl (.t rfl rfl) rfl rfl rfl (OV.neq rfl rfl) ?_
                    refine TR.v rfl rfl .n rfl rfl rfl (OV.pick_f (v := .bool _) rfl rfl) ?_
                    refine TR.v rfl rfl .n rfl rfl rfl (OV.mv (v := .bool _) rfl) ?_
                    refine TR.say (v := .bool false) 150 rfl (congrArg Value.bool (bneq_f (by omega))) ?_
                    refine TR.v rfl rfl (.t rfl rfl) rfl rfl rfl (OV.fa rfl Red11_fa_52_0) ?_
                    refine TR.v rfl rfl (.t rfl rfl) rfl rfl rfl (OV.ld rfl Try.isAgg3 (by repeat (first | exact List.Mem.head _ | apply List.Mem.tail | apply List.mem_append_right)) rfl) ?_
                    refine TR.v rfl rfl (.t rfl rfl) rfl rfl rfl (OV.ld rfl Try.isAgg3 (by repeat (first | exact List.Mem.head _ | apply List.Mem.tail | apply List.mem_append_right)) rfl) ?_
                    refine TR.v rfl rfl (.t rfl rfl) rfl rfl rfl (OV.neq rfl rfl) ?_
                    refine TR.v rfl rfl .n rfl rfl rfl (OV.pick_f (v := .bool _) rfl rfl) ?_
                    refine TR.v rfl rfl .n rfl rfl rfl (OV.mv (v := .bool _) rfl) ?_
                    refine TR.say (v := .bool false) 156 rfl (congrArg Value.bool (bneq_f hrr.1)) ?_
                    refine TR.v rfl rfl (.t rfl rfl) rfl rfl rfl (OV.fa rfl Red11_fa_52_1) ?_
                    refine TR.v rfl rfl (.t rfl rfl) rfl rfl rfl (OV.ld rfl Try.isAgg2 (by repeat (first | exact List.Mem.head _ | apply List.Mem.tail | apply List.mem_append_right)) rfl) ?_
                    refine TR.v rfl rfl (.t rfl rfl) rfl rfl rfl (OV.neq rfl rfl) ?_
                    refine TR.v rfl rfl .n rfl rfl rfl (OV.pick_f (v := .bool _) rfl rfl) ?_
                    refine TR.nil ?_
                    refine XK.say (v := .bool false) 160 rfl (congrArg Value.bool (bneq_f hrr.2.1)) ?_
                    refine XK.cond_f rfl ?_
                    refine XK.skip ?_
                    refine XK.region ?_
                    refine XO.val rfl rfl (OV.ld rfl Try.isAgg3 (by repeat (first | exact List.Mem.head _ | apply List.Mem.tail | apply List.mem_append_right)) rfl) ?_
                    refine XO.val rfl rfl (OV.add rfl rfl (wrap_in (by omega))) ?_
                    refine XO.st rfl (v := .int _ _) rfl rfl Try.sizeOf3 (by repeat (first | exact Put.hd | apply Put.tl | apply Put.app)) (by (first | (simp only [List.length_append, bys_length, b4_len, zrs_len, headB_len, putHead_len, List.length_replicate, List.length_cons, List.length_nil, List.length_set, List.length_take, List.length_drop, recL_len]; omega) | omega | exact Nat.le_of_ble_eq_true rfl | (simp; done) | (simp; omega))) (by (first | exact .inr ‹_› | (left; ((repeat (first | exact List.Mem.head _ | apply List.Mem.tail)))))) ?_
                    refine XO.nil ?_
                    refine XK.inblk ?_
                    exact XK.rdEnd (y + 1) (by (repeat (first | exact Sel.nil | refine Sel.cons (by repeat (first | exact Del.hd | apply Del.tl | apply Del.app)) (by repeat (first | exact List.Mem.head _ | apply List.Mem.tail | apply List.mem_append_right)) ?_ | (apply Sel.seg1; ((repeat (first | exact TakL.hd | with_reducible exact TakL.hdA | exact TakL.last | apply TakL.tl | with_reducible apply TakL.nilA | apply TakL.app | with_reducible apply TakL.appA)); done)) | with_reducible apply Sel.nilA | refine Sel.seg (by (repeat (first | exact TakL.hd | with_reducible exact TakL.hdA | exact TakL.last | apply TakL.tl | with_reducible apply TakL.nilA | apply TakL.app | with_reducible apply TakL.appA))) ?_ | refine Sel.segA (by (repeat (first | exact TakL.hd | with_reducible exact TakL.hdA | exact TakL.last | apply TakL.tl | with_reducible apply TakL.nilA | apply TakL.app | with_reducible apply TakL.appA))) ?_))) (by (repeat (first | exact nwNil | refine nwCons (by first | exact .inr ‹_› | (left; repeat (first | exact List.Mem.head _ | apply List.Mem.tail)) | (right; omega)) ?_ | assumption))) rfl
                · have _done := trivial
                  have hyl : y = G1.l.length := by rw [hI]; simp
                  refine XK.inblk ?_
                  refine XK.seq ?_
                  refine XK.draw [0, 1, 2, 3, 4, 5, 6] [] [] [0, 1, 2, 3, 4, 5, 6] Red11_mixed (by kernel_rfl) alc_none ?_
                  refine TR.v rfl rfl .n rfl rfl rfl (OV.ld rfl Try.isAgg3 (by repeat (first | exact List.Mem.head _ | apply List.Mem.tail | apply List.mem_append_right)) rfl) ?_
                  refine TR.v rfl rfl .n rfl rfl rfl (OV.mv (v := .pointer _) rfl) ?_
                  refine TR.cv (cap := []) rfl rfl .n rfl rfl rfl (.cons (v := .pointer _) rfl .nil) Try.call23 (lgNext_ok g r sl1 G1 I1.good.wf) (by repeat (first | exact Sel.nil | refine Sel.cons (by repeat (first | exact Del.hd | apply Del.tl | apply Del.app)) (by repeat (first | exact List.Mem.head _ | apply List.Mem.tail | apply List.mem_append_right)) ?_)) ?_
                  refine TR.v rfl rfl .n rfl rfl rfl (OV.mv (v := .pointer _) rfl) ?_
                  refine TR.cv (cap := []) rfl rfl .n rfl rfl rfl (.cons (v := .pointer _) rfl .nil) Try.call21 (lgStart_ok g r sl1 G1) (by repeat (first | exact Sel.nil | refine Sel.cons (by repeat (first | exact Del.hd | apply Del.tl | apply Del.app)) (by repeat (first | exact List.Mem.head _ | apply List.Mem.tail | apply List.mem_append_right)) ?_)) ?_
                  refine TR.v rfl rfl .n rfl rfl rfl (OV.sub rfl rfl (wrap_in (by omega))) ?_
                  refine TR.v rfl rfl .n rfl rfl rfl (OV.neq rfl rfl) ?_
                  refine TR.nil ?_
                  refine XK.say (v := .bool false) 169 rfl (congrArg Value.bool (bneq_f (by omega))) ?_
                  refine XK.cond_f rfl ?_
                  refine XK.skip ?_
                  refine XK.inblk ?_
                  refine XK.region ?_
                  refine XO.val rfl rfl (OV.mv (v := .int _ _) rfl) ?_
                  refine XO.val rfl rfl (OV.add rfl rfl (wrap_in (by omega))) ?_
                  refine XO.val rfl rfl (OV.asg (v := .int _ _) rfl) ?_
                  refine XO.nil ?_
                  refine XK.rnd ⟨⟨x.i + 1, G1, D1, sl1, D :: x.Ds⟩, ⟨⟨rfl, rfl, rfl, rfl, rfl, rfl, trivial⟩, ⟨rfl, trivial⟩, rfl, (by (repeat (first | exact Sel.nil | refine Sel.cons (by repeat (first | exact Del.hd | apply Del.tl | apply Del.app)) (by repeat (first | exact List.Mem.head _ | apply List.Mem.tail | apply List.mem_append_right)) ?_ | (apply Sel.seg1; ((repeat (first | exact TakL.hd | with_reducible exact TakL.hdA | exact TakL.last | apply TakL.tl | with_reducible apply TakL.nilA | apply TakL.app | with_reducible apply TakL.appA)); done)) | with_reducible apply Sel.nilA | refine Sel.seg (by (repeat (first | exact TakL.hd | with_reducible exact TakL.hdA | exact TakL.last | apply TakL.tl | with_reducible apply TakL.nilA | apply TakL.app | with_reducible apply TakL.appA))) ?_ | refine Sel.segA (by (repeat (first | exact TakL.hd | with_reducible exact TakL.hdA | exact TakL.last | apply TakL.tl | with_reducible apply TakL.nilA | apply TakL.app | with_reducible apply TakL.appA))) ?_))), ⟨by show x.i + 1 ≤ _; omega, I1, hO1, hK2, by intro d hd; rcases List.mem_cons.1 hd with rfl | hd; exact hD; exact hI0.2.2.2.2 d hd⟩⟩, (by show st.length - (x.i + 1) < st.length - x.i; omega)⟩
                · exact hI.elim
              · replace hh8 := of_decide_eq_false hh8
                refine XK.cond_f rfl ?_
                refine XK.seq ?_
                refine XK.region ?_
                refine XO.val rfl rfl (OV.eql rfl rfl) ?_
                refine XO.val rfl rfl (OV.asg (v := .bool _) rfl) ?_
                refine XO.nil ?_
                refine XK.split (t := 72) rfl (fun hh10 => ?_) (fun hh10 => ?_)
                · replace hh10 := of_decide_eq_true hh10
                  refine XK.cond_t rfl ?_
                  refine XK.region ?_
                  refine XO.val rfl rfl (OV.mv (v := .pointer _) rfl) ?_
                  refine XO.val rfl rfl (OV.fa rfl Red11_fa_38_3) ?_
                  refine XO.val rfl rfl (OV.ld rfl Try.isAgg2 (by repeat (first | exact List.Mem.head _ | apply List.Mem.tail | apply List.mem_append_right)) (stepL_n hsw)) ?_
                  refine XO.callG (cap := []) rfl rfl (.cons (v := .pointer _) rfl (.cons (v := .int _ _) rfl .nil)) Try.call19 (lgCut_ok g r s x.sl x.G hI.2.1.good.wf hI.2.2.1 x.D hI.2.1.dwf (by rw [hI.2.1.gj, hI.2.1.size]; exact Int.le_refl _) (by rw [hI.2.1.gj, hI.2.1.nodes]; exact Int.le_refl _) (by rw [hI.2.1.gn, hI.2.1.ge, hI.2.1.dE]; exact Int.le_refl _) (st.getD x.i zStp).n hsw.n.1 hsw.n.2) (by (repeat (first | exact Sel.nil | refine Sel.cons (by repeat (first | exact Del.hd | apply Del.tl | apply Del.app)) (by repeat (first | exact List.Mem.head _ | apply List.Mem.tail | apply List.mem_append_right)) ?_ | (apply Sel.seg1; ((repeat (first | exact TakL.hd | with_reducible exact TakL.hdA | exact TakL.last | apply TakL.tl | with_reducible apply TakL.nilA | apply TakL.app | with_reducible apply TakL.appA)); done)) | with_reducible apply Sel.nilA | refine Sel.seg (by (repeat (first | exact TakL.hd | with_reducible exact TakL.hdA | exact TakL.last | apply TakL.tl | with_reducible apply TakL.nilA | apply TakL.app | with_reducible apply TakL.appA))) ?_ | refine Sel.segA (by (repeat (first | exact TakL.hd | with_reducible exact TakL.hdA | exact TakL.last | apply TakL.tl | with_reducible apply TakL.nilA | apply TakL.app | with_reducible apply TakL.appA))) ?_))) (wrs_cons (.inr hg) (wrs_cons (.inr hr) (wrs_cons (.inr hs) (fun r hr => .inr (hI.2.2.2.1 r hr))))) (by ((repeat (first | exact Rem.nil | (apply Rem.cons; (repeat (first | exact Del.hd | apply Del.tl | apply Del.app))) | (apply Rem.seg; ((repeat (first | exact TakL.hd | with_reducible exact TakL.hdA | exact TakL.last | apply TakL.tl | with_reducible apply TakL.nilA | apply TakL.app | with_reducible apply TakL.appA)); done)))))) ?_
                  rintro _ _ ⟨sl1, rfl, rfl, hO1⟩ hn1
                  have I1 := (hI.2.1.cutL (by omega) (st.getD x.i zStp).n).later (Nat.le_succ x.i)
                  obtain ⟨D1, hD1⟩ : ∃ D1, D1 = (x.G.cut x.D (st.getD x.i zStp).n).2.1 := ⟨_, rfl⟩
                  obtain ⟨G1, hG1⟩ : ∃ G1, G1 = (x.G.cut x.D (st.getD x.i zStp).n).1 := ⟨_, rfl⟩
                  rw [← hD1, ← hG1] at I1 hn1
                  rw [← hD1, ← hG1]
                  rw [← hG1] at hO1
                  have hK1 := slK_next (c := ⟨Try.prog, none, 171, B, []⟩) (fun x hx => hn1 x (.tail _ (.tail _ (.tail _ hx)))) (wrs_cons (.inr hg) (wrs_cons (.inr hr) (wrs_cons (.inr hs) (fun r hr => .inr (hI.2.2.2.1 r hr)))))
                  have hK2 : ∀ r ∈ slK sl1, B.heap.size ≤ r := fun r hr => (hK1 r hr).resolve_left (by simp)
                  have hfl0 := I1.good.wf.fl0
                  have hfl1 := I1.good.wf.fl1
                  have hst0 := I1.good.wf.st0
                  have hst1 := I1.good.wf.st1
                  have hln := I1.good.wf.len
                  have hnx : G1.next = G1.start + (G1.l.length : Int) := rfl
                  have hnx1 := I1.next
                  have hroom := I1.room (by omega)
                  have hlog := hj.2.2.2.2.2.2.2
                  obtain ⟨sc, hsc⟩ : ∃ sc, sc = G1.l.take (G1.flushed - G1.start + 1).toNat := ⟨_, rfl⟩
                  have hscan : D1.scan j node = sc := (I1.scan (by omega)).trans hsc.symm
                  have hscl : (sc.length : Int) = G1.flushed - G1.start + 1 := by rw [hsc, List.length_take]; omega
                  obtain ⟨eh, _, hhd⟩ := I1.hd
                  have hh1 : (D1.hd j node).1 = G1.start := by rw [hhd]
                  have hh2 : (D1.hd j node).2.2 = 0 := by rw [hhd]
                  have hz1 : j.secs ≤ (D1.S.length : Int) := by rw [I1.size]; exact Int.le_refl _
                  refine XO.nil ?_
                  refine XK.inblk ?_
                  refine XK.seq ?_
                  refine XK.region ?_
                  refine XO.val rfl rfl (OV.mv (v := .pointer _) rfl) ?_
                  refine XO.val rfl rfl (OV.ldA rfl Try.isAgg23 Try.sizeOf23 (by repeat (first | exact List.Mem.head _ | apply List.Mem.tail | apply List.mem_append_right)) (grab_all (by (first | assumption | (simp only [List.length_append, bys_length, b4_len, zrs_len, headB_len, putHead_len, List.length_replicate, List.length_cons, List.length_nil, List.length_set, List.length_take, List.length_drop, recL_len]; done) | (simp only [List.length_append, bys_length, b4_len, zrs_len, headB_len, putHead_len, List.length_replicate, List.length_cons, List.length_nil, List.length_set, List.length_take, List.length_drop, recL_len]; omega) | rfl | (simp [*, bys_length]; done) | (simp [*, bys_length]; omega)))) (by (first | assumption | (simp only [List.length_append, bys_length, b4_len, zrs_len, headB_len, putHead_len, List.length_replicate, List.length_cons, List.length_nil, List.length_set, List.length_take, List.length_drop, recL_len]; done) | (simp only [List.length_append, bys_length, b4_len, zrs_len, headB_len, putHead_len, List.length_replicate, List.length_cons, List.length_nil, List.length_set, List.length_take, List.length_drop, recL_len]; omega) | rfl | (simp [*, bys_length]; done) | (simp [*, bys_length]; omega)))) ?_
                  refine XO.val rfl rfl (OV.ld rfl Try.isAgg3 (by repeat (first | exact List.Mem.head _ | apply List.Mem.tail | apply List.mem_append_right)) rfl) ?_
                  refine XO.callG (cap := []) rfl rfl (.cons (v := .pointer _) rfl (.cons (v := .agg _) rfl (.cons (v := .int _ _) rfl .nil))) Try.call20 (redoRead_ok r s D1 I1.dwf j hmay node h0 h1 hz1 hh2) (by (repeat (first | exact Sel.nil | refine Sel.cons (by repeat (first | exact Del.hd | apply Del.tl | apply Del.app)) (by repeat (first | exact List.Mem.head _ | apply List.Mem.tail | apply List.mem_append_right)) ?_ | (apply Sel.seg1; ((repeat (first | exact TakL.hd | with_reducible exact TakL.hdA | exact TakL.last | apply TakL.tl | with_reducible apply TakL.nilA | apply TakL.app | with_reducible apply TakL.appA)); done)) | with_reducible apply Sel.nilA | refine Sel.seg (by (repeat (first | exact TakL.hd | with_reducible exact TakL.hdA | exact TakL.last | apply TakL.tl | with_reducible apply TakL.nilA | apply TakL.app | with_reducible apply TakL.appA))) ?_ | refine Sel.segA (by (repeat (first | exact TakL.hd | with_reducible exact TakL.hdA | exact TakL.last | apply TakL.tl | with_reducible apply TakL.nilA | apply TakL.app | with_reducible apply TakL.appA))) ?_))) (by ((repeat (first | exact wrs_nil | (refine wrs_cons (by (first | exact .inr ‹_› | (left; ((repeat (first | exact List.Mem.head _ | apply List.Mem.tail)))))) ?_))))) .nil ?_
                  rintro _ _ ⟨slr, rfl, rfl, hOr⟩ hnr
                  rw [hscan] at hOr hnr
                  rw [hscan, hh1]
                  refine XO.val rfl rfl (OV.mv (v := .tuple _) rfl) ?_
                  refine XO.val rfl rfl (OV.ext rfl rfl) ?_
                  refine XO.val rfl rfl (OV.ext rfl rfl) ?_
                  refine XO.val rfl rfl (OV.ext rfl rfl) ?_
                  refine XO.alloc rfl Red11_zv_2 rfl (fun r12 hr12 => ?_)
                  refine XO.alloc rfl Red11_zv_43 rfl (fun r13 hr13 => ?_)
                  refine XO.st rfl (v := .int _ _) rfl rfl Try.sizeOf2 (by repeat (first | exact Put.hd | apply Put.tl | apply Put.app)) (by (first | (simp only [List.length_append, bys_length, b4_len, zrs_len, headB_len, putHead_len, List.length_replicate, List.length_cons, List.length_nil, List.length_set, List.length_take, List.length_drop, recL_len]; omega) | omega | exact Nat.le_of_ble_eq_true rfl | (simp; done) | (simp; omega))) (by (first | exact .inr ‹_› | (left; ((repeat (first | exact List.Mem.head _ | apply List.Mem.tail)))))) ?_
                  refine XO.st rfl (v := .slice _ _ _) rfl rfl Try.sizeOf43 (by repeat (first | exact Put.hd | apply Put.tl | apply Put.app)) (by (first | (simp only [List.length_append, bys_length, b4_len, zrs_len, headB_len, putHead_len, List.length_replicate, List.length_cons, List.length_nil, List.length_set, List.length_take, List.length_drop, recL_len]; omega) | omega | exact Nat.le_of_ble_eq_true rfl | (simp; done) | (simp; omega))) (by (first | exact .inr ‹_› | (left; ((repeat (first | exact List.Mem.head _ | apply List.Mem.tail)))))) ?_
                  refine XO.val rfl rfl (OV.asg (v := .int _ _) rfl) ?_
                  refine XO.nil ?_
                  refine XK.seq ?_
                  refine XK.seq ?_
                  refine XK.draw [0, 1, 2, 3, 4, 5, 6, 7, 8, 9, 10, 11, 12, 13, 14, 15, 16, 17, 18, 19, 20, 21, 22, 23, 24, 25, 26, 27, 28, 29, 30, 31, 32, 33, 34, 35, 36, 37] [] [] [0, 1, 2, 3, 4, 5, 6, 7, 8, 9, 10, 11, 12, 13, 14, 15, 16, 17, 18, 19, 20, 21, 22, 23, 24, 25, 26, 27, 28, 29, 30, 31, 32, 33, 34, 35, 36, 37] Red11_mixed (by kernel_rfl) alc_none ?_
                  refine TR.v rfl rfl .n rfl rfl rfl (OV.mv (v := .int _ _) rfl) ?_
                  refine TR.v rfl rfl .n rfl rfl rfl (OV.neq rfl rfl) ?_
                  refine TR.v rfl rfl .n rfl rfl rfl (OV.mv (v := .bool _) rfl) ?_
                  refine TR.say (v := .bool false) 88 rfl (congrArg Value.bool (rfl)) ?_
                  refine TR.v rfl rfl (.t rfl rfl) rfl rfl rfl (OV.ld rfl Try.isAgg2 (by repeat (first | exact List.Mem.head _ | apply List.Mem.tail | apply List.mem_append_right)) rfl) ?_
                  refine TR.v rfl rfl (.t rfl rfl) rfl rfl rfl (OV.mv (v := .pointer _) rfl) ?_
                  refine TR.cv (cap := []) rfl rfl (.t rfl rfl) rfl rfl rfl (.cons (v := .pointer _) rfl .nil) Try.call21 (lgStart_ok g r sl1 G1) (by repeat (first | exact Sel.nil | refine Sel.cons (by repeat (first | exact Del.hd | apply Del.tl | apply Del.app)) (by repeat (first | exact List.Mem.head _ | apply List.Mem.tail | apply List.mem_append_right)) ?_)) ?_
                  refine TR.v rfl rfl (.t rfl rfl) rfl rfl rfl (OV.neq rfl rfl) ?_
                  refine TR.v rfl rfl .n rfl rfl rfl (OV.pick_f (v := .bool _) rfl rfl) ?_
                  refine TR.v rfl rfl .n rfl rfl rfl (OV.mv (v := .bool _) rfl) ?_
                  refine TR.say (v := .bool false) 94 rfl (congrArg Value.bool (bneq_f rfl)) ?_
                  refine TR.v rfl rfl (.t rfl rfl) rfl rfl rfl (OV.ld rfl Try.isAgg2 (by repeat (first | exact List.Mem.head _ | apply List.Mem.tail | apply List.mem_append_right)) rfl) ?_
                  refine TR.v rfl rfl (.t rfl rfl) rfl rfl rfl (OV.ld rfl Try.isAgg43 (by repeat (first | exact List.Mem.head _ | apply List.Mem.tail | apply List.mem_append_right)) rfl) ?_
                  refine TR.v rfl rfl (.t rfl rfl) rfl rfl rfl (OV.lenS rfl Try.runUnderlying43) ?_
                  refine TR.v rfl rfl (.t rfl rfl) rfl rfl rfl (OV.add rfl rfl (wrap_in (by omega))) ?_
                  refine TR.v rfl rfl (.t rfl rfl) rfl rfl rfl (OV.sub rfl rfl (wrap_in (by omega))) ?_
                  refine TR.v rfl rfl (.t rfl rfl) rfl rfl rfl (OV.mv (v := .pointer _) rfl) ?_
                  refine TR.cv (cap := []) rfl rfl (.t rfl rfl) rfl rfl rfl (.cons (v := .pointer _) rfl .nil) Try.call22 (lgFlushed_ok g r sl1 G1) (by repeat (first | exact Sel.nil | refine Sel.cons (by repeat (first | exact Del.hd | apply Del.tl | apply Del.app)) (by repeat (first | exact List.Mem.head _ | apply List.Mem.tail | apply List.mem_append_right)) ?_)) ?_
                  refine TR.v rfl rfl (.t rfl rfl) rfl rfl rfl (OV.neq rfl rfl) ?_
                  refine TR.v rfl rfl .n rfl rfl rfl (OV.pick_f (v := .bool _) rfl rfl) ?_
                  refine TR.v rfl rfl .n rfl rfl rfl (OV.mv (v := .bool _) rfl) ?_
                  refine TR.say (v := .bool false) 104 rfl (congrArg Value.bool (bneq_f (by omega))) ?_
                  refine TR.v rfl rfl (.t rfl rfl) rfl rfl rfl (OV.mv (v := .pointer _) rfl) ?_
                  refine TR.cv (cap := []) rfl rfl (.t rfl rfl) rfl rfl rfl (.cons (v := .pointer _) rfl .nil) Try.call22 (lgFlushed_ok g r sl1 G1) (by repeat (first | exact Sel.nil | refine Sel.cons (by repeat (first | exact Del.hd | apply Del.tl | apply Del.app)) (by repeat (first | exact List.Mem.head _ | apply List.Mem.tail | apply List.mem_append_right)) ?_)) ?_
                  refine TR.v rfl rfl (.t rfl rfl) rfl rfl rfl (OV.mv (v := .pointer _) rfl) ?_
                  refine TR.cv (cap := []) rfl rfl (.t rfl rfl) rfl rfl rfl (.cons (v := .pointer _) rfl .nil) Try.call23 (lgNext_ok g r sl1 G1 I1.good.wf) (by repeat (first | exact Sel.nil | refine Sel.cons (by repeat (first | exact Del.hd | apply Del.tl | apply Del.app)) (by repeat (first | exact List.Mem.head _ | apply List.Mem.tail | apply List.mem_append_right)) ?_)) ?_
                  refine TR.v rfl rfl (.t rfl rfl) rfl rfl rfl (OV.geq rfl rfl) ?_
                  refine TR.v rfl rfl .n rfl rfl rfl (OV.pick_f (v := .bool _) rfl rfl) ?_
                  refine TR.v rfl rfl .n rfl rfl rfl (OV.mv (v := .bool _) rfl) ?_
                  refine TR.say (v := .bool false) 111 rfl (congrArg Value.bool (decide_eq_false (by omega))) ?_
                  refine TR.v rfl rfl (.t rfl rfl) rfl rfl rfl (OV.mv (v := .pointer _) rfl) ?_
                  refine TR.cv (cap := []) rfl rfl (.t rfl rfl) rfl rfl rfl (.cons (v := .pointer _) rfl .nil) Try.call24 (lgRoom_ok g r sl1 G1 I1.good.wf) (by repeat (first | exact Sel.nil | refine Sel.cons (by repeat (first | exact Del.hd | apply Del.tl | apply Del.app)) (by repeat (first | exact List.Mem.head _ | apply List.Mem.tail | apply List.mem_append_right)) ?_)) ?_
                  refine TR.v rfl rfl (.t rfl rfl) rfl rfl rfl (OV.fa rfl Red11_fa_23_3) ?_
                  refine TR.v rfl rfl (.t rfl rfl) rfl rfl rfl (OV.ld rfl Try.isAgg3 (by repeat (first | exact List.Mem.head _ | apply List.Mem.tail | apply List.mem_append_right)) rfl) ?_
                  refine TR.v rfl rfl (.t rfl rfl) rfl rfl rfl (OV.mv (v := .pointer _) rfl) ?_
                  refine TR.cv (cap := []) rfl rfl (.t rfl rfl) rfl rfl rfl (.cons (v := .pointer _) rfl .nil) Try.call23 (lgNext_ok g r sl1 G1 I1.good.wf) (by repeat (first | exact Sel.nil | refine Sel.cons (by repeat (first | exact Del.hd | apply Del.tl | apply Del.app)) (by repeat (first | exact List.Mem.head _ | apply List.Mem.tail | apply List.mem_append_right)) ?_)) ?_
                  refine TR.v rfl rfl (.t rfl rfl) rfl rfl rfl (OV.mv (v := .pointer _) rfl) ?_
                  refine TR.cv (cap := []) rfl rfl (.t rfl rfl) rfl rfl rfl (.cons (v := .pointer _) rfl .nil) Try.call21 (lgStart_ok g r sl1 G1) (by repeat (first | exact Sel.nil | refine Sel.cons (by repeat (first | exact Del.hd | apply Del.tl | apply Del.app)) (by repeat (first | exact List.Mem.head _ | apply List.Mem.tail | apply List.mem_append_right)) ?_)) ?_
                  refine TR.v rfl rfl (.t rfl rfl) rfl rfl rfl (OV.sub rfl rfl (wrap_in (by omega))) ?_
                  refine TR.v rfl rfl (.t rfl rfl) rfl rfl rfl (OV.sub rfl rfl (wrap_in (by omega))) ?_
                  refine TR.v rfl rfl (.t rfl rfl) rfl rfl rfl (OV.neq rfl rfl) ?_
                  refine TR.v rfl rfl .n rfl rfl rfl (OV.pick_f (v := .bool _) rfl rfl) ?_
                  refine TR.nil ?_
                  refine XK.say (v := .bool false) 123 rfl (congrArg Value.bool (bneq_f (by omega))) ?_
                  refine XK.cond_f rfl ?_
                  refine XK.skip ?_
                  refine XK.seq ?_
                  refine XK.region ?_
                  refine XO.alloc rfl Red11_zv_3 rfl (fun r15 hr15 => ?_)
                  refine XO.st rfl (v := .int _ _) rfl rfl Try.sizeOf3 (by repeat (first | exact Put.hd | apply Put.tl | apply Put.app)) (by (first | (simp only [List.length_append, bys_length, b4_len, zrs_len, headB_len, putHead_len, List.length_replicate, List.length_cons, List.length_nil, List.length_set, List.length_take, List.length_drop, recL_len]; omega) | omega | exact Nat.le_of_ble_eq_true rfl | (simp; done) | (simp; omega))) (by (first | exact .inr ‹_› | (left; ((repeat (first | exact List.Mem.head _ | apply List.Mem.tail)))))) ?_
                  refine XO.nil ?_
                  refine XK.seq ?_
                  refine XK.region ?_
                  refine XO.val rfl rfl (OV.mv (v := .pointer _) rfl) ?_
                  refine XO.callG (cap := []) rfl rfl (.cons (v := .pointer _) rfl .nil) Try.call25 (lgRecords_ok g r sl1 G1 I1.good.wf hO1) (by (repeat (first | exact Sel.nil | refine Sel.cons (by repeat (first | exact Del.hd | apply Del.tl | apply Del.app)) (by repeat (first | exact List.Mem.head _ | apply List.Mem.tail | apply List.mem_append_right)) ?_ | (apply Sel.seg1; ((repeat (first | exact TakL.hd | with_reducible exact TakL.hdA | exact TakL.last | apply TakL.tl | with_reducible apply TakL.nilA | apply TakL.app | with_reducible apply TakL.appA)); done)) | with_reducible apply Sel.nilA | refine Sel.seg (by (repeat (first | exact TakL.hd | with_reducible exact TakL.hdA | exact TakL.last | apply TakL.tl | with_reducible apply TakL.nilA | apply TakL.app | with_reducible apply TakL.appA))) ?_ | refine Sel.segA (by (repeat (first | exact TakL.hd | with_reducible exact TakL.hdA | exact TakL.last | apply TakL.tl | with_reducible apply TakL.nilA | apply TakL.app | with_reducible apply TakL.appA))) ?_))) (by ((repeat (first | exact wrs_nil | (refine wrs_cons (by (first | exact .inr ‹_› | (left; ((repeat (first | exact List.Mem.head _ | apply List.Mem.tail)))))) ?_))))) .nil ?_
                  rintro _ _ ⟨bb, slq, rfl, rfl, hOq⟩ hnq
                  refine XO.val rfl rfl (OV.asg (v := .func _ _ _) rfl) ?_
                  refine XO.nil ?_
                  refine XK.seq ?_
                  refine XK.seq ?_
                  refine XK.region ?_
                  refine XO.val rfl rfl (OV.mv (v := .func _ _ _) rfl) ?_
                  refine XO.val rfl rfl (OV.eqNf rfl rfl Try.runUnderlying49) ?_
                  refine XO.nil ?_
                  refine XK.cond_f rfl ?_
                  refine XK.skip ?_
                  refine XK.seq ?_
                  refine XK.seq ?_
                  refine XK.region ?_
                  refine XO.val rfl rfl (OV.mv (v := .func _ _ _) rfl) ?_
                  refine XO.nil ?_
                  refine XK.block ?_
                  refine XK.rangeF (X := Nat) (cap := [.pointer (some ⟨bb, 0, none⟩)]) (Li := ((bb, cel [slV slq G1.l.length] 43) :: slB slq (recsL G1.l) 52)) (Lr := ((g, cel (lgL r sl1 G1) 155) :: (r, cel (devL s D1) 86) :: (s, cel (secL D1) 157) :: (r3, cel (jobL j) 23) :: (r4, cel [.int .i64 node] 3) :: (r6, cel [.bool false] 4) :: (q, .cells (List.toArray lq) E fr) :: (r12, cel [.int .i64 G1.start] 2) :: (r13, cel [slV slr sc.length] 43) :: (slB slr (recsL sc) 52 ++ (slB sl1 (recsL G1.l) 52 ++ mkB x.Ds)))) (fun (y : Nat) => [(r15, cel [.int .i64 (y : Int)] 3)]) (fun (i : Nat) (y : Nat) => y = i) (fun (k : Code) (y : Nat) => False) 0 rfl rfl Try.call83 (records1_ok bb slq G1.l I1.good.wf.body (by omega) hOq) (by (repeat (first | exact Sel.nil | refine Sel.cons (by repeat (first | exact Del.hd | apply Del.tl | apply Del.app)) (by repeat (first | exact List.Mem.head _ | apply List.Mem.tail | apply List.mem_append_right)) ?_ | (apply Sel.seg1; ((repeat (first | exact TakL.hd | with_reducible exact TakL.hdA | exact TakL.last | apply TakL.tl | with_reducible apply TakL.nilA | apply TakL.app | with_reducible apply TakL.appA)); done)) | with_reducible apply Sel.nilA | refine Sel.seg (by (repeat (first | exact TakL.hd | with_reducible exact TakL.hdA | exact TakL.last | apply TakL.tl | with_reducible apply TakL.nilA | apply TakL.app | with_reducible apply TakL.appA))) ?_ | refine Sel.segA (by (repeat (first | exact TakL.hd | with_reducible exact TakL.hdA | exact TakL.last | apply TakL.tl | with_reducible apply TakL.nilA | apply TakL.app | with_reducible apply TakL.appA))) ?_))) rfl (by ((repeat (first | exact wrs_nil | (refine wrs_cons (by (first | exact .inr ‹_› | (left; ((repeat (first | exact List.Mem.head _ | apply List.Mem.tail)))))) ?_))))) rfl (by intro v hv; obtain ⟨r, _, rfl⟩ := List.mem_map.1 hv; rfl) (fun i y l oR B1 hi hI hBl => ?_) (fun y D hI hD hnew => ?_) (fun y D k hI hD hnew => ?_)
                  · have _round := trivial
                    have hy : i < G1.l.length := by simpa using hi
                    subst hI
                    rw [getD_mapR hy]
                    have hrb : (G1.l.getD y zRcd).body.length = 96 := I1.good.wf.body _ (by rw [List.getD_eq_getElem?_getD, List.getElem?_eq_getElem hy]; exact List.getElem_mem hy)
                    have hrr := I1.recs y hy
                    have hrl := (I1.good.may y hy).2.1
                    refine XK.region ?_
                    refine XO.alloc rfl Red11_zv_52 rfl (fun r17 hr17 => ?_)
                    refine XO.stA rfl rfl (by (repeat (first | with_reducible (apply one_app) | with_reducible exact bys_one | with_reducible exact recL_one _ | with_reducible exact one_rep rfl | exact ones_of rfl | exact bys_one))) Try.sizeOf52 (by (first | assumption | (simp only [List.length_append, bys_length, b4_len, zrs_len, headB_len, putHead_len, List.length_replicate, List.length_cons, List.length_nil, List.length_set, List.length_take, List.length_drop, recL_len]; done) | (simp only [List.length_append, bys_length, b4_len, zrs_len, headB_len, putHead_len, List.length_replicate, List.length_cons, List.length_nil, List.length_set, List.length_take, List.length_drop, recL_len]; omega) | rfl | (simp [*, bys_length]; done) | (simp [*, bys_length]; omega))) (by repeat (first | exact Put.hd | apply Put.tl | apply Put.app)) (by first | exact splice_all (by (first | assumption | (simp only [List.length_append, bys_length, b4_len, zrs_len, headB_len, putHead_len, List.length_replicate, List.length_cons, List.length_nil, List.length_set, List.length_take, List.length_drop, recL_len]; done) | (simp only [List.length_append, bys_length, b4_len, zrs_len, headB_len, putHead_len, List.length_replicate, List.length_cons, List.length_nil, List.length_set, List.length_take, List.length_drop, recL_len]; omega) | rfl | (simp [*, bys_length]; done) | (simp [*, bys_length]; omega))) | rfl) (by (first | (simp only [List.length_append, bys_length, b4_len, zrs_len, headB_len, putHead_len, List.length_replicate, List.length_cons, List.length_nil, List.length_set, List.length_take, List.length_drop, recL_len]; omega) | omega | exact Nat.le_of_ble_eq_true rfl | (simp; done) | (simp; omega))) (by (first | exact .inr ‹_› | (left; ((repeat (first | exact List.Mem.head _ | apply List.Mem.tail)))))) ?_
                    refine XO.nil ?_
                    refine XK.asEnd (by repeat (first | exact Tak.hd | apply Tak.tl | apply Tak.app)) (fun o => ?_)
                    refine XK.block ?_
                    refine XK.seq ?_
                    refine XK.seq ?_
                    refine XK.draw [0, 1, 2, 3, 4, 5, 6, 7, 8, 9, 10, 11, 12, 13, 14, 15, 16, 17, 18, 19, 20, 21, 22, 23, 24, 25, 26, 27, 28, 29, 30] [] [] [0, 1, 2, 3, 4, 5, 6, 7, 8, 9, 10, 11, 12, 13, 14, 15, 16, 17, 18, 19, 20, 21, 22, 23, 24, 25, 26, 27, 28, 29, 30] Red11_mixed (by kernel_rfl) alc_none ?_
                    refine TR.v rfl rfl .n rfl rfl rfl (OV.ld rfl Try.isAgg3 (by repeat (first | exact List.Mem.head _ | apply List.Mem.tail | apply List.mem_append_right)) rfl) ?_
                    refine TR.v rfl rfl .n rfl rfl rfl (OV.ld rfl Try.isAgg43 (by repeat (first | exact List.Mem.head _ | apply List.Mem.tail | apply List.mem_append_right)) rfl) ?_
                    refine TR.v rfl rfl .n rfl rfl rfl (OV.lenS rfl Try.runUnderlying43) ?_
                    refine TR.v rfl rfl .n rfl rfl rfl (OV.lss rfl rfl) ?_
                    refine TR.v rfl rfl .n rfl rfl rfl (OV.mv (v := .bool _) rfl) ?_
                    refine TR.split (t := 134) rfl (fun hh11 => ?_) (fun hh11 => ?_)
                    · replace hh11 := of_decide_eq_true hh11
                      have hys : y < sc.length := by omega
                      obtain ⟨qr, cr, pr, rfl⟩ := own_some hOr (by omega)
                      refine TR.v rfl rfl (.t rfl rfl) rfl rfl rfl (OV.ld rfl Try.isAgg43 (by repeat (first | exact List.Mem.head _ | apply List.Mem.tail | apply List.mem_append_right)) rfl) ?_
                      refine TR.v rfl rfl (.t rfl rfl) rfl rfl rfl (OV.ld rfl Try.isAgg3 (by repeat (first | exact List.Mem.head _ | apply List.Mem.tail | apply List.mem_append_right)) rfl) ?_
                      refine TR.v rfl rfl (.t rfl rfl) rfl rfl rfl (OV.ixS rfl rfl Try.runUnderlying43 Try.sizeOf52 (by omega) (by omega)) ?_
                      refine TR.v rfl rfl (.t rfl rfl) rfl rfl rfl (OV.ldA rfl Try.isAgg52 Try.sizeOf52 (by repeat (first | exact List.Mem.head _ | apply List.Mem.tail | apply List.mem_append_right)) (show ((recsL sc ++ pr).drop (0 + Int.toNat (y : Int) * 101)).take 101 = recL (G1.l.getD y zRcd) from by rw [Nat.zero_add, Int.toNat_natCast, recsL_take (fun x hx => I1.good.wf.body x (by rw [hsc] at hx; exact List.take_subset _ _ hx)) hys, hsc, getD_take (by omega)]) (by rw [recL_len, hrb])) ?_
                      refine TR.v rfl rfl (.t rfl rfl) rfl rfl rfl (OV.ldA rfl Try.isAgg52 Try.sizeOf52 (by repeat (first | exact List.Mem.head _ | apply List.Mem.tail | apply List.mem_append_right)) (grab_all (by (first | assumption | (simp only [List.length_append, bys_length, b4_len, zrs_len, headB_len, putHead_len, List.length_replicate, List.length_cons, List.length_nil, List.length_set, List.length_take, List.length_drop, recL_len]; done) | (simp only [List.length_append, bys_length, b4_len, zrs_len, headB_len, putHead_len, List.length_replicate, List.length_cons, List.length_nil, List.length_set, List.length_take, List.length_drop, recL_len]; omega) | rfl | (simp [*, bys_length]; done) | (simp [*, bys_length]; omega)))) (by (first | assumption | (simp only [List.length_append, bys_length, b4_len, zrs_len, headB_len, putHead_len, List.length_replicate, List.length_cons, List.length_nil, List.length_set, List.length_take, List.length_drop, recL_len]; done) | (simp only [List.length_append, bys_length, b4_len, zrs_len, headB_len, putHead_len, List.length_replicate, List.length_cons, List.length_nil, List.length_set, List.length_take, List.length_drop, recL_len]; omega) | rfl | (simp [*, bys_length]; done) | (simp [*, bys_length]; omega)))) ?_
                      refine TR.v rfl rfl (.t rfl rfl) rfl rfl rfl (OV.neA rfl rfl Red11_flat_8_52 Try.isAgg52 Red11_eqg_52 (alike_rec hrb hrb)) ?_
                      refine TR.v rfl rfl .n rfl rfl rfl (OV.pick_t (v := .bool _) rfl rfl) ?_
                      refine TR.v rfl rfl .n rfl rfl rfl (OV.mv (v := .bool _) rfl) ?_
                      refine TR.say (v := .bool false) 142 rfl (congrArg Value.bool (by rw [eqvs_rec]; rfl)) ?_
                      refine TR.v rfl rfl (.t rfl rfl) rfl rfl rfl (OV.fa rfl Red11_fa_52_2) ?_
                      refine TR.v rfl rfl (.t rfl rfl) rfl rfl rfl (OV.ld rfl Try.isAgg2 (by repeat (first | exact List.Mem.head _ | apply List.Mem.tail | apply List.mem_append_right)) rfl) ?_
                      refine TR.v rfl rfl (.t rfl rfl) rfl rfl rfl (OV.ld rfl Try.isAgg2 (by repeat (first | exact List.Mem.head _ | apply List.Mem.tail | apply List.mem_append_right)) rfl) ?_
                      refine TR.v rfl rfl (.t rfl rfl) rfl rfl rfl (OV.ld rfl Try.isAgg3 (by repeat (first | exact List.Mem.head _ | apply List.Mem.tail | apply List.mem_append_right)) rfl) ?_
                      refine TR.v rfl rfl (.t rfl rfl) rfl rfl rfl (OV.add rfl rfl (wrap_in (by omega))) ?_
                      refine TR.v rfl rfl (.t rfl rfl) rfl rfl rfl (OV.neq rfl rfl) ?_
                      refine TR.v rfl rfl .n rfl rfl rfl (OV.pick_f (v := .bool _) rfl rfl) ?_
                      refine TR.v rfl rfl .n rfl rfl rfl (OV.mv (v := .bool _) rfl) ?_
                      refine TR.say (v := .bool false) 150 rfl (congrArg Value.bool (bneq_f (by omega))) ?_
                      refine TR.v rfl rfl (.t rfl rfl) rfl rfl rfl (OV.fa rfl Red11_fa_52_0) ?_
                      refine TR.v rfl rfl (.t rfl rfl) rfl rfl rfl (OV.ld rfl Try.isAgg3 (by repeat (first | exact List.Mem.head _ | apply List.Mem.tail | apply List.mem_append_right)) rfl) ?_
                      refine TR.v rfl rfl (.t rfl rfl) rfl rfl rfl (OV.ld rfl Try.isAgg3 (by repeat (first | exact List.Mem.head _ | apply List.Mem.tail | apply List.mem_append_right)) rfl) ?_
                      refine TR.v rfl rfl (.t rfl rfl) rfl rfl rfl (OV.neq rfl rfl) ?_
                      refine TR.v rfl rfl .n rfl rfl rfl (OV.pick_f (v := .bool _) rfl rfl) ?_
                      refine TR.v rfl rfl .n rfl rfl rfl (OV.mv (v := .bool _) rfl) ?_
                      refine TR.say (v := .bool false) 156 rfl (congrArg Value.bool (bneq_f hrr.1)) ?_
                      refine TR.v rfl rfl (.t rfl rfl) rfl rfl rfl (OV.fa rfl Red11_fa_52_1) ?_
                      refine TR.v rfl rfl (.t rfl rfl) rfl rfl rfl (OV.ld rfl Try.isAgg2 (by repeat (first | exact List.Mem.head _ | apply List.Mem.tail | apply List.mem_append_right)) rfl) ?_
                      refine TR.v rfl rfl (.t rfl rfl) rfl rfl rfl (OV.neq rfl rfl) ?_
                      refine TR.v rfl rfl .n rfl rfl rfl (OV.pick_f (v := .bool _) rfl rfl) ?_
                      refine TR.nil ?_
                      refine XK.say (v := .bool false) 160 rfl (congrArg Value.bool (bneq_f hrr.2.1)) ?_
                      refine XK.cond_f rfl ?_
                      refine XK.skip ?_
                      refine XK.region ?_
                      refine XO.val rfl rfl (OV.ld rfl Try.isAgg3 (by repeat (first | exact List.Mem.head _ | apply List.Mem.tail | apply List.mem_append_right)) rfl) ?_
                      refine XO.val rfl rfl (OV.add rfl rfl (wrap_in (by omega))) ?_
                      refine XO.st rfl (v := .int _ _) rfl rfl Try.sizeOf3 (by repeat (first | exact Put.hd | apply Put.tl | apply Put.app)) (by (first | (simp only [List.length_append, bys_length, b4_len, zrs_len, headB_len, putHead_len, List.length_replicate, List.length_cons, List.length_nil, List.length_set, List.length_take, List.length_drop, recL_len]; omega) | omega | exact Nat.le_of_ble_eq_true rfl | (simp; done) | (simp; omega))) (by (first | exact .inr ‹_› | (left; ((repeat (first | exact List.Mem.head _ | apply List.Mem.tail)))))) ?_
                      refine XO.nil ?_
                      refine XK.inblk ?_
                      exact XK.rdEnd (y + 1) (by (repeat (first | exact Sel.nil | refine Sel.cons (by repeat (first | exact Del.hd | apply Del.tl | apply Del.app)) (by repeat (first | exact List.Mem.head _ | apply List.Mem.tail | apply List.mem_append_right)) ?_ | (apply Sel.seg1; ((repeat (first | exact TakL.hd | with_reducible exact TakL.hdA | exact TakL.last | apply TakL.tl | with_reducible apply TakL.nilA | apply TakL.app | with_reducible apply TakL.appA)); done)) | with_reducible apply Sel.nilA | refine Sel.seg (by (repeat (first | exact TakL.hd | with_reducible exact TakL.hdA | exact TakL.last | apply TakL.tl | with_reducible apply TakL.nilA | apply TakL.app | with_reducible apply TakL.appA))) ?_ | refine Sel.segA (by (repeat (first | exact TakL.hd | with_reducible exact TakL.hdA | exact TakL.last | apply TakL.tl | with_reducible apply TakL.nilA | apply TakL.app | with_reducible apply TakL.appA))) ?_))) (by (repeat (first | exact nwNil | refine nwCons (by first | exact .inr ‹_› | (left; repeat (first | exact List.Mem.head _ | apply List.Mem.tail)) | (right; omega)) ?_ | assumption))) rfl
                    · replace hh11 := of_decide_eq_false hh11
                      refine TR.sk rfl rfl rfl rfl rfl rfl ?_
                      refine TR.sk rfl rfl rfl rfl rfl rfl ?_
                      refine TR.sk rfl rfl rfl rfl rfl rfl ?_
                      refine TR.sk rfl rfl rfl rfl rfl rfl ?_
                      refine TR.sk rfl rfl rfl rfl rfl rfl ?_
                      refine TR.sk rfl rfl rfl rfl rfl rfl ?_
                      refine TR.v rfl rfl .n rfl rfl rfl (OV.pick_f (v := .bool _) rfl rfl) ?_
                      refine TR.v rfl rfl .n rfl rfl rfl (OV.mv (v := .bool _) rfl) ?_
                      refine TR.v rfl rfl (.t rfl rfl) rfl rfl rfl (OV.fa rfl Red11_fa_52_2) ?_
                      refine TR.v rfl rfl (.t rfl rfl) rfl rfl rfl (OV.ld rfl Try.isAgg2 (by repeat (first | exact List.Mem.head _ | apply List.Mem.tail | apply List.mem_append_right)) rfl) ?_
                      refine TR.v rfl rfl (.t rfl rfl) rfl rfl rfl (OV.ld rfl Try.isAgg2 (by repeat (first | exact List.Mem.head _ | apply List.Mem.tail | apply List.mem_append_right)) rfl) ?_
                      refine TR.v rfl rfl (.t rfl rfl) rfl rfl rfl (OV.ld rfl Try.isAgg3 (by repeat (first | exact List.Mem.head _ | apply List.Mem.tail | apply List.mem_append_right)) rfl) ?_
                      refine TR.v rfl rfl (.t rfl rfl) rfl rfl rfl (OV.add rfl rfl (wrap_in (by omega))) ?_
                      refine TR.v rfl rfl (.t rfl rfl) rfl rfl rfl (OV.neq rfl rfl) ?_
                      refine TR.v rfl rfl .n rfl rfl rfl (OV.pick_f (v := .bool _) rfl rfl) ?_
                      refine TR.v rfl rfl .n rfl rfl rfl (OV.mv (v := .bool _) rfl) ?_
                      refine TR.say (v := .bool false) 150 rfl (congrArg Value.bool (bneq_f (by omega))) ?_
                      refine TR.v rfl rfl (.t rfl rfl) rfl rfl rfl (OV.fa rfl Red11_fa_52_0) ?_
                      refine TR.v rfl rfl (.t rfl rfl) rfl rfl rfl (OV.ld rfl Try.isAgg3 (by repeat (first | exact List.Mem.head _ | apply List.Mem.tail | apply List.mem_append_right)) rfl) ?_
                      refine TR.v rfl rfl (.t rfl rfl) rfl rfl rfl (OV.ld rfl Try.isAgg3 (by repeat (first | exact List.Mem.head _ | apply List.Mem.tail | apply List.mem_append_right)) rfl) ?_
                      refine TR.v rfl rfl (.t rfl rfl) rfl rfl rfl (OV.neq rfl rfl) ?_
                      refine TR.v rfl rfl .n rfl rfl rfl (OV.pick_f (v := .bool _) rfl rfl) ?_
                      refine TR.v rfl rfl .n rfl rfl rfl (OV.mv (v := .bool _) rfl) ?_
                      refine TR.say (v := .bool false) 156 rfl (congrArg Value.bool (bneq_f hrr.1)) ?_
                      refine TR.v rfl rfl (.t rfl rfl) rfl rfl rfl (OV.fa rfl Red11_fa_52_1) ?_
                      refine TR.v rfl rfl (.t rfl rfl) rfl rfl rfl (OV.ld rfl Try.isAgg2 (by repeat (first | exact List.Mem.head _ | apply List.Mem.tail | apply List.mem_append_right)) rfl) ?_
                      refine TR.v rfl rfl (.t rfl rfl) rfl rfl rfl (OV.neq rfl rfl) ?_
                      refine TR.v rfl rfl .n rfl rfl rfl (OV.pick_f (v := .bool _) rfl rfl) ?_
                      refine TR.nil ?_
                      refine XK.say (v := .bool false) 160 rfl (congrArg Value.bool (bneq_f hrr.2.1)) ?_
                      refine XK.cond_f rfl ?_
                      refine XK.skip ?_
                      refine XK.region ?_
                      refine XO.val rfl rfl (OV.ld rfl Try.isAgg3 (by repeat (first | exact List.Mem.head _ | apply List.Mem.tail | apply List.mem_append_right)) rfl) ?_
                      refine XO.val rfl rfl (OV.add rfl rfl (wrap_in (by omega))) ?_
                      refine XO.st rfl (v := .int _ _) rfl rfl Try.sizeOf3 (by repeat (first | exact Put.hd | apply Put.tl | apply Put.app)) (by (first | (simp only [List.length_append, bys_length, b4_len, zrs_len, headB_len, putHead_len, List.length_replicate, List.length_cons, List.length_nil, List.length_set, List.length_take, List.length_drop, recL_len]; omega) | omega | exact Nat.le_of_ble_eq_true rfl | (simp; done) | (simp; omega))) (by (first | exact .inr ‹_› | (left; ((repeat (first | exact List.Mem.head _ | apply List.Mem.tail)))))) ?_
                      refine XO.nil ?_
                      refine XK.inblk ?_
                      exact XK.rdEnd (y + 1) (by (repeat (first | exact Sel.nil | refine Sel.cons (by repeat (first | exact Del.hd | apply Del.tl | apply Del.app)) (by repeat (first | exact List.Mem.head _ | apply List.Mem.tail | apply List.mem_append_right)) ?_ | (apply Sel.seg1; ((repeat (first | exact TakL.hd | with_reducible exact TakL.hdA | exact TakL.last | apply TakL.tl | with_reducible apply TakL.nilA | apply TakL.app | with_reducible apply TakL.appA)); done)) | with_reducible apply Sel.nilA | refine Sel.seg (by (repeat (first | exact TakL.hd | with_reducible exact TakL.hdA | exact TakL.last | apply TakL.tl | with_reducible apply TakL.nilA | apply TakL.app | with_reducible apply TakL.appA))) ?_ | refine Sel.segA (by (repeat (first | exact TakL.hd | with_reducible exact TakL.hdA | exact TakL.last | apply TakL.tl | with_reducible apply TakL.nilA | apply TakL.app | with_reducible apply TakL.appA))) ?_))) (by (repeat (first | exact nwNil | refine nwCons (by first | exact .inr ‹_› | (left; repeat (first | exact List.Mem.head _ | apply List.Mem.tail)) | (right; omega)) ?_ | assumption))) rfl
                  · have _done := trivial
                    have hyl : y = G1.l.length := by rw [hI]; simp
                    refine XK.inblk ?_
                    refine XK.seq ?_
                    refine XK.draw [0, 1, 2, 3, 4, 5, 6] [] [] [0, 1, 2, 3, 4, 5, 6] Red11_mixed (by kernel_rfl) alc_none ?_
                    refine TR.v rfl rfl .n rfl rfl rfl (OV.ld rfl Try.isAgg3 (by repeat (first | exact List.Mem.head _ | apply List.Mem.tail | apply List.mem_append_right)) rfl) ?_
                    refine TR.v rfl rfl .n rfl rfl rfl (OV.mv (v := .pointer _) rfl) ?_
                    refine TR.cv (cap := []) rfl rfl .n rfl rfl rfl (.cons (v := .pointer _) rfl .nil) Try.call23 (lgNext_ok g r sl1 G1 I1.good.wf) (by repeat (first | exact Sel.nil | refine Sel.cons (by repeat (first | exact Del.hd | apply Del.tl | apply Del.app)) (by repeat (first | exact List.Mem.head _ | apply List.Mem.tail | apply List.mem_append_right)) ?_)) ?_
                    refine TR.v rfl rfl .n rfl rfl rfl (OV.mv (v := .pointer _) rfl) ?_
                    refine TR.cv (cap := []) rfl rfl .n rfl rfl rfl (.cons (v := .pointer _) rfl .nil) Try.call21 (lgStart_ok g r sl1 G1) (by repeat (first | exact Sel.nil | refine Sel.cons (by repeat (first | exact Del.hd | apply Del.tl | apply Del.app)) (by repeat (first | exact List.Mem.head _ | apply List.Mem.tail | apply List.mem_append_right)) ?_)) ?_
                    refine TR.v rfl rfl .n rfl rfl rfl (OV.sub rfl rfl (wrap_in (by omega))) ?_
                    refine TR.v rfl rfl .n rfl rfl rfl (OV.neq rfl rfl) ?_
                    refine TR.nil ?_
                    refine XK.say (v := .bool false) 169 rfl (congrArg Value.bool (bneq_f (by omega))) ?_
                    refine XK.cond_f rfl ?_
                    refine XK.skip ?_
                    refine XK.inblk ?_
                    refine XK.region ?_
                    refine XO.val rfl rfl (OV.mv (v := .int _ _) rfl) ?_
                    refine XO.val rfl rfl (OV.add rfl rfl (wrap_in (by omega))) ?_
                    refine XO.val rfl rfl (OV.asg (v := .int _ _) rfl) ?_
                    refine XO.nil ?_
                    refine XK.rnd ⟨⟨x.i + 1, G1, D1, sl1, D :: x.Ds⟩, ⟨⟨rfl, rfl, rfl, rfl, rfl, rfl, trivial⟩, ⟨rfl, trivial⟩, rfl, (by (repeat (first | exact Sel.nil | refine Sel.cons (by repeat (first | exact Del.hd | apply Del.tl | apply Del.app)) (by repeat (first | exact List.Mem.head _ | apply List.Mem.tail | apply List.mem_append_right)) ?_ | (apply Sel.seg1; ((repeat (first | exact TakL.hd | with_reducible exact TakL.hdA | exact TakL.last | apply TakL.tl | with_reducible apply TakL.nilA | apply TakL.app | with_reducible apply TakL.appA)); done)) | with_reducible apply Sel.nilA | refine Sel.seg (by (repeat (first | exact TakL.hd | with_reducible exact TakL.hdA | exact TakL.last | apply TakL.tl | with_reducible apply TakL.nilA | apply TakL.app | with_reducible apply TakL.appA))) ?_ | refine Sel.segA (by (repeat (first | exact TakL.hd | with_reducible exact TakL.hdA | exact TakL.last | apply TakL.tl | with_reducible apply TakL.nilA | apply TakL.app | with_reducible apply TakL.appA))) ?_))), ⟨by show x.i + 1 ≤ _; omega, I1, hO1, hK2, by intro d hd; rcases List.mem_cons.1 hd with rfl | hd; exact hD; exact hI0.2.2.2.2 d hd⟩⟩, (by show st.length - (x.i + 1) < st.length - x.i; omega)⟩
                  · exact hI.elim
                · replace hh10 := of_decide_eq_false hh10
                  have I1 := hI.2.1.later (Nat.le_succ x.i)
                  have hO1 := hI.2.2.1
                  have hK2 := hI.2.2.2.1
                  obtain ⟨sl1, hsl1⟩ : ∃ s, s = x.sl := ⟨_, rfl⟩
                  obtain ⟨G1, hG1⟩ : ∃ G1, G1 = x.G := ⟨_, rfl⟩
                  obtain ⟨D1, hD1⟩ : ∃ D1, D1 = x.D := ⟨_, rfl⟩
                  rw [← hG1, ← hD1] at I1
                  rw [← hG1, ← hsl1] at hO1
                  rw [← hsl1] at hK2
                  rw [← hG1, ← hsl1, ← hD1]
                  have hfl0 := I1.good.wf.fl0
                  have hfl1 := I1.good.wf.fl1
                  have hst0 := I1.good.wf.st0
                  have hst1 := I1.good.wf.st1
                  have hln := I1.good.wf.len
                  have hnx : G1.next = G1.start + (G1.l.length : Int) := rfl
                  have hnx1 := I1.next
                  have hroom := I1.room (by omega)
                  have hlog := hj.2.2.2.2.2.2.2
                  obtain ⟨sc, hsc⟩ : ∃ sc, sc = G1.l.take (G1.flushed - G1.start + 1).toNat := ⟨_, rfl⟩
                  have hscan : D1.scan j node = sc := (I1.scan (by omega)).trans hsc.symm
                  have hscl : (sc.length : Int) = G1.flushed - G1.start + 1 := by rw [hsc, List.length_take]; omega
                  obtain ⟨eh, _, hhd⟩ := I1.hd
                  have hh1 : (D1.hd j node).1 = G1.start := by rw [hhd]
                  have hh2 : (D1.hd j node).2.2 = 0 := by rw [hhd]
                  have hz1 : j.secs ≤ (D1.S.length : Int) := by rw [I1.size]; exact Int.le_refl _
                  refine XK.cond_f rfl ?_
                  refine XK.skip ?_
                  refine XK.inblk ?_
                  refine XK.seq ?_
                  refine XK.region ?_
                  refine XO.val rfl rfl (OV.mv (v := .pointer _) rfl) ?_
                  refine XO.val rfl rfl (OV.ldA rfl Try.isAgg23 Try.sizeOf23 (by repeat (first | exact List.Mem.head _ | apply List.Mem.tail | apply List.mem_append_right)) (grab_all (by (first | assumption | (simp only [List.length_append, bys_length, b4_len, zrs_len, headB_len, putHead_len, List.length_replicate, List.length_cons, List.length_nil, List.length_set, List.length_take, List.length_drop, recL_len]; done) | (simp only [List.length_append, bys_length, b4_len, zrs_len, headB_len, putHead_len, List.length_replicate, List.length_cons, List.length_nil, List.length_set, List.length_take, List.length_drop, recL_len]; omega) | rfl | (simp [*, bys_length]; done) | (simp [*, bys_length]; omega)))) (by (first | assumption | (simp only [List.length_append, bys_length, b4_len, zrs_len, headB_len, putHead_len, List.length_replicate, List.length_cons, List.length_nil, List.length_set, List.length_take, List.length_drop, recL_len]; done) | (simp only [List.length_append, bys_length, b4_len, zrs_len, headB_len, putHead_len, List.length_replicate, List.length_cons, List.length_nil, List.length_set, List.length_take, List.length_drop, recL_len]; omega) | rfl | (simp [*, bys_length]; done) | (simp [*, bys_length]; omega)))) ?_
                  refine XO.val rfl rfl (OV.ld rfl Try.isAgg3 (by repeat (first | exact List.Mem.head _ | apply List.Mem.tail | apply List.mem_append_right)) rfl) ?_
                  refine XO.callG (cap := []) rfl rfl (.cons (v := .pointer _) rfl (.cons (v := .agg _) rfl (.cons (v := .int _ _) rfl .nil))) Try.call20 (redoRead_ok r s D1 I1.dwf j hmay node h0 h1 hz1 hh2) (by (repeat (first | exact Sel.nil | refine Sel.cons (by repeat (first | exact Del.hd | apply Del.tl | apply Del.app)) (by repeat (first | exact List.Mem.head _ | apply List.Mem.tail | apply List.mem_append_right)) ?_ | (apply Sel.seg1; ((repeat (first | exact TakL.hd | with_reducible exact TakL.hdA | exact TakL.last | apply TakL.tl | with_reducible apply TakL.nilA | apply TakL.app | with_reducible apply TakL.appA)); done)) | with_reducible apply Sel.nilA | refine Sel.seg (by (repeat (first | exact TakL.hd | with_reducible exact TakL.hdA | exact TakL.last | apply TakL.tl | with_reducible apply TakL.nilA | apply TakL.app | with_reducible apply TakL.appA))) ?_ | refine Sel.segA (by (repeat (first | exact TakL.hd | with_reducible exact TakL.hdA | exact TakL.last | apply TakL.tl | with_reducible apply TakL.nilA | apply TakL.app | with_reducible apply TakL.appA))) ?_))) (by ((repeat (first | exact wrs_nil | (refine wrs_cons (by (first | exact .inr ‹_› | (left; ((repeat (first | exact List.Mem.head _ | apply List.Mem.tail)))))) ?_))))) .nil ?_
                  rintro _ _ ⟨slr, rfl, rfl, hOr⟩ hnr
                  rw [hscan] at hOr hnr
                  rw [hscan, hh1]
                  refine XO.val rfl rfl (OV.mv (v := .tuple _) rfl) ?_
                  refine XO.val rfl rfl (OV.ext rfl rfl) ?_
                  refine XO.val rfl rfl (OV.ext rfl rfl) ?_
                  refine XO.val rfl rfl (OV.ext rfl rfl) ?_
                  refine XO.alloc rfl Red11_zv_2 rfl (fun r12 hr12 => ?_)
                  refine XO.alloc rfl Red11_zv_43 rfl (fun r13 hr13 => ?_)
                  refine XO.st rfl (v := .int _ _) rfl rfl Try.sizeOf2 (by repeat (first | exact Put.hd | apply Put.tl | apply Put.app)) (by (first | (simp only [List.length_append, bys_length, b4_len, zrs_len, headB_len, putHead_len, List.length_replicate, List.length_cons, List.length_nil, List.length_set, List.length_take, List.length_drop, recL_len]; omega) | omega | exact Nat.le_of_ble_eq_true rfl | (simp; done) | (simp; omega))) (by (first | exact .inr ‹_› | (left; ((repeat (first | exact List.Mem.head _ | apply List.Mem.tail)))))) ?_
                  refine XO.st rfl (v := .slice _ _ _) rfl rfl Try.sizeOf43 (by repeat (first | exact Put.hd | apply Put.tl | apply Put.app)) (by (first | (simp only [List.length_append, bys_length, b4_len, zrs_len, headB_len, putHead_len, List.length_replicate, List.length_cons, List.length_nil, List.length_set, List.length_take, List.length_drop, recL_len]; omega) | omega | exact Nat.le_of_ble_eq_true rfl | (simp; done) | (simp; omega))) (by (first | exact .inr ‹_› | (left; ((repeat (first | exact List.Mem.head _ | apply List.Mem.tail)))))) ?_
                  refine XO.val rfl rfl (OV.asg (v := .int _ _) rfl) ?_
                  refine XO.nil ?_
                  refine XK.seq ?_
                  refine XK.seq ?_
                  refine XK.draw [0, 1, 2, 3, 4, 5, 6, 7, 8, 9, 10, 11, 12, 13, 14, 15, 16, 17, 18, 19, 20, 21, 22, 23, 24, 25, 26, 27, 28, 29, 30, 31, 32, 33, 34, 35, 36, 37] [] [] [0, 1, 2, 3, 4, 5, 6, 7, 8, 9, 10, 11, 12, 13, 14, 15, 16, 17, 18, 19, 20, 21, 22, 23, 24, 25, 26, 27, 28, 29, 30, 31, 32, 33, 34, 35, 36, 37] Red11_mixed (by kernel_rfl) alc_none ?_
                  refine TR.v rfl rfl .n rfl rfl rfl (OV.mv (v := .int _ _) rfl) ?_
                  refine TR.v rfl rfl .n rfl rfl rfl (OV.neq rfl rfl) ?_
                  refine TR.v rfl rfl .n rfl rfl rfl (OV.mv (v := .bool _) rfl) ?_
                  refine TR.say (v := .bool false) 88 rfl (congrArg Value.bool (rfl)) ?_
                  refine TR.v rfl rfl (.t rfl rfl) rfl rfl rfl (OV.ld rfl Try.isAgg2 (by repeat (first | exact List.Mem.head _ | apply List.Mem.tail | apply List.mem_append_right)) rfl) ?_
                  refine TR.v rfl rfl (.t rfl rfl) rfl rfl rfl (OV.mv (v := .pointer _) rfl) ?_
                  refine TR.cv (cap := []) rfl rfl (.t rfl rfl) rfl rfl rfl (.cons (v := .pointer _) rfl .nil) Try.call21 (lgStart_ok g r sl1 G1) (by repeat (first | exact Sel.nil | refine Sel.cons (by repeat (first | exact Del.hd | apply Del.tl | apply Del.app)) (by repeat (first | exact List.Mem.head _ | apply List.Mem.tail | apply List.mem_append_right)) ?_)) ?_
                  refine TR.v rfl rfl (.t rfl rfl) rfl rfl rfl (OV.neq rfl rfl) ?_
                  refine TR.v rfl rfl .n rfl rfl rfl (OV.pick_f (v := .bool _) rfl rfl) ?_
                  refine TR.v rfl rfl .n rfl rfl rfl (OV.mv (v := .bool _) rfl) ?_
                  refine TR.say (v := .bool false) 94 rfl (congrArg Value.bool (bneq_f rfl)) ?_
                  refine TR.v rfl rfl (.t rfl rfl) rfl rfl rfl (OV.ld rfl Try.isAgg2 (by repeat (first | exact List.Mem.head _ | apply List.Mem.tail | apply List.mem_append_right)) rfl) ?_
                  refine TR.v rfl rfl (.t rfl rfl) rfl rfl rfl (OV.ld rfl Try.isAgg43 (by repeat (first | exact List.Mem.head _ | apply List.Mem.tail | apply List.mem_append_right)) rfl) ?_
                  refine TR.v rfl rfl (.t rfl rfl) rfl rfl rfl (OV.lenS rfl Try.runUnderlying43) ?_
                  refine TR.v rfl rfl (.t rfl rfl) rfl rfl rfl (OV.add rfl rfl (wrap_in (by omega))) ?_
                  refine TR.v rfl rfl (.t rfl rfl) rfl rfl rfl (OV.sub rfl rfl (wrap_in (by omega))) ?_
                  refine TR.v rfl rfl (.t rfl rfl) rfl rfl rfl (OV.mv (v := .pointer _) rfl) ?_
                  refine TR.cv (cap := []) rfl rfl (.t rfl rfl) rfl rfl rfl (.cons (v := .pointer _) rfl .nil) Try.call22 (lgFlushed_ok g r sl1 G1) (by repeat (first | exact Sel.nil | refine Sel.cons (by repeat (first | exact Del.hd | apply Del.tl | apply Del.app)) (by repeat (first | exact List.Mem.head _ | apply List.Mem.tail | apply List.mem_append_right)) ?_)) ?_
                  refine TR.v rfl rfl (.t rfl rfl) rfl rfl rfl (OV.neq rfl rfl) ?_
                  refine TR.v rfl rfl .n rfl rfl rfl (OV.pick_f (v := .bool _) rfl rfl) ?_
                  refine TR.v rfl rfl .n rfl rfl rfl (OV.mv (v := .bool _) rfl) ?_
                  refine TR.say (v := .bool false) 104 rfl (congrArg Value.bool (bneq_f (by omega))) ?_
                  refine TR.v rfl rfl (.t rfl rfl) rfl rfl rfl (OV.mv (v := .pointer _) rfl) ?_
                  refine TR.cv (cap := []) rfl rfl (.t rfl rfl) rfl rfl rfl (.cons (v := .pointer _) rfl .nil) Try.call22 (lgFlushed_ok g r sl1 G1) (by repeat (first | exact Sel.nil | refine Sel.cons (by repeat (first | exact Del.hd | apply Del.tl | apply Del.app)) (by repeat (first | exact List.Mem.head _ | apply List.Mem.tail | apply List.mem_append_right)) ?_)) ?_
                  refine TR.v rfl rfl (.t rfl rfl) rfl rfl rfl (OV.mv (v := .pointer _) rfl) ?_
                  refine TR.cv (cap := []) rfl rfl (.t rfl rfl) rfl rfl rfl (.cons (v := .pointer _) rfl .nil) Try.call23 (lgNext_ok g r sl1 G1 I1.good.wf) (by repeat (first | exact Sel.nil | refine Sel.cons (by repeat (first | exact Del.hd | apply Del.tl | apply Del.app)) (by repeat (first | exact List.Mem.head _ | apply List.Mem.tail | apply List.mem_append_right)) ?_)) ?_
                  refine TR.v rfl rfl (.t rfl rfl) rfl rfl rfl (OV.geq rfl rfl) ?_
                  refine TR.v rfl rfl .n rfl rfl rfl (OV.pick_f (v := .bool _) rfl rfl) ?_
                  refine TR.v rfl rfl .n rfl rfl rfl (OV.mv (v := .bool _) rfl) ?_
                  refine TR.say (v := .bool false) 111 rfl (congrArg Value.bool (decide_eq_false (by omega))) ?_
                  refine TR.v rfl rfl (.t rfl rfl) rfl rfl rfl (OV.mv (v := .pointer _) rfl) ?_
                  refine TR.cv (cap := []) rfl rfl (.t rfl rfl) rfl rfl rfl (.cons (v := .pointer _) rfl .nil) Try.call24 (lgRoom_ok g r sl1 G1 I1.good.wf) (by repeat (first | exact Sel.nil | refine Sel.cons (by repeat (first | exact Del.hd | apply Del.tl | apply Del.app)) (by repeat (first | exact List.Mem.head _ | apply List.Mem.tail | apply List.mem_append_right)) ?_)) ?_
                  refine TR.v rfl rfl (.t rfl rfl) rfl rfl rfl (OV.fa rfl Red11_fa_23_3) ?_
                  refine TR.v rfl rfl (.t rfl rfl) rfl rfl rfl (OV.ld rfl Try.isAgg3 (by repeat (first | exact List.Mem.head _ | apply List.Mem.tail | apply List.mem_append_right)) rfl) ?_
                  refine TR.v rfl rfl (.t rfl rfl) rfl rfl rfl (OV.mv (v := .pointer _) rfl) ?_
                  refine TR.cv (cap := []) rfl rfl (.t rfl rfl) rfl rfl rfl (.cons (v := .pointer _) rfl .nil) Try.call23 (lgNext_ok g r sl1 G1 I1.good.wf) (by repeat (first | exact Sel.nil | refine Sel.cons (by repeat (first | exact Del.hd | apply Del.tl | apply Del.app)) (by repeat (first | exact List.Mem.head _ | apply List.Mem.tail | apply List.mem_append_right)) ?_)) ?_
                  refine TR.v rfl rfl (.t rfl rfl) rfl rfl rfl (OV.mv (v := .pointer _) rfl) ?_
                  refine TR.cv (cap := []) rfl rfl (.t rfl rfl) rfl rfl rfl (.cons (v := .pointer _) rfl .nil) Try.call21 (lgStart_ok g r sl1 G1) (by repeat (first | exact Sel.nil | refine Sel.cons (by repeat (first | exact Del.hd | apply Del.tl | apply Del.app)) (by repeat (first | exact List.Mem.head _ | apply List.Mem.tail | apply List.mem_append_right)) ?_)) ?_
                  refine TR.v rfl rfl (.t rfl rfl) rfl rfl rfl (OV.sub rfl rfl (wrap_in (by omega))) ?_
                  refine TR.v rfl rfl (.t rfl rfl) rfl rfl rfl (OV.sub rfl rfl (wrap_in (by omega))) ?_
                  refine TR.v rfl rfl (.t rfl rfl) rfl rfl rfl (OV.neq rfl rfl) ?_
                  refine TR.v rfl rfl .n rfl rfl rfl (OV.pick_f (v := .bool _) rfl rfl) ?_
                  refine TR.nil ?_
                  refine XK.say (v := .bool false) 123 rfl (congrArg Value.bool (bneq_f (by omega))) ?_
                  refine XK.cond_f rfl ?_
                  refine XK.skip ?_
                  refine XK.seq ?_
                  refine XK.region ?_
                  refine XO.alloc rfl Red11_zv_3 rfl (fun r15 hr15 => ?_)
                  refine XO.st rfl (v := .int _ _) rfl rfl Try.sizeOf3 (by repeat (first | exact Put.hd | apply Put.tl | apply Put.app)) (by (first | (simp only [List.length_append, bys_length, b4_len, zrs_len, headB_len, putHead_len, List.length_replicate, List.length_cons, List.length_nil, List.length_set, List.length_take, List.length_drop, recL_len]; omega) | omega | exact Nat.le_of_ble_eq_true rfl | (simp; done) | (simp; omega))) (by (first | exact .inr ‹_› | (left; ((repeat (first | exact List.Mem.head _ | apply List.Mem.tail)))))) ?_
                  refine XO.nil ?_
                  refine XK.seq ?_
                  refine XK.region ?_
                  refine XO.val rfl rfl (OV.mv (v := .pointer _) rfl) ?_
                  refine XO.callG (cap := []) rfl rfl (.cons (v := .pointer _) rfl .nil) Try.call25 (lgRecords_ok g r sl1 G1 I1.good.wf hO1) (by (repeat (first | exact Sel.nil | refine Sel.cons (by repeat (first | exact Del.hd | apply Del.tl | apply Del.app)) (by repeat (first | exact List.Mem.head _ | apply List.Mem.tail | apply List.mem_append_right)) ?_ | (apply Sel.seg1; ((repeat (first | exact TakL.hd | with_reducible exact TakL.hdA | exact TakL.last | apply TakL.tl | with_reducible apply TakL.nilA | apply TakL.app | with_reducible apply TakL.appA)); done)) | with_reducible apply Sel.nilA | refine Sel.seg (by (repeat (first | exact TakL.hd | with_reducible exact TakL.hdA | exact TakL.last | apply TakL.tl | with_reducible apply TakL.nilA | apply TakL.app | with_reducible apply TakL.appA))) ?_ | refine Sel.segA (by (repeat (first | exact TakL.hd | with_reducible exact TakL.hdA | exact TakL.last | apply TakL.tl | with_reducible apply TakL.nilA | apply TakL.app | with_reducible apply TakL.appA))) ?_))) (by ((repeat (first | exact wrs_nil | (refine wrs_cons (by (first | exact .inr ‹_› | (left; ((repeat (first | exact List.Mem.head _ | apply List.Mem.tail)))))) ?_))))) .nil ?_
                  rintro _ _ ⟨bb, slq, rfl, rfl, hOq⟩ hnq
                  refine XO.val rfl rfl (OV.asg (v := .func _ _ _) rfl) ?_
                  refine XO.nil ?_
                  refine XK.seq ?_
                  refine XK.seq ?_
                  refine XK.region ?_
                  refine XO.val rfl rfl (OV.mv (v := .func _ _ _) rfl) ?_
                  refine XO.val rfl rfl (OV.eqNf rfl rfl Try.runUnderlying49) ?_
                  refine XO.nil ?_
                  refine XK.cond_f rfl ?_
                  refine XK.skip ?_
                  refine XK.seq ?_
                  refine XK.seq ?_
                  refine XK.region ?_
                  refine XO.val rfl rfl (OV.mv (v := .func _ _ _) rfl) ?_
                  refine XO.nil ?_
                  refine XK.block ?_
                  refine XK.rangeF (X := Nat) (cap := [.pointer (some ⟨bb, 0, none⟩)]) (Li := ((bb, cel [slV slq G1.l.length] 43) :: slB slq (recsL G1.l) 52)) (Lr := ((g, cel (lgL r sl1 G1) 155) :: (r, cel (devL s D1) 86) :: (s, cel (secL D1) 157) :: (r3, cel (jobL j) 23) :: (r4, cel [.int .i64 node] 3) :: (r6, cel [.bool false] 4) :: (q, .cells (List.toArray lq) E fr) :: (r12, cel [.int .i64 G1.start] 2) :: (r13, cel [slV slr sc.length] 43) :: (slB slr (recsL sc) 52 ++ (slB sl1 (recsL G1.l) 52 ++ mkB x.Ds)))) (fun (y : Nat) => [(r15, cel [.int .i64 (y : Int)] 3)]) (fun (i : Nat) (y : Nat) => y = i) (fun (k : Code) (y : Nat) => False) 0 rfl rfl Try.call83 (records1_ok bb slq G1.l I1.good.wf.body (by omega) hOq) (by (repeat (first | exact Sel.nil | refine Sel.cons (by repeat (first | exact Del.hd | apply Del.tl | apply Del.app)) (by repeat (first | exact List.Mem.head _ | apply List.Mem.tail | apply List.mem_append_right)) ?_ | (apply Sel.seg1; ((repeat (first | exact TakL.hd | with_reducible exact TakL.hdA | exact TakL.last | apply TakL.tl | with_reducible apply TakL.nilA | apply TakL.app | with_reducible apply TakL.appA)); done)) | with_reducible apply Sel.nilA | refine Sel.seg (by (repeat (first | exact TakL.hd | with_reducible exact TakL.hdA | exact TakL.last | apply TakL.tl | with_reducible apply TakL.nilA | apply TakL.app | with_reducible apply TakL.appA))) ?_ | refine Sel.segA (by (repeat (first | exact TakL.hd | with_reducible exact TakL.hdA | exact TakL.last | apply TakL.tl | with_reducible apply TakL.nilA | apply TakL.app | with_reducible apply TakL.appA))) ?_))) rfl (by ((repeat (first | exact wrs_nil | (refine wrs_cons (by (first | exact .inr ‹_› | (left; ((repeat (first | exact List.Mem.head _ | apply List.Mem.tail)))))) ?_))))) rfl (by intro v hv; obtain ⟨r, _, rfl⟩ := List.mem_map.1 hv; rfl) (fun i y l oR B1 hi hI hBl => ?_) (fun y D hI hD hnew => ?_) (fun y D k hI hD hnew => ?_)
                  · have _round := trivial
                    have hy : i < G1.l.length := by simpa using hi
                    subst hI
                    rw [getD_mapR hy]
                    have hrb : (G1.l.getD y zRcd).body.length = 96 := I1.good.wf.body _ (by rw [List.getD_eq_getElem?_getD, List.getElem?_eq_getElem hy]; exact List.getElem_mem hy)
                    have hrr := I1.recs y hy
                    have hrl := (I1.good.may y hy).2.1
                    refine XK.region ?_
                    refine XO.alloc rfl Red11_zv_52 rfl (fun r17 hr17 => ?_)
                    refine XO.stA rfl rfl (by (repeat (first | with_reducible (apply one_app) | with_reducible exact bys_one | with_reducible exact recL_one _ | with_reducible exact one_rep rfl | exact ones_of rfl | exact bys_one))) Try.sizeOf52 (by (first | assumption | (simp only [List.length_append, bys_length, b4_len, zrs_len, headB_len, putHead_len, List.length_replicate, List.length_cons, List.length_nil, List.length_set, List.length_take, List.length_drop, recL_len]; done) | (simp only [List.length_append, bys_length, b4_len, zrs_len, headB_len, putHead_len, List.length_replicate, List.length_cons, List.length_nil, List.length_set, List.length_take, List.length_drop, recL_len]; omega) | rfl | (simp [*, bys_length]; done) | (simp [*, bys_length]; omega))) (by repeat (first | exact Put.hd | apply Put.tl | apply Put.app)) (by first | exact splice_all (by (first | assumption | (simp only [List.length_append, bys_length, b4_len, zrs_len, headB_len, putHead_len, List.length_replicate, List.length_cons, List.length_nil, List.length_set, List.length_take, List.length_drop, recL_len]; done) | (simp only [List.length_append, bys_length, b4_len, zrs_len, headB_len, putHead_len, List.length_replicate, List.length_cons, List.length_nil, List.length_set, List.length_take, List.length_drop, recL_len]; omega) | rfl | (simp [*, bys_length]; done) | (simp [*, bys_length]; omega))) | rfl) (by (first | (simp only [List.length_append, bys_length, b4_len, zrs_len, headB_len, putHead_len, List.length_replicate, List.length_cons, List.length_nil, List.length_set, List.length_take, List.length_drop, recL_len]; omega) | omega | exact Nat.le_of_ble_eq_true rfl | (simp; done) | (simp; omega))) (by (first | exact .inr ‹_› | (left; ((repeat (first | exact List.Mem.head _ | apply List.Mem.tail)))))) ?_
                    refine XO.nil ?_
                    refine XK.asEnd (by repeat (first | exact Tak.hd | apply Tak.tl | apply Tak.app)) (fun o => ?_)
                    refine XK.block ?_
                    refine XK.seq ?_
                    refine XK.seq ?_
                    refine XK.draw [0, 1, 2, 3, 4, 5, 6, 7, 8, 9, 10, 11, 12, 13, 14, 15, 16, 17, 18, 19, 20, 21, 22, 23, 24, 25, 26, 27, 28, 29, 30] [] [] [0, 1, 2, 3, 4, 5, 6, 7, 8, 9, 10, 11, 12, 13, 14, 15, 16, 17, 18, 19, 20, 21, 22, 23, 24, 25, 26, 27, 28, 29, 30] Red11_mixed (by kernel_rfl) alc_none ?_
                    refine TR.v rfl rfl .n rfl rfl rfl (OV.ld rfl Try.isAgg3 (by repeat (first | exact List.Mem.head _ | apply List.Mem.tail | apply List.mem_append_right)) rfl) ?_
                    refine TR.v rfl rfl .n rfl rfl rfl (OV.ld rfl Try.isAgg43 (by repeat (first | exact List.Mem.head _ | apply List.Mem.tail | apply List.mem_append_right)) rfl) ?_
                    refine TR.v rfl rfl .n rfl rfl rfl (OV.lenS rfl Try.runUnderlying43) ?_
                    refine TR.v rfl rfl .n rfl rfl rfl (OV.lss rfl rfl) ?_
                    refine TR.v rfl rfl .n rfl rfl rfl (OV.mv (v := .bool _) rfl) ?_
                    refine TR.split (t := 134) rfl (fun hh12 => ?_) (fun hh12 => ?_)
                    · replace hh12 := of_decide_eq_true hh12
                      have hys : y < sc.length := by omega
                      obtain ⟨qr, cr, pr, rfl⟩ := own_some hOr (by omega)
                      refine TR.v rfl rfl (.t rfl rfl) rfl rfl rfl (OV.ld rfl Try.isAgg43 (by repeat (first | exact List.Mem.head _ | apply List.Mem.tail | apply List.mem_append_right)) rfl) ?_
                      refine TR.v rfl rfl (.t rfl rfl) rfl rfl rfl (OV.ld rfl Try.isAgg3 (by repeat (first | exact List.Mem.head _ | apply List.Mem.tail | apply List.mem_append_right)) rfl) ?_
                      refine TR.v rfl rfl (.t rfl rfl) rfl rfl rfl (OV.ixS rfl rfl Try.runUnderlying43 Try.sizeOf52 (by omega) (by omega)) ?_
                      refine TR.v rfl rfl (.t rfl rfl) rfl rfl rfl (OV.ldA rfl Try.isAgg52 Try.sizeOf52 (by repeat (first | exact List.Mem.head _ | apply List.Mem.tail | apply List.mem_append_right)) (show ((recsL sc ++ pr).drop (0 + Int.toNat (y : Int) * 101)).take 101 = recL (G1.l.getD y zRcd) from by rw [Nat.zero_add, Int.toNat_natCast, recsL_take (fun x hx => I1.good.wf.body x (by rw [hsc] at hx; exact List.take_subset _ _ hx)) hys, hsc, getD_take (by omega)]) (by rw [recL_len, hrb])) ?_
                      refine TR.v rfl rfl (.t rfl rfl) rfl rfl rfl (OV.ldA rfl Try.isAgg52 Try.sizeOf52 (by repeat (first | exact List.Mem.head _ | apply List.Mem.tail | apply List.mem_append_right)) (grab_all (by (first | assumption | (simp only [List.length_append, bys_length, b4_len, zrs_len, headB_len, putHead_len, List.length_replicate, List.length_cons, List.length_nil, List.length_set, List.length_take, List.length_drop, recL_len]; done) | (simp only [List.length_append, bys_length, b4_len, zrs_len, headB_len, putHead_len, List.length_replicate, List.length_cons, List.length_nil, List.length_set, List.length_take, List.length_drop, recL_len]; omega) | rfl | (simp [*, bys_length]; done) | (simp [*, bys_length]; omega)))) (by (first | assumption | (simp only [List.length_append, bys_length, b4_len, zrs_len, headB_len, putHead_len, List.length_replicate, List.length_cons, List.length_nil, List.length_set, List.length_take, List.length_drop, recL_len]; done) | (simp only [List.length_append, bys_length, b4_len, zrs_len, headB_len, putHead_len, List.length_replicate, List.length_cons, List.length_nil, List.length_set, List.length_take, List.length_drop, recL_len]; omega) | rfl | (simp [*, bys_length]; done) | (simp [*, bys_length]; omega)))) ?_
                      refine TR.v rfl rfl (.t rfl rfl) rfl rfl rfl (OV.neA rfl rfl Red11_flat_8_52 Try.isAgg52 Red11_eqg_52 (alike_rec hrb hrb)) ?_
                      refine TR.v rfl rfl .n rfl rfl rfl (OV.pick_t (v := .bool _) rfl rfl) ?_
                      refine TR.v rfl rfl .n rfl rfl rfl (OV.mv (v := .bool _) rfl) ?_
                      refine TR.say (v := .bool false) 142 rfl (congrArg Value.bool (by rw [eqvs_rec]; rfl)) ?_
                      refine TR.v rfl rfl (.t rfl rfl) rfl rfl rfl (OV.fa rfl Red11_fa_52_2) ?_
                      refine TR.v rfl rfl (.t rfl rfl) rfl rfl rfl (OV.ld rfl Try.isAgg2 (by repeat (first | exact List.Mem.head _ | apply List.Mem.tail | apply List.mem_append_right)) rfl) ?_
                      refine TR.v rfl rfl (.t rfl rfl) rfl rfl rfl (OV.ld rfl Try.isAgg2 (by repeat (first | exact List.Mem.head _ | apply List.Mem.tail | apply List.mem_append_right)) rfl) ?_
                      refine TR.v rfl rfl (.t rfl rfl) rfl rfl rfl (OV.ld rfl Try.isAgg3 (by repeat (first | exact List.Mem.head _ | apply List.Mem.tail | apply List.mem_append_right)) rfl) ?_
                      refine TR.v rfl rfl (.t rfl rfl) rfl rfl rfl (OV.add rfl rfl (wrap_in (by omega))) ?_
                      refine TR.v rfl rfl (.t rfl rfl) rfl rfl rfl (OV.neq rfl rfl) ?_
                      refine TR.v rfl rfl .n rfl rfl rfl (OV.pick_f (v := .bool _) rfl rfl) ?_
                      refine TR.v rfl rfl .n rfl rfl rfl (OV.mv (v := .bool _) rfl) ?_
                      refine TR.say (v := .bool false) 150 rfl (congrArg Value.bool (bneq_f (by omega))) ?_
                      refine TR.v rfl rfl (.t rfl rfl) rfl rfl rfl (OV.fa rfl Red11_fa_52_0) ?_
                      refine TR.v rfl rfl (.t rfl rfl) rfl rfl rfl (OV.ld rfl Try.isAgg3 (by repeat (first | exact List.Mem.head _ | apply List.Mem.tail | apply List.mem_append_right)) rfl) ?_
                      refine TR.v rfl rfl (.t rfl rfl) rfl rfl rfl (OV.ld rfl Try.isAgg3 (by repeat (first | exact List.Mem.head _ | apply List.Mem.tail | apply List.mem_append_right)) rfl) ?_
                      refine TR.v rfl rfl (.t rfl rfl) rfl rfl rfl (OV.neq rfl rfl) ?_
                      refine TR.v rfl rfl .n rfl rfl rfl (OV.pick_f (v := .bool _) rfl rfl) ?_
                      refine TR.v rfl rfl .n rfl rfl rfl (OV.mv (v := .bool _) rfl) ?_
                      refine TR.say (v := .bool false) 156 rfl (congrArg Value.bool (bneq_f hrr.1)) ?_
                      refine TR.v rfl rfl (.t rfl rfl) rfl rfl rfl (OV.fa rfl Red11_fa_52_1) ?_
                      refine TR.v rfl rfl (.t rfl rfl) rfl rfl rfl (OV.ld rfl Try.isAgg2 (by repeat (first | exact List.Mem.head _ | apply List.Mem.tail | apply List.mem_append_right)) rfl) ?_
                      refine TR.v rfl rfl (.t rfl rfl) rfl rfl rfl (OV.neq rfl rfl) ?_
                      refine TR.v rfl rfl .n rfl rfl rfl (OV.pick_f (v := .bool _) rfl rfl) ?_
                      refine TR.nil ?_
                      refine XK.say (v := .bool false) 160 rfl (congrArg Value.bool (bneq_f hrr.2.1)) ?_
                      refine XK.cond_f rfl ?_
                      refine XK.skip ?_
                      refine XK.region ?_
                      refine XO.val rfl rfl (OV.ld rfl Try.isAgg3 (by repeat (first | exact List.Mem.head _ | apply List.Mem.tail | apply List.mem_append_right)) rfl) ?_
                      refine XO.val rfl rfl (OV.add rfl rfl (wrap_in (by omega))) ?_
                      refine XO.st rfl (v := .int _ _) rfl rfl Try.sizeOf3 (by repeat (first | exact Put.hd | apply Put.tl | apply Put.app)) (by (first | (simp only [List.length_append, bys_length, b4_len, zrs_len, headB_len, putHead_len, List.length_replicate, List.length_cons, List.length_nil, List.length_set, List.length_take, List.length_drop, recL_len]; omega) | omega | exact Nat.le_of_ble_eq_true rfl | (simp; done) | (simp; omega))) (by (first | exact .inr ‹_› | (left; ((repeat (first | exact List.Mem.head _ | apply List.Mem.tail)))))) ?_
                      refine XO.nil ?_
                      refine XK.inblk ?_
                      exact XK.rdEnd (y + 1) (by (repeat (first | exact Sel.nil | refine Sel.cons (by repeat (first | exact Del.hd | apply Del.tl | apply Del.app)) (by repeat (first | exact List.Mem.head _ | apply List.Mem.tail | apply List.mem_append_right)) ?_ | (apply Sel.seg1; ((repeat (first | exact TakL.hd | with_reducible exact TakL.hdA | exact TakL.last | apply TakL.tl | with_reducible apply TakL.nilA | apply TakL.app | with_reducible apply TakL.appA)); done)) | with_reducible apply Sel.nilA | refine Sel.seg (by (repeat (first | exact TakL.hd | with_reducible exact TakL.hdA | exact TakL.last | apply TakL.tl | with_reducible apply TakL.nilA | apply TakL.app | with_reducible apply TakL.appA))) ?_ | refine Sel.segA (by (repeat (first | exact TakL.hd | with_reducible exact TakL.hdA | exact TakL.last | apply TakL.tl | with_reducible apply TakL.nilA | apply TakL.app | with_reducible apply TakL.appA))) ?_))) (by (repeat (first | exact nwNil | refine nwCons (by first | exact .inr ‹_› | (left; repeat (first | exact List.Mem.head _ | apply List.Mem.tail)) | (right; omega)) ?_ | assumption))) rfl
                    · replace hh12 := of_decide_eq_false hh12
                      refine TR.sk rfl rfl rfl rfl rfl rfl ?_
                      refine TR.sk rfl rfl rfl rfl rfl rfl ?_
                      refine TR.sk rfl rfl rfl rfl rfl rfl ?_
                      refine TR.sk rfl rfl rfl rfl rfl rfl ?_
                      refine TR.sk rfl rfl rfl rfl rfl rfl ?_
                      refine TR.sk rfl rfl rfl rfl rfl rfl ?_
                      refine TR.v rfl rfl .n rfl rfl rfl (OV.pick_f (v := .bool _) rfl rfl) ?_
                      refine TR.v rfl rfl .n rfl rfl rfl (OV.mv (v := .bool _) rfl) ?_
                      refine TR.v rfl rfl (.t rfl rfl) rfl rfl rfl (OV.fa rfl Red11_fa_52_2) ?_
                      refine TR.v rfl rfl (.t rfl rfl) rfl rfl rfl (OV.ld rfl Try.isAgg2 (by repeat (first | exact List.Mem.head _ | apply List.Mem.tail | apply List.mem_append_right)) rfl) ?_
                      refine TR.v rfl rfl (.t rfl rfl) rfl rfl rfl (OV.ld rfl Try.isAgg2 (by repeat (first | exact List.Mem.head _ | apply List.Mem.tail | apply List.mem_append_right)) rfl) ?_
                      refine TR.v rfl rfl (.t rfl rfl) rfl rfl rfl (OV.ld rfl Try.isAgg3 (by repeat (first | exact List.Mem.head _ | apply List.Mem.tail | apply List.mem_append_right)) rfl) ?_
                      refine TR.v rfl rfl (.t rfl rfl) rfl rfl rfl (OV.add rfl rfl (wrap_in (by omega))) ?_
                      refine TR.v rfl rfl (.t rfl rfl) rfl rfl rfl (OV.neq rfl rfl) ?_
                      refine TR.v rfl rfl .n rfl rfl rfl (OV.pick_f (v := .bool _) rfl rfl) ?_
                      refine TR.v rfl rfl .n rfl rfl rfl (OV.mv (v := .bool _) rfl) ?_
                      refine TR.say (v := .bool false) 150 rfl (congrArg Value.bool (bneq_f (by omega))) ?_
                      refine TR.v rfl rfl (.t rfl rfl) rfl rfl rfl (OV.fa rfl Red11_fa_52_0) ?_
                      refine TR.v rfl rfl (.t rfl rfl) rfl rfl rfl (OV.ld rfl Try.isAgg3 (by repeat (first | exact List.Mem.head _ | apply List.Mem.tail | apply List.mem_append_right)) rfl) ?_
                      refine TR.v rfl rfl (.t rfl rfl) rfl rfl rfl (OV.ld rfl Try.isAgg3 (by repeat (first | exact List.Mem.head _ | apply List.Mem.tail | apply List.mem_append_right)) rfl) ?_
                      refine TR.v rfl rfl (.t rfl rfl) rfl rfl rfl (OV.neq rfl rfl) ?_
                      refine TR.v rfl rfl .n rfl rfl rfl (OV.pick_f (v := .bool _) rfl rfl) ?_
                      refine TR.v rfl rfl .n rfl rfl rfl (OV.mv (v := .bool _) rfl) ?_
                      refine TR.say (v := .bool false) 156 rfl (congrArg Value.bool (bneq_f hrr.1)) ?_
                      refine TR.v rfl rfl (.t rfl rfl) rfl rfl rfl (OV.fa rfl Red11_fa_52_1) ?_
                      refine TR.v rfl rfl (.t rfl rfl) rfl rfl rfl (OV.ld rfl Try.isAgg2 (by repeat (first | exact List.Mem.head _ | apply List.Mem.tail | apply List.mem_append_right)) rfl) ?_
                      refine TR.v rfl rfl (.t rfl rfl) rfl rfl rfl (OV.neq rfl rfl) ?_
                      refine TR.v rfl rfl .n rfl rfl rfl (OV.pick_f (v := .bool _) rfl rfl) ?_
                      refine TR.nil ?_
                      refine XK.say (v := .bool false) 160 rfl (congrArg Value.bool (bneq_f hrr.2.1)) ?_
                      refine XK.cond_f rfl ?_
                      refine XK.skip ?_
                      refine XK.region ?_
                      refine XO.val rfl rfl (OV.ld rfl Try.isAgg3 (by repeat (first | exact List.Mem.head _ | apply List.Mem.tail | apply List.mem_append_right)) rfl) ?_
                      refine XO.val rfl rfl (OV.add rfl rfl (wrap_in (by omega))) ?_
                      refine XO.st rfl (v := .int _ _) rfl rfl Try.sizeOf3 (by repeat (first | exact Put.hd | apply Put.tl | apply Put.app)) (by (first | (simp only [List.length_append, bys_length, b4_len, zrs_len, headB_len, putHead_len, List.length_replicate, List.length_cons, List.length_nil, List.length_set, List.length_take, List.length_drop, recL_len]; omega) | omega | exact Nat.le_of_ble_eq_true rfl | (simp; done) | (simp; omega))) (by (first | exact .inr ‹_› | (left; ((repeat (first | exact List.Mem.head _ | apply List.Mem.tail)))))) ?_
                      refine XO.nil ?_
                      refine XK.inblk ?_
                      exact XK.rdEnd (y + 1) (by (repeat (first | exact Sel.nil | refine Sel.cons (by repeat (first | exact Del.hd | apply Del.tl | apply Del.app)) (by repeat (first | exact List.Mem.head _ | apply List.Mem.tail | apply List.mem_append_right)) ?_ | (apply Sel.seg1; ((repeat (first | exact TakL.hd | with_reducible exact TakL.hdA | exact TakL.last | apply TakL.tl | with_reducible apply TakL.nilA | apply TakL.app | with_reducible apply TakL.appA)); done)) | with_reducible apply Sel.nilA | refine Sel.seg (by (repeat (first | exact TakL.hd | with_reducible exact TakL.hdA | exact TakL.last | apply TakL.tl | with_reducible apply TakL.nilA | apply TakL.app | with_reducible apply TakL.appA))) ?_ | refine Sel.segA (by (repeat (first | exact TakL.hd | with_reducible exact TakL.hdA | exact TakL.last | apply TakL.tl | with_reducible apply TakL.nilA | apply TakL.app | with_reducible apply TakL.appA))) ?_))) (by (repeat (first | exact nwNil | refine nwCons (by first | exact .inr ‹_› | (left; repeat (first | exact List.Mem.head _ | apply List.Mem.tail)) | (right; omega)) ?_ | assumption))) rfl
                  · have _done := trivial
                    have hyl : y = G1.l.length := by rw [hI]; simp
                    refine XK.inblk ?_
                    refine XK.seq ?_
                    refine XK.draw [0, 1, 2, 3, 4, 5, 6] [] [] [0, 1, 2, 3, 4, 5, 6] Red11_mixed (by kernel_rfl) alc_none ?_
                    refine TR.v rfl rfl .n rfl rfl rfl (OV.ld rfl Try.isAgg3 (by repeat (first | exact List.Mem.head _ | apply List.Mem.tail | apply List.mem_append_right)) rfl) ?_
                    refine TR.v rfl rfl .n rfl rfl rfl (OV.mv (v := .pointer _) rfl) ?_
                    refine TR.cv (cap := []) rfl rfl .n rfl rfl rfl (.cons (v := .pointer _) rfl .nil) Try.call23 (lgNext_ok g r sl1 G1 I1.good.wf) (by repeat (first | exact Sel.nil | refine Sel.cons (by repeat (first | exact Del.hd | apply Del.tl | apply Del.app)) (by repeat (first | exact List.Mem.head _ | apply List.Mem.tail | apply List.mem_append_right)) ?_)) ?_
                    refine TR.v rfl rfl .n rfl rfl rfl (OV.mv (v := .pointer _) rfl) ?_
                    refine TR.cv (cap := []) rfl rfl .n rfl rfl rfl (.cons (v := .pointer _) rfl .nil) Try.call21 (lgStart_ok g r sl1 G1) (by repeat (first | exact Sel.nil | refine Sel.cons (by repeat (first | exact Del.hd | apply Del.tl | apply Del.app)) (by repeat (first | exact List.Mem.head _ | apply List.Mem.tail | apply List.mem_append_right)) ?_)) ?_
                    refine TR.v rfl rfl .n rfl rfl rfl (OV.sub rfl rfl (wrap_in (by omega))) ?_
                    refine TR.v rfl rfl .n rfl rfl rfl (OV.neq rfl rfl) ?_
                    refine TR.nil ?_
                    refine XK.say (v := .bool false) 169 rfl (congrArg Value.bool (bneq_f (by omega))) ?_
                    refine XK.cond_f rfl ?_
                    refine XK.skip ?_
                    refine XK.inblk ?_
                    refine XK.region ?_
                    refine XO.val rfl rfl (OV.mv (v := .int _ _) rfl) ?_
                    refine XO.val rfl rfl (OV.add rfl rfl (wrap_in (by omega))) ?_
                    refine XO.val rfl rfl (OV.asg (v := .int _ _) rfl) ?_
                    refine XO.nil ?_
                    refine XK.rnd ⟨⟨x.i + 1, G1, D1, sl1, D :: x.Ds⟩, ⟨⟨rfl, rfl, rfl, rfl, rfl, rfl, trivial⟩, ⟨rfl, trivial⟩, rfl, (by (repeat (first | exact Sel.nil | refine Sel.cons (by repeat (first | exact Del.hd | apply Del.tl | apply Del.app)) (by repeat (first | exact List.Mem.head _ | apply List.Mem.tail | apply List.mem_append_right)) ?_ | (apply Sel.seg1; ((repeat (first | exact TakL.hd | with_reducible exact TakL.hdA | exact TakL.last | apply TakL.tl | with_reducible apply TakL.nilA | apply TakL.app | with_reducible apply TakL.appA)); done)) | with_reducible apply Sel.nilA | refine Sel.seg (by (repeat (first | exact TakL.hd | with_reducible exact TakL.hdA | exact TakL.last | apply TakL.tl | with_reducible apply TakL.nilA | apply TakL.app | with_reducible apply TakL.appA))) ?_ | refine Sel.segA (by (repeat (first | exact TakL.hd | with_reducible exact TakL.hdA | exact TakL.last | apply TakL.tl | with_reducible apply TakL.nilA | apply TakL.app | with_reducible apply TakL.appA))) ?_))), ⟨by show x.i + 1 ≤ _; omega, I1, hO1, hK2, by intro d hd; rcases List.mem_cons.1 hd with rfl | hd; exact hD; exact hI0.2.2.2.2 d hd⟩⟩, (by show st.length - (x.i + 1) < st.length - x.i; omega)⟩
                  · exact hI.elim
          · replace hh5 := of_decide_eq_false hh5
            refine XK.cond_f rfl ?_
            refine XK.exitTo rfl ?_
            refine XK.seq ?_
            refine XK.region ?_
            refine XO.callV (cap := []) rfl rfl .nil Try.call14 (known_ok) (by repeat (first | exact Sel.nil | refine Sel.cons (by repeat (first | exact Del.hd | apply Del.tl | apply Del.app)) (by repeat (first | exact List.Mem.head _ | apply List.Mem.tail | apply List.mem_append_right)) ?_)) ?_
            refine XO.st rfl (v := .bool _) rfl rfl Try.sizeOf4 (by repeat (first | exact Put.hd | apply Put.tl | apply Put.app)) (by (first | (simp only [List.length_append, bys_length, b4_len, zrs_len, headB_len, putHead_len, List.length_replicate, List.length_cons, List.length_nil, List.length_set, List.length_take, List.length_drop, recL_len]; omega) | omega | exact Nat.le_of_ble_eq_true rfl | (simp; done) | (simp; omega))) (by (first | exact .inr ‹_› | (left; ((repeat (first | exact List.Mem.head _ | apply List.Mem.tail)))))) ?_
            refine XO.nil ?_
            refine XK.retTo (FinM.ret (by first | exact Marks.nil | exact Marks.seg (by (repeat (first | exact TakL.hd | with_reducible exact TakL.hdA | exact TakL.last | apply TakL.tl | with_reducible apply TakL.nilA | apply TakL.app | with_reducible apply TakL.appA))) (fun D hD => .inr (hI.2.2.2.2 D hD))) (.cons (.cell rfl Try.isAgg4 (by repeat (first | exact List.Mem.head _ | apply List.Mem.tail | apply List.mem_append_right)) rfl) .nil) .nil (by simp) ?_)
            exact ⟨rfl, rfl⟩

end Go.Proofs.Ythophgadmkjamaa
