/- Contracts of functions, printed by a program of this claim (wip/tools/gen.py). -/
import Derived.Test.YthophgadmkjamaaFLaw06b
import Derived.Test.YthophgadmkjamaaFRed9
import Derived.KernelRfl
set_option maxRecDepth 20000
set_option linter.unusedVariables false
set_option linter.unusedSimpArgs false
namespace Go.Proofs.Ythophgadmkjamaa
open Go Go.Mw Go.Proofs

theorem Red10_zv_23 : ∀ w, (zeroValue 23).run Try.prog w = .ok (.agg (List.toArray ([.int .i64 0, .int .i64 0, .int .i64 0, .int .i64 0, .int .i64 0]))) w := fun w => by kernel_rfl

set_option maxHeartbeats 4000000 in
theorem known_ok  :
    CtV Try.prog 14 [] [] (.bool true) := by
  refine Ct.of (N := 185) (rs := [.tmp 0]) Try.func14 rfl rfl rfl (Nat.le_of_ble_eq_true rfl) (fun B => ?_)
  refine XK.seq ?_
  refine XK.region ?_
  refine XO.val rfl rfl (OV.asg (v := .bool _) rfl) ?_
  refine XO.nil ?_
  refine XK.seq ?_
  refine XK.region ?_
  refine XO.callV (cap := []) rfl rfl .nil Try.call72 (job_ok) (by repeat (first | exact Sel.nil | refine Sel.cons (by repeat (first | exact Del.hd | apply Del.tl | apply Del.app)) (by repeat (first | exact List.Mem.head _ | apply List.Mem.tail | apply List.mem_append_right)) ?_)) ?_
  refine XO.alloc rfl Red10_zv_23 rfl (fun r1 hr1 => ?_)
  refine XO.stA rfl rfl (ones_of rfl) Try.sizeOf23 (by (first | assumption | (simp only [List.length_append, bys_length, b4_len, zrs_len, headB_len, putHead_len, List.length_replicate, List.length_cons, List.length_nil, List.length_set, List.length_take, List.length_drop, recL_len]; done) | (simp only [List.length_append, bys_length, b4_len, zrs_len, headB_len, putHead_len, List.length_replicate, List.length_cons, List.length_nil, List.length_set, List.length_take, List.length_drop, recL_len]; omega) | rfl | (simp [*, bys_length]; done) | (simp [*, bys_length]; omega))) (by repeat (first | exact Put.hd | apply Put.tl | apply Put.app)) (by first | exact splice_all (by (first | assumption | (simp only [List.length_append, bys_length, b4_len, zrs_len, headB_len, putHead_len, List.length_replicate, List.length_cons, List.length_nil, List.length_set, List.length_take, List.length_drop, recL_len]; done) | (simp only [List.length_append, bys_length, b4_len, zrs_len, headB_len, putHead_len, List.length_replicate, List.length_cons, List.length_nil, List.length_set, List.length_take, List.length_drop, recL_len]; omega) | rfl | (simp [*, bys_length]; done) | (simp [*, bys_length]; omega))) | rfl) (by (first | (simp only [List.length_append, bys_length, b4_len, zrs_len, headB_len, putHead_len, List.length_replicate, List.length_cons, List.length_nil, List.length_set, List.length_take, List.length_drop, recL_len]; omega) | omega | exact Nat.le_of_ble_eq_true rfl | (simp; done) | (simp; omega))) (by (first | exact .inr ‹_› | (left; ((repeat (first | exact List.Mem.head _ | apply List.Mem.tail)))))) ?_
  refine XO.nil ?_
  refine XK.seq ?_
  refine XK.region ?_
  refine XO.val rfl rfl (OV.ldA rfl Try.isAgg23 Try.sizeOf23 (by repeat (first | exact List.Mem.head _ | apply List.Mem.tail | apply List.mem_append_right)) (grab_all (by (first | assumption | (simp only [List.length_append, bys_length, b4_len, zrs_len, headB_len, putHead_len, List.length_replicate, List.length_cons, List.length_nil, List.length_set, List.length_take, List.length_drop, recL_len]; done) | (simp only [List.length_append, bys_length, b4_len, zrs_len, headB_len, putHead_len, List.length_replicate, List.length_cons, List.length_nil, List.length_set, List.length_take, List.length_drop, recL_len]; omega) | rfl | (simp [*, bys_length]; done) | (simp [*, bys_length]; omega)))) (by (first | assumption | (simp only [List.length_append, bys_length, b4_len, zrs_len, headB_len, putHead_len, List.length_replicate, List.length_cons, List.length_nil, List.length_set, List.length_take, List.length_drop, recL_len]; done) | (simp only [List.length_append, bys_length, b4_len, zrs_len, headB_len, putHead_len, List.length_replicate, List.length_cons, List.length_nil, List.length_set, List.length_take, List.length_drop, recL_len]; omega) | rfl | (simp [*, bys_length]; done) | (simp [*, bys_length]; omega)))) ?_
  refine XO.callG (cap := []) rfl rfl (.cons (v := .agg _) rfl .nil) Try.call15 (lawNew_ok j6 j6may) (by repeat (first | exact Sel.nil | refine Sel.cons (by repeat (first | exact Del.hd | apply Del.tl | apply Del.app)) (by repeat (first | exact List.Mem.head _ | apply List.Mem.tail | apply List.mem_append_right)) ?_)) (by ((repeat (first | exact wrs_nil | (refine wrs_cons (by (first | exact .inr ‹_› | (left; ((repeat (first | exact List.Mem.head _ | apply List.Mem.tail)))))) ?_))))) .nil ?_
  rintro _ _ ⟨r, s, rfl, rfl⟩ hn0
  have hr : B.heap.size ≤ r := (hn0 _ (.head _)).resolve_left (by simp)
  have hs : B.heap.size ≤ s := (hn0 _ (.tail _ (.head _))).resolve_left (by simp)
  refine XO.val rfl rfl (OV.asg (v := .pointer _) rfl) ?_
  refine XO.nil ?_
  refine XK.seq ?_
  refine XK.region ?_
  refine XO.val rfl rfl (OV.mv (v := .pointer _) rfl) ?_
  refine XO.val rfl rfl (OV.ldA rfl Try.isAgg23 Try.sizeOf23 (by repeat (first | exact List.Mem.head _ | apply List.Mem.tail | apply List.mem_append_right)) (grab_all (by (first | assumption | (simp only [List.length_append, bys_length, b4_len, zrs_len, headB_len, putHead_len, List.length_replicate, List.length_cons, List.length_nil, List.length_set, List.length_take, List.length_drop, recL_len]; done) | (simp only [List.length_append, bys_length, b4_len, zrs_len, headB_len, putHead_len, List.length_replicate, List.length_cons, List.length_nil, List.length_set, List.length_take, List.length_drop, recL_len]; omega) | rfl | (simp [*, bys_length]; done) | (simp [*, bys_length]; omega)))) (by (first | assumption | (simp only [List.length_append, bys_length, b4_len, zrs_len, headB_len, putHead_len, List.length_replicate, List.length_cons, List.length_nil, List.length_set, List.length_take, List.length_drop, recL_len]; done) | (simp only [List.length_append, bys_length, b4_len, zrs_len, headB_len, putHead_len, List.length_replicate, List.length_cons, List.length_nil, List.length_set, List.length_take, List.length_drop, recL_len]; omega) | rfl | (simp [*, bys_length]; done) | (simp [*, bys_length]; omega)))) ?_
  refine XO.callG (cap := []) rfl rfl (.cons (v := .pointer _) rfl (.cons (v := .agg _) rfl (.cons (v := .int _ _) rfl (.cons (v := .int _ _) rfl .nil)))) Try.call16 (redoOpen_ok r s (jobDev j6) (jobDev_wf j6may) j6 j6may 0 (by decide) (by decide) size6 1 (by decide) (by decide) hd6) (by repeat (first | exact Sel.nil | refine Sel.cons (by repeat (first | exact Del.hd | apply Del.tl | apply Del.app)) (by repeat (first | exact List.Mem.head _ | apply List.Mem.tail | apply List.mem_append_right)) ?_)) (by ((repeat (first | exact wrs_nil | (refine wrs_cons (by (first | exact .inr ‹_› | (left; ((repeat (first | exact List.Mem.head _ | apply List.Mem.tail)))))) ?_))))) .nil ?_
  rintro _ _ ⟨g, sl0, rfl, rfl, hO0⟩ hn1
  have hg : B.heap.size ≤ g := (hn1 _ (.head _)).resolve_left (by simp)
  have I0 := LInv.start (j := j6) (node := 0) j6may (by decide) (by decide)
  rw [open6] at I0 ⊢
  rw [scan6] at hO0 ⊢
  have hM0 := wrs_cons (c := ⟨Try.prog, none, 185, B, []⟩) (x := g) (.inr hg) (slK_next (M := []) (fun x hx => hn1 x (.tail _ hx)) wrs_nil)
  refine XO.val rfl rfl (OV.mv (v := .tuple _) rfl) ?_
  refine XO.val rfl rfl (OV.ext rfl rfl) ?_
  refine XO.val rfl rfl (OV.ext rfl rfl) ?_
  refine XO.val rfl rfl (OV.asg (v := .pointer _) rfl) ?_
  refine XO.val rfl rfl (OV.asg (v := .int _ _) rfl) ?_
  refine XO.nil ?_
  refine XK.seq ?_
  refine XK.seq ?_
  refine XK.region ?_
  refine XO.val rfl rfl (OV.mv (v := .int _ _) rfl) ?_
  refine XO.val rfl rfl (OV.neq rfl rfl) ?_
  refine XO.val rfl rfl (OV.mv (v := .bool _) rfl) ?_
  refine XO.say (v := .bool false) 32 rfl (congrArg Value.bool (rfl)) ?_
  refine XO.guard_t rfl rfl ?_
  refine XO.val rfl rfl (OV.mv (v := .pointer _) rfl) ?_
  refine XO.guard_t rfl rfl ?_
  refine XO.val rfl rfl (OV.eqN rfl rfl Try.runUnderlying29) ?_
  refine XO.val rfl rfl (OV.pick_f (v := .bool _) rfl rfl) ?_
  refine XO.val rfl rfl (OV.mv (v := .bool _) rfl) ?_
  refine XO.say (v := .bool false) 36 rfl (congrArg Value.bool (rfl)) ?_
  refine XO.guard_t rfl rfl ?_
  refine XO.val rfl rfl (OV.mv (v := .pointer _) rfl) ?_
  refine XO.guard_t rfl rfl ?_
  refine XO.callV (cap := []) rfl rfl (.cons (v := .pointer _) rfl .nil) Try.call21 (lgStart_ok g r sl0 _) (by repeat (first | exact Sel.nil | refine Sel.cons (by repeat (first | exact Del.hd | apply Del.tl | apply Del.app)) (by repeat (first | exact List.Mem.head _ | apply List.Mem.tail | apply List.mem_append_right)) ?_)) ?_
  refine XO.guard_t rfl rfl ?_
  refine XO.val rfl rfl (OV.neq rfl rfl) ?_
  refine XO.val rfl rfl (OV.pick_f (v := .bool _) rfl rfl) ?_
  refine XO.val rfl rfl (OV.mv (v := .bool _) rfl) ?_
  refine XO.say (v := .bool false) 41 rfl (congrArg Value.bool (rfl)) ?_
  refine XO.guard_t rfl rfl ?_
  refine XO.val rfl rfl (OV.mv (v := .pointer _) rfl) ?_
  refine XO.guard_t rfl rfl ?_
  refine XO.callV (cap := []) rfl rfl (.cons (v := .pointer _) rfl .nil) Try.call23 (lgNext_ok g r sl0 _ I0.good.wf) (by repeat (first | exact Sel.nil | refine Sel.cons (by repeat (first | exact Del.hd | apply Del.tl | apply Del.app)) (by repeat (first | exact List.Mem.head _ | apply List.Mem.tail | apply List.mem_append_right)) ?_)) ?_
  refine XO.guard_t rfl rfl ?_
  refine XO.val rfl rfl (OV.neq rfl rfl) ?_
  refine XO.val rfl rfl (OV.pick_f (v := .bool _) rfl rfl) ?_
  refine XO.val rfl rfl (OV.mv (v := .bool _) rfl) ?_
  refine XO.say (v := .bool false) 46 rfl (congrArg Value.bool (rfl)) ?_
  refine XO.guard_t rfl rfl ?_
  refine XO.val rfl rfl (OV.mv (v := .pointer _) rfl) ?_
  refine XO.guard_t rfl rfl ?_
  refine XO.callV (cap := []) rfl rfl (.cons (v := .pointer _) rfl .nil) Try.call22 (lgFlushed_ok g r sl0 _) (by repeat (first | exact Sel.nil | refine Sel.cons (by repeat (first | exact Del.hd | apply Del.tl | apply Del.app)) (by repeat (first | exact List.Mem.head _ | apply List.Mem.tail | apply List.mem_append_right)) ?_)) ?_
  refine XO.guard_t rfl rfl ?_
  refine XO.val rfl rfl (OV.neq rfl rfl) ?_
  refine XO.val rfl rfl (OV.pick_f (v := .bool _) rfl rfl) ?_
  refine XO.val rfl rfl (OV.mv (v := .bool _) rfl) ?_
  refine XO.say (v := .bool false) 51 rfl (congrArg Value.bool (rfl)) ?_
  refine XO.guard_t rfl rfl ?_
  refine XO.val rfl rfl (OV.mv (v := .pointer _) rfl) ?_
  refine XO.guard_t rfl rfl ?_
  refine XO.callV (cap := []) rfl rfl (.cons (v := .pointer _) rfl .nil) Try.call24 (lgRoom_ok g r sl0 _ I0.good.wf) (by repeat (first | exact Sel.nil | refine Sel.cons (by repeat (first | exact Del.hd | apply Del.tl | apply Del.app)) (by repeat (first | exact List.Mem.head _ | apply List.Mem.tail | apply List.mem_append_right)) ?_)) ?_
  refine XO.guard_t rfl rfl ?_
  refine XO.val rfl rfl (OV.neq rfl rfl) ?_
  refine XO.val rfl rfl (OV.pick_f (v := .bool _) rfl rfl) ?_
  refine XO.nil ?_
  refine XK.say (v := .bool false) 55 rfl (congrArg Value.bool (rfl)) ?_
  refine XK.cond_f rfl ?_
  refine XK.skip ?_
  refine XK.seq ?_
  refine XK.seq ?_
  refine XK.region ?_
  refine XO.val rfl rfl (OV.asg (v := .int _ _) rfl) ?_
  refine XO.nil ?_
  refine XK.block ?_
  refine XK.loopN 4 ?_
  refine rnds.one ?_
  refine XK.seq ?_
  refine XK.seq ?_
  refine XK.region ?_
  refine XO.val rfl rfl (OV.mv (v := .int _ _) rfl) ?_
  refine XO.val rfl rfl (OV.leq rfl rfl) ?_
  refine XO.nil ?_
  refine XK.say (v := .bool true) 57 rfl (congrArg Value.bool (rfl)) ?_
  refine XK.cond_t rfl ?_
  refine XK.skip ?_
  refine XK.seq ?_
  refine XK.block ?_
  refine XK.seq ?_
  refine XK.region ?_
  refine XO.val rfl rfl (OV.mv (v := .pointer _) rfl) ?_
  refine XO.val rfl rfl (OV.mv (v := .int _ _) rfl) ?_
  refine XO.callV (cap := []) rfl rfl (.cons (v := .int _ _) rfl (.cons (v := .int _ _) rfl .nil)) Try.call73 (version_ok 1 97) (by repeat (first | exact Sel.nil | refine Sel.cons (by repeat (first | exact Del.hd | apply Del.tl | apply Del.app)) (by repeat (first | exact List.Mem.head _ | apply List.Mem.tail | apply List.mem_append_right)) ?_)) ?_
  refine XO.callG (cap := []) rfl rfl (.cons (v := .pointer _) rfl (.cons (v := .int _ _) rfl (.cons (v := .agg _) rfl .nil))) Try.call17 (lgAppend_ok g r sl0 _ I0.good.wf hO0 0 1 (97 :: zrs 95) (b6 _)) (by (repeat (first | exact Sel.nil | refine Sel.cons (by repeat (first | exact Del.hd | apply Del.tl | apply Del.app)) (by repeat (first | exact List.Mem.head _ | apply List.Mem.tail | apply List.mem_append_right)) ?_ | (apply Sel.seg1; ((repeat (first | exact TakL.hd | with_reducible exact TakL.hdA | exact TakL.last | apply TakL.tl | with_reducible apply TakL.nilA | apply TakL.app | with_reducible apply TakL.appA)); done)) | with_reducible apply Sel.nilA | refine Sel.seg (by (repeat (first | exact TakL.hd | with_reducible exact TakL.hdA | exact TakL.last | apply TakL.tl | with_reducible apply TakL.nilA | apply TakL.app | with_reducible apply TakL.appA))) ?_ | refine Sel.segA (by (repeat (first | exact TakL.hd | with_reducible exact TakL.hdA | exact TakL.last | apply TakL.tl | with_reducible apply TakL.nilA | apply TakL.app | with_reducible apply TakL.appA))) ?_))) hM0 (by ((repeat (first | exact Rem.nil | (apply Rem.cons; (repeat (first | exact Del.hd | apply Del.tl | apply Del.app))) | (apply Rem.seg; ((repeat (first | exact TakL.hd | with_reducible exact TakL.hdA | exact TakL.last | apply TakL.tl | with_reducible apply TakL.nilA | apply TakL.app | with_reducible apply TakL.appA)); done)))))) ?_
  rintro _ _ ⟨sl1, rfl, rfl, hO1⟩ hn1
  have I1 := I0.app (by decide) (p := 0) (psn := 1) (b := 97 :: zrs 95) (b6 _) (b6B (by decide))
  have ea1 : ((G6 1 0 []).app 0 1 (97 :: zrs 95)).1 = G6 1 0 [R6 1 97] := by rw [a61]
  have eb1 : ((G6 1 0 []).app 0 1 (97 :: zrs 95)).2.1 = 1 := by rw [a61]
  have ec1 : ((G6 1 0 []).app 0 1 (97 :: zrs 95)).2.2 = 0 := by rw [a61]
  rw [ea1] at I1 hO1 hn1
  rw [ea1, eb1, ec1]
  have hM1 := wrs_cons (c := ⟨Try.prog, none, 185, B, []⟩) (x := g) (.inr hg) (slK_next (fun x hx => hn1 x (.tail _ hx)) hM0)
  refine XO.val rfl rfl (OV.mv (v := .tuple _) rfl) ?_
  refine XO.val rfl rfl (OV.ext rfl rfl) ?_
  refine XO.val rfl rfl (OV.ext rfl rfl) ?_
  refine XO.val rfl rfl (OV.asg (v := .int _ _) rfl) ?_
  refine XO.val rfl rfl (OV.asg (v := .int _ _) rfl) ?_
  refine XO.nil ?_
  refine XK.seq ?_
  refine XK.region ?_
  refine XO.val rfl rfl (OV.mv (v := .int _ _) rfl) ?_
  refine XO.val rfl rfl (OV.mv (v := .int _ _) rfl) ?_
  refine XO.val rfl rfl (OV.neq rfl rfl) ?_
  refine XO.val rfl rfl (OV.mv (v := .bool _) rfl) ?_
  refine XO.say (v := .bool false) 70 rfl (congrArg Value.bool (rfl)) ?_
  refine XO.guard_t rfl rfl ?_
  refine XO.val rfl rfl (OV.mv (v := .int _ _) rfl) ?_
  refine XO.guard_t rfl rfl ?_
  refine XO.val rfl rfl (OV.neq rfl rfl) ?_
  refine XO.val rfl rfl (OV.pick_f (v := .bool _) rfl rfl) ?_
  refine XO.nil ?_
  refine XK.say (v := .bool false) 73 rfl (congrArg Value.bool (rfl)) ?_
  refine XK.cond_f rfl ?_
  refine XK.skip ?_
  refine XK.inblk ?_
  refine XK.region ?_
  refine XO.val rfl rfl (OV.mv (v := .int _ _) rfl) ?_
  refine XO.val rfl rfl (OV.add rfl rfl (wrap_in (by omega))) ?_
  refine XO.val rfl rfl (OV.asg (v := .int _ _) rfl) ?_
  refine XO.nil ?_
  refine XK.rnd ?_
  refine rnds.one ?_
  refine XK.seq ?_
  refine XK.seq ?_
  refine XK.region ?_
  refine XO.val rfl rfl (OV.mv (v := .int _ _) rfl) ?_
  refine XO.val rfl rfl (OV.leq rfl rfl) ?_
  refine XO.nil ?_
  refine XK.say (v := .bool true) 57 rfl (congrArg Value.bool (rfl)) ?_
  refine XK.cond_t rfl ?_
  refine XK.skip ?_
  refine XK.seq ?_
  refine XK.block ?_
  refine XK.seq ?_
  refine XK.region ?_
  refine XO.val rfl rfl (OV.mv (v := .pointer _) rfl) ?_
  refine XO.val rfl rfl (OV.mv (v := .int _ _) rfl) ?_
  refine XO.callV (cap := []) rfl rfl (.cons (v := .int _ _) rfl (.cons (v := .int _ _) rfl .nil)) Try.call73 (version_ok 2 97) (by repeat (first | exact Sel.nil | refine Sel.cons (by repeat (first | exact Del.hd | apply Del.tl | apply Del.app)) (by repeat (first | exact List.Mem.head _ | apply List.Mem.tail | apply List.mem_append_right)) ?_)) ?_
  refine XO.callG (cap := []) rfl rfl (.cons (v := .pointer _) rfl (.cons (v := .int _ _) rfl (.cons (v := .agg _) rfl .nil))) Try.call17 (lgAppend_ok g r sl1 _ I1.good.wf hO1 0 2 (97 :: zrs 95) (b6 _)) (by (repeat (first | exact Sel.nil | refine Sel.cons (by repeat (first | exact Del.hd | apply Del.tl | apply Del.app)) (by repeat (first | exact List.Mem.head _ | apply List.Mem.tail | apply List.mem_append_right)) ?_ | (apply Sel.seg1; ((repeat (first | exact TakL.hd | with_reducible exact TakL.hdA | exact TakL.last | apply TakL.tl | with_reducible apply TakL.nilA | apply TakL.app | with_reducible apply TakL.appA)); done)) | with_reducible apply Sel.nilA | refine Sel.seg (by (repeat (first | exact TakL.hd | with_reducible exact TakL.hdA | exact TakL.last | apply TakL.tl | with_reducible apply TakL.nilA | apply TakL.app | with_reducible apply TakL.appA))) ?_ | refine Sel.segA (by (repeat (first | exact TakL.hd | with_reducible exact TakL.hdA | exact TakL.last | apply TakL.tl | with_reducible apply TakL.nilA | apply TakL.app | with_reducible apply TakL.appA))) ?_))) hM1 (by ((repeat (first | exact Rem.nil | (apply Rem.cons; (repeat (first | exact Del.hd | apply Del.tl | apply Del.app))) | (apply Rem.seg; ((repeat (first | exact TakL.hd | with_reducible exact TakL.hdA | exact TakL.last | apply TakL.tl | with_reducible apply TakL.nilA | apply TakL.app | with_reducible apply TakL.appA)); done)))))) ?_
  rintro _ _ ⟨sl2, rfl, rfl, hO2⟩ hn2
  have I2 := I1.app (by decide) (p := 0) (psn := 2) (b := 97 :: zrs 95) (b6 _) (b6B (by decide))
  have ea2 : ((G6 1 0 [R6 1 97]).app 0 2 (97 :: zrs 95)).1 = G6 1 0 [R6 1 97, R6 2 97] := by rw [a62]
  have eb2 : ((G6 1 0 [R6 1 97]).app 0 2 (97 :: zrs 95)).2.1 = 2 := by rw [a62]
  have ec2 : ((G6 1 0 [R6 1 97]).app 0 2 (97 :: zrs 95)).2.2 = 0 := by rw [a62]
  rw [ea2] at I2 hO2 hn2
  rw [ea2, eb2, ec2]
  have hM2 := wrs_cons (c := ⟨Try.prog, none, 185, B, []⟩) (x := g) (.inr hg) (slK_next (fun x hx => hn2 x (.tail _ hx)) hM1)
  refine XO.val rfl rfl (OV.mv (v := .tuple _) rfl) ?_
  refine XO.val rfl rfl (OV.ext rfl rfl) ?_
  refine XO.val rfl rfl (OV.ext rfl rfl) ?_
  refine XO.val rfl rfl (OV.asg (v := .int _ _) rfl) ?_
  refine XO.val rfl rfl (OV.asg (v := .int _ _) rfl) ?_
  refine XO.nil ?_
  refine XK.seq ?_
  refine XK.region ?_
  refine XO.val rfl rfl (OV.mv (v := .int _ _) rfl) ?_
  refine XO.val rfl rfl (OV.mv (v := .int _ _) rfl) ?_
  refine XO.val rfl rfl (OV.neq rfl rfl) ?_
  refine XO.val rfl rfl (OV.mv (v := .bool _) rfl) ?_
  refine XO.say (v := .bool false) 70 rfl (congrArg Value.bool (rfl)) ?_
  refine XO.guard_t rfl rfl ?_
  refine XO.val rfl rfl (OV.mv (v := .int _ _) rfl) ?_
  refine XO.guard_t rfl rfl ?_
  refine XO.val rfl rfl (OV.neq rfl rfl) ?_
  refine XO.val rfl rfl (OV.pick_f (v := .bool _) rfl rfl) ?_
  refine XO.nil ?_
  refine XK.say (v := .bool false) 73 rfl (congrArg Value.bool (rfl)) ?_
  refine XK.cond_f rfl ?_
  refine XK.skip ?_
  refine XK.inblk ?_
  refine XK.region ?_
  refine XO.val rfl rfl (OV.mv (v := .int _ _) rfl) ?_
  refine XO.val rfl rfl (OV.add rfl rfl (wrap_in (by omega))) ?_
  refine XO.val rfl rfl (OV.asg (v := .int _ _) rfl) ?_
  refine XO.nil ?_
  refine XK.rnd ?_
  refine rnds.one ?_
  refine XK.seq ?_
  refine XK.seq ?_
  refine XK.region ?_
  refine XO.val rfl rfl (OV.mv (v := .int _ _) rfl) ?_
  refine XO.val rfl rfl (OV.leq rfl rfl) ?_
  refine XO.nil ?_
  refine XK.say (v := .bool true) 57 rfl (congrArg Value.bool (rfl)) ?_
  refine XK.cond_t rfl ?_
  refine XK.skip ?_
  refine XK.seq ?_
  refine XK.block ?_
  refine XK.seq ?_
  refine XK.region ?_
  refine XO.val rfl rfl (OV.mv (v := .pointer _) rfl) ?_
  refine XO.val rfl rfl (OV.mv (v := .int _ _) rfl) ?_
  refine XO.callV (cap := []) rfl rfl (.cons (v := .int _ _) rfl (.cons (v := .int _ _) rfl .nil)) Try.call73 (version_ok 3 97) (by repeat (first | exact Sel.nil | refine Sel.cons (by repeat (first | exact Del.hd | apply Del.tl | apply Del.app)) (by repeat (first | exact List.Mem.head _ | apply List.Mem.tail | apply List.mem_append_right)) ?_)) ?_
  refine XO.callG (cap := []) rfl rfl (.cons (v := .pointer _) rfl (.cons (v := .int _ _) rfl (.cons (v := .agg _) rfl .nil))) Try.call17 (lgAppend_ok g r sl2 _ I2.good.wf hO2 0 3 (97 :: zrs 95) (b6 _)) (by (repeat (first | exact Sel.nil | refine Sel.cons (by repeat (first | exact Del.hd | apply Del.tl | apply Del.app)) (by repeat (first | exact List.Mem.head _ | apply List.Mem.tail | apply List.mem_append_right)) ?_ | (apply Sel.seg1; ((repeat (first | exact TakL.hd | with_reducible exact TakL.hdA | exact TakL.last | apply TakL.tl | with_reducible apply TakL.nilA | apply TakL.app | with_reducible apply TakL.appA)); done)) | with_reducible apply Sel.nilA | refine Sel.seg (by (repeat (first | exact TakL.hd | with_reducible exact TakL.hdA | exact TakL.last | apply TakL.tl | with_reducible apply TakL.nilA | apply TakL.app | with_reducible apply TakL.appA))) ?_ | refine Sel.segA (by (repeat (first | exact TakL.hd | with_reducible exact TakL.hdA | exact TakL.last | apply TakL.tl | with_reducible apply TakL.nilA | apply TakL.app | with_reducible apply TakL.appA))) ?_))) hM2 (by ((repeat (first | exact Rem.nil | (apply Rem.cons; (repeat (first | exact Del.hd | apply Del.tl | apply Del.app))) | (apply Rem.seg; ((repeat (first | exact TakL.hd | with_reducible exact TakL.hdA | exact TakL.last | apply TakL.tl | with_reducible apply TakL.nilA | apply TakL.app | with_reducible apply TakL.appA)); done)))))) ?_
  rintro _ _ ⟨sl3, rfl, rfl, hO3⟩ hn3
  have I3 := I2.app (by decide) (p := 0) (psn := 3) (b := 97 :: zrs 95) (b6 _) (b6B (by decide))
  have ea3 : ((G6 1 0 [R6 1 97, R6 2 97]).app 0 3 (97 :: zrs 95)).1 = G6 1 0 [R6 1 97, R6 2 97, R6 3 97] := by rw [a63]
  have eb3 : ((G6 1 0 [R6 1 97, R6 2 97]).app 0 3 (97 :: zrs 95)).2.1 = 3 := by rw [a63]
  have ec3 : ((G6 1 0 [R6 1 97, R6 2 97]).app 0 3 (97 :: zrs 95)).2.2 = 0 := by rw [a63]
  rw [ea3] at I3 hO3 hn3
  rw [ea3, eb3, ec3]
  have hM3 := wrs_cons (c := ⟨Try.prog, none, 185, B, []⟩) (x := g) (.inr hg) (slK_next (fun x hx => hn3 x (.tail _ hx)) hM2)
  refine XO.val rfl rfl (OV.mv (v := .tuple _) rfl) ?_
  refine XO.val rfl rfl (OV.ext rfl rfl) ?_
  refine XO.val rfl rfl (OV.ext rfl rfl) ?_
  refine XO.val rfl rfl (OV.asg (v := .int _ _) rfl) ?_
  refine XO.val rfl rfl (OV.asg (v := .int _ _) rfl) ?_
  refine XO.nil ?_
  refine XK.seq ?_
  refine XK.region ?_
  refine XO.val rfl rfl (OV.mv (v := .int _ _) rfl) ?_
  refine XO.val rfl rfl (OV.mv (v := .int _ _) rfl) ?_
  refine XO.val rfl rfl (OV.neq rfl rfl) ?_
  refine XO.val rfl rfl (OV.mv (v := .bool _) rfl) ?_
  refine XO.say (v := .bool false) 70 rfl (congrArg Value.bool (rfl)) ?_
  refine XO.guard_t rfl rfl ?_
  refine XO.val rfl rfl (OV.mv (v := .int _ _) rfl) ?_
  refine XO.guard_t rfl rfl ?_
  refine XO.val rfl rfl (OV.neq rfl rfl) ?_
  refine XO.val rfl rfl (OV.pick_f (v := .bool _) rfl rfl) ?_
  refine XO.nil ?_
  refine XK.say (v := .bool false) 73 rfl (congrArg Value.bool (rfl)) ?_
  refine XK.cond_f rfl ?_
  refine XK.skip ?_
  refine XK.inblk ?_
  refine XK.region ?_
  refine XO.val rfl rfl (OV.mv (v := .int _ _) rfl) ?_
  refine XO.val rfl rfl (OV.add rfl rfl (wrap_in (by omega))) ?_
  refine XO.val rfl rfl (OV.asg (v := .int _ _) rfl) ?_
  refine XO.nil ?_
  refine XK.rnd ?_
  refine rnds.one ?_
  refine XK.seq ?_
  refine XK.seq ?_
  refine XK.region ?_
  refine XO.val rfl rfl (OV.mv (v := .int _ _) rfl) ?_
  refine XO.val rfl rfl (OV.leq rfl rfl) ?_
  refine XO.nil ?_
  refine XK.say (v := .bool false) 57 rfl (congrArg Value.bool (rfl)) ?_
  refine XK.cond_f rfl ?_
  refine XK.exitTo rfl ?_
  refine XK.seq ?_
  refine XK.seq ?_
  refine XK.region ?_
  refine XO.val rfl rfl (OV.mv (v := .pointer _) rfl) ?_
  refine XO.callV (cap := []) rfl rfl (.cons (v := .pointer _) rfl .nil) Try.call22 (lgFlushed_ok g r sl3 _) (by repeat (first | exact Sel.nil | refine Sel.cons (by repeat (first | exact Del.hd | apply Del.tl | apply Del.app)) (by repeat (first | exact List.Mem.head _ | apply List.Mem.tail | apply List.mem_append_right)) ?_)) ?_
  refine XO.val rfl rfl (OV.neq rfl rfl) ?_
  refine XO.val rfl rfl (OV.mv (v := .bool _) rfl) ?_
  refine XO.say (v := .bool false) 77 rfl (congrArg Value.bool (rfl)) ?_
  refine XO.guard_t rfl rfl ?_
  refine XO.val rfl rfl (OV.mv (v := .pointer _) rfl) ?_
  refine XO.guard_t rfl rfl ?_
  refine XO.callG (cap := []) rfl rfl (.cons (v := .pointer _) rfl .nil) Try.call18 (lgFlush_ok g r s sl3 _ I3.good hO3 (jobDev j6) I3.dwf (by rw [I3.size]; exact Int.le_refl _) (by rw [I3.nodes]; exact Int.le_refl _) (by show (1 : Int) ≤ (jobDev j6).E 0; rw [show (jobDev j6).E 0 = 1 from I3.dE]; exact Int.le_refl _)) (by (repeat (first | exact Sel.nil | refine Sel.cons (by repeat (first | exact Del.hd | apply Del.tl | apply Del.app)) (by repeat (first | exact List.Mem.head _ | apply List.Mem.tail | apply List.mem_append_right)) ?_ | (apply Sel.seg1; ((repeat (first | exact TakL.hd | with_reducible exact TakL.hdA | exact TakL.last | apply TakL.tl | with_reducible apply TakL.nilA | apply TakL.app | with_reducible apply TakL.appA)); done)) | with_reducible apply Sel.nilA | refine Sel.seg (by (repeat (first | exact TakL.hd | with_reducible exact TakL.hdA | exact TakL.last | apply TakL.tl | with_reducible apply TakL.nilA | apply TakL.app | with_reducible apply TakL.appA))) ?_ | refine Sel.segA (by (repeat (first | exact TakL.hd | with_reducible exact TakL.hdA | exact TakL.last | apply TakL.tl | with_reducible apply TakL.nilA | apply TakL.app | with_reducible apply TakL.appA))) ?_))) (by ((repeat (first | exact wrs_nil | (refine wrs_cons (by (first | exact .inr ‹_› | (left; ((repeat (first | exact List.Mem.head _ | apply List.Mem.tail)))))) ?_))))) (by ((repeat (first | exact Rem.nil | (apply Rem.cons; (repeat (first | exact Del.hd | apply Del.tl | apply Del.app))) | (apply Rem.seg; ((repeat (first | exact TakL.hd | with_reducible exact TakL.hdA | exact TakL.last | apply TakL.tl | with_reducible apply TakL.nilA | apply TakL.app | with_reducible apply TakL.appA)); done)))))) ?_
  rintro _ _ ⟨rfl, rfl⟩ hnF
  have I4 := I3.flush
  have ef4 := flush6 (st := 1) (fl := 0) (l := [R6 1 97, R6 2 97, R6 3 97]) (D := (jobDev j6)) (by decide) (by rw [show (jobDev j6).E 0 = 1 from I3.dE]; decide)
  have ea4 : ((G6 1 0 [R6 1 97, R6 2 97, R6 3 97]).flush (jobDev j6)).1 = G6 1 3 [R6 1 97, R6 2 97, R6 3 97] := by rw [ef4]; rfl
  have ec4 : ((G6 1 0 [R6 1 97, R6 2 97, R6 3 97]).flush (jobDev j6)).2.2 = 0 := by rw [ef4]
  obtain ⟨D4, eb4⟩ : ∃ D1, ((G6 1 0 [R6 1 97, R6 2 97, R6 3 97]).flush (jobDev j6)).2.1 = D1 := ⟨_, rfl⟩
  rw [ea4, eb4] at I4
  rw [ea4, eb4, ec4]
  have hM4 := hM3
  have hO4 := hO3
  refine XO.guard_t rfl rfl ?_
  refine XO.val rfl rfl (OV.neq rfl rfl) ?_
  refine XO.val rfl rfl (OV.pick_f (v := .bool _) rfl rfl) ?_
  refine XO.val rfl rfl (OV.mv (v := .bool _) rfl) ?_
  refine XO.say (v := .bool false) 82 rfl (congrArg Value.bool (rfl)) ?_
  refine XO.guard_t rfl rfl ?_
  refine XO.val rfl rfl (OV.mv (v := .pointer _) rfl) ?_
  refine XO.guard_t rfl rfl ?_
  refine XO.callV (cap := []) rfl rfl (.cons (v := .pointer _) rfl .nil) Try.call22 (lgFlushed_ok g r sl3 _) (by repeat (first | exact Sel.nil | refine Sel.cons (by repeat (first | exact Del.hd | apply Del.tl | apply Del.app)) (by repeat (first | exact List.Mem.head _ | apply List.Mem.tail | apply List.mem_append_right)) ?_)) ?_
  refine XO.guard_t rfl rfl ?_
  refine XO.val rfl rfl (OV.neq rfl rfl) ?_
  refine XO.val rfl rfl (OV.pick_f (v := .bool _) rfl rfl) ?_
  refine XO.nil ?_
  refine XK.say (v := .bool false) 86 rfl (congrArg Value.bool (rfl)) ?_
  refine XK.cond_f rfl ?_
  refine XK.skip ?_
  refine XK.seq ?_
  refine XK.region ?_
  refine XO.val rfl rfl (OV.mv (v := .pointer _) rfl) ?_
  refine XO.callV (cap := []) rfl rfl (.cons (v := .int _ _) rfl (.cons (v := .int _ _) rfl .nil)) Try.call73 (version_ok 4 98) (by repeat (first | exact Sel.nil | refine Sel.cons (by repeat (first | exact Del.hd | apply Del.tl | apply Del.app)) (by repeat (first | exact List.Mem.head _ | apply List.Mem.tail | apply List.mem_append_right)) ?_)) ?_
  refine XO.callG (cap := []) rfl rfl (.cons (v := .pointer _) rfl (.cons (v := .int _ _) rfl (.cons (v := .agg _) rfl .nil))) Try.call17 (lgAppend_ok g r sl3 _ I4.good.wf hO4 0 4 (98 :: zrs 95) (b6 _)) (by (repeat (first | exact Sel.nil | refine Sel.cons (by repeat (first | exact Del.hd | apply Del.tl | apply Del.app)) (by repeat (first | exact List.Mem.head _ | apply List.Mem.tail | apply List.mem_append_right)) ?_ | (apply Sel.seg1; ((repeat (first | exact TakL.hd | with_reducible exact TakL.hdA | exact TakL.last | apply TakL.tl | with_reducible apply TakL.nilA | apply TakL.app | with_reducible apply TakL.appA)); done)) | with_reducible apply Sel.nilA | refine Sel.seg (by (repeat (first | exact TakL.hd | with_reducible exact TakL.hdA | exact TakL.last | apply TakL.tl | with_reducible apply TakL.nilA | apply TakL.app | with_reducible apply TakL.appA))) ?_ | refine Sel.segA (by (repeat (first | exact TakL.hd | with_reducible exact TakL.hdA | exact TakL.last | apply TakL.tl | with_reducible apply TakL.nilA | apply TakL.app | with_reducible apply TakL.appA))) ?_))) hM4 (by ((repeat (first | exact Rem.nil | (apply Rem.cons; (repeat (first | exact Del.hd | apply Del.tl | apply Del.app))) | (apply Rem.seg; ((repeat (first | exact TakL.hd | with_reducible exact TakL.hdA | exact TakL.last | apply TakL.tl | with_reducible apply TakL.nilA | apply TakL.app | with_reducible apply TakL.appA)); done)))))) ?_
  rintro _ _ ⟨sl5, rfl, rfl, hO5⟩ hn5
  have I5 := I4.app (by decide) (p := 0) (psn := 4) (b := 98 :: zrs 95) (b6 _) (b6B (by decide))
  have ea5 : ((G6 1 3 [R6 1 97, R6 2 97, R6 3 97]).app 0 4 (98 :: zrs 95)).1 = G6 1 3 [R6 1 97, R6 2 97, R6 3 97, R6 4 98] := by rw [a64]
  have eb5 : ((G6 1 3 [R6 1 97, R6 2 97, R6 3 97]).app 0 4 (98 :: zrs 95)).2.1 = 4 := by rw [a64]
  have ec5 : ((G6 1 3 [R6 1 97, R6 2 97, R6 3 97]).app 0 4 (98 :: zrs 95)).2.2 = 0 := by rw [a64]
  rw [ea5] at I5 hO5 hn5
  rw [ea5, eb5, ec5]
  have hM5 := wrs_cons (c := ⟨Try.prog, none, 185, B, []⟩) (x := g) (.inr hg) (slK_next (fun x hx => hn5 x (.tail _ hx)) hM4)
  refine XO.val rfl rfl (OV.mv (v := .tuple _) rfl) ?_
  refine XO.val rfl rfl (OV.ext rfl rfl) ?_
  refine XO.val rfl rfl (OV.ext rfl rfl) ?_
  refine XO.val rfl rfl (OV.asg (v := .int _ _) rfl) ?_
  refine XO.val rfl rfl (OV.asg (v := .int _ _) rfl) ?_
  refine XO.nil ?_
  refine XK.seq ?_
  refine XK.region ?_
  refine XO.val rfl rfl (OV.mv (v := .pointer _) rfl) ?_
  refine XO.callV (cap := []) rfl rfl (.cons (v := .int _ _) rfl (.cons (v := .int _ _) rfl .nil)) Try.call73 (version_ok 5 99) (by repeat (first | exact Sel.nil | refine Sel.cons (by repeat (first | exact Del.hd | apply Del.tl | apply Del.app)) (by repeat (first | exact List.Mem.head _ | apply List.Mem.tail | apply List.mem_append_right)) ?_)) ?_
  refine XO.callG (cap := []) rfl rfl (.cons (v := .pointer _) rfl (.cons (v := .int _ _) rfl (.cons (v := .agg _) rfl .nil))) Try.call17 (lgAppend_ok g r sl5 _ I5.good.wf hO5 0 5 (99 :: zrs 95) (b6 _)) (by (repeat (first | exact Sel.nil | refine Sel.cons (by repeat (first | exact Del.hd | apply Del.tl | apply Del.app)) (by repeat (first | exact List.Mem.head _ | apply List.Mem.tail | apply List.mem_append_right)) ?_ | (apply Sel.seg1; ((repeat (first | exact TakL.hd | with_reducible exact TakL.hdA | exact TakL.last | apply TakL.tl | with_reducible apply TakL.nilA | apply TakL.app | with_reducible apply TakL.appA)); done)) | with_reducible apply Sel.nilA | refine Sel.seg (by (repeat (first | exact TakL.hd | with_reducible exact TakL.hdA | exact TakL.last | apply TakL.tl | with_reducible apply TakL.nilA | apply TakL.app | with_reducible apply TakL.appA))) ?_ | refine Sel.segA (by (repeat (first | exact TakL.hd | with_reducible exact TakL.hdA | exact TakL.last | apply TakL.tl | with_reducible apply TakL.nilA | apply TakL.app | with_reducible apply TakL.appA))) ?_))) hM5 (by ((repeat (first | exact Rem.nil | (apply Rem.cons; (repeat (first | exact Del.hd | apply Del.tl | apply Del.app))) | (apply Rem.seg; ((repeat (first | exact TakL.hd | with_reducible exact TakL.hdA | exact TakL.last | apply TakL.tl | with_reducible apply TakL.nilA | apply TakL.app | with_reducible apply TakL.appA)); done)))))) ?_
  rintro _ _ ⟨sl6, rfl, rfl, hO6⟩ hn6
  have I6 := I5.app (by decide) (p := 0) (psn := 5) (b := 99 :: zrs 95) (b6 _) (b6B (by decide))
  have ea6 : ((G6 1 3 [R6 1 97, R6 2 97, R6 3 97, R6 4 98]).app 0 5 (99 :: zrs 95)).1 = G6 1 3 [R6 1 97, R6 2 97, R6 3 97, R6 4 98] := by rw [a65]
  have eb6 : ((G6 1 3 [R6 1 97, R6 2 97, R6 3 97, R6 4 98]).app 0 5 (99 :: zrs 95)).2.1 = 0 := by rw [a65]
  have ec6 : ((G6 1 3 [R6 1 97, R6 2 97, R6 3 97, R6 4 98]).app 0 5 (99 :: zrs 95)).2.2 = 5 := by rw [a65]
  rw [ea6] at I6 hO6 hn6
  rw [ea6, eb6, ec6]
  have hM6 := wrs_cons (c := ⟨Try.prog, none, 185, B, []⟩) (x := g) (.inr hg) (slK_next (fun x hx => hn6 x (.tail _ hx)) hM5)
  refine XO.val rfl rfl (OV.mv (v := .tuple _) rfl) ?_
  refine XO.val rfl rfl (OV.ext rfl rfl) ?_
  refine XO.val rfl rfl (OV.ext rfl rfl) ?_
  refine XO.val rfl rfl (OV.asg (v := .int _ _) rfl) ?_
  refine XO.val rfl rfl (OV.asg (v := .int _ _) rfl) ?_
  refine XO.nil ?_
  refine XK.seq ?_
  refine XK.seq ?_
  refine XK.region ?_
  refine XO.val rfl rfl (OV.mv (v := .int _ _) rfl) ?_
  refine XO.val rfl rfl (OV.neq rfl rfl) ?_
  refine XO.val rfl rfl (OV.mv (v := .bool _) rfl) ?_
  refine XO.say (v := .bool false) 101 rfl (congrArg Value.bool (rfl)) ?_
  refine XO.guard_t rfl rfl ?_
  refine XO.val rfl rfl (OV.mv (v := .int _ _) rfl) ?_
  refine XO.guard_t rfl rfl ?_
  refine XO.val rfl rfl (OV.neq rfl rfl) ?_
  refine XO.val rfl rfl (OV.pick_f (v := .bool _) rfl rfl) ?_
  refine XO.val rfl rfl (OV.mv (v := .bool _) rfl) ?_
  refine XO.say (v := .bool false) 105 rfl (congrArg Value.bool (rfl)) ?_
  refine XO.guard_t rfl rfl ?_
  refine XO.val rfl rfl (OV.mv (v := .pointer _) rfl) ?_
  refine XO.guard_t rfl rfl ?_
  refine XO.callG (cap := []) rfl rfl (.cons (v := .pointer _) rfl .nil) Try.call18 (lgFlush_ok g r s sl6 _ I6.good hO6 D4 I6.dwf (by rw [I6.size]; exact Int.le_refl _) (by rw [I6.nodes]; exact Int.le_refl _) (by show (1 : Int) ≤ D4.E 0; rw [show D4.E 0 = 1 from I6.dE]; exact Int.le_refl _)) (by (repeat (first | exact Sel.nil | refine Sel.cons (by repeat (first | exact Del.hd | apply Del.tl | apply Del.app)) (by repeat (first | exact List.Mem.head _ | apply List.Mem.tail | apply List.mem_append_right)) ?_ | (apply Sel.seg1; ((repeat (first | exact TakL.hd | with_reducible exact TakL.hdA | exact TakL.last | apply TakL.tl | with_reducible apply TakL.nilA | apply TakL.app | with_reducible apply TakL.appA)); done)) | with_reducible apply Sel.nilA | refine Sel.seg (by (repeat (first | exact TakL.hd | with_reducible exact TakL.hdA | exact TakL.last | apply TakL.tl | with_reducible apply TakL.nilA | apply TakL.app | with_reducible apply TakL.appA))) ?_ | refine Sel.segA (by (repeat (first | exact TakL.hd | with_reducible exact TakL.hdA | exact TakL.last | apply TakL.tl | with_reducible apply TakL.nilA | apply TakL.app | with_reducible apply TakL.appA))) ?_))) (by ((repeat (first | exact wrs_nil | (refine wrs_cons (by (first | exact .inr ‹_› | (left; ((repeat (first | exact List.Mem.head _ | apply List.Mem.tail)))))) ?_))))) (by ((repeat (first | exact Rem.nil | (apply Rem.cons; (repeat (first | exact Del.hd | apply Del.tl | apply Del.app))) | (apply Rem.seg; ((repeat (first | exact TakL.hd | with_reducible exact TakL.hdA | exact TakL.last | apply TakL.tl | with_reducible apply TakL.nilA | apply TakL.app | with_reducible apply TakL.appA)); done)))))) ?_
  rintro _ _ ⟨rfl, rfl⟩ hnF
  have I7 := I6.flush
  have ef7 := flush6 (st := 1) (fl := 3) (l := [R6 1 97, R6 2 97, R6 3 97, R6 4 98]) (D := D4) (by decide) (by rw [show D4.E 0 = 1 from I6.dE]; decide)
  have ea7 : ((G6 1 3 [R6 1 97, R6 2 97, R6 3 97, R6 4 98]).flush D4).1 = G6 1 4 [R6 1 97, R6 2 97, R6 3 97, R6 4 98] := by rw [ef7]; rfl
  have ec7 : ((G6 1 3 [R6 1 97, R6 2 97, R6 3 97, R6 4 98]).flush D4).2.2 = 0 := by rw [ef7]
  obtain ⟨D7, eb7⟩ : ∃ D1, ((G6 1 3 [R6 1 97, R6 2 97, R6 3 97, R6 4 98]).flush D4).2.1 = D1 := ⟨_, rfl⟩
  rw [ea7, eb7] at I7
  rw [ea7, eb7, ec7]
  have hM7 := hM6
  have hO7 := hO6
  refine XO.guard_t rfl rfl ?_
  refine XO.val rfl rfl (OV.neq rfl rfl) ?_
  refine XO.val rfl rfl (OV.pick_f (v := .bool _) rfl rfl) ?_
  refine XO.val rfl rfl (OV.mv (v := .bool _) rfl) ?_
  refine XO.say (v := .bool false) 110 rfl (congrArg Value.bool (rfl)) ?_
  refine XO.guard_t rfl rfl ?_
  refine XO.val rfl rfl (OV.mv (v := .pointer _) rfl) ?_
  refine XO.guard_t rfl rfl ?_
  refine XO.callG (cap := []) rfl rfl (.cons (v := .pointer _) rfl (.cons (v := .int _ _) rfl .nil)) Try.call19 (lgCut_ok g r s sl6 _ I7.good.wf hO7 D7 I7.dwf (by rw [I7.size]; exact Int.le_refl _) (by rw [I7.nodes]; exact Int.le_refl _) (by show (1 : Int) ≤ D7.E 0; rw [show D7.E 0 = 1 from I7.dE]; exact Int.le_refl _) 4 (by decide) (by decide)) (by (repeat (first | exact Sel.nil | refine Sel.cons (by repeat (first | exact Del.hd | apply Del.tl | apply Del.app)) (by repeat (first | exact List.Mem.head _ | apply List.Mem.tail | apply List.mem_append_right)) ?_ | (apply Sel.seg1; ((repeat (first | exact TakL.hd | with_reducible exact TakL.hdA | exact TakL.last | apply TakL.tl | with_reducible apply TakL.nilA | apply TakL.app | with_reducible apply TakL.appA)); done)) | with_reducible apply Sel.nilA | refine Sel.seg (by (repeat (first | exact TakL.hd | with_reducible exact TakL.hdA | exact TakL.last | apply TakL.tl | with_reducible apply TakL.nilA | apply TakL.app | with_reducible apply TakL.appA))) ?_ | refine Sel.segA (by (repeat (first | exact TakL.hd | with_reducible exact TakL.hdA | exact TakL.last | apply TakL.tl | with_reducible apply TakL.nilA | apply TakL.app | with_reducible apply TakL.appA))) ?_))) (by exact wrs_cons (.inr hg) (wrs_cons (.inr hr) (wrs_cons (.inr hs) (fun r hr => hM7 r (.tail _ hr))))) (by ((repeat (first | exact Rem.nil | (apply Rem.cons; (repeat (first | exact Del.hd | apply Del.tl | apply Del.app))) | (apply Rem.seg; ((repeat (first | exact TakL.hd | with_reducible exact TakL.hdA | exact TakL.last | apply TakL.tl | with_reducible apply TakL.nilA | apply TakL.app | with_reducible apply TakL.appA)); done)))))) ?_
  rintro _ _ ⟨sl8, rfl, rfl, hO8⟩ hn8
  have I8 := I7.cutL (by decide) 4
  have ef8 := cut6 (st := 1) (fl := 4) (s := 4) (l := [R6 1 97, R6 2 97, R6 3 97, R6 4 98]) (D := D7) (by decide) (by rw [show D7.E 0 = 1 from I7.dE]; decide)
  have ea8 : ((G6 1 4 [R6 1 97, R6 2 97, R6 3 97, R6 4 98]).cut D7 4).1 = G6 4 4 [R6 4 98] := by rw [ef8]; rfl
  have ec8 : ((G6 1 4 [R6 1 97, R6 2 97, R6 3 97, R6 4 98]).cut D7 4).2.2 = 0 := by rw [ef8]
  obtain ⟨D8, eb8⟩ : ∃ D1, ((G6 1 4 [R6 1 97, R6 2 97, R6 3 97, R6 4 98]).cut D7 4).2.1 = D1 := ⟨_, rfl⟩
  rw [ea8, eb8] at I8 hn8
  rw [ea8] at hO8
  rw [ea8, eb8, ec8]
  have hM8 := wrs_cons (c := ⟨Try.prog, none, 185, B, []⟩) (x := g) (.inr hg) (slK_next (fun x hx => hn8 x (.tail _ (.tail _ (.tail _ hx)))) (by exact wrs_cons (.inr hg) (wrs_cons (.inr hr) (wrs_cons (.inr hs) (fun r hr => hM7 r (.tail _ hr))))))
  refine XO.guard_t rfl rfl ?_
  refine XO.val rfl rfl (OV.neq rfl rfl) ?_
  refine XO.val rfl rfl (OV.pick_f (v := .bool _) rfl rfl) ?_
  refine XO.val rfl rfl (OV.mv (v := .bool _) rfl) ?_
  refine XO.say (v := .bool false) 115 rfl (congrArg Value.bool (rfl)) ?_
  refine XO.guard_t rfl rfl ?_
  refine XO.val rfl rfl (OV.mv (v := .pointer _) rfl) ?_
  refine XO.guard_t rfl rfl ?_
  refine XO.callV (cap := []) rfl rfl (.cons (v := .pointer _) rfl .nil) Try.call24 (lgRoom_ok g r sl8 _ I8.good.wf) (by repeat (first | exact Sel.nil | refine Sel.cons (by repeat (first | exact Del.hd | apply Del.tl | apply Del.app)) (by repeat (first | exact List.Mem.head _ | apply List.Mem.tail | apply List.mem_append_right)) ?_)) ?_
  refine XO.guard_t rfl rfl ?_
  refine XO.val rfl rfl (OV.neq rfl rfl) ?_
  refine XO.val rfl rfl (OV.pick_f (v := .bool _) rfl rfl) ?_
  refine XO.nil ?_
  refine XK.say (v := .bool false) 119 rfl (congrArg Value.bool (rfl)) ?_
  refine XK.cond_f rfl ?_
  refine XK.skip ?_
  refine XK.seq ?_
  refine XK.region ?_
  refine XO.val rfl rfl (OV.mv (v := .pointer _) rfl) ?_
  refine XO.callV (cap := []) rfl rfl (.cons (v := .int _ _) rfl (.cons (v := .int _ _) rfl .nil)) Try.call73 (version_ok 5 99) (by repeat (first | exact Sel.nil | refine Sel.cons (by repeat (first | exact Del.hd | apply Del.tl | apply Del.app)) (by repeat (first | exact List.Mem.head _ | apply List.Mem.tail | apply List.mem_append_right)) ?_)) ?_
  refine XO.callG (cap := []) rfl rfl (.cons (v := .pointer _) rfl (.cons (v := .int _ _) rfl (.cons (v := .agg _) rfl .nil))) Try.call17 (lgAppend_ok g r sl8 _ I8.good.wf hO8 0 5 (99 :: zrs 95) (b6 _)) (by (repeat (first | exact Sel.nil | refine Sel.cons (by repeat (first | exact Del.hd | apply Del.tl | apply Del.app)) (by repeat (first | exact List.Mem.head _ | apply List.Mem.tail | apply List.mem_append_right)) ?_ | (apply Sel.seg1; ((repeat (first | exact TakL.hd | with_reducible exact TakL.hdA | exact TakL.last | apply TakL.tl | with_reducible apply TakL.nilA | apply TakL.app | with_reducible apply TakL.appA)); done)) | with_reducible apply Sel.nilA | refine Sel.seg (by (repeat (first | exact TakL.hd | with_reducible exact TakL.hdA | exact TakL.last | apply TakL.tl | with_reducible apply TakL.nilA | apply TakL.app | with_reducible apply TakL.appA))) ?_ | refine Sel.segA (by (repeat (first | exact TakL.hd | with_reducible exact TakL.hdA | exact TakL.last | apply TakL.tl | with_reducible apply TakL.nilA | apply TakL.app | with_reducible apply TakL.appA))) ?_))) hM8 (by ((repeat (first | exact Rem.nil | (apply Rem.cons; (repeat (first | exact Del.hd | apply Del.tl | apply Del.app))) | (apply Rem.seg; ((repeat (first | exact TakL.hd | with_reducible exact TakL.hdA | exact TakL.last | apply TakL.tl | with_reducible apply TakL.nilA | apply TakL.app | with_reducible apply TakL.appA)); done)))))) ?_
  rintro _ _ ⟨sl9, rfl, rfl, hO9⟩ hn9
  have I9 := I8.app (by decide) (p := 0) (psn := 5) (b := 99 :: zrs 95) (b6 _) (b6B (by decide))
  have ea9 : ((G6 4 4 [R6 4 98]).app 0 5 (99 :: zrs 95)).1 = G6 4 4 [R6 4 98, R6 5 99] := by rw [a66]
  have eb9 : ((G6 4 4 [R6 4 98]).app 0 5 (99 :: zrs 95)).2.1 = 5 := by rw [a66]
  have ec9 : ((G6 4 4 [R6 4 98]).app 0 5 (99 :: zrs 95)).2.2 = 0 := by rw [a66]
  rw [ea9] at I9 hO9 hn9
  rw [ea9, eb9, ec9]
  have hM9 := wrs_cons (c := ⟨Try.prog, none, 185, B, []⟩) (x := g) (.inr hg) (slK_next (fun x hx => hn9 x (.tail _ hx)) hM8)
  refine XO.val rfl rfl (OV.mv (v := .tuple _) rfl) ?_
  refine XO.val rfl rfl (OV.ext rfl rfl) ?_
  refine XO.val rfl rfl (OV.ext rfl rfl) ?_
  refine XO.val rfl rfl (OV.asg (v := .int _ _) rfl) ?_
  refine XO.val rfl rfl (OV.asg (v := .int _ _) rfl) ?_
  refine XO.nil ?_
  refine XK.seq ?_
  refine XK.region ?_
  refine XO.val rfl rfl (OV.mv (v := .pointer _) rfl) ?_
  refine XO.callG (cap := []) rfl rfl (.cons (v := .pointer _) rfl .nil) Try.call18 (lgFlush_ok g r s sl9 _ I9.good hO9 D8 I9.dwf (by rw [I9.size]; exact Int.le_refl _) (by rw [I9.nodes]; exact Int.le_refl _) (by show (1 : Int) ≤ D8.E 0; rw [show D8.E 0 = 1 from I9.dE]; exact Int.le_refl _)) (by (repeat (first | exact Sel.nil | refine Sel.cons (by repeat (first | exact Del.hd | apply Del.tl | apply Del.app)) (by repeat (first | exact List.Mem.head _ | apply List.Mem.tail | apply List.mem_append_right)) ?_ | (apply Sel.seg1; ((repeat (first | exact TakL.hd | with_reducible exact TakL.hdA | exact TakL.last | apply TakL.tl | with_reducible apply TakL.nilA | apply TakL.app | with_reducible apply TakL.appA)); done)) | with_reducible apply Sel.nilA | refine Sel.seg (by (repeat (first | exact TakL.hd | with_reducible exact TakL.hdA | exact TakL.last | apply TakL.tl | with_reducible apply TakL.nilA | apply TakL.app | with_reducible apply TakL.appA))) ?_ | refine Sel.segA (by (repeat (first | exact TakL.hd | with_reducible exact TakL.hdA | exact TakL.last | apply TakL.tl | with_reducible apply TakL.nilA | apply TakL.app | with_reducible apply TakL.appA))) ?_))) (by ((repeat (first | exact wrs_nil | (refine wrs_cons (by (first | exact .inr ‹_› | (left; ((repeat (first | exact List.Mem.head _ | apply List.Mem.tail)))))) ?_))))) (by ((repeat (first | exact Rem.nil | (apply Rem.cons; (repeat (first | exact Del.hd | apply Del.tl | apply Del.app))) | (apply Rem.seg; ((repeat (first | exact TakL.hd | with_reducible exact TakL.hdA | exact TakL.last | apply TakL.tl | with_reducible apply TakL.nilA | apply TakL.app | with_reducible apply TakL.appA)); done)))))) ?_
  rintro _ _ ⟨rfl, rfl⟩ hnF
  have I10 := I9.flush
  have ef10 := flush6 (st := 4) (fl := 4) (l := [R6 4 98, R6 5 99]) (D := D8) (by decide) (by rw [show D8.E 0 = 1 from I9.dE]; decide)
  have ea10 : ((G6 4 4 [R6 4 98, R6 5 99]).flush D8).1 = G6 4 5 [R6 4 98, R6 5 99] := by rw [ef10]; rfl
  have ec10 : ((G6 4 4 [R6 4 98, R6 5 99]).flush D8).2.2 = 0 := by rw [ef10]
  obtain ⟨D10, eb10⟩ : ∃ D1, ((G6 4 4 [R6 4 98, R6 5 99]).flush D8).2.1 = D1 := ⟨_, rfl⟩
  rw [ea10, eb10] at I10
  rw [ea10, eb10, ec10]
  have hM10 := hM9
  have hO10 := hO9
  refine XO.val rfl rfl (OV.asg (v := .int _ _) rfl) ?_
  refine XO.nil ?_
  refine XK.seq ?_
  refine XK.region ?_
  refine XO.val rfl rfl (OV.mv (v := .pointer _) rfl) ?_
  refine XO.val rfl rfl (OV.ldA rfl Try.isAgg23 Try.sizeOf23 (by repeat (first | exact List.Mem.head _ | apply List.Mem.tail | apply List.mem_append_right)) (grab_all (by (first | assumption | (simp only [List.length_append, bys_length, b4_len, zrs_len, headB_len, putHead_len, List.length_replicate, List.length_cons, List.length_nil, List.length_set, List.length_take, List.length_drop, recL_len]; done) | (simp only [List.length_append, bys_length, b4_len, zrs_len, headB_len, putHead_len, List.length_replicate, List.length_cons, List.length_nil, List.length_set, List.length_take, List.length_drop, recL_len]; omega) | rfl | (simp [*, bys_length]; done) | (simp [*, bys_length]; omega)))) (by (first | assumption | (simp only [List.length_append, bys_length, b4_len, zrs_len, headB_len, putHead_len, List.length_replicate, List.length_cons, List.length_nil, List.length_set, List.length_take, List.length_drop, recL_len]; done) | (simp only [List.length_append, bys_length, b4_len, zrs_len, headB_len, putHead_len, List.length_replicate, List.length_cons, List.length_nil, List.length_set, List.length_take, List.length_drop, recL_len]; omega) | rfl | (simp [*, bys_length]; done) | (simp [*, bys_length]; omega)))) ?_
  refine XO.callG (cap := []) rfl rfl (.cons (v := .pointer _) rfl (.cons (v := .agg _) rfl (.cons (v := .int _ _) rfl (.cons (v := .int _ _) rfl .nil)))) Try.call16 (redoOpen_ok r s D10 I10.dwf j6 j6may 0 (by decide) (by decide) (by rw [I10.size]; exact Int.le_refl _) 1 (by decide) (by decide) (I10.open6 (by decide) (by decide)).2.2) (by repeat (first | exact Sel.nil | refine Sel.cons (by repeat (first | exact Del.hd | apply Del.tl | apply Del.app)) (by repeat (first | exact List.Mem.head _ | apply List.Mem.tail | apply List.mem_append_right)) ?_)) (by ((repeat (first | exact wrs_nil | (refine wrs_cons (by (first | exact .inr ‹_› | (left; ((repeat (first | exact List.Mem.head _ | apply List.Mem.tail)))))) ?_))))) .nil ?_
  rintro _ _ ⟨g2, sl11, rfl, rfl, hO11⟩ hn11
  have hg2 : B.heap.size ≤ g2 := (hn11 _ (.head _)).resolve_left (by simp)
  have e11 := I10.open6 (by decide) (by decide)
  have I11 := I10
  rw [e11.2.1] at hO11 ⊢
  rw [e11.1]
  have hM11 := wrs_cons (c := ⟨Try.prog, none, 185, B, []⟩) (x := g2) (.inr hg2) (slK_next (M := []) (fun x hx => hn11 x (.tail _ hx)) wrs_nil)
  refine XO.val rfl rfl (OV.mv (v := .tuple _) rfl) ?_
  refine XO.val rfl rfl (OV.ext rfl rfl) ?_
  refine XO.val rfl rfl (OV.ext rfl rfl) ?_
  refine XO.val rfl rfl (OV.asg (v := .pointer _) rfl) ?_
  refine XO.val rfl rfl (OV.asg (v := .int _ _) rfl) ?_
  refine XO.nil ?_
  refine XK.seq ?_
  refine XK.region ?_
  refine XO.val rfl rfl (OV.mv (v := .pointer _) rfl) ?_
  refine XO.callM (cap := []) rfl rfl (.cons (v := .pointer _) rfl (.cons (v := .int _ _) rfl .nil)) Try.call39 (up_ok r s D10 I10.dwf 0 (by decide) (by rw [I10.nodes]; decide) (by show D10.E 0 ≠ _; rw [show D10.E 0 = 1 from I10.dE]; decide)) (by (repeat (first | exact Sel.nil | refine Sel.cons (by repeat (first | exact Del.hd | apply Del.tl | apply Del.app)) (by repeat (first | exact List.Mem.head _ | apply List.Mem.tail | apply List.mem_append_right)) ?_ | (apply Sel.seg1; ((repeat (first | exact TakL.hd | with_reducible exact TakL.hdA | exact TakL.last | apply TakL.tl | with_reducible apply TakL.nilA | apply TakL.app | with_reducible apply TakL.appA)); done)) | with_reducible apply Sel.nilA | refine Sel.seg (by (repeat (first | exact TakL.hd | with_reducible exact TakL.hdA | exact TakL.last | apply TakL.tl | with_reducible apply TakL.nilA | apply TakL.app | with_reducible apply TakL.appA))) ?_ | refine Sel.segA (by (repeat (first | exact TakL.hd | with_reducible exact TakL.hdA | exact TakL.last | apply TakL.tl | with_reducible apply TakL.nilA | apply TakL.app | with_reducible apply TakL.appA))) ?_))) (by ((repeat (first | exact wrs_nil | (refine wrs_cons (by (first | exact .inr ‹_› | (left; ((repeat (first | exact List.Mem.head _ | apply List.Mem.tail)))))) ?_))))) (by repeat (first | exact Rem.nil | (apply Rem.cons; (repeat (first | exact Del.hd | apply Del.tl | apply Del.app))))) (by repeat (first | exact App.nil | apply App.cons)) ?_
  have hup : (D10.dos (·.up1 (0 : Int).toNat)).1 = D10.tick.up1 0 := by rw [dos_yes (by rw [I10.cut]; simp)]; rfl
  rw [hup]
  rw [show D10.E (0 : Int).toNat + 1 = 2 from by show D10.E 0 + 1 = 2; rw [show D10.E 0 = 1 from I10.dE]; rfl]
  refine XO.val rfl rfl (OV.mv (v := .tuple _) rfl) ?_
  refine XO.val rfl rfl (OV.ext rfl rfl) ?_
  refine XO.val rfl rfl (OV.ext rfl rfl) ?_
  refine XO.val rfl rfl (OV.asg (v := .int _ _) rfl) ?_
  refine XO.val rfl rfl (OV.asg (v := .int _ _) rfl) ?_
  refine XO.nil ?_
  refine XK.seq ?_
  refine XK.seq ?_
  refine XK.region ?_
  refine XO.val rfl rfl (OV.mv (v := .int _ _) rfl) ?_
  refine XO.val rfl rfl (OV.neq rfl rfl) ?_
  refine XO.val rfl rfl (OV.mv (v := .bool _) rfl) ?_
  refine XO.say (v := .bool false) 141 rfl (congrArg Value.bool (rfl)) ?_
  refine XO.guard_t rfl rfl ?_
  refine XO.val rfl rfl (OV.mv (v := .int _ _) rfl) ?_
  refine XO.guard_t rfl rfl ?_
  refine XO.val rfl rfl (OV.neq rfl rfl) ?_
  refine XO.val rfl rfl (OV.pick_f (v := .bool _) rfl rfl) ?_
  refine XO.val rfl rfl (OV.mv (v := .bool _) rfl) ?_
  refine XO.say (v := .bool false) 145 rfl (congrArg Value.bool (rfl)) ?_
  refine XO.guard_t rfl rfl ?_
  refine XO.val rfl rfl (OV.mv (v := .int _ _) rfl) ?_
  refine XO.guard_t rfl rfl ?_
  refine XO.val rfl rfl (OV.neq rfl rfl) ?_
  refine XO.val rfl rfl (OV.pick_f (v := .bool _) rfl rfl) ?_
  refine XO.val rfl rfl (OV.mv (v := .bool _) rfl) ?_
  refine XO.say (v := .bool false) 149 rfl (congrArg Value.bool (rfl)) ?_
  refine XO.guard_t rfl rfl ?_
  refine XO.val rfl rfl (OV.mv (v := .pointer _) rfl) ?_
  refine XO.guard_t rfl rfl ?_
  refine XO.callV (cap := []) rfl rfl (.cons (v := .pointer _) rfl .nil) Try.call21 (lgStart_ok g2 r sl11 _) (by repeat (first | exact Sel.nil | refine Sel.cons (by repeat (first | exact Del.hd | apply Del.tl | apply Del.app)) (by repeat (first | exact List.Mem.head _ | apply List.Mem.tail | apply List.mem_append_right)) ?_)) ?_
  refine XO.guard_t rfl rfl ?_
  refine XO.val rfl rfl (OV.neq rfl rfl) ?_
  refine XO.val rfl rfl (OV.pick_f (v := .bool _) rfl rfl) ?_
  refine XO.val rfl rfl (OV.mv (v := .bool _) rfl) ?_
  refine XO.say (v := .bool false) 154 rfl (congrArg Value.bool (rfl)) ?_
  refine XO.guard_t rfl rfl ?_
  refine XO.val rfl rfl (OV.mv (v := .pointer _) rfl) ?_
  refine XO.guard_t rfl rfl ?_
  refine XO.callV (cap := []) rfl rfl (.cons (v := .pointer _) rfl .nil) Try.call23 (lgNext_ok g2 r sl11 _ I11.good.wf) (by repeat (first | exact Sel.nil | refine Sel.cons (by repeat (first | exact Del.hd | apply Del.tl | apply Del.app)) (by repeat (first | exact List.Mem.head _ | apply List.Mem.tail | apply List.mem_append_right)) ?_)) ?_
  refine XO.guard_t rfl rfl ?_
  refine XO.val rfl rfl (OV.neq rfl rfl) ?_
  refine XO.val rfl rfl (OV.pick_f (v := .bool _) rfl rfl) ?_
  refine XO.val rfl rfl (OV.mv (v := .bool _) rfl) ?_
  refine XO.say (v := .bool false) 159 rfl (congrArg Value.bool (rfl)) ?_
  refine XO.guard_t rfl rfl ?_
  refine XO.val rfl rfl (OV.mv (v := .int _ _) rfl) ?_
  refine XO.guard_t rfl rfl ?_
  refine XO.val rfl rfl (OV.neq rfl rfl) ?_
  refine XO.val rfl rfl (OV.pick_f (v := .bool _) rfl rfl) ?_
  refine XO.val rfl rfl (OV.mv (v := .bool _) rfl) ?_
  refine XO.say (v := .bool false) 163 rfl (congrArg Value.bool (rfl)) ?_
  refine XO.guard_t rfl rfl ?_
  refine XO.val rfl rfl (OV.mv (v := .int _ _) rfl) ?_
  refine XO.guard_t rfl rfl ?_
  refine XO.val rfl rfl (OV.neq rfl rfl) ?_
  refine XO.val rfl rfl (OV.pick_f (v := .bool _) rfl rfl) ?_
  refine XO.nil ?_
  refine XK.say (v := .bool false) 166 rfl (congrArg Value.bool (rfl)) ?_
  refine XK.cond_f rfl ?_
  refine XK.skip ?_
  refine XK.seq ?_
  refine XK.region ?_
  refine XO.val rfl rfl (OV.mv (v := .pointer _) rfl) ?_
  refine XO.callV (cap := []) rfl rfl (.cons (v := .int _ _) rfl (.cons (v := .int _ _) rfl .nil)) Try.call73 (version_ok 6 100) (by repeat (first | exact Sel.nil | refine Sel.cons (by repeat (first | exact Del.hd | apply Del.tl | apply Del.app)) (by repeat (first | exact List.Mem.head _ | apply List.Mem.tail | apply List.mem_append_right)) ?_)) ?_
  refine XO.callG (cap := []) rfl rfl (.cons (v := .pointer _) rfl (.cons (v := .int _ _) rfl (.cons (v := .agg _) rfl .nil))) Try.call17 (lgAppend_ok g2 r sl11 _ I11.good.wf hO11 0 6 (100 :: zrs 95) (b6 _)) (by (repeat (first | exact Sel.nil | refine Sel.cons (by repeat (first | exact Del.hd | apply Del.tl | apply Del.app)) (by repeat (first | exact List.Mem.head _ | apply List.Mem.tail | apply List.mem_append_right)) ?_ | (apply Sel.seg1; ((repeat (first | exact TakL.hd | with_reducible exact TakL.hdA | exact TakL.last | apply TakL.tl | with_reducible apply TakL.nilA | apply TakL.app | with_reducible apply TakL.appA)); done)) | with_reducible apply Sel.nilA | refine Sel.seg (by (repeat (first | exact TakL.hd | with_reducible exact TakL.hdA | exact TakL.last | apply TakL.tl | with_reducible apply TakL.nilA | apply TakL.app | with_reducible apply TakL.appA))) ?_ | refine Sel.segA (by (repeat (first | exact TakL.hd | with_reducible exact TakL.hdA | exact TakL.last | apply TakL.tl | with_reducible apply TakL.nilA | apply TakL.app | with_reducible apply TakL.appA))) ?_))) hM11 (by ((repeat (first | exact Rem.nil | (apply Rem.cons; (repeat (first | exact Del.hd | apply Del.tl | apply Del.app))) | (apply Rem.seg; ((repeat (first | exact TakL.hd | with_reducible exact TakL.hdA | exact TakL.last | apply TakL.tl | with_reducible apply TakL.nilA | apply TakL.app | with_reducible apply TakL.appA)); done)))))) ?_
  rintro _ _ ⟨sl12, rfl, rfl, hO12⟩ hn12
  have I12 := I11.app (by decide) (p := 0) (psn := 6) (b := 100 :: zrs 95) (b6 _) (b6B (by decide))
  have ea12 : ((G6 4 5 [R6 4 98, R6 5 99]).app 0 6 (100 :: zrs 95)).1 = G6 4 5 [R6 4 98, R6 5 99, R6 6 100] := by rw [a67]
  have eb12 : ((G6 4 5 [R6 4 98, R6 5 99]).app 0 6 (100 :: zrs 95)).2.1 = 6 := by rw [a67]
  have ec12 : ((G6 4 5 [R6 4 98, R6 5 99]).app 0 6 (100 :: zrs 95)).2.2 = 0 := by rw [a67]
  rw [ea12] at I12 hO12 hn12
  rw [ea12, eb12, ec12]
  have hM12 := wrs_cons (c := ⟨Try.prog, none, 185, B, []⟩) (x := g2) (.inr hg2) (slK_next (fun x hx => hn12 x (.tail _ hx)) hM11)
  refine XO.val rfl rfl (OV.mv (v := .tuple _) rfl) ?_
  refine XO.val rfl rfl (OV.ext rfl rfl) ?_
  refine XO.val rfl rfl (OV.ext rfl rfl) ?_
  refine XO.val rfl rfl (OV.asg (v := .int _ _) rfl) ?_
  refine XO.val rfl rfl (OV.asg (v := .int _ _) rfl) ?_
  refine XO.nil ?_
  refine XK.seq ?_
  refine XK.region ?_
  refine XO.val rfl rfl (OV.mv (v := .int _ _) rfl) ?_
  refine XO.val rfl rfl (OV.eql rfl rfl) ?_
  refine XO.val rfl rfl (OV.mv (v := .bool _) rfl) ?_
  refine XO.say (v := .bool true) 175 rfl (congrArg Value.bool (rfl)) ?_
  refine XO.guard_t rfl rfl ?_
  refine XO.val rfl rfl (OV.mv (v := .pointer _) rfl) ?_
  refine XO.guard_t rfl rfl ?_
  refine XO.callG (cap := []) rfl rfl (.cons (v := .pointer _) rfl .nil) Try.call18 (lgFlush_ok g2 r s sl12 _ I12.good hO12 (D10.tick.up1 0) (I10.dwf.up1 (by rw [I10.cut]; simp) (by rw [show D10.E 0 = 1 from I10.dE]; decide)) (by show j6.secs ≤ (D10.S.length : Int); rw [I10.size]; exact Int.le_refl _) (by show _ ≤ D10.nodes; rw [I10.nodes]; exact Int.le_refl _) (by show (1 : Int) ≤ D10.E 0 + 1; rw [show D10.E 0 = 1 from I10.dE]; decide)) (by (repeat (first | exact Sel.nil | refine Sel.cons (by repeat (first | exact Del.hd | apply Del.tl | apply Del.app)) (by repeat (first | exact List.Mem.head _ | apply List.Mem.tail | apply List.mem_append_right)) ?_ | (apply Sel.seg1; ((repeat (first | exact TakL.hd | with_reducible exact TakL.hdA | exact TakL.last | apply TakL.tl | with_reducible apply TakL.nilA | apply TakL.app | with_reducible apply TakL.appA)); done)) | with_reducible apply Sel.nilA | refine Sel.seg (by (repeat (first | exact TakL.hd | with_reducible exact TakL.hdA | exact TakL.last | apply TakL.tl | with_reducible apply TakL.nilA | apply TakL.app | with_reducible apply TakL.appA))) ?_ | refine Sel.segA (by (repeat (first | exact TakL.hd | with_reducible exact TakL.hdA | exact TakL.last | apply TakL.tl | with_reducible apply TakL.nilA | apply TakL.app | with_reducible apply TakL.appA))) ?_))) (by ((repeat (first | exact wrs_nil | (refine wrs_cons (by (first | exact .inr ‹_› | (left; ((repeat (first | exact List.Mem.head _ | apply List.Mem.tail)))))) ?_))))) (by ((repeat (first | exact Rem.nil | (apply Rem.cons; (repeat (first | exact Del.hd | apply Del.tl | apply Del.app))) | (apply Rem.seg; ((repeat (first | exact TakL.hd | with_reducible exact TakL.hdA | exact TakL.last | apply TakL.tl | with_reducible apply TakL.nilA | apply TakL.app | with_reducible apply TakL.appA)); done)))))) ?_
  rintro _ _ ⟨rfl, rfl⟩ hnF2
  have e12 : (G6 4 5 [R6 4 98, R6 5 99, R6 6 100]).flush (D10.tick.up1 0) = (G6 4 5 [R6 4 98, R6 5 99, R6 6 100], D10.tick.up1 0, 8) := (if_neg (by decide)).trans (if_pos (by show (1 : Int) < D10.E 0 + 1; rw [show D10.E 0 = 1 from I10.dE]; decide))
  rw [show ((G6 4 5 [R6 4 98, R6 5 99, R6 6 100]).flush (D10.tick.up1 0)).2.2 = 8 from by rw [e12], show ((G6 4 5 [R6 4 98, R6 5 99, R6 6 100]).flush (D10.tick.up1 0)).1 = G6 4 5 [R6 4 98, R6 5 99, R6 6 100] from by rw [e12], show ((G6 4 5 [R6 4 98, R6 5 99, R6 6 100]).flush (D10.tick.up1 0)).2.1 = D10.tick.up1 0 from by rw [e12]]
  refine XO.guard_t rfl rfl ?_
  refine XO.val rfl rfl (OV.eql rfl rfl) ?_
  refine XO.val rfl rfl (OV.pick_t (v := .bool _) rfl rfl) ?_
  refine XO.val rfl rfl (OV.mv (v := .bool _) rfl) ?_
  refine XO.say (v := .bool true) 180 rfl (congrArg Value.bool (rfl)) ?_
  refine XO.guard_t rfl rfl ?_
  refine XO.val rfl rfl (OV.mv (v := .pointer _) rfl) ?_
  refine XO.guard_t rfl rfl ?_
  refine XO.callV (cap := []) rfl rfl (.cons (v := .pointer _) rfl .nil) Try.call22 (lgFlushed_ok g2 r sl12 _) (by repeat (first | exact Sel.nil | refine Sel.cons (by repeat (first | exact Del.hd | apply Del.tl | apply Del.app)) (by repeat (first | exact List.Mem.head _ | apply List.Mem.tail | apply List.mem_append_right)) ?_)) ?_
  refine XO.guard_t rfl rfl ?_
  refine XO.val rfl rfl (OV.eql rfl rfl) ?_
  refine XO.val rfl rfl (OV.pick_t (v := .bool _) rfl rfl) ?_
  refine XO.val rfl rfl (OV.asg (v := .bool _) rfl) ?_
  refine XO.nil ?_
  refine XK.retTo (Fin.ret (.cons (.tmp (v := .bool _) rfl) .nil) .nil (by simp) ?_)
  exact ⟨rfl, rfl⟩

end Go.Proofs.Ythophgadmkjamaa
