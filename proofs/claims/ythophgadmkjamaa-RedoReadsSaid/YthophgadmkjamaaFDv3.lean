/- Contracts of functions, printed by a program of this claim (wip/tools/gen.py). -/
import Derived.Test.YthophgadmkjamaaFDv2
import Derived.KernelRfl
set_option maxRecDepth 20000
set_option linter.unusedVariables false
set_option linter.unusedSimpArgs false
namespace Go.Proofs.Ythophgadmkjamaa
open Go Go.Mw Go.Proofs

theorem Dv3_zv_157 : ∀ w, (zeroValue 157).run Try.prog w = .ok (.agg (List.toArray (bys (zrs 64)))) w := fun w => by kernel_rfl
theorem Dv3_bld_86_0_2 (a0 : Option Addr) (a0n a0c : Nat) (a1 : Int) : ∀ w, (Instr.build 86 (List.toArray [(0, .slice a0 a0n a0c), (2, .int .i64 a1)])).run Try.prog w = .ok (.agg (List.toArray ([.slice a0 a0n a0c, .int .i64 0, .int .i64 0, .int .i64 0, .int .i64 0, .int .i64 0, .int .i64 0, .int .i64 0, .int .i64 0, .int .i64 a1, .bool false, .int .i64 0, .bool false, .int .i64 0]))) w := fun w => by kernel_rfl
theorem Dv3_mixed : Try.prog.follows .mixedOrders = true := by kernel_rfl
theorem Dv3_fa_23_0 : FA Try.prog 23 0 0 := FA.of (n := 0) Try.runUnderlying23 rfl rfl Try.sizeOf3

theorem up_ok (r s : Nat) (D : Dev) (hD : D.wf) (i : Int) (h0 : 0 ≤ i) (h1 : i < D.nodes) (h2 : D.E i.toNat ≠ 2147483647) :
    CtM Try.prog 39 [.pointer (some ⟨r, 0, none⟩), .int .i64 i] [(r, cel (devL s D) 86)] [r] (.tuple (List.toArray [.int .i64 (D.E i.toNat + 1), .int .i64 0])) [(r, cel (devL s (D.dos (·.up1 i.toNat)).1) 86)] := by
  have he0 := hD.epoch0 i.toNat
  have he1 := hD.epoch1 i.toNat
  refine Ct.of (N := 26) (rs := [.tmp 4, .tmp 5]) Try.func39 rfl rfl rfl (Nat.le_of_ble_eq_true rfl) (fun B => ?_)
  refine XK.seq ?_
  refine XK.region ?_
  refine XO.box (v := .pointer _) rfl rfl rfl (fun r2 hr2 => ?_)
  refine XO.box (v := .int _ _) rfl rfl rfl (fun r3 hr3 => ?_)
  refine XO.val rfl rfl (OV.asg (v := .int _ _) rfl) ?_
  refine XO.val rfl rfl (OV.asg (v := .int _ _) rfl) ?_
  refine XO.nil ?_
  refine XK.seq ?_
  refine XK.region ?_
  refine XO.val rfl rfl (OV.ld rfl Try.isAgg27 (by repeat (first | exact List.Mem.head _ | apply List.Mem.tail | apply List.mem_append_right)) rfl) ?_
  refine XO.val rfl rfl (OV.ld rfl Try.isAgg3 (by repeat (first | exact List.Mem.head _ | apply List.Mem.tail | apply List.mem_append_right)) rfl) ?_
  refine XO.callV (cap := []) rfl rfl (.cons (v := .pointer _) rfl (.cons (v := .int _ _) rfl .nil)) Try.call100 (epoch_ok r s D hD i h0 h1) (by repeat (first | exact Sel.nil | refine Sel.cons (by repeat (first | exact Del.hd | apply Del.tl | apply Del.app)) (by repeat (first | exact List.Mem.head _ | apply List.Mem.tail | apply List.mem_append_right)) ?_)) ?_
  refine XO.val rfl rfl (OV.mv (v := .tuple _) rfl) ?_
  refine XO.val rfl rfl (OV.ext rfl rfl) ?_
  refine XO.val rfl rfl (OV.ext rfl rfl) ?_
  refine XO.val rfl rfl (OV.asg (v := .int _ _) rfl) ?_
  refine XO.val rfl rfl (OV.asg (v := .int _ _) rfl) ?_
  refine XO.nil ?_
  refine XK.seq ?_
  refine XK.block ?_
  refine XK.seq ?_
  refine XK.region ?_
  refine XO.val rfl rfl (OV.mv (v := .int _ _) rfl) ?_
  refine XO.val rfl rfl (OV.neq rfl rfl) ?_
  refine XO.val rfl rfl (OV.asg (v := .bool _) rfl) ?_
  refine XO.nil ?_
  refine XK.say (u := .bool false) (v := .bool false) 14 rfl rfl ?_
  refine XK.cond_f rfl ?_
  refine XK.seq ?_
  refine XK.region ?_
  refine XO.val rfl rfl (OV.mv (v := .int _ _) rfl) ?_
  refine XO.val rfl rfl (OV.eql rfl rfl) ?_
  refine XO.val rfl rfl (OV.asg (v := .bool _) rfl) ?_
  refine XO.nil ?_
  refine XK.say (v := .bool false) 18 rfl (congrArg Value.bool (by simp; omega)) ?_
  refine XK.cond_f rfl ?_
  refine XK.skip ?_
  refine XK.inblk ?_
  refine XK.seq ?_
  refine XK.region ?_
  refine XO.val rfl rfl (OV.ld rfl Try.isAgg27 (by repeat (first | exact List.Mem.head _ | apply List.Mem.tail | apply List.mem_append_right)) rfl) ?_
  refine XO.val rfl rfl (OV.mkF .nil (.cons (v := .pointer _) rfl (.cons (v := .pointer _) rfl .nil))) ?_
  refine XO.callM (cap := []) rfl rfl (.cons (v := .pointer _) rfl (.cons (v := .func _ _ _) rfl .nil)) Try.call101 (doesUp_ok r2 r3 r s D hD i h0 h1) (by repeat (first | exact Sel.nil | refine Sel.cons (by repeat (first | exact Del.hd | apply Del.tl | apply Del.app)) (by repeat (first | exact List.Mem.head _ | apply List.Mem.tail | apply List.mem_append_right)) ?_)) (by ((repeat (first | exact wrs_nil | (refine wrs_cons (by (first | exact .inr ‹_› | (left; ((repeat (first | exact List.Mem.head _ | apply List.Mem.tail)))))) ?_))))) (by repeat (first | exact Rem.nil | (apply Rem.cons; (repeat (first | exact Del.hd | apply Del.tl | apply Del.app))))) (by repeat (first | exact App.nil | apply App.cons)) ?_
  refine XO.nil ?_
  refine XK.seq ?_
  refine XK.region ?_
  refine XO.val rfl rfl (OV.mv (v := .int _ _) rfl) ?_
  refine XO.val rfl rfl (OV.add rfl rfl (wrap_in (by omega))) ?_
  refine XO.val rfl rfl (OV.asg (v := .int _ _) rfl) ?_
  refine XO.val rfl rfl (OV.asg (v := .int _ _) rfl) ?_
  refine XO.nil ?_
  refine XK.retTo (Fin.ret (.cons (.tmp (v := .int _ _) rfl) (.cons (.tmp (v := .int _ _) rfl) .nil)) (.cons (x := (r, _)) (by repeat (first | exact Del.hd | apply Del.tl | apply Del.app)) (by repeat (first | exact List.Mem.head _ | apply List.Mem.tail | apply List.mem_append_right)) .nil) (by simp) ?_)
  exact ⟨rfl, rfl⟩

theorem devNew_ok (k : Nat) (n : Int) (hk0 : 1 ≤ k) (hk1 : k ≤ 4096) (h0 : 1 ≤ n) (h1 : n ≤ 8) :
    Ct Try.prog 47 [.int .i64 (k : Int), .int .i64 n] [] [] (fun v L => ∃ r s, v = .tuple (List.toArray [.pointer (some ⟨r, 0, none⟩), .int .i64 0]) ∧ L = [(r, cel (devL s (devAt k n 0)) 86), (s, cel (secL (devAt k n 0)) 157)]) := by
  refine Ct.of (N := 25) (rs := [.tmp 4, .tmp 5]) Try.func47 rfl rfl rfl (Nat.le_of_ble_eq_true rfl) (fun B => ?_)
  refine XK.seq ?_
  refine XK.region ?_
  refine XO.val rfl rfl (OV.asg (v := .pointer _) rfl) ?_
  refine XO.val rfl rfl (OV.asg (v := .int _ _) rfl) ?_
  refine XO.nil ?_
  refine XK.seq ?_
  refine XK.seq ?_
  refine XK.region ?_
  refine XO.val rfl rfl (OV.mv (v := .int _ _) rfl) ?_
  refine XO.val rfl rfl (OV.lss rfl rfl) ?_
  refine XO.val rfl rfl (OV.mv (v := .bool _) rfl) ?_
  refine XO.say (v := .bool false) 8 rfl (congrArg Value.bool (by simp; omega)) ?_
  refine XO.guard_t rfl rfl ?_
  refine XO.val rfl rfl (OV.mv (v := .int _ _) rfl) ?_
  refine XO.guard_t rfl rfl ?_
  refine XO.val rfl rfl (OV.gtr rfl rfl) ?_
  refine XO.val rfl rfl (OV.pick_f (v := .bool _) rfl rfl) ?_
  refine XO.val rfl rfl (OV.mv (v := .bool _) rfl) ?_
  refine XO.say (v := .bool false) 12 rfl (congrArg Value.bool (by simp; omega)) ?_
  refine XO.guard_t rfl rfl ?_
  refine XO.val rfl rfl (OV.mv (v := .int _ _) rfl) ?_
  refine XO.guard_t rfl rfl ?_
  refine XO.val rfl rfl (OV.lss rfl rfl) ?_
  refine XO.val rfl rfl (OV.pick_f (v := .bool _) rfl rfl) ?_
  refine XO.val rfl rfl (OV.mv (v := .bool _) rfl) ?_
  refine XO.say (v := .bool false) 16 rfl (congrArg Value.bool (by simp; omega)) ?_
  refine XO.guard_t rfl rfl ?_
  refine XO.val rfl rfl (OV.mv (v := .int _ _) rfl) ?_
  refine XO.guard_t rfl rfl ?_
  refine XO.val rfl rfl (OV.gtr rfl rfl) ?_
  refine XO.val rfl rfl (OV.pick_f (v := .bool _) rfl rfl) ?_
  refine XO.nil ?_
  refine XK.say (v := .bool false) 19 rfl (congrArg Value.bool (by simp; omega)) ?_
  refine XK.cond_f rfl ?_
  refine XK.skip ?_
  refine XK.seq ?_
  refine XK.region ?_
  refine XO.val rfl rfl (OV.mv (v := .int _ _) rfl) ?_
  refine XO.mks (n := k) (bytes := 64) rfl rfl rfl Try.runUnderlying83 Try.sizeOf157 Try.typeInfo157 rfl Dv3_zv_157 rfl (by (first | assumption | (simp only [List.length_append, bys_length, b4_len, zrs_len, headB_len, putHead_len, List.length_replicate, List.length_cons, List.length_nil, List.length_set, List.length_take, List.length_drop, recL_len]; done) | (simp only [List.length_append, bys_length, b4_len, zrs_len, headB_len, putHead_len, List.length_replicate, List.length_cons, List.length_nil, List.length_set, List.length_take, List.length_drop, recL_len]; omega) | rfl | (simp [*, bys_length]; done) | (simp [*, bys_length]; omega))) (by omega) (fun r21 hr21 => ?_)
  refine XO.val rfl rfl (OV.mv (v := .int _ _) rfl) ?_
  refine XO.val rfl rfl (OV.bld (qs := [(0, .slice _ _ _), (2, .int .i64 _)]) (.cons (v := .slice _ _ _) rfl (.cons (v := .int _ _) rfl .nil)) rfl (Dv3_bld_86_0_2 _ _ _ _)) ?_
  refine XO.box (v := .agg _) rfl rfl rfl (fun r24 hr24 => ?_)
  refine XO.val rfl rfl (OV.asg (v := .pointer _) rfl) ?_
  refine XO.val rfl rfl (OV.asg (v := .int _ _) rfl) ?_
  refine XO.nil ?_
  refine XK.retTo (Fin.ret (.cons (.tmp (v := .pointer _) rfl) (.cons (.tmp (v := .int _ _) rfl) .nil)) (.cons (x := (r24, _)) (by repeat (first | exact Del.hd | apply Del.tl | apply Del.app)) (by repeat (first | exact List.Mem.head _ | apply List.Mem.tail | apply List.mem_append_right)) (.cons (x := (r21, _)) (by repeat (first | exact Del.hd | apply Del.tl | apply Del.app)) (by repeat (first | exact List.Mem.head _ | apply List.Mem.tail | apply List.mem_append_right)) .nil)) (by intro x hx; simp only [List.mem_cons, List.not_mem_nil, or_false] at hx; rcases hx with rfl | rfl <;> exact .inr ‹_›) ?_)
  refine ⟨r24, r21, rfl, ?_⟩
  rw [secs_zero]
  simp only [devL, devAt, secL, List.length_replicate]
  rfl

theorem lawNew_ok (j : Job) (h : j.may = true) :
    Ct Try.prog 15 [jobV j] [] [] (fun v L => ∃ r s, v = .pointer (some ⟨r, 0, none⟩) ∧ L = [(r, cel (devL s (jobDev j)) 86), (s, cel (secL (jobDev j)) 157)]) := by
  have hj := of_decide_eq_true h
  have hm := job_mul hj
  have hs : j.secs = 9 + j.nodes * (1 + 2 * j.log) + 2 * j.pages := rfl
  obtain ⟨k, hk⟩ : ∃ k : Nat, j.secs = (k : Int) := ⟨j.secs.toNat, by omega⟩
  have hw := fun i => devAt_wf (k := k) (n := j.nodes) i (by omega) (by omega) (by omega)
  refine Ct.of (N := 26) (rs := [.tmp 2]) Try.func15 rfl rfl rfl (Nat.le_of_ble_eq_true rfl) (fun B => ?_)
  refine XK.seq ?_
  refine XK.region ?_
  refine XO.box (v := .agg _) rfl rfl rfl (fun r1 hr1 => ?_)
  refine XO.val rfl rfl (OV.asg (v := .pointer _) rfl) ?_
  refine XO.nil ?_
  refine XK.seq ?_
  refine XK.draw [0, 1, 2, 3, 5, 6, 7, 8, 9] [] [] [0, 1, 2, 3, 4, 5, 6, 7, 8, 9] Dv3_mixed (by kernel_rfl) alc_none ?_
  refine TR.v rfl rfl .n rfl rfl rfl (OV.ldA rfl Try.isAgg23 Try.sizeOf23 (by repeat (first | exact List.Mem.head _ | apply List.Mem.tail | apply List.mem_append_right)) (grab_all (by (first | assumption | (simp only [List.length_append, bys_length, b4_len, zrs_len, headB_len, putHead_len, List.length_replicate, List.length_cons, List.length_nil, List.length_set, List.length_take, List.length_drop, recL_len]; done) | (simp only [List.length_append, bys_length, b4_len, zrs_len, headB_len, putHead_len, List.length_replicate, List.length_cons, List.length_nil, List.length_set, List.length_take, List.length_drop, recL_len]; omega) | rfl | (simp [*, bys_length]; done) | (simp [*, bys_length]; omega)))) (by (first | assumption | (simp only [List.length_append, bys_length, b4_len, zrs_len, headB_len, putHead_len, List.length_replicate, List.length_cons, List.length_nil, List.length_set, List.length_take, List.length_drop, recL_len]; done) | (simp only [List.length_append, bys_length, b4_len, zrs_len, headB_len, putHead_len, List.length_replicate, List.length_cons, List.length_nil, List.length_set, List.length_take, List.length_drop, recL_len]; omega) | rfl | (simp [*, bys_length]; done) | (simp [*, bys_length]; omega)))) ?_
  refine TR.cv (cap := []) rfl rfl .n rfl rfl rfl (.cons (v := .agg _) rfl .nil) Try.call26 ((hk ▸ refSectors_ok j h)) (by repeat (first | exact Sel.nil | refine Sel.cons (by repeat (first | exact Del.hd | apply Del.tl | apply Del.app)) (by repeat (first | exact List.Mem.head _ | apply List.Mem.tail | apply List.mem_append_right)) ?_)) ?_
  refine TR.v rfl rfl .n rfl rfl rfl (OV.fa rfl Dv3_fa_23_0) ?_
  refine TR.v rfl rfl .n rfl rfl rfl (OV.ld rfl Try.isAgg3 (by repeat (first | exact List.Mem.head _ | apply List.Mem.tail | apply List.mem_append_right)) rfl) ?_
  refine TR.go rfl rfl rfl rfl ?_
  refine XO.callG (cap := []) rfl rfl (.cons (v := .int _ _) rfl (.cons (v := .int _ _) rfl .nil)) Try.call47 (devNew_ok k j.nodes (by omega) (by omega) (by omega) (by omega)) .nil (by ((repeat (first | exact wrs_nil | (refine wrs_cons (by (first | exact .inr ‹_› | (left; ((repeat (first | exact List.Mem.head _ | apply List.Mem.tail)))))) ?_))))) .nil ?_
  rintro _ _ ⟨r, s, rfl, rfl⟩ hnew
  have hr : B.heap.size ≤ r := (hnew _ (.head _)).resolve_left (by simp)
  have hs : B.heap.size ≤ s := (hnew _ (.tail _ (.head _))).resolve_left (by simp)
  refine TR.back ?_
  refine TR.v rfl rfl .n rfl rfl rfl (OV.mv (v := .tuple _) rfl) ?_
  refine TR.v rfl rfl .n rfl rfl rfl (OV.ext rfl rfl) ?_
  refine TR.v rfl rfl .n rfl rfl rfl (OV.ext rfl rfl) ?_
  refine TR.v rfl rfl .n rfl rfl rfl (OV.asg (v := .pointer _) rfl) ?_
  refine TR.v rfl rfl .n rfl rfl rfl (OV.asg (v := .int _ _) rfl) ?_
  refine TR.nil ?_
  refine XK.seq ?_
  refine XK.seq ?_
  refine XK.region ?_
  refine XO.val rfl rfl (OV.mv (v := .int _ _) rfl) ?_
  refine XO.val rfl rfl (OV.neq rfl rfl) ?_
  refine XO.nil ?_
  refine XK.say (u := .bool false) (v := .bool false) 15 rfl rfl ?_
  refine XK.cond_f rfl ?_
  refine XK.skip ?_
  refine XK.seq ?_
  refine XK.seq ?_
  refine XK.region ?_
  refine XO.val rfl rfl (OV.asg (v := .int _ _) rfl) ?_
  refine XO.nil ?_
  refine XK.block ?_
  refine XK.loopL (X := Nat) (lc := [(1, .pointer _), (2, .pointer _), (3, .pointer _)]) (lv := fun (x : Nat) => [(5, .int .i64 (x : Int))]) (Lf := fun (x : Nat) => [(r, cel (devL s (devAt k j.nodes x)) 86), (s, cel (secL (devAt k j.nodes x)) 157), (r1, cel (jobL j) 23)]) (I := fun (x : Nat) => (x : Int) ≤ j.nodes) (μ := fun (x : Nat) => j.nodes.toNat - x) 0 ⟨rfl, rfl, rfl, trivial⟩ ⟨rfl, trivial⟩ (.cons (by repeat (first | exact Del.hd | apply Del.tl | apply Del.app)) (by repeat (first | exact List.Mem.head _ | apply List.Mem.tail | apply List.mem_append_right)) (.cons (by repeat (first | exact Del.hd | apply Del.tl | apply Del.app)) (by repeat (first | exact List.Mem.head _ | apply List.Mem.tail | apply List.mem_append_right)) (.cons (by repeat (first | exact Del.hd | apply Del.tl | apply Del.app)) (by repeat (first | exact List.Mem.head _ | apply List.Mem.tail | apply List.mem_append_right)) .nil))) (by omega) ?_
  intro x σ hI
  refine XK.seq ?_
  refine XK.seq ?_
  refine XK.region ?_
  refine XO.val rfl rfl (OV.mv (v := .int _ _) rfl) ?_
  refine XO.val rfl rfl (OV.fa rfl Dv3_fa_23_0) ?_
  refine XO.val rfl rfl (OV.ld rfl Try.isAgg3 (by repeat (first | exact List.Mem.head _ | apply List.Mem.tail | apply List.mem_append_right)) rfl) ?_
  refine XO.val rfl rfl (OV.lss rfl rfl) ?_
  refine XO.nil ?_
  refine XK.split (t := 19) rfl (fun hh1 => ?_) (fun hh1 => ?_)
  · replace hh1 := of_decide_eq_true hh1
    refine XK.cond_t rfl ?_
    refine XK.skip ?_
    refine XK.seq ?_
    refine XK.block ?_
    refine XK.region ?_
    refine XO.val rfl rfl (OV.mv (v := .pointer _) rfl) ?_
    refine XO.val rfl rfl (OV.mv (v := .int _ _) rfl) ?_
    refine XO.callM (cap := []) rfl rfl (.cons (v := .pointer _) rfl (.cons (v := .int _ _) rfl .nil)) Try.call39 (up_ok r s (devAt k j.nodes x) (hw x) x (by omega) (by assumption) (by simp [devAt])) (by repeat (first | exact Sel.nil | refine Sel.cons (by repeat (first | exact Del.hd | apply Del.tl | apply Del.app)) (by repeat (first | exact List.Mem.head _ | apply List.Mem.tail | apply List.mem_append_right)) ?_)) (by ((repeat (first | exact wrs_nil | (refine wrs_cons (by (first | exact .inr ‹_› | (left; ((repeat (first | exact List.Mem.head _ | apply List.Mem.tail)))))) ?_))))) (by repeat (first | exact Rem.nil | (apply Rem.cons; (repeat (first | exact Del.hd | apply Del.tl | apply Del.app))))) (by repeat (first | exact App.nil | apply App.cons)) ?_
    apply XO.blk (r := r)
    · (repeat (first | exact Put.hd | apply Put.tl | apply Put.app))
    · exact congrArg (devL s) (devAt_up (by omega))
    refine XO.nil ?_
    refine XK.inblk ?_
    refine XK.region ?_
    refine XO.val rfl rfl (OV.mv (v := .int _ _) rfl) ?_
    refine XO.val rfl rfl (OV.add rfl rfl (wrap_in (by omega))) ?_
    refine XO.val rfl rfl (OV.asg (v := .int _ _) rfl) ?_
    refine XO.nil ?_
    refine XK.rnd ⟨x + 1, ⟨⟨rfl, rfl, rfl, trivial⟩, ⟨rfl, trivial⟩, rfl, (.cons (by repeat (first | exact Del.hd | apply Del.tl | apply Del.app)) (by repeat (first | exact List.Mem.head _ | apply List.Mem.tail | apply List.mem_append_right)) (.cons (by repeat (first | exact Del.hd | apply Del.tl | apply Del.app)) (by repeat (first | exact List.Mem.head _ | apply List.Mem.tail | apply List.mem_append_right)) (.cons (by repeat (first | exact Del.hd | apply Del.tl | apply Del.app)) (by repeat (first | exact List.Mem.head _ | apply List.Mem.tail | apply List.mem_append_right)) .nil))), (by omega)⟩, (by omega)⟩
  · replace hh1 := of_decide_eq_false hh1
    refine XK.cond_f rfl ?_
    refine XK.exitTo rfl ?_
    refine XK.seq ?_
    refine XK.region ?_
    refine XO.val rfl rfl (OV.mv (v := .pointer _) rfl) ?_
    refine XO.val rfl rfl (OV.asg (v := .pointer _) rfl) ?_
    refine XO.nil ?_
    refine XK.retTo (Fin.ret (.cons (.tmp (v := .pointer _) rfl) .nil) (.cons (x := (r, _)) (by repeat (first | exact Del.hd | apply Del.tl | apply Del.app)) (by repeat (first | exact List.Mem.head _ | apply List.Mem.tail | apply List.mem_append_right)) (.cons (x := (s, _)) (by repeat (first | exact Del.hd | apply Del.tl | apply Del.app)) (by repeat (first | exact List.Mem.head _ | apply List.Mem.tail | apply List.mem_append_right)) .nil)) (by intro x hx; simp only [List.mem_cons, List.not_mem_nil, or_false] at hx; rcases hx with rfl | rfl <;> exact .inr ‹_›) ?_)
    have e : jobDev j = devAt k j.nodes x := by
      simp only [jobDev, hk]
      congr 1
      omega
    exact ⟨r, s, rfl, by rw [e]⟩

end Go.Proofs.Ythophgadmkjamaa
