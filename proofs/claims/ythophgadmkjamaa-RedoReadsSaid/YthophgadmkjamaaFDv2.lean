/- Contracts of functions, printed by a program of this claim (wip/tools/gen.py). -/
import Derived.Test.YthophgadmkjamaaFDv
import Derived.KernelRfl
set_option maxRecDepth 20000
set_option linter.unusedVariables false
set_option linter.unusedSimpArgs false
namespace Go.Proofs.Ythophgadmkjamaa
open Go Go.Mw Go.Proofs

theorem Dv2_fa_86_3 : FA Try.prog 86 3 10 := FA.of (n := 0) Try.runUnderlying86 rfl rfl Try.sizeOf4
theorem Dv2_fa_86_4 : FA Try.prog 86 4 11 := FA.of (n := 0) Try.runUnderlying86 rfl rfl Try.sizeOf3
theorem Dv2_fa_86_5 : FA Try.prog 86 5 12 := FA.of (n := 0) Try.runUnderlying86 rfl rfl Try.sizeOf4
theorem Dv2_fa_86_6 : FA Try.prog 86 6 13 := FA.of (n := 0) Try.runUnderlying86 rfl rfl Try.sizeOf2

theorem doesUp_ok (p q r s : Nat) (D : Dev) (hD : D.wf) (i : Int) (h0 : 0 ≤ i) (h1 : i < D.nodes) :
    CtM Try.prog 101 [.pointer (some ⟨r, 0, none⟩), .func (.func 102) #[] (List.toArray [.pointer (some ⟨p, 0, none⟩), .pointer (some ⟨q, 0, none⟩)])] [(r, cel (devL s D) 86), (p, cel [.pointer (some ⟨r, 0, none⟩)] 27), (q, cel [.int .i64 i] 3)] [r] (.bool (D.dos (·.up1 i.toNat)).2) [(r, cel (devL s (D.dos (·.up1 i.toNat)).1) 86)] := by
  have h0l := hD.left0
  have h1l := hD.left1
  refine Ct.of (N := 39) (rs := [.tmp 4]) Try.func101 rfl rfl rfl (Nat.le_of_ble_eq_true rfl) (fun B => ?_)
  refine XK.seq ?_
  refine XK.region ?_
  refine XO.val rfl rfl (OV.asg (v := .bool _) rfl) ?_
  refine XO.nil ?_
  refine XK.seq ?_
  refine XK.seq ?_
  refine XK.region ?_
  refine XO.val rfl rfl (OV.mv (v := .pointer _) rfl) ?_
  refine XO.val rfl rfl (OV.nilc rfl) ?_
  refine XO.val rfl rfl (OV.fa rfl Dv2_fa_86_3) ?_
  refine XO.val rfl rfl (OV.ld rfl Try.isAgg4 (by repeat (first | exact List.Mem.head _ | apply List.Mem.tail | apply List.mem_append_right)) rfl) ?_
  refine XO.val rfl rfl (OV.mv (v := .bool _) rfl) ?_
  refine XO.split (t := 9) rfl (fun hh1 => ?_) (fun hh1 => ?_)
  · try replace hh1 := of_decide_eq_true hh1
    have hc := hh1
    refine XO.guard_t rfl rfl ?_
    refine XO.val rfl rfl (OV.mv (v := .pointer _) rfl) ?_
    refine XO.guard_t rfl rfl ?_
    refine XO.val rfl rfl (OV.nilc rfl) ?_
    refine XO.guard_t rfl rfl ?_
    refine XO.val rfl rfl (OV.fa rfl Dv2_fa_86_4) ?_
    refine XO.guard_t rfl rfl ?_
    refine XO.val rfl rfl (OV.ld rfl Try.isAgg3 (by repeat (first | exact List.Mem.head _ | apply List.Mem.tail | apply List.mem_append_right)) rfl) ?_
    refine XO.guard_t rfl rfl ?_
    refine XO.val rfl rfl (OV.eql rfl rfl) ?_
    refine XO.val rfl rfl (OV.pick_t (v := .bool _) rfl rfl) ?_
    refine XO.nil ?_
    refine XK.split (t := 15) rfl (fun hh2 => ?_) (fun hh2 => ?_)
    · replace hh2 := of_decide_eq_true hh2
      refine XK.cond_t rfl ?_
      refine XK.seq ?_
      refine XK.region ?_
      refine XO.val rfl rfl (OV.mv (v := .pointer _) rfl) ?_
      refine XO.val rfl rfl (OV.nilc rfl) ?_
      refine XO.val rfl rfl (OV.fa rfl Dv2_fa_86_5) ?_
      refine XO.st rfl (v := .bool _) rfl rfl Try.sizeOf4 (by repeat (first | exact Put.hd | apply Put.tl | apply Put.app)) (by (first | (simp only [List.length_append, bys_length, b4_len, zrs_len, headB_len, putHead_len, List.length_replicate, List.length_cons, List.length_nil, List.length_set, List.length_take, List.length_drop, recL_len]; omega) | omega | exact Nat.le_of_ble_eq_true rfl | (simp; done) | (simp; omega))) (by (first | exact .inr ‹_› | (left; ((repeat (first | exact List.Mem.head _ | apply List.Mem.tail)))))) ?_
      refine XO.nil ?_
      refine XK.seq ?_
      refine XK.region ?_
      refine XO.val rfl rfl (OV.asg (v := .bool _) rfl) ?_
      refine XO.nil ?_
      refine XK.retTo (Fin.ret (.cons (.tmp (v := .bool _) rfl) .nil) (.cons (x := (r, _)) (by repeat (first | exact Del.hd | apply Del.tl | apply Del.app)) (by repeat (first | exact List.Mem.head _ | apply List.Mem.tail | apply List.mem_append_right)) .nil) (by simp) ?_)
      first | (rw [dos_no hc ‹_›]; exact ⟨rfl, rfl⟩) | (rw [dos_yes (fun h => absurd (hc.symm.trans h.1) (by decide))]; exact ⟨rfl, by simp only [devL_wr1]⟩) | (rw [dos_yes (fun h => absurd h.2 ‹_›)]; exact ⟨rfl, by simp only [devL_wr1]⟩)
    · replace hh2 := of_decide_eq_false hh2
      have hw := hD.tick (fun h => hh2 h.2)
      refine XK.cond_f rfl ?_
      refine XK.skip ?_
      refine XK.seq ?_
      refine XK.seq ?_
      refine XK.region ?_
      refine XO.val rfl rfl (OV.mv (v := .pointer _) rfl) ?_
      refine XO.val rfl rfl (OV.nilc rfl) ?_
      refine XO.val rfl rfl (OV.fa rfl Dv2_fa_86_3) ?_
      refine XO.val rfl rfl (OV.ld rfl Try.isAgg4 (by repeat (first | exact List.Mem.head _ | apply List.Mem.tail | apply List.mem_append_right)) rfl) ?_
      refine XO.nil ?_
      refine XK.say (v := .bool true) 22 rfl (congrArg Value.bool (hc)) ?_
      refine XK.cond_t rfl ?_
      refine XK.region ?_
      refine XO.val rfl rfl (OV.mv (v := .pointer _) rfl) ?_
      refine XO.val rfl rfl (OV.nilc rfl) ?_
      refine XO.val rfl rfl (OV.fa rfl Dv2_fa_86_4) ?_
      refine XO.val rfl rfl (OV.ld rfl Try.isAgg3 (by repeat (first | exact List.Mem.head _ | apply List.Mem.tail | apply List.mem_append_right)) rfl) ?_
      refine XO.val rfl rfl (OV.sub rfl rfl (wrap_in (by omega))) ?_
      refine XO.val rfl rfl (OV.nilc rfl) ?_
      refine XO.val rfl rfl (OV.fa rfl Dv2_fa_86_4) ?_
      refine XO.st rfl (v := .int _ _) rfl rfl Try.sizeOf3 (by repeat (first | exact Put.hd | apply Put.tl | apply Put.app)) (by (first | (simp only [List.length_append, bys_length, b4_len, zrs_len, headB_len, putHead_len, List.length_replicate, List.length_cons, List.length_nil, List.length_set, List.length_take, List.length_drop, recL_len]; omega) | omega | exact Nat.le_of_ble_eq_true rfl | (simp; done) | (simp; omega))) (by (first | exact .inr ‹_› | (left; ((repeat (first | exact List.Mem.head _ | apply List.Mem.tail)))))) ?_
      refine XO.nil ?_
      refine XK.seq ?_
      refine XK.region ?_
      refine XO.val rfl rfl (OV.mv (v := .pointer _) rfl) ?_
      refine XO.val rfl rfl (OV.nilc rfl) ?_
      refine XO.val rfl rfl (OV.fa rfl Dv2_fa_86_6) ?_
      refine XO.val rfl rfl (OV.ld rfl Try.isAgg2 (by repeat (first | exact List.Mem.head _ | apply List.Mem.tail | apply List.mem_append_right)) rfl) ?_
      refine XO.val rfl rfl (OV.add rfl rfl rfl) ?_
      refine XO.val rfl rfl (OV.nilc rfl) ?_
      refine XO.val rfl rfl (OV.fa rfl Dv2_fa_86_6) ?_
      refine XO.st rfl (v := .int _ _) rfl rfl Try.sizeOf2 (by repeat (first | exact Put.hd | apply Put.tl | apply Put.app)) (by (first | (simp only [List.length_append, bys_length, b4_len, zrs_len, headB_len, putHead_len, List.length_replicate, List.length_cons, List.length_nil, List.length_set, List.length_take, List.length_drop, recL_len]; omega) | omega | exact Nat.le_of_ble_eq_true rfl | (simp; done) | (simp; omega))) (by (first | exact .inr ‹_› | (left; ((repeat (first | exact List.Mem.head _ | apply List.Mem.tail)))))) ?_
      apply XO.blk (r := r)
      · (repeat (first | exact Put.hd | apply Put.tl | apply Put.app))
      · exact (by first | exact tick_t hc | exact tick_f hc)
      refine XO.nil ?_
      refine XK.seq ?_
      refine XK.region ?_
      refine XO.val rfl rfl (OV.mv (v := .func _ _ _) rfl) ?_
      refine XO.callM rfl rfl .nil Try.call102 (up1_ok p q r s D.tick hw i h0 h1) (by repeat (first | exact Sel.nil | refine Sel.cons (by repeat (first | exact Del.hd | apply Del.tl | apply Del.app)) (by repeat (first | exact List.Mem.head _ | apply List.Mem.tail | apply List.mem_append_right)) ?_)) (by ((repeat (first | exact wrs_nil | (refine wrs_cons (by (first | exact .inr ‹_› | (left; ((repeat (first | exact List.Mem.head _ | apply List.Mem.tail)))))) ?_))))) (by repeat (first | exact Rem.nil | (apply Rem.cons; (repeat (first | exact Del.hd | apply Del.tl | apply Del.app))))) (by repeat (first | exact App.nil | apply App.cons)) ?_
      refine XO.nil ?_
      refine XK.seq ?_
      refine XK.region ?_
      refine XO.val rfl rfl (OV.asg (v := .bool _) rfl) ?_
      refine XO.nil ?_
      refine XK.retTo (Fin.ret (.cons (.tmp (v := .bool _) rfl) .nil) (.cons (x := (r, _)) (by repeat (first | exact Del.hd | apply Del.tl | apply Del.app)) (by repeat (first | exact List.Mem.head _ | apply List.Mem.tail | apply List.mem_append_right)) .nil) (by simp) ?_)
      first | (rw [dos_no hc ‹_›]; exact ⟨rfl, rfl⟩) | (rw [dos_yes (fun h => absurd (hc.symm.trans h.1) (by decide))]; exact ⟨rfl, by simp only [devL_wr1]⟩) | (rw [dos_yes (fun h => absurd h.2 ‹_›)]; exact ⟨rfl, by simp only [devL_wr1]⟩)
  · try replace hh1 := of_decide_eq_false hh1
    have hc := hh1
    have hw := hD.tick (fun h => absurd (hc.symm.trans h.1) (by decide))
    iterate 5 refine XO.guard_f rfl rfl rfl rfl ?_
    refine XO.val rfl rfl (OV.pick_f (v := .bool _) rfl rfl) ?_
    refine XO.nil ?_
    refine XK.cond_f rfl ?_
    refine XK.skip ?_
    refine XK.seq ?_
    refine XK.seq ?_
    refine XK.region ?_
    refine XO.val rfl rfl (OV.mv (v := .pointer _) rfl) ?_
    refine XO.val rfl rfl (OV.nilc rfl) ?_
    refine XO.val rfl rfl (OV.fa rfl Dv2_fa_86_3) ?_
    refine XO.val rfl rfl (OV.ld rfl Try.isAgg4 (by repeat (first | exact List.Mem.head _ | apply List.Mem.tail | apply List.mem_append_right)) rfl) ?_
    refine XO.nil ?_
    refine XK.say (v := .bool false) 22 rfl (congrArg Value.bool (hc)) ?_
    refine XK.cond_f rfl ?_
    refine XK.skip ?_
    refine XK.seq ?_
    refine XK.region ?_
    refine XO.val rfl rfl (OV.mv (v := .pointer _) rfl) ?_
    refine XO.val rfl rfl (OV.nilc rfl) ?_
    refine XO.val rfl rfl (OV.fa rfl Dv2_fa_86_6) ?_
    refine XO.val rfl rfl (OV.ld rfl Try.isAgg2 (by repeat (first | exact List.Mem.head _ | apply List.Mem.tail | apply List.mem_append_right)) rfl) ?_
    refine XO.val rfl rfl (OV.add rfl rfl rfl) ?_
    refine XO.val rfl rfl (OV.nilc rfl) ?_
    refine XO.val rfl rfl (OV.fa rfl Dv2_fa_86_6) ?_
    refine XO.st rfl (v := .int _ _) rfl rfl Try.sizeOf2 (by repeat (first | exact Put.hd | apply Put.tl | apply Put.app)) (by (first | (simp only [List.length_append, bys_length, b4_len, zrs_len, headB_len, putHead_len, List.length_replicate, List.length_cons, List.length_nil, List.length_set, List.length_take, List.length_drop, recL_len]; omega) | omega | exact Nat.le_of_ble_eq_true rfl | (simp; done) | (simp; omega))) (by (first | exact .inr ‹_› | (left; ((repeat (first | exact List.Mem.head _ | apply List.Mem.tail)))))) ?_
    apply XO.blk (r := r)
    · (repeat (first | exact Put.hd | apply Put.tl | apply Put.app))
    · exact (by first | exact tick_t hc | exact tick_f hc)
    refine XO.nil ?_
    refine XK.seq ?_
    refine XK.region ?_
    refine XO.val rfl rfl (OV.mv (v := .func _ _ _) rfl) ?_
    refine XO.callM rfl rfl .nil Try.call102 (up1_ok p q r s D.tick hw i h0 h1) (by repeat (first | exact Sel.nil | refine Sel.cons (by repeat (first | exact Del.hd | apply Del.tl | apply Del.app)) (by repeat (first | exact List.Mem.head _ | apply List.Mem.tail | apply List.mem_append_right)) ?_)) (by ((repeat (first | exact wrs_nil | (refine wrs_cons (by (first | exact .inr ‹_› | (left; ((repeat (first | exact List.Mem.head _ | apply List.Mem.tail)))))) ?_))))) (by repeat (first | exact Rem.nil | (apply Rem.cons; (repeat (first | exact Del.hd | apply Del.tl | apply Del.app))))) (by repeat (first | exact App.nil | apply App.cons)) ?_
    refine XO.nil ?_
    refine XK.seq ?_
    refine XK.region ?_
    refine XO.val rfl rfl (OV.asg (v := .bool _) rfl) ?_
    refine XO.nil ?_
    refine XK.retTo (Fin.ret (.cons (.tmp (v := .bool _) rfl) .nil) (.cons (x := (r, _)) (by repeat (first | exact Del.hd | apply Del.tl | apply Del.app)) (by repeat (first | exact List.Mem.head _ | apply List.Mem.tail | apply List.mem_append_right)) .nil) (by simp) ?_)
    first | (rw [dos_no hc ‹_›]; exact ⟨rfl, rfl⟩) | (rw [dos_yes (fun h => absurd (hc.symm.trans h.1) (by decide))]; exact ⟨rfl, by simp only [devL_wr1]⟩) | (rw [dos_yes (fun h => absurd h.2 ‹_›)]; exact ⟨rfl, by simp only [devL_wr1]⟩)

theorem doesWrite_ok (a p q t r s : Nat) (D : Dev) (hD : D.wf) (x : List Int) (hx : x.length = 64) (f i : Int) (h0 : 0 ≤ f) (h1 : 0 ≤ i) (h2 : f + i < D.S.length) :
    CtM Try.prog 101 [.pointer (some ⟨r, 0, none⟩), .func (.func 174) #[] (List.toArray [.pointer (some ⟨a, 0, none⟩), .pointer (some ⟨p, 0, none⟩), .pointer (some ⟨q, 0, none⟩), .pointer (some ⟨t, 0, none⟩)])] [(s, cel (secL D) 157), (r, cel (devL s D) 86), (a, cel (bys x) 157), (p, cel [.pointer (some ⟨r, 0, none⟩)] 27), (q, cel [.int .i64 f] 3), (t, cel [.int .i64 i] 3)] [r, s] (.bool (D.dos (·.wr1 (f + i).toNat x)).2) [(r, cel (devL s (D.dos (·.wr1 (f + i).toNat x)).1) 86), (s, cel (secL (D.dos (·.wr1 (f + i).toNat x)).1) 157)] := by
  have h0l := hD.left0
  have h1l := hD.left1
  refine Ct.of (N := 39) (rs := [.tmp 4]) Try.func101 rfl rfl rfl (Nat.le_of_ble_eq_true rfl) (fun B => ?_)
  refine XK.seq ?_
  refine XK.region ?_
  refine XO.val rfl rfl (OV.asg (v := .bool _) rfl) ?_
  refine XO.nil ?_
  refine XK.seq ?_
  refine XK.seq ?_
  refine XK.region ?_
  refine XO.val rfl rfl (OV.mv (v := .pointer _) rfl) ?_
  refine XO.val rfl rfl (OV.nilc rfl) ?_
  refine XO.val rfl rfl (OV.fa rfl Dv2_fa_86_3) ?_
  refine XO.val rfl rfl (OV.ld rfl Try.isAgg4 (by repeat (first | exact List.Mem.head _ | apply List.Mem.tail | apply List.mem_append_right)) rfl) ?_
  refine XO.val rfl rfl (OV.mv (v := .bool _) rfl) ?_
  refine XO.split (t := 9) rfl (fun hh1 => ?_) (fun hh1 => ?_)
  · try replace hh1 := of_decide_eq_true hh1
    have hc := hh1
    refine XO.guard_t rfl rfl ?_
    refine XO.val rfl rfl (OV.mv (v := .pointer _) rfl) ?_
    refine XO.guard_t rfl rfl ?_
    refine XO.val rfl rfl (OV.nilc rfl) ?_
    refine XO.guard_t rfl rfl ?_
    refine XO.val rfl rfl (OV.fa rfl Dv2_fa_86_4) ?_
    refine XO.guard_t rfl rfl ?_
    refine XO.val rfl rfl (OV.ld rfl Try.isAgg3 (by repeat (first | exact List.Mem.head _ | apply List.Mem.tail | apply List.mem_append_right)) rfl) ?_
    refine XO.guard_t rfl rfl ?_
    refine XO.val rfl rfl (OV.eql rfl rfl) ?_
    refine XO.val rfl rfl (OV.pick_t (v := .bool _) rfl rfl) ?_
    refine XO.nil ?_
    refine XK.split (t := 15) rfl (fun hh2 => ?_) (fun hh2 => ?_)
    · replace hh2 := of_decide_eq_true hh2
      refine XK.cond_t rfl ?_
      refine XK.seq ?_
      refine XK.region ?_
      refine XO.val rfl rfl (OV.mv (v := .pointer _) rfl) ?_
      refine XO.val rfl rfl (OV.nilc rfl) ?_
      refine XO.val rfl rfl (OV.fa rfl Dv2_fa_86_5) ?_
      refine XO.st rfl (v := .bool _) rfl rfl Try.sizeOf4 (by repeat (first | exact Put.hd | apply Put.tl | apply Put.app)) (by (first | (simp only [List.length_append, bys_length, b4_len, zrs_len, headB_len, putHead_len, List.length_replicate, List.length_cons, List.length_nil, List.length_set, List.length_take, List.length_drop, recL_len]; omega) | omega | exact Nat.le_of_ble_eq_true rfl | (simp; done) | (simp; omega))) (by (first | exact .inr ‹_› | (left; ((repeat (first | exact List.Mem.head _ | apply List.Mem.tail)))))) ?_
      refine XO.nil ?_
      refine XK.seq ?_
      refine XK.region ?_
      refine XO.val rfl rfl (OV.asg (v := .bool _) rfl) ?_
      refine XO.nil ?_
      refine XK.retTo (Fin.ret (.cons (.tmp (v := .bool _) rfl) .nil) (.cons (x := (r, _)) (by repeat (first | exact Del.hd | apply Del.tl | apply Del.app)) (by repeat (first | exact List.Mem.head _ | apply List.Mem.tail | apply List.mem_append_right)) (.cons (x := (s, _)) (by repeat (first | exact Del.hd | apply Del.tl | apply Del.app)) (by repeat (first | exact List.Mem.head _ | apply List.Mem.tail | apply List.mem_append_right)) .nil)) (by simp) ?_)
      first | (rw [dos_no hc ‹_›]; exact ⟨rfl, rfl⟩) | (rw [dos_yes (fun h => absurd (hc.symm.trans h.1) (by decide))]; exact ⟨rfl, by simp only [devL_wr1]⟩) | (rw [dos_yes (fun h => absurd h.2 ‹_›)]; exact ⟨rfl, by simp only [devL_wr1]⟩)
    · replace hh2 := of_decide_eq_false hh2
      have hw := hD.tick (fun h => hh2 h.2)
      refine XK.cond_f rfl ?_
      refine XK.skip ?_
      refine XK.seq ?_
      refine XK.seq ?_
      refine XK.region ?_
      refine XO.val rfl rfl (OV.mv (v := .pointer _) rfl) ?_
      refine XO.val rfl rfl (OV.nilc rfl) ?_
      refine XO.val rfl rfl (OV.fa rfl Dv2_fa_86_3) ?_
      refine XO.val rfl rfl (OV.ld rfl Try.isAgg4 (by repeat (first | exact List.Mem.head _ | apply List.Mem.tail | apply List.mem_append_right)) rfl) ?_
      refine XO.nil ?_
      refine XK.say (v := .bool true) 22 rfl (congrArg Value.bool (hc)) ?_
      refine XK.cond_t rfl ?_
      refine XK.region ?_
      refine XO.val rfl rfl (OV.mv (v := .pointer _) rfl) ?_
      refine XO.val rfl rfl (OV.nilc rfl) ?_
      refine XO.val rfl rfl (OV.fa rfl Dv2_fa_86_4) ?_
      refine XO.val rfl rfl (OV.ld rfl Try.isAgg3 (by repeat (first | exact List.Mem.head _ | apply List.Mem.tail | apply List.mem_append_right)) rfl) ?_
      refine XO.val rfl rfl (OV.sub rfl rfl (wrap_in (by omega))) ?_
      refine XO.val rfl rfl (OV.nilc rfl) ?_
      refine XO.val rfl rfl (OV.fa rfl Dv2_fa_86_4) ?_
      refine XO.st rfl (v := .int _ _) rfl rfl Try.sizeOf3 (by repeat (first | exact Put.hd | apply Put.tl | apply Put.app)) (by (first | (simp only [List.length_append, bys_length, b4_len, zrs_len, headB_len, putHead_len, List.length_replicate, List.length_cons, List.length_nil, List.length_set, List.length_take, List.length_drop, recL_len]; omega) | omega | exact Nat.le_of_ble_eq_true rfl | (simp; done) | (simp; omega))) (by (first | exact .inr ‹_› | (left; ((repeat (first | exact List.Mem.head _ | apply List.Mem.tail)))))) ?_
      refine XO.nil ?_
      refine XK.seq ?_
      refine XK.region ?_
      refine XO.val rfl rfl (OV.mv (v := .pointer _) rfl) ?_
      refine XO.val rfl rfl (OV.nilc rfl) ?_
      refine XO.val rfl rfl (OV.fa rfl Dv2_fa_86_6) ?_
      refine XO.val rfl rfl (OV.ld rfl Try.isAgg2 (by repeat (first | exact List.Mem.head _ | apply List.Mem.tail | apply List.mem_append_right)) rfl) ?_
      refine XO.val rfl rfl (OV.add rfl rfl rfl) ?_
      refine XO.val rfl rfl (OV.nilc rfl) ?_
      refine XO.val rfl rfl (OV.fa rfl Dv2_fa_86_6) ?_
      refine XO.st rfl (v := .int _ _) rfl rfl Try.sizeOf2 (by repeat (first | exact Put.hd | apply Put.tl | apply Put.app)) (by (first | (simp only [List.length_append, bys_length, b4_len, zrs_len, headB_len, putHead_len, List.length_replicate, List.length_cons, List.length_nil, List.length_set, List.length_take, List.length_drop, recL_len]; omega) | omega | exact Nat.le_of_ble_eq_true rfl | (simp; done) | (simp; omega))) (by (first | exact .inr ‹_› | (left; ((repeat (first | exact List.Mem.head _ | apply List.Mem.tail)))))) ?_
      apply XO.blk (r := r)
      · (repeat (first | exact Put.hd | apply Put.tl | apply Put.app))
      · exact (by first | exact tick_t hc | exact tick_f hc)
      refine XO.nil ?_
      refine XK.seq ?_
      refine XK.region ?_
      refine XO.val rfl rfl (OV.mv (v := .func _ _ _) rfl) ?_
      refine XO.callM rfl rfl .nil Try.call174 (write1_ok a p q t r s D.tick hw x hx f i h0 h1 h2) (by repeat (first | exact Sel.nil | refine Sel.cons (by repeat (first | exact Del.hd | apply Del.tl | apply Del.app)) (by repeat (first | exact List.Mem.head _ | apply List.Mem.tail | apply List.mem_append_right)) ?_)) (by ((repeat (first | exact wrs_nil | (refine wrs_cons (by (first | exact .inr ‹_› | (left; ((repeat (first | exact List.Mem.head _ | apply List.Mem.tail)))))) ?_))))) (by repeat (first | exact Rem.nil | (apply Rem.cons; (repeat (first | exact Del.hd | apply Del.tl | apply Del.app))))) (by repeat (first | exact App.nil | apply App.cons)) ?_
      refine XO.nil ?_
      refine XK.seq ?_
      refine XK.region ?_
      refine XO.val rfl rfl (OV.asg (v := .bool _) rfl) ?_
      refine XO.nil ?_
      refine XK.retTo (Fin.ret (.cons (.tmp (v := .bool _) rfl) .nil) (.cons (x := (r, _)) (by repeat (first | exact Del.hd | apply Del.tl | apply Del.app)) (by repeat (first | exact List.Mem.head _ | apply List.Mem.tail | apply List.mem_append_right)) (.cons (x := (s, _)) (by repeat (first | exact Del.hd | apply Del.tl | apply Del.app)) (by repeat (first | exact List.Mem.head _ | apply List.Mem.tail | apply List.mem_append_right)) .nil)) (by simp) ?_)
      first | (rw [dos_no hc ‹_›]; exact ⟨rfl, rfl⟩) | (rw [dos_yes (fun h => absurd (hc.symm.trans h.1) (by decide))]; exact ⟨rfl, by simp only [devL_wr1]⟩) | (rw [dos_yes (fun h => absurd h.2 ‹_›)]; exact ⟨rfl, by simp only [devL_wr1]⟩)
  · try replace hh1 := of_decide_eq_false hh1
    have hc := hh1
    have hw := hD.tick (fun h => absurd (hc.symm.trans h.1) (by decide))
    iterate 5 refine XO.guard_f rfl rfl rfl rfl ?_
    refine XO.val rfl rfl (OV.pick_f (v := .bool _) rfl rfl) ?_
    refine XO.nil ?_
    refine XK.cond_f rfl ?_
    refine XK.skip ?_
    refine XK.seq ?_
    refine XK.seq ?_
    refine XK.region ?_
    refine XO.val rfl rfl (OV.mv (v := .pointer _) rfl) ?_
    refine XO.val rfl rfl (OV.nilc rfl) ?_
    refine XO.val rfl rfl (OV.fa rfl Dv2_fa_86_3) ?_
    refine XO.val rfl rfl (OV.ld rfl Try.isAgg4 (by repeat (first | exact List.Mem.head _ | apply List.Mem.tail | apply List.mem_append_right)) rfl) ?_
    refine XO.nil ?_
    refine XK.say (v := .bool false) 22 rfl (congrArg Value.bool (hc)) ?_
    refine XK.cond_f rfl ?_
    refine XK.skip ?_
    refine XK.seq ?_
    refine XK.region ?_
    refine XO.val rfl rfl (OV.mv (v := .pointer _) rfl) ?_
    refine XO.val rfl rfl (OV.nilc rfl) ?_
    refine XO.val rfl rfl (OV.fa rfl Dv2_fa_86_6) ?_
    refine XO.val rfl rfl (OV.ld rfl Try.isAgg2 (by repeat (first | exact List.Mem.head _ | apply List.Mem.tail | apply List.mem_append_right)) rfl) ?_
    refine XO.val rfl rfl (OV.add rfl rfl rfl) ?_
    refine XO.val rfl rfl (OV.nilc rfl) ?_
    refine XO.val rfl rfl (OV.fa rfl Dv2_fa_86_6) ?_
    refine XO.st rfl (v := .int _ _) rfl rfl Try.sizeOf2 (by repeat (first | exact Put.hd | apply Put.tl | apply Put.app)) (by (first | (simp only [List.length_append, bys_length, b4_len, zrs_len, headB_len, putHead_len, List.length_replicate, List.length_cons, List.length_nil, List.length_set, List.length_take, List.length_drop, recL_len]; omega) | omega | exact Nat.le_of_ble_eq_true rfl | (simp; done) | (simp; omega))) (by (first | exact .inr ‹_› | (left; ((repeat (first | exact List.Mem.head _ | apply List.Mem.tail)))))) ?_
    apply XO.blk (r := r)
    · (repeat (first | exact Put.hd | apply Put.tl | apply Put.app))
    · exact (by first | exact tick_t hc | exact tick_f hc)
    refine XO.nil ?_
    refine XK.seq ?_
    refine XK.region ?_
    refine XO.val rfl rfl (OV.mv (v := .func _ _ _) rfl) ?_
    refine XO.callM rfl rfl .nil Try.call174 (write1_ok a p q t r s D.tick hw x hx f i h0 h1 h2) (by repeat (first | exact Sel.nil | refine Sel.cons (by repeat (first | exact Del.hd | apply Del.tl | apply Del.app)) (by repeat (first | exact List.Mem.head _ | apply List.Mem.tail | apply List.mem_append_right)) ?_)) (by ((repeat (first | exact wrs_nil | (refine wrs_cons (by (first | exact .inr ‹_› | (left; ((repeat (first | exact List.Mem.head _ | apply List.Mem.tail)))))) ?_))))) (by repeat (first | exact Rem.nil | (apply Rem.cons; (repeat (first | exact Del.hd | apply Del.tl | apply Del.app))))) (by repeat (first | exact App.nil | apply App.cons)) ?_
    refine XO.nil ?_
    refine XK.seq ?_
    refine XK.region ?_
    refine XO.val rfl rfl (OV.asg (v := .bool _) rfl) ?_
    refine XO.nil ?_
    refine XK.retTo (Fin.ret (.cons (.tmp (v := .bool _) rfl) .nil) (.cons (x := (r, _)) (by repeat (first | exact Del.hd | apply Del.tl | apply Del.app)) (by repeat (first | exact List.Mem.head _ | apply List.Mem.tail | apply List.mem_append_right)) (.cons (x := (s, _)) (by repeat (first | exact Del.hd | apply Del.tl | apply Del.app)) (by repeat (first | exact List.Mem.head _ | apply List.Mem.tail | apply List.mem_append_right)) .nil)) (by simp) ?_)
    first | (rw [dos_no hc ‹_›]; exact ⟨rfl, rfl⟩) | (rw [dos_yes (fun h => absurd (hc.symm.trans h.1) (by decide))]; exact ⟨rfl, by simp only [devL_wr1]⟩) | (rw [dos_yes (fun h => absurd h.2 ‹_›)]; exact ⟨rfl, by simp only [devL_wr1]⟩)

end Go.Proofs.Ythophgadmkjamaa
