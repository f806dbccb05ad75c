/- Contracts of functions, printed by a program of this claim (wip/tools/gen.py). -/
import Derived.Test.YthophgadmkjamaaFRed4
import Derived.KernelRfl
set_option maxRecDepth 20000
set_option linter.unusedVariables false
set_option linter.unusedSimpArgs false
namespace Go.Proofs.Ythophgadmkjamaa
open Go Go.Mw Go.Proofs

theorem Red5_fa_155_1 : FA Try.prog 155 1 1 := FA.of (n := 4) Try.runUnderlying155 rfl rfl Try.sizeOf23
theorem Red5_fa_23_1 : FA Try.prog 23 1 1 := FA.of (n := 0) Try.runUnderlying23 rfl rfl Try.sizeOf3
theorem Red5_fa_36_0 : FA Try.prog 36 0 0 := FA.of (n := 0) Try.runUnderlying36 rfl rfl Try.sizeOf2
theorem Red5_mixed : Try.prog.follows .mixedOrders = true := by kernel_rfl
theorem Red5_fa_155_6 : FA Try.prog 155 6 10 := FA.of (n := 0) Try.runUnderlying155 rfl rfl Try.sizeOf43
theorem Red5_fa_155_2 : FA Try.prog 155 2 6 := FA.of (n := 0) Try.runUnderlying155 rfl rfl Try.sizeOf3
theorem Red5_fa_155_3 : FA Try.prog 155 3 7 := FA.of (n := 0) Try.runUnderlying155 rfl rfl Try.sizeOf2
theorem Red5_fa_36_1 : FA Try.prog 36 1 1 := FA.of (n := 95) Try.runUnderlying36 rfl rfl Try.sizeOf34
theorem Red5_zv_52 : ∀ w, (zeroValue 52).run Try.prog w = .ok (.agg (List.toArray ([.int .i64 0, .int .i64 0, .int .i64 0, .int .i64 0, .int .i64 0] ++ List.replicate 96 (.int .u8 0)))) w := fun w => by kernel_rfl
theorem Red5_pl_52 : Pl Try.prog 52 [(0, 1), (1, 1), (2, 1), (3, 1), (4, 1), (5, 96)] := ⟨_, Try.runUnderlying52, fun w => by kernel_rfl⟩

set_option maxHeartbeats 4000000 in
theorem lgAppend_nil (g r cap : Nat) (sp : List Value) (G : Lg) (hG : G.wf) (hO : Mw.Own ⟨none, cap, sp⟩ G.l.length (recsL G.l) 101) (p psn : Int) (b : List Int) (hb : b.length = 96) :
    Ct Try.prog 17 [.pointer (some ⟨g, 0, none⟩), .int .i64 p, .agg (List.toArray (verL psn b))] [(g, cel (lgL r ⟨none, cap, sp⟩ G) 155)] [g] (fun v L => ∃ sl, v = .tuple (List.toArray [.int .i64 (G.app p psn b).2.1, .int .i64 (G.app p psn b).2.2]) ∧ L = (g, cel (lgL r sl (G.app p psn b).1) 155) :: slB sl (recsL (G.app p psn b).1.l) 52 ∧ Mw.Own sl (G.app p psn b).1.l.length (recsL (G.app p psn b).1.l) 101) := by
  have hlen := hG.len
  have hbd := recsL_len hG.body
  have hl1 : G.l = [] := List.eq_nil_of_length_eq_zero hO.2.1
  have hcp : cap = 0 := hO.2.2.1
  have hl0 : G.l.length + 1 = 1 := by rw [hl1]; rfl
  refine Ct.of (N := 66) (rs := [.tmp 6, .tmp 7]) Try.func17 rfl rfl rfl (Nat.le_of_ble_eq_true rfl) (fun B => ?_)
  refine XK.seq ?_
  refine XK.region ?_
  refine XO.box (v := .agg _) rfl rfl rfl (fun r5 hr5 => ?_)
  refine XO.val rfl rfl (OV.asg (v := .int _ _) rfl) ?_
  refine XO.val rfl rfl (OV.asg (v := .int _ _) rfl) ?_
  refine XO.nil ?_
  refine XK.seq ?_
  refine XK.block ?_
  refine XK.seq ?_
  refine XK.region ?_
  refine XO.val rfl rfl (OV.mv (v := .pointer _) rfl) ?_
  refine XO.callV (cap := []) rfl rfl (.cons (v := .pointer _) rfl .nil) Try.call76 (lgThere_ok g r ⟨none, cap, sp⟩ G) (by repeat (first | exact Sel.nil | refine Sel.cons (by repeat (first | exact Del.hd | apply Del.tl | apply Del.app)) (by repeat (first | exact List.Mem.head _ | apply List.Mem.tail | apply List.mem_append_right)) ?_)) ?_
  refine XO.val rfl rfl (OV.notB rfl) ?_
  refine XO.val rfl rfl (OV.asg (v := .bool _) rfl) ?_
  refine XO.nil ?_
  refine XK.cond_f rfl ?_
  refine XK.seq ?_
  refine XK.region ?_
  refine XO.val rfl rfl (OV.mv (v := .int _ _) rfl) ?_
  refine XO.val rfl rfl (OV.lss rfl rfl) ?_
  refine XO.val rfl rfl (OV.mv (v := .bool _) rfl) ?_
  refine XO.split (t := 16) rfl (fun hh1 => ?_) (fun hh1 => ?_)
  · replace hh1 := of_decide_eq_true hh1
    iterate 7 refine XO.guard_f rfl rfl rfl rfl ?_
    refine XO.val rfl rfl (OV.pick_t (v := .bool _) rfl rfl) ?_
    refine XO.val rfl rfl (OV.mv (v := .bool _) rfl) ?_
    iterate 3 refine XO.guard_f rfl rfl rfl rfl ?_
    refine XO.val rfl rfl (OV.pick_t (v := .bool _) rfl rfl) ?_
    refine XO.val rfl rfl (OV.mv (v := .bool _) rfl) ?_
    iterate 3 refine XO.guard_f rfl rfl rfl rfl ?_
    refine XO.val rfl rfl (OV.pick_t (v := .bool _) rfl rfl) ?_
    refine XO.val rfl rfl (OV.asg (v := .bool _) rfl) ?_
    refine XO.nil ?_
    refine XK.cond_t rfl ?_
    refine XK.seq ?_
    refine XK.region ?_
    refine XO.val rfl rfl (OV.asg (v := .int _ _) rfl) ?_
    refine XO.val rfl rfl (OV.asg (v := .int _ _) rfl) ?_
    refine XO.nil ?_
    refine XK.retTo (Fin.ret (.cons (.tmp (v := .int _ _) rfl) (.cons (.tmp (v := .int _ _) rfl) .nil)) (by first | exact (.cons (x := (g, _)) (by repeat (first | exact Del.hd | apply Del.tl | apply Del.app)) (by repeat (first | exact List.Mem.head _ | apply List.Mem.tail | apply List.mem_append_right)) (.cons (x := (ra, _)) (by repeat (first | exact Del.hd | apply Del.tl | apply Del.app)) (by repeat (first | exact List.Mem.head _ | apply List.Mem.tail | apply List.mem_append_right)) .nil)) | exact (.cons (x := (g, _)) (by repeat (first | exact Del.hd | apply Del.tl | apply Del.app)) (by repeat (first | exact List.Mem.head _ | apply List.Mem.tail | apply List.mem_append_right)) .nil)) (by intro x hx; simp only [List.mem_cons, List.not_mem_nil, or_false] at hx; first | (subst hx; left; ((repeat (first | exact List.Mem.head _ | apply List.Mem.tail))); done) | (rcases hx with rfl | rfl <;> first | (left; ((repeat (first | exact List.Mem.head _ | apply List.Mem.tail))); done) | exact .inr hra)) ?_)
    first | (have e : G.app p psn b = _ := if_pos (fun h => absurd h (by omega)); rw [e]; exact ⟨⟨none, cap, sp⟩, rfl, rfl, hO⟩) | (have e : G.app p psn b = _ := (if_neg (fun h => h ⟨by omega, by omega, by omega, by omega⟩)).trans (if_pos hroom); rw [e]; exact ⟨⟨none, cap, sp⟩, rfl, rfl, hO⟩) | (have e : G.app p psn b = _ := (if_neg (fun h => h ⟨by omega, by omega, by omega, by omega⟩)).trans (if_neg hroom); rw [e]; refine ⟨⟨some ra, ca, sa⟩, rfl, ?_, (by refine own_next ?_; rw [hl0, show recsL G.l = [] from by rw [hl1]; rfl]; exact hown)⟩; rw [show (lgL r ⟨none, cap, sp⟩ G).set (0 + 10) (.slice (some ⟨ra, 0, none⟩) 1 ca) = lgL r ⟨some ra, ca, sa⟩ ({ G with l := G.l ++ [⟨G.node, G.epoch, G.next, p, psn, b⟩] } : Lg) from lgL_set (by rw [List.length_append, List.length_singleton]; exact hl0)]; rfl)
  · replace hh1 := of_decide_eq_false hh1
    refine XO.guard_t rfl rfl ?_
    refine XO.val rfl rfl (OV.mv (v := .int _ _) rfl) ?_
    refine XO.guard_t rfl rfl ?_
    refine XO.val rfl rfl (OV.mv (v := .pointer _) rfl) ?_
    refine XO.guard_t rfl rfl ?_
    refine XO.val rfl rfl (OV.nilc rfl) ?_
    refine XO.guard_t rfl rfl ?_
    refine XO.val rfl rfl (OV.fa rfl Red5_fa_155_1) ?_
    refine XO.guard_t rfl rfl ?_
    refine XO.val rfl rfl (OV.fa rfl Red5_fa_23_1) ?_
    refine XO.guard_t rfl rfl ?_
    refine XO.val rfl rfl (OV.ld rfl Try.isAgg3 (by repeat (first | exact List.Mem.head _ | apply List.Mem.tail | apply List.mem_append_right)) rfl) ?_
    refine XO.guard_t rfl rfl ?_
    refine XO.val rfl rfl (OV.geq rfl rfl) ?_
    refine XO.val rfl rfl (OV.pick_f (v := .bool _) rfl rfl) ?_
    refine XO.val rfl rfl (OV.mv (v := .bool _) rfl) ?_
    refine XO.split (t := 25) rfl (fun hh2 => ?_) (fun hh2 => ?_)
    · replace hh2 := of_decide_eq_true hh2
      iterate 3 refine XO.guard_f rfl rfl rfl rfl ?_
      refine XO.val rfl rfl (OV.pick_t (v := .bool _) rfl rfl) ?_
      refine XO.val rfl rfl (OV.mv (v := .bool _) rfl) ?_
      iterate 3 refine XO.guard_f rfl rfl rfl rfl ?_
      refine XO.val rfl rfl (OV.pick_t (v := .bool _) rfl rfl) ?_
      refine XO.val rfl rfl (OV.asg (v := .bool _) rfl) ?_
      refine XO.nil ?_
      refine XK.cond_t rfl ?_
      refine XK.seq ?_
      refine XK.region ?_
      refine XO.val rfl rfl (OV.asg (v := .int _ _) rfl) ?_
      refine XO.val rfl rfl (OV.asg (v := .int _ _) rfl) ?_
      refine XO.nil ?_
      refine XK.retTo (Fin.ret (.cons (.tmp (v := .int _ _) rfl) (.cons (.tmp (v := .int _ _) rfl) .nil)) (by first | exact (.cons (x := (g, _)) (by repeat (first | exact Del.hd | apply Del.tl | apply Del.app)) (by repeat (first | exact List.Mem.head _ | apply List.Mem.tail | apply List.mem_append_right)) (.cons (x := (ra, _)) (by repeat (first | exact Del.hd | apply Del.tl | apply Del.app)) (by repeat (first | exact List.Mem.head _ | apply List.Mem.tail | apply List.mem_append_right)) .nil)) | exact (.cons (x := (g, _)) (by repeat (first | exact Del.hd | apply Del.tl | apply Del.app)) (by repeat (first | exact List.Mem.head _ | apply List.Mem.tail | apply List.mem_append_right)) .nil)) (by intro x hx; simp only [List.mem_cons, List.not_mem_nil, or_false] at hx; first | (subst hx; left; ((repeat (first | exact List.Mem.head _ | apply List.Mem.tail))); done) | (rcases hx with rfl | rfl <;> first | (left; ((repeat (first | exact List.Mem.head _ | apply List.Mem.tail))); done) | exact .inr hra)) ?_)
      first | (have e : G.app p psn b = _ := if_pos (fun h => absurd h (by omega)); rw [e]; exact ⟨⟨none, cap, sp⟩, rfl, rfl, hO⟩) | (have e : G.app p psn b = _ := (if_neg (fun h => h ⟨by omega, by omega, by omega, by omega⟩)).trans (if_pos hroom); rw [e]; exact ⟨⟨none, cap, sp⟩, rfl, rfl, hO⟩) | (have e : G.app p psn b = _ := (if_neg (fun h => h ⟨by omega, by omega, by omega, by omega⟩)).trans (if_neg hroom); rw [e]; refine ⟨⟨some ra, ca, sa⟩, rfl, ?_, (by refine own_next ?_; rw [hl0, show recsL G.l = [] from by rw [hl1]; rfl]; exact hown)⟩; rw [show (lgL r ⟨none, cap, sp⟩ G).set (0 + 10) (.slice (some ⟨ra, 0, none⟩) 1 ca) = lgL r ⟨some ra, ca, sa⟩ ({ G with l := G.l ++ [⟨G.node, G.epoch, G.next, p, psn, b⟩] } : Lg) from lgL_set (by rw [List.length_append, List.length_singleton]; exact hl0)]; rfl)
    · replace hh2 := of_decide_eq_false hh2
      refine XO.guard_t rfl rfl ?_
      refine XO.val rfl rfl (OV.fa rfl Red5_fa_36_0) ?_
      refine XO.guard_t rfl rfl ?_
      refine XO.val rfl rfl (OV.ld rfl Try.isAgg2 (by repeat (first | exact List.Mem.head _ | apply List.Mem.tail | apply List.mem_append_right)) rfl) ?_
      refine XO.guard_t rfl rfl ?_
      refine XO.val rfl rfl (OV.lss rfl rfl) ?_
      refine XO.val rfl rfl (OV.pick_f (v := .bool _) rfl rfl) ?_
      refine XO.val rfl rfl (OV.mv (v := .bool _) rfl) ?_
      refine XO.split (t := 30) rfl (fun hh3 => ?_) (fun hh3 => ?_)
      · replace hh3 := of_decide_eq_true hh3
        iterate 3 refine XO.guard_f rfl rfl rfl rfl ?_
        refine XO.val rfl rfl (OV.pick_t (v := .bool _) rfl rfl) ?_
        refine XO.val rfl rfl (OV.asg (v := .bool _) rfl) ?_
        refine XO.nil ?_
        refine XK.cond_t rfl ?_
        refine XK.seq ?_
        refine XK.region ?_
        refine XO.val rfl rfl (OV.asg (v := .int _ _) rfl) ?_
        refine XO.val rfl rfl (OV.asg (v := .int _ _) rfl) ?_
        refine XO.nil ?_
        refine XK.retTo (Fin.ret (.cons (.tmp (v := .int _ _) rfl) (.cons (.tmp (v := .int _ _) rfl) .nil)) (by first | exact (.cons (x := (g, _)) (by repeat (first | exact Del.hd | apply Del.tl | apply Del.app)) (by repeat (first | exact List.Mem.head _ | apply List.Mem.tail | apply List.mem_append_right)) (.cons (x := (ra, _)) (by repeat (first | exact Del.hd | apply Del.tl | apply Del.app)) (by repeat (first | exact List.Mem.head _ | apply List.Mem.tail | apply List.mem_append_right)) .nil)) | exact (.cons (x := (g, _)) (by repeat (first | exact Del.hd | apply Del.tl | apply Del.app)) (by repeat (first | exact List.Mem.head _ | apply List.Mem.tail | apply List.mem_append_right)) .nil)) (by intro x hx; simp only [List.mem_cons, List.not_mem_nil, or_false] at hx; first | (subst hx; left; ((repeat (first | exact List.Mem.head _ | apply List.Mem.tail))); done) | (rcases hx with rfl | rfl <;> first | (left; ((repeat (first | exact List.Mem.head _ | apply List.Mem.tail))); done) | exact .inr hra)) ?_)
        first | (have e : G.app p psn b = _ := if_pos (fun h => absurd h (by omega)); rw [e]; exact ⟨⟨none, cap, sp⟩, rfl, rfl, hO⟩) | (have e : G.app p psn b = _ := (if_neg (fun h => h ⟨by omega, by omega, by omega, by omega⟩)).trans (if_pos hroom); rw [e]; exact ⟨⟨none, cap, sp⟩, rfl, rfl, hO⟩) | (have e : G.app p psn b = _ := (if_neg (fun h => h ⟨by omega, by omega, by omega, by omega⟩)).trans (if_neg hroom); rw [e]; refine ⟨⟨some ra, ca, sa⟩, rfl, ?_, (by refine own_next ?_; rw [hl0, show recsL G.l = [] from by rw [hl1]; rfl]; exact hown)⟩; rw [show (lgL r ⟨none, cap, sp⟩ G).set (0 + 10) (.slice (some ⟨ra, 0, none⟩) 1 ca) = lgL r ⟨some ra, ca, sa⟩ ({ G with l := G.l ++ [⟨G.node, G.epoch, G.next, p, psn, b⟩] } : Lg) from lgL_set (by rw [List.length_append, List.length_singleton]; exact hl0)]; rfl)
      · replace hh3 := of_decide_eq_false hh3
        refine XO.guard_t rfl rfl ?_
        refine XO.val rfl rfl (OV.fa rfl Red5_fa_36_0) ?_
        refine XO.guard_t rfl rfl ?_
        refine XO.val rfl rfl (OV.ld rfl Try.isAgg2 (by repeat (first | exact List.Mem.head _ | apply List.Mem.tail | apply List.mem_append_right)) rfl) ?_
        refine XO.guard_t rfl rfl ?_
        refine XO.val rfl rfl (OV.gtr rfl rfl) ?_
        refine XO.val rfl rfl (OV.pick_f (v := .bool _) rfl rfl) ?_
        refine XO.val rfl rfl (OV.asg (v := .bool _) rfl) ?_
        refine XO.nil ?_
        refine XK.split (t := 13) rfl (fun hh4 => ?_) (fun hh4 => ?_)
        · replace hh4 := of_decide_eq_true hh4
          refine XK.cond_t rfl ?_
          refine XK.seq ?_
          refine XK.region ?_
          refine XO.val rfl rfl (OV.asg (v := .int _ _) rfl) ?_
          refine XO.val rfl rfl (OV.asg (v := .int _ _) rfl) ?_
          refine XO.nil ?_
          refine XK.retTo (Fin.ret (.cons (.tmp (v := .int _ _) rfl) (.cons (.tmp (v := .int _ _) rfl) .nil)) (by first | exact (.cons (x := (g, _)) (by repeat (first | exact Del.hd | apply Del.tl | apply Del.app)) (by repeat (first | exact List.Mem.head _ | apply List.Mem.tail | apply List.mem_append_right)) (.cons (x := (ra, _)) (by repeat (first | exact Del.hd | apply Del.tl | apply Del.app)) (by repeat (first | exact List.Mem.head _ | apply List.Mem.tail | apply List.mem_append_right)) .nil)) | exact (.cons (x := (g, _)) (by repeat (first | exact Del.hd | apply Del.tl | apply Del.app)) (by repeat (first | exact List.Mem.head _ | apply List.Mem.tail | apply List.mem_append_right)) .nil)) (by intro x hx; simp only [List.mem_cons, List.not_mem_nil, or_false] at hx; first | (subst hx; left; ((repeat (first | exact List.Mem.head _ | apply List.Mem.tail))); done) | (rcases hx with rfl | rfl <;> first | (left; ((repeat (first | exact List.Mem.head _ | apply List.Mem.tail))); done) | exact .inr hra)) ?_)
          first | (have e : G.app p psn b = _ := if_pos (fun h => absurd h (by omega)); rw [e]; exact ⟨⟨none, cap, sp⟩, rfl, rfl, hO⟩) | (have e : G.app p psn b = _ := (if_neg (fun h => h ⟨by omega, by omega, by omega, by omega⟩)).trans (if_pos hroom); rw [e]; exact ⟨⟨none, cap, sp⟩, rfl, rfl, hO⟩) | (have e : G.app p psn b = _ := (if_neg (fun h => h ⟨by omega, by omega, by omega, by omega⟩)).trans (if_neg hroom); rw [e]; refine ⟨⟨some ra, ca, sa⟩, rfl, ?_, (by refine own_next ?_; rw [hl0, show recsL G.l = [] from by rw [hl1]; rfl]; exact hown)⟩; rw [show (lgL r ⟨none, cap, sp⟩ G).set (0 + 10) (.slice (some ⟨ra, 0, none⟩) 1 ca) = lgL r ⟨some ra, ca, sa⟩ ({ G with l := G.l ++ [⟨G.node, G.epoch, G.next, p, psn, b⟩] } : Lg) from lgL_set (by rw [List.length_append, List.length_singleton]; exact hl0)]; rfl)
        · replace hh4 := of_decide_eq_false hh4
          refine XK.cond_f rfl ?_
          refine XK.seq ?_
          refine XK.region ?_
          refine XO.val rfl rfl (OV.mv (v := .pointer _) rfl) ?_
          refine XO.callV (cap := []) rfl rfl (.cons (v := .pointer _) rfl .nil) Try.call24 (lgRoom_ok g r ⟨none, cap, sp⟩ G hG) (by repeat (first | exact Sel.nil | refine Sel.cons (by repeat (first | exact Del.hd | apply Del.tl | apply Del.app)) (by repeat (first | exact List.Mem.head _ | apply List.Mem.tail | apply List.mem_append_right)) ?_)) ?_
          refine XO.val rfl rfl (OV.eql rfl rfl) ?_
          refine XO.val rfl rfl (OV.asg (v := .bool _) rfl) ?_
          refine XO.nil ?_
          refine XK.split (t := 35) rfl (fun hh5 => ?_) (fun hh5 => ?_)
          · replace hh5 := of_decide_eq_true hh5
            have hroom : G.room = 0 := hh5
            refine XK.cond_t rfl ?_
            refine XK.seq ?_
            refine XK.region ?_
            refine XO.val rfl rfl (OV.asg (v := .int _ _) rfl) ?_
            refine XO.val rfl rfl (OV.asg (v := .int _ _) rfl) ?_
            refine XO.nil ?_
            refine XK.retTo (Fin.ret (.cons (.tmp (v := .int _ _) rfl) (.cons (.tmp (v := .int _ _) rfl) .nil)) (by first | exact (.cons (x := (g, _)) (by repeat (first | exact Del.hd | apply Del.tl | apply Del.app)) (by repeat (first | exact List.Mem.head _ | apply List.Mem.tail | apply List.mem_append_right)) (.cons (x := (ra, _)) (by repeat (first | exact Del.hd | apply Del.tl | apply Del.app)) (by repeat (first | exact List.Mem.head _ | apply List.Mem.tail | apply List.mem_append_right)) .nil)) | exact (.cons (x := (g, _)) (by repeat (first | exact Del.hd | apply Del.tl | apply Del.app)) (by repeat (first | exact List.Mem.head _ | apply List.Mem.tail | apply List.mem_append_right)) .nil)) (by intro x hx; simp only [List.mem_cons, List.not_mem_nil, or_false] at hx; first | (subst hx; left; ((repeat (first | exact List.Mem.head _ | apply List.Mem.tail))); done) | (rcases hx with rfl | rfl <;> first | (left; ((repeat (first | exact List.Mem.head _ | apply List.Mem.tail))); done) | exact .inr hra)) ?_)
            first | (have e : G.app p psn b = _ := if_pos (fun h => absurd h (by omega)); rw [e]; exact ⟨⟨none, cap, sp⟩, rfl, rfl, hO⟩) | (have e : G.app p psn b = _ := (if_neg (fun h => h ⟨by omega, by omega, by omega, by omega⟩)).trans (if_pos hroom); rw [e]; exact ⟨⟨none, cap, sp⟩, rfl, rfl, hO⟩) | (have e : G.app p psn b = _ := (if_neg (fun h => h ⟨by omega, by omega, by omega, by omega⟩)).trans (if_neg hroom); rw [e]; refine ⟨⟨some ra, ca, sa⟩, rfl, ?_, (by refine own_next ?_; rw [hl0, show recsL G.l = [] from by rw [hl1]; rfl]; exact hown)⟩; rw [show (lgL r ⟨none, cap, sp⟩ G).set (0 + 10) (.slice (some ⟨ra, 0, none⟩) 1 ca) = lgL r ⟨some ra, ca, sa⟩ ({ G with l := G.l ++ [⟨G.node, G.epoch, G.next, p, psn, b⟩] } : Lg) from lgL_set (by rw [List.length_append, List.length_singleton]; exact hl0)]; rfl)
          · replace hh5 := of_decide_eq_false hh5
            have hroom : ¬ (G.room = 0) := hh5
            refine XK.cond_f rfl ?_
            refine XK.skip ?_
            refine XK.inblk ?_
            refine XK.seq ?_
            refine XK.region ?_
            refine XO.val rfl rfl (OV.mv (v := .pointer _) rfl) ?_
            refine XO.callV (cap := []) rfl rfl (.cons (v := .pointer _) rfl .nil) Try.call23 (lgNext_ok g r ⟨none, cap, sp⟩ G hG) (by repeat (first | exact Sel.nil | refine Sel.cons (by repeat (first | exact Del.hd | apply Del.tl | apply Del.app)) (by repeat (first | exact List.Mem.head _ | apply List.Mem.tail | apply List.mem_append_right)) ?_)) ?_
            refine XO.val rfl rfl (OV.asg (v := .int _ _) rfl) ?_
            refine XO.nil ?_
            refine XK.seq ?_
            refine XK.draw [0, 1, 2, 3, 4, 5, 6, 7, 8, 9, 10, 11, 12, 13, 14, 15, 16, 17, 18, 19, 22, 23] [] [20, 21] [0, 1, 2, 3, 4, 5, 6, 7, 8, 9, 10, 11, 12, 13, 14, 15, 16, 17, 18, 19, 20, 21, 22, 23, 24] Red5_mixed (by kernel_rfl) alc_none ?_
            refine TR.v rfl rfl .n rfl rfl rfl (OV.mv (v := .pointer _) rfl) ?_
            refine TR.v rfl rfl .n rfl rfl rfl (OV.mv (v := .pointer _) rfl) ?_
            refine TR.v rfl rfl .n rfl rfl rfl (OV.nilc rfl) ?_
            refine TR.v rfl rfl .n rfl rfl rfl (OV.fa rfl Red5_fa_155_6) ?_
            refine TR.v rfl rfl .n rfl rfl rfl (OV.ld rfl Try.isAgg43 (by repeat (first | exact List.Mem.head _ | apply List.Mem.tail | apply List.mem_append_right)) rfl) ?_
            refine TR.say (u := slV ⟨none, cap, sp⟩ G.l.length) (v := .slice none 0 0) 45 rfl (by simp [slV, hl1, hcp]) ?_
            refine TR.v rfl rfl .n rfl rfl rfl (OV.mv (v := .pointer _) rfl) ?_
            refine TR.v rfl rfl .n rfl rfl rfl (OV.nilc rfl) ?_
            refine TR.v rfl rfl .n rfl rfl rfl (OV.fa rfl Red5_fa_155_2) ?_
            refine TR.v rfl rfl .n rfl rfl rfl (OV.ld rfl Try.isAgg3 (by repeat (first | exact List.Mem.head _ | apply List.Mem.tail | apply List.mem_append_right)) rfl) ?_
            refine TR.v rfl rfl .n rfl rfl rfl (OV.mv (v := .pointer _) rfl) ?_
            refine TR.v rfl rfl .n rfl rfl rfl (OV.nilc rfl) ?_
            refine TR.v rfl rfl .n rfl rfl rfl (OV.fa rfl Red5_fa_155_3) ?_
            refine TR.v rfl rfl .n rfl rfl rfl (OV.ld rfl Try.isAgg2 (by repeat (first | exact List.Mem.head _ | apply List.Mem.tail | apply List.mem_append_right)) rfl) ?_
            refine TR.v rfl rfl .n rfl rfl rfl (OV.mv (v := .int _ _) rfl) ?_
            refine TR.v rfl rfl .n rfl rfl rfl (OV.mv (v := .int _ _) rfl) ?_
            refine TR.v rfl rfl .n rfl rfl rfl (OV.fa rfl Red5_fa_36_0) ?_
            refine TR.v rfl rfl .n rfl rfl rfl (OV.ld rfl Try.isAgg2 (by repeat (first | exact List.Mem.head _ | apply List.Mem.tail | apply List.mem_append_right)) rfl) ?_
            refine TR.v rfl rfl .n rfl rfl rfl (OV.fa rfl Red5_fa_36_1) ?_
            refine TR.v rfl rfl .n rfl rfl rfl (OV.ldA rfl Try.isAgg34 Try.sizeOf34 (by repeat (first | exact List.Mem.head _ | apply List.Mem.tail | apply List.mem_append_right)) (verL_body psn hb) (by (first | assumption | (simp only [List.length_append, bys_length, b4_len, zrs_len, headB_len, putHead_len, List.length_replicate, List.length_cons, List.length_nil, List.length_set, List.length_take, List.length_drop, recL_len]; done) | (simp only [List.length_append, bys_length, b4_len, zrs_len, headB_len, putHead_len, List.length_replicate, List.length_cons, List.length_nil, List.length_set, List.length_take, List.length_drop, recL_len]; omega) | rfl | (simp [*, bys_length]; done) | (simp [*, bys_length]; omega)))) ?_
            refine TR.v rfl rfl .n rfl rfl rfl (OV.bldS (qs := [(0, .int _ _), (1, .int _ _), (2, .int _ _), (3, .int _ _), (4, .int _ _), (5, .agg _)]) (.cons rfl (.cons rfl (.cons rfl (.cons rfl (.cons rfl (.cons rfl .nil)))))) rfl Red5_pl_52 Red5_zv_52 (fillRec _ _ _ _ _ hb)) ?_
            refine TR.goK rfl rfl rfl ?_
            refine XO.bsl (qs := [(0, .agg _)]) rfl (.cons (v := .agg _) rfl .nil) rfl Try.runUnderlying43 Try.sizeOf52 Red5_zv_52 rfl (by (first | assumption | (simp only [List.length_append, bys_length, b4_len, zrs_len, headB_len, putHead_len, List.length_replicate, List.length_cons, List.length_nil, List.length_set, List.length_take, List.length_drop, recL_len]; done) | (simp only [List.length_append, bys_length, b4_len, zrs_len, headB_len, putHead_len, List.length_replicate, List.length_cons, List.length_nil, List.length_set, List.length_take, List.length_drop, recL_len]; omega) | rfl | (simp [*, bys_length]; done) | (simp [*, bys_length]; omega))) (by decide) (fill1 (by (first | assumption | (simp only [List.length_append, bys_length, b4_len, zrs_len, headB_len, putHead_len, List.length_replicate, List.length_cons, List.length_nil, List.length_set, List.length_take, List.length_drop, recL_len]; done) | (simp only [List.length_append, bys_length, b4_len, zrs_len, headB_len, putHead_len, List.length_replicate, List.length_cons, List.length_nil, List.length_set, List.length_take, List.length_drop, recL_len]; omega) | rfl | (simp [*, bys_length]; done) | (simp [*, bys_length]; omega))) (by (first | assumption | (simp only [List.length_append, bys_length, b4_len, zrs_len, headB_len, putHead_len, List.length_replicate, List.length_cons, List.length_nil, List.length_set, List.length_take, List.length_drop, recL_len]; done) | (simp only [List.length_append, bys_length, b4_len, zrs_len, headB_len, putHead_len, List.length_replicate, List.length_cons, List.length_nil, List.length_set, List.length_take, List.length_drop, recL_len]; omega) | rfl | (simp [*, bys_length]; done) | (simp [*, bys_length]; omega)))) (fun r61 hr61 => ?_)
            refine TR.backK (by repeat (first | exact List.Sublist.refl _ | apply List.Sublist.cons | apply List.sublist_append_of_sublist_right)) ?_
            refine TR.goK rfl rfl rfl ?_
            refine XO.apN (bytes := 136) rfl rfl rfl Try.runUnderlying43 Try.runUnderlying43 Try.sizeOf52 Try.typeInfo52 rfl Red5_zv_52 rfl (by (first | assumption | (simp only [List.length_append, bys_length, b4_len, zrs_len, headB_len, putHead_len, List.length_replicate, List.length_cons, List.length_nil, List.length_set, List.length_take, List.length_drop, recL_len]; done) | (simp only [List.length_append, bys_length, b4_len, zrs_len, headB_len, putHead_len, List.length_replicate, List.length_cons, List.length_nil, List.length_set, List.length_take, List.length_drop, recL_len]; omega) | rfl | (simp [*, bys_length]; done) | (simp [*, bys_length]; omega))) (by repeat (first | exact List.Mem.head _ | apply List.Mem.tail | apply List.mem_append_right)) (grab_all (by (first | assumption | (simp only [List.length_append, bys_length, b4_len, zrs_len, headB_len, putHead_len, List.length_replicate, List.length_cons, List.length_nil, List.length_set, List.length_take, List.length_drop, recL_len]; done) | (simp only [List.length_append, bys_length, b4_len, zrs_len, headB_len, putHead_len, List.length_replicate, List.length_cons, List.length_nil, List.length_set, List.length_take, List.length_drop, recL_len]; omega) | rfl | (simp [*, bys_length]; done) | (simp [*, bys_length]; omega)))) (by (first | assumption | (simp only [List.length_append, bys_length, b4_len, zrs_len, headB_len, putHead_len, List.length_replicate, List.length_cons, List.length_nil, List.length_set, List.length_take, List.length_drop, recL_len]; done) | (simp only [List.length_append, bys_length, b4_len, zrs_len, headB_len, putHead_len, List.length_replicate, List.length_cons, List.length_nil, List.length_set, List.length_take, List.length_drop, recL_len]; omega) | rfl | (simp [*, bys_length]; done) | (simp [*, bys_length]; omega))) (by (repeat (first | with_reducible (apply one_app) | with_reducible exact bys_one | with_reducible exact recL_one _ | with_reducible exact one_rep rfl | exact ones_of rfl | exact bys_one))) (by omega) (by omega) (fun ra ca sa hown hra => ?_)
            apply XO.blk (r := ra)
            · (repeat (first | exact Put.hd | apply Put.tl | apply Put.app))
            · exact (show _ = recsL (G.l ++ [⟨G.node, G.epoch, G.next, p, psn, b⟩]) ++ sa from by rw [hl1, List.nil_append, recsL_single])
            refine TR.backK (by repeat (first | exact List.Sublist.refl _ | apply List.Sublist.cons | apply List.sublist_append_of_sublist_right)) ?_
            refine TR.v rfl rfl .n rfl rfl rfl (OV.nilc rfl) ?_
            refine TR.v rfl rfl .n rfl rfl rfl (OV.fa rfl Red5_fa_155_6) ?_
            refine TR.go rfl rfl rfl rfl ?_
            refine XO.st rfl (v := .slice _ _ _) rfl rfl Try.sizeOf43 (by repeat (first | exact Put.hd | apply Put.tl | apply Put.app)) (by (first | (simp only [List.length_append, bys_length, b4_len, zrs_len, headB_len, putHead_len, List.length_replicate, List.length_cons, List.length_nil, List.length_set, List.length_take, List.length_drop, recL_len]; omega) | omega | exact Nat.le_of_ble_eq_true rfl | (simp; done) | (simp; omega))) (by (first | exact .inr ‹_› | (left; ((repeat (first | exact List.Mem.head _ | apply List.Mem.tail)))))) ?_
            refine TR.back ?_
            refine TR.nil ?_
            refine XK.seq ?_
            refine XK.region ?_
            refine XO.val rfl rfl (OV.mv (v := .int _ _) rfl) ?_
            refine XO.val rfl rfl (OV.asg (v := .int _ _) rfl) ?_
            refine XO.val rfl rfl (OV.asg (v := .int _ _) rfl) ?_
            refine XO.nil ?_
            refine XK.retTo (Fin.ret (.cons (.tmp (v := .int _ _) rfl) (.cons (.tmp (v := .int _ _) rfl) .nil)) (by first | exact (.cons (x := (g, _)) (by repeat (first | exact Del.hd | apply Del.tl | apply Del.app)) (by repeat (first | exact List.Mem.head _ | apply List.Mem.tail | apply List.mem_append_right)) (.cons (x := (ra, _)) (by repeat (first | exact Del.hd | apply Del.tl | apply Del.app)) (by repeat (first | exact List.Mem.head _ | apply List.Mem.tail | apply List.mem_append_right)) .nil)) | exact (.cons (x := (g, _)) (by repeat (first | exact Del.hd | apply Del.tl | apply Del.app)) (by repeat (first | exact List.Mem.head _ | apply List.Mem.tail | apply List.mem_append_right)) .nil)) (by intro x hx; simp only [List.mem_cons, List.not_mem_nil, or_false] at hx; first | (subst hx; left; ((repeat (first | exact List.Mem.head _ | apply List.Mem.tail))); done) | (rcases hx with rfl | rfl <;> first | (left; ((repeat (first | exact List.Mem.head _ | apply List.Mem.tail))); done) | exact .inr hra)) ?_)
            first | (have e : G.app p psn b = _ := if_pos (fun h => absurd h (by omega)); rw [e]; exact ⟨⟨none, cap, sp⟩, rfl, rfl, hO⟩) | (have e : G.app p psn b = _ := (if_neg (fun h => h ⟨by omega, by omega, by omega, by omega⟩)).trans (if_pos hroom); rw [e]; exact ⟨⟨none, cap, sp⟩, rfl, rfl, hO⟩) | (have e : G.app p psn b = _ := (if_neg (fun h => h ⟨by omega, by omega, by omega, by omega⟩)).trans (if_neg hroom); rw [e]; refine ⟨⟨some ra, ca, sa⟩, rfl, ?_, (by refine own_next ?_; rw [hl0, show recsL G.l = [] from by rw [hl1]; rfl]; exact hown)⟩; rw [show (lgL r ⟨none, cap, sp⟩ G).set (0 + 10) (.slice (some ⟨ra, 0, none⟩) 1 ca) = lgL r ⟨some ra, ca, sa⟩ ({ G with l := G.l ++ [⟨G.node, G.epoch, G.next, p, psn, b⟩] } : Lg) from lgL_set (by rw [List.length_append, List.length_singleton]; exact hl0)]; rfl)

set_option maxHeartbeats 4000000 in
theorem lgAppend_some (g r q cap : Nat) (sp : List Value) (G : Lg) (hG : G.wf) (hO : Mw.Own ⟨some q, cap, sp⟩ G.l.length (recsL G.l) 101) (p psn : Int) (b : List Int) (hb : b.length = 96) :
    Ct Try.prog 17 [.pointer (some ⟨g, 0, none⟩), .int .i64 p, .agg (List.toArray (verL psn b))] [(g, cel (lgL r ⟨some q, cap, sp⟩ G) 155), (q, cel (recsL G.l ++ sp) 52)] [g, q] (fun v L => ∃ sl, v = .tuple (List.toArray [.int .i64 (G.app p psn b).2.1, .int .i64 (G.app p psn b).2.2]) ∧ L = (g, cel (lgL r sl (G.app p psn b).1) 155) :: slB sl (recsL (G.app p psn b).1.l) 52 ∧ Mw.Own sl (G.app p psn b).1.l.length (recsL (G.app p psn b).1.l) 101) := by
  have hlen := hG.len
  have hbd := recsL_len hG.body
  refine Ct.of (N := 66) (rs := [.tmp 6, .tmp 7]) Try.func17 rfl rfl rfl (Nat.le_of_ble_eq_true rfl) (fun B => ?_)
  refine XK.seq ?_
  refine XK.region ?_
  refine XO.box (v := .agg _) rfl rfl rfl (fun r5 hr5 => ?_)
  refine XO.val rfl rfl (OV.asg (v := .int _ _) rfl) ?_
  refine XO.val rfl rfl (OV.asg (v := .int _ _) rfl) ?_
  refine XO.nil ?_
  refine XK.seq ?_
  refine XK.block ?_
  refine XK.seq ?_
  refine XK.region ?_
  refine XO.val rfl rfl (OV.mv (v := .pointer _) rfl) ?_
  refine XO.callV (cap := []) rfl rfl (.cons (v := .pointer _) rfl .nil) Try.call76 (lgThere_ok g r ⟨some q, cap, sp⟩ G) (by repeat (first | exact Sel.nil | refine Sel.cons (by repeat (first | exact Del.hd | apply Del.tl | apply Del.app)) (by repeat (first | exact List.Mem.head _ | apply List.Mem.tail | apply List.mem_append_right)) ?_)) ?_
  refine XO.val rfl rfl (OV.notB rfl) ?_
  refine XO.val rfl rfl (OV.asg (v := .bool _) rfl) ?_
  refine XO.nil ?_
  refine XK.cond_f rfl ?_
  refine XK.seq ?_
  refine XK.region ?_
  refine XO.val rfl rfl (OV.mv (v := .int _ _) rfl) ?_
  refine XO.val rfl rfl (OV.lss rfl rfl) ?_
  refine XO.val rfl rfl (OV.mv (v := .bool _) rfl) ?_
  refine XO.split (t := 16) rfl (fun hh1 => ?_) (fun hh1 => ?_)
  · replace hh1 := of_decide_eq_true hh1
    iterate 7 refine XO.guard_f rfl rfl rfl rfl ?_
    refine XO.val rfl rfl (OV.pick_t (v := .bool _) rfl rfl) ?_
    refine XO.val rfl rfl (OV.mv (v := .bool _) rfl) ?_
    iterate 3 refine XO.guard_f rfl rfl rfl rfl ?_
    refine XO.val rfl rfl (OV.pick_t (v := .bool _) rfl rfl) ?_
    refine XO.val rfl rfl (OV.mv (v := .bool _) rfl) ?_
    iterate 3 refine XO.guard_f rfl rfl rfl rfl ?_
    refine XO.val rfl rfl (OV.pick_t (v := .bool _) rfl rfl) ?_
    refine XO.val rfl rfl (OV.asg (v := .bool _) rfl) ?_
    refine XO.nil ?_
    refine XK.cond_t rfl ?_
    refine XK.seq ?_
    refine XK.region ?_
    refine XO.val rfl rfl (OV.asg (v := .int _ _) rfl) ?_
    refine XO.val rfl rfl (OV.asg (v := .int _ _) rfl) ?_
    refine XO.nil ?_
    refine XK.retTo (Fin.ret (.cons (.tmp (v := .int _ _) rfl) (.cons (.tmp (v := .int _ _) rfl) .nil)) (by first | exact (.cons (x := (g, _)) (by repeat (first | exact Del.hd | apply Del.tl | apply Del.app)) (by repeat (first | exact List.Mem.head _ | apply List.Mem.tail | apply List.mem_append_right)) (.cons (x := (ra, _)) (by repeat (first | exact Del.hd | apply Del.tl | apply Del.app)) (by repeat (first | exact List.Mem.head _ | apply List.Mem.tail | apply List.mem_append_right)) .nil)) | exact (.cons (x := (g, _)) (by repeat (first | exact Del.hd | apply Del.tl | apply Del.app)) (by repeat (first | exact List.Mem.head _ | apply List.Mem.tail | apply List.mem_append_right)) (.cons (x := (q, _)) (by repeat (first | exact Del.hd | apply Del.tl | apply Del.app)) (by repeat (first | exact List.Mem.head _ | apply List.Mem.tail | apply List.mem_append_right)) .nil))) (by intro x hx; simp only [List.mem_cons, List.not_mem_nil, or_false] at hx; rcases hx with rfl | rfl <;> first | (left; ((repeat (first | exact List.Mem.head _ | apply List.Mem.tail))); done) | exact .inr hra | exact hra.elim (fun e => by subst e; left; ((repeat (first | exact List.Mem.head _ | apply List.Mem.tail)))) .inr) ?_)
    first | (have e : G.app p psn b = _ := if_pos (fun h => absurd h (by omega)); rw [e]; exact ⟨⟨some q, cap, sp⟩, rfl, rfl, hO⟩) | (have e : G.app p psn b = _ := (if_neg (fun h => h ⟨by omega, by omega, by omega, by omega⟩)).trans (if_pos hroom); rw [e]; exact ⟨⟨some q, cap, sp⟩, rfl, rfl, hO⟩) | (have e : G.app p psn b = _ := (if_neg (fun h => h ⟨by omega, by omega, by omega, by omega⟩)).trans (if_neg hroom); rw [e]; refine ⟨⟨some ra, ca, sa⟩, rfl, ?_, (own_next hown)⟩; rw [show (lgL r ⟨some q, cap, sp⟩ G).set (0 + 10) (.slice (some ⟨ra, 0, none⟩) (G.l.length + 1) ca) = lgL r ⟨some ra, ca, sa⟩ ({ G with l := G.l ++ [⟨G.node, G.epoch, G.next, p, psn, b⟩] } : Lg) from lgL_set (by rw [List.length_append, List.length_singleton])]; rfl)
  · replace hh1 := of_decide_eq_false hh1
    refine XO.guard_t rfl rfl ?_
    refine XO.val rfl rfl (OV.mv (v := .int _ _) rfl) ?_
    refine XO.guard_t rfl rfl ?_
    refine XO.val rfl rfl (OV.mv (v := .pointer _) rfl) ?_
    refine XO.guard_t rfl rfl ?_
    refine XO.val rfl rfl (OV.nilc rfl) ?_
    refine XO.guard_t rfl rfl ?_
    refine XO.val rfl rfl (OV.fa rfl Red5_fa_155_1) ?_
    refine XO.guard_t rfl rfl ?_
    refine XO.val rfl rfl (OV.fa rfl Red5_fa_23_1) ?_
    refine XO.guard_t rfl rfl ?_
    refine XO.val rfl rfl (OV.ld rfl Try.isAgg3 (by repeat (first | exact List.Mem.head _ | apply List.Mem.tail | apply List.mem_append_right)) rfl) ?_
    refine XO.guard_t rfl rfl ?_
    refine XO.val rfl rfl (OV.geq rfl rfl) ?_
    refine XO.val rfl rfl (OV.pick_f (v := .bool _) rfl rfl) ?_
    refine XO.val rfl rfl (OV.mv (v := .bool _) rfl) ?_
    refine XO.split (t := 25) rfl (fun hh2 => ?_) (fun hh2 => ?_)
    · replace hh2 := of_decide_eq_true hh2
      iterate 3 refine XO.guard_f rfl rfl rfl rfl ?_
      refine XO.val rfl rfl (OV.pick_t (v := .bool _) rfl rfl) ?_
      refine XO.val rfl rfl (OV.mv (v := .bool _) rfl) ?_
      iterate 3 refine XO.guard_f rfl rfl rfl rfl ?_
      refine XO.val rfl rfl (OV.pick_t (v := .bool _) rfl rfl) ?_
      refine XO.val rfl rfl (OV.asg (v := .bool _) rfl) ?_
      refine XO.nil ?_
      refine XK.cond_t rfl ?_
      refine XK.seq ?_
      refine XK.region ?_
      refine XO.val rfl rfl (OV.asg (v := .int _ _) rfl) ?_
      refine XO.val rfl rfl (OV.asg (v := .int _ _) rfl) ?_
      refine XO.nil ?_
      refine XK.retTo (Fin.ret (.cons (.tmp (v := .int _ _) rfl) (.cons (.tmp (v := .int _ _) rfl) .nil)) (by first | exact (.cons (x := (g, _)) (by repeat (first | exact Del.hd | apply Del.tl | apply Del.app)) (by repeat (first | exact List.Mem.head _ | apply List.Mem.tail | apply List.mem_append_right)) (.cons (x := (ra, _)) (by repeat (first | exact Del.hd | apply Del.tl | apply Del.app)) (by repeat (first | exact List.Mem.head _ | apply List.Mem.tail | apply List.mem_append_right)) .nil)) | exact (.cons (x := (g, _)) (by repeat (first | exact Del.hd | apply Del.tl | apply Del.app)) (by repeat (first | exact List.Mem.head _ | apply List.Mem.tail | apply List.mem_append_right)) (.cons (x := (q, _)) (by repeat (first | exact Del.hd | apply Del.tl | apply Del.app)) (by repeat (first | exact List.Mem.head _ | apply List.Mem.tail | apply List.mem_append_right)) .nil))) (by intro x hx; simp only [List.mem_cons, List.not_mem_nil, or_false] at hx; rcases hx with rfl | rfl <;> first | (left; ((repeat (first | exact List.Mem.head _ | apply List.Mem.tail))); done) | exact .inr hra | exact hra.elim (fun e => by subst e; left; ((repeat (first | exact List.Mem.head _ | apply List.Mem.tail)))) .inr) ?_)
      first | (have e : G.app p psn b = _ := if_pos (fun h => absurd h (by omega)); rw [e]; exact ⟨⟨some q, cap, sp⟩, rfl, rfl, hO⟩) | (have e : G.app p psn b = _ := (if_neg (fun h => h ⟨by omega, by omega, by omega, by omega⟩)).trans (if_pos hroom); rw [e]; exact ⟨⟨some q, cap, sp⟩, rfl, rfl, hO⟩) | (have e : G.app p psn b = _ := (if_neg (fun h => h ⟨by omega, by omega, by omega, by omega⟩)).trans (if_neg hroom); rw [e]; refine ⟨⟨some ra, ca, sa⟩, rfl, ?_, (own_next hown)⟩; rw [show (lgL r ⟨some q, cap, sp⟩ G).set (0 + 10) (.slice (some ⟨ra, 0, none⟩) (G.l.length + 1) ca) = lgL r ⟨some ra, ca, sa⟩ ({ G with l := G.l ++ [⟨G.node, G.epoch, G.next, p, psn, b⟩] } : Lg) from lgL_set (by rw [List.length_append, List.length_singleton])]; rfl)
    · replace hh2 := of_decide_eq_false hh2
      refine XO.guard_t rfl rfl ?_
      refine XO.val rfl rfl (OV.fa rfl Red5_fa_36_0) ?_
      refine XO.guard_t rfl rfl ?_
      refine XO.val rfl rfl (OV.ld rfl Try.isAgg2 (by repeat (first | exact List.Mem.head _ | apply List.Mem.tail | apply List.mem_append_right)) rfl) ?_
      refine XO.guard_t rfl rfl ?_
      refine XO.val rfl rfl (OV.lss rfl rfl) ?_
      refine XO.val rfl rfl (OV.pick_f (v := .bool _) rfl rfl) ?_
      refine XO.val rfl rfl (OV.mv (v := .bool _) rfl) ?_
      refine XO.split (t := 30) rfl (fun hh3 => ?_) (fun hh3 => ?_)
      · replace hh3 := of_decide_eq_true hh3
        iterate 3 refine XO.guard_f rfl rfl rfl rfl ?_
        refine XO.val rfl rfl (OV.pick_t (v := .bool _) rfl rfl) ?_
        refine XO.val rfl rfl (OV.asg (v := .bool _) rfl) ?_
        refine XO.nil ?_
        refine XK.cond_t rfl ?_
        refine XK.seq ?_
        refine XK.region ?_
        refine XO.val rfl rfl (OV.asg (v := .int _ _) rfl) ?_
        refine XO.val rfl rfl (OV.asg (v := .int _ _) rfl) ?_
        refine XO.nil ?_
        refine XK.retTo (Fin.ret (.cons (.tmp (v := .int _ _) rfl) (.cons (.tmp (v := .int _ _) rfl) .nil)) (by first | exact (.cons (x := (g, _)) (by repeat (first | exact Del.hd | apply Del.tl | apply Del.app)) (by repeat (first | exact List.Mem.head _ | apply List.Mem.tail | apply List.mem_append_right)) (.cons (x := (ra, _)) (by repeat (first | exact Del.hd | apply Del.tl | apply Del.app)) (by repeat (first | exact List.Mem.head _ | apply List.Mem.tail | apply List.mem_append_right)) .nil)) | exact (.cons (x := (g, _)) (by repeat (first | exact Del.hd | apply Del.tl | apply Del.app)) (by repeat (first | exact List.Mem.head _ | apply List.Mem.tail | apply List.mem_append_right)) (.cons (x := (q, _)) (by repeat (first | exact Del.hd | apply Del.tl | apply Del.app)) (by repeat (first | exact List.Mem.head _ | apply List.Mem.tail | apply List.mem_append_right)) .nil))) (by intro x hx; simp only [List.mem_cons, List.not_mem_nil, or_false] at hx; rcases hx with rfl | rfl <;> first | (left; ((repeat (first | exact List.Mem.head _ | apply List.Mem.tail))); done) | exact .inr hra | exact hra.elim (fun e => by subst e; left; ((repeat (first | exact List.Mem.head _ | apply List.Mem.tail)))) .inr) ?_)
        first | (have e : G.app p psn b = _ := if_pos (fun h => absurd h (by omega)); rw [e]; exact ⟨⟨some q, cap, sp⟩, rfl, rfl, hO⟩) | (have e : G.app p psn b = _ := (if_neg (fun h => h ⟨by omega, by omega, by omega, by omega⟩)).trans (if_pos hroom); rw [e]; exact ⟨⟨some q, cap, sp⟩, rfl, rfl, hO⟩) | (have e : G.app p psn b = _ := (if_neg (fun h => h ⟨by omega, by omega, by omega, by omega⟩)).trans (if_neg hroom); rw [e]; refine ⟨⟨some ra, ca, sa⟩, rfl, ?_, (own_next hown)⟩; rw [show (lgL r ⟨some q, cap, sp⟩ G).set (0 + 10) (.slice (some ⟨ra, 0, none⟩) (G.l.length + 1) ca) = lgL r ⟨some ra, ca, sa⟩ ({ G with l := G.l ++ [⟨G.node, G.epoch, G.next, p, psn, b⟩] } : Lg) from lgL_set (by rw [List.length_append, List.length_singleton])]; rfl)
      · replace hh3 := of_decide_eq_false hh3
        refine XO.guard_t rfl rfl ?_
        refine XO.val rfl rfl (OV.fa rfl Red5_fa_36_0) ?_
        refine XO.guard_t rfl rfl ?_
        refine XO.val rfl rfl (OV.ld rfl Try.isAgg2 (by repeat (first | exact List.Mem.head _ | apply List.Mem.tail | apply List.mem_append_right)) rfl) ?_
        refine XO.guard_t rfl rfl ?_
        refine XO.val rfl rfl (OV.gtr rfl rfl) ?_
        refine XO.val rfl rfl (OV.pick_f (v := .bool _) rfl rfl) ?_
        refine XO.val rfl rfl (OV.asg (v := .bool _) rfl) ?_
        refine XO.nil ?_
        refine XK.split (t := 13) rfl (fun hh4 => ?_) (fun hh4 => ?_)
        · replace hh4 := of_decide_eq_true hh4
          refine XK.cond_t rfl ?_
          refine XK.seq ?_
          refine XK.region ?_
          refine XO.val rfl rfl (OV.asg (v := .int _ _) rfl) ?_
          refine XO.val rfl rfl (OV.asg (v := .int _ _) rfl) ?_
          refine XO.nil ?_
          refine XK.retTo (Fin.ret (.cons (.tmp (v := .int _ _) rfl) (.cons (.tmp (v := .int _ _) rfl) .nil)) (by first | exact (.cons (x := (g, _)) (by repeat (first | exact Del.hd | apply Del.tl | apply Del.app)) (by repeat (first | exact List.Mem.head _ | apply List.Mem.tail | apply List.mem_append_right)) (.cons (x := (ra, _)) (by repeat (first | exact Del.hd | apply Del.tl | apply Del.app)) (by repeat (first | exact List.Mem.head _ | apply List.Mem.tail | apply List.mem_append_right)) .nil)) | exact (.cons (x := (g, _)) (by repeat (first | exact Del.hd | apply Del.tl | apply Del.app)) (by repeat (first | exact List.Mem.head _ | apply List.Mem.tail | apply List.mem_append_right)) (.cons (x := (q, _)) (by repeat (first | exact Del.hd | apply Del.tl | apply Del.app)) (by repeat (first | exact List.Mem.head _ | apply List.Mem.tail | apply List.mem_append_right)) .nil))) (by intro x hx; simp only [List.mem_cons, List.not_mem_nil, or_false] at hx; rcases hx with rfl | rfl <;> first | (left; ((repeat (first | exact List.Mem.head _ | apply List.Mem.tail))); done) | exact .inr hra | exact hra.elim (fun e => by subst e; left; ((repeat (first | exact List.Mem.head _ | apply List.Mem.tail)))) .inr) ?_)
          first | (have e : G.app p psn b = _ := if_pos (fun h => absurd h (by omega)); rw [e]; exact ⟨⟨some q, cap, sp⟩, rfl, rfl, hO⟩) | (have e : G.app p psn b = _ := (if_neg (fun h => h ⟨by omega, by omega, by omega, by omega⟩)).trans (if_pos hroom); rw [e]; exact ⟨⟨some q, cap, sp⟩, rfl, rfl, hO⟩) | (have e : G.app p psn b = _ := (if_neg (fun h => h ⟨by omega, by omega, by omega, by omega⟩)).trans (if_neg hroom); rw [e]; refine ⟨⟨some ra, ca, sa⟩, rfl, ?_, (own_next hown)⟩; rw [show (lgL r ⟨some q, cap, sp⟩ G).set (0 + 10) (.slice (some ⟨ra, 0, none⟩) (G.l.length + 1) ca) = lgL r ⟨some ra, ca, sa⟩ ({ G with l := G.l ++ [⟨G.node, G.epoch, G.next, p, psn, b⟩] } : Lg) from lgL_set (by rw [List.length_append, List.length_singleton])]; rfl)
        · replace hh4 := of_decide_eq_false hh4
          refine XK.cond_f rfl ?_
          refine XK.seq ?_
          refine XK.region ?_
          refine XO.val rfl rfl (OV.mv (v := .pointer _) rfl) ?_
          refine XO.callV (cap := []) rfl rfl (.cons (v := .pointer _) rfl .nil) Try.call24 (lgRoom_ok g r ⟨some q, cap, sp⟩ G hG) (by repeat (first | exact Sel.nil | refine Sel.cons (by repeat (first | exact Del.hd | apply Del.tl | apply Del.app)) (by repeat (first | exact List.Mem.head _ | apply List.Mem.tail | apply List.mem_append_right)) ?_)) ?_
          refine XO.val rfl rfl (OV.eql rfl rfl) ?_
          refine XO.val rfl rfl (OV.asg (v := .bool _) rfl) ?_
          refine XO.nil ?_
          refine XK.split (t := 35) rfl (fun hh5 => ?_) (fun hh5 => ?_)
          · replace hh5 := of_decide_eq_true hh5
            have hroom : G.room = 0 := hh5
            refine XK.cond_t rfl ?_
            refine XK.seq ?_
            refine XK.region ?_
            refine XO.val rfl rfl (OV.asg (v := .int _ _) rfl) ?_
            refine XO.val rfl rfl (OV.asg (v := .int _ _) rfl) ?_
            refine XO.nil ?_
            refine XK.retTo (Fin.ret (.cons (.tmp (v := .int _ _) rfl) (.cons (.tmp (v := .int _ _) rfl) .nil)) (by first | exact (.cons (x := (g, _)) (by repeat (first | exact Del.hd | apply Del.tl | apply Del.app)) (by repeat (first | exact List.Mem.head _ | apply List.Mem.tail | apply List.mem_append_right)) (.cons (x := (ra, _)) (by repeat (first | exact Del.hd | apply Del.tl | apply Del.app)) (by repeat (first | exact List.Mem.head _ | apply List.Mem.tail | apply List.mem_append_right)) .nil)) | exact (.cons (x := (g, _)) (by repeat (first | exact Del.hd | apply Del.tl | apply Del.app)) (by repeat (first | exact List.Mem.head _ | apply List.Mem.tail | apply List.mem_append_right)) (.cons (x := (q, _)) (by repeat (first | exact Del.hd | apply Del.tl | apply Del.app)) (by repeat (first | exact List.Mem.head _ | apply List.Mem.tail | apply List.mem_append_right)) .nil))) (by intro x hx; simp only [List.mem_cons, List.not_mem_nil, or_false] at hx; rcases hx with rfl | rfl <;> first | (left; ((repeat (first | exact List.Mem.head _ | apply List.Mem.tail))); done) | exact .inr hra | exact hra.elim (fun e => by subst e; left; ((repeat (first | exact List.Mem.head _ | apply List.Mem.tail)))) .inr) ?_)
            first | (have e : G.app p psn b = _ := if_pos (fun h => absurd h (by omega)); rw [e]; exact ⟨⟨some q, cap, sp⟩, rfl, rfl, hO⟩) | (have e : G.app p psn b = _ := (if_neg (fun h => h ⟨by omega, by omega, by omega, by omega⟩)).trans (if_pos hroom); rw [e]; exact ⟨⟨some q, cap, sp⟩, rfl, rfl, hO⟩) | (have e : G.app p psn b = _ := (if_neg (fun h => h ⟨by omega, by omega, by omega, by omega⟩)).trans (if_neg hroom); rw [e]; refine ⟨⟨some ra, ca, sa⟩, rfl, ?_, (own_next hown)⟩; rw [show (lgL r ⟨some q, cap, sp⟩ G).set (0 + 10) (.slice (some ⟨ra, 0, none⟩) (G.l.length + 1) ca) = lgL r ⟨some ra, ca, sa⟩ ({ G with l := G.l ++ [⟨G.node, G.epoch, G.next, p, psn, b⟩] } : Lg) from lgL_set (by rw [List.length_append, List.length_singleton])]; rfl)
          · replace hh5 := of_decide_eq_false hh5
            have hroom : ¬ (G.room = 0) := hh5
            refine XK.cond_f rfl ?_
            refine XK.skip ?_
            refine XK.inblk ?_
            refine XK.seq ?_
            refine XK.region ?_
            refine XO.val rfl rfl (OV.mv (v := .pointer _) rfl) ?_
            refine XO.callV (cap := []) rfl rfl (.cons (v := .pointer _) rfl .nil) Try.call23 (lgNext_ok g r ⟨some q, cap, sp⟩ G hG) (by repeat (first | exact Sel.nil | refine Sel.cons (by repeat (first | exact Del.hd | apply Del.tl | apply Del.app)) (by repeat (first | exact List.Mem.head _ | apply List.Mem.tail | apply List.mem_append_right)) ?_)) ?_
            refine XO.val rfl rfl (OV.asg (v := .int _ _) rfl) ?_
            refine XO.nil ?_
            refine XK.seq ?_
            refine XK.draw [0, 1, 2, 3, 4, 5, 6, 7, 8, 9, 10, 11, 12, 13, 14, 15, 16, 17, 18, 19, 22, 23] [] [0, 20] [0, 1, 2, 3, 4, 5, 6, 7, 8, 9, 10, 11, 12, 13, 14, 15, 16, 17, 18, 19, 20, 21, 22, 23, 24] Red5_mixed (by kernel_rfl) alc_none ?_
            refine TR.vf rfl rfl .n rfl rfl rfl (OV.mv (v := .pointer _) rfl) ?_
            refine TR.v rfl rfl .n rfl rfl rfl (OV.mv (v := .pointer _) rfl) ?_
            refine TR.v rfl rfl .n rfl rfl rfl (OV.nilc rfl) ?_
            refine TR.v rfl rfl .n rfl rfl rfl (OV.fa rfl Red5_fa_155_6) ?_
            refine TR.v rfl rfl .n rfl rfl rfl (OV.ld rfl Try.isAgg43 (by repeat (first | exact List.Mem.head _ | apply List.Mem.tail | apply List.mem_append_right)) rfl) ?_
            refine TR.v rfl rfl .n rfl rfl rfl (OV.mv (v := .pointer _) rfl) ?_
            refine TR.v rfl rfl .n rfl rfl rfl (OV.nilc rfl) ?_
            refine TR.v rfl rfl .n rfl rfl rfl (OV.fa rfl Red5_fa_155_2) ?_
            refine TR.v rfl rfl .n rfl rfl rfl (OV.ld rfl Try.isAgg3 (by repeat (first | exact List.Mem.head _ | apply List.Mem.tail | apply List.mem_append_right)) rfl) ?_
            refine TR.v rfl rfl .n rfl rfl rfl (OV.mv (v := .pointer _) rfl) ?_
            refine TR.v rfl rfl .n rfl rfl rfl (OV.nilc rfl) ?_
            refine TR.v rfl rfl .n rfl rfl rfl (OV.fa rfl Red5_fa_155_3) ?_
            refine TR.v rfl rfl .n rfl rfl rfl (OV.ld rfl Try.isAgg2 (by repeat (first | exact List.Mem.head _ | apply List.Mem.tail | apply List.mem_append_right)) rfl) ?_
            refine TR.v rfl rfl .n rfl rfl rfl (OV.mv (v := .int _ _) rfl) ?_
            refine TR.v rfl rfl .n rfl rfl rfl (OV.mv (v := .int _ _) rfl) ?_
            refine TR.v rfl rfl .n rfl rfl rfl (OV.fa rfl Red5_fa_36_0) ?_
            refine TR.v rfl rfl .n rfl rfl rfl (OV.ld rfl Try.isAgg2 (by repeat (first | exact List.Mem.head _ | apply List.Mem.tail | apply List.mem_append_right)) rfl) ?_
            refine TR.v rfl rfl .n rfl rfl rfl (OV.fa rfl Red5_fa_36_1) ?_
            refine TR.v rfl rfl .n rfl rfl rfl (OV.ldA rfl Try.isAgg34 Try.sizeOf34 (by repeat (first | exact List.Mem.head _ | apply List.Mem.tail | apply List.mem_append_right)) (verL_body psn hb) (by (first | assumption | (simp only [List.length_append, bys_length, b4_len, zrs_len, headB_len, putHead_len, List.length_replicate, List.length_cons, List.length_nil, List.length_set, List.length_take, List.length_drop, recL_len]; done) | (simp only [List.length_append, bys_length, b4_len, zrs_len, headB_len, putHead_len, List.length_replicate, List.length_cons, List.length_nil, List.length_set, List.length_take, List.length_drop, recL_len]; omega) | rfl | (simp [*, bys_length]; done) | (simp [*, bys_length]; omega)))) ?_
            refine TR.v rfl rfl .n rfl rfl rfl (OV.bldS (qs := [(0, .int _ _), (1, .int _ _), (2, .int _ _), (3, .int _ _), (4, .int _ _), (5, .agg _)]) (.cons rfl (.cons rfl (.cons rfl (.cons rfl (.cons rfl (.cons rfl .nil)))))) rfl Red5_pl_52 Red5_zv_52 (fillRec _ _ _ _ _ hb)) ?_
            refine TR.goK rfl rfl rfl ?_
            refine XO.bsl (qs := [(0, .agg _)]) rfl (.cons (v := .agg _) rfl .nil) rfl Try.runUnderlying43 Try.sizeOf52 Red5_zv_52 rfl (by (first | assumption | (simp only [List.length_append, bys_length, b4_len, zrs_len, headB_len, putHead_len, List.length_replicate, List.length_cons, List.length_nil, List.length_set, List.length_take, List.length_drop, recL_len]; done) | (simp only [List.length_append, bys_length, b4_len, zrs_len, headB_len, putHead_len, List.length_replicate, List.length_cons, List.length_nil, List.length_set, List.length_take, List.length_drop, recL_len]; omega) | rfl | (simp [*, bys_length]; done) | (simp [*, bys_length]; omega))) (by decide) (fill1 (by (first | assumption | (simp only [List.length_append, bys_length, b4_len, zrs_len, headB_len, putHead_len, List.length_replicate, List.length_cons, List.length_nil, List.length_set, List.length_take, List.length_drop, recL_len]; done) | (simp only [List.length_append, bys_length, b4_len, zrs_len, headB_len, putHead_len, List.length_replicate, List.length_cons, List.length_nil, List.length_set, List.length_take, List.length_drop, recL_len]; omega) | rfl | (simp [*, bys_length]; done) | (simp [*, bys_length]; omega))) (by (first | assumption | (simp only [List.length_append, bys_length, b4_len, zrs_len, headB_len, putHead_len, List.length_replicate, List.length_cons, List.length_nil, List.length_set, List.length_take, List.length_drop, recL_len]; done) | (simp only [List.length_append, bys_length, b4_len, zrs_len, headB_len, putHead_len, List.length_replicate, List.length_cons, List.length_nil, List.length_set, List.length_take, List.length_drop, recL_len]; omega) | rfl | (simp [*, bys_length]; done) | (simp [*, bys_length]; omega)))) (fun r61 hr61 => ?_)
            refine TR.backK (by repeat (first | exact List.Sublist.refl _ | apply List.Sublist.cons | apply List.sublist_append_of_sublist_right)) ?_
            refine TR.go rfl rfl rfl rfl ?_
            refine XO.apS (bytes := 136) rfl rfl rfl Try.runUnderlying43 Try.runUnderlying43 Try.sizeOf52 Try.typeInfo52 rfl Red5_zv_52 rfl (by (first | assumption | (simp only [List.length_append, bys_length, b4_len, zrs_len, headB_len, putHead_len, List.length_replicate, List.length_cons, List.length_nil, List.length_set, List.length_take, List.length_drop, recL_len]; done) | (simp only [List.length_append, bys_length, b4_len, zrs_len, headB_len, putHead_len, List.length_replicate, List.length_cons, List.length_nil, List.length_set, List.length_take, List.length_drop, recL_len]; omega) | rfl | (simp [*, bys_length]; done) | (simp [*, bys_length]; omega))) (by repeat (first | exact Tak.hd | apply Tak.tl | apply Tak.app)) hO (by repeat (first | exact List.Mem.head _ | apply List.Mem.tail | apply List.mem_append_right)) (grab_all (by (first | assumption | (simp only [List.length_append, bys_length, b4_len, zrs_len, headB_len, putHead_len, List.length_replicate, List.length_cons, List.length_nil, List.length_set, List.length_take, List.length_drop, recL_len]; done) | (simp only [List.length_append, bys_length, b4_len, zrs_len, headB_len, putHead_len, List.length_replicate, List.length_cons, List.length_nil, List.length_set, List.length_take, List.length_drop, recL_len]; omega) | rfl | (simp [*, bys_length]; done) | (simp [*, bys_length]; omega)))) (by (first | assumption | (simp only [List.length_append, bys_length, b4_len, zrs_len, headB_len, putHead_len, List.length_replicate, List.length_cons, List.length_nil, List.length_set, List.length_take, List.length_drop, recL_len]; done) | (simp only [List.length_append, bys_length, b4_len, zrs_len, headB_len, putHead_len, List.length_replicate, List.length_cons, List.length_nil, List.length_set, List.length_take, List.length_drop, recL_len]; omega) | rfl | (simp [*, bys_length]; done) | (simp [*, bys_length]; omega))) (by (repeat (first | with_reducible (apply one_app) | with_reducible exact bys_one | with_reducible exact recL_one _ | with_reducible exact one_rep rfl | exact ones_of rfl | exact bys_one))) (by (first | exact .inr ‹_› | (left; ((repeat (first | exact List.Mem.head _ | apply List.Mem.tail)))))) (by omega) (fun ra ca sa hown hra hwa => ?_)
            apply XO.blk (r := ra)
            · (repeat (first | exact Put.hd | apply Put.tl | apply Put.app))
            · exact (show _ = recsL (G.l ++ [⟨G.node, G.epoch, G.next, p, psn, b⟩]) ++ sa from by rw [recsL_append, recsL_single])
            refine TR.back ?_
            refine TR.v rfl rfl .n rfl rfl rfl (OV.nilc rfl) ?_
            refine TR.v rfl rfl .n rfl rfl rfl (OV.fa rfl Red5_fa_155_6) ?_
            refine TR.go rfl rfl rfl rfl ?_
            refine XO.st rfl (v := .slice _ _ _) rfl rfl Try.sizeOf43 (by repeat (first | exact Put.hd | apply Put.tl | apply Put.app)) (by (first | (simp only [List.length_append, bys_length, b4_len, zrs_len, headB_len, putHead_len, List.length_replicate, List.length_cons, List.length_nil, List.length_set, List.length_take, List.length_drop, recL_len]; omega) | omega | exact Nat.le_of_ble_eq_true rfl | (simp; done) | (simp; omega))) (by (first | exact .inr ‹_› | (left; ((repeat (first | exact List.Mem.head _ | apply List.Mem.tail)))))) ?_
            refine TR.back ?_
            refine TR.nil ?_
            refine XK.seq ?_
            refine XK.region ?_
            refine XO.val rfl rfl (OV.mv (v := .int _ _) rfl) ?_
            refine XO.val rfl rfl (OV.asg (v := .int _ _) rfl) ?_
            refine XO.val rfl rfl (OV.asg (v := .int _ _) rfl) ?_
            refine XO.nil ?_
            refine XK.retTo (Fin.ret (.cons (.tmp (v := .int _ _) rfl) (.cons (.tmp (v := .int _ _) rfl) .nil)) (by first | exact (.cons (x := (g, _)) (by repeat (first | exact Del.hd | apply Del.tl | apply Del.app)) (by repeat (first | exact List.Mem.head _ | apply List.Mem.tail | apply List.mem_append_right)) (.cons (x := (ra, _)) (by repeat (first | exact Del.hd | apply Del.tl | apply Del.app)) (by repeat (first | exact List.Mem.head _ | apply List.Mem.tail | apply List.mem_append_right)) .nil)) | exact (.cons (x := (g, _)) (by repeat (first | exact Del.hd | apply Del.tl | apply Del.app)) (by repeat (first | exact List.Mem.head _ | apply List.Mem.tail | apply List.mem_append_right)) (.cons (x := (q, _)) (by repeat (first | exact Del.hd | apply Del.tl | apply Del.app)) (by repeat (first | exact List.Mem.head _ | apply List.Mem.tail | apply List.mem_append_right)) .nil))) (by intro x hx; simp only [List.mem_cons, List.not_mem_nil, or_false] at hx; rcases hx with rfl | rfl <;> first | (left; ((repeat (first | exact List.Mem.head _ | apply List.Mem.tail))); done) | exact .inr hra | exact hra.elim (fun e => by subst e; left; ((repeat (first | exact List.Mem.head _ | apply List.Mem.tail)))) .inr) ?_)
            first | (have e : G.app p psn b = _ := if_pos (fun h => absurd h (by omega)); rw [e]; exact ⟨⟨some q, cap, sp⟩, rfl, rfl, hO⟩) | (have e : G.app p psn b = _ := (if_neg (fun h => h ⟨by omega, by omega, by omega, by omega⟩)).trans (if_pos hroom); rw [e]; exact ⟨⟨some q, cap, sp⟩, rfl, rfl, hO⟩) | (have e : G.app p psn b = _ := (if_neg (fun h => h ⟨by omega, by omega, by omega, by omega⟩)).trans (if_neg hroom); rw [e]; refine ⟨⟨some ra, ca, sa⟩, rfl, ?_, (own_next hown)⟩; rw [show (lgL r ⟨some q, cap, sp⟩ G).set (0 + 10) (.slice (some ⟨ra, 0, none⟩) (G.l.length + 1) ca) = lgL r ⟨some ra, ca, sa⟩ ({ G with l := G.l ++ [⟨G.node, G.epoch, G.next, p, psn, b⟩] } : Lg) from lgL_set (by rw [List.length_append, List.length_singleton])]; rfl)


theorem lgAppend_ok (g r : Nat) (sl : Sl) (G : Lg) (hG : G.wf) (hO : Mw.Own sl G.l.length (recsL G.l) 101) (p psn : Int) (b : List Int) (hb : b.length = 96) :
    Ct Try.prog 17 [.pointer (some ⟨g, 0, none⟩), .int .i64 p, .agg (List.toArray (verL psn b))] ((g, cel (lgL r sl G) 155) :: slB sl (recsL G.l) 52) (g :: slK sl)
      (fun v L => ∃ sl, v = .tuple (List.toArray [.int .i64 (G.app p psn b).2.1, .int .i64 (G.app p psn b).2.2]) ∧ L = (g, cel (lgL r sl (G.app p psn b).1) 155) :: slB sl (recsL (G.app p psn b).1.l) 52 ∧ Mw.Own sl (G.app p psn b).1.l.length (recsL (G.app p psn b).1.l) 101) := by
  obtain ⟨ro, cap, sp⟩ := sl
  cases ro with
  | none => exact lgAppend_nil g r cap sp G hG hO p psn b hb
  | some q => exact lgAppend_some g r q cap sp G hG hO p psn b hb

end Go.Proofs.Ythophgadmkjamaa
