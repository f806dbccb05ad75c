/- The row of the statement RedoReads: for every input the Go function returns true and leaves what came in as it was; no condition. -/
import Derived.Test.YthophgadmkjamaaRows
import Derived.Test.YthophgadmkjamaaFOpen2
import Derived.Test.YthophgadmkjamaaFWalk6a
import Derived.WalkKit
import Derived.ProofKit
import Derived.OpenShut
import Derived.ShutString
import Derived.ChangeOld
import Derived.Below
import Derived.SizedLaws
namespace Go.Proofs.Ythophgadmkjamaa.redoReads
open Go Go.ChangeShapes Go.WideShapes Go.ChangeAt Go.RowKit
open Go.Mw (FlK)
set_option linter.unusedVariables false
set_option maxRecDepth 100000
theorem own : ownKnob Try.prog.godebug = none := by kernel_rfl
theorem laidOut : laidOutB Try.prog = true := by kernel_rfl
theorem flk_7_3 : FlK Try.prog 7 3 ([some .i64]) := .inl ⟨.i64, by kernel_rfl, rfl⟩
theorem flk_8_23 : FlK Try.prog 8 23 (([some .i64]) ++ ([some .i64]) ++ ([some .i64]) ++ ([some .i64]) ++ ([some .i64]) ++ []) := .inr (.inr (.inr ⟨Try.prog.fieldsOf 23, by kernel_rfl, by kernel_rfl, ⟨rfl, [some .i64], _, rfl, by kernel_rfl, flk_7_3, ⟨rfl, [some .i64], _, rfl, by kernel_rfl, flk_7_3, ⟨rfl, [some .i64], _, rfl, by kernel_rfl, flk_7_3, ⟨rfl, [some .i64], _, rfl, by kernel_rfl, flk_7_3, ⟨rfl, [some .i64], _, rfl, by kernel_rfl, flk_7_3, rfl⟩⟩⟩⟩⟩⟩))
theorem flk_6_2 : FlK Try.prog 6 2 ([some .i64]) := .inl ⟨.i64, by kernel_rfl, rfl⟩
theorem flk_5_5 : FlK Try.prog 5 5 ([some .u8]) := .inl ⟨.u8, by kernel_rfl, rfl⟩
theorem flk_6_34 : FlK Try.prog 6 34 (List.replicate 96 (some .u8)) := .inr (.inr (.inl ⟨96, 5, [some .u8], by kernel_rfl, by kernel_rfl, by kernel_rfl, flk_5_5, by kernel_rfl⟩))
theorem flk_7_36 : FlK Try.prog 7 36 (([some .i64]) ++ (List.replicate 96 (some .u8)) ++ []) := .inr (.inr (.inr ⟨Try.prog.fieldsOf 36, by kernel_rfl, by kernel_rfl, ⟨rfl, [some .i64], _, rfl, by kernel_rfl, flk_6_2, ⟨rfl, List.replicate 96 (some .u8), _, rfl, by kernel_rfl, flk_6_34, rfl⟩⟩⟩))
theorem flk_7_2 : FlK Try.prog 7 2 ([some .i64]) := .inl ⟨.i64, by kernel_rfl, rfl⟩
theorem flk_8_38 : FlK Try.prog 8 38 (([some .i64]) ++ ([some .i64]) ++ (([some .i64]) ++ (List.replicate 96 (some .u8)) ++ []) ++ ([some .i64]) ++ []) := .inr (.inr (.inr ⟨Try.prog.fieldsOf 38, by kernel_rfl, by kernel_rfl, ⟨rfl, [some .i64], _, rfl, by kernel_rfl, flk_7_3, ⟨rfl, [some .i64], _, rfl, by kernel_rfl, flk_7_3, ⟨rfl, ([some .i64]) ++ (List.replicate 96 (some .u8)) ++ [], _, rfl, by kernel_rfl, flk_7_36, ⟨rfl, [some .i64], _, rfl, by kernel_rfl, flk_7_2, rfl⟩⟩⟩⟩⟩))
set_option maxRecDepth 100000 in
theorem lifted (os : Os) (started : os.Started) (H : Type) (enc : TypeId × Value → H) :
    ReturnsInHanded {} Try.checked os 3 .any (Rows.redoReadsSpec.pre6 enc Try.prog Try.f3 Rows.redoReadsRow.domain false) (Rows.redoReadsSpec.post enc Try.prog Try.f3 false true false false) := by
  refine returnsInHanded_of_change_sized (C := Try.checked) own started (by kernel_rfl) Try.func3
    (ChangeSpec.witness6 (enc := enc) (C := Try.checked) false ⟨#[], #[.agg (List.toArray ([.int .i64 0, .int .i64 0, .int .i64 0, .int .i64 0, .int .i64 0])), .int .i64 0, .slice none 0 0], []⟩ 12 (by kernel_rfl) (by kernel_rfl) (by kernel_rfl) (by kernel_rfl)) ?_
  intro W base args ds gs before hval0 hW hcnd hsz0 _
  have hsz : (DataW.weightsEach Try.prog (Try.f3.params.toList ++ Rows.redoReadsSpec.plain.varTypes Try.prog) (ds ++ gs)).all (· ≤ reachBytes) = true := hsz0
  have hval : ∀ (j : Nat) t v, Try.f3.params[j]? = some t → args[j]? = some v → Value.okWide Try.prog W .any base t v := hval0
  have hW' := hW
  obtain ⟨p, q, hA0, hV, rfl, hfz, hnd⟩ := hW
  have hA : DataW.TrodAll enc Try.prog W 0 (fun _ => true) true Try.f3.params.toList args.toList ds p := hA0
  rw [Try.params3] at hA hval hsz
  obtain ⟨v0, vs0, d0, ds0, p0, q0, hargs, rfl, rfl, h0, r0⟩ := trodAll_cons hA
  obtain ⟨v1, vs1, d1, ds1, p1, q1, rfl, rfl, rfl, h1, r1⟩ := trodAll_cons r0
  obtain ⟨v2, vs2, d2, ds2, p2, q2, rfl, rfl, rfl, h2, r2⟩ := trodAll_cons r1
  obtain ⟨rfl, rfl, rfl⟩ := trodAll_nil r2
  obtain rfl : args = #[v0, v1, v2] := by cases args; simp_all
  obtain ⟨rfl, rfl⟩ := trodVars_none hV
  have k0 := h0
  have lt0 : ∀ x ∈ p0, x.block < W.heap.size := by obtain ⟨m, hm⟩ := k0; exact DataW.trod_lt m _ _ _ hm
  obtain ⟨c0, rfl, w0⟩ := Go.Mw.open_flk flk_8_23 (by kernel_rfl) (hval 0 23 v0 rfl rfl) h0
  obtain ⟨a1, rfl, rfl, rfl, w1⟩ := open_int Try.underlying3 (hval 1 3 v1 rfl rfl) h1
  obtain ⟨a2, len2, cap2, rfl⟩ := okWide_slice Try.underlying24 (hval 2 24 v2 rfl rfl)
  have k2 := h2
  have lt2 : ∀ x ∈ p2, x.block < W.heap.size := by obtain ⟨m, hm⟩ := k2; exact DataW.trod_lt m _ _ _ hm
  have w2 := Go.Mw.open_row Try.underlying24 flk_8_38 (by kernel_rfl) (by decide) h2
  clear hA0 hval0 hsz0 hsz
  refine (redoReads_walk W _ w0 _ w1 _ _ _ w2).mono fun e W' ⟨he, bel⟩ => ?_
  subst he
  exact ⟨_, rfl, _, _, _, [], _, [], hW', trodAll_mk1 (shut_bool Try.underlying4 _), (trodAll_cons_mk (Below.trod laidOut (by kernel_rfl) (of_decide_eq_true (by kernel_rfl)) k0 bel lt0) (trodAll_cons_mk (shut_int Try.underlying3 w1) (trodAll_cons_mk (Below.trod laidOut (by kernel_rfl) (of_decide_eq_true (by kernel_rfl)) k2 bel lt2) trodAll_mk0))), rfl, bel.frame _, fun h => by cases h⟩
set_option maxHeartbeats 8000000 in
theorem closed : joinedFacts Try.pinned.checked.prog 3 Try.f3 Rows.redoReadsSpec Rows.redoReadsRow = true := by
  simp only [joinedFacts, Bool.and_eq_true]
  repeat' apply And.intro
  all_goals (as_aux_lemma => kernel_rfl)
theorem named : Try.pinned.checked.prog.funcNamed Rows.redoReadsRow.func = some 3 := by kernel_rfl
theorem over : Rows.redoReadsRow.holds Try.pinned (OpenSpec.ofChange Rows.redoReadsSpec) :=
  OpenClaim.holds_of_wide 3 Try.f3 rfl rfl rfl rfl rfl rfl rfl ⟨rfl, rfl, rfl, rfl, rfl⟩ rfl rfl rfl rfl rfl named Try.func3 closed
    (of_decide_eq_true (by kernel_rfl)) (by unfold Func.isWrapper; first | (rw [if_pos (by decide +kernel)]; kernel_rfl) | (rw [if_neg (by decide +kernel)]; exact ⟨rfl, rfl⟩))
    (fun os started H enc _ => lifted os started H enc)
theorem proved : Rows.RedoReadsSaid := over
end Go.Proofs.Ythophgadmkjamaa.redoReads
namespace Go.Proofs.Ythophgadmkjamaa
theorem redoReads_holds : Rows.RedoReadsSaid := redoReads.proved
#print axioms redoReads_holds
end Go.Proofs.Ythophgadmkjamaa
