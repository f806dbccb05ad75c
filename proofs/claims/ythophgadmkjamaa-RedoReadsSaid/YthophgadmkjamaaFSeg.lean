/- THE ENGINE, 13: segments of the list of blocks that are not spelled out. -/
import Derived.Test.YthophgadmkjamaaFIter
import Derived.Test.YthophgadmkjamaaFRedo1
namespace Go.Mw
open Go

/-- A segment taken out of the list. -/
inductive TakL (S : List Blk) : List Blk → List Blk → Prop where
  | hd {L} : TakL S (S ++ L) L
  | last : TakL S S []
  | tl {x L L'} (h : TakL S L L') : TakL S (x :: L) (x :: L')
  | app {A L L'} (h : TakL S L L') : TakL S (A ++ L) (A ++ L')
theorem TakL.split {S L L' : List Blk} (h : TakL S L L') : ∃ a b, L = a ++ (S ++ b) ∧ L' = a ++ b := by
  induction h with
  | hd => exact ⟨[], _, rfl, rfl⟩
  | last => exact ⟨[], [], by simp, rfl⟩
  | @tl x _ _ _ ih => obtain ⟨a, b, rfl, rfl⟩ := ih; exact ⟨x :: a, b, rfl, rfl⟩
  | @app A _ _ _ ih => obtain ⟨a, b, rfl, rfl⟩ := ih; exact ⟨A ++ a, b, by simp, by simp⟩
theorem Sel.seg {S L L' T : List Blk} (h : TakL S L L') (t : Sel L' T) : Sel L (S ++ T) := by
  obtain ⟨a, b, rfl, rfl⟩ := h.split
  exact Sel.mid t
theorem Sel.seg1 {S L L' : List Blk} (h : TakL S L L') : Sel L S := by
  have := Sel.seg h (Sel.nil (L := L'))
  rwa [List.append_nil] at this
theorem Sel.segA {S L L' T : List Blk} (h : TakL S L L') (t : Sel L' T) : Sel L (List.append S T) := Sel.seg h t
theorem Sel.nilA {L T : List Blk} (h : Sel L T) : Sel L (List.append [] T) := h
theorem TakL.hdA {S L : List Blk} : TakL S (List.append S L) L := TakL.hd
theorem TakL.nilA {S L L' : List Blk} (h : TakL S L L') : TakL S (List.append [] L) L' := h
theorem TakL.appA {S A L L' : List Blk} (h : TakL S L L') : TakL S (List.append A L) (A ++ L') := TakL.app h
theorem bneq_f {a b : Int} (h : a = b) : (!decide (a = b)) = false := by rw [decide_eq_true h]; rfl
theorem Del.mid {r : Nat} {o : Obj} {a b : List Blk} : Del r (a ++ (r, o) :: b) (a ++ b) := by
  induction a with
  | nil => exact .hd
  | cons x a ih => exact .tl ih
theorem Rem.seg {sl : Sl} {xs : List Value} {T : TypeId} {L L' : List Blk} (h : TakL (slB sl xs T) L L') : Rem (slK sl) L L' := by
  obtain ⟨a, b, rfl, rfl⟩ := h.split
  obtain ⟨ro, cap, sp⟩ := sl
  cases ro with
  | none => exact .nil
  | some q => exact .cons Del.mid .nil
theorem slK_of {sl : Sl} {xs : List Value} {T : TypeId} {p : Nat → Prop} (h : ∀ x ∈ slB sl xs T, p x.1) : ∀ r ∈ slK sl, p r := by
  obtain ⟨ro, cap, sp⟩ := sl
  cases ro with
  | none => intro r hr; simp [slK] at hr
  | some q => intro r hr; simp [slK] at hr; subst hr; exact h _ (.head _)
theorem slB_of {sl : Sl} {xs : List Value} {T : TypeId} {p : Nat → Prop} (h : ∀ r ∈ slK sl, p r) : ∀ x ∈ slB sl xs T, p x.1 := by
  obtain ⟨ro, cap, sp⟩ := sl
  cases ro with
  | none => intro x hx; cases hx
  | some q => intro x hx; rw [List.mem_singleton.1 hx]; exact h q (by simp [slK])
theorem wrs_app {c : Cx} {a b : List Nat} (h : ∀ r ∈ a, Wr c r) (t : ∀ r ∈ b, Wr c r) : ∀ r ∈ a ++ b, Wr c r := by
  intro r hr
  rcases List.mem_append.1 hr with h1 | h1
  · exact h r h1
  · exact t r h1
theorem mkB_of {Ds : List Nat} {p : Nat → Prop} (h : ∀ D ∈ Ds, p D) : ∀ x ∈ mkB Ds, p x.1 := by
  intro x hx
  obtain ⟨D, hD, rfl⟩ := List.mem_map.1 hx
  exact h D hD
theorem Marks.seg {Wp : Nat → Prop} {Ds : List Nat} {L L' : List Blk} (h : TakL (mkB Ds) L L') (hw : ∀ D ∈ Ds, Wp D) : Marks Wp (mkDs Ds) L L' := by
  obtain ⟨a, b, rfl, rfl⟩ := h.split
  clear h
  induction Ds with
  | nil => exact .nil
  | cons D Ds ih =>
    refine .cons (L1 := a ++ (mkB Ds ++ b)) ?_ (hw D (.head _)) (ih (fun x hx => hw x (.tail _ hx)))
    exact Tak.app (by exact Tak.hd)
/-- A slice that holds something has a block. -/
theorem own_some {sl : Sl} {n sz : Nat} {xs : List Value} (h : Own sl n xs sz) (hn : n ≠ 0) : ∃ q cap sp, sl = ⟨some q, cap, sp⟩ := by
  obtain ⟨ro, cap, sp⟩ := sl
  cases ro with
  | none => exact absurd h.2.1 hn
  | some q => exact ⟨q, cap, sp, rfl⟩
end Go.Mw
