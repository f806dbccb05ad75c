/- THE PLAIN DATA, 3: a device written. -/
import Derived.Test.YthophgadmkjamaaFDefs2
namespace Go.Mw
open Go

theorem Dev.wf.get {D : Dev} (h : D.wf) {k : Nat} (hk : k < D.S.length) : (D.S.getD k []).length = 64 ∧ By (D.S.getD k []) := by
  have : D.S.getD k [] ∈ D.S := by
    rw [List.getD_eq_getElem?_getD, List.getElem?_eq_getElem hk]; exact List.getElem_mem hk
  exact h.sec _ this
def whoI (D : Dev) (n e : Int) (more : Bool) : Int := if ¬ (0 ≤ e ∧ e ≤ D.E n.toNat ∧ more = true) then 2 else if e < D.E n.toNat then 8 else 0

def Dev.wrs (D : Dev) (f : Int) : List (List Int) → Dev
  | [] => D
  | x :: xs => if (D.dos (·.wr1 f.toNat x)).2 = true then (D.dos (·.wr1 f.toNat x)).1.wrs (f + 1) xs else (D.dos (·.wr1 f.toNat x)).1
theorem Dev.wf.wr1 {D : Dev} (h : D.wf) (k : Nat) {x : List Int} (hx : x.length = 64) (hB : By x) : (D.wr1 k x).wf := by
  obtain ⟨h1, h2, h3, h4, h5, h6, h7, h8⟩ := h
  refine ⟨fun y hy => ?_, by simpa [Dev.wr1] using h2, h3, h4, h5, h6, h7, h8⟩
  rcases List.mem_or_eq_of_mem_set hy with h | rfl
  · exact h1 y h
  · exact ⟨hx, hB⟩
theorem Dev.wf.dos {D : Dev} (h : D.wf) {f : Dev → Dev} (hf : ∀ D' : Dev, D'.wf → (f D').wf) : (D.dos f).1.wf := by
  unfold Dev.dos
  split
  · obtain ⟨h1, h2, h3, h4, h5, h6, h7, h8⟩ := h
    exact ⟨h1, h2, h3, h4, h5, h6, h7, h8⟩
  · exact hf _ (h.tick ‹_›)
theorem dos_len {D : Dev} (k : Nat) (x : List Int) : (D.dos (·.wr1 k x)).1.S.length = D.S.length := by
  unfold Dev.dos; split
  · rfl
  · simp [Dev.wr1, Dev.tick]
theorem wrs_drop {D : Dev} {f : Int} {l : List (List Int)} {x : Nat} (hx : x < l.length) :
    D.wrs (f + x) (l.drop x) = if (D.dos (·.wr1 (f + x).toNat (l.getD x []))).2 = true then (D.dos (·.wr1 (f + x).toNat (l.getD x []))).1.wrs (f + (x + 1 : Nat)) (l.drop (x + 1)) else (D.dos (·.wr1 (f + x).toNat (l.getD x []))).1 := by
  have e : l.drop x = l.getD x [] :: l.drop (x + 1) := by
    rw [List.drop_eq_getElem_cons hx, List.getD_eq_getElem?_getD, List.getElem?_eq_getElem hx]; rfl
  rw [e, Dev.wrs, show f + (x : Int) + 1 = f + ((x + 1 : Nat) : Int) from by omega]
theorem wrs_end {D : Dev} {f : Int} {l : List (List Int)} {x : Nat} (hx : l.length ≤ x) : D.wrs (f + x) (l.drop x) = D := by
  rw [List.drop_of_length_le hx, Dev.wrs]
theorem getD_sec {l : List (List Int)} (h : ∀ y ∈ l, y.length = 64 ∧ By y) {x : Nat} (hx : x < l.length) : (l.getD x []).length = 64 ∧ By (l.getD x []) := by
  have : l.getD x [] ∈ l := by
    rw [List.getD_eq_getElem?_getD, List.getElem?_eq_getElem hx]; exact List.getElem_mem hx
  exact h _ this
end Go.Mw
