/- THE ROWS' ARGUMENTS, OPENED, 2: bytes, jobs, steps. -/
import Derived.Test.YthophgadmkjamaaFOpen
import Derived.Test.YthophgadmkjamaaFLaw06c
namespace Go.Mw
open Go
theorem wfs_bytes : ∀ {n : Nat} {cs : List Value}, wfs (List.replicate n (some .u8)) cs → ∃ l, cs = bys l ∧ l.length = n ∧ By l
  | 0, cs, h => ⟨[], wfs_nil h, rfl, fun _ h => nomatch h⟩
  | n + 1, cs, h => by
    rw [List.replicate_succ] at h
    obtain ⟨b, cs', rfl, h1, h2⟩ := wfs_int h
    obtain ⟨l, rfl, h3, h4⟩ := wfs_bytes h2
    refine ⟨b :: l, rfl, by simp [h3], fun x hx => ?_⟩
    rcases List.mem_cons.1 hx with rfl | hx
    · exact wf_u8 h1
    · exact h4 x hx
theorem wfs_job {cs : List Value} (h : wfs [some .i64, some .i64, some .i64, some .i64, some .i64] cs) : ∃ j, cs = jobL j := by
  obtain ⟨a, c1, rfl, _, h⟩ := wfs_int h
  obtain ⟨b, c2, rfl, _, h⟩ := wfs_int h
  obtain ⟨c, c3, rfl, _, h⟩ := wfs_int h
  obtain ⟨d, c4, rfl, _, h⟩ := wfs_int h
  obtain ⟨e, c5, rfl, _, h⟩ := wfs_int h
  rw [wfs_nil h]
  exact ⟨⟨a, b, c, d, e⟩, rfl⟩
theorem wfs_step {cs : List Value} (h : wfs ([some .i64, some .i64] ++ (([some .i64] ++ List.replicate 96 (some .u8)) ++ [some .i64])) cs) : ∃ s : Stp, s.wf ∧ cs = stepL s := by
  obtain ⟨k, c1, rfl, h1, h⟩ := wfs_int h
  obtain ⟨p, c2, rfl, h2, h⟩ := wfs_int h
  obtain ⟨s, c3, rfl, h3, h⟩ := wfs_int h
  obtain ⟨h4, h5⟩ := wfs_split (k1 := List.replicate 96 (some .u8)) (k2 := [some .i64]) h
  obtain ⟨l, h6, h7, h8⟩ := wfs_bytes h4
  obtain ⟨n, c4, h9, h10, h11⟩ := wfs_int h5
  rw [wfs_nil h11] at h9
  refine ⟨⟨k, p, s, l, n⟩, ⟨wf_i64 h1, wf_i64 h2, wf_i64 h3, wf_i64 h10, h7, h8⟩, ?_⟩
  have e := List.take_append_drop (List.replicate 96 (some IntKind.u8)).length c3
  rw [h6, h9] at e
  rw [← e]
  simp [stepL, verL]
/-- What lies at each place, as a list. -/
theorem list_of {α : Type} (z : α) (n : Nat) {p : Nat → α → Prop} (h : ∀ i, i < n → ∃ x, p i x) : ∃ l : List α, l.length = n ∧ ∀ i, i < n → p i (l.getD i z) := by
  induction n with
  | zero => exact ⟨[], rfl, fun i hi => by omega⟩
  | succ n ih =>
    obtain ⟨l, h1, h2⟩ := ih (fun i hi => h i (by omega))
    obtain ⟨x, hx⟩ := h n (by omega)
    refine ⟨l ++ [x], by simp [h1], fun i hi => ?_⟩
    by_cases hlt : i < n
    · have e : (l ++ [x]).getD i z = l.getD i z := by
        simp only [List.getD_eq_getElem?_getD]
        rw [List.getElem?_append_left (by omega)]
      rw [e]; exact h2 i hlt
    · have : i = n := by omega
      subst this
      have e : (l ++ [x]).getD i z = x := by
        simp only [List.getD_eq_getElem?_getD]
        rw [List.getElem?_append_right (by omega), h1]; simp
      rw [e]; exact hx
end Go.Mw
