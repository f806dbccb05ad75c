/- THE PLAIN DATA, 2: sectors, epochs, what a device does. -/
import Derived.Test.YthophgadmkjamaaFDefs
namespace Go.Mw
open Go

theorem flat_len {S : List (List Int)} (h : ∀ x ∈ S, x.length = 64) : S.flatten.length = S.length * 64 := by
  induction S with
  | nil => rfl
  | cons a S ih =>
    rw [List.flatten_cons, List.length_append, ih (fun x hx => h x (.tail _ hx)), h a (.head _), List.length_cons]; omega
theorem flat_drop {S : List (List Int)} (h : ∀ x ∈ S, x.length = 64) (k : Nat) : S.flatten.drop (k * 64) = (S.drop k).flatten := by
  induction S generalizing k with
  | nil => simp
  | cons a S ih =>
    cases k with
    | zero => simp
    | succ k =>
      rw [List.flatten_cons, List.drop_append, h a (.head _), List.drop_of_length_le (by rw [h a (.head _)]; omega)]
      rw [show (k + 1) * 64 - 64 = k * 64 from by omega, ih (fun x hx => h x (.tail _ hx))]
      simp
theorem sec_take {S : List (List Int)} (h : ∀ x ∈ S, x.length = 64) {k : Nat} (hk : k < S.length) : ((bys S.flatten).drop (k * 64)).take 64 = bys (S.getD k []) := by
  rw [bys_mid, flat_drop h]
  congr 1
  rw [List.drop_eq_getElem_cons hk, List.flatten_cons, List.take_left' (h _ (List.getElem_mem hk)), List.getD_eq_getElem?_getD, List.getElem?_eq_getElem hk]
  rfl
theorem flat_take {S : List (List Int)} (h : ∀ x ∈ S, x.length = 64) (k : Nat) : S.flatten.take (k * 64) = (S.take k).flatten := by
  induction S generalizing k with
  | nil => simp
  | cons a S ih =>
    cases k with
    | zero => simp
    | succ k =>
      rw [List.flatten_cons, List.take_append, h a (.head _), List.take_of_length_le (by rw [h a (.head _)]; omega)]
      rw [show (k + 1) * 64 - 64 = k * 64 from by omega, ih (fun x hx => h x (.tail _ hx))]
      simp
theorem sec_put {S : List (List Int)} (h : ∀ x ∈ S, x.length = 64) {k : Nat} (hk : k < S.length) {x : List Int} (hx : x.length = 64) : splice (bys S.flatten) (k * 64) (bys x) = bys (S.set k x).flatten := by
  have hb : ∀ l n, (bys l).take n = bys (l.take n) := fun l n => by simp [bys, List.map_take]
  have hd : ∀ l n, (bys l).drop n = bys (l.drop n) := fun l n => by simp [bys, List.map_drop]
  simp only [splice, bys_length, hx, hb, hd]
  rw [show k * 64 + 64 = (k + 1) * 64 from by omega, flat_drop h, flat_take h, ← bys_append, ← bys_append]
  congr 1
  rw [List.set_eq_take_append_cons_drop, if_pos hk]
  simp

def updE (E : Nat → Int) (i : Nat) (v : Int) : Nat → Int := fun k => if k = i then v else E k
theorem set_epoch (s : Nat) (D : Dev) (v : Int) {i : Nat} (h : i < 8) : (devL s D).set (1 + i) (.int .i64 v) = devL s { D with E := updE D.E i v } := by
  match i, h with
  | 0, _ => rfl
  | 1, _ => rfl
  | 2, _ => rfl
  | 3, _ => rfl
  | 4, _ => rfl
  | 5, _ => rfl
  | 6, _ => rfl
  | 7, _ => rfl

def Dev.tick (D : Dev) : Dev := { D with left := if D.cut = true then D.left - 1 else D.left, done := IntKind.i64.wrap (D.done + 1) }
def Dev.up1 (D : Dev) (i : Nat) : Dev := { D with E := updE D.E i (D.E i + 1) }
def Dev.wr1 (D : Dev) (k : Nat) (x : List Int) : Dev := { D with S := D.S.set k x }
def Dev.dos (D : Dev) (f : Dev → Dev) : Dev × Bool := if D.cut = true ∧ D.left = 0 then ({ D with lost := true }, false) else (f D.tick, true)
theorem Dev.wf.tick {D : Dev} (h : D.wf) (hl : ¬ (D.cut = true ∧ D.left = 0)) : D.tick.wf := by
  obtain ⟨h1, h2, h3, h4, h5, h6, h7, h8⟩ := h
  refine ⟨h1, h2, h3, h4, h5, h6, ?_, ?_⟩ <;> simp only [Dev.tick] <;> split <;> first | (rename_i hc; have : D.left ≠ 0 := fun e => hl ⟨hc, e⟩; omega) | assumption
end Go.Mw
namespace Go.Mw
open Go
theorem tick_t {s : Nat} {D : Dev} (h : D.cut = true) : ((devL s D).set 11 (.int .i64 (D.left - 1))).set 13 (.int .i64 (IntKind.i64.wrap (D.done + 1))) = devL s D.tick := by
  simp [Dev.tick, h, devL]
theorem tick_f {s : Nat} {D : Dev} (h : D.cut = false) : (devL s D).set 13 (.int .i64 (IntKind.i64.wrap (D.done + 1))) = devL s D.tick := by
  simp [Dev.tick, h, devL]
theorem dos_no {D : Dev} {f : Dev → Dev} (h : D.cut = true) (h0 : D.left = 0) : D.dos f = ({ D with lost := true }, false) := if_pos ⟨h, h0⟩
theorem dos_yes {D : Dev} {f : Dev → Dev} (h : ¬ (D.cut = true ∧ D.left = 0)) : D.dos f = (f D.tick, true) := if_neg h
end Go.Mw
namespace Go.Mw
theorem devL_wr1 (s : Nat) (D : Dev) (k : Nat) (x : List Int) : devL s (D.wr1 k x) = devL s D := by simp [devL, Dev.wr1]
end Go.Mw
namespace Go.Mw
open Go
def devAt (k : Nat) (n : Int) (i : Nat) : Dev := ⟨List.replicate k (zrs 64), fun e => if e < i then 1 else 0, n, false, 0, false, i⟩
theorem zrs_By (n : Nat) : By (zrs n) := by
  intro b hb
  simp only [zrs, List.mem_replicate] at hb
  rw [hb.2]; decide
theorem devAt_wf {k : Nat} {n : Int} (i : Nat) (hk : k ≤ 4096) (h0 : 1 ≤ n) (h1 : n ≤ 8) : (devAt k n i).wf := by
  refine ⟨?_, by simpa [devAt] using hk, h0, h1, fun e => ?_, fun e => ?_, by simp [devAt], by simp [devAt]⟩
  · intro x hx
    simp only [devAt, List.mem_replicate] at hx
    rw [hx.2]; exact ⟨zrs_len 64, zrs_By 64⟩
  · simp only [devAt]; split <;> omega
  · simp only [devAt]; split <;> omega
theorem devAt_up {k : Nat} {n : Int} {i : Nat} (hi : i ≤ 8) : ((devAt k n i).dos (·.up1 i)).1 = devAt k n (i + 1) := by
  rw [dos_yes (by simp [devAt])]
  simp only [Dev.up1, Dev.tick, devAt]
  congr 1
  · funext e
    simp only [updE]
    by_cases h : e = i
    · subst h; simp
    · rw [if_neg h]
      by_cases h2 : e < i
      · rw [if_pos h2, if_pos (by omega)]
      · rw [if_neg h2, if_neg (by omega)]
  · rw [wrap_in (by omega)]; omega
theorem secs_zero (k : Nat) : (List.replicate k (bys (zrs 64))).flatten = bys (List.replicate k (zrs 64)).flatten := by
  induction k with
  | zero => rfl
  | succ k ih => rw [List.replicate_succ, List.flatten_cons, ih, List.replicate_succ, List.flatten_cons, bys_append]
def jobDev (j : Job) : Dev := devAt j.secs.toNat j.nodes j.nodes.toNat
end Go.Mw
