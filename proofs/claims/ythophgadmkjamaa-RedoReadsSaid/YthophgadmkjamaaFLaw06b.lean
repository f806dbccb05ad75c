/- THE PLAIN LAW OF LAYER 6, 2: the chapter's rows. -/
import Derived.Test.YthophgadmkjamaaFLaw06a
import Derived.Test.YthophgadmkjamaaFSeg
namespace Go.Mw
open Go

def j6 : Job := ⟨2, 1, 1, 4, 2⟩
def R6 (k c : Int) : Rcd := ⟨0, 1, k, 0, k, c :: zrs 95⟩
def G6 (st fl : Int) (l : List Rcd) : Lg := ⟨j6, 0, 1, st, fl, l⟩
theorem b6 (c : Int) : (c :: zrs 95).length = 96 := rfl
theorem b6B {c : Int} (h : 0 ≤ c ∧ c ≤ 255) : By (c :: zrs 95) := by
  intro x hx
  rcases List.mem_cons.1 hx with rfl | hx
  · exact h
  · exact zrs_By 95 x hx
theorem j6may : j6.may = true := by decide
theorem open6 : openG (jobDev j6) j6 0 1 = G6 1 0 [] := by
  have hz := (rec2_zero (j := j6) (node := 0) j6may (by decide) (by decide) 1).2
  unfold openG
  rw [scan_zero j6may (by decide) (by decide), hz]; rfl
theorem scan6 : (jobDev j6).scan j6 0 = [] := scan_zero j6may (by decide) (by decide)
theorem hd6 : ((jobDev j6).hd j6 0).2.2 = 0 := by rw [(rec2_zero (j := j6) (node := 0) j6may (by decide) (by decide) 1).2]
theorem size6 : j6.secs ≤ ((jobDev j6).S.length : Int) := by
  show _ ≤ ((List.replicate j6.secs.toNat (zrs 64)).length : Int)
  rw [List.length_replicate]; decide
theorem a61 : (G6 1 0 []).app 0 1 (97 :: zrs 95) = (G6 1 0 [R6 1 97], 1, 0) := rfl
theorem a62 : (G6 1 0 [R6 1 97]).app 0 2 (97 :: zrs 95) = (G6 1 0 [R6 1 97, R6 2 97], 2, 0) := rfl
theorem a63 : (G6 1 0 [R6 1 97, R6 2 97]).app 0 3 (97 :: zrs 95) = (G6 1 0 [R6 1 97, R6 2 97, R6 3 97], 3, 0) := rfl
theorem a64 : (G6 1 3 [R6 1 97, R6 2 97, R6 3 97]).app 0 4 (98 :: zrs 95) = (G6 1 3 [R6 1 97, R6 2 97, R6 3 97, R6 4 98], 4, 0) := rfl
theorem a65 : (G6 1 3 [R6 1 97, R6 2 97, R6 3 97, R6 4 98]).app 0 5 (99 :: zrs 95) = (G6 1 3 [R6 1 97, R6 2 97, R6 3 97, R6 4 98], 0, 5) := rfl
theorem a66 : (G6 4 4 [R6 4 98]).app 0 5 (99 :: zrs 95) = (G6 4 4 [R6 4 98, R6 5 99], 5, 0) := rfl
theorem a67 : (G6 4 5 [R6 4 98, R6 5 99]).app 0 6 (100 :: zrs 95) = (G6 4 5 [R6 4 98, R6 5 99, R6 6 100], 6, 0) := rfl
theorem flush6 {st fl : Int} {l : List Rcd} {D : Dev} (h : fl + 1 < st + l.length) (hE : ¬ (1 < D.E 0)) : (G6 st fl l).flush D = (G6 st (st + l.length - 1) l, ((G6 st fl l).flush D).2.1, 0) := by
  have e : (G6 st fl l).flush D = (G6 st (st + l.length - 1) l, _, 0) := (if_neg (show ¬ (st + (l.length : Int) ≤ fl + 1) by omega)).trans (if_neg (show ¬ ((1 : Int) < D.E (0 : Int).toNat) from hE))
  rw [e]
theorem cut6 {st fl s : Int} {l : List Rcd} {D : Dev} (h : st ≤ s ∧ s ≤ fl + 1) (hE : ¬ (1 < D.E 0)) : (G6 st fl l).cut D s = (G6 s fl (l.drop (s - st).toNat), ((G6 st fl l).cut D s).2.1, 0) := by
  have e : (G6 st fl l).cut D s = (G6 s fl (l.drop (s - st).toNat), _, 0) := (if_neg (show ¬ ¬ (st ≤ s ∧ s ≤ fl + 1) from fun hh => hh h)).trans (if_neg (show ¬ ((1 : Int) < D.E (0 : Int).toNat) from hE))
  rw [e]
theorem LInv.open6 {k : Nat} {st fl : Int} {l : List Rcd} {D : Dev} (h : LInv j6 0 k (G6 st fl l) D) (hk : k ≤ 1000) (hall : fl + 1 = st + l.length) : openG D j6 0 1 = G6 st fl l ∧ D.scan j6 0 = l ∧ (D.hd j6 0).2.2 = 0 := by
  obtain ⟨e, _, hh⟩ := h.hd
  have hs := h.scan hk
  have hs' : D.scan j6 0 = l := by
    rw [hs]
    exact List.take_of_length_le (by show l.length ≤ (fl - st + 1).toNat; omega)
  refine ⟨?_, hs', by rw [hh]⟩
  unfold openG
  rw [hs', hh]
  show (⟨j6, 0, 1, st, st + (l.length : Int) - 1, l⟩ : Lg) = ⟨j6, 0, 1, st, fl, l⟩
  rw [show st + (l.length : Int) - 1 = fl from by omega]
theorem Dev.wf.up1 {D : Dev} (h : D.wf) (hl : ¬ (D.cut = true ∧ D.left = 0)) {i : Nat} (he : D.E i < 2147483647) : (D.tick.up1 i).wf := by
  obtain ⟨h1, h2, h3, h4, h5, h6, h7, h8⟩ := h.tick hl
  have e : D.tick.E = D.E := rfl
  refine ⟨h1, h2, h3, h4, fun k => ?_, fun k => ?_, h7, h8⟩ <;> simp only [Dev.up1, updE] <;> split <;> first | exact h5 k | exact h6 k | (have := h5 i; rw [e] at this ⊢; omega)
theorem slK_next {c : Cx} {sl : Sl} {xs : List Value} {T : TypeId} {M : List Nat} (hn : ∀ x ∈ slB sl xs T, x.1 ∈ M ∨ c.B.heap.size ≤ x.1) (hM : ∀ r ∈ M, Wr c r) : ∀ r ∈ slK sl, Wr c r := slK_of (fun x hx => (hn x hx).elim (hM x.1) .inr)
end Go.Mw
