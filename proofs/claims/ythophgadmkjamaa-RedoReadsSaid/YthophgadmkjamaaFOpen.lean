/- THE ROWS' ARGUMENTS, OPENED: values made of whole numbers and bools; slices of such. -/
import Derived.Test.YthophgadmkjamaaFCall
import Derived.ChangeShapes
import Derived.ChangeArms
import Derived.OpenShut
namespace Go.Mw
open Go Go.ChangeShapes Go.WideShapes

/-- Cells of given kinds, each within its kind. -/
def wfs : List (Option IntKind) → List Value → Prop
  | [], [] => True
  | some k :: ks, .int k' n :: cs => k' = k ∧ (Lit.int k n).wf = true ∧ wfs ks cs
  | none :: ks, .bool _ :: cs => wfs ks cs
  | _, _ => False
theorem wfs_length : ∀ {ks : List (Option IntKind)} {cs : List Value}, wfs ks cs → cs.length = ks.length
  | [], [], _ => rfl
  | some k :: ks, .int k' n :: cs, h => by simp [wfs_length h.2.2]
  | none :: ks, .bool _ :: cs, h => by simp [wfs_length (ks := ks) (cs := cs) h]
theorem wfs_append : ∀ {k1 k2 : List (Option IntKind)} {c1 c2 : List Value}, wfs k1 c1 → wfs k2 c2 → wfs (k1 ++ k2) (c1 ++ c2)
  | [], _, [], _, _, h => h
  | some k :: ks, _, .int k' n :: cs, _, h, h2 => ⟨h.1, h.2.1, wfs_append h.2.2 h2⟩
  | none :: ks, _, .bool _ :: cs, _, h, h2 => wfs_append (k1 := ks) (c1 := cs) h h2
theorem wfs_split : ∀ {k1 k2 : List (Option IntKind)} {cs : List Value}, wfs (k1 ++ k2) cs → wfs k1 (cs.take k1.length) ∧ wfs k2 (cs.drop k1.length)
  | [], k2, cs, h => ⟨trivial, by simpa using h⟩
  | some k :: ks, k2, .int k' n :: cs, h => by
    have := wfs_split (k1 := ks) h.2.2
    exact ⟨⟨h.1, h.2.1, this.1⟩, this.2⟩
  | none :: ks, k2, .bool _ :: cs, h => by
    have := wfs_split (k1 := ks) (k2 := k2) (cs := cs) h
    exact this

def FlKF (P : Program) (F : TypeId → List (Option IntKind) → Prop) : Nat → List Field → List (Option IntKind) → Prop
  | _, [], ks => ks = []
  | off, f :: fs, ks => f.offset = off ∧ ∃ s1 s2, ks = s1 ++ s2 ∧ P.cellsOf f.type = s1.length ∧ F f.type s1 ∧ FlKF P F (off + s1.length) fs s2
def FlK (P : Program) : Nat → TypeId → List (Option IntKind) → Prop
  | 0, _, _ => False
  | d + 1, t, ks =>
    (∃ k, P.underlying t = some (.int k) ∧ ks = [some k]) ∨ (P.underlying t = some .bool ∧ ks = [none]) ∨
    (∃ m e s, P.underlying t = some (.array m e) ∧ P.cellsOf e = s.length ∧ P.cellsOf t = m * s.length ∧ FlK P d e s ∧ ks = (List.replicate m s).flatten) ∨
    (∃ fs, P.underlying t = some (.struct fs) ∧ P.cellsOf t = ks.length ∧ FlKF P (FlK P d) 0 fs.toList ks)

section
variable {H : Type} {enc : TypeId × Value → H} {P : Program} {w : World} {base : Nat} {spare : Nat → Bool} {held : Bool}
theorem flk_fields {F : TypeId → List (Option IntKind) → Prop} {g : TypeId → List Value → Prop} (hF : ∀ t ks cs, F t ks → g t cs → wfs ks cs) (cs : List Value) : ∀ (fs : List Field) (off : Nat) (ks : List (Option IntKind)), FlKF P F off fs ks → cs.length = off + ks.length →
    (∀ f ∈ fs, g f.type ((cs.drop f.offset).take (P.cellsOf f.type))) → wfs ks (cs.drop off)
  | [], off, ks, h, hl, _ => by
    have h : ks = [] := h
    subst h
    rw [List.drop_of_length_le (by simp at hl; omega)]; trivial
  | f :: fs, off, ks, h, hl, hg => by
    obtain ⟨rfl, s1, s2, rfl, hc, h1, h2⟩ := h
    have hx := hF _ _ _ h1 (hg f (.head _))
    rw [hc] at hx
    have ih := flk_fields hF cs fs (f.offset + s1.length) s2 h2 (by rw [hl, List.length_append]; omega) (fun f' hf' => hg f' (.tail _ hf'))
    have e : cs.drop f.offset = (cs.drop f.offset).take s1.length ++ cs.drop (f.offset + s1.length) := by
      rw [← List.drop_drop, List.take_append_drop]
    rw [e]
    exact wfs_append hx ih
theorem flk_items {s : List (Option IntKind)} (cs : List Value) : ∀ (m i : Nat), cs.length = (i + m) * s.length → (∀ k, i ≤ k → k < i + m → wfs s ((cs.drop (k * s.length)).take s.length)) → wfs (List.replicate m s).flatten (cs.drop (i * s.length))
  | 0, i, hl, _ => by
    rw [List.drop_of_length_le (by simp at hl; omega)]; trivial
  | m + 1, i, hl, h => by
    have ih := flk_items cs m (i + 1) (by rw [hl]; congr 1; omega) (fun k h1 h2 => h k (by omega) (by omega))
    have e : cs.drop (i * s.length) = (cs.drop (i * s.length)).take s.length ++ cs.drop ((i + 1) * s.length) := by
      rw [Nat.succ_mul, ← List.drop_drop, List.take_append_drop]
    rw [e, List.replicate_succ, List.flatten_cons]
    exact wfs_append (h i (Nat.le_refl _) (by omega)) ih
theorem trod_flk : ∀ (d : Nat) (t : TypeId) (ks : List (Option IntKind)), FlK P d t ks → ∀ (fuel : Nat) (cs : List Value) (x : DataW H × List MemPlace), DataW.trod enc P w base spare held fuel t cs = some x → wfs ks cs
  | 0, _, _, h, _, _, _, _ => h.elim
  | d + 1, t, ks, h, fuel, cs, x, hx => by
    rcases h with ⟨k, ht, rfl⟩ | ⟨ht, rfl⟩ | ⟨m, e, s, ht, hc, hct, he, rfl⟩ | ⟨fs, ht, hc, hf⟩
    · obtain ⟨n, rfl, _, hw⟩ := DataW.trod_int ht hx
      exact ⟨rfl, hw, trivial⟩
    · obtain ⟨b, rfl, _⟩ := DataW.trod_bool ht hx
      exact trivial
    · obtain ⟨xs, m', _, _, hl, hxl, hi⟩ := DataW.trod_array ht hx
      have := flk_items (s := s) cs m 0 (by rw [hl, hct]; simp) (fun k _ hk => by
        have hk' : k < m := by omega
        have h1 := hi k hk'
        rw [hc] at h1
        rw [List.getElem?_eq_getElem (by omega)] at h1
        exact trod_flk d e s he m' _ _ h1)
      simpa using this
    · obtain ⟨xs, m', _, _, hl, hxl, hi⟩ := DataW.trod_struct ht hx
      have := flk_fields (P := P) (F := FlK P d) (g := fun t cs => ∃ fuel x, DataW.trod enc P w base spare held fuel t cs = some x) (fun t ks cs h1 ⟨fu, x, h2⟩ => trod_flk d t ks h1 fu cs x h2) cs fs.toList 0 ks hf (by rw [hl, hc]; omega) (fun f hf' => by
        obtain ⟨i, hi', rfl⟩ := List.mem_iff_getElem.1 hf'
        have h1 := hi i fs.toList[i] (by simp)
        have hlt : i < xs.length := by rw [hxl]; simpa using hi'
        rw [List.getElem?_eq_getElem hlt] at h1
        exact ⟨m', _, h1⟩)
      simpa using this

/-- A struct or an array by value, opened. -/
theorem open_flk {r : Reach} {b0 d : Nat} {t : TypeId} {ks : List (Option IntKind)} {v : Value} {dd : DataW H} {ps : List MemPlace} (h : FlK P d t ks) (hs : (match P.underlying t with | some (.struct _) => true | some (.array _ _) => true | _ => false) = true)
    (hval : Value.okWide P w r b0 t v) (hd : DataW.Trod enc P w base spare held t v dd ps) : ∃ cs, v = .agg (List.toArray cs) ∧ wfs ks cs := by
  obtain ⟨fuel, hf⟩ := hd
  unfold Value.okWide at hval
  cases hu : P.underlying t with
  | none => rw [hu] at hs; cases hs
  | some td =>
    rw [hu] at hs hval
    cases td <;> simp only at hs <;> first | (cases hs; done) | skip
    all_goals
      simp only at hval
      obtain ⟨cs, rfl, _, _⟩ := hval
      refine ⟨cs.toList, by simp, ?_⟩
      exact trod_flk d t ks h fuel _ _ (by simpa [Value.cells] using hf)

/-- A slice of such, opened. -/
theorem open_row {t e : TypeId} {d : Nat} {ks : List (Option IntKind)} {a : Option Addr} {len cap : Nat} {dd : DataW H} {ps : List MemPlace} (ht : P.underlying t = some (.slice e)) (h : FlK P d e ks) (hc : P.cellsOf e = ks.length) (h0 : 0 < ks.length)
    (hd : DataW.Trod enc P w base spare held t (.slice a len cap) dd ps) :
    (len = 0 ∧ (a = none → cap = 0)) ∨ ∃ b off lq el fr, a = some ⟨b, off, none⟩ ∧ w.heap[b]? = some (.cells (List.toArray lq) el fr) ∧ len ≤ cap ∧ ∀ i, i < len → wfs ks ((lq.drop (off + i * ks.length)).take ks.length) := by
  obtain ⟨fuel, hf⟩ := hd
  simp only [Value.cells] at hf
  cases fuel with
  | zero => simp [DataW.trod] at hf
  | succ fuel =>
    simp only [DataW.trod, ht] at hf
    cases a with
    | none =>
      left
      cases len with
      | zero => cases cap with
        | zero => exact ⟨rfl, fun _ => rfl⟩
        | succ => simp at hf
      | succ => simp at hf
    | some a =>
      by_cases hl : len = 0
      · exact .inl ⟨hl, fun h => by cases h⟩
      · right
        simp only at hf
        split at hf
        · rename_i hcc
          simp only [Option.bind_eq_some_iff] at hf
          obtain ⟨elems, he, _⟩ := hf
          have hel : ∀ i, i < len → ∃ cs, w.cells? base (a.add (i * P.cellsOf e)) (P.cellsOf e) = some cs ∧ wfs ks cs := by
            intro i hi
            have h1 := mapM_some_get he i i (by simp [hi])
            have hlen := mapM_some_length he
            rw [List.length_range] at hlen
            rw [List.getElem?_eq_getElem (by omega)] at h1
            rw [Option.bind_eq_some_iff] at h1
            obtain ⟨cs, h2, h3⟩ := h1
            exact ⟨cs, h2, trod_flk d e ks h fuel cs _ h3⟩
          obtain ⟨cs0, h00, h01⟩ := hel 0 (by omega)
          obtain ⟨_, hl0, hcell0⟩ := World.cells?_some h00
          have hw0 := wfs_length h01
          have hc0 := hcell0 0 (by omega)
          rw [List.getElem?_eq_getElem (by omega)] at hc0
          obtain ⟨b, off, sp⟩ := a
          have ha0 : ((⟨b, off, sp⟩ : Addr).add (0 * P.cellsOf e)).add 0 = ⟨b, off, sp⟩ := by simp [Addr.add]
          rw [ha0] at hc0
          unfold World.cell? at hc0
          cases hh : w.heap[b]? with
          | none => rw [hh] at hc0; simp at hc0
          | some o =>
            rw [hh] at hc0
            cases o with
            | cells c el fr =>
              cases sp with
              | some sp => simp at hc0
              | none =>
                refine ⟨b, off, c.toList, el, fr, rfl, by simp [hh], hcc.2.1, fun i hi => ?_⟩
                obtain ⟨cs, h1, h2⟩ := hel i hi
                obtain ⟨_, hl1, hcell⟩ := World.cells?_some h1
                have he : (c.toList.drop (off + i * ks.length)).take ks.length = cs := by
                  apply List.ext_getElem?
                  intro j
                  by_cases hj : j < ks.length
                  · have h3 := hcell j (by omega)
                    rw [addr_add, addr_add] at h3
                    unfold World.cell? at h3
                    simp only [hh] at h3
                    rw [List.getElem?_take_of_lt hj, List.getElem?_drop, ← h3, hc]
                    simp
                  · rw [List.getElem?_eq_none (by rw [List.length_take]; omega), List.getElem?_eq_none (by omega)]
                rw [he]; exact h2
            | _ => simp at hc0
        · cases hf
end
end Go.Mw
namespace Go.Mw
open Go
theorem wfs_int {k : IntKind} {ks : List (Option IntKind)} {cs : List Value} (h : wfs (some k :: ks) cs) : ∃ n cs', cs = .int k n :: cs' ∧ (Lit.int k n).wf = true ∧ wfs ks cs' := by
  cases cs with
  | nil => exact h.elim
  | cons v cs =>
    cases v with
    | int k' n => obtain ⟨rfl, h1, h2⟩ := h; exact ⟨n, cs, rfl, h1, h2⟩
    | _ => exact h.elim
theorem wfs_nil {cs : List Value} (h : wfs [] cs) : cs = [] := by
  cases cs with
  | nil => rfl
  | cons => exact h.elim
theorem wf_i64 {n : Int} (h : (Lit.int .i64 n).wf = true) : -9223372036854775808 ≤ n ∧ n ≤ 9223372036854775807 := by
  simp [Lit.wf, IntKind.min, IntKind.max, IntKind.signed, IntKind.bits] at h
  omega
theorem wf_u8 {n : Int} (h : (Lit.int .u8 n).wf = true) : 0 ≤ n ∧ n ≤ 255 := by
  simp [Lit.wf, IntKind.min, IntKind.max, IntKind.signed, IntKind.bits] at h
  omega
theorem Ct.calls {P : Program} {f : FuncId} {args : List Value} {L : List Blk} {R : Value → List Blk → Prop} (h : Ct P f args L [] R) {w : World} (hs : Hs L w) :
    Calls P f (List.toArray args) w fun e w' => ∃ v L', e = .returned v ∧ Go.RowKit.Below w.heap.size w w' ∧ R v L' :=
  (callsIn_wide.1 (h w hs)).mono fun _ _ ⟨v, L', h1, h2, _, _, h5⟩ => ⟨v, L', h1, h2.below, h5⟩
end Go.Mw
