/- RedoReads, from the walk to the row. -/
import Derived.Test.YthophgadmkjamaaFOpen2
import Derived.Test.YthophgadmkjamaaFRed11
namespace Go.Proofs.Ythophgadmkjamaa
open Go Go.Mw Go.Proofs
theorem redoReads_walk (W : World) (c0 : List Value) (w0 : wfs ([some .i64] ++ ([some .i64] ++ ([some .i64] ++ ([some .i64] ++ ([some .i64] ++ []))))) c0) (a1 : Int) (w1 : (Lit.int .i64 a1).wf = true) (a2 : Option Addr) (len2 cap2 : Nat)
    (w2 : (len2 = 0 ∧ (a2 = none → cap2 = 0)) ∨ ∃ b off lq el fr, a2 = some ⟨b, off, none⟩ ∧ W.heap[b]? = some (.cells (List.toArray lq) el fr) ∧ len2 ≤ cap2 ∧ ∀ i, i < len2 → wfs ([some .i64] ++ ([some .i64] ++ (([some .i64] ++ (List.replicate 96 (some .u8) ++ [])) ++ ([some .i64] ++ [])))) ((lq.drop (off + i * 100)).take 100)) :
    Calls Try.prog 3 (List.toArray [.agg (List.toArray c0), .int .i64 a1, .slice a2 len2 cap2]) W fun e W' => e = .returned (.bool true) ∧ RowKit.Below W.heap.size W W' := by
  obtain ⟨j, rfl⟩ := wfs_job w0
  rcases w2 with ⟨rfl, _⟩ | ⟨b, off, lq, el, fr, rfl, hb, _, hrow⟩
  · exact ((redoReads_nil j a1 a2 cap2).calls (Hs.nil W)).mono fun e W' ⟨v, L', h1, h2, h3⟩ => ⟨by rw [h1, h3.1], h2⟩
  · obtain ⟨st, hl, hst⟩ := list_of zStp len2 (p := fun i s => s.wf ∧ (lq.drop (off + i * 100)).take 100 = stepL s) (fun i hi => by
      obtain ⟨s, h1, h2⟩ := wfs_step (by simpa using hrow i hi)
      exact ⟨s, h1, h2⟩)
    subst hl
    exact ((redoReads_some j a1 b off cap2 lq el fr st (fun i hi => (hst i hi).2) (fun i hi => (hst i hi).1)).calls ⟨List.pairwise_singleton _ _, fun x hx => by rw [List.mem_singleton.1 hx]; exact hb⟩).mono fun e W' ⟨v, L', h1, h2, h3⟩ => ⟨by rw [h1, h3.1], h2⟩
end Go.Proofs.Ythophgadmkjamaa
