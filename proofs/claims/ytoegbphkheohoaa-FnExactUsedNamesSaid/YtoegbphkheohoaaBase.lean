/- How a law's call is closed: what was read before the call reads the same behind it, where below the heap's old size nothing has turned. -/
import Derived.WalkKit
import Derived.ProofKit
import Derived.OpenShut
import Derived.OpenVars
import Derived.Deep.DeepHandedRow
import Derived.Lib.LaidTab
import Derived.Lib.Hide
namespace Go.Proofs.Ytoegbphkheohoaa
open Go.ChangeShapes Go.WideShapes Go.ChangeAt Go.RowKit

/-- Each type is a row of the table and can be read. -/
def typesRowed (P : Program) (ts : List TypeId) : Bool := ts.all fun t => P.readableRec t && decide (t < P.types.size)

theorem below_trodAll {H : Type} {enc : TypeId × Value → H} {P : Program} (hl : laidOutB P = true) {W W' : World} (hb : Below W.heap.size W W') :
    ∀ {ts : List TypeId} {vs : List Value} {ds : List (DataW H)} {ps : List MemPlace}, typesRowed P ts = true → (∀ p ∈ ps, p.block < W.heap.size) → DataW.TrodAll enc P W 0 (fun _ => true) true ts vs ds ps →
      DataW.TrodAll enc P W' 0 (fun b => decide (b < W.heap.size)) true ts vs ds ps
  | [], vs, ds, ps, _, _, h => by
    obtain ⟨rfl, rfl, rfl⟩ := trodAll_nil h
    exact trodAll_mk0
  | t :: ts, vs, ds, ps, ht, hlt, h => by
    obtain ⟨v, vs', d, ds', p, q, rfl, rfl, rfl, h1, h2⟩ := trodAll_cons h
    simp only [typesRowed, List.all_cons, Bool.and_eq_true, decide_eq_true_eq] at ht
    exact trodAll_cons_mk (Below.trod hl ht.1.1 ht.1.2 h1 hb fun x hx => hlt x (by simp [hx])) (below_trodAll hl hb (by simpa [typesRowed] using ht.2) (fun x hx => hlt x (by simp [hx])) h2)

/-- A law's end: it returned true, and below the heap's old size nothing has turned. -/
theorem law_post {H : Type} {enc : TypeId × Value → H} {P : Program} {f : Func} {s : ChangeSpec} {W W' : World} {args : Array Value} {ds gs : List (DataW H)} {before : List MemPlace} {tb : TypeId}
    (hW : DataW.Whole enc P f.params.toList s.vars false W args.toList ds gs before) (hb : Below W.heap.size W W')
    (hl : laidOutB P = true) (ht : typesRowed P f.params.toList = true) (hv : varsRowed P s.vars = true) (hr : f.resultTypes = #[tb]) (hu : P.underlying tb = some .bool)
    (hfn : s.fn H (ds ++ gs) = { results := [.lit (.bool true)], args := ds, vars := gs }) :
    s.post enc P f false true false false W args (.bool true) W' := by
  have hlt : ∀ p ∈ before, p.block < W.heap.size := fun p hp => hW.lt p hp
  have hW' := hW
  obtain ⟨p, q, hA, hV, rfl, hz, hn⟩ := hW
  refine ⟨ds, gs, p ++ q, [], p, q, hW', ?_, ?_, ?_, hb.frame _, fun h => by cases h⟩
  · rw [hr, hfn]
    exact trodAll_cons_mk (shut_bool hu _) trodAll_mk0
  · rw [hfn]
    exact below_trodAll hl hb ht (fun x hx => hlt x (by simp [hx])) hA
  · rw [hfn]
    exact Below.trodVars hl hb hv hV

/-- The table of small primes lies in block 0. -/
def Tab (w : World) : Prop := ∃ t fr, w.heap[0]? = some (.cells #[.int .i64 2, .int .i64 3, .int .i64 5, .int .i64 7] t fr)

theorem Tab.below {B : Nat} {w w' : World} (h : Tab w) (hB : 0 < B) (hb : Below B w w') : Tab w' := by
  obtain ⟨t, fr, hg⟩ := h
  exact ⟨t, fr, by rw [hb.block 0 hB]; exact hg⟩
theorem Tab.size {w : World} (h : Tab w) : 0 < w.heap.size := by
  obtain ⟨t, fr, hg⟩ := h
  exact (Array.getElem?_eq_some_iff.1 hg).1

theorem tab_of_is {P : Program} {W : World} {name : String} (hg : P.globalNamed name = some 0) (h : Lib.TabIs P W name .i64 [2, 3, 5, 7]) : Tab W := by
  unfold Lib.TabIs World.var? at h
  rw [hg] at h
  simp only [Option.bind_some] at h
  split at h
  · rename_i cs t fr e
    obtain rfl := Option.some.inj h
    exact ⟨t, fr, e⟩
  · cases h

end Go.Proofs.Ytoegbphkheohoaa
