/- How large a term is with its names spelled out: the reference. -/
import Derived.Test.YtoegbphkheohoaaSizeP
import Derived.Test.YtoegbphkheohoaaGoodS
import Derived.Test.YtoegbphkheohoaaTypeInF
namespace Go.Proofs.Ytoegbphkheohoaa
open Go.RowKit
namespace Ints
open Fld (inR)

/-- Every name in the term is a definition whose size the list has. -/
def namedIn (ds : List DefL) (m : Nat) (ns : List NodeL) : Prop := ∀ k, k < ns.length → (nAt ns k).kind = 17 → ∃ i, findD ds (nAt ns k).name = some i ∧ i < m

theorem named_body {ds : List DefL} {k : Nat} (h : defB ds k = true) : namedIn ds k (dAt ds k).body := by
  intro j hj h17
  obtain ⟨i, hi⟩ := typeOf_named (defB_parts h).2.2 j hj h17
  obtain ⟨h1, h2⟩ := find_take hi
  exact ⟨i, h1, h2⟩
theorem named_term {ds : List DefL} {ns : List NodeL} {p : Int × Int} (h : typeOf ds ns = some p) : namedIn ds ds.length ns := by
  intro j hj h17
  obtain ⟨i, hi⟩ := typeOf_named h j hj h17
  exact ⟨i, hi, by unfold findD at hi; rw [List.findIdx?_eq_some_iff_getElem] at hi; exact hi.1⟩

theorem scanB_some {ds : List DefL} (hd : bndD ds) (ns : List NodeL) : scanB ds ns = (typeOf ds ns).isSome := by
  rcases scan_type hd ns with ⟨h1, h2⟩ | ⟨tr, p, h1, _, h2, _⟩
  · rw [h1, h2]; rfl
  · rw [h1, h2]; rfl
theorem typI_lib {ds : List DefL} {ns : List NodeL} {p : Int × Int} (h : typI ds ns = some p) : libB ds = true ∧ typeOf ds ns = some p := by
  cases hl : libB ds with
  | false => rw [typI_no hl] at h; cases h
  | true => exact ⟨rfl, by rw [← typI_yes hl]; exact h⟩

set_option maxRecDepth 100000 in
set_option maxHeartbeats 2000000 in
theorem lbTerm_any (vd vn : Value) (ds : List DefL) (ns : List NodeL) (w : World) (hd : ReadsD w vd ds) (h : ReadsN w vn ns) :
    Calls Try.prog 23 #[vd, .agg #[vn]] w fun e w' => e = .returned (.bool (typI ds ns).isSome) ∧ Below w.heap.size w w' := by
  obtain ⟨w0, hw0⟩ : ∃ W, W = w.alloc (.cells #[vn] 35) := ⟨_, rfl⟩
  have hB := Lib.hid (show Below w.heap.size w w0 by rw [hw0]; exact below_alloc (Below.refl _ _))
  have hg := Lib.hid (lbGood_any vd ds w0 (hd.below hB.out))
  have hsc := Lib.hid (fun (hl : libB ds = true) W (hW : Below w.heap.size w W) => lbScan_any vd vn ds ns (libB_all hl).2.2.1 W (hd.below hW) (h.below hW))
  have hx0 := Lib.hid (show w0.cell? ⟨w.heap.size, 0, none⟩ = some vn by rw [hw0]; simp [go_sem])
  have HW := Lib.hid hw0
  obtain ⟨a, cap, rfl⟩ := h.form
  obtain ⟨ad, capd, rfl⟩ := hd.form
  clear h hd hw0
  cases hl : libB ds with
  | false =>
    rw [typI_no hl]
    rw [hl] at hg
    clear hl hsc
    go_enter Try.func23, Try.ntmps23
    go_wp2_with fail
    rw [← HW.out]
    refine hg.out.mono ?_
    rintro e w1 ⟨rfl, hb⟩
    have HB1 := Lib.hid (below_step hB.out hb)
    clear hb
    go_wp2
    go_ret
    exact ⟨rfl, HB1.out⟩
  | true =>
    rw [typI_yes hl, ← scanB_some (libB_all hl).2.2.1]
    have hs2 := Lib.hid (hsc.out hl)
    rw [hl] at hg
    obtain ⟨b, hb⟩ : ∃ b, scanB ds ns = b := ⟨_, rfl⟩
    rw [hb] at hs2 ⊢
    clear hl hsc hb
    go_enter Try.func23, Try.ntmps23
    go_wp2_with fail
    rw [← HW.out]
    refine hg.out.mono ?_
    rintro e w1 ⟨rfl, hb⟩
    have HB1 := Lib.hid (below_step hB.out hb)
    have x0 := cell_old hb hx0.out
    clear hb
    go_wp2_with fail
    refine (hs2.out w1 HB1.out).mono ?_
    rintro e w2 ⟨a1, n1, c1, a2, n2, c2, a3, n3, c3, rfl, -, hb⟩
    have HB2 := Lib.hid (below_step HB1.out hb)
    clear hb x0
    go_wp2
    go_ret
    exact ⟨rfl, below_alloc HB2.out⟩

/-- A term's size in a library, as the functions return it. -/
def eszP (ds : List DefL) (ns : List NodeL) : Int × Bool :=
  if (typI ds ns).isSome = true then (if 1000000 < sizeN (atD ds (sizesD ds ds.length)) ns then (0, false) else (sizeN (atD ds (sizesD ds ds.length)) ns, true)) else (0, false)

end Ints
end Go.Proofs.Ytoegbphkheohoaa
