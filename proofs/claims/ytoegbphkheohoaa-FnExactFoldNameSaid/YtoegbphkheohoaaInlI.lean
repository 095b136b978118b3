/- A term with a name replaced: the program. -/
import Derived.Test.YtoegbphkheohoaaInlS
import Derived.Test.YtoegbphkheohoaaMarkD
namespace Go.Proofs.Ytoegbphkheohoaa
open Go.RowKit
namespace Ints

set_option maxHeartbeats 1000000 in
theorem isNamed_any (vd vn : Value) (ds : List DefL) (ns : List NodeL) (s : ByteArray) (hbd : totD ds ≤ 1048576) (hbn : totN ns ≤ 1048576) (w : World) (hd : ReadsD w vd ds) (h : ReadsN w vn ns) :
    Calls Try.prog 35 #[vd, .agg #[vn], .string s] w fun e w' => e = .returned (.bool ((typI ds ns).isSome && (findD ds s).isSome)) ∧ Below w.heap.size w w' := by
  obtain ⟨w0, hw0⟩ : ∃ W, W = w.alloc (.cells #[vn] 35) := ⟨_, rfl⟩
  have hB := Lib.hid (show Below w.heap.size w w0 by rw [hw0]; exact below_alloc (Below.refl _ _))
  have HT := Lib.hid (isTermIn_any vd vn ds ns (by omega) (by omega) w0 (hd.below hB.out) (h.below hB.out))
  have HF := Lib.hid (fun W (hW : Below w.heap.size w W) => indexOf_any vd ds s W (hd.below hW))
  obtain ⟨ad, cd, rfl⟩ := hd.form
  obtain ⟨an, cn, rfl⟩ := h.form
  have HW := Lib.hid hw0
  obtain ⟨tb, htb⟩ : ∃ b, (typI ds ns).isSome = b := ⟨_, rfl⟩
  rw [htb] at HT ⊢
  obtain ⟨fo, hfo⟩ : ∃ f, findD ds s = f := ⟨_, rfl⟩
  rw [hfo] at HF ⊢
  clear hd h hw0 htb hfo hbd hbn
  cases tb with
  | false =>
    rw [Bool.false_and]
    go_enter Try.func35, Try.ntmps35
    go_wp2_with fail
    rw [← HW.out]
    refine HT.out.mono ?_
    rintro e w1 ⟨rfl, hb1⟩
    have HB1 := Lib.hid (below_step hB.out hb1)
    clear hb1
    go_wp2
    go_ret
    exact ⟨rfl, HB1.out⟩
  | true =>
    rw [Bool.true_and]
    obtain ⟨jv, hjv⟩ : ∃ j, idxI fo = j := ⟨_, rfl⟩
    rw [hjv] at HF
    have hdj : decide (0 ≤ jv) = fo.isSome := by
      rw [← hjv]
      cases fo with
      | none => rfl
      | some k => simp [idxI]
    obtain ⟨b, hb⟩ : ∃ b, fo.isSome = b := ⟨_, rfl⟩
    rw [hb] at hdj ⊢
    clear hjv hb
    go_enter Try.func35, Try.ntmps35
    go_wp2_with fail
    rw [← HW.out]
    refine HT.out.mono ?_
    rintro e w1 ⟨rfl, hb1⟩
    have HB1 := Lib.hid (below_step hB.out hb1)
    clear hb1
    go_wp2_with fail
    refine (HF.out w1 HB1.out).mono ?_
    rintro e w2 ⟨rfl, hb2⟩
    have HB2 := Lib.hid (below_step HB1.out hb2)
    clear hb2
    go_wp2
    go_ret
    exact ⟨rfl, HB2.out⟩

theorem row_apart {w : World} {base size n b : Nat} {v : Value} {xs cs : List Value} (h : w.ownsRow base 71 size v n xs) (hb : w.heap[b]? = some (.cells cs.toArray 35 (0, 0))) : ¬ v.ownBlock = some b := by
  intro e
  rcases h.2 with ⟨rfl, _⟩ | ⟨g, cap, cur, rfl, _, hg, _⟩
  · cases e
  · simp [Value.ownBlock] at e
    subst e
    rw [hg] at hb
    simp at hb

theorem inlR_ctr (ds : List DefL) (ns : List NodeL) (s : ByteArray) : (1 : Int) + (sumN (inlR ds ns s) : Int) ≤ 1000000000 := by
  have h : (inlR ds ns s).length ≤ 400 := by
    unfold inlR inlO
    split
    · split
      · split
        · simpa using by assumption
        · exact Nat.zero_le _
      · exact Nat.zero_le _
    · exact Nat.zero_le _
  unfold sumN
  omega

end Ints
end Go.Proofs.Ytoegbphkheohoaa
