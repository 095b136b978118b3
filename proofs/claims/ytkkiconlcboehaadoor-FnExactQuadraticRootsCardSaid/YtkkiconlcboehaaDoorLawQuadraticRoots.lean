/- The law FnExactQuadraticRoots: both functions gather the same list, each in memory of its own. -/
import Derived.Test.YtkkiconlcboehaaDoorQuad
namespace Go.Proofs.YtkkiconlcboehaaDoor.fnExactQuadraticRoots
open Go.RowKit Fld Ints

theorem spec_any (a0 a1 a2 a3 : Int) (w : World) (h : (twoB a0 a1 a2 && inB a0 a3) = false) :
    Calls Tryd.prog 31 #[.int .i64 a0, .int .i64 a1, .int .i64 a2, .int .i64 a3] w (IntsRes w [] false) := by
  cases ht : twoB a0 a1 a2 with
  | false =>
    go_enter Tryd.func31, Tryd.ntmps31
    go_wp2_with (go_at_call 38; ((with_reducible refine (fdTwo_any _ _ _ _).mono ?_); rintro e w' ⟨rfl, rfl⟩))
    go_ret2
    exact intsRes_nil (Below.refl _ _)
  | true =>
    have hb := ht
    simp only [twoB, Bool.and_eq_true] at hb
    obtain ⟨p2, p97⟩ := good_bounds hb.1.1
    have g1 : inR a3 0 (a0 - 1) = false := by rw [inR_eq]; simpa [ht] using h
    clear hb
    go_enter Tryd.func31, Tryd.ntmps31
    go_wp2_with (first | (go_at_call 38; ((with_reducible refine (fdTwo_any _ _ _ _).mono ?_); rintro e w' ⟨rfl, rfl⟩)) | (go_at_call 47; ((with_reducible refine (l1In_any _ _ _ _).mono ?_); rintro e w' ⟨rfl, rfl⟩)))
    go_ret2
    exact intsRes_nil (Below.refl _ _)
theorem impl_any (a0 a1 a2 a3 : Int) (w : World) (hT : Tab w) (h : (twoB a0 a1 a2 && inB a0 a3) = false) :
    Calls Tryd.prog 32 #[.int .i64 a0, .int .i64 a1, .int .i64 a2, .int .i64 a3] w (IntsRes w [] false) := by
  go_enter Tryd.func32, Tryd.ntmps32
  go_wp2_with (go_at_call 40; ((with_reducible refine (areEl3 _ _ _ _ _ hT).mono ?_); rintro e w' ⟨rfl, rfl⟩))
  go_ret2
  exact intsRes_nil ((Below.refl _ _).alloc (Nat.le_refl _) _)

/-- What both return. -/
theorem both (a0 a1 a2 a3 : Int) : ∃ l b, l.length ≤ 97 ∧ (∀ w, Calls Tryd.prog 31 #[.int .i64 a0, .int .i64 a1, .int .i64 a2, .int .i64 a3] w (IntsRes w l b)) ∧
    ∀ w, Tab w → Calls Tryd.prog 32 #[.int .i64 a0, .int .i64 a1, .int .i64 a2, .int .i64 a3] w (IntsRes w l b) := by
  cases h : (twoB a0 a1 a2 && inB a0 a3) with
  | false => exact ⟨[], false, by simp, fun w => spec_any a0 a1 a2 a3 w h, fun w hT => impl_any a0 a1 a2 a3 w hT h⟩
  | true =>
    have hb := h
    simp only [twoB, Bool.and_eq_true] at hb
    obtain ⟨⟨⟨hg, h1⟩, h2⟩, h3⟩ := hb
    obtain ⟨p2, p97⟩ := good_bounds hg
    obtain ⟨b0, b1⟩ := in_bounds h1
    obtain ⟨c0, c1⟩ := in_bounds h2
    obtain ⟨d0, d1⟩ := in_bounds h3
    have ht : twoB a0 a1 a2 = true := by simp [twoB, hg, h1, h2]
    obtain ⟨p, rfl⟩ := Int.eq_ofNat_of_zero_le (a := a0) (by omega)
    obtain ⟨a, rfl⟩ := Int.eq_ofNat_of_zero_le b0
    obtain ⟨b, rfl⟩ := Int.eq_ofNat_of_zero_le c0
    obtain ⟨c, rfl⟩ := Int.eq_ofNat_of_zero_le d0
    exact ⟨quadL p a b c p, true, Nat.le_trans (quadL_le p a b c p) (by omega), fun w => spec_Quad_yes p a b c (by omega) (by omega) (by omega) (by omega) (by omega) ht w,
      fun w hT => impl_Quad_yes p a b c (by omega) (by omega) (by omega) (by omega) (by omega) h w hT⟩

set_option maxHeartbeats 2000000 in
theorem walk (a0 : Int) (_w0 : (Lit.int .i64 a0).wf = true) (a1 : Int) (_w1 : (Lit.int .i64 a1).wf = true) (a2 : Int) (_w2 : (Lit.int .i64 a2).wf = true) (a3 : Int) (_w3 : (Lit.int .i64 a3).wf = true) (w : World) (ht : Tab w) :
    Calls Tryd.prog 12 #[.int .i64 a0, .int .i64 a1, .int .i64 a2, .int .i64 a3] w fun e w' => e = .returned (.bool true) ∧ Below w.heap.size w w' := by
  obtain ⟨l, b, hl, hs, hi⟩ := both a0 a1 a2 a3
  have hs' := Lib.hid hs
  have hi' := Lib.hid hi
  have hbb : (b != b) = false := by simp
  clear hs hi
  go_enter Tryd.func12, Tryd.ntmps12
  go_wp2_with fail
  refine (hs'.out w).mono ?_
  rintro e w1 ⟨v0, n0, rfl, ho0, hb0, hl0⟩
  have hT1 := ht.below (Nat.lt_of_lt_of_le ht.size (Nat.le_refl _)) hl0
  go_wp2_with fail
  refine (hi'.out w1 hT1).mono ?_
  rintro e w2 ⟨v1, n1, rfl, ho1, hb1, hl1⟩
  have hn0 := ho0.1
  have hn1 := ho1.1
  rw [ofL_length, Nat.mul_one] at hn0 hn1
  subst hn0 hn1
  have B12 := hl1
  have H0 := Lib.hid ho0
  have H1 := Lib.hid ho1
  have HB1 := Lib.hid hb1
  have L0 := Lib.hid hl0
  have L1 := Lib.hid B12
  have HT := Lib.hid hT1
  have hle := Lib.hid hl
  clear ho0 ho1 hb0 hb1 hl0 hl1 B12 hT1 hl ht
  have hll : (l == l) = true := by simp
  go_wp2_with fail
  refine (eqIntS_any v1 v0 _ _ l l w2 H1.out.reads (H0.out.below L1.out).reads).mono ?_
  rintro e w3 ⟨rfl, hl2⟩
  have L2 := Lib.hid (L1.out.trans (hl2.mono L1.out.size))
  have H13 := Lib.hid (H1.out.below hl2)
  have S3 := Lib.hid hl2.size
  clear hl2
  go_wp2_with fail
  refine (markIntS_any v1 _ l 1 (by omega) (by have := hle.out; omega) w3 H13.out).mono ?_
  rintro e w4 ⟨rfl, ho14, hch⟩
  have hbl3 : Below w1.heap.size w3 w4 := hch.below L2.out.size (by
    rintro g ⟨hg, hp⟩
    exact HB1.out g (fun e => by simp [ofL] at e; subst e; simp at hp) hg)
  have L3 := Lib.hid (L2.out.trans hbl3)
  have H14 := Lib.hid ho14
  have h1l : decide ((1 : Int) + (l.length : Int) < 0) = false := by simp; omega
  have h1e : ((1 : Int) + (l.length : Int) != (1 : Int) + (l.length : Int)) = false := by simp
  have hlb : (l.length : Int) ≤ 97 := by have := hle.out; omega
  clear ho14 hch hbl3
  go_wp2_with fail
  refine (heldIntS_any v1 _ 1 (by omega) (by omega) w4 H14.out.reads).mono ?_
  rintro e w5 ⟨rfl, rfl⟩
  go_wp2_with fail
  refine (hi'.out _ (HT.out.below HT.out.size L3.out)).mono ?_
  rintro e w6 ⟨v2, n2, rfl, ho2, _, hl4⟩
  have hn2 := ho2.1
  rw [ofL_length, Nat.mul_one] at hn2
  subst hn2
  have L4 := Lib.hid (L3.out.trans (hl4.mono L3.out.size))
  have H16 := Lib.hid (H14.out.below hl4)
  have H26 := Lib.hid ho2
  clear ho2 hl4
  go_wp2_with fail
  refine (eqIntS_any v2 v0 _ _ l l w6 H26.out.reads (H0.out.below L4.out).reads).mono ?_
  rintro e w7 ⟨rfl, hl5⟩
  have L5 := Lib.hid (L4.out.trans (hl5.mono L4.out.size))
  have H17 := Lib.hid (H16.out.below hl5)
  clear hl5
  go_wp2_with fail
  refine (heldIntS_any v1 _ 1 (by omega) (by omega) w7 H17.out.reads).mono ?_
  rintro e w8 ⟨rfl, rfl⟩
  go_wp2
  go_ret
  exact ⟨rfl, L0.out.trans (L5.out.mono L0.out.size)⟩
end Go.Proofs.YtkkiconlcboehaaDoor.fnExactQuadraticRoots
