/- A term with a name replaced: both sides. -/
import Derived.Test.YtlfcmlbffpmhkaaInlP
import Derived.Test.YtlfcmlbffpmhkaaSizeS
import Derived.Test.YtlfcmlbffpmhkaaBoxN
namespace Go.Proofs.Ytlfcmlbffpmhkaa
open Go.RowKit
namespace Ints

def inlO (ds : List DefL) (ns : List NodeL) (s : ByteArray) : Option (List NodeL) := if (typI ds ns).isSome = true then (match findD ds s with
  | some k => if (inlN (dAt ds k) ns).length ≤ 400 then some (inlN (dAt ds k) ns) else none
  | none => none) else none
def inlR (ds : List DefL) (ns : List NodeL) (s : ByteArray) : List NodeL := (inlO ds ns s).getD []
def inlB (ds : List DefL) (ns : List NodeL) (s : ByteArray) : Bool := (inlO ds ns s).isSome
theorem typI_len {ds : List DefL} {ns : List NodeL} (h : (typI ds ns).isSome = true) : ns.length ≤ 400 ∧ libB ds = true := by
  cases ht : typI ds ns with
  | none => rw [ht] at h; cases h
  | some p =>
    obtain ⟨h1, h2⟩ := typI_lib ht
    unfold typeOf at h2
    split at h2
    · exact ⟨by omega, h1⟩
    · cases h2
theorem body_len {ds : List DefL} (h : libB ds = true) {k : Nat} (hk : k < ds.length) : (dAt ds k).body.length ≤ 400 := by
  have h2 := (defB_parts ((libB_all h).2.1 k hk)).2.2
  unfold typeOf at h2
  split at h2
  · omega
  · cases h2
theorem inlN_small {ds : List DefL} {ns : List NodeL} (h : (typI ds ns).isSome = true) {k : Nat} (hk : k < ds.length) : (inlN (dAt ds k) ns).length ≤ 1000000 := by
  obtain ⟨h1, h2⟩ := typI_len h
  have h3 := body_len h2 hk
  have h4 := inlN_le (dAt ds k) ns
  have h5 : ns.length * (1 + (dAt ds k).body.length) ≤ 400 * 401 := Nat.mul_le_mul h1 (by omega)
  omega

set_option maxRecDepth 100000 in
set_option maxHeartbeats 2000000 in
theorem specIN_any (vd vn : Value) (ds : List DefL) (ns : List NodeL) (s : ByteArray) (w : World) (hd : ReadsD w vd ds) (h : ReadsN w vn ns) :
    Calls Try.prog 17 #[vd, .agg #[vn], .string s] w (TermOut w (inlB ds ns s) (inlR ds ns s)) := by
  obtain ⟨w0, hw0⟩ : ∃ W, W = (w.alloc (.cells #[vn] 36)).alloc (.cells #[.slice none 0 0] 36) := ⟨_, rfl⟩
  have hB : Below w.heap.size w w0 := by rw [hw0]; exact below_alloc (below_alloc (Below.refl _ _))
  have hs0 : w0.heap.size = w.heap.size + 2 := by rw [hw0]; simp
  have HF := Lib.hid (fun W (hW : Below w.heap.size w W) => lbFind_any vd ds s W (hd.below hW))
  have HT := Lib.hid (fun W (hW : Below w.heap.size w W) => lbTerm_any vd vn ds ns W (hd.below hW) (h.below hW))
  have HRN := Lib.hid h
  obtain ⟨ad, cd, rfl, hm, hc⟩ := open_readsD hd
  obtain ⟨an, cn, rfl⟩ := h.form
  have q1 : w0.heap[w.heap.size]? = some (.cells #[.slice an ns.length cn] 36 (0, 0)) := by
    rw [hw0]
    exact block_old (heap_alloc_new w _) (below_alloc (Below.refl _ _))
  have q2 : w0.heap[w.heap.size + 1]? = some (.cells #[.slice none 0 0] 36 (0, 0)) := by
    rw [hw0]
    have := heap_alloc_new (w.alloc (.cells #[.slice an ns.length cn] 36)) (.cells #[.slice none 0 0] 36)
    simpa using this
  have HX := Lib.hid (show ∀ W, Below w0.heap.size w0 W → W.cell? ⟨w.heap.size, 0, none⟩ = some (.slice an ns.length cn) ∧ W.cell? ⟨w.heap.size + 1, 0, none⟩ = some (.slice none 0 0) ∧ W.frozen? ⟨w.heap.size + 1, 0, none⟩ = false from fun W hW =>
    ⟨(Go.Joins.cell_of_block (block_old q1 hW) 0).trans rfl, (Go.Joins.cell_of_block (block_old q2 hW) 0).trans rfl, Go.Joins.unfrozen_of_block (block_old q2 hW) 0⟩)
  have HB := Lib.hid hB
  have HS := Lib.hid hs0
  have HW := Lib.hid hw0
  have HC := Lib.hid hc
  have HSM := Lib.hid (fun (e : (typI ds ns).isSome = true) k hk => inlN_small (ds := ds) (ns := ns) e (k := k) hk)
  obtain ⟨n, hn⟩ : ∃ n, ds.length = n := ⟨_, rfl⟩
  have HN := Lib.hid hn
  rw [hn] at hm ⊢
  rw [hn] at HF HT
  obtain ⟨tb, htb⟩ : ∃ b, (typI ds ns).isSome = b := ⟨_, rfl⟩
  rw [htb] at HT HSM
  have HIO : Hid (inlO ds ns s = if tb = true then (match findD ds s with
    | some k => if (inlN (dAt ds k) ns).length ≤ 400 then some (inlN (dAt ds k) ns) else none
    | none => none) else none) := by rw [← htb]; rfl
  unfold inlR inlB
  obtain ⟨fo, hfo⟩ : ∃ f, findD ds s = f := ⟨_, rfl⟩
  have hlt : ∀ k, fo = some k → k < n := fun k e => by rw [← hn]; exact findD_lt (hfo.trans e)
  rw [hfo] at HF HIO
  clear hd h hw0 hB hs0 q1 q2 hc hn htb hfo
  have hno : inlO ds ns s = none → ∀ W, Below w0.heap.size w0 W → TermOut w (inlO ds ns s).isSome ((inlO ds ns s).getD []) (.returned (.tuple #[.agg #[.slice none 0 0], .bool false])) (W.setCell ⟨w.heap.size + 1, 0, none⟩ (.slice none 0 0)) := by
    intro e W hW
    rw [e]
    have h7 := below_step HB.out hW
    have hc3 := Chg.set1 W ⟨w.heap.size + 1, 0, none⟩ (.slice none 0 0)
    exact ⟨_, rfl, ownsN_nil _ _, h7.trans (hc3.below h7.size fun g hg => by simp only at hg; omega)⟩
  have HNO := Lib.hid hno
  clear hno
  cases tb with
  | false =>
    have hio := HIO.out
    rw [if_neg (by decide)] at hio
    have HNE := Lib.hid (HNO.out hio)
    obtain ⟨jv, hjv⟩ : ∃ j, idxI fo = j := ⟨_, rfl⟩
    rw [hjv] at HF
    clear hjv hio
    go_enter Try.func17, Try.ntmps17
    go_wp2_with fail
    rw [← HW.out]
    refine (HF.out w0 HB.out).mono ?_
    rintro e w1 ⟨rfl, hb1⟩
    obtain ⟨x0, -, -⟩ := HX.out w1 hb1
    have HB1 := Lib.hid hb1
    clear hb1
    go_wp2_with fail
    refine (HT.out w1 (below_step HB.out HB1.out)).mono ?_
    rintro e w2 ⟨rfl, hb2⟩
    have HB2 := Lib.hid (below_step HB1.out hb2)
    obtain ⟨-, y0, f0⟩ := HX.out w2 HB2.out
    clear hb2 x0
    go_wp2
    refine bodyPost_ret (v := .tuple #[.agg #[.slice none 0 0], .bool false]) (by simp [results, Try.results17, go_sem, y0]) rfl ?_
    exact HNE.out w2 HB2.out
  | true =>
    cases fo with
    | none =>
      have hio := HIO.out
      rw [if_pos rfl] at hio
      have HNE := Lib.hid (HNO.out hio)
      have hix : idxI none = -1 := rfl
      rw [hix] at HF
      clear hix hio
      go_enter Try.func17, Try.ntmps17
      go_wp2_with fail
      rw [← HW.out]
      refine (HF.out w0 HB.out).mono ?_
      rintro e w1 ⟨rfl, hb1⟩
      obtain ⟨x0, -, -⟩ := HX.out w1 hb1
      have HB1 := Lib.hid hb1
      clear hb1
      go_wp2_with fail
      refine (HT.out w1 (below_step HB.out HB1.out)).mono ?_
      rintro e w2 ⟨rfl, hb2⟩
      have HB2 := Lib.hid (below_step HB1.out hb2)
      obtain ⟨-, y0, f0⟩ := HX.out w2 HB2.out
      clear hb2 x0
      go_wp2
      refine bodyPost_ret (v := .tuple #[.agg #[.slice none 0 0], .bool false]) (by simp [results, Try.results17, go_sem, y0]) rfl ?_
      exact HNE.out w2 HB2.out
    | some k =>
      have hix : idxI (some k) = (k : Int) := rfl
      rw [hix] at HF
      have hkn := hlt k rfl
      obtain ⟨g, off, a1, c1, rfl, hg, hE⟩ := HC.out k (by rw [HN.out]; exact hkn)
      obtain ⟨d, hd⟩ : ∃ d, dAt ds k = d := ⟨_, rfl⟩
      have hsm := HSM.out rfl k (by rw [HN.out]; exact hkn)
      have hio := HIO.out
      rw [if_pos rfl] at hio
      dsimp only at hio
      rw [hd] at hE hsm hio
      have hk0 : 0 ≤ (k : Int) := by omega
      have hkz : decide ((k : Int) < 0) = false := by simp
      have hkn2 : (k : Int) < (n : Int) := by omega
      obtain ⟨R, hR⟩ : ∃ R, inlN d ns = R := ⟨_, rfl⟩
      have HIN := Lib.hid (fun W (hW : Below w.heap.size w W) => lbInline_any (.slice an ns.length cn) (.slice a1 d.body.length c1) d ns (by omega) W (HRN.out.below hW) (hE.2.2.2.2.below hW))
      rw [hR] at HIN hio hsm
      have HIO2 := Lib.hid hio
      obtain ⟨hE0, hE1, hE2, hE3, -⟩ := hE
      have HE := Lib.hid (And.intro hE0 (And.intro hE1 (And.intro hE2 hE3)))
      clear hix hio hkn hd hlt hE0 hE1 hE2 hE3 hg hR
      go_enter Try.func17, Try.ntmps17
      go_wp2_with fail
      rw [← HW.out]
      refine (HF.out w0 HB.out).mono ?_
      rintro e w1 ⟨rfl, hb1⟩
      obtain ⟨x0, -, -⟩ := HX.out w1 hb1
      have HB1 := Lib.hid hb1
      clear hb1
      go_wp2_with fail
      refine (HT.out w1 (below_step HB.out HB1.out)).mono ?_
      rintro e w2 ⟨rfl, hb2⟩
      have HB2 := Lib.hid (below_step HB1.out hb2)
      have HBW2 := Lib.hid (below_step HB.out HB2.out)
      clear hb2 x0
      go_upto_region 4 with fail
      go_cut [9] (fun t W => OutBoxN w2 R t W)
      case first =>
        have M0 : ∀ W, Below w2.heap.size w2 W → W.cell? ⟨w.heap.size, 0, none⟩ = some (.slice an ns.length cn) := fun W hW => (HX.out W (below_step HB2.out hW)).1
        have M1 : ∀ W, Below w2.heap.size w2 W → W.cell? ⟨g, off + k * 4, none⟩ = some (.string d.name) := fun W hW => cell_old (below_step HBW2.out hW) HE.out.1
        have M2 : ∀ W, Below w2.heap.size w2 W → W.cell? ⟨g, off + k * 4 + 1, none⟩ = some (.int .i64 d.inp) := fun W hW => cell_old (below_step HBW2.out hW) HE.out.2.1
        have M3 : ∀ W, Below w2.heap.size w2 W → W.cell? ⟨g, off + k * 4 + 2, none⟩ = some (.int .i64 d.out) := fun W hW => cell_old (below_step HBW2.out hW) HE.out.2.2.1
        have M4 : ∀ W, Below w2.heap.size w2 W → W.cell? ⟨g, off + k * 4 + 3, none⟩ = some (.slice a1 d.body.length c1) := fun W hW => cell_old (below_step HBW2.out hW) HE.out.2.2.2
        go_region_held3 (fun W => Below w2.heap.size w2 W)
          (first | (refine (Below.setCell (p := ⟨_, 0, none⟩) ?_ bx.1 _); (repeat (first | exact Below.refl _ _ | assumption | apply below_alloc | apply below_drewB | refine below_step ?_ hb_r)); done) | ((repeat (first | exact Below.refl _ _ | assumption | apply below_alloc | apply below_drewB | refine below_step ?_ hb_r)); done))
          (first | (go_at_call 51; (with_reducible refine (HIN.out _ (below_step HBW2.out (by repeat (first | exact Below.refl _ _ | assumption | apply below_alloc | apply below_drewB)))).mono ?_); rintro e w_r ⟨v_r, rfl, ho_r, hb_r⟩; obtain ⟨s_r, e_r, rfl⟩ := ho_r.reads.form; (first | have bx := boxInN_new (c := w2) (by repeat (first | exact Below.refl _ _ | assumption | apply below_alloc | apply below_drewB)) hb_r | have bx := boxInN_new' (c := w2) hb_r | skip); (first | (have y0 := bx.2.2.1; have g0 := bx.2.2.2) | skip)))
        all_goals go_wp2
        all_goals go_meet
        all_goals
          first
          | exact outBoxN_alloc _ (by repeat (first | exact Below.refl _ _ | assumption | apply below_alloc | apply below_drewB | refine below_step ?_ hb_r)) (OwnsN.mono ho_r fun g hg => Nat.le_trans (below_le (c := w2) (by repeat (first | exact Below.refl _ _ | assumption | apply below_alloc | apply below_drewB))) hg)
          | exact outBoxN_put (by repeat (first | exact Below.refl _ _ | assumption | apply below_alloc | apply below_drewB | refine below_step ?_ hb_r)) ho_r bx (by simp)
      case rest =>
      obtain ⟨bk, s_r, e_r, rfl, O0, ho, hbl, hbs, hb⟩ := hcut
      obtain ⟨w3, hu⟩ : ∃ W, W = wc := ⟨_, rfl⟩
      rw [← hu] at O0 ho hbs hb ⊢
      clear hu wc
      obtain ⟨m, hm2⟩ : ∃ m, R.length = m := ⟨_, rfl⟩
      have HM2 := Lib.hid hm2
      have HO3 := Lib.hid ho
      have HB3 := Lib.hid (below_step HB2.out hb)
      have HBS := Lib.hid hbl
      obtain ⟨-, z0, f0⟩ := HX.out w3 HB3.out
      rw [hm2] at O0 hsm
      have hmi : (m : Int) ≤ 1000000 := by omega
      clear ho hb hm2 hbl hbs
      by_cases hm4 : m ≤ 400
      · have hd4 : decide (400 < m) = false := by simp; omega
        have hd5 : decide ((400 : Int) < (m : Int)) = false := by simp; omega
        have hio := HIO2.out
        rw [HM2.out, if_pos hm4] at hio
        have hfin : Hid (TermOut w (inlO ds ns s).isSome ((inlO ds ns s).getD []) (.returned (.tuple #[.agg #[.slice s_r m e_r], .bool true])) (w3.setCell ⟨w.heap.size + 1, 0, none⟩ (.slice s_r m e_r))) := by
          rw [hio]
          have ho := HO3.out
          rw [HM2.out] at ho
          have hc3 := Chg.set1 w3 ⟨w.heap.size + 1, 0, none⟩ (.slice s_r m e_r)
          have h7 := below_step HB.out HB3.out
          have h8 := HS.out
          have h9 := HB2.out.size
          exact Lib.hid ⟨_, rfl, (ho.chg hc3 fun g hg e => by simp only at e; omega).mono fun g hg => by omega, h7.trans (hc3.below h7.size fun g hg => by simp only at hg; omega)⟩
        clear hio hm4
        go_wp2
        refine bodyPost_ret (v := .tuple #[.agg #[.slice s_r m e_r], .bool true]) (by simp [results, Try.results17, go_sem, z0]) rfl ?_
        exact hfin.out
      · have hd4 : decide (400 < m) = true := by simp; omega
        have hd5 : decide ((400 : Int) < (m : Int)) = true := by simp; omega
        have hio := HIO2.out
        rw [HM2.out, if_neg hm4] at hio
        have HNE := Lib.hid (HNO.out hio)
        clear hio hm4
        go_wp2
        refine bodyPost_ret (v := .tuple #[.agg #[.slice none 0 0], .bool false]) (by simp [results, Try.results17, go_sem, z0]) rfl ?_
        exact HNE.out w3 HB3.out

end Ints
end Go.Proofs.Ytlfcmlbffpmhkaa
