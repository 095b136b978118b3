/- Printing: the entry points PrintTerm, PrintFull, both sides. -/
import Derived.Test.YtlfcmlbffpmhkaaDoorPrC
import Derived.Test.YtlfcmlbffpmhkaaDoorPrE
import Derived.Test.YtlfcmlbffpmhkaaDoorLibBase
namespace Go.Proofs.YtlfcmlbffpmhkaaDoor
open Go.RowKit
namespace Ints

theorem prP_no {full : Bool} {ds : List DefL} {ns : List NodeL} (h : (typI ds ns).isSome = false) : prP full ds ns = ByteArray.empty := by
  unfold prP
  have h2 : (if libB ds = true then typeOf ds ns else none).isSome = false := h
  rw [h2]
  rfl
theorem prP_yes {full : Bool} {ds : List DefL} {ns : List NodeL} (h : (typI ds ns).isSome = true) : prP full ds ns = prT full (treeN ns) := by
  unfold prP
  have h2 : (if libB ds = true then typeOf ds ns else none).isSome = true := h
  rw [h2]
  rfl
theorem typI_some {ds : List DefL} {ns : List NodeL} (h : (typI ds ns).isSome = true) : libB ds = true ∧ ∃ p, typeOf ds ns = some p := by
  cases hl : libB ds with
  | false => rw [typI_no hl] at h; cases h
  | true =>
    rw [typI_yes hl] at h
    cases ht : typeOf ds ns with
    | none => rw [ht] at h; cases h
    | some p => exact ⟨rfl, p, rfl⟩
theorem scanB_someP {ds : List DefL} (hd : bndD ds) (ns : List NodeL) : scanB ds ns = (typeOf ds ns).isSome := by
  rcases scan_type hd ns with ⟨h1, h2⟩ | ⟨tr, p, h1, _, h2, _⟩
  · rw [h1, h2]; rfl
  · rw [h1, h2]; rfl
theorem typI_libP {ds : List DefL} {ns : List NodeL} {p : Int × Int} (h : typI ds ns = some p) : libB ds = true ∧ typeOf ds ns = some p := by
  cases hl : libB ds with
  | false => rw [typI_no hl] at h; cases h
  | true => exact ⟨rfl, by rw [← typI_yes hl]; exact h⟩

set_option maxRecDepth 100000 in
set_option maxHeartbeats 2000000 in
theorem lbTermP_any (vd vn : Value) (ds : List DefL) (ns : List NodeL) (w : World) (hd : ReadsD w vd ds) (h : ReadsN w vn ns) :
    Calls Tryd.prog 25 #[vd, .agg #[vn]] w fun e w' => e = .returned (.bool (typI ds ns).isSome) ∧ Below w.heap.size w w' := by
  obtain ⟨w0, hw0⟩ : ∃ W, W = w.alloc (.cells #[vn] 34) := ⟨_, rfl⟩
  have hB := Lib.hid (show Below w.heap.size w w0 by rw [hw0]; exact below_alloc (Below.refl _ _))
  have hg := Lib.hid (lbGood_any vd ds w0 (hd.below hB.out))
  have hsc := Lib.hid (fun (hl : libB ds = true) W (hW : Below w.heap.size w W) => lbScan_any vd vn ds ns (libB_all hl).2.2.1 W (hd.below hW) (h.below hW))
  have hx0 := Lib.hid (show w0.cell? ⟨w.heap.size, 0, none⟩ = some vn by rw [hw0]; simp [go_sem])
  have HW := Lib.hid hw0
  obtain ⟨a, cap, rfl⟩ := h.form
  obtain ⟨ad, capd, rfl⟩ := hd.form
  clear h hd hw0
  cases hl : libB ds with
  | false =>
    rw [typI_no hl]
    rw [hl] at hg
    clear hl hsc
    go_enter Tryd.func25, Tryd.ntmps25
    go_wp2_with fail
    rw [← HW.out]
    refine hg.out.mono ?_
    rintro e w1 ⟨rfl, hb⟩
    have HB1 := Lib.hid (below_step hB.out hb)
    clear hb
    go_wp2
    go_ret
    exact ⟨rfl, HB1.out⟩
  | true =>
    rw [typI_yes hl, ← scanB_someP (libB_all hl).2.2.1]
    have hs2 := Lib.hid (hsc.out hl)
    rw [hl] at hg
    obtain ⟨b, hb⟩ : ∃ b, scanB ds ns = b := ⟨_, rfl⟩
    rw [hb] at hs2 ⊢
    clear hl hsc hb
    go_enter Tryd.func25, Tryd.ntmps25
    go_wp2_with fail
    rw [← HW.out]
    refine hg.out.mono ?_
    rintro e w1 ⟨rfl, hb⟩
    have HB1 := Lib.hid (below_step hB.out hb)
    have x0 := cell_old hb hx0.out
    clear hb
    go_wp2_with fail
    refine (hs2.out w1 HB1.out).mono ?_
    rintro e w2 ⟨a1, n1, c1, a2, n2, c2, a3, n3, c3, rfl, -, hb⟩
    have HB2 := Lib.hid (below_step HB1.out hb)
    clear hb x0
    go_wp2
    go_ret
    exact ⟨rfl, below_alloc HB2.out⟩

/-- What the print functions return. -/
def StrOut (w : World) (s : ByteArray) (b : Bool) (e : Ending) (w' : World) : Prop := e = .returned (.tuple #[.string s, .bool b]) ∧ Below w.heap.size w w'

set_option maxRecDepth 100000 in
set_option maxHeartbeats 2000000 in
theorem specPT_any (vd vn : Value) (ds : List DefL) (ns : List NodeL) (w : World) (hd : ReadsD w vd ds) (h : ReadsN w vn ns) :
    Calls Tryd.prog 15 #[vd, .agg #[vn]] w (StrOut w (prP false ds ns) (typI ds ns).isSome) := by
  obtain ⟨w0, hw0⟩ : ∃ W, W = w.alloc (.cells #[vn] 34) := ⟨_, rfl⟩
  have hB := Lib.hid (show Below w.heap.size w w0 by rw [hw0]; exact below_alloc (Below.refl _ _))
  have hg := Lib.hid (lbTermP_any vd vn ds ns w0 (hd.below hB.out) (h.below hB.out))
  have hsx := Lib.hid (fun (hs : (typI ds ns).isSome = true) W (hW : Below w.heap.size w W) => match typI_some hs with | ⟨hl, ⟨p, hp⟩⟩ => sxPrint_any vn false ns ds p hl hp W (h.below hW))
  have hx0 := Lib.hid (show w0.cell? ⟨w.heap.size, 0, none⟩ = some vn by rw [hw0]; simp [go_sem])
  have HW := Lib.hid hw0
  obtain ⟨a, cap, rfl⟩ := h.form
  obtain ⟨ad, capd, rfl⟩ := hd.form
  clear h hd hw0
  cases ho : (typI ds ns).isSome with
  | false =>
    rw [prP_no ho]
    rw [ho] at hg
    clear ho hsx
    go_enter Tryd.func15, Tryd.ntmps15
    go_wp2_with fail
    rw [← HW.out]
    refine hg.out.mono ?_
    rintro e w1 ⟨rfl, hb⟩
    have HB1 := Lib.hid (below_step hB.out hb)
    clear hb
    go_wp2
    refine bodyPost_ret (v := .tuple #[.string ByteArray.empty, .bool false]) (by simp [results, Tryd.results15, go_sem]; rfl) rfl ?_
    exact ⟨rfl, HB1.out⟩
  | true =>
    rw [prP_yes ho]
    have hs2 := Lib.hid (hsx.out ho)
    rw [ho] at hg
    obtain ⟨R, hR⟩ : ∃ R, prT false (treeN ns) = R := ⟨_, rfl⟩
    rw [hR] at hs2 ⊢
    clear ho hsx hR
    go_enter Tryd.func15, Tryd.ntmps15
    go_wp2_with fail
    rw [← HW.out]
    refine hg.out.mono ?_
    rintro e w1 ⟨rfl, hb⟩
    have HB1 := Lib.hid (below_step hB.out hb)
    have x0 := cell_old hb hx0.out
    clear hb
    go_wp2_with fail
    refine (hs2.out w1 HB1.out).mono ?_
    rintro e w2 ⟨rfl, hb⟩
    have HB2 := Lib.hid (below_step HB1.out hb)
    clear hb x0
    go_wp2
    refine bodyPost_ret (v := .tuple #[.string R, .bool true]) (by simp [results, Tryd.results15, go_sem]) rfl ?_
    exact ⟨rfl, HB2.out⟩

set_option maxRecDepth 100000 in
set_option maxHeartbeats 2000000 in
theorem implPT_any (vd vn : Value) (ds : List DefL) (ns : List NodeL) (hbd : totD ds ≤ 10000000000000) (hbn : totN ns ≤ 10000000000000) (w : World) (hd : ReadsD w vd ds) (h : ReadsN w vn ns) :
    Calls Tryd.prog 16 #[vd, .agg #[vn]] w (StrOut w (prP false ds ns) (typI ds ns).isSome) := by
  obtain ⟨w0, hw0⟩ : ∃ W, W = w.alloc (.cells #[vn] 34) := ⟨_, rfl⟩
  have hB := Lib.hid (show Below w.heap.size w w0 by rw [hw0]; exact below_alloc (Below.refl _ _))
  have hg := Lib.hid (isTermIn_any vd vn ds ns hbd hbn w0 (hd.below hB.out) (h.below hB.out))
  have htr := Lib.hid (fun (hs : (typI ds ns).isSome = true) W (hW : Below w.heap.size w W) => match typI_some hs with | ⟨_, ⟨p, hp⟩⟩ => treeOf_any vn ns ds p hp W (h.below hW))
  have hpr := Lib.hid (fun (hs : (typI ds ns).isSome = true) W => match typI_some hs with | ⟨hl, ⟨p, hp⟩⟩ => printed_any ds hl false (treeN ns) (tree_of hp).2.2.1 (by rw [(tree_of hp).2.1]; exact (tree_of hp).2.2.2.2.1) W)
  have hx0 := Lib.hid (show w0.cell? ⟨w.heap.size, 0, none⟩ = some vn by rw [hw0]; simp [go_sem])
  have HW := Lib.hid hw0
  obtain ⟨a, cap, rfl⟩ := h.form
  obtain ⟨ad, capd, rfl⟩ := hd.form
  clear h hd hw0
  cases ho : (typI ds ns).isSome with
  | false =>
    rw [prP_no ho]
    rw [ho] at hg
    clear ho htr hpr
    go_enter Tryd.func16, Tryd.ntmps16
    go_wp2_with fail
    rw [← HW.out]
    refine hg.out.mono ?_
    rintro e w1 ⟨rfl, hb⟩
    have HB1 := Lib.hid (below_step hB.out hb)
    clear hb
    go_wp2
    refine bodyPost_ret (v := .tuple #[.string ByteArray.empty, .bool false]) (by simp [results, Tryd.results16, go_sem]; rfl) rfl ?_
    exact ⟨rfl, HB1.out⟩
  | true =>
    rw [prP_yes ho]
    have ht2 := Lib.hid (htr.out ho)
    have hp2 := Lib.hid (hpr.out ho)
    rw [ho] at hg
    obtain ⟨R, hR⟩ : ∃ R, prT false (treeN ns) = R := ⟨_, rfl⟩
    obtain ⟨ty, u, htv⟩ := valT_form (treeN ns)
    rw [hR] at hp2 ⊢
    rw [htv] at ht2 hp2
    clear ho htr hpr hR htv
    go_enter Tryd.func16, Tryd.ntmps16
    go_wp2_with fail
    rw [← HW.out]
    refine hg.out.mono ?_
    rintro e w1 ⟨rfl, hb⟩
    have HB1 := Lib.hid (below_step hB.out hb)
    have x0 := cell_old hb hx0.out
    clear hb
    go_wp2_with fail
    refine (ht2.out w1 HB1.out).mono ?_
    rintro e w2 ⟨rfl, hb⟩
    have HB2 := Lib.hid (below_step HB1.out hb)
    clear hb x0
    go_wp2_with fail
    refine (hp2.out w2).mono ?_
    rintro e w3 ⟨rfl, hb⟩
    have HB3 := Lib.hid (below_step HB2.out hb)
    clear hb
    go_wp2
    refine bodyPost_ret (v := .tuple #[.string R, .bool true]) (by simp [results, Tryd.results16, go_sem]) rfl ?_
    exact ⟨rfl, HB3.out⟩

set_option maxRecDepth 100000 in
set_option maxHeartbeats 2000000 in
theorem specPF_any (vd vn : Value) (ds : List DefL) (ns : List NodeL) (w : World) (hd : ReadsD w vd ds) (h : ReadsN w vn ns) :
    Calls Tryd.prog 9 #[vd, .agg #[vn]] w (StrOut w (prP true ds ns) (typI ds ns).isSome) := by
  obtain ⟨w0, hw0⟩ : ∃ W, W = w.alloc (.cells #[vn] 34) := ⟨_, rfl⟩
  have hB := Lib.hid (show Below w.heap.size w w0 by rw [hw0]; exact below_alloc (Below.refl _ _))
  have hg := Lib.hid (lbTermP_any vd vn ds ns w0 (hd.below hB.out) (h.below hB.out))
  have hsx := Lib.hid (fun (hs : (typI ds ns).isSome = true) W (hW : Below w.heap.size w W) => match typI_some hs with | ⟨hl, ⟨p, hp⟩⟩ => sxPrint_any vn true ns ds p hl hp W (h.below hW))
  have hx0 := Lib.hid (show w0.cell? ⟨w.heap.size, 0, none⟩ = some vn by rw [hw0]; simp [go_sem])
  have HW := Lib.hid hw0
  obtain ⟨a, cap, rfl⟩ := h.form
  obtain ⟨ad, capd, rfl⟩ := hd.form
  clear h hd hw0
  cases ho : (typI ds ns).isSome with
  | false =>
    rw [prP_no ho]
    rw [ho] at hg
    clear ho hsx
    go_enter Tryd.func9, Tryd.ntmps9
    go_wp2_with fail
    rw [← HW.out]
    refine hg.out.mono ?_
    rintro e w1 ⟨rfl, hb⟩
    have HB1 := Lib.hid (below_step hB.out hb)
    clear hb
    go_wp2
    refine bodyPost_ret (v := .tuple #[.string ByteArray.empty, .bool false]) (by simp [results, Tryd.results9, go_sem]; rfl) rfl ?_
    exact ⟨rfl, HB1.out⟩
  | true =>
    rw [prP_yes ho]
    have hs2 := Lib.hid (hsx.out ho)
    rw [ho] at hg
    obtain ⟨R, hR⟩ : ∃ R, prT true (treeN ns) = R := ⟨_, rfl⟩
    rw [hR] at hs2 ⊢
    clear ho hsx hR
    go_enter Tryd.func9, Tryd.ntmps9
    go_wp2_with fail
    rw [← HW.out]
    refine hg.out.mono ?_
    rintro e w1 ⟨rfl, hb⟩
    have HB1 := Lib.hid (below_step hB.out hb)
    have x0 := cell_old hb hx0.out
    clear hb
    go_wp2_with fail
    refine (hs2.out w1 HB1.out).mono ?_
    rintro e w2 ⟨rfl, hb⟩
    have HB2 := Lib.hid (below_step HB1.out hb)
    clear hb x0
    go_wp2
    refine bodyPost_ret (v := .tuple #[.string R, .bool true]) (by simp [results, Tryd.results9, go_sem]) rfl ?_
    exact ⟨rfl, HB2.out⟩

set_option maxRecDepth 100000 in
set_option maxHeartbeats 2000000 in
theorem implPF_any (vd vn : Value) (ds : List DefL) (ns : List NodeL) (hbd : totD ds ≤ 10000000000000) (hbn : totN ns ≤ 10000000000000) (w : World) (hd : ReadsD w vd ds) (h : ReadsN w vn ns) :
    Calls Tryd.prog 12 #[vd, .agg #[vn]] w (StrOut w (prP true ds ns) (typI ds ns).isSome) := by
  obtain ⟨w0, hw0⟩ : ∃ W, W = w.alloc (.cells #[vn] 34) := ⟨_, rfl⟩
  have hB := Lib.hid (show Below w.heap.size w w0 by rw [hw0]; exact below_alloc (Below.refl _ _))
  have hg := Lib.hid (isTermIn_any vd vn ds ns hbd hbn w0 (hd.below hB.out) (h.below hB.out))
  have htr := Lib.hid (fun (hs : (typI ds ns).isSome = true) W (hW : Below w.heap.size w W) => match typI_some hs with | ⟨_, ⟨p, hp⟩⟩ => treeOf_any vn ns ds p hp W (h.below hW))
  have hpr := Lib.hid (fun (hs : (typI ds ns).isSome = true) W => match typI_some hs with | ⟨hl, ⟨p, hp⟩⟩ => printed_any ds hl true (treeN ns) (tree_of hp).2.2.1 (by rw [(tree_of hp).2.1]; exact (tree_of hp).2.2.2.2.1) W)
  have hx0 := Lib.hid (show w0.cell? ⟨w.heap.size, 0, none⟩ = some vn by rw [hw0]; simp [go_sem])
  have HW := Lib.hid hw0
  obtain ⟨a, cap, rfl⟩ := h.form
  obtain ⟨ad, capd, rfl⟩ := hd.form
  clear h hd hw0
  cases ho : (typI ds ns).isSome with
  | false =>
    rw [prP_no ho]
    rw [ho] at hg
    clear ho htr hpr
    go_enter Tryd.func12, Tryd.ntmps12
    go_wp2_with fail
    rw [← HW.out]
    refine hg.out.mono ?_
    rintro e w1 ⟨rfl, hb⟩
    have HB1 := Lib.hid (below_step hB.out hb)
    clear hb
    go_wp2
    refine bodyPost_ret (v := .tuple #[.string ByteArray.empty, .bool false]) (by simp [results, Tryd.results12, go_sem]; rfl) rfl ?_
    exact ⟨rfl, HB1.out⟩
  | true =>
    rw [prP_yes ho]
    have ht2 := Lib.hid (htr.out ho)
    have hp2 := Lib.hid (hpr.out ho)
    rw [ho] at hg
    obtain ⟨R, hR⟩ : ∃ R, prT true (treeN ns) = R := ⟨_, rfl⟩
    obtain ⟨ty, u, htv⟩ := valT_form (treeN ns)
    rw [hR] at hp2 ⊢
    rw [htv] at ht2 hp2
    clear ho htr hpr hR htv
    go_enter Tryd.func12, Tryd.ntmps12
    go_wp2_with fail
    rw [← HW.out]
    refine hg.out.mono ?_
    rintro e w1 ⟨rfl, hb⟩
    have HB1 := Lib.hid (below_step hB.out hb)
    have x0 := cell_old hb hx0.out
    clear hb
    go_wp2_with fail
    refine (ht2.out w1 HB1.out).mono ?_
    rintro e w2 ⟨rfl, hb⟩
    have HB2 := Lib.hid (below_step HB1.out hb)
    clear hb x0
    go_wp2_with fail
    refine (hp2.out w2).mono ?_
    rintro e w3 ⟨rfl, hb⟩
    have HB3 := Lib.hid (below_step HB2.out hb)
    clear hb
    go_wp2
    refine bodyPost_ret (v := .tuple #[.string R, .bool true]) (by simp [results, Tryd.results12, go_sem]) rfl ?_
    exact ⟨rfl, HB3.out⟩

end Ints
end Go.Proofs.YtlfcmlbffpmhkaaDoor
