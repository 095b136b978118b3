/- Printing a library. -/
import Derived.Test.YtlfcmlbffpmhkaaDoorPrF
namespace Go.Proofs.YtlfcmlbffpmhkaaDoor
open Go.RowKit
namespace Ints

def defX (d : DefL) : ByteArray := d.name ++ ⟨#[32, 61, 32]⟩ ++ prT false (treeN d.body)
def libX (ds : List DefL) : ByteArray := ds.foldl (fun acc d => acc ++ (defX d ++ ⟨#[10]⟩)) ByteArray.empty
theorem libX_succ (ds : List DefL) (k : Nat) (hk : k < ds.length) : libX (ds.take (k + 1)) = libX (ds.take k) ++ (defX (dAt ds k) ++ ⟨#[10]⟩) := by
  unfold libX
  rw [take_oneD ds k hk, List.foldl_append]
  rfl
theorem libB_take {ds : List DefL} (h : libB ds = true) (k : Nat) (hk : k ≤ ds.length) : libB (ds.take k) = true := by
  obtain ⟨h1, h2, _, _⟩ := libB_all h
  unfold libB
  rw [Bool.and_eq_true, decide_eq_true_eq, List.all_eq_true]
  refine ⟨by rw [List.length_take]; omega, fun j hj => ?_⟩
  rw [List.mem_range, List.length_take] at hj
  have hb := h2 j (by omega)
  unfold defB at hb ⊢
  rw [dAt_take ds (show j < k by omega), take_take' ds (show j ≤ k by omega)]
  exact hb
theorem defX_size {ds : List DefL} {d : DefL} {p : Int × Int} (hl : libB ds = true) (hty : typeOf ds d.body = some p) (hn : d.name.size ≤ 8) : (defX d).size ≤ 4811 := by
  have hps := prT_size hl false (treeN d.body) (tree_of hty).2.2.1
  rw [(tree_of hty).2.1] at hps
  have h400 := (tree_of hty).2.2.2.2.1
  unfold defX
  rw [ByteArray.size_append, ByteArray.size_append]
  show _ + 3 + _ ≤ _
  omega
theorem def_at {ds : List DefL} (h : libB ds = true) (k : Nat) (hk : k < ds.length) : (dAt ds k).name.size ≤ 8 ∧ typeOf (ds.take k) (dAt ds k).body = some ((dAt ds k).inp, (dAt ds k).out) := by
  have h2 := defB_parts ((libB_all h).2.1 k hk)
  exact ⟨name_small h2.1, h2.2.2⟩

set_option maxRecDepth 100000 in
set_option maxHeartbeats 2000000 in
theorem sxDef_any (d : DefL) (ds : List DefL) (p : Int × Int) (hl : libB ds = true) (hty : typeOf ds d.body = some p) (hnm : d.name.size ≤ 1048576) (v : Value) (w : World) (h : ReadsN w v d.body) :
    Calls Tryd.prog 33 #[.agg #[.string d.name, .int .i64 d.inp, .int .i64 d.out, v]] w fun e w' => e = .returned (.string (defX d)) ∧ Below w.heap.size w w' := by
  obtain ⟨w0, hw0⟩ : ∃ W, W = w.alloc (.cells #[.string d.name, .int .i64 d.inp, .int .i64 d.out, v] 44) := ⟨_, rfl⟩
  have hB : Below w.heap.size w w0 := by rw [hw0]; exact below_alloc (Below.refl _ _)
  have HB := Lib.hid hB
  have HP := Lib.hid (fun W (hW : Below w.heap.size w W) => sxPrint_any v false d.body ds p hl hty W (h.below hW))
  have hps := prT_size hl false (treeN d.body) (tree_of hty).2.2.1
  rw [(tree_of hty).2.1] at hps
  have h400 := (tree_of hty).2.2.2.2.1
  obtain ⟨a, cap, rfl⟩ := h.form
  have hX0 : w0.cell? ⟨w.heap.size, 0, none⟩ = some (.string d.name) ∧ w0.cell? ⟨w.heap.size, 3, none⟩ = some (.slice a d.body.length cap) := by rw [hw0]; constructor <;> simp [go_sem]
  have HX := Lib.hid (show ∀ W, Below w0.heap.size w0 W → W.cell? ⟨w.heap.size, 0, none⟩ = some (.string d.name) ∧ W.cell? ⟨w.heap.size, 3, none⟩ = some (.slice a d.body.length cap) from fun W hW => ⟨cell_old hW hX0.1, cell_old hW hX0.2⟩)
  have HW := Lib.hid hw0
  have HR : Hid (defX d = d.name ++ ⟨#[32, 61, 32]⟩ ++ prT false (treeN d.body)) := Lib.hid rfl
  obtain ⟨R, hR⟩ : ∃ R, prT false (treeN d.body) = R := ⟨_, rfl⟩
  rw [hR] at HR hps
  rw [hR] at HP
  have hn1 : ¬ (9223372036854775807 < d.name.size + 3) := by omega
  have hn2 : ¬ (9223372036854775807 < d.name.size + 3 + R.size) := by omega
  obtain ⟨z0, z3⟩ := hX0
  clear h hw0 hR hps h400 hB
  go_enter Tryd.func33, Tryd.ntmps33
  go_upto_region 1 with fail
  rw [← HW.out]
  go_region_law (first | (go_simp; (with_reducible refine (HP.out w0.drew HB.out.drew).mono ?_); rintro e w_1 ⟨rfl, hb_1⟩; have bb_1 := below_step HB.out.drew hb_1; have x_1 := (HX.out w_1 (below_step (Below.refl _ _).drew hb_1)).1))
  all_goals
    go_wp2
    go_ret
    exact ⟨by rw [HR.out]; rfl, bb_1⟩

set_option maxRecDepth 100000 in
set_option maxHeartbeats 2000000 in
theorem defText_any (d : DefL) (ds : List DefL) (p : Int × Int) (hl : libB ds = true) (hty : typeOf ds d.body = some p) (hnm : d.name.size ≤ 1048576) (v : Value) (w : World) (h : ReadsN w v d.body) :
    Calls Tryd.prog 35 #[.agg #[.string d.name, .int .i64 d.inp, .int .i64 d.out, v]] w fun e w' => e = .returned (.string (defX d)) ∧ Below w.heap.size w w' := by
  obtain ⟨w0, hw0⟩ : ∃ W, W = w.alloc (.cells #[.string d.name, .int .i64 d.inp, .int .i64 d.out, v] 44) := ⟨_, rfl⟩
  have hB : Below w.heap.size w w0 := by rw [hw0]; exact below_alloc (Below.refl _ _)
  have HB := Lib.hid hB
  have HT := Lib.hid (fun W (hW : Below w.heap.size w W) => treeOf_any v d.body ds p hty W (h.below hW))
  have HP := Lib.hid (fun W => printed_any ds hl false (treeN d.body) (tree_of hty).2.2.1 (by rw [(tree_of hty).2.1]; exact (tree_of hty).2.2.2.2.1) W)
  obtain ⟨ty, u, htv⟩ := valT_form (treeN d.body)
  rw [htv] at HT HP
  have hps := prT_size hl false (treeN d.body) (tree_of hty).2.2.1
  rw [(tree_of hty).2.1] at hps
  have h400 := (tree_of hty).2.2.2.2.1
  obtain ⟨a, cap, rfl⟩ := h.form
  have hX0 : w0.cell? ⟨w.heap.size, 0, none⟩ = some (.string d.name) ∧ w0.cell? ⟨w.heap.size, 3, none⟩ = some (.slice a d.body.length cap) := by rw [hw0]; constructor <;> simp [go_sem]
  have HX := Lib.hid (show ∀ W, Below w0.heap.size w0 W → W.cell? ⟨w.heap.size, 0, none⟩ = some (.string d.name) ∧ W.cell? ⟨w.heap.size, 3, none⟩ = some (.slice a d.body.length cap) from fun W hW => ⟨cell_old hW hX0.1, cell_old hW hX0.2⟩)
  have HW := Lib.hid hw0
  have HR : Hid (defX d = d.name ++ ⟨#[32, 61, 32]⟩ ++ prT false (treeN d.body)) := Lib.hid rfl
  obtain ⟨R, hR⟩ : ∃ R, prT false (treeN d.body) = R := ⟨_, rfl⟩
  rw [hR] at HR hps
  rw [hR] at HP
  have hn1 : ¬ (9223372036854775807 < d.name.size + 3) := by omega
  have hn2 : ¬ (9223372036854775807 < d.name.size + 3 + R.size) := by omega
  obtain ⟨z0, z3⟩ := hX0
  clear h hw0 hR hps h400 hB
  go_enter Tryd.func35, Tryd.ntmps35
  go_upto_region 1 with fail
  rw [← HW.out]
  go_region_law (first | (go_simp; (with_reducible refine (HT.out w0.drew HB.out.drew).mono ?_); rintro e w_1 ⟨rfl, hb_1⟩; have bb_1 := below_step HB.out.drew hb_1; have c_1 := below_step (Below.refl _ _).drew hb_1; have x_1 := (HX.out w_1 c_1).1) | (go_simp; (with_reducible refine (HP.out _).mono ?_); rintro e w_2 ⟨rfl, hb_2⟩; have bb_2 := below_step bb_1 hb_2; have x_2 := (HX.out w_2 (below_step c_1 hb_2)).1))
  all_goals
    go_wp2
    go_ret
    exact ⟨by rw [HR.out]; rfl, bb_2⟩

set_option maxRecDepth 100000 in
set_option maxHeartbeats 2000000 in
theorem sxLibrary_any (v : Value) (ds : List DefL) (hl : libB ds = true) (w : World) (h : ReadsD w v ds) :
    Calls Tryd.prog 37 #[v] w fun e w' => e = .returned (.string (libX ds)) ∧ Below w.heap.size w w' := by
  obtain ⟨a, cap, rfl, hm, hc⟩ := open_readsD h
  obtain ⟨n, hn⟩ : ∃ n, ds.length = n := ⟨_, rfl⟩
  have HL12 := Lib.hid (libB_all hl).1
  have HL := Lib.hid hl
  have HN := Lib.hid hn
  have HC := Lib.hid hc
  rw [hn] at hm HL12 ⊢
  clear h hc hl hn
  go_enter Tryd.func37, Tryd.ntmps37
  go_wp2
  go_loopw [8, 3] (fun i q wr => ∃ (k : Nat) (A : ByteArray), k ≤ n ∧ i = .int .i64 k ∧ q = .string A ∧ Hid (libX (ds.take k) = A ∧ A.size ≤ 5000 * k ∧ Below w.heap.size w wr)) (fun i _ _ => n + 1 - (intOf i).toNat)
  case atStart => exact ⟨0, ByteArray.empty, by omega, rfl, rfl, Lib.hid ⟨rfl, Nat.zero_le _, Below.refl _ _⟩⟩
  case round =>
    obtain ⟨k, A, hk, rfl, rfl, H⟩ := hrel
    by_cases hlt : k < n
    · obtain ⟨g, off, a1, c1, rfl, hg, hE⟩ := HC.out k (by rw [HN.out]; exact hlt)
      obtain ⟨x0, x1, x2, x3, hrd⟩ := hE.below H.out.2.2
      have hk0 : 0 ≤ (k : Int) := by omega
      have hkn : (k : Int) < (n : Int) := by omega
      have hd8 := (def_at HL.out k (by rw [HN.out]; exact hlt)).1
      have hty := (def_at HL.out k (by rw [HN.out]; exact hlt)).2
      have hlk := libB_take HL.out k (by rw [HN.out]; exact hk)
      have hdx := defX_size hlk hty hd8
      have hsu := libX_succ ds k (by rw [HN.out]; exact hlt)
      rw [H.out.1] at hsu
      have hAs := H.out.2.1
      obtain ⟨d, hd⟩ : ∃ d, dAt ds k = d := ⟨_, rfl⟩
      rw [hd] at x0 x1 x2 x3 hrd hd8 hty hdx hsu
      obtain ⟨W1, hW1⟩ : ∃ W, W = wr.alloc (.cells #[.string d.name, .int .i64 d.inp, .int .i64 d.out, .slice a1 d.body.length c1] 44) := ⟨_, rfl⟩
      have hb1 : Below wr.heap.size wr W1 := by rw [hW1]; exact (Below.refl _ _).alloc (Nat.le_refl _) _
      have HW1 := Lib.hid hW1
      have HB1 := Lib.hid (H.out.2.2.trans (hb1.mono H.out.2.2.size))
      have hcall := Lib.hid (sxDef_any d (ds.take k) _ hlk hty (by omega) (.slice a1 d.body.length c1) W1 (hrd.below hb1))
      obtain ⟨T, hT⟩ : ∃ T, defX d = T := ⟨_, rfl⟩
      rw [hT] at hcall hdx hsu
      have HSU := Lib.hid hsu
      have hn12 := HL12.out
      have hA6 : A.size ≤ 60000 := by omega
      clear hE hrd hd hty hlk hT hsu hW1 hb1 hd8
      go_wp2_with fail
      rw [← HW1.out]
      refine hcall.out.mono ?_
      rintro e w2 ⟨rfl, hb2⟩
      have hnew : Hid (libX (ds.take (k + 1)) = A ++ (T ++ ⟨#[10]⟩) ∧ (A ++ (T ++ ⟨#[10]⟩)).size ≤ 5000 * (k + 1) ∧ Below w.heap.size w w2) := by
        refine Lib.hid ⟨HSU.out, ?_, below_step HB1.out hb2⟩
        rw [ByteArray.size_append, ByteArray.size_append]
        show _ + (_ + 1) ≤ _
        omega
      clear hb2 x0 x1 x2 x3
      go_wp2
      go_roundw
      case rel => exact ⟨k + 1, _, by omega, by go_num, rfl, hnew⟩
      case measure => simp [intOf]; omega
    · obtain rfl : k = n := by omega
      have hfin := H.out
      rw [← HN.out, List.take_length] at hfin
      have HF := Lib.hid hfin
      clear hfin
      go_wp2
      go_ret
      exact ⟨by rw [HF.out.1]; rfl, HF.out.2.2⟩

/-- What the functions return. -/
def lxP (ds : List DefL) : ByteArray := if libB ds = true then libX ds else ByteArray.empty
set_option maxRecDepth 100000 in
set_option maxHeartbeats 2000000 in
theorem specPL_any (vd : Value) (ds : List DefL) (w : World) (hd : ReadsD w vd ds) :
    Calls Tryd.prog 22 #[vd] w (StrOut w (lxP ds) (libB ds)) := by
  have hg := Lib.hid (lbGood_any vd ds w hd)
  have hsx := Lib.hid (fun (hl : libB ds = true) W (hW : Below w.heap.size w W) => sxLibrary_any vd ds hl W (hd.below hW))
  obtain ⟨ad, capd, rfl⟩ := hd.form
  clear hd
  cases hl : libB ds with
  | false =>
    rw [hl] at hg
    have e : lxP ds = ByteArray.empty := by unfold lxP; rw [hl]; rfl
    rw [e]
    clear e hsx hl
    go_enter Tryd.func22, Tryd.ntmps22
    go_wp2_with fail
    refine hg.out.mono ?_
    rintro e w1 ⟨rfl, hb⟩
    have HB1 := Lib.hid hb
    clear hb
    go_wp2
    refine bodyPost_ret (v := .tuple #[.string ByteArray.empty, .bool false]) (by simp [results, Tryd.results22, go_sem]; rfl) rfl ?_
    exact ⟨rfl, HB1.out⟩
  | true =>
    have hs2 := Lib.hid (hsx.out hl)
    rw [hl] at hg
    have e : lxP ds = libX ds := by unfold lxP; rw [hl]; rfl
    rw [e]
    obtain ⟨R, hR⟩ : ∃ R, libX ds = R := ⟨_, rfl⟩
    rw [hR] at hs2 ⊢
    clear e hsx hl hR
    go_enter Tryd.func22, Tryd.ntmps22
    go_wp2_with fail
    refine hg.out.mono ?_
    rintro e w1 ⟨rfl, hb⟩
    have HB1 := Lib.hid hb
    clear hb
    go_wp2_with fail
    refine (hs2.out w1 HB1.out).mono ?_
    rintro e w2 ⟨rfl, hb⟩
    have HB2 := Lib.hid (below_step HB1.out hb)
    clear hb
    go_wp2
    refine bodyPost_ret (v := .tuple #[.string R, .bool true]) (by simp [results, Tryd.results22, go_sem]) rfl ?_
    exact ⟨rfl, HB2.out⟩

set_option maxRecDepth 100000 in
set_option maxHeartbeats 2000000 in
theorem implPL_any (vd : Value) (ds : List DefL) (hbd : totD ds ≤ 10000000000000) (w : World) (hd : ReadsD w vd ds) :
    Calls Tryd.prog 23 #[vd] w (StrOut w (lxP ds) (libB ds)) := by
  have hg := Lib.hid (isLibrary_any vd ds hbd w hd)
  cases hl : libB ds with
  | false =>
    obtain ⟨ad, capd, rfl⟩ := hd.form
    rw [hl] at hg
    have e : lxP ds = ByteArray.empty := by unfold lxP; rw [hl]; rfl
    rw [e]
    clear e hl hd
    go_enter Tryd.func23, Tryd.ntmps23
    go_wp2_with fail
    refine hg.out.mono ?_
    rintro e w1 ⟨rfl, hb⟩
    have HB1 := Lib.hid hb
    clear hb
    go_wp2
    refine bodyPost_ret (v := .tuple #[.string ByteArray.empty, .bool false]) (by simp [results, Tryd.results23, go_sem]; rfl) rfl ?_
    exact ⟨rfl, HB1.out⟩
  | true =>
    have e : lxP ds = libX ds := by unfold lxP; rw [hl]; rfl
    rw [e]
    obtain ⟨a, cap, rfl, hm, hc⟩ := open_readsD hd
    obtain ⟨n, hn⟩ : ∃ n, ds.length = n := ⟨_, rfl⟩
    have HL12 := Lib.hid (libB_all hl).1
    have HL := Lib.hid hl
    have HN := Lib.hid hn
    have HC := Lib.hid hc
    rw [hl] at hg
    rw [hn] at hm HL12 hg ⊢
    clear hd hc hl hn e
    go_enter Tryd.func23, Tryd.ntmps23
    go_wp2_with fail
    refine hg.out.mono ?_
    rintro e w1 ⟨rfl, hb⟩
    have HB0 := Lib.hid hb
    clear hb
    go_wp2
    go_loopw [12, 4] (fun i q wr => ∃ (k : Nat) (A : ByteArray), k ≤ n ∧ i = .int .i64 k ∧ q = .string A ∧ Hid (libX (ds.take k) = A ∧ A.size ≤ 5000 * k ∧ Below w.heap.size w wr)) (fun i _ _ => n + 1 - (intOf i).toNat)
    case atStart => exact ⟨0, ByteArray.empty, by omega, rfl, rfl, Lib.hid ⟨rfl, Nat.zero_le _, HB0.out⟩⟩
    case round =>
      obtain ⟨k, A, hk, rfl, rfl, H⟩ := hrel
      by_cases hlt : k < n
      · obtain ⟨g, off, a1, c1, rfl, hg, hE⟩ := HC.out k (by rw [HN.out]; exact hlt)
        obtain ⟨x0, x1, x2, x3, hrd⟩ := hE.below H.out.2.2
        have hk0 : 0 ≤ (k : Int) := by omega
        have hkn : (k : Int) < (n : Int) := by omega
        have hd8 := (def_at HL.out k (by rw [HN.out]; exact hlt)).1
        have hty := (def_at HL.out k (by rw [HN.out]; exact hlt)).2
        have hlk := libB_take HL.out k (by rw [HN.out]; exact hk)
        have hdx := defX_size hlk hty hd8
        have hsu := libX_succ ds k (by rw [HN.out]; exact hlt)
        rw [H.out.1] at hsu
        have hAs := H.out.2.1
        obtain ⟨d, hd⟩ : ∃ d, dAt ds k = d := ⟨_, rfl⟩
        rw [hd] at x0 x1 x2 x3 hrd hd8 hty hdx hsu
        obtain ⟨W1, hW1⟩ : ∃ W, W = wr.alloc (.cells #[.string d.name, .int .i64 d.inp, .int .i64 d.out, .slice a1 d.body.length c1] 44) := ⟨_, rfl⟩
        have hb1 : Below wr.heap.size wr W1 := by rw [hW1]; exact (Below.refl _ _).alloc (Nat.le_refl _) _
        have HW1 := Lib.hid hW1
        have HB1 := Lib.hid (H.out.2.2.trans (hb1.mono H.out.2.2.size))
        have hcall := Lib.hid (defText_any d (ds.take k) _ hlk hty (by omega) (.slice a1 d.body.length c1) W1 (hrd.below hb1))
        obtain ⟨T, hT⟩ : ∃ T, defX d = T := ⟨_, rfl⟩
        rw [hT] at hcall hdx hsu
        have HSU := Lib.hid hsu
        have hn12 := HL12.out
        have hA6 : A.size ≤ 60000 := by omega
        clear hE hrd hd hty hlk hT hsu hW1 hb1 hd8
        go_wp2_with fail
        rw [← HW1.out]
        refine hcall.out.mono ?_
        rintro e w2 ⟨rfl, hb2⟩
        have hnew : Hid (libX (ds.take (k + 1)) = A ++ (T ++ ⟨#[10]⟩) ∧ (A ++ (T ++ ⟨#[10]⟩)).size ≤ 5000 * (k + 1) ∧ Below w.heap.size w w2) := by
          refine Lib.hid ⟨HSU.out, ?_, below_step HB1.out hb2⟩
          rw [ByteArray.size_append, ByteArray.size_append]
          show _ + (_ + 1) ≤ _
          omega
        clear hb2 x0 x1 x2 x3
        go_wp2
        go_roundw
        case rel => exact ⟨k + 1, _, by omega, by go_num, rfl, hnew⟩
        case measure => simp [intOf]; omega
      · obtain rfl : k = n := by omega
        have hfin := H.out
        rw [← HN.out, List.take_length] at hfin
        have HF := Lib.hid hfin
        clear hfin
        go_wp2
        refine bodyPost_ret (v := .tuple #[.string A, .bool true]) (by simp [results, Tryd.results23, go_sem]) rfl ?_
        exact ⟨by rw [HF.out.1], HF.out.2.2⟩

end Ints
end Go.Proofs.YtlfcmlbffpmhkaaDoor
