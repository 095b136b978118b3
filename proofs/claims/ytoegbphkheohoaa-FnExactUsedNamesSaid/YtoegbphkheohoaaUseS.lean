/- The names that a term needs: the reference. -/
import Derived.Test.YtoegbphkheohoaaUseP
import Derived.Test.YtoegbphkheohoaaUseT
import Derived.Deep.RegionHeld3
namespace Go.Proofs.Ytoegbphkheohoaa
open Go.RowKit
namespace Ints

theorem infoBo : (Try.prog.info? 4).map (fun i => (i.zero, i.size, i.bytes)) = some (some (.bool false), 1, 1) := by kernel_rfl
theorem infoStr : (Try.prog.info? 9).map (fun i => (i.zero, i.size, i.bytes)) = some (some (.string ByteArray.empty), 1, 16) := by kernel_rfl
/-- Block m is the table of n marks. -/
def UsedAt (m n : Nat) (f : Nat → Bool) (W : World) : Prop := ∃ cs, W.heap[m]? = some (.cells cs 4 (0, 0)) ∧ cs.size = n ∧ ∀ i : Nat, i < n → cs[i]? = some (.bool (f i))
theorem UsedAt.start {m n : Nat} {W : World} (hown : W.ownsRow m 4 1 (.slice (some ⟨m, 0, none⟩) n n) n (List.replicate n (.bool false))) : UsedAt m n (fun _ => false) W := by
  obtain ⟨_, h2⟩ := hown
  rcases h2 with ⟨hh, _⟩ | ⟨g, cap, cur, hv, _, hh, _, _, hz, ht⟩
  · simp at hh
  · simp only [Value.slice.injEq, Option.some.injEq, Addr.mk.injEq, and_true] at hv
    obtain ⟨rfl, -, rfl⟩ := hv
    refine ⟨cur, hh, by omega, fun i hi => ?_⟩
    have e : cur.toList[i]? = (List.replicate n (Value.bool false))[i]? := by
      rw [← ht, List.getElem?_take, if_pos (by omega)]
    rw [List.getElem?_replicate, if_pos hi] at e
    rw [← Array.getElem?_toList, e]
theorem UsedAt.put {m n j : Nat} {f : Nat → Bool} {W : World} (h : UsedAt m n f W) (hj : j < n) : UsedAt m n (putB f j) (W.setCell ⟨m, j, none⟩ (.bool true)) := by
  obtain ⟨cs, h4, h5, h6⟩ := h
  refine ⟨cs.setIfInBounds j (.bool true), Go.Joins.block_setCell (g := m) (i := j) h4 (.bool true), by simpa using h5, fun i hi => ?_⟩
  unfold putB
  by_cases hij : i = j
  · subst hij
    rw [Array.getElem?_setIfInBounds_self_of_lt (by omega), if_pos rfl]
  · rw [Array.getElem?_setIfInBounds_ne (by omega), h6 i hi, if_neg hij]
theorem UsedAt.below {m n : Nat} {f : Nat → Bool} {W W' : World} (h : UsedAt m n f W) (hb : Below W.heap.size W W') : UsedAt m n f W' := by
  obtain ⟨cs, h4, h5⟩ := h
  exact ⟨cs, block_old h4 hb, h5⟩
theorem UsedAt.cell {m n j : Nat} {f : Nat → Bool} {W : World} (h : UsedAt m n f W) (hj : j < n) : W.cell? ⟨m, j, none⟩ = some (.bool (f j)) ∧ W.frozen? ⟨m, j, none⟩ = false := by
  obtain ⟨cs, h4, _, h6⟩ := h
  exact ⟨(Go.Joins.cell_of_block h4 j).trans (h6 j hj), Go.Joins.unfrozen_of_block h4 j⟩

set_option maxRecDepth 100000 in
set_option maxHeartbeats 4000000 in
theorem lbUsed_any (vd vn : Value) (ds : List DefL) (ns : List NodeL) (p : Int × Int) (hl : libB ds = true) (hty : typeOf ds ns = some p) (w : World) (hd : ReadsD w vd ds) (h : ReadsN w vn ns) :
    Calls Try.prog 24 #[vd, .agg #[vn]] w fun e w' => ∃ m f, e = .returned (.slice (some ⟨m, 0, none⟩) ds.length ds.length) ∧ w.heap.size ≤ m ∧ UsedAt m ds.length f w' ∧ (∀ i, f i = true ↔ Need ds ns i) ∧ Below w.heap.size w w' := by
  obtain ⟨w0, hw0⟩ : ∃ W, W = w.alloc (.cells #[vn] 35) := ⟨_, rfl⟩
  have hB : Below w.heap.size w w0 := by rw [hw0]; exact below_alloc (Below.refl _ _)
  have HF := Lib.hid (fun s W (hW : Below w.heap.size w W) => lbFind_any vd ds s W (hd.below hW))
  obtain ⟨ad, cd, rfl, hm, hc⟩ := open_readsD hd
  obtain ⟨an, cn, rfl, hmn, hcn⟩ := open_readsN h
  have hx0 : w0.cell? ⟨w.heap.size, 0, none⟩ = some (.slice an ns.length cn) := by rw [hw0]; simp [go_sem]
  have HB := Lib.hid hB
  have HW := Lib.hid hw0
  have HC := Lib.hid hc
  have HCN := Lib.hid hcn
  have HNM := Lib.hid (fun k hk h17 => typeOf_named hty k hk h17)
  have HLB := Lib.hid hl
  have h12 := (libB_all hl).1
  obtain ⟨n, hn⟩ : ∃ n, ds.length = n := ⟨_, rfl⟩
  have HN := Lib.hid hn
  obtain ⟨ln, hln⟩ : ∃ n, ns.length = n := ⟨_, rfl⟩
  have HLN := Lib.hid hln
  rw [hn] at hm HF h12 ⊢
  rw [hln] at hmn HW hx0 ⊢
  have hm1 := Lib.hid (show 1 * n ≤ 281474976710656 by omega)
  have hm2 := Lib.hid (show n ≤ maxLen by unfold maxLen; omega)
  have hwn : IntKind.i64.wrap ((n : Int) - 1) = (n : Int) - 1 := IntWalk.i64_in _ (by omega)
  have HX := Lib.hid hx0
  clear hd h hw0 hB hc hcn hn hln hty hl hx0
  go_enter Try.func24, Try.ntmps24
  go_wp2_with (at_make; rw [← HW.out]; refine wpList_make_one _ rfl _ _ 52 rfl 4 (.bool false) 1 Try.underlying52 infoBo rfl n rfl rfl hm1.out hm2.out ?_; intro w1 hown1 hb1 hs1; have x1 := cell_old hb1 HX.out)
  have HS1 := Lib.hid (UsedAt.start hown1)
  have HB1 := Lib.hid hb1
  clear hown1 hb1 hs1 x1
  have hge := Lib.hid HB.out.size
  go_loopw [17] (fun i wr => ∃ (k : Nat) (f : Nat → Bool), k ≤ ln ∧ i = .int .i64 k ∧ Hid (UsedAt w0.heap.size n f wr ∧ (∀ q, f q = true ↔ usesK ds ns k q) ∧ Below w0.heap.size w0 wr)) (fun i _ => ln + 1 - (intOf i).toNat)
  case atStart => exact ⟨0, _, by omega, rfl, Lib.hid ⟨HS1.out, fun q => ⟨fun e => by simp at e, fun e => absurd e (usesK_zero _ _ _)⟩, HB1.out⟩⟩
  case round =>
    obtain ⟨k, f, hk, rfl, H⟩ := hrel
    by_cases hlt : k < ln
    · obtain ⟨gg, on, rfl, hgg, hEn⟩ := HCN.out k (by rw [HLN.out]; exact hlt)
      have HBR := Lib.hid (below_step HB.out H.out.2.2)
      obtain ⟨y0, y1, y2⟩ := hEn.below HBR.out
      have hk0 : 0 ≤ (k : Int) := by omega
      have hkl : (k : Int) < (ln : Int) := by omega
      have hnm := HNM.out k (by rw [HLN.out]; exact hlt)
      have HSK := Lib.hid (fun (h17 : (nAt ns k).kind ≠ 17) q => (show f q = true ↔ usesK ds ns (k + 1) q from (H.out.2.1 q).trans ⟨usesK_mono, usesK_skip h17⟩))
      have HPK := Lib.hid (fun i (h17 : (nAt ns k).kind = 17) (hi : findD ds (nAt ns k).name = some i) q => (show putB f i q = true ↔ usesK ds ns (k + 1) q from ⟨fun e => by
        rcases putB_cases e with rfl | e
        · exact usesK_here h17 hi
        · exact usesK_mono ((H.out.2.1 q).1 e), fun e => by
        rcases usesK_cases hi e with rfl | e
        · exact putB_same _ _
        · exact putB_old ((H.out.2.1 q).2 e)⟩))
      obtain ⟨nd, hnd⟩ : ∃ x, nAt ns k = x := ⟨_, rfl⟩
      rw [hnd] at y0 y1 y2 hnm HSK HPK
      obtain ⟨kd, vl, s2⟩ := nd
      dsimp only at y0 y1 y2 hnm HSK HPK
      obtain ⟨W1, hW1⟩ : ∃ W, W = wr.alloc (.cells #[.int .i64 kd, .int .i64 vl, .string s2] 71) := ⟨_, rfl⟩
      have hb1 : Below wr.heap.size wr W1 := by rw [hW1]; exact below_alloc (Below.refl _ _)
      have HBW1 := Lib.hid (below_step H.out.2.2 hb1)
      have HU := Lib.hid (H.out.1.below hb1)
      have HW1 := Lib.hid hW1
      clear hEn hgg hnd hb1 hW1 H
      by_cases h17 : kd = 17
      · subst h17
        obtain ⟨i, hi⟩ := hnm rfl
        have hin : i < n := by rw [← HN.out]; exact findD_lt hi
        have hfi := Lib.hid (fun W hW => HF.out s2 W hW)
        rw [hi] at hfi
        have hix : idxI (some i) = (i : Int) := rfl
        rw [hix] at hfi
        have HPK2 := Lib.hid (HPK.out i rfl hi)
        have hi0 : 0 ≤ (i : Int) := by omega
        have hil : (i : Int) < (n : Int) := by omega
        clear hi hix hnm HSK HPK
        go_wp2_with fail
        rw [← HW1.out]
        refine (hfi.out _ (below_step HB.out HBW1.out)).mono ?_
        rintro e w3 ⟨rfl, hb3⟩
        have HU3 := Lib.hid (HU.out.below hb3)
        obtain ⟨z0, g0⟩ := HU3.out.cell hin
        have hnx : Hid (UsedAt w0.heap.size n (putB f i) (w3.setCell ⟨w0.heap.size, i, none⟩ (.bool true)) ∧ Below w0.heap.size w0 (w3.setCell ⟨w0.heap.size, i, none⟩ (.bool true))) :=
          Lib.hid ⟨HU3.out.put hin, (below_step HBW1.out hb3).setCell (p := ⟨w0.heap.size, i, none⟩) (Nat.le_refl _) _⟩
        clear hb3
        go_wp2
        go_roundw
        case rel => exact ⟨k + 1, _, by omega, by go_num, Lib.hid ⟨hnx.out.1, HPK2.out, hnx.out.2⟩⟩
        case measure => simp [intOf]; omega
      · have b17 : (kd == 17) = false := by simpa using h17
        have HSK2 := Lib.hid (HSK.out h17)
        clear h17 hnm HSK HPK
        go_wp2
        go_roundw
        case rel => exact ⟨k + 1, f, by omega, by go_num, Lib.hid (by rw [← HW1.out]; exact ⟨HU.out, HSK2.out, HBW1.out⟩)⟩
        case measure => simp [intOf]; omega
    · obtain rfl : k = ln := by omega
      have HST : Hid (UsedAt w0.heap.size n f wr ∧ RefU ds ns f n ∧ Below w0.heap.size w0 wr) := by
        refine Lib.hid ⟨H.out.1, ?_, H.out.2.2⟩
        rw [← HN.out]
        refine RefU.start fun q => ?_
        have := H.out.2.1 q
        rw [← HLN.out] at this
        exact this
      clear H
      go_wp2
      go_loopw [8] (fun i wq => ∃ (b : Nat) (f : Nat → Bool), b ≤ n ∧ i = .int .i64 ((b : Int) - 1) ∧ Hid (UsedAt w0.heap.size n f wq ∧ RefU ds ns f b ∧ Below w0.heap.size w0 wq)) (fun i _ => (intOf i + 1).toNat)
      case atStart => exact ⟨n, f, by omega, rfl, HST⟩
      case round =>
        rename World => wq
        obtain ⟨b, f, hb, rfl, H⟩ := hrel
        cases b with
        | zero =>
          have hfin : Hid (UsedAt w0.heap.size n f wq ∧ (∀ i, f i = true ↔ Need ds ns i) ∧ Below w.heap.size w wq) := Lib.hid ⟨H.out.1, H.out.2.1.all, below_step HB.out H.out.2.2⟩
          clear H
          go_wp2
          go_ret
          exact ⟨_, _, rfl, hge.out, hfin.out.1, hfin.out.2.1, hfin.out.2.2⟩
        | succ b =>
          have hbi : ((b + 1 : Nat) : Int) - 1 = (b : Int) := by omega
          rw [hbi]
          have hb0 : 0 ≤ (b : Int) := by omega
          have hbn : (b : Int) < (n : Int) := by omega
          have hwb : IntKind.i64.wrap ((b : Int) - 1) = (b : Int) - 1 := IntWalk.i64_in _ (by omega)
          obtain ⟨z0, g0⟩ := H.out.1.cell (j := b) (by omega)
          clear hbi
          cases hfb : f b with
          | false =>
            have hnx := Lib.hid (And.intro H.out.1 (And.intro (H.out.2.1.skip hfb) H.out.2.2))
            rw [hfb] at z0
            clear hfb H
            go_wp2
            go_roundw
            case rel => exact ⟨b, f, by omega, rfl, hnx⟩
            case measure => simp [intOf]
          | true =>
            obtain ⟨g, off, a1, c1, rfl, hg, hE⟩ := HC.out b (by rw [HN.out]; omega)
            have HBQ := Lib.hid (below_step HB.out H.out.2.2)
            obtain ⟨-, -, -, x3w, hbody⟩ := hE
            have x3 := cell_old HBQ.out x3w
            obtain ⟨ab, cb, hEq, hmb2, hcb⟩ := open_readsN hbody
            injection hEq with e1 e2 e3
            subst e1 e3
            have HCB := Lib.hid hcb
            have HBN := Lib.hid (fun i hi h17 => body_named (j := b) HLB.out (by rw [HN.out]; omega) i hi h17)
            have HST2 := Lib.hid (And.intro H.out.1 (And.intro (RefI.start H.out.2.1 hfb) H.out.2.2))
            have HMK := Lib.hid (fun f k i hk h h17 hi => RefI.mark (ns := ns) (f := f) (b := b) (k := k) (i := i) HLB.out (by rw [HN.out]; omega) hk h h17 hi)
            obtain ⟨body, hbd⟩ : ∃ x, (dAt ds b).body = x := ⟨_, rfl⟩
            have HBD := Lib.hid hbd
            rw [hbd] at x3 HCB hmb2 HBN HMK
            obtain ⟨mb, hmb⟩ : ∃ m, body.length = m := ⟨_, rfl⟩
            have HMB := Lib.hid hmb
            rw [hmb] at x3 hmb2
            rw [hfb] at z0
            have HBQ0 := Lib.hid H.out.2.2
            clear x3w hbody hcb hbd hmb hg hfb H
            go_wp2
            go_loopw [50] (fun i wz => ∃ (k : Nat) (f : Nat → Bool), k ≤ mb ∧ i = .int .i64 k ∧ Hid (UsedAt w0.heap.size n f wz ∧ RefI ds ns f b k ∧ Below w0.heap.size w0 wz)) (fun i _ => mb + 1 - (intOf i).toNat)
            case atStart => exact ⟨0, f, by omega, rfl, Lib.hid ⟨HST2.out.1, HST2.out.2.1, HST2.out.2.2⟩⟩
            case round =>
              rename World => wz
              obtain ⟨k, f, hk, rfl, H⟩ := hrel
              by_cases hlt : k < mb
              · obtain ⟨gg, on, rfl, hgg, hEn⟩ := HCB.out k (by rw [HMB.out]; exact hlt)
                have HBR := Lib.hid (below_step HB.out H.out.2.2)
                obtain ⟨y0, y1, y2⟩ := hEn.below HBR.out
                have hk0 : 0 ≤ (k : Int) := by omega
                have hkl : (k : Int) < (mb : Int) := by omega
                have hnm := HBN.out k (by rw [HMB.out]; exact hlt)
                have HSK := Lib.hid (fun (h17 : (nAt body k).kind ≠ 17) => show RefI ds ns f b (k + 1) from H.out.2.1.skip (by rw [HBD.out]; exact h17))
                have HPK := Lib.hid (fun i (h17 : (nAt body k).kind = 17) (hi : findD ds (nAt body k).name = some i) => HMK.out f k i (by rw [HMB.out]; exact hlt) H.out.2.1 h17 hi)
                obtain ⟨nd, hnd⟩ : ∃ x, nAt body k = x := ⟨_, rfl⟩
                rw [hnd] at y0 y1 y2 hnm HSK HPK
                obtain ⟨kd, vl, s2⟩ := nd
                dsimp only at y0 y1 y2 hnm HSK HPK
                obtain ⟨W1, hW1⟩ : ∃ W, W = wz.alloc (.cells #[.int .i64 kd, .int .i64 vl, .string s2] 71) := ⟨_, rfl⟩
                have hb1 : Below wz.heap.size wz W1 := by rw [hW1]; exact below_alloc (Below.refl _ _)
                have HBW1 := Lib.hid (below_step H.out.2.2 hb1)
                have HU := Lib.hid (H.out.1.below hb1)
                have HW1 := Lib.hid hW1
                clear hEn hgg hnd hb1 hW1 H HMK HBN
                by_cases h17 : kd = 17
                · subst h17
                  obtain ⟨i, hi, hib⟩ := hnm rfl
                  have hin : i < n := by omega
                  have hfi := Lib.hid (fun W hW => HF.out s2 W hW)
                  rw [hi] at hfi
                  have hix : idxI (some i) = (i : Int) := rfl
                  rw [hix] at hfi
                  have HPK2 := Lib.hid (HPK.out i rfl hi)
                  have hi0 : 0 ≤ (i : Int) := by omega
                  have hil : (i : Int) < (n : Int) := by omega
                  clear hi hix hnm HSK HPK
                  go_wp2_with fail
                  rw [← HW1.out]
                  refine (hfi.out _ (below_step HB.out HBW1.out)).mono ?_
                  rintro e w3 ⟨rfl, hb3⟩
                  have HU3 := Lib.hid (HU.out.below hb3)
                  obtain ⟨z0, g0⟩ := HU3.out.cell hin
                  have hnx : Hid (UsedAt w0.heap.size n (putB f i) (w3.setCell ⟨w0.heap.size, i, none⟩ (.bool true)) ∧ Below w0.heap.size w0 (w3.setCell ⟨w0.heap.size, i, none⟩ (.bool true))) :=
                    Lib.hid ⟨HU3.out.put hin, (below_step HBW1.out hb3).setCell (p := ⟨w0.heap.size, i, none⟩) (Nat.le_refl _) _⟩
                  clear hb3
                  go_wp2
                  go_roundw
                  case rel => exact ⟨k + 1, _, by omega, by go_num, Lib.hid ⟨hnx.out.1, HPK2.out, hnx.out.2⟩⟩
                  case measure => simp [intOf]; omega
                · have b17 : (kd == 17) = false := by simpa using h17
                  have HSK2 := Lib.hid (HSK.out h17)
                  clear h17 hnm HSK HPK
                  go_wp2
                  go_roundw
                  case rel => exact ⟨k + 1, f, by omega, by go_num, Lib.hid (by rw [← HW1.out]; exact ⟨HU.out, HSK2.out, HBW1.out⟩)⟩
                  case measure => simp [intOf]; omega
              · obtain rfl : k = mb := by omega
                have hnx : Hid (UsedAt w0.heap.size n f wz ∧ RefU ds ns f b ∧ Below w0.heap.size w0 wz) := by
                  refine Lib.hid ⟨H.out.1, RefI.fin ?_, H.out.2.2⟩
                  rw [HBD.out, HMB.out]
                  exact H.out.2.1
                clear H
                go_wp2
                go_roundw
                case rel => exact ⟨b, f, by omega, rfl, hnx⟩
                case measure => simp [intOf]

/-- What UsedNames leaves. -/
def WordsOut (w : World) (b : Bool) (R : List ByteArray) (e : Ending) (w' : World) : Prop := ∃ v, e = .returned (.tuple #[v, .bool b]) ∧ OwnsT (w.heap.size ≤ ·) w' v R ∧ Below w.heap.size w w'

set_option maxRecDepth 100000 in
set_option maxHeartbeats 4000000 in
theorem specUN_any (vd vn : Value) (ds : List DefL) (ns : List NodeL) (f : Nat → Bool) (hf : ∀ i, f i = true ↔ Need ds ns i) (w : World) (hd : ReadsD w vd ds) (h : ReadsN w vn ns) :
    Calls Try.prog 7 #[vd, .agg #[vn]] w (WordsOut w (typI ds ns).isSome (unR ds ns f)) := by
  obtain ⟨w0, hw0⟩ : ∃ W, W = w.alloc (.cells #[vn] 35) := ⟨_, rfl⟩
  have hB : Below w.heap.size w w0 := by rw [hw0]; exact below_alloc (Below.refl _ _)
  have HT := Lib.hid (lbTerm_any vd vn ds ns w0 (hd.below hB) (h.below hB))
  have HU := Lib.hid (fun p (hp : typI ds ns = some p) W (hW : Below w.heap.size w W) => lbUsed_any vd vn ds ns p (typI_lib hp).1 (typI_lib hp).2 W (hd.below hW) (h.below hW))
  have H12 := Lib.hid (fun p (hp : typI ds ns = some p) => (libB_all (typI_lib hp).1).1)
  have hx0 : w0.cell? ⟨w.heap.size, 0, none⟩ = some vn := by rw [hw0]; simp [go_sem]
  obtain ⟨ad, cd, rfl, hm, hc⟩ := open_readsD hd
  obtain ⟨an, cn, rfl⟩ := h.form
  have HB := Lib.hid hB
  have HW := Lib.hid hw0
  have HC := Lib.hid hc
  have HX := Lib.hid hx0
  have HFN := Lib.hid hf
  obtain ⟨n, hn⟩ : ∃ n, ds.length = n := ⟨_, rfl⟩
  have HN := Lib.hid hn
  unfold unR
  rw [hn] at hm HU HT H12 ⊢
  clear hd h hw0 hB hc hn hx0 hf
  cases htp : typI ds ns with
  | none =>
    rw [htp] at HT
    clear htp HU H12
    go_enter Try.func7, Try.ntmps7
    go_wp2_with fail
    rw [← HW.out]
    refine HT.out.mono ?_
    rintro e w1 ⟨rfl, hb1⟩
    have HB1 := Lib.hid (below_step HB.out hb1)
    clear hb1
    go_wp2
    go_ret2
    exact ⟨_, rfl, ownsT_nil _ _, HB1.out⟩
  | some p =>
    have hU := Lib.hid (HU.out p htp)
    have h12 := H12.out p htp
    rw [htp] at HT
    rw [if_pos (show (some p).isSome = true from rfl)]
    clear htp HU H12
    go_enter Try.func7, Try.ntmps7
    go_wp2_with fail
    rw [← HW.out]
    refine HT.out.mono ?_
    rintro e w1 ⟨rfl, hb1⟩
    have x1 := cell_old hb1 HX.out
    have HB1 := Lib.hid (below_step HB.out hb1)
    clear hb1
    go_wp2_with fail
    refine (hU.out w1 HB1.out).mono ?_
    rintro e w2 ⟨m, f2, rfl, hge, hu2, hn2, hb2⟩
    have hff : f2 = f := by
      funext i
      rw [Bool.eq_iff_iff]
      exact (hn2 i).trans (HFN.out i).symm
    subst hff
    have HUA := Lib.hid hu2
    have HB2 := Lib.hid (below_step HB1.out hb2)
    clear hb2 x1 hge hu2 hn2
    go_wp2
    go_loopw [17, 6] (fun i o wr => ∃ (k : Nat) (ov : Value), k ≤ n ∧ i = .int .i64 k ∧ ov = o ∧ Hid (wr.ownsRow w2.heap.size 9 1 ov (namesF ds f2 k).length (ofT (namesF ds f2 k)) ∧ Below w2.heap.size w2 wr)) (fun i _ _ => n + 1 - (intOf i).toNat)
    case atStart => exact ⟨0, _, by omega, rfl, rfl, Lib.hid ⟨by simpa [namesF, ofT] using World.ownsRow_nil w2 w2.heap.size 9 1, Below.refl _ _⟩⟩
    case round =>
      obtain ⟨k, ov, hk, rfl, rfl, H⟩ := hrel
      by_cases hlt : k < n
      · obtain ⟨z0, -⟩ := (HUA.out.below H.out.2).cell hlt
        have hk0 : 0 ≤ (k : Int) := by omega
        have hkn : (k : Int) < (n : Int) := by omega
        cases hfk : f2 k with
        | false =>
          have hno := namesF_no ds hfk
          rw [hfk] at z0
          have hnx : Hid (wr.ownsRow w2.heap.size 9 1 ov (namesF ds f2 (k + 1)).length (ofT (namesF ds f2 (k + 1))) ∧ Below w2.heap.size w2 wr) := by
            rw [hno]; exact H
          clear hfk hno H
          go_wp2
          go_roundw
          case rel => exact ⟨k + 1, _, by omega, by go_num, rfl, hnx⟩
          case measure => simp [intOf]; omega
        | true =>
          obtain ⟨g, off, a1, c1, rfl, hg, hE⟩ := HC.out k (by rw [HN.out]; exact hlt)
          obtain ⟨x0, -⟩ := hE.below (below_step HB2.out H.out.2)
          have hyes := namesF_yes ds hfk
          have hlen := namesF_len ds f2 k
          rw [hfk] at z0
          obtain ⟨s, hs⟩ : ∃ s, (dAt ds k).name = s := ⟨_, rfl⟩
          rw [hs] at x0 hyes
          obtain ⟨L, hL⟩ : ∃ L, namesF ds f2 k = L := ⟨_, rfl⟩
          have HO := Lib.hid H.out.1
          have HBR := Lib.hid H.out.2
          have HYES := Lib.hid hyes
          rw [hL] at HO HYES hlen
          have hm3 := Lib.hid (show L.length + 1 ≤ maxLen by unfold maxLen; omega)
          have hm4 := Lib.hid (show (L.length + 1) * 16 ≤ 140737488355328 by omega)
          have hsz := Lib.hid (show w2.heap.size ≤ wr.heap.size from HBR.out.size)
          obtain ⟨a6, c6, rfl⟩ := ownsRow_form' HO.out
          clear hfk hyes hL hs hE hg H hlen
          go_wp2_with (at_builtin; go_must (refine wpList_append_one _ rfl _ _ 28 rfl w2.heap.size 9 (.string ByteArray.empty) 16 Try.underlying28 infoStr rfl _ _ _ (.string s) HO.out rfl rfl rfl hm3.out hm4.out hsz.out ?_); intro v4 w4 hown4 hg4)
          have hnx : Hid (w4.ownsRow w2.heap.size 9 1 v4 (namesF ds f2 (k + 1)).length (ofT (namesF ds f2 (k + 1))) ∧ Below w2.heap.size w2 w4) := by
            refine Lib.hid ⟨?_, Below.grownRow HBR.out HO.out hg4 hsz.out⟩
            rw [HYES.out, List.length_append, List.length_singleton]
            simpa [ofT] using hown4
          clear hown4 hg4
          go_wp2
          go_roundw
          case rel => exact ⟨k + 1, _, by omega, by go_num, rfl, hnx⟩
          case measure => simp [intOf]; omega
      · obtain rfl : k = n := by omega
        have hlen := namesF_len ds f2 k
        have hfin := Lib.hid (And.intro ((ownsT_row H.out.1 rfl (by unfold maxLen; omega)).mono fun g hg => Nat.le_trans HB2.out.size hg) (below_step HB2.out H.out.2))
        clear H hlen
        go_wp2
        go_ret2
        exact ⟨_, rfl, hfin.out.1, hfin.out.2⟩

end Ints
end Go.Proofs.Ytoegbphkheohoaa
