/- A library without one definition: the reference. -/
import Derived.Test.YtlfcmlbffpmhkaaRemI
namespace Go.Proofs.Ytlfcmlbffpmhkaa
open Go.RowKit
namespace Ints

theorem sizeDef (w : World) : (sizeOf (Try.prog.elem 26)).run Try.prog w = .ok 4 w := by
  obtain ⟨i, hi, hz, hsize, hby⟩ := info_parts infoDef
  have he : Try.prog.elem 26 = 56 := by simp [Program.elem, Try.underlying26]
  rw [he]
  simp [sizeOf, typeInfo, hi, hsize]
theorem elemDef : Try.prog.underlying 26 = some (.slice (Try.prog.elem 26)) := by simp [Program.elem, Try.underlying26]
theorem run_tailD (a : Option Addr) (n cap k : Nat) (hk : k < n) (w : World) : (Instr.sliceAt 26 (.slice a n cap) (some (.int .i64 ((k : Int) + 1))) none none).run Try.prog w = .ok (.slice (dropA 4 a cap (k + 1)) (n - (k + 1)) (cap - (k + 1))) w := by
  have h2 : ((k : Int) + 1).toNat = k + 1 := by omega
  rw [run_sliceAt_slice _ _ _ _ _ _ elemDef, run_slice_l _ _ _ _ _ elemDef .i64 _ (by omega) (by omega), sizeDef, Result.andThen, h2]
  rfl
/-- What the reference's two appends leave. -/
theorem erase_reads {w0 w4 : World} {base : Nat} {v4 : Value} {Bs : List Value} {ds D : List DefL} {k n : Nat} (hl : Bs.length = ds.length) (hb : ∀ k, k < ds.length → ReadsN w0 (vAt Bs k) (dAt ds k).body) (hk : k < ds.length)
    (hc : Chg (fun g => base ≤ g) w0 w4) (hlt : w0.heap.size ≤ base) (hown4 : w4.ownsRow base 56 4 v4 n (ofD (ds.take k) (Bs.take k) ++ ofD (ds.drop (k + 1)) (Bs.drop (k + 1)))) (hD : eraseD ds k = D) (hn : D.length = n) (hm : n ≤ maxLen) : ReadsD w4 v4 D := by
  subst hD
  have hle := eraseD_length ds k hk
  refine readsD_row (Bs := Bs.take k ++ Bs.drop (k + 1)) (by rw [← ofD_erase _ _ _ hl]; exact hown4) hn hm (by unfold eraseD; simp [hl]) fun i hi => ?_
  rw [eraseD_at ds k i hk, eraseV_at Bs k i (by omega)]
  refine Reads.chg (hb _ (by split <;> omega)) hc fun g hx hg hS => ?_
  have := Reads.lt (hb (if i < k then i else i + 1) (by split <;> omega)) g hx hg
  omega

set_option maxRecDepth 100000 in
set_option maxHeartbeats 2000000 in
theorem specRD_any (vd : Value) (ds : List DefL) (s : ByteArray) (hbd : totD ds ≤ 1048576) (w : World) (hd : ReadsD w vd ds) :
    Calls Try.prog 36 #[vd, .string s] w (LibOut w (remB ds s) (remR ds s)) := by
  have HG := Lib.hid (fun W (hW : Below w.heap.size w W) => lbGood_any vd ds W (hd.below hW))
  have HF := Lib.hid (fun W (hW : Below w.heap.size w W) => lbFind_any vd ds s W (hd.below hW))
  have HRD := Lib.hid hd
  obtain ⟨ad, cd, rfl⟩ := hd.form
  have hcd : ds.length ≤ cd := by
    obtain ⟨_, _, e, h2, _⟩ := hd
    simp only [Value.slice.injEq] at e
    rw [e.2.2]
    exact h2
  obtain ⟨n, hn⟩ : ∃ n, ds.length = n := ⟨_, rfl⟩
  have HN := Lib.hid hn
  have hn12 : libB ds = true → n ≤ 12 := fun e => by rw [← hn]; exact (libB_all e).1
  rw [hn] at HG HF hcd ⊢
  unfold remB remR
  have HBD := Lib.hid hbd
  clear hd hbd hn
  cases hfd : findD ds s with
  | none =>
    rw [hfd] at HF
    have hix : idxI none = -1 := rfl
    rw [hix] at HF
    have e1 : (libB ds && (match (none : Option Nat) with | some k => libB (eraseD ds k) | none => false)) = false := by simp
    have e2 : (if libB ds = true then (match (none : Option Nat) with | some k => libO (eraseD ds k) | none => []) else []) = [] := by simp
    rw [e1, e2]
    obtain ⟨bl, hbl⟩ : ∃ b, libB ds = b := ⟨_, rfl⟩
    rw [hbl] at HG
    clear hfd hix hn12 e1 e2 hbl
    cases bl with
    | false =>
      go_enter Try.func36, Try.ntmps36
      go_wp2_with fail
      refine (HF.out w (Below.refl _ _)).mono ?_
      rintro e w1 ⟨rfl, hb1⟩
      have HB1 := Lib.hid hb1
      clear hb1
      go_wp2_with fail
      refine (HG.out w1 HB1.out).mono ?_
      rintro e w2 ⟨rfl, hb2⟩
      have HB2 := Lib.hid (below_step HB1.out hb2)
      clear hb2
      go_wp2
      go_ret2
      exact ⟨_, rfl, ownsD_nil _ _, HB2.out⟩
    | true =>
      go_enter Try.func36, Try.ntmps36
      go_wp2_with fail
      refine (HF.out w (Below.refl _ _)).mono ?_
      rintro e w1 ⟨rfl, hb1⟩
      have HB1 := Lib.hid hb1
      clear hb1
      go_wp2_with fail
      refine (HG.out w1 HB1.out).mono ?_
      rintro e w2 ⟨rfl, hb2⟩
      have HB2 := Lib.hid (below_step HB1.out hb2)
      clear hb2
      go_wp2
      go_ret2
      exact ⟨_, rfl, ownsD_nil _ _, HB2.out⟩
  | some k =>
    rw [hfd] at HF
    have hix : idxI (some k) = (k : Int) := rfl
    rw [hix] at HF
    have hkn := findD_lt hfd
    have HKN := Lib.hid hkn
    clear hfd hix hkn
    cases hl : libB ds with
    | false =>
      rw [hl] at HG
      clear hl hn12
      rw [Bool.false_and, if_neg (by decide)]
      go_enter Try.func36, Try.ntmps36
      go_wp2_with fail
      refine (HF.out w (Below.refl _ _)).mono ?_
      rintro e w1 ⟨rfl, hb1⟩
      have HB1 := Lib.hid hb1
      clear hb1
      go_wp2_with fail
      refine (HG.out w1 HB1.out).mono ?_
      rintro e w2 ⟨rfl, hb2⟩
      have HB2 := Lib.hid (below_step HB1.out hb2)
      clear hb2
      go_wp2
      go_ret2
      exact ⟨_, rfl, ownsD_nil _ _, HB2.out⟩
    | true =>
      rw [hl] at HG
      have hn12 := hn12 hl
      clear hl
      have hilt : decide ((k : Int) < 0) = false := by simp
      have hk12 : k < n := by have := HKN.out; have := HN.out; omega
      have hw1 : IntKind.i64.wrap ((k : Int) + 1) = (k : Int) + 1 := IntWalk.i64_in _ (by omega)
      have hts := eraseD_tot ds k
      have hel := eraseD_length ds k HKN.out
      obtain ⟨D, hD⟩ : ∃ D, eraseD ds k = D := ⟨_, rfl⟩
      rw [Bool.true_and, if_pos rfl]
      dsimp only
      have HO := Lib.hid (fun v W hv => lbOwn_any v (eraseD ds k) W hv (by have := HBD.out; omega))
      have HV := Lib.hid (fun v W hv => lbIf_any v (eraseD ds k) W hv)
      have HD := Lib.hid hD
      rw [hD] at HV HO hel ⊢
      have hk0 : 0 ≤ (k : Int) := by omega
      have hkc : (k : Int) ≤ (cd : Int) := by omega
      have hsl2 := run_tailD ad n cd k hk12
      obtain ⟨aR, haR⟩ : ∃ a, dropA 4 ad cd (k + 1) = a := ⟨_, rfl⟩
      rw [haR] at hsl2
      have HAR := Lib.hid haR
      have HDL := Lib.hid (show D.length = k + (n - (k + 1)) by have := HN.out; omega)
      have hm1 := Lib.hid (show 0 + k ≤ maxLen by unfold maxLen; omega)
      have hm2 := Lib.hid (show (0 + k) * 56 ≤ 140737488355328 by omega)
      have hm3 := Lib.hid (show k + (n - (k + 1)) ≤ maxLen by unfold maxLen; omega)
      have hm4 := Lib.hid (show (k + (n - (k + 1))) * 56 ≤ 140737488355328 by omega)
      have HK12 := Lib.hid hk12
      clear hts hD haR hel
      go_enter Try.func36, Try.ntmps36
      go_wp2_with fail
      refine (HF.out w (Below.refl _ _)).mono ?_
      rintro e w1 ⟨rfl, hb1⟩
      have HB1 := Lib.hid hb1
      clear hb1
      go_wp2_with fail
      refine (HG.out w1 HB1.out).mono ?_
      rintro e w2 ⟨rfl, hb2⟩
      have hbw := below_drewB (below_step HB1.out hb2)
      have HB2 := Lib.hid hbw
      obtain ⟨Bs, hbl, hbr, hbn2⟩ := cells_of (HRD.out.below hbw)
      rw [HN.out] at hbr
      have hX1 : Below w2.drew.heap.size w2.drew (w2.drew.alloc (.cells #[] 56)) := below_alloc (Below.refl _ _)
      have hrX := hbr.below hX1
      have h1 := Ints.Reads.head hrX (l := k) (by have := HK12.out; omega)
      rw [ofD_take ds Bs k hbl] at h1
      have h0 := Ints.Reads.tail hbr (l := k + 1) (by have := HK12.out; omega)
      rw [HAR.out, ofD_drop ds Bs (k + 1) hbl] at h0
      have h2 := h0.below hX1
      have HLT : Hid (∀ g, ofD (ds.drop (k + 1)) (Bs.drop (k + 1)) ≠ [] → (Value.slice aR (n - (k + 1)) (cd - (k + 1))).ownBlock = some g → g < w2.heap.size) := Lib.hid (Reads.lt h0)
      have HR1 : Hid (Reads (w2.alloc (.cells #[] 56)).drew 4 (.slice ad k cd) k (ofD (ds.take k) (Bs.take k))) := Lib.hid h1
      have HR2 : Hid (Reads (w2.alloc (.cells #[] 56)).drew 4 (.slice aR (n - (k + 1)) (cd - (k + 1))) (n - (k + 1)) (ofD (ds.drop (k + 1)) (Bs.drop (k + 1)))) := Lib.hid h2
      have hon := bods_one hbl hbn2
      have HON1 : Hid (∀ u ∈ ofD (ds.take k) (Bs.take k), u.oneCell' = true) := Lib.hid fun u hu => hon u (by rw [← ofD_take ds Bs k hbl] at hu; exact List.mem_of_mem_take hu)
      have HON2 : Hid (∀ u ∈ ofD (ds.drop (k + 1)) (Bs.drop (k + 1)), u.oneCell' = true) := Lib.hid fun u hu => hon u (by rw [← ofD_drop ds Bs (k + 1) hbl] at hu; exact List.mem_of_mem_drop hu)
      have HOa : Hid ((w2.alloc (.cells #[] 56)).drew.ownsRow w2.drew.heap.size 56 4 (.slice (some ⟨w2.heap.size, 0, none⟩) 0 0) 0 []) := Lib.hid (own_lit (W := w2.drew) 56 4 rfl)
      have HBa : Hid (Below w2.drew.heap.size w2.drew (w2.alloc (.cells #[] 56)).drew) := Lib.hid hX1
      have HBL := Lib.hid hbl
      have HBN := Lib.hid hbn2
      clear hb2 hbw hbl hbr hbn2 hX1 hrX h0 h1 h2 hon
      go_upto_region 4 with fail
      go_region_held3 (fun _ => True)
        (first | trivial)
        (first | (refine step_append_readsD (by rfl) _ _ 26 (by rfl) w2.drew.heap.size 56 (.agg #[.string ByteArray.empty, .int .i64 0, .int .i64 0, .slice none 0 0]) 4 56 Try.underlying26 infoDef rfl (by decide) _ 0 [] HOa.out _ k _ HR1.out (by rfl) (by rfl) HON1.out hm1.out hm2.out HBa.out.size ?_; intro v4 w4 hown4 hg4; rw [Nat.zero_add, List.nil_append] at hown4; obtain ⟨a4, c4, rfl⟩ := ownsRow_form' hown4; have HB4 := Lib.hid (Below.grownRow HBa.out HOa.out hg4 HBa.out.size); have hr4 := Reads.chg HR2.out (chg_of_grown hg4) (fun g hx hg hS => by have q := HLT.out g hx hg; simp [Value.ownBlock] at hS; omega)) | (refine step_append_readsD (by rfl) _ _ 26 (by rfl) w2.drew.heap.size 56 (.agg #[.string ByteArray.empty, .int .i64 0, .int .i64 0, .slice none 0 0]) 4 56 Try.underlying26 infoDef rfl (by decide) _ _ _ hown4 _ (n - (k + 1)) _ hr4 (by rfl) (by rfl) HON2.out hm3.out hm4.out HB4.out.size ?_; intro v5 w5 hown5 hg5; have HB5 := Lib.hid (Below.grownRow HB4.out hown4 hg5 HB4.out.size); have hrd5 := erase_reads HBL.out HBN.out HKN.out (Chg.of_below HB5.out fun _ _ h => h) (Nat.le_refl _) hown5 HD.out HDL.out hm3.out; obtain ⟨a5, c5, rfl⟩ := ownsRow_form' hown5) | (go_at_call 62; (with_reducible refine (HO.out _ _ hrd5).mono ?_); rintro e w6 ⟨v6, Cs, rfl, hown6, hbo6, hb6⟩; have hod6 := ownsD_row hown6 rfl (by rw [HDL.out]; exact hm3.out) hbo6 (fun _ h => h); obtain ⟨a6, c6, rfl⟩ := ownsRow_form' hown6; have HB6 := Lib.hid (below_step HB5.out hb6)) | (go_at_call 61; (with_reducible refine (HV.out _ _ hod6.reads).mono ?_); rintro e w7 ⟨v7, rfl, hv7, hb7⟩; have HV7 := Lib.hid hv7; clear hv7; have HB7 := Lib.hid (below_step HB6.out hb7)))
      have hfin : Hid (LibOut w (libB D) (libO D) (.returned (.tuple #[v7, .bool (libB D)])) w7) := by
        have q := libO_own (hod6.below hb7)
        rw [← HV7.out] at q
        exact Lib.hid ⟨v7, rfl, q.mono (fun g hg => Nat.le_trans (Nat.le_trans HB2.out.size HB5.out.size) hg), below_step HB2.out HB7.out⟩
      clear hod6 hbo6 hown6 hb6 hb7 hown5 hg5 hown4 hg4 hrd5 hr4
      go_wp2
      go_ret2
      exact hfin.out


theorem remR_ctr (ds : List DefL) (s : ByteArray) (h : totD ds ≤ 1048576) : (1 : Int) + (sumDS (remR ds s) : Int) ≤ 1000000000 := by
  unfold remR
  split
  · split
    · rename_i k _
      have h1 := eraseD_tot ds k
      have h2 := sumDS_tot (eraseD ds k)
      unfold libO
      split
      · omega
      · simp [sumDS]
    · simp [sumDS]
  · simp [sumDS]

end Ints
end Go.Proofs.Ytlfcmlbffpmhkaa
