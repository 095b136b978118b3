/- Looking a definition up; the kind of a word; what is a name: both sides. -/
import Derived.Test.YtoegbphkheohoaaWords
namespace Go.Proofs.Ytoegbphkheohoaa
open Go.RowKit
namespace Ints
open Fld (inR l1In_any)

theorem findIdx_hit {α : Type} {p : α → Bool} {l : List α} {k : Nat} (hk : k < l.length) (h : ∀ j (hj : j < l.length), j < k → p l[j] = false) (ht : p l[k] = true) : l.findIdx? p = some k := by
  rw [List.findIdx?_eq_some_iff_getElem]
  exact ⟨hk, ht, fun j hj => by simp [h j (by omega) hj]⟩
theorem findIdx_miss {α : Type} {p : α → Bool} {l : List α} (h : ∀ j (hj : j < l.length), p l[j] = false) : l.findIdx? p = none := by
  rw [List.findIdx?_eq_none_iff]
  intro x hx
  obtain ⟨i, hi, rfl⟩ := List.mem_iff_getElem.1 hx
  exact h i hi
def sameB (a b : ByteArray) : Bool := a.toList == b.toList
def findD (ds : List DefL) (s : ByteArray) : Option Nat := ds.findIdx? fun d => d.name.toList == s.toList
def idxI : Option Nat → Int
  | some i => i
  | none => -1

set_option maxHeartbeats 1000000 in
theorem lbFind_any (v : Value) (ds : List DefL) (s : ByteArray) (w : World) (h : ReadsD w v ds) : Calls Try.prog 33 #[v, .string s] w fun e w' => e = .returned (.int .i64 (idxI (findD ds s))) ∧ Below w.heap.size w w' := by
  obtain ⟨a, cap, rfl, hm, hc⟩ := open_readsD h
  obtain ⟨n, hn⟩ : ∃ n, ds.length = n := ⟨_, rfl⟩
  obtain ⟨r, hr⟩ : ∃ r, idxI (findD ds s) = r := ⟨_, rfl⟩
  have HR := Lib.hid hr
  have HN := Lib.hid hn
  have HC := Lib.hid hc
  rw [hr]
  rw [hn] at hm ⊢
  clear h hn hr hc
  go_enter Try.func33, Try.ntmps33
  go_wp2
  go_loopw [9, 5, 6] (fun i x q wr => ∃ k : Nat, k ≤ n ∧ i = .int .i64 k ∧ Hid ((∀ j, j < k → ((dAt ds j).name.toList == s.toList) = false) ∧ Below w.heap.size w wr)) (fun i _ _ _ => n + 1 - (intOf i).toNat)
  case atStart => exact ⟨0, by omega, rfl, Lib.hid ⟨fun j hj => by omega, Below.refl _ _⟩⟩
  case round =>
    obtain ⟨k, hk, rfl, H⟩ := hrel
    by_cases hlt : k < n
    · obtain ⟨g, off, a1, c1, rfl, _, hE⟩ := HC.out k (by rw [HN.out]; exact hlt)
      obtain ⟨x0, x1, x2, x3, -⟩ := hE.below H.out.2
      have hk0 : 0 ≤ (k : Int) := by omega
      have hkn : (k : Int) < (n : Int) := by omega
      have hB := Lib.hid (H.out.2.alloc H.out.2.size (.cells #[.string (dAt ds k).name, .int .i64 (dAt ds k).inp, .int .i64 (dAt ds k).out, .slice a1 (dAt ds k).body.length c1] 55))
      clear hE
      cases he : ((dAt ds k).name.toList == s.toList) with
      | true =>
        have hrt : Hid (r = (k : Int)) := by
          show _ = _
          have hkl : k < ds.length := by rw [HN.out]; exact hlt
          rw [← HR.out]
          unfold findD
          rw [findIdx_hit hkl (fun j hj hjk => by rw [← dAt_eq ds j hj]; exact H.out.1 j hjk) (by rw [← dAt_eq ds k hkl]; exact he)]
          rfl
        go_wp2
        go_ret
        exact ⟨ret_int hrt.out.symm, hB.out⟩
      | false =>
        have hnx : Hid (∀ j, j < k + 1 → ((dAt ds j).name.toList == s.toList) = false) := Lib.hid fun j hj => by
          by_cases hjk : j < k
          · exact H.out.1 j hjk
          · obtain rfl : j = k := by omega
            exact he
        go_wp2
        go_roundw
        case rel => exact ⟨k + 1, by omega, by go_num, Lib.hid ⟨hnx.out, hB.out⟩⟩
        case measure => simp [intOf]; omega
    · obtain rfl : k = n := by omega
      have hrf : Hid (r = -1) := by
        show _ = _
        rw [← HR.out]
        unfold findD
        rw [findIdx_miss fun j hj => by rw [← dAt_eq ds j hj]; exact H.out.1 j (by rw [← HN.out]; exact hj)]
        rfl
      have hB := Lib.hid H.out.2
      go_wp2
      go_ret
      exact ⟨ret_int hrf.out.symm, hB.out⟩

set_option maxRecDepth 100000 in
theorem kind_res (s : ByteArray) (h : 0 < s.size) : (((kindI s : Nat) : Int) != 17) = hasS resW s := by
  have h0 : ((⟨#[]⟩ : ByteArray).toList == s.toList) = false := by
    rw [ByteArray.toList_eq, ByteArray.toList_eq, beq_eq_false_iff_ne]
    intro e
    have : s.data.toList.length = s.size := Array.length_toList
    rw [← e] at this
    simp at this
    omega
  unfold kindI kwords hasS
  rw [List.findIdx?_cons, h0]
  cases hf : resW.findIdx? (fun x => x.toList == s.toList) with
  | none =>
    rw [List.findIdx?_eq_none_iff] at hf
    have : (resW.any fun x => x.toList == s.toList) = false := by
      rw [List.any_eq_false]
      intro x hx
      simp [hf x hx]
    rw [this]
    rfl
  | some i =>
    rw [List.findIdx?_eq_some_iff_getElem] at hf
    obtain ⟨hi, ht, _⟩ := hf
    have : (resW.any fun x => x.toList == s.toList) = true := by
      rw [List.any_eq_true]
      exact ⟨_, List.getElem_mem hi, ht⟩
    rw [this]
    have hl : resW.length = 14 := rfl
    simp only [Bool.false_eq_true, if_false, Option.map_some, Option.getD_some, bne_iff_ne, ne_eq]
    omega

set_option maxRecDepth 100000 in
set_option maxHeartbeats 1000000 in
theorem kindOf_any (s : ByteArray) (w : World) : Calls Try.prog 65 #[.string s] w fun e w' => e = .returned (.int .i64 (kindI s)) ∧ Below w.heap.size w w' := by
  have hkw := Lib.hid (kindWords_any w)
  obtain ⟨r, hr⟩ : ∃ r, kindI s = r := ⟨_, rfl⟩
  have HR := Lib.hid hr
  rw [hr]
  clear hr
  go_enter Try.func65, Try.ntmps65
  go_wp2_with fail
  refine hkw.out.mono ?_
  rintro e w1 ⟨v, rfl, hv, hb1⟩
  obtain ⟨a, cap, rfl, _, hc⟩ := open_readsS hv
  have hl : kwords.length = 15 := rfl
  have HC := Lib.hid hc
  have HB := Lib.hid hb1
  rw [hl] at HC ⊢
  clear hv hb1 hc hl
  go_wp2
  go_loop [7, 3, 4] (fun i x y => ∃ k : Nat, k ≤ 15 ∧ i = .int .i64 k ∧ Hid (∀ j, j < k → ((sAt kwords j).toList == s.toList) = false)) (fun i _ _ => 15 + 1 - (intOf i).toNat)
  case atStart => exact ⟨0, by omega, rfl, Lib.hid fun j hj => by omega⟩
  case round =>
    obtain ⟨k, hk, rfl, H⟩ := hrel
    by_cases hlt : k < 15
    · obtain ⟨g, off, rfl, _, hx⟩ := HC.out k hlt
      have hk0 : 0 ≤ (k : Int) := by omega
      have hkn : (k : Int) < (15 : Int) := by omega
      cases he : ((sAt kwords k).toList == s.toList) with
      | true =>
        have hrt : Hid ((r : Int) = (k : Int)) := by
          show _ = _
          have hkl : k < kwords.length := hlt
          rw [← HR.out]
          unfold kindI
          rw [findIdx_hit hkl (fun j hj hjk => by rw [← sAt_eq kwords j hj]; exact H.out j hjk) (by rw [← sAt_eq kwords k hkl]; exact he)]
          rfl
        go_wp2
        go_ret
        exact ⟨ret_int hrt.out.symm, HB.out⟩
      | false =>
        have hnx : Hid (∀ j, j < k + 1 → ((sAt kwords j).toList == s.toList) = false) := Lib.hid fun j hj => by
          by_cases hjk : j < k
          · exact H.out j hjk
          · obtain rfl : j = k := by omega
            exact he
        go_wp2
        go_round
        case rel => exact ⟨k + 1, by omega, by go_num, hnx⟩
        case measure => simp [intOf]; omega
    · obtain rfl : k = 15 := by omega
      have hrf : Hid ((r : Int) = 17) := by
        show _ = _
        rw [← HR.out]
        unfold kindI
        rw [findIdx_miss fun j hj => by rw [← sAt_eq kwords j hj]; exact H.out j hj]
        rfl
      go_wp2
      go_ret
      exact ⟨ret_int hrf.out.symm, HB.out⟩

set_option maxHeartbeats 400000 in
theorem indexOf1_any (d : DefL) (v : Value) (s : ByteArray) (g : Nat) (w : World) (hg : w.cell? ⟨g, 0, none⟩ = some (.string s)) :
    Calls Try.prog 51 #[.agg #[.string d.name, .int .i64 d.inp, .int .i64 d.out, v], .pointer (some ⟨g, 0, none⟩)] w fun e w' => e = .returned (.bool (d.name.toList == s.toList)) ∧ Below w.heap.size w w' := by
  have hB := Lib.hid ((Below.refl w.heap.size w).alloc (Nat.le_refl _) (.cells #[.string d.name, .int .i64 d.inp, .int .i64 d.out, v] 55))
  have hx := cell_old (below_alloc (o := .cells #[.string d.name, .int .i64 d.inp, .int .i64 d.out, v] 55) (Below.refl _ w)) hg
  go_enter Try.func51, Try.ntmps51
  go_wp2
  go_ret
  exact ⟨rfl, hB.out⟩

set_option maxHeartbeats 1000000 in
theorem indexFunc_any (v : Value) (ds : List DefL) (s : ByteArray) (b : Nat) (w : World) (h : ReadsD w v ds) (hg : w.cell? ⟨b, 0, none⟩ = some (.string s)) :
    Calls Try.prog 50 #[v, .func (.func 51) #[] #[.pointer (some ⟨b, 0, none⟩)]] w fun e w' => e = .returned (.int .i64 (idxI (findD ds s))) ∧ Below w.heap.size w w' := by
  obtain ⟨a, cap, rfl, hm, hc⟩ := open_readsD h
  obtain ⟨n, hn⟩ : ∃ n, ds.length = n := ⟨_, rfl⟩
  obtain ⟨r, hr⟩ : ∃ r, idxI (findD ds s) = r := ⟨_, rfl⟩
  have HR := Lib.hid hr
  have HN := Lib.hid hn
  have HC := Lib.hid hc
  have HG := Lib.hid hg
  rw [hr]
  rw [hn] at hm ⊢
  clear h hn hr hc hg
  go_enter Try.func50, Try.ntmps50
  go_wp2
  go_loopw [8, 5] (fun i x wr => ∃ k : Nat, k ≤ n ∧ i = .int .i64 k ∧ Hid ((∀ j, j < k → ((dAt ds j).name.toList == s.toList) = false) ∧ Below w.heap.size w wr)) (fun i _ _ => n + 1 - (intOf i).toNat)
  case atStart => exact ⟨0, by omega, rfl, Lib.hid ⟨fun j hj => by omega, Below.refl _ _⟩⟩
  case round =>
    obtain ⟨k, hk, rfl, H⟩ := hrel
    by_cases hlt : k < n
    · obtain ⟨g, off, a1, c1, rfl, _, hE⟩ := HC.out k (by rw [HN.out]; exact hlt)
      obtain ⟨x0, x1, x2, x3, -⟩ := hE.below H.out.2
      have hk0 : 0 ≤ (k : Int) := by omega
      have hkn : (k : Int) < (n : Int) := by omega
      have hcall := Lib.hid (indexOf1_any (dAt ds k) (.slice a1 (dAt ds k).body.length c1) s b wr (cell_old H.out.2 HG.out))
      clear hE
      cases he : ((dAt ds k).name.toList == s.toList) with
      | true =>
        have hrt : Hid (r = (k : Int)) := by
          show _ = _
          have hkl : k < ds.length := by rw [HN.out]; exact hlt
          rw [← HR.out]
          unfold findD
          rw [findIdx_hit hkl (fun j hj hjk => by rw [← dAt_eq ds j hj]; exact H.out.1 j hjk) (by rw [← dAt_eq ds k hkl]; exact he)]
          rfl
        rw [he] at hcall
        go_wp2_with fail
        refine hcall.out.mono ?_
        rintro e w2 ⟨rfl, hb2⟩
        have hB := Lib.hid (H.out.2.trans (hb2.mono H.out.2.size))
        clear hb2 x0 x1 x2 x3
        go_wp2
        go_ret
        exact ⟨ret_int hrt.out.symm, hB.out⟩
      | false =>
        have hnx : Hid (∀ j, j < k + 1 → ((dAt ds j).name.toList == s.toList) = false) := Lib.hid fun j hj => by
          by_cases hjk : j < k
          · exact H.out.1 j hjk
          · obtain rfl : j = k := by omega
            exact he
        rw [he] at hcall
        go_wp2_with fail
        refine hcall.out.mono ?_
        rintro e w2 ⟨rfl, hb2⟩
        have hB := Lib.hid (H.out.2.trans (hb2.mono H.out.2.size))
        clear hb2 x0 x1 x2 x3
        go_wp2
        go_roundw
        case rel => exact ⟨k + 1, by omega, by go_num, Lib.hid ⟨hnx.out, hB.out⟩⟩
        case measure => simp [intOf]; omega
    · obtain rfl : k = n := by omega
      have hrf : Hid (r = -1) := by
        show _ = _
        rw [← HR.out]
        unfold findD
        rw [findIdx_miss fun j hj => by rw [← dAt_eq ds j hj]; exact H.out.1 j (by rw [← HN.out]; exact hj)]
        rfl
      have hB := Lib.hid H.out.2
      go_wp2
      go_ret
      exact ⟨ret_int hrf.out.symm, hB.out⟩

set_option maxHeartbeats 1000000 in
theorem indexOf_any (v : Value) (ds : List DefL) (s : ByteArray) (w : World) (h : ReadsD w v ds) : Calls Try.prog 36 #[v, .string s] w fun e w' => e = .returned (.int .i64 (idxI (findD ds s))) ∧ Below w.heap.size w w' := by
  have hB := Lib.hid ((Below.refl w.heap.size w).alloc (Nat.le_refl _) (.cells #[.string s] 9))
  have hc := Lib.hid (indexFunc_any v ds s w.heap.size (w.alloc (.cells #[.string s] 9)) (h.below hB.out) (by simp [go_sem]))
  obtain ⟨a, cap, rfl⟩ := h.form
  clear h
  go_enter Try.func36, Try.ntmps36
  go_wp2_with fail
  refine hc.out.mono ?_
  rintro e w1 ⟨rfl, q1⟩
  have Q1 := Lib.hid (hB.out.trans (q1.mono hB.out.size))
  clear q1
  go_wp2
  go_ret
  exact ⟨rfl, Q1.out⟩

theorem word_all {s : ByteArray} (h : inR s.size 1 8 = true) : 1 ≤ s.size ∧ s.size ≤ 8 := by
  unfold inR at h
  simp at h
  omega
/-- The bytes behind the first one. -/
def tailB (s : ByteArray) (k : Nat) : Bool := lowB (bAt s k) || digB (bAt s k)
theorem wordB_eq (s : ByteArray) (h1 : inR s.size 1 8 = true) (h2 : lowB (bAt s 0) = true) : wordB s = (List.range s.size).all (tailB s) := by
  unfold wordB tailB
  rw [h1, h2]
  rfl
theorem tail_no {s : ByteArray} {k : Nat} (hk : k < s.size) (h : tailB s k = false) : (List.range s.size).all (tailB s) = false := by
  rw [List.all_eq_false]
  exact ⟨k, List.mem_range.2 hk, by simp [h]⟩
theorem tail_yes {s : ByteArray} (h : ∀ j, j < s.size → tailB s j = true) : (List.range s.size).all (tailB s) = true := by
  rw [List.all_eq_true]
  exact fun j hj => h j (List.mem_range.1 hj)

set_option maxHeartbeats 2000000 in
theorem isName_any (s : ByteArray) (w : World) : Calls Try.prog 55 #[.string s] w fun e w' => e = .returned (.bool (nameB s)) ∧ Below w.heap.size w w' := by
  obtain ⟨n, hn⟩ : ∃ n, s.size = n := ⟨_, rfl⟩
  have hwin := Lib.hid (fun W => within_any (n : Int) 1 8 W)
  have hkd := Lib.hid (kindOf_any s w)
  obtain ⟨r, hr⟩ : ∃ r, nameB s = r := ⟨_, rfl⟩
  have HR := Lib.hid hr
  rw [hr]
  clear hr
  cases h1 : inR (n : Int) 1 8 with
  | false =>
    have hrf : Hid (r = false) := by show _ = _; rw [← HR.out]; unfold nameB wordB; rw [hn, h1]; rfl
    rw [h1] at hwin
    clear h1
    go_enter Try.func55, Try.ntmps55
    go_wp2_with (go_at_call 56; ((with_reducible refine (hwin.out _).mono ?_); rintro e w' ⟨rfl, rfl⟩))
    go_ret
    exact ⟨ret_bool hrf.out.symm, Below.refl _ _⟩
  | true =>
    have hw := word_all (s := s) (by rw [hn]; exact h1)
    have hx0 := bAt_eq s 0 (by omega)
    obtain ⟨b0, hb0⟩ : ∃ b, bAt s 0 = b := ⟨_, rfl⟩
    have hlow := Lib.hid (fun W => isLower_any b0 W)
    rw [h1] at hwin
    rw [hb0] at hx0
    have hs0 : 0 < s.size := by omega
    cases h2 : lowB b0 with
    | false =>
      have hrf : Hid (r = false) := by show _ = _; rw [← HR.out]; unfold nameB wordB; rw [hb0, h2]; simp
      rw [h2] at hlow
      clear h1 h2
      go_enter Try.func55, Try.ntmps55
      go_wp2_with (first | (go_at_call 56; ((with_reducible refine (hwin.out _).mono ?_); rintro e w' ⟨rfl, rfl⟩)) | (go_at_call 64; ((with_reducible refine (hlow.out _).mono ?_); rintro e w' ⟨rfl, rfl⟩)))
      go_ret
      exact ⟨ret_bool hrf.out.symm, Below.refl _ _⟩
    | true =>
      have hkr := kind_res s hs0
      have hwd := Lib.hid (wordB_eq s (by rw [hn]; exact h1) (by rw [hb0]; exact h2))
      rw [h2] at hlow
      obtain ⟨kd, hkd0⟩ : ∃ k : Int, ((kindI s : Nat) : Int) = k := ⟨_, rfl⟩
      rw [hkd0] at hkd hkr
      clear hkd0
      cases h3 : hasS resW s with
      | true =>
        have hrf : Hid (r = false) := by show _ = _; rw [← HR.out]; unfold nameB; rw [h3]; simp
        rw [h3] at hkr
        clear h1 h2 h3
        go_enter Try.func55, Try.ntmps55
        go_wp2_with (first | (go_at_call 56; ((with_reducible refine (hwin.out _).mono ?_); rintro e w' ⟨rfl, rfl⟩)) | (go_at_call 64; ((with_reducible refine (hlow.out _).mono ?_); rintro e w' ⟨rfl, rfl⟩)) | fail)
        refine hkd.out.mono ?_
        rintro e w1 ⟨rfl, q1⟩
        have Q1 := Lib.hid q1
        clear q1
        go_wp2
        go_ret
        exact ⟨ret_bool hrf.out.symm, Q1.out⟩
      | false =>
        have hrr : Hid ((List.range s.size).all (tailB s) = r) := by show _ = _; rw [← HR.out, ← hwd.out]; unfold nameB; rw [h3]; simp
        have hno := Lib.hid (fun k => tail_no (s := s) (k := k))
        have hyes := Lib.hid (tail_yes (s := s))
        have hbt := Lib.hid (bAt_eq s)
        rw [h3] at hkr
        have HN := Lib.hid hn
        clear h1 h2 h3 hwd HR
        go_enter Try.func55, Try.ntmps55
        go_wp2_with (first | (go_at_call 56; ((with_reducible refine (hwin.out _).mono ?_); rintro e w' ⟨rfl, rfl⟩)) | (go_at_call 64; ((with_reducible refine (hlow.out _).mono ?_); rintro e w' ⟨rfl, rfl⟩)) | fail)
        refine hkd.out.mono ?_
        rintro e w1 ⟨rfl, q1⟩
        have Q1 := Lib.hid q1
        clear q1
        go_wp2
        go_loop [21, 3] (fun i x => ∃ k : Nat, k ≤ n ∧ i = .int .i64 k ∧ Hid (∀ j, j < k → tailB s j = true)) (fun i _ => n + 1 - (intOf i).toNat)
        case atStart => exact ⟨0, by omega, rfl, Lib.hid fun j hj => by omega⟩
        case round =>
          obtain ⟨k, hk, rfl, H⟩ := hrel
          by_cases hlt : k < n
          · have hks : k < s.size := by omega
            have hxk := hbt.out k hks
            have hk0 : 0 ≤ (k : Int) := by omega
            have hkn : (k : Int) < (n : Int) := by omega
            have htl : Hid (tailB s k = (lowB (bAt s k) || digB (bAt s k))) := rfl
            obtain ⟨b, hb⟩ : ∃ b, bAt s k = b := ⟨_, rfl⟩
            rw [hb] at hxk htl
            have hlow := Lib.hid (fun W => isLower_any b W)
            have hdig := Lib.hid (fun W => isDigit_any b W)
            have hstep := Lib.hid (fun (h : tailB s k = true) (j : Nat) (hj : j < k + 1) => show tailB s j = true from by
              by_cases hjk : j < k
              · exact H.out j hjk
              · obtain rfl : j = k := by omega
                exact h)
            clear hb
            cases hl : lowB b with
            | true =>
              have hnx := Lib.hid (hstep.out (by rw [htl.out, hl]; rfl))
              rw [hl] at hlow
              clear hl
              go_wp2_with (go_at_call 64; ((with_reducible refine (hlow.out _).mono ?_); rintro e w' ⟨rfl, rfl⟩))
              go_round
              case rel => exact ⟨k + 1, by omega, by go_num, hnx⟩
              case measure => simp [intOf]; omega
            | false =>
              cases hd : digB b with
              | true =>
                have hnx := Lib.hid (hstep.out (by rw [htl.out, hl, hd]; rfl))
                rw [hl] at hlow
                rw [hd] at hdig
                clear hl hd
                go_wp2_with (first | (go_at_call 64; ((with_reducible refine (hlow.out _).mono ?_); rintro e w' ⟨rfl, rfl⟩)) | (go_at_call 66; ((with_reducible refine (hdig.out _).mono ?_); rintro e w' ⟨rfl, rfl⟩)))
                go_round
                case rel => exact ⟨k + 1, by omega, by go_num, hnx⟩
                case measure => simp [intOf]; omega
              | false =>
                have hrf := Lib.hid (hrr.out.symm.trans (hno.out k hks (by rw [htl.out, hl, hd]; rfl)))
                rw [hl] at hlow
                rw [hd] at hdig
                clear hl hd
                go_wp2_with (first | (go_at_call 64; ((with_reducible refine (hlow.out _).mono ?_); rintro e w' ⟨rfl, rfl⟩)) | (go_at_call 66; ((with_reducible refine (hdig.out _).mono ?_); rintro e w' ⟨rfl, rfl⟩)))
                go_ret
                exact ⟨ret_bool hrf.out.symm, Q1.out⟩
          · obtain rfl : k = n := by omega
            have hrt := Lib.hid (hrr.out.symm.trans (hyes.out fun j hj => H.out j (by rw [← HN.out]; exact hj)))
            go_wp2
            go_ret
            exact ⟨ret_bool hrt.out.symm, Q1.out⟩

set_option maxHeartbeats 4000000 in
theorem lbWord_any (s : ByteArray) (w : World) : Calls Try.prog 61 #[.string s] w fun e w' => e = .returned (.bool (wordB s)) ∧ w = w' := by
  obtain ⟨n, hn⟩ : ∃ n, s.size = n := ⟨_, rfl⟩
  have hwin := Lib.hid (fun W => l1In_any (n : Int) 1 8 W)
  obtain ⟨r, hr⟩ : ∃ r, wordB s = r := ⟨_, rfl⟩
  have HR := Lib.hid hr
  rw [hr]
  clear hr
  cases h1 : inR (n : Int) 1 8 with
  | false =>
    have hrf : Hid (r = false) := by show _ = _; rw [← HR.out]; unfold wordB; rw [hn, h1]; rfl
    rw [h1] at hwin
    clear h1
    go_enter Try.func61, Try.ntmps61
    go_wp2_with (go_at_call 47; ((with_reducible refine (hwin.out _).mono ?_); rintro e w' ⟨rfl, rfl⟩))
    go_ret
    exact ⟨ret_bool hrf.out.symm, rfl⟩
  | true =>
    have hw := word_all (s := s) (by rw [hn]; exact h1)
    have hx0 := bAt_eq s 0 (by omega)
    obtain ⟨b0, hb0⟩ : ∃ b, bAt s 0 = b := ⟨_, rfl⟩
    have hlow : Hid (lowB b0 = (!decide (b0 < 97) && !decide (122 < b0))) := rfl
    have htl0 : Hid (tailB s 0 = (lowB b0 || digB b0)) := by rw [← hb0]; exact Lib.hid rfl
    rw [h1] at hwin
    rw [hb0] at hx0
    have hs0 : 0 < s.size := by omega
    have hwd := Lib.hid (fun h2 => wordB_eq s (by rw [hn]; exact h1) (by rw [hb0]; exact h2))
    have hno2 : Hid (lowB b0 = false → r = false) := Lib.hid fun h2 => by rw [← HR.out]; unfold wordB; rw [hb0, h2]; simp
    cases d1 : decide (b0 < 97) with
    | true =>
      have hrf := Lib.hid (hno2.out (by rw [hlow.out, d1]; rfl))
      clear h1
      go_enter Try.func61, Try.ntmps61
      go_wp2_with (go_at_call 47; ((with_reducible refine (hwin.out _).mono ?_); rintro e w' ⟨rfl, rfl⟩))
      go_ret
      exact ⟨ret_bool hrf.out.symm, rfl⟩
    | false =>
      cases d2 : decide (122 < b0) with
      | true =>
        have hrf := Lib.hid (hno2.out (by rw [hlow.out, d1, d2]; rfl))
        clear h1
        go_enter Try.func61, Try.ntmps61
        go_wp2_with (go_at_call 47; ((with_reducible refine (hwin.out _).mono ?_); rintro e w' ⟨rfl, rfl⟩))
        go_ret
        exact ⟨ret_bool hrf.out.symm, rfl⟩
      | false =>
        have hlt : lowB b0 = true := by rw [hlow.out, d1, d2]; rfl
        have hrr : Hid ((List.range s.size).all (tailB s) = r) := by show _ = _; rw [← HR.out, ← hwd.out hlt]
        have ht0 : Hid (tailB s 0 = true) := by show _ = _; rw [htl0.out, hlt]; rfl
        have hno := Lib.hid (fun k => tail_no (s := s) (k := k))
        have hyes := Lib.hid (tail_yes (s := s))
        have hbt := Lib.hid (bAt_eq s)
        have HN := Lib.hid hn
        have hn1 : 1 ≤ n := by omega
        clear h1 hwd HR hlt hlow htl0 hno2
        go_enter Try.func61, Try.ntmps61
        go_wp2_with (go_at_call 47; ((with_reducible refine (hwin.out _).mono ?_); rintro e w' ⟨rfl, rfl⟩))
        go_loop [3] (fun i => ∃ k : Nat, k ≤ n ∧ 1 ≤ k ∧ i = .int .i64 k ∧ Hid (∀ j, 1 ≤ j → j < k → tailB s j = true)) (fun i => n + 1 - (intOf i).toNat)
        case atStart => exact ⟨1, by omega, by omega, rfl, Lib.hid fun j hj hj2 => by omega⟩
        case round =>
          obtain ⟨k, hk, hk1, rfl, H⟩ := hrel
          by_cases hlt : k < n
          · have hks : k < s.size := by omega
            have hxk := hbt.out k hks
            have hk0 : 0 ≤ (k : Int) := by omega
            have hkn : (k : Int) < (n : Int) := by omega
            have htl : Hid (tailB s k = ((!decide (bAt s k < 97) && !decide (122 < bAt s k)) || (!decide (bAt s k < 48) && !decide (57 < bAt s k)))) := rfl
            obtain ⟨b, hb⟩ : ∃ b, bAt s k = b := ⟨_, rfl⟩
            rw [hb] at hxk htl
            have hstep := Lib.hid (fun (h : tailB s k = true) (j : Nat) (hj1 : 1 ≤ j) (hj : j < k + 1) => show tailB s j = true from by
              by_cases hjk : j < k
              · exact H.out j hj1 hjk
              · obtain rfl : j = k := by omega
                exact h)
            clear hb d1 d2
            cases d1 : decide (b < 97)
            all_goals cases d2 : decide (122 < b)
            all_goals cases d3 : decide (b < 48)
            all_goals cases d4 : decide (57 < b)
            all_goals rw [d1, d2, d3, d4] at htl
            all_goals
              first
              | (have hnx := Lib.hid (hstep.out (htl.out.trans rfl))
                 go_wp2
                 go_round
                 case rel => exact ⟨k + 1, by omega, by omega, by go_num, hnx⟩
                 case measure => simp [intOf]; omega
                 done)
              | (have hrf := Lib.hid (hrr.out.symm.trans (hno.out k hks (htl.out.trans rfl)))
                 go_wp2
                 go_ret
                 exact ⟨ret_bool hrf.out.symm, rfl⟩
                 done)
          · obtain rfl : k = n := by omega
            have hrt := Lib.hid (hrr.out.symm.trans (hyes.out fun j hj => by
              by_cases h0 : j = 0
              · rw [h0]; exact ht0.out
              · exact H.out j (by omega) (by rw [← HN.out]; exact hj)))
            go_wp2
            go_ret
            exact ⟨ret_bool hrt.out.symm, rfl⟩

set_option maxHeartbeats 1000000 in
theorem lbName_any (s : ByteArray) (w : World) : Calls Try.prog 53 #[.string s] w fun e w' => e = .returned (.bool (nameB s)) ∧ Below w.heap.size w w' := by
  have hwd := Lib.hid (lbWord_any s w)
  have hrs := Lib.hid (fun W => lbReserved_any W)
  have hhs := Lib.hid (fun v W h => l1HasS_any v resW s W h)
  have hnm : Hid (nameB s = (wordB s && !hasS resW s)) := rfl
  cases h1 : wordB s with
  | false =>
    rw [h1] at hwd
    have hf : Hid (nameB s = false) := by show _ = _; rw [hnm.out, h1]; rfl
    clear h1
    go_enter Try.func53, Try.ntmps53
    go_wp2_with (go_at_call 61; ((with_reducible refine (hwd.out).mono ?_); rintro e w' ⟨rfl, rfl⟩))
    go_ret
    exact ⟨ret_bool hf.out.symm, Below.refl _ _⟩
  | true =>
    rw [h1] at hwd
    have hf : Hid (nameB s = !hasS resW s) := by show _ = _; rw [hnm.out, h1]; rfl
    clear h1
    rw [hf.out]
    go_enter Try.func53, Try.ntmps53
    go_wp2_with (first | (go_at_call 61; ((with_reducible refine (hwd.out).mono ?_); rintro e w' ⟨rfl, rfl⟩)) | fail)
    refine (hrs.out w).mono ?_
    rintro e w1 ⟨v, rfl, hv, hb1⟩
    obtain ⟨a, cap, rfl⟩ := hv.form
    have HV := Lib.hid hv
    have HB := Lib.hid hb1
    clear hv hb1
    go_wp2_with (go_at_call 62; ((with_reducible refine (hhs.out _ _ HV.out).mono ?_); rintro e w' ⟨rfl, rfl⟩))
    go_ret
    exact ⟨rfl, HB.out⟩

end Ints
end Go.Proofs.Ytoegbphkheohoaa
