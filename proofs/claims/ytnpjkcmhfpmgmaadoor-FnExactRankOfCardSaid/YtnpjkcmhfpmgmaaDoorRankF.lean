/- RankOf, both. -/
import Derived.Test.YtnpjkcmhfpmgmaaDoorMxReduce
import Derived.Test.YtnpjkcmhfpmgmaaDoorReduced
import Derived.Test.YtnpjkcmhfpmgmaaDoorPredSpec
import Derived.Test.YtnpjkcmhfpmgmaaDoorPredImpl
namespace Go.Proofs.YtnpjkcmhfpmgmaaDoor
open Go.RowKit
namespace Ints
open Fld (tab_alloc)

def rankOut (p c : Int) (L : List (List Int)) : Int := if matB p c L then ((redM p c.toNat L).r : Int) else 0
theorem reducedL_length {p : Int} {n c : Nat} {M : List (List Int)} (hg : Fld.goodB p = true) (hM : ElemsT p n c M) : (reducedL p c M).length = (redM p c M).r := by
  obtain ⟨ld, hu, hok, _, _⟩ := Lin.red_end hg hM (Lin.elems_nil (p := p) hM.1)
  unfold reducedL redM
  rw [List.length_take, hok.1.1]
  have := hok.2.2
  omega
theorem detN_rank (p : Int) (n c : Nat) (M : List (List Int)) : (Lin.detN p ⟨⟨M, idT n, 0⟩, 1⟩ c).s.r = (redM p c M).r := by
  rw [Lin.detN_s]
  exact (redN_M (s := ⟨M, idT n, 0⟩) (s' := ⟨M, M.map fun _ => [], 0⟩) rfl rfl c).2
theorem mat_good {p c : Int} {L : List (List Int)} (h : matB p c L = true) : Fld.goodB p = true := (mat_parts h).1

set_option maxHeartbeats 1000000 in
theorem mxRank_any (p : Int) (hg : Fld.goodB p = true) (n c : Nat) (hn : n ≤ 1000) (hc : c ≤ 1000) (v : Value) (M : List (List Int)) (w : World) (hM : ElemsT p n c M) (hv : ReadsM w v M) :
    Calls Tryd.prog 67 #[.int .i64 p, .agg #[.int .i64 c, v]] w fun e w' => e = .returned (.int .i64 (redM p c M).r) ∧ Below w.heap.size w w' := by
  have hB := Lib.hid ((Below.refl w.heap.size w).alloc (Nat.le_refl _) (.cells #[.int .i64 c, v] 26))
  have hcall := Lib.hid (mxReduce_any p hg n c hn hc v M _ hM (hv.below hB.out))
  have e1 := detN_rank p n c M
  obtain ⟨r, hr⟩ : ∃ r, (redM p c M).r = r := ⟨_, rfl⟩
  rw [hr] at e1 ⊢
  have HE := Lib.hid e1
  clear hg hM hv e1 hr
  go_enter Tryd.func67, Tryd.ntmps67
  go_wp2_with fail
  refine hcall.out.mono ?_
  rintro e w1 ⟨v8, v9, m, rfl, h8, h9, hb1⟩
  rw [HE.out]
  obtain ⟨a8, c8, rfl⟩ := h8.reads.form
  obtain ⟨a9, c9, rfl⟩ := h9.reads.form
  have HB1 := Lib.hid (hB.out.trans (hb1.mono hB.out.size))
  have hs := HB1.out.size
  clear h8 h9 hb1 hcall
  go_wp2
  go_ret
  exact ⟨rfl, (HB1.out.alloc hs _).alloc (by simp; omega) _⟩

set_option maxHeartbeats 1000000 in
theorem specRank_any (p c : Int) (u : Value) (A : List (List Int)) (w : World) (hu : ReadsM w u A) :
    Calls Tryd.prog 34 #[.int .i64 p, .agg #[.int .i64 c, u]] w fun e w' => e = .returned (.tuple #[.int .i64 (rankOut p c A), .bool (matB p c A)]) ∧ Below w.heap.size w w' := by
  have hB := Lib.hid ((Below.refl w.heap.size w).alloc (Nat.le_refl _) (.cells #[.int .i64 c, u] 26))
  have hgood := Lib.hid (mxGood_any p c u A _ (hu.below hB.out))
  obtain ⟨ua, uc, rfl⟩ := hu.form
  cases hb : matB p c A with
  | false =>
    have e1 : rankOut p c A = 0 := by simp [rankOut, hb]
    rw [e1]
    rw [hb] at hgood
    clear hu hb e1
    go_enter Tryd.func34, Tryd.ntmps34
    go_wp2_with (go_at_call 45; ((with_reducible refine (hgood.out).mono ?_); rintro e w' ⟨rfl, hq⟩))
    go_ret2
    exact ⟨rfl, hB.out.trans (hq.mono hB.out.size)⟩
  | true =>
    have hg := mat_good hb
    obtain ⟨n, rfl, hn, hl, h2, hA⟩ := mat_nats hb
    have e1 : rankOut p n A = ((redM p n A).r : Int) := by simp [rankOut, hb]
    rw [e1]
    rw [hb] at hgood
    have HU := Lib.hid hu
    have hcall := Lib.hid (fun W (hW : Below w.heap.size w W) => mxRank_any p hg A.length n (by omega) (by omega) (.slice ua A.length uc) A W hA (HU.out.below hW))
    clear hu hb e1 hA hg
    go_enter Tryd.func34, Tryd.ntmps34
    go_wp2_with fail
    refine hgood.out.mono ?_
    rintro e w1 ⟨rfl, hq⟩
    have c0 : w1.cell? ⟨w.heap.size, 0, none⟩ = some (.int .i64 n) := cell_old hq (by simp [go_sem])
    have c1 : w1.cell? ⟨w.heap.size, 1, none⟩ = some (.slice ua A.length uc) := cell_old hq (by simp [go_sem])
    have HQ := Lib.hid (hB.out.trans (hq.mono hB.out.size))
    clear hq
    go_wp2_with fail
    refine (hcall.out w1 HQ.out).mono ?_
    rintro e w2 ⟨rfl, hq2⟩
    have HQ2 := Lib.hid (HQ.out.trans (hq2.mono HQ.out.size))
    clear hq2 c0 c1
    go_wp2
    go_ret2
    exact ⟨rfl, HQ2.out⟩

set_option maxHeartbeats 1000000 in
theorem implRank_any (p c : Int) (u : Value) (A : List (List Int)) (w : World) (ht : Tab w) (hu : ReadsM w u A) :
    Calls Tryd.prog 35 #[.int .i64 p, .agg #[.int .i64 c, u]] w fun e w' => e = .returned (.tuple #[.int .i64 (rankOut p c A), .bool (matB p c A)]) ∧ Below w.heap.size w w' := by
  have hB := Lib.hid ((Below.refl w.heap.size w).alloc (Nat.le_refl _) (.cells #[.int .i64 c, u] 26))
  have hgood := Lib.hid (isMatrix_any p c u A _ (tab_alloc ht _) (hu.below hB.out))
  obtain ⟨ua, uc, rfl⟩ := hu.form
  cases hb : matB p c A with
  | false =>
    have e1 : rankOut p c A = 0 := by simp [rankOut, hb]
    rw [e1]
    rw [hb] at hgood
    clear hu hb e1 ht
    go_enter Tryd.func35, Tryd.ntmps35
    go_wp2_with (go_at_call 48; ((with_reducible refine (hgood.out).mono ?_); rintro e w' ⟨rfl, hq⟩))
    go_ret2
    exact ⟨rfl, hB.out.trans (hq.mono hB.out.size)⟩
  | true =>
    have hg := mat_good hb
    obtain ⟨n, rfl, hn, hl, h2, hA⟩ := mat_nats hb
    have e1 : rankOut p n A = ((redM p n A).r : Int) := by simp [rankOut, hb]
    have e2 := reducedL_length hg hA
    rw [e1]
    rw [hb] at hgood
    have HU := Lib.hid hu
    have hcall := Lib.hid (fun W (hW : Below w.heap.size w W) => reduced_any p hg A.length n (by omega) (by omega) (.slice ua A.length uc) A W hA (HU.out.below hW))
    obtain ⟨r, hr⟩ : ∃ r, (redM p n A).r = r := ⟨_, rfl⟩
    rw [hr] at e2 ⊢
    obtain ⟨R, hR⟩ : ∃ R, reducedL p n A = R := ⟨_, rfl⟩
    rw [hR] at hcall e2
    have HE := Lib.hid e2
    clear hu hb e1 hA hg e2 hr hR ht
    go_enter Tryd.func35, Tryd.ntmps35
    go_wp2_with fail
    refine hgood.out.mono ?_
    rintro e w1 ⟨rfl, hq⟩
    have c0 : w1.cell? ⟨w.heap.size, 0, none⟩ = some (.int .i64 n) := cell_old hq (by simp [go_sem])
    have c1 : w1.cell? ⟨w.heap.size, 1, none⟩ = some (.slice ua A.length uc) := cell_old hq (by simp [go_sem])
    have HQ := Lib.hid (hB.out.trans (hq.mono hB.out.size))
    clear hq
    go_wp2_with fail
    refine (hcall.out w1 HQ.out).mono ?_
    rintro e w2 ⟨v2, rfl, ho2, hq2⟩
    obtain ⟨a2, c2, rfl⟩ := ho2.reads.form
    rw [HE.out]
    have HQ2 := Lib.hid (HQ.out.trans (hq2.mono HQ.out.size))
    clear ho2 hq2 c0 c1
    go_wp2
    go_ret2
    exact ⟨rfl, HQ2.out⟩

end Ints
end Go.Proofs.YtnpjkcmhfpmgmaaDoor
