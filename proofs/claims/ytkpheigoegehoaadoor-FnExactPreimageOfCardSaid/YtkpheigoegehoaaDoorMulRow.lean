/- The product of a list with a matrix: the reference's and the program's. -/
import Derived.Test.YtkpheigoegehoaaDoorRowFn
import Derived.Test.YtkpheigoegehoaaDoorFx
import Derived.Test.YtkpheigoegehoaaDoorMem4
namespace Go.Proofs.YtkpheigoegehoaaDoor
open Go.RowKit
namespace Ints
open Fld (fdMul_any)

theorem dotP_step (p : Int) (x : List Int) (B : List (List Int)) (j k : Nat) : (dotP p x B j k + x[k]?.getD 0 * at2 B k j % p) % p = dotP p x B j (k + 1) := by
  show _ = (dotP p x B j k + x[k]?.getD 0 * at2 B k j) % p
  rw [Int.add_emod_emod]

set_option maxHeartbeats 2000000 in
theorem combine_any (p : Int) (c n : Nat) (h2 : 2 ≤ p) (h97 : p ≤ 97) (hc : c ≤ 1000) (xv v : Value) (x : List Int) (B : List (List Int)) (w : World) (hx : Reads w 1 xv n (ofL x)) (hxe : ∀ i, i < n → 0 ≤ x[i]?.getD 0 ∧ x[i]?.getD 0 < p) (hB : ElemsT p n c B) (h : ReadsM w v B) :
    Calls Tryd.prog 111 #[.int .i64 p, xv, v, .int .i64 c] w (NewInts w (mulRow p c B x)) := by
  obtain ⟨hxl, ax, cx, rfl, hxm, hxc⟩ := open_reads hx
  obtain ⟨a, cap, rfl, hm, hcB⟩ := open_readsM h
  have hBl := hB.1
  rw [hBl] at hm hcB ⊢
  obtain ⟨f, hf⟩ : ∃ f : Nat → Nat → Int, (fun k j => dotP p x B j k) = f := ⟨_, rfl⟩
  have hmul : mulRow p c B x = rowT c (f n) := by rw [← hf, mulRow, hxl]
  rw [hmul]
  have HF := Lib.hid hf
  have HXC := Lib.hid hxc
  have HXE := Lib.hid hxe
  have HB := Lib.hid hB
  have HCB := Lib.hid hcB
  have hcall := Lib.hid (zeros_any c hc w)
  clear hx hxl hxc hxe h hcB hB hBl hf hmul
  go_enter Tryd.func111, Tryd.ntmps111
  go_wp2_with fail
  refine hcall.out.mono ?_
  rintro e w1 ⟨v1, rfl, ho1, hf1, hb1⟩
  rw [show (rowT c fun _ => (0 : Int)) = rowT c (f 0) by rw [← HF.out]; rfl] at ho1 hf1
  rw [rowT_length] at ho1
  obtain ⟨av, cv, rfl⟩ := ho1.form
  have HO1 := Lib.hid ho1
  have HF1 := Lib.hid hf1
  have HB1 := Lib.hid hb1
  clear ho1 hf1 hb1 hcall
  go_wp2
  go_loopw [16] (fun i wr => ∃ k : Nat, k ≤ n ∧ i = .int .i64 k ∧ Owns wr 3 1 (.slice av c cv) c (ofL (rowT c (f k))) ∧ Chg (fun g => w.heap.size ≤ g) w1 wr) (fun i _ => n + 1 - (intOf i).toNat)
  case atStart => exact ⟨0, by omega, rfl, HO1.out, Chg.refl _ _⟩
  case round =>
    obtain ⟨k, hk, rfl, ho, hch⟩ := hrel
    by_cases hlt : k < n
    · obtain ⟨gx, offx, rfl, hgx, hcx⟩ := HXC.out (by omega)
      have hx : wr.cell? ⟨gx, offx + k, none⟩ = some (.int .i64 (x[k]?.getD 0)) := hch.keep (HB1.out.cell (p := ⟨gx, offx + k, none⟩) hgx |>.trans (hcx k hlt)) (by simp; omega)
      obtain ⟨g, off, r, rfl, hg, hcell, hrd⟩ := HCB.out k hlt
      have hrow : wr.cell? ⟨g, off + k, none⟩ = some r := hch.keep (HB1.out.cell (p := ⟨g, off + k, none⟩) hg |>.trans hcell) (by simp; omega)
      have hlen := (HB.out.2 k hlt).1
      have hBW : Below w.heap.size w wr := HB1.out.trans (hch.below HB1.out.size fun _ hg => hg)
      have hrd2 := hrd.below hBW
      rw [hlen] at hrd2
      have hfar : blkIn (fun g => w.heap.size ≤ g) (.slice av c cv) (ofL (rowT c (f 0))) := HF1.out
      have hd : blkIn (fun g => (Value.slice av c cv).ownBlock ≠ some g) r (ofL (lAt B k)) := by
        intro g' hx' hg' e
        have h1 := hrd.lt g' hx' hg'
        have hp : 0 < c := by rw [← hlen]; exact List.length_pos_iff.2 (ofL_ne.1 hx')
        have h3 := hfar g' (ofL_ne.2 (List.length_pos_iff.1 (by rw [rowT_length]; exact hp))) e
        omega
      have hxk := HXE.out k hlt
      have hcall := Lib.hid (addTimes_any p (x[k]?.getD 0) h2 h97 (by omega) (by omega) (.slice av c cv) r c (rowT c (f k)) (lAt B k) wr ho hrd2 hd
        (fun j hj => by rw [rowT_at hj, ← HF.out]; exact dotP_bounds h2 x B j k) (fun j hj => (HB.out.2 k hlt).2 j hj))
      have er : (rowT c fun j => ((rowT c (f k))[j]?.getD 0 + x[k]?.getD 0 * (lAt B k)[j]?.getD 0) % p) = rowT c (f (k + 1)) := by
        refine rowT_congr fun j hj => ?_
        rw [rowT_at hj, ← HF.out]
        rfl
      rw [er] at hcall
      have HC := Lib.hid hch
      have HFA := Lib.hid hfar
      clear ho hch hcx hcell hrd hrd2 hlen hBW hfar hd hg er
      generalize x[k]?.getD 0 = xx at *
      have hk0 : 0 ≤ (k : Int) := by omega
      have hkn : (k : Int) < (n : Int) := by omega
      go_wp2_with fail
      refine hcall.out.mono ?_
      rintro e w2 ⟨rfl, ho2, hc2⟩
      have H1 := Lib.hid ho2
      have H2 := Lib.hid (HC.out.trans (hc2.mono fun g _ h => HFA.out g (ofL_ne.2 (List.length_pos_iff.1 (by rw [rowT_length]; exact h.2))) h.1))
      clear ho2 hc2 hcall
      go_wp2
      go_roundw
      case rel => exact ⟨k + 1, by omega, by go_num, H1.out, H2.out⟩
      case measure => simp [intOf]; omega
    · obtain rfl : k = n := by omega
      have hfin : Hid (NewInts w (rowT c (f k)) (.returned (.slice av c cv)) wr) := by
        refine ⟨_, rfl, by rw [rowT_length]; exact ho, fun g hx hg => HF1.out g ?_ hg, HB1.out.trans (hch.below HB1.out.size fun _ hg => hg)⟩
        rw [ofL_ne, ← List.length_pos_iff, rowT_length] at hx ⊢
        exact hx
      clear ho hch
      go_wp2
      go_ret
      exact hfin.out

end Ints
end Go.Proofs.YtkpheigoegehoaaDoor
