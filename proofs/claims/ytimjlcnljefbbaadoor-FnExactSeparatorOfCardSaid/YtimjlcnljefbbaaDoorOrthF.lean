/- OrthogonalOf, both. (Printed by wip/gen_orth.py.) -/
import Derived.Test.YtimjlcnljefbbaaDoorSpaceF
import Derived.Test.YtimjlcnljefbbaaDoorSpNull
import Derived.Test.YtimjlcnljefbbaaDoorKern
import Derived.Test.YtimjlcnljefbbaaDoorTransposed
import Derived.Test.YtimjlcnljefbbaaDoorSpanF
import Derived.Deep.RegionHeld3
import Derived.Deep.DeepCutAuto
namespace Go.Proofs.YtimjlcnljefbbaaDoor
open Go.RowKit
namespace Ints

def orthOut (p c : Int) (L : List (List Int)) : List (List Int) := if spB p c L then Lin.nullL p c.toNat L else []
def spCols (p c : Int) (L : List (List Int)) : Int := if spB p c L then c else 0
theorem orthOut_ctr (p c : Int) (L : List (List Int)) : (1 : Int) + (sumL (orthOut p c L) : Int) ≤ 1000000000 := by
  unfold orthOut
  split
  · rename_i h
    obtain ⟨n, rfl, hn, hl, hg, hA, _⟩ := spB_parts h
    obtain ⟨_, h1, h2, _⟩ := Lin.null_facts hg hA
    exact ctr_elems' h1 (by omega) (by omega)
  · exact ctr_nil

set_option maxHeartbeats 1000000 in
theorem orthogonal_any (p : Int) (hg : Fld.goodB p = true) (m n : Nat) (hm : m ≤ 1000) (hn : n ≤ 1000) (v : Value) (L : List (List Int)) (w : World) (hL : ElemsT p m n L) (hv : ReadsM w v L) :
    Calls Tryd.prog 66 #[.int .i64 p, v, .int .i64 n] w (NewRows w (Lin.nullL p n L)) := by
  have hl := hL.1
  have hturn := Lib.hid (transposed_any n v L hn (by omega) (fun i hi => (hL.2 i (by omega)).1) w hv)
  have hker := Lib.hid (fun W u (h : ReadsM W u (turnT n L)) => kernel_any p hg n m hn hm u (turnT n L) W (Lin.turn_elems hL) h)
  have e := Lin.orthogonal_eq hg hL
  rw [e] at hker
  obtain ⟨R, hR⟩ : ∃ R, Lin.nullL p n L = R := ⟨_, rfl⟩
  rw [hR] at hker ⊢
  obtain ⟨av, cv, rfl⟩ := hv.form
  have htl : (turnT n L).length = n := (Lin.turn_elems hL).1
  have HTL := Lib.hid htl
  rw [hl] at hturn ⊢
  have hmm : m ≤ 9223372036854775807 := by omega
  clear hg hL hv e hR hl htl
  go_enter Tryd.func66, Tryd.ntmps66
  go_wp2_with fail
  refine hturn.out.mono ?_
  rintro e w1 ⟨v1, rfl, ho1, hb1⟩
  obtain ⟨a1, c1, hv1⟩ := ho1.reads.form
  have hcall := Lib.hid (hker.out w1 v1 ho1.reads)
  rw [HTL.out] at hv1
  subst hv1
  have HB1 := Lib.hid hb1
  clear ho1 hb1 hturn hker
  go_wp2_with fail
  refine hcall.out.mono ?_
  rintro e w2 ⟨v2, rfl, ho2, hb2⟩
  obtain ⟨a2, c2, rfl⟩ := ho2.reads.form
  have hfin : Hid (NewRows w R (.returned (.slice a2 R.length c2)) w2) := ⟨_, rfl, ho2.mono fun g hg => Nat.le_trans HB1.out.size hg, HB1.out.trans (hb2.mono HB1.out.size)⟩
  clear ho2 hb2 hcall
  go_wp2
  go_ret
  exact hfin.out

end Ints
end Go.Proofs.YtimjlcnljefbbaaDoor
