/- How deep a name of a library lies: the program. -/
import Derived.Test.YtlfcmlbffpmhkaaDepthS
import Derived.Test.YtlfcmlbffpmhkaaSizeI
namespace Go.Proofs.Ytlfcmlbffpmhkaa
open Go.RowKit Go.ChangeMaps Go.WideMaps
namespace Ints
open Fld (inR)

theorem depth_same {ds : List DefL} {k : Nat} {ns : List NodeL} {p : Int × Int} (l : List Int) (h : typeOf (ds.take k) ns = some p) : depthN (fun s => (lookS ds l k s.toList).getD 0) ns = depthN (atD ds l) ns :=
  depthN_congr ns fun j hj h17 => by
    obtain ⟨i, hi⟩ := typeOf_named h j hj h17
    exact lookS_at hi
theorem lookS_rngB {ds : List DefL} {l : List Int} {B : Int} (hB : 0 ≤ B) (hl : ∀ x ∈ l, 0 ≤ x ∧ x ≤ B) (k : Nat) (x : List UInt8) : 0 ≤ (lookS ds l k x).getD 0 ∧ (lookS ds l k x).getD 0 ≤ B := by
  unfold lookS
  cases (ds.take k).findIdx? (fun d => d.name.toList == x) with
  | none => exact ⟨Int.le_refl 0, hB⟩
  | some i => exact at_rngB hB hl i

set_option maxRecDepth 100000 in
set_option maxHeartbeats 8000000 in
theorem implND_any (vd : Value) (ds : List DefL) (s : ByteArray) (hbd : totD ds ≤ 1000000000000) (hs : s.size ≤ 1000000000000) (w : World) (hd : ReadsD w vd ds) :
    Calls Try.prog 14 #[vd, .string s] w fun e w' => e = .returned (.tuple #[.int .i64 (depP ds s).1, .bool (depP ds s).2]) ∧ Below w.heap.size w w' := by
  have HFD := Lib.hid (fun W (hW : Below w.heap.size w W) => indexOf_any vd ds s W (hd.below hW))
  have HGD := Lib.hid (isLibrary_any vd ds hbd w hd)
  obtain ⟨a, cap, rfl, hm, hc⟩ := open_readsD hd
  obtain ⟨n, hn⟩ : ∃ n, ds.length = n := ⟨_, rfl⟩
  have HC := Lib.hid hc
  have HN := Lib.hid hn
  have HBD := Lib.hid hbd
  have HSM := Lib.hid (show s.size ≤ maxLen by unfold maxLen; omega)
  rw [hn] at hm HFD HGD ⊢
  unfold depP
  have hmm := @run_makeMap Try.prog
  clear hd hc hbd hs
  cases hl : libB ds with
  | false =>
    rw [hl] at HGD
    clear hl hn
    go_enter Try.func14, Try.ntmps14
    go_wp2_with fail
    refine HGD.out.mono ?_
    rintro e w2 ⟨rfl, hb2⟩
    have HB2 := Lib.hid hb2
    clear hb2
    go_wp2
    go_ret2
    exact ⟨rfl, HB2.out⟩
  | true =>
    rw [hl] at HGD
    obtain ⟨h12, hall, -, hnew⟩ := libB_all hl
    have HALL := Lib.hid hall
    have HNW := Lib.hid hnew
    rw [hn] at h12 ⊢
    cases hfd : findD ds s with
    | none =>
      rw [hfd] at HFD
      have hix : idxI none = -1 := rfl
      rw [hix] at HFD
      clear hl hfd hix hn hall hnew
      go_enter Try.func14, Try.ntmps14
      go_wp2_with fail
      refine HGD.out.mono ?_
      rintro e w1 ⟨rfl, hb1⟩
      have HB1 := Lib.hid hb1
      clear hb1
      go_wp2_with fail
      refine (HFD.out w1 HB1.out).mono ?_
      rintro e w2 ⟨rfl, hb2⟩
      have HB2 := Lib.hid (below_step HB1.out hb2)
      clear hb2
      go_wp2
      go_ret2
      exact ⟨rfl, HB2.out⟩
    | some ix =>
      have hat : Hid ((lookS ds (depthsD ds n) n s.toList).getD 0 = (depthsD ds n)[ix]?.getD 0) := by
        show _ = _
        rw [lookS_at (ds := ds) (k := n) (s := s) (i := ix) (by rw [← hn, List.take_length]; exact hfd)]
        unfold atD
        rw [hfd]
        rfl
      rw [hfd] at HFD
      have hix : idxI (some ix) = (ix : Int) := rfl
      rw [hix] at HFD
      have hilt : decide ((ix : Int) < 0) = false := by simp
      clear hl hfd hix hn hall hnew
      go_enter Try.func14, Try.ntmps14
      go_wp2_with fail
      refine HGD.out.mono ?_
      rintro e w1 ⟨rfl, hb1⟩
      have HB1 := Lib.hid hb1
      clear hb1
      go_wp2_with fail
      refine (HFD.out w1 HB1.out).mono ?_
      rintro e w2 ⟨rfl, hb2⟩
      have HB2 := Lib.hid (below_step HB1.out hb2)
      have HM0 := Lib.hid (MapOf.made intE w2)
      clear hb2
      go_wp2
      go_loopw [24] (fun i wr => ∃ k : Nat, k ≤ n ∧ i = .int .i64 k ∧ Hid (MapOf intE wr w2.heap.size k (lookS ds (depthsD ds k) k) ∧ Below w2.heap.size w2 wr)) (fun i _ => n + 1 - (intOf i).toNat)
      case atStart =>
        refine ⟨0, by omega, rfl, Lib.hid ⟨?_, (Below.refl _ _).alloc (Nat.le_refl _) _⟩⟩
        rw [lookS_zero]
        exact HM0.out
      case round =>
        obtain ⟨k, hk, rfl, H⟩ := hrel
        by_cases hlt : k < n
        · obtain ⟨g, off, a1, c1, rfl, hg, hE⟩ := HC.out k (by rw [HN.out]; exact hlt)
          obtain ⟨x0, x1, x2, x3, hbody⟩ := hE.below (below_step HB2.out H.out.2)
          have hk0 : 0 ≤ (k : Int) := by omega
          have hkn : (k : Int) < (n : Int) := by omega
          have hbt : totN (dAt ds k).body ≤ 1000000000000 ∧ (dAt ds k).name.size ≤ maxLen := by
            have := cellsD_le ds k (by rw [HN.out]; exact hlt)
            have := HBD.out
            unfold cellsD at *
            unfold maxLen
            omega
          have hkm : k < maxLen := by unfold maxLen; omega
          have hls := Lib.hid (fun v => lookS_succ HNW.out (depthsD ds k) v k (depthsD_length ds k) (by rw [HN.out]; exact hlt))
          have hsucc : Hid (depthsD ds (k + 1) = depthsD ds k ++ [depthN (atD ds (depthsD ds k)) (dAt ds k).body]) := rfl
          have hsame := depth_same (ns := (dAt ds k).body) (depthsD ds k) (defB_parts (HALL.out k (by rw [HN.out]; exact hlt))).2.2
          obtain ⟨W1, hW1⟩ : ∃ W, W = wr.alloc (.cells #[.string (dAt ds k).name, .int .i64 (dAt ds k).inp, .int .i64 (dAt ds k).out, .slice a1 (dAt ds k).body.length c1] 56) := ⟨_, rfl⟩
          have hbw : Below wr.heap.size wr W1 := by rw [hW1]; exact below_alloc (Below.refl _ _)
          have HMB := Lib.hid (H.out.1.below hbw)
          have HB3 := Lib.hid (below_step H.out.2 hbw)
          have HMW := Lib.hid (fun u W (hW : Below W1.heap.size W1 W) => (HMB.out.below hW).put (dAt ds k).name hbt.2 hkm u trivial)
          obtain ⟨a1', c1', e1, hm1, hc1⟩ := open_readsN (hbody.below hbw)
          simp only [Value.slice.injEq, true_and] at e1
          obtain ⟨rfl, rfl⟩ := e1
          have HCB := Lib.hid hc1
          obtain ⟨f, hf⟩ : ∃ f : ByteArray → Int, (fun s => (lookS ds (depthsD ds k) k s.toList).getD 0) = f := ⟨_, rfl⟩
          have HF := Lib.hid (fun s => congrFun hf s)
          have HFR : Hid (∀ s, 0 ≤ f s ∧ f s ≤ (k : Int)) := by
            show ∀ s, _
            intro s
            rw [← HF.out s]
            exact lookS_rngB (by omega) (depthsD_rng ds k) k _
          rw [hf] at hsame
          rw [← hsame] at hsucc
          have z0 : W1.cell? ⟨wr.heap.size, 0, none⟩ = some (.string (dAt ds k).name) := by rw [hW1]; simp [go_sem]
          obtain ⟨nm, hnm⟩ : ∃ s, (dAt ds k).name = s := ⟨_, rfl⟩
          obtain ⟨B, hB⟩ : ∃ B, (dAt ds k).body = B := ⟨_, rfl⟩
          have hbt1 := hbt.1
          rw [hnm] at x0 hW1 hls HMW z0
          rw [hB] at hsucc HCB hm1 x3 hW1 hbt1
          obtain ⟨m, hmm2⟩ : ∃ m, B.length = m := ⟨_, rfl⟩
          have HM := Lib.hid hmm2
          rw [hmm2] at hm1 x3 hW1
          have HW1 := Lib.hid hW1
          have HBT := Lib.hid hbt1
          have HZ0 := Lib.hid z0
          clear hE hbody hbw hf hB hmm2 hW1 hg hc1 hsame hnm hbt hbt1 hkm z0
          go_wp2
          rw [← HW1.out]
          go_loopw [9, 32] (fun o i wq => ∃ (j : Nat) (c : Int), j ≤ m ∧ i = .int .i64 j ∧ .int .i64 c = o ∧ Hid (depthN f (B.take j) = c ∧ Below W1.heap.size W1 wq)) (fun _ i _ => m + 1 - (intOf i).toNat)
          case atStart => exact ⟨0, 1, by omega, rfl, rfl, Lib.hid ⟨rfl, Below.refl _ _⟩⟩
          case round =>
            obtain ⟨j, c, hj, rfl, rfl, Hi⟩ := hrel
            have hcr := depthN_rng (by omega : (0 : Int) ≤ (k : Int)) HFR.out (B.take j)
            rw [Hi.out.1] at hcr
            by_cases hjt : j < m
            · obtain ⟨gg, off2, rfl, hgg, hE2⟩ := HCB.out j (by rw [HM.out]; exact hjt)
              obtain ⟨q0, q1, q2⟩ := hE2.below Hi.out.2
              have hj0 : 0 ≤ (j : Int) := by omega
              have hjm : (j : Int) < (m : Int) := by omega
              have hsj := depthN_succ f B j (by rw [HM.out]; exact hjt)
              rw [Hi.out.1] at hsj
              have hsz : (nAt B j).name.size ≤ maxLen := by
                have := name_le B j (by rw [HM.out]; exact hjt)
                have := HBT.out
                unfold maxLen
                omega
              obtain ⟨nd, hnd⟩ : ∃ d, nAt B j = d := ⟨_, rfl⟩
              rw [hnd] at q0 q1 q2 hsj hsz
              have HSJ := Lib.hid hsj
              clear hE2 hnd hsj hgg
              obtain ⟨kd, vl, s2⟩ := nd
              dsimp only at q0 q1 q2 hsz
              have HB5 := Lib.hid (below_alloc (o := .cells #[.int .i64 kd, .int .i64 vl, .string s2] 69) Hi.out.2)
              by_cases h17 : kd = 17
              · subst h17
                have hget := (HMB.out.below HB5.out).get s2 hsz
                obtain ⟨u, hu⟩ : ∃ u, f s2 = u := ⟨_, rfl⟩
                have hur := HFR.out s2
                rw [hu] at hur
                have hgt : (Instr.lookup 71 (.map (some w2.heap.size)) (.string s2) false).run Try.prog (wr.alloc (.cells #[.int .i64 17, .int .i64 vl, .string s2] 69)) = .ok (.int .i64 u) (wr.alloc (.cells #[.int .i64 17, .int .i64 vl, .string s2] 69)) := by
                  rw [← hu, ← HF.out s2]
                  exact hget
                have hst := HSJ.out
                unfold stepD at hst
                rw [if_pos rfl] at hst
                dsimp only at hst
                rw [hu] at hst
                have HST := Lib.hid hst
                have hw1 : IntKind.i64.wrap (u + 1) = u + 1 := IntWalk.i64_in _ (by omega)
                clear hget hu hst hsz x0 x1 x2 x3
                go_wp2
                go_roundw
                case rel => exact ⟨j + 1, _, by omega, by go_num, rfl, Lib.hid ⟨HST.out, HB5.out⟩⟩
                case measure => simp [intOf]; omega
              · have b17 : (kd == 17) = false := by simpa using h17
                have hst := HSJ.out
                rw [stepD_other (n := ⟨kd, vl, s2⟩) h17] at hst
                have HST := Lib.hid hst
                clear h17 hst hsz x0 x1 x2 x3
                go_wp2
                go_roundw
                case rel => exact ⟨j + 1, c, by omega, by go_num, rfl, Lib.hid ⟨HST.out, HB5.out⟩⟩
                case measure => simp [intOf]; omega
            · obtain rfl : j = m := by omega
              have he := Hi.out.1
              rw [← HM.out, List.take_length] at he
              have hs2 := hsucc.out
              rw [he] at hs2
              obtain ⟨w6, hrun, hM6, hch6⟩ := HMW.out c wr Hi.out.2
              have y0 := cell_old Hi.out.2 HZ0.out
              have hnx : Hid (MapOf intE w6 w2.heap.size (k + 1) (lookS ds (depthsD ds (k + 1)) (k + 1)) ∧ Below w2.heap.size w2 w6) := by
                refine Lib.hid ⟨?_, (below_step HB3.out Hi.out.2).trans (hch6.below (below_step HB3.out Hi.out.2).size fun g hg => by omega)⟩
                rw [hs2, hls.out]
                exact hM6
              replace hrun : (Instr.mapUpdate 71 (.map (some w2.heap.size)) (.string nm) (.int .i64 c)).run Try.prog wr = .ok () w6 := hrun
              clear he hs2 hM6 hch6 x0 x1 x2 x3
              go_wp2
              go_roundw
              case rel => exact ⟨k + 1, by omega, by go_num, hnx⟩
              case measure => simp [intOf]; omega
        · obtain rfl : k = n := by omega
          have hget := H.out.1.get s HSM.out
          replace hget : (Instr.lookup 71 (.map (some w2.heap.size)) (.string s) false).run Try.prog wr = .ok (.int .i64 ((lookS ds (depthsD ds k) k s.toList).getD 0)) wr := hget
          rw [hat.out] at hget
          obtain ⟨u, hu⟩ : ∃ u, (depthsD ds k)[ix]?.getD 0 = u := ⟨_, rfl⟩
          rw [hu] at hget
          have HU := Lib.hid hu
          replace hget : (Instr.lookup 71 (.map (some w2.heap.size)) (.string s) false).run Try.prog wr = .ok (.int .i64 u) wr := hget
          have HBF := Lib.hid (below_step HB2.out H.out.2)
          clear hu
          go_wp2
          go_ret2
          have hu2 := HU.out
          subst hu2
          exact ⟨rfl, HBF.out⟩

end Ints
end Go.Proofs.Ytlfcmlbffpmhkaa
