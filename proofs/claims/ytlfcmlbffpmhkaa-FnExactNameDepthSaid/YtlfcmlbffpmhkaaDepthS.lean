/- How deep a name of a library lies: the reference. -/
import Derived.Test.YtlfcmlbffpmhkaaDepthP
import Derived.Test.YtlfcmlbffpmhkaaSizeS
namespace Go.Proofs.Ytlfcmlbffpmhkaa
open Go.RowKit
namespace Ints
open Fld (inR)

set_option maxHeartbeats 1000000 in
theorem l1Most_any (a b : Int) (w : World) : Calls Try.prog 46 #[.int .i64 a, .int .i64 b] w fun e w' => e = .returned (.int .i64 (if b < a then a else b)) ∧ w = w' := by
  by_cases h : b < a
  · have d : decide (b < a) = true := by simpa using h
    rw [if_pos h]
    clear h
    go_enter Try.func46, Try.ntmps46
    go_wp2
    go_ret
    exact ⟨rfl, rfl⟩
  · have d : decide (b < a) = false := by simpa using h
    rw [if_neg h]
    clear h
    go_enter Try.func46, Try.ntmps46
    go_wp2
    go_ret
    exact ⟨rfl, rfl⟩

theorem stepD_most {f : ByteArray → Int} {c : Int} {n : NodeL} (h : n.kind = 17) : stepD f (c + 1) n = (if f n.name < c then c else f n.name) + 1 := by
  unfold stepD
  rw [if_pos h]
  split <;> split <;> omega
theorem stepD_other {f : ByteArray → Int} {c : Int} {n : NodeL} (h : n.kind ≠ 17) : stepD f c n = c := by
  unfold stepD
  rw [if_neg h]

set_option maxRecDepth 100000 in
set_option maxHeartbeats 8000000 in
theorem specND_any (vd : Value) (ds : List DefL) (s : ByteArray) (w : World) (hd : ReadsD w vd ds) :
    Calls Try.prog 12 #[vd, .string s] w fun e w' => e = .returned (.tuple #[.int .i64 (depP ds s).1, .bool (depP ds s).2]) ∧ Below w.heap.size w w' := by
  have HFD := Lib.hid (fun s W (hW : Below w.heap.size w W) => lbFind_any vd ds s W (hd.below hW))
  have HGD := Lib.hid (fun W (hW : Below w.heap.size w W) => lbGood_any vd ds W (hd.below hW))
  obtain ⟨a, cap, rfl, hm, hc⟩ := open_readsD hd
  obtain ⟨n, hn⟩ : ∃ n, ds.length = n := ⟨_, rfl⟩
  have HC := Lib.hid hc
  have HN := Lib.hid hn
  rw [hn] at hm HFD HGD ⊢
  unfold depP
  clear hd hc
  cases hl : libB ds with
  | false =>
    rw [hl] at HGD
    obtain ⟨jv, hjv⟩ : ∃ j, idxI (findD ds s) = j := ⟨_, rfl⟩
    have hf0 := Lib.hid (HFD.out s w (Below.refl _ _))
    rw [hjv] at hf0
    clear hl hjv hn
    go_enter Try.func12, Try.ntmps12
    go_wp2_with fail
    refine hf0.out.mono ?_
    rintro e w1 ⟨rfl, hb1⟩
    have HB1 := Lib.hid hb1
    clear hb1
    go_wp2_with fail
    refine (HGD.out w1 HB1.out).mono ?_
    rintro e w2 ⟨rfl, hb2⟩
    have HB2 := Lib.hid (below_step HB1.out hb2)
    clear hb2
    go_wp2
    go_ret2
    exact ⟨rfl, HB2.out⟩
  | true =>
    rw [hl] at HGD
    obtain ⟨h12, hall, -, -⟩ := libB_all hl
    have HALL := Lib.hid hall
    have hf0 := Lib.hid (HFD.out s w (Below.refl _ _))
    rw [hn] at h12 ⊢
    cases hfd : findD ds s with
    | none =>
      rw [hfd] at hf0
      have hix : idxI none = -1 := rfl
      rw [hix] at hf0
      clear hl hfd hix hn hall
      go_enter Try.func12, Try.ntmps12
      go_wp2_with fail
      refine hf0.out.mono ?_
      rintro e w1 ⟨rfl, hb1⟩
      have HB1 := Lib.hid hb1
      clear hb1
      go_wp2_with fail
      refine (HGD.out w1 HB1.out).mono ?_
      rintro e w2 ⟨rfl, hb2⟩
      have HB2 := Lib.hid (below_step HB1.out hb2)
      clear hb2
      go_wp2
      go_ret2
      exact ⟨rfl, HB2.out⟩
    | some ix =>
      have hixn : ix < n := by rw [← hn]; exact findD_lt hfd
      rw [hfd] at hf0
      have hix : idxI (some ix) = (ix : Int) := rfl
      rw [hix] at hf0
      have hi0 : 0 ≤ (ix : Int) := by omega
      have hilt : decide ((ix : Int) < 0) = false := by simp
      have hin : (ix : Int) < (n : Int) := by omega
      clear hl hfd hix hn hall
      go_enter Try.func12, Try.ntmps12
      go_wp2_with fail
      refine hf0.out.mono ?_
      rintro e w1 ⟨rfl, hb1⟩
      have HB1 := Lib.hid hb1
      clear hb1
      go_wp2_with fail
      refine (HGD.out w1 HB1.out).mono ?_
      rintro e w2 ⟨rfl, hb2⟩
      have HB2 := Lib.hid (below_step HB1.out hb2)
      clear hb2
      go_wp2
      go_loopw [7, 25] (fun o i wr => ∃ (k : Nat) (ov : Value), k ≤ n ∧ i = .int .i64 k ∧ ov = o ∧ Hid (wr.ownsRow w.heap.size 3 1 ov k (ofL (depthsD ds k)) ∧ Below w.heap.size w wr)) (fun _ i _ => n + 1 - (intOf i).toNat)
      case atStart => exact ⟨0, _, by omega, rfl, rfl, Lib.hid ⟨World.ownsRow_nil _ _ _ _, HB2.out⟩⟩
      case round =>
        obtain ⟨k, ov, hk, rfl, rfl, H⟩ := hrel
        by_cases hlt : k < n
        · obtain ⟨g, off, a1, c1, rfl, hg, hE⟩ := HC.out k (by rw [HN.out]; exact hlt)
          obtain ⟨x0, x1, x2, x3, hbody⟩ := hE.below H.out.2
          have hk0 : 0 ≤ (k : Int) := by omega
          have hkn : (k : Int) < (n : Int) := by omega
          obtain ⟨ao, co, rfl⟩ := ownsRow_form' H.out.1
          obtain ⟨W1, hW1⟩ : ∃ W, W = wr.alloc (.cells #[.string (dAt ds k).name, .int .i64 (dAt ds k).inp, .int .i64 (dAt ds k).out, .slice a1 (dAt ds k).body.length c1] 56) := ⟨_, rfl⟩
          have hbw : Below wr.heap.size wr W1 := by rw [hW1]; exact below_alloc (Below.refl _ _)
          have HO := Lib.hid (ownsRow_below H.out.1 hbw)
          have HBK := Lib.hid (below_step H.out.2 hbw)
          have hnb := Lib.hid (named_body (HALL.out k (by rw [HN.out]; exact hlt)))
          have hrr := Lib.hid (fun W (hW : Below W1.heap.size W1 W) => open_reads (owns_of_row (ownsRow_below HO.out hW) (by unfold maxLen; omega)).1.reads)
          obtain ⟨a1', c1', e1, hm1, hc1⟩ := open_readsN (hbody.below hbw)
          simp only [Value.slice.injEq, true_and] at e1
          obtain ⟨rfl, rfl⟩ := e1
          have HCB := Lib.hid hc1
          have HDR := Lib.hid (fun s => at_rngB (by omega : (0 : Int) ≤ (k : Int)) (depthsD_rng ds k) ((findD ds s).getD 0))
          have hsucc : Hid (depthsD ds (k + 1) = depthsD ds k ++ [depthN (atD ds (depthsD ds k)) (dAt ds k).body]) := rfl
          obtain ⟨f, hf⟩ : ∃ f, atD ds (depthsD ds k) = f := ⟨_, rfl⟩
          have HF := Lib.hid hf
          have HFR : Hid (∀ s, 0 ≤ f s ∧ f s ≤ (k : Int)) := by
            show ∀ s, _
            intro s
            rw [← hf]
            exact HDR.out s
          rw [hf] at hsucc
          obtain ⟨B, hB⟩ : ∃ B, (dAt ds k).body = B := ⟨_, rfl⟩
          rw [hB] at hsucc hnb HCB hm1 x3 hW1
          obtain ⟨m, hmm⟩ : ∃ m, B.length = m := ⟨_, rfl⟩
          have HM := Lib.hid hmm
          rw [hmm] at hm1 x3 hW1
          have HW1 := Lib.hid hW1
          clear hE hbody hbw hf hB hmm hW1 hg hc1 HDR
          go_wp2
          rw [← HW1.out]
          go_loopw [10, 33] (fun o i wq => ∃ (j : Nat) (c : Int), j ≤ m ∧ i = .int .i64 j ∧ .int .i64 c = o ∧ Hid (depthN f (B.take j) = c + 1 ∧ Below W1.heap.size W1 wq)) (fun _ i _ => m + 1 - (intOf i).toNat)
          case atStart => exact ⟨0, 0, by omega, rfl, rfl, Lib.hid ⟨rfl, Below.refl _ _⟩⟩
          case round =>
            obtain ⟨j, c, hj, rfl, rfl, Hi⟩ := hrel
            have hcr := depthN_rng (by omega : (0 : Int) ≤ (k : Int)) HFR.out (B.take j)
            rw [Hi.out.1] at hcr
            by_cases hjt : j < m
            · obtain ⟨gg, off2, rfl, hgg, hE2⟩ := HCB.out j (by rw [HM.out]; exact hjt)
              obtain ⟨q0, q1, q2⟩ := hE2.below Hi.out.2
              have hj0 : 0 ≤ (j : Int) := by omega
              have hjm : (j : Int) < (m : Int) := by omega
              have hsj := depthN_succ f B j (by rw [HM.out]; exact hjt)
              rw [Hi.out.1] at hsj
              have hnk := hnb.out j (by rw [HM.out]; exact hjt)
              obtain ⟨nd, hnd⟩ : ∃ d, nAt B j = d := ⟨_, rfl⟩
              rw [hnd] at q0 q1 q2 hsj hnk
              have HBQ := Lib.hid (below_step HBK.out Hi.out.2)
              have HSJ := Lib.hid hsj
              clear hE2 hnd hsj hgg
              obtain ⟨kd, vl, s2⟩ := nd
              dsimp only at q0 q1 q2 hnk
              by_cases h17 : kd = 17
              · subst h17
                obtain ⟨i, hfi, hik⟩ := hnk rfl
                obtain ⟨_, _, _, e, -, hcell⟩ := hrr.out _ Hi.out.2
                simp only [Value.slice.injEq, true_and] at e
                obtain ⟨rfl, rfl⟩ := e
                obtain ⟨gl, ol, rfl, hgl, hcell⟩ := hcell (by omega)
                have zl := hcell i hik
                obtain ⟨u, hu⟩ : ∃ u, (depthsD ds k)[i]?.getD 0 = u := ⟨_, rfl⟩
                rw [hu] at zl
                have hfu : f s2 = u := by
                  rw [← HF.out, ← hu]
                  unfold atD
                  rw [hfi]
                  rfl
                have hst := HSJ.out
                rw [stepD_most (n := ⟨17, vl, s2⟩) rfl] at hst
                dsimp only at hst
                rw [hfu] at hst
                obtain ⟨c2, hc2⟩ : ∃ c2, (if u < c then c else u) = c2 := ⟨_, rfl⟩
                rw [hc2] at hst
                have hmost := Lib.hid (fun W => l1Most_any c u W)
                rw [hc2] at hmost
                have HST := Lib.hid hst
                have hcall := Lib.hid (fun W hW => HFD.out s2 W hW)
                rw [hfi] at hcall
                have hix2 : idxI (some i) = (i : Int) := rfl
                rw [hix2] at hcall
                have hii0 : 0 ≤ (i : Int) := by omega
                have hiik : (i : Int) < (k : Int) := by omega
                clear hfi hcell hgl hu hfu hst hc2 hix2 hnk
                go_wp2_with fail
                refine (hcall.out _ (below_alloc HBQ.out)).mono ?_
                rintro e w5 ⟨rfl, hb⟩
                have zl2 := cell_old (below_step (below_alloc (Below.refl _ _)) hb) zl
                have HB5 := Lib.hid (below_step (below_alloc Hi.out.2) hb)
                clear hb zl q0 q1 q2 x0 x1 x2 x3
                go_wp2_with (go_at_call 46; ((with_reducible refine (hmost.out _).mono ?_); rintro e w' ⟨rfl, rfl⟩))
                go_roundw
                case rel => exact ⟨j + 1, c2, by omega, by go_num, rfl, Lib.hid ⟨HST.out, HB5.out⟩⟩
                case measure => simp [intOf]; omega
              · have b17 : (kd == 17) = false := by simpa using h17
                have hst := HSJ.out
                rw [stepD_other (n := ⟨kd, vl, s2⟩) h17] at hst
                have HST := Lib.hid hst
                have HB5 := Lib.hid (below_alloc (o := .cells #[.int .i64 kd, .int .i64 vl, .string s2] 69) Hi.out.2)
                clear hnk h17 hst x0 x1 x2 x3
                go_wp2
                go_roundw
                case rel => exact ⟨j + 1, c, by omega, by go_num, rfl, Lib.hid ⟨HST.out, HB5.out⟩⟩
                case measure => simp [intOf]; omega
            · obtain rfl : j = m := by omega
              have he := Hi.out.1
              rw [← HM.out, List.take_length] at he
              have hs2 := hsucc.out
              rw [he] at hs2
              have HS2 := Lib.hid hs2
              have hw1 : IntKind.i64.wrap (c + 1) = c + 1 := IntWalk.i64_in _ (by omega)
              have HBQ := Lib.hid (below_step HBK.out Hi.out.2)
              have HO2 := Lib.hid (ownsRow_below HO.out Hi.out.2)
              have hm3 := Lib.hid (show k + 1 ≤ maxLen by unfold maxLen; omega)
              have hm4 := Lib.hid (show (k + 1) * 8 ≤ 140737488355328 by omega)
              have hsz := Lib.hid HBQ.out.size
              clear he hs2 x0 x1 x2 x3
              go_wp2_with (at_builtin; go_must (refine wpList_append_one _ rfl _ _ 67 rfl w.heap.size 3 (.int .i64 0) 8 Try.underlying67 infoI rfl _ _ _ (.int .i64 (c + 1)) HO2.out rfl rfl rfl hm3.out hm4.out hsz.out ?_); intro v' w6 hown6 hg6)
              have hbl6 := Lib.hid (Below.grownRow HBQ.out HO2.out hg6 hsz.out)
              have hnew : Hid (w6.ownsRow w.heap.size 3 1 v' (k + 1) (ofL (depthsD ds (k + 1)))) := by
                show World.ownsRow _ _ _ _ _ _ _
                rw [HS2.out]
                unfold ofL at hown6 ⊢
                rw [List.map_append]
                exact hown6
              clear hown6 hg6
              go_wp2
              go_roundw
              case rel => exact ⟨k + 1, _, by omega, by go_num, rfl, Lib.hid ⟨hnew.out, hbl6.out⟩⟩
              case measure => simp [intOf]; omega
        · obtain rfl : k = n := by omega
          obtain ⟨ao, co, rfl⟩ := ownsRow_form' H.out.1
          obtain ⟨_, _, _, e, -, hcell⟩ := open_reads (owns_of_row H.out.1 (by unfold maxLen; omega)).1.reads
          simp only [Value.slice.injEq, true_and] at e
          obtain ⟨rfl, rfl⟩ := e
          obtain ⟨gl, ol, rfl, hgl, hcell⟩ := hcell (by omega)
          have zl := hcell ix hixn
          have HBF := Lib.hid H.out.2
          clear hcell hgl
          go_wp2
          go_ret2
          exact ⟨rfl, HBF.out⟩

end Ints
end Go.Proofs.Ytlfcmlbffpmhkaa
