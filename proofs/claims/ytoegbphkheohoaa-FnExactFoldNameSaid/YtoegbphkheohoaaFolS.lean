/- Folding: the reference's FoldName. -/
import Derived.Test.YtoegbphkheohoaaFoldQ
import Derived.Test.YtoegbphkheohoaaStack
import Derived.BigQuiet
namespace Go.Proofs.Ytoegbphkheohoaa
open Go.RowKit
namespace Ints

def FsSt (A : World) (F : List NodeL) (o : Value) (wr : World) : Prop := wr.ownsRow A.heap.size 71 3 o F.length (ofN F) ∧ Below A.heap.size A wr
theorem ofN_take (L : List NodeL) (q : Nat) : (ofN L).take (q * 3) = ofN (L.take q) := by
  induction L generalizing q with
  | nil => simp [ofN]
  | cons n L ih =>
    cases q with
    | zero => simp [ofN]
    | succ q =>
      have e : ofN (n :: L) = [.int .i64 n.kind, .int .i64 n.value, .string n.name] ++ ofN L := rfl
      have e2 : ofN ((n :: L).take (q + 1)) = [.int .i64 n.kind, .int .i64 n.value, .string n.name] ++ ofN (L.take q) := rfl
      rw [e, e2, ← ih q, show (q + 1) * 3 = 3 + q * 3 by omega, List.take_append]
      rw [List.take_of_length_le (by simp), show 3 + q * 3 - [Value.int .i64 n.kind, Value.int .i64 n.value, Value.string n.name].length = q * 3 by simp]

set_option maxRecDepth 100000 in
set_option maxHeartbeats 4000000 in
theorem specFN_any (vd vn : Value) (ds : List DefL) (ns : List NodeL) (s : ByteArray) (w : World) (hd : ReadsD w vd ds) (h : ReadsN w vn ns) :
    Calls Try.prog 18 #[vd, .agg #[vn], .string s] w (TermOut w (fnB ds ns s) (fnR ds ns s)) := by
  obtain ⟨w0, hw0⟩ : ∃ W, W = (w.alloc (.cells #[vn] 35)).alloc (.cells #[.slice none 0 0] 35) := ⟨_, rfl⟩
  have hB : Below w.heap.size w w0 := by rw [hw0]; exact below_alloc (below_alloc (Below.refl _ _))
  have hs0 : w0.heap.size = w.heap.size + 2 := by rw [hw0]; simp
  have HF := Lib.hid (fun W (hW : Below w.heap.size w W) => lbFind_any vd ds s W (hd.below hW))
  have HT := Lib.hid (fun W (hW : Below w.heap.size w W) => lbTerm_any vd vn ds ns W (hd.below hW) (h.below hW))
  have HSC := Lib.hid (fun (hl : libB ds = true) W (hW : Below w.heap.size w W) => lbScan_any vd vn ds ns (libB_all hl).2.2.1 W (hd.below hW) (h.below hW))
  have HRN := Lib.hid h
  obtain ⟨ad, cd, rfl, hm, hc⟩ := open_readsD hd
  obtain ⟨an, cn, rfl, hmn, hcn⟩ := open_readsN h
  have q1 : w0.heap[w.heap.size]? = some (.cells #[.slice an ns.length cn] 35 (0, 0)) := by
    rw [hw0]
    exact block_old (heap_alloc_new w _) (below_alloc (Below.refl _ _))
  have q2 : w0.heap[w.heap.size + 1]? = some (.cells #[.slice none 0 0] 35 (0, 0)) := by
    rw [hw0]
    have := heap_alloc_new (w.alloc (.cells #[.slice an ns.length cn] 35)) (.cells #[.slice none 0 0] 35)
    simpa using this
  have HX := Lib.hid (show ∀ W, Below w0.heap.size w0 W → W.cell? ⟨w.heap.size, 0, none⟩ = some (.slice an ns.length cn) ∧ W.cell? ⟨w.heap.size + 1, 0, none⟩ = some (.slice none 0 0) ∧ W.frozen? ⟨w.heap.size + 1, 0, none⟩ = false from fun W hW =>
    ⟨(Go.Joins.cell_of_block (block_old q1 hW) 0).trans rfl, (Go.Joins.cell_of_block (block_old q2 hW) 0).trans rfl, Go.Joins.unfrozen_of_block (block_old q2 hW) 0⟩)
  have HB := Lib.hid hB
  have HS := Lib.hid hs0
  have HW := Lib.hid hw0
  have HC := Lib.hid hc
  have HCN := Lib.hid hcn
  obtain ⟨n, hn⟩ : ∃ n, ds.length = n := ⟨_, rfl⟩
  have HN := Lib.hid hn
  obtain ⟨ln, hln⟩ : ∃ n, ns.length = n := ⟨_, rfl⟩
  have HLN := Lib.hid hln
  rw [hn] at hm ⊢
  rw [hn] at HF HT HSC
  rw [hln] at hmn HT HX HW HSC ⊢
  obtain ⟨tp, htp⟩ : ∃ b, typI ds ns = b := ⟨_, rfl⟩
  have HTY := Lib.hid (fun p (e : tp = some p) => typI_lib (htp.trans e))
  have HIO : Hid (fnO ds ns s = if tp.isSome = true then (match findD ds s with
    | some k => some (folR (dAt ds k).body s ns)
    | none => none) else none) := by rw [← htp]; rfl
  rw [htp] at HT
  unfold fnR fnB
  obtain ⟨fo, hfo⟩ : ∃ f, findD ds s = f := ⟨_, rfl⟩
  have hlt : ∀ k, fo = some k → k < n := fun k e => by rw [← hn]; exact findD_lt (hfo.trans e)
  rw [hfo] at HF HIO
  clear hd h hw0 hB hs0 q1 q2 hc hcn hn hln htp hfo
  have hno : fnO ds ns s = none → ∀ W, Below w0.heap.size w0 W → TermOut w (fnO ds ns s).isSome ((fnO ds ns s).getD []) (.returned (.tuple #[.agg #[.slice none 0 0], .bool false])) (W.setCell ⟨w.heap.size + 1, 0, none⟩ (.slice none 0 0)) := by
    intro e W hW
    rw [e]
    have h7 := below_step HB.out hW
    have hc3 := Chg.set1 W ⟨w.heap.size + 1, 0, none⟩ (.slice none 0 0)
    exact ⟨_, rfl, ownsN_nil _ _, h7.trans (hc3.below h7.size fun g hg => by simp only at hg; omega)⟩
  have HNO := Lib.hid hno
  clear hno
  cases tp with
  | none =>
    have hio := HIO.out
    rw [if_neg (by decide)] at hio
    have HNE := Lib.hid (HNO.out hio)
    rw [show (none : Option (Int × Int)).isSome = false from rfl] at HT
    obtain ⟨jv, hjv⟩ : ∃ j, idxI fo = j := ⟨_, rfl⟩
    rw [hjv] at HF
    clear hjv hio
    go_enter Try.func18, Try.ntmps18
    go_wp2_with fail
    rw [← HW.out]
    refine (HF.out w0 HB.out).mono ?_
    rintro e w1 ⟨rfl, hb1⟩
    obtain ⟨x0, -, -⟩ := HX.out w1 hb1
    have HB1 := Lib.hid hb1
    clear hb1
    go_wp2_with fail
    refine (HT.out w1 (below_step HB.out HB1.out)).mono ?_
    rintro e w2 ⟨rfl, hb2⟩
    have HB2 := Lib.hid (below_step HB1.out hb2)
    obtain ⟨-, y0, f0⟩ := HX.out w2 HB2.out
    clear hb2 x0
    go_wp2
    refine bodyPost_ret (v := .tuple #[.agg #[.slice none 0 0], .bool false]) (by simp [results, Try.results18, go_sem, y0]) rfl ?_
    exact HNE.out w2 HB2.out
  | some p =>
    rw [show (some p).isSome = true from rfl] at HT
    cases fo with
    | none =>
      have hio := HIO.out
      rw [if_pos (show (some p).isSome = true from rfl)] at hio
      have HNE := Lib.hid (HNO.out hio)
      have hix : idxI none = -1 := rfl
      rw [hix] at HF
      clear hix hio
      go_enter Try.func18, Try.ntmps18
      go_wp2_with fail
      rw [← HW.out]
      refine (HF.out w0 HB.out).mono ?_
      rintro e w1 ⟨rfl, hb1⟩
      obtain ⟨x0, -, -⟩ := HX.out w1 hb1
      have HB1 := Lib.hid hb1
      clear hb1
      go_wp2_with fail
      refine (HT.out w1 (below_step HB.out HB1.out)).mono ?_
      rintro e w2 ⟨rfl, hb2⟩
      have HB2 := Lib.hid (below_step HB1.out hb2)
      obtain ⟨-, y0, f0⟩ := HX.out w2 HB2.out
      clear hb2 x0
      go_wp2
      refine bodyPost_ret (v := .tuple #[.agg #[.slice none 0 0], .bool false]) (by simp [results, Try.results18, go_sem, y0]) rfl ?_
      exact HNE.out w2 HB2.out
    | some k0 =>
      have hix : idxI (some k0) = (k0 : Int) := rfl
      rw [hix] at HF
      obtain ⟨hlib, hty⟩ := HTY.out p rfl
      have hkn := hlt k0 rfl
      obtain ⟨g, off, a1, c1, rfl, hg, hE⟩ := HC.out k0 (by rw [HN.out]; exact hkn)
      obtain ⟨d, hd⟩ : ∃ d, dAt ds k0 = d := ⟨_, rfl⟩
      have hio := HIO.out
      rw [if_pos (show (some p).isSome = true from rfl)] at hio
      dsimp only at hio
      rw [hd] at hE hio
      have hk0 : 0 ≤ (k0 : Int) := by omega
      have hkz : decide ((k0 : Int) < 0) = false := by simp
      have hkn2 : (k0 : Int) < (n : Int) := by omega
      obtain ⟨body, hbody⟩ : ∃ b, d.body = b := ⟨_, rfl⟩
      obtain ⟨-, -, -, hE3, hE4⟩ := hE
      rw [hbody] at hE3 hE4 hio
      obtain ⟨ab, cb, hEq, hmb2, hcb⟩ := open_readsN hE4
      injection hEq with e1 e2 e3
      subst e1 e3
      obtain ⟨mb, hmb⟩ : ∃ m, body.length = m := ⟨_, rfl⟩
      have HMB := Lib.hid hmb
      have HCB := Lib.hid hcb
      rw [hmb] at hE3 hmb2
      have HE3 := Lib.hid hE3
      -- the run of the table
      have hsc : ∃ tr, scanB ds ns = true ∧ runS ds ns = some tr ∧ tr.length = ln := by
        rcases scan_type (libB_all hlib).2.2.1 ns with ⟨-, h2⟩ | ⟨tr, p', h1, h2, -, h4, -⟩
        · rw [hty] at h2; cases h2
        · exact ⟨tr, h1, h2, h4.trans HLN.out⟩
      obtain ⟨tr, hs1, hs2, hs3⟩ := hsc
      have HSC2 := Lib.hid (HSC.out hlib)
      rw [hs1, hs2] at HSC2
      have hl14 := (tree_of hty).2.2.2
      have hl1 : 1 ≤ ln := by rw [← HLN.out]; exact hl14.1
      have hl4 : ln ≤ 400 := by rw [← HLN.out]; exact hl14.2.1
      have hbl4 : mb ≤ 400 := by
        have := body_len hlib (k := k0) (by rw [HN.out]; exact hkn)
        rw [hd, hbody, hmb] at this
        exact this
      have HFW := Lib.hid (fun k (hk : k < ns.length) => fold_walk body s hty hs2 (k := k) hk)
      have hend := folK_end body s hty
      rw [HLN.out] at hend
      obtain ⟨F, hF⟩ : ∃ F, folK body s ns = F := ⟨_, rfl⟩
      have hrl := folR_len body s hty
      have hF0 : F 0 = [] := by rw [← hF]; simp [folK, runR, flatT]
      rw [hF] at HFW hend
      rw [← hend] at hio hrl
      have HRL := Lib.hid hrl
      rw [hmb] at HFW
      rw [hio]
      have HTL := Lib.hid hs3
      have HF0 := Lib.hid hF0
      clear hrl hix hio hkn hd hlt hE3 hE4 hg hbody hs1 hs2 hs3 hl14 hend hF hcb hmb hF0 hty hlib HSC HNO HIO HTY
      go_enter Try.func18, Try.ntmps18
      go_wp2_with fail
      rw [← HW.out]
      refine (HF.out w0 HB.out).mono ?_
      rintro e w1 ⟨rfl, hb1⟩
      obtain ⟨x0, -, -⟩ := HX.out w1 hb1
      have HB1 := Lib.hid hb1
      clear hb1
      go_wp2_with fail
      refine (HT.out w1 (below_step HB.out HB1.out)).mono ?_
      rintro e w2 ⟨rfl, hb2⟩
      have HB2 := Lib.hid (below_step HB1.out hb2)
      have HBW2 := Lib.hid (below_step HB.out HB2.out)
      obtain ⟨x2, -, -⟩ := HX.out w2 HB2.out
      have x3 := cell_old HBW2.out HE3.out
      clear hb2 x0
      go_wp2_with fail
      refine (HSC2.out w2 HBW2.out).mono ?_
      rintro e w3 ⟨af, nf, cf, ai, ni, ci, ao, no, co, rfl, hsc, hb3⟩
      obtain ⟨tr2, htr2, hrf, -, -⟩ := hsc rfl
      cases htr2
      rw [HTL.out] at hrf
      obtain ⟨-, af', cf', hEq, -, hcf⟩ := open_reads hrf
      injection hEq with e1 e2 e3
      have e4 := e2.symm
      subst e1 e4 e3
      obtain ⟨gf, of, rfl, hgf, hcf2⟩ := hcf (by omega)
      obtain ⟨A, hA⟩ : ∃ W, W = w3.alloc (.cells #[.slice (some ⟨gf, of, none⟩) ln cf, .slice ai ni ci, .slice ao no co] 67) := ⟨_, rfl⟩
      have hbA : Below w3.heap.size w3 A := by rw [hA]; exact below_alloc (Below.refl _ _)
      have hbkA : A.heap[w3.heap.size]? = some (.cells #[.slice (some ⟨gf, of, none⟩) ln cf, .slice ai ni ci, .slice ao no co] 67 (0, 0)) := by rw [hA]; exact heap_alloc_new w3 _
      have HB0A := Lib.hid (below_step (below_step HB2.out hb3) hbA)
      have HBA := Lib.hid (below_step HB.out HB0A.out)
      have HXA := Lib.hid (show ∀ W, Below A.heap.size A W → W.cell? ⟨w.heap.size, 0, none⟩ = some (.slice an ln cn) ∧ W.cell? ⟨w3.heap.size, 0, none⟩ = some (.slice (some ⟨gf, of, none⟩) ln cf) ∧ ∀ j, j < ln → W.cell? ⟨gf, of + j, none⟩ = some (.int .i64 (frAt tr j)) from fun W hW =>
        ⟨(HX.out W (below_step HB0A.out hW)).1, (Go.Joins.cell_of_block (block_old hbkA hW) 0).trans rfl, fun j hj => by
          have := cell_old hW (cell_old hbA (hcf2 j hj))
          rw [frL_at] at this
          exact this⟩)
      have x4 := (HX.out w3 (below_step HB2.out hb3)).1
      have hA4 : (w3.alloc (.cells #[.slice (some ⟨gf, of, none⟩) ln cf, .slice ai ni ci, .slice ao no co] 67)).cell? ⟨w.heap.size, 0, none⟩ = some (.slice an ln cn) := by rw [← hA]; exact cell_old hbA x4
      have HAW := Lib.hid hA
      clear hsc hb3 hrf hcf hcf2 hgf hbA hbkA x2 x3 hA
      go_wp2
      rw [← HAW.out]
      go_loopw [45, 12] (fun i o wr => ∃ (k : Nat) (ov : Value), k ≤ ln ∧ i = .int .i64 k ∧ ov = o ∧ Hid (FsSt A (F k) ov wr)) (fun i _ _ => ln + 1 - (intOf i).toNat)
      case atStart => exact ⟨0, _, by omega, rfl, rfl, Lib.hid ⟨by rw [HF0.out]; simpa [ofN] using World.ownsRow_nil A A.heap.size 71 3, Below.refl _ _⟩⟩
      case round =>
        obtain ⟨k, ov, hk, rfl, rfl, H⟩ := hrel
        by_cases hlt : k < ln
        · obtain ⟨gg, on, rfl, hgg, hEn⟩ := HCN.out k (by rw [HLN.out]; exact hlt)
          obtain ⟨y0, y1, y2⟩ := hEn.below (below_step HBA.out H.out.2)
          obtain ⟨hfr, hFl, hyes, hnot⟩ := HFW.out k (by rw [HLN.out]; exact hlt)
          have HSAME := Lib.hid hyes
          have HNOT := Lib.hid hnot
          obtain ⟨m, hmm⟩ : ∃ m, (F k).length = m := ⟨_, rfl⟩
          have HM := Lib.hid hmm
          have hk0 : 0 ≤ (k : Int) := by omega
          have hkl : (k : Int) < (ln : Int) := by omega
          obtain ⟨fr, hfre⟩ : ∃ f, frAt tr k = f := ⟨_, rfl⟩
          have HFRE := Lib.hid hfre
          rw [hfre] at hfr HSAME HNOT
          rw [hmm] at hFl HSAME
          obtain ⟨nd, hnd⟩ : ∃ x, nAt ns k = x := ⟨_, rfl⟩
          rw [hnd] at y0 y1 y2 HSAME HNOT
          obtain ⟨kd, vl, s2⟩ := nd
          dsimp only at y0 y1 y2
          obtain ⟨W1, hW1⟩ : ∃ W, W = wr.alloc (.cells #[.int .i64 kd, .int .i64 vl, .string s2] 71) := ⟨_, rfl⟩
          have hb1 : Below wr.heap.size wr W1 := by rw [hW1]; exact below_alloc (Below.refl _ _)
          have HBW1 := Lib.hid (show Below A.heap.size A W1 from below_step H.out.2 hb1)
          have hO5 := Lib.hid (ownsRow_below H.out.1 hb1)
          rw [hmm] at hO5
          have hZ := Lib.hid (show A.heap.size ≤ W1.heap.size from HBW1.out.size)
          have hm3 := Lib.hid (show m + 1 ≤ maxLen by unfold maxLen; omega)
          have hm4 := Lib.hid (show (m + 1) * 32 ≤ 140737488355328 by omega)
          have HW1 := Lib.hid hW1
          obtain ⟨a6, c6, rfl⟩ := ownsRow_form' hO5.out
          have hO5x := hO5
          have hZx := hZ
          rw [hW1] at hO5x hZx
          have HAPP : Hid (∀ v' w4, w4.ownsRow A.heap.size 71 3 v' (m + 1) (ofN (F k) ++ #[Value.int .i64 kd, .int .i64 vl, .string s2].toList) → W1.grownBy w4 (Value.slice a6 m c6).ownBlock → (w4.ownsRow A.heap.size 71 3 v' (m + 1) (ofN (F k ++ [⟨kd, vl, s2⟩])) ∧ Below A.heap.size A w4)) := by
            refine Lib.hid fun v' w4 h1 h2 => ⟨?_, Below.grownRow HBW1.out hO5.out h2 hZ.out⟩
            rw [ofN_append]
            exact h1
          have hwa : IntKind.i64.wrap ((k : Int) + 1) = (k : Int) + 1 := IntWalk.i64_in _ (by omega)
          have hwb : IntKind.i64.wrap ((k : Int) + 1 - (mb : Int)) = (k : Int) + 1 - (mb : Int) := IntWalk.i64_in _ (by omega)
          clear hEn hgg hb1 hW1 hnd hmm hyes hnot hfre hO5 hZ H
          by_cases hcnd : fr + mb = k + 1
          · have bcnd : ((fr : Int) != (k : Int) + 1 - (mb : Int)) = false := by
              rw [bne_eq_false_iff_eq]; omega
            go_wp2_with (first | (refine wpList_append_many (by rfl) _ _ 33 (by rfl) A.heap.size 71 (.agg #[.int .i64 0, .int .i64 0, .string ByteArray.empty]) 3 32 Try.underlying33 infoNode rfl (by decide) _ _ _ #[.int .i64 kd, .int .i64 vl, .string s2] rfl hO5x.out (by rfl) (by first | rfl | (simp; rfl)) (by intro u hu; simp at hu; rcases hu with rfl | rfl | rfl <;> rfl) hm3.out hm4.out hZx.out ?_; intro v4 w4 hown4 hg4; rw [← HW1.out] at hg4; obtain ⟨a4, c4, rfl⟩ := ownsRow_form' hown4; have H4 := Lib.hid (HAPP.out _ _ hown4 hg4); obtain ⟨t0, t1, t2⟩ := HXA.out _ H4.out.2; have t3 := t2 k hlt; rw [HFRE.out] at t3; clear t2 hown4 hg4))
            go_loopw [68, 16] (fun i b wq => ∃ (j : Nat) (bb : Bool), j ≤ mb ∧ i = .int .i64 j ∧ .bool bb = b ∧ Hid ((bb = true ↔ sameF body ns fr j) ∧ Below w4.heap.size w4 wq)) (fun i _ _ => mb + 1 - (intOf i).toNat)
            case atStart => exact ⟨0, true, by omega, rfl, rfl, Lib.hid ⟨⟨fun _ j hj => by omega, fun _ => rfl⟩, Below.refl _ _⟩⟩
            case round =>
              rename World => wq
              obtain ⟨j, bb, hj, rfl, rfl, H5⟩ := hrel
              have HB5 := Lib.hid (below_step H4.out.2 H5.out.2)
              obtain ⟨u0, u1, u2⟩ := HXA.out _ HB5.out
              have u3 := u2 k hlt
              rw [HFRE.out] at u3
              clear u2
              by_cases hjl : j < mb
              · obtain ⟨gb, ob, rfl, hgb, hNb⟩ := HCB.out j (by rw [HMB.out]; exact hjl)
                obtain ⟨z0, z1, z2⟩ := hNb.below (below_step HBA.out HB5.out)
                obtain ⟨q, hq⟩ : ∃ q, fr + j = q := ⟨_, rfl⟩
                obtain ⟨g', o', he, hlt', hNn⟩ := HCN.out q (by rw [HLN.out]; omega)
                simp only [Option.some.injEq, Addr.mk.injEq, and_true] at he
                obtain ⟨rfl, rfl⟩ := he
                obtain ⟨v0, v1, v2⟩ := hNn.below (below_step HBA.out HB5.out)
                have hj0 : 0 ≤ (j : Int) := by omega
                have hjm : (j : Int) < (mb : Int) := by omega
                have hq0 : 0 ≤ (q : Int) := by omega
                have hql : (q : Int) < (ln : Int) := by omega
                have hwq : IntKind.i64.wrap ((fr : Int) + (j : Int)) = (q : Int) := by
                  rw [← hq, Int.natCast_add]
                  exact IntWalk.i64_in _ (by omega)
                have HNX : Hid (∀ b2, (bb && eqNd (nAt body j) (nAt ns q)) = b2 → (b2 = true ↔ sameF body ns fr (j + 1))) := by
                  refine Lib.hid fun b2 e => ?_
                  rw [← e, Bool.and_eq_true]
                  constructor
                  · rintro ⟨h1, h2⟩ i hi
                    by_cases hij : i = j
                    · rw [hij, hq]; exact h2
                    · exact H5.out.1.1 h1 i (by omega)
                  · intro h1
                    exact ⟨H5.out.1.2 fun i hi => h1 i (by omega), by rw [← hq]; exact h1 j (by omega)⟩
                obtain ⟨⟨ka, va, sa⟩, hna⟩ : ∃ x, nAt body j = x := ⟨_, rfl⟩
                obtain ⟨⟨kb, vb, sb⟩, hnb⟩ : ∃ x, nAt ns q = x := ⟨_, rfl⟩
                rw [hna] at z0 z1 z2 HNX
                rw [hnb] at v0 v1 v2 HNX
                dsimp only at z0 z1 z2 v0 v1 v2
                have HBQ := Lib.hid H5.out.2
                clear hna hnb hNb hNn hgb hlt' hq H5 hlt hjl
                cases bb with
                | false =>
                  have HN2 := Lib.hid (HNX.out false rfl)
                  clear HNX
                  go_wp2_with fail
                  go_quiet (fail)
                  go_wp2
                  go_roundw
                  case rel => exact ⟨j + 1, false, by omega, by go_num, rfl, Lib.hid ⟨HN2.out, Below.drewN' HBQ.out _⟩⟩
                  case measure => simp [intOf]; omega
                | true =>
                  by_cases h1 : ka = kb
                  · subst h1
                    by_cases h2 : va = vb
                    · subst h2
                      by_cases h3 : sa.toList = sb.toList
                      · have HN2 := Lib.hid (HNX.out true (by unfold eqNd; simp [h3]))
                        have b3 : (sa.toList == sb.toList) = true := by simpa using h3
                        clear HNX
                        go_wp2_with fail
                        go_quiet (fail)
                        go_wp2
                        go_roundw
                        case rel => exact ⟨j + 1, true, by omega, by go_num, rfl, Lib.hid ⟨⟨fun _ => HN2.out.1 (by trivial), fun _ => rfl⟩, Below.drewN' HBQ.out _⟩⟩
                        case measure => simp [intOf]; omega
                      · have HN2 := Lib.hid (HNX.out false (by unfold eqNd; simp [h3]))
                        have b3 : (sa.toList == sb.toList) = false := by simpa using h3
                        clear HNX
                        go_wp2_with fail
                        go_quiet (fail)
                        go_wp2
                        go_roundw
                        case rel => exact ⟨j + 1, false, by omega, by go_num, rfl, Lib.hid ⟨HN2.out, Below.drewN' HBQ.out _⟩⟩
                        case measure => simp [intOf]; omega
                    · have HN2 := Lib.hid (HNX.out false (by unfold eqNd; simp [h2]))
                      have b2 : (va == vb) = false := by simpa using h2
                      clear HNX
                      go_wp2_with fail
                      go_quiet (fail)
                      go_wp2
                      go_roundw
                      case rel => exact ⟨j + 1, false, by omega, by go_num, rfl, Lib.hid ⟨HN2.out, Below.drewN' HBQ.out _⟩⟩
                      case measure => simp [intOf]; omega
                  · have HN2 := Lib.hid (HNX.out false (by unfold eqNd; simp [h1]))
                    have b1 : (ka == kb) = false := by simpa using h1
                    clear HNX
                    go_wp2_with fail
                    go_quiet (fail)
                    go_wp2
                    go_roundw
                    case rel => exact ⟨j + 1, false, by omega, by go_num, rfl, Lib.hid ⟨HN2.out, Below.drewN' HBQ.out _⟩⟩
                    case measure => simp [intOf]; omega
              · obtain rfl : j = mb := by omega
                have hO6 := Lib.hid (ownsRow_below H4.out.1 H5.out.2)
                cases bb with
                | false =>
                  have hnx : Hid (FsSt A (F (k + 1)) (.slice a4 (m + 1) c4) wq) := by
                    have hn : F (k + 1) = F k ++ [⟨kd, vl, s2⟩] := HNOT.out fun e => by
                      have := H5.out.1.2 e.2
                      cases this
                    refine Lib.hid ⟨?_, HB5.out⟩
                    rw [hn, List.length_append, List.length_singleton, HM.out]
                    exact hO6.out
                  clear hO6
                  go_wp2
                  go_roundw
                  case rel => exact ⟨k + 1, _, by omega, by go_num, rfl, hnx⟩
                  case measure => simp [intOf]; omega
                | true =>
                  obtain ⟨hle, hn⟩ := HSAME.out hcnd (H5.out.1.1 rfl)
                  obtain ⟨q, hq⟩ : ∃ q, m + 1 = q + j := ⟨m + 1 - j, by omega⟩
                  obtain ⟨g2, c2, hfo, hqc, hc63, -⟩ := row_some hO6.out (by omega)
                  injection hfo with e1 e2 e3
                  have e5 := e3.symm
                  subst e1 e5
                  have hO7 := Lib.hid (row_take hO6.out (m := q) (by omega))
                  rw [ofN_take] at hO7
                  have hqs : IntKind.i64.wrap ((m : Int) + 1 - (j : Int)) = (q : Int) := by
                    rw [show (m : Int) + 1 - (j : Int) = (q : Int) by omega]
                    exact IntWalk.i64_in _ (by omega)
                  have hq0 : 0 ≤ (q : Int) := by omega
                  have hqc2 : (q : Int) ≤ (c2 : Int) := by omega
                  have hqm : (q : Int) ≤ (m : Int) + 1 := by omega
                  have hm5 := Lib.hid (show q + 1 ≤ maxLen by unfold maxLen; omega)
                  have hm6 := Lib.hid (show (q + 1) * 32 ≤ 140737488355328 by omega)
                  have hZ6 := Lib.hid (show A.heap.size ≤ wq.heap.size from HB5.out.size)
                  rw [show m + 1 - j = q by omega] at hn
                  have HNX : Hid (∀ v' w6, w6.ownsRow A.heap.size 71 3 v' (q + 1) (ofN ((F k ++ [(⟨kd, vl, s2⟩ : NodeL)]).take q) ++ #[Value.int .i64 17, .int .i64 0, .string s].toList) → wq.grownBy w6 (Value.slice (some ⟨g2, 0, none⟩) q c2).ownBlock → FsSt A (F (k + 1)) v' w6) := by
                    refine Lib.hid fun v' w6 h1 h2 => ⟨?_, Below.grownRow HB5.out hO7.out h2 hZ6.out⟩
                    have hl : (F (k + 1)).length = q + 1 := by
                      rw [hn, List.length_append, List.length_singleton, List.length_take, List.length_append, List.length_singleton, HM.out]
                      omega
                    rw [hl, hn, ofN_append]
                    exact h1
                  clear hO6 hn hle hqc hc63
                  go_wp2_with (first | (refine wpList_append_many (by rfl) _ _ 33 (by rfl) A.heap.size 71 (.agg #[.int .i64 0, .int .i64 0, .string ByteArray.empty]) 3 32 Try.underlying33 infoNode rfl (by decide) _ _ _ #[.int .i64 17, .int .i64 0, .string s] rfl hO7.out (by rfl) (by first | rfl | (simp; rfl)) (by intro u hu; simp at hu; rcases hu with rfl | rfl | rfl <;> rfl) hm5.out hm6.out hZ6.out ?_; intro v6 w6 hown6 hg6; have hnx := Lib.hid (HNX.out _ _ hown6 hg6); clear hown6 hg6))
                  go_roundw
                  case rel => exact ⟨k + 1, _, by omega, by go_num, rfl, hnx⟩
                  case measure => simp [intOf]; omega
          · have bcnd : ((fr : Int) != (k : Int) + 1 - (mb : Int)) = true := by
              rw [bne_iff_ne]; omega
            have hn := HNOT.out fun e => hcnd e.1
            have HNX : Hid (∀ v' w4, w4.ownsRow A.heap.size 71 3 v' (m + 1) (ofN (F k ++ [⟨kd, vl, s2⟩])) ∧ Below A.heap.size A w4 → FsSt A (F (k + 1)) v' w4) := by
              refine Lib.hid fun v' w4 h1 => ⟨?_, h1.2⟩
              rw [hn, List.length_append, List.length_singleton, HM.out]
              exact h1.1
            clear hn hcnd
            go_wp2_with (first | (refine wpList_append_many (by rfl) _ _ 33 (by rfl) A.heap.size 71 (.agg #[.int .i64 0, .int .i64 0, .string ByteArray.empty]) 3 32 Try.underlying33 infoNode rfl (by decide) _ _ _ #[.int .i64 kd, .int .i64 vl, .string s2] rfl hO5x.out (by rfl) (by first | rfl | (simp; rfl)) (by intro u hu; simp at hu; rcases hu with rfl | rfl | rfl <;> rfl) hm3.out hm4.out hZx.out ?_; intro v4 w4 hown4 hg4; rw [← HW1.out] at hg4; have H4 := Lib.hid (HAPP.out _ _ hown4 hg4); have hnx := Lib.hid (HNX.out _ _ H4.out); obtain ⟨t0, t1, t2⟩ := HXA.out _ H4.out.2; have t3 := t2 k hlt; rw [HFRE.out] at t3; clear t2 hown4 hg4))
            go_roundw
            case rel => exact ⟨k + 1, _, by omega, by go_num, rfl, hnx⟩
            case measure => simp [intOf]; omega
        · obtain rfl : k = ln := by omega
          obtain ⟨R, hR⟩ : ∃ R, F k = R := ⟨_, rfl⟩
          have hrow := H.out.1
          have hrl := HRL.out
          rw [hR] at hrow hrl
          have HBZ := Lib.hid (below_step HB0A.out H.out.2)
          obtain ⟨-, z0, g0⟩ := HX.out _ HBZ.out
          obtain ⟨m, hmm⟩ : ∃ m, R.length = m := ⟨_, rfl⟩
          rw [hmm] at hrow hrl
          obtain ⟨ar, cr, rfl⟩ := ownsRow_form' hrow
          have HO := Lib.hid (ownsN_row hrow hmm (by unfold maxLen; omega))
          have hfin : Hid (TermOut w (some R).isSome ((some R).getD []) (.returned (.tuple #[.agg #[.slice ar m cr], .bool true])) (wr.setCell ⟨w.heap.size + 1, 0, none⟩ (.slice ar m cr))) := by
            have hc3 := Chg.set1 wr ⟨w.heap.size + 1, 0, none⟩ (.slice ar m cr)
            have h7 := below_step HB.out HBZ.out
            have h8 := HS.out
            have h9 := HB0A.out.size
            exact Lib.hid ⟨_, rfl, (HO.out.chg hc3 fun g hg e => by simp only at e; omega).mono fun g hg => by omega, h7.trans (hc3.below h7.size fun g hg => by simp only at hg; omega)⟩
          rw [← hR] at hfin
          clear hrow HO hmm hR hrl
          go_wp2
          refine bodyPost_ret (v := .tuple #[.agg #[.slice ar m cr], .bool true]) (by simp [results, Try.results18, go_sem, z0]) rfl ?_
          exact hfin.out

end Ints
end Go.Proofs.Ytoegbphkheohoaa
