/- Printing: the program's text of a tree. -/
import Derived.Test.YtlfcmlbffpmhkaaDoorPrB
namespace Go.Proofs.YtlfcmlbffpmhkaaDoor
open Go.RowKit
namespace Ints

/-- An operation that was passed over yields no truth. -/
theorem yl_undef : yielded.match_1 (motive := fun _ => Option Bool) (some undef) (fun b => some b) (fun _ => none) = none := rfl

def PrOut (w : World) (s : ByteArray) (e : Ending) (w' : World) : Prop := e = .returned (.string s) ∧ Below w.heap.size w w'

set_option maxRecDepth 100000 in
set_option maxHeartbeats 4000000 in
theorem printed_any (ds : List DefL) (hl : libB ds = true) (full : Bool) : ∀ (t : TreeL), goodT ds t → (nodesT t).length ≤ 400 → ∀ w, Calls Tryd.prog 29 #[valT t, .bool full] w (PrOut w (prT full t)) := by
  intro t
  induction t with
  | leaf n =>
    intro hg _ w
    have hlf := Lib.hid (fun W => leafText_any n (leafR_of hg.1) W)
    have h1 := as_leaf_seq
    have h2 := as_leaf_par
    have h3 := as_leaf_leaf
    show Calls Tryd.prog 29 #[.iface 89 (.agg #[.int .i64 n.kind, .int .i64 n.value, .string n.name]), .bool full] w (PrOut w (leafS n))
    obtain ⟨s, hs⟩ : ∃ x, leafS n = x := ⟨_, rfl⟩
    rw [hs] at hlf ⊢
    obtain ⟨k, v, nm⟩ := n
    dsimp only at hlf ⊢
    have HB := Lib.hid (below_alloc (o := .cells #[.int .i64 k, .int .i64 v, .string nm] 89) (Below.refl w.heap.size w))
    clear hs hg
    go_enter Tryd.func29, Tryd.ntmps29
    go_wp2_with fail
    refine (hlf.out _).mono ?_
    rintro e w1 ⟨rfl, hb⟩
    have HB1 := Lib.hid (below_step HB.out hb)
    clear hb
    go_wp2
    go_ret
    exact ⟨rfl, HB1.out⟩
  | seq a b iha ihb =>
    intro hg hn w
    have hlen : (nodesT (.seq a b)).length = (nodesT a).length + (nodesT b).length + 1 := by simp [nodesT]; omega
    rw [hlen] at hn
    have hpa := Lib.hid (fun W => iha hg.1 (by omega) W)
    have hpb := Lib.hid (fun W => ihb hg.2 (by omega) W)
    have hsa := Lib.hid (fun W => isSeq_any a W)
    have hsb := Lib.hid (fun W => isSeq_any b W)
    have hqa := Lib.hid (fun W => isPar_any a W)
    have hqb := Lib.hid (fun W => isPar_any b W)
    have ha1 := prT_size hl full a hg.1
    have hb1 := prT_size hl full b hg.2
    have hka := Lib.hid (fun c W => brk_any (prT full a) c (by omega) W)
    have hkb := Lib.hid (fun c W => brk_any (prT full b) c (by omega) W)
    have ha2 := brkS_size (prT full a) (full && (isSeqT a || isParT a))
    have hb2 := brkS_size (prT full b) (isSeqT b || full && isParT b)
    have hR : prT full (.seq a b) = brkS (prT full a) (full && (isSeqT a || isParT a)) ++ ⟨#[32, 59, 32]⟩ ++ brkS (prT full b) (isSeqT b || full && isParT b) := rfl
    show Calls Tryd.prog 29 #[.iface 84 (.agg #[valT a, valT b]), .bool full] w _
    obtain ⟨tya, ua, hva⟩ := valT_form a
    obtain ⟨tyb, ub, hvb⟩ := valT_form b
    obtain ⟨pa, hpae⟩ : ∃ x, prT full a = x := ⟨_, rfl⟩
    obtain ⟨pb, hpbe⟩ : ∃ x, prT full b = x := ⟨_, rfl⟩
    obtain ⟨sa, hsae⟩ : ∃ x, isSeqT a = x := ⟨_, rfl⟩
    obtain ⟨sb, hsbe⟩ : ∃ x, isSeqT b = x := ⟨_, rfl⟩
    obtain ⟨qa, hqae⟩ : ∃ x, isParT a = x := ⟨_, rfl⟩
    obtain ⟨qb, hqbe⟩ : ∃ x, isParT b = x := ⟨_, rfl⟩
    rw [hR]
    rw [hpae] at hpa hka ha1 ha2 ⊢
    rw [hpbe] at hpb hkb hb1 hb2 ⊢
    rw [hsae] at hsa ha2 ⊢
    rw [hsbe] at hsb hb2 ⊢
    rw [hqae] at hqa ha2 ⊢
    rw [hqbe] at hqb hb2 ⊢
    rw [hva] at hpa hsa hqa ⊢
    rw [hvb] at hpb hsb hqb ⊢
    have h1 := as_seq_seq
    obtain ⟨w0, hw0⟩ : ∃ W, W = w.alloc (.cells #[.iface tya ua, .iface tyb ub] 84) := ⟨_, rfl⟩
    have HB0 := Lib.hid (show Below w.heap.size w w0 by rw [hw0]; exact below_alloc (Below.refl _ _))
    have c0 : w0.cell? ⟨w.heap.size, 0, none⟩ = some (.iface tya ua) := by rw [hw0]; simp [go_sem]
    have c1 : w0.cell? ⟨w.heap.size, 1, none⟩ = some (.iface tyb ub) := by rw [hw0]; simp [go_sem]
    have HX := Lib.hid (show ∀ W, Below w0.heap.size w0 W → W.cell? ⟨w.heap.size, 0, none⟩ = some (.iface tya ua) ∧ W.cell? ⟨w.heap.size, 1, none⟩ = some (.iface tyb ub) from fun W hW => ⟨cell_old hW c0, cell_old hW c1⟩)
    have HW := Lib.hid hw0
    have hsz : pa.size + pb.size ≤ 4800 := by omega
    obtain ⟨A, hA⟩ : ∃ x, brkS pa (full && (sa || qa)) = x := ⟨_, rfl⟩
    obtain ⟨B, hB⟩ : ∃ x, brkS pb (sb || full && qb) = x := ⟨_, rfl⟩
    rw [hA, hB]
    rw [hA] at ha2
    rw [hB] at hb2
    have HA := Lib.hid hA
    have HBB := Lib.hid hB
    have hAs : A.size ≤ 5000 := by omega
    have hBs : B.size ≤ 5000 := by omega
    rw [hw0] at c0 c1
    clear ha1 hb1 ha2 hb2 hR hlen hn hpae hpbe hsae hsbe hqae hqbe hva hvb hw0 hg iha ihb hA hB
    go_enter Tryd.func29, Tryd.ntmps29
    go_upto_region 4 with fail
    rw [← HW.out]
    go_cut [6] from 16 to 32 (fun x W => x = .string A ∧ Hid (Below w0.heap.size w0 W))
    case first =>
      have hk0 := Lib.hid (show ∀ W, Calls Tryd.prog 45 #[.string pa, .bool (full && (sa || qa))] W fun e w' => e = .returned (.string A) ∧ W = w' from fun W => HA.out ▸ hka.out _ W)
      clear hka hkb
      have c0' := (HX.out w0 (Below.refl _ _)).1
      cases full with
      | false =>
        have hk := Lib.hid (show ∀ W, Calls Tryd.prog 45 #[.string pa, .bool false] W fun e w' => e = .returned (.string A) ∧ W = w' from hk0.out)
        go_wp2_with fail
        refine (hpa.out _).mono ?_
        rintro e w1 ⟨rfl, hb1⟩
        go_wp2_with (go_at_call 45; ((with_reducible refine (hk.out _).mono ?_); rintro e w' ⟨rfl, rfl⟩))
        go_meet
        exact ⟨rfl, Lib.hid hb1⟩
      | true =>
        go_wp2_with fail
        refine (hpa.out _).mono ?_
        rintro e w1 ⟨rfl, hb1⟩
        have z1 := (HX.out w1 hb1).1
        cases sa with
        | true =>
          have hk := Lib.hid (show ∀ W, Calls Tryd.prog 45 #[.string pa, .bool true] W fun e w' => e = .returned (.string A) ∧ W = w' from hk0.out)
          go_wp2_with fail
          refine (hsa.out _).mono ?_
          rintro e w2 ⟨rfl, hb2⟩
          have hb12 := below_step hb1 hb2
          go_wp2_with (go_at_call 45; ((with_reducible refine (hk.out _).mono ?_); rintro e w' ⟨rfl, rfl⟩))
          go_meet
          exact ⟨rfl, Lib.hid hb12⟩
        | false =>
          have hk := Lib.hid (show ∀ W, Calls Tryd.prog 45 #[.string pa, .bool qa] W fun e w' => e = .returned (.string A) ∧ W = w' from hk0.out)
          go_wp2_with fail
          refine (hsa.out _).mono ?_
          rintro e w2 ⟨rfl, hb2⟩
          have hb12 := below_step hb1 hb2
          have z2 := (HX.out w2 hb12).1
          go_wp2_with fail
          refine (hqa.out _).mono ?_
          rintro e w3 ⟨rfl, hb3⟩
          have hb13 := below_step hb12 hb3
          go_wp2_with (go_at_call 45; ((with_reducible refine (hk.out _).mono ?_); rintro e w' ⟨rfl, rfl⟩))
          go_meet
          exact ⟨rfl, Lib.hid hb13⟩
    case rest =>
    obtain ⟨rfl, HJ⟩ := hcut
    obtain ⟨wd, hwd⟩ : ∃ W, W = wc := ⟨_, rfl⟩
    rw [← hwd] at HJ ⊢
    clear hwd wc
    have HBJ := HJ.out
    go_upto_region 5 with fail
    go_cut [7] from 32 to 48 (fun x W => x = .string B ∧ Hid (Below w0.heap.size w0 W))
    case first =>
      have zd := (HX.out wd HBJ).2
      have hk0 := Lib.hid (show ∀ W, Calls Tryd.prog 45 #[.string pb, .bool (sb || full && qb)] W fun e w' => e = .returned (.string B) ∧ W = w' from fun W => HBB.out ▸ hkb.out _ W)
      clear hka hkb hpa hsa hqa
      cases sb with
      | true =>
        have hyl := yl_undef
        have hk := Lib.hid (show ∀ W, Calls Tryd.prog 45 #[.string pb, .bool true] W fun e w' => e = .returned (.string B) ∧ W = w' from hk0.out)
        (first | go_region_law (first
          | (go_simp; (with_reducible refine (hpb.out _).mono ?_); rintro e w_1 ⟨rfl, hb_1⟩; have bb_1 := below_step HBJ.drew hb_1; have z_1 := (HX.out w_1 bb_1).2)
          | (go_simp; (with_reducible refine (hsb.out _).mono ?_); rintro e w_2 ⟨rfl, hb_2⟩; have bb_2 := below_step bb_1 hb_2; have z_2 := (HX.out w_2 bb_2).2)
          | (go_simp; (with_reducible refine (hqb.out _).mono ?_); rintro e w_3 ⟨rfl, hb_3⟩; have bb_3 := below_step bb_2 hb_3)
          | (go_simp; (with_reducible refine (hk.out _).mono ?_); rintro e w_4 ⟨rfl, rfl⟩)) | fail)
        all_goals go_wp2
        all_goals go_meet
        all_goals exact ⟨rfl, Lib.hid (by first | exact bb_3 | exact bb_2)⟩
      | false =>
       cases full with
       | true =>
        have hk := Lib.hid (show ∀ W, Calls Tryd.prog 45 #[.string pb, .bool qb] W fun e w' => e = .returned (.string B) ∧ W = w' from hk0.out)
        (first | go_region_law (first
          | (go_simp; (with_reducible refine (hpb.out _).mono ?_); rintro e w_1 ⟨rfl, hb_1⟩; have bb_1 := below_step HBJ.drew hb_1; have z_1 := (HX.out w_1 bb_1).2)
          | (go_simp; (with_reducible refine (hsb.out _).mono ?_); rintro e w_2 ⟨rfl, hb_2⟩; have bb_2 := below_step bb_1 hb_2; have z_2 := (HX.out w_2 bb_2).2)
          | (go_simp; (with_reducible refine (hqb.out _).mono ?_); rintro e w_3 ⟨rfl, hb_3⟩; have bb_3 := below_step bb_2 hb_3)
          | (go_simp; (with_reducible refine (hk.out _).mono ?_); rintro e w_4 ⟨rfl, rfl⟩)) | fail)
        all_goals go_wp2
        all_goals go_meet
        all_goals exact ⟨rfl, Lib.hid (by first | exact bb_3 | exact bb_2)⟩
       | false =>
        have hk := Lib.hid (show ∀ W, Calls Tryd.prog 45 #[.string pb, .bool false] W fun e w' => e = .returned (.string B) ∧ W = w' from hk0.out)
        (first | go_region_law (first
          | (go_simp; (with_reducible refine (hpb.out _).mono ?_); rintro e w_1 ⟨rfl, hb_1⟩; have bb_1 := below_step HBJ.drew hb_1; have z_1 := (HX.out w_1 bb_1).2)
          | (go_simp; (with_reducible refine (hsb.out _).mono ?_); rintro e w_2 ⟨rfl, hb_2⟩; have bb_2 := below_step bb_1 hb_2; have z_2 := (HX.out w_2 bb_2).2)
          | (go_simp; (with_reducible refine (hqb.out _).mono ?_); rintro e w_3 ⟨rfl, hb_3⟩; have bb_3 := below_step bb_2 hb_3)
          | (go_simp; (with_reducible refine (hk.out _).mono ?_); rintro e w_4 ⟨rfl, rfl⟩)) | fail)
        all_goals go_wp2
        all_goals go_meet
        all_goals exact ⟨rfl, Lib.hid (by first | exact bb_3 | exact bb_2)⟩
    case rest =>
    obtain ⟨rfl, HJ2⟩ := hcut
    obtain ⟨we, hwe⟩ : ∃ W, W = wc := ⟨_, rfl⟩
    rw [← hwe] at HJ2 ⊢
    clear hwe wc
    have HF := Lib.hid (below_step HB0.out HJ2.out)
    clear HBJ
    go_wp2
    go_ret
    exact ⟨rfl, HF.out⟩
  | par a b iha ihb =>
    intro hg hn w
    have hlen : (nodesT (.par a b)).length = (nodesT a).length + (nodesT b).length + 1 := by simp [nodesT]; omega
    rw [hlen] at hn
    have hpa := Lib.hid (fun W => iha hg.1 (by omega) W)
    have hpb := Lib.hid (fun W => ihb hg.2 (by omega) W)
    have hsa := Lib.hid (fun W => isSeq_any a W)
    have hsb := Lib.hid (fun W => isSeq_any b W)
    have hqa := Lib.hid (fun W => isPar_any a W)
    have hqb := Lib.hid (fun W => isPar_any b W)
    have ha1 := prT_size hl full a hg.1
    have hb1 := prT_size hl full b hg.2
    have hka := Lib.hid (fun c W => brk_any (prT full a) c (by omega) W)
    have hkb := Lib.hid (fun c W => brk_any (prT full b) c (by omega) W)
    have ha2 := brkS_size (prT full a) (isSeqT a || full && isParT a)
    have hb2 := brkS_size (prT full b) (isSeqT b || isParT b)
    have hR : prT full (.par a b) = brkS (prT full a) (isSeqT a || full && isParT a) ++ ⟨#[32, 42, 32]⟩ ++ brkS (prT full b) (isSeqT b || isParT b) := rfl
    show Calls Tryd.prog 29 #[.iface 87 (.agg #[valT a, valT b]), .bool full] w _
    obtain ⟨tya, ua, hva⟩ := valT_form a
    obtain ⟨tyb, ub, hvb⟩ := valT_form b
    obtain ⟨pa, hpae⟩ : ∃ x, prT full a = x := ⟨_, rfl⟩
    obtain ⟨pb, hpbe⟩ : ∃ x, prT full b = x := ⟨_, rfl⟩
    obtain ⟨sa, hsae⟩ : ∃ x, isSeqT a = x := ⟨_, rfl⟩
    obtain ⟨sb, hsbe⟩ : ∃ x, isSeqT b = x := ⟨_, rfl⟩
    obtain ⟨qa, hqae⟩ : ∃ x, isParT a = x := ⟨_, rfl⟩
    obtain ⟨qb, hqbe⟩ : ∃ x, isParT b = x := ⟨_, rfl⟩
    rw [hR]
    rw [hpae] at hpa hka ha1 ha2 ⊢
    rw [hpbe] at hpb hkb hb1 hb2 ⊢
    rw [hsae] at hsa ha2 ⊢
    rw [hsbe] at hsb hb2 ⊢
    rw [hqae] at hqa ha2 ⊢
    rw [hqbe] at hqb hb2 ⊢
    rw [hva] at hpa hsa hqa ⊢
    rw [hvb] at hpb hsb hqb ⊢
    have h1 := as_par_seq
    have h2 := as_par_par
    obtain ⟨w0, hw0⟩ : ∃ W, W = w.alloc (.cells #[.iface tya ua, .iface tyb ub] 87) := ⟨_, rfl⟩
    have HB0 := Lib.hid (show Below w.heap.size w w0 by rw [hw0]; exact below_alloc (Below.refl _ _))
    have c0 : w0.cell? ⟨w.heap.size, 0, none⟩ = some (.iface tya ua) := by rw [hw0]; simp [go_sem]
    have c1 : w0.cell? ⟨w.heap.size, 1, none⟩ = some (.iface tyb ub) := by rw [hw0]; simp [go_sem]
    have HX := Lib.hid (show ∀ W, Below w0.heap.size w0 W → W.cell? ⟨w.heap.size, 0, none⟩ = some (.iface tya ua) ∧ W.cell? ⟨w.heap.size, 1, none⟩ = some (.iface tyb ub) from fun W hW => ⟨cell_old hW c0, cell_old hW c1⟩)
    have HW := Lib.hid hw0
    have hsz : pa.size + pb.size ≤ 4800 := by omega
    obtain ⟨A, hA⟩ : ∃ x, brkS pa (sa || full && qa) = x := ⟨_, rfl⟩
    obtain ⟨B, hB⟩ : ∃ x, brkS pb (sb || qb) = x := ⟨_, rfl⟩
    rw [hA, hB]
    rw [hA] at ha2
    rw [hB] at hb2
    have HA := Lib.hid hA
    have HBB := Lib.hid hB
    have hAs : A.size ≤ 5000 := by omega
    have hBs : B.size ≤ 5000 := by omega
    rw [hw0] at c0 c1
    clear ha1 hb1 ha2 hb2 hR hlen hn hpae hpbe hsae hsbe hqae hqbe hva hvb hw0 hg iha ihb hA hB
    go_enter Tryd.func29, Tryd.ntmps29
    go_upto_region 9 with fail
    rw [← HW.out]
    go_cut [9] from 55 to 71 (fun x W => x = .string A ∧ Hid (Below w0.heap.size w0 W))
    case first =>
      have hyl := yl_undef
      have zd := (HX.out w0 (Below.refl _ _)).1
      have HBR := Below.refl w0.heap.size w0
      have hk0 := Lib.hid (show ∀ W, Calls Tryd.prog 45 #[.string pa, .bool (sa || full && qa)] W fun e w' => e = .returned (.string A) ∧ W = w' from fun W => HA.out ▸ hka.out _ W)
      clear hka hkb hpb hsb hqb
      cases sa with
      | true =>
        have hk := Lib.hid (show ∀ W, Calls Tryd.prog 45 #[.string pa, .bool true] W fun e w' => e = .returned (.string A) ∧ W = w' from hk0.out)
        (first | go_region_law (first
          | (go_simp; (with_reducible refine (hpa.out _).mono ?_); rintro e w_1 ⟨rfl, hb_1⟩; have bb_1 := below_step HBR.drew hb_1; have z_1 := (HX.out w_1 bb_1).1)
          | (go_simp; (with_reducible refine (hsa.out _).mono ?_); rintro e w_2 ⟨rfl, hb_2⟩; have bb_2 := below_step bb_1 hb_2; have z_2 := (HX.out w_2 bb_2).1)
          | (go_simp; (with_reducible refine (hqa.out _).mono ?_); rintro e w_3 ⟨rfl, hb_3⟩; have bb_3 := below_step bb_2 hb_3)
          | (go_simp; (with_reducible refine (hk.out _).mono ?_); rintro e w_4 ⟨rfl, rfl⟩)) | fail)
        all_goals go_wp2
        all_goals go_meet
        all_goals exact ⟨rfl, Lib.hid (by first | exact bb_3 | exact bb_2)⟩
      | false =>
       cases full with
       | true =>
        have hk := Lib.hid (show ∀ W, Calls Tryd.prog 45 #[.string pa, .bool qa] W fun e w' => e = .returned (.string A) ∧ W = w' from hk0.out)
        (first | go_region_law (first
          | (go_simp; (with_reducible refine (hpa.out _).mono ?_); rintro e w_1 ⟨rfl, hb_1⟩; have bb_1 := below_step HBR.drew hb_1; have z_1 := (HX.out w_1 bb_1).1)
          | (go_simp; (with_reducible refine (hsa.out _).mono ?_); rintro e w_2 ⟨rfl, hb_2⟩; have bb_2 := below_step bb_1 hb_2; have z_2 := (HX.out w_2 bb_2).1)
          | (go_simp; (with_reducible refine (hqa.out _).mono ?_); rintro e w_3 ⟨rfl, hb_3⟩; have bb_3 := below_step bb_2 hb_3)
          | (go_simp; (with_reducible refine (hk.out _).mono ?_); rintro e w_4 ⟨rfl, rfl⟩)) | fail)
        all_goals go_wp2
        all_goals go_meet
        all_goals exact ⟨rfl, Lib.hid (by first | exact bb_3 | exact bb_2)⟩
       | false =>
        have hk := Lib.hid (show ∀ W, Calls Tryd.prog 45 #[.string pa, .bool false] W fun e w' => e = .returned (.string A) ∧ W = w' from hk0.out)
        (first | go_region_law (first
          | (go_simp; (with_reducible refine (hpa.out _).mono ?_); rintro e w_1 ⟨rfl, hb_1⟩; have bb_1 := below_step HBR.drew hb_1; have z_1 := (HX.out w_1 bb_1).1)
          | (go_simp; (with_reducible refine (hsa.out _).mono ?_); rintro e w_2 ⟨rfl, hb_2⟩; have bb_2 := below_step bb_1 hb_2; have z_2 := (HX.out w_2 bb_2).1)
          | (go_simp; (with_reducible refine (hqa.out _).mono ?_); rintro e w_3 ⟨rfl, hb_3⟩; have bb_3 := below_step bb_2 hb_3)
          | (go_simp; (with_reducible refine (hk.out _).mono ?_); rintro e w_4 ⟨rfl, rfl⟩)) | fail)
        all_goals go_wp2
        all_goals go_meet
        all_goals exact ⟨rfl, Lib.hid (by first | exact bb_3 | exact bb_2)⟩
    case rest =>
    obtain ⟨rfl, HJ⟩ := hcut
    obtain ⟨wd, hwd⟩ : ∃ W, W = wc := ⟨_, rfl⟩
    rw [← hwd] at HJ ⊢
    clear hwd wc
    have HBJ := HJ.out
    go_upto_region 10 with fail
    go_cut [10] from 71 to 84 (fun x W => x = .string B ∧ Hid (Below w0.heap.size w0 W))
    case first =>
      have hyl := yl_undef
      have zd := (HX.out wd HBJ).2
      have hk0 := Lib.hid (show ∀ W, Calls Tryd.prog 45 #[.string pb, .bool (sb || qb)] W fun e w' => e = .returned (.string B) ∧ W = w' from fun W => HBB.out ▸ hkb.out _ W)
      clear hka hkb hpa hsa hqa
      cases sb with
      | true =>
        have hk := Lib.hid (show ∀ W, Calls Tryd.prog 45 #[.string pb, .bool true] W fun e w' => e = .returned (.string B) ∧ W = w' from hk0.out)
        (first | go_region_law (first
          | (go_simp; (with_reducible refine (hpb.out _).mono ?_); rintro e w_1 ⟨rfl, hb_1⟩; have bb_1 := below_step HBJ.drew hb_1; have z_1 := (HX.out w_1 bb_1).2)
          | (go_simp; (with_reducible refine (hsb.out _).mono ?_); rintro e w_2 ⟨rfl, hb_2⟩; have bb_2 := below_step bb_1 hb_2; have z_2 := (HX.out w_2 bb_2).2)
          | (go_simp; (with_reducible refine (hqb.out _).mono ?_); rintro e w_3 ⟨rfl, hb_3⟩; have bb_3 := below_step bb_2 hb_3)
          | (go_simp; (with_reducible refine (hk.out _).mono ?_); rintro e w_4 ⟨rfl, rfl⟩)) | fail)
        all_goals go_wp2
        all_goals go_meet
        all_goals exact ⟨rfl, Lib.hid (by first | exact bb_3 | exact bb_2)⟩
      | false =>
        have hk := Lib.hid (show ∀ W, Calls Tryd.prog 45 #[.string pb, .bool qb] W fun e w' => e = .returned (.string B) ∧ W = w' from hk0.out)
        (first | go_region_law (first
          | (go_simp; (with_reducible refine (hpb.out _).mono ?_); rintro e w_1 ⟨rfl, hb_1⟩; have bb_1 := below_step HBJ.drew hb_1; have z_1 := (HX.out w_1 bb_1).2)
          | (go_simp; (with_reducible refine (hsb.out _).mono ?_); rintro e w_2 ⟨rfl, hb_2⟩; have bb_2 := below_step bb_1 hb_2; have z_2 := (HX.out w_2 bb_2).2)
          | (go_simp; (with_reducible refine (hqb.out _).mono ?_); rintro e w_3 ⟨rfl, hb_3⟩; have bb_3 := below_step bb_2 hb_3)
          | (go_simp; (with_reducible refine (hk.out _).mono ?_); rintro e w_4 ⟨rfl, rfl⟩)) | fail)
        all_goals go_wp2
        all_goals go_meet
        all_goals exact ⟨rfl, Lib.hid (by first | exact bb_3 | exact bb_2)⟩
    case rest =>
    obtain ⟨rfl, HJ2⟩ := hcut
    obtain ⟨we, hwe⟩ : ∃ W, W = wc := ⟨_, rfl⟩
    rw [← hwe] at HJ2 ⊢
    clear hwe wc
    have HF := Lib.hid (below_step HB0.out HJ2.out)
    clear HBJ
    go_wp2
    go_ret
    exact ⟨rfl, HF.out⟩


end Ints
end Go.Proofs.YtlfcmlbffpmhkaaDoor
