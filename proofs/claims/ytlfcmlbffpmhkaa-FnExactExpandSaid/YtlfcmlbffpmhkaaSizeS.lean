/- How large a term is with its names spelled out: the reference. -/
import Derived.Test.YtlfcmlbffpmhkaaSizeP
import Derived.Test.YtlfcmlbffpmhkaaGoodS
import Derived.Test.YtlfcmlbffpmhkaaTypeInF
namespace Go.Proofs.Ytlfcmlbffpmhkaa
open Go.RowKit
namespace Ints
open Fld (inR)

set_option maxHeartbeats 1000000 in
theorem l1Least_any (a b : Int) (w : World) : Calls Try.prog 101 #[.int .i64 a, .int .i64 b] w fun e w' => e = .returned (.int .i64 (if a < b then a else b)) ∧ w = w' := by
  by_cases h : a < b
  · have d : decide (a < b) = true := by simpa using h
    rw [if_pos h]
    clear h
    go_enter Try.func101, Try.ntmps101
    go_wp2
    go_ret
    exact ⟨rfl, rfl⟩
  · have d : decide (a < b) = false := by simpa using h
    rw [if_neg h]
    clear h
    go_enter Try.func101, Try.ntmps101
    go_wp2
    go_ret
    exact ⟨rfl, rfl⟩

/-- Every name in the term is a definition whose size the list has. -/
def namedIn (ds : List DefL) (m : Nat) (ns : List NodeL) : Prop := ∀ k, k < ns.length → (nAt ns k).kind = 17 → ∃ i, findD ds (nAt ns k).name = some i ∧ i < m

set_option maxRecDepth 100000 in
set_option maxHeartbeats 4000000 in
theorem lbSize_any (vd vl vn : Value) (ds : List DefL) (l : List Int) (ns : List NodeL) (hl : rngS l) (hnm : namedIn ds l.length ns) (w : World) (hd : ReadsD w vd ds) (hli : Reads w 1 vl l.length (ofL l)) (h : ReadsN w vn ns) :
    Calls Try.prog 84 #[vd, vl, .agg #[vn]] w fun e w' => e = .returned (.int .i64 (sizeN (atD ds l) ns)) ∧ Below w.heap.size w w' := by
  obtain ⟨w0, hw0⟩ : ∃ W, W = w.alloc (.cells #[vn] 36) := ⟨_, rfl⟩
  have hB := Lib.hid (show Below w.heap.size w w0 by rw [hw0]; exact below_alloc (Below.refl _ _))
  have HFD := Lib.hid (fun s W (hW : Below w.heap.size w W) => lbFind_any vd ds s W (hd.below hW))
  obtain ⟨a, cap, rfl, hm, hc⟩ := open_readsN h
  obtain ⟨ad, capd, rfl⟩ := hd.form
  obtain ⟨-, al, capl, rfl, hml, hcl⟩ := open_reads hli
  obtain ⟨n, hn⟩ : ∃ n, ns.length = n := ⟨_, rfl⟩
  obtain ⟨m, hmm⟩ : ∃ n, l.length = n := ⟨_, rfl⟩
  have HC := Lib.hid hc
  have HCL := Lib.hid hcl
  have HNM := Lib.hid hnm
  have HN := Lib.hid hn
  have HM := Lib.hid hmm
  have HW := Lib.hid hw0
  have HAT := Lib.hid (fun s => at_rng hl ((findD ds s).getD 0))
  have hleast := Lib.hid (fun a W => l1Least_any a 1000001 W)
  obtain ⟨f, hf⟩ : ∃ f, atD ds l = f := ⟨_, rfl⟩
  have HF := Lib.hid hf
  have HFR : Hid (∀ s, 0 ≤ f s ∧ f s ≤ 1000001) := by
    show ∀ s, _
    intro s
    rw [← hf]
    exact HAT.out s
  rw [hf]
  rw [hn] at hm HW ⊢
  rw [hmm]
  rw [hmm] at hml
  clear h hd hli hc hcl hnm hn hmm hw0 hl hf HAT
  go_enter Try.func84, Try.ntmps84
  go_wp2
  rw [← HW.out]
  go_loopw [14, 7] (fun i s wr => ∃ (k : Nat) (c : Int), k ≤ n ∧ i = .int .i64 k ∧ .int .i64 c = s ∧ Hid (sizeN f (ns.take k) = c ∧ Below w0.heap.size w0 wr)) (fun i _ _ => n + 1 - (intOf i).toNat)
  case atStart => exact ⟨0, 0, by omega, rfl, rfl, Lib.hid ⟨rfl, Below.refl _ _⟩⟩
  case round =>
    obtain ⟨k, c, hk, rfl, rfl, H⟩ := hrel
    by_cases hlt : k < n
    · obtain ⟨gg, off, rfl, hg, hE⟩ := HC.out k (by rw [HN.out]; exact hlt)
      have hbk := Lib.hid (below_step hB.out H.out.2)
      obtain ⟨x0, x1, x2⟩ := hE.below hbk.out
      have hk0 : 0 ≤ (k : Int) := by omega
      have hkn : (k : Int) < (n : Int) := by omega
      have hsucc := sizeN_succ f ns k (by rw [HN.out]; exact hlt)
      rw [H.out.1] at hsucc
      have hcr := sizeN_rng HFR.out (ns.take k)
      rw [H.out.1] at hcr
      have hnk := HNM.out k (by rw [HN.out]; exact hlt)
      obtain ⟨nd, hnd⟩ : ∃ d, nAt ns k = d := ⟨_, rfl⟩
      rw [hnd] at x0 x1 x2 hsucc hnk
      have hur := unit_rng HFR.out nd
      obtain ⟨u, hu⟩ : ∃ u, unitS f nd = u := ⟨_, rfl⟩
      rw [hu] at hsucc hur
      have hadd : Hid ((if c + u < 1000001 then c + u else 1000001) = addS c u) := rfl
      obtain ⟨c2, hc2⟩ : ∃ c2, addS c u = c2 := ⟨_, rfl⟩
      rw [hc2] at hsucc hadd
      have hw1 : IntKind.i64.wrap (c + u) = c + u := IntWalk.i64_in _ (by omega)
      have HS := Lib.hid hsucc
      have hle := Lib.hid (fun W => hleast.out (c + u) W)
      rw [hadd.out] at hle
      have HU := Lib.hid hu
      clear hE hnd hsucc hcr hur hc2 hadd hu
      obtain ⟨kd, vl, s⟩ := nd
      dsimp only at x0 x1 x2 hnk HU
      by_cases h17 : kd = 17
      · subst h17
        obtain ⟨i, hfi, him⟩ := hnk rfl
        rw [HM.out] at him
        have hui : u = l[i]?.getD 0 := by
          rw [← HU.out, ← HF.out]
          unfold unitS atD
          dsimp only
          rw [if_pos rfl, hfi]
          rfl
        obtain ⟨gl, ol, rfl, hgl, hcell⟩ := HCL.out (by rw [HM.out]; omega)
        have zl := hcell i (by rw [HM.out]; exact him)
        rw [← hui] at zl
        have hi0 : 0 ≤ (i : Int) := by omega
        have him' : (i : Int) < (m : Int) := by omega
        have hcall := Lib.hid (fun W hW => HFD.out s W hW)
        rw [hfi] at hcall
        clear hfi hcell hui hnk
        go_wp2_with fail
        refine (hcall.out _ (below_alloc hbk.out)).mono ?_
        rintro e w2 ⟨rfl, hb⟩
        have HB2 := Lib.hid (below_step (below_alloc hbk.out) hb)
        have HB3 := Lib.hid (below_step (below_alloc H.out.2) hb)
        have zl2 := cell_old HB2.out zl
        have hix : idxI (some i) = (i : Int) := rfl
        rw [hix]
        clear hb x0 x1 x2 zl hix
        go_wp2_with (go_at_call 101; ((with_reducible refine (hle.out _).mono ?_); rintro e w' ⟨rfl, rfl⟩))
        go_roundw
        case rel => exact ⟨k + 1, c2, by omega, by go_num, rfl, Lib.hid ⟨HS.out, HB3.out⟩⟩
        case measure => simp [intOf]; omega
      · have b17 : (kd == 17) = false := by simpa using h17
        have hu1 : u = 1 := by
          rw [← HU.out]
          unfold unitS
          rw [if_neg h17]
        subst hu1
        have HB3 := Lib.hid (below_alloc (o := .cells #[.int .i64 kd, .int .i64 vl, .string s] 69) H.out.2)
        clear hnk h17
        go_wp2_with (go_at_call 101; ((with_reducible refine (hle.out _).mono ?_); rintro e w' ⟨rfl, rfl⟩))
        go_roundw
        case rel => exact ⟨k + 1, c2, by omega, by go_num, rfl, Lib.hid ⟨HS.out, HB3.out⟩⟩
        case measure => simp [intOf]; omega
    · obtain rfl : k = n := by omega
      have he := H.out.1
      rw [← HN.out, List.take_length] at he
      have HB2 := Lib.hid (below_step hB.out H.out.2)
      have HE := Lib.hid he
      clear he
      go_wp2
      go_ret
      exact ⟨ret_int HE.out.symm, HB2.out⟩

theorem named_body {ds : List DefL} {k : Nat} (h : defB ds k = true) : namedIn ds k (dAt ds k).body := by
  intro j hj h17
  obtain ⟨i, hi⟩ := typeOf_named (defB_parts h).2.2 j hj h17
  obtain ⟨h1, h2⟩ := find_take hi
  exact ⟨i, h1, h2⟩
theorem named_term {ds : List DefL} {ns : List NodeL} {p : Int × Int} (h : typeOf ds ns = some p) : namedIn ds ds.length ns := by
  intro j hj h17
  obtain ⟨i, hi⟩ := typeOf_named h j hj h17
  exact ⟨i, hi, by unfold findD at hi; rw [List.findIdx?_eq_some_iff_getElem] at hi; exact hi.1⟩

set_option maxRecDepth 100000 in
set_option maxHeartbeats 4000000 in
theorem lbSizes_any (vd : Value) (ds : List DefL) (hg : libB ds = true) (w : World) (hd : ReadsD w vd ds) :
    Calls Try.prog 85 #[vd] w fun e w' => ∃ v, e = .returned v ∧ Reads w' 1 v ds.length (ofL (sizesD ds ds.length)) ∧ Below w.heap.size w w' := by
  obtain ⟨h12, hall, -, -⟩ := libB_all hg
  have HD := Lib.hid hd
  obtain ⟨a, cap, rfl, hm, hc⟩ := open_readsD hd
  obtain ⟨n, hn⟩ : ∃ n, ds.length = n := ⟨_, rfl⟩
  have HC := Lib.hid hc
  have HALL := Lib.hid hall
  have HN := Lib.hid hn
  rw [hn] at hm h12 HD ⊢
  clear hd hc hall hn hg
  go_enter Try.func85, Try.ntmps85
  go_wp2
  go_loopw [3, 8] (fun o i wr => ∃ (k : Nat) (ov : Value), k ≤ n ∧ i = .int .i64 k ∧ ov = o ∧ Hid (wr.ownsRow w.heap.size 3 1 ov k (ofL (sizesD ds k)) ∧ Below w.heap.size w wr)) (fun _ i _ => n + 1 - (intOf i).toNat)
  case atStart => exact ⟨0, _, by omega, rfl, rfl, Lib.hid ⟨World.ownsRow_nil _ _ _ _, Below.refl _ _⟩⟩
  case round =>
    obtain ⟨k, ov, hk, rfl, rfl, H⟩ := hrel
    by_cases hlt : k < n
    · obtain ⟨g, off, a1, c1, rfl, hg, hE⟩ := HC.out k (by rw [HN.out]; exact hlt)
      obtain ⟨x0, x1, x2, x3, hbody⟩ := hE.below H.out.2
      have hk0 : 0 ≤ (k : Int) := by omega
      have hkn : (k : Int) < (n : Int) := by omega
      obtain ⟨ao, co, rfl⟩ := ownsRow_form' H.out.1
      obtain ⟨W1, hW1⟩ : ∃ W, W = wr.alloc (.cells #[.string (dAt ds k).name, .int .i64 (dAt ds k).inp, .int .i64 (dAt ds k).out, .slice a1 (dAt ds k).body.length c1] 56) := ⟨_, rfl⟩
      have hbw : Below wr.heap.size wr W1 := by rw [hW1]; exact below_alloc (Below.refl _ _)
      have hrow := ownsRow_below H.out.1 hbw
      have hrd : Reads W1 1 (.slice ao k co) (sizesD ds k).length (ofL (sizesD ds k)) := by
        rw [sizesD_length]
        exact (owns_of_row hrow (by unfold maxLen; omega)).1.reads
      have HB1 := Lib.hid (below_step H.out.2 hbw)
      have hcall := Lib.hid (lbSize_any _ (.slice ao k co) _ ds (sizesD ds k) (dAt ds k).body (sizesD_rng ds k) (by rw [sizesD_length]; exact named_body (HALL.out k (by rw [HN.out]; exact hlt))) W1 (HD.out.below HB1.out) hrd (hbody.below hbw))
      have hsucc : Hid (sizesD ds (k + 1) = sizesD ds k ++ [sizeN (atD ds (sizesD ds k)) (dAt ds k).body]) := rfl
      obtain ⟨u, hu⟩ : ∃ u, sizeN (atD ds (sizesD ds k)) (dAt ds k).body = u := ⟨_, rfl⟩
      rw [hu] at hcall hsucc
      have HO := Lib.hid hrow
      have HW1 := Lib.hid hW1
      clear hE hbody hbw hrow hrd hu hW1
      go_wp2_with fail
      rw [← HW1.out]
      refine hcall.out.mono ?_
      rintro e w2 ⟨rfl, hb⟩
      have HO2 := Lib.hid (ownsRow_below HO.out hb)
      have HB2 := Lib.hid (below_step HB1.out hb)
      have hm3 := Lib.hid (show k + 1 ≤ maxLen by unfold maxLen; omega)
      have hm4 := Lib.hid (show (k + 1) * 8 ≤ 140737488355328 by omega)
      have hsz := Lib.hid HB2.out.size
      clear hb x0 x1 x2 x3 hcall
      go_wp2_with (at_builtin; go_must (refine wpList_append_one _ rfl _ _ 67 rfl w.heap.size 3 (.int .i64 0) 8 Try.underlying67 infoI rfl _ _ _ (.int .i64 u) HO2.out rfl rfl rfl hm3.out hm4.out hsz.out ?_); intro v' w3 hown3 hg3)
      have hbl3 := Lib.hid (Below.grownRow HB2.out HO2.out hg3 hsz.out)
      have hnew : Hid (w3.ownsRow w.heap.size 3 1 v' (k + 1) (ofL (sizesD ds (k + 1)))) := by
        show World.ownsRow _ _ _ _ _ _ _
        rw [hsucc.out]
        unfold ofL at hown3 ⊢
        rw [List.map_append]
        exact hown3
      clear hown3 hg3
      go_wp2
      go_roundw
      case rel => exact ⟨k + 1, _, by omega, by go_num, rfl, Lib.hid ⟨hnew.out, hbl3.out⟩⟩
      case measure => simp [intOf]; omega
    · obtain rfl : k = n := by omega
      have hfin : Hid (Reads wr 1 ov k (ofL (sizesD ds k)) ∧ Below w.heap.size w wr) := ⟨(owns_of_row H.out.1 (by unfold maxLen; omega)).1.reads, H.out.2⟩
      go_wp2
      go_ret
      exact ⟨_, rfl, hfin.out⟩

theorem scanB_some {ds : List DefL} (hd : bndD ds) (ns : List NodeL) : scanB ds ns = (typeOf ds ns).isSome := by
  rcases scan_type hd ns with ⟨h1, h2⟩ | ⟨tr, p, h1, _, h2, _⟩
  · rw [h1, h2]; rfl
  · rw [h1, h2]; rfl
theorem typI_lib {ds : List DefL} {ns : List NodeL} {p : Int × Int} (h : typI ds ns = some p) : libB ds = true ∧ typeOf ds ns = some p := by
  cases hl : libB ds with
  | false => rw [typI_no hl] at h; cases h
  | true => exact ⟨rfl, by rw [← typI_yes hl]; exact h⟩

set_option maxRecDepth 100000 in
set_option maxHeartbeats 2000000 in
theorem lbTerm_any (vd vn : Value) (ds : List DefL) (ns : List NodeL) (w : World) (hd : ReadsD w vd ds) (h : ReadsN w vn ns) :
    Calls Try.prog 50 #[vd, .agg #[vn]] w fun e w' => e = .returned (.bool (typI ds ns).isSome) ∧ Below w.heap.size w w' := by
  obtain ⟨w0, hw0⟩ : ∃ W, W = w.alloc (.cells #[vn] 36) := ⟨_, rfl⟩
  have hB := Lib.hid (show Below w.heap.size w w0 by rw [hw0]; exact below_alloc (Below.refl _ _))
  have hg := Lib.hid (lbGood_any vd ds w0 (hd.below hB.out))
  have hsc := Lib.hid (fun (hl : libB ds = true) W (hW : Below w.heap.size w W) => lbScan_any vd vn ds ns (libB_all hl).2.2.1 W (hd.below hW) (h.below hW))
  have hx0 := Lib.hid (show w0.cell? ⟨w.heap.size, 0, none⟩ = some vn by rw [hw0]; simp [go_sem])
  have HW := Lib.hid hw0
  obtain ⟨a, cap, rfl⟩ := h.form
  obtain ⟨ad, capd, rfl⟩ := hd.form
  clear h hd hw0
  cases hl : libB ds with
  | false =>
    rw [typI_no hl]
    rw [hl] at hg
    clear hl hsc
    go_enter Try.func50, Try.ntmps50
    go_wp2_with fail
    rw [← HW.out]
    refine hg.out.mono ?_
    rintro e w1 ⟨rfl, hb⟩
    have HB1 := Lib.hid (below_step hB.out hb)
    clear hb
    go_wp2
    go_ret
    exact ⟨rfl, HB1.out⟩
  | true =>
    rw [typI_yes hl, ← scanB_some (libB_all hl).2.2.1]
    have hs2 := Lib.hid (hsc.out hl)
    rw [hl] at hg
    obtain ⟨b, hb⟩ : ∃ b, scanB ds ns = b := ⟨_, rfl⟩
    rw [hb] at hs2 ⊢
    clear hl hsc hb
    go_enter Try.func50, Try.ntmps50
    go_wp2_with fail
    rw [← HW.out]
    refine hg.out.mono ?_
    rintro e w1 ⟨rfl, hb⟩
    have HB1 := Lib.hid (below_step hB.out hb)
    have x0 := cell_old hb hx0.out
    clear hb
    go_wp2_with fail
    refine (hs2.out w1 HB1.out).mono ?_
    rintro e w2 ⟨a1, n1, c1, a2, n2, c2, a3, n3, c3, rfl, -, hb⟩
    have HB2 := Lib.hid (below_step HB1.out hb)
    clear hb x0
    go_wp2
    go_ret
    exact ⟨rfl, below_alloc HB2.out⟩

/-- A term's size in a library, as the functions return it. -/
def eszP (ds : List DefL) (ns : List NodeL) : Int × Bool :=
  if (typI ds ns).isSome = true then (if 1000000 < sizeN (atD ds (sizesD ds ds.length)) ns then (0, false) else (sizeN (atD ds (sizesD ds ds.length)) ns, true)) else (0, false)

set_option maxRecDepth 100000 in
set_option maxHeartbeats 2000000 in
theorem specES_any (vd vn : Value) (ds : List DefL) (ns : List NodeL) (w : World) (hd : ReadsD w vd ds) (h : ReadsN w vn ns) :
    Calls Try.prog 67 #[vd, .agg #[vn]] w fun e w' => e = .returned (.tuple #[.int .i64 (eszP ds ns).1, .bool (eszP ds ns).2]) ∧ Below w.heap.size w w' := by
  obtain ⟨w0, hw0⟩ : ∃ W, W = w.alloc (.cells #[vn] 36) := ⟨_, rfl⟩
  have hB := Lib.hid (show Below w.heap.size w w0 by rw [hw0]; exact below_alloc (Below.refl _ _))
  have hg := Lib.hid (lbTerm_any vd vn ds ns w0 (hd.below hB.out) (h.below hB.out))
  have hsz := Lib.hid (fun (hl : libB ds = true) W (hW : Below w.heap.size w W) => lbSizes_any vd ds hl W (hd.below hW))
  have hsn := Lib.hid (fun p (hp : typeOf ds ns = some p) vl W (hW : Below w.heap.size w W) (hli : Reads W 1 vl (sizesD ds ds.length).length (ofL (sizesD ds ds.length))) => lbSize_any vd vl vn ds (sizesD ds ds.length) ns (sizesD_rng ds _) (by rw [sizesD_length]; exact named_term hp) W (hd.below hW) hli (h.below hW))
  have hx0 := Lib.hid (show w0.cell? ⟨w.heap.size, 0, none⟩ = some vn by rw [hw0]; simp [go_sem])
  have HW := Lib.hid hw0
  obtain ⟨a, cap, rfl⟩ := h.form
  obtain ⟨ad, capd, rfl⟩ := hd.form
  clear h hd hw0
  unfold eszP
  cases ho : typI ds ns with
  | none =>
    rw [ho] at hg
    clear ho hsz hsn
    go_enter Try.func67, Try.ntmps67
    go_wp2_with fail
    rw [← HW.out]
    refine hg.out.mono ?_
    rintro e w1 ⟨rfl, hb⟩
    have HB1 := Lib.hid (below_step hB.out hb)
    clear hb
    go_wp2
    go_ret2
    exact ⟨rfl, HB1.out⟩
  | some p =>
    rw [ho] at hg
    obtain ⟨hl, hp⟩ := typI_lib ho
    have hs2 := Lib.hid (hsz.out hl)
    have hn2 := Lib.hid (hsn.out p hp)
    rw [sizesD_length] at hn2
    obtain ⟨l, hll⟩ : ∃ l, sizesD ds ds.length = l := ⟨_, rfl⟩
    rw [hll] at hs2 hn2 ⊢
    obtain ⟨s, hs⟩ : ∃ s, sizeN (atD ds l) ns = s := ⟨_, rfl⟩
    rw [hs] at hn2 ⊢
    have hif : Hid ((if (some p).isSome = true then (if 1000000 < s then ((0 : Int), false) else (s, true)) else (0, false)) = (if 1000000 < s then (0, false) else (s, true))) := rfl
    have hyes := Lib.hid (fun (hc : 1000000 < s) => show (if 1000000 < s then ((0 : Int), false) else (s, true)) = (0, false) from if_pos hc)
    have hno := Lib.hid (fun (hc : s ≤ 1000000) => show (if 1000000 < s then ((0 : Int), false) else (s, true)) = (s, true) from if_neg (by omega))
    rw [hif.out]
    obtain ⟨q, hq⟩ : ∃ q, (if 1000000 < s then ((0 : Int), false) else (s, true)) = q := ⟨_, rfl⟩
    rw [hq] at hyes hno ⊢
    clear ho hl hp hsz hsn hll hs hif hq
    go_enter Try.func67, Try.ntmps67
    go_wp2_with fail
    rw [← HW.out]
    refine hg.out.mono ?_
    rintro e w1 ⟨rfl, hb⟩
    have HB1 := Lib.hid (below_step hB.out hb)
    have Z0 : ∀ W, Below w1.heap.size w1 W → W.cell? ⟨w.heap.size, 0, none⟩ = some (.slice a ns.length cap) := fun W hW => cell_old hW (cell_old hb hx0.out)
    have hs3 := Lib.hid (fun W (hW : Below w1.heap.size w1 W) => hs2.out W (below_step HB1.out hW))
    have hn3 := Lib.hid (fun vl W (hW : Below w1.heap.size w1 W) hli => hn2.out vl W (below_step HB1.out hW) hli)
    clear hb hs2 hn2 hg hx0
    go_upto_region 3 with fail
    go_region_held3 (fun W => Below w1.heap.size w1 W)
      (first | ((repeat (first | exact Below.refl _ _ | assumption | apply below_alloc | refine Below.drew ?_ | refine below_step ?_ hb_2 | refine below_step ?_ hb_1)); done))
      (first
        | (go_at_call 85; (with_reducible refine (hs3.out _ (by (repeat (first | exact Below.refl _ _ | assumption | apply below_alloc | refine Below.drew ?_)))).mono ?_); rintro e w_1 ⟨v_1, rfl, hr_1, hb_1⟩; obtain ⟨a_1, c_1, rfl⟩ := hr_1.form)
        | (go_at_call 84; (with_reducible refine (hn3.out _ _ (by (repeat (first | exact Below.refl _ _ | assumption | apply below_alloc | refine Below.drew ?_ | refine below_step ?_ hb_1))) hr_1).mono ?_); rintro e w_2 ⟨rfl, hb_2⟩))
    all_goals
      have HB2 := Lib.hid (below_step HB1.out (show Below w1.heap.size w1 w_2 by ((repeat (first | exact Below.refl _ _ | assumption | apply below_alloc | refine Below.drew ?_ | refine below_step ?_ hb_2 | refine below_step ?_ hb_1)); done)))
      clear hb_1 hb_2 hr_1 Z0 hs3 hn3
      by_cases hc : 1000000 < s
      · have d : decide (1000000 < s) = true := by simpa using hc
        have HQ := Lib.hid (hyes.out hc)
        clear hc
        go_wp2
        go_ret2
        exact ⟨by (rw [HQ.out]) <;> rfl, HB2.out⟩
      · have d : decide (1000000 < s) = false := by simpa using hc
        have HQ := Lib.hid (hno.out (by omega))
        clear hc
        go_wp2
        go_ret2
        exact ⟨by (rw [HQ.out]) <;> rfl, HB2.out⟩

end Ints
end Go.Proofs.Ytlfcmlbffpmhkaa
