/- How large a term is with its names spelled out: the program. -/
import Derived.Test.YtlaljebgjofmeaaSizeS
import Derived.Test.YtlaljebgjofmeaaMapS
import Derived.Test.YtlaljebgjofmeaaTypeInF
import Derived.Deep.RegionHeld3
namespace Go.Proofs.Ytlaljebgjofmeaa
open Go.RowKit Go.ChangeMaps Go.WideMaps
namespace Ints
open Fld (inR)

def intRead : Value → Option (DataW Unit × List MemPlace)
  | .int .i64 a => some (.lit (.int .i64 a), [])
  | _ => none
/-- map[string]int -/
def intE : Elem Int where
  t := 86
  e := 3
  read := intRead
  dat := fun p => .lit (.int .i64 p)
  val := fun p => .int .i64 p
  z := 0
  ht := Try.underlying86
  hz := fun w => by kernel_rfl
  good := fun _ => True
  hgz := trivial
  hread := fun a _ => rfl
  hinv := fun v a ps h => by
    unfold intRead at h
    split at h
    · simp only [Option.some.injEq, Prod.mk.injEq, DataW.lit.injEq, Lit.int.injEq, true_and] at h
      rw [h.1]
    · cases h

/-- What the map of the first k sizes says. -/
def lookS (ds : List DefL) (l : List Int) (k : Nat) (x : List UInt8) : Option Int := ((ds.take k).findIdx? fun d => d.name.toList == x).map fun i => l[i]?.getD 0
theorem lookS_zero (ds : List DefL) (l : List Int) : lookS ds l 0 = fun _ => none := rfl
theorem lookS_succ {ds : List DefL} (h : newN ds) (l : List Int) (v : Int) (k : Nat) (hl : l.length = k) (hk : k < ds.length) : lookS ds (l ++ [v]) (k + 1) = putL (lookS ds l k) (dAt ds k).name.toList v := by
  funext x
  have h1 := h k hk
  unfold findD at h1
  have hlt : (ds.take k).length = k := by rw [List.length_take]; omega
  unfold putL
  unfold lookS
  rw [take_oneD ds k hk, List.findIdx?_append, hlt]
  by_cases hx : x = (dAt ds k).name.toList
  · subst hx
    rw [h1, if_pos rfl]
    simp [← hl]
  · rw [if_neg hx]
    have h2 : [dAt ds k].findIdx? (fun d => d.name.toList == x) = none := by
      rw [List.findIdx?_eq_none_iff]
      intro y hy
      simp only [List.mem_singleton] at hy
      subst hy
      simpa using fun e => hx e.symm
    rw [h2]
    cases h3 : (ds.take k).findIdx? (fun d => d.name.toList == x) with
    | none => simp
    | some i =>
      have hi : i < k := by
        rw [List.findIdx?_eq_some_iff_getElem] at h3
        have := h3.1
        omega
      simp [List.getElem?_append, hl, hi]
theorem sizeN_congr {f g : ByteArray → Int} (ns : List NodeL) (h : ∀ k, k < ns.length → (nAt ns k).kind = 17 → f (nAt ns k).name = g (nAt ns k).name) : sizeN f ns = sizeN g ns := by
  have : ∀ k, k ≤ ns.length → sizeN f (ns.take k) = sizeN g (ns.take k) := by
    intro k
    induction k with
    | zero => intro _; rfl
    | succ k ih =>
      intro hk
      rw [sizeN_succ f ns k (by omega), sizeN_succ g ns k (by omega), ih (by omega)]
      congr 1
      unfold unitS
      by_cases h17 : (nAt ns k).kind = 17
      · rw [if_pos h17, if_pos h17]
        exact h k (by omega) h17
      · rw [if_neg h17, if_neg h17]
  have := this ns.length (Nat.le_refl _)
  rwa [List.take_length] at this
/-- The map and the list say the same of names that are known. -/
theorem lookS_at {ds : List DefL} {l : List Int} {k : Nat} {s : ByteArray} {i : Nat} (h : findD (ds.take k) s = some i) : (lookS ds l k s.toList).getD 0 = atD ds l s := by
  have h2 := (find_take h).1
  unfold atD lookS
  unfold findD at h
  rw [h, h2]
  rfl
theorem lookS_rng {ds : List DefL} {l : List Int} (hl : rngS l) (k : Nat) (x : List UInt8) : 0 ≤ (lookS ds l k x).getD 0 ∧ (lookS ds l k x).getD 0 ≤ 1000001 := by
  unfold lookS
  cases (ds.take k).findIdx? (fun d => d.name.toList == x) with
  | none => exact ⟨Int.le_refl 0, by show (0 : Int) ≤ 1000001; decide⟩
  | some i => exact at_rng hl i

set_option maxRecDepth 100000 in
set_option maxHeartbeats 4000000 in
theorem sizeC_any (vn : Value) (ns : List NodeL) (g b m : Nat) (look : List UInt8 → Option Int) (hbig : totN ns ≤ 1048576) (hr : ∀ x, 0 ≤ (look x).getD 0 ∧ (look x).getD 0 ≤ 1000001) (w : World) (h : ReadsN w vn ns) (hg : w.cell? ⟨g, 0, none⟩ = some (.map (some b))) (hM : MapOf intE w b m look) :
    Calls Try.prog 68 #[vn, .pointer (some ⟨g, 0, none⟩)] w fun e w' => e = .returned (.int .i64 (sizeN (fun s => (look s.toList).getD 0) ns)) ∧ Below w.heap.size w w' := by
  obtain ⟨a, cap, rfl, hm, hc⟩ := open_readsN h
  obtain ⟨n, hn⟩ : ∃ n, ns.length = n := ⟨_, rfl⟩
  have HC := Lib.hid hc
  have HN := Lib.hid hn
  have HG := Lib.hid hg
  have HM := Lib.hid hM
  have HBG := Lib.hid hbig
  obtain ⟨f, hf⟩ : ∃ f : ByteArray → Int, (fun s => (look s.toList).getD 0) = f := ⟨_, rfl⟩
  have HF := Lib.hid (fun s => congrFun hf s)
  have HFR : Hid (∀ s, 0 ≤ f s ∧ f s ≤ 1000001) := by
    show ∀ s, _
    intro s
    rw [← HF.out s]
    exact hr _
  rw [hf]
  rw [hn] at hm ⊢
  clear h hc hn hg hM hbig hf hr
  go_enter Try.func68, Try.ntmps68
  go_wp2
  go_loopw [10, 4] (fun i s wr => ∃ (k : Nat) (c : Int), k ≤ n ∧ i = .int .i64 k ∧ .int .i64 c = s ∧ Hid (sizeN f (ns.take k) = c ∧ Below w.heap.size w wr)) (fun i _ _ => n + 1 - (intOf i).toNat)
  case atStart => exact ⟨0, 0, by omega, rfl, rfl, Lib.hid ⟨rfl, Below.refl _ _⟩⟩
  case round =>
    obtain ⟨k, c, hk, rfl, rfl, H⟩ := hrel
    by_cases hlt : k < n
    · obtain ⟨gg, off, rfl, hgg, hE⟩ := HC.out k (by rw [HN.out]; exact hlt)
      obtain ⟨x0, x1, x2⟩ := hE.below H.out.2
      have hk0 : 0 ≤ (k : Int) := by omega
      have hkn : (k : Int) < (n : Int) := by omega
      have hsz : (nAt ns k).name.size ≤ maxLen := by
        have := name_le ns k (by rw [HN.out]; exact hlt)
        have := HBG.out
        unfold maxLen
        omega
      have hsucc := sizeN_succ f ns k (by rw [HN.out]; exact hlt)
      rw [H.out.1] at hsucc
      have hcr := sizeN_rng HFR.out (ns.take k)
      rw [H.out.1] at hcr
      obtain ⟨nd, hnd⟩ : ∃ d, nAt ns k = d := ⟨_, rfl⟩
      rw [hnd] at x0 x1 x2 hsucc hsz
      have hur := unit_rng HFR.out nd
      obtain ⟨u, hu⟩ : ∃ u, unitS f nd = u := ⟨_, rfl⟩
      rw [hu] at hsucc hur
      obtain ⟨c2, hc2⟩ : ∃ c2, addS c u = c2 := ⟨_, rfl⟩
      have hc3 : c2 = if 1000001 < c + u then 1000001 else c + u := by
        rw [← hc2]
        unfold addS
        split <;> split <;> omega
      rw [hc2] at hsucc
      have hw1 : IntKind.i64.wrap (c + u) = c + u := IntWalk.i64_in _ (by omega)
      have HS := Lib.hid hsucc
      have HC3 := Lib.hid hc3
      have HU := Lib.hid hu
      clear hE hnd hsucc hcr hur hc2 hu hc3
      obtain ⟨kd, vl, s⟩ := nd
      dsimp only at x0 x1 x2 HU hsz
      obtain ⟨W1, hW1⟩ : ∃ W, W = wr.alloc (.cells #[.int .i64 kd, .int .i64 vl, .string s] 84) := ⟨_, rfl⟩
      have HB1 := Lib.hid (show Below w.heap.size w W1 by rw [hW1]; exact below_alloc H.out.2)
      by_cases h17 : kd = 17
      · subst h17
        have hui : u = f s := by
          rw [← HU.out]
          rfl
        have hget := (HM.out.below HB1.out).get s hsz
        have hg1 := cell_old HB1.out HG.out
        have hgt : (Instr.lookup 86 (.map (some b)) (.string s) false).run Try.prog (wr.alloc (.cells #[.int .i64 17, .int .i64 vl, .string s] 84)) = .ok (.int .i64 u) (wr.alloc (.cells #[.int .i64 17, .int .i64 vl, .string s] 84)) := by
          rw [← hW1, hui, ← HF.out s]
          exact hget
        rw [hW1] at hg1
        have HW1 := Lib.hid hW1
        clear hget hui hW1 hsz
        have HB2 := Lib.hid (below_alloc (o := .cells #[.int .i64 17, .int .i64 vl, .string s] 84) H.out.2)
        clear HW1
        go_wp2
        go_roundw
        case rel => exact ⟨k + 1, c2, by omega, by go_num, by rw [HC3.out], Lib.hid ⟨HS.out, HB2.out⟩⟩
        case measure => simp [intOf]; omega
      · have b17 : (kd == 17) = false := by simpa using h17
        have hu1 : u = 1 := by
          rw [← HU.out]
          unfold unitS
          rw [if_neg h17]
        subst hu1
        have HB2 := Lib.hid (below_alloc (o := .cells #[.int .i64 kd, .int .i64 vl, .string s] 84) H.out.2)
        clear h17 hW1 hsz
        go_wp2
        go_roundw
        case rel => exact ⟨k + 1, c2, by omega, by go_num, by rw [HC3.out], Lib.hid ⟨HS.out, HB2.out⟩⟩
        case measure => simp [intOf]; omega
    · obtain rfl : k = n := by omega
      have he := H.out.1
      rw [← HN.out, List.take_length] at he
      have HB2 := Lib.hid H.out.2
      have HE := Lib.hid he
      clear he
      go_wp2
      go_ret
      exact ⟨ret_int HE.out.symm, HB2.out⟩

/-- The map and the list say the same of a body's names. -/
theorem size_same {ds : List DefL} {k : Nat} {ns : List NodeL} {p : Int × Int} (l : List Int) (h : typeOf (ds.take k) ns = some p) : sizeN (fun s => (lookS ds l k s.toList).getD 0) ns = sizeN (atD ds l) ns :=
  sizeN_congr ns fun j hj h17 => by
    obtain ⟨i, hi⟩ := typeOf_named h j hj h17
    exact lookS_at hi

set_option maxRecDepth 100000 in
set_option maxHeartbeats 8000000 in
theorem implES_any (vd vn : Value) (ds : List DefL) (ns : List NodeL) (hbd : totD ds ≤ 1048576) (hbn : totN ns ≤ 1048576) (w : World) (hd : ReadsD w vd ds) (h : ReadsN w vn ns) :
    Calls Try.prog 27 #[vd, .agg #[vn]] w fun e w' => e = .returned (.tuple #[.int .i64 (eszP ds ns).1, .bool (eszP ds ns).2]) ∧ Below w.heap.size w w' := by
  obtain ⟨w0, hw0⟩ : ∃ W, W = w.alloc (.cells #[vn] 37) := ⟨_, rfl⟩
  have hB := Lib.hid (show Below w.heap.size w w0 by rw [hw0]; exact below_alloc (Below.refl _ _))
  have hg := Lib.hid (isTermIn_any vd vn ds ns hbd hbn w0 (hd.below hB.out) (h.below hB.out))
  have hx0 := Lib.hid (show w0.cell? ⟨w.heap.size, 0, none⟩ = some vn by rw [hw0]; simp [go_sem])
  have HS0 := Lib.hid (show w0.heap.size = w.heap.size + 1 by rw [hw0]; simp)
  have HW := Lib.hid hw0
  have HD := Lib.hid hd
  have HRN := Lib.hid h
  have HBD := Lib.hid hbd
  have HBN := Lib.hid hbn
  obtain ⟨a, cap, rfl⟩ := h.form
  obtain ⟨ad, capd, rfl, hmd, hcd⟩ := open_readsD hd
  have HC := Lib.hid hcd
  clear h hw0 hcd
  unfold eszP
  cases ho : typI ds ns with
  | none =>
    rw [ho] at hg
    clear ho hd hbd hbn
    go_enter Try.func27, Try.ntmps27
    go_wp2_with fail
    rw [← HW.out]
    refine hg.out.mono ?_
    rintro e w1 ⟨rfl, hb⟩
    have HB1 := Lib.hid (below_step hB.out hb)
    clear hb
    go_wp2
    go_ret2
    exact ⟨rfl, HB1.out⟩
  | some p =>
    rw [ho] at hg
    obtain ⟨hl, hp⟩ := typI_lib ho
    obtain ⟨h12, hall, -, hnew⟩ := libB_all hl
    obtain ⟨n, hn⟩ : ∃ n, ds.length = n := ⟨_, rfl⟩
    have HN := Lib.hid hn
    have HALL := Lib.hid hall
    have HNW := Lib.hid hnew
    have HP := Lib.hid hp
    rw [hn] at hmd h12 HD hg ⊢
    obtain ⟨s, hs⟩ : ∃ s, sizeN (atD ds (sizesD ds n)) ns = s := ⟨_, rfl⟩
    have HSZ := Lib.hid hs
    rw [hs]
    have hif : Hid ((if (some p).isSome = true then (if 1000000 < s then ((0 : Int), false) else (s, true)) else (0, false)) = (if 1000000 < s then (0, false) else (s, true))) := rfl
    have hyes := Lib.hid (fun (hc : 1000000 < s) => show (if 1000000 < s then ((0 : Int), false) else (s, true)) = (0, false) from if_pos hc)
    have hno := Lib.hid (fun (hc : s ≤ 1000000) => show (if 1000000 < s then ((0 : Int), false) else (s, true)) = (s, true) from if_neg (by omega))
    rw [hif.out]
    obtain ⟨q, hq⟩ : ∃ q, (if 1000000 < s then ((0 : Int), false) else (s, true)) = q := ⟨_, rfl⟩
    rw [hq] at hyes hno ⊢
    have hmm := @run_makeMap Try.prog
    clear ho hl hp hall hnew hn hs hif hq hd hbd hbn
    go_enter Try.func27, Try.ntmps27
    go_wp2_with fail
    rw [← HW.out]
    refine hg.out.mono ?_
    rintro e w1 ⟨rfl, hb⟩
    have HB1 := Lib.hid (below_step hB.out hb)
    have x0 := cell_old hb hx0.out
    have HX := Lib.hid x0
    have HSS := Lib.hid (show w.heap.size < w1.heap.size by have := hb.size; have := HS0.out; omega)
    have HM0 := Lib.hid (MapOf.made intE w1)
    clear hb hg x0
    go_wp2
    go_loopw [19] (fun i wr => ∃ k : Nat, k ≤ n ∧ i = .int .i64 k ∧ Hid (MapOf intE wr w1.heap.size k (lookS ds (sizesD ds k) k) ∧ wr.cell? ⟨w1.heap.size + 1, 0, none⟩ = some (.map (some w1.heap.size)) ∧ Below w1.heap.size w1 wr)) (fun i _ => n + 1 - (intOf i).toNat)
    case atStart =>
      refine ⟨0, by omega, rfl, Lib.hid ⟨?_, by simp [go_sem], ((Below.refl _ _).alloc (Nat.le_refl _) _).alloc (by simp) _⟩⟩
      rw [lookS_zero]
      exact HM0.out.below ((Below.refl _ _).alloc (Nat.le_refl _) _)
    case round =>
      obtain ⟨k, hk, rfl, H⟩ := hrel
      by_cases hlt : k < n
      · obtain ⟨g, off, a1, c1, rfl, hgg, hE⟩ := HC.out k (by rw [HN.out]; exact hlt)
        have HBR := Lib.hid (below_step HB1.out H.out.2.2)
        obtain ⟨x0, x1, x2, x3, hbody⟩ := hE.below HBR.out
        have hk0 : 0 ≤ (k : Int) := by omega
        have hkn : (k : Int) < (n : Int) := by omega
        have hbt : totN (dAt ds k).body ≤ 1048576 := by
          have := cellsD_le ds k (by rw [HN.out]; exact hlt)
          have := HBD.out
          unfold cellsD at *
          omega
        have hsz : (dAt ds k).name.size ≤ maxLen := by
          have := cellsD_le ds k (by rw [HN.out]; exact hlt)
          have := HBD.out
          unfold cellsD at *
          unfold maxLen
          omega
        have hkm : k < maxLen := by unfold maxLen; omega
        have hls := Lib.hid (fun v => lookS_succ HNW.out (sizesD ds k) v k (sizesD_length ds k) (by rw [HN.out]; exact hlt))
        have hsucc : Hid (sizesD ds (k + 1) = sizesD ds k ++ [sizeN (atD ds (sizesD ds k)) (dAt ds k).body]) := rfl
        have hsame := size_same (ns := (dAt ds k).body) (sizesD ds k) (defB_parts (HALL.out k (by rw [HN.out]; exact hlt))).2.2
        obtain ⟨W1, hW1⟩ : ∃ W, W = wr.alloc (.cells #[.string (dAt ds k).name, .int .i64 (dAt ds k).inp, .int .i64 (dAt ds k).out, .slice a1 (dAt ds k).body.length c1] 61) := ⟨_, rfl⟩
        have hbw : Below wr.heap.size wr W1 := by rw [hW1]; exact below_alloc (Below.refl _ _)
        have hg1 := cell_old hbw H.out.2.1
        have hcall := Lib.hid (fun W (hW : Below W1.heap.size W1 W) => sizeC_any _ (dAt ds k).body (w1.heap.size + 1) w1.heap.size k (lookS ds (sizesD ds k) k) hbt (fun x => lookS_rng (sizesD_rng ds k) k x) W ((hbody.below hbw).below hW) (cell_old hW hg1) ((H.out.1.below hbw).below hW))
        rw [hsame] at hcall
        obtain ⟨u, hu⟩ : ∃ u, sizeN (atD ds (sizesD ds k)) (dAt ds k).body = u := ⟨_, rfl⟩
        rw [hu] at hcall hsucc
        have HMW := Lib.hid (fun W (hW : Below W1.heap.size W1 W) => ((H.out.1.below hbw).below hW).put (dAt ds k).name hsz hkm u trivial)
        have z0 : W1.cell? ⟨wr.heap.size, 0, none⟩ = some (.string (dAt ds k).name) := by rw [hW1]; simp [go_sem]
        have z3 : W1.cell? ⟨wr.heap.size, 3, none⟩ = some (.slice a1 (dAt ds k).body.length c1) := by rw [hW1]; simp [go_sem]
        have HB2 := Lib.hid (below_step H.out.2.2 hbw)
        have hlw := Lib.hid (show w1.heap.size < wr.heap.size from H.out.1.lt)
        obtain ⟨nm, hnm⟩ : ∃ s, (dAt ds k).name = s := ⟨_, rfl⟩
        obtain ⟨pi, hpi⟩ : ∃ s, (dAt ds k).inp = s := ⟨_, rfl⟩
        obtain ⟨po, hpo⟩ : ∃ s, (dAt ds k).out = s := ⟨_, rfl⟩
        obtain ⟨bl, hbl⟩ : ∃ s, (dAt ds k).body.length = s := ⟨_, rfl⟩
        rw [hnm] at x0 hW1 hls HMW z0
        rw [hpi] at x1 hW1
        rw [hpo] at x2 hW1
        rw [hbl] at x3 hW1 hcall z3
        have HW1 := Lib.hid hW1
        have HZ := Lib.hid (And.intro hg1 (And.intro z0 z3))
        clear hE hbody hbt hsz hkm hsame hbw hg1 hu z0 z3 hnm hpi hpo hbl hW1 hgg
        go_upto_region 8 with fail
        rw [← HW1.out]
        go_region_held3 (fun W => W.cell? ⟨w1.heap.size + 1, 0, none⟩ = some (.map (some w1.heap.size)) ∧ W.cell? ⟨wr.heap.size, 0, none⟩ = some (.string nm) ∧ W.cell? ⟨wr.heap.size, 3, none⟩ = some (.slice a1 bl c1))
          (first | exact S3.out | exact S1.out | exact HZ.out)
          (first
            | (go_at_call 68; (with_reducible refine (hcall.out _ ((Below.refl _ _).drew)).mono ?_); rintro e w_1 ⟨rfl, hb_1⟩; have HBC := Lib.hid (show Below W1.heap.size W1 w_1 from below_step ((Below.refl _ _).drew) hb_1); obtain ⟨w3, hrun, hM3, hch3⟩ := HMW.out w_1 HBC.out; have S1 := Lib.hid (And.intro (cell_old HBC.out HZ.out.1) (And.intro (cell_old HBC.out HZ.out.2.1) (cell_old HBC.out HZ.out.2.2))); have S3 := Lib.hid (And.intro (hch3.keep S1.out.1 (by simp)) (And.intro (hch3.keep S1.out.2.1 (by have := hlw.out; simp only; omega)) (hch3.keep S1.out.2.2 (by have := hlw.out; simp only; omega)))); replace hrun : (Instr.mapUpdate 86 (.map (some w1.heap.size)) (.string nm) (.int .i64 u)).run Try.prog w_1 = .ok () w3 := hrun))
        all_goals
          have hnext : Hid (MapOf intE w3 w1.heap.size (k + 1) (lookS ds (sizesD ds (k + 1)) (k + 1)) ∧ w3.cell? ⟨w1.heap.size + 1, 0, none⟩ = some (.map (some w1.heap.size)) ∧ Below w1.heap.size w1 w3) := by
            refine Lib.hid ⟨?_, S3.out.1, (below_step HB2.out HBC.out).trans (hch3.below (below_step HB2.out HBC.out).size fun g hg => by omega)⟩
            rw [hsucc.out, hls.out]
            exact hM3
          clear hb_1 hrun hM3 hch3 S1 S3 HBC x0 x1 x2 x3
          go_wp2
          go_roundw
          case rel => exact ⟨k + 1, by omega, by go_num, hnext⟩
          case measure => simp [intOf]; omega
      · obtain rfl : k = n := by omega
        have hsame : sizeN (fun s => (lookS ds (sizesD ds k) k s.toList).getD 0) ns = s := by
          rw [size_same (p := p) (sizesD ds k) (by rw [← HN.out, List.take_length]; exact HP.out)]
          exact HSZ.out
        have hcall := Lib.hid (sizeC_any _ ns (w1.heap.size + 1) w1.heap.size k (lookS ds (sizesD ds k) k) HBN.out (fun x => lookS_rng (sizesD_rng ds k) k x) wr (HRN.out.below (below_step HB1.out H.out.2.2)) H.out.2.1 H.out.1)
        rw [hsame] at hcall
        have x0 := cell_old H.out.2.2 HX.out
        have HB3 := Lib.hid (below_step HB1.out H.out.2.2)
        clear hsame
        go_wp2_with fail
        refine hcall.out.mono ?_
        rintro e w4 ⟨rfl, hb⟩
        have HB4 := Lib.hid (below_step HB3.out hb)
        clear hb x0
        by_cases hc : 1000000 < s
        · have d : decide (1000000 < s) = true := by simpa using hc
          have HQ := Lib.hid (hyes.out hc)
          clear hc
          go_wp2
          go_ret2
          exact ⟨by (rw [HQ.out]) <;> rfl, HB4.out⟩
        · have d : decide (1000000 < s) = false := by simpa using hc
          have HQ := Lib.hid (hno.out (by omega))
          clear hc
          go_wp2
          go_ret2
          exact ⟨by (rw [HQ.out]) <;> rfl, HB4.out⟩

end Ints
end Go.Proofs.Ytlaljebgjofmeaa
