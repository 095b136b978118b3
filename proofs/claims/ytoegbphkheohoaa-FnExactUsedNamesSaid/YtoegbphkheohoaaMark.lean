/- The laws' helpers that write into results and look whether it stands there: their texts. -/
import Derived.Test.YtoegbphkheohoaaNodeE
import Derived.Laws.BytesString
namespace Go.Proofs.Ytoegbphkheohoaa
open Go.RowKit
namespace Ints

theorem run_byte_string (w : World) (x : Int) : (convert 90 9 (.slice (some ⟨w.heap.size, 0, none⟩) 1 1)).run Try.prog (w.alloc (.cells #[.int .u8 x] 5)) = .ok (.string ⟨#[UInt8.ofNat x.toNat]⟩) (w.alloc (.cells #[.int .u8 x] 5)) := by
  rw [run_convert_bytes_string _ _ _ 5 _ _ _ Try.underlying90 Try.underlying5 Try.underlying9]
  rw [run_bytesToString _ ⟨w.heap.size, 0, none⟩ 1 1 [x]]
  · rfl
  · refine run_loadCells_list (P := Try.prog) _ _ [.int .u8 x] (fun j y hj => ?_)
    have hj0 : j = 0 := by
      have := (List.getElem?_eq_some_iff.1 hj).1
      simp at this
      omega
    subst hj0
    simp only [List.getElem?_cons_zero, Option.some.injEq] at hj
    subst hj
    rw [show (⟨w.heap.size, 0, none⟩ : Addr).add 0 = ⟨w.heap.size, 0, none⟩ from rfl, cell_of_row (w.alloc _) w.heap.size 0 #[.int .u8 x] 5 (0, 0) (heap_alloc_new w _)]
    rfl
def digS (n : Nat) : ByteArray := ⟨#[48 + UInt8.ofNat (n % 10)]⟩
/-- The digits of a number ahead of a text. -/
def mtxGo : Nat → Nat → ByteArray → ByteArray
  | 0, _, acc => acc
  | f + 1, n, acc => if n = 0 then acc else mtxGo f (n / 10) (digS n ++ acc)
def mtx (k : Int) : ByteArray := if k ≤ 0 then ⟨#[109, 48]⟩ else ⟨#[109]⟩ ++ mtxGo 20 k.toNat ByteArray.empty
theorem mtxGo_zero (f : Nat) (acc : ByteArray) : mtxGo f 0 acc = acc := by
  cases f with
  | zero => rfl
  | succ f => rfl

set_option maxRecDepth 100000 in
set_option maxHeartbeats 1000000 in
theorem markText_any (k : Int) (hk : 0 ≤ k) (hb : k ≤ 2000000000) (w : World) : Calls Try.prog 31 #[.int .i64 k] w fun e w' => e = .returned (.string (mtx k)) ∧ Below w.heap.size w w' := by
  have hcv := run_byte_string
  by_cases h0 : k ≤ 0
  · have d : decide (k ≤ 0) = true := by simpa using h0
    have e : mtx k = ⟨#[109, 48]⟩ := by unfold mtx; rw [if_pos h0]
    have HE := Lib.hid e
    clear e h0
    go_enter Try.func31, Try.ntmps31
    go_wp2
    go_ret
    exact ⟨by rw [HE.out]; rfl, Below.refl _ _⟩
  · have d : decide (k ≤ 0) = false := by simpa using h0
    obtain ⟨n, rfl⟩ := Int.eq_ofNat_of_zero_le hk
    have HF := Lib.hid (show ∃ f, f = 20 ∧ mtx (n : Int) = ⟨#[109]⟩ ++ mtxGo f n ByteArray.empty ∧ n < 10 ^ f from ⟨20, rfl, by unfold mtx; rw [if_neg h0]; rfl, by omega⟩)
    have HB : Hid (n ≤ 2000000000) := Lib.hid (by omega)
    obtain ⟨R, hR⟩ : ∃ R, mtx (n : Int) = R := ⟨_, rfl⟩
    rw [hR] at HF ⊢
    replace d : decide (n = 0) = false := by simp; omega
    clear h0 hk hb hR
    go_enter Try.func31, Try.ntmps31
    go_wp2
    go_loopw [0, 3] (fun q o wr => ∃ (f m : Nat) (acc : ByteArray), q = .int .i64 m ∧ o = .string acc ∧ m < 2000000001 ∧ acc.size + f = 20 ∧ Hid (R = ⟨#[109]⟩ ++ mtxGo f m acc ∧ m < 10 ^ f ∧ Below w.heap.size w wr)) (fun q _ _ => (intOf q).toNat)
    case atStart =>
      obtain ⟨f, rfl, h1, h2⟩ := HF.out
      exact ⟨20, n, _, rfl, rfl, by have := HB.out; omega, rfl, Lib.hid ⟨h1, h2, Below.refl _ _⟩⟩
    case round =>
      obtain ⟨f, m, acc, rfl, rfl, hm, hf, H⟩ := hrel
      by_cases hz : m = 0
      · subst hz
        have he := H.out.1
        rw [mtxGo_zero] at he
        have HE := Lib.hid he
        have HB2 := Lib.hid H.out.2.2
        clear he
        go_wp2
        go_ret
        exact ⟨by rw [HE.out]; rfl, HB2.out⟩
      · obtain ⟨f, rfl⟩ : ∃ g, f = g + 1 := by
          cases f with
          | zero => have := H.out.2.1; simp at this; omega
          | succ g => exact ⟨g, rfl⟩
        have hnx : Hid (R = ⟨#[109]⟩ ++ mtxGo f (m / 10) (digS m ++ acc) ∧ m / 10 < 10 ^ f) := by
          refine Lib.hid ⟨?_, ?_⟩
          · have := H.out.1
            unfold mtxGo at this
            rw [if_neg hz] at this
            exact this
          · have := H.out.2.1
            rw [Nat.pow_succ] at this
            omega
        have hpos : 0 < m := by omega
        have hmod : (m : Int).tmod 10 = ((m % 10 : Nat) : Int) := by rw [Int.tmod_eq_emod_of_nonneg (by omega)]; omega
        have hdiv : (m : Int).tdiv 10 = ((m / 10 : Nat) : Int) := by rw [Int.tdiv_eq_ediv_of_nonneg (by omega)]; omega
        obtain ⟨r, hr⟩ : ∃ r, m % 10 = r := ⟨_, rfl⟩
        have hr10 : r < 10 := by omega
        have hdg : Hid (digS m = ⟨#[48 + UInt8.ofNat r]⟩) := by show _ = _; unfold digS; rw [hr]
        rw [hr] at hmod
        have hw1 : IntKind.i64.wrap (48 + (r : Int)) = 48 + (r : Int) := IntWalk.i64_in _ (by omega)
        have hw2 : IntKind.u8.wrap (48 + (r : Int)) = 48 + (r : Int) := by unfold IntKind.wrap; simp [IntKind.bits, IntKind.signed]; omega
        have htn : (48 + (r : Int)).toNat = 48 + r := by omega
        clear hr
        go_wp2
        go_roundw
        case rel => exact ⟨f, m / 10, digS m ++ acc, by go_num, by rw [hdg.out], by omega, by rw [ByteArray.size_append]; show 1 + _ + _ = _; omega, Lib.hid ⟨hnx.out.1, hnx.out.2, below_alloc H.out.2.2⟩⟩
        case measure => simp [intOf]; omega

/-- The nodes as the marks leave them. -/
def marksN (k : Int) (ns : List NodeL) : List NodeL := (List.range ns.length).map fun (i : Nat) => ⟨k + 3 * (i : Int), k + 3 * (i : Int) + 1, mtx (k + 3 * (i : Int) + 2)⟩
def sumN (ns : List NodeL) : Nat := 3 * ns.length
theorem marksN_length (k : Int) (ns : List NodeL) : (marksN k ns).length = ns.length := by simp [marksN]
theorem marksN_at (k : Int) (ns : List NodeL) (j : Nat) (h : j < ns.length) : nAt (marksN k ns) j = ⟨k + 3 * (j : Int), k + 3 * (j : Int) + 1, mtx (k + 3 * (j : Int) + 2)⟩ := by simp [marksN, nAt, h]
/-- Half marked. -/
def halfN (k : Int) (ns : List NodeL) (j : Nat) : List NodeL := (marksN k ns).take j ++ ns.drop j
theorem halfN_zero (k : Int) (ns : List NodeL) : halfN k ns 0 = ns := by simp [halfN]
theorem halfN_all (k : Int) (ns : List NodeL) : halfN k ns ns.length = marksN k ns := by
  unfold halfN
  rw [List.drop_length, List.append_nil, ← marksN_length k ns, List.take_length]
theorem halfN_length (k : Int) (ns : List NodeL) (j : Nat) (h : j ≤ ns.length) : (halfN k ns j).length = ns.length := by
  unfold halfN
  rw [List.length_append, List.length_take, List.length_drop, marksN_length]
  omega
theorem halfN_succ (k : Int) (ns : List NodeL) (j : Nat) (h : j < ns.length) : (halfN k ns j).set j (nAt (marksN k ns) j) = halfN k ns (j + 1) := by
  unfold halfN
  have hl : ((marksN k ns).take j).length = j := by rw [List.length_take, marksN_length]; omega
  rw [List.set_append, if_neg (by omega), hl, Nat.sub_self, take_oneN _ j (by rw [marksN_length]; exact h), List.drop_eq_getElem_cons h, List.set_cons_zero, List.append_assoc]
  rfl
theorem nAt_set (ns : List NodeL) (i j : Nat) (n : NodeL) (h : i < ns.length) : nAt (ns.set i n) j = if i = j then n else nAt ns j := by
  unfold nAt
  rw [List.getElem?_set]
  by_cases e : i = j
  · subst e
    rw [if_pos rfl, if_pos rfl, if_pos h]
    rfl
  · rw [if_neg e, if_neg e]
/-- One node of a slice of the call's own: the cells, and what three stores leave. -/
theorem OwnsN.openAt {S : Nat → Prop} {w : World} {v : Value} {ns : List NodeL} (h : OwnsN S w v ns) {j : Nat} (hj : j < ns.length) :
    ∃ g off cap cs, v = .slice (some ⟨g, off, none⟩) ns.length cap ∧ ns.length ≤ 9223372036854775807 ∧ S g ∧ w.heap[g]? = some (.cells cs 71 (0, 0)) ∧
      cs[off + j * 3]? = some (.int .i64 (nAt ns j).kind) ∧ cs[off + j * 3 + 1]? = some (.int .i64 (nAt ns j).value) ∧ cs[off + j * 3 + 2]? = some (.string (nAt ns j).name) ∧
      ∀ w' n, w'.heap[g]? = some (.cells (((cs.setIfInBounds (off + j * 3) (.int .i64 n.kind)).setIfInBounds (off + j * 3 + 1) (.int .i64 n.value)).setIfInBounds (off + j * 3 + 2) (.string n.name)) 71 (0, 0)) → OwnsN S w' v (ns.set j n) := by
  obtain ⟨⟨h1, a, cap, rfl, h2, h3, h4⟩, hb⟩ := h
  have hp : 0 < (ofN ns).length := by rw [ofN_length]; omega
  obtain ⟨g, off, cs, rfl, hg, hc⟩ := h4 hp
  have hS : S g := hb g (List.length_pos_iff.1 hp) rfl
  have hl := ofN_length ns
  have c0 := hc (j * 3 + 0) (by omega)
  have c1 := hc (j * 3 + 1) (by omega)
  have c2 := hc (j * 3 + 2) (by omega)
  rw [ofN_at ns j 0 hj (by omega)] at c0
  rw [ofN_at ns j 1 hj (by omega)] at c1
  rw [ofN_at ns j 2 hj (by omega)] at c2
  rw [← Nat.add_assoc] at c1 c2
  unfold maxLen at h3
  have i0 : off + j * 3 < cs.size := (Array.getElem?_eq_some_iff.1 c0).1
  have i1 : off + j * 3 + 1 < cs.size := (Array.getElem?_eq_some_iff.1 c1).1
  have i2 : off + j * 3 + 2 < cs.size := (Array.getElem?_eq_some_iff.1 c2).1
  refine ⟨g, off, cap, cs, rfl, by omega, hS, hg, c0, c1, c2, fun w' n hg' => ⟨⟨by rw [ofN_length, List.length_set], _, cap, by rw [List.length_set], by rw [List.length_set]; exact h2, by unfold maxLen; omega, fun _ => ⟨g, off, _, rfl, hg', fun i hi => ?_⟩⟩, fun g' _ hg2 => by simp [Value.ownBlock] at hg2; rw [← hg2]; exact hS⟩⟩
  rw [ofN_length, List.length_set] at hi
  have hk : i / 3 < ns.length := by omega
  have hi3 : i = i / 3 * 3 + i % 3 := by omega
  have hm : i % 3 < 3 := Nat.mod_lt _ (by omega)
  have hold := hc i (by omega)
  rw [hi3, ofN_at (ns.set j n) (i / 3) (i % 3) (by rw [List.length_set]; exact hk) hm, nAt_set ns j (i / 3) n hj]
  by_cases e : j = i / 3
  · rw [if_pos e, ← e]
    rcases (by omega : i % 3 = 0 ∨ i % 3 = 1 ∨ i % 3 = 2) with q | q | q <;> rw [q]
    · rw [Array.getElem?_setIfInBounds_ne (by omega), Array.getElem?_setIfInBounds_ne (by omega)]
      exact Array.getElem?_setIfInBounds_self_of_lt i0
    · rw [Array.getElem?_setIfInBounds_ne (by omega), ← Nat.add_assoc]
      exact Array.getElem?_setIfInBounds_self_of_lt (by simp; omega)
    · rw [← Nat.add_assoc]
      exact Array.getElem?_setIfInBounds_self_of_lt (by simp; omega)
  · rw [if_neg e, Array.getElem?_setIfInBounds_ne (by omega), Array.getElem?_setIfInBounds_ne (by omega), Array.getElem?_setIfInBounds_ne (by omega), ← hi3, hold]
    conv => lhs; rw [hi3, ofN_at ns (i / 3) (i % 3) hk hm]

set_option maxRecDepth 100000 in
set_option maxHeartbeats 2000000 in
theorem markNodeS_any (S : Nat → Prop) (v : Value) (ns : List NodeL) (k : Int) (hk : 0 ≤ k) (hb : k + sumN ns ≤ 1000000000) (w : World) (h : OwnsN S w v ns) :
    Calls Try.prog 32 #[v, .int .i64 k] w fun e w' => e = .returned (.int .i64 (k + sumN ns)) ∧ OwnsN S w' v (marksN k ns) ∧ Chg S w w' := by
  have HO := Lib.hid h
  obtain ⟨a, cap, rfl⟩ := h.reads.form
  obtain ⟨n, hn⟩ : ∃ n, ns.length = n := ⟨_, rfl⟩
  have HN := Lib.hid hn
  have hb2 : k + 3 * (n : Int) ≤ 1000000000 := by unfold sumN at hb; rw [hn] at hb; omega
  have hs : ((sumN ns : Nat) : Int) = 3 * (n : Int) := by unfold sumN; rw [hn]; omega
  rw [hs]
  rw [hn] at HO ⊢
  have hmt := Lib.hid (fun k h1 h2 W => markText_any k h1 h2 W)
  clear h hn hb hs
  go_enter Try.func32, Try.ntmps32
  go_wp2
  go_loopw [1, 5] (fun c i wr => ∃ j : Nat, j ≤ n ∧ i = .int .i64 j ∧ c = .int .i64 (k + 3 * (j : Int)) ∧ Hid (OwnsN S wr (.slice a n cap) (halfN k ns j) ∧ Chg S w wr)) (fun _ i _ => n + 1 - (intOf i).toNat)
  case atStart => exact ⟨0, by omega, rfl, by simp, Lib.hid ⟨by rw [halfN_zero]; exact HO.out, Chg.refl _ _⟩⟩
  case round =>
    obtain ⟨j, hj, rfl, rfl, H⟩ := hrel
    by_cases hlt : j < n
    · have hlen : (halfN k ns j).length = n := by rw [halfN_length k ns j (by rw [HN.out]; omega)]; exact HN.out
      obtain ⟨g, off, cap', cs, e, -, hS, hg, c0, c1, c2, hK⟩ := H.out.1.openAt (j := j) (by rw [hlen]; exact hlt)
      simp only [Value.slice.injEq, hlen, true_and] at e
      obtain ⟨rfl, rfl⟩ := e
      obtain ⟨z0, e0⟩ : ∃ z, Value.int .i64 (nAt (halfN k ns j) j).kind = z := ⟨_, rfl⟩
      obtain ⟨z1, e1⟩ : ∃ z, Value.int .i64 (nAt (halfN k ns j) j).value = z := ⟨_, rfl⟩
      obtain ⟨z2, e2⟩ : ∃ z, Value.string (nAt (halfN k ns j) j).name = z := ⟨_, rfl⟩
      rw [e0] at c0
      rw [e1] at c1
      rw [e2] at c2
      have y0 : wr.cell? ⟨g, off + j * 3, none⟩ = some z0 := (Go.Joins.cell_of_block hg _).trans c0
      have y1 : wr.cell? ⟨g, off + j * 3 + 1, none⟩ = some z1 := (Go.Joins.cell_of_block hg _).trans c1
      have f0 : wr.frozen? ⟨g, off + j * 3, none⟩ = false := Go.Joins.unfrozen_of_block hg _
      have f1 : wr.frozen? ⟨g, off + j * 3 + 1, none⟩ = false := Go.Joins.unfrozen_of_block hg _
      have hnx := halfN_succ k ns j (by rw [HN.out]; exact hlt)
      rw [marksN_at k ns j (by rw [HN.out]; exact hlt)] at hnx
      have HK := Lib.hid (fun w' hw => hK w' ⟨k + 3 * (j : Int), k + 3 * (j : Int) + 1, mtx (k + 3 * (j : Int) + 2)⟩ hw)
      rw [hnx] at HK
      obtain ⟨q, hq⟩ : ∃ q, k + 3 * (j : Int) = q := ⟨_, rfl⟩
      rw [hq] at HK ⊢
      have hq0 : 0 ≤ q := by omega
      have hq1 : q ≤ 1000000000 := by omega
      have hwq1 : IntKind.i64.wrap (q + 1) = q + 1 := IntWalk.i64_in _ (by omega)
      have hwq2 : IntKind.i64.wrap (q + 1 + 1) = q + 2 := by rw [show q + 1 + 1 = q + 2 by omega]; exact IntWalk.i64_in _ (by omega)
      have hwq3 : IntKind.i64.wrap (q + 2 + 1) = q + 3 := by rw [show q + 2 + 1 = q + 3 by omega]; exact IntWalk.i64_in _ (by omega)
      obtain ⟨W2, hW2⟩ : ∃ W, W = (wr.setCell ⟨g, off + j * 3, none⟩ (.int .i64 q)).setCell ⟨g, off + j * 3 + 1, none⟩ (.int .i64 (q + 1)) := ⟨_, rfl⟩
      have hg2 : W2.heap[g]? = some (.cells ((cs.setIfInBounds (off + j * 3) (.int .i64 q)).setIfInBounds (off + j * 3 + 1) (.int .i64 (q + 1))) 71 (0, 0)) := by
        rw [hW2]
        exact Go.Joins.block_setCell (g := g) (i := off + j * 3 + 1) (Go.Joins.block_setCell (g := g) (i := off + j * 3) hg _) _
      have HG2 := Lib.hid hg2
      have hc2 : Chg S wr W2 := by
        rw [hW2]
        exact ((Chg.refl S wr).setCell (p := ⟨g, off + j * 3, none⟩) (fun _ => hS) _).setCell (p := ⟨g, off + j * 3 + 1, none⟩) (fun _ => hS) _
      have HC2 := Lib.hid (H.out.2.trans hc2)
      have c2' := c2
      have hcall := Lib.hid (hmt.out (q + 2) (by omega) (by omega) W2)
      have C2 := Lib.hid c2
      have HW2 := Lib.hid hW2
      have HSg := Lib.hid hS
      have HQ := Lib.hid hq
      have hk0 : 0 ≤ (j : Int) := by omega
      have hkn : (j : Int) < (n : Int) := by omega
      clear hK hnx hg c0 c1 c2 c2' e0 e1 e2 hg2 hc2 hlen hW2 hS hq
      go_wp2_with fail
      rw [← HW2.out]
      refine hcall.out.mono ?_
      rintro e w3 ⟨rfl, hb3⟩
      have hg3 := block_old HG2.out hb3
      have y2 : w3.cell? ⟨g, off + j * 3 + 2, none⟩ = some z2 := by
        rw [Go.Joins.cell_of_block hg3, Array.getElem?_setIfInBounds_ne (by omega), Array.getElem?_setIfInBounds_ne (by omega)]
        exact C2.out
      have f2 : w3.frozen? ⟨g, off + j * 3 + 2, none⟩ = false := Go.Joins.unfrozen_of_block hg3 _
      have HFin : Hid (OwnsN S (w3.setCell ⟨g, off + j * 3 + 2, none⟩ (.string (mtx (q + 2)))) (.slice (some ⟨g, off, none⟩) n cap) (halfN k ns (j + 1)) ∧ Chg S w (w3.setCell ⟨g, off + j * 3 + 2, none⟩ (.string (mtx (q + 2))))) :=
        Lib.hid ⟨HK.out _ (Go.Joins.block_setCell (g := g) (i := off + j * 3 + 2) hg3 _), (HC2.out.trans (Below.chg hb3 _)).setCell (p := ⟨g, off + j * 3 + 2, none⟩) (fun _ => HSg.out) _⟩
      clear y0 y1 f0 f1 hg3 hb3
      go_wp2
      go_roundw
      case rel => exact ⟨j + 1, by omega, by go_num, by have := HQ.out; go_num, HFin⟩
      case measure => simp [intOf]; omega
    · obtain rfl : j = n := by omega
      have hfin : Hid (OwnsN S wr (.slice a j cap) (marksN k ns) ∧ Chg S w wr) := by
        have := H.out
        rw [← HN.out, halfN_all, HN.out] at this
        exact Lib.hid this
      go_wp2
      go_ret
      exact ⟨rfl, hfin.out⟩

set_option maxRecDepth 100000 in
set_option maxHeartbeats 2000000 in
theorem heldNodeS_any (v : Value) (ns : List NodeL) (k : Int) (hk : 0 ≤ k) (hb : k + sumN ns ≤ 1000000000) (w : World) (h : ReadsN w v (marksN k ns)) :
    Calls Try.prog 39 #[v, .int .i64 k] w fun e w' => e = .returned (.int .i64 (k + sumN ns)) ∧ Below w.heap.size w w' := by
  obtain ⟨a, cap, rfl, hm, hc⟩ := open_readsN h
  obtain ⟨n, hn⟩ : ∃ n, ns.length = n := ⟨_, rfl⟩
  have HN := Lib.hid hn
  have HC := Lib.hid hc
  have hb2 : k + 3 * (n : Int) ≤ 1000000000 := by unfold sumN at hb; rw [hn] at hb; omega
  have hs : ((sumN ns : Nat) : Int) = 3 * (n : Int) := by unfold sumN; rw [hn]; omega
  rw [hs]
  rw [marksN_length, hn] at hm ⊢
  have hmt := Lib.hid (fun k h1 h2 W => markText_any k h1 h2 W)
  clear h hn hb hs hc
  go_enter Try.func39, Try.ntmps39
  go_wp2
  go_loopw [1, 5] (fun c i wr => ∃ j : Nat, j ≤ n ∧ i = .int .i64 j ∧ c = .int .i64 (k + 3 * (j : Int)) ∧ Hid (Below w.heap.size w wr)) (fun _ i _ => n + 1 - (intOf i).toNat)
  case atStart => exact ⟨0, by omega, rfl, by simp, Lib.hid (Below.refl _ _)⟩
  case round =>
    obtain ⟨j, hj, rfl, rfl, H⟩ := hrel
    by_cases hlt : j < n
    · obtain ⟨g, off, rfl, hg, hE⟩ := HC.out j (by rw [marksN_length, HN.out]; exact hlt)
      rw [marksN_at k ns j (by rw [HN.out]; exact hlt)] at hE
      obtain ⟨x0, x1, x2⟩ := hE.below H.out
      dsimp only at x0 x1 x2
      obtain ⟨q, hq⟩ : ∃ q, k + 3 * (j : Int) = q := ⟨_, rfl⟩
      rw [hq] at x0 x1 x2 ⊢
      have hq0 : 0 ≤ q := by omega
      have hq1 : q ≤ 1000000000 := by omega
      have hwq1 : IntKind.i64.wrap (q + 1) = q + 1 := IntWalk.i64_in _ (by omega)
      have hwq2 : IntKind.i64.wrap (q + 1 + 1) = q + 2 := by rw [show q + 1 + 1 = q + 2 by omega]; exact IntWalk.i64_in _ (by omega)
      have hwq3 : IntKind.i64.wrap (q + 2 + 1) = q + 3 := by rw [show q + 2 + 1 = q + 3 by omega]; exact IntWalk.i64_in _ (by omega)
      have n1 : (q != q) = false := by simp
      have n2 : (q + 1 != q + 1) = false := by simp
      obtain ⟨s, hs⟩ : ∃ s, mtx (q + 2) = s := ⟨_, rfl⟩
      have hcall := Lib.hid (hmt.out (q + 2) (by omega) (by omega) wr.drew)
      rw [hs] at x2 hcall
      have hbd : Below wr.heap.size wr wr.drew := ⟨rfl, rfl, rfl, Nat.le_refl _, fun _ _ => rfl⟩
      have HB2 := Lib.hid (below_step H.out hbd)
      have HQ := Lib.hid hq
      have hk0 : 0 ≤ (j : Int) := by omega
      have hkn : (j : Int) < (n : Int) := by omega
      have n3 : (s.toList != s.toList) = false := by simp
      have x2d : wr.drew.cell? ⟨g, off + j * 3 + 2, none⟩ = some (.string s) := x2
      clear hE hq hs hbd
      go_wp2
      go_region_law (go_simp; with_reducible refine hcall.out.mono ?_; rintro e w1 ⟨rfl, hb1⟩; have x2w := cell_old hb1 x2d)
      all_goals
        have hB3 := Lib.hid (below_step HB2.out hb1)
        clear hb1
        go_wp2
        go_roundw
        case rel => exact ⟨j + 1, by omega, by go_num, by have := HQ.out; go_num, hB3⟩
        case measure => simp [intOf]; omega
    · obtain rfl : j = n := by omega
      go_wp2
      go_ret
      exact ⟨rfl, H.out⟩

set_option maxHeartbeats 1000000 in
theorem markTerm_any (S : Nat → Prop) (v : Value) (ns : List NodeL) (k : Int) (hk : 0 ≤ k) (hb : k + sumN ns ≤ 1000000000) (w : World) (h : OwnsN S w v ns) :
    Calls Try.prog 15 #[.agg #[v], .int .i64 k] w fun e w' => e = .returned (.int .i64 (k + sumN ns)) ∧ OwnsN S w' v (marksN k ns) ∧ Chg S w w' := by
  have hB := Lib.hid ((Below.refl w.heap.size w).alloc (Nat.le_refl _) (.cells #[v] 35))
  have hcall := Lib.hid (markNodeS_any S v ns k hk hb _ (h.below hB.out))
  obtain ⟨t, ht⟩ : ∃ t, k + (sumN ns : Int) = t := ⟨_, rfl⟩
  rw [ht] at hcall ⊢
  clear h hb ht
  go_enter Try.func15, Try.ntmps15
  go_wp2_with (go_at_call 32; ((with_reducible refine (hcall.out).mono ?_); rintro e w' ⟨rfl, ho, hc⟩))
  go_ret
  exact ⟨rfl, ho, (Below.chg hB.out S).trans_new hc fun _ _ h => h⟩

set_option maxHeartbeats 1000000 in
theorem heldTerm_any (v : Value) (ns : List NodeL) (k : Int) (hk : 0 ≤ k) (hb : k + sumN ns ≤ 1000000000) (w : World) (h : ReadsN w v (marksN k ns)) :
    Calls Try.prog 20 #[.agg #[v], .int .i64 k] w fun e w' => e = .returned (.int .i64 (k + sumN ns)) ∧ Below w.heap.size w w' := by
  have hB := Lib.hid ((Below.refl w.heap.size w).alloc (Nat.le_refl _) (.cells #[v] 35))
  have hcall := Lib.hid (heldNodeS_any v ns k hk hb _ (h.below hB.out))
  obtain ⟨t, ht⟩ : ∃ t, k + (sumN ns : Int) = t := ⟨_, rfl⟩
  have ht0 : 0 ≤ t := by omega
  rw [ht] at hcall ⊢
  have hbn : decide (t < 0) = false := by simp; omega
  clear h hb ht
  go_enter Try.func20, Try.ntmps20
  go_wp2_with (go_at_call 39; ((with_reducible refine (hcall.out).mono ?_); rintro e w' ⟨rfl, hc⟩))
  go_ret
  exact ⟨rfl, below_step hB.out hc⟩

end Ints
end Go.Proofs.Ytoegbphkheohoaa
