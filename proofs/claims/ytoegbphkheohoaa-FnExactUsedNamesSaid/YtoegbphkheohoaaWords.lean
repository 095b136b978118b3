/- The reserved words, the lists of words; what is a name: both sides. (Printed by wip/gen_words.py.) -/
import Derived.Test.YtoegbphkheohoaaNodeC
import Derived.Test.YtoegbphkheohoaaPred
namespace Go.Proofs.Ytoegbphkheohoaa
open Go.RowKit
namespace Ints
open Fld (inR l1In_any)

def resW : List ByteArray := [⟨#[105, 100]⟩, ⟨#[115, 119, 97, 112]⟩, ⟨#[99, 111, 112, 121]⟩, ⟨#[100, 105, 115, 99, 97, 114, 100]⟩, ⟨#[97, 100, 100]⟩, ⟨#[122, 101, 114, 111]⟩, ⟨#[115, 99, 97, 108, 101]⟩, ⟨#[100, 101, 108, 97, 121]⟩, ⟨#[99, 111, 99, 111, 112, 121]⟩, ⟨#[99, 111, 100, 105, 115, 99, 97, 114, 100]⟩, ⟨#[99, 111, 97, 100, 100]⟩, ⟨#[99, 111, 122, 101, 114, 111]⟩, ⟨#[99, 111, 115, 99, 97, 108, 101]⟩, ⟨#[99, 111, 100, 101, 108, 97, 121]⟩]
def kwords : List ByteArray := ⟨#[]⟩ :: resW
def hasS (l : List ByteArray) (s : ByteArray) : Bool := l.any fun x => x.toList == s.toList
/-- The kind of a word: its place among the reserved ones, 17 if it is none. -/
def kindI (s : ByteArray) : Nat := (kwords.findIdx? fun x => x.toList == s.toList).getD 17
def lowB (x : Int) : Bool := !decide (x < 97) && !decide (122 < x)
def digB (x : Int) : Bool := !decide (x < 48) && !decide (57 < x)
def bAt (s : ByteArray) (i : Nat) : Int := ((s.data[i]?.getD 0).toNat : Int)
theorem bAt_eq (s : ByteArray) (i : Nat) (h : i < s.size) : (((s[i]'h).toNat : Nat) : Int) = bAt s i := by
  unfold bAt
  have h' : i < s.data.size := h
  rw [Array.getElem?_eq_getElem h']
  rfl
def wordB (s : ByteArray) : Bool := inR s.size 1 8 && lowB (bAt s 0) && (List.range s.size).all fun i => lowB (bAt s i) || digB (bAt s i)
def nameB (s : ByteArray) : Bool := wordB s && !hasS resW s

def ReadsS (w : World) (v : Value) (l : List ByteArray) : Prop := Reads w 1 v l.length (l.map Value.string)
theorem ReadsS.below {w w' : World} {v : Value} {l : List ByteArray} (h : ReadsS w v l) (hb : Below w.heap.size w w') : ReadsS w' v l := Reads.below h hb
theorem ReadsS.form {w : World} {v : Value} {l : List ByteArray} (h : ReadsS w v l) : ∃ a cap, v = .slice a l.length cap := Reads.form h
def sAt (l : List ByteArray) (k : Nat) : ByteArray := l[k]?.getD ByteArray.empty
theorem sAt_eq (l : List ByteArray) (k : Nat) (h : k < l.length) : sAt l k = l[k] := by simp [sAt, h]
theorem open_readsS {w : World} {v : Value} {l : List ByteArray} (h : ReadsS w v l) : ∃ a cap, v = .slice a l.length cap ∧ l.length ≤ 9223372036854775807 ∧
    ∀ k, k < l.length → ∃ g off, a = some ⟨g, off, none⟩ ∧ g < w.heap.size ∧ w.cell? ⟨g, off + k, none⟩ = some (.string (sAt l k)) := by
  obtain ⟨h1, a, cap, rfl, h2, h3, h4⟩ := h
  unfold maxLen at h3
  refine ⟨a, cap, rfl, by omega, fun k hk => ?_⟩
  have hl : (l.map Value.string).length = l.length := by simp
  obtain ⟨g, off, rfl, hc⟩ := h4 (by omega)
  have c := hc k (by omega)
  have e : (l.map Value.string)[k]?.getD undef = .string (sAt l k) := by simp [sAt, hk]
  rw [e] at c
  exact ⟨g, off, rfl, lt_of_cell c, c⟩
/-- A list of words as it is built in place. -/
theorem readsS_new (w : World) (l : List ByteArray) (cs : Array Value) (n : Nat) (hc : cs.toList = l.map Value.string) (hn : l.length = n) (hm : n ≤ maxLen) : ReadsS (w.alloc (.cells cs 9)) (.slice (some ⟨w.heap.size, 0, none⟩) n n) l := by
  subst hn
  have hs : cs.size = l.length * 1 := by rw [← Array.length_toList, hc]; simp
  have h := World.ownsRow_lit (base := w.heap.size) (size := 1) (e := 9) w cs l.length (Nat.le_refl _) hm hs
  rw [hc] at h
  exact (owns_of_row h hm).1.reads

theorem isLower_any (x : Int) (w : World) : Calls Try.prog 64 #[.int .u8 x] w fun e w' => e = .returned (.bool (lowB x)) ∧ w = w' := by
  unfold lowB
  by_cases h1 : x < 97
  · have b1 : decide (97 ≤ x) = false := by simp; omega
    have e : (!decide (x < 97) && !decide (122 < x)) = false := by simp [h1]
    rw [e]
    clear e h1
    go_enter Try.func64, Try.ntmps64
    go_wp2
    go_ret
    exact ⟨rfl, rfl⟩
  · have b1 : decide (97 ≤ x) = true := by simp; omega
    have e : (!decide (x < 97) && !decide (122 < x)) = decide (x ≤ 122) := by
      rw [Bool.eq_iff_iff]
      simp
      omega
    rw [e]
    clear e h1
    go_enter Try.func64, Try.ntmps64
    go_wp2
    go_ret
    exact ⟨rfl, rfl⟩
theorem isDigit_any (x : Int) (w : World) : Calls Try.prog 66 #[.int .u8 x] w fun e w' => e = .returned (.bool (digB x)) ∧ w = w' := by
  unfold digB
  by_cases h1 : x < 48
  · have b1 : decide (48 ≤ x) = false := by simp; omega
    have e : (!decide (x < 48) && !decide (57 < x)) = false := by simp [h1]
    rw [e]
    clear e h1
    go_enter Try.func66, Try.ntmps66
    go_wp2
    go_ret
    exact ⟨rfl, rfl⟩
  · have b1 : decide (48 ≤ x) = true := by simp; omega
    have e : (!decide (x < 48) && !decide (57 < x)) = decide (x ≤ 57) := by
      rw [Bool.eq_iff_iff]
      simp
      omega
    rw [e]
    clear e h1
    go_enter Try.func66, Try.ntmps66
    go_wp2
    go_ret
    exact ⟨rfl, rfl⟩

def NewWords (w : World) (l : List ByteArray) (e : Ending) (w' : World) : Prop := ∃ v, e = .returned v ∧ ReadsS w' v l ∧ Below w.heap.size w w'
set_option maxRecDepth 100000 in
set_option maxHeartbeats 1000000 in
theorem kindWords_any (w : World) : Calls Try.prog 71 #[] w (NewWords w kwords) := by
  go_enter Try.func71, Try.ntmps71
  go_wp2
  go_ret
  exact ⟨_, rfl, readsS_new w kwords _ 15 rfl rfl (by unfold maxLen; omega), (Below.refl _ _).alloc (Nat.le_refl _) _⟩
set_option maxRecDepth 100000 in
set_option maxHeartbeats 1000000 in
theorem lbReserved_any (w : World) : Calls Try.prog 63 #[] w (NewWords w resW) := by
  go_enter Try.func63, Try.ntmps63
  go_wp2
  go_ret
  exact ⟨_, rfl, readsS_new w resW _ 14 rfl rfl (by unfold maxLen; omega), (Below.refl _ _).alloc (Nat.le_refl _) _⟩

set_option maxHeartbeats 1000000 in
theorem l1HasS_any (v : Value) (l : List ByteArray) (s : ByteArray) (w : World) (h : ReadsS w v l) : Calls Try.prog 62 #[v, .string s] w fun e w' => e = .returned (.bool (hasS l s)) ∧ w = w' := by
  obtain ⟨a, cap, rfl, hm, hc⟩ := open_readsS h
  obtain ⟨n, hn⟩ : ∃ n, l.length = n := ⟨_, rfl⟩
  obtain ⟨r, hr⟩ : ∃ r, hasS l s = r := ⟨_, rfl⟩
  have HR := Lib.hid hr
  have HN := Lib.hid hn
  have HC := Lib.hid hc
  rw [hr]
  rw [hn] at hm ⊢
  clear h hn hr hc
  go_enter Try.func62, Try.ntmps62
  go_wp2
  go_loop [9, 6] (fun i x => ∃ k : Nat, k ≤ n ∧ i = .int .i64 k ∧ Hid (∀ j, j < k → ((sAt l j).toList == s.toList) = false)) (fun i _ => n + 1 - (intOf i).toNat)
  case atStart => exact ⟨0, by omega, rfl, Lib.hid fun j hj => by omega⟩
  case round =>
    obtain ⟨k, hk, rfl, H⟩ := hrel
    by_cases hlt : k < n
    · obtain ⟨g, off, rfl, _, hx⟩ := HC.out k (by rw [HN.out]; exact hlt)
      have hk0 : 0 ≤ (k : Int) := by omega
      have hkn : (k : Int) < (n : Int) := by omega
      cases he : ((sAt l k).toList == s.toList) with
      | true =>
        have hrt : Hid (r = true) := by
          show _ = _
          rw [← HR.out]
          unfold hasS
          rw [List.any_eq_true]
          have hkl : k < l.length := by rw [HN.out]; exact hlt
          exact ⟨l[k], List.getElem_mem hkl, by rw [← sAt_eq l k hkl]; exact he⟩
        go_wp2
        go_ret
        exact ⟨ret_bool hrt.out.symm, rfl⟩
      | false =>
        have hnx : Hid (∀ j, j < k + 1 → ((sAt l j).toList == s.toList) = false) := Lib.hid fun j hj => by
          by_cases hjk : j < k
          · exact H.out j hjk
          · obtain rfl : j = k := by omega
            exact he
        go_wp2
        go_round
        case rel => exact ⟨k + 1, by omega, by go_num, hnx⟩
        case measure => simp [intOf]; omega
    · obtain rfl : k = n := by omega
      have hrf : Hid (r = false) := by
        show _ = _
        rw [← HR.out]
        unfold hasS
        rw [List.any_eq_false]
        intro x hx
        obtain ⟨i, hi, rfl⟩ := List.mem_iff_getElem.1 hx
        have := H.out i (by rw [← HN.out]; exact hi)
        rw [sAt_eq l i hi] at this
        simp [this]
      go_wp2
      go_ret
      exact ⟨ret_bool hrf.out.symm, rfl⟩

end Ints
end Go.Proofs.Ytoegbphkheohoaa
