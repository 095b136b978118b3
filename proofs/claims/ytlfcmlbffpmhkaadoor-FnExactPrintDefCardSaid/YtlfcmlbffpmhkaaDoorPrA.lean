/- Printing: the texts of leaves, brackets, what a tree is. -/
import Derived.Test.YtlfcmlbffpmhkaaDoorTreeW
import Derived.Shelf.Strconv.Itoa1
import Derived.Laws.BytesString
import Derived.Laws.Concat
namespace Go.Proofs.YtlfcmlbffpmhkaaDoor
open Go.RowKit
namespace Ints

set_option maxRecDepth 100000 in
set_option maxHeartbeats 2000000 in
theorem itoaSmall_any (i : Nat) (h : i < 100) (w : World) : Calls Tryd.prog 89 #[.int .i64 i] w fun e w' => e = .returned (.string ⟨(Lib.decDigits i).toArray⟩) ∧ w = w' := by
  have hu9 := Tryd.underlying9
  go_enter Tryd.func89, Tryd.ntmps89
  go_name_bytes_deep 45 SM hSM
  have eSM : SM = Lib.smalls := by rw [← hSM]; decide +kernel
  subst eSM
  clear hSM
  go_name_bytes_deep 30 DG hDG
  have eDG : DG = Lib.digits36 := by rw [← hDG]; decide +kernel
  subst eDG
  clear hDG
  by_cases h10 : i < 10
  · have hsl : ∀ w, (Instr.slice 9 (.string Lib.digits36) (some (.int .i64 (i : Int))) (some (.int .i64 ((i : Int) + 1))) none).run Tryd.prog w = .ok (.string (Lib.digits36.extract i (i + 1))) w := fun w => by
      rw [run_slice_string w 9 Lib.digits36 .i64 .i64 _ _ hu9 (by omega) (by omega) (by rw [Lib.digits36_size]; omega), show ((i : Int)).toNat = i by omega, show ((i : Int) + 1).toNat = i + 1 by omega]
    go_wp2
    go_ret
    refine ⟨?_, rfl⟩
    show Ending.returned (Value.string (Lib.digits36.extract i (i + 1))) = _
    rw [AnyPlain.small_ba (Lib.digits36.extract i (i + 1)) (Lib.decDigits i) (by rw [Lib.extract_data]; exact Lib.digits36_piece h10)]
  · have hsl : ∀ w, (Instr.slice 9 (.string Lib.smalls) (some (.int .i64 ((i : Int) * 2))) (some (.int .i64 ((i : Int) * 2 + 2))) none).run Tryd.prog w = .ok (.string (Lib.smalls.extract (i * 2) (i * 2 + 2))) w := fun w => by
      rw [run_slice_string w 9 Lib.smalls .i64 .i64 _ _ hu9 (by omega) (by omega) (by rw [Lib.smalls_size]; omega), show ((i : Int) * 2).toNat = i * 2 by omega, show ((i : Int) * 2 + 2).toNat = i * 2 + 2 by omega]
    go_wp2
    go_ret
    refine ⟨?_, rfl⟩
    show Ending.returned (Value.string (Lib.smalls.extract (i * 2) (i * 2 + 2))) = _
    rw [AnyPlain.small_ba (Lib.smalls.extract (i * 2) (i * 2 + 2)) (Lib.decDigits i) (by rw [Lib.extract_data]; exact Lib.smalls_piece h10 h)]
theorem decS_nat : ∀ i : Fin 100, decS (i.val : Int) = ⟨(Lib.decDigits i.val).toArray⟩ := by decide +kernel
set_option maxRecDepth 100000 in
theorem itoaFmt_any (i : Nat) (h : i < 100) (w : World) : Calls Tryd.prog 88 #[.int .i64 i, .int .i64 10] w fun e w' => e = .returned (.string (decS (i : Int))) ∧ w = w' := by
  have hs := Lib.hid (fun W => itoaSmall_any i h W)
  have e := decS_nat ⟨i, h⟩
  dsimp only at e
  rw [e]
  clear e
  go_enter Tryd.func88, Tryd.ntmps88
  go_wp2_with (go_at_call 89; ((with_reducible refine (hs.out _).mono ?_); rintro e w' ⟨rfl, rfl⟩))
  go_ret
  exact ⟨rfl, rfl⟩
set_option maxRecDepth 100000 in
theorem itoaIn_any (i : Nat) (h : i < 100) (w : World) : Calls Tryd.prog 86 #[.int .i64 i] w fun e w' => e = .returned (.string (decS (i : Int))) ∧ w = w' := by
  have hs := Lib.hid (fun W => itoaFmt_any i h W)
  go_enter Tryd.func86, Tryd.ntmps86
  go_wp2_with (go_at_call 88; ((with_reducible refine (hs.out _).mono ?_); rintro e w' ⟨rfl, rfl⟩))
  go_ret
  exact ⟨rfl, rfl⟩
set_option maxRecDepth 100000 in
theorem itoa_any (v : Int) (h0 : 0 ≤ v) (h : v < 100) (w : World) : Calls Tryd.prog 71 #[.int .i64 v] w fun e w' => e = .returned (.string (decS v)) ∧ w = w' := by
  obtain ⟨i, rfl⟩ := Int.eq_ofNat_of_zero_le h0
  have hs := Lib.hid (fun W => itoaIn_any i (by omega) W)
  go_enter Tryd.func71, Tryd.ntmps71
  go_wp2_with (go_at_call 86; ((with_reducible refine (hs.out _).mono ?_); rintro e w' ⟨rfl, rfl⟩))
  go_ret
  exact ⟨rfl, rfl⟩

theorem hasV_any (k : Int) (w : World) : Calls Tryd.prog 69 #[.int .i64 k] w fun e w' => e = .returned (.bool (decide (k = 7 ∨ k = 13))) ∧ w = w' := by
  by_cases h7 : k = 7
  · subst h7
    go_enter Tryd.func69, Tryd.ntmps69
    go_wp2
    go_ret
    exact ⟨rfl, rfl⟩
  · have b7 : (k == 7) = false := by simpa using h7
    have e : decide (k = 7 ∨ k = 13) = (k == 13) := by rw [Bool.eq_iff_iff]; simp [h7]
    rw [e]
    clear e h7
    go_enter Tryd.func69, Tryd.ntmps69
    go_wp2
    go_ret
    exact ⟨rfl, rfl⟩

theorem brk_any (s : ByteArray) (b : Bool) (hs : s.size ≤ 100000) (w : World) : Calls Tryd.prog 45 #[.string s, .bool b] w fun e w' => e = .returned (.string (brkS s b)) ∧ w = w' := by
  cases b with
  | false =>
    have e : Hid (brkS s false = s) := Lib.hid rfl
    go_enter Tryd.func45, Tryd.ntmps45
    go_wp2
    go_ret
    exact ⟨by rw [e.out]; rfl, rfl⟩
  | true =>
    have e : Hid (brkS s true = ⟨#[40]⟩ ++ s ++ ⟨#[41]⟩) := Lib.hid rfl
    go_enter Tryd.func45, Tryd.ntmps45
    go_wp2
    go_ret
    exact ⟨by rw [e.out]; rfl, rfl⟩

theorem as_seq_seq (a b : Value) (W : World) : (Instr.typeAssert (.iface 84 (.agg #[a, b])) 56 84 true).run Tryd.prog W = .ok (.tuple #[.agg #[a, b], .bool true]) W := by kernel_rfl
theorem as_par_seq (v : Value) (W : World) : (Instr.typeAssert (.iface 87 v) 56 84 true).run Tryd.prog W = .ok (.tuple #[.agg #[.nilIface, .nilIface], .bool false]) W := by kernel_rfl
theorem as_leaf_seq (v : Value) (W : World) : (Instr.typeAssert (.iface 89 v) 56 84 true).run Tryd.prog W = .ok (.tuple #[.agg #[.nilIface, .nilIface], .bool false]) W := by kernel_rfl
theorem as_par_par (a b : Value) (W : World) : (Instr.typeAssert (.iface 87 (.agg #[a, b])) 56 87 true).run Tryd.prog W = .ok (.tuple #[.agg #[a, b], .bool true]) W := by kernel_rfl
theorem as_seq_par (v : Value) (W : World) : (Instr.typeAssert (.iface 84 v) 56 87 true).run Tryd.prog W = .ok (.tuple #[.agg #[.nilIface, .nilIface], .bool false]) W := by kernel_rfl
theorem as_leaf_par (v : Value) (W : World) : (Instr.typeAssert (.iface 89 v) 56 87 true).run Tryd.prog W = .ok (.tuple #[.agg #[.nilIface, .nilIface], .bool false]) W := by kernel_rfl
theorem as_leaf_leaf (v : Value) (W : World) : (Instr.typeAssert (.iface 89 v) 56 89 true).run Tryd.prog W = .ok (.tuple #[v, .bool true]) W := by kernel_rfl

set_option maxHeartbeats 1000000 in
theorem isSeq_any (t : TreeL) (w : World) : Calls Tryd.prog 46 #[valT t] w fun e w' => e = .returned (.bool (isSeqT t)) ∧ Below w.heap.size w w' := by
  have h1 := as_seq_seq
  have h2 := as_par_seq
  have h3 := as_leaf_seq
  cases t with
  | leaf n =>
    show Calls Tryd.prog 46 #[.iface 89 (.agg #[.int .i64 n.kind, .int .i64 n.value, .string n.name])] w fun e w' => e = .returned (.bool false) ∧ Below w.heap.size w w'
    have HB := Lib.hid (below_alloc (o := .cells #[.nilIface, .nilIface] 84) (Below.refl w.heap.size w))
    go_enter Tryd.func46, Tryd.ntmps46
    go_wp2
    go_ret
    exact ⟨rfl, HB.out⟩
  | seq a b =>
    show Calls Tryd.prog 46 #[.iface 84 (.agg #[valT a, valT b])] w fun e w' => e = .returned (.bool true) ∧ Below w.heap.size w w'
    obtain ⟨ta, ua, ha⟩ := valT_form a
    obtain ⟨tb, ub, hb⟩ := valT_form b
    rw [ha, hb]
    clear ha hb
    have HB := Lib.hid (below_alloc (o := .cells #[.iface ta ua, .iface tb ub] 84) (Below.refl w.heap.size w))
    go_enter Tryd.func46, Tryd.ntmps46
    go_wp2
    go_ret
    exact ⟨rfl, HB.out⟩
  | par a b =>
    show Calls Tryd.prog 46 #[.iface 87 (.agg #[valT a, valT b])] w fun e w' => e = .returned (.bool false) ∧ Below w.heap.size w w'
    have HB := Lib.hid (below_alloc (o := .cells #[.nilIface, .nilIface] 84) (Below.refl w.heap.size w))
    go_enter Tryd.func46, Tryd.ntmps46
    go_wp2
    go_ret
    exact ⟨rfl, HB.out⟩
set_option maxHeartbeats 1000000 in
theorem isPar_any (t : TreeL) (w : World) : Calls Tryd.prog 47 #[valT t] w fun e w' => e = .returned (.bool (isParT t)) ∧ Below w.heap.size w w' := by
  have h1 := as_par_par
  have h2 := as_seq_par
  have h3 := as_leaf_par
  cases t with
  | leaf n =>
    show Calls Tryd.prog 47 #[.iface 89 (.agg #[.int .i64 n.kind, .int .i64 n.value, .string n.name])] w fun e w' => e = .returned (.bool false) ∧ Below w.heap.size w w'
    have HB := Lib.hid (below_alloc (o := .cells #[.nilIface, .nilIface] 87) (Below.refl w.heap.size w))
    go_enter Tryd.func47, Tryd.ntmps47
    go_wp2
    go_ret
    exact ⟨rfl, HB.out⟩
  | par a b =>
    show Calls Tryd.prog 47 #[.iface 87 (.agg #[valT a, valT b])] w fun e w' => e = .returned (.bool true) ∧ Below w.heap.size w w'
    obtain ⟨ta, ua, ha⟩ := valT_form a
    obtain ⟨tb, ub, hb⟩ := valT_form b
    rw [ha, hb]
    clear ha hb
    have HB := Lib.hid (below_alloc (o := .cells #[.iface ta ua, .iface tb ub] 87) (Below.refl w.heap.size w))
    go_enter Tryd.func47, Tryd.ntmps47
    go_wp2
    go_ret
    exact ⟨rfl, HB.out⟩
  | seq a b =>
    show Calls Tryd.prog 47 #[.iface 84 (.agg #[valT a, valT b])] w fun e w' => e = .returned (.bool false) ∧ Below w.heap.size w w'
    have HB := Lib.hid (below_alloc (o := .cells #[.nilIface, .nilIface] 87) (Below.refl w.heap.size w))
    go_enter Tryd.func47, Tryd.ntmps47
    go_wp2
    go_ret
    exact ⟨rfl, HB.out⟩

end Ints
end Go.Proofs.YtlfcmlbffpmhkaaDoor
