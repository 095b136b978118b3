/- Lists of rows, gathered by append: copies, unit rows. -/
import Derived.Test.YtimjlcnljefbbaaRowFn
import Derived.OwnWalk
namespace Go.Proofs.Ytimjlcnljefbbaa
open Go.RowKit
namespace Ints

/-- 'make([]T, 0, n)'. -/
theorem wpList_make_room {P : Program} (w : World) {ops : Array Oper} {rest : List Oper} {o : Oper} {a : Act} {Q : Exit → Act → World → Prop}
    (hgd : o.guard = none) (l c : Operand) (t : TypeId) (hop : o.op = Op.makeSlice t l c)
    (e : TypeId) (z : Value) (bytes : Nat) (ht : P.underlying t = some (.slice e)) (hinfo : (P.info? e).map (fun i => (i.zero, i.size, i.bytes)) = some (some z, 1, bytes))
    (n : Nat) (hl : a.eval l = .int .i64 0) (hc : a.eval c = .int .i64 (n : Int)) (b2 : bytes * n ≤ 281474976710656) (b3 : n ≤ maxLen)
    (hK : ∀ w', w'.ownsRow w.heap.size e 1 (.slice (some ⟨w.heap.size, 0, none⟩) 0 n) 0 [] → Below w.heap.size w w' → wpList P ops Q rest (a.put o.dst (.slice (some ⟨w.heap.size, 0, none⟩) 0 n)) w') :
    wpList P ops Q (o :: rest) a w := by
  obtain ⟨i, hi, hz, hsize, hby⟩ := info_parts hinfo
  refine wpList_make_own w hgd l c t hop w.heap.size e i z 1 ht hi hz hsize .i64 .i64 _ n hl hc rfl (by rw [hby]; exact b2) b3 (Nat.le_refl _) fun w' h1 h2 => hK w' h1 ?_
  exact (Below.refl _ _).grown h2 (Nat.le_refl _) (fun k hk => by cases hk)

/-- One row more behind the others: the row in new memory, then the append. -/
theorem push_row {w w0 w2 w3 : World} {base k : Nat} {rs : List Value} {L : List (List Int)} {l : List Int} {o v : Value} {S : Nat → Prop}
    (hown : w0.ownsRow base 36 1 o k rs) (hrows : RowsOwn S w0 rs L) (hb : Below base w w0) (hS : ∀ g, w0.heap.size ≤ g → S g) (hbase : base ≤ w0.heap.size)
    (ho : Owns w2 3 1 v l.length (ofL l)) (hf : blkIn (w0.heap.size ≤ ·) v (ofL l)) (hb2 : Below w0.heap.size w0 w2) (hg : w2.grownBy w3 o.ownBlock) :
    RowsOwn S w3 (rs ++ [v]) (L ++ [l]) ∧ Below base w w3 := by
  have hown2 := ownsRow_below hown hb2
  exact ⟨(hrows.snoc hb2 ho hf hS).grown hown2 hg, Below.grownRow (hb.trans (hb2.mono hbase)) hown2 hg (Nat.le_trans hbase hb2.size)⟩

theorem unitRow_take (n k : Nat) (h : k < n) : (idT n).take (k + 1) = (idT n).take k ++ [rowT n fun j => if k = j then 1 else 0] := by
  rw [take_oneL (idT n) k (by rw [idT, tabT_length]; exact h), idT, tabT_at h]

set_option maxHeartbeats 2000000 in
theorem identityRows_any (n : Nat) (hn : n ≤ 1000) (w : World) : Calls Try.prog 42 #[.int .i64 n] w (NewRows w (idT n)) := by
  have hl := Lib.hid (show (idT n).length = n by rw [idT, tabT_length])
  have hown0 := Lib.hid (World.ownsRow_lit (base := w.heap.size) (size := 1) (e := 36) w #[] 0 (Nat.le_refl _) (Nat.zero_le _) (by simp))
  have hb0 := Lib.hid ((Below.refl w.heap.size w).alloc (Nat.le_refl _) (.cells #[] 36))
  have hm2 := Lib.hid (show n ≤ maxLen by unfold maxLen; omega)
  have hnm : n ≤ 9223372036854775807 := by omega
  go_enter Try.func42, Try.ntmps42
  go_wp2
  go_loopw [3, 7] (fun o i wr => ∃ (k : Nat) (rs : List Value), k ≤ n ∧ i = .int .i64 k ∧ wr.ownsRow w.heap.size 36 1 o k rs ∧ RowsOwn (w.heap.size ≤ ·) wr rs ((idT n).take k) ∧ Below w.heap.size w wr) (fun _ i _ => n + 1 - (intOf i).toNat)
  case atStart => exact ⟨0, [], by omega, rfl, hown0.out, RowsOwn.nil _ _, hb0.out⟩
  case round =>
    obtain ⟨k, rs, hk, rfl, hown, hrows, hb⟩ := hrel
    by_cases hlt : k < n
    · have HO := Lib.hid hown
      have HR := Lib.hid hrows
      have HB := Lib.hid hb
      have htk := Lib.hid (unitRow_take n k hlt)
      have hsz := Lib.hid hb.size
      clear hown hrows hb
      have hk0 : 0 ≤ (k : Int) := by omega
      have hkn : (k : Int) < (n : Int) := by omega
      obtain ⟨W0, hW0⟩ : ∃ W, W = wr := ⟨_, rfl⟩
      rw [← hW0] at HO HR HB hsz ⊢
      clear hW0 wr
      have hcall := Lib.hid (unit_any n k hn hlt W0)
      go_wp2_with fail
      refine hcall.out.mono ?_
      rintro e w2 ⟨v2, rfl, ho2, hf2, hb2⟩
      rw [rowT_length] at ho2
      obtain ⟨a2, c2, rfl⟩ := ho2.form
      have hown2 := Lib.hid (ownsRow_below HO.out hb2)
      have ho2' := Lib.hid ho2
      have hf2' := Lib.hid hf2
      have hb2' := Lib.hid hb2
      have hm3 := Lib.hid (show k + 1 ≤ maxLen by have := hm2.out; omega)
      have hm4 := Lib.hid (show (k + 1) * 24 ≤ 140737488355328 by omega)
      have hsz2 := Lib.hid (show w.heap.size ≤ w2.heap.size from Nat.le_trans hsz.out hb2.size)
      clear ho2 hf2 hb2
      go_wp2_with (at_builtin; go_must (refine wpList_append_one _ rfl _ _ 22 rfl w.heap.size 36 (.slice none 0 0) 24 Try.underlying22 infoS rfl _ _ _ (.slice a2 n c2) hown2.out rfl rfl rfl hm3.out hm4.out hsz2.out ?_); intro v' w3 hown3 hg3)
      have hpush := push_row HO.out HR.out HB.out (fun g hg => Nat.le_trans hsz.out hg) hsz.out (by rw [rowT_length]; exact ho2'.out) hf2'.out hb2'.out hg3
      rw [← htk.out] at hpush
      have H1 := Lib.hid hown3
      have H2 := Lib.hid hpush.1
      have H3 := Lib.hid hpush.2
      clear hown3 hg3 hpush
      go_wp2
      go_roundw
      case rel => exact ⟨k + 1, _, by omega, by go_num, H1.out, H2.out, H3.out⟩
      case measure => simp [intOf]; omega
    · obtain rfl : k = n := by omega
      have h1 := owns_of_row hown hm2.out
      rw [List.take_of_length_le (by rw [hl.out]; exact Nat.le_refl _)] at hrows
      have hfin : Hid (NewRows w (idT k) (.returned u3) wr) := ⟨_, rfl, ⟨rs, by rw [hl.out]; exact h1.1, h1.2, hrows⟩, hb⟩
      clear hown hrows hb h1
      go_wp2
      go_ret
      exact hfin.out

end Ints
end Go.Proofs.Ytimjlcnljefbbaa
