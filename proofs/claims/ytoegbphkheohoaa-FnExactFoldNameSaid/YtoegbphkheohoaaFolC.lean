/- Folding: slices.Concat of two rows of nodes. -/
import Derived.Test.YtoegbphkheohoaaFolG
namespace Go.Proofs.Ytoegbphkheohoaa
open Go.RowKit
namespace Ints

set_option maxRecDepth 100000 in
set_option maxHeartbeats 2000000 in
theorem concat_any (va vb : Value) (xs ys : List NodeL) (b : Nat) (w : World) (ha : ReadsN w va xs) (hb : ReadsN w vb ys) (hx : w.cell? ⟨b, 0, none⟩ = some va) (hy : w.cell? ⟨b, 1, none⟩ = some vb) (hl : xs.length + ys.length ≤ 100000) :
    Calls Try.prog 92 #[.slice (some ⟨b, 0, none⟩) 2 2] w fun e w' => ∃ v, e = .returned v ∧ w'.ownsRow w.heap.size 71 3 v (xs.length + ys.length) (ofN xs ++ ofN ys) ∧ Below w.heap.size w w' := by
  obtain ⟨aa, ca, rfl⟩ := ha.form
  obtain ⟨ab, cb, rfl⟩ := hb.form
  obtain ⟨n, hn⟩ : ∃ n, xs.length = n := ⟨_, rfl⟩
  obtain ⟨m, hm⟩ : ∃ m, ys.length = m := ⟨_, rfl⟩
  unfold ReadsN at ha hb
  rw [hn] at ha hx hl ⊢
  rw [hm] at hb hy hl ⊢
  have HA := Lib.hid ha
  have HBB := Lib.hid hb
  have HX := Lib.hid hx
  have HY := Lib.hid hy
  have HGR := Lib.hid (growNil_any (n + m) (by omega) w)
  have hone := Lib.hid (ofN_one xs)
  have hone2 := Lib.hid (ofN_one ys)
  have hm1 := Lib.hid (show 0 + n ≤ maxLen by unfold maxLen; omega)
  have hm2 := Lib.hid (show (0 + n) * 32 ≤ 140737488355328 by omega)
  have hm3 := Lib.hid (show n + m ≤ maxLen by unfold maxLen; omega)
  have hm4 := Lib.hid (show (n + m) * 32 ≤ 140737488355328 by omega)
  have hwn : IntKind.i64.wrap (n : Int) = (n : Int) := IntWalk.i64_in _ (by omega)
  have hwnm : IntKind.i64.wrap ((n : Int) + (m : Int)) = (n : Int) + (m : Int) := IntWalk.i64_in _ (by omega)
  have hc : ((n + m : Nat) : Int) = (n : Int) + (m : Int) := by omega
  rw [hc] at HGR
  clear ha hb hn hm
  go_enter Try.func92, Try.ntmps92
  go_wp2
  go_loopw [11, 3] (fun i s wr => ∃ k : Nat, k ≤ 2 ∧ i = .int .i64 k ∧ s = .int .i64 (if k = 0 then 0 else if k = 1 then (n : Int) else (n : Int) + (m : Int)) ∧ wr = w) (fun i _ _ => 3 - (intOf i).toNat)
  case atStart => exact ⟨0, by omega, rfl, rfl, rfl⟩
  case round =>
    obtain ⟨k, hk, rfl, rfl, rfl⟩ := hrel
    rcases (show k = 0 ∨ k = 1 ∨ k = 2 by omega) with rfl | rfl | rfl
    · have h0 : ¬ (n : Int) < 0 := by omega
      go_wp2
      go_roundw
      case rel => exact ⟨1, by omega, by first | rfl | simp, by first | rfl | simp, by first | rfl | trivial⟩
      case measure => simp [intOf]
    · have h0 : ¬ (n : Int) + (m : Int) < 0 := by omega
      go_wp2
      go_roundw
      case rel => exact ⟨2, by omega, by first | rfl | simp, by first | rfl | simp, by first | rfl | trivial⟩
      case measure => simp [intOf]
    · go_wp2_with fail
      refine HGR.out.mono ?_
      rintro e w2 ⟨v2, rfl, ho2, hb2⟩
      have H0 : Hid (w2.ownsRow wr.heap.size 71 3 v2 0 [] ∧ Below wr.heap.size wr w2) := Lib.hid ⟨ho2, hb2⟩
      clear ho2 hb2
      go_wp2
      go_loopw [27, 6] (fun i s wq => ∃ (k : Nat) (o : Value), k ≤ 2 ∧ i = .int .i64 k ∧ o = s ∧ Hid (wq.ownsRow wr.heap.size 71 3 o (if k = 0 then 0 else if k = 1 then n else n + m) (if k = 0 then [] else if k = 1 then ofN xs else ofN xs ++ ofN ys) ∧ Below wr.heap.size wr wq)) (fun i _ _ => 3 - (intOf i).toNat)
      case atStart => exact ⟨0, _, by omega, rfl, rfl, H0⟩
      case round =>
        rename World => wq
        obtain ⟨k, o, hk, rfl, rfl, H⟩ := hrel
        rcases (show k = 0 ∨ k = 1 ∨ k = 2 by omega) with rfl | rfl | rfl
        · have hO : Hid (wq.ownsRow wr.heap.size 71 3 o 0 []) := Lib.hid H.out.1
          have HR := Lib.hid (HA.out.below H.out.2)
          have x0 := cell_old H.out.2 HX.out
          have hz := Lib.hid H.out.2.size
          obtain ⟨a6, c6, rfl⟩ := ownsRow_form' hO.out
          go_wp2_with (at_builtin; refine wpList_append_reads _ rfl _ _ 33 rfl wr.heap.size 71 (.agg #[.int .i64 0, .int .i64 0, .string ByteArray.empty]) 3 32 Try.underlying33 infoNode rfl (by decide) _ 0 [] hO.out _ n (ofN xs) HR.out rfl rfl hone.out hm1.out hm2.out hz.out ?_; intro v' w4 hown1 hg1; rw [Nat.zero_add, List.nil_append] at hown1; obtain ⟨av, cv, rfl⟩ := ownsRow_form' hown1)
          have hnew := Lib.hid (And.intro hown1 (Below.grownRow H.out.2 hO.out hg1 hz.out))
          clear hown1 hg1
          go_wp2
          go_roundw
          case rel => exact ⟨1, _, by omega, by first | rfl | simp, rfl, hnew⟩
          case measure => simp [intOf]
        · have hO : Hid (wq.ownsRow wr.heap.size 71 3 o n (ofN xs)) := Lib.hid H.out.1
          have HR := Lib.hid (HBB.out.below H.out.2)
          have y0 := cell_old H.out.2 HY.out
          have hz := Lib.hid H.out.2.size
          obtain ⟨a6, c6, rfl⟩ := ownsRow_form' hO.out
          go_wp2_with (at_builtin; refine wpList_append_reads _ rfl _ _ 33 rfl wr.heap.size 71 (.agg #[.int .i64 0, .int .i64 0, .string ByteArray.empty]) 3 32 Try.underlying33 infoNode rfl (by decide) _ n (ofN xs) hO.out _ m (ofN ys) HR.out rfl rfl hone2.out hm3.out hm4.out hz.out ?_; intro v' w4 hown1 hg1; obtain ⟨av, cv, rfl⟩ := ownsRow_form' hown1)
          have hnew := Lib.hid (And.intro hown1 (Below.grownRow H.out.2 hO.out hg1 hz.out))
          clear hown1 hg1
          go_wp2
          go_roundw
          case rel => exact ⟨2, _, by omega, by first | rfl | simp, rfl, hnew⟩
          case measure => simp [intOf]
        · have hO : Hid (wq.ownsRow wr.heap.size 71 3 o (n + m) (ofN xs ++ ofN ys) ∧ Below wr.heap.size wr wq) := Lib.hid H.out
          go_wp2
          go_ret
          exact ⟨_, rfl, hO.out.1, hO.out.2⟩

end Ints
end Go.Proofs.Ytoegbphkheohoaa
