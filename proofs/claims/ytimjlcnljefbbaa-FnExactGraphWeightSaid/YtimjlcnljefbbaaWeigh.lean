/- The weight of a graph, both sides. -/
import Derived.Test.YtimjlcnljefbbaaValidS
import Derived.Test.YtimjlcnljefbbaaHgList
namespace Go.Proofs.Ytimjlcnljefbbaa
open Go.RowKit
namespace Ints
open Fld (inR)

def weightsB (l : List Int) : Bool := decide (l.length = 14) && l.all fun a => inR a 0 1000

set_option maxHeartbeats 1000000 in
theorem cpWeights_any (v : Value) (l : List Int) (w : World) (h : ReadsI w v l) : Calls Try.prog 63 #[v] w fun e w' => e = .returned (.bool (weightsB l)) ∧ w = w' := by
  have hc := Lib.hid (fun (_ : Unit) => l1All_any v l.length l 0 1000 w h)
  obtain ⟨a, c, rfl⟩ := h.form
  by_cases h14 : l.length = 14
  · have e : weightsB l = l.all fun a => inR a 0 1000 := by simp [weightsB, h14]
    have b : ((l.length : Int) == 14) = true := by simp; omega
    rw [e]
    clear e h14 h
    go_enter Try.func63, Try.ntmps63
    go_wp2_with (go_at_call 50; ((with_reducible refine (hc.out ()).mono ?_); rintro e w' ⟨rfl, rfl⟩))
    go_ret
    exact ⟨rfl, rfl⟩
  · have e : weightsB l = false := by simp [weightsB, h14]
    have b : ((l.length : Int) == 14) = false := by simp; omega
    rw [e]
    clear e h14 h
    go_enter Try.func63, Try.ntmps63
    go_wp2
    go_ret
    exact ⟨rfl, rfl⟩

set_option maxHeartbeats 1000000 in
theorem areWeights_any (v : Value) (l : List Int) (w : World) (h : ReadsI w v l) : Calls Try.prog 67 #[v] w fun e w' => e = .returned (.bool (weightsB l)) ∧ w = w' := by
  have hc := Lib.hid (fun (_ : Unit) => areBelow_any v l.length l 1001 (by omega) (by omega) w h)
  obtain ⟨a, c, rfl⟩ := h.form
  have e1 : (1001 : Int) - 1 = 1000 := rfl
  simp only [e1] at hc
  by_cases h14 : l.length = 14
  · have e : weightsB l = l.all fun a => inR a 0 1000 := by simp [weightsB, h14]
    have b : ((l.length : Int) == 14) = true := by simp; omega
    rw [e]
    clear e h14 h
    go_enter Try.func67, Try.ntmps67
    go_wp2_with (go_at_call 52; ((with_reducible refine (hc.out ()).mono ?_); rintro e w' ⟨rfl, rfl⟩))
    go_ret
    exact ⟨rfl, rfl⟩
  · have e : weightsB l = false := by simp [weightsB, h14]
    have b : ((l.length : Int) == 14) = false := by simp; omega
    rw [e]
    clear e h14 h
    go_enter Try.func67, Try.ntmps67
    go_wp2
    go_ret
    exact ⟨rfl, rfl⟩

end Ints
end Go.Proofs.Ytimjlcnljefbbaa
