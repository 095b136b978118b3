/- The laws' helpers over a list of integers, in the form in which the laws' walks ask for them. -/
import Derived.Test.YtapgfgbpcpdnlaaLawBase
import Derived.Test.YtapgfgbpcpdnlaaMatBox
namespace Go.Proofs.Ytapgfgbpcpdnlaa
open Go.RowKit
namespace Ints

/-- A list as it reads, with its length in its value; a list in a block of the call's own among S. -/
def ReadsI (w : World) (v : Value) (l : List Int) : Prop := Reads w 1 v l.length (ofL l)
def OwnsI (S : Nat → Prop) (w : World) (v : Value) (l : List Int) : Prop := Owns w 3 1 v l.length (ofL l) ∧ blkIn S v (ofL l)
def NewI (w : World) (l : List Int) (e : Ending) (w' : World) : Prop := ∃ v, e = .returned v ∧ OwnsI (w.heap.size ≤ ·) w' v l ∧ Below w.heap.size w w'
def totI (l : List Int) : Nat := l.length
def sumI (l : List Int) : Nat := l.length
def marksI (k : Int) (l : List Int) : List Int := marks k l.length

section
variable {S T : Nat → Prop} {w w' : World} {v : Value} {l : List Int}
theorem ReadsI.below (h : ReadsI w v l) (hb : Below w.heap.size w w') : ReadsI w' v l := Reads.below h hb
theorem ReadsI.form (h : ReadsI w v l) : ∃ a cap, v = .slice a l.length cap := Reads.form h
theorem OwnsI.reads (h : OwnsI S w v l) : ReadsI w v l := h.1.reads
theorem OwnsI.mono (h : OwnsI S w v l) (hST : ∀ g, S g → T g) : OwnsI T w v l := ⟨h.1, h.2.mono hST⟩
theorem OwnsI.chg (h : OwnsI S w v l) (hc : Chg T w w') (hd : ∀ g, S g → ¬ T g) : OwnsI S w' v l := ⟨h.1.chg hc fun g hx hg => hd g (h.2 g hx hg), h.2⟩
theorem OwnsI.below (h : OwnsI S w v l) (hb : Below w.heap.size w w') : OwnsI S w' v l := h.chg (T := fun _ => False) (Below.chg hb _) (fun _ _ => id)
theorem OwnsI.bound (h : OwnsI S w v l) : OwnsI (fun g => S g ∧ g < w.heap.size) w v l := ⟨h.1, fun g hx hg => ⟨h.2 g hx hg, h.1.reads.lt g hx hg⟩⟩
end
theorem ownsI_nil (S : Nat → Prop) (w : World) : OwnsI S w (.slice none 0 0) [] :=
  ⟨⟨rfl, none, 0, rfl, Nat.le_refl _, Nat.zero_le _, fun h => by simp [ofL] at h⟩, fun g h => absurd rfl h⟩

theorem toIntS_b (v : Value) (l : List Int) (w : World) (h : ReadsI w v l) (hs : totI l ≤ 1048576) : Calls Try.prog 14 #[v] w (NewI w l) :=
  (toIntS_any v l.length l w h hs).mono fun _ _ ⟨v', h1, h2, h3, h4⟩ => ⟨v', h1, ⟨h2, h3⟩, h4⟩
theorem eqIntS_same (va vb : Value) (l : List Int) (w : World) (ha : ReadsI w va l) (hb : ReadsI w vb l) :
    Calls Try.prog 17 #[va, vb] w fun e w' => e = .returned (.bool true) ∧ Below w.heap.size w w' :=
  (eqIntS_any va vb l.length l.length l l w ha hb).mono fun _ _ h => ⟨by rw [h.1]; simp, h.2.below _⟩
end Ints
end Go.Proofs.Ytapgfgbpcpdnlaa
