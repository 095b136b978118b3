/- Nodes and definitions, as they read: the numbers of cells that the laws count. -/
import Derived.Test.YtoegbphkheohoaaMemB
namespace Go.Proofs.Ytoegbphkheohoaa
open Go.RowKit
namespace Ints

structure NodeL where
  kind : Int
  value : Int
  name : ByteArray
structure DefL where
  name : ByteArray
  inp : Int
  out : Int
  body : List NodeL
def nAt (ns : List NodeL) (k : Nat) : NodeL := ns[k]?.getD ⟨0, 0, ByteArray.empty⟩
def dAt (ds : List DefL) (k : Nat) : DefL := ds[k]?.getD ⟨ByteArray.empty, 0, 0, []⟩
def cellsN (n : NodeL) : List Value := [.int .i64 n.kind, .int .i64 n.value, .string n.name]
def ofN (ns : List NodeL) : List Value := (ns.map cellsN).flatten
theorem nAt_eq (ns : List NodeL) (k : Nat) (h : k < ns.length) : nAt ns k = ns[k] := by simp [nAt, h]
theorem dAt_eq (ds : List DefL) (k : Nat) (h : k < ds.length) : dAt ds k = ds[k] := by simp [dAt, h]
theorem take_oneN (ns : List NodeL) (k : Nat) (h : k < ns.length) : ns.take (k + 1) = ns.take k ++ [nAt ns k] := by
  rw [List.take_succ_eq_append_getElem h, nAt_eq ns k h]
theorem take_oneD (ds : List DefL) (k : Nat) (h : k < ds.length) : ds.take (k + 1) = ds.take k ++ [dAt ds k] := by
  rw [List.take_succ_eq_append_getElem h, dAt_eq ds k h]
theorem ofN_length (ns : List NodeL) : (ofN ns).length = ns.length * 3 := by
  induction ns with
  | nil => rfl
  | cons n ns ih =>
    unfold ofN at ih ⊢
    simp only [List.map_cons, List.flatten_cons, List.length_append, ih, List.length_cons]
    simp [cellsN]
    omega
theorem ofN_append (a b : List NodeL) : ofN (a ++ b) = ofN a ++ ofN b := by simp [ofN]
theorem ofN_at (ns : List NodeL) (k j : Nat) (h : k < ns.length) (hj : j < 3) : (ofN ns)[k * 3 + j]? = (cellsN (nAt ns k))[j]? := by
  have e : ns = ns.take k ++ (nAt ns k :: ns.drop (k + 1)) := by
    rw [nAt_eq ns k h, ← List.drop_eq_getElem_cons h, List.take_append_drop]
  have e2 : ofN ns = ofN (ns.take k) ++ (cellsN (nAt ns k) ++ ofN (ns.drop (k + 1))) := by
    conv => lhs; rw [e]
    rw [ofN_append]
    simp [ofN]
  have hl : (ofN (ns.take k)).length = k * 3 := by rw [ofN_length, List.length_take, Nat.min_eq_left (by omega)]
  rw [e2, List.getElem?_append_right (by omega), hl, Nat.add_sub_cancel_left, List.getElem?_append_left (by simp [cellsN]; omega)]
theorem ofN_nil : ofN [] = [] := rfl
theorem ofN_ne {ns : List NodeL} : ofN ns ≠ [] ↔ ns ≠ [] := by
  rw [ne_eq, ← List.length_eq_zero_iff, ofN_length, ne_eq, ← List.length_eq_zero_iff]
  omega
theorem ofN_one (ns : List NodeL) : ∀ u ∈ ofN ns, u.oneCell' = true := by
  intro u hu
  simp only [ofN, List.mem_flatten, List.mem_map] at hu
  obtain ⟨l, ⟨n, _, rfl⟩, hu⟩ := hu
  simp [cellsN] at hu
  rcases hu with rfl | rfl | rfl <;> rfl

def NodeAt (w : World) (g o : Nat) (n : NodeL) : Prop :=
  w.cell? ⟨g, o, none⟩ = some (.int .i64 n.kind) ∧ w.cell? ⟨g, o + 1, none⟩ = some (.int .i64 n.value) ∧ w.cell? ⟨g, o + 2, none⟩ = some (.string n.name)
def ReadsN (w : World) (v : Value) (ns : List NodeL) : Prop := Reads w 3 v ns.length (ofN ns)
def OwnsN (S : Nat → Prop) (w : World) (v : Value) (ns : List NodeL) : Prop := Owns w 71 3 v ns.length (ofN ns) ∧ blkIn S v (ofN ns)

/-- A definition that stands at an offset of a block; B: its body's value. -/
def DefAt (w : World) (g o : Nat) (d : DefL) (B : Value) : Prop :=
  w.cell? ⟨g, o, none⟩ = some (.string d.name) ∧ w.cell? ⟨g, o + 1, none⟩ = some (.int .i64 d.inp) ∧ w.cell? ⟨g, o + 2, none⟩ = some (.int .i64 d.out) ∧ w.cell? ⟨g, o + 3, none⟩ = some B ∧ ReadsN w B d.body
def ReadsD (w : World) (v : Value) (ds : List DefL) : Prop :=
  ∃ a cap, v = .slice a ds.length cap ∧ ds.length ≤ cap ∧ cap ≤ maxLen ∧ ∀ k, k < ds.length → ∃ g off B, a = some ⟨g, off, none⟩ ∧ DefAt w g (off + k * 4) (dAt ds k) B
/-- The same in blocks among S; no two bodies lie in one block. -/
def OwnsD (S : Nat → Prop) (w : World) (v : Value) (ds : List DefL) : Prop :=
  ∃ a cap Bs, v = .slice a ds.length cap ∧ ds.length ≤ cap ∧ cap ≤ maxLen ∧ (∀ k, k < ds.length → ∃ g off cs, a = some ⟨g, off, none⟩ ∧ S g ∧ w.heap[g]? = some (.cells cs 55 (0, 0)) ∧
    cs[off + k * 4]? = some (.string (dAt ds k).name) ∧ cs[off + k * 4 + 1]? = some (.int .i64 (dAt ds k).inp) ∧ cs[off + k * 4 + 2]? = some (.int .i64 (dAt ds k).out) ∧ cs[off + k * 4 + 3]? = some (vAt Bs k) ∧ OwnsN S w (vAt Bs k) (dAt ds k).body) ∧
    ∀ i j, i < j → j < ds.length → (dAt ds i).body ≠ [] → (dAt ds j).body ≠ [] → (vAt Bs i).ownBlock ≠ (vAt Bs j).ownBlock

section
variable {S T : Nat → Prop} {w w' : World} {v B : Value} {ns : List NodeL} {ds : List DefL} {n : NodeL} {d : DefL} {g o : Nat}
theorem NodeAt.below (h : NodeAt w g o n) (hb : Below w.heap.size w w') : NodeAt w' g o n := ⟨cell_old hb h.1, cell_old hb h.2.1, cell_old hb h.2.2⟩
theorem ReadsN.below (h : ReadsN w v ns) (hb : Below w.heap.size w w') : ReadsN w' v ns := Reads.below h hb
theorem ReadsN.form (h : ReadsN w v ns) : ∃ a cap, v = .slice a ns.length cap := Reads.form h
theorem OwnsN.reads (h : OwnsN S w v ns) : ReadsN w v ns := h.1.reads
theorem OwnsN.mono (h : OwnsN S w v ns) (hST : ∀ g, S g → T g) : OwnsN T w v ns := ⟨h.1, h.2.mono hST⟩
theorem OwnsN.chg (h : OwnsN S w v ns) (hc : Chg T w w') (hd : ∀ g, S g → ¬ T g) : OwnsN S w' v ns := ⟨h.1.chg hc fun g hx hg => hd g (h.2 g hx hg), h.2⟩
theorem OwnsN.below (h : OwnsN S w v ns) (hb : Below w.heap.size w w') : OwnsN S w' v ns := h.chg (T := fun _ => False) (Below.chg hb _) (fun _ _ => id)
theorem OwnsN.bound (h : OwnsN S w v ns) : OwnsN (fun g => S g ∧ g < w.heap.size) w v ns := ⟨h.1, fun g hx hg => ⟨h.2 g hx hg, h.1.reads.lt g hx hg⟩⟩
theorem open_readsN (h : ReadsN w v ns) : ∃ a cap, v = .slice a ns.length cap ∧ ns.length ≤ 9223372036854775807 ∧
    ∀ k, k < ns.length → ∃ g off, a = some ⟨g, off, none⟩ ∧ g < w.heap.size ∧ NodeAt w g (off + k * 3) (nAt ns k) := by
  obtain ⟨h1, a, cap, rfl, h2, h3, h4⟩ := h
  unfold maxLen at h3
  refine ⟨a, cap, rfl, by omega, fun k hk => ?_⟩
  have hl := ofN_length ns
  obtain ⟨g, off, rfl, hc⟩ := h4 (by omega)
  have c0 := hc (k * 3 + 0) (by omega)
  have c1 := hc (k * 3 + 1) (by omega)
  have c2 := hc (k * 3 + 2) (by omega)
  rw [ofN_at ns k 0 hk (by omega)] at c0
  rw [ofN_at ns k 1 hk (by omega)] at c1
  rw [ofN_at ns k 2 hk (by omega)] at c2
  rw [← Nat.add_assoc] at c1 c2
  exact ⟨g, off, rfl, lt_of_cell c1, c0, c1, c2⟩
/-- A slice of nodes, from its elements. -/
theorem readsN_of (a : Option Addr) (cap : Nat) (h1 : ns.length ≤ cap) (h2 : cap ≤ maxLen) (h : ∀ k, k < ns.length → ∃ g off, a = some ⟨g, off, none⟩ ∧ NodeAt w g (off + k * 3) (nAt ns k)) : ReadsN w (.slice a ns.length cap) ns := by
  refine ⟨ofN_length ns, a, cap, rfl, h1, h2, fun hp => ?_⟩
  rw [ofN_length] at hp
  obtain ⟨g, off, rfl, _⟩ := h 0 (by omega)
  refine ⟨g, off, rfl, fun j hj => ?_⟩
  rw [ofN_length] at hj
  have hk : j / 3 < ns.length := by omega
  obtain ⟨g', off', e, k0, k1, k2⟩ := h (j / 3) hk
  simp only [Option.some.injEq, Addr.mk.injEq, and_true] at e
  obtain ⟨rfl, rfl⟩ := e
  have hj3 : j = j / 3 * 3 + j % 3 := by omega
  have hm : j % 3 < 3 := Nat.mod_lt _ (by omega)
  rw [hj3, ofN_at ns (j / 3) (j % 3) hk hm, ← Nat.add_assoc]
  rcases (by omega : j % 3 = 0 ∨ j % 3 = 1 ∨ j % 3 = 2) with e | e | e <;> rw [e]
  · exact k0
  · exact k1
  · exact k2
theorem DefAt.below (h : DefAt w g o d B) (hb : Below w.heap.size w w') : DefAt w' g o d B :=
  ⟨cell_old hb h.1, cell_old hb h.2.1, cell_old hb h.2.2.1, cell_old hb h.2.2.2.1, h.2.2.2.2.below hb⟩
theorem ReadsD.below (h : ReadsD w v ds) (hb : Below w.heap.size w w') : ReadsD w' v ds := by
  obtain ⟨a, cap, h1, h2, h3, h4⟩ := h
  refine ⟨a, cap, h1, h2, h3, fun k hk => ?_⟩
  obtain ⟨g, off, B, h5, h6⟩ := h4 k hk
  exact ⟨g, off, B, h5, h6.below hb⟩
theorem ReadsD.form (h : ReadsD w v ds) : ∃ a c, v = .slice a ds.length c := by
  obtain ⟨a, cap, h1, _⟩ := h
  exact ⟨a, cap, h1⟩
theorem ReadsD.reads (h : ReadsD w v ds) : ReadsD w v ds := h
/-- The first definitions. -/
theorem ReadsD.take (h : ReadsD w v ds) {i : Nat} (hi : i ≤ ds.length) : ∃ a cap, v = .slice a ds.length cap ∧ ds.length ≤ cap ∧ cap ≤ maxLen ∧ ReadsD w (.slice a i cap) (ds.take i) := by
  obtain ⟨a, cap, h1, h2, h3, h4⟩ := h
  have hl : (ds.take i).length = i := by rw [List.length_take]; omega
  refine ⟨a, cap, h1, h2, h3, a, cap, by rw [hl], by omega, h3, fun k hk => ?_⟩
  obtain ⟨g, off, B, h5, h6⟩ := h4 k (by omega)
  have e : dAt (ds.take i) k = dAt ds k := by unfold dAt; rw [List.getElem?_take, if_pos (by omega)]
  rw [e]
  exact ⟨g, off, B, h5, h6⟩
theorem OwnsD.reads (h : OwnsD S w v ds) : ReadsD w v ds := by
  obtain ⟨a, cap, Bs, h1, h2, h3, h4, _⟩ := h
  refine ⟨a, cap, h1, h2, h3, fun k hk => ?_⟩
  obtain ⟨g, off, cs, h5, _, hg, c0, c1, c2, c3, h6⟩ := h4 k hk
  refine ⟨g, off, _, h5, ?_, ?_, ?_, ?_, h6.reads⟩
  · rw [cell_of_row w g _ cs _ (0, 0) hg]; exact c0
  · rw [cell_of_row w g _ cs _ (0, 0) hg]; exact c1
  · rw [cell_of_row w g _ cs _ (0, 0) hg]; exact c2
  · rw [cell_of_row w g _ cs _ (0, 0) hg]; exact c3
theorem OwnsD.mono (h : OwnsD S w v ds) (hST : ∀ g, S g → T g) : OwnsD T w v ds := by
  obtain ⟨a, cap, Bs, h1, h2, h3, h4, h5⟩ := h
  refine ⟨a, cap, Bs, h1, h2, h3, fun k hk => ?_, h5⟩
  obtain ⟨g, off, cs, e, hS, hg, c0, c1, c2, c3, h6⟩ := h4 k hk
  exact ⟨g, off, cs, e, hST g hS, hg, c0, c1, c2, c3, h6.mono hST⟩
theorem OwnsD.chg (h : OwnsD S w v ds) (hc : Chg T w w') (hd : ∀ g, S g → ¬ T g) : OwnsD S w' v ds := by
  obtain ⟨a, cap, Bs, h1, h2, h3, h4, h5⟩ := h
  refine ⟨a, cap, Bs, h1, h2, h3, fun k hk => ?_, h5⟩
  obtain ⟨g, off, cs, e, hS, hg, c0, c1, c2, c3, h6⟩ := h4 k hk
  exact ⟨g, off, cs, e, hS, (hc.block g (Array.getElem?_eq_some_iff.1 hg).1 (hd g hS)).trans hg, c0, c1, c2, c3, h6.chg hc hd⟩
theorem OwnsD.below (h : OwnsD S w v ds) (hb : Below w.heap.size w w') : OwnsD S w' v ds := h.chg (T := fun _ => False) (Below.chg hb _) (fun _ _ => id)
theorem OwnsD.bound (h : OwnsD S w v ds) : OwnsD (fun g => S g ∧ g < w.heap.size) w v ds := by
  obtain ⟨a, cap, Bs, h1, h2, h3, h4, h5⟩ := h
  refine ⟨a, cap, Bs, h1, h2, h3, fun k hk => ?_, h5⟩
  obtain ⟨g, off, cs, e, hS, hg, c0, c1, c2, c3, h6⟩ := h4 k hk
  exact ⟨g, off, cs, e, ⟨hS, (Array.getElem?_eq_some_iff.1 hg).1⟩, hg, c0, c1, c2, c3, h6.bound⟩
/-- A slice of definitions opened at every index. -/
theorem open_readsD (h : ReadsD w v ds) : ∃ a cap, v = .slice a ds.length cap ∧ ds.length ≤ 9223372036854775807 ∧
    ∀ k, k < ds.length → ∃ g off a1 c1, a = some ⟨g, off, none⟩ ∧ g < w.heap.size ∧ DefAt w g (off + k * 4) (dAt ds k) (.slice a1 (dAt ds k).body.length c1) := by
  obtain ⟨a, cap, h1, h2, h3, h4⟩ := h
  unfold maxLen at h3
  refine ⟨a, cap, h1, by omega, fun k hk => ?_⟩
  obtain ⟨g, off, B, h5, h6⟩ := h4 k hk
  obtain ⟨a1, c1, e1⟩ := h6.2.2.2.2.form
  rw [e1] at h6
  exact ⟨g, off, a1, c1, h5, lt_of_cell h6.1, h6⟩
end
theorem ownsN_nil (S : Nat → Prop) (w : World) : OwnsN S w (.slice none 0 0) [] :=
  ⟨⟨rfl, none, 0, rfl, Nat.le_refl _, Nat.zero_le _, fun h => by simp [ofN] at h⟩, fun g h => absurd rfl h⟩

def totN (ns : List NodeL) : Nat := ns.length + (ns.map fun n => n.name.size).sum
def cellsD (d : DefL) : Nat := d.name.size + totN d.body
def totD (ds : List DefL) : Nat := ds.length + (ds.map cellsD).sum
theorem sumN_succ (ns : List NodeL) (k : Nat) (h : k < ns.length) : ((ns.take (k + 1)).map fun n => n.name.size).sum = ((ns.take k).map fun n => n.name.size).sum + (nAt ns k).name.size := by
  rw [take_oneN ns k h]; simp
theorem sumN_le (ns : List NodeL) (k : Nat) : ((ns.take k).map fun n => n.name.size).sum ≤ (ns.map fun n => n.name.size).sum := by
  have h : (ns.map fun n => n.name.size).sum = ((ns.take k).map fun n => n.name.size).sum + ((ns.drop k).map fun n => n.name.size).sum := by
    conv => lhs; rw [← List.take_append_drop k ns]
    rw [List.map_append, List.sum_append_nat]
  omega
theorem sumD_succ (ds : List DefL) (k : Nat) (h : k < ds.length) : ((ds.take (k + 1)).map cellsD).sum = ((ds.take k).map cellsD).sum + cellsD (dAt ds k) := by
  rw [take_oneD ds k h]; simp
theorem sumD_le (ds : List DefL) (k : Nat) : ((ds.take k).map cellsD).sum ≤ (ds.map cellsD).sum := by
  have h : (ds.map cellsD).sum = ((ds.take k).map cellsD).sum + ((ds.drop k).map cellsD).sum := by
    conv => lhs; rw [← List.take_append_drop k ds]
    rw [List.map_append, List.sum_append_nat]
  omega
theorem name_le (ns : List NodeL) (k : Nat) (h : k < ns.length) : (nAt ns k).name.size ≤ totN ns := by
  have h1 := sumN_succ ns k h
  have h2 := sumN_le ns (k + 1)
  unfold totN
  omega
theorem cellsD_le (ds : List DefL) (k : Nat) (h : k < ds.length) : cellsD (dAt ds k) ≤ totD ds := by
  have h1 := sumD_succ ds k h
  have h2 := sumD_le ds (k + 1)
  unfold totD
  omega

end Ints
end Go.Proofs.Ytoegbphkheohoaa
