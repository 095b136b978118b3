/- Copies of libraries: the program's and the reference's. -/
import Derived.Test.YtlfcmlbffpmhkaaDoorCopy
import Derived.Deep.RegionHeld3
import Derived.Deep.DeepCutAuto
namespace Go.Proofs.YtlfcmlbffpmhkaaDoor
open Go.RowKit
namespace Ints

def cellsV (d : DefL) (B : Value) : List Value := [.string d.name, .int .i64 d.inp, .int .i64 d.out, B]
/-- The cells of definitions whose bodies' values are given. -/
def ofD : List DefL → List Value → List Value
  | d :: ds, B :: Bs => cellsV d B ++ ofD ds Bs
  | _, _ => []
theorem ofD_length : ∀ (ds : List DefL) (Bs : List Value), Bs.length = ds.length → (ofD ds Bs).length = ds.length * 4
  | [], [], _ => rfl
  | d :: ds, B :: Bs, h => by
    have := ofD_length ds Bs (by simpa using h)
    simp only [ofD, cellsV, List.length_append, this, List.length_cons, List.length_nil]
    omega
theorem ofD_snoc : ∀ (ds : List DefL) (Bs : List Value) (d : DefL) (B : Value), Bs.length = ds.length → ofD (ds ++ [d]) (Bs ++ [B]) = ofD ds Bs ++ cellsV d B
  | [], [], _, _, _ => by simp [ofD]
  | _ :: ds, _ :: Bs, d, B, h => by
    have := ofD_snoc ds Bs d B (by simpa using h)
    simp only [List.cons_append, ofD, this, List.append_assoc]
theorem ofD_append : ∀ (ds es : List DefL) (Bs Cs : List Value), Bs.length = ds.length → ofD (ds ++ es) (Bs ++ Cs) = ofD ds Bs ++ ofD es Cs
  | [], _, [], _, _ => by simp [ofD]
  | _ :: ds, es, _ :: Bs, Cs, h => by
    have := ofD_append ds es Bs Cs (by simpa using h)
    simp only [List.cons_append, ofD, this, List.append_assoc]
theorem ofD_at : ∀ (ds : List DefL) (Bs : List Value) (k j : Nat), Bs.length = ds.length → k < ds.length → j < 4 → (ofD ds Bs)[k * 4 + j]? = (cellsV (dAt ds k) (vAt Bs k))[j]?
  | d :: ds, B :: Bs, 0, j, _, _, hj => by
    simp only [ofD, Nat.zero_mul, Nat.zero_add]
    rw [List.getElem?_append_left (by simp [cellsV]; omega)]
    simp [dAt, vAt]
  | d :: ds, B :: Bs, k + 1, j, h, hk, hj => by
    have := ofD_at ds Bs k j (by simpa using h) (by simpa using hk) hj
    simp only [ofD]
    rw [List.getElem?_append_right (by simp [cellsV]; omega)]
    have e : (k + 1) * 4 + j - (cellsV d B).length = k * 4 + j := by simp [cellsV]; omega
    rw [e, this]
    simp [dAt, vAt]
theorem ofD_one (ds : List DefL) : ∀ (Bs : List Value), (∀ B ∈ Bs, B.oneCell' = true) → ∀ u ∈ ofD ds Bs, u.oneCell' = true := by
  induction ds with
  | nil => intro Bs _ u hu; cases Bs <;> simp [ofD] at hu
  | cons d ds ih =>
    intro Bs hB u hu
    cases Bs with
    | nil => simp [ofD] at hu
    | cons B Bs =>
      simp only [ofD, List.mem_append] at hu
      rcases hu with hu | hu
      · simp only [cellsV, List.mem_cons, List.not_mem_nil, or_false] at hu
        rcases hu with rfl | rfl | rfl | rfl
        · rfl
        · rfl
        · rfl
        · exact hB u (by simp)
      · exact ih Bs (fun B hB' => hB B (by simp [hB'])) u hu
/-- Definitions in a row of the call's own, their bodies in memory of the call's own. -/
def BodsOwn (S : Nat → Prop) (w : World) (Bs : List Value) (ds : List DefL) : Prop :=
  Bs.length = ds.length ∧ (∀ k, k < ds.length → OwnsN S w (vAt Bs k) (dAt ds k).body) ∧ ∀ i j, i < j → j < ds.length → (dAt ds i).body ≠ [] → (dAt ds j).body ≠ [] → (vAt Bs i).ownBlock ≠ (vAt Bs j).ownBlock
theorem ownsD_row {S : Nat → Prop} {w : World} {base : Nat} {v : Value} {ds : List DefL} {Bs : List Value} {n : Nat} (h : w.ownsRow base 44 4 v n (ofD ds Bs)) (hn : ds.length = n) (hm : n ≤ maxLen) (hb : BodsOwn S w Bs ds) (hS : ∀ g, base ≤ g → S g) : OwnsD S w v ds := by
  subst hn
  obtain ⟨⟨_, a, cap, rfl, h2, h3, h4⟩, h5⟩ := owns_of_row h hm
  obtain ⟨b1, b2, b3⟩ := hb
  have hl := ofD_length ds Bs b1
  refine ⟨a, cap, Bs, rfl, h2, h3, fun k hk => ?_, b3⟩
  obtain ⟨g, off, cs, rfl, hg, hc⟩ := h4 (by omega)
  have c0 := hc (k * 4 + 0) (by omega)
  have c1 := hc (k * 4 + 1) (by omega)
  have c2 := hc (k * 4 + 2) (by omega)
  have c3 := hc (k * 4 + 3) (by omega)
  rw [ofD_at ds Bs k 0 b1 hk (by omega)] at c0
  rw [ofD_at ds Bs k 1 b1 hk (by omega)] at c1
  rw [ofD_at ds Bs k 2 b1 hk (by omega)] at c2
  rw [ofD_at ds Bs k 3 b1 hk (by omega)] at c3
  rw [← Nat.add_assoc] at c1 c2 c3
  exact ⟨g, off, cs, rfl, hS g (h5 g (List.length_pos_iff.1 (by omega)) rfl), hg, c0, c1, c2, c3, b2 k hk⟩
theorem BodsOwn.nil (S : Nat → Prop) (w : World) : BodsOwn S w [] [] := ⟨rfl, fun k hk => by simp at hk, fun i j _ hj => by simp at hj⟩
theorem BodsOwn.chg {S T : Nat → Prop} {w w' : World} {Bs : List Value} {ds : List DefL} (h : BodsOwn S w Bs ds) (hc : Chg T w w') (hd : ∀ g, S g → ¬ T g) : BodsOwn S w' Bs ds := ⟨h.1, fun k hk => (h.2.1 k hk).chg hc hd, h.2.2⟩
theorem BodsOwn.below {S : Nat → Prop} {w w' : World} {Bs : List Value} {ds : List DefL} (h : BodsOwn S w Bs ds) (hb : Below w.heap.size w w') : BodsOwn S w' Bs ds := ⟨h.1, fun k hk => (h.2.1 k hk).below hb, h.2.2⟩
theorem BodsOwn.mono {S T : Nat → Prop} {w : World} {Bs : List Value} {ds : List DefL} (h : BodsOwn S w Bs ds) (hST : ∀ g, S g → T g) : BodsOwn T w Bs ds := ⟨h.1, fun k hk => (h.2.1 k hk).mono hST, h.2.2⟩
theorem dAt_snoc_lt {ds : List DefL} {d : DefL} {i : Nat} (h : i < ds.length) : dAt (ds ++ [d]) i = dAt ds i := by simp [dAt, List.getElem?_append_left h]
theorem dAt_snoc_at {ds : List DefL} {d : DefL} : dAt (ds ++ [d]) ds.length = d := by simp [dAt]
/-- One body more, in memory that is new since w0. -/
theorem BodsOwn.snoc {S : Nat → Prop} {w0 w1 : World} {Bs : List Value} {ds : List DefL} {d : DefL} {u : Value} (h : BodsOwn S w0 Bs ds) (hb : Below w0.heap.size w0 w1) (hu : OwnsN (w0.heap.size ≤ ·) w1 u d.body) (hS : ∀ g, w0.heap.size ≤ g → S g) : BodsOwn S w1 (Bs ++ [u]) (ds ++ [d]) := by
  obtain ⟨h1, h2, h3⟩ := h
  refine ⟨by simp [h1], fun k hk => ?_, fun i j hij hj hi' hj' => ?_⟩
  · simp only [List.length_append, List.length_singleton] at hk
    by_cases hkl : k < ds.length
    · rw [dAt_snoc_lt hkl, vAt_snoc_lt (by omega)]
      exact (h2 k hkl).below hb
    · obtain rfl : k = ds.length := by omega
      rw [dAt_snoc_at, ← h1, vAt_snoc_at]
      exact hu.mono hS
  · simp only [List.length_append, List.length_singleton] at hj
    have hil : i < ds.length := by omega
    rw [dAt_snoc_lt hil] at hi'
    rw [vAt_snoc_lt (by omega)]
    by_cases hjl : j < ds.length
    · rw [dAt_snoc_lt hjl] at hj'
      rw [vAt_snoc_lt (by omega)]
      exact h3 i j hij hjl hi' hj'
    · obtain rfl : j = ds.length := by omega
      rw [dAt_snoc_at] at hj'
      rw [← h1, vAt_snoc_at]
      intro e
      have q1 := (h2 i hil).bound
      obtain ⟨⟨_, a, c, e3, _, _, h4⟩, h5⟩ := q1
      obtain ⟨⟨_, a', c', e3', _, _, h4'⟩, h5'⟩ := hu
      obtain ⟨g, off, cs, rfl, _⟩ := h4 (List.length_pos_iff.2 (ofN_ne.2 hi'))
      obtain ⟨g', off', cs', rfl, _⟩ := h4' (List.length_pos_iff.2 (ofN_ne.2 hj'))
      have p1 := h5 g (ofN_ne.2 hi') (by rw [e3]; rfl)
      have p2 := h5' g' (ofN_ne.2 hj') (by rw [e3']; rfl)
      rw [e3, e3'] at e
      simp [Value.ownBlock] at e
      omega
/-- A row of definitions grows: the bodies lie elsewhere. -/
theorem BodsOwn.grown {S : Nat → Prop} {w w' : World} {Bs : List Value} {ds : List DefL} {base n : Nat} {v : Value} {xs : List Value} (h : BodsOwn S w Bs ds) (hown : w.ownsRow base 44 4 v n xs) (hg : w.grownBy w' v.ownBlock) : BodsOwn S w' Bs ds :=
  ⟨h.1, fun k hk => ⟨(h.2.1 k hk).1.chg (chg_of_grown hg) ((h.2.1 k hk).1.apartRow hown (by decide)), (h.2.1 k hk).2⟩, h.2.2⟩

/-- A copy: a new row, and bodies of its own. -/
def NewRowD (w : World) (ds : List DefL) (e : Ending) (w' : World) : Prop := ∃ v Bs, e = .returned v ∧ w'.ownsRow w.heap.size 44 4 v ds.length (ofD ds Bs) ∧ BodsOwn (w.heap.size ≤ ·) w' Bs ds ∧ Below w.heap.size w w'

set_option maxRecDepth 100000 in
set_option maxHeartbeats 2000000 in
theorem copyLibrary_any (v : Value) (ds : List DefL) (w : World) (h : ReadsD w v ds) (hs : totD ds ≤ 1000000000) : Calls Tryd.prog 53 #[v] w (NewRowD w ds) := by
  obtain ⟨a, cap, rfl, hm, hc⟩ := open_readsD h
  obtain ⟨n, hn⟩ : ∃ n, ds.length = n := ⟨_, rfl⟩
  have hnt : n ≤ 1000000000 := by unfold totD at hs; omega
  have hrow : Hid (∀ k, k < n → (dAt ds k).body.length ≤ 1000000000) := by
    intro k hk
    have h1 := cellsD_le ds k (by omega)
    unfold cellsD totN at h1
    omega
  have HN := Lib.hid hn
  have HC := Lib.hid hc
  rw [hn] at hm ⊢
  clear h hc hn hs
  have HO0 := Lib.hid (own_lit (W := w) 44 4 rfl)
  go_enter Tryd.func53, Tryd.ntmps53
  go_wp2
  go_loopw [3, 9] (fun o i wr => ∃ (k : Nat) (Bs : List Value) (ov : Value), k ≤ n ∧ i = .int .i64 k ∧ ov = o ∧ Hid (wr.ownsRow w.heap.size 44 4 ov k (ofD (ds.take k) Bs) ∧ BodsOwn (w.heap.size ≤ ·) wr Bs (ds.take k) ∧ Below w.heap.size w wr)) (fun _ i _ => n + 1 - (intOf i).toNat)
  case atStart => exact ⟨0, [], _, by omega, rfl, rfl, Lib.hid ⟨HO0.out, BodsOwn.nil _ _, below_alloc (Below.refl _ _)⟩⟩
  case round =>
    obtain ⟨k, Bs, ov, hk, rfl, rfl, H⟩ := hrel
    by_cases hlt : k < n
    · obtain ⟨g, off, a1, c1, rfl, hg, hE⟩ := HC.out k (by rw [HN.out]; exact hlt)
      obtain ⟨x0, x1, x2, x3, hi⟩ := hE.below H.out.2.2
      obtain ⟨W1, hW1⟩ : ∃ W, W = wr.alloc (.cells #[.string (dAt ds k).name, .int .i64 (dAt ds k).inp, .int .i64 (dAt ds k).out, .slice a1 (dAt ds k).body.length c1] 44) := ⟨_, rfl⟩
      have hbw : Below wr.heap.size wr W1 := by rw [hW1]; exact below_alloc (Below.refl _ _)
      have hcall := Lib.hid (copyDef_any (dAt ds k) _ W1 (hi.below hbw) (hrow.out k hlt))
      have htk := take_oneD ds k (by rw [HN.out]; exact hlt)
      have hlen : (ds.take k).length = k := by rw [List.length_take, HN.out]; omega
      have HO1 := Lib.hid (ownsRow_below H.out.1 hbw)
      have HBO := Lib.hid (H.out.2.1.below hbw)
      have HB1 := Lib.hid (below_step H.out.2.2 hbw)
      have HTK := Lib.hid htk
      have HLN := Lib.hid hlen
      have HW1 := Lib.hid hW1
      have hk0 : 0 ≤ (k : Int) := by omega
      have hkn : (k : Int) < (n : Int) := by omega
      clear hE hi hbw htk hlen hW1 H
      go_wp2_with fail
      rw [← HW1.out]
      refine hcall.out.mono ?_
      rintro e w2 ⟨u2, rfl, ho2, hb2⟩
      obtain ⟨a2, c2, rfl⟩ := ho2.reads.form
      have HO2 := Lib.hid (ownsRow_below HO1.out hb2)
      have HBS := Lib.hid (HBO.out.snoc hb2 ho2 (fun g hg => Nat.le_trans HB1.out.size hg))
      have HB2 := Lib.hid (below_step HB1.out hb2)
      have hm3 := Lib.hid (show k + 1 ≤ maxLen by unfold maxLen; omega)
      have hm4 := Lib.hid (show (k + 1) * 56 ≤ 140737488355328 by omega)
      have hsz := Lib.hid HB2.out.size
      obtain ⟨d, hd⟩ : ∃ d, dAt ds k = d := ⟨_, rfl⟩
      rw [hd] at HBS HTK x0 x1 x2 x3 ⊢
      clear ho2 hb2 x0 x1 x2 x3 hcall hd
      go_wp2_with (at_builtin; refine wpList_append_many rfl _ _ 30 rfl w.heap.size 44 (.agg #[.string ByteArray.empty, .int .i64 0, .int .i64 0, .slice none 0 0]) 4 56 Tryd.underlying30 infoDef rfl (by decide) _ _ _ #[.string d.name, .int .i64 d.inp, .int .i64 d.out, .slice a2 d.body.length c2] rfl HO2.out rfl rfl (by intro u hu; simp at hu; rcases hu with rfl | rfl | rfl | rfl <;> rfl) hm3.out hm4.out hsz.out ?_; intro v' w3 hown3 hg3)
      have hnx : Hid (w3.ownsRow w.heap.size 44 4 v' (k + 1) (ofD (ds.take (k + 1)) (Bs ++ [.slice a2 d.body.length c2])) ∧ BodsOwn (w.heap.size ≤ ·) w3 (Bs ++ [.slice a2 d.body.length c2]) (ds.take (k + 1)) ∧ Below w.heap.size w w3) := by
        rw [HTK.out]
        refine Lib.hid ⟨?_, HBS.out.grown HO2.out hg3, Below.grownRow HB2.out HO2.out hg3 hsz.out⟩
        rw [ofD_snoc _ _ _ _ (by rw [HBO.out.1])]
        exact hown3
      clear hown3 hg3
      go_wp2
      go_roundw
      case rel => exact ⟨k + 1, _, _, by omega, by go_num, rfl, hnx⟩
      case measure => simp [intOf]; omega
    · obtain rfl : k = n := by omega
      have hfin : Hid (NewRowD w ds (.returned ov) wr) := by
        obtain ⟨h1, h2, h3⟩ := H.out
        have h4 := HN.out
        rw [← h4, List.take_length] at h2
        rw [show ds.take k = ds by rw [← h4, List.take_length]] at h1
        exact Lib.hid ⟨_, Bs, rfl, by rw [h4]; exact h1, h2, h3⟩
      go_wp2
      go_ret
      exact hfin.out


theorem ownsRow_blk {w : World} {base size n g : Nat} {e : TypeId} {v : Value} {xs : List Value} (h : w.ownsRow base e size v n xs) (hg : v.ownBlock = some g) : g < w.heap.size := by
  rcases h.2 with ⟨rfl, _⟩ | ⟨g2, cap, cur, rfl, _, hh, _⟩
  · cases hg
  · simp [Value.ownBlock] at hg
    subst hg
    exact (Array.getElem?_eq_some_iff.1 hh).1

set_option maxRecDepth 100000 in
set_option maxHeartbeats 2000000 in
theorem lbOwn_any (v : Value) (ds : List DefL) (w : World) (h : ReadsD w v ds) (hs : totD ds ≤ 1000000000) : Calls Tryd.prog 51 #[v] w (NewRowD w ds) := by
  obtain ⟨a, cap, rfl, hm, hc⟩ := open_readsD h
  obtain ⟨n, hn⟩ : ∃ n, ds.length = n := ⟨_, rfl⟩
  have hnt : n ≤ 1000000000 := by unfold totD at hs; omega
  have hrow : Hid (∀ k, k < n → (dAt ds k).body.length ≤ 1000000000) := by
    intro k hk
    have h1 := cellsD_le ds k (by omega)
    unfold cellsD totN at h1
    omega
  have HN := Lib.hid hn
  have HC := Lib.hid hc
  rw [hn] at hm ⊢
  clear h hc hn hs
  go_enter Tryd.func51, Tryd.ntmps51
  go_wp2
  go_loopw [3, 8] (fun o i wr => ∃ (k : Nat) (Bs : List Value) (ov : Value), k ≤ n ∧ i = .int .i64 k ∧ ov = o ∧ Hid (wr.ownsRow w.heap.size 44 4 ov k (ofD (ds.take k) Bs) ∧ BodsOwn (w.heap.size ≤ ·) wr Bs (ds.take k) ∧ Below w.heap.size w wr)) (fun _ i _ => n + 1 - (intOf i).toNat)
  case atStart => exact ⟨0, [], _, by omega, rfl, rfl, Lib.hid ⟨World.ownsRow_nil _ _ _ _, BodsOwn.nil _ _, Below.refl _ _⟩⟩
  case round =>
    obtain ⟨k, Bs, ov, hk, rfl, rfl, H⟩ := hrel
    by_cases hlt : k < n
    · obtain ⟨g, off, a1, c1, rfl, hg, hE⟩ := HC.out k (by rw [HN.out]; exact hlt)
      obtain ⟨x0, x1, x2, x3, hi⟩ := hE.below H.out.2.2
      obtain ⟨d, hd⟩ : ∃ d, dAt ds k = d := ⟨_, rfl⟩
      have htk := take_oneD ds k (by rw [HN.out]; exact hlt)
      have hrk := hrow.out k hlt
      rw [hd] at x0 x1 x2 x3 hi htk hrk
      obtain ⟨W1, hW1⟩ : ∃ W, W = wr.alloc (.cells #[.string d.name, .int .i64 d.inp, .int .i64 d.out, .slice a1 d.body.length c1] 44) := ⟨_, rfl⟩
      have hbw : Below wr.heap.size wr W1 := by rw [hW1]; exact below_alloc (Below.refl _ _)
      have hbd : Below W1.heap.size W1 W1.drew := ⟨rfl, rfl, rfl, Nat.le_refl _, fun _ _ => rfl⟩
      have hcall := Lib.hid (tmOwn_any (.slice a1 d.body.length c1) d.body W1.drew ((hi.below hbw).below hbd) hrk)
      have hlen : (ds.take k).length = k := by rw [List.length_take, HN.out]; omega
      have z0 : W1.drew.cell? ⟨wr.heap.size, 0, none⟩ = some (.string d.name) := by rw [hW1]; simp [go_sem]
      have z1 : W1.drew.cell? ⟨wr.heap.size, 1, none⟩ = some (.int .i64 d.inp) := by rw [hW1]; simp [go_sem]
      have z2 : W1.drew.cell? ⟨wr.heap.size, 2, none⟩ = some (.int .i64 d.out) := by rw [hW1]; simp [go_sem]
      have z3 : W1.drew.cell? ⟨wr.heap.size, 3, none⟩ = some (.slice a1 d.body.length c1) := by rw [hW1]; simp [go_sem]
      have HO1 := Lib.hid (ownsRow_below (ownsRow_below H.out.1 hbw) hbd)
      have HBO := Lib.hid ((H.out.2.1.below hbw).below hbd)
      have HB1 := Lib.hid (below_step (below_step H.out.2.2 hbw) hbd)
      have HTK := Lib.hid htk
      have HW1 := Lib.hid hW1
      have hm3 := Lib.hid (show k + 1 ≤ maxLen by unfold maxLen; omega)
      have hm4 := Lib.hid (show (k + 1) * 56 ≤ 140737488355328 by omega)
      have HNE : Hid (¬ ov.ownBlock = some wr.heap.size) := Lib.hid fun e => by
        have := ownsRow_blk H.out.1 e
        omega
      have hk0 : 0 ≤ (k : Int) := by omega
      have hkn : (k : Int) < (n : Int) := by omega
      clear hE hi hbw htk hlen hW1 H hbd hrk hd
      go_upto_region 5 with fail
      rw [← HW1.out]
      go_region_held3 (fun W => W.cell? ⟨wr.heap.size, 0, none⟩ = some (.string d.name) ∧ W.cell? ⟨wr.heap.size, 1, none⟩ = some (.int .i64 d.inp) ∧ W.cell? ⟨wr.heap.size, 2, none⟩ = some (.int .i64 d.out) ∧ W.cell? ⟨wr.heap.size, 3, none⟩ = some (.slice a1 d.body.length c1))
        (first | exact S8.out | exact S7.out | go_keep)
        (first | (go_at_call 72; (with_reducible refine hcall.out.mono ?_); rintro e w2 ⟨u2, rfl, ho2, hb2⟩; obtain ⟨a2, c2, rfl⟩ := ho2.reads.form; have S7 := Lib.hid (And.intro (cell_old hb2 z0) (And.intro (cell_old hb2 z1) (And.intro (cell_old hb2 z2) (cell_old hb2 z3))))) | (refine step_append_many (by rfl) _ _ 30 (by rfl) w.heap.size 44 (.agg #[.string ByteArray.empty, .int .i64 0, .int .i64 0, .slice none 0 0]) 4 56 Tryd.underlying30 infoDef rfl (by decide) _ _ _ #[.string d.name, .int .i64 d.inp, .int .i64 d.out, .slice a2 d.body.length c2] rfl (ownsRow_below HO1.out hb2) (by rfl) (by rfl) (by intro u hu; simp at hu; rcases hu with rfl | rfl | rfl | rfl <;> rfl) hm3.out hm4.out (below_step HB1.out hb2).size ?_; intro v' w3 hown3 hg3; have S8 := Lib.hid (And.intro ((chg_of_grown hg3).keep S7.out.1 HNE.out) (And.intro ((chg_of_grown hg3).keep S7.out.2.1 HNE.out) (And.intro ((chg_of_grown hg3).keep S7.out.2.2.1 HNE.out) ((chg_of_grown hg3).keep S7.out.2.2.2 HNE.out))))))
      all_goals
        have hnx : Hid (w3.ownsRow w.heap.size 44 4 v' (k + 1) (ofD (ds.take (k + 1)) (Bs ++ [.slice a2 d.body.length c2])) ∧ BodsOwn (w.heap.size ≤ ·) w3 (Bs ++ [.slice a2 d.body.length c2]) (ds.take (k + 1)) ∧ Below w.heap.size w w3) := by
          rw [HTK.out]
          have q1 := ownsRow_below HO1.out hb2
          have q2 := below_step HB1.out hb2
          refine Lib.hid ⟨?_, (HBO.out.snoc hb2 ho2 (fun g hg => Nat.le_trans HB1.out.size hg)).grown q1 hg3, Below.grownRow q2 q1 hg3 q2.size⟩
          rw [ofD_snoc _ _ _ _ (by rw [HBO.out.1])]
          exact hown3
        clear hown3 hg3 hb2 ho2
        go_wp2
        go_roundw
        case rel => exact ⟨k + 1, _, _, by omega, by go_num, rfl, hnx⟩
        case measure => simp [intOf]; omega
    · obtain rfl : k = n := by omega
      have hfin : Hid (NewRowD w ds (.returned ov) wr) := by
        obtain ⟨h1, h2, h3⟩ := H.out
        have h4 := HN.out
        rw [← h4, List.take_length] at h2
        rw [show ds.take k = ds by rw [← h4, List.take_length]] at h1
        exact Lib.hid ⟨_, Bs, rfl, by rw [h4]; exact h1, h2, h3⟩
      go_wp2
      go_ret
      exact hfin.out

end Ints
end Go.Proofs.YtlfcmlbffpmhkaaDoor
