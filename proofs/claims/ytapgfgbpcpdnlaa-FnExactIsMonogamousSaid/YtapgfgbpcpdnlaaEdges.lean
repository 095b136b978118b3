/- Graphs with edges, as they read: the numbers of cells that the laws count. -/
import Derived.Test.YtapgfgbpcpdnlaaPair
import Derived.Test.YtapgfgbpcpdnlaaMemB
namespace Go.Proofs.Ytapgfgbpcpdnlaa
open Go.RowKit
namespace Ints

structure EdgeL where
  kind : Int
  value : Int
  ins : List Int
  outs : List Int
structure GraphL where
  edges : List EdgeL
  ins : List Int
  outs : List Int
def eAt (es : List EdgeL) (k : Nat) : EdgeL := es[k]?.getD ⟨0, 0, [], []⟩

/-- An edge that stands at an offset of a block; A, B: its lists' values. -/
def EdgeAt (w : World) (g o : Nat) (e : EdgeL) (A B : Value) : Prop :=
  w.cell? ⟨g, o, none⟩ = some (.int .i64 e.kind) ∧ w.cell? ⟨g, o + 1, none⟩ = some (.int .i64 e.value) ∧ w.cell? ⟨g, o + 2, none⟩ = some A ∧ w.cell? ⟨g, o + 3, none⟩ = some B ∧ ReadsI w A e.ins ∧ ReadsI w B e.outs
def ReadsE (w : World) (v : Value) (es : List EdgeL) : Prop :=
  ∃ a cap, v = .slice a es.length cap ∧ es.length ≤ cap ∧ cap ≤ maxLen ∧ ∀ k, k < es.length → ∃ g off A B, a = some ⟨g, off, none⟩ ∧ EdgeAt w g (off + k * 4) (eAt es k) A B
/-- The same in blocks among S. -/
def OwnsE (S : Nat → Prop) (w : World) (v : Value) (es : List EdgeL) : Prop :=
  ∃ a cap, v = .slice a es.length cap ∧ es.length ≤ cap ∧ cap ≤ maxLen ∧ ∀ k, k < es.length → ∃ g off A B, a = some ⟨g, off, none⟩ ∧ S g ∧ EdgeAt w g (off + k * 4) (eAt es k) A B ∧ OwnsI S w A (eAt es k).ins ∧ OwnsI S w B (eAt es k).outs
def ReadsG (w : World) (v1 v2 v3 : Value) (L : GraphL) : Prop := ReadsE w v1 L.edges ∧ ReadsI w v2 L.ins ∧ ReadsI w v3 L.outs

section
variable {S T : Nat → Prop} {w w' : World} {v v1 v2 v3 A B : Value} {es : List EdgeL} {e : EdgeL} {L : GraphL} {g o : Nat}
theorem EdgeAt.below (h : EdgeAt w g o e A B) (hb : Below w.heap.size w w') : EdgeAt w' g o e A B :=
  ⟨cell_old hb h.1, cell_old hb h.2.1, cell_old hb h.2.2.1, cell_old hb h.2.2.2.1, h.2.2.2.2.1.below hb, h.2.2.2.2.2.below hb⟩
theorem ReadsE.below (h : ReadsE w v es) (hb : Below w.heap.size w w') : ReadsE w' v es := by
  obtain ⟨a, cap, h1, h2, h3, h4⟩ := h
  refine ⟨a, cap, h1, h2, h3, fun k hk => ?_⟩
  obtain ⟨g, off, A, B, h5, h6⟩ := h4 k hk
  exact ⟨g, off, A, B, h5, h6.below hb⟩
theorem ReadsE.form (h : ReadsE w v es) : ∃ a c, v = .slice a es.length c := by
  obtain ⟨a, cap, h1, _⟩ := h
  exact ⟨a, cap, h1⟩
theorem OwnsE.reads (h : OwnsE S w v es) : ReadsE w v es := by
  obtain ⟨a, cap, h1, h2, h3, h4⟩ := h
  refine ⟨a, cap, h1, h2, h3, fun k hk => ?_⟩
  obtain ⟨g, off, A, B, h5, _, h6, _⟩ := h4 k hk
  exact ⟨g, off, A, B, h5, h6⟩
theorem OwnsE.chg (h : OwnsE S w v es) (hc : Chg T w w') (hd : ∀ g, S g → ¬ T g) : OwnsE S w' v es := by
  obtain ⟨a, cap, h1, h2, h3, h4⟩ := h
  refine ⟨a, cap, h1, h2, h3, fun k hk => ?_⟩
  obtain ⟨g, off, A, B, h5, h6, h7, h8, h9⟩ := h4 k hk
  have h8' := h8.chg hc hd
  have h9' := h9.chg hc hd
  exact ⟨g, off, A, B, h5, h6, ⟨hc.keep h7.1 (hd g h6), hc.keep h7.2.1 (hd g h6), hc.keep h7.2.2.1 (hd g h6), hc.keep h7.2.2.2.1 (hd g h6), h8'.reads, h9'.reads⟩, h8', h9'⟩
theorem OwnsE.mono (h : OwnsE S w v es) (hST : ∀ g, S g → T g) : OwnsE T w v es := by
  obtain ⟨a, cap, h1, h2, h3, h4⟩ := h
  refine ⟨a, cap, h1, h2, h3, fun k hk => ?_⟩
  obtain ⟨g, off, A, B, h5, h6, h7, h8, h9⟩ := h4 k hk
  exact ⟨g, off, A, B, h5, hST g h6, h7, h8.mono hST, h9.mono hST⟩
theorem OwnsE.below (h : OwnsE S w v es) (hb : Below w.heap.size w w') : OwnsE S w' v es := h.chg (T := fun _ => False) (Below.chg hb _) (fun _ _ => id)
theorem OwnsE.bound (h : OwnsE S w v es) : OwnsE (fun g => S g ∧ g < w.heap.size) w v es := by
  obtain ⟨a, cap, h1, h2, h3, h4⟩ := h
  refine ⟨a, cap, h1, h2, h3, fun k hk => ?_⟩
  obtain ⟨g, off, A, B, h5, h6, h7, h8, h9⟩ := h4 k hk
  exact ⟨g, off, A, B, h5, ⟨h6, lt_of_cell h7.1⟩, h7, h8.bound, h9.bound⟩
theorem ReadsG.below (h : ReadsG w v1 v2 v3 L) (hb : Below w.heap.size w w') : ReadsG w' v1 v2 v3 L := ⟨h.1.below hb, h.2.1.below hb, h.2.2.below hb⟩
theorem ReadsG.form (h : ReadsG w v1 v2 v3 L) : ∃ a c a' c' a'' c'', v1 = .slice a L.edges.length c ∧ v2 = .slice a' L.ins.length c' ∧ v3 = .slice a'' L.outs.length c'' := by
  obtain ⟨a, c, e⟩ := h.1.form
  obtain ⟨a', c', e'⟩ := h.2.1.form
  obtain ⟨a'', c'', e''⟩ := h.2.2.form
  exact ⟨a, c, a', c', a'', c'', e, e', e''⟩
theorem ReadsG.reads (h : ReadsG w v1 v2 v3 L) : ReadsG w v1 v2 v3 L := h
theorem ReadsG.bound (h : ReadsG w v1 v2 v3 L) : ReadsG w v1 v2 v3 L := h
/-- A slice of edges opened at every index. -/
theorem open_readsE (h : ReadsE w v es) : ∃ a cap, v = .slice a es.length cap ∧ es.length ≤ 9223372036854775807 ∧
    ∀ k, k < es.length → ∃ g off a1 c1 a2 c2, a = some ⟨g, off, none⟩ ∧ g < w.heap.size ∧ EdgeAt w g (off + k * 4) (eAt es k) (.slice a1 (eAt es k).ins.length c1) (.slice a2 (eAt es k).outs.length c2) := by
  obtain ⟨a, cap, h1, h2, h3, h4⟩ := h
  unfold maxLen at h3
  refine ⟨a, cap, h1, by omega, fun k hk => ?_⟩
  obtain ⟨g, off, A, B, h5, h6⟩ := h4 k hk
  obtain ⟨a1, c1, e1⟩ := h6.2.2.2.2.1.form
  obtain ⟨a2, c2, e2⟩ := h6.2.2.2.2.2.form
  rw [e1, e2] at h6
  exact ⟨g, off, a1, c1, a2, c2, h5, lt_of_cell h6.1, h6⟩
end

def cellsE (e : EdgeL) : Nat := e.ins.length + e.outs.length
def totE (es : List EdgeL) : Nat := es.length + (es.map cellsE).sum
def totG (L : GraphL) : Nat := totE L.edges + L.ins.length + L.outs.length
def sumG (L : GraphL) : Nat := totG L
theorem eAt_eq (es : List EdgeL) (k : Nat) (h : k < es.length) : eAt es k = es[k] := by simp [eAt, h]
theorem take_oneE (es : List EdgeL) (k : Nat) (h : k < es.length) : es.take (k + 1) = es.take k ++ [eAt es k] := by
  rw [List.take_succ_eq_append_getElem h, eAt_eq es k h]
theorem sumE_succ (es : List EdgeL) (k : Nat) (h : k < es.length) : ((es.take (k + 1)).map cellsE).sum = ((es.take k).map cellsE).sum + cellsE (eAt es k) := by
  rw [take_oneE es k h]; simp
theorem sumE_le (es : List EdgeL) : ∀ k : Nat, ((es.take k).map cellsE).sum ≤ (es.map cellsE).sum := by
  intro k
  have h : (es.map cellsE).sum = ((es.take k).map cellsE).sum + ((es.drop k).map cellsE).sum := by
    conv => lhs; rw [← List.take_append_drop k es]
    rw [List.map_append, List.sum_append_nat]
  omega

set_option maxHeartbeats 1000000 in
theorem szEdge_any (ek ev : Int) (v1 v2 : Value) (L : List Int × List Int) (left : Int) (h0 : 0 ≤ left) (hl : left ≤ 1048576) (w : World) (h : ReadsP w v1 v2 L) :
    Calls Try.prog 18 #[.agg #[.int .i64 ek, .int .i64 ev, v1, v2], .int .i64 left] w fun e w' => e = .returned (.int .i64 (szN (totP L) left)) ∧ Below w.heap.size w w' := by
  have hb := Lib.hid ((Below.refl w.heap.size w).alloc (Nat.le_refl _) (.cells #[.int .i64 ek, .int .i64 ev, v1, v2] 43))
  obtain ⟨hl1, a, c, e1, hm1, _⟩ := open_reads h.1
  obtain ⟨hl2, a', c', e2, hm2, _⟩ := open_reads h.2
  subst e1 e2
  obtain ⟨n1, hn1⟩ : ∃ n, L.1.length = n := ⟨_, rfl⟩
  obtain ⟨n2, hn2⟩ : ∃ n, L.2.length = n := ⟨_, rfl⟩
  have hc1 := Lib.hid (fun W => szIntS_any a n1 c left h0 hl (by omega) W)
  have htt : totP L = n1 + n2 := by simp [totP, hn1, hn2]
  rw [htt]
  rw [hn1] at hb ⊢
  rw [hn2] at hb ⊢
  clear h hl1 hl2 htt
  by_cases hs : (n1 : Int) ≤ left
  · have e3 : szN n1 left = left - n1 := by simp [szN, hs]
    rw [e3] at hc1
    have hc2 := Lib.hid (fun W => szIntS_any a' n2 c' (left - n1) (by omega) (by omega) (by omega) W)
    have e4 : szN (n1 + n2) left = szN n2 (left - n1) := by
      unfold szN
      by_cases h2 : (n2 : Int) ≤ left - n1
      · rw [if_pos h2, if_pos (by omega)]; omega
      · rw [if_neg h2, if_neg (by omega)]
    rw [e4]
    have hb1 : decide (left - (n1 : Int) < 0) = false := by simp; omega
    obtain ⟨r, hr⟩ : ∃ r, szN n2 (left - n1) = r := ⟨_, rfl⟩
    rw [hr] at hc2 ⊢
    have hrr : r < 0 → r = -1 := by
      intro h
      unfold szN at hr
      split at hr <;> omega
    clear e3 e4 hr
    obtain ⟨l2, hl2⟩ : ∃ x, left - (n1 : Int) = x := ⟨_, rfl⟩
    rw [hl2] at hc1 hc2 hb1
    clear hl2
    by_cases hneg : r < 0
    · have hbn : decide (r < 0) = true := by simpa using hneg
      have hm1 := Lib.hid (hrr hneg)
      clear hneg hrr
      go_enter Try.func18, Try.ntmps18
      go_wp2_with fail
      refine (hc1.out _).mono ?_
      rintro e w' ⟨rfl, rfl⟩
      go_wp2_with fail
      refine (hc2.out _).mono ?_
      rintro e w' ⟨rfl, rfl⟩
      go_wp2
      go_ret
      exact ⟨ret_int hm1.out.symm, hb.out⟩
    · have hbn : decide (r < 0) = false := by simpa using hneg
      clear hneg hrr
      go_enter Try.func18, Try.ntmps18
      go_wp2_with fail
      refine (hc1.out _).mono ?_
      rintro e w' ⟨rfl, rfl⟩
      go_wp2_with fail
      refine (hc2.out _).mono ?_
      rintro e w' ⟨rfl, rfl⟩
      go_wp2
      go_ret
      exact ⟨rfl, hb.out⟩
  · have e3 : szN n1 left = -1 := by simp [szN, hs]
    have e4 : szN (n1 + n2) left = -1 := by unfold szN; rw [if_neg (by omega)]
    rw [e3] at hc1
    rw [e4]
    clear e3 e4 hs
    go_enter Try.func18, Try.ntmps18
    go_wp2_with fail
    refine (hc1.out _).mono ?_
    rintro e w' ⟨rfl, rfl⟩
    go_wp2
    go_ret
    exact ⟨rfl, hb.out⟩


set_option maxHeartbeats 1000000 in
theorem szEdgeS_any (v : Value) (es : List EdgeL) (left : Int) (h0 : 0 ≤ left) (hl : left ≤ 1048576) (w : World) (h : ReadsE w v es) :
    Calls Try.prog 9 #[v, .int .i64 left] w fun e w' => e = .returned (.int .i64 (szN (totE es) left)) ∧ Below w.heap.size w w' := by
  obtain ⟨a, cap, rfl, hm, hc⟩ := open_readsE h
  obtain ⟨n, hn⟩ : ∃ n, es.length = n := ⟨_, rfl⟩
  obtain ⟨r, hr⟩ : ∃ r, szN (totE es) left = r := ⟨_, rfl⟩
  rw [hr]
  have hr' := Lib.hid hr
  have hn' := Lib.hid hn
  have hc' := Lib.hid hc
  rw [hn] at hm ⊢
  clear h hc hn hr
  by_cases hfit : (n : Int) ≤ left
  · have hb : decide (left - (n : Int) < 0) = false := by simp; omega
    go_enter Try.func9, Try.ntmps9
    go_wp2
    go_loopw [1, 5] (fun q i wr => ∃ (k : Nat) (m : Int), k ≤ n ∧ i = .int .i64 k ∧ q = .int .i64 m ∧ 0 ≤ m ∧ m ≤ 1048576 ∧ Hid (m = left - n - ((es.take k).map cellsE).sum) ∧ Hid (Below w.heap.size w wr)) (fun _ i _ => n + 1 - (intOf i).toNat)
    case atStart => exact ⟨0, _, by omega, rfl, rfl, by omega, by omega, show _ = _ by simp, Lib.hid (Below.refl _ _)⟩
    case round =>
      obtain ⟨k, m, hk, rfl, rfl, hm0, hm1, hs, hB⟩ := hrel
      by_cases hlt : k < n
      · obtain ⟨g, off, a1, c1, a2, c2, rfl, hg, hE⟩ := hc'.out k (by rw [hn'.out]; exact hlt)
        have hE' := hE.below hB.out
        obtain ⟨x0, x1, x2, x3, hi, ho⟩ := hE'
        have hst := Lib.hid (sumE_succ es k (by rw [hn'.out]; exact hlt))
        have hsl := Lib.hid (sumE_le es (k + 1))
        have hsz := Lib.hid (szEdge_any (eAt es k).kind (eAt es k).value _ _ ((eAt es k).ins, (eAt es k).outs) m hm0 hm1 wr ⟨hi, ho⟩)
        have htp : Hid (totP ((eAt es k).ins, (eAt es k).outs) = cellsE (eAt es k)) := Lib.hid rfl
        have hk0 : 0 ≤ (k : Int) := by omega
        have hkn : (k : Int) < (n : Int) := by omega
        clear hE hi ho
        rcases szN_part (cellsE (eAt es k)) m with ⟨q0, q1, q2⟩ | ⟨q1, q2⟩
        · have hs2 : Hid (szN (cellsE (eAt es k)) m = left - n - ((es.take (k + 1)).map cellsE).sum ∧ szN (cellsE (eAt es k)) m ≤ 1048576 ∧ 0 ≤ szN (cellsE (eAt es k)) m) := by
            have h1 := hs.out
            have h2 := hst.out
            exact Lib.hid ⟨by omega, by omega, q0⟩
          have Q2 := Lib.hid q2
          clear q0 q1 q2
          go_wp2_with fail
          refine hsz.out.mono ?_
          rintro e w1 ⟨rfl, hb1⟩
          rw [htp.out]
          have q2 := Q2.out
          have hB2 := Lib.hid (hB.out.trans (hb1.mono hB.out.size))
          clear hb1 x0 x1 x2 x3
          generalize szN (cellsE (eAt es k)) m = z at *
          go_wp2
          go_roundw
          case rel => exact ⟨k + 1, _, by omega, by go_num, rfl, hs2.out.2.2, hs2.out.2.1, Lib.hid hs2.out.1, hB2⟩
          case measure => simp [intOf]; omega
        · have hrm : Hid (r = -1) := by
            show _ = _
            have h1 := hs.out
            have h2 := hst.out
            have h3 := hsl.out
            have h4 := hn'.out
            have h5 : m < cellsE (eAt es k) := by
              unfold szN at q1
              split at q1 <;> omega
            rw [← hr'.out]
            unfold szN totE
            rw [if_neg (by rw [h4]; omega)]
          have Q1 := Lib.hid q1
          clear q1 q2
          go_wp2_with fail
          refine hsz.out.mono ?_
          rintro e w1 ⟨rfl, hb1⟩
          rw [htp.out, Q1.out]
          have hB2 := Lib.hid (hB.out.trans (hb1.mono hB.out.size))
          clear hb1 x0 x1 x2 x3
          go_wp2
          go_ret
          exact ⟨ret_int hrm.out.symm, hB2.out⟩
      · obtain rfl : k = n := by omega
        have hrm : Hid (r = m) := by
          show _ = _
          have h1 := hs.out
          have h4 := hn'.out
          rw [← h4, List.take_length] at h1
          rw [← hr'.out]
          unfold szN totE
          rw [if_pos (by omega)]
          omega
        go_wp2
        go_ret
        exact ⟨ret_int hrm.out.symm, hB.out⟩
  · have hb : decide (left - (n : Int) < 0) = true := by simp; omega
    have hrm : Hid (r = -1) := by
      show _ = _
      have h4 := hn'.out
      rw [← hr'.out]
      unfold szN totE
      rw [if_neg (by rw [h4]; omega)]
    go_enter Try.func9, Try.ntmps9
    go_wp2
    go_ret
    exact ⟨ret_int hrm.out.symm, Below.refl _ _⟩

end Ints
end Go.Proofs.Ytapgfgbpcpdnlaa
