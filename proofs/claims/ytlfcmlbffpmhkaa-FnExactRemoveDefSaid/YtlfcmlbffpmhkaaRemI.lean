/- A library without one definition: both sides. -/
import Derived.Test.YtlfcmlbffpmhkaaRemD
import Derived.Laws.OwnMore
import Derived.Lib.SliceRun
import Derived.Deep.RegionHeld3
import Derived.Deep.DeepCutAuto
namespace Go.Proofs.Ytlfcmlbffpmhkaa
open Go.RowKit
namespace Ints

/-- 'clear(s)' of one definition. -/
theorem run_clear_def (w : World) (ty : TypeId) (b o c : Nat) (hc : ∀ j, j < 4 → (w.cell? ⟨b, o + j, none⟩).isSome = true) (hf : ∀ j, j < 4 → w.frozen? ⟨b, o + j, none⟩ = false) :
    (Builtin.clear_ #[26] ty #[.slice (some ⟨b, o, none⟩) 1 c]).run Try.prog w = .ok (.tuple #[]) (w.setCells b o [.string ByteArray.empty, .int .i64 0, .int .i64 0, .slice none 0 0]) := by
  have hzv : ∀ w, (zeroValue 56).run Try.prog w = .ok (.agg #[.string ByteArray.empty, .int .i64 0, .int .i64 0, .slice none 0 0]) w := fun w => by kernel_rfl
  have hzc : (Builtin.zeroCells (Value.agg #[.string ByteArray.empty, .int .i64 0, .int .i64 0, .slice none 0 0]).cells 1).toList = [.string ByteArray.empty, .int .i64 0, .int .i64 0, .slice none 0 0]     := by kernel_rfl
  have hst := run_storeCells_cells (P := Try.prog) b o [.string ByteArray.empty, .int .i64 0, .int .i64 0, .slice none 0 0] 0 w (by simpa using hc) (by simpa using hf) (by intro v hv; simp at hv; rcases hv with rfl | rfl | rfl <;> rfl)
  simp only [Nat.add_zero] at hst
  simp [Builtin.clear_, run_underlying Try.underlying26, hzv, hzc, hst]
/-- Definitions in a row are kept where only cells behind them turn. -/
theorem OwnsD.tail {S : Nat → Prop} {w w' : World} {g m cap : Nat} {cs cs' : Array Value} {es : List DefL} (h : OwnsD S w (.slice (some ⟨g, 0, none⟩) m cap) es) (hg : w.heap[g]? = some (.cells cs 56 (0, 0))) (hg' : w'.heap[g]? = some (.cells cs' 56 (0, 0))) (hcs : ∀ i, i < m * 4 → cs'[i]? = cs[i]?) (hc : Chg (fun g' => g' = g) w w') : OwnsD S w' (.slice (some ⟨g, 0, none⟩) m cap) es := by
  obtain ⟨a, c, Bs, e, h2, h3, h4, h5⟩ := h
  simp only [Value.slice.injEq] at e
  obtain ⟨rfl, rfl, rfl⟩ := e
  refine ⟨_, _, Bs, rfl, h2, h3, fun k hk => ?_, h5⟩
  obtain ⟨g2, off, cs2, e, hS, hg2, k0, k1, k2, k3, h6⟩ := h4 k hk
  simp only [Option.some.injEq, Addr.mk.injEq, and_true] at e
  obtain ⟨rfl, rfl⟩ := e
  rw [hg] at hg2
  simp only [Option.some.injEq, Obj.cells.injEq, and_true] at hg2
  subst hg2
  refine ⟨_, _, cs', rfl, hS, hg', ?_, ?_, ?_, ?_, h6.1.chg hc fun g' hx hb e => ?_, h6.2⟩
  · rw [hcs _ (by omega)]; exact k0
  · rw [hcs _ (by omega)]; exact k1
  · rw [hcs _ (by omega)]; exact k2
  · rw [hcs _ (by omega)]; exact k3
  · subst e
    obtain ⟨g3, cs3, q1, _, q3⟩ := OwnsN.blk h6 (ofN_ne.1 hx)
    rw [hb] at q1
    obtain rfl := Option.some.inj q1
    rw [hg] at q3
    simp at q3

theorem step_append_fits {P : Program} {w : World} {ops : Array Oper} {o : Oper} {a : Act} {K : Act → World → Prop} {Q : Exit → Act → World → Prop} {E : Prop} (hgd : o.guard = none) (s x : Operand) (t : TypeId)
    (ho : o.op = .call { callee := .builtin .append, args := #[s, x], argTypes := #[t, t] })
    (base : Nat) (e : TypeId) (i : TypeInfo) (size : Nat) (ht : P.underlying t = some (.slice e)) (hi : P.info? e = some i) (hsize : i.size = size)
    (g n cap : Nat) (xs : List Value) (hown : w.ownsRow base e size (.slice (some ⟨g, 0, none⟩) n cap) n xs) (ad : Addr) (m c : Nat) (ys : List Value) (hrd : Reads w size (.slice (some ad) m c) m ys)
    (hs : a.eval s = .slice (some ⟨g, 0, none⟩) n cap) (hx : a.eval x = .slice (some ad) m c) (h1 : ∀ u ∈ ys, u.oneCell' = true) (hroom : n + m ≤ cap)
    (h : ∀ w', w'.ownsRow base e size (.slice (some ⟨g, 0, none⟩) (n + m) cap) (n + m) (xs ++ ys) → w.grownBy w' (some g) → K (a.put o.dst (.slice (some ⟨g, 0, none⟩) (n + m) cap)) w') :
    if Region.wanted o (yielded ops a.tmps) = true then Oper.wp P o a w K Q else E := by
  have hw : Region.wanted o (yielded ops a.tmps) = true := by simp [Region.wanted, hgd]
  rw [if_pos hw]
  obtain ⟨hl, a', c', e', _, _, hc⟩ := hrd
  simp only [Value.slice.injEq, true_and] at e'
  obtain ⟨rfl, rfl⟩ := e'
  obtain ⟨w', hr, h2, h3⟩ := run_append_fits (P := P) w base t o.type e i size ht hi hsize g n cap xs hown ad m c ys hl (fun j u hj => by
    have hjl := (List.getElem?_eq_some_iff.1 hj).1
    obtain ⟨g2, off, e2, hcell⟩ := hc (by omega)
    simp only [Option.some.injEq] at e2
    subst e2
    have := hcell j hjl
    rw [hj] at this
    rw [Go.WideShapes.add_plain]
    exact this) h1 hroom
  unfold Oper.wp execOp
  simp only [ho, resolve, invoke, builtin, Sem.run_bind, Sem.run_pure, Result.andThen_ok, List.map_toArray, List.map_cons, List.map_nil, hs, hx, hr]
  exact h w' h2 h3

set_option maxRecDepth 100000 in
set_option maxHeartbeats 2000000 in
theorem deleteD_any (base g n cap k : Nat) (ds : List DefL) (Bs : List Value) (w : World) (hn : ds.length = n) (hk : k < n) (hn12 : n ≤ 1000000) (hbase : base ≤ w.heap.size) (hown : w.ownsRow base 56 4 (.slice (some ⟨g, 0, none⟩) n cap) n (ofD ds Bs)) (hbo : BodsOwn (base ≤ ·) w Bs ds) :
    Calls Try.prog 66 #[.slice (some ⟨g, 0, none⟩) n cap, .int .i64 k, .int .i64 (k + 1)] w fun e w' => ∃ v', e = .returned v' ∧ OwnsD (base ≤ ·) w' v' (eraseD ds k) ∧ Below base w w' := by
  have hcap : n ≤ cap ∧ cap ≤ 9223372036854775807 := by
    rcases hown.2 with ⟨h, _⟩ | ⟨g', cap', cur, h, hbg, hg, hnc, hcm, _⟩
    · simp at h
    · simp only [Value.slice.injEq, Option.some.injEq, Addr.mk.injEq, and_true, true_and] at h
      obtain ⟨rfl, rfl⟩ := h
      unfold maxLen at hcm
      exact ⟨hnc, by omega⟩
  obtain ⟨hc1, hc2⟩ := hcap
  have hne : ((k : Int) == (k : Int) + 1) = false := by simp; omega
  have hrd : Reads w 4 (.slice (some ⟨g, 0, none⟩) n cap) n (ofD ds Bs) := (owns_of_row hown (by unfold maxLen; omega)).1.reads
  obtain ⟨ad, had⟩ : ∃ ad, dropA 4 (some ⟨g, 0, none⟩) cap (k + 1) = some ad := by
    unfold dropA
    split
    · exact ⟨_, rfl⟩
    · exact ⟨_, rfl⟩
  have htail := Ints.Reads.tail hrd (l := k + 1) (by omega)
  rw [had, ofD_drop ds Bs (k + 1) (by rw [hbo.1])] at htail
  have hhead := row_take hown (m := k) (by omega)
  rw [ofD_take ds Bs k (by rw [hbo.1])] at hhead
  obtain ⟨i, hi, hz, hsize, hby⟩ := info_parts infoDef
  have hsz : ∀ w, (sizeOf (Try.prog.elem 26)).run Try.prog w = .ok 4 w := by
    intro w
    have he : Try.prog.elem 26 = 56 := by simp [Program.elem, Try.underlying26]
    rw [he]
    simp [sizeOf, typeInfo, hi, hsize]
  have hel : Try.prog.underlying 26 = some (.slice (Try.prog.elem 26)) := by simp [Program.elem, Try.underlying26]
  have hsl2 : ∀ w, (Instr.sliceAt 26 (.slice (some ⟨g, 0, none⟩) n cap) (some (.int .i64 ((k : Int) + 1))) none none).run Try.prog w = .ok (.slice (some ad) (n - (k + 1)) (cap - (k + 1))) w := by
    intro w
    have h2 : ((k : Int) + 1).toNat = k + 1 := by omega
    rw [run_sliceAt_slice _ _ _ _ _ _ hel, run_slice_l _ _ _ _ _ hel .i64 _ (by omega) (by omega), hsz, Result.andThen, h2, ← had]
    rfl
  have hk0 : 0 ≤ (k : Int) := by omega
  have hkn : (k : Int) < (n : Int) := by omega
  have hkc : (k : Int) ≤ (cap : Int) := by omega
  have hk1n : (k : Int) + 1 ≤ (n : Int) := by omega
  have hk1c : (k : Int) + 1 ≤ (cap : Int) := by omega
  have hnc : (n : Int) ≤ (cap : Int) := by omega
  obtain ⟨q, hq⟩ : ∃ q, k + (n - (k + 1)) = q := ⟨_, rfl⟩
  have hqn : q + 1 = n := by omega
  have hnq : n - q = 1 := by omega
  have hcq : ¬ cap = q := by omega
  have hq0 : 0 ≤ (q : Int) := by omega
  have hqi : (q : Int) ≤ (n : Int) := by omega
  have hone : ∀ u ∈ ofD (ds.drop (k + 1)) (Bs.drop (k + 1)), u.oneCell' = true := by
    refine ofD_one _ _ fun B hB => ?_
    obtain ⟨j, hj, e⟩ := List.mem_iff_getElem.1 (List.mem_of_mem_drop hB)
    have h1 := hbo.2.1 j (by rw [← hbo.1]; exact hj)
    have : vAt Bs j = B := by simp [vAt, hj, e]
    rw [this] at h1
    obtain ⟨a, c, e2⟩ := h1.reads.form
    rw [e2]
    rfl
  have HER := Lib.hid (ofD_erase ds Bs k (by rw [hbo.1]))
  have HBE := Lib.hid (hbo.erase (k := k) (by omega))
  have HEL := Lib.hid (eraseD_length ds k (by omega))
  have HONE := Lib.hid hone
  have HQN := Lib.hid hqn
  have HT := Lib.hid htail
  have HH := Lib.hid hhead
  have HOWN := Lib.hid hown
  have HI := Lib.hid hi
  have HSZ := Lib.hid hsize
  have HN := Lib.hid hn
  have HB := Lib.hid hbase
  have HQ := Lib.hid hq
  have HROOM := Lib.hid (show k + (n - (k + 1)) ≤ cap by omega)
  clear htail hhead hown hbo hi hsize hrd had hz hby hsz hel hn hbase hone hqn hq
  go_enter Try.func66, Try.ntmps66
  go_upto_region 5 with fail
  go_region_law (refine step_append_fits (by rfl) _ _ 26 (by rfl) base 56 i 4 Try.underlying26 HI.out HSZ.out g k cap _ HH.out ad _ _ _ HT.out (by rfl) (by rfl) HONE.out HROOM.out ?_; rw [HQ.out]; intro w1 hown1 hg1)
  rw [HER.out] at hown1
  obtain ⟨cs1, hcs1, hsz1⟩ : ∃ cs, w1.heap[g]? = some (.cells cs 56 (0, 0)) ∧ n * 4 ≤ cs.size := by
    rcases hown1.2 with ⟨h, _⟩ | ⟨g', cap', cur, h, hbg, hg, hnc, hcm, hcs, _⟩
    · simp at h
    · simp only [Value.slice.injEq, Option.some.injEq, Addr.mk.injEq, and_true, true_and] at h
      obtain ⟨rfl, rfl⟩ := h
      exact ⟨cur, hg, by rw [hcs]; omega⟩
  have hqs : q * 4 + 4 ≤ cs1.size := by have := HQN.out; omega
  have hclr : ∀ ty, (Builtin.clear_ #[26] ty #[.slice (some ⟨g, q * 4, none⟩) 1 (cap - q)]).run Try.prog w1 = .ok (.tuple #[]) (w1.setCells g (q * 4) [.string ByteArray.empty, .int .i64 0, .int .i64 0, .slice none 0 0]) := fun ty =>
    run_clear_def w1 ty g (q * 4) (cap - q) (fun j hj => by rw [Go.Joins.cell_of_block hcs1]; rw [Array.getElem?_eq_getElem (by omega)]; rfl) (fun j _ => Go.Joins.unfrozen_of_block hcs1 _)
  have hg2 : w.grownBy w1 (Value.slice (some ⟨g, 0, none⟩) n cap).ownBlock := ⟨hg1.os, hg1.tape, hg1.output, hg1.size, hg1.block⟩
  have hB1 : Below base w w1 := Below.grownRow (Below.refl base w) HOWN.out hg2 HB.out
  have HFin : Hid (∃ v', (.slice (some ⟨g, 0, none⟩) q cap : Value) = v' ∧ OwnsD (base ≤ ·) (w1.setCells g (q * 4) [.string ByteArray.empty, .int .i64 0, .int .i64 0, .slice none 0 0]) v' (eraseD ds k) ∧ Below base w (w1.setCells g (q * 4) [.string ByteArray.empty, .int .i64 0, .int .i64 0, .slice none 0 0])) := by
    have hlen : (eraseD ds k).length = q := by have := HEL.out; have := HN.out; have := HQN.out; omega
    have hod := ownsD_row hown1 hlen (by unfold maxLen; omega) (HBE.out.grown HOWN.out hg2) (fun _ h => h)
    have hst := Go.Joins.block_setCell (g := g) (i := q * 4 + 1 + 1 + 1) (Go.Joins.block_setCell (g := g) (i := q * 4 + 1 + 1) (Go.Joins.block_setCell (g := g) (i := q * 4 + 1) (Go.Joins.block_setCell (g := g) (i := q * 4) hcs1 (.string ByteArray.empty)) (.int .i64 0)) (.int .i64 0)) (.slice none 0 0)
    have hch : Chg (fun g' => g' = g) w1 (w1.setCells g (q * 4) [.string ByteArray.empty, .int .i64 0, .int .i64 0, .slice none 0 0]) :=
      ((((Chg.refl (fun g' => g' = g) w1).setCell (p := ⟨g, q * 4, none⟩) (fun _ => rfl) _).setCell (p := ⟨g, q * 4 + 1, none⟩) (fun _ => rfl) _).setCell (p := ⟨g, q * 4 + 1 + 1, none⟩) (fun _ => rfl) _).setCell (p := ⟨g, q * 4 + 1 + 1 + 1, none⟩) (fun _ => rfl) _
    have hge : base ≤ g := ownsRow_ge HOWN.out rfl
    refine Lib.hid ⟨_, rfl, hod.tail hcs1 hst (fun i hi => ?_) hch, hB1.trans (hch.below (Nat.le_trans HB.out hB1.size) fun g' h => by omega)⟩
    rw [Array.getElem?_setIfInBounds_ne (by omega), Array.getElem?_setIfInBounds_ne (by omega), Array.getElem?_setIfInBounds_ne (by omega), Array.getElem?_setIfInBounds_ne (by omega)]
  clear hcs1 hsz1 hqs hown1 hg1 hB1 hg2
  go_wp2
  go_ret
  obtain ⟨v', rfl, h2, h3⟩ := HFin.out
  exact ⟨_, rfl, h2, h3⟩


set_option maxRecDepth 100000 in
set_option maxHeartbeats 2000000 in
theorem implRD_any (vd : Value) (ds : List DefL) (s : ByteArray) (hbd : totD ds ≤ 1048576) (w : World) (hd : ReadsD w vd ds) :
    Calls Try.prog 37 #[vd, .string s] w (LibOut w (remB ds s) (remR ds s)) := by
  have HG := Lib.hid (fun W (hW : Below w.heap.size w W) => isLibrary_any vd ds (by omega) W (hd.below hW))
  have HF := Lib.hid (fun W (hW : Below w.heap.size w W) => indexOf_any vd ds s W (hd.below hW))
  have HCP := Lib.hid (fun W (hW : Below w.heap.size w W) => copyLibrary_any vd ds W (hd.below hW) (by omega))
  obtain ⟨ad, cd, rfl⟩ := hd.form
  obtain ⟨n, hn⟩ : ∃ n, ds.length = n := ⟨_, rfl⟩
  have HN := Lib.hid hn
  have hn12 : libB ds = true → n ≤ 12 := fun e => by rw [← hn]; exact (libB_all e).1
  rw [hn] at HG HF HCP ⊢
  unfold remB remR
  have HBD := Lib.hid hbd
  clear hd hbd hn
  cases hfd : findD ds s with
  | none =>
    rw [hfd] at HF
    have hix : idxI none = -1 := rfl
    rw [hix] at HF
    have e1 : (libB ds && (match (none : Option Nat) with | some k => libB (eraseD ds k) | none => false)) = false := by simp
    have e2 : (if libB ds = true then (match (none : Option Nat) with | some k => libO (eraseD ds k) | none => []) else []) = [] := by simp
    rw [e1, e2]
    obtain ⟨bl, hbl⟩ : ∃ b, libB ds = b := ⟨_, rfl⟩
    rw [hbl] at HG
    clear hfd hix hn12 e1 e2 hbl
    cases bl with
    | false =>
      go_enter Try.func37, Try.ntmps37
      go_wp2_with fail
      refine (HF.out w (Below.refl _ _)).mono ?_
      rintro e w1 ⟨rfl, hb1⟩
      have HB1 := Lib.hid hb1
      clear hb1
      go_wp2_with fail
      refine (HG.out w1 HB1.out).mono ?_
      rintro e w2 ⟨rfl, hb2⟩
      have HB2 := Lib.hid (below_step HB1.out hb2)
      clear hb2
      go_wp2
      go_ret2
      exact ⟨_, rfl, ownsD_nil _ _, HB2.out⟩
    | true =>
      go_enter Try.func37, Try.ntmps37
      go_wp2_with fail
      refine (HF.out w (Below.refl _ _)).mono ?_
      rintro e w1 ⟨rfl, hb1⟩
      have HB1 := Lib.hid hb1
      clear hb1
      go_wp2_with fail
      refine (HG.out w1 HB1.out).mono ?_
      rintro e w2 ⟨rfl, hb2⟩
      have HB2 := Lib.hid (below_step HB1.out hb2)
      clear hb2
      go_wp2
      go_ret2
      exact ⟨_, rfl, ownsD_nil _ _, HB2.out⟩
  | some k =>
    rw [hfd] at HF
    have hix : idxI (some k) = (k : Int) := rfl
    rw [hix] at HF
    have hkn := findD_lt hfd
    have HKN := Lib.hid hkn
    clear hfd hix hkn
    cases hl : libB ds with
    | false =>
      rw [hl] at HG
      clear hl hn12
      rw [Bool.false_and, if_neg (by decide)]
      go_enter Try.func37, Try.ntmps37
      go_wp2_with fail
      refine (HF.out w (Below.refl _ _)).mono ?_
      rintro e w1 ⟨rfl, hb1⟩
      have HB1 := Lib.hid hb1
      clear hb1
      go_wp2_with fail
      refine (HG.out w1 HB1.out).mono ?_
      rintro e w2 ⟨rfl, hb2⟩
      have HB2 := Lib.hid (below_step HB1.out hb2)
      clear hb2
      go_wp2
      go_ret2
      exact ⟨_, rfl, ownsD_nil _ _, HB2.out⟩
    | true =>
      rw [hl] at HG
      have hn12 := hn12 hl
      clear hl
      have hilt : decide ((k : Int) < 0) = false := by simp
      have hk12 : k < 12 := by have := HKN.out; have := HN.out; omega
      have hw1 : IntKind.i64.wrap ((k : Int) + 1) = (k : Int) + 1 := IntWalk.i64_in _ (by omega)
      have hts := eraseD_tot ds k
      obtain ⟨D, hD⟩ : ∃ D, eraseD ds k = D := ⟨_, rfl⟩
      rw [Bool.true_and, if_pos rfl]
      dsimp only
      have HV := Lib.hid (fun v W hv => validLibrary_any v (eraseD ds k) (by have := HBD.out; omega) W hv)
      have HD := Lib.hid hD
      rw [hD] at HV ⊢
      clear hts hD
      go_enter Try.func37, Try.ntmps37
      go_wp2_with fail
      refine (HF.out w (Below.refl _ _)).mono ?_
      rintro e w1 ⟨rfl, hb1⟩
      have HB1 := Lib.hid hb1
      clear hb1
      go_wp2_with fail
      refine (HG.out w1 HB1.out).mono ?_
      rintro e w2 ⟨rfl, hb2⟩
      have HB2 := Lib.hid (below_step HB1.out hb2)
      clear hb2
      go_wp2_with fail
      refine (HCP.out w2 HB2.out).mono ?_
      rintro e w3 ⟨v3, Bs, rfl, hown3, hbo3, hb3⟩
      have hnl := HN.out
      rw [hnl] at hown3
      obtain ⟨g3, c3, rfl⟩ : ∃ g c, v3 = .slice (some ⟨g, 0, none⟩) n c := by
        rcases hown3.2 with ⟨_, h0⟩ | ⟨g, c, _, e, _⟩
        · have := HKN.out; omega
        · exact ⟨g, c, e⟩
      have HDL := Lib.hid (deleteD_any w2.heap.size g3 n c3 k ds Bs w3 hnl (by rw [← hnl]; exact HKN.out) (by omega) hb3.size hown3 hbo3)
      have HB3 := Lib.hid (below_step HB2.out hb3)
      clear hown3 hbo3 hb3 hnl
      go_wp2_with fail
      refine HDL.out.mono ?_
      rintro e w4 ⟨v4, rfl, ho4, hb4⟩
      have hdd := HD.out
      rw [hdd] at ho4
      obtain ⟨a4, c4, rfl⟩ := ho4.reads.form
      have HO4 := Lib.hid ho4
      have HB4 := Lib.hid (HB3.out.trans (hb4.mono HB2.out.size))
      have hcall := Lib.hid (HV.out _ w4 ho4.reads)
      clear ho4 hb4 hdd
      go_wp2_with fail
      refine hcall.out.mono ?_
      rintro e w5 ⟨v5, rfl, hv5, hb5⟩
      have hlast : Hid (LibOut w (libB D) (libO D) (.returned (.tuple #[v5, .bool (libB D)])) w5) := by
        have q := libO_own (HO4.out.below hb5)
        rw [← hv5] at q
        exact Lib.hid ⟨v5, rfl, q.mono (fun g hg => Nat.le_trans HB2.out.size hg), below_step HB4.out hb5⟩
      clear hv5 hb5
      go_wp2
      go_ret2
      exact hlast.out

end Ints
end Go.Proofs.Ytlfcmlbffpmhkaa
