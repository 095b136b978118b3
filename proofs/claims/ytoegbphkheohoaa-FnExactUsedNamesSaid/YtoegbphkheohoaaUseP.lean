/- The names that a term needs: the plain law. -/
import Derived.Test.YtoegbphkheohoaaSizeS
import Derived.Test.YtoegbphkheohoaaSizeP
import Derived.Test.YtoegbphkheohoaaMapS
import Derived.Test.YtoegbphkheohoaaBoxN
namespace Go.Proofs.Ytoegbphkheohoaa
open Go.RowKit
namespace Ints

/-- The first k nodes name the definition q. -/
def usesK (ds : List DefL) (ns : List NodeL) (k q : Nat) : Prop := ∃ j, j < k ∧ (nAt ns j).kind = 17 ∧ findD ds (nAt ns j).name = some q
def usesN (ds : List DefL) (ns : List NodeL) (q : Nat) : Prop := usesK ds ns ns.length q
theorem usesK_zero (ds : List DefL) (ns : List NodeL) (q : Nat) : ¬ usesK ds ns 0 q := fun ⟨j, hj, _⟩ => by omega
theorem usesK_mono {ds : List DefL} {ns : List NodeL} {k q : Nat} (h : usesK ds ns k q) : usesK ds ns (k + 1) q := by
  obtain ⟨j, h1, h2⟩ := h
  exact ⟨j, by omega, h2⟩
theorem usesK_skip {ds : List DefL} {ns : List NodeL} {k q : Nat} (h17 : (nAt ns k).kind ≠ 17) (h : usesK ds ns (k + 1) q) : usesK ds ns k q := by
  obtain ⟨j, h1, h2, h3⟩ := h
  by_cases e : j = k
  · subst e; exact absurd h2 h17
  · exact ⟨j, by omega, h2, h3⟩
theorem usesK_cases {ds : List DefL} {ns : List NodeL} {k q i : Nat} (hi : findD ds (nAt ns k).name = some i) (h : usesK ds ns (k + 1) q) : q = i ∨ usesK ds ns k q := by
  obtain ⟨j, h1, h2, h3⟩ := h
  by_cases e : j = k
  · subst e
    rw [hi] at h3
    exact .inl (Option.some.inj h3).symm
  · exact .inr ⟨j, by omega, h2, h3⟩
theorem usesK_here {ds : List DefL} {ns : List NodeL} {k i : Nat} (h17 : (nAt ns k).kind = 17) (hi : findD ds (nAt ns k).name = some i) : usesK ds ns (k + 1) i := ⟨k, by omega, h17, hi⟩
theorem usesN_lt {ds : List DefL} {ns : List NodeL} {q : Nat} (h : usesN ds ns q) : q < ds.length := by
  obtain ⟨_, _, _, h3⟩ := h
  exact findD_lt h3

/-- What a term needs. -/
inductive Need (ds : List DefL) (ns : List NodeL) : Nat → Prop
  | top {q : Nat} (h : usesN ds ns q) : Need ds ns q
  | body {j q : Nat} (hj : Need ds ns j) (h : usesN ds (dAt ds j).body q) : Need ds ns q
theorem need_lt {ds : List DefL} {ns : List NodeL} {j : Nat} (h : Need ds ns j) : j < ds.length := by
  cases h with
  | top hu => exact usesN_lt hu
  | body _ hu => exact usesN_lt hu
theorem need_ex (ds : List DefL) (ns : List NodeL) : ∃ f : Nat → Bool, ∀ i, f i = true ↔ Need ds ns i :=
  ⟨fun i => @decide (Need ds ns i) (Classical.propDecidable _), fun i => by simp⟩
/-- In a library a body names earlier definitions alone. -/
theorem body_uses {ds : List DefL} (hl : libB ds = true) {j q : Nat} (hj : j < ds.length) (h : usesN ds (dAt ds j).body q) : q < j := by
  obtain ⟨i, h1, h2, h3⟩ := h
  have ht := (defB_parts ((libB_all hl).2.1 j hj)).2.2
  obtain ⟨i2, h4⟩ := typeOf_named ht i h1 h2
  obtain ⟨h5, h6⟩ := find_take h4
  rw [h5] at h3
  cases h3
  exact h6
theorem body_named {ds : List DefL} (hl : libB ds = true) {j : Nat} (hj : j < ds.length) (i : Nat) (hi : i < (dAt ds j).body.length) (h17 : (nAt (dAt ds j).body i).kind = 17) : ∃ q, findD ds (nAt (dAt ds j).body i).name = some q ∧ q < j := by
  have ht := (defB_parts ((libB_all hl).2.1 j hj)).2.2
  obtain ⟨i2, h4⟩ := typeOf_named ht i hi h17
  exact ⟨i2, find_take h4⟩
theorem name_inj {ds : List DefL} (hl : libB ds = true) {i j : Nat} (hi : i < ds.length) (hj : j < ds.length) (h : (dAt ds i).name.toList = (dAt ds j).name.toList) : i = j := by
  have key : ∀ a b, a < b → b < ds.length → (dAt ds a).name.toList ≠ (dAt ds b).name.toList := by
    intro a b hab hb e
    have hn := (libB_all hl).2.2.2 b hb
    unfold findD at hn
    rw [List.findIdx?_eq_none_iff] at hn
    have hm : dAt ds a ∈ ds.take b := by
      rw [← dAt_take ds hab, dAt_eq _ _ (by rw [List.length_take]; omega)]
      exact List.getElem_mem _
    have := hn _ hm
    simp [e] at this
  rcases Nat.lt_trichotomy i j with h1 | h1 | h1
  · exact absurd h (key i j h1 hj)
  · exact h1
  · exact absurd h.symm (key j i h1 hi)

/-- The reference's rounds. f: the marks; b: the definitions from b on are done. -/
structure RefU (ds : List DefL) (ns : List NodeL) (f : Nat → Bool) (b : Nat) : Prop where
  snd : ∀ j, f j = true → Need ds ns j
  top : ∀ j, usesN ds ns j → f j = true
  clo : ∀ j, b ≤ j → f j = true → ∀ q, usesN ds (dAt ds j).body q → f q = true
def putB (f : Nat → Bool) (i : Nat) : Nat → Bool := fun j => if j = i then true else f j
theorem putB_same (f : Nat → Bool) (i : Nat) : putB f i i = true := if_pos rfl
theorem putB_old {f : Nat → Bool} {i j : Nat} (h : f j = true) : putB f i j = true := by
  unfold putB
  split
  · rfl
  · exact h
theorem putB_cases {f : Nat → Bool} {i j : Nat} (h : putB f i j = true) : j = i ∨ f j = true := by
  unfold putB at h
  split at h
  · rename_i e; exact .inl e
  · exact .inr h
theorem RefU.start {ds : List DefL} {ns : List NodeL} {f : Nat → Bool} (h : ∀ q, f q = true ↔ usesN ds ns q) : RefU ds ns f ds.length :=
  ⟨fun j hj => .top ((h j).1 hj), fun j hj => (h j).2 hj, fun j hb hj => absurd (usesN_lt ((h j).1 hj)) (by omega)⟩
theorem RefU.skip {ds : List DefL} {ns : List NodeL} {f : Nat → Bool} {b : Nat} (h : RefU ds ns f (b + 1)) (hf : f b = false) : RefU ds ns f b :=
  ⟨h.snd, h.top, fun j hb hj => by
    by_cases e : j = b
    · subst e; rw [hf] at hj; cases hj
    · exact h.clo j (by omega) hj⟩
/-- Inside the round of definition b, behind k nodes of its body. -/
structure RefI (ds : List DefL) (ns : List NodeL) (f : Nat → Bool) (b k : Nat) : Prop where
  out : RefU ds ns f (b + 1)
  here : f b = true
  done : ∀ q, usesK ds (dAt ds b).body k q → f q = true
theorem RefI.start {ds : List DefL} {ns : List NodeL} {f : Nat → Bool} {b : Nat} (h : RefU ds ns f (b + 1)) (hf : f b = true) : RefI ds ns f b 0 := ⟨h, hf, fun _ hq => absurd hq (usesK_zero _ _ _)⟩
theorem RefI.skip {ds : List DefL} {ns : List NodeL} {f : Nat → Bool} {b k : Nat} (h : RefI ds ns f b k) (h17 : (nAt (dAt ds b).body k).kind ≠ 17) : RefI ds ns f b (k + 1) := ⟨h.out, h.here, fun q hq => h.done q (usesK_skip h17 hq)⟩
theorem RefI.mark {ds : List DefL} {ns : List NodeL} {f : Nat → Bool} {b k i : Nat} (hl : libB ds = true) (hb : b < ds.length) (hk : k < (dAt ds b).body.length) (h : RefI ds ns f b k) (h17 : (nAt (dAt ds b).body k).kind = 17) (hi : findD ds (nAt (dAt ds b).body k).name = some i) : RefI ds ns (putB f i) b (k + 1) := by
  have hu : usesN ds (dAt ds b).body i := ⟨k, hk, h17, hi⟩
  have hib := body_uses hl hb hu
  refine ⟨⟨fun j hj => ?_, fun j hj => putB_old (h.out.top j hj), fun j hbj hj q hq => ?_⟩, putB_old h.here, fun q hq => ?_⟩
  · rcases putB_cases hj with rfl | hj
    · exact .body (h.out.snd b h.here) hu
    · exact h.out.snd j hj
  · rcases putB_cases hj with rfl | hj
    · omega
    · exact putB_old (h.out.clo j hbj hj q hq)
  · rcases usesK_cases hi hq with rfl | hq
    · exact putB_same _ _
    · exact putB_old (h.done q hq)
theorem RefI.fin {ds : List DefL} {ns : List NodeL} {f : Nat → Bool} {b : Nat} (h : RefI ds ns f b (dAt ds b).body.length) : RefU ds ns f b :=
  ⟨h.out.snd, h.out.top, fun j hb hj q hq => by
    by_cases e : j = b
    · subst e; exact h.done q hq
    · exact h.out.clo j (by omega) hj q hq⟩
theorem RefU.all {ds : List DefL} {ns : List NodeL} {f : Nat → Bool} (h : RefU ds ns f 0) (i : Nat) : f i = true ↔ Need ds ns i := by
  refine ⟨h.snd i, fun hn => ?_⟩
  induction hn with
  | top hu => exact h.top _ hu
  | body _ hu ih => exact h.clo _ (Nat.zero_le _) ih _ hu

/-- What a map says of a definition. -/
def mkL (ds : List DefL) (look : List UInt8 → Option Bool) (i : Nat) : Bool := (look (dAt ds i).name.toList).getD false
/-- The program's walk over the first k nodes of ns, whose names are below K; look: the map ahead of it, l: behind it. -/
structure ColU (ds : List DefL) (K : Nat) (ns : List NodeL) (look : List UInt8 → Option Bool) (k : Nat) (l : List UInt8 → Option Bool) : Prop where
  sub : ∀ i, i < ds.length → mkL ds look i = true → mkL ds l i = true
  nam : ∀ q, usesK ds ns k q → mkL ds l q = true
  clo : ∀ i, i < K → mkL ds l i = true → ∀ q, usesN ds (dAt ds i).body q → mkL ds l q = true
  snd : ∀ R : Nat → Prop, (∀ q, usesK ds ns k q → R q) → (∀ j, R j → ∀ q, usesN ds (dAt ds j).body q → R q) → ∀ i, i < ds.length → mkL ds l i = true → mkL ds look i = true ∨ R i
/-- What is marked below K is closed. -/
def CloU (ds : List DefL) (K : Nat) (look : List UInt8 → Option Bool) : Prop := ∀ i, i < K → mkL ds look i = true → ∀ q, usesN ds (dAt ds i).body q → mkL ds look q = true
theorem ColU.start {ds : List DefL} {K : Nat} {ns : List NodeL} {look : List UInt8 → Option Bool} (h : CloU ds K look) : ColU ds K ns look 0 look :=
  ⟨fun _ _ h => h, fun _ hq => absurd hq (usesK_zero _ _ _), h, fun _ _ _ _ _ h => .inl h⟩
theorem ColU.skip {ds : List DefL} {K : Nat} {ns : List NodeL} {look l : List UInt8 → Option Bool} {k : Nat} (h : ColU ds K ns look k l) (h17 : (nAt ns k).kind ≠ 17) : ColU ds K ns look (k + 1) l :=
  ⟨h.sub, fun q hq => h.nam q (usesK_skip h17 hq), h.clo, fun R h1 h2 => h.snd R (fun q hq => h1 q (usesK_mono hq)) h2⟩
theorem ColU.known {ds : List DefL} {K : Nat} {ns : List NodeL} {look l : List UInt8 → Option Bool} {k i : Nat} (h : ColU ds K ns look k l) (hi : findD ds (nAt ns k).name = some i) (hm : mkL ds l i = true) : ColU ds K ns look (k + 1) l :=
  ⟨h.sub, fun q hq => by
    rcases usesK_cases hi hq with rfl | hq
    · exact hm
    · exact h.nam q hq, h.clo, fun R h1 h2 => h.snd R (fun q hq => h1 q (usesK_mono hq)) h2⟩
theorem mkL_put {ds : List DefL} (hl : libB ds = true) (l : List UInt8 → Option Bool) {i j : Nat} (hi : i < ds.length) (hj : j < ds.length) : mkL ds (putL l (dAt ds i).name.toList true) j = true ↔ (j = i ∨ mkL ds l j = true) := by
  unfold mkL putL
  by_cases e : j = i
  · subst e
    simp
  · rw [if_neg fun h => e (name_inj hl hj hi h)]
    simp [e]
theorem CloU.put {ds : List DefL} {K : Nat} {l : List UInt8 → Option Bool} {i : Nat} (hl : libB ds = true) (hK : K ≤ ds.length) (h : CloU ds K l) (hi : i < K) : CloU ds i (putL l (dAt ds i).name.toList true) := by
  intro j hj hm q hq
  rcases (mkL_put hl l (by omega) (by omega)).1 hm with e | hm
  · omega
  · exact (mkL_put hl l (by omega) (usesN_lt hq)).2 (.inr (h j (by omega) hm q hq))
theorem ColU.call {ds : List DefL} {K : Nat} {ns : List NodeL} {look l l2 : List UInt8 → Option Bool} {k i : Nat} (hl : libB ds = true) (hK : K ≤ ds.length) (h : ColU ds K ns look k l) (h17 : (nAt ns k).kind = 17) (hi : findD ds (nAt ns k).name = some i) (hiK : i < K)
    (h2 : ColU ds i (dAt ds i).body (putL l (dAt ds i).name.toList true) (dAt ds i).body.length l2) : ColU ds K ns look (k + 1) l2 := by
  have hin : i < ds.length := by omega
  have hself : mkL ds l2 i = true := h2.sub i hin ((mkL_put hl l hin hin).2 (.inl rfl))
  have hold : ∀ j, j < ds.length → mkL ds l j = true → mkL ds l2 j = true := fun j hj hm => h2.sub j hj ((mkL_put hl l hin hj).2 (.inr hm))
  refine ⟨fun j hj hm => hold j hj (h.sub j hj hm), fun q hq => ?_, fun j hj hm q hq => ?_, fun R h3 h4 j hj hm => ?_⟩
  · rcases usesK_cases hi hq with rfl | hq
    · exact hself
    · have hu := hq
      obtain ⟨_, _, _, h5⟩ := hu
      exact hold q (findD_lt h5) (h.nam q hq)
  · have hjn : j < ds.length := by omega
    rcases h2.snd (fun j => j < i) (fun q hq => body_uses hl hin hq) (fun j hj q hq => by have := body_uses hl (by omega) hq; omega) j hjn hm with h5 | h5
    · rcases (mkL_put hl l hin hjn).1 h5 with rfl | h5
      · exact h2.nam q hq
      · exact hold q (usesN_lt hq) (h.clo j hj h5 q hq)
    · exact h2.clo j h5 hm q hq
  · have hRi : R i := h3 i (usesK_here h17 hi)
    rcases h2.snd R (fun q hq => h4 i hRi q hq) h4 j hj hm with h5 | h5
    · rcases (mkL_put hl l hin hj).1 h5 with rfl | h5
      · exact .inr hRi
      · exact h.snd R (fun q hq => h3 q (usesK_mono hq)) h4 j hj h5
    · exact .inr h5
theorem ColU.all {ds : List DefL} {ns : List NodeL} {l : List UInt8 → Option Bool} (h : ColU ds ds.length ns (fun _ => none) ns.length l) {i : Nat} (hi : i < ds.length) : mkL ds l i = true ↔ Need ds ns i := by
  constructor
  · intro hm
    rcases h.snd (Need ds ns) (fun q hq => .top hq) (fun j hj q hq => .body hj hq) i hi hm with h1 | h1
    · cases h1
    · exact h1
  · intro hn
    induction hn with
    | top hu => exact h.nam _ hu
    | body hj hu ih =>
      exact h.clo _ (need_lt hj) (ih (need_lt hj)) _ hu

/-- How many definitions are marked. -/
def cntU (ds : List DefL) (l : List UInt8 → Option Bool) : Nat := (List.range ds.length).countP fun i => mkL ds l i
theorem count_mono {f g : Nat → Bool} (n : Nat) (h : ∀ i, i < n → f i = true → g i = true) : (List.range n).countP f ≤ (List.range n).countP g := by
  induction n with
  | zero => exact Nat.le_refl _
  | succ n ih =>
    rw [List.range_succ, List.countP_append, List.countP_append]
    have h1 := ih fun i hi => h i (by omega)
    have h2 : [n].countP f ≤ [n].countP g := by
      simp only [List.countP_singleton]
      by_cases hf : f n = true
      · rw [if_pos hf, if_pos (h n (by omega) hf)]; exact Nat.le_refl _
      · rw [if_neg hf]; exact Nat.zero_le _
    omega
theorem count_more {f g : Nat → Bool} (n : Nat) (h : ∀ i, i < n → f i = true → g i = true) {q : Nat} (hq : q < n) (h0 : f q = false) (h1 : g q = true) : (List.range n).countP f + 1 ≤ (List.range n).countP g := by
  induction n with
  | zero => omega
  | succ n ih =>
    rw [List.range_succ, List.countP_append, List.countP_append]
    simp only [List.countP_singleton]
    by_cases e : q = n
    · subst e
      have h2 := count_mono q fun i hi => h i (by omega)
      rw [h0, h1]
      simp
      omega
    · have h2 := ih (fun i hi => h i (by omega)) (by omega)
      by_cases hf : f n = true
      · rw [if_pos hf, if_pos (h n (by omega) hf)]; omega
      · rw [if_neg hf]; omega
theorem cntU_put {ds : List DefL} (hl : libB ds = true) (l : List UInt8 → Option Bool) {i : Nat} (hi : i < ds.length) (h : mkL ds l i = false) : cntU ds l + 1 ≤ cntU ds (putL l (dAt ds i).name.toList true) :=
  count_more ds.length (fun _ hj hm => (mkL_put hl l hi hj).2 (.inr hm)) hi h ((mkL_put hl l hi hi).2 (.inl rfl))
theorem cntU_le (ds : List DefL) (l : List UInt8 → Option Bool) : cntU ds l ≤ ds.length := by
  have := List.countP_le_length (p := fun i => mkL ds l i) (l := List.range ds.length)
  rw [List.length_range] at this
  exact this

/-- The names of the marked definitions among the first k. -/
def namesF (ds : List DefL) (f : Nat → Bool) (k : Nat) : List ByteArray := ((List.range k).filter f).map fun i => (dAt ds i).name
theorem namesF_zero (ds : List DefL) (f : Nat → Bool) : namesF ds f 0 = [] := rfl
theorem namesF_yes (ds : List DefL) {f : Nat → Bool} {k : Nat} (h : f k = true) : namesF ds f (k + 1) = namesF ds f k ++ [(dAt ds k).name] := by
  unfold namesF
  rw [List.range_succ, List.filter_append, List.map_append]
  simp [h]
theorem namesF_no (ds : List DefL) {f : Nat → Bool} {k : Nat} (h : f k = false) : namesF ds f (k + 1) = namesF ds f k := by
  unfold namesF
  rw [List.range_succ, List.filter_append, List.map_append]
  simp [h]
theorem namesF_len (ds : List DefL) (f : Nat → Bool) (k : Nat) : (namesF ds f k).length ≤ k := by
  unfold namesF
  rw [List.length_map]
  have := List.length_filter_le f (List.range k)
  rw [List.length_range] at this
  exact this
/-- What UsedNames returns, f being the marks. -/
def unR (ds : List DefL) (ns : List NodeL) (f : Nat → Bool) : List ByteArray := if (typI ds ns).isSome = true then namesF ds f ds.length else []
theorem unR_len (ds : List DefL) (ns : List NodeL) (f : Nat → Bool) : (unR ds ns f).length ≤ 12 := by
  unfold unR
  split
  · rename_i h
    have h1 := namesF_len ds f ds.length
    cases ht : typI ds ns with
    | none => rw [ht] at h; cases h
    | some p =>
      have := (libB_all (typI_lib ht).1).1
      omega
  · exact Nat.zero_le _

end Ints
end Go.Proofs.Ytoegbphkheohoaa
