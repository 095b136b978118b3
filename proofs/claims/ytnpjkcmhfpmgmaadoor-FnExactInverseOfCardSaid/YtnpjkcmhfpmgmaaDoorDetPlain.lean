/- Plain words: the determinant by the steps of a full reduction, and by the steps below the leads alone. -/
import Derived.Test.YtnpjkcmhfpmgmaaDoorLin2
namespace Go.Proofs.YtnpjkcmhfpmgmaaDoor
set_option linter.unusedVariables false
namespace Lin
open Ints

/-- The reference's: the determinant of the steps beside the full reduction. -/
structure Det where
  s : Red
  det : Int
def negI (p a : Int) : Int := (-a) % p
def detCol (p : Int) (d : Det) (c : Nat) : Det :=
  let k := seek d.s.M c d.s.r
  if k < d.s.M.length then ⟨Red.step p d.s c k, ((if d.s.r < k then negI p d.det else d.det) * at2 d.s.M k c) % p⟩ else d
def detN (p : Int) (d : Det) : Nat → Det
  | 0 => d
  | c + 1 => detCol p (detN p d c) c
theorem detCol_s (p : Int) (d : Det) (c : Nat) : (detCol p d c).s = redCol p d.s c := by
  unfold detCol redCol
  simp only
  split <;> rfl
theorem detN_s (p : Int) (d : Det) : ∀ c, (detN p d c).s = redN p d.s c
  | 0 => rfl
  | c + 1 => by
    show (detCol p (detN p d c) c).s = redCol p (redN p d.s c) c
    rw [detCol_s, detN_s p d c]

/-- The program's: rows behind row c cleared in column c, each by the multiple of the row as it stands. -/
def lowRow (p b : Int) (c : Nat) (M : List (List Int)) (q : Nat) : List Int := lessRow p (at2 M q c * b) (lAt M q) (lAt M c)
def lowP (p b : Int) (c : Nat) (M : List (List Int)) (i : Nat) : List (List Int) := (List.range M.length).map fun q => if c < q ∧ q < i then lowRow p b c M q else lAt M q
/-- One column; none where no row has a lead there. -/
def lowCol (p : Int) (c : Nat) (x : List (List Int) × Int) : Option (List (List Int) × Int) :=
  let k := seek x.1 c c
  if k < x.1.length then
    let M1 := swapL x.1 c k
    let d1 := if c < k then negI p x.2 else x.2
    some (lowP p (invI p (at2 M1 c c)) c M1 M1.length, (d1 * at2 M1 c c) % p)
  else none
def lowN (p : Int) (x : List (List Int) × Int) : Nat → Option (List (List Int) × Int)
  | 0 => some x
  | c + 1 => (lowN p x c).bind (lowCol p c)

theorem lowP_length (p b : Int) (c : Nat) (M : List (List Int)) (i : Nat) : (lowP p b c M i).length = M.length := by simp [lowP]
theorem lowP_at {p b : Int} {c : Nat} {M : List (List Int)} {i q : Nat} (h : q < M.length) : lAt (lowP p b c M i) q = if c < q ∧ q < i then lowRow p b c M q else lAt M q := by
  unfold lowP
  conv => lhs; unfold lAt
  rw [List.getElem?_map, List.getElem?_range h]
  rfl
theorem lowP_zero (p b : Int) (c : Nat) (M : List (List Int)) : lowP p b c M (c + 1) = M := by
  apply list_eq (lowP_length _ _ _ _ _)
  intro q hq
  rw [lowP_length] at hq
  rw [lowP_at hq, if_neg (by omega)]
theorem lowP_row {p b : Int} {c : Nat} {M : List (List Int)} {i : Nat} (h : c < M.length) : lAt (lowP p b c M i) c = lAt M c := by
  rw [lowP_at h, if_neg (by omega)]
theorem lowP_next {p b : Int} {c : Nat} {M : List (List Int)} {i : Nat} (h : i < M.length) : lAt (lowP p b c M i) i = lAt M i := by
  rw [lowP_at h, if_neg (by omega)]
theorem lowP_step {p b : Int} {c : Nat} {M : List (List Int)} {i : Nat} (h : i < M.length) (hc : c < i) : (lowP p b c M i).set i (lowRow p b c M i) = lowP p b c M (i + 1) := by
  apply list_eq (by simp [lowP_length])
  intro q hq
  rw [List.length_set, lowP_length] at hq
  rw [lAt_set _ _ _ _ (by rw [lowP_length]; exact h), lowP_at hq, lowP_at hq]
  by_cases e : i = q
  · subst e; simp [hc]
  · rw [if_neg e]
    by_cases e2 : c < q ∧ q < i
    · rw [if_pos e2, if_pos (by omega)]
    · rw [if_neg e2, if_neg (by omega)]
theorem elems_low {p b : Int} (hp : 2 ≤ p) {r w c i : Nat} {L : List (List Int)} (h : ElemsT p r w L) : ElemsT p r w (lowP p b c L i) := by
  refine ⟨by rw [lowP_length, h.1], fun q hq => ?_⟩
  have h1 := h.2 q hq
  unfold at2
  rw [lowP_at (by rw [h.1]; exact hq)]
  split
  · rw [lowRow, lessRow, h1.1]
    exact ⟨rowT_length _ _, row_mod hp _ _⟩
  · exact h1

theorem seekF_congr {M M' : List (List Int)} {c : Nat} : ∀ f k, (∀ q, k ≤ q → q < k + f → at2 M q c = at2 M' q c) → seekF M c f k = seekF M' c f k
  | 0, _, _ => rfl
  | f + 1, k, h => by
    unfold seekF
    rw [h k (Nat.le_refl k) (by omega), seekF_congr f (k + 1) fun q h1 h2 => h q (by omega) (by omega)]

/-- The rows from c on are the same in both, as long as each column had its lead. -/
theorem low_det {p : Int} {n : Nat} {M : List (List Int)} (hg : Fld.goodB p = true) (hM : ElemsT p n n M) : ∀ c, c ≤ n →
    (∃ x, lowN p (M, 1) c = some x ∧ ElemsT p n n x.1 ∧ (detN p ⟨⟨M, idT n, 0⟩, 1⟩ c).s.r = c ∧ x.2 = (detN p ⟨⟨M, idT n, 0⟩, 1⟩ c).det ∧ ∀ q, c ≤ q → q < n → lAt x.1 q = lAt (detN p ⟨⟨M, idT n, 0⟩, 1⟩ c).s.M q) ∨
    (lowN p (M, 1) c = none ∧ (detN p ⟨⟨M, idT n, 0⟩, 1⟩ c).s.r < c)
  | 0, _ => .inl ⟨(M, 1), rfl, hM, rfl, rfl, fun q _ _ => rfl⟩
  | c + 1, hc => by
    have hp := (Fld.good_bounds hg).1
    have ih := low_det hg hM c (by omega)
    have hs := detN_s p ⟨⟨M, idT n, 0⟩, 1⟩ c
    have hok : RedOk p n n n (detN p ⟨⟨M, idT n, 0⟩, 1⟩ c).s := by rw [hs]; exact redN_ok hp ⟨hM, elems_id hp n, Nat.zero_le _⟩ c
    show (∃ x, (lowN p (M, 1) c).bind (lowCol p c) = some x ∧ ElemsT p n n x.1 ∧ (detCol p (detN p ⟨⟨M, idT n, 0⟩, 1⟩ c) c).s.r = c + 1 ∧ x.2 = (detCol p (detN p ⟨⟨M, idT n, 0⟩, 1⟩ c) c).det ∧ ∀ q, c + 1 ≤ q → q < n → lAt x.1 q = lAt (detCol p (detN p ⟨⟨M, idT n, 0⟩, 1⟩ c) c).s.M q) ∨
      ((lowN p (M, 1) c).bind (lowCol p c) = none ∧ (detCol p (detN p ⟨⟨M, idT n, 0⟩, 1⟩ c) c).s.r < c + 1)
    generalize detN p ⟨⟨M, idT n, 0⟩, 1⟩ c = d at *
    clear hs
    rcases ih with ⟨x, hx, hxE, hr, hdet, hrows⟩ | ⟨hx, hr⟩
    · rw [hx, Option.bind_some]
      have hlen : x.1.length = d.s.M.length := by rw [hxE.1, hok.1.1]
      have hat : ∀ q, c ≤ q → q < n → ∀ t, at2 x.1 q t = at2 d.s.M q t := fun q h1 h2 t => by unfold at2; rw [hrows q h1 h2]
      have hseek : seek x.1 c c = seek d.s.M c d.s.r := by
        unfold seek
        rw [hr, hlen]
        refine seekF_congr _ _ fun q h1 h2 => hat q h1 ?_ c
        rw [hok.1.1] at h2
        omega
      by_cases hk : seek d.s.M c d.s.r < d.s.M.length
      · left
        obtain ⟨k1, k2, k3, k4, k5⟩ := pivot_in hok (by omega : c < n) hk
        unfold lowCol detCol
        simp only
        rw [hseek, if_pos (by rw [hlen]; exact hk), if_pos hk]
        rw [hr] at k1 k2 k3 k4 k5 ⊢
        generalize seek d.s.M c c = k at *
        have m1 := elems_swap hok.1 k1 k2
        have x1 := elems_swap hxE k1 k2
        have m2 := elems_scaled hp (q := c) (M := swapL d.s.M c k) m1 k1
        have hswap : ∀ q, c ≤ q → q < n → lAt (swapL x.1 c k) q = lAt (swapL d.s.M c k) q := by
          intro q h1 h2
          rw [swapL_at (by rw [hxE.1]; exact k1) (by rw [hxE.1]; exact k2), swapL_at (by rw [hok.1.1]; exact k1) (by rw [hok.1.1]; exact k2), hrows c (Nat.le_refl c) k1, hrows k k3 k2, hrows q h1 h2]
        have hpiv : at2 (swapL x.1 c k) c c = at2 (swapL d.s.M c k) c c := by unfold at2; rw [hswap c (Nat.le_refl c) k1]
        refine ⟨_, rfl, elems_low hp x1, ?_, ?_, fun q h1 h2 => ?_⟩
        · show d.s.r + 1 = c + 1
          rw [hr]
        · show (if c < k then negI p x.2 else x.2) * at2 (swapL x.1 c k) c c % p = (if c < k then negI p d.det else d.det) * at2 d.s.M k c % p
          rw [hdet, hpiv, at2_swap (by rw [hok.1.1]; exact k1) (by rw [hok.1.1]; exact k2)]
          congr 2
          by_cases e : c = k
          · rw [if_pos e, e]
          · rw [if_neg e, if_pos rfl]
        · show lAt (lowP _ _ _ _ _) q = lAt (Red.step p d.s c k).M q
          unfold Red.step
          simp only
          rw [hr]
          rw [lowP_at (by rw [x1.1]; exact h2), clearP_at (by rw [m2.1]; exact h2), if_pos ⟨by omega, by rw [x1.1]; exact h2⟩, if_pos (by rw [m2.1]; exact h2)]
          have hq : lAt (Red.scaled p c c (swapL d.s.M c k) (swapL d.s.M c k)) q = lAt (swapL d.s.M c k) q := by
            unfold Red.scaled
            rw [lAt_set _ _ _ _ (by rw [m1.1]; exact k1), if_neg (by omega)]
          have hq2 : at2 (Red.scaled p c c (swapL d.s.M c k) (swapL d.s.M c k)) q c = at2 (swapL d.s.M c k) q c := by unfold at2; rw [hq]
          have hc2 : ∀ t, t < n → at2 (Red.scaled p c c (swapL d.s.M c k) (swapL d.s.M c k)) c t = (at2 (swapL d.s.M c k) c t * invI p (at2 (swapL d.s.M c k) c c)) % p := by
            intro t ht
            rw [at2_scaled (by rw [m1.1]; exact k1) c (by rw [(m1.2 c k1).1]; exact ht), if_pos rfl]
          have hlq := (m1.2 q h2).1
          unfold lowRow clearRow Red.col
          rw [hq2, hq, hpiv]
          have hat1 : at2 (swapL x.1 c k) q c = at2 (swapL d.s.M c k) q c := by unfold at2; rw [hswap q (by omega) h2]
          rw [hat1, hswap q (by omega) h2, hswap c (Nat.le_refl c) k1]
          by_cases e : at2 (swapL d.s.M c k) q c = 0
          · rw [e, if_neg (fun h => h.2 rfl)]
            unfold lessRow
            rw [hlq]
            conv => rhs; rw [row_eq hlq]
            refine rowT_congr fun t ht => ?_
            rw [Int.zero_mul, Int.neg_zero, Int.zero_mul, Int.add_zero]
            have := (m1.2 q h2).2 t ht
            exact Int.emod_eq_of_lt this.1 this.2
          · rw [if_pos ⟨by omega, e⟩]
            unfold lessRow
            rw [hlq]
            refine rowT_congr fun t ht => ?_
            have h3 := hc2 t ht
            unfold at2 at h3 ⊢
            rw [h3]
            refine Eqv.mod_eq ((Eqv.refl p _).add ?_)
            rw [Int.neg_mul, Int.neg_mul]
            refine Eqv.neg ?_
            rw [Int.mul_assoc]
            refine (Eqv.refl p _).mul ?_
            rw [Int.mul_comm]
            exact (Eqv.mod p _).symm
      · right
        have hn : lowCol p c x = none := by
          unfold lowCol
          simp only
          rw [hseek, if_neg (by rw [hlen]; exact hk)]
        have hd : detCol p d c = d := by
          unfold detCol
          simp only
          rw [if_neg hk]
        rw [hn, hd]
        exact ⟨rfl, by omega⟩
    · right
      rw [hx]
      refine ⟨rfl, ?_⟩
      rw [detCol_s]
      unfold redCol
      split
      · show d.s.r + 1 < c + 1
        omega
      · omega

end Lin
end Go.Proofs.YtnpjkcmhfpmgmaaDoor
