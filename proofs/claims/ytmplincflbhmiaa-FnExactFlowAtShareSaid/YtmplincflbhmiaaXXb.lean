/- Rows of numbers put in order block by block: the plain part. -/
import Derived.Test.YtmplincflbhmiaaXXa
namespace Go.Proofs.Ytmplincflbhmiaa
set_option linter.unusedSimpArgs false
set_option linter.unusedVariables false
open Go Cn Go.RowKit
theorem mkI_app (n : Int) (a b : Nat) : mkI n a ++ mkI (n + a) b = mkI n (a + b) := by
  induction b with
  | zero => simp [mkI]
  | succ b ih => rw [mkI_succ, ← List.append_assoc, ih, show a + (b + 1) = (a + b) + 1 by omega, mkI_succ]; congr 2; omega
theorem mkI_mem {n x : Int} {a : Nat} : x ∈ mkI n a ↔ n ≤ x ∧ x < n + a := by
  constructor
  · intro h
    obtain ⟨j, hj, rfl⟩ := List.mem_map.1 h
    have := List.mem_range.1 hj
    omega
  · intro h
    refine List.mem_map.2 ⟨(x - n).toNat, List.mem_range.2 (by omega), by omega⟩
theorem mkI_drop (n : Int) {a b : Nat} (h : b ≤ a) : (mkI n a).drop b = mkI (n + b) (a - b) := by
  have e := mkI_app n b (a - b)
  rw [show b + (a - b) = a by omega] at e
  rw [← e, List.drop_append_of_le_length (by rw [mkI_len]; exact Nat.le_refl _), List.drop_of_length_le (by rw [mkI_len]; exact Nat.le_refl _), List.nil_append]
theorem mkI_take (n : Int) {a b : Nat} (h : b ≤ a) : (mkI n a).take b = mkI n b := by
  have e := mkI_app n b (a - b)
  rw [show b + (a - b) = a by omega] at e
  rw [← e, List.take_append_of_le_length (by rw [mkI_len]; exact Nat.le_refl _), List.take_of_length_le (by rw [mkI_len]; exact Nat.le_refl _)]
/-- the places from lo up to hi -/
def seg (xs : List Int) (lo hi : Nat) : List Int := (xs.take hi).drop lo
theorem seg_len {xs : List Int} {lo hi : Nat} (h : hi ≤ xs.length) : (seg xs lo hi).length = hi - lo := by simp [seg]; omega
theorem seg_self {xs : List Int} {lo hi : Nat} (h1 : lo ≤ hi) : xs.take lo ++ (seg xs lo hi ++ xs.drop hi) = xs := by
  unfold seg
  have e : xs.take lo = (xs.take hi).take lo := by rw [List.take_take]; congr 1; omega
  rw [e, ← List.append_assoc, List.take_append_drop, List.take_append_drop]
theorem seg_app {xs : List Int} {lo mid hi : Nat} (h1 : lo ≤ mid) (h2 : mid ≤ hi) : seg xs lo mid ++ seg xs mid hi = seg xs lo hi := by
  unfold seg
  have e : xs.take mid = (xs.take hi).take mid := by rw [List.take_take]; congr 1; omega
  rw [e]
  generalize xs.take hi = ys
  have e2 : (ys.take mid).drop lo ++ ys.drop mid = (ys.take mid ++ ys.drop mid).drop lo := by
    by_cases h : mid ≤ ys.length
    · rw [List.drop_append_of_le_length (by rw [List.length_take]; omega)]
    · rw [List.drop_of_length_le (show ys.length ≤ mid by omega), List.append_nil, List.append_nil]
  rw [e2, List.take_append_drop]
theorem seg_four {xs : List Int} {lo mid hi : Nat} (h1 : lo ≤ mid) (h2 : mid ≤ hi) : four4 (xs.take lo) (seg xs lo mid) (seg xs mid hi) (xs.drop hi) = xs := by
  unfold four4
  rw [← List.append_assoc (seg xs lo mid), seg_app h1 h2, seg_self (by omega)]
/-- places from lo to hi put in -/
def putS (xs R : List Int) (lo hi : Nat) : List Int := xs.take lo ++ (R ++ xs.drop hi)
theorem putS_len {xs R : List Int} {lo hi : Nat} (h1 : lo ≤ hi) (h2 : hi ≤ xs.length) (hR : R.length = hi - lo) : (putS xs R lo hi).length = xs.length := by
  simp [putS, hR]; omega
theorem putS_seg {xs R : List Int} {lo hi : Nat} (h1 : lo ≤ hi) (h2 : hi ≤ xs.length) (hR : R.length = hi - lo) : seg (putS xs R lo hi) lo hi = R := by
  unfold seg putS
  have hl : (xs.take lo).length = lo := by rw [List.length_take]; omega
  rw [← List.append_assoc, List.take_append_of_le_length (by rw [List.length_append, hl, hR]; omega), List.take_of_length_le (by rw [List.length_append, hl, hR]; omega), List.drop_append_of_le_length (by omega), List.drop_of_length_le (by omega), List.nil_append]
theorem ext_D {xs ys : List Int} (hl : xs.length = ys.length) (h : ∀ i, i < xs.length → xs.getD i 0 = ys.getD i 0) : xs = ys := by
  refine List.ext_getElem hl fun i h1 h2 => ?_
  have := h i h1
  simpa [List.getD_eq_getElem?_getD, h1, h2] using this
theorem seg_get {xs : List Int} {lo hi i : Nat} (hi2 : i < hi - lo) : (seg xs lo hi).getD i 0 = xs.getD (lo + i) 0 := by
  unfold seg
  simp only [List.getD_eq_getElem?_getD, List.getElem?_drop, List.getElem?_take]
  rw [if_pos (by omega)]
theorem putS_get {xs R : List Int} {lo hi i : Nat} (h1 : lo ≤ hi) (h2 : hi ≤ xs.length) (hR : R.length = hi - lo) (hi2 : i < lo ∨ hi ≤ i) : (putS xs R lo hi).getD i 0 = xs.getD i 0 := by
  unfold putS
  have hl : (xs.take lo).length = lo := by rw [List.length_take]; omega
  simp only [List.getD_eq_getElem?_getD]
  rcases hi2 with h | h
  · rw [List.getElem?_append_left (by omega), List.getElem?_take, if_pos h]
  · rw [List.getElem?_append_right (by omega), List.getElem?_append_right (by omega), List.getElem?_drop]
    congr 2
    omega
theorem putS_other {xs R : List Int} {lo hi a b : Nat} (h1 : lo ≤ hi) (h2 : hi ≤ xs.length) (hR : R.length = hi - lo) (hb : b ≤ xs.length) (h : b ≤ lo ∨ hi ≤ a) : seg (putS xs R lo hi) a b = seg xs a b := by
  have hl := putS_len h1 h2 hR
  refine ext_D (by rw [seg_len (by omega), seg_len hb]) fun i hi2 => ?_
  rw [seg_len (by omega)] at hi2
  rw [seg_get hi2, seg_get hi2]
  exact putS_get h1 h2 hR (by omega)
theorem putS_drop {xs R : List Int} {lo hi : Nat} (h1 : lo ≤ hi) (h2 : hi ≤ xs.length) (hR : R.length = hi - lo) : (putS xs R lo hi).drop hi = xs.drop hi := by
  unfold putS
  have hl : (xs.take lo ++ R).length = hi := by rw [List.length_append, List.length_take, hR]; omega
  rw [← List.append_assoc, List.drop_append_of_le_length (by omega), List.drop_of_length_le (by omega), List.nil_append]
/-- who of two comes first: by the comparison, else by the number itself -/
def stL (lt : Int → Int → Bool) (x y : Int) : Prop := lt x y = true ∨ (lt y x = false ∧ x < y)
theorem stL_or {lt : Int → Int → Bool} (ha : ∀ x y, lt x y = true → lt y x = false) (hn : ∀ x y z, lt x y = false → lt y z = false → lt x z = false) : StOr (stL lt) where
  asym := by
    intro x y h1 h2
    rcases h1 with h1 | ⟨h1, h3⟩ <;> rcases h2 with h2 | ⟨h2, h4⟩
    · rw [ha x y h1] at h2; cases h2
    · rw [h1] at h2; cases h2
    · rw [h1] at h2; cases h2
    · omega
  trans := by
    intro x y z h1 h2
    rcases h1 with h1 | ⟨h1, h3⟩ <;> rcases h2 with h2 | ⟨h2, h4⟩
    · left
      cases h : lt x z
      · have := hn x z y h (ha y z h2); rw [h1] at this; cases this
      · rfl
    · left
      cases h : lt x z
      · have := hn x z y h h2; rw [h1] at this; cases this
      · rfl
    · left
      cases h : lt x z
      · have := hn y x z h1 h; rw [h2] at this; cases this
      · rfl
    · exact .inr ⟨hn z y x h2 h1, by omega⟩
theorem stL_no {lt : Int → Int → Bool} {u v : Int} (h : u < v) (h2 : lt v u = false) : stL lt u v := .inr ⟨h2, h⟩
/-- places lo to hi hold the numbers lo to hi in order -/
structure Sg (lt : Int → Int → Bool) (xs : List Int) (lo hi : Nat) : Prop where
  perm : (seg xs lo hi).Perm (mkI lo (hi - lo))
  pw : (seg xs lo hi).Pairwise (stL lt)
section
variable {lt : Int → Int → Bool} {xs R : List Int} {lo mid hi a b n : Nat}
theorem Sg.mgb (h1 : Sg lt xs lo mid) (h2 : Sg lt xs mid hi) (hl : lo ≤ mid) (hh : mid ≤ hi) : Mgb (stL lt) lt (seg xs lo mid) (seg xs mid hi) :=
  ⟨h1.pw, h2.pw, fun u hu v hv h => .inl h, fun u hu v hv h => by
    have hu := mkI_mem.1 (h1.perm.subset hu)
    have hv := mkI_mem.1 (h2.perm.subset hv)
    exact stL_no (by omega) h⟩
theorem Sg.merged (h1 : Sg lt xs lo mid) (h2 : Sg lt xs mid hi) (hl : lo ≤ mid) (hh : mid ≤ hi) (hx : hi ≤ xs.length) (hp : R.Perm (seg xs lo mid ++ seg xs mid hi)) (hw : R.Pairwise (stL lt)) : R.length = hi - lo ∧ Sg lt (putS xs R lo hi) lo hi := by
  have hR : R.length = hi - lo := by rw [hp.length_eq, List.length_append, seg_len (by omega), seg_len hx]; omega
  refine ⟨hR, ?_, ?_⟩
  · rw [putS_seg (by omega) hx hR]
    refine hp.trans ((h1.perm.append h2.perm).trans ?_)
    have e := mkI_app (lo : Int) (mid - lo) (hi - mid)
    rw [show (lo : Int) + ((mid - lo : Nat) : Int) = mid by omega, show mid - lo + (hi - mid) = hi - lo by omega] at e
    rw [e]
  · rw [putS_seg (by omega) hx hR]; exact hw
theorem Sg.keep (h : Sg lt xs a b) (h1 : lo ≤ hi) (h2 : hi ≤ xs.length) (hR : R.length = hi - lo) (hb : b ≤ xs.length) (hd : b ≤ lo ∨ hi ≤ a) : Sg lt (putS xs R lo hi) a b := by
  refine ⟨?_, ?_⟩
  · rw [putS_other h1 h2 hR hb hd]; exact h.perm
  · rw [putS_other h1 h2 hR hb hd]; exact h.pw
theorem Sg.fresh (h1 : lo ≤ hi) (hx : hi ≤ xs.length) (hp : R.Perm (mkI lo (hi - lo))) (hw : R.Pairwise (stL lt)) : R.length = hi - lo ∧ Sg lt (putS xs R lo hi) lo hi := by
  have hR : R.length = hi - lo := by rw [hp.length_eq, mkI_len]
  refine ⟨hR, ?_, ?_⟩
  · rw [putS_seg h1 hx hR]; exact hp
  · rw [putS_seg h1 hx hR]; exact hw
/-- blocks of twenty in order up to the k-th -/
structure St1 (lt : Int → Int → Bool) (n k : Nat) (xs : List Int) : Prop where
  len : xs.length = n
  le : 20 * k ≤ n
  done : ∀ q, q < k → Sg lt xs (20 * q) (20 * q + 20)
  rest : xs.drop (20 * k) = mkI ((20 * k : Nat) : Int) (n - 20 * k)
theorem St1.zero (n : Nat) : St1 lt n 0 (mkI 0 n) := ⟨mkI_len _ _, by omega, fun q hq => absurd hq (Nat.not_lt_zero q), by rw [Nat.mul_zero, List.drop_zero]; rfl⟩
theorem St1.seg {k : Nat} (h : St1 lt n k xs) (h1 : 20 * k ≤ hi) (h2 : hi ≤ n) : Go.Proofs.Ytmplincflbhmiaa.seg xs (20 * k) hi = mkI ((20 * k : Nat) : Int) (hi - 20 * k) := by
  have e : Go.Proofs.Ytmplincflbhmiaa.seg xs (20 * k) hi = (xs.drop (20 * k)).take (hi - 20 * k) := by unfold Go.Proofs.Ytmplincflbhmiaa.seg; rw [List.take_drop]; congr 2; omega
  rw [e, h.rest, mkI_take _ (by omega)]
theorem St1.step {k : Nat} (h : St1 lt n k xs) (hk : 20 * k + 20 ≤ n) (hp : R.Perm (mkI ((20 * k : Nat) : Int) 20)) (hw : R.Pairwise (stL lt)) : St1 lt n (k + 1) (putS xs R (20 * k) (20 * k + 20)) := by
  have hl := h.len
  obtain ⟨hR, hs⟩ := Sg.fresh (xs := xs) (lo := 20 * k) (hi := 20 * k + 20) (by omega) (by omega) (by rw [show 20 * k + 20 - 20 * k = 20 by omega]; exact hp) hw
  refine ⟨?_, by omega, fun q hq => ?_, ?_⟩
  · rw [putS_len (by omega) (by omega) hR, hl]
  · by_cases e : q = k
    · subst e; exact hs
    · exact (h.done q (by omega)).keep (by omega) (by omega) hR (by omega) (.inl (by omega))
  · have e2 : xs.drop (20 * k + 20) = (xs.drop (20 * k)).drop 20 := by rw [List.drop_drop]
    rw [show 20 * (k + 1) = 20 * k + 20 by omega, putS_drop (by omega) (by omega) hR, e2, h.rest, mkI_drop _ (by omega)]
    congr 1
/-- blocks of w in order -/
structure Bk (lt : Int → Int → Bool) (n w : Nat) (xs : List Int) : Prop where
  len : xs.length = n
  done : ∀ q, q * w < n → Sg lt xs (q * w) (min (q * w + w) n)
theorem St1.last {k : Nat} (h : St1 lt n k xs) (hk : n < 20 * k + 20) (hp : R.Perm (mkI ((20 * k : Nat) : Int) (n - 20 * k))) (hw : R.Pairwise (stL lt)) : Bk lt n 20 (putS xs R (20 * k) n) := by
  have hl := h.len
  have hle := h.le
  obtain ⟨hR, hs⟩ := Sg.fresh (xs := xs) (lo := 20 * k) (hi := n) (by omega) (by omega) hp hw
  refine ⟨?_, fun q hq => ?_⟩
  · rw [putS_len (by omega) (by omega) hR, hl]
  · by_cases e : q = k
    · subst e
      rw [show min (q * 20 + 20) n = n by omega, show q * 20 = 20 * q by omega]; exact hs
    · rw [show min (q * 20 + 20) n = 20 * q + 20 by omega, show q * 20 = 20 * q by omega]
      exact (h.done q (by omega)).keep (by omega) (by omega) hR (by omega) (.inl (by omega))
/-- blocks of two w in order up to the k-th pair -/
structure In (lt : Int → Int → Bool) (n w k : Nat) (xs : List Int) : Prop where
  len : xs.length = n
  le : k * (2 * w) ≤ n
  done : ∀ q, q < k → Sg lt xs (q * (2 * w)) (q * (2 * w) + 2 * w)
  rest : ∀ q, 2 * k ≤ q → q * w < n → Sg lt xs (q * w) (min (q * w + w) n)
theorem In.zero {w : Nat} (h : Bk lt n w xs) : In lt n w 0 xs := ⟨h.len, by omega, fun q hq => absurd hq (Nat.not_lt_zero q), fun q _ h2 => h.done q h2⟩
theorem two_mul' (k w : Nat) : 2 * k * w = k * (2 * w) := by rw [Nat.mul_comm 2 k, Nat.mul_assoc]
theorem two_mul1 (k w : Nat) : (2 * k + 1) * w = k * (2 * w) + w := by rw [Nat.add_mul, Nat.one_mul, two_mul']
theorem In.one {w k : Nat} (h : In lt n w k xs) (hk : k * (2 * w) + w ≤ n) (hw : 0 < w) : Sg lt xs (k * (2 * w)) (k * (2 * w) + w) := by
  have := h.rest (2 * k) (by omega) (by rw [two_mul']; omega)
  rwa [two_mul', show min (k * (2 * w) + w) n = k * (2 * w) + w by omega] at this
theorem In.two {w k : Nat} (h : In lt n w k xs) (hk : k * (2 * w) + w < n) : Sg lt xs (k * (2 * w) + w) (min (k * (2 * w) + 2 * w) n) := by
  have := h.rest (2 * k + 1) (by omega) (by rw [two_mul1]; omega)
  rwa [two_mul1, show k * (2 * w) + w + w = k * (2 * w) + 2 * w by omega] at this
theorem far_block {q k w : Nat} (h : 2 * (k + 1) ≤ q) : k * (2 * w) + 2 * w ≤ q * w := by
  have e := Nat.mul_le_mul_right w h
  rw [two_mul', Nat.add_mul, Nat.one_mul] at e
  exact e
theorem near_block {q k w : Nat} (h : q < k) : q * (2 * w) + 2 * w ≤ k * (2 * w) := by
  have e := Nat.mul_le_mul_right (2 * w) (show q + 1 ≤ k from h)
  rwa [Nat.add_mul, Nat.one_mul] at e
theorem In.step {w k : Nat} (h : In lt n w k xs) (hw0 : 0 < w) (hk : k * (2 * w) + 2 * w ≤ n) (hp : R.Perm (Go.Proofs.Ytmplincflbhmiaa.seg xs (k * (2 * w)) (k * (2 * w) + w) ++ Go.Proofs.Ytmplincflbhmiaa.seg xs (k * (2 * w) + w) (k * (2 * w) + 2 * w))) (hw : R.Pairwise (stL lt)) : In lt n w (k + 1) (putS xs R (k * (2 * w)) (k * (2 * w) + 2 * w)) := by
  have hl := h.len
  have s1 := h.one (by omega) hw0
  have s2 := h.two (k := k) (by omega)
  rw [show min (k * (2 * w) + 2 * w) n = k * (2 * w) + 2 * w by omega] at s2
  obtain ⟨hR, hs⟩ := s1.merged s2 (by omega) (by omega) (by omega) hp hw
  refine ⟨?_, by rw [Nat.add_mul, Nat.one_mul]; omega, fun q hq => ?_, fun q h1 h2 => ?_⟩
  · rw [putS_len (by omega) (by omega) hR, hl]
  · by_cases e : q = k
    · subst e; exact hs
    · have := near_block (w := w) (show q < k by omega)
      exact (h.done q (by omega)).keep (by omega) (by omega) hR (by omega) (.inl (by omega))
  · have := far_block (w := w) h1
    exact (h.rest q (by omega) h2).keep (by omega) (by omega) hR (by omega) (.inr (by omega))
theorem In.last {w k : Nat} (h : In lt n w k xs) (hw0 : 0 < w) (hk : k * (2 * w) + w < n) (hk2 : n < k * (2 * w) + 2 * w) (hp : R.Perm (Go.Proofs.Ytmplincflbhmiaa.seg xs (k * (2 * w)) (k * (2 * w) + w) ++ Go.Proofs.Ytmplincflbhmiaa.seg xs (k * (2 * w) + w) n)) (hw : R.Pairwise (stL lt)) : Bk lt n (2 * w) (putS xs R (k * (2 * w)) n) := by
  have hl := h.len
  have s1 := h.one (by omega) hw0
  have s2 := h.two (k := k) (by omega)
  rw [show min (k * (2 * w) + 2 * w) n = n by omega] at s2
  obtain ⟨hR, hs⟩ := s1.merged s2 (by omega) (by omega) (by omega) hp hw
  refine ⟨?_, fun q hq => ?_⟩
  · rw [putS_len (by omega) (by omega) hR, hl]
  · rcases Nat.lt_trichotomy q k with e | e | e
    · have := near_block (w := w) e
      rw [show min (q * (2 * w) + 2 * w) n = q * (2 * w) + 2 * w by omega]
      exact (h.done q e).keep (by omega) (by omega) hR (by omega) (.inl (by omega))
    · subst e
      rw [show min (q * (2 * w) + 2 * w) n = n by omega]; exact hs
    · have := near_block (w := w) e; omega
theorem In.none {w k : Nat} (h : In lt n w k xs) (hw0 : 0 < w) (hk : n ≤ k * (2 * w) + w) : Bk lt n (2 * w) xs := by
  refine ⟨h.len, fun q hq => ?_⟩
  rcases Nat.lt_trichotomy q k with e | e | e
  · have := near_block (w := w) e
    have hle := h.le
    rw [show min (q * (2 * w) + 2 * w) n = q * (2 * w) + 2 * w by omega]
    exact h.done q e
  · subst e
    have := h.rest (2 * q) (by omega) (by rw [two_mul']; exact hq)
    rw [two_mul', show min (q * (2 * w) + w) n = n by omega] at this
    rw [show min (q * (2 * w) + 2 * w) n = n by omega]; exact this
  · have := near_block (w := w) e; omega
theorem Bk.all {w : Nat} (h : Bk lt n w xs) (hw : n ≤ w) : xs.Perm (mkI 0 n) ∧ xs.Pairwise (stL lt) := by
  have hl := h.len
  by_cases h0 : n = 0
  · have : xs = [] := List.eq_nil_of_length_eq_zero (by omega)
    subst this; subst h0
    exact ⟨List.Perm.refl _, List.Pairwise.nil⟩
  · have s := h.done 0 (by omega)
    rw [Nat.zero_mul, Nat.zero_add, show min w n = n by omega] at s
    have e : Go.Proofs.Ytmplincflbhmiaa.seg xs 0 n = xs := by unfold Go.Proofs.Ytmplincflbhmiaa.seg; rw [List.drop_zero, List.take_of_length_le (by omega)]
    obtain ⟨s1, s2⟩ := s
    rw [e] at s1 s2
    exact ⟨s1, s2⟩
end
end Go.Proofs.Ytmplincflbhmiaa
