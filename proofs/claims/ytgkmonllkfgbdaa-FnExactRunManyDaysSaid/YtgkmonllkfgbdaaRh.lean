/- The order in which the water goes: plain. -/
import Derived.Test.YtgkmonllkfgbdaaRe
namespace Go.Proofs.Ytgkmonllkfgbdaa
set_option linter.unusedSimpArgs false
set_option linter.unusedVariables false
open Go Cn Go.RowKit
/-- node `i` is told already -/
def inO (O : List Int) (x : Int) : Bool := O.any fun y => decide (y = x)
theorem inO_iff {O : List Int} {x : Int} : inO O x = true ↔ x ∈ O := by simp [inO]
theorem inO_no {O : List Int} {x : Int} : inO O x = false ↔ x ∉ O := by rw [← inO_iff]; simp
theorem inO_app {O : List Int} {x y : Int} : inO (O ++ [y]) x = (inO O x || decide (y = x)) := by simp [inO]
/-- up to the j-th node, what flows into `i` is told -/
def rdyTo (ds O : List Int) (i : Int) (j : Nat) : Bool := !inO O i && (List.range j).all fun k : Nat => !decide (ds.getD k 0 = i) || inO O (k : Int)
theorem rdyTo_zero (ds O : List Int) (i : Int) : rdyTo ds O i 0 = !inO O i := by simp [rdyTo]
theorem rdyTo_succ (ds O : List Int) (i : Int) (j : Nat) : rdyTo ds O i (j + 1) = (rdyTo ds O i j && (!decide (ds.getD j 0 = i) || inO O (j : Int))) := by simp [rdyTo, List.range_succ, Bool.and_assoc]
def rdy (ds O : List Int) (i : Int) : Bool := rdyTo ds O i ds.length
theorem rdyTo_iff {ds O : List Int} {i : Int} {j : Nat} : rdyTo ds O i j = true ↔ i ∉ O ∧ ∀ k, k < j → ds.getD k 0 = i → (k : Int) ∈ O := by
  simp only [rdyTo, Bool.and_eq_true, Bool.not_eq_true', inO_no, List.all_eq_true, List.mem_range, Bool.or_eq_true, decide_eq_false_iff_not, inO_iff]
  constructor
  · rintro ⟨h1, h2⟩
    exact ⟨h1, fun k hk he => (h2 k hk).resolve_left fun h => h he⟩
  · rintro ⟨h1, h2⟩
    exact ⟨h1, fun k hk => (Decidable.em (ds.getD k 0 = i)).elim (fun h => .inr (h2 k hk h)) .inl⟩
/-- the first ready one -/
def fst0 (ds O : List Int) : Nat → Nat → Option Nat
  | 0, _ => none
  | f + 1, i => if rdy ds O (i : Int) then some i else fst0 ds O f (i + 1)
def nxt (ds O : List Int) : Option Nat := fst0 ds O ds.length 0
theorem fst0_some {ds O : List Int} : ∀ (f i m : Nat), i ≤ m → m < i + f → rdy ds O (m : Int) = true → (∀ k, i ≤ k → k < m → rdy ds O (k : Int) = false) → fst0 ds O f i = some m
  | 0, i, m, h1, h2, _, _ => by omega
  | f + 1, i, m, h1, h2, h3, h4 => by
    unfold fst0
    by_cases hm : i = m
    · subst hm; rw [if_pos h3]
    · rw [h4 i (Nat.le_refl _) (by omega), if_neg (by simp)]
      exact fst0_some f (i + 1) m (by omega) (by omega) h3 fun k hk hk' => h4 k (by omega) hk'
theorem nxt_some {ds O : List Int} {m : Nat} (h1 : m < ds.length) (h2 : rdy ds O (m : Int) = true) (h3 : ∀ k, k < m → rdy ds O (k : Int) = false) : nxt ds O = some m := fst0_some ds.length 0 m (Nat.zero_le _) (by omega) h2 fun k _ hk => h3 k hk
theorem fst0_none {ds O : List Int} : ∀ (f i : Nat), (∀ k, i ≤ k → k < i + f → rdy ds O (k : Int) = false) → fst0 ds O f i = none
  | 0, i, _ => rfl
  | f + 1, i, h => by
    unfold fst0
    rw [h i (Nat.le_refl _) (by omega), if_neg (by simp)]
    exact fst0_none f (i + 1) fun k hk hk' => h k (by omega) (by omega)
theorem nxt_none {ds O : List Int} (h : ∀ k, k < ds.length → rdy ds O (k : Int) = false) : nxt ds O = none := fst0_none ds.length 0 fun k _ hk => h k (by omega)
theorem fst0_is {ds O : List Int} : ∀ (f i m : Nat), fst0 ds O f i = some m → i ≤ m ∧ m < i + f ∧ rdy ds O (m : Int) = true
  | 0, i, m, h => by simp [fst0] at h
  | f + 1, i, m, h => by
    unfold fst0 at h
    split at h
    · cases h; exact ⟨Nat.le_refl _, by omega, by assumption⟩
    · have := fst0_is f (i + 1) m h; exact ⟨by omega, by omega, this.2.2⟩
theorem nxt_is {ds O : List Int} {m : Nat} (h : nxt ds O = some m) : m < ds.length ∧ rdy ds O (m : Int) = true := by
  have := fst0_is _ _ _ h
  exact ⟨by omega, this.2.2⟩
def fo (ds : List Int) : Nat → List Int
  | 0 => []
  | k + 1 => match nxt ds (fo ds k) with
    | some i => fo ds k ++ [(i : Int)]
    | none => fo ds k
theorem fo_zero (ds : List Int) : fo ds 0 = [] := rfl
theorem fo_some {ds : List Int} {k i : Nat} (h : nxt ds (fo ds k) = some i) : fo ds (k + 1) = fo ds k ++ [(i : Int)] := by simp only [fo, h]
theorem fo_none {ds : List Int} {k : Nat} (h : nxt ds (fo ds k) = none) : fo ds (k + 1) = fo ds k := by simp only [fo, h]
attribute [irreducible] fo
/-- what is told of an order under way -/
structure Ord (ds O : List Int) : Prop where
  rng : ∀ x ∈ O, 0 ≤ x ∧ x < (ds.length : Int)
  dup : O.Nodup
  cls : ∀ k, k < ds.length → ds.getD k 0 ∈ O → (k : Int) ∈ O
theorem Ord.nil (ds : List Int) : Ord ds [] := ⟨by simp, by simp, by simp⟩
theorem Ord.add {ds O : List Int} {i : Nat} (h : Ord ds O) (hi : i < ds.length) (hr : rdy ds O (i : Int) = true) : Ord ds (O ++ [(i : Int)]) := by
  obtain ⟨h1, h2⟩ := rdyTo_iff.1 hr
  refine ⟨?_, ?_, ?_⟩
  · intro x hx
    rcases List.mem_append.1 hx with hx | hx
    · exact h.rng x hx
    · simp only [List.mem_singleton] at hx; omega
  · rw [List.nodup_append]
    refine ⟨h.dup, by simp, ?_⟩
    intro a ha b hb
    simp only [List.mem_singleton] at hb
    subst hb
    exact fun he => h1 (he ▸ ha)
  · intro k hk hm
    rcases List.mem_append.1 hm with hm | hm
    · exact List.mem_append_left _ (h.cls k hk hm)
    · simp only [List.mem_singleton] at hm
      exact List.mem_append_left _ (h2 k hk hm)
theorem fo_ord (ds : List Int) : ∀ k, Ord ds (fo ds k)
  | 0 => by rw [fo_zero]; exact Ord.nil ds
  | k + 1 => by
    cases h : nxt ds (fo ds k) with
    | none => rw [fo_none h]; exact fo_ord ds k
    | some i => rw [fo_some h]; exact (fo_ord ds k).add (nxt_is h).1 (nxt_is h).2
theorem sub_len : ∀ (l m : List Int), l.Nodup → (∀ x ∈ l, x ∈ m) → l.length ≤ m.length
  | [], m, _, _ => Nat.zero_le _
  | a :: l, m, h, hs => by
    have ha : a ∈ m := hs a (List.Mem.head _)
    have h2 := sub_len l (m.erase a) (List.nodup_cons.1 h).2 fun x hx => (List.mem_erase_of_ne (fun he => (List.nodup_cons.1 h).1 (by rw [← he]; exact hx))).2 (hs x (List.Mem.tail _ hx))
    have h3 := List.length_erase_of_mem ha
    have h4 := List.length_pos_of_mem ha
    simp only [List.length_cons]
    omega
theorem left_out {O : List Int} {n : Nat} (h : O.length < n) : ∃ i, i < n ∧ (i : Int) ∉ O := by
  apply Classical.byContradiction
  intro hn
  have hall : ∀ i, i < n → (i : Int) ∈ O := fun i hi => Classical.byContradiction fun h => hn ⟨i, hi, h⟩
  have := sub_len ((List.range n).map fun i : Nat => (i : Int)) O (by
    have := List.nodup_range (n := n)
    rw [List.nodup_iff_pairwise_ne] at this ⊢
    rw [List.pairwise_map]
    exact this.imp fun h he => h (by omega)) (by
    intro x hx
    simp only [List.mem_map, List.mem_range] at hx
    obtain ⟨i, hi, rfl⟩ := hx
    exact hall i hi)
  simp at this
  omega
theorem ord_len {ds O : List Int} (h : Ord ds O) : O.length ≤ ds.length := by
  have := sub_len O ((List.range ds.length).map fun i : Nat => (i : Int)) h.dup (by
    intro x hx
    have := h.rng x hx
    simp only [List.mem_map, List.mem_range]
    exact ⟨x.toNat, by omega, by omega⟩)
  simpa using this
/-- when every walk ends and one is left out, one is ready -/
theorem some_ready {ds O : List Int} (he : allEnd ds ds.length = true) (hb : inAll (-1) ((ds.length : Int) - 1) ds = true) (hl : O.length < ds.length) : ∃ i, nxt ds O = some i := by
  cases hq : nxt ds O with
  | some i => exact ⟨i, rfl⟩
  | none =>
    exfalso
    have hno : ∀ i, i < ds.length → rdy ds O (i : Int) = false := by
      intro i hi
      apply Classical.byContradiction
      intro h
      have ht : rdy ds O (i : Int) = true := by simpa using h
      have : ∀ (f j : Nat), j ≤ i → i < j + f → fst0 ds O f j ≠ none := by
        intro f
        induction f with
        | zero => intro j h1 h2; omega
        | succ f ih =>
          intro j h1 h2
          unfold fst0
          split
          · simp
          · rename_i hj
            exact ih (j + 1) (by rcases Nat.lt_or_ge j i with h3 | h3; exact h3; exact absurd (by rw [show j = i by omega]; exact ht) hj) (by omega)
      exact this ds.length 0 (Nat.zero_le _) (by omega) hq
    have hex : ∀ k, ∃ i, i < ds.length ∧ (i : Int) ∉ O ∧ ends ds k (i : Int) = false := by
      intro k
      induction k with
      | zero =>
        obtain ⟨i, hi, hn⟩ := left_out hl
        exact ⟨i, hi, hn, by rw [ends_zero]; simp⟩
      | succ k ih =>
        obtain ⟨i, hi, hn, h⟩ := ih
        have hr := hno i hi
        have : ∃ j, j < ds.length ∧ ds.getD j 0 = (i : Int) ∧ (j : Int) ∉ O := by
          apply Classical.byContradiction
          intro hc
          have : rdy ds O (i : Int) = true := rdyTo_iff.2 ⟨hn, fun j hj hji => Classical.byContradiction fun h => hc ⟨j, hj, hji, h⟩⟩
          rw [hr] at this
          simp at this
        obtain ⟨j, hj, hji, hjO⟩ := this
        exact ⟨j, hj, hjO, by rw [ends_succ (by omega), Int.toNat_natCast, hji]; exact h⟩
    obtain ⟨i, hi, -, h⟩ := hex (ds.length + 1)
    rw [allEnd_no hi h] at he
    simp at he
theorem fo_len {ds : List Int} (he : allEnd ds ds.length = true) (hb : inAll (-1) ((ds.length : Int) - 1) ds = true) : ∀ k, k ≤ ds.length → (fo ds k).length = k
  | 0, _ => by rw [fo_zero]; rfl
  | k + 1, h => by
    have ih := fo_len he hb k (by omega)
    obtain ⟨i, hi⟩ := some_ready (O := fo ds k) he hb (by omega)
    rw [fo_some hi]
    simp [ih]
/-! ### the waits -/
/-- how many of the first k flow into x and are not told -/
def cntTo (ds O : List Int) (x : Int) : Nat → Int
  | 0 => 0
  | k + 1 => cntTo ds O x k + if ds.getD k 0 = x ∧ (k : Int) ∉ O then 1 else 0
theorem cntTo_rng (ds O : List Int) (x : Int) : ∀ k, 0 ≤ cntTo ds O x k ∧ cntTo ds O x k ≤ k
  | 0 => by simp [cntTo]
  | k + 1 => by
    have := cntTo_rng ds O x k
    unfold cntTo
    split <;> omega
theorem cntTo_eq0 {ds O : List Int} {x : Int} : ∀ k, cntTo ds O x k = 0 ↔ ∀ j, j < k → ds.getD j 0 = x → (j : Int) ∈ O
  | 0 => by simp [cntTo]
  | k + 1 => by
    have ih := cntTo_eq0 (ds := ds) (O := O) (x := x) k
    have hr := cntTo_rng ds O x k
    unfold cntTo
    constructor
    · intro h j hj hx
      split at h
      · omega
      · rename_i hn
        rcases Nat.lt_or_ge j k with h1 | h1
        · exact ih.1 (by omega) j h1 hx
        · have : j = k := by omega
          subst this
          exact Classical.byContradiction fun h2 => hn ⟨hx, h2⟩
    · intro h
      rw [if_neg fun h2 => h2.2 (h k (by omega) h2.1), ih.2 fun j hj => h j (by omega)]
      rfl
theorem cntTo_add {ds O : List Int} {x : Int} {i : Nat} (hi : (i : Int) ∉ O) : ∀ k, cntTo ds (O ++ [(i : Int)]) x k = cntTo ds O x k - if i < k ∧ ds.getD i 0 = x then 1 else 0
  | 0 => by simp [cntTo]
  | k + 1 => by
    have ih := cntTo_add (ds := ds) (x := x) hi k
    simp only [cntTo, ih, List.mem_append, List.mem_singleton]
    by_cases hk : k = i
    · subst hk
      by_cases hx : ds.getD k 0 = x
      · rw [if_neg (by omega), if_neg (fun h => h.2 (.inr rfl)), if_pos ⟨hx, hi⟩, if_pos ⟨by omega, hx⟩]; omega
      · rw [if_neg (by omega), if_neg (fun h => hx h.1), if_neg (fun h => hx h.1), if_neg (fun h => hx h.2)]; omega
    · have hk' : ¬ ((k : Int) = (i : Int)) := by omega
      simp only [hk', or_false]
      by_cases hx : ds.getD i 0 = x
      · by_cases h : i < k
        · simp only [h, hx, true_and, show i < k + 1 by omega, and_self, if_true]; omega
        · simp only [h, false_and, show ¬ i < k + 1 by omega, if_false]; omega
      · simp only [hx, and_false, if_false]; omega
/-- the waits of node x -/
def wv (ds O : List Int) (x : Nat) : Int := if (x : Int) ∈ O then -1 else cntTo ds O (x : Int) ds.length
theorem wv_rng (ds O : List Int) (x : Nat) : -1 ≤ wv ds O x ∧ wv ds O x ≤ ds.length := by
  have := cntTo_rng ds O (x : Int) ds.length
  unfold wv
  split <;> omega
theorem wv_zero {ds O : List Int} {x : Nat} : wv ds O x = 0 ↔ rdy ds O (x : Int) = true := by
  unfold rdy
  rw [rdyTo_iff]
  unfold wv
  by_cases h : (x : Int) ∈ O
  · simp [h]
  · simp [h, cntTo_eq0]
def wl (ds O : List Int) : List Int := (List.range ds.length).map (wv ds O)
theorem wl_len (ds O : List Int) : (wl ds O).length = ds.length := by simp [wl]
theorem wl_get {ds O : List Int} {x : Nat} (h : x < ds.length) : (wl ds O).getD x 0 = wv ds O x := by simp [wl, List.getD_eq_getElem?_getD, h]
/-- the first loop: the waits after the first i nodes -/
def w0 (ds : List Int) (i : Nat) : List Int := (List.range ds.length).map fun x : Nat => cntTo ds [] (x : Int) i
theorem w0_len (ds : List Int) (i : Nat) : (w0 ds i).length = ds.length := by simp [w0]
theorem w0_get {ds : List Int} {i x : Nat} (h : x < ds.length) : (w0 ds i).getD x 0 = cntTo ds [] (x : Int) i := by simp [w0, List.getD_eq_getElem?_getD, h]
theorem w0_zero (ds : List Int) : w0 ds 0 = List.replicate ds.length 0 := by
  unfold w0
  apply List.ext_getElem?
  intro j
  by_cases hj : j < ds.length <;> simp [hj, cntTo]
theorem w0_neg {ds : List Int} {i : Nat} (h : ds.getD i 0 < 0) : w0 ds (i + 1) = w0 ds i := by
  unfold w0
  apply List.map_congr_left
  intro x _
  simp only [cntTo]
  rw [if_neg (by omega)]
  omega
theorem ext_getD {xs ys : List Int} (hl : xs.length = ys.length) (h : ∀ i, i < xs.length → xs.getD i 0 = ys.getD i 0) : xs = ys := by
  apply List.ext_getElem hl
  intro i h1 h2
  have := h i h1
  simpa [List.getD_eq_getElem?_getD, h1, h2] using this
theorem set_getD {xs : List Int} {i j : Nat} {y : Int} (hi : i < xs.length) : (xs.set i y).getD j 0 = if i = j then y else xs.getD j 0 := by
  by_cases h : i = j
  · subst h; simp [List.getD_eq_getElem?_getD, hi]
  · simp [List.getD_eq_getElem?_getD, h]
theorem w0_pos {ds : List Int} {i d : Nat} (h : ds.getD i 0 = (d : Int)) (hd : d < ds.length) : w0 ds (i + 1) = (w0 ds i).set d ((w0 ds i).getD d 0 + 1) := by
  refine ext_getD (by simp [w0]) fun x hx => ?_
  rw [w0_len] at hx
  rw [set_getD (by rw [w0_len]; exact hd), w0_get hx, w0_get hx, w0_get hd]
  simp only [cntTo, h, List.not_mem_nil, not_false_iff, and_true]
  by_cases hxd : d = x
  · subst hxd; simp
  · rw [if_neg hxd, if_neg (by omega)]; omega
theorem w0_done (ds : List Int) : w0 ds ds.length = wl ds [] := by
  unfold w0 wl
  apply List.map_congr_left
  intro x _
  simp [wv]
/-- one is told -/
theorem wl_neg {ds O : List Int} {i : Nat} (hi : i < ds.length) (hr : rdy ds O (i : Int) = true) (hd : ds.getD i 0 < 0) : wl ds (O ++ [(i : Int)]) = (wl ds O).set i (-1) := by
  have hn := (rdyTo_iff.1 hr).1
  refine ext_getD (by simp [wl]) fun x hx => ?_
  rw [wl_len] at hx
  rw [set_getD (by rw [wl_len]; exact hi), wl_get hx, wl_get hx]
  unfold wv
  simp only [List.mem_append, List.mem_singleton]
  by_cases hxi : i = x
  · subst hxi; simp
  · rw [if_neg hxi, cntTo_add hn]
    simp only [show ¬ ((x : Int) = (i : Int)) by omega, or_false]
    split
    · rfl
    · rw [if_neg (by omega)]; omega
theorem wl_pos {ds O : List Int} {i d : Nat} (h : Ord ds O) (hi : i < ds.length) (hr : rdy ds O (i : Int) = true) (hd : ds.getD i 0 = (d : Int)) (hd' : d < ds.length) : wl ds (O ++ [(i : Int)]) = ((wl ds O).set i (-1)).set d (((wl ds O).set i (-1)).getD d 0 - 1) := by
  obtain ⟨hn, hc⟩ := rdyTo_iff.1 hr
  have hid : ¬ i = d := fun he => hn (hc i hi (by rw [hd, he]))
  have hdO : (d : Int) ∉ O := fun hm => hn (h.cls i hi (by rw [hd]; exact hm))
  refine ext_getD (by simp [wl]) fun x hx => ?_
  rw [wl_len] at hx
  rw [set_getD (by rw [List.length_set, wl_len]; exact hd'), set_getD (by rw [wl_len]; exact hi), set_getD (by rw [wl_len]; exact hi), wl_get hx, wl_get hx, wl_get hd']
  unfold wv
  simp only [List.mem_append, List.mem_singleton]
  by_cases hxi : i = x
  · subst hxi
    rw [if_pos (.inr rfl), if_neg (fun he : d = i => hid he.symm), if_pos rfl]
  · rw [if_neg hid, cntTo_add hn]
    simp only [show ¬ ((x : Int) = (i : Int)) by omega, or_false, hd]
    by_cases hxd : d = x
    · subst hxd
      rw [if_neg hdO, if_pos rfl, if_neg hdO, if_pos ⟨hi, rfl⟩]
    · rw [if_neg hxd, if_neg hxi]
      split
      · rfl
      · rw [if_neg (by omega)]; omega
attribute [irreducible] wl w0 cntTo wv nxt inO rdyTo
end Go.Proofs.Ytgkmonllkfgbdaa
