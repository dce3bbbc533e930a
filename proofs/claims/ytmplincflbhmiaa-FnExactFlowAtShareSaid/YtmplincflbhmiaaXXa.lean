/- Lists put in order by exchanges: the plain part. -/
import Derived.Test.YtmplincflbhmiaaXRa
namespace Go.Proofs.Ytmplincflbhmiaa
set_option linter.unusedSimpArgs false
set_option linter.unusedVariables false
open Go Cn Go.RowKit
/-- a strict order -/
structure StOr (L : Int → Int → Prop) : Prop where
  asym : ∀ x y, L x y → ¬ L y x
  trans : ∀ x y z, L x y → L y z → L x z
theorem pw_uniq {L : Int → Int → Prop} (h : StOr L) : ∀ (xs ys : List Int), xs.Perm ys → xs.Pairwise L → ys.Pairwise L → xs = ys
  | [], ys, hp, _, _ => (List.Perm.nil_eq hp)
  | x :: xs, [], hp, _, _ => absurd hp.length_eq (by simp)
  | x :: xs, y :: ys, hp, h1, h2 => by
    rw [List.pairwise_cons] at h1 h2
    have e : x = y := by
      have m1 : x ∈ y :: ys := hp.subset List.mem_cons_self
      have m2 : y ∈ x :: xs := hp.symm.subset List.mem_cons_self
      rcases List.mem_cons.1 m1 with e | m1
      · exact e
      rcases List.mem_cons.1 m2 with e | m2
      · exact e.symm
      exact absurd (h1.1 y m2) (h.asym _ _ (h2.1 x m1))
    subst e
    rw [pw_uniq h xs ys (List.Perm.cons_inv hp) h1.2 h2.2]
/-- two places exchanged -/
def swapL (xs : List Int) (i j : Nat) : List Int := (xs.set i (xs.getD j 0)).set j (xs.getD i 0)
theorem gd_mid (A : List Int) (x : Int) (B : List Int) {i : Nat} (hi : i = A.length) : (A ++ x :: B).getD i 0 = x := by
  subst hi; simp [List.getD_eq_getElem?_getD]
theorem set_mid (A : List Int) (x y : Int) (B : List Int) {i : Nat} (hi : i = A.length) : (A ++ x :: B).set i y = A ++ y :: B := by
  subst hi; simp
theorem swap_far (A : List Int) (x : Int) (B : List Int) (y : Int) (C : List Int) {i j : Nat} (hi : i = A.length) (hj : j = A.length + 1 + B.length) : swapL (A ++ x :: (B ++ y :: C)) i j = A ++ y :: (B ++ x :: C) := by
  have e1 : ∀ z, A ++ z :: (B ++ y :: C) = (A ++ z :: B) ++ y :: C := fun z => by simp
  have hj2 : ∀ z, j = (A ++ z :: B).length := fun z => by rw [List.length_append, List.length_cons]; omega
  unfold swapL
  rw [gd_mid A x _ hi, e1 x, gd_mid _ y C (hj2 x), ← e1 x, set_mid A x y _ hi, e1 y, set_mid _ y x C (hj2 y)]
  simp
theorem swap_back (A : List Int) (x : Int) (B : List Int) (y : Int) (C : List Int) {i j : Nat} (hi : i = A.length) (hj : j = A.length + 1 + B.length) : swapL (A ++ x :: (B ++ y :: C)) j i = A ++ y :: (B ++ x :: C) := by
  have e1 : ∀ z, A ++ z :: (B ++ y :: C) = (A ++ z :: B) ++ y :: C := fun z => by simp
  have hj2 : ∀ z, j = (A ++ z :: B).length := fun z => by rw [List.length_append, List.length_cons]; omega
  unfold swapL
  rw [gd_mid A x _ hi, e1 x, gd_mid _ y C (hj2 x), set_mid _ y x C (hj2 x)]
  have e2 : A ++ x :: B ++ x :: C = A ++ x :: (B ++ x :: C) := by simp
  rw [e2, set_mid A x y _ hi]
theorem take_getD {R : List Int} {t : Nat} (h : t < R.length) : R.take (t + 1) = R.take t ++ [R.getD t 0] := by
  rw [List.take_succ_eq_append_getElem h]
  simp [List.getD_eq_getElem?_getD, h]
theorem drop_getD {R : List Int} {t : Nat} (h : t < R.length) : R.drop t = R.getD t 0 :: R.drop (t + 1) := by
  rw [List.drop_eq_getElem_cons h]
  simp [List.getD_eq_getElem?_getD, h]
/-- a list with one more put at a place -/
def insL (P R Q : List Int) (x : Int) (t : Nat) : List Int := P ++ (R.take t ++ x :: (R.drop t ++ Q))
theorem insL_len (P R Q : List Int) (x : Int) {t : Nat} (ht : t ≤ R.length) : (insL P R Q x t).length = P.length + R.length + 1 + Q.length := by
  simp [insL]; omega
theorem insL_x {P R Q : List Int} {x : Int} {t k : Nat} (ht : t ≤ R.length) (hk : k = P.length + t) : (insL P R Q x t).getD k 0 = x := by
  unfold insL
  rw [← List.append_assoc]
  exact gd_mid _ x _ (by rw [List.length_append, List.length_take]; omega)
theorem insL_form {P R Q : List Int} {x : Int} {t : Nat} (ht : t < R.length) : insL P R Q x (t + 1) = (P ++ R.take t) ++ R.getD t 0 :: ([] ++ x :: (R.drop (t + 1) ++ Q)) := by
  unfold insL; rw [take_getD ht]; simp
theorem insL_form2 {P R Q : List Int} {x : Int} {t : Nat} (ht : t < R.length) : insL P R Q x t = (P ++ R.take t) ++ x :: ([] ++ R.getD t 0 :: (R.drop (t + 1) ++ Q)) := by
  unfold insL; rw [drop_getD ht]; simp
theorem insL_before {P R Q : List Int} {x : Int} {t k : Nat} (ht : t < R.length) (hk : k = P.length + t) : (insL P R Q x (t + 1)).getD k 0 = R.getD t 0 := by
  rw [insL_form ht]
  exact gd_mid _ _ _ (by rw [List.length_append, List.length_take]; omega)
theorem insL_down {P R Q : List Int} {x : Int} {t i j : Nat} (ht : t < R.length) (hi : i = P.length + t) (hj : j = P.length + t + 1) : swapL (insL P R Q x (t + 1)) j i = insL P R Q x t := by
  rw [insL_form ht, insL_form2 ht]
  exact swap_back _ _ [] _ _ (by rw [List.length_append, List.length_take]; omega) (by rw [List.length_append, List.length_take, List.length_nil]; omega)
theorem insL_up {P R Q : List Int} {x : Int} {t i j : Nat} (ht : t < R.length) (hi : i = P.length + t) (hj : j = P.length + t + 1) : swapL (insL P R Q x t) i j = insL P R Q x (t + 1) := by
  rw [insL_form ht, insL_form2 ht]
  exact swap_far _ _ [] _ _ (by rw [List.length_append, List.length_take]; omega) (by rw [List.length_append, List.length_take, List.length_nil]; omega)
theorem insL_perm (R : List Int) (x : Int) (t : Nat) : (R.take t ++ x :: R.drop t).Perm (x :: R) := by
  have h := @List.perm_middle _ x (R.take t) (R.drop t)
  rwa [List.take_append_drop] at h
section
variable {L : Int → Int → Prop}
theorem pw_get {xs : List Int} (h : xs.Pairwise L) {i j : Nat} (hij : i < j) (hj : j < xs.length) : L (xs.getD i 0) (xs.getD j 0) := by
  have := List.pairwise_iff_getElem.1 h i j (by omega) hj hij
  simpa [List.getD_eq_getElem?_getD, hj, show i < xs.length by omega] using this
theorem pw_lo (ho : StOr L) {xs : List Int} (h : xs.Pairwise L) {i j : Nat} {z : Int} (hij : i ≤ j) (hj : j < xs.length) (hz : L (xs.getD j 0) z) : L (xs.getD i 0) z := by
  rcases Nat.lt_or_eq_of_le hij with h2 | h2
  · exact ho.trans _ _ _ (pw_get h h2 hj) hz
  · rw [h2]; exact hz
theorem pw_hi (ho : StOr L) {xs : List Int} (h : xs.Pairwise L) {i j : Nat} {z : Int} (hij : i ≤ j) (hj : j < xs.length) (hz : L z (xs.getD i 0)) : L z (xs.getD j 0) := by
  rcases Nat.lt_or_eq_of_le hij with h2 | h2
  · exact ho.trans _ _ _ hz (pw_get h h2 hj)
  · rw [← h2]; exact hz
theorem mem_takeD {xs : List Int} {t : Nat} {x : Int} (h : x ∈ xs.take t) : ∃ i, i < t ∧ i < xs.length ∧ x = xs.getD i 0 := by
  obtain ⟨i, hi, rfl⟩ := List.getElem_of_mem h
  rw [List.length_take] at hi
  refine ⟨i, by omega, by omega, ?_⟩
  simp [List.getD_eq_getElem?_getD, show i < xs.length by omega]
theorem mem_dropD {xs : List Int} {t : Nat} {x : Int} (h : x ∈ xs.drop t) : ∃ i, t ≤ i ∧ i < xs.length ∧ x = xs.getD i 0 := by
  obtain ⟨i, hi, rfl⟩ := List.getElem_of_mem h
  rw [List.length_drop] at hi
  refine ⟨t + i, by omega, by omega, ?_⟩
  simp [List.getD_eq_getElem?_getD, show t + i < xs.length by omega]
theorem ins_pw (ho : StOr L) {R : List Int} {x : Int} {t : Nat} (h : R.Pairwise L) (ht : t ≤ R.length) (h1 : 0 < t → L (R.getD (t - 1) 0) x) (h2 : t < R.length → L x (R.getD t 0)) : (R.take t ++ x :: R.drop t).Pairwise L := by
  have lo : ∀ y ∈ R.take t, L y x := fun y hy => by
    obtain ⟨i, hi, hl, rfl⟩ := mem_takeD hy
    exact pw_lo ho h (by omega) (by omega) (h1 (by omega))
  have hi : ∀ y ∈ R.drop t, L x y := fun y hy => by
    obtain ⟨i, hi, hl, rfl⟩ := mem_dropD hy
    exact pw_hi ho h hi hl (h2 (by omega))
  rw [List.pairwise_append, List.pairwise_cons]
  refine ⟨h.sublist (List.take_sublist _ _), ⟨hi, h.sublist (List.drop_sublist _ _)⟩, fun y hy z hz => ?_⟩
  rcases List.mem_cons.1 hz with rfl | hz
  · exact lo y hy
  · exact ho.trans _ _ _ (lo y hy) (hi z hz)
theorem split_pw (ho : StOr L) {U V : List Int} {s t : Nat} (hU : U.Pairwise L) (hV : V.Pairwise L) (hs : s ≤ U.length) (ht : t ≤ V.length) (h1 : s < U.length → 0 < t → L (V.getD (t - 1) 0) (U.getD s 0)) (h2 : 0 < s → t < V.length → L (U.getD (s - 1) 0) (V.getD t 0)) :
    ∀ x ∈ U.take s ++ V.take t, ∀ y ∈ U.drop s ++ V.drop t, L x y := by
  intro x hx y hy
  rcases List.mem_append.1 hx with hx | hx <;> rcases List.mem_append.1 hy with hy | hy <;> obtain ⟨i, i1, i2, rfl⟩ := mem_takeD hx <;> obtain ⟨j, j1, j2, rfl⟩ := mem_dropD hy
  · exact pw_get hU (by omega) j2
  · exact pw_lo ho hU (by omega) (by omega) (pw_hi ho hV j1 j2 (h2 (by omega) (by omega)))
  · exact pw_lo ho hV (by omega) (by omega) (pw_hi ho hU j1 j2 (h1 (by omega) (by omega)))
  · exact pw_get hV (by omega) j2
theorem join_pw {U V R S : List Int} {s t : Nat} (hR : R.Perm (U.take s ++ V.take t)) (hS : S.Perm (U.drop s ++ V.drop t)) (pR : R.Pairwise L) (pS : S.Pairwise L) (hx : ∀ x ∈ U.take s ++ V.take t, ∀ y ∈ U.drop s ++ V.drop t, L x y) : (R ++ S).Perm (U ++ V) ∧ (R ++ S).Pairwise L := by
  refine ⟨?_, List.pairwise_append.2 ⟨pR, pS, fun x h1 y h2 => hx x (hR.subset h1) y (hS.subset h2)⟩⟩
  refine (hR.append hS).trans ?_
  have h1 : (U.take s ++ V.take t ++ (U.drop s ++ V.drop t)).Perm (U.take s ++ (U.drop s ++ (V.take t ++ V.drop t))) := by
    rw [List.append_assoc]
    refine List.Perm.append_left _ ?_
    rw [← List.append_assoc, ← List.append_assoc]
    exact List.Perm.append_right _ List.perm_append_comm
  refine h1.trans ?_
  rw [List.take_append_drop, ← List.append_assoc, List.take_append_drop]
/-- what merging asks of two rows of a list -/
structure Mgb (L : Int → Int → Prop) (lt : Int → Int → Bool) (U V : List Int) : Prop where
  pu : U.Pairwise L
  pv : V.Pairwise L
  yes : ∀ u ∈ U, ∀ v ∈ V, lt v u = true → L v u
  no : ∀ u ∈ U, ∀ v ∈ V, lt v u = false → L u v
theorem Mgb.part {lt : Int → Int → Bool} {U V U' V' : List Int} (h : Mgb L lt U V) (h1 : U'.Sublist U) (h2 : V'.Sublist V) : Mgb L lt U' V' :=
  ⟨h.pu.sublist h1, h.pv.sublist h2, fun u hu v hv => h.yes u (h1.subset hu) v (h2.subset hv), fun u hu v hv => h.no u (h1.subset hu) v (h2.subset hv)⟩
theorem getD_mem {xs : List Int} {i : Nat} (h : i < xs.length) : xs.getD i 0 ∈ xs := by
  rw [List.getD_eq_getElem?_getD, List.getElem?_eq_getElem h]; exact List.getElem_mem h
end
/-- four lists one after another -/
def four4 (P U V Q : List Int) : List Int := P ++ (U ++ (V ++ Q))
theorem four_U {P U V Q : List Int} {k i : Nat} (hi : i < U.length) (hk : k = P.length + i) : (four4 P U V Q).getD k 0 = U.getD i 0 := by
  subst hk
  unfold four4
  simp [List.getD_eq_getElem?_getD, List.getElem?_append_right, List.getElem?_append_left, hi]
theorem four_V {P U V Q : List Int} {k i : Nat} (hi : i < V.length) (hk : k = P.length + U.length + i) : (four4 P U V Q).getD k 0 = V.getD i 0 := by
  subst hk
  unfold four4
  simp only [List.getD_eq_getElem?_getD]
  rw [List.getElem?_append_right (by omega), List.getElem?_append_right (by omega), List.getElem?_append_left (by omega)]
  congr 2
  omega
/-- two rows of equal length exchanged up to the i-th place -/
def xch (P X M Y Q : List Int) (i : Nat) : List Int := P ++ (Y.take i ++ (X.drop i ++ (M ++ (X.take i ++ (Y.drop i ++ Q)))))
theorem xch_len {P X M Y Q : List Int} {i : Nat} (h : X.length = Y.length) (hi : i ≤ X.length) : (xch P X M Y Q i).length = P.length + X.length + M.length + Y.length + Q.length := by
  simp [xch]; omega
theorem xch_zero (P X M Y Q : List Int) : xch P X M Y Q 0 = P ++ (X ++ (M ++ (Y ++ Q))) := by simp [xch]
theorem xch_all {P X M Y Q : List Int} {i : Nat} (h : X.length = Y.length) (hi : i = X.length) : xch P X M Y Q i = P ++ (Y ++ (M ++ (X ++ Q))) := by
  subst hi
  unfold xch
  rw [List.take_length, List.drop_length, h, List.take_length, List.drop_length]
  simp
theorem xch_step {P X M Y Q : List Int} {i a b : Nat} (h : X.length = Y.length) (hi : i < X.length) (ha : a = P.length + i) (hb : b = P.length + X.length + M.length + i) : swapL (xch P X M Y Q i) a b = xch P X M Y Q (i + 1) := by
  have e1 : xch P X M Y Q i = (P ++ Y.take i) ++ X.getD i 0 :: ((X.drop (i + 1) ++ (M ++ X.take i)) ++ Y.getD i 0 :: (Y.drop (i + 1) ++ Q)) := by
    unfold xch; rw [drop_getD hi, drop_getD (show i < Y.length by omega)]; simp
  have e2 : xch P X M Y Q (i + 1) = (P ++ Y.take i) ++ Y.getD i 0 :: ((X.drop (i + 1) ++ (M ++ X.take i)) ++ X.getD i 0 :: (Y.drop (i + 1) ++ Q)) := by
    unfold xch; rw [take_getD hi, take_getD (show i < Y.length by omega)]; simp
  rw [e1, e2]
  refine swap_far _ _ _ _ _ ?_ ?_
  · simp; omega
  · simp; omega
end Go.Proofs.Ytmplincflbhmiaa
