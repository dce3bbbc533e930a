/- Sizes of what days answer. -/
import Derived.Test.YtgkmonllkfgbdaaRp
import Derived.Test.YtgkmonllkfgbdaaRu
namespace Go.Proofs.Ytgkmonllkfgbdaa
set_option linter.unusedSimpArgs false
set_option linter.unusedVariables false
open Go Cn Go.RowKit
theorem totL_append (xs ys : List (List Int)) : totL (xs ++ ys) = totL xs + totL ys := by simp [totL]
theorem runTo_tot {r : Riv} {days : List (List Int)} (h : rvOk r = true) (hd : ∀ k, k < days.length → insOk r.ds.length (days.getD k []) = true) : ∀ k, k ≤ days.length → totL (runTo r days k).a = k * r.ds.length
  | 0, _ => by rw [runTo_zero]; simp [totL]
  | k + 1, hk => by
    have hI := runTo_I h hd k (by omega)
    have hdk : dayOk (runTo r days k).r (days.getD k []) = true := by rw [dayOk_ins hI.ok, hI.ds]; exact hd k hk
    have hl := (dayA_rng hdk).1
    rw [hI.ds] at hl
    rw [runTo_succ]
    dsimp only
    rw [totL_append, runTo_tot h hd k (by omega)]
    generalize dayA (runTo r days k).r (days.getD k []) = z at *
    simp [totL, hl, Nat.add_mul]
theorem run_small (r : Riv) (days : List (List Int)) : (runA r days).length + totL (runA r days) ≤ 2000 ∧ (runB r days).length ≤ 64 := by
  unfold runA runB
  by_cases h : runOk r days = true
  · rw [if_pos h, if_pos h]
    obtain ⟨h1, h2, h3⟩ := (runOk_iff r days).1 h
    have n2 := (rvOk_len h1).2.1
    rw [runTo_tot h1 (fun k hk => all_getD h3 hk) _ (Nat.le_refl _), runTo_al, runTo_bl]
    have : days.length * r.ds.length ≤ 64 * 12 := Nat.mul_le_mul h2 n2
    omega
  · rw [if_neg h, if_neg h]; simp [totL]
/-- each list of what is given has one number a node; the numbers are few -/
theorem runTo_get {r : Riv} {days : List (List Int)} (h : rvOk r = true) (hd : ∀ k, k < days.length → insOk r.ds.length (days.getD k []) = true) : ∀ k, k ≤ days.length → ∀ j, j < k → ((runTo r days k).a.getD j []).length = r.ds.length ∧ (∀ i, i < r.ds.length → 0 ≤ ((runTo r days k).a.getD j []).getD i 0 ∧ ((runTo r days k).a.getD j []).getD i 0 ≤ 1000000000) ∧ 0 ≤ (runTo r days k).b.getD j 0 ∧ (runTo r days k).b.getD j 0 ≤ 2400000000000000
  | 0, _ => fun j hj => by omega
  | k + 1, hk => fun j hj => by
    have hI := runTo_I h hd k (by omega)
    have hdk : dayOk (runTo r days k).r (days.getD k []) = true := by rw [dayOk_ins hI.ok, hI.ds]; exact hd k hk
    obtain ⟨hl, hr⟩ := dayA_rng hdk
    have hs := seaOf_rng hdk
    rw [hI.ds] at hl hr
    rw [runTo_succ]
    dsimp only
    have hal := runTo_al r days k
    have hbl := runTo_bl r days k
    by_cases e : j = k
    · subst e
      have e1 : ((runTo r days j).a ++ [dayA (runTo r days j).r (days.getD j [])]).getD j [] = dayA (runTo r days j).r (days.getD j []) := by
        simp [List.getD_eq_getElem?_getD, List.getElem?_append_right, hal]
      have e2 : ((runTo r days j).b ++ [seaOf (runTo r days j).r (days.getD j [])]).getD j 0 = seaOf (runTo r days j).r (days.getD j []) := by
        simp [List.getD_eq_getElem?_getD, List.getElem?_append_right, hbl]
      rw [e1, e2]
      exact ⟨hl, hr, hs⟩
    · have e1 : ((runTo r days k).a ++ [dayA (runTo r days k).r (days.getD k [])]).getD j [] = (runTo r days k).a.getD j [] := by
        simp [List.getD_eq_getElem?_getD, List.getElem?_append_left, show j < (runTo r days k).a.length by omega]
      have e2 : ((runTo r days k).b ++ [seaOf (runTo r days k).r (days.getD k [])]).getD j 0 = (runTo r days k).b.getD j 0 := by
        simp [List.getD_eq_getElem?_getD, List.getElem?_append_left, show j < (runTo r days k).b.length by omega]
      rw [e1, e2]
      exact runTo_get h hd k (by omega) j (by omega)
end Go.Proofs.Ytgkmonllkfgbdaa
