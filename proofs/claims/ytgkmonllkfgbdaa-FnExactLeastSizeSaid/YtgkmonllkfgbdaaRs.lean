/- Sums of what days answer: plain. -/
import Derived.Test.YtgkmonllkfgbdaaRt
namespace Go.Proofs.Ytgkmonllkfgbdaa
set_option linter.unusedSimpArgs false
set_option linter.unusedVariables false
open Go Cn Go.RowKit
def sumI (xs : List Int) : Nat → Int
  | 0 => 0
  | k + 1 => sumI xs k + xs.getD k 0
def sumSS (xss : List (List Int)) : Nat → Int
  | 0 => 0
  | k + 1 => sumSS xss k + sumI (xss.getD k []) (xss.getD k []).length
def nowTo (ds : List Dm) : Nat → Int
  | 0 => 0
  | k + 1 => nowTo ds k + (ds.getD k dm0).nw
theorem sumI_zero (xs : List Int) : sumI xs 0 = 0 := rfl
theorem sumI_succ (xs : List Int) (k : Nat) : sumI xs (k + 1) = sumI xs k + xs.getD k 0 := rfl
theorem sumSS_zero (xs : List (List Int)) : sumSS xs 0 = 0 := rfl
theorem sumSS_succ (xss : List (List Int)) (k : Nat) : sumSS xss (k + 1) = sumSS xss k + sumI (xss.getD k []) (xss.getD k []).length := rfl
theorem nowTo_zero (ds : List Dm) : nowTo ds 0 = 0 := rfl
theorem nowTo_succ (ds : List Dm) (k : Nat) : nowTo ds (k + 1) = nowTo ds k + (ds.getD k dm0).nw := rfl
theorem sumI_rng {xs : List Int} {K : Int} (h : ∀ j, j < xs.length → 0 ≤ xs.getD j 0 ∧ xs.getD j 0 ≤ K) : ∀ k, k ≤ xs.length → 0 ≤ sumI xs k ∧ sumI xs k ≤ K * (k : Int)
  | 0, _ => by simp [sumI]
  | k + 1, hk => by
    have h1 := sumI_rng h k (by omega)
    have h2 := h k hk
    rw [sumI_succ]
    have : K * ((k + 1 : Nat) : Int) = K * (k : Int) + K := by rw [Int.natCast_add, Int.mul_add]; simp
    omega
theorem nowTo_rng {ds : List Dm} (h : ∀ j, j < ds.length → dOk (ds.getD j dm0) = true) : ∀ k, k ≤ ds.length → 0 ≤ nowTo ds k ∧ nowTo ds k ≤ 1000000000 * (k : Int)
  | 0, _ => by simp [nowTo]
  | k + 1, hk => by
    have h1 := nowTo_rng h k (by omega)
    obtain ⟨h2, h3, h4, h5⟩ := (dOk_iff _).1 (h k hk)
    rw [nowTo_succ]
    omega
/-- each number of lists lies between 0 and K -/
def allIn (K : Int) (xss : List (List Int)) : Prop := ∀ i, i < xss.length → ∀ j, j < (xss.getD i []).length → 0 ≤ (xss.getD i []).getD j 0 ∧ (xss.getD i []).getD j 0 ≤ K
theorem sumSS_rng {xss : List (List Int)} {K : Int} (h : allIn K xss) : ∀ k, k ≤ xss.length → 0 ≤ sumSS xss k ∧ sumSS xss k ≤ K * (totL (xss.take k) : Int)
  | 0, _ => by simp [sumSS, totL]
  | k + 1, hk => by
    have h1 := sumSS_rng h k (by omega)
    have h2 := sumI_rng (h k hk) _ (Nat.le_refl _)
    rw [sumSS_succ, totL_take hk]
    have : K * ((totL (xss.take k) + (xss.getD k []).length : Nat) : Int) = K * (totL (xss.take k) : Int) + K * ((xss.getD k []).length : Int) := by rw [Int.natCast_add, Int.mul_add]
    omega
theorem mul_mono {K : Int} (hK : 0 ≤ K) {a b : Nat} (h : a ≤ b) : K * (a : Int) ≤ K * (b : Int) := Int.mul_le_mul_of_nonneg_left (by omega) hK
theorem sumSS_part {xss : List (List Int)} {K : Int} (hK : 0 ≤ K) (h : allIn K xss) {i j : Nat} (hi : i < xss.length) (hj : j ≤ (xss.getD i []).length) : 0 ≤ sumSS xss i + sumI (xss.getD i []) j ∧ sumSS xss i + sumI (xss.getD i []) j ≤ K * (totL xss : Int) := by
  have h1 := sumSS_rng h i (by omega)
  have h2 := sumI_rng (h i hi) j hj
  have h3 := totL_take hi
  have h4 := totL_le xss (i + 1)
  have h5 : totL (xss.take i) + j ≤ totL xss := by omega
  have h6 := mul_mono hK h5
  have : K * ((totL (xss.take i) + j : Nat) : Int) = K * (totL (xss.take i) : Int) + K * (j : Int) := by rw [Int.natCast_add, Int.mul_add]
  omega
def ledV (r : Riv) (days : List (List Int)) : Int × Int × Int × Int := if runOk r days then (sumSS days days.length, sumSS (runA r days) (runA r days).length, sumI (runB r days) (runB r days).length, nowTo (runR r days).dm (runR r days).dm.length - nowTo r.dm r.dm.length) else (0, 0, 0, 0)
theorem sumSS_one (xs : List Int) : sumSS [xs] [xs].length = sumI xs xs.length := by simp [sumSS]
theorem totL_one (xs : List Int) : totL [xs] = xs.length := by simp [totL]
theorem allIn_one {K : Int} {xs : List Int} (h : ∀ j, j < xs.length → 0 ≤ xs.getD j 0 ∧ xs.getD j 0 ≤ K) : allIn K [xs] := fun i hi j hj => by
  have : i = 0 := by simp at hi; omega
  subst this; exact h j hj
theorem insOk_get {n : Nat} {ins : List Int} (h : insOk n ins = true) : ins.length = n ∧ ∀ j, j < ins.length → 0 ≤ ins.getD j 0 ∧ ins.getD j 0 ≤ 1000000000 := by
  simp only [insOk, Bool.and_eq_true, decide_eq_true_eq] at h
  exact ⟨h.1, fun j hj => inAll_get h.2 hj⟩
theorem dOk_get {r : Riv} (h : rvOk r = true) : ∀ j, j < r.dm.length → dOk (r.dm.getD j dm0) = true := fun j hj => by
  obtain ⟨-, -, n3, -, -, -, n7, -⟩ := (rvOk_iff r).1 h
  rw [List.all_eq_true] at n7
  have := n7 _ (List.getElem_mem hj)
  simpa [List.getD_eq_getElem?_getD, hj] using this
structure LedI (r : Riv) (days : List (List Int)) : Prop where
  ok : rvOk r = true
  okR : rvOk (runR r days) = true
  dsR : (runR r days).ds = r.ds
  dl : days.length ≤ 64
  dt : totL days ≤ 768
  al : (runA r days).length = days.length
  at' : totL (runA r days) ≤ 768
  bl : (runB r days).length = days.length
  din : allIn 1000000000 days
  ain : allIn 1000000000 (runA r days)
  bin : ∀ j, j < (runB r days).length → 0 ≤ (runB r days).getD j 0 ∧ (runB r days).getD j 0 ≤ 2400000000000000
  dln : ∀ i, i < days.length → (days.getD i []).length = r.ds.length
  aln : ∀ i, i < days.length → ((runA r days).getD i []).length = r.ds.length
theorem tot_same {xss : List (List Int)} {n : Nat} (h : ∀ i, i < xss.length → (xss.getD i []).length = n) : ∀ k, k ≤ xss.length → totL (xss.take k) = k * n
  | 0, _ => by simp [totL]
  | k + 1, hk => by
    rw [totL_take hk, tot_same h k (by omega), h k hk, Nat.add_mul]; omega
theorem led_I {r : Riv} {days : List (List Int)} (hk : runOk r days = true) : LedI r days := by
  obtain ⟨h1, h2, h3⟩ := (runOk_iff r days).1 hk
  obtain ⟨n1, n2, n3, n4⟩ := rvOk_len h1
  have hI := runR_ok hk
  have hd : ∀ k, k < days.length → insOk r.ds.length (days.getD k []) = true := fun k hk => all_getD h3 hk
  have hg := runTo_get h1 hd _ (Nat.le_refl _)
  have hal := runTo_al r days days.length
  have hbl := runTo_bl r days days.length
  have ht := runTo_tot h1 hd _ (Nat.le_refl _)
  have hdl : ∀ i, i < days.length → (days.getD i []).length = r.ds.length := fun i hi => (insOk_get (hd i hi)).1
  have htd := tot_same hdl _ (Nat.le_refl _)
  rw [List.take_length] at htd
  have hm : days.length * r.ds.length ≤ 64 * 12 := Nat.mul_le_mul h2 n2
  have eR : runR r days = (runTo r days days.length).r := by unfold runR; rw [if_pos hk]
  have eA : runA r days = (runTo r days days.length).a := by unfold runA; rw [if_pos hk]
  have eB : runB r days = (runTo r days days.length).b := by unfold runB; rw [if_pos hk]
  refine ⟨h1, by rw [eR]; exact hI.ok, by rw [eR]; exact hI.ds, h2, by omega, by rw [eA]; exact hal, by rw [eA, ht]; omega, by rw [eB]; exact hbl, fun i hi => (insOk_get (hd i hi)).2, ?_, ?_, hdl, ?_⟩
  · rw [eA]
    intro i hi j hj
    have := hg i (by omega)
    exact this.2.1 j (by omega)
  · rw [eB]
    intro j hj
    exact (hg j (by omega)).2.2
  · rw [eA]
    intro i hi
    exact (hg i hi).1
end Go.Proofs.Ytgkmonllkfgbdaa
