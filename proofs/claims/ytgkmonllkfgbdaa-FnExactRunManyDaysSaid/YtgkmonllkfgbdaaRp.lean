/- Days of a river one after another: plain. -/
import Derived.Test.YtgkmonllkfgbdaaRi
namespace Go.Proofs.Ytgkmonllkfgbdaa
set_option linter.unusedSimpArgs false
set_option linter.unusedVariables false
open Go Cn Go.RowKit
structure RunS where
  r : Riv
  a : List (List Int)
  b : List Int
def seaTo (ds bs : List Int) : Nat → Int
  | 0 => 0
  | k + 1 => seaTo ds bs k + if ds.getD k 0 < 0 then bs.getD k 0 else 0
theorem seaTo_succ (ds bs : List Int) (k : Nat) : seaTo ds bs (k + 1) = seaTo ds bs k + if ds.getD k 0 < 0 then bs.getD k 0 else 0 := rfl
theorem seaTo0 (ds bs : List Int) : seaTo ds bs 0 = 0 := rfl
theorem seaTo_neg {ds bs : List Int} {k : Nat} (h : ds.getD k 0 < 0) : seaTo ds bs (k + 1) = seaTo ds bs k + bs.getD k 0 := by rw [seaTo_succ, if_pos h]
theorem seaTo_pos {ds bs : List Int} {k : Nat} (h : ¬ ds.getD k 0 < 0) : seaTo ds bs (k + 1) = seaTo ds bs k := by rw [seaTo_succ, if_neg h]; omega
def seaOf (r : Riv) (ins : List Int) : Int := seaTo r.ds (dayB r ins) r.ds.length
def runTo (r : Riv) (days : List (List Int)) : Nat → RunS
  | 0 => ⟨r, [], []⟩
  | k + 1 => ⟨dayR (runTo r days k).r (days.getD k []), (runTo r days k).a ++ [dayA (runTo r days k).r (days.getD k [])], (runTo r days k).b ++ [seaOf (runTo r days k).r (days.getD k [])]⟩
theorem runTo_zero (r : Riv) (days : List (List Int)) : runTo r days 0 = ⟨r, [], []⟩ := rfl
theorem runTo_succ (r : Riv) (days : List (List Int)) (k : Nat) : runTo r days (k + 1) = ⟨dayR (runTo r days k).r (days.getD k []), (runTo r days k).a ++ [dayA (runTo r days k).r (days.getD k [])], (runTo r days k).b ++ [seaOf (runTo r days k).r (days.getD k [])]⟩ := rfl
theorem runTo_al (r : Riv) (days : List (List Int)) : ∀ k, (runTo r days k).a.length = k
  | 0 => rfl
  | k + 1 => by rw [runTo_succ]; simp [runTo_al r days k]
theorem runTo_bl (r : Riv) (days : List (List Int)) : ∀ k, (runTo r days k).b.length = k
  | 0 => rfl
  | k + 1 => by rw [runTo_succ]; simp [runTo_bl r days k]
/-- a day's inflows fit n nodes -/
def insOk (n : Nat) (ins : List Int) : Bool := decide (ins.length = n) && inAll 0 1000000000 ins
def daysOk (n : Nat) (days : List (List Int)) : Bool := decide (days.length ≤ 64) && days.all (insOk n)
def runOk (r : Riv) (days : List (List Int)) : Bool := rvOk r && daysOk r.ds.length days
theorem runOk_iff (r : Riv) (days : List (List Int)) : runOk r days = true ↔ rvOk r = true ∧ days.length ≤ 64 ∧ days.all (insOk r.ds.length) = true := by
  simp only [runOk, daysOk, Bool.and_eq_true, decide_eq_true_eq]
theorem all_getD {n : Nat} {days : List (List Int)} (h : days.all (insOk n) = true) {k : Nat} (hk : k < days.length) : insOk n (days.getD k []) = true := by
  rw [List.all_eq_true] at h
  have := h _ (List.getElem_mem hk)
  simpa [List.getD_eq_getElem?_getD, hk] using this
theorem all_ofD {n : Nat} {days : List (List Int)} (h : ∀ k, k < days.length → insOk n (days.getD k []) = true) : days.all (insOk n) = true := by
  rw [List.all_eq_true]
  intro x hx
  obtain ⟨k, hk, rfl⟩ := List.getElem_of_mem hx
  have := h k hk
  simpa [List.getD_eq_getElem?_getD, hk] using this
theorem all_noD {n : Nat} {days : List (List Int)} {k : Nat} (hk : k < days.length) (h : insOk n (days.getD k []) = false) : days.all (insOk n) = false := by
  cases hq : days.all (insOk n) with
  | false => rfl
  | true => rw [all_getD hq hk] at h; cases h
theorem dayOk_ins {r : Riv} (hr : rvOk r = true) (ins : List Int) : dayOk r ins = insOk r.ds.length ins := by simp [dayOk, insOk, hr]
/-- the state behind k good days -/
structure RunI (r : Riv) (s : RunS) : Prop where
  ok : rvOk s.r = true
  ds : s.r.ds = r.ds
  ws : s.r.ws = r.ws
theorem RunI.zero {r : Riv} (h : rvOk r = true) (days : List (List Int)) : RunI r (runTo r days 0) := ⟨h, rfl, rfl⟩
theorem RunI.succ {r : Riv} {days : List (List Int)} {k : Nat} (h : RunI r (runTo r days k)) (hk : insOk r.ds.length (days.getD k []) = true) : RunI r (runTo r days (k + 1)) := by
  have hd : dayOk (runTo r days k).r (days.getD k []) = true := by rw [dayOk_ins h.ok, h.ds]; exact hk
  rw [runTo_succ]
  refine ⟨dayR_ok hd, ?_, ?_⟩
  · show (dayR _ _).ds = _
    unfold dayR; rw [if_pos hd]; exact h.ds
  · show (dayR _ _).ws = _
    unfold dayR; rw [if_pos hd]; exact h.ws
theorem runTo_I {r : Riv} {days : List (List Int)} (h : rvOk r = true) (hd : ∀ k, k < days.length → insOk r.ds.length (days.getD k []) = true) : ∀ k, k ≤ days.length → RunI r (runTo r days k)
  | 0, _ => RunI.zero h days
  | k + 1, hk => (runTo_I h hd k (by omega)).succ (hd k (by omega))
/-- the least and most of what goes down in a day -/
theorem dayB_rng {r : Riv} {ins : List Int} (h : dayOk r ins = true) : (dayB r ins).length = r.ds.length ∧ ∀ j, j < r.ds.length → 0 ≤ (dayB r ins).getD j 0 ∧ (dayB r ins).getD j 0 ≤ 200000000000000 := by
  have hr := ((dayOk_iff r ins).1 h).1
  have n2 := (rvOk_len hr).2.1
  unfold dayB
  rw [if_pos h]
  refine ⟨(dayTo_I h _ (Nat.le_refl _)).bL, ?_⟩
  have key : ∀ k, k ≤ r.ds.length → ∀ j, j < r.ds.length → 0 ≤ (dayTo r ins k).b.getD j 0 ∧ (dayTo r ins k).b.getD j 0 ≤ 200000000000000 := by
    intro k
    induction k with
    | zero =>
      intro _ j hj
      rw [dayTo_zero]
      simp [List.getD_eq_getElem?_getD, hj]
    | succ k ih =>
      intro hk j hj
      have hI := dayTo_I h k (by omega)
      have hat := (dayAt_lt hr (show k < r.ds.length by omega)).1
      have hn := hI.node hr hat
      have hkb := kb_rng k (by omega)
      rw [dayTo_succ]
      simp only [dayStep]
      rw [set_getD (by rw [hI.bL]; exact hat)]
      split
      · have h1 := hn.b; have h2 := hn.y; have h3 := hn.x; omega
      · exact ih (by omega) j hj
  exact key _ (Nat.le_refl _)
theorem dayA_rng {r : Riv} {ins : List Int} (h : dayOk r ins = true) : (dayA r ins).length = r.ds.length ∧ ∀ j, j < r.ds.length → 0 ≤ (dayA r ins).getD j 0 ∧ (dayA r ins).getD j 0 ≤ 1000000000 := by
  have hr := ((dayOk_iff r ins).1 h).1
  have n2 := (rvOk_len hr).2.1
  unfold dayA
  rw [if_pos h]
  refine ⟨(dayTo_I h _ (Nat.le_refl _)).aL, ?_⟩
  have key : ∀ k, k ≤ r.ds.length → ∀ j, j < r.ds.length → 0 ≤ (dayTo r ins k).a.getD j 0 ∧ (dayTo r ins k).a.getD j 0 ≤ 1000000000 := by
    intro k
    induction k with
    | zero =>
      intro _ j hj
      rw [dayTo_zero]
      simp [List.getD_eq_getElem?_getD, hj]
    | succ k ih =>
      intro hk j hj
      have hI := dayTo_I h k (by omega)
      have hat := (dayAt_lt hr (show k < r.ds.length by omega)).1
      have hn := hI.node hr hat
      rw [dayTo_succ]
      simp only [dayStep]
      rw [set_getD (by rw [hI.aL]; exact hat)]
      split
      · have h1 := hn.a
        have h2 := hn.ws
        refine ⟨h1.1, ?_⟩
        have : nA r (dayTo r ins k) (dayAt r k) ≤ r.ws.getD (dayAt r k) 0 := by unfold nA; omega
        omega
      · exact ih (by omega) j hj
  exact key _ (Nat.le_refl _)
theorem dayR_ds {r : Riv} {ins : List Int} (h : dayOk r ins = true) : (dayR r ins).ds = r.ds ∧ (dayR r ins).ws = r.ws ∧ (dayR r ins).dm.length = r.ds.length := by
  have hI := dayTo_I h _ (Nat.le_refl _)
  unfold dayR; rw [if_pos h]; exact ⟨rfl, rfl, hI.dmL⟩
theorem seaTo_rng {ds bs : List Int} {n : Nat} (h : ∀ j, j < n → 0 ≤ bs.getD j 0 ∧ bs.getD j 0 ≤ 200000000000000) : ∀ k, k ≤ n → 0 ≤ seaTo ds bs k ∧ seaTo ds bs k ≤ 200000000000000 * k
  | 0, _ => by simp [seaTo]
  | k + 1, hk => by
    have h1 := seaTo_rng (ds := ds) h k (by omega)
    have h2 := h k (by omega)
    rw [seaTo_succ]
    split <;> omega
theorem seaOf_rng {r : Riv} {ins : List Int} (h : dayOk r ins = true) : 0 ≤ seaOf r ins ∧ seaOf r ins ≤ 2400000000000000 := by
  obtain ⟨h1, h2⟩ := dayB_rng h
  have n2 := (rvOk_len ((dayOk_iff r ins).1 h).1).2.1
  have := seaTo_rng (ds := r.ds) h2 r.ds.length (Nat.le_refl _)
  unfold seaOf
  omega
/-! ### what runs answer -/
def runR (r : Riv) (days : List (List Int)) : Riv := if runOk r days then (runTo r days days.length).r else ⟨[], [], []⟩
def runA (r : Riv) (days : List (List Int)) : List (List Int) := if runOk r days then (runTo r days days.length).a else []
def runB (r : Riv) (days : List (List Int)) : List Int := if runOk r days then (runTo r days days.length).b else []
theorem runR_ok {r : Riv} {days : List (List Int)} (h : runOk r days = true) : RunI r (runTo r days days.length) := by
  obtain ⟨h1, h2, h3⟩ := (runOk_iff r days).1 h
  exact runTo_I h1 (fun k hk => all_getD h3 hk) _ (Nat.le_refl _)
theorem runR_small (r : Riv) (days : List (List Int)) : (runR r days).small := by
  unfold runR
  by_cases h : runOk r days = true
  · rw [if_pos h]
    have := rvOk_len (runR_ok h).ok
    exact ⟨by omega, by omega, by omega⟩
  · rw [if_neg h]; exact ⟨by simp, by simp, by simp⟩
attribute [irreducible] runTo seaTo
end Go.Proofs.Ytgkmonllkfgbdaa
