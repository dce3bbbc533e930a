/- A river's day: plain. -/
import Derived.Test.YtgkmonllkfgbdaaRh
namespace Go.Proofs.Ytgkmonllkfgbdaa
set_option linter.unusedSimpArgs false
set_option linter.unusedVariables false
open Go Cn Go.RowKit
structure DayS where
  dm : List Dm
  w : List Int
  a : List Int
  b : List Int
section
variable (r : Riv) (s : DayS) (i : Nat)
def nX : Int := s.w.getD i 0 + (s.dm.getD i dm0).nw
def nA : Int := min (r.ws.getD i 0) (max 0 (nX s i - (s.dm.getD i dm0).dd))
def nY : Int := nX s i - nA r s i
def nL : Int := min (s.dm.getD i dm0).ls (max 0 (nY r s i - (s.dm.getD i dm0).dd))
def nN : Int := min (s.dm.getD i dm0).sz (nY r s i - nL r s i)
def nB : Int := nY r s i - nN r s i
def nD : Dm := ⟨(s.dm.getD i dm0).sz, (s.dm.getD i dm0).dd, (s.dm.getD i dm0).ls, nN r s i⟩
def nW : List Int := if r.ds.getD i 0 < 0 then s.w else s.w.set (r.ds.getD i 0).toNat (s.w.getD (r.ds.getD i 0).toNat 0 + nB r s i)
def dayStep : DayS := ⟨s.dm.set i (nD r s i), nW r s i, s.a.set i (nA r s i), s.b.set i (nB r s i)⟩
end
def dayAt (r : Riv) (k : Nat) : Nat := ((fo r.ds r.ds.length).getD k 0).toNat
def dayTo (r : Riv) (ins : List Int) : Nat → DayS
  | 0 => ⟨r.dm, ins, List.replicate r.ds.length 0, List.replicate r.ds.length 0⟩
  | k + 1 => dayStep r (dayTo r ins k) (dayAt r k)
theorem dayTo_zero (r : Riv) (ins : List Int) : dayTo r ins 0 = ⟨r.dm, ins, List.replicate r.ds.length 0, List.replicate r.ds.length 0⟩ := rfl
theorem dayTo_succ (r : Riv) (ins : List Int) (k : Nat) : dayTo r ins (k + 1) = dayStep r (dayTo r ins k) (dayAt r k) := rfl
structure DayI (r : Riv) (K : Int) (s : DayS) : Prop where
  dmL : s.dm.length = r.ds.length
  wL : s.w.length = r.ds.length
  aL : s.a.length = r.ds.length
  bL : s.b.length = r.ds.length
  dok : ∀ j, j < r.ds.length → dOk (s.dm.getD j dm0) = true
  wr : ∀ j, j < r.ds.length → 0 ≤ s.w.getD j 0 ∧ s.w.getD j 0 ≤ K
theorem dOk_iff (d : Dm) : dOk d = true ↔ (0 ≤ d.sz ∧ d.sz ≤ 1000000000) ∧ (0 ≤ d.dd ∧ d.dd ≤ d.sz) ∧ (0 ≤ d.ls ∧ d.ls ≤ 1000000000) ∧ (0 ≤ d.nw ∧ d.nw ≤ d.sz) := by
  simp only [dOk, Bool.and_eq_true, decide_eq_true_eq, and_assoc]
structure NodeR (r : Riv) (K : Int) (s : DayS) (i : Nat) : Prop where
  ws : 0 ≤ r.ws.getD i 0 ∧ r.ws.getD i 0 ≤ 1000000000
  w : 0 ≤ s.w.getD i 0 ∧ s.w.getD i 0 ≤ K
  sz : 0 ≤ (s.dm.getD i dm0).sz ∧ (s.dm.getD i dm0).sz ≤ 1000000000
  dd : 0 ≤ (s.dm.getD i dm0).dd ∧ (s.dm.getD i dm0).dd ≤ (s.dm.getD i dm0).sz
  ls : 0 ≤ (s.dm.getD i dm0).ls ∧ (s.dm.getD i dm0).ls ≤ 1000000000
  nw : 0 ≤ (s.dm.getD i dm0).nw ∧ (s.dm.getD i dm0).nw ≤ (s.dm.getD i dm0).sz
  x : 0 ≤ nX s i ∧ nX s i ≤ K + 1000000000
  a : 0 ≤ nA r s i ∧ nA r s i ≤ nX s i
  y : 0 ≤ nY r s i ∧ nY r s i ≤ nX s i
  l : 0 ≤ nL r s i ∧ nL r s i ≤ nY r s i
  n : 0 ≤ nN r s i ∧ nN r s i ≤ nY r s i ∧ nN r s i ≤ (s.dm.getD i dm0).sz
  b : 0 ≤ nB r s i ∧ nB r s i ≤ nY r s i
  ds : -1 ≤ r.ds.getD i 0 ∧ r.ds.getD i 0 ≤ (r.ds.length : Int) - 1
section
variable {r : Riv} {s : DayS} {i : Nat} {K : Int}
theorem DayI.node (h : DayI r K s) (hr : rvOk r = true) (hi : i < r.ds.length) : NodeR r K s i := by
  obtain ⟨-, -, -, h4, h5, h6, -, -⟩ := (rvOk_iff r).1 hr
  have h1 := inAll_get h6 (i := i) (by omega)
  have h2 := h.wr i hi
  obtain ⟨d1, d2, d3, d4⟩ := (dOk_iff _).1 (h.dok i hi)
  have x : 0 ≤ nX s i ∧ nX s i ≤ K + 1000000000 := by unfold nX; omega
  have a : 0 ≤ nA r s i ∧ nA r s i ≤ nX s i := by unfold nA; omega
  have y : 0 ≤ nY r s i ∧ nY r s i ≤ nX s i := by unfold nY; omega
  have l : 0 ≤ nL r s i ∧ nL r s i ≤ nY r s i := by unfold nL; omega
  have n : 0 ≤ nN r s i ∧ nN r s i ≤ nY r s i ∧ nN r s i ≤ (s.dm.getD i dm0).sz := by unfold nN; omega
  have b : 0 ≤ nB r s i ∧ nB r s i ≤ nY r s i := by unfold nB; omega
  exact ⟨h1, h2, d1, d2, d3, d4, x, a, y, l, n, b, inAll_get h5 hi⟩
theorem DayI.step (h : DayI r K s) (hr : rvOk r = true) (hi : i < r.ds.length) (hK : 0 ≤ K) : DayI r (2 * K + 1000000000) (dayStep r s i) := by
  have hn := h.node hr hi
  obtain ⟨b1, b2⟩ := hn.b
  obtain ⟨y1, y2⟩ := hn.y
  obtain ⟨x1, x2⟩ := hn.x
  refine ⟨?_, ?_, ?_, ?_, ?_, ?_⟩
  · simp [dayStep, h.dmL]
  · simp only [dayStep, nW]; split <;> simp [h.wL]
  · simp [dayStep, h.aL]
  · simp [dayStep, h.bL]
  · intro j hj
    have hg : ((s.dm.set i (nD r s i)).getD j dm0) = if i = j then nD r s i else s.dm.getD j dm0 := by
      by_cases he : i = j
      · subst he; simp [List.getD_eq_getElem?_getD, h.dmL, hi]
      · simp [List.getD_eq_getElem?_getD, he]
    simp only [dayStep, hg]
    split
    · rw [dOk_iff]
      have := hn.n
      exact ⟨hn.sz, hn.dd, hn.ls, this.1, this.2.2⟩
    · exact h.dok j hj
  · intro j hj
    simp only [dayStep, nW]
    have hj2 := h.wr j hj
    split
    · omega
    · rename_i hd
      have hds := hn.ds
      have hd2 := h.wr (r.ds.getD i 0).toNat (by omega)
      rw [set_getD (by rw [h.wL]; omega)]
      split <;> omega
end
def kb : Nat → Int
  | 0 => 1000000000
  | k + 1 => 2 * kb k + 1000000000
theorem kb_rng : ∀ k, k ≤ 12 → 0 ≤ kb k ∧ kb k ≤ 100000000000000 := by
  intro k hk
  have : ∀ k, k < 13 → 0 ≤ kb k ∧ kb k ≤ 100000000000000 := by decide
  exact this k (by omega)
def dayOk (r : Riv) (ins : List Int) : Bool := rvOk r && (decide (ins.length = r.ds.length) && inAll 0 1000000000 ins)
theorem dayOk_iff (r : Riv) (ins : List Int) : dayOk r ins = true ↔ rvOk r = true ∧ ins.length = r.ds.length ∧ inAll 0 1000000000 ins = true := by
  simp only [dayOk, Bool.and_eq_true, decide_eq_true_eq]
theorem fo_all {r : Riv} (h : rvOk r = true) : (fo r.ds r.ds.length).length = r.ds.length := by
  obtain ⟨-, -, -, -, h5, -, -, h8⟩ := (rvOk_iff r).1 h
  exact fo_len h8 h5 _ (Nat.le_refl _)
theorem dayAt_lt {r : Riv} (h : rvOk r = true) {k : Nat} (hk : k < r.ds.length) : dayAt r k < r.ds.length ∧ (fo r.ds r.ds.length).getD k 0 = (dayAt r k : Int) := by
  have hl := fo_all h
  have hm : (fo r.ds r.ds.length).getD k 0 ∈ fo r.ds r.ds.length := by
    rw [List.getD_eq_getElem?_getD, List.getElem?_eq_getElem (by omega)]
    exact List.getElem_mem _
  have := (fo_ord r.ds r.ds.length).rng _ hm
  unfold dayAt
  omega
theorem dayTo_I {r : Riv} {ins : List Int} (h : dayOk r ins = true) : ∀ k, k ≤ r.ds.length → DayI r (kb k) (dayTo r ins k)
  | 0, _ => by
    obtain ⟨h1, h2, h3⟩ := (dayOk_iff r ins).1 h
    obtain ⟨-, -, n3, n4, n5, n6, n7, -⟩ := (rvOk_iff r).1 h1
    rw [dayTo_zero]
    refine ⟨n3, h2, by simp, by simp, fun j hj => ?_, fun j hj => inAll_get h3 (by omega)⟩
    rw [List.all_eq_true] at n7
    have := n7 _ (List.getElem_mem (show j < r.dm.length by omega))
    simpa [List.getD_eq_getElem?_getD, show j < r.dm.length by omega] using this
  | k + 1, hk => by
    have h1 := ((dayOk_iff r ins).1 h).1
    have h2 := ((rvOk_iff r).1 h1).2.1
    rw [dayTo_succ]
    exact (dayTo_I h k (by omega)).step h1 (dayAt_lt h1 (by omega)).1 (kb_rng k (by omega)).1
/-! ### what a day answers -/
def dayS (r : Riv) (ins : List Int) : DayS := dayTo r ins r.ds.length
def dayR (r : Riv) (ins : List Int) : Riv := if dayOk r ins then ⟨r.ds, (dayS r ins).dm, r.ws⟩ else ⟨[], [], []⟩
def dayA (r : Riv) (ins : List Int) : List Int := if dayOk r ins then (dayS r ins).a else []
def dayB (r : Riv) (ins : List Int) : List Int := if dayOk r ins then (dayS r ins).b else []
theorem dayR_ok {r : Riv} {ins : List Int} (h : dayOk r ins = true) : rvOk (dayR r ins) = true := by
  have hI := dayTo_I h _ (Nat.le_refl _)
  obtain ⟨h1, h2, h3⟩ := (dayOk_iff r ins).1 h
  obtain ⟨n1, n2, n3, n4, n5, n6, n7, n8⟩ := (rvOk_iff r).1 h1
  unfold dayR
  rw [if_pos h, rvOk_iff]
  exact ⟨n1, n2, hI.dmL, n4, n5, n6, all_dOk (fun i hi => hI.dok i (by have := hI.dmL; dsimp only [dayS] at hi; omega)), n8⟩
attribute [irreducible] dayTo dayAt kb
end Go.Proofs.Ytgkmonllkfgbdaa
