/- A river's day, walked. -/
import Derived.Test.YtmplincflbhmiaaXRa
namespace Go.Proofs.Ytmplincflbhmiaa
set_option linter.unusedSimpArgs false
set_option linter.unusedVariables false
open Go Cn Go.RowKit
structure Dm where
  sz : Int
  dd : Int
  ls : Int
  nw : Int
def dm0 : Dm := ⟨0, 0, 0, 0⟩
def dC (d : Dm) : List Value := [.int .i64 d.sz, .int .i64 d.dd, .int .i64 d.ls, .int .i64 d.nw]
abbrev dCs (ds : List Dm) : List Value := ds.flatMap dC
def SlD (W : World) (v : Value) (ds : List Dm) : Prop := SlV W 4 v ds.length (dCs ds)
section
variable {B : Nat} {A W W' : World} {L L' : List Res}
theorem SlD.below {v : Value} {xs : List Dm} (h : SlD A v xs) (hb : Below A.heap.size A W) : SlD W v xs := SlV.below h hb
theorem SlD.form {v : Value} {xs : List Dm} (h : SlD W v xs) : ∃ a c, v = .slice a xs.length c ∧ xs.length ≤ c := SlV.form h
theorem SlD.read {a : Option Addr} {c : Nat} {xs : List Dm} (h : SlD W (.slice a xs.length c) xs) (hn : 0 < xs.length) : ∃ b off, a = some ⟨b, off, none⟩ ∧ RdV W b off (dCs xs) := SlV.read h hn
def dOk (d : Dm) : Bool := (decide (0 ≤ d.sz) && decide (d.sz ≤ 1000000000)) && (decide (0 ≤ d.dd) && decide (d.dd ≤ d.sz)) && (decide (0 ≤ d.ls) && decide (d.ls ≤ 1000000000)) && (decide (0 ≤ d.nw) && decide (d.nw ≤ d.sz))
theorem RdV.sub {b off : Nat} {ys : List Value} (h : RdV W b off ys) (i n : Nat) (hi : i + n ≤ ys.length) : RdV W b (off + i) ((ys.drop i).take n) := by
  intro j hj
  have hj' : j < n := by simp at hj; omega
  obtain ⟨u, h1, h2, h3⟩ := h (i + j) (by omega)
  refine ⟨u, by rw [Nat.add_assoc]; exact h1, ?_, h3⟩
  rw [h2, List.getD_eq_getElem?_getD, List.getD_eq_getElem?_getD, List.getElem?_take, if_pos hj', List.getElem?_drop]
end
/-! ### laws -/
section
variable {B : Nat} {A W W' : World} {L L' : List Res}
end
end Go.Proofs.Ytmplincflbhmiaa
namespace Go.Proofs.Ytmplincflbhmiaa
set_option linter.unusedSimpArgs false
set_option linter.unusedVariables false
open Go Cn Go.RowKit
section
variable {B : Nat} {A W W' : World} {L L' : List Res}
end
end Go.Proofs.Ytmplincflbhmiaa
namespace Go.Proofs.Ytmplincflbhmiaa
set_option linter.unusedSimpArgs false
set_option linter.unusedVariables false
open Go Cn Go.RowKit
structure Riv where
  ds : List Int
  dm : List Dm
  ws : List Int
/-- what is read of a river -/
structure RvS (W : World) (p1 : Option Addr) (k1 : Nat) (p2 : Option Addr) (k2 : Nat) (p3 : Option Addr) (k3 : Nat) (r : Riv) : Prop where
  d : SlI W (.slice p1 r.ds.length k1) r.ds
  m : SlD W (.slice p2 r.dm.length k2) r.dm
  w : SlI W (.slice p3 r.ws.length k3) r.ws
def Riv.small (r : Riv) : Prop := r.ds.length ≤ 1048576 ∧ r.dm.length ≤ 1048576 ∧ r.ws.length ≤ 1048576
section
variable {B : Nat} {A W W' : World} {L L' : List Res} {p1 p2 p3 : Option Addr} {k1 k2 k3 : Nat} {r : Riv}
theorem RvS.below (h : RvS A p1 k1 p2 k2 p3 k3 r) (hb : Below A.heap.size A W) : RvS W p1 k1 p2 k2 p3 k3 r := ⟨h.d.below hb, SlD.below h.m hb, h.w.below hb⟩
end
end Go.Proofs.Ytmplincflbhmiaa
namespace Go.Proofs.Ytmplincflbhmiaa
set_option linter.unusedSimpArgs false
set_option linter.unusedVariables false
open Go Cn Go.RowKit
def ends (ds : List Int) : Nat → Int → Bool
  | 0, p => decide (p < 0)
  | k + 1, p => if p < 0 then true else ends ds k (ds.getD p.toNat 0)
attribute [irreducible] ends
def allEnd (ds : List Int) (i : Nat) : Bool := (List.range i).all fun j : Nat => ends ds (ds.length + 1) (j : Int)
attribute [irreducible] allEnd
@[irreducible] def rvOk (r : Riv) : Bool := decide (1 ≤ r.ds.length) && (decide (r.ds.length ≤ 12) && (decide (r.dm.length = r.ds.length) && (decide (r.ws.length = r.ds.length) && (inAll (-1) ((r.ds.length : Int) - 1) r.ds && (inAll 0 1000000000 r.ws && (r.dm.all dOk && allEnd r.ds r.ds.length))))))
theorem rvOk_iff (r : Riv) : rvOk r = true ↔ (1 ≤ r.ds.length ∧ r.ds.length ≤ 12 ∧ r.dm.length = r.ds.length ∧ r.ws.length = r.ds.length ∧ inAll (-1) ((r.ds.length : Int) - 1) r.ds = true ∧ inAll 0 1000000000 r.ws = true ∧ r.dm.all dOk = true ∧ allEnd r.ds r.ds.length = true) := by
  unfold rvOk
  simp only [Bool.and_eq_true, decide_eq_true_eq]
theorem inAll_get {lo hi : Int} {xs : List Int} (h : inAll lo hi xs = true) {i : Nat} (hi' : i < xs.length) : lo ≤ xs.getD i 0 ∧ xs.getD i 0 ≤ hi := by
  unfold inAll at h
  rw [List.all_eq_true] at h
  have := h xs[i] (List.getElem_mem hi')
  simpa [List.getD_eq_getElem?_getD, hi'] using this
section
variable {B : Nat} {A W W' : World} {L L' : List Res} {p1 p2 p3 : Option Addr} {k1 k2 k3 : Nat} {r : Riv}
end
end Go.Proofs.Ytmplincflbhmiaa
namespace Go.Proofs.Ytmplincflbhmiaa
set_option linter.unusedSimpArgs false
set_option linter.unusedVariables false
open Go Cn Go.RowKit
/-- node `i` is told already -/
def inO (O : List Int) (x : Int) : Bool := O.any fun y => decide (y = x)
theorem inO_iff {O : List Int} {x : Int} : inO O x = true ↔ x ∈ O := by simp [inO]
theorem inO_no {O : List Int} {x : Int} : inO O x = false ↔ x ∉ O := by rw [← inO_iff]; simp
/-- up to the j-th node, what flows into `i` is told -/
def rdyTo (ds O : List Int) (i : Int) (j : Nat) : Bool := !inO O i && (List.range j).all fun k : Nat => !decide (ds.getD k 0 = i) || inO O (k : Int)
def rdy (ds O : List Int) (i : Int) : Bool := rdyTo ds O i ds.length
theorem rdyTo_iff {ds O : List Int} {i : Int} {j : Nat} : rdyTo ds O i j = true ↔ i ∉ O ∧ ∀ k, k < j → ds.getD k 0 = i → (k : Int) ∈ O := by
  simp only [rdyTo, Bool.and_eq_true, Bool.not_eq_true', inO_no, List.all_eq_true, List.mem_range, Bool.or_eq_true, decide_eq_false_iff_not, inO_iff]
  constructor
  · rintro ⟨h1, h2⟩
    exact ⟨h1, fun k hk he => (h2 k hk).resolve_left fun h => h he⟩
  · rintro ⟨h1, h2⟩
    exact ⟨h1, fun k hk => (Decidable.em (ds.getD k 0 = i)).elim (fun h => .inr (h2 k hk h)) .inl⟩
/-- what is told of an order under way -/
structure Ord (ds O : List Int) : Prop where
  rng : ∀ x ∈ O, 0 ≤ x ∧ x < (ds.length : Int)
  dup : O.Nodup
  cls : ∀ k, k < ds.length → ds.getD k 0 ∈ O → (k : Int) ∈ O
theorem Ord.nil (ds : List Int) : Ord ds [] := ⟨by simp, by simp, by simp⟩
theorem Ord.add {ds O : List Int} {i : Nat} (h : Ord ds O) (hi : i < ds.length) (hr : rdy ds O (i : Int) = true) : Ord ds (O ++ [(i : Int)]) := by
  obtain ⟨h1, h2⟩ := rdyTo_iff.1 hr
  refine ⟨?_, ?_, ?_⟩
  · intro x hx
    rcases List.mem_append.1 hx with hx | hx
    · exact h.rng x hx
    · simp only [List.mem_singleton] at hx; omega
  · rw [List.nodup_append]
    refine ⟨h.dup, by simp, ?_⟩
    intro a ha b hb
    simp only [List.mem_singleton] at hb
    subst hb
    exact fun he => h1 (he ▸ ha)
  · intro k hk hm
    rcases List.mem_append.1 hm with hm | hm
    · exact List.mem_append_left _ (h.cls k hk hm)
    · simp only [List.mem_singleton] at hm
      exact List.mem_append_left _ (h2 k hk hm)
/-! ### the waits -/
/-- how many of the first k flow into x and are not told -/
def cntTo (ds O : List Int) (x : Int) : Nat → Int
  | 0 => 0
  | k + 1 => cntTo ds O x k + if ds.getD k 0 = x ∧ (k : Int) ∉ O then 1 else 0
/-- the first loop: the waits after the first i nodes -/
def w0 (ds : List Int) (i : Nat) : List Int := (List.range ds.length).map fun x : Nat => cntTo ds [] (x : Int) i
theorem set_getD {xs : List Int} {i j : Nat} {y : Int} (hi : i < xs.length) : (xs.set i y).getD j 0 = if i = j then y else xs.getD j 0 := by
  by_cases h : i = j
  · subst h; simp [List.getD_eq_getElem?_getD, hi]
  · simp [List.getD_eq_getElem?_getD, h]
attribute [irreducible] w0 cntTo inO rdyTo
end Go.Proofs.Ytmplincflbhmiaa
namespace Go.Proofs.Ytmplincflbhmiaa
set_option linter.unusedSimpArgs false
set_option linter.unusedVariables false
open Go Cn Go.RowKit
structure DayS where
  dm : List Dm
  w : List Int
  a : List Int
  b : List Int
section
variable (r : Riv) (s : DayS) (i : Nat)
def nX : Int := s.w.getD i 0 + (s.dm.getD i dm0).nw
def nA : Int := min (r.ws.getD i 0) (max 0 (nX s i - (s.dm.getD i dm0).dd))
def nY : Int := nX s i - nA r s i
def nL : Int := min (s.dm.getD i dm0).ls (max 0 (nY r s i - (s.dm.getD i dm0).dd))
def nN : Int := min (s.dm.getD i dm0).sz (nY r s i - nL r s i)
def nB : Int := nY r s i - nN r s i
def nD : Dm := ⟨(s.dm.getD i dm0).sz, (s.dm.getD i dm0).dd, (s.dm.getD i dm0).ls, nN r s i⟩
def nW : List Int := if r.ds.getD i 0 < 0 then s.w else s.w.set (r.ds.getD i 0).toNat (s.w.getD (r.ds.getD i 0).toNat 0 + nB r s i)
def dayStep : DayS := ⟨s.dm.set i (nD r s i), nW r s i, s.a.set i (nA r s i), s.b.set i (nB r s i)⟩
end
structure DayI (r : Riv) (K : Int) (s : DayS) : Prop where
  dmL : s.dm.length = r.ds.length
  wL : s.w.length = r.ds.length
  aL : s.a.length = r.ds.length
  bL : s.b.length = r.ds.length
  dok : ∀ j, j < r.ds.length → dOk (s.dm.getD j dm0) = true
  wr : ∀ j, j < r.ds.length → 0 ≤ s.w.getD j 0 ∧ s.w.getD j 0 ≤ K
theorem dOk_iff (d : Dm) : dOk d = true ↔ (0 ≤ d.sz ∧ d.sz ≤ 1000000000) ∧ (0 ≤ d.dd ∧ d.dd ≤ d.sz) ∧ (0 ≤ d.ls ∧ d.ls ≤ 1000000000) ∧ (0 ≤ d.nw ∧ d.nw ≤ d.sz) := by
  simp only [dOk, Bool.and_eq_true, decide_eq_true_eq, and_assoc]
structure NodeR (r : Riv) (K : Int) (s : DayS) (i : Nat) : Prop where
  ws : 0 ≤ r.ws.getD i 0 ∧ r.ws.getD i 0 ≤ 1000000000
  w : 0 ≤ s.w.getD i 0 ∧ s.w.getD i 0 ≤ K
  sz : 0 ≤ (s.dm.getD i dm0).sz ∧ (s.dm.getD i dm0).sz ≤ 1000000000
  dd : 0 ≤ (s.dm.getD i dm0).dd ∧ (s.dm.getD i dm0).dd ≤ (s.dm.getD i dm0).sz
  ls : 0 ≤ (s.dm.getD i dm0).ls ∧ (s.dm.getD i dm0).ls ≤ 1000000000
  nw : 0 ≤ (s.dm.getD i dm0).nw ∧ (s.dm.getD i dm0).nw ≤ (s.dm.getD i dm0).sz
  x : 0 ≤ nX s i ∧ nX s i ≤ K + 1000000000
  a : 0 ≤ nA r s i ∧ nA r s i ≤ nX s i
  y : 0 ≤ nY r s i ∧ nY r s i ≤ nX s i
  l : 0 ≤ nL r s i ∧ nL r s i ≤ nY r s i
  n : 0 ≤ nN r s i ∧ nN r s i ≤ nY r s i ∧ nN r s i ≤ (s.dm.getD i dm0).sz
  b : 0 ≤ nB r s i ∧ nB r s i ≤ nY r s i
  ds : -1 ≤ r.ds.getD i 0 ∧ r.ds.getD i 0 ≤ (r.ds.length : Int) - 1
section
variable {r : Riv} {s : DayS} {i : Nat} {K : Int}
theorem DayI.node (h : DayI r K s) (hr : rvOk r = true) (hi : i < r.ds.length) : NodeR r K s i := by
  obtain ⟨-, -, -, h4, h5, h6, -, -⟩ := (rvOk_iff r).1 hr
  have h1 := inAll_get h6 (i := i) (by omega)
  have h2 := h.wr i hi
  obtain ⟨d1, d2, d3, d4⟩ := (dOk_iff _).1 (h.dok i hi)
  have x : 0 ≤ nX s i ∧ nX s i ≤ K + 1000000000 := by unfold nX; omega
  have a : 0 ≤ nA r s i ∧ nA r s i ≤ nX s i := by unfold nA; omega
  have y : 0 ≤ nY r s i ∧ nY r s i ≤ nX s i := by unfold nY; omega
  have l : 0 ≤ nL r s i ∧ nL r s i ≤ nY r s i := by unfold nL; omega
  have n : 0 ≤ nN r s i ∧ nN r s i ≤ nY r s i ∧ nN r s i ≤ (s.dm.getD i dm0).sz := by unfold nN; omega
  have b : 0 ≤ nB r s i ∧ nB r s i ≤ nY r s i := by unfold nB; omega
  exact ⟨h1, h2, d1, d2, d3, d4, x, a, y, l, n, b, inAll_get h5 hi⟩
theorem DayI.step (h : DayI r K s) (hr : rvOk r = true) (hi : i < r.ds.length) (hK : 0 ≤ K) : DayI r (2 * K + 1000000000) (dayStep r s i) := by
  have hn := h.node hr hi
  obtain ⟨b1, b2⟩ := hn.b
  obtain ⟨y1, y2⟩ := hn.y
  obtain ⟨x1, x2⟩ := hn.x
  refine ⟨?_, ?_, ?_, ?_, ?_, ?_⟩
  · simp [dayStep, h.dmL]
  · simp only [dayStep, nW]; split <;> simp [h.wL]
  · simp [dayStep, h.aL]
  · simp [dayStep, h.bL]
  · intro j hj
    have hg : ((s.dm.set i (nD r s i)).getD j dm0) = if i = j then nD r s i else s.dm.getD j dm0 := by
      by_cases he : i = j
      · subst he; simp [List.getD_eq_getElem?_getD, h.dmL, hi]
      · simp [List.getD_eq_getElem?_getD, he]
    simp only [dayStep, hg]
    split
    · rw [dOk_iff]
      have := hn.n
      exact ⟨hn.sz, hn.dd, hn.ls, this.1, this.2.2⟩
    · exact h.dok j hj
  · intro j hj
    simp only [dayStep, nW]
    have hj2 := h.wr j hj
    split
    · omega
    · rename_i hd
      have hds := hn.ds
      have hd2 := h.wr (r.ds.getD i 0).toNat (by omega)
      rw [set_getD (by rw [h.wL]; omega)]
      split <;> omega
end
/-! ### what a day answers -/
end Go.Proofs.Ytmplincflbhmiaa
namespace Go.Proofs.Ytmplincflbhmiaa
set_option linter.unusedSimpArgs false
set_option linter.unusedVariables false
open Go Cn Go.RowKit
section
variable {B : Nat} {A W W' : World} {L L' : List Res} {p1 p2 p3 p4 p5 p6 : Option Addr} {k1 k2 k3 k4 k5 k6 : Nat} {r s : Riv}
end
end Go.Proofs.Ytmplincflbhmiaa
namespace Go.Proofs.Ytmplincflbhmiaa
set_option linter.unusedSimpArgs false
set_option linter.unusedVariables false
open Go Cn Go.RowKit
section
variable {B : Nat} {A W W' : World} {L L' : List Res} {p1 p2 p3 p4 p5 p6 : Option Addr} {k1 k2 k3 k4 k5 k6 : Nat} {r s : Riv}
end
end Go.Proofs.Ytmplincflbhmiaa
namespace Go.Proofs.Ytmplincflbhmiaa.Cn
set_option linter.unusedSimpArgs false
set_option linter.unusedVariables false
open Go Go.RowKit
section
variable {P : Program} {N B : Nat} {E : Env} {A W : World} {ops : Array Oper} {K : Exit → Env → World → Prop} {T : Tab} {l l0 l' : List Res}
variable {i : Nat} {rest q q' : List Nat} {d : Nat} {op : Op} {ty : TypeId} {pos : String} {aft : Array Edge} {g : Option (Nat × Bool)}
theorem th_readR (hT : TabOk P T) {α : Type} {f : α → Value} (d0 : α) {ys : List α} {b k n c : Nat} {e : TypeId} (H : Hp B A W l) (q' : List Nat) (ht : takenO ops.size i q q' = true) (ho : getL ops.toList i = some ⟨some d, op, ty, pos, aft, g⟩) (hg : guardE ops ⟨some d, op, ty, pos, aft, g⟩ E = some true) (hd : Nat.ble (d + 1) N = true)
    (hv : evLd T E ⟨some d, op, ty, pos, aft, g⟩ = some ⟨b, k, none⟩) (hm : Res.row e 1 (.slice (some ⟨b, 0, none⟩) n c) n (ys.map f) ∈ l) (hi : k < ys.length) (hs : l0.Sublist l)
    (h : SO P N B ops (DH B A l0) K q' ((d, f (ys.getD k d0)) :: E) W) : TurnO P N B ops (DH B A l0) K q E W i :=
  to_yields q' ht ho hg hd (gh_readT (d0 := d0) hT hv (H.rowRd hm) (Nat.zero_add _).symm hi) fun v' W' h' => by
    obtain ⟨rfl, rfl⟩ := h'
    exact ⟨H.sub hs, h⟩
theorem th_storeT (hT : TabOk P T) {α : Type} (f : α → Value) {y : α} {ys : List α} {b off n m cp : Nat} {e : TypeId} (H : Hp B A W l) (hcan : cv (f y) = f y) (q' : List Nat) (ht : takenO ops.size i q q' = true) (ho : getL ops.toList i = some ⟨none, op, ty, pos, aft, g⟩) (hg : guardE ops ⟨none, op, ty, pos, aft, g⟩ E = some true) (hv : evSt T E ⟨none, op, ty, pos, aft, g⟩ = some (b, off, n, f y))
    (hc : cellsO (f y) = some [f y]) (hn : Nat.beq 1 n = true) (h1 : allOne [f y] = true) (hU : Upd l (.row e 1 (.slice (some ⟨b, 0, none⟩) m cp) m (ys.map f)) (.row e 1 (.slice (some ⟨b, 0, none⟩) m cp) m ((ys.set off y).map f)) l') (hl : off < ys.length)
    (hs : l0.Sublist l') (k : ∀ W', Hp B A W' l' → SO P N B ops (DH B A l0) K q' E W') : TurnO P N B ops (DH B A l0) K q E W i := by
  obtain ⟨h2, h3⟩ := cellsO_spec hc
  have h6 := Nat.eq_of_beq_eq_true hn
  have he := set_map f ys off y hl
  rw [← h2] at he
  obtain ⟨W1, h7, h8⟩ := kh_storeRow (E := E) (N := N) hT H hv h3 (by rw [← Array.length_toList, h2]; exact h6) (by rw [h2]; exact allOne_spec _ h1) hcan hU (by simp; omega) he
  refine ⟨q', ht, _, getL_ok ho, rfl, _, srun_skips hg h7, ?_⟩
  rintro v' W' ⟨-, rfl⟩
  exact ⟨h8.sub hs, k _ h8⟩
end
end Go.Proofs.Ytmplincflbhmiaa.Cn
namespace Go.Proofs.Ytmplincflbhmiaa
open Go Cn Go.RowKit
section
variable {B : Nat} {A W W' : World} {L L' : List Res} {p1 p2 p3 p4 p5 p6 : Option Addr} {k1 k2 k3 k4 k5 k6 : Nat} {r s : Riv}
end
end Go.Proofs.Ytmplincflbhmiaa
