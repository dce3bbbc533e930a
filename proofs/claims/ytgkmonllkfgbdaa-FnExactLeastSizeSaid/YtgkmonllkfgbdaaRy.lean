/- The least size of a dam, both ways. -/
import Derived.Test.YtgkmonllkfgbdaaRx
import Derived.Test.YtgkmonllkfgbdaaRo
namespace Go.Proofs.Ytgkmonllkfgbdaa
set_option linter.unusedSimpArgs false
set_option linter.unusedVariables false
open Go Cn Go.RowKit
def setD (r : Riv) (i : Nat) (d : Dm) : Riv := ⟨r.ds, r.dm.set i d, r.ws⟩
def setDok (r : Riv) (q : Int) (d : Dm) : Bool := (rvOk r && (decide (0 ≤ q) && decide (q ≤ (r.ds.length : Int) - 1))) && rvOk (setD r q.toNat d)
def setDv (r : Riv) (q : Int) (d : Dm) : Riv := if setDok r q d then setD r q.toNat d else rv0
def SetH (B : Nat) (W W' : World) (v : Value) (r : Riv) (q : Int) (d : Dm) : Prop :=
  ∃ p1 k1 p2 k2 p3 k3, v = .tuple #[rvV p1 k1 p2 k2 p3 k3 (setDv r q d), .bool (setDok r q d)] ∧ Hp B W W' (rvR p1 k1 p2 k2 p3 k3 (setDv r q d))
theorem SetH.bad {B : Nat} {W W' : World} {r : Riv} {q : Int} {d : Dm} (hk : setDok r q d = false) (hb : Hp B W W' []) : SetH B W W' (.tuple #[.agg #[.slice none 0 0, .slice none 0 0, .slice none 0 0], .bool false]) r q d := by
  unfold SetH setDv
  rw [hk]
  exact ⟨none, 0, none, 0, none, 0, rfl, hp_rv0 hb⟩
theorem SetH.good {B : Nat} {W W' : World} {r s : Riv} {q : Int} {d : Dm} {p1 p2 p3 : Option Addr} {k1 k2 k3 : Nat} (hk : setDok r q d = true) (hs : setD r q.toNat d = s) (hb : Hp B W W' (rvR p1 k1 p2 k2 p3 k3 s)) : SetH B W W' (.tuple #[rvV p1 k1 p2 k2 p3 k3 s, .bool true]) r q d := by
  subst hs
  unfold SetH setDv
  rw [hk]
  exact ⟨p1, k1, p2, k2, p3, k3, rfl, hb⟩
/-- a dam of another size -/
def szD (d : Dm) (c : Int) : Dm := ⟨c, min d.dd c, d.ls, min d.nw c⟩
def setSz (r : Riv) (i : Nat) (c : Int) : Riv := setD r i (szD (r.dm.getD i dm0) c)
theorem szD_ok {d : Dm} {c : Int} (h : dOk d = true) (h0 : 0 ≤ c) (h1 : c ≤ 1000000000) : dOk (szD d c) = true := by
  rw [dOk_iff] at h ⊢
  simp only [szD]
  omega
theorem setD_ok {r : Riv} {i : Nat} {d : Dm} (hr : rvOk r = true) (hd : dOk d = true) : rvOk (setD r i d) = true := by
  obtain ⟨n1, n2, n3, n4, n5, n6, n7, n8⟩ := (rvOk_iff r).1 hr
  rw [rvOk_iff]
  refine ⟨n1, n2, by simp [setD, n3], n4, n5, n6, ?_, n8⟩
  refine all_dOk fun j hj => ?_
  have hj' : j < r.dm.length := by simpa [setD] using hj
  have h2 := dOk_get hr j hj'
  by_cases e : i = j
  · subst e; simp [setD, List.getD_eq_getElem?_getD, hj', hd]
  · simpa [setD, List.getD_eq_getElem?_getD, e] using h2
theorem setSz_ok {r : Riv} {i : Nat} {c : Int} (hr : rvOk r = true) (hi : i < r.ds.length) (h0 : 0 ≤ c) (h1 : c ≤ 1000000000) : rvOk (setSz r i c) = true :=
  setD_ok hr (szD_ok (dOk_get hr i (by have := rvOk_len hr; omega)) h0 h1)
def enough (r : Riv) (i : Nat) (days : List (List Int)) (c : Int) : Bool := decide (shTo r.ws (runA (setSz r i c) days) i days.length = 0)
/-- the search: high is enough, low is not -/
def lsR (en : Int → Bool) : Nat → Int → Int → Int
  | 0, _, hi => hi
  | f + 1, lo, hi => if lo + 1 < hi then (if en (lo + (hi - lo) / 2) then lsR en f lo (lo + (hi - lo) / 2) else lsR en f (lo + (hi - lo) / 2) hi) else hi
theorem lsR_fuel (en : Int → Bool) : ∀ (f g : Nat) (lo hi : Int), (hi - lo).toNat ≤ f → (hi - lo).toNat ≤ g → lsR en f lo hi = lsR en g lo hi
  | 0, 0, _, _, _, _ => rfl
  | 0, g + 1, lo, hi, h1, h2 => by
    simp only [lsR]
    rw [if_neg (by omega)]
  | f + 1, 0, lo, hi, h1, h2 => by
    simp only [lsR]
    rw [if_neg (by omega)]
  | f + 1, g + 1, lo, hi, h1, h2 => by
    simp only [lsR]
    by_cases h : lo + 1 < hi
    · rw [if_pos h, if_pos h]
      have e1 := lsR_fuel en f g lo (lo + (hi - lo) / 2) (by omega) (by omega)
      have e2 := lsR_fuel en f g (lo + (hi - lo) / 2) hi (by omega) (by omega)
      rw [e1, e2]
    · rw [if_neg h, if_neg h]
def lsF (en : Int → Bool) (lo hi : Int) : Int := lsR en (hi - lo).toNat lo hi
theorem lsF_done {en : Int → Bool} {lo hi : Int} (h : ¬ hi > lo + 1) : lsF en lo hi = hi := by
  unfold lsF
  rw [lsR_fuel en _ ((hi - lo).toNat + 1) lo hi (Nat.le_refl _) (by omega)]
  simp only [lsR]
  rw [if_neg (by omega)]
theorem lsF_yes {en : Int → Bool} {lo hi : Int} (h : hi > lo + 1) (he : en (lo + (hi - lo) / 2) = true) : lsF en lo hi = lsF en lo (lo + (hi - lo) / 2) := by
  unfold lsF
  rw [lsR_fuel en _ ((hi - lo).toNat + 1) lo hi (Nat.le_refl _) (by omega)]
  conv => lhs; unfold lsR
  rw [if_pos (by omega), if_pos he]
  exact lsR_fuel en _ _ _ _ (by omega) (Nat.le_refl _)
theorem lsF_no {en : Int → Bool} {lo hi : Int} (h : hi > lo + 1) (he : en (lo + (hi - lo) / 2) = false) : lsF en lo hi = lsF en (lo + (hi - lo) / 2) hi := by
  unfold lsF
  rw [lsR_fuel en _ ((hi - lo).toNat + 1) lo hi (Nat.le_refl _) (by omega)]
  conv => lhs; unfold lsR
  rw [if_pos (by omega), if_neg (by rw [he]; decide)]
  exact lsR_fuel en _ _ _ _ (by omega) (Nat.le_refl _)
attribute [irreducible] lsF
def lsOk (r : Riv) (q : Int) (days : List (List Int)) (most : Int) : Bool := (rvOk r && (decide (0 ≤ q) && decide (q ≤ (r.ds.length : Int) - 1))) && (daysOk r.ds.length days && ((decide (0 ≤ most) && decide (most ≤ 1000000000)) && enough r q.toNat days most))
def lsV (r : Riv) (q : Int) (days : List (List Int)) (most : Int) : Int := if lsOk r q days most then lsF (enough r q.toNat days) (-1) most else 0
section
variable {B : Nat} {A W W' : World} {L L' : List Res} {p1 p2 p3 p4 p5 p6 : Option Addr} {k1 k2 k3 k4 k5 k6 : Nat} {r s : Riv}
set_option maxHeartbeats 4000000 in
theorem c_impl_SetDam (hB : B ≤ W.heap.size) (hv : RvS W p1 k1 p2 k2 p3 k3 r) (hs : r.small) (q : Int) (d : Dm) :
    ACalls Try.prog B 53 [rvV p1 k1 p2 k2 p3 k3 r, .int .i64 q, dV d] W (fun v W' => SetH B W W' v r q d) := by
  have H0 : Hp B W W [] := Hp.new hB
  obtain ⟨d1, d2, d3, d4⟩ := d
  simp only [dV]
  refine acalls_of Try.func53 rfl Try.ntmps53 (Nat.le_of_ble_eq_true rfl) ?_
  repeat' (first | refine s_pure tabOk rfl rfl rfl rfl ?_ | refine Stp.imp ?_ | refine aops_nil ?_ | refine aw_reg ?_ | refine aw_seq ?_ | refine s_pass rfl rfl rfl ?_ | refine s_len tabOk rfl rfl rfl rfl ?_ | refine aw_true rfl ?_ | refine aw_false rfl ?_ | refine blk_exit_other rfl ?_ | refine s_arith tabOk rfl rfl rfl rfl (by simp only [InR]; omega) ?_ | ((first | ((fail_if_success refine s_told rfl rfl ?_); refine s_part rfl rfl rfl ?_ ?_) | refine aw_if rfl ?_ ?_) <;> intro hc <;> (first | replace hc := DecT.imp hc | simp only [decs] at hc | skip)) | refine s_index1n tabOk rfl rfl rfl rfl (by omega) ?_ | refine s_indexn tabOk rfl rfl rfl rfl (by omega) ?_ | refine s_index1 tabOk rfl rfl rfl rfl (by omega) (by omega) ?_ | refine sh_load tabOk (by assumption) rfl rfl rfl rfl (by repeat (first | exact List.Mem.head _ | apply List.Mem.tail)) (by rfl) (by rfl) ?_ | refine sh_loada tabOk (by assumption) rfl rfl rfl rfl (by repeat (first | exact List.Mem.head _ | apply List.Mem.tail)) (by rfl) ?_ | (refine sh_box (by assumption) rfl rfl rfl rfl rfl rfl ?_; intro _ _ _) | (refine sh_alloc tabOk (by assumption) rfl rfl rfl rfl rfl rfl ?_; intro _ _ _) | (refine sh_store tabOk (by assumption) rfl rfl rfl rfl rfl rfl (by repeat (first | exact Upd.here | apply Upd.there)) (by rfl) ?_; intro _ _) | (refine sh_lit tabOk (by assumption) rfl rfl rfl rfl rfl rfl rfl rfl rfl rfl rfl ?_; intro _ _ _) | refine sh_build tabOk rfl rfl rfl rfl rfl rfl ?_)
  refine s_call rfl rfl rfl rfl ent63 (c_impl_River_isNode (Hp.size (by assumption)) (Hp.rvA (by assumption) hv) hs q) ?_
  rintro _ W2 ⟨rfl, g2⟩
  have H2 := Hp.call0 (by assumption) g2
  generalize hb0 : (rvOk r && (decide (0 ≤ q) && decide (q ≤ (r.ds.length : Int) - 1))) = b0
  cases b0
  · repeat' (first | refine s_pure tabOk rfl rfl rfl rfl ?_ | refine Stp.imp ?_ | refine aops_nil ?_ | refine aw_reg ?_ | refine aw_seq ?_ | refine s_pass rfl rfl rfl ?_ | refine s_len tabOk rfl rfl rfl rfl ?_ | refine aw_true rfl ?_ | refine aw_false rfl ?_ | refine blk_exit_other rfl ?_ | refine s_arith tabOk rfl rfl rfl rfl (by simp only [InR]; omega) ?_ | ((first | ((fail_if_success refine s_told rfl rfl ?_); refine s_part rfl rfl rfl ?_ ?_) | refine aw_if rfl ?_ ?_) <;> intro hc <;> (first | replace hc := DecT.imp hc | simp only [decs] at hc | skip)) | refine s_index1n tabOk rfl rfl rfl rfl (by omega) ?_ | refine s_indexn tabOk rfl rfl rfl rfl (by omega) ?_ | refine s_index1 tabOk rfl rfl rfl rfl (by omega) (by omega) ?_ | refine sh_load tabOk (by assumption) rfl rfl rfl rfl (by repeat (first | exact List.Mem.head _ | apply List.Mem.tail)) (by rfl) (by rfl) ?_ | refine sh_loada tabOk (by assumption) rfl rfl rfl rfl (by repeat (first | exact List.Mem.head _ | apply List.Mem.tail)) (by rfl) ?_ | (refine sh_box (by assumption) rfl rfl rfl rfl rfl rfl ?_; intro _ _ _) | (refine sh_alloc tabOk (by assumption) rfl rfl rfl rfl rfl rfl ?_; intro _ _ _) | (refine sh_store tabOk (by assumption) rfl rfl rfl rfl rfl rfl (by repeat (first | exact Upd.here | apply Upd.there)) (by rfl) ?_; intro _ _) | (refine sh_lit tabOk (by assumption) rfl rfl rfl rfl rfl rfl rfl rfl rfl rfl rfl ?_; intro _ _ _) | refine sh_build tabOk rfl rfl rfl rfl rfl rfl ?_)
    refine retK_ret tabOk (congrArg Array.toList Try.results53) (by repeat (first | exact rv_nil | apply rv_tmp rfl rfl | apply rv_cellH (by assumption) rfl rfl rfl (by repeat (first | exact List.Mem.head _ | apply List.Mem.tail)) rfl)) ?_
    exact SetH.bad (by unfold setDok; rw [hb0]; rfl) (Hp.sub (by assumption) (by repeat (first | exact List.nil_sublist _ | refine List.Sublist.cons_cons _ ?_ | refine List.Sublist.cons _ ?_)))
  have hb1 := hb0
  simp only [Bool.and_eq_true, decide_eq_true_eq] at hb1
  obtain ⟨e1, e2, e3⟩ := hb1
  obtain ⟨n1, n2, n3, n4⟩ := rvOk_len e1
  obtain ⟨i, rfl⟩ : ∃ i : Nat, q = (i : Int) := ⟨q.toNat, by omega⟩
  repeat' (first | refine s_pure tabOk rfl rfl rfl rfl ?_ | refine Stp.imp ?_ | refine aops_nil ?_ | refine aw_reg ?_ | refine aw_seq ?_ | refine s_pass rfl rfl rfl ?_ | refine s_len tabOk rfl rfl rfl rfl ?_ | refine aw_true rfl ?_ | refine aw_false rfl ?_ | refine blk_exit_other rfl ?_ | refine s_arith tabOk rfl rfl rfl rfl (by simp only [InR]; omega) ?_ | ((first | ((fail_if_success refine s_told rfl rfl ?_); refine s_part rfl rfl rfl ?_ ?_) | refine aw_if rfl ?_ ?_) <;> intro hc <;> (first | replace hc := DecT.imp hc | simp only [decs] at hc | skip)) | refine s_index1n tabOk rfl rfl rfl rfl (by omega) ?_ | refine s_indexn tabOk rfl rfl rfl rfl (by omega) ?_ | refine s_index1 tabOk rfl rfl rfl rfl (by omega) (by omega) ?_ | refine sh_load tabOk (by assumption) rfl rfl rfl rfl (by repeat (first | exact List.Mem.head _ | apply List.Mem.tail)) (by rfl) (by rfl) ?_ | refine sh_loada tabOk (by assumption) rfl rfl rfl rfl (by repeat (first | exact List.Mem.head _ | apply List.Mem.tail)) (by rfl) ?_ | (refine sh_box (by assumption) rfl rfl rfl rfl rfl rfl ?_; intro _ _ _) | (refine sh_alloc tabOk (by assumption) rfl rfl rfl rfl rfl rfl ?_; intro _ _ _) | (refine sh_store tabOk (by assumption) rfl rfl rfl rfl rfl rfl (by repeat (first | exact Upd.here | apply Upd.there)) (by rfl) ?_; intro _ _) | (refine sh_lit tabOk (by assumption) rfl rfl rfl rfl rfl rfl rfl rfl rfl rfl rfl ?_; intro _ _ _) | refine sh_build tabOk rfl rfl rfl rfl rfl rfl ?_)
  refine s_call rfl rfl rfl rfl ent65 (c_impl_River_cloned (Hp.size (by assumption)) (Hp.rvA (by assumption) hv) hs) ?_
  rintro _ W4 ⟨q1, j1, q2, j2, q3, j3, rfl, g4⟩
  have H4 := Hp.call3 (by assumption) g4
  obtain ⟨bm, rfl⟩ := H4.row_ptr (n := r.dm.length) (sz := 4) (c := j2) (a := q2) (by repeat (first | exact List.Mem.head _ | apply List.Mem.tail)) (by omega)
  repeat' (first | refine s_pure tabOk rfl rfl rfl rfl ?_ | refine Stp.imp ?_ | refine aops_nil ?_ | refine aw_reg ?_ | refine aw_seq ?_ | refine s_pass rfl rfl rfl ?_ | refine s_len tabOk rfl rfl rfl rfl ?_ | refine aw_true rfl ?_ | refine aw_false rfl ?_ | refine blk_exit_other rfl ?_ | refine s_arith tabOk rfl rfl rfl rfl (by simp only [InR]; omega) ?_ | ((first | ((fail_if_success refine s_told rfl rfl ?_); refine s_part rfl rfl rfl ?_ ?_) | refine aw_if rfl ?_ ?_) <;> intro hc <;> (first | replace hc := DecT.imp hc | simp only [decs] at hc | skip)) | refine s_index1n tabOk rfl rfl rfl rfl (by omega) ?_ | refine s_indexn tabOk rfl rfl rfl rfl (by omega) ?_ | refine s_index1 tabOk rfl rfl rfl rfl (by omega) (by omega) ?_ | refine sh_load tabOk (by assumption) rfl rfl rfl rfl (by repeat (first | exact List.Mem.head _ | apply List.Mem.tail)) (by rfl) (by rfl) ?_ | refine sh_loada tabOk (by assumption) rfl rfl rfl rfl (by repeat (first | exact List.Mem.head _ | apply List.Mem.tail)) (by rfl) ?_ | (refine sh_box (by assumption) rfl rfl rfl rfl rfl rfl ?_; intro _ _ _) | (refine sh_alloc tabOk (by assumption) rfl rfl rfl rfl rfl rfl ?_; intro _ _ _) | (refine sh_store tabOk (by assumption) rfl rfl rfl rfl rfl rfl (by repeat (first | exact Upd.here | apply Upd.there)) (by rfl) ?_; intro _ _) | (refine sh_lit tabOk (by assumption) rfl rfl rfl rfl rfl rfl rfl rfl rfl rfl rfl ?_; intro _ _ _) | refine sh_build tabOk rfl rfl rfl rfl rfl rfl ?_)
  all_goals try (exfalso; omega)
  refine sh_storeA tabOk dC_len ⟨d1, d2, d3, d4⟩ (ys := r.dm) (by assumption) rfl rfl rfl rfl rfl rfl (Nat.zero_add _) (by repeat (first | exact Upd.here | apply Upd.there)) (by omega) ?_
  intro W5 H5
  have hsl : (r.dm.set i ⟨d1, d2, d3, d4⟩).length = r.dm.length := List.length_set ..
  have hse : setD r i ⟨d1, d2, d3, d4⟩ = ⟨r.ds, r.dm.set i ⟨d1, d2, d3, d4⟩, r.ws⟩ := rfl
  rw [← hsl] at H5
  have hok : setDok r (i : Int) ⟨d1, d2, d3, d4⟩ = rvOk (setD r i ⟨d1, d2, d3, d4⟩) := by unfold setDok; rw [hb0, Int.toNat_natCast]; rfl
  have hsm : (setD r i ⟨d1, d2, d3, d4⟩).small := by rw [hse]; exact ⟨by dsimp only; omega, by dsimp only; omega, by dsimp only; omega⟩
  rw [← hsl]
  repeat' (first | refine s_pure tabOk rfl rfl rfl rfl ?_ | refine Stp.imp ?_ | refine aops_nil ?_ | refine aw_reg ?_ | refine aw_seq ?_ | refine s_pass rfl rfl rfl ?_ | refine s_len tabOk rfl rfl rfl rfl ?_ | refine aw_true rfl ?_ | refine aw_false rfl ?_ | refine blk_exit_other rfl ?_ | refine s_arith tabOk rfl rfl rfl rfl (by simp only [InR]; omega) ?_ | ((first | ((fail_if_success refine s_told rfl rfl ?_); refine s_part rfl rfl rfl ?_ ?_) | refine aw_if rfl ?_ ?_) <;> intro hc <;> (first | replace hc := DecT.imp hc | simp only [decs] at hc | skip)) | refine s_index1n tabOk rfl rfl rfl rfl (by omega) ?_ | refine s_indexn tabOk rfl rfl rfl rfl (by omega) ?_ | refine s_index1 tabOk rfl rfl rfl rfl (by omega) (by omega) ?_ | refine sh_load tabOk (by assumption) rfl rfl rfl rfl (by repeat (first | exact List.Mem.head _ | apply List.Mem.tail)) (by rfl) (by rfl) ?_ | refine sh_loada tabOk (by assumption) rfl rfl rfl rfl (by repeat (first | exact List.Mem.head _ | apply List.Mem.tail)) (by rfl) ?_ | (refine sh_box (by assumption) rfl rfl rfl rfl rfl rfl ?_; intro _ _ _) | (refine sh_alloc tabOk (by assumption) rfl rfl rfl rfl rfl rfl ?_; intro _ _ _) | (refine sh_store tabOk (by assumption) rfl rfl rfl rfl rfl rfl (by repeat (first | exact Upd.here | apply Upd.there)) (by rfl) ?_; intro _ _) | (refine sh_lit tabOk (by assumption) rfl rfl rfl rfl rfl rfl rfl rfl rfl rfl rfl ?_; intro _ _ _) | refine sh_build tabOk rfl rfl rfl rfl rfl rfl ?_)
  refine s_call rfl rfl rfl rfl ent66 (c_impl_toldRiver (r := setD r i ⟨d1, d2, d3, d4⟩) (Hp.size (by assumption)) (Hp.rv (by assumption) (by repeat (first | exact List.Mem.head _ | apply List.Mem.tail)) (by repeat (first | exact List.Mem.head _ | apply List.Mem.tail)) (by repeat (first | exact List.Mem.head _ | apply List.Mem.tail))) hsm) ?_
  rintro _ W20 ⟨rfl, g20⟩
  have H20 := Hp.call0 (by assumption) g20
  cases hj : rvOk (setD r i ⟨d1, d2, d3, d4⟩)
  · simp only [Bool.false_eq_true, if_false]
    repeat' (first | refine s_pure tabOk rfl rfl rfl rfl ?_ | refine Stp.imp ?_ | refine aops_nil ?_ | refine aw_reg ?_ | refine aw_seq ?_ | refine s_pass rfl rfl rfl ?_ | refine s_len tabOk rfl rfl rfl rfl ?_ | refine aw_true rfl ?_ | refine aw_false rfl ?_ | refine blk_exit_other rfl ?_ | refine s_arith tabOk rfl rfl rfl rfl (by simp only [InR]; omega) ?_ | ((first | ((fail_if_success refine s_told rfl rfl ?_); refine s_part rfl rfl rfl ?_ ?_) | refine aw_if rfl ?_ ?_) <;> intro hc <;> (first | replace hc := DecT.imp hc | simp only [decs] at hc | skip)) | refine s_index1n tabOk rfl rfl rfl rfl (by omega) ?_ | refine s_indexn tabOk rfl rfl rfl rfl (by omega) ?_ | refine s_index1 tabOk rfl rfl rfl rfl (by omega) (by omega) ?_ | refine sh_load tabOk (by assumption) rfl rfl rfl rfl (by repeat (first | exact List.Mem.head _ | apply List.Mem.tail)) (by rfl) (by rfl) ?_ | refine sh_loada tabOk (by assumption) rfl rfl rfl rfl (by repeat (first | exact List.Mem.head _ | apply List.Mem.tail)) (by rfl) ?_ | (refine sh_box (by assumption) rfl rfl rfl rfl rfl rfl ?_; intro _ _ _) | (refine sh_alloc tabOk (by assumption) rfl rfl rfl rfl rfl rfl ?_; intro _ _ _) | (refine sh_store tabOk (by assumption) rfl rfl rfl rfl rfl rfl (by repeat (first | exact Upd.here | apply Upd.there)) (by rfl) ?_; intro _ _) | (refine sh_lit tabOk (by assumption) rfl rfl rfl rfl rfl rfl rfl rfl rfl rfl rfl ?_; intro _ _ _) | refine sh_build tabOk rfl rfl rfl rfl rfl rfl ?_)
    refine retK_ret tabOk (congrArg Array.toList Try.results53) (by repeat (first | exact rv_nil | apply rv_tmp rfl rfl | apply rv_cellH (by assumption) rfl rfl rfl (by repeat (first | exact List.Mem.head _ | apply List.Mem.tail)) rfl)) ?_
    exact SetH.bad (hok.trans hj) (Hp.sub (by assumption) (by repeat (first | exact List.nil_sublist _ | refine List.Sublist.cons_cons _ ?_ | refine List.Sublist.cons _ ?_)))
  · simp only [if_true]
    repeat' (first | refine s_pure tabOk rfl rfl rfl rfl ?_ | refine Stp.imp ?_ | refine aops_nil ?_ | refine aw_reg ?_ | refine aw_seq ?_ | refine s_pass rfl rfl rfl ?_ | refine s_len tabOk rfl rfl rfl rfl ?_ | refine aw_true rfl ?_ | refine aw_false rfl ?_ | refine blk_exit_other rfl ?_ | refine s_arith tabOk rfl rfl rfl rfl (by simp only [InR]; omega) ?_ | ((first | ((fail_if_success refine s_told rfl rfl ?_); refine s_part rfl rfl rfl ?_ ?_) | refine aw_if rfl ?_ ?_) <;> intro hc <;> (first | replace hc := DecT.imp hc | simp only [decs] at hc | skip)) | refine s_index1n tabOk rfl rfl rfl rfl (by omega) ?_ | refine s_indexn tabOk rfl rfl rfl rfl (by omega) ?_ | refine s_index1 tabOk rfl rfl rfl rfl (by omega) (by omega) ?_ | refine sh_load tabOk (by assumption) rfl rfl rfl rfl (by repeat (first | exact List.Mem.head _ | apply List.Mem.tail)) (by rfl) (by rfl) ?_ | refine sh_loada tabOk (by assumption) rfl rfl rfl rfl (by repeat (first | exact List.Mem.head _ | apply List.Mem.tail)) (by rfl) ?_ | (refine sh_box (by assumption) rfl rfl rfl rfl rfl rfl ?_; intro _ _ _) | (refine sh_alloc tabOk (by assumption) rfl rfl rfl rfl rfl rfl ?_; intro _ _ _) | (refine sh_store tabOk (by assumption) rfl rfl rfl rfl rfl rfl (by repeat (first | exact Upd.here | apply Upd.there)) (by rfl) ?_; intro _ _) | (refine sh_lit tabOk (by assumption) rfl rfl rfl rfl rfl rfl rfl rfl rfl rfl rfl ?_; intro _ _ _) | refine sh_build tabOk rfl rfl rfl rfl rfl rfl ?_)
    refine retK_ret tabOk (congrArg Array.toList Try.results53) (by repeat (first | exact rv_nil | apply rv_tmp rfl rfl | apply rv_cellH (by assumption) rfl rfl rfl (by repeat (first | exact List.Mem.head _ | apply List.Mem.tail)) rfl)) ?_
    exact SetH.good (hok.trans hj) (by rw [Int.toNat_natCast]) (Hp.picks (by assumption) (by repeat (first | exact Picks.nil | (apply Picks.cons; (repeat (first | exact Pick.here | apply Pick.there))))))
set_option maxHeartbeats 4000000 in
theorem c_suffices (hB : B ≤ W.heap.size) (hv : RvS W p1 k1 p2 k2 p3 k3 r) (hs : r.small) {v : Value} {days : List (List Int)} (hd : SlII W v days) (hl : days.length + totL days ≤ 1048576) {i : Nat} (hr : rvOk r = true) (hi : i < r.ds.length) {c : Int} (h0 : 0 ≤ c) (h1 : c ≤ 1000000000) :
    ACalls Try.prog B 85 [rvV p1 k1 p2 k2 p3 k3 r, .int .i64 i, v, .int .i64 c] W (fun u W' => u = .tuple #[.bool (daysOk r.ds.length days && enough r i days c), .bool (daysOk r.ds.length days)] ∧ Hp B W W' []) := by
  have H0 : Hp B W W [] := Hp.new hB
  obtain ⟨ad, kd, rfl, -⟩ := hd.form
  obtain ⟨n1, n2, n3, n4⟩ := rvOk_len hr
  obtain ⟨bm, om, rfl, hrm⟩ := SlD.read hv.m (by omega)
  have hsz := setSz_ok hr hi h0 h1
  have hso : setDok r (i : Int) (szD (r.dm.getD i dm0) c) = true := by
    unfold setDok
    rw [hr, Int.toNat_natCast, show rvOk (setD r i (szD (r.dm.getD i dm0) c)) = true from hsz, decide_eq_true (by omega), decide_eq_true (by omega)]
    rfl
  have hsv : setDv r (i : Int) (szD (r.dm.getD i dm0) c) = setSz r i c := by unfold setDv; rw [if_pos hso, Int.toNat_natCast]; rfl
  have hsm : (setSz r i c).small := by
    have := rvOk_len hsz
    exact ⟨by omega, by omega, by omega⟩
  have hro : runOk (setSz r i c) days = daysOk r.ds.length days := by unfold runOk; rw [hsz]; rfl
  have hds : (setSz r i c).ds = r.ds := rfl
  have hws : (setSz r i c).ws = r.ws := rfl
  refine acalls_of Try.func85 rfl Try.ntmps85 (Nat.le_of_ble_eq_true rfl) ?_
  repeat' (first | refine s_pure tabOk rfl rfl rfl rfl ?_ | refine Stp.imp ?_ | refine aops_nil ?_ | refine aw_reg ?_ | refine aw_seq ?_ | refine s_pass rfl rfl rfl ?_ | refine s_len tabOk rfl rfl rfl rfl ?_ | refine aw_true rfl ?_ | refine aw_false rfl ?_ | refine blk_exit_other rfl ?_ | refine s_arith tabOk rfl rfl rfl rfl (by simp only [InR]; omega) ?_ | ((first | ((fail_if_success refine s_told rfl rfl ?_); refine s_part rfl rfl rfl ?_ ?_) | refine aw_if rfl ?_ ?_) <;> intro hc <;> (first | replace hc := DecT.imp hc | simp only [decs] at hc | skip)) | refine s_index1n tabOk rfl rfl rfl rfl (by omega) ?_ | refine s_indexn tabOk rfl rfl rfl rfl (by omega) ?_ | refine s_index1 tabOk rfl rfl rfl rfl (by omega) (by omega) ?_ | refine sh_load tabOk (by assumption) rfl rfl rfl rfl (by repeat (first | exact List.Mem.head _ | apply List.Mem.tail)) (by rfl) (by rfl) ?_ | refine sh_loada tabOk (by assumption) rfl rfl rfl rfl (by repeat (first | exact List.Mem.head _ | apply List.Mem.tail)) (by rfl) ?_ | (refine sh_box (by assumption) rfl rfl rfl rfl rfl rfl ?_; intro _ _ _) | (refine sh_alloc tabOk (by assumption) rfl rfl rfl rfl rfl rfl ?_; intro _ _ _) | (refine sh_store tabOk (by assumption) rfl rfl rfl rfl rfl rfl (by repeat (first | exact Upd.here | apply Upd.there)) (by rfl) ?_; intro _ _) | (refine sh_lit tabOk (by assumption) rfl rfl rfl rfl rfl rfl rfl rfl rfl rfl rfl ?_; intro _ _ _) | refine sh_build tabOk rfl rfl rfl rfl rfl rfl ?_)
  all_goals try (exfalso; omega)
  refine sh_readA tabOk dC_len dm0 rfl rfl rfl rfl (Hp.rd (by assumption) hrm) rfl (by omega) ?_
  repeat' (first | refine s_pure tabOk rfl rfl rfl rfl ?_ | refine Stp.imp ?_ | refine aops_nil ?_ | refine aw_reg ?_ | refine aw_seq ?_ | refine s_pass rfl rfl rfl ?_ | refine s_len tabOk rfl rfl rfl rfl ?_ | refine aw_true rfl ?_ | refine aw_false rfl ?_ | refine blk_exit_other rfl ?_ | refine s_arith tabOk rfl rfl rfl rfl (by simp only [InR]; omega) ?_ | ((first | ((fail_if_success refine s_told rfl rfl ?_); refine s_part rfl rfl rfl ?_ ?_) | refine aw_if rfl ?_ ?_) <;> intro hc <;> (first | replace hc := DecT.imp hc | simp only [decs] at hc | skip)) | refine s_index1n tabOk rfl rfl rfl rfl (by omega) ?_ | refine s_indexn tabOk rfl rfl rfl rfl (by omega) ?_ | refine s_index1 tabOk rfl rfl rfl rfl (by omega) (by omega) ?_ | refine sh_load tabOk (by assumption) rfl rfl rfl rfl (by repeat (first | exact List.Mem.head _ | apply List.Mem.tail)) (by rfl) (by rfl) ?_ | refine sh_loada tabOk (by assumption) rfl rfl rfl rfl (by repeat (first | exact List.Mem.head _ | apply List.Mem.tail)) (by rfl) ?_ | (refine sh_box (by assumption) rfl rfl rfl rfl rfl rfl ?_; intro _ _ _) | (refine sh_alloc tabOk (by assumption) rfl rfl rfl rfl rfl rfl ?_; intro _ _ _) | (refine sh_store tabOk (by assumption) rfl rfl rfl rfl rfl rfl (by repeat (first | exact Upd.here | apply Upd.there)) (by rfl) ?_; intro _ _) | (refine sh_lit tabOk (by assumption) rfl rfl rfl rfl rfl rfl rfl rfl rfl rfl rfl ?_; intro _ _ _) | refine sh_build tabOk rfl rfl rfl rfl rfl rfl ?_)
  refine s_call rfl rfl rfl rfl ent53 (c_impl_SetDam (Hp.size (by assumption)) (Hp.rvA (by assumption) hv) hs (i : Int) (szD (r.dm.getD i dm0) c)) ?_
  rintro _ W5 ⟨q1, j1, q2, j2, q3, j3, rfl, g5⟩
  rw [hso]
  rw [hsv] at g5 ⊢
  have H5 := Hp.call3 (by assumption) g5
  repeat' (first | refine s_pure tabOk rfl rfl rfl rfl ?_ | refine Stp.imp ?_ | refine aops_nil ?_ | refine aw_reg ?_ | refine aw_seq ?_ | refine s_pass rfl rfl rfl ?_ | refine s_len tabOk rfl rfl rfl rfl ?_ | refine aw_true rfl ?_ | refine aw_false rfl ?_ | refine blk_exit_other rfl ?_ | refine s_arith tabOk rfl rfl rfl rfl (by simp only [InR]; omega) ?_ | ((first | ((fail_if_success refine s_told rfl rfl ?_); refine s_part rfl rfl rfl ?_ ?_) | refine aw_if rfl ?_ ?_) <;> intro hc <;> (first | replace hc := DecT.imp hc | simp only [decs] at hc | skip)) | refine s_index1n tabOk rfl rfl rfl rfl (by omega) ?_ | refine s_indexn tabOk rfl rfl rfl rfl (by omega) ?_ | refine s_index1 tabOk rfl rfl rfl rfl (by omega) (by omega) ?_ | refine sh_load tabOk (by assumption) rfl rfl rfl rfl (by repeat (first | exact List.Mem.head _ | apply List.Mem.tail)) (by rfl) (by rfl) ?_ | refine sh_loada tabOk (by assumption) rfl rfl rfl rfl (by repeat (first | exact List.Mem.head _ | apply List.Mem.tail)) (by rfl) ?_ | (refine sh_box (by assumption) rfl rfl rfl rfl rfl rfl ?_; intro _ _ _) | (refine sh_alloc tabOk (by assumption) rfl rfl rfl rfl rfl rfl ?_; intro _ _ _) | (refine sh_store tabOk (by assumption) rfl rfl rfl rfl rfl rfl (by repeat (first | exact Upd.here | apply Upd.there)) (by rfl) ?_; intro _ _) | (refine sh_lit tabOk (by assumption) rfl rfl rfl rfl rfl rfl rfl rfl rfl rfl rfl ?_; intro _ _ _) | refine sh_build tabOk rfl rfl rfl rfl rfl rfl ?_)
  refine s_call rfl rfl rfl rfl ent34 (c_impl_ShortDays (Hp.size (by assumption)) (Hp.rv (by assumption) (by repeat (first | exact List.Mem.head _ | apply List.Mem.tail)) (by repeat (first | exact List.Mem.head _ | apply List.Mem.tail)) (by repeat (first | exact List.Mem.head _ | apply List.Mem.tail))) hsm (Hp.sliiA (by assumption) hd) hl) ?_
  rintro _ W6 ⟨pa, ka, rfl, g6⟩
  have H6 := Hp.call1 (by assumption) g6
  rw [hro]
  cases hk : daysOk r.ds.length days
  · repeat' (first | refine s_pure tabOk rfl rfl rfl rfl ?_ | refine Stp.imp ?_ | refine aops_nil ?_ | refine aw_reg ?_ | refine aw_seq ?_ | refine s_pass rfl rfl rfl ?_ | refine s_len tabOk rfl rfl rfl rfl ?_ | refine aw_true rfl ?_ | refine aw_false rfl ?_ | refine blk_exit_other rfl ?_ | refine s_arith tabOk rfl rfl rfl rfl (by simp only [InR]; omega) ?_ | ((first | ((fail_if_success refine s_told rfl rfl ?_); refine s_part rfl rfl rfl ?_ ?_) | refine aw_if rfl ?_ ?_) <;> intro hc <;> (first | replace hc := DecT.imp hc | simp only [decs] at hc | skip)) | refine s_index1n tabOk rfl rfl rfl rfl (by omega) ?_ | refine s_indexn tabOk rfl rfl rfl rfl (by omega) ?_ | refine s_index1 tabOk rfl rfl rfl rfl (by omega) (by omega) ?_ | refine sh_load tabOk (by assumption) rfl rfl rfl rfl (by repeat (first | exact List.Mem.head _ | apply List.Mem.tail)) (by rfl) (by rfl) ?_ | refine sh_loada tabOk (by assumption) rfl rfl rfl rfl (by repeat (first | exact List.Mem.head _ | apply List.Mem.tail)) (by rfl) ?_ | (refine sh_box (by assumption) rfl rfl rfl rfl rfl rfl ?_; intro _ _ _) | (refine sh_alloc tabOk (by assumption) rfl rfl rfl rfl rfl rfl ?_; intro _ _ _) | (refine sh_store tabOk (by assumption) rfl rfl rfl rfl rfl rfl (by repeat (first | exact Upd.here | apply Upd.there)) (by rfl) ?_; intro _ _) | (refine sh_lit tabOk (by assumption) rfl rfl rfl rfl rfl rfl rfl rfl rfl rfl rfl ?_; intro _ _ _) | refine sh_build tabOk rfl rfl rfl rfl rfl rfl ?_)
    refine retK_ret tabOk (congrArg Array.toList Try.results85) (by repeat (first | exact rv_nil | apply rv_tmp rfl rfl | apply rv_cellH (by assumption) rfl rfl rfl (by repeat (first | exact List.Mem.head _ | apply List.Mem.tail)) rfl)) ?_
    exact ⟨rfl, Hp.sub (by assumption) (by repeat (first | exact List.nil_sublist _ | refine List.Sublist.cons_cons _ ?_ | refine List.Sublist.cons _ ?_))⟩
  have hr2 := hro.trans hk
  have hL := led_I hr2
  have hal := hL.al
  have hsh : shV (setSz r i c) days = shL r.ws (runA (setSz r i c) days) r.ds.length := by unfold shV; rw [if_pos hr2]; rfl
  have hlen := shL_len r.ws (runA (setSz r i c) days) r.ds.length
  have hge := shL_get (ws := r.ws) (xss := runA (setSz r i c) days) hi
  have hen : enough r i days c = decide (shTo r.ws (runA (setSz r i c) days) i (runA (setSz r i c) days).length = 0) := by unfold enough; rw [hal]
  rw [hsh] at H6 ⊢
  generalize shL r.ws (runA (setSz r i c) days) r.ds.length = zs at *
  obtain ⟨bz, rfl⟩ := H6.row_ptr (n := zs.length) (sz := 1) (c := ka) (a := pa) (by repeat (first | exact List.Mem.head _ | apply List.Mem.tail)) (by omega)
  repeat' (first | refine s_pure tabOk rfl rfl rfl rfl ?_ | refine Stp.imp ?_ | refine aops_nil ?_ | refine aw_reg ?_ | refine aw_seq ?_ | refine s_pass rfl rfl rfl ?_ | refine s_len tabOk rfl rfl rfl rfl ?_ | refine aw_true rfl ?_ | refine aw_false rfl ?_ | refine blk_exit_other rfl ?_ | refine s_arith tabOk rfl rfl rfl rfl (by simp only [InR]; omega) ?_ | ((first | ((fail_if_success refine s_told rfl rfl ?_); refine s_part rfl rfl rfl ?_ ?_) | refine aw_if rfl ?_ ?_) <;> intro hc <;> (first | replace hc := DecT.imp hc | simp only [decs] at hc | skip)) | refine s_index1n tabOk rfl rfl rfl rfl (by omega) ?_ | refine s_indexn tabOk rfl rfl rfl rfl (by omega) ?_ | refine s_index1 tabOk rfl rfl rfl rfl (by omega) (by omega) ?_ | refine sh_load tabOk (by assumption) rfl rfl rfl rfl (by repeat (first | exact List.Mem.head _ | apply List.Mem.tail)) (by rfl) (by rfl) ?_ | refine sh_loada tabOk (by assumption) rfl rfl rfl rfl (by repeat (first | exact List.Mem.head _ | apply List.Mem.tail)) (by rfl) ?_ | (refine sh_box (by assumption) rfl rfl rfl rfl rfl rfl ?_; intro _ _ _) | (refine sh_alloc tabOk (by assumption) rfl rfl rfl rfl rfl rfl ?_; intro _ _ _) | (refine sh_store tabOk (by assumption) rfl rfl rfl rfl rfl rfl (by repeat (first | exact Upd.here | apply Upd.there)) (by rfl) ?_; intro _ _) | (refine sh_lit tabOk (by assumption) rfl rfl rfl rfl rfl rfl rfl rfl rfl rfl rfl ?_; intro _ _ _) | refine sh_build tabOk rfl rfl rfl rfl rfl rfl ?_)
  all_goals try (exfalso; omega)
  refine sh_readT tabOk 0 (ys := zs) rfl rfl rfl rfl (Hp.rowRd H6 (n := zs.length) (c := ka) (by repeat (first | exact List.Mem.head _ | apply List.Mem.tail))) (Nat.zero_add _).symm (by omega) ?_
  simp only [Nat.zero_add, hge]
  repeat' (first | refine s_pure tabOk rfl rfl rfl rfl ?_ | refine Stp.imp ?_ | refine aops_nil ?_ | refine aw_reg ?_ | refine aw_seq ?_ | refine s_pass rfl rfl rfl ?_ | refine s_len tabOk rfl rfl rfl rfl ?_ | refine aw_true rfl ?_ | refine aw_false rfl ?_ | refine blk_exit_other rfl ?_ | refine s_arith tabOk rfl rfl rfl rfl (by simp only [InR]; omega) ?_ | ((first | ((fail_if_success refine s_told rfl rfl ?_); refine s_part rfl rfl rfl ?_ ?_) | refine aw_if rfl ?_ ?_) <;> intro hc <;> (first | replace hc := DecT.imp hc | simp only [decs] at hc | skip)) | refine s_index1n tabOk rfl rfl rfl rfl (by omega) ?_ | refine s_indexn tabOk rfl rfl rfl rfl (by omega) ?_ | refine s_index1 tabOk rfl rfl rfl rfl (by omega) (by omega) ?_ | refine sh_load tabOk (by assumption) rfl rfl rfl rfl (by repeat (first | exact List.Mem.head _ | apply List.Mem.tail)) (by rfl) (by rfl) ?_ | refine sh_loada tabOk (by assumption) rfl rfl rfl rfl (by repeat (first | exact List.Mem.head _ | apply List.Mem.tail)) (by rfl) ?_ | (refine sh_box (by assumption) rfl rfl rfl rfl rfl rfl ?_; intro _ _ _) | (refine sh_alloc tabOk (by assumption) rfl rfl rfl rfl rfl rfl ?_; intro _ _ _) | (refine sh_store tabOk (by assumption) rfl rfl rfl rfl rfl rfl (by repeat (first | exact Upd.here | apply Upd.there)) (by rfl) ?_; intro _ _) | (refine sh_lit tabOk (by assumption) rfl rfl rfl rfl rfl rfl rfl rfl rfl rfl rfl ?_; intro _ _ _) | refine sh_build tabOk rfl rfl rfl rfl rfl rfl ?_)
  refine retK_ret tabOk (congrArg Array.toList Try.results85) (by repeat (first | exact rv_nil | apply rv_tmp rfl rfl | apply rv_cellH (by assumption) rfl rfl rfl (by repeat (first | exact List.Mem.head _ | apply List.Mem.tail)) rfl)) ?_
  rw [hen]
  exact ⟨rfl, Hp.sub (by assumption) (by repeat (first | exact List.nil_sublist _ | refine List.Sublist.cons_cons _ ?_ | refine List.Sublist.cons _ ?_))⟩
end
end Go.Proofs.Ytgkmonllkfgbdaa
