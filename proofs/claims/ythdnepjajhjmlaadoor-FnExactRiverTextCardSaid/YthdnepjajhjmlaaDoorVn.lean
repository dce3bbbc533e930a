/- Lists of numbers as texts, both ways. -/
import Derived.Test.YthdnepjajhjmlaaDoorRa
import Derived.Test.YthdnepjajhjmlaaDoorVe
import Derived.Test.YthdnepjajhjmlaaDoorVc
import Derived.Test.YthdnepjajhjmlaaDoorCm
import Derived.Lib.ItoaLen
namespace Go.Proofs.YthdnepjajhjmlaaDoor
set_option linter.unusedSimpArgs false
set_option linter.unusedVariables false
open Go Cn Go.RowKit
/-- texts with a byte between them -/
def catS (c : UInt8) (ws : List ByteArray) : ByteArray := ofL (Lib.join (ws.map (·.data.toList)) [c])
theorem catS_one (c : UInt8) (w : ByteArray) : catS c [w] = w := by
  unfold catS
  simp only [List.map_cons, List.map_nil]
  rw [Lib.join_one]; rfl
theorem joinTail_app (sep : List UInt8) (r : List (List UInt8)) (y : List UInt8) : Lib.joinTail sep (r ++ [y]) = Lib.joinTail sep r ++ (sep ++ y) := by
  simp [Lib.joinTail]
theorem catS_app (c : UInt8) {ws : List ByteArray} (h : ws ≠ []) (w : ByteArray) : catS c (ws ++ [w]) = catS c ws ++ (⟨#[c]⟩ ++ w) := by
  obtain ⟨x, r, rfl⟩ := List.exists_cons_of_ne_nil h
  unfold catS
  apply ByteArray.ext
  apply Array.toList_inj.1
  rw [ByteArray.data_append, Array.toList_append, ByteArray.data_append, Array.toList_append, ofL_data, ofL_data, List.cons_append, List.map_cons, List.map_append, List.map_cons, List.map_nil, List.map_cons, Lib.join_cons, Lib.join_cons, joinTail_app, List.append_assoc]
theorem catS_size (c : UInt8) {m : Nat} : ∀ (ws : List ByteArray), (∀ w ∈ ws, w.size ≤ m) → (catS c ws).size ≤ (m + 1) * ws.length
  | [], _ => by unfold catS; rw [← sz_len, ofL_data]; simp [Lib.join_nil]
  | x :: r, h => by
    have e : ∀ r : List ByteArray, (∀ w ∈ r, w.size ≤ m) → (Lib.joinTail [c] (r.map (·.data.toList))).length ≤ (m + 1) * r.length := by
      intro r
      induction r with
      | nil => intro _; simp [Lib.joinTail]
      | cons y r ih =>
        intro h
        have h1 := ih fun w hw => h w (List.Mem.tail _ hw)
        have h2 := h y (List.Mem.head _)
        rw [← sz_len] at h2
        simp only [Lib.joinTail, List.map_cons, List.flatten_cons, List.length_append, List.length_cons, List.length_nil] at h1 ⊢
        rw [Nat.mul_add]
        omega
    have h1 := e r fun w hw => h w (List.Mem.tail _ hw)
    have h2 := h x (List.Mem.head _)
    rw [← sz_len] at h2
    unfold catS
    rw [← sz_len, ofL_data, List.map_cons, Lib.join_cons, List.length_append, List.length_cons, Nat.mul_add]
    omega
attribute [irreducible] catS
theorem decS_size {n : Int} (h0 : -9223372036854775808 ≤ n) (h1 : n ≤ 9223372036854775807) : 1 ≤ (decS n).size ∧ (decS n).size ≤ 21 := by
  have e : (decS n).size = (Lib.itoa n).length := by unfold decS; rw [← sz_len, ofL_data]
  rw [e]
  refine ⟨?_, Lib.itoa_length_le n h0 h1⟩
  unfold Lib.itoa
  split
  · simp
  · rw [Lib.decDigits_length]; exact Lib.nDigits_pos _
def okN (x : Int) : Bool := decide (-1000000000000000 ≤ x) && decide (x ≤ 1000000000000000)
def isL (xs : List Int) : Bool := decide (xs.length ≤ 64) && xs.all okN
theorem isL_at {xs : List Int} (h : isL xs = true) {i : Nat} (hi : i < xs.length) : -1000000000000000 ≤ xs.getD i 0 ∧ xs.getD i 0 ≤ 1000000000000000 := by
  unfold isL at h
  rw [Bool.and_eq_true] at h
  have := List.all_eq_true.1 h.2 (xs.getD i 0) (by rw [show xs.getD i 0 = xs[i] by simp [List.getD_eq_getElem?_getD, hi]]; exact List.getElem_mem hi)
  unfold okN at this
  simpa using this
/-- a list's text -/
def txtI (xs : List Int) : ByteArray := if xs.length = 0 then ⟨#[110, 111, 110, 101]⟩ else catS 44 (xs.map decS)
theorem txtI_none {xs : List Int} (h : xs.length = 0) : txtI xs = ⟨#[110, 111, 110, 101]⟩ := by unfold txtI; rw [if_pos h]
theorem txtI_some {xs : List Int} (h : xs.length ≠ 0) : txtI xs = catS 44 (xs.map decS) := by unfold txtI; rw [if_neg h]
theorem txtI_size {xs : List Int} (h : isL xs = true) : (txtI xs).size ≤ 1408 := by
  unfold txtI
  split
  · exact Nat.le_of_ble_eq_true rfl
  · have hl : xs.length ≤ 64 := by unfold isL at h; simp at h; exact h.1
    have := catS_size 44 (m := 21) (xs.map decS) (fun w hw => by
      obtain ⟨x, hx, rfl⟩ := List.mem_map.1 hw
      obtain ⟨i, hi, rfl⟩ := List.getElem_of_mem hx
      have := isL_at h hi
      rw [show xs.getD i 0 = xs[i] by simp [List.getD_eq_getElem?_getD, hi]] at this
      exact (decS_size (by omega) (by omega)).2)
    rw [List.length_map] at this
    omega
section
variable {B : Nat} {A W W' : World} {L L' : List Res}
theorem sl_two {xs : Array Value} {a : Option Addr} {n c : Nat} {t : ByteArray} (h : xs.toList.map cv = [.slice a n c, .string t]) : xs = #[.slice a n c, .string t] := by
  obtain ⟨l⟩ := xs
  match l, h with
  | [u, v], h =>
    simp only [List.map_cons, List.map_nil, List.cons.injEq, and_true] at h
    have : u = .slice a n c := by have := h.1; cases u <;> simp_all [cv, c1, cl]
    rw [this, cv_string h.2]
  | [], h => cases h
  | [_], h => simp at h
  | _ :: _ :: _ :: _, h => simp at h
theorem c_Join {v : Value} {ws : List ByteArray} {c : UInt8} (hv : SlV W 1 v ws.length (ws.map .string)) (hl : ws.length ≤ 1048576) {m : Nat} (hm : m ≤ 1000000) (hsz : ∀ w ∈ ws, w.size ≤ m) (hB : B ≤ W.heap.size) :
    ACalls Tryd.prog B 70 [v, .string ⟨#[c]⟩] W (fun r W' => r = .string (catS c ws) ∧ Hp B W W' []) := by
  obtain ⟨a, cp, rfl, hcp⟩ := hv.form
  refine acalls_intro fun xs w h1 h2 h3 => ?_
  subst h2
  rw [sl_two h1]
  by_cases h0 : ws.length = 0
  · have e0 : ws = [] := List.eq_nil_of_length_eq_zero h0
    subst e0
    refine (Tryd.strings_Join_none a cp ⟨#[c]⟩ w).mono fun e w' ⟨he, hw⟩ => ?_
    subst hw
    refine ⟨_, he, h3, ?_, Hp.new hB⟩
    unfold catS
    rw [List.map_nil, Lib.join_nil]; rfl
  · obtain ⟨b, off, rfl, hr⟩ := hv.read (by omega)
    have hcell : ∀ (j : Nat) x, ws[j]? = some x → w.cell? ⟨b, off + j, none⟩ = some (.string x) := by
      intro j x hj
      have hj2 : j < ws.length := by
        rcases Nat.lt_or_ge j ws.length with h | h
        · exact h
        · rw [List.getElem?_eq_none h] at hj; cases hj
      obtain ⟨u, e1, e2⟩ := hr j (by rw [List.length_map]; exact hj2)
      have e3 : (ws.map Value.string).getD j undef = .string x := by
        simp only [List.getD_eq_getElem?_getD, List.getElem?_map, hj]; rfl
      rw [e3] at e2
      rw [cw_cell] at e1
      split at e1
      · rw [e1]; cases u <;> simp_all [cl]
      · cases hq : w.cell? ⟨b, off + j, none⟩ with
        | none => rw [hq] at e1; cases e1
        | some q =>
          rw [hq] at e1
          simp only [Option.map_some, Option.some.injEq] at e1
          subst e1
          cases q <;> simp_all [cl]
    have hbk : b < w.heap.size := by
      obtain ⟨x, hx⟩ : ∃ x, ws[0]? = some x := ⟨ws[0], List.getElem?_eq_getElem (by omega)⟩
      exact World.block_lt_of_cell? _ _ (hcell 0 x hx)
    have hcs := catS_size c ws hsz
    have hln : (Lib.join (ws.map (·.data.toList)) [c]).length ≤ 140737488355328 := by
      unfold catS at hcs
      rw [← sz_len, ofL_data] at hcs
      have : (m + 1) * ws.length ≤ 1000001 * 1048576 := Nat.mul_le_mul (by omega) hl
      omega
    refine (Tryd.strings_Join b off cp ws ⟨#[c]⟩ w hcell hbk (by omega) hcp hln).mono fun e w' ⟨he, hw⟩ => ?_
    refine ⟨_, he, Nat.le_trans h3 hw.size, ?_, ?_⟩
    · unfold catS; rfl
    · have := (Hp.new (B := B) (W := cw B w) (by simpa using h3)).grow (by rw [cw_size]; exact Below.cwB hw)
      exact this
theorem c_isList_1 (x : Int) : ACalls Tryd.prog B 159 [.int .i64 x] W (fun r W' => r = .bool (!okN x) ∧ W' = W) := by
  refine acalls_of Tryd.func159 rfl Tryd.ntmps159 (Nat.le_of_ble_eq_true rfl) ?_
  repeat' (first | refine s_pure tabOk rfl rfl rfl rfl ?_ | refine Stp.imp ?_ | refine aops_nil ?_ | refine aw_reg ?_ | refine aw_seq ?_ | refine s_pass rfl rfl rfl ?_ | refine s_len tabOk rfl rfl rfl rfl ?_ | refine aw_true rfl ?_ | refine aw_false rfl ?_ | refine blk_exit_other rfl ?_ | refine s_arith tabOk rfl rfl rfl rfl (by simp only [InR]; omega) ?_ | ((first | ((fail_if_success refine s_told rfl rfl ?_); refine s_part rfl rfl rfl ?_ ?_) | refine aw_if rfl ?_ ?_) <;> intro hc <;> (first | replace hc := DecT.imp hc | simp only [decs] at hc | skip)) | refine s_index1n tabOk rfl rfl rfl rfl (by omega) ?_ | refine s_indexn tabOk rfl rfl rfl rfl (by omega) ?_ | refine s_index1 tabOk rfl rfl rfl rfl (by omega) (by omega) ?_ | refine sh_load tabOk (by assumption) rfl rfl rfl rfl (by repeat (first | exact List.Mem.head _ | apply List.Mem.tail)) (by rfl) (by rfl) ?_ | refine sh_loada tabOk (by assumption) rfl rfl rfl rfl (by repeat (first | exact List.Mem.head _ | apply List.Mem.tail)) (by rfl) ?_ | (refine sh_box (by assumption) rfl rfl rfl rfl rfl rfl ?_; intro _ _ _) | (refine sh_alloc tabOk (by assumption) rfl rfl rfl rfl rfl rfl ?_; intro _ _ _) | (refine sh_store tabOk (by assumption) rfl rfl rfl rfl rfl rfl (by repeat (first | exact Upd.here | apply Upd.there)) (by rfl) ?_; intro _ _) | (refine sh_lit tabOk (by assumption) rfl rfl rfl rfl rfl rfl rfl rfl rfl rfl rfl ?_; intro _ _ _) | refine sh_build tabOk rfl rfl rfl rfl rfl rfl ?_)
  refine s_call rfl rfl rfl rfl ent112 (c_impl_within _ _ _) ?_
  rintro _ _ ⟨rfl, rfl⟩
  repeat' (first | refine s_pure tabOk rfl rfl rfl rfl ?_ | refine Stp.imp ?_ | refine aops_nil ?_ | refine aw_reg ?_ | refine aw_seq ?_ | refine s_pass rfl rfl rfl ?_ | refine s_len tabOk rfl rfl rfl rfl ?_ | refine aw_true rfl ?_ | refine aw_false rfl ?_ | refine blk_exit_other rfl ?_ | refine s_arith tabOk rfl rfl rfl rfl (by simp only [InR]; omega) ?_ | ((first | ((fail_if_success refine s_told rfl rfl ?_); refine s_part rfl rfl rfl ?_ ?_) | refine aw_if rfl ?_ ?_) <;> intro hc <;> (first | replace hc := DecT.imp hc | simp only [decs] at hc | skip)) | refine s_index1n tabOk rfl rfl rfl rfl (by omega) ?_ | refine s_indexn tabOk rfl rfl rfl rfl (by omega) ?_ | refine s_index1 tabOk rfl rfl rfl rfl (by omega) (by omega) ?_ | refine sh_load tabOk (by assumption) rfl rfl rfl rfl (by repeat (first | exact List.Mem.head _ | apply List.Mem.tail)) (by rfl) (by rfl) ?_ | refine sh_loada tabOk (by assumption) rfl rfl rfl rfl (by repeat (first | exact List.Mem.head _ | apply List.Mem.tail)) (by rfl) ?_ | (refine sh_box (by assumption) rfl rfl rfl rfl rfl rfl ?_; intro _ _ _) | (refine sh_alloc tabOk (by assumption) rfl rfl rfl rfl rfl rfl ?_; intro _ _ _) | (refine sh_store tabOk (by assumption) rfl rfl rfl rfl rfl rfl (by repeat (first | exact Upd.here | apply Upd.there)) (by rfl) ?_; intro _ _) | (refine sh_lit tabOk (by assumption) rfl rfl rfl rfl rfl rfl rfl rfl rfl rfl rfl ?_; intro _ _ _) | refine sh_build tabOk rfl rfl rfl rfl rfl rfl ?_)
  refine retK_ret tabOk (congrArg Array.toList Tryd.results159) (rv_tmp rfl rfl rv_nil) ?_
  exact ⟨rfl, rfl⟩
theorem c_IndexFuncN {v : Value} {xs : List Int} (hv : SlI W v xs) (hl : xs.length ≤ 1048576) {g : FuncId} (hE : Ent Tryd.prog g) {p : Int → Bool} (hp : ∀ x, ACalls Tryd.prog B g [.int .i64 x] W (fun r W' => r = .bool (p x) ∧ W' = W)) :
    ACalls Tryd.prog B 172 [v, .func (.func g) #[] #[]] W (fun r W' => r = .int .i64 (idxI p xs) ∧ W' = W) := by
  obtain ⟨a, c, rfl, hac⟩ := hv.form
  refine acalls_of Tryd.func172 rfl Tryd.ntmps172 (Nat.le_of_ble_eq_true rfl) ?_
  repeat' (first | refine s_pure tabOk rfl rfl rfl rfl ?_ | refine Stp.imp ?_ | refine aops_nil ?_ | refine aw_reg ?_ | refine aw_seq ?_ | refine s_pass rfl rfl rfl ?_ | refine s_len tabOk rfl rfl rfl rfl ?_ | refine aw_true rfl ?_ | refine aw_false rfl ?_ | refine blk_exit_other rfl ?_ | refine s_arith tabOk rfl rfl rfl rfl (by simp only [InR]; omega) ?_ | ((first | ((fail_if_success refine s_told rfl rfl ?_); refine s_part rfl rfl rfl ?_ ?_) | refine aw_if rfl ?_ ?_) <;> intro hc <;> (first | replace hc := DecT.imp hc | simp only [decs] at hc | skip)) | refine s_index1n tabOk rfl rfl rfl rfl (by omega) ?_ | refine s_indexn tabOk rfl rfl rfl rfl (by omega) ?_ | refine s_index1 tabOk rfl rfl rfl rfl (by omega) (by omega) ?_ | refine sh_load tabOk (by assumption) rfl rfl rfl rfl (by repeat (first | exact List.Mem.head _ | apply List.Mem.tail)) (by rfl) (by rfl) ?_ | refine sh_loada tabOk (by assumption) rfl rfl rfl rfl (by repeat (first | exact List.Mem.head _ | apply List.Mem.tail)) (by rfl) ?_ | (refine sh_box (by assumption) rfl rfl rfl rfl rfl rfl ?_; intro _ _ _) | (refine sh_alloc tabOk (by assumption) rfl rfl rfl rfl rfl rfl ?_; intro _ _ _) | (refine sh_store tabOk (by assumption) rfl rfl rfl rfl rfl rfl (by repeat (first | exact Upd.here | apply Upd.there)) (by rfl) ?_; intro _ _) | (refine sh_lit tabOk (by assumption) rfl rfl rfl rfl rfl rfl rfl rfl rfl rfl rfl ?_; intro _ _ _) | refine sh_build tabOk rfl rfl rfl rfl rfl rfl ?_)
  refine aw_loop (fun i : Nat => [(8, .int .i64 i), (7, .int .i64 xs.length), (0, .slice a xs.length c), (1, .func (.func g) #[] #[])]) (fun _ => W)
      (fun i => i ≤ xs.length ∧ ∀ j, j < i → p (xs.getD j 0) = false) (fun i => xs.length - i) 0 ⟨by omega, by omega⟩ (by repeat (first | exact less_nil | refine less_cons rfl ?_)) rfl ?_
  rintro i ⟨hi, hall⟩
  repeat' (first | refine s_pure tabOk rfl rfl rfl rfl ?_ | refine Stp.imp ?_ | refine aops_nil ?_ | refine aw_reg ?_ | refine aw_seq ?_ | refine s_pass rfl rfl rfl ?_ | refine s_len tabOk rfl rfl rfl rfl ?_ | refine aw_true rfl ?_ | refine aw_false rfl ?_ | refine blk_exit_other rfl ?_ | refine s_arith tabOk rfl rfl rfl rfl (by simp only [InR]; omega) ?_ | ((first | ((fail_if_success refine s_told rfl rfl ?_); refine s_part rfl rfl rfl ?_ ?_) | refine aw_if rfl ?_ ?_) <;> intro hc <;> (first | replace hc := DecT.imp hc | simp only [decs] at hc | skip)) | refine s_index1n tabOk rfl rfl rfl rfl (by omega) ?_ | refine s_indexn tabOk rfl rfl rfl rfl (by omega) ?_ | refine s_index1 tabOk rfl rfl rfl rfl (by omega) (by omega) ?_ | refine sh_load tabOk (by assumption) rfl rfl rfl rfl (by repeat (first | exact List.Mem.head _ | apply List.Mem.tail)) (by rfl) (by rfl) ?_ | refine sh_loada tabOk (by assumption) rfl rfl rfl rfl (by repeat (first | exact List.Mem.head _ | apply List.Mem.tail)) (by rfl) ?_ | (refine sh_box (by assumption) rfl rfl rfl rfl rfl rfl ?_; intro _ _ _) | (refine sh_alloc tabOk (by assumption) rfl rfl rfl rfl rfl rfl ?_; intro _ _ _) | (refine sh_store tabOk (by assumption) rfl rfl rfl rfl rfl rfl (by repeat (first | exact Upd.here | apply Upd.there)) (by rfl) ?_; intro _ _) | (refine sh_lit tabOk (by assumption) rfl rfl rfl rfl rfl rfl rfl rfl rfl rfl rfl ?_; intro _ _ _) | refine sh_build tabOk rfl rfl rfl rfl rfl rfl ?_)
  all_goals try (exfalso; omega)
  · obtain ⟨b, off, rfl, hr⟩ := hv.read (by omega)
    repeat' (first | refine s_pure tabOk rfl rfl rfl rfl ?_ | refine Stp.imp ?_ | refine aops_nil ?_ | refine aw_reg ?_ | refine aw_seq ?_ | refine s_pass rfl rfl rfl ?_ | refine s_len tabOk rfl rfl rfl rfl ?_ | refine aw_true rfl ?_ | refine aw_false rfl ?_ | refine blk_exit_other rfl ?_ | refine s_arith tabOk rfl rfl rfl rfl (by simp only [InR]; omega) ?_ | ((first | ((fail_if_success refine s_told rfl rfl ?_); refine s_part rfl rfl rfl ?_ ?_) | refine aw_if rfl ?_ ?_) <;> intro hc <;> (first | replace hc := DecT.imp hc | simp only [decs] at hc | skip)) | refine s_index1n tabOk rfl rfl rfl rfl (by omega) ?_ | refine s_indexn tabOk rfl rfl rfl rfl (by omega) ?_ | refine s_index1 tabOk rfl rfl rfl rfl (by omega) (by omega) ?_ | refine sh_load tabOk (by assumption) rfl rfl rfl rfl (by repeat (first | exact List.Mem.head _ | apply List.Mem.tail)) (by rfl) (by rfl) ?_ | refine sh_loada tabOk (by assumption) rfl rfl rfl rfl (by repeat (first | exact List.Mem.head _ | apply List.Mem.tail)) (by rfl) ?_ | (refine sh_box (by assumption) rfl rfl rfl rfl rfl rfl ?_; intro _ _ _) | (refine sh_alloc tabOk (by assumption) rfl rfl rfl rfl rfl rfl ?_; intro _ _ _) | (refine sh_store tabOk (by assumption) rfl rfl rfl rfl rfl rfl (by repeat (first | exact Upd.here | apply Upd.there)) (by rfl) ?_; intro _ _) | (refine sh_lit tabOk (by assumption) rfl rfl rfl rfl rfl rfl rfl rfl rfl rfl rfl ?_; intro _ _ _) | refine sh_build tabOk rfl rfl rfl rfl rfl rfl ?_)
    refine sh_readT tabOk 0 rfl rfl rfl rfl hr rfl (by omega) ?_
    refine s_call rfl rfl rfl rfl hE (hp _) ?_
    rintro _ _ ⟨rfl, rfl⟩
    repeat' (first | refine s_pure tabOk rfl rfl rfl rfl ?_ | refine Stp.imp ?_ | refine aops_nil ?_ | refine aw_reg ?_ | refine aw_seq ?_ | refine s_pass rfl rfl rfl ?_ | refine s_len tabOk rfl rfl rfl rfl ?_ | refine aw_true rfl ?_ | refine aw_false rfl ?_ | refine blk_exit_other rfl ?_ | refine s_arith tabOk rfl rfl rfl rfl (by simp only [InR]; omega) ?_ | ((first | ((fail_if_success refine s_told rfl rfl ?_); refine s_part rfl rfl rfl ?_ ?_) | refine aw_if rfl ?_ ?_) <;> intro hc <;> (first | replace hc := DecT.imp hc | simp only [decs] at hc | skip)) | refine s_index1n tabOk rfl rfl rfl rfl (by omega) ?_ | refine s_indexn tabOk rfl rfl rfl rfl (by omega) ?_ | refine s_index1 tabOk rfl rfl rfl rfl (by omega) (by omega) ?_ | refine sh_load tabOk (by assumption) rfl rfl rfl rfl (by repeat (first | exact List.Mem.head _ | apply List.Mem.tail)) (by rfl) (by rfl) ?_ | refine sh_loada tabOk (by assumption) rfl rfl rfl rfl (by repeat (first | exact List.Mem.head _ | apply List.Mem.tail)) (by rfl) ?_ | (refine sh_box (by assumption) rfl rfl rfl rfl rfl rfl ?_; intro _ _ _) | (refine sh_alloc tabOk (by assumption) rfl rfl rfl rfl rfl rfl ?_; intro _ _ _) | (refine sh_store tabOk (by assumption) rfl rfl rfl rfl rfl rfl (by repeat (first | exact Upd.here | apply Upd.there)) (by rfl) ?_; intro _ _) | (refine sh_lit tabOk (by assumption) rfl rfl rfl rfl rfl rfl rfl rfl rfl rfl rfl ?_; intro _ _ _) | refine sh_build tabOk rfl rfl rfl rfl rfl rfl ?_)
    · refine retK_ret tabOk (congrArg Array.toList Tryd.results172) (rv_tmp rfl rfl rv_nil) ?_
      exact ⟨by rw [idxI_some (i := i) (by omega) hc hall]; rfl, rfl⟩
    · refine rnd_next (i + 1) ⟨by omega, ?_⟩ (by omega) (by repeat (first | exact less_nil | refine less_cons rfl ?_)) rfl
      intro j hj
      by_cases e : j = i
      · subst e; exact hc
      · exact hall j (by omega)
  · refine retK_ret tabOk (congrArg Array.toList Tryd.results172) (rv_tmp rfl rfl rv_nil) ?_
    exact ⟨by rw [idxI_none (fun j hj => hall j (by omega))]; rfl, rfl⟩
theorem c_ContainsFuncN {v : Value} {xs : List Int} (hv : SlI W v xs) (hl : xs.length ≤ 1048576) {g : FuncId} (hE : Ent Tryd.prog g) {p : Int → Bool} (hp : ∀ x, ACalls Tryd.prog B g [.int .i64 x] W (fun r W' => r = .bool (p x) ∧ W' = W)) :
    ACalls Tryd.prog B 142 [v, .func (.func g) #[] #[]] W (fun r W' => r = .bool (xs.any p) ∧ W' = W) := by
  refine acalls_of Tryd.func142 rfl Tryd.ntmps142 (Nat.le_of_ble_eq_true rfl) ?_
  repeat' (first | refine s_pure tabOk rfl rfl rfl rfl ?_ | refine Stp.imp ?_ | refine aops_nil ?_ | refine aw_reg ?_ | refine aw_seq ?_ | refine s_pass rfl rfl rfl ?_ | refine s_len tabOk rfl rfl rfl rfl ?_ | refine aw_true rfl ?_ | refine aw_false rfl ?_ | refine blk_exit_other rfl ?_ | refine s_arith tabOk rfl rfl rfl rfl (by simp only [InR]; omega) ?_ | ((first | ((fail_if_success refine s_told rfl rfl ?_); refine s_part rfl rfl rfl ?_ ?_) | refine aw_if rfl ?_ ?_) <;> intro hc <;> (first | replace hc := DecT.imp hc | simp only [decs] at hc | skip)) | refine s_index1n tabOk rfl rfl rfl rfl (by omega) ?_ | refine s_indexn tabOk rfl rfl rfl rfl (by omega) ?_ | refine s_index1 tabOk rfl rfl rfl rfl (by omega) (by omega) ?_ | refine sh_load tabOk (by assumption) rfl rfl rfl rfl (by repeat (first | exact List.Mem.head _ | apply List.Mem.tail)) (by rfl) (by rfl) ?_ | refine sh_loada tabOk (by assumption) rfl rfl rfl rfl (by repeat (first | exact List.Mem.head _ | apply List.Mem.tail)) (by rfl) ?_ | (refine sh_box (by assumption) rfl rfl rfl rfl rfl rfl ?_; intro _ _ _) | (refine sh_alloc tabOk (by assumption) rfl rfl rfl rfl rfl rfl ?_; intro _ _ _) | (refine sh_store tabOk (by assumption) rfl rfl rfl rfl rfl rfl (by repeat (first | exact Upd.here | apply Upd.there)) (by rfl) ?_; intro _ _) | (refine sh_lit tabOk (by assumption) rfl rfl rfl rfl rfl rfl rfl rfl rfl rfl rfl ?_; intro _ _ _) | refine sh_build tabOk rfl rfl rfl rfl rfl rfl ?_)
  refine s_call rfl rfl rfl rfl ent172 (c_IndexFuncN hv hl hE hp) ?_
  rintro _ _ ⟨rfl, rfl⟩
  repeat' (first | refine s_pure tabOk rfl rfl rfl rfl ?_ | refine Stp.imp ?_ | refine aops_nil ?_ | refine aw_reg ?_ | refine aw_seq ?_ | refine s_pass rfl rfl rfl ?_ | refine s_len tabOk rfl rfl rfl rfl ?_ | refine aw_true rfl ?_ | refine aw_false rfl ?_ | refine blk_exit_other rfl ?_ | refine s_arith tabOk rfl rfl rfl rfl (by simp only [InR]; omega) ?_ | ((first | ((fail_if_success refine s_told rfl rfl ?_); refine s_part rfl rfl rfl ?_ ?_) | refine aw_if rfl ?_ ?_) <;> intro hc <;> (first | replace hc := DecT.imp hc | simp only [decs] at hc | skip)) | refine s_index1n tabOk rfl rfl rfl rfl (by omega) ?_ | refine s_indexn tabOk rfl rfl rfl rfl (by omega) ?_ | refine s_index1 tabOk rfl rfl rfl rfl (by omega) (by omega) ?_ | refine sh_load tabOk (by assumption) rfl rfl rfl rfl (by repeat (first | exact List.Mem.head _ | apply List.Mem.tail)) (by rfl) (by rfl) ?_ | refine sh_loada tabOk (by assumption) rfl rfl rfl rfl (by repeat (first | exact List.Mem.head _ | apply List.Mem.tail)) (by rfl) ?_ | (refine sh_box (by assumption) rfl rfl rfl rfl rfl rfl ?_; intro _ _ _) | (refine sh_alloc tabOk (by assumption) rfl rfl rfl rfl rfl rfl ?_; intro _ _ _) | (refine sh_store tabOk (by assumption) rfl rfl rfl rfl rfl rfl (by repeat (first | exact Upd.here | apply Upd.there)) (by rfl) ?_; intro _ _) | (refine sh_lit tabOk (by assumption) rfl rfl rfl rfl rfl rfl rfl rfl rfl rfl rfl ?_; intro _ _ _) | refine sh_build tabOk rfl rfl rfl rfl rfl rfl ?_)
  refine retK_ret tabOk (congrArg Array.toList Tryd.results142) (rv_tmp rfl rfl rv_nil) ?_
  exact ⟨by rw [idxI_any]; rfl, rfl⟩
theorem c_isList {v : Value} {xs : List Int} (hv : SlI W v xs) (hl : xs.length ≤ 1048576) :
    ACalls Tryd.prog B 134 [v] W (fun r W' => r = .bool (isL xs) ∧ W' = W) := by
  obtain ⟨a, c, rfl, -⟩ := hv.form
  refine acalls_of Tryd.func134 rfl Tryd.ntmps134 (Nat.le_of_ble_eq_true rfl) ?_
  repeat' (first | refine s_pure tabOk rfl rfl rfl rfl ?_ | refine Stp.imp ?_ | refine aops_nil ?_ | refine aw_reg ?_ | refine aw_seq ?_ | refine s_pass rfl rfl rfl ?_ | refine s_len tabOk rfl rfl rfl rfl ?_ | refine aw_true rfl ?_ | refine aw_false rfl ?_ | refine blk_exit_other rfl ?_ | refine s_arith tabOk rfl rfl rfl rfl (by simp only [InR]; omega) ?_ | ((first | ((fail_if_success refine s_told rfl rfl ?_); refine s_part rfl rfl rfl ?_ ?_) | refine aw_if rfl ?_ ?_) <;> intro hc <;> (first | replace hc := DecT.imp hc | simp only [decs] at hc | skip)) | refine s_index1n tabOk rfl rfl rfl rfl (by omega) ?_ | refine s_indexn tabOk rfl rfl rfl rfl (by omega) ?_ | refine s_index1 tabOk rfl rfl rfl rfl (by omega) (by omega) ?_ | refine sh_load tabOk (by assumption) rfl rfl rfl rfl (by repeat (first | exact List.Mem.head _ | apply List.Mem.tail)) (by rfl) (by rfl) ?_ | refine sh_loada tabOk (by assumption) rfl rfl rfl rfl (by repeat (first | exact List.Mem.head _ | apply List.Mem.tail)) (by rfl) ?_ | (refine sh_box (by assumption) rfl rfl rfl rfl rfl rfl ?_; intro _ _ _) | (refine sh_alloc tabOk (by assumption) rfl rfl rfl rfl rfl rfl ?_; intro _ _ _) | (refine sh_store tabOk (by assumption) rfl rfl rfl rfl rfl rfl (by repeat (first | exact Upd.here | apply Upd.there)) (by rfl) ?_; intro _ _) | (refine sh_lit tabOk (by assumption) rfl rfl rfl rfl rfl rfl rfl rfl rfl rfl rfl ?_; intro _ _ _) | refine sh_build tabOk rfl rfl rfl rfl rfl rfl ?_)
  · refine s_call rfl rfl rfl rfl ent142 (c_ContainsFuncN hv hl ent159 c_isList_1) ?_
    rintro _ _ ⟨rfl, rfl⟩
    repeat' (first | refine s_pure tabOk rfl rfl rfl rfl ?_ | refine Stp.imp ?_ | refine aops_nil ?_ | refine aw_reg ?_ | refine aw_seq ?_ | refine s_pass rfl rfl rfl ?_ | refine s_len tabOk rfl rfl rfl rfl ?_ | refine aw_true rfl ?_ | refine aw_false rfl ?_ | refine blk_exit_other rfl ?_ | refine s_arith tabOk rfl rfl rfl rfl (by simp only [InR]; omega) ?_ | ((first | ((fail_if_success refine s_told rfl rfl ?_); refine s_part rfl rfl rfl ?_ ?_) | refine aw_if rfl ?_ ?_) <;> intro hc <;> (first | replace hc := DecT.imp hc | simp only [decs] at hc | skip)) | refine s_index1n tabOk rfl rfl rfl rfl (by omega) ?_ | refine s_indexn tabOk rfl rfl rfl rfl (by omega) ?_ | refine s_index1 tabOk rfl rfl rfl rfl (by omega) (by omega) ?_ | refine sh_load tabOk (by assumption) rfl rfl rfl rfl (by repeat (first | exact List.Mem.head _ | apply List.Mem.tail)) (by rfl) (by rfl) ?_ | refine sh_loada tabOk (by assumption) rfl rfl rfl rfl (by repeat (first | exact List.Mem.head _ | apply List.Mem.tail)) (by rfl) ?_ | (refine sh_box (by assumption) rfl rfl rfl rfl rfl rfl ?_; intro _ _ _) | (refine sh_alloc tabOk (by assumption) rfl rfl rfl rfl rfl rfl ?_; intro _ _ _) | (refine sh_store tabOk (by assumption) rfl rfl rfl rfl rfl rfl (by repeat (first | exact Upd.here | apply Upd.there)) (by rfl) ?_; intro _ _) | (refine sh_lit tabOk (by assumption) rfl rfl rfl rfl rfl rfl rfl rfl rfl rfl rfl ?_; intro _ _ _) | refine sh_build tabOk rfl rfl rfl rfl rfl rfl ?_)
    refine retK_ret tabOk (congrArg Array.toList Tryd.results134) (rv_tmp rfl rfl rv_nil) ?_
    refine ⟨?_, rfl⟩
    unfold isL
    rw [decide_eq_true (by omega), Bool.true_and, List.all_eq_not_any_not]
    rfl
  · refine retK_ret tabOk (congrArg Array.toList Tryd.results134) (rv_tmp rfl rfl rv_nil) ?_
    refine ⟨?_, rfl⟩
    unfold isL
    rw [decide_eq_false (by omega)]; rfl
end
end Go.Proofs.YthdnepjajhjmlaaDoor
