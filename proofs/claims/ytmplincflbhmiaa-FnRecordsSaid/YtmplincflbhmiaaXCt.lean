/- Texts put together; the text of a number, as the laws write it. -/
import Derived.Test.YtmplincflbhmiaaXFa
import Derived.Test.YtmplincflbhmiaaCn12
import Derived.Test.YtmplincflbhmiaaXFq
import Derived.Laws.Concat
namespace Go.Proofs.Ytmplincflbhmiaa
set_option linter.unusedSimpArgs false
set_option linter.unusedVariables false
open Go Cn Go.RowKit
section
variable {P : Program} {N B : Nat} {E : Env} {W : World} {ops : Array Oper} {K : Exit → Env → World → Prop} {T : Tab} {o : Oper}
def evCs (T : Tab) (E : Env) (o : Oper) : Option (ByteArray × Int × Int) :=
  match o.op with
  | .slice t x lo hi none => match T.at t with
    | some ⟨.string, _, _, _⟩ => match ev E x with
      | some (.string s) => match lo with
        | some lo => match ev E lo with
          | some (.int _ l) => match hi with
            | some hi => match ev E hi with
              | some (.int _ h) => some (s, l, h)
              | _ => none
            | none => some (s, l, s.size)
          | _ => none
        | none => match hi with
          | some hi => match ev E hi with
            | some (.int _ h) => some (s, 0, h)
            | _ => none
          | none => none
      | _ => none
    | _ => none
  | _ => none
theorem gives_cutS (hT : TabOk P T) {s : ByteArray} {l h : Int} (hv : evCs T E o = some (s, l, h)) (h0 : 0 ≤ l) (h1 : l ≤ h) (h2 : h ≤ s.size) : Gives P N B o E W (.string (s.extract l.toNat h.toNat)) W := by
  refine gives_of fun ac w ha hw hB => ⟨.string (s.extract l.toNat h.toNat), w, ?_, rfl, rfl⟩
  unfold evCs at hv
  split at hv
  · rename_i t x lo hi hop
    split at hv
    · rename_i s1 b1 z1 ht
      obtain ⟨hu, -⟩ := hT _ _ ht
      simp only at hu
      split at hv
      · rename_i s' hx
        have e1 := cv_string (ev_sound ha hx)
        split at hv
        · rename_i lo'
          split at hv
          · rename_i kl l' hl
            have e2 := cv_int (ev_sound ha hl)
            split at hv
            · rename_i hi'
              split at hv
              · rename_i kh h' hh
                have e3 := cv_int (ev_sound ha hh)
                cases hv
                simp only [execOp, hop, e1, Option.map_some, e2, e3, Option.map_none]
                refine run_v ?_
                rw [run_sliceAt_string w t _ _ _ _ hu]
                have eh : (h.toNat : Int) = h := Int.toNat_of_nonneg (by omega)
                simp [Instr.slice, run_underlying hu, Instr.sliceBounds, run_sliceBound, sliced, h0, h1, h2, eh, (by omega : 0 ≤ h)]
              · cases hv
            · cases hv
              simp only [execOp, hop, e1, Option.map_some, e2, Option.map_none]
              refine run_v ?_
              rw [run_sliceAt_string w t _ _ _ _ hu, run_slice_string_l w t s hu kl l h0 (by omega)]
              rfl
          · cases hv
        · split at hv
          · rename_i hi'
            split at hv
            · rename_i kh h' hh
              have e3 := cv_int (ev_sound ha hh)
              cases hv
              simp only [execOp, hop, e1, Option.map_some, e3, Option.map_none]
              refine run_v ?_
              rw [run_sliceAt_string w t _ _ _ _ hu, run_slice_string_h w t s hu kh h (by omega) h2]
              rfl
            · cases hv
          · cases hv
      · cases hv
    · cases hv
  · cases hv
theorem s_cutS (hT : TabOk P T) {i : Nat} {rest : List Nat} {d : Nat} {op : Op} {ty : TypeId} {pos : String} {aft : Array Edge} {g : Option (Nat × Bool)} {s : ByteArray} {l h : Int} (ho : getL ops.toList i = some ⟨some d, op, ty, pos, aft, g⟩) (hg : guardE ops ⟨some d, op, ty, pos, aft, g⟩ E = some true) (hd : Nat.ble (d + 1) N = true)
    (hv : evCs T E ⟨some d, op, ty, pos, aft, g⟩ = some (s, l, h)) (h0 : 0 ≤ l) (h1 : l ≤ h) (h2 : h ≤ s.size) (k : AOps P N B ops rest K ((d, .string (s.extract l.toNat h.toNat)) :: E) W) : AOps P N B ops (i :: rest) K E W :=
  aops_gives (getL_ok ho) hg hd (gives_cutS hT hv h0 h1 h2) k
end
theorem extract_size {s : ByteArray} {i j : Nat} (h : j ≤ s.size) : (s.extract i j).size = j - i := by
  rw [ByteArray.size_extract]; omega
theorem bt_extract {s : ByteArray} {i j k : Nat} (h : j ≤ s.size) (hk : i + k < j) : bt (s.extract i j) k = bt s (i + k) := by
  unfold bt
  rw [ByteArray.data_extract, Array.toList_extract]
  simp only [List.extract_eq_take_drop, List.getElem?_take, List.getElem?_drop]
  rw [if_pos (by omega)]
theorem bsLoop (bs : ByteArray) : ∀ (n i : Nat) (r : List UInt8), n = bs.size - i → ByteArray.toList.loop bs i r = r.reverse ++ bs.data.toList.drop i := by
  have hl : bs.data.toList.length = bs.size := Array.length_toList
  intro n
  induction n with
  | zero =>
    intro i r h
    unfold ByteArray.toList.loop
    rw [if_neg (by omega)]
    have : bs.data.toList.drop i = [] := List.drop_eq_nil_of_le (by omega)
    rw [this, List.append_nil]
  | succ n ih =>
    intro i r h
    unfold ByteArray.toList.loop
    rw [if_pos (by omega), ih (i + 1) _ (by omega)]
    have hi : i < bs.data.toList.length := by omega
    have hi2 : i < bs.data.size := by omega
    rw [List.drop_eq_getElem_cons hi]
    have : bs.get! i = bs.data.toList[i] := by
      show bs.data[i]! = _
      rw [getElem!_pos bs.data i hi2, Array.getElem_toList]
    rw [this, List.reverse_cons, List.append_assoc]
    rfl
theorem bsList (bs : ByteArray) : bs.toList = bs.data.toList := by
  unfold ByteArray.toList
  rw [bsLoop bs _ 0 [] rfl]; rfl
theorem bs_eq {a b : ByteArray} : a.toList = b.toList ↔ a = b := by
  rw [bsList, bsList]
  constructor
  · intro h
    cases a; cases b
    congr 1
    exact Array.toList_inj.1 h
  · rintro rfl; rfl
end Go.Proofs.Ytmplincflbhmiaa
namespace Go.Proofs.Ytmplincflbhmiaa
set_option linter.unusedSimpArgs false
set_option linter.unusedVariables false
open Go Cn Go.RowKit
def chk (n : Int) (s : ByteArray) : Nat → Int
  | 0 => n
  | i + 1 => (827 * chk n s i + bt s i + 127) % 65003
theorem chk_zero (n : Int) (s : ByteArray) : chk n s 0 = n := rfl
theorem chk_succ (n : Int) (s : ByteArray) (i : Nat) : chk n s (i + 1) = (827 * chk n s i + bt s i + 127) % 65003 := rfl
theorem chk_range {n : Int} {s : ByteArray} (hn : 0 ≤ n ∧ n < 65003) : ∀ i, 0 ≤ chk n s i ∧ chk n s i < 65003
  | 0 => hn
  | i + 1 => by rw [chk_succ]; omega
attribute [irreducible] chk
section
variable {P : Program} {N B : Nat} {E : Env} {W : World} {ops : Array Oper} {K : Exit → Env → World → Prop} {T : Tab}
theorem s_wrap (hT : TabOk P T) {i : Nat} {rest : List Nat} {d : Nat} {op : Op} {ty : TypeId} {pos : String} {aft : Array Edge} {g : Option (Nat × Bool)} {k : IntKind} {z : Int} (ho : getL ops.toList i = some ⟨some d, op, ty, pos, aft, g⟩) (hg : guardE ops ⟨some d, op, ty, pos, aft, g⟩ E = some true) (hd : Nat.ble (d + 1) N = true)
    (hv : evA T E ⟨some d, op, ty, pos, aft, g⟩ = some (k, z)) (h : AOps P N B ops rest K ((d, .int k (k.wrap z)) :: E) W) : AOps P N B ops (i :: rest) K E W :=
  aops_gives (getL_ok ho) hg hd (gives_evA hT hv) h
theorem wrap_u8 (n : Int) : IntKind.u8.wrap n = n % 256 := by
  simp [IntKind.wrap, IntKind.signed, IntKind.bits]
end
section
variable {B : Nat} {W : World}
theorem c_impl_check {s : ByteArray} {n : Int} (hn : 0 ≤ n ∧ n < 65003) (hs : s.size ≤ 1048576) : ACalls Try.prog B 97 [.int .i64 n, .string s] W (fun r W' => r = .int .i64 (chk n s s.size) ∧ W' = W) := by
  refine acalls_of Try.func97 rfl Try.ntmps97 (Nat.le_of_ble_eq_true rfl) ?_
  repeat' (first
      | refine s_pure tabOk rfl rfl rfl rfl ?_
      | refine aops_nil ?_
      | refine thn_normal ?_
      | refine aw_seq ?_
      | refine aw_reg ?_
      | refine s_pass rfl rfl rfl ?_
      | refine s_len tabOk rfl rfl rfl rfl ?_
      | refine aw_true rfl ?_
      | refine aw_false rfl ?_
      | refine aw_block ?_
      | refine aw_skip ?_
      | refine aw_exit ?_
      | refine blk_exit ?_
      | refine blk_exit_other rfl ?_
      | refine blk_normal ?_
      | refine thn_exit ?_
      | refine thn_ret ?_
      | refine blk_ret ?_
      | refine rnd_ret ?_
      | refine rnd_exit ?_
      | refine aw_ret ?_
      | refine s_arith tabOk rfl rfl rfl rfl (by simp only [InR]; omega) ?_
      | ((fail_if_success refine s_told rfl rfl ?_); refine s_part rfl rfl rfl ?_ ?_ <;> intro hc <;> (first | replace hc := of_decide_eq_true hc | replace hc := of_decide_eq_false hc | replace hc := eq_of_beq hc | skip))
      | (refine aw_if rfl ?_ ?_ <;> intro hc <;> (first | replace hc := of_decide_eq_true hc | replace hc := of_decide_eq_false hc | replace hc := eq_of_beq hc | skip))
      | refine s_index1 tabOk rfl rfl rfl rfl (by omega) (by omega) ?_)
  refine aw_loop (fun i : Nat => [(8, .int .i64 i), (7, .int .i64 s.size), (1, .string s), (0, .int .i64 (chk n s i))]) (fun _ => W) (fun i => i ≤ s.size) (fun i => s.size - i) 0 (by omega) (by rw [chk_zero]; exact (by repeat (first | exact less_nil | refine less_cons rfl ?_))) rfl ?_
  intro i hi
  have hc := chk_range (s := s) hn i
  have hb := bt_lt s i
  repeat' (first
      | refine s_pure tabOk rfl rfl rfl rfl ?_
      | refine aops_nil ?_
      | refine thn_normal ?_
      | refine aw_seq ?_
      | refine aw_reg ?_
      | refine s_pass rfl rfl rfl ?_
      | refine s_len tabOk rfl rfl rfl rfl ?_
      | refine aw_true rfl ?_
      | refine aw_false rfl ?_
      | refine aw_block ?_
      | refine aw_skip ?_
      | refine aw_exit ?_
      | refine blk_exit ?_
      | refine blk_exit_other rfl ?_
      | refine blk_normal ?_
      | refine thn_exit ?_
      | refine thn_ret ?_
      | refine blk_ret ?_
      | refine rnd_ret ?_
      | refine rnd_exit ?_
      | refine aw_ret ?_
      | refine s_arith tabOk rfl rfl rfl rfl (by simp only [InR]; omega) ?_
      | ((fail_if_success refine s_told rfl rfl ?_); refine s_part rfl rfl rfl ?_ ?_ <;> intro hc <;> (first | replace hc := of_decide_eq_true hc | replace hc := of_decide_eq_false hc | replace hc := eq_of_beq hc | skip))
      | (refine aw_if rfl ?_ ?_ <;> intro hc <;> (first | replace hc := of_decide_eq_true hc | replace hc := of_decide_eq_false hc | replace hc := eq_of_beq hc | skip))
      | refine s_index1 tabOk rfl rfl rfl rfl (by omega) (by omega) ?_)
  · refine s_byte tabOk rfl rfl rfl rfl (by omega) (by omega) ?_
    rw [Int.toNat_natCast]
    repeat' (first
      | refine s_pure tabOk rfl rfl rfl rfl ?_
      | refine aops_nil ?_
      | refine thn_normal ?_
      | refine aw_seq ?_
      | refine aw_reg ?_
      | refine s_pass rfl rfl rfl ?_
      | refine s_len tabOk rfl rfl rfl rfl ?_
      | refine aw_true rfl ?_
      | refine aw_false rfl ?_
      | refine aw_block ?_
      | refine aw_skip ?_
      | refine aw_exit ?_
      | refine blk_exit ?_
      | refine blk_exit_other rfl ?_
      | refine blk_normal ?_
      | refine thn_exit ?_
      | refine thn_ret ?_
      | refine blk_ret ?_
      | refine rnd_ret ?_
      | refine rnd_exit ?_
      | refine aw_ret ?_
      | refine s_arith tabOk rfl rfl rfl rfl (by simp only [InR]; omega) ?_
      | ((fail_if_success refine s_told rfl rfl ?_); refine s_part rfl rfl rfl ?_ ?_ <;> intro hc <;> (first | replace hc := of_decide_eq_true hc | replace hc := of_decide_eq_false hc | replace hc := eq_of_beq hc | skip))
      | (refine aw_if rfl ?_ ?_ <;> intro hc <;> (first | replace hc := of_decide_eq_true hc | replace hc := of_decide_eq_false hc | replace hc := eq_of_beq hc | skip))
      | refine s_index1 tabOk rfl rfl rfl rfl (by omega) (by omega) ?_)
    refine s_rem rfl rfl rfl rfl (by omega) (by decide) ?_
    rw [← chk_succ]
    repeat' (first
      | refine s_pure tabOk rfl rfl rfl rfl ?_
      | refine aops_nil ?_
      | refine thn_normal ?_
      | refine aw_seq ?_
      | refine aw_reg ?_
      | refine s_pass rfl rfl rfl ?_
      | refine s_len tabOk rfl rfl rfl rfl ?_
      | refine aw_true rfl ?_
      | refine aw_false rfl ?_
      | refine aw_block ?_
      | refine aw_skip ?_
      | refine aw_exit ?_
      | refine blk_exit ?_
      | refine blk_exit_other rfl ?_
      | refine blk_normal ?_
      | refine thn_exit ?_
      | refine thn_ret ?_
      | refine blk_ret ?_
      | refine rnd_ret ?_
      | refine rnd_exit ?_
      | refine aw_ret ?_
      | refine s_arith tabOk rfl rfl rfl rfl (by simp only [InR]; omega) ?_
      | ((fail_if_success refine s_told rfl rfl ?_); refine s_part rfl rfl rfl ?_ ?_ <;> intro hc <;> (first | replace hc := of_decide_eq_true hc | replace hc := of_decide_eq_false hc | replace hc := eq_of_beq hc | skip))
      | (refine aw_if rfl ?_ ?_ <;> intro hc <;> (first | replace hc := of_decide_eq_true hc | replace hc := of_decide_eq_false hc | replace hc := eq_of_beq hc | skip))
      | refine s_index1 tabOk rfl rfl rfl rfl (by omega) (by omega) ?_)
    exact rnd_next (i + 1) (by omega) (by omega) (by exact (by repeat (first | exact less_nil | refine less_cons rfl ?_))) rfl
  · have hil : i = s.size := by omega
    subst hil
    exact retK_ret tabOk (congrArg Array.toList Try.results97) (rv_tmp rfl rfl rv_nil) ⟨rfl, rfl⟩
end
end Go.Proofs.Ytmplincflbhmiaa
namespace Go.Proofs.Ytmplincflbhmiaa
set_option linter.unusedSimpArgs false
set_option linter.unusedVariables false
open Go Cn Go.RowKit
section
variable {P : Program} {N B : Nat} {E : Env} {W : World} {ops : Array Oper} {K : Exit → Env → World → Prop} {T : Tab} {o : Oper}
/-- texts put together -/
def evCat (E : Env) (o : Oper) : Option (ByteArray × ByteArray) :=
  match o.op with
  | .binOp .add _ x y _ => match ev E x with
    | some (.string a) => match ev E y with
      | some (.string b) => some (a, b)
      | _ => none
    | _ => none
  | _ => none
theorem gives_cat {s t : ByteArray} (hv : evCat E o = some (s, t)) (h : s.size + t.size ≤ 9223372036854775807) : Gives P N B o E W (.string (s ++ t)) W := by
  refine gives_of fun a w ha hw hB => ⟨.string (s ++ t), w, ?_, rfl, rfl⟩
  unfold evCat at hv
  split at hv
  · rename_i op t' x y ho
    split at hv
    · rename_i s' hx
      have e1 := cv_string (ev_sound ha hx)
      split at hv
      · rename_i t' hy
        have e2 := cv_string (ev_sound ha hy)
        cases hv
        simp only [execOp, ho, e1, e2]
        refine run_v ?_
        simp [eqGuard_at_string, binOp, run_string_add_sum w s t h]
      · cases hv
    · cases hv
  · cases hv
theorem s_cat {i : Nat} {rest : List Nat} {d : Nat} {op : Op} {ty : TypeId} {pos : String} {aft : Array Edge} {g : Option (Nat × Bool)} {s t : ByteArray} (ho : getL ops.toList i = some ⟨some d, op, ty, pos, aft, g⟩) (hg : guardE ops ⟨some d, op, ty, pos, aft, g⟩ E = some true) (hd : Nat.ble (d + 1) N = true)
    (hv : evCat E ⟨some d, op, ty, pos, aft, g⟩ = some (s, t)) (h1 : s.size + t.size ≤ 9223372036854775807) (h : AOps P N B ops rest K ((d, .string (s ++ t)) :: E) W) : AOps P N B ops (i :: rest) K E W :=
  s_givesv ho hg hd (gives_cat hv h1) h
end
section
variable {B : Nat} {A W W' : World} {L L' : List Res}
end
end Go.Proofs.Ytmplincflbhmiaa
