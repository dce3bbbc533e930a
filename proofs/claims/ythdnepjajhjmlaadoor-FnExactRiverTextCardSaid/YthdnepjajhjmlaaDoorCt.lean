/- Pieces of a text; texts compared. -/
import Derived.Test.YthdnepjajhjmlaaDoorFa
import Derived.Test.YthdnepjajhjmlaaDoorCn12
namespace Go.Proofs.YthdnepjajhjmlaaDoor
set_option linter.unusedSimpArgs false
set_option linter.unusedVariables false
open Go Cn Go.RowKit
section
variable {P : Program} {N B : Nat} {E : Env} {W : World} {ops : Array Oper} {K : Exit → Env → World → Prop} {T : Tab} {o : Oper}
def evCs (T : Tab) (E : Env) (o : Oper) : Option (ByteArray × Int × Int) :=
  match o.op with
  | .slice t x lo hi none => match T.at t with
    | some ⟨.string, _, _, _⟩ => match ev E x with
      | some (.string s) => match lo with
        | some lo => match ev E lo with
          | some (.int _ l) => match hi with
            | some hi => match ev E hi with
              | some (.int _ h) => some (s, l, h)
              | _ => none
            | none => some (s, l, s.size)
          | _ => none
        | none => match hi with
          | some hi => match ev E hi with
            | some (.int _ h) => some (s, 0, h)
            | _ => none
          | none => none
      | _ => none
    | _ => none
  | _ => none
theorem gives_cutS (hT : TabOk P T) {s : ByteArray} {l h : Int} (hv : evCs T E o = some (s, l, h)) (h0 : 0 ≤ l) (h1 : l ≤ h) (h2 : h ≤ s.size) : Gives P N B o E W (.string (s.extract l.toNat h.toNat)) W := by
  refine gives_of fun ac w ha hw hB => ⟨.string (s.extract l.toNat h.toNat), w, ?_, rfl, rfl⟩
  unfold evCs at hv
  split at hv
  · rename_i t x lo hi hop
    split at hv
    · rename_i s1 b1 z1 ht
      obtain ⟨hu, -⟩ := hT _ _ ht
      simp only at hu
      split at hv
      · rename_i s' hx
        have e1 := cv_string (ev_sound ha hx)
        split at hv
        · rename_i lo'
          split at hv
          · rename_i kl l' hl
            have e2 := cv_int (ev_sound ha hl)
            split at hv
            · rename_i hi'
              split at hv
              · rename_i kh h' hh
                have e3 := cv_int (ev_sound ha hh)
                cases hv
                simp only [execOp, hop, e1, Option.map_some, e2, e3, Option.map_none]
                refine run_v ?_
                rw [run_sliceAt_string w t _ _ _ _ hu]
                have eh : (h.toNat : Int) = h := Int.toNat_of_nonneg (by omega)
                simp [Instr.slice, run_underlying hu, Instr.sliceBounds, run_sliceBound, sliced, h0, h1, h2, eh, (by omega : 0 ≤ h)]
              · cases hv
            · cases hv
              simp only [execOp, hop, e1, Option.map_some, e2, Option.map_none]
              refine run_v ?_
              rw [run_sliceAt_string w t _ _ _ _ hu, run_slice_string_l w t s hu kl l h0 (by omega)]
              rfl
          · cases hv
        · split at hv
          · rename_i hi'
            split at hv
            · rename_i kh h' hh
              have e3 := cv_int (ev_sound ha hh)
              cases hv
              simp only [execOp, hop, e1, Option.map_some, e3, Option.map_none]
              refine run_v ?_
              rw [run_sliceAt_string w t _ _ _ _ hu, run_slice_string_h w t s hu kh h (by omega) h2]
              rfl
            · cases hv
          · cases hv
      · cases hv
    · cases hv
  · cases hv
theorem s_cutS (hT : TabOk P T) {i : Nat} {rest : List Nat} {d : Nat} {op : Op} {ty : TypeId} {pos : String} {aft : Array Edge} {g : Option (Nat × Bool)} {s : ByteArray} {l h : Int} (ho : getL ops.toList i = some ⟨some d, op, ty, pos, aft, g⟩) (hg : guardE ops ⟨some d, op, ty, pos, aft, g⟩ E = some true) (hd : Nat.ble (d + 1) N = true)
    (hv : evCs T E ⟨some d, op, ty, pos, aft, g⟩ = some (s, l, h)) (h0 : 0 ≤ l) (h1 : l ≤ h) (h2 : h ≤ s.size) (k : AOps P N B ops rest K ((d, .string (s.extract l.toNat h.toNat)) :: E) W) : AOps P N B ops (i :: rest) K E W :=
  aops_gives (getL_ok ho) hg hd (gives_cutS hT hv h0 h1 h2) k
end
theorem extract_size {s : ByteArray} {i j : Nat} (h : j ≤ s.size) : (s.extract i j).size = j - i := by
  rw [ByteArray.size_extract]; omega
theorem bt_extract {s : ByteArray} {i j k : Nat} (h : j ≤ s.size) (hk : i + k < j) : bt (s.extract i j) k = bt s (i + k) := by
  unfold bt
  rw [ByteArray.data_extract, Array.toList_extract]
  simp only [List.extract_eq_take_drop, List.getElem?_take, List.getElem?_drop]
  rw [if_pos (by omega)]
theorem bsLoop (bs : ByteArray) : ∀ (n i : Nat) (r : List UInt8), n = bs.size - i → ByteArray.toList.loop bs i r = r.reverse ++ bs.data.toList.drop i := by
  have hl : bs.data.toList.length = bs.size := Array.length_toList
  intro n
  induction n with
  | zero =>
    intro i r h
    unfold ByteArray.toList.loop
    rw [if_neg (by omega)]
    have : bs.data.toList.drop i = [] := List.drop_eq_nil_of_le (by omega)
    rw [this, List.append_nil]
  | succ n ih =>
    intro i r h
    unfold ByteArray.toList.loop
    rw [if_pos (by omega), ih (i + 1) _ (by omega)]
    have hi : i < bs.data.toList.length := by omega
    have hi2 : i < bs.data.size := by omega
    rw [List.drop_eq_getElem_cons hi]
    have : bs.get! i = bs.data.toList[i] := by
      show bs.data[i]! = _
      rw [getElem!_pos bs.data i hi2, Array.getElem_toList]
    rw [this, List.reverse_cons, List.append_assoc]
    rfl
theorem bsList (bs : ByteArray) : bs.toList = bs.data.toList := by
  unfold ByteArray.toList
  rw [bsLoop bs _ 0 [] rfl]; rfl
theorem bs_eq {a b : ByteArray} : a.toList = b.toList ↔ a = b := by
  rw [bsList, bsList]
  constructor
  · intro h
    cases a; cases b
    congr 1
    exact Array.toList_inj.1 h
  · rintro rfl; rfl
end Go.Proofs.YthdnepjajhjmlaaDoor
