/- Arrays: an element's address, a slice of one, bytes of a slice made a text. -/
import Derived.Test.YthdnepjajhjmlaaGreatDoorXFq
import Derived.Test.YthdnepjajhjmlaaGreatDoorXHm
namespace Go.Proofs.YthdnepjajhjmlaaGreatDoor
set_option linter.unusedSimpArgs false
set_option linter.unusedVariables false
open Go Cn Go.RowKit
section
variable {P : Program} {N B : Nat} {E : Env} {W : World} {ops : Array Oper} {K : Exit → Env → World → Prop} {T : Tab} {o : Oper} {i : Nat} {rest : List Nat} {d : Nat} {op : Op} {ty : TypeId} {pos : String} {aft : Array Edge} {g : Option (Nat × Bool)}
/-- an element of an array, by its address -/
def evIA (T : Tab) (E : Env) (o : Oper) : Option (Nat × Nat × Nat × Int × Nat) :=
  match o.op with
  | .indexAddr t x ix => match T.at t with
    | some ⟨.array n e, _, _, _⟩ => match T.at e with
      | some te => match ev E x with
        | some (.pointer (some ⟨b, off, none⟩)) => match ev E ix with
          | some (.int _ i) => some (b, off, n, i, te.size)
          | _ => none
        | _ => none
      | none => none
    | _ => none
  | _ => none
theorem cv_ptr {u : Value} {p : Option Addr} (h : cv u = .pointer p) : u = .pointer p := by cases u <;> simp_all [cv, c1, cl]
theorem gives_indexA (hT : TabOk P T) {b off n sz : Nat} {ix : Int} (hv : evIA T E o = some (b, off, n, ix, sz)) (h0 : 0 ≤ ix) (h1 : ix < n) : Gives P N B o E W (.pointer (some ⟨b, off + ix.toNat * sz, none⟩)) W := by
  refine gives_of fun a w ha hw hB => ?_
  unfold evIA at hv
  split at hv
  · rename_i t x ixo hop
    split at hv
    · rename_i n' e s1 b1 z1 ht
      obtain ⟨hu, -⟩ := hT _ _ ht
      simp only at hu
      split at hv
      · rename_i te hte
        obtain ⟨-, ii, hi, hs, -⟩ := hT _ _ hte
        split at hv
        · rename_i b' off' hx
          split at hv
          · rename_i k' i' hix
            have e1 := cv_ptr (ev_sound ha hx)
            have e2 := cv_int (ev_sound ha hix)
            cases hv
            have hl : P.arrayLen t = n := by simp [Program.arrayLen, hu]
            have he : P.elem t = e := by simp [Program.elem, hu]
            refine ⟨.pointer (some ⟨b, off + ix.toNat * te.size, none⟩), w, ?_, rfl, rfl⟩
            simp only [execOp, hop, e1, e2]
            refine run_v ?_
            rw [run_indexAt_array w t _ _ _ (by rw [hl, he]; exact hu), hl, he, if_pos ⟨h0, h1⟩]
            simp [sizeOf, typeInfo, hi, hs, Addr.add_lit]
          · cases hv
        · cases hv
      · cases hv
    · cases hv
  · cases hv
theorem s_indexA (hT : TabOk P T) {b off n sz : Nat} {ix : Int} (ho : getL ops.toList i = some ⟨some d, op, ty, pos, aft, g⟩) (hg : guardE ops ⟨some d, op, ty, pos, aft, g⟩ E = some true) (hd : Nat.ble (d + 1) N = true)
    (hv : evIA T E ⟨some d, op, ty, pos, aft, g⟩ = some (b, off, n, ix, sz)) (h0 : 0 ≤ ix) (h1 : ix < n) (k : AOps P N B ops rest K ((d, .pointer (some ⟨b, off + ix.toNat * sz, none⟩)) :: E) W) : AOps P N B ops (i :: rest) K E W :=
  s_givesv ho hg hd (gives_indexA hT hv h0 h1) k
theorem s_indexAn (hT : TabOk P T) {b off n : Nat} {ix : Int} {j : Nat} (ho : getL ops.toList i = some ⟨some d, op, ty, pos, aft, g⟩) (hg : guardE ops ⟨some d, op, ty, pos, aft, g⟩ E = some true) (hd : Nat.ble (d + 1) N = true)
    (hv : evIA T E ⟨some d, op, ty, pos, aft, g⟩ = some (b, off, n, ix, 1)) (hj : ix = (j : Int)) (h1 : j < n) (k : AOps P N B ops rest K ((d, .pointer (some ⟨b, off + j, none⟩)) :: E) W) : AOps P N B ops (i :: rest) K E W := by
  subst hj
  have h := gives_indexA (P := P) (N := N) (B := B) (W := W) hT hv (by omega) (by omega)
  rw [Nat.mul_one, Int.toNat_natCast] at h
  exact s_givesv ho hg hd h k
/-- the end of an array, as a slice -/
def evSA (T : Tab) (E : Env) (o : Oper) : Option (Nat × Nat × Int) :=
  match o.op with
  | .slice t x (some lo) none none => match T.at t with
    | some ⟨.array n e, _, _, _⟩ => match T.at e with
      | some te => if te.size = 1 then (match ev E x with
        | some (.pointer (some ⟨b, 0, none⟩)) => match ev E lo with
          | some (.int _ i) => some (b, n, i)
          | _ => none
        | _ => none) else none
      | none => none
    | _ => none
  | _ => none
theorem gives_sliceA (hT : TabOk P T) {b n : Nat} {l : Int} (hv : evSA T E o = some (b, n, l)) (h0 : 0 ≤ l) (h1 : l < n) : Gives P N B o E W (.slice (some ⟨b, l.toNat, none⟩) (n - l.toNat) (n - l.toNat)) W := by
  refine gives_of fun a w ha hw hB => ?_
  unfold evSA at hv
  split at hv
  · rename_i t x lo hop
    split at hv
    · rename_i n' e s1 b1 z1 ht
      obtain ⟨hu, -⟩ := hT _ _ ht
      simp only at hu
      split at hv
      · rename_i te hte
        obtain ⟨-, ii, hi, hs, -⟩ := hT _ _ hte
        split at hv
        · rename_i hsz
          split at hv
          · rename_i b' hx
            split at hv
            · rename_i k' i' hix
              have e1 := cv_ptr (ev_sound ha hx)
              have e2 := cv_int (ev_sound ha hix)
              cases hv
              have hl : P.arrayLen t = n := by simp [Program.arrayLen, hu]
              have he : P.elem t = e := by simp [Program.elem, hu]
              refine ⟨.slice (some ⟨b, l.toNat, none⟩) (n - l.toNat) (n - l.toNat), w, ?_, rfl, rfl⟩
              simp only [execOp, hop, e1, Option.map_some, e2, Option.map_none]
              refine run_v ?_
              rw [run_sliceAt_array_l w t _ (by rw [hl, he]; exact hu) k' l h0 (by rw [hl]; omega), hl, he]
              have hne : ¬ n = l.toNat := by omega
              simp [sizeOf, typeInfo, hi, hs, hsz, slicedAt, hne, Addr.add]
              try omega
            · cases hv
          · cases hv
        · cases hv
      · cases hv
    · cases hv
  · cases hv
theorem s_sliceA (hT : TabOk P T) {b n : Nat} {l : Int} (ho : getL ops.toList i = some ⟨some d, op, ty, pos, aft, g⟩) (hg : guardE ops ⟨some d, op, ty, pos, aft, g⟩ E = some true) (hd : Nat.ble (d + 1) N = true)
    (hv : evSA T E ⟨some d, op, ty, pos, aft, g⟩ = some (b, n, l)) (h0 : 0 ≤ l) (h1 : l < n) (k : AOps P N B ops rest K ((d, .slice (some ⟨b, l.toNat, none⟩) (n - l.toNat) (n - l.toNat)) :: E) W) : AOps P N B ops (i :: rest) K E W :=
  s_givesv ho hg hd (gives_sliceA hT hv h0 h1) k
theorem gives_bytesStrR (hT : TabOk P T) {b off n c : Nat} {xs : List Int} (hv : evBc T E o = some (.slice (some ⟨b, off, none⟩) n c)) (hn : xs.length = n) (hr : RdV W b off (u8s xs)) : Gives P N B o E W (.string (strOfNums xs)) W := by
  refine gives_of fun a w ha hw hB => ?_
  unfold evBc at hv
  split at hv
  · rename_i src dst x hop
    split at hv
    · rename_i e' s1 b1 z1 ht1
      split at hv
      · rename_i s2 b2 z2 ht2
        split at hv
        · rename_i s3 b3 z3 ht3
          split at hv
          · rename_i ad n' c' hx
            cases hv
            have e1 := cv_slice (ev_sound ha hx)
            have hs := (hT _ _ ht1).1
            have he := (hT _ _ ht2).1
            have hd := (hT _ _ ht3).1
            refine ⟨.string (strOfNums xs), w, ?_, rfl, rfl⟩
            simp only [execOp, hop, e1]
            refine run_v ?_
            refine run_convert_bytes_arg w src _ hs he b off n c xs hn (fun i hi => ?_) dst hd
            obtain ⟨u, h1, h2, -⟩ := hr i (by rw [List.length_map]; omega)
            obtain ⟨y, h3, h4⟩ := cell_back hw h1
            rw [h3]
            have h5 : (u8s xs).getD i undef = .int .u8 (xs.getD i 0) := by
              simp [u8s, List.getD_eq_getElem?_getD, show i < xs.length by omega]
            rw [h5] at h2
            have h6 : cl y = .int .u8 (xs.getD i 0) := by rw [← h2, ← h4]
            cases y <;> simp_all [cl]
          · cases hv
        · cases hv
      · cases hv
    · cases hv
  · cases hv
theorem s_bytesStrR (hT : TabOk P T) {b off n c : Nat} {xs : List Int} (ho : getL ops.toList i = some ⟨some d, op, ty, pos, aft, g⟩) (hg : guardE ops ⟨some d, op, ty, pos, aft, g⟩ E = some true) (hd : Nat.ble (d + 1) N = true)
    (hv : evBc T E ⟨some d, op, ty, pos, aft, g⟩ = some (.slice (some ⟨b, off, none⟩) n c)) (hn : xs.length = n) (hr : RdV W b off (u8s xs)) (k : AOps P N B ops rest K ((d, .string (strOfNums xs)) :: E) W) : AOps P N B ops (i :: rest) K E W :=
  s_givesv ho hg hd (gives_bytesStrR hT hv hn hr) k
end
/-- a block told as a row -/
theorem Hp.asRow {B : Nat} {A W : World} {L : List Res} {b n : Nat} {cs : List Value} {e : TypeId} (H : Hp B A W (.blk b cs e :: L)) (hn : cs.length = n) (h1 : cs.all (·.oneCell') = true) (hm : n ≤ 1000000) : Hp B A W (.row e 1 (.slice (some ⟨b, 0, none⟩) n n) n cs :: L) := by
  subst hn
  have hb := H.ok _ (List.Mem.head _)
  refine ⟨H.hB, H.below, ?_, ?_, ?_⟩
  · intro r hr
    rcases List.mem_cons.1 hr with rfl | hr
    · refine ⟨⟨by rw [Nat.mul_one], .inr ⟨b, cs.length, cs.toArray, rfl, Nat.zero_le _, hb.1, Nat.le_refl _, by unfold maxLen; omega, by simp, by simp⟩⟩, h1, hb.2⟩
    · exact H.ok r (List.Mem.tail _ hr)
  · intro r hr x hx
    rcases List.mem_cons.1 hr with rfl | hr
    · have : x = b := by simpa [Res.foot, Value.ownBlock] using hx.symm
      subst this
      exact H.own _ (List.Mem.head _) x rfl
    · exact H.own r (List.Mem.tail _ hr) x hx
  · have hs := List.pairwise_cons.1 H.sep
    refine List.pairwise_cons.2 ⟨fun r hr x hx => ?_, hs.2⟩
    have : x = b := by simpa [Res.foot, Value.ownBlock] using hx.symm
    subst this
    exact hs.1 r hr x rfl
end Go.Proofs.YthdnepjajhjmlaaGreatDoor
