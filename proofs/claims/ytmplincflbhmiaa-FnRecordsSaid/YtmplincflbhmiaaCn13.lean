/- Structs built; slices cut. -/
import Derived.Test.YtmplincflbhmiaaCn12
import Derived.Laws.Tables
import Derived.Laws.Slices
import Derived.Laws.Cover3
namespace Go.Proofs.Ytmplincflbhmiaa.Cn
set_option linter.unusedSimpArgs false
set_option linter.unusedVariables false
open Go Go.RowKit
theorem fold_set : ∀ (vs : List Value) (n off : Nat) (cells : Array Value), off + n + vs.length ≤ cells.size →
    (vs.zipIdx n).foldl (fun cs (x : Value × Nat) => cs.setIfInBounds (off + x.2) x.1) cells = splice cells (off + n) vs
  | [], n, off, cells, h => by
    simp only [List.zipIdx_nil, List.foldl_nil]
    apply Array.toList_inj.1
    simp [splice]
  | v :: vs, n, off, cells, h => by
    simp only [List.length_cons] at h
    rw [List.zipIdx_cons, List.foldl_cons, fold_set vs (n + 1) off _ (by simp; omega)]
    apply Array.toList_inj.1
    have h1 : off + n < cells.toList.length := by simp; omega
    simp only [splice, Array.toList_setIfInBounds, List.length_cons]
    rw [show off + (n + 1) = off + n + 1 by omega, List.take_add_one, List.take_set_of_le (Nat.le_refl _), List.drop_set_of_lt (by omega)]
    rw [show off + n + 1 + vs.length = off + n + (vs.length + 1) by omega]
    have h2 : off + n < cells.size := by omega
    simp [h2]
/-- the cells written over, on lists -/
def fillL (place : Nat → Option (Nat × Nat)) : List Value → List (Nat × Value) → Option (List Value)
  | cells, [] => some cells
  | cells, (i, v) :: r => match place i with
    | some (off, size) => match Nat.beq v.cells.size size && Nat.ble (off + size) cells.length with
      | true => fillL place (cells.take off ++ v.cells.toList ++ cells.drop (off + v.cells.toList.length)) r
      | false => none
    | none => none
theorem fillL_sound (place : Nat → Option (Nat × Nat)) : ∀ (parts ups : List (Nat × Value)) (cells : List Value) (cs0 : Array Value) (l : List Value), (ups.map fun x => (x.1, x.2.cells.map cl)) = (parts.map fun x => (x.1, x.2.cells)) →
    cs0.toList.map cl = cells → fillL place cells parts = some l → ∃ r, Instr.fill place cs0 ups = some r ∧ r.toList.map cl = l
  | [], [], cells, cs0, l, _, hc, h => by
    simp only [fillL, Option.some.injEq] at h
    exact ⟨cs0, rfl, by rw [hc, h]⟩
  | [], _ :: _, _, _, _, hp, _, _ => by simp at hp
  | _ :: _, [], _, _, _, hp, _, _ => by simp at hp
  | (i, v) :: r, (j, u) :: ur, cells, cs0, l, hp, hc, h => by
    simp only [List.map_cons, List.cons.injEq, Prod.mk.injEq] at hp
    obtain ⟨⟨rfl, hu⟩, hr⟩ := hp
    simp only [fillL] at h
    split at h
    · rename_i off size hpl
      split at h
      · rename_i hb
        simp only [Bool.and_eq_true] at hb
        have e1 := Nat.eq_of_beq_eq_true hb.1
        have e2 := Nat.le_of_ble_eq_true hb.2
        have hsz : u.cells.size = size := by rw [← e1, ← hu]; simp
        have hlen : cells.length = cs0.size := by rw [← hc]; simp
        simp only [Instr.fill, hpl]
        rw [if_neg (by simp [hsz]; omega)]
        have hfold : u.cells.zipIdx.foldl (fun cs (x : Value × Nat) => cs.setIfInBounds (off + x.2) x.1) cs0 = splice cs0 off u.cells.toList := by
          have := fold_set u.cells.toList 0 off cs0 (by simp [hsz]; omega)
          rw [← Array.foldl_toList, Array.toList_zipIdx]
          simpa using this
        refine fillL_sound place r ur _ _ l hr ?_ h
        rw [hfold]
        simp only [splice, List.map_append, List.map_take, List.map_drop, hc]
        have : u.cells.toList.map cl = v.cells.toList := by rw [← hu]; simp
        have hl : u.cells.toList.length = v.cells.toList.length := by rw [← this]; simp
        rw [this, hl]
      · cases h
    · cases h
section
variable {P : Program} {N B : Nat} {ops : Array Oper} {K : Exit → Env → World → Prop} {D : World → Prop} {E : Env} {W : World} {T : Tab}
def evPs (E : Env) : List (Nat × Operand) → Option (List (Nat × Value))
  | [] => some []
  | (i, x) :: r => match ev E x with
    | some v => match plain v with
      | some u => match evPs E r with
        | some vs => some ((i, u) :: vs)
        | none => none
      | none => none
    | none => none
theorem evPs_sound {a : Act} (ha : EnvR E N a) : ∀ (l : List (Nat × Operand)) (vs : List (Nat × Value)), evPs E l = some vs → ((l.map fun x => (x.1, a.eval x.2)).map fun x => (x.1, x.2.cells.map cl)) = vs.map fun x => (x.1, x.2.cells)
  | [], vs, h => by cases h; rfl
  | (i, x) :: r, vs, h => by
    simp only [evPs] at h
    split at h
    · rename_i v hv
      split at h
      · rename_i u hu
        split at h
        · rename_i vs' hvs
          cases h
          have hvu : u = v := by
            cases v <;> simp [plain] at hu <;> exact hu.symm
          subst hvu
          simp only [List.map_cons, List.cons.injEq, Prod.mk.injEq, true_and]
          exact ⟨cells_cv (ev_sound ha hv) hu, evPs_sound ha r vs' hvs⟩
        · cases h
      · cases h
    · cases h
def placesOf (T : Tab) : List Field → Option (List (Nat × Nat))
  | [] => some []
  | f :: fs => match T.at f.type with
    | some tt => match placesOf T fs with
      | some r => some ((f.offset, tt.size) :: r)
      | none => none
    | none => none
theorem placesOf_sound (hT : TabOk P T) : ∀ (fs : List Field) (r : List (Nat × Nat)), placesOf T fs = some r → fs.mapM (fun f => (P.info? f.type).map fun i => (f.offset, i.size)) = some r
  | [], r, h => by cases h; rfl
  | f :: fs, r, h => by
    simp only [placesOf] at h
    split at h
    · rename_i tt ht
      obtain ⟨-, i, hi, hs, -⟩ := hT _ _ ht
      split at h
      · rename_i r' hr
        cases h
        simp [List.mapM_cons, hi, hs, placesOf_sound hT fs r' hr]
      · cases h
    · cases h
/-- a struct literal -/
def evBd (T : Tab) (E : Env) (o : Oper) : Option (List (Nat × Nat) × TT × List (Nat × Value)) :=
  match o.op with
  | .build t parts => match T.at t with
    | some ⟨.struct fs, s, b, z⟩ => match placesOf T fs.toList with
      | some pl => match evPs E parts.toList with
        | some vs => some (pl, ⟨.struct fs, s, b, z⟩, vs)
        | none => none
      | none => none
    | _ => none
  | _ => none
def nthP : List (Nat × Nat) → Nat → Option (Nat × Nat)
  | [], _ => none
  | x :: r, i => match i with
    | 0 => some x
    | j + 1 => nthP r j
theorem nthP_eq : ∀ (l : List (Nat × Nat)) (i : Nat), nthP l i = l[i]?
  | [], _ => rfl
  | _ :: _, 0 => rfl
  | _ :: r, j + 1 => by simpa [nthP] using nthP_eq r j
theorem gives_build (hT : TabOk P T) {o : Oper} {pl : List (Nat × Nat)} {tt : TT} {vs : List (Nat × Value)} {z l : List Value} (hv : evBd T E o = some (pl, tt, vs)) (hz : (zerosOf tt.zero).toList = z) (hl : fillL (nthP pl) z vs = some l) : Gives P N B o E W (.agg l.toArray) W := by
  refine gives_of fun a w ha hw hB => ?_
  unfold evBd at hv
  split at hv
  · rename_i t parts hop
    split at hv
    · rename_i fs s b zz ht
      obtain ⟨hu, ii, hi, -, -, hzz⟩ := hT _ _ ht
      split at hv
      · rename_i pl' hpl
        split at hv
        · rename_i vs' hvs
          cases hv
          have h1 := evPs_sound ha _ _ hvs
          obtain ⟨r, h2, h3⟩ := fillL_sound (nthP pl) vs _ z zz.cells l h1 (by rw [← hz]; simp [zerosOf]) hl
          refine ⟨.agg r, w, ?_, by simp only [cv, c1, Value.agg.injEq, ← h3]; apply Array.toList_inj.1; simp, rfl⟩
          simp only [execOp, hop]
          refine run_v (run_build w t _ r ?_)
          unfold Program.built
          simp only [hi, hu, hzz, placesOf_sound hT _ _ hpl]
          rw [Array.toList_map]
          have : (fun i => pl.toArray[i]?) = nthP pl := by funext i; rw [nthP_eq]; simp
          simp only [this]
          exact h2
        · cases hv
      · cases hv
    · cases hv
  · cases hv
/-- a slice cut: both bounds told -/
def evCut (T : Tab) (E : Env) (o : Oper) : Option (Value × Nat × Int × Int) :=
  match o.op with
  | .slice t x lo hi none => match T.at t with
    | some ⟨.slice e, _, _, _⟩ => match T.at e with
      | some tt => match ev E x with
        | some (.slice a n c) => match lo with
          | some lo => match ev E lo with
            | some (.int _ l) => match hi with
              | some hi => match ev E hi with
                | some (.int _ h) => some (.slice a n c, tt.size, l, h)
                | _ => none
              | none => some (.slice a n c, tt.size, l, n)
            | _ => none
          | none => match hi with
            | some hi => match ev E hi with
              | some (.int _ h) => some (.slice a n c, tt.size, 0, h)
              | _ => none
            | none => some (.slice a n c, tt.size, 0, n)
        | _ => none
      | none => none
    | _ => none
  | _ => none
theorem gives_cut (hT : TabOk P T) {o : Oper} {a : Option Addr} {n c sz : Nat} {l h : Int} (hv : evCut T E o = some (.slice a n c, sz, l, h)) (h0 : 0 ≤ l) (h1 : l ≤ h) (h2 : h ≤ c) (_hn : n ≤ c) : Gives P N B o E W (sliced a l.toNat h.toNat c sz) W := by
  refine gives_of fun ac w ha hw hB => ⟨sliced a l.toNat h.toNat c sz, w, ?_, rfl, rfl⟩
  unfold evCut at hv
  split at hv
  · rename_i t x lo hi hop
    split at hv
    · rename_i e s1 b1 z1 ht
      split at hv
      · rename_i tt hte
        obtain ⟨hu, -⟩ := hT _ _ ht
        obtain ⟨-, ii, hii, hs, -⟩ := hT _ _ hte
        simp only at hu
        have hel : P.elem t = e := by simp [Program.elem, hu]
        have hu' : P.underlying t = some (.slice (P.elem t)) := by rw [hel]; exact hu
        have hsz : ∀ w, (sizeOf (P.elem t)).run P w = .ok tt.size w := fun w => by rw [hel]; simp [sizeOf, typeInfo, hii, hs]
        split at hv
        · rename_i a' n' c' hx
          have ex := cv_slice (ev_sound ha hx)
          split at hv
          · rename_i lo'
            split at hv
            · rename_i k1 l' hlo
              have el := cv_int (ev_sound ha hlo)
              split at hv
              · rename_i hi'
                split at hv
                · rename_i k2 h' hhi
                  have eh := cv_int (ev_sound ha hhi)
                  cases hv
                  simp only [execOp, hop, ex, Option.map_some, Option.map_none, el, eh]
                  refine run_v ?_
                  rw [run_sliceAt_slice w t _ _ _ _ hu', run_slice_lh w t a n c hu' k1 k2 l h h0 h1 h2, hsz]
                  rfl
                · cases hv
              · cases hv
                simp only [execOp, hop, ex, Option.map_some, Option.map_none, el]
                refine run_v ?_
                rw [run_sliceAt_slice w t _ _ _ _ hu', run_slice_l w t a n c hu' k1 l h0 h1, hsz]
                simp [Result.andThen]
            · cases hv
          · split at hv
            · rename_i hi'
              split at hv
              · rename_i k2 h' hhi
                have eh := cv_int (ev_sound ha hhi)
                cases hv
                simp only [execOp, hop, ex, Option.map_some, Option.map_none, eh]
                refine run_v ?_
                rw [run_sliceAt_slice w t _ _ _ _ hu', run_slice_h w t a n c hu' k2 h h1 h2, hsz]
                simp [Result.andThen]
              · cases hv
            · cases hv
              simp only [execOp, hop, ex, Option.map_none]
              refine run_v ?_
              rw [run_sliceAt_slice w t _ _ _ _ hu', run_slice_all w t a n c hu', hsz]
              simp [Result.andThen]
        · cases hv
      · cases hv
    · cases hv
  · cases hv
/-- a slice compared with nil -/
def evNl (T : Tab) (E : Env) (o : Oper) : Option (Option Addr × Bool) :=
  match o.op with
  | .binOp op t x y _ => match T.at t with
    | some ⟨.slice _, _, _, _⟩ => match ev E x with
      | some (.slice a _ _) => match ev E y with
        | some (.slice none 0 0) => match op with
          | .eql => some (a, true)
          | .neq => some (a, false)
          | _ => none
        | _ => none
      | _ => none
    | _ => none
  | _ => none
theorem gives_nilSlice (hT : TabOk P T) {o : Oper} {a : Option Addr} {b : Bool} (hv : evNl T E o = some (a, b)) : Gives P N B o E W (.bool (a.isNone == b)) W := by
  refine gives_of fun ac w ha hw hB => ⟨.bool (a.isNone == b), w, ?_, rfl, rfl⟩
  unfold evNl at hv
  split at hv
  · rename_i op t x y yt hop
    split at hv
    · rename_i e s1 b1 z1 ht
      obtain ⟨hu, -⟩ := hT _ _ ht
      simp only at hu
      split at hv
      · rename_i a' n c hx
        have ex := cv_slice (ev_sound ha hx)
        split at hv
        · rename_i hy
          have ey := cv_slice (ev_sound ha hy)
          split at hv
          · cases hv
            simp only [execOp, hop, ex, ey]
            refine run_v ?_
            simp [eqGuard, binOp, run_equal_slice_nil w t e a n c hu]
          · cases hv
            simp only [execOp, hop, ex, ey]
            refine run_v ?_
            simp [eqGuard, binOp, run_equal_slice_nil w t e a n c hu]
          · cases hv
        · cases hv
      · cases hv
    · cases hv
  · cases hv
section steps
variable {i : Nat} {rest : List Nat} {d : Nat} {op : Op} {ty : TypeId} {pos : String} {aft : Array Edge} {g : Option (Nat × Bool)}
theorem s_nilSlice (hT : TabOk P T) {a : Option Addr} {b : Bool} (ho : getL ops.toList i = some ⟨some d, op, ty, pos, aft, g⟩) (hg : guardE ops ⟨some d, op, ty, pos, aft, g⟩ E = some true) (hd : Nat.ble (d + 1) N = true)
    (hv : evNl T E ⟨some d, op, ty, pos, aft, g⟩ = some (a, b)) (k : AOps P N B ops rest K ((d, .bool (a.isNone == b)) :: E) W) : AOps P N B ops (i :: rest) K E W :=
  aops_gives (getL_ok ho) hg hd (gives_nilSlice hT hv) k
theorem s_cut (hT : TabOk P T) {a : Option Addr} {n c sz : Nat} {l h : Int} (ho : getL ops.toList i = some ⟨some d, op, ty, pos, aft, g⟩) (hg : guardE ops ⟨some d, op, ty, pos, aft, g⟩ E = some true) (hd : Nat.ble (d + 1) N = true)
    (hv : evCut T E ⟨some d, op, ty, pos, aft, g⟩ = some (.slice a n c, sz, l, h)) (h0 : 0 ≤ l) (h1 : l ≤ h) (h2 : h ≤ c) (hn : n ≤ c) (k : AOps P N B ops rest K ((d, sliced a l.toNat h.toNat c sz) :: E) W) : AOps P N B ops (i :: rest) K E W :=
  aops_gives (getL_ok ho) hg hd (gives_cut hT hv h0 h1 h2 hn) k
theorem d_cut (hT : TabOk P T) (hK : Lax K) {a : Option Addr} {n c sz : Nat} {l h : Int} (ho : getL ops.toList i = some ⟨some d, op, ty, pos, aft, g⟩) (hg : guardE ops ⟨some d, op, ty, pos, aft, g⟩ E = some true) (hd : Nat.ble (d + 1) N = true)
    (hv : evCut T E ⟨some d, op, ty, pos, aft, g⟩ = some (.slice a n c, sz, l, h)) (h0 : 0 ≤ l) (h1 : l ≤ h) (h2 : h ≤ c) (hn : n ≤ c) (hm : may ops i rest = true) (k : SD P N B ops D K rest ((d, sliced a l.toNat h.toNat c sz) :: E) W) : SD P N B ops D K (i :: rest) E W :=
  d_gives hK ho hg hd hm (fun _ _ => gives_cut hT hv h0 h1 h2 hn) k
theorem s_build (hT : TabOk P T) {pl : List (Nat × Nat)} {tt : TT} {vs : List (Nat × Value)} {z : List Value} (l : List Value) (ho : getL ops.toList i = some ⟨some d, op, ty, pos, aft, g⟩) (hg : guardE ops ⟨some d, op, ty, pos, aft, g⟩ E = some true) (hd : Nat.ble (d + 1) N = true)
    (hv : evBd T E ⟨some d, op, ty, pos, aft, g⟩ = some (pl, tt, vs)) (hz : (zerosOf tt.zero).toList = z) (hl : fillL (nthP pl) z vs = some l) (k : AOps P N B ops rest K ((d, .agg l.toArray) :: E) W) : AOps P N B ops (i :: rest) K E W :=
  aops_gives (getL_ok ho) hg hd (gives_build hT hv hz hl) k
theorem d_build (hT : TabOk P T) (hK : Lax K) {pl : List (Nat × Nat)} {tt : TT} {vs : List (Nat × Value)} {z : List Value} (l : List Value) (ho : getL ops.toList i = some ⟨some d, op, ty, pos, aft, g⟩) (hg : guardE ops ⟨some d, op, ty, pos, aft, g⟩ E = some true) (hd : Nat.ble (d + 1) N = true)
    (hv : evBd T E ⟨some d, op, ty, pos, aft, g⟩ = some (pl, tt, vs)) (hz : (zerosOf tt.zero).toList = z) (hl : fillL (nthP pl) z vs = some l) (hm : may ops i rest = true) (k : SD P N B ops D K rest ((d, .agg l.toArray) :: E) W) : SD P N B ops D K (i :: rest) E W :=
  d_gives hK ho hg hd hm (fun _ _ => gives_build hT hv hz hl) k
end steps
end
end Go.Proofs.Ytmplincflbhmiaa.Cn
