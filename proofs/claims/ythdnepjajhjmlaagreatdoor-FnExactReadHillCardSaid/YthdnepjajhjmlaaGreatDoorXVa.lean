/- The listed table of powers, as a row of this seat gives it. -/
import Derived.Test.YthdnepjajhjmlaaGreatDoorXFa
import Derived.Lib.SplitLaws
import Derived.HandedShaped
import Derived.LaidLaws
import Derived.Test.YthdnepjajhjmlaaGreatDoorCn12
import Derived.Test.YthdnepjajhjmlaaGreatDoorXVs
import Derived.Test.YthdnepjajhjmlaaGreatDoorXHm
import Derived.Test.YthdnepjajhjmlaaGreatDoorXFq
import Derived.Laws.Concat
import Derived.Test.YthdnepjajhjmlaaGreatDoorXRa
import Derived.Lib.ItoaLen
import Derived.Test.YthdnepjajhjmlaaGreatDoorXRe
import Derived.Test.YthdnepjajhjmlaaGreatDoorRows
import Derived.Lib.LaidTab
import Derived.Stop.LaidErr
namespace Go.Proofs.YthdnepjajhjmlaaGreatDoor
set_option linter.unusedSimpArgs false
set_option linter.unusedVariables false
open Go Cn Go.RowKit
def cutL (c : UInt8) : List UInt8 → List (List UInt8)
  | [] => [[]]
  | b :: l => if b = c then [] :: cutL c l else match cutL c l with
    | [] => [[b]]
    | h :: t => (b :: h) :: t
theorem cutL_ne (c : UInt8) : ∀ l, cutL c l ≠ []
  | [] => by simp [cutL]
  | b :: l => by
    unfold cutL
    split
    · simp
    · split <;> simp
theorem cutL_hit {c : UInt8} {b : List UInt8} : ∀ {a : List UInt8}, c ∉ a → cutL c (a ++ c :: b) = a :: cutL c b
  | [], _ => by simp [cutL]
  | x :: a, h => by
    simp only [List.mem_cons, not_or] at h
    rw [List.cons_append, cutL, if_neg (fun e => h.1 e.symm), cutL_hit h.2]
theorem cutL_none {c : UInt8} : ∀ {a : List UInt8}, c ∉ a → cutL c a = [a]
  | [], _ => rfl
  | x :: a, h => by
    simp only [List.mem_cons, not_or] at h
    rw [cutL, if_neg (fun e => h.1 e.symm), cutL_none h.2]
theorem index_hit {c : UInt8} {b : List UInt8} : ∀ {a : List UInt8}, c ∉ a → Lib.index (a ++ c :: b) [c] = (a.length : Int)
  | [], _ => by simp [Lib.index, List.isPrefixOf]
  | x :: a, h => by
    simp only [List.mem_cons, not_or] at h
    have hp : ([c] : List UInt8).isPrefixOf (x :: (a ++ c :: b)) = false := by simp [List.isPrefixOf, h.1]
    rw [List.cons_append, Lib.index, hp, index_hit h.2]
    have : ((a.length : Int) == -1) = false := beq_eq_false_iff_ne.2 (by omega)
    rw [this]
    simp
theorem index_none {c : UInt8} : ∀ {a : List UInt8}, c ∉ a → Lib.index a [c] = -1
  | [], _ => by simp [Lib.index]
  | x :: a, h => by
    simp only [List.mem_cons, not_or] at h
    have hp : ([c] : List UInt8).isPrefixOf (x :: a) = false := by simp [List.isPrefixOf, h.1]
    rw [Lib.index, hp, index_none h.2]
    simp
/-- a list parts at the first of a byte -/
theorem part_at (c : UInt8) : ∀ l : List UInt8, c ∉ l ∨ ∃ a b, l = a ++ c :: b ∧ c ∉ a
  | [] => .inl (by simp)
  | x :: l => by
    by_cases hx : x = c
    · exact .inr ⟨[], l, by rw [hx]; rfl, by simp⟩
    · rcases part_at c l with h | ⟨a, b, rfl, h⟩
      · exact .inl (by simp only [List.mem_cons, not_or]; exact ⟨fun e => hx e.symm, h⟩)
      · exact .inr ⟨x :: a, b, rfl, by simp only [List.mem_cons, not_or]; exact ⟨fun e => hx e.symm, h⟩⟩
theorem splitK_cut (c : UInt8) : ∀ (n : Nat) (l : List UInt8), l.length ≤ n → Lib.splitK [c] 0 (l.count c) l = cutL c l
  | n, l, hn => by
    rcases part_at c l with h | ⟨a, b, rfl, h⟩
    · rw [List.count_eq_zero.2 h, cutL_none h]; rfl
    · have e1 : (a ++ c :: b).count c = b.count c + 1 := by rw [List.count_append, List.count_eq_zero.2 h, List.count_cons_self]; omega
      have hi := index_hit (b := b) h
      cases n with
      | zero => simp at hn
      | succ n =>
        have ih := splitK_cut c n b (by simp at hn; omega)
        rw [e1, Lib.splitK, hi]
        have hne : ((a.length : Int) == -1) = false := beq_eq_false_iff_ne.2 (by omega)
        rw [hne, cutL_hit h]
        simp only [Bool.false_eq_true, if_false, Int.toNat_natCast, Nat.add_zero, List.length_cons, List.length_nil, Nat.zero_add]
        rw [List.take_left' rfl, show List.drop (a.length + 1) (a ++ c :: b) = b by rw [← List.drop_drop, List.drop_left' rfl]; rfl, ih]
def ofL (l : List UInt8) : ByteArray := ⟨l.toArray⟩
theorem ofL_data (l : List UInt8) : (ofL l).data.toList = l := rfl
/-- the texts between the bytes c of a text -/
def cutB (c : UInt8) (s : ByteArray) : List ByteArray := (cutL c s.data.toList).map ofL
theorem cutB_ne (c : UInt8) (s : ByteArray) : cutB c s ≠ [] := by
  unfold cutB
  simpa using cutL_ne c _
theorem split_cut (c : UInt8) (s : ByteArray) : Lib.splitB ⟨#[c]⟩ 0 (Lib.countB s ⟨#[c]⟩) s = cutB c s := by
  have h := Lib.splitB_data ⟨#[c]⟩ 0 (Lib.countB s ⟨#[c]⟩) s
  have hc : Lib.countB s ⟨#[c]⟩ = s.data.toList.count c := Lib.count_one c s.data.toList
  rw [hc] at h ⊢
  rw [show (ByteArray.mk #[c]).data.toList = [c] from rfl, splitK_cut c _ _ (Nat.le_refl _)] at h
  unfold cutB
  rw [← h, List.map_map]
  exact (List.map_id _).symm.trans (List.map_congr_left fun x _ => by simp [Function.comp, ofL])
theorem split_count (c : UInt8) (s : ByteArray) : Lib.countB s ⟨#[c]⟩ + 1 = (cutB c s).length := by
  rw [← split_cut, Lib.splitB_all ⟨#[c]⟩ (Nat.le_refl 1) 0 _ s rfl]
theorem cutL_len (c : UInt8) : ∀ l, (cutL c l).length = l.count c + 1
  | [] => rfl
  | b :: l => by
    by_cases h : b = c
    · subst h; rw [cutL, if_pos rfl, List.length_cons, cutL_len, List.count_cons_self]
    · rw [cutL, if_neg h, List.count_cons_of_ne (by simpa using h), ← cutL_len c l]
      cases e : cutL c l with
      | nil => exact absurd e (cutL_ne c l)
      | cons _ _ => rfl
theorem cutB_len (c : UInt8) (s : ByteArray) : (cutB c s).length ≤ s.size + 1 := by
  unfold cutB
  rw [List.length_map, cutL_len]
  have := List.count_le_length (a := c) (l := s.data.toList)
  have e : s.data.toList.length = s.size := Array.length_toList
  omega
attribute [irreducible] cutB
end Go.Proofs.YthdnepjajhjmlaaGreatDoor
namespace Go.Proofs.YthdnepjajhjmlaaGreatDoor
set_option linter.unusedSimpArgs false
set_option linter.unusedVariables false
open Go
variable {H : Type} {enc : TypeId × Value → H}
theorem change_both {a : Assume} {C : Checked} {os : Os} {f : FuncId} {fn : Func} {s : ChangeSpec} {conds : List PathCond} {apart fresh handsOn again : Bool} {X : World → Array Value → Prop}
    (hX : ∀ (w w' : World) (args : Array Value), w.heap = w'.heap → X w args → X w' args)
    (own : ownKnob C.prog.godebug = none) (started : os.Started) (noInit : C.prog.inits.idxOf? f = none) (hfn : C.prog.funcs[f]? = some fn)
    (witness : ∃ (w : World) (tape : Tape) (i : Input), w.os = os ∧ (w.forCall tape i).Shaped C.prog ∧ i.vars = [] ∧ Input.okWide C.prog (w.forCall tape i) .any w.heap.size f i ∧
      ((s.pre enc C.prog fn conds apart (w.forCall tape i).memory i.args ∧ X (w.forCall tape i).memory i.args) ∧ sizedMet enc C.prog fn (OpenSpec.ofChange s) apart (w.forCall tape i).memory i.args) ∧ a.holds C.prog (lone (Frame.enter C.prog f i.args .normal) [] (w.forCall tape i)))
    (contract : ∀ (W : World) (base : Nat) (args : Array Value) (ds gs : List (DataW H)) (before : List MemPlace),
      (∀ (j : Nat) t v, fn.params[j]? = some t → args[j]? = some v → Value.okWide C.prog W .any base t v) →
      DataW.Whole enc C.prog fn.params.toList s.vars apart W args.toList ds gs before → X W args → W.ShapedOpen C.prog →
      Calls C.prog f args W fun e W' => ∃ v, e = .returned v ∧ s.post enc C.prog fn apart fresh handsOn again W args v W') :
    ReturnsInHanded a C os f .any (fun w args => (s.pre enc C.prog fn conds apart w args ∧ X w args) ∧ sizedMet enc C.prog fn (OpenSpec.ofChange s) apart w args) (s.post enc C.prog fn apart fresh handsOn again) := by
  refine returnsInHanded_of_calls own started noInit witness ?_
  intro w tape i _ hsh _ hok hpre _
  obtain ⟨_, _, _, fn', hfn', _, _, _, _, hval⟩ := hok
  have e : fn' = fn := Option.some.inj (hfn'.symm.trans hfn)
  subst e
  obtain ⟨⟨⟨ds, gs, before, hw, _⟩, hx⟩, _⟩ := hpre
  have hw' := DataW.Whole.of_heap (w' := w.forCall tape i) (by rfl) hw
  refine (contract (w.forCall tape i) w.heap.size i.args ds gs before hval hw' (hX _ _ _ (by rfl) hx) hsh).mono fun e W' ⟨v, he, hp⟩ => ?_
  subst he
  exact ChangeSpec.post_blind hp
end Go.Proofs.YthdnepjajhjmlaaGreatDoor
namespace Go.Proofs.YthdnepjajhjmlaaGreatDoor
set_option linter.unusedSimpArgs false
set_option linter.unusedVariables false
open Go Cn Go.RowKit
section
variable {P : Program} {N B : Nat} {E : Env} {W : World} {ops : Array Oper} {K : Exit → Env → World → Prop} {T : Tab} {o : Oper}
def evCs (T : Tab) (E : Env) (o : Oper) : Option (ByteArray × Int × Int) :=
  match o.op with
  | .slice t x lo hi none => match T.at t with
    | some ⟨.string, _, _, _⟩ => match ev E x with
      | some (.string s) => match lo with
        | some lo => match ev E lo with
          | some (.int _ l) => match hi with
            | some hi => match ev E hi with
              | some (.int _ h) => some (s, l, h)
              | _ => none
            | none => some (s, l, s.size)
          | _ => none
        | none => match hi with
          | some hi => match ev E hi with
            | some (.int _ h) => some (s, 0, h)
            | _ => none
          | none => none
      | _ => none
    | _ => none
  | _ => none
theorem gives_cutS (hT : TabOk P T) {s : ByteArray} {l h : Int} (hv : evCs T E o = some (s, l, h)) (h0 : 0 ≤ l) (h1 : l ≤ h) (h2 : h ≤ s.size) : Gives P N B o E W (.string (s.extract l.toNat h.toNat)) W := by
  refine gives_of fun ac w ha hw hB => ⟨.string (s.extract l.toNat h.toNat), w, ?_, rfl, rfl⟩
  unfold evCs at hv
  split at hv
  · rename_i t x lo hi hop
    split at hv
    · rename_i s1 b1 z1 ht
      obtain ⟨hu, -⟩ := hT _ _ ht
      simp only at hu
      split at hv
      · rename_i s' hx
        have e1 := cv_string (ev_sound ha hx)
        split at hv
        · rename_i lo'
          split at hv
          · rename_i kl l' hl
            have e2 := cv_int (ev_sound ha hl)
            split at hv
            · rename_i hi'
              split at hv
              · rename_i kh h' hh
                have e3 := cv_int (ev_sound ha hh)
                cases hv
                simp only [execOp, hop, e1, Option.map_some, e2, e3, Option.map_none]
                refine run_v ?_
                rw [run_sliceAt_string w t _ _ _ _ hu]
                have eh : (h.toNat : Int) = h := Int.toNat_of_nonneg (by omega)
                simp [Instr.slice, run_underlying hu, Instr.sliceBounds, run_sliceBound, sliced, h0, h1, h2, eh, (by omega : 0 ≤ h)]
              · cases hv
            · cases hv
              simp only [execOp, hop, e1, Option.map_some, e2, Option.map_none]
              refine run_v ?_
              rw [run_sliceAt_string w t _ _ _ _ hu, run_slice_string_l w t s hu kl l h0 (by omega)]
              rfl
          · cases hv
        · split at hv
          · rename_i hi'
            split at hv
            · rename_i kh h' hh
              have e3 := cv_int (ev_sound ha hh)
              cases hv
              simp only [execOp, hop, e1, Option.map_some, e3, Option.map_none]
              refine run_v ?_
              rw [run_sliceAt_string w t _ _ _ _ hu, run_slice_string_h w t s hu kh h (by omega) h2]
              rfl
            · cases hv
          · cases hv
      · cases hv
    · cases hv
  · cases hv
theorem s_cutS (hT : TabOk P T) {i : Nat} {rest : List Nat} {d : Nat} {op : Op} {ty : TypeId} {pos : String} {aft : Array Edge} {g : Option (Nat × Bool)} {s : ByteArray} {l h : Int} (ho : getL ops.toList i = some ⟨some d, op, ty, pos, aft, g⟩) (hg : guardE ops ⟨some d, op, ty, pos, aft, g⟩ E = some true) (hd : Nat.ble (d + 1) N = true)
    (hv : evCs T E ⟨some d, op, ty, pos, aft, g⟩ = some (s, l, h)) (h0 : 0 ≤ l) (h1 : l ≤ h) (h2 : h ≤ s.size) (k : AOps P N B ops rest K ((d, .string (s.extract l.toNat h.toNat)) :: E) W) : AOps P N B ops (i :: rest) K E W :=
  aops_gives (getL_ok ho) hg hd (gives_cutS hT hv h0 h1 h2) k
end
theorem extract_size {s : ByteArray} {i j : Nat} (h : j ≤ s.size) : (s.extract i j).size = j - i := by
  rw [ByteArray.size_extract]; omega
theorem bsLoop (bs : ByteArray) : ∀ (n i : Nat) (r : List UInt8), n = bs.size - i → ByteArray.toList.loop bs i r = r.reverse ++ bs.data.toList.drop i := by
  have hl : bs.data.toList.length = bs.size := Array.length_toList
  intro n
  induction n with
  | zero =>
    intro i r h
    unfold ByteArray.toList.loop
    rw [if_neg (by omega)]
    have : bs.data.toList.drop i = [] := List.drop_eq_nil_of_le (by omega)
    rw [this, List.append_nil]
  | succ n ih =>
    intro i r h
    unfold ByteArray.toList.loop
    rw [if_pos (by omega), ih (i + 1) _ (by omega)]
    have hi : i < bs.data.toList.length := by omega
    have hi2 : i < bs.data.size := by omega
    rw [List.drop_eq_getElem_cons hi]
    have : bs.get! i = bs.data.toList[i] := by
      show bs.data[i]! = _
      rw [getElem!_pos bs.data i hi2, Array.getElem_toList]
    rw [this, List.reverse_cons, List.append_assoc]
    rfl
theorem bsList (bs : ByteArray) : bs.toList = bs.data.toList := by
  unfold ByteArray.toList
  rw [bsLoop bs _ 0 [] rfl]; rfl
theorem bs_eq {a b : ByteArray} : a.toList = b.toList ↔ a = b := by
  rw [bsList, bsList]
  constructor
  · intro h
    cases a; cases b
    congr 1
    exact Array.toList_inj.1 h
  · rintro rfl; rfl
end Go.Proofs.YthdnepjajhjmlaaGreatDoor
namespace Go.Proofs.YthdnepjajhjmlaaGreatDoor
set_option linter.unusedSimpArgs false
set_option linter.unusedVariables false
open Go Cn Go.RowKit
section
variable {B : Nat} {W : World}
/-- the library's variable MaxLen holds an int -/
def LibG (W : World) : Prop := ∃ m, W.cell? ⟨Tryz.lays146_ren.g 1, 0, none⟩ = some (.int .i64 m)
theorem LibG.below {A W : World} (h : LibG A) (hb : Below A.heap.size A W) : LibG W := by
  obtain ⟨m, hm⟩ := h
  exact ⟨m, (hb.cell (World.block_lt_of_cell? _ _ hm)).trans hm⟩
theorem LibG.hp {A : World} {l : List Res} (h : LibG A) (H : Hp B A W l) : LibG W := h.below H.below
theorem libG_of {W : World} (h : W.ShapedOpen Tryz.prog) : LibG (cw W.heap.size W) := by
  obtain ⟨m, hm⟩ := Tryz.laysM146.s1_3 W h
  refine ⟨m, ?_⟩
  rw [cw_cell]
  split
  · exact hm
  · have h2 : W.cell? ⟨Tryz.lays146_ren.g 1, 0, none⟩ = some (.int .i64 m) := hm
    rw [h2]; rfl
theorem LibG.raw {w : World} (h : LibG (cw B w)) : ∃ m, w.cell? ⟨Tryz.lays146_ren.g 1, 0, none⟩ = some (.int .i64 m) := by
  obtain ⟨m, hm⟩ := h
  rw [cw_cell] at hm
  split at hm
  · exact ⟨m, hm⟩
  · cases hc : w.cell? ⟨Tryz.lays146_ren.g 1, 0, none⟩ with
    | none => rw [hc] at hm; cases hm
    | some u =>
      rw [hc] at hm
      simp only [Option.map_some, Option.some.injEq] at hm
      refine ⟨m, ?_⟩
      cases u <;> simp_all [cl]
theorem strs2 {xs : Array Value} {a b : ByteArray} (h : xs.toList.map cv = [.string a, .string b]) : xs = #[.string a, .string b] := by
  obtain ⟨l⟩ := xs
  match l, h with
  | [u, v], h =>
    simp only [List.map_cons, List.map_nil, List.cons.injEq, and_true] at h
    rw [cv_string h.1, cv_string h.2]
  | [], h => cases h
  | [_], h => simp at h
  | _ :: _ :: _ :: _, h => simp at h
theorem c_Split (hG : LibG W) {s : ByteArray} {c : UInt8} (hs : s.size ≤ 1048576) (hB : B ≤ W.heap.size) :
    ACalls Tryz.prog B 22 [.string s, .string ⟨#[c]⟩] W (fun r W' => ∃ b, r = .slice (some ⟨b, 0, none⟩) (cutB c s).length (cutB c s).length ∧
      Hp B W W' [.row 9 1 (.slice (some ⟨b, 0, none⟩) (cutB c s).length (cutB c s).length) (cutB c s).length ((cutB c s).map .string)]) := by
  refine acalls_intro fun xs w h1 h2 h3 => ?_
  subst h2
  obtain ⟨m, hm⟩ := hG.raw
  rw [strs2 h1]
  refine (Tryz.strings_Split s ⟨#[c]⟩ m w (by omega) hm (Nat.le_refl 1)).mono fun e w' ⟨he, hw⟩ => ?_
  subst hw
  rw [split_cut, split_count] at *
  have hl := cutB_len c s
  refine ⟨_, he, ?_, w.heap.size, rfl, ?_⟩
  · exact Nat.le_trans h3 (Below.size ((Below.refl w.heap.size w).alloc (Nat.le_refl _) _))
  · rw [cw_alloc h3]
    have e1 : co (.cells ((cutB c s).map Value.string).toArray 9) = .cells ((cutB c s).map Value.string).toArray 9 := by
      simp [co, cl]
    rw [e1]
    have := Hp.allocRow (Hp.new (B := B) (W := cw B w) (by simpa using h3)) (cs := ((cutB c s).map Value.string).toArray) (c := (cutB c s).map Value.string) (e := 9) (sz := 1) (n := (cutB c s).length) (m := (cutB c s).length)
      (List.take_of_length_le (by simp)) (Nat.le_refl _) (by unfold maxLen; omega) (by simp) (by simp [Value.oneCell']) (by intro x hx; simp at hx; obtain ⟨y, -, rfl⟩ := hx; rfl)
    rwa [cw_size] at this
end
end Go.Proofs.YthdnepjajhjmlaaGreatDoor
namespace Go.Proofs.YthdnepjajhjmlaaGreatDoor
set_option linter.unusedSimpArgs false
set_option linter.unusedVariables false
open Go Cn Go.RowKit
def chk (n : Int) (s : ByteArray) : Nat → Int
  | 0 => n
  | i + 1 => (827 * chk n s i + bt s i + 127) % 65003
attribute [irreducible] chk
section
variable {P : Program} {N B : Nat} {E : Env} {W : World} {ops : Array Oper} {K : Exit → Env → World → Prop} {T : Tab}
theorem s_wrap (hT : TabOk P T) {i : Nat} {rest : List Nat} {d : Nat} {op : Op} {ty : TypeId} {pos : String} {aft : Array Edge} {g : Option (Nat × Bool)} {k : IntKind} {z : Int} (ho : getL ops.toList i = some ⟨some d, op, ty, pos, aft, g⟩) (hg : guardE ops ⟨some d, op, ty, pos, aft, g⟩ E = some true) (hd : Nat.ble (d + 1) N = true)
    (hv : evA T E ⟨some d, op, ty, pos, aft, g⟩ = some (k, z)) (h : AOps P N B ops rest K ((d, .int k (k.wrap z)) :: E) W) : AOps P N B ops (i :: rest) K E W :=
  aops_gives (getL_ok ho) hg hd (gives_evA hT hv) h
end
section
variable {B : Nat} {W : World}
end
end Go.Proofs.YthdnepjajhjmlaaGreatDoor
namespace Go.Proofs.YthdnepjajhjmlaaGreatDoor
set_option linter.unusedSimpArgs false
set_option linter.unusedVariables false
open Go Cn Go.RowKit
section
variable {B : Nat} {W : World}
theorem Below.cwB {k : Nat} {w w' : World} (h : Below k w w') : Below k (cw B w) (cw B w') :=
  ⟨h.os, h.tape, h.output, by rw [cw_size, cw_size]; exact h.size, fun i hi => by rw [cw_heap, cw_heap, h.block i hi]⟩
/-- the library's table of powers -/
def TabG (W : World) : Prop := Lib.TabIs Tryz.prog W "internal/strconv.uint64pow10" .u64 Lib.pow10Tab
theorem TabG.raw {w : World} (h : TabG (cw B w)) : TabG w := by
  unfold TabG Lib.TabIs World.var? at *
  cases hg : Program.globalNamed Tryz.prog "internal/strconv.uint64pow10" with
  | none => rw [hg] at h; cases h
  | some g =>
    rw [hg] at h
    simp only [Option.bind_some] at h ⊢
    rw [cw_heap] at h
    cases ho : w.heap[g]? with
    | none => rw [ho] at h; cases h
    | some o =>
      rw [ho] at h
      simp only [Option.map_some] at h
      by_cases hl : g < B
      · rw [if_pos hl] at h; exact h
      · rw [if_neg hl] at h
        cases o with
        | cells c e f =>
          simp only [co] at h ⊢
          rw [Option.some.injEq] at h ⊢
          apply Array.ext
          · have := congrArg Array.size h
            simpa using this
          · intro i h1 h2
            have h3 := congrArg (fun a => a[i]?) h
            simp only [Array.getElem?_map, Array.getElem?_eq_getElem h1, Option.map_some, Array.getElem?_eq_getElem h2, Option.some.injEq] at h3
            simp only [List.getElem_toArray, List.getElem_map, Array.getElem_toList] at h3 ⊢
            generalize c[i] = u at h3
            cases u <;> simp_all [cl]
        | _ => cases h
theorem TabG.below {A W : World} (h : TabG A) (hb : Below A.heap.size A W) : TabG W := by
  unfold TabG Lib.TabIs World.var? at *
  cases hg : Program.globalNamed Tryz.prog "internal/strconv.uint64pow10" with
  | none => rw [hg] at h; cases h
  | some g =>
    rw [hg] at h
    simp only [Option.bind_some] at h ⊢
    cases ho : A.heap[g]? with
    | none => rw [ho] at h; cases h
    | some o =>
      rw [ho] at h
      have hlt : g < A.heap.size := by
        rcases Nat.lt_or_ge g A.heap.size with h | h
        · exact h
        · rw [Array.getElem?_eq_none h] at ho; cases ho
      rw [hb.block g hlt, ho]
      exact h
theorem TabG.hp {A : World} {l : List Res} (h : TabG A) (H : Hp B A W l) : TabG W := h.below H.below
/-- a number's text -/
@[irreducible] def decS (n : Int) : ByteArray := ofL (Lib.itoa n)
theorem ints2 {xs : Array Value} {k k' : IntKind} {a b : Int} (h : xs.toList.map cv = [.int k a, .int k' b]) : xs = #[.int k a, .int k' b] := by
  obtain ⟨l⟩ := xs
  match l, h with
  | [u, v], h =>
    simp only [List.map_cons, List.map_nil, List.cons.injEq, and_true] at h
    rw [cv_int h.1, cv_int h.2]
  | [], h => cases h
  | [_], h => simp at h
  | _ :: _ :: _ :: _, h => simp at h
theorem c_FormatInt (hT : TabG W) {n : Int} (h0 : -9223372036854775808 ≤ n) (h1 : n ≤ 9223372036854775807) (hB : B ≤ W.heap.size) :
    ACalls Tryz.prog B 56 [.int .i64 n, .int .i64 10] W (fun r W' => r = .string (decS n) ∧ Hp B W W' []) := by
  refine acalls_intro fun xs w e1 e2 e3 => ?_
  subst e2
  rw [ints2 e1]
  refine (Tryz.strconv_FormatInt_10 n h0 h1 w hT.raw).mono fun e w' ⟨he, k, os, hw⟩ => ?_
  subst hw
  have hb : Below w.heap.size w (Sort.grow (w.drewN k) os) := ⟨rfl, rfl, rfl, by simp [Sort.grow], fun i hi => by simp only [Sort.grow]; exact Array.getElem?_append_left hi⟩
  refine ⟨_, he, Nat.le_trans e3 hb.size, ?_, ?_⟩
  · unfold decS; rfl
  · have := (Hp.new (B := B) (W := cw B w) (by simpa using e3)).grow (by rw [cw_size]; exact Below.cwB hb)
    exact this
theorem c_impl_Decimal (hT : TabG W) {n : Int} (h0 : -9223372036854775808 ≤ n) (h1 : n ≤ 9223372036854775807) (hB : B ≤ W.heap.size) :
    ACalls Tryz.prog B 35 [.int .i64 n] W (fun r W' => r = .string (decS n) ∧ Hp B W W' []) := by
  have H0 : Hp B W W [] := Hp.new hB
  refine acalls_of Tryz.func35 rfl Tryz.ntmps35 (Nat.le_of_ble_eq_true rfl) ?_
  repeat' (first | refine s_pure tabOk rfl rfl rfl rfl ?_ | refine Stp.imp ?_ | refine aops_nil ?_ | refine aw_reg ?_ | refine aw_seq ?_ | refine s_pass rfl rfl rfl ?_ | refine s_len tabOk rfl rfl rfl rfl ?_ | refine aw_true rfl ?_ | refine aw_false rfl ?_ | refine blk_exit_other rfl ?_ | refine s_arith tabOk rfl rfl rfl rfl (by simp only [InR]; omega) ?_ | ((first | ((fail_if_success refine s_told rfl rfl ?_); refine s_part rfl rfl rfl ?_ ?_) | refine aw_if rfl ?_ ?_) <;> intro hc <;> (first | replace hc := DecT.imp hc | simp only [decs] at hc | skip)) | refine s_index1n tabOk rfl rfl rfl rfl (by omega) ?_ | refine s_indexn tabOk rfl rfl rfl rfl (by omega) ?_ | refine s_index1 tabOk rfl rfl rfl rfl (by omega) (by omega) ?_ | refine sh_load tabOk (by assumption) rfl rfl rfl rfl (by repeat (first | exact List.Mem.head _ | apply List.Mem.tail)) (by rfl) (by rfl) ?_ | refine sh_loada tabOk (by assumption) rfl rfl rfl rfl (by repeat (first | exact List.Mem.head _ | apply List.Mem.tail)) (by rfl) ?_ | (refine sh_box (by assumption) rfl rfl rfl rfl rfl rfl ?_; intro _ _ _) | (refine sh_alloc tabOk (by assumption) rfl rfl rfl rfl rfl rfl ?_; intro _ _ _) | (refine sh_store tabOk (by assumption) rfl rfl rfl rfl rfl rfl (by repeat (first | exact Upd.here | apply Upd.there)) (by rfl) ?_; intro _ _) | (refine sh_lit tabOk (by assumption) rfl rfl rfl rfl rfl rfl rfl rfl rfl rfl rfl ?_; intro _ _ _) | refine sh_build tabOk rfl rfl rfl rfl rfl rfl ?_)
  refine s_call rfl rfl rfl rfl ent56 (c_FormatInt hT h0 h1 hB) ?_
  rintro _ W1 ⟨rfl, g1⟩
  repeat' (first | refine s_pure tabOk rfl rfl rfl rfl ?_ | refine Stp.imp ?_ | refine aops_nil ?_ | refine aw_reg ?_ | refine aw_seq ?_ | refine s_pass rfl rfl rfl ?_ | refine s_len tabOk rfl rfl rfl rfl ?_ | refine aw_true rfl ?_ | refine aw_false rfl ?_ | refine blk_exit_other rfl ?_ | refine s_arith tabOk rfl rfl rfl rfl (by simp only [InR]; omega) ?_ | ((first | ((fail_if_success refine s_told rfl rfl ?_); refine s_part rfl rfl rfl ?_ ?_) | refine aw_if rfl ?_ ?_) <;> intro hc <;> (first | replace hc := DecT.imp hc | simp only [decs] at hc | skip)) | refine s_index1n tabOk rfl rfl rfl rfl (by omega) ?_ | refine s_indexn tabOk rfl rfl rfl rfl (by omega) ?_ | refine s_index1 tabOk rfl rfl rfl rfl (by omega) (by omega) ?_ | refine sh_load tabOk (by assumption) rfl rfl rfl rfl (by repeat (first | exact List.Mem.head _ | apply List.Mem.tail)) (by rfl) (by rfl) ?_ | refine sh_loada tabOk (by assumption) rfl rfl rfl rfl (by repeat (first | exact List.Mem.head _ | apply List.Mem.tail)) (by rfl) ?_ | (refine sh_box (by assumption) rfl rfl rfl rfl rfl rfl ?_; intro _ _ _) | (refine sh_alloc tabOk (by assumption) rfl rfl rfl rfl rfl rfl ?_; intro _ _ _) | (refine sh_store tabOk (by assumption) rfl rfl rfl rfl rfl rfl (by repeat (first | exact Upd.here | apply Upd.there)) (by rfl) ?_; intro _ _) | (refine sh_lit tabOk (by assumption) rfl rfl rfl rfl rfl rfl rfl rfl rfl rfl rfl ?_; intro _ _ _) | refine sh_build tabOk rfl rfl rfl rfl rfl rfl ?_)
  refine retK_ret tabOk (congrArg Array.toList Tryz.results35) (by repeat (first | exact rv_nil | apply rv_tmp rfl rfl | apply rv_cellH (by assumption) rfl rfl rfl (by repeat (first | exact List.Mem.head _ | apply List.Mem.tail)) rfl)) ?_
  exact ⟨rfl, g1⟩
end
/-! ### the reference's numbers -/
def restZ (n : Int) : Nat → Int
  | 0 => n
  | k + 1 => (restZ n k).tdiv 10
def lowD (u : Nat) : Nat → List Int
  | 0 => []
  | k + 1 => ((48 + u / 10 ^ k % 10 : Nat) : Int) :: lowD u k
theorem restZ_abs (n : Int) : ∀ k, (restZ n k).natAbs = n.natAbs / 10 ^ k
  | 0 => by simp [restZ]
  | k + 1 => by rw [restZ, Int.natAbs_tdiv, restZ_abs n k, Nat.pow_succ, ← Nat.div_div_eq_div_mul]; rfl
theorem restZ_dig (n : Int) (k : Nat) : ((restZ n k).tmod 10).natAbs = n.natAbs / 10 ^ k % 10 := by
  rw [Int.natAbs_tmod, restZ_abs]; rfl
theorem lowD_map (u : Nat) : ∀ k, (lowD u k).map (fun n => UInt8.ofNat n.toNat) = (List.range k).map fun t => Lib.dg u (k - 1 - t)
  | 0 => rfl
  | k + 1 => by
    rw [lowD, List.map_cons, lowD_map u k, List.range_succ_eq_map, List.map_cons, List.map_map]
    congr 1
    refine List.map_congr_left fun t ht => ?_
    have := List.mem_range.1 ht
    simp only [Function.comp]
    congr 1
    omega
theorem decS_pos {n : Int} {k : Nat} (h : 0 ≤ n) (hk : k = Lib.nDigits n.natAbs) : strOfNums (lowD n.natAbs k) = decS n := by
  subst hk
  unfold decS Lib.itoa
  rw [if_neg (by omega)]
  apply ByteArray.ext
  apply Array.toList_inj.1
  rw [strOfNums_data, lowD_map, ← Lib.decDigits_eq, ofL_data, show n.toNat = n.natAbs by omega]
theorem decS_neg {n : Int} {k : Nat} (h : n < 0) (hk : k = Lib.nDigits n.natAbs) : strOfNums (45 :: lowD n.natAbs k) = decS n := by
  subst hk
  unfold decS Lib.itoa
  rw [if_pos h]
  apply ByteArray.ext
  apply Array.toList_inj.1
  rw [strOfNums_data, List.map_cons, lowD_map, ← Lib.decDigits_eq, ofL_data]
  rfl
/-- so many digits are told -/
def DigI (u k : Nat) : Prop := k ≤ 17 ∧ (k ≤ 1 ∨ 10 ^ (k - 1) ≤ u)
theorem DigI.zero (u : Nat) : DigI u 0 := ⟨by omega, .inl (by omega)⟩
theorem pow_lt_of {k u : Nat} (h : 10 ^ k ≤ u) (hu : u < 10 ^ 16) : k < 16 := by
  rcases Nat.lt_or_ge k 16 with h1 | h1
  · exact h1
  · have := Nat.pow_le_pow_right (n := 10) (by omega) h1
    omega
theorem DigI.next {n : Int} {k : Nat} (h : DigI n.natAbs k) (hn : n.natAbs < 10 ^ 16) (hc : k = 0 ∨ restZ n k ≠ 0) : DigI n.natAbs (k + 1) := by
  rcases hc with rfl | hc
  · exact ⟨by omega, .inl (by omega)⟩
  · have h1 := restZ_abs n k
    have h2 : 10 ^ k ≤ n.natAbs := by
      rcases Nat.lt_or_ge n.natAbs (10 ^ k) with h3 | h3
      · rw [Nat.div_eq_of_lt h3] at h1; omega
      · exact h3
    have := pow_lt_of h2 hn
    exact ⟨by omega, .inr (by simpa using h2)⟩
theorem DigI.done {n : Int} {k : Nat} (h : DigI n.natAbs k) (hk : k ≠ 0) (hr : restZ n k = 0) : k = Lib.nDigits n.natAbs := by
  have h1 := restZ_abs n k
  rw [hr] at h1
  have h2 : n.natAbs < 10 ^ k := by
    rcases Nat.lt_or_ge n.natAbs (10 ^ k) with h3 | h3
    · exact h3
    · have := Nat.div_pos h3 (Nat.pow_pos (by omega)); simp at h1; omega
  obtain ⟨j, rfl⟩ : ∃ j, k = j + 1 := ⟨k - 1, by omega⟩
  rcases h.2 with h3 | h3
  · obtain rfl : j = 0 := by omega
    rw [Lib.nDigits_small (by simpa using h2)]
  · exact (Lib.nDigits_unique j _ (by simpa using h3) h2).symm
attribute [irreducible] restZ lowD
theorem restZ_zero (n : Int) : restZ n 0 = n := by unfold restZ; rfl
theorem restZ_succ (n : Int) (k : Nat) : restZ n (k + 1) = (restZ n k).tdiv 10 := by conv => lhs; unfold restZ
theorem lowD_zero (u : Nat) : lowD u 0 = [] := by unfold lowD; rfl
theorem lowD_succ (u k : Nat) : lowD u (k + 1) = ((48 + u / 10 ^ k % 10 : Nat) : Int) :: lowD u k := by conv => lhs; unfold lowD
section
variable {B : Nat} {W : World}
theorem c_spec_l01Dec {n : Int} (hn : n.natAbs < 10 ^ 16) (hB : B ≤ W.heap.size) :
    ACalls Tryz.prog B 43 [.int .i64 n] W (fun r W' => r = .string (decS n) ∧ Hp B W W' []) := by
  have H0 : Hp B W W [] := Hp.new hB
  refine acalls_of Tryz.func43 rfl Tryz.ntmps43 (Nat.le_of_ble_eq_true rfl) ?_
  repeat' (first | refine s_pure tabOk rfl rfl rfl rfl ?_ | refine Stp.imp ?_ | refine aops_nil ?_ | refine aw_reg ?_ | refine aw_seq ?_ | refine s_pass rfl rfl rfl ?_ | refine s_len tabOk rfl rfl rfl rfl ?_ | refine aw_true rfl ?_ | refine aw_false rfl ?_ | refine blk_exit_other rfl ?_ | refine s_arith tabOk rfl rfl rfl rfl (by simp only [InR]; omega) ?_ | ((first | ((fail_if_success refine s_told rfl rfl ?_); refine s_part rfl rfl rfl ?_ ?_) | refine aw_if rfl ?_ ?_) <;> intro hc <;> (first | replace hc := DecT.imp hc | simp only [decs] at hc | skip)) | refine s_index1n tabOk rfl rfl rfl rfl (by omega) ?_ | refine s_indexn tabOk rfl rfl rfl rfl (by omega) ?_ | refine s_index1 tabOk rfl rfl rfl rfl (by omega) (by omega) ?_ | refine sh_load tabOk (by assumption) rfl rfl rfl rfl (by repeat (first | exact List.Mem.head _ | apply List.Mem.tail)) (by rfl) (by rfl) ?_ | refine sh_loada tabOk (by assumption) rfl rfl rfl rfl (by repeat (first | exact List.Mem.head _ | apply List.Mem.tail)) (by rfl) ?_ | (refine sh_box (by assumption) rfl rfl rfl rfl rfl rfl ?_; intro _ _ _) | (refine sh_alloc tabOk (by assumption) rfl rfl rfl rfl rfl rfl ?_; intro _ _ _) | (refine sh_store tabOk (by assumption) rfl rfl rfl rfl rfl rfl (by repeat (first | exact Upd.here | apply Upd.there)) (by rfl) ?_; intro _ _) | (refine sh_lit tabOk (by assumption) rfl rfl rfl rfl rfl rfl rfl rfl rfl rfl rfl ?_; intro _ _ _) | refine sh_build tabOk rfl rfl rfl rfl rfl rfl ?_)
  rename_i b0 W1 H1
  refine aw_loopH (fun x : Nat × Option Addr × Nat => [(4, .int .i64 (restZ n x.1)), (3, .slice x.2.1 x.1 x.2.2), (2, .string ⟨#[]⟩), (0, .int .i64 n)])
    (fun x => [.row 5 1 (.slice x.2.1 x.1 x.2.2) x.1 (u8s (lowD n.natAbs x.1))])
    (fun x => DigI n.natAbs x.1) (fun x => 17 - x.1) (0, some ⟨b0, 0, none⟩, 0) (DigI.zero _) (by dsimp only; rw [lowD_zero]; exact H1.picks (by repeat (first | exact Picks.nil | (apply Picks.cons; (repeat (first | exact Pick.here | apply Pick.there)))))) (by dsimp only; rw [restZ_zero]; exact (by repeat (first | exact less_nil | refine less_cons rfl ?_))) ?_
  rintro ⟨k, ad, cp⟩ W2 hi H2
  dsimp only at hi H2 ⊢
  have hk17 := hi.1
  have ha := restZ_abs n k
  have hdg := restZ_dig n k
  have hle : (restZ n k).natAbs < 10 ^ 16 := by
    rw [ha]; exact Nat.lt_of_le_of_lt (Nat.div_le_self _ _) hn
  have hz : -10000000000000000 < restZ n k ∧ restZ n k < 10000000000000000 := by omega
  have hd9 : n.natAbs / 10 ^ k % 10 < 10 := Nat.mod_lt _ (by omega)
  have hq : ((restZ n k).tdiv 10).natAbs = (restZ n k).natAbs / 10 := by rw [Int.natAbs_tdiv]; rfl
  have hs := restZ_succ n k
  have hl := lowD_succ n.natAbs k
  generalize n.natAbs / 10 ^ k % 10 = dg at *
  generalize hdd : (restZ n k).tmod 10 = dd at *
  generalize hqq : (restZ n k).tdiv 10 = qq at *
  repeat' (first | refine s_pure tabOk rfl rfl rfl rfl ?_ | refine Stp.imp ?_ | refine aops_nil ?_ | refine aw_reg ?_ | refine aw_seq ?_ | refine s_pass rfl rfl rfl ?_ | refine s_len tabOk rfl rfl rfl rfl ?_ | refine aw_true rfl ?_ | refine aw_false rfl ?_ | refine blk_exit_other rfl ?_ | refine s_arith tabOk rfl rfl rfl rfl (by simp only [InR]; omega) ?_ | ((first | ((fail_if_success refine s_told rfl rfl ?_); refine s_part rfl rfl rfl ?_ ?_) | refine aw_if rfl ?_ ?_) <;> intro hc <;> (first | replace hc := DecT.imp hc | simp only [decs] at hc | skip)) | refine s_index1n tabOk rfl rfl rfl rfl (by omega) ?_ | refine s_indexn tabOk rfl rfl rfl rfl (by omega) ?_ | refine s_index1 tabOk rfl rfl rfl rfl (by omega) (by omega) ?_ | refine sh_load tabOk (by assumption) rfl rfl rfl rfl (by repeat (first | exact List.Mem.head _ | apply List.Mem.tail)) (by rfl) (by rfl) ?_ | refine sh_loada tabOk (by assumption) rfl rfl rfl rfl (by repeat (first | exact List.Mem.head _ | apply List.Mem.tail)) (by rfl) ?_ | (refine sh_box (by assumption) rfl rfl rfl rfl rfl rfl ?_; intro _ _ _) | (refine sh_alloc tabOk (by assumption) rfl rfl rfl rfl rfl rfl ?_; intro _ _ _) | (refine sh_store tabOk (by assumption) rfl rfl rfl rfl rfl rfl (by repeat (first | exact Upd.here | apply Upd.there)) (by rfl) ?_; intro _ _) | (refine sh_lit tabOk (by assumption) rfl rfl rfl rfl rfl rfl rfl rfl rfl rfl rfl ?_; intro _ _ _) | refine sh_build tabOk rfl rfl rfl rfl rfl rfl ?_)
  · have hcc : k = 0 ∨ restZ n k ≠ 0 := .inl (by omega)
    have hk1 := (hi.next hn hcc).1
    refine s_tmod rfl rfl rfl rfl (by decide) ?_
    rw [hdd]
    repeat' (first | refine s_pure tabOk rfl rfl rfl rfl ?_ | refine Stp.imp ?_ | refine aops_nil ?_ | refine aw_reg ?_ | refine aw_seq ?_ | refine s_pass rfl rfl rfl ?_ | refine s_len tabOk rfl rfl rfl rfl ?_ | refine aw_true rfl ?_ | refine aw_false rfl ?_ | refine blk_exit_other rfl ?_ | refine s_arith tabOk rfl rfl rfl rfl (by simp only [InR]; omega) ?_ | ((first | ((fail_if_success refine s_told rfl rfl ?_); refine s_part rfl rfl rfl ?_ ?_) | refine aw_if rfl ?_ ?_) <;> intro hc <;> (first | replace hc := DecT.imp hc | simp only [decs] at hc | skip)) | refine s_index1n tabOk rfl rfl rfl rfl (by omega) ?_ | refine s_indexn tabOk rfl rfl rfl rfl (by omega) ?_ | refine s_index1 tabOk rfl rfl rfl rfl (by omega) (by omega) ?_ | refine sh_load tabOk (by assumption) rfl rfl rfl rfl (by repeat (first | exact List.Mem.head _ | apply List.Mem.tail)) (by rfl) (by rfl) ?_ | refine sh_loada tabOk (by assumption) rfl rfl rfl rfl (by repeat (first | exact List.Mem.head _ | apply List.Mem.tail)) (by rfl) ?_ | (refine sh_box (by assumption) rfl rfl rfl rfl rfl rfl ?_; intro _ _ _) | (refine sh_alloc tabOk (by assumption) rfl rfl rfl rfl rfl rfl ?_; intro _ _ _) | (refine sh_store tabOk (by assumption) rfl rfl rfl rfl rfl rfl (by repeat (first | exact Upd.here | apply Upd.there)) (by rfl) ?_; intro _ _) | (refine sh_lit tabOk (by assumption) rfl rfl rfl rfl rfl rfl rfl rfl rfl rfl rfl ?_; intro _ _ _) | refine sh_build tabOk rfl rfl rfl rfl rfl rfl ?_)
    · refine sh_append tabOk (by assumption) rfl rfl rfl rfl rfl rfl rfl rfl rfl (fun _ _ => (by repeat (first | exact Upd.here | apply Upd.there))) (Hp.row_sl (by assumption) (by repeat (first | exact List.Mem.head _ | apply List.Mem.tail))) (by omega) ?_
      intro a7 c7 W7 H7
      rw [show 48 + (0 - dd) = ((48 + dg : Nat) : Int) by omega] at H7
      rw [Nat.add_comm 1 k] at H7 ⊢
      have H8 : Hp B W W7 [.row 5 1 (.slice a7 (k + 1) c7) (k + 1) (u8s (lowD n.natAbs (k + 1)))] := by rw [hl]; exact Hp.picks H7 (by repeat (first | exact Picks.nil | (apply Picks.cons; (repeat (first | exact Pick.here | apply Pick.there)))))
      repeat' (first | refine s_pure tabOk rfl rfl rfl rfl ?_ | refine Stp.imp ?_ | refine aops_nil ?_ | refine aw_reg ?_ | refine aw_seq ?_ | refine s_pass rfl rfl rfl ?_ | refine s_len tabOk rfl rfl rfl rfl ?_ | refine aw_true rfl ?_ | refine aw_false rfl ?_ | refine blk_exit_other rfl ?_ | refine s_arith tabOk rfl rfl rfl rfl (by simp only [InR]; omega) ?_ | ((first | ((fail_if_success refine s_told rfl rfl ?_); refine s_part rfl rfl rfl ?_ ?_) | refine aw_if rfl ?_ ?_) <;> intro hc <;> (first | replace hc := DecT.imp hc | simp only [decs] at hc | skip)) | refine s_index1n tabOk rfl rfl rfl rfl (by omega) ?_ | refine s_indexn tabOk rfl rfl rfl rfl (by omega) ?_ | refine s_index1 tabOk rfl rfl rfl rfl (by omega) (by omega) ?_ | refine sh_load tabOk (by assumption) rfl rfl rfl rfl (by repeat (first | exact List.Mem.head _ | apply List.Mem.tail)) (by rfl) (by rfl) ?_ | refine sh_loada tabOk (by assumption) rfl rfl rfl rfl (by repeat (first | exact List.Mem.head _ | apply List.Mem.tail)) (by rfl) ?_ | (refine sh_box (by assumption) rfl rfl rfl rfl rfl rfl ?_; intro _ _ _) | (refine sh_alloc tabOk (by assumption) rfl rfl rfl rfl rfl rfl ?_; intro _ _ _) | (refine sh_store tabOk (by assumption) rfl rfl rfl rfl rfl rfl (by repeat (first | exact Upd.here | apply Upd.there)) (by rfl) ?_; intro _ _) | (refine sh_lit tabOk (by assumption) rfl rfl rfl rfl rfl rfl rfl rfl rfl rfl rfl ?_; intro _ _ _) | refine sh_build tabOk rfl rfl rfl rfl rfl rfl ?_)
      refine s_tdiv rfl rfl rfl rfl (by decide) ?_
      rw [hqq, wrap_inR (by simp only [InR]; omega)]
      repeat' (first | refine s_pure tabOk rfl rfl rfl rfl ?_ | refine Stp.imp ?_ | refine aops_nil ?_ | refine aw_reg ?_ | refine aw_seq ?_ | refine s_pass rfl rfl rfl ?_ | refine s_len tabOk rfl rfl rfl rfl ?_ | refine aw_true rfl ?_ | refine aw_false rfl ?_ | refine blk_exit_other rfl ?_ | refine s_arith tabOk rfl rfl rfl rfl (by simp only [InR]; omega) ?_ | ((first | ((fail_if_success refine s_told rfl rfl ?_); refine s_part rfl rfl rfl ?_ ?_) | refine aw_if rfl ?_ ?_) <;> intro hc <;> (first | replace hc := DecT.imp hc | simp only [decs] at hc | skip)) | refine s_index1n tabOk rfl rfl rfl rfl (by omega) ?_ | refine s_indexn tabOk rfl rfl rfl rfl (by omega) ?_ | refine s_index1 tabOk rfl rfl rfl rfl (by omega) (by omega) ?_ | refine sh_load tabOk (by assumption) rfl rfl rfl rfl (by repeat (first | exact List.Mem.head _ | apply List.Mem.tail)) (by rfl) (by rfl) ?_ | refine sh_loada tabOk (by assumption) rfl rfl rfl rfl (by repeat (first | exact List.Mem.head _ | apply List.Mem.tail)) (by rfl) ?_ | (refine sh_box (by assumption) rfl rfl rfl rfl rfl rfl ?_; intro _ _ _) | (refine sh_alloc tabOk (by assumption) rfl rfl rfl rfl rfl rfl ?_; intro _ _ _) | (refine sh_store tabOk (by assumption) rfl rfl rfl rfl rfl rfl (by repeat (first | exact Upd.here | apply Upd.there)) (by rfl) ?_; intro _ _) | (refine sh_lit tabOk (by assumption) rfl rfl rfl rfl rfl rfl rfl rfl rfl rfl rfl ?_; intro _ _ _) | refine sh_build tabOk rfl rfl rfl rfl rfl rfl ?_)
      exact rndh_next (k + 1, a7, c7) (by dsimp only; exact hi.next hn hcc) (by dsimp only; omega) (by dsimp only; rw [hs]; exact (by repeat (first | exact less_nil | refine less_cons rfl ?_))) (Hp.picks H8 (by repeat (first | exact Picks.nil | (apply Picks.cons; (repeat (first | exact Pick.here | apply Pick.there))))))
    · refine sh_append tabOk (by assumption) rfl rfl rfl rfl rfl rfl rfl rfl rfl (fun _ _ => (by repeat (first | exact Upd.here | apply Upd.there))) (Hp.row_sl (by assumption) (by repeat (first | exact List.Mem.head _ | apply List.Mem.tail))) (by omega) ?_
      intro a7 c7 W7 H7
      rw [show 48 + dd = ((48 + dg : Nat) : Int) by omega] at H7
      rw [Nat.add_comm 1 k] at H7 ⊢
      have H8 : Hp B W W7 [.row 5 1 (.slice a7 (k + 1) c7) (k + 1) (u8s (lowD n.natAbs (k + 1)))] := by rw [hl]; exact Hp.picks H7 (by repeat (first | exact Picks.nil | (apply Picks.cons; (repeat (first | exact Pick.here | apply Pick.there)))))
      repeat' (first | refine s_pure tabOk rfl rfl rfl rfl ?_ | refine Stp.imp ?_ | refine aops_nil ?_ | refine aw_reg ?_ | refine aw_seq ?_ | refine s_pass rfl rfl rfl ?_ | refine s_len tabOk rfl rfl rfl rfl ?_ | refine aw_true rfl ?_ | refine aw_false rfl ?_ | refine blk_exit_other rfl ?_ | refine s_arith tabOk rfl rfl rfl rfl (by simp only [InR]; omega) ?_ | ((first | ((fail_if_success refine s_told rfl rfl ?_); refine s_part rfl rfl rfl ?_ ?_) | refine aw_if rfl ?_ ?_) <;> intro hc <;> (first | replace hc := DecT.imp hc | simp only [decs] at hc | skip)) | refine s_index1n tabOk rfl rfl rfl rfl (by omega) ?_ | refine s_indexn tabOk rfl rfl rfl rfl (by omega) ?_ | refine s_index1 tabOk rfl rfl rfl rfl (by omega) (by omega) ?_ | refine sh_load tabOk (by assumption) rfl rfl rfl rfl (by repeat (first | exact List.Mem.head _ | apply List.Mem.tail)) (by rfl) (by rfl) ?_ | refine sh_loada tabOk (by assumption) rfl rfl rfl rfl (by repeat (first | exact List.Mem.head _ | apply List.Mem.tail)) (by rfl) ?_ | (refine sh_box (by assumption) rfl rfl rfl rfl rfl rfl ?_; intro _ _ _) | (refine sh_alloc tabOk (by assumption) rfl rfl rfl rfl rfl rfl ?_; intro _ _ _) | (refine sh_store tabOk (by assumption) rfl rfl rfl rfl rfl rfl (by repeat (first | exact Upd.here | apply Upd.there)) (by rfl) ?_; intro _ _) | (refine sh_lit tabOk (by assumption) rfl rfl rfl rfl rfl rfl rfl rfl rfl rfl rfl ?_; intro _ _ _) | refine sh_build tabOk rfl rfl rfl rfl rfl rfl ?_)
      refine s_tdiv rfl rfl rfl rfl (by decide) ?_
      rw [hqq, wrap_inR (by simp only [InR]; omega)]
      repeat' (first | refine s_pure tabOk rfl rfl rfl rfl ?_ | refine Stp.imp ?_ | refine aops_nil ?_ | refine aw_reg ?_ | refine aw_seq ?_ | refine s_pass rfl rfl rfl ?_ | refine s_len tabOk rfl rfl rfl rfl ?_ | refine aw_true rfl ?_ | refine aw_false rfl ?_ | refine blk_exit_other rfl ?_ | refine s_arith tabOk rfl rfl rfl rfl (by simp only [InR]; omega) ?_ | ((first | ((fail_if_success refine s_told rfl rfl ?_); refine s_part rfl rfl rfl ?_ ?_) | refine aw_if rfl ?_ ?_) <;> intro hc <;> (first | replace hc := DecT.imp hc | simp only [decs] at hc | skip)) | refine s_index1n tabOk rfl rfl rfl rfl (by omega) ?_ | refine s_indexn tabOk rfl rfl rfl rfl (by omega) ?_ | refine s_index1 tabOk rfl rfl rfl rfl (by omega) (by omega) ?_ | refine sh_load tabOk (by assumption) rfl rfl rfl rfl (by repeat (first | exact List.Mem.head _ | apply List.Mem.tail)) (by rfl) (by rfl) ?_ | refine sh_loada tabOk (by assumption) rfl rfl rfl rfl (by repeat (first | exact List.Mem.head _ | apply List.Mem.tail)) (by rfl) ?_ | (refine sh_box (by assumption) rfl rfl rfl rfl rfl rfl ?_; intro _ _ _) | (refine sh_alloc tabOk (by assumption) rfl rfl rfl rfl rfl rfl ?_; intro _ _ _) | (refine sh_store tabOk (by assumption) rfl rfl rfl rfl rfl rfl (by repeat (first | exact Upd.here | apply Upd.there)) (by rfl) ?_; intro _ _) | (refine sh_lit tabOk (by assumption) rfl rfl rfl rfl rfl rfl rfl rfl rfl rfl rfl ?_; intro _ _ _) | refine sh_build tabOk rfl rfl rfl rfl rfl rfl ?_)
      exact rndh_next (k + 1, a7, c7) (by dsimp only; exact hi.next hn hcc) (by dsimp only; omega) (by dsimp only; rw [hs]; exact (by repeat (first | exact less_nil | refine less_cons rfl ?_))) (Hp.picks H8 (by repeat (first | exact Picks.nil | (apply Picks.cons; (repeat (first | exact Pick.here | apply Pick.there))))))
  · have hcc : k = 0 ∨ restZ n k ≠ 0 := .inr hc
    have hk1 := (hi.next hn hcc).1
    refine s_tmod rfl rfl rfl rfl (by decide) ?_
    rw [hdd]
    repeat' (first | refine s_pure tabOk rfl rfl rfl rfl ?_ | refine Stp.imp ?_ | refine aops_nil ?_ | refine aw_reg ?_ | refine aw_seq ?_ | refine s_pass rfl rfl rfl ?_ | refine s_len tabOk rfl rfl rfl rfl ?_ | refine aw_true rfl ?_ | refine aw_false rfl ?_ | refine blk_exit_other rfl ?_ | refine s_arith tabOk rfl rfl rfl rfl (by simp only [InR]; omega) ?_ | ((first | ((fail_if_success refine s_told rfl rfl ?_); refine s_part rfl rfl rfl ?_ ?_) | refine aw_if rfl ?_ ?_) <;> intro hc <;> (first | replace hc := DecT.imp hc | simp only [decs] at hc | skip)) | refine s_index1n tabOk rfl rfl rfl rfl (by omega) ?_ | refine s_indexn tabOk rfl rfl rfl rfl (by omega) ?_ | refine s_index1 tabOk rfl rfl rfl rfl (by omega) (by omega) ?_ | refine sh_load tabOk (by assumption) rfl rfl rfl rfl (by repeat (first | exact List.Mem.head _ | apply List.Mem.tail)) (by rfl) (by rfl) ?_ | refine sh_loada tabOk (by assumption) rfl rfl rfl rfl (by repeat (first | exact List.Mem.head _ | apply List.Mem.tail)) (by rfl) ?_ | (refine sh_box (by assumption) rfl rfl rfl rfl rfl rfl ?_; intro _ _ _) | (refine sh_alloc tabOk (by assumption) rfl rfl rfl rfl rfl rfl ?_; intro _ _ _) | (refine sh_store tabOk (by assumption) rfl rfl rfl rfl rfl rfl (by repeat (first | exact Upd.here | apply Upd.there)) (by rfl) ?_; intro _ _) | (refine sh_lit tabOk (by assumption) rfl rfl rfl rfl rfl rfl rfl rfl rfl rfl rfl ?_; intro _ _ _) | refine sh_build tabOk rfl rfl rfl rfl rfl rfl ?_)
    · refine sh_append tabOk (by assumption) rfl rfl rfl rfl rfl rfl rfl rfl rfl (fun _ _ => (by repeat (first | exact Upd.here | apply Upd.there))) (Hp.row_sl (by assumption) (by repeat (first | exact List.Mem.head _ | apply List.Mem.tail))) (by omega) ?_
      intro a7 c7 W7 H7
      rw [show 48 + (0 - dd) = ((48 + dg : Nat) : Int) by omega] at H7
      rw [Nat.add_comm 1 k] at H7 ⊢
      have H8 : Hp B W W7 [.row 5 1 (.slice a7 (k + 1) c7) (k + 1) (u8s (lowD n.natAbs (k + 1)))] := by rw [hl]; exact Hp.picks H7 (by repeat (first | exact Picks.nil | (apply Picks.cons; (repeat (first | exact Pick.here | apply Pick.there)))))
      repeat' (first | refine s_pure tabOk rfl rfl rfl rfl ?_ | refine Stp.imp ?_ | refine aops_nil ?_ | refine aw_reg ?_ | refine aw_seq ?_ | refine s_pass rfl rfl rfl ?_ | refine s_len tabOk rfl rfl rfl rfl ?_ | refine aw_true rfl ?_ | refine aw_false rfl ?_ | refine blk_exit_other rfl ?_ | refine s_arith tabOk rfl rfl rfl rfl (by simp only [InR]; omega) ?_ | ((first | ((fail_if_success refine s_told rfl rfl ?_); refine s_part rfl rfl rfl ?_ ?_) | refine aw_if rfl ?_ ?_) <;> intro hc <;> (first | replace hc := DecT.imp hc | simp only [decs] at hc | skip)) | refine s_index1n tabOk rfl rfl rfl rfl (by omega) ?_ | refine s_indexn tabOk rfl rfl rfl rfl (by omega) ?_ | refine s_index1 tabOk rfl rfl rfl rfl (by omega) (by omega) ?_ | refine sh_load tabOk (by assumption) rfl rfl rfl rfl (by repeat (first | exact List.Mem.head _ | apply List.Mem.tail)) (by rfl) (by rfl) ?_ | refine sh_loada tabOk (by assumption) rfl rfl rfl rfl (by repeat (first | exact List.Mem.head _ | apply List.Mem.tail)) (by rfl) ?_ | (refine sh_box (by assumption) rfl rfl rfl rfl rfl rfl ?_; intro _ _ _) | (refine sh_alloc tabOk (by assumption) rfl rfl rfl rfl rfl rfl ?_; intro _ _ _) | (refine sh_store tabOk (by assumption) rfl rfl rfl rfl rfl rfl (by repeat (first | exact Upd.here | apply Upd.there)) (by rfl) ?_; intro _ _) | (refine sh_lit tabOk (by assumption) rfl rfl rfl rfl rfl rfl rfl rfl rfl rfl rfl ?_; intro _ _ _) | refine sh_build tabOk rfl rfl rfl rfl rfl rfl ?_)
      refine s_tdiv rfl rfl rfl rfl (by decide) ?_
      rw [hqq, wrap_inR (by simp only [InR]; omega)]
      repeat' (first | refine s_pure tabOk rfl rfl rfl rfl ?_ | refine Stp.imp ?_ | refine aops_nil ?_ | refine aw_reg ?_ | refine aw_seq ?_ | refine s_pass rfl rfl rfl ?_ | refine s_len tabOk rfl rfl rfl rfl ?_ | refine aw_true rfl ?_ | refine aw_false rfl ?_ | refine blk_exit_other rfl ?_ | refine s_arith tabOk rfl rfl rfl rfl (by simp only [InR]; omega) ?_ | ((first | ((fail_if_success refine s_told rfl rfl ?_); refine s_part rfl rfl rfl ?_ ?_) | refine aw_if rfl ?_ ?_) <;> intro hc <;> (first | replace hc := DecT.imp hc | simp only [decs] at hc | skip)) | refine s_index1n tabOk rfl rfl rfl rfl (by omega) ?_ | refine s_indexn tabOk rfl rfl rfl rfl (by omega) ?_ | refine s_index1 tabOk rfl rfl rfl rfl (by omega) (by omega) ?_ | refine sh_load tabOk (by assumption) rfl rfl rfl rfl (by repeat (first | exact List.Mem.head _ | apply List.Mem.tail)) (by rfl) (by rfl) ?_ | refine sh_loada tabOk (by assumption) rfl rfl rfl rfl (by repeat (first | exact List.Mem.head _ | apply List.Mem.tail)) (by rfl) ?_ | (refine sh_box (by assumption) rfl rfl rfl rfl rfl rfl ?_; intro _ _ _) | (refine sh_alloc tabOk (by assumption) rfl rfl rfl rfl rfl rfl ?_; intro _ _ _) | (refine sh_store tabOk (by assumption) rfl rfl rfl rfl rfl rfl (by repeat (first | exact Upd.here | apply Upd.there)) (by rfl) ?_; intro _ _) | (refine sh_lit tabOk (by assumption) rfl rfl rfl rfl rfl rfl rfl rfl rfl rfl rfl ?_; intro _ _ _) | refine sh_build tabOk rfl rfl rfl rfl rfl rfl ?_)
      exact rndh_next (k + 1, a7, c7) (by dsimp only; exact hi.next hn hcc) (by dsimp only; omega) (by dsimp only; rw [hs]; exact (by repeat (first | exact less_nil | refine less_cons rfl ?_))) (Hp.picks H8 (by repeat (first | exact Picks.nil | (apply Picks.cons; (repeat (first | exact Pick.here | apply Pick.there))))))
    · refine sh_append tabOk (by assumption) rfl rfl rfl rfl rfl rfl rfl rfl rfl (fun _ _ => (by repeat (first | exact Upd.here | apply Upd.there))) (Hp.row_sl (by assumption) (by repeat (first | exact List.Mem.head _ | apply List.Mem.tail))) (by omega) ?_
      intro a7 c7 W7 H7
      rw [show 48 + dd = ((48 + dg : Nat) : Int) by omega] at H7
      rw [Nat.add_comm 1 k] at H7 ⊢
      have H8 : Hp B W W7 [.row 5 1 (.slice a7 (k + 1) c7) (k + 1) (u8s (lowD n.natAbs (k + 1)))] := by rw [hl]; exact Hp.picks H7 (by repeat (first | exact Picks.nil | (apply Picks.cons; (repeat (first | exact Pick.here | apply Pick.there)))))
      repeat' (first | refine s_pure tabOk rfl rfl rfl rfl ?_ | refine Stp.imp ?_ | refine aops_nil ?_ | refine aw_reg ?_ | refine aw_seq ?_ | refine s_pass rfl rfl rfl ?_ | refine s_len tabOk rfl rfl rfl rfl ?_ | refine aw_true rfl ?_ | refine aw_false rfl ?_ | refine blk_exit_other rfl ?_ | refine s_arith tabOk rfl rfl rfl rfl (by simp only [InR]; omega) ?_ | ((first | ((fail_if_success refine s_told rfl rfl ?_); refine s_part rfl rfl rfl ?_ ?_) | refine aw_if rfl ?_ ?_) <;> intro hc <;> (first | replace hc := DecT.imp hc | simp only [decs] at hc | skip)) | refine s_index1n tabOk rfl rfl rfl rfl (by omega) ?_ | refine s_indexn tabOk rfl rfl rfl rfl (by omega) ?_ | refine s_index1 tabOk rfl rfl rfl rfl (by omega) (by omega) ?_ | refine sh_load tabOk (by assumption) rfl rfl rfl rfl (by repeat (first | exact List.Mem.head _ | apply List.Mem.tail)) (by rfl) (by rfl) ?_ | refine sh_loada tabOk (by assumption) rfl rfl rfl rfl (by repeat (first | exact List.Mem.head _ | apply List.Mem.tail)) (by rfl) ?_ | (refine sh_box (by assumption) rfl rfl rfl rfl rfl rfl ?_; intro _ _ _) | (refine sh_alloc tabOk (by assumption) rfl rfl rfl rfl rfl rfl ?_; intro _ _ _) | (refine sh_store tabOk (by assumption) rfl rfl rfl rfl rfl rfl (by repeat (first | exact Upd.here | apply Upd.there)) (by rfl) ?_; intro _ _) | (refine sh_lit tabOk (by assumption) rfl rfl rfl rfl rfl rfl rfl rfl rfl rfl rfl ?_; intro _ _ _) | refine sh_build tabOk rfl rfl rfl rfl rfl rfl ?_)
      refine s_tdiv rfl rfl rfl rfl (by decide) ?_
      rw [hqq, wrap_inR (by simp only [InR]; omega)]
      repeat' (first | refine s_pure tabOk rfl rfl rfl rfl ?_ | refine Stp.imp ?_ | refine aops_nil ?_ | refine aw_reg ?_ | refine aw_seq ?_ | refine s_pass rfl rfl rfl ?_ | refine s_len tabOk rfl rfl rfl rfl ?_ | refine aw_true rfl ?_ | refine aw_false rfl ?_ | refine blk_exit_other rfl ?_ | refine s_arith tabOk rfl rfl rfl rfl (by simp only [InR]; omega) ?_ | ((first | ((fail_if_success refine s_told rfl rfl ?_); refine s_part rfl rfl rfl ?_ ?_) | refine aw_if rfl ?_ ?_) <;> intro hc <;> (first | replace hc := DecT.imp hc | simp only [decs] at hc | skip)) | refine s_index1n tabOk rfl rfl rfl rfl (by omega) ?_ | refine s_indexn tabOk rfl rfl rfl rfl (by omega) ?_ | refine s_index1 tabOk rfl rfl rfl rfl (by omega) (by omega) ?_ | refine sh_load tabOk (by assumption) rfl rfl rfl rfl (by repeat (first | exact List.Mem.head _ | apply List.Mem.tail)) (by rfl) (by rfl) ?_ | refine sh_loada tabOk (by assumption) rfl rfl rfl rfl (by repeat (first | exact List.Mem.head _ | apply List.Mem.tail)) (by rfl) ?_ | (refine sh_box (by assumption) rfl rfl rfl rfl rfl rfl ?_; intro _ _ _) | (refine sh_alloc tabOk (by assumption) rfl rfl rfl rfl rfl rfl ?_; intro _ _ _) | (refine sh_store tabOk (by assumption) rfl rfl rfl rfl rfl rfl (by repeat (first | exact Upd.here | apply Upd.there)) (by rfl) ?_; intro _ _) | (refine sh_lit tabOk (by assumption) rfl rfl rfl rfl rfl rfl rfl rfl rfl rfl rfl ?_; intro _ _ _) | refine sh_build tabOk rfl rfl rfl rfl rfl rfl ?_)
      exact rndh_next (k + 1, a7, c7) (by dsimp only; exact hi.next hn hcc) (by dsimp only; omega) (by dsimp only; rw [hs]; exact (by repeat (first | exact less_nil | refine less_cons rfl ?_))) (Hp.picks H8 (by repeat (first | exact Picks.nil | (apply Picks.cons; (repeat (first | exact Pick.here | apply Pick.there))))))
  · refine sh_append tabOk (by assumption) rfl rfl rfl rfl rfl rfl rfl rfl rfl (fun _ _ => (by repeat (first | exact Upd.here | apply Upd.there))) (Hp.row_sl (by assumption) (by repeat (first | exact List.Mem.head _ | apply List.Mem.tail))) (by omega) ?_
    intro a7 c7 W7 H7
    have H8 : Hp B W W7 [.row 5 1 (.slice a7 (1 + k) c7) (1 + k) (u8s (45 :: lowD n.natAbs k))] := Hp.picks H7 (by repeat (first | exact Picks.nil | (apply Picks.cons; (repeat (first | exact Pick.here | apply Pick.there)))))
    repeat' (first | refine s_pure tabOk rfl rfl rfl rfl ?_ | refine Stp.imp ?_ | refine aops_nil ?_ | refine aw_reg ?_ | refine aw_seq ?_ | refine s_pass rfl rfl rfl ?_ | refine s_len tabOk rfl rfl rfl rfl ?_ | refine aw_true rfl ?_ | refine aw_false rfl ?_ | refine blk_exit_other rfl ?_ | refine s_arith tabOk rfl rfl rfl rfl (by simp only [InR]; omega) ?_ | ((first | ((fail_if_success refine s_told rfl rfl ?_); refine s_part rfl rfl rfl ?_ ?_) | refine aw_if rfl ?_ ?_) <;> intro hc <;> (first | replace hc := DecT.imp hc | simp only [decs] at hc | skip)) | refine s_index1n tabOk rfl rfl rfl rfl (by omega) ?_ | refine s_indexn tabOk rfl rfl rfl rfl (by omega) ?_ | refine s_index1 tabOk rfl rfl rfl rfl (by omega) (by omega) ?_ | refine sh_load tabOk (by assumption) rfl rfl rfl rfl (by repeat (first | exact List.Mem.head _ | apply List.Mem.tail)) (by rfl) (by rfl) ?_ | refine sh_loada tabOk (by assumption) rfl rfl rfl rfl (by repeat (first | exact List.Mem.head _ | apply List.Mem.tail)) (by rfl) ?_ | (refine sh_box (by assumption) rfl rfl rfl rfl rfl rfl ?_; intro _ _ _) | (refine sh_alloc tabOk (by assumption) rfl rfl rfl rfl rfl rfl ?_; intro _ _ _) | (refine sh_store tabOk (by assumption) rfl rfl rfl rfl rfl rfl (by repeat (first | exact Upd.here | apply Upd.there)) (by rfl) ?_; intro _ _) | (refine sh_lit tabOk (by assumption) rfl rfl rfl rfl rfl rfl rfl rfl rfl rfl rfl ?_; intro _ _ _) | refine sh_build tabOk rfl rfl rfl rfl rfl rfl ?_)
    refine s_bytesString tabOk rfl rfl rfl rfl (Hp.ownB H8 (by repeat (first | exact List.Mem.head _ | apply List.Mem.tail))) ?_
    repeat' (first | refine s_pure tabOk rfl rfl rfl rfl ?_ | refine Stp.imp ?_ | refine aops_nil ?_ | refine aw_reg ?_ | refine aw_seq ?_ | refine s_pass rfl rfl rfl ?_ | refine s_len tabOk rfl rfl rfl rfl ?_ | refine aw_true rfl ?_ | refine aw_false rfl ?_ | refine blk_exit_other rfl ?_ | refine s_arith tabOk rfl rfl rfl rfl (by simp only [InR]; omega) ?_ | ((first | ((fail_if_success refine s_told rfl rfl ?_); refine s_part rfl rfl rfl ?_ ?_) | refine aw_if rfl ?_ ?_) <;> intro hc <;> (first | replace hc := DecT.imp hc | simp only [decs] at hc | skip)) | refine s_index1n tabOk rfl rfl rfl rfl (by omega) ?_ | refine s_indexn tabOk rfl rfl rfl rfl (by omega) ?_ | refine s_index1 tabOk rfl rfl rfl rfl (by omega) (by omega) ?_ | refine sh_load tabOk (by assumption) rfl rfl rfl rfl (by repeat (first | exact List.Mem.head _ | apply List.Mem.tail)) (by rfl) (by rfl) ?_ | refine sh_loada tabOk (by assumption) rfl rfl rfl rfl (by repeat (first | exact List.Mem.head _ | apply List.Mem.tail)) (by rfl) ?_ | (refine sh_box (by assumption) rfl rfl rfl rfl rfl rfl ?_; intro _ _ _) | (refine sh_alloc tabOk (by assumption) rfl rfl rfl rfl rfl rfl ?_; intro _ _ _) | (refine sh_store tabOk (by assumption) rfl rfl rfl rfl rfl rfl (by repeat (first | exact Upd.here | apply Upd.there)) (by rfl) ?_; intro _ _) | (refine sh_lit tabOk (by assumption) rfl rfl rfl rfl rfl rfl rfl rfl rfl rfl rfl ?_; intro _ _ _) | refine sh_build tabOk rfl rfl rfl rfl rfl rfl ?_)
    refine retK_ret tabOk (congrArg Array.toList Tryz.results43) (by repeat (first | exact rv_nil | apply rv_tmp rfl rfl | apply rv_cellH (by assumption) rfl rfl rfl (by repeat (first | exact List.Mem.head _ | apply List.Mem.tail)) rfl)) ?_
    refine ⟨?_, Hp.sub H8 (by repeat (first | exact List.nil_sublist _ | refine List.Sublist.cons_cons _ ?_ | refine List.Sublist.cons _ ?_))⟩
    rw [← decS_neg (k := k) hc (DigI.done (n := n) hi (by omega) (by assumption))]
    rfl
  · refine s_bytesString tabOk rfl rfl rfl rfl (Hp.ownB H2 (by repeat (first | exact List.Mem.head _ | apply List.Mem.tail))) ?_
    repeat' (first | refine s_pure tabOk rfl rfl rfl rfl ?_ | refine Stp.imp ?_ | refine aops_nil ?_ | refine aw_reg ?_ | refine aw_seq ?_ | refine s_pass rfl rfl rfl ?_ | refine s_len tabOk rfl rfl rfl rfl ?_ | refine aw_true rfl ?_ | refine aw_false rfl ?_ | refine blk_exit_other rfl ?_ | refine s_arith tabOk rfl rfl rfl rfl (by simp only [InR]; omega) ?_ | ((first | ((fail_if_success refine s_told rfl rfl ?_); refine s_part rfl rfl rfl ?_ ?_) | refine aw_if rfl ?_ ?_) <;> intro hc <;> (first | replace hc := DecT.imp hc | simp only [decs] at hc | skip)) | refine s_index1n tabOk rfl rfl rfl rfl (by omega) ?_ | refine s_indexn tabOk rfl rfl rfl rfl (by omega) ?_ | refine s_index1 tabOk rfl rfl rfl rfl (by omega) (by omega) ?_ | refine sh_load tabOk (by assumption) rfl rfl rfl rfl (by repeat (first | exact List.Mem.head _ | apply List.Mem.tail)) (by rfl) (by rfl) ?_ | refine sh_loada tabOk (by assumption) rfl rfl rfl rfl (by repeat (first | exact List.Mem.head _ | apply List.Mem.tail)) (by rfl) ?_ | (refine sh_box (by assumption) rfl rfl rfl rfl rfl rfl ?_; intro _ _ _) | (refine sh_alloc tabOk (by assumption) rfl rfl rfl rfl rfl rfl ?_; intro _ _ _) | (refine sh_store tabOk (by assumption) rfl rfl rfl rfl rfl rfl (by repeat (first | exact Upd.here | apply Upd.there)) (by rfl) ?_; intro _ _) | (refine sh_lit tabOk (by assumption) rfl rfl rfl rfl rfl rfl rfl rfl rfl rfl rfl ?_; intro _ _ _) | refine sh_build tabOk rfl rfl rfl rfl rfl rfl ?_)
    refine retK_ret tabOk (congrArg Array.toList Tryz.results43) (by repeat (first | exact rv_nil | apply rv_tmp rfl rfl | apply rv_cellH (by assumption) rfl rfl rfl (by repeat (first | exact List.Mem.head _ | apply List.Mem.tail)) rfl)) ?_
    refine ⟨?_, Hp.sub H2 (by repeat (first | exact List.nil_sublist _ | refine List.Sublist.cons_cons _ ?_ | refine List.Sublist.cons _ ?_))⟩
    rw [← decS_pos (k := k) (by omega) (DigI.done (n := n) hi (by omega) (by assumption))]
    rfl
end
end Go.Proofs.YthdnepjajhjmlaaGreatDoor
namespace Go.Proofs.YthdnepjajhjmlaaGreatDoor
set_option linter.unusedSimpArgs false
set_option linter.unusedVariables false
open Go Cn Go.RowKit
/-- a text cut up to the i-th byte -/
structure CutI (s : ByteArray) (c : UInt8) (i fr : Nat) (ys : List ByteArray) : Prop where
  le : fr ≤ i
  no : c ∉ (s.data.toList.drop fr).take (i - fr)
  eq : ys ++ (cutL c (s.data.toList.drop fr)).map ofL = cutB c s
theorem sz_len (s : ByteArray) : s.data.toList.length = s.size := Array.length_toList
theorem CutI.zero (s : ByteArray) (c : UInt8) : CutI s c 0 0 [] := ⟨Nat.le_refl _, by simp, by simp [cutB]⟩
theorem ofL_extract {s : ByteArray} {fr i : Nat} : ofL ((s.data.toList.drop fr).take (i - fr)) = s.extract fr i := by
  apply ByteArray.ext
  rw [ByteArray.data_extract]
  apply Array.toList_inj.1
  rw [Array.toList_extract, List.extract_eq_take_drop]
  rfl
theorem bt_get {s : ByteArray} {i : Nat} (h : i < s.size) {c : UInt8} : bt s i = c.toNat ↔ s.data.toList[i]? = some c := by
  have hl : i < s.data.toList.length := by rw [sz_len]; exact h
  unfold bt
  rw [List.getElem?_eq_getElem hl]
  simp only [Option.getD_some, Option.some.injEq]
  exact UInt8.toNat_inj
theorem CutI.last {s : ByteArray} {c : UInt8} {fr : Nat} {ys : List ByteArray} (h : CutI s c s.size fr ys) : ys ++ [s.extract fr s.size] = cutB c s := by
  have h1 := h.no
  have h2 := h.eq
  rw [List.take_of_length_le (by rw [List.length_drop, sz_len]; omega)] at h1
  rw [cutL_none h1] at h2
  rw [← h2, ← ofL_extract, List.take_of_length_le (by rw [List.length_drop, sz_len]; omega)]
  rfl
theorem drop_at {s : ByteArray} {c : UInt8} {i fr : Nat} (hi : i < s.size) (hf : fr ≤ i) (hb : bt s i = c.toNat) : s.data.toList.drop fr = (s.data.toList.drop fr).take (i - fr) ++ c :: s.data.toList.drop (i + 1) := by
  have hl : i < s.data.toList.length := by rw [sz_len]; exact hi
  have hg := (bt_get hi).1 hb
  rw [List.getElem?_eq_getElem hl, Option.some.injEq] at hg
  conv => lhs; rw [← List.take_append_drop (i - fr) (s.data.toList.drop fr)]
  rw [List.drop_drop, show fr + (i - fr) = i by omega, List.drop_eq_getElem_cons hl, hg]
theorem CutI.hit {s : ByteArray} {c : UInt8} {i fr : Nat} {ys : List ByteArray} (h : CutI s c i fr ys) (hi : i < s.size) (hb : bt s i = c.toNat) : CutI s c (i + 1) (i + 1) (ys ++ [s.extract fr i]) := by
  refine ⟨Nat.le_refl _, by simp, ?_⟩
  have h2 := h.eq
  rw [drop_at hi h.le hb, cutL_hit h.no] at h2
  rw [← h2, ← ofL_extract]
  simp
theorem CutI.miss {s : ByteArray} {c : UInt8} {i fr : Nat} {ys : List ByteArray} (h : CutI s c i fr ys) (hi : i < s.size) (hb : bt s i ≠ c.toNat) : CutI s c (i + 1) fr ys := by
  refine ⟨Nat.le_succ_of_le h.le, ?_, h.eq⟩
  have hl : i < s.data.toList.length := by rw [sz_len]; exact hi
  have hle := h.le
  rw [show i + 1 - fr = (i - fr) + 1 by omega, List.take_add_one, List.getElem?_drop, show fr + (i - fr) = i by omega]
  simp only [List.mem_append, not_or]
  refine ⟨h.no, fun hm => hb ((bt_get hi).2 ?_)⟩
  simpa using hm
theorem CutI.len {s : ByteArray} {c : UInt8} {i fr : Nat} {ys : List ByteArray} (h : CutI s c i fr ys) : ys.length ≤ s.size + 1 := by
  have h1 := congrArg List.length h.eq
  have h2 := cutB_len c s
  rw [List.length_append] at h1
  omega
theorem bs_beq {a b : ByteArray} : (a.toList == b.toList) = decide (a = b) := by
  rw [Bool.eq_iff_iff, beq_iff_eq, bs_eq, decide_eq_true_iff]
/-- a row of texts -/
abbrev sRow (v : Value) (ls : List ByteArray) : Res := .row 9 1 v ls.length (ls.map .string)
section
variable {B : Nat} {A W W' : World} {L : List Res}
theorem Hp.rdRow (H : Hp B A W L) {e : TypeId} {sz b off n c : Nat} {xs : List Value} (hm : Res.row e sz (.slice (some ⟨b, off, none⟩) n c) n xs ∈ L) (hn : 0 < n) : RdV W b off xs := by
  obtain ⟨b', off', e, h⟩ := (H.row_sl hm).read hn
  cases e
  exact h
theorem c_spec_l01Cut {s : ByteArray} {c : UInt8} {k : Int} (hk : k = c.toNat) (hs : s.size ≤ 1048576) (hB : B ≤ W.heap.size) :
    ACalls Tryz.prog B 17 [.string s, .int .u8 k] W (fun r W' => ∃ a n, r = .slice a (cutB c s).length n ∧ Hp B W W' [sRow (.slice a (cutB c s).length n) (cutB c s)]) := by
  have H0 : Hp B W W [] := Hp.new hB
  refine acalls_of Tryz.func17 rfl Tryz.ntmps17 (Nat.le_of_ble_eq_true rfl) ?_
  repeat' (first | refine s_pure tabOk rfl rfl rfl rfl ?_ | refine Stp.imp ?_ | refine aops_nil ?_ | refine aw_reg ?_ | refine aw_seq ?_ | refine s_pass rfl rfl rfl ?_ | refine s_len tabOk rfl rfl rfl rfl ?_ | refine aw_true rfl ?_ | refine aw_false rfl ?_ | refine blk_exit_other rfl ?_ | refine s_arith tabOk rfl rfl rfl rfl (by simp only [InR]; omega) ?_ | ((first | ((fail_if_success refine s_told rfl rfl ?_); refine s_part rfl rfl rfl ?_ ?_) | refine aw_if rfl ?_ ?_) <;> intro hc <;> (first | replace hc := DecT.imp hc | simp only [decs] at hc | skip)) | refine s_index1n tabOk rfl rfl rfl rfl (by omega) ?_ | refine s_indexn tabOk rfl rfl rfl rfl (by omega) ?_ | refine s_index1 tabOk rfl rfl rfl rfl (by omega) (by omega) ?_ | refine sh_load tabOk (by assumption) rfl rfl rfl rfl (by repeat (first | exact List.Mem.head _ | apply List.Mem.tail)) (by rfl) (by rfl) ?_ | refine sh_loada tabOk (by assumption) rfl rfl rfl rfl (by repeat (first | exact List.Mem.head _ | apply List.Mem.tail)) (by rfl) ?_ | (refine sh_box (by assumption) rfl rfl rfl rfl rfl rfl ?_; intro _ _ _) | (refine sh_alloc tabOk (by assumption) rfl rfl rfl rfl rfl rfl ?_; intro _ _ _) | (refine sh_store tabOk (by assumption) rfl rfl rfl rfl rfl rfl (by repeat (first | exact Upd.here | apply Upd.there)) (by rfl) ?_; intro _ _) | (refine sh_lit tabOk (by assumption) rfl rfl rfl rfl rfl rfl rfl rfl rfl rfl rfl ?_; intro _ _ _) | refine sh_build tabOk rfl rfl rfl rfl rfl rfl ?_)
  rename_i b0 W1 H1
  refine aw_loopH (fun x : Nat × Nat × List ByteArray × Option Addr × Nat => [(7, .int .i64 x.1), (6, .int .i64 x.2.1), (5, .slice x.2.2.2.1 x.2.2.1.length x.2.2.2.2), (4, .slice none 0 0), (0, .string s), (1, .int .u8 k)])
    (fun x => [sRow (.slice x.2.2.2.1 x.2.2.1.length x.2.2.2.2) x.2.2.1])
    (fun x => (x.1 ≤ s.size ∧ CutI s c x.1 x.2.1 x.2.2.1) ∨ (x.1 = s.size + 1 ∧ x.2.1 = s.size + 1 ∧ x.2.2.1 = cutB c s)) (fun x => s.size + 1 - x.1) (0, 0, [], some ⟨b0, 0, none⟩, 0) (.inl ⟨Nat.zero_le _, CutI.zero s c⟩) (by dsimp only; exact H1.picks (by repeat (first | exact Picks.nil | (apply Picks.cons; (repeat (first | exact Pick.here | apply Pick.there)))))) (by dsimp only; exact (by repeat (first | exact less_nil | refine less_cons rfl ?_))) ?_
  rintro ⟨i, fr, ys, ad, cp⟩ W2 hi H2
  dsimp only at hi H2 ⊢
  repeat' (first | refine s_pure tabOk rfl rfl rfl rfl ?_ | refine Stp.imp ?_ | refine aops_nil ?_ | refine aw_reg ?_ | refine aw_seq ?_ | refine s_pass rfl rfl rfl ?_ | refine s_len tabOk rfl rfl rfl rfl ?_ | refine aw_true rfl ?_ | refine aw_false rfl ?_ | refine blk_exit_other rfl ?_ | refine s_arith tabOk rfl rfl rfl rfl (by simp only [InR]; omega) ?_ | ((first | ((fail_if_success refine s_told rfl rfl ?_); refine s_part rfl rfl rfl ?_ ?_) | refine aw_if rfl ?_ ?_) <;> intro hc <;> (first | replace hc := DecT.imp hc | simp only [decs] at hc | skip)) | refine s_index1n tabOk rfl rfl rfl rfl (by omega) ?_ | refine s_indexn tabOk rfl rfl rfl rfl (by omega) ?_ | refine s_index1 tabOk rfl rfl rfl rfl (by omega) (by omega) ?_ | refine sh_load tabOk (by assumption) rfl rfl rfl rfl (by repeat (first | exact List.Mem.head _ | apply List.Mem.tail)) (by rfl) (by rfl) ?_ | refine sh_loada tabOk (by assumption) rfl rfl rfl rfl (by repeat (first | exact List.Mem.head _ | apply List.Mem.tail)) (by rfl) ?_ | (refine sh_box (by assumption) rfl rfl rfl rfl rfl rfl ?_; intro _ _ _) | (refine sh_alloc tabOk (by assumption) rfl rfl rfl rfl rfl rfl ?_; intro _ _ _) | (refine sh_store tabOk (by assumption) rfl rfl rfl rfl rfl rfl (by repeat (first | exact Upd.here | apply Upd.there)) (by rfl) ?_; intro _ _) | (refine sh_lit tabOk (by assumption) rfl rfl rfl rfl rfl rfl rfl rfl rfl rfl rfl ?_; intro _ _ _) | refine sh_build tabOk rfl rfl rfl rfl rfl rfl ?_)
  · have e1 : i = s.size := by omega
    subst e1
    obtain ⟨-, hI⟩ := hi.resolve_right (by omega)
    have hle := hI.le
    have hlen := hI.len
    refine s_cutS tabOk rfl rfl rfl rfl (by omega) (by omega) (by omega) ?_
    rw [Int.toNat_natCast, Int.toNat_natCast]
    repeat' (first | refine s_pure tabOk rfl rfl rfl rfl ?_ | refine Stp.imp ?_ | refine aops_nil ?_ | refine aw_reg ?_ | refine aw_seq ?_ | refine s_pass rfl rfl rfl ?_ | refine s_len tabOk rfl rfl rfl rfl ?_ | refine aw_true rfl ?_ | refine aw_false rfl ?_ | refine blk_exit_other rfl ?_ | refine s_arith tabOk rfl rfl rfl rfl (by simp only [InR]; omega) ?_ | ((first | ((fail_if_success refine s_told rfl rfl ?_); refine s_part rfl rfl rfl ?_ ?_) | refine aw_if rfl ?_ ?_) <;> intro hc <;> (first | replace hc := DecT.imp hc | simp only [decs] at hc | skip)) | refine s_index1n tabOk rfl rfl rfl rfl (by omega) ?_ | refine s_indexn tabOk rfl rfl rfl rfl (by omega) ?_ | refine s_index1 tabOk rfl rfl rfl rfl (by omega) (by omega) ?_ | refine sh_load tabOk (by assumption) rfl rfl rfl rfl (by repeat (first | exact List.Mem.head _ | apply List.Mem.tail)) (by rfl) (by rfl) ?_ | refine sh_loada tabOk (by assumption) rfl rfl rfl rfl (by repeat (first | exact List.Mem.head _ | apply List.Mem.tail)) (by rfl) ?_ | (refine sh_box (by assumption) rfl rfl rfl rfl rfl rfl ?_; intro _ _ _) | (refine sh_alloc tabOk (by assumption) rfl rfl rfl rfl rfl rfl ?_; intro _ _ _) | (refine sh_store tabOk (by assumption) rfl rfl rfl rfl rfl rfl (by repeat (first | exact Upd.here | apply Upd.there)) (by rfl) ?_; intro _ _) | (refine sh_lit tabOk (by assumption) rfl rfl rfl rfl rfl rfl rfl rfl rfl rfl rfl ?_; intro _ _ _) | refine sh_build tabOk rfl rfl rfl rfl rfl rfl ?_)
    refine sh_push tabOk (f := Value.string) (by assumption) rfl rfl rfl rfl rfl rfl rfl rfl (fun _ _ => (by repeat (first | exact Upd.here | apply Upd.there))) (by omega) ?_
    intro a7 c7 W7 H7
    rw [show ys.length + 1 = (ys ++ [s.extract fr s.size]).length by simp] at H7 ⊢
    repeat' (first | refine s_pure tabOk rfl rfl rfl rfl ?_ | refine Stp.imp ?_ | refine aops_nil ?_ | refine aw_reg ?_ | refine aw_seq ?_ | refine s_pass rfl rfl rfl ?_ | refine s_len tabOk rfl rfl rfl rfl ?_ | refine aw_true rfl ?_ | refine aw_false rfl ?_ | refine blk_exit_other rfl ?_ | refine s_arith tabOk rfl rfl rfl rfl (by simp only [InR]; omega) ?_ | ((first | ((fail_if_success refine s_told rfl rfl ?_); refine s_part rfl rfl rfl ?_ ?_) | refine aw_if rfl ?_ ?_) <;> intro hc <;> (first | replace hc := DecT.imp hc | simp only [decs] at hc | skip)) | refine s_index1n tabOk rfl rfl rfl rfl (by omega) ?_ | refine s_indexn tabOk rfl rfl rfl rfl (by omega) ?_ | refine s_index1 tabOk rfl rfl rfl rfl (by omega) (by omega) ?_ | refine sh_load tabOk (by assumption) rfl rfl rfl rfl (by repeat (first | exact List.Mem.head _ | apply List.Mem.tail)) (by rfl) (by rfl) ?_ | refine sh_loada tabOk (by assumption) rfl rfl rfl rfl (by repeat (first | exact List.Mem.head _ | apply List.Mem.tail)) (by rfl) ?_ | (refine sh_box (by assumption) rfl rfl rfl rfl rfl rfl ?_; intro _ _ _) | (refine sh_alloc tabOk (by assumption) rfl rfl rfl rfl rfl rfl ?_; intro _ _ _) | (refine sh_store tabOk (by assumption) rfl rfl rfl rfl rfl rfl (by repeat (first | exact Upd.here | apply Upd.there)) (by rfl) ?_; intro _ _) | (refine sh_lit tabOk (by assumption) rfl rfl rfl rfl rfl rfl rfl rfl rfl rfl rfl ?_; intro _ _ _) | refine sh_build tabOk rfl rfl rfl rfl rfl rfl ?_)
    exact rndh_next (s.size + 1, s.size + 1, ys ++ [s.extract fr s.size], a7, c7) (by dsimp only; exact .inr ⟨rfl, rfl, hI.last⟩) (by dsimp only; omega) (by dsimp only; exact (by repeat (first | exact less_nil | refine less_cons rfl ?_))) (Hp.picks (by assumption) (by repeat (first | exact Picks.nil | (apply Picks.cons; (repeat (first | exact Pick.here | apply Pick.there))))))
  · obtain ⟨-, hI⟩ := hi.resolve_right (by omega)
    have hle := hI.le
    have hlen := hI.len
    refine s_byte tabOk rfl rfl rfl rfl (by omega) (by omega) ?_
    rw [Int.toNat_natCast]
    repeat' (first | refine s_pure tabOk rfl rfl rfl rfl ?_ | refine Stp.imp ?_ | refine aops_nil ?_ | refine aw_reg ?_ | refine aw_seq ?_ | refine s_pass rfl rfl rfl ?_ | refine s_len tabOk rfl rfl rfl rfl ?_ | refine aw_true rfl ?_ | refine aw_false rfl ?_ | refine blk_exit_other rfl ?_ | refine s_arith tabOk rfl rfl rfl rfl (by simp only [InR]; omega) ?_ | ((first | ((fail_if_success refine s_told rfl rfl ?_); refine s_part rfl rfl rfl ?_ ?_) | refine aw_if rfl ?_ ?_) <;> intro hc <;> (first | replace hc := DecT.imp hc | simp only [decs] at hc | skip)) | refine s_index1n tabOk rfl rfl rfl rfl (by omega) ?_ | refine s_indexn tabOk rfl rfl rfl rfl (by omega) ?_ | refine s_index1 tabOk rfl rfl rfl rfl (by omega) (by omega) ?_ | refine sh_load tabOk (by assumption) rfl rfl rfl rfl (by repeat (first | exact List.Mem.head _ | apply List.Mem.tail)) (by rfl) (by rfl) ?_ | refine sh_loada tabOk (by assumption) rfl rfl rfl rfl (by repeat (first | exact List.Mem.head _ | apply List.Mem.tail)) (by rfl) ?_ | (refine sh_box (by assumption) rfl rfl rfl rfl rfl rfl ?_; intro _ _ _) | (refine sh_alloc tabOk (by assumption) rfl rfl rfl rfl rfl rfl ?_; intro _ _ _) | (refine sh_store tabOk (by assumption) rfl rfl rfl rfl rfl rfl (by repeat (first | exact Upd.here | apply Upd.there)) (by rfl) ?_; intro _ _) | (refine sh_lit tabOk (by assumption) rfl rfl rfl rfl rfl rfl rfl rfl rfl rfl rfl ?_; intro _ _ _) | refine sh_build tabOk rfl rfl rfl rfl rfl rfl ?_)
    · refine s_cutS tabOk rfl rfl rfl rfl (by omega) (by omega) (by omega) ?_
      rw [Int.toNat_natCast, Int.toNat_natCast]
      repeat' (first | refine s_pure tabOk rfl rfl rfl rfl ?_ | refine Stp.imp ?_ | refine aops_nil ?_ | refine aw_reg ?_ | refine aw_seq ?_ | refine s_pass rfl rfl rfl ?_ | refine s_len tabOk rfl rfl rfl rfl ?_ | refine aw_true rfl ?_ | refine aw_false rfl ?_ | refine blk_exit_other rfl ?_ | refine s_arith tabOk rfl rfl rfl rfl (by simp only [InR]; omega) ?_ | ((first | ((fail_if_success refine s_told rfl rfl ?_); refine s_part rfl rfl rfl ?_ ?_) | refine aw_if rfl ?_ ?_) <;> intro hc <;> (first | replace hc := DecT.imp hc | simp only [decs] at hc | skip)) | refine s_index1n tabOk rfl rfl rfl rfl (by omega) ?_ | refine s_indexn tabOk rfl rfl rfl rfl (by omega) ?_ | refine s_index1 tabOk rfl rfl rfl rfl (by omega) (by omega) ?_ | refine sh_load tabOk (by assumption) rfl rfl rfl rfl (by repeat (first | exact List.Mem.head _ | apply List.Mem.tail)) (by rfl) (by rfl) ?_ | refine sh_loada tabOk (by assumption) rfl rfl rfl rfl (by repeat (first | exact List.Mem.head _ | apply List.Mem.tail)) (by rfl) ?_ | (refine sh_box (by assumption) rfl rfl rfl rfl rfl rfl ?_; intro _ _ _) | (refine sh_alloc tabOk (by assumption) rfl rfl rfl rfl rfl rfl ?_; intro _ _ _) | (refine sh_store tabOk (by assumption) rfl rfl rfl rfl rfl rfl (by repeat (first | exact Upd.here | apply Upd.there)) (by rfl) ?_; intro _ _) | (refine sh_lit tabOk (by assumption) rfl rfl rfl rfl rfl rfl rfl rfl rfl rfl rfl ?_; intro _ _ _) | refine sh_build tabOk rfl rfl rfl rfl rfl rfl ?_)
      refine sh_push tabOk (f := Value.string) (by assumption) rfl rfl rfl rfl rfl rfl rfl rfl (fun _ _ => (by repeat (first | exact Upd.here | apply Upd.there))) (by omega) ?_
      intro a7 c7 W7 H7
      rw [show ys.length + 1 = (ys ++ [s.extract fr i]).length by simp] at H7 ⊢
      repeat' (first | refine s_pure tabOk rfl rfl rfl rfl ?_ | refine Stp.imp ?_ | refine aops_nil ?_ | refine aw_reg ?_ | refine aw_seq ?_ | refine s_pass rfl rfl rfl ?_ | refine s_len tabOk rfl rfl rfl rfl ?_ | refine aw_true rfl ?_ | refine aw_false rfl ?_ | refine blk_exit_other rfl ?_ | refine s_arith tabOk rfl rfl rfl rfl (by simp only [InR]; omega) ?_ | ((first | ((fail_if_success refine s_told rfl rfl ?_); refine s_part rfl rfl rfl ?_ ?_) | refine aw_if rfl ?_ ?_) <;> intro hc <;> (first | replace hc := DecT.imp hc | simp only [decs] at hc | skip)) | refine s_index1n tabOk rfl rfl rfl rfl (by omega) ?_ | refine s_indexn tabOk rfl rfl rfl rfl (by omega) ?_ | refine s_index1 tabOk rfl rfl rfl rfl (by omega) (by omega) ?_ | refine sh_load tabOk (by assumption) rfl rfl rfl rfl (by repeat (first | exact List.Mem.head _ | apply List.Mem.tail)) (by rfl) (by rfl) ?_ | refine sh_loada tabOk (by assumption) rfl rfl rfl rfl (by repeat (first | exact List.Mem.head _ | apply List.Mem.tail)) (by rfl) ?_ | (refine sh_box (by assumption) rfl rfl rfl rfl rfl rfl ?_; intro _ _ _) | (refine sh_alloc tabOk (by assumption) rfl rfl rfl rfl rfl rfl ?_; intro _ _ _) | (refine sh_store tabOk (by assumption) rfl rfl rfl rfl rfl rfl (by repeat (first | exact Upd.here | apply Upd.there)) (by rfl) ?_; intro _ _) | (refine sh_lit tabOk (by assumption) rfl rfl rfl rfl rfl rfl rfl rfl rfl rfl rfl ?_; intro _ _ _) | refine sh_build tabOk rfl rfl rfl rfl rfl rfl ?_)
      exact rndh_next (i + 1, i + 1, ys ++ [s.extract fr i], a7, c7) (by dsimp only; exact .inl ⟨by omega, hI.hit (by omega) (by omega)⟩) (by dsimp only; omega) (by dsimp only; exact (by repeat (first | exact less_nil | refine less_cons rfl ?_))) (Hp.picks (by assumption) (by repeat (first | exact Picks.nil | (apply Picks.cons; (repeat (first | exact Pick.here | apply Pick.there))))))
    · exact rndh_next (i + 1, fr, ys, ad, cp) (by dsimp only; exact .inl ⟨by omega, hI.miss (by omega) (by omega)⟩) (by dsimp only; omega) (by dsimp only; exact (by repeat (first | exact less_nil | refine less_cons rfl ?_))) (Hp.picks (by assumption) (by repeat (first | exact Picks.nil | (apply Picks.cons; (repeat (first | exact Pick.here | apply Pick.there))))))
  · obtain ⟨e1, e2, e3⟩ := hi.resolve_left (by omega)
    subst e3
    refine retK_ret tabOk (congrArg Array.toList Tryz.results17) (by repeat (first | exact rv_nil | apply rv_tmp rfl rfl | apply rv_cellH (by assumption) rfl rfl rfl (by repeat (first | exact List.Mem.head _ | apply List.Mem.tail)) rfl)) ?_
    exact ⟨_, _, rfl, H2⟩
end
end Go.Proofs.YthdnepjajhjmlaaGreatDoor
namespace Go.Proofs.YthdnepjajhjmlaaGreatDoor
set_option linter.unusedSimpArgs false
set_option linter.unusedVariables false
open Go Cn Go.RowKit
section
variable {P : Program} {N B : Nat} {E : Env} {W : World} {ops : Array Oper} {K : Exit → Env → World → Prop} {T : Tab} {o : Oper}
/-- texts put together -/
def evCat (E : Env) (o : Oper) : Option (ByteArray × ByteArray) :=
  match o.op with
  | .binOp .add _ x y _ => match ev E x with
    | some (.string a) => match ev E y with
      | some (.string b) => some (a, b)
      | _ => none
    | _ => none
  | _ => none
theorem gives_cat {s t : ByteArray} (hv : evCat E o = some (s, t)) (h : s.size + t.size ≤ 9223372036854775807) : Gives P N B o E W (.string (s ++ t)) W := by
  refine gives_of fun a w ha hw hB => ⟨.string (s ++ t), w, ?_, rfl, rfl⟩
  unfold evCat at hv
  split at hv
  · rename_i op t' x y ho
    split at hv
    · rename_i s' hx
      have e1 := cv_string (ev_sound ha hx)
      split at hv
      · rename_i t' hy
        have e2 := cv_string (ev_sound ha hy)
        cases hv
        simp only [execOp, ho, e1, e2]
        refine run_v ?_
        simp [eqGuard_at_string, binOp, run_string_add_sum w s t h]
      · cases hv
    · cases hv
  · cases hv
theorem s_cat {i : Nat} {rest : List Nat} {d : Nat} {op : Op} {ty : TypeId} {pos : String} {aft : Array Edge} {g : Option (Nat × Bool)} {s t : ByteArray} (ho : getL ops.toList i = some ⟨some d, op, ty, pos, aft, g⟩) (hg : guardE ops ⟨some d, op, ty, pos, aft, g⟩ E = some true) (hd : Nat.ble (d + 1) N = true)
    (hv : evCat E ⟨some d, op, ty, pos, aft, g⟩ = some (s, t)) (h1 : s.size + t.size ≤ 9223372036854775807) (h : AOps P N B ops rest K ((d, .string (s ++ t)) :: E) W) : AOps P N B ops (i :: rest) K E W :=
  s_givesv ho hg hd (gives_cat hv h1) h
end
theorem mid_set {α : Type} {xs ys : List α} {y z : α} {i : Nat} (h : xs.length = i) : (xs ++ y :: ys).set i z = xs ++ z :: ys := by
  subst h; simp
section
variable {B : Nat} {A W W' : World} {L L' : List Res}
end
end Go.Proofs.YthdnepjajhjmlaaGreatDoor
namespace Go.Proofs.YthdnepjajhjmlaaGreatDoor
set_option linter.unusedSimpArgs false
set_option linter.unusedVariables false
open Go Cn Go.RowKit
section
variable {B : Nat} {A W W' : World} {L L' : List Res}
end
end Go.Proofs.YthdnepjajhjmlaaGreatDoor
namespace Go.Proofs.YthdnepjajhjmlaaGreatDoor
set_option linter.unusedSimpArgs false
set_option linter.unusedVariables false
open Go Cn Go.RowKit
theorem map_take_succ {α β : Type} (f : α → β) (d : α) {xs : List α} {i : Nat} (h : i < xs.length) : (xs.take (i + 1)).map f = (xs.take i).map f ++ [f (xs.getD i d)] := by
  rw [List.take_succ_eq_append_getElem h, List.map_append]
  simp [List.getD_eq_getElem?_getD, h]
section
variable {B : Nat} {A W W' : World} {L L' : List Res} {p1 p2 p3 : Option Addr} {k1 k2 k3 : Nat} {r : Riv}
end
end Go.Proofs.YthdnepjajhjmlaaGreatDoor
namespace Go.Proofs.YthdnepjajhjmlaaGreatDoor
set_option linter.unusedSimpArgs false
set_option linter.unusedVariables false
open Go Cn Go.RowKit
/-- how many bytes stand ahead of the first c -/
def fstN (c : UInt8) (s : ByteArray) : Nat := (s.data.toList.takeWhile (· != c)).length
def cutF (c : UInt8) (s : ByteArray) : Bool := decide (fstN c s < s.size)
def cutA (c : UInt8) (s : ByteArray) : ByteArray := s.extract 0 (fstN c s)
def cutZ (c : UInt8) (s : ByteArray) : ByteArray := s.extract (fstN c s + 1) s.size
theorem tw_hit {c : UInt8} {b : List UInt8} : ∀ {a : List UInt8}, c ∉ a → (a ++ c :: b).takeWhile (· != c) = a
  | [], _ => by simp
  | x :: a, h => by
    simp only [List.mem_cons, not_or] at h
    rw [List.cons_append, List.takeWhile_cons, if_pos (by simpa using fun e => h.1 e.symm), tw_hit h.2]
theorem tw_none {c : UInt8} : ∀ {a : List UInt8}, c ∉ a → a.takeWhile (· != c) = a
  | [], _ => rfl
  | x :: a, h => by
    simp only [List.mem_cons, not_or] at h
    rw [List.takeWhile_cons, if_pos (by simpa using fun e => h.1 e.symm), tw_none h.2]
theorem fstN_none {c : UInt8} {s : ByteArray} (h : c ∉ s.data.toList) : fstN c s = s.size ∧ cutF c s = false := by
  have e : fstN c s = s.size := by unfold fstN; rw [tw_none h, sz_len]
  refine ⟨e, ?_⟩
  unfold cutF
  rw [e]
  simp
theorem fstN_hit {c : UInt8} {s : ByteArray} {a b : List UInt8} (e : s.data.toList = a ++ c :: b) (h : c ∉ a) : fstN c s = a.length ∧ cutF c s = true ∧ cutA c s = ofL a ∧ cutZ c s = ofL b := by
  have e1 : fstN c s = a.length := by unfold fstN; rw [e, tw_hit h]
  have hs : s.size = a.length + b.length + 1 := by rw [← sz_len, e]; simp; omega
  refine ⟨e1, ?_, ?_, ?_⟩
  · unfold cutF; rw [e1]; simp; omega
  · unfold cutA
    rw [e1, ← ofL_extract, e]
    simp
  · unfold cutZ
    rw [e1, ← ofL_extract, e]
    rw [show List.drop (a.length + 1) (a ++ c :: b) = b by rw [← List.drop_drop, List.drop_left' rfl]; rfl, List.take_of_length_le (by omega)]
theorem fstN_le (c : UInt8) (s : ByteArray) : fstN c s ≤ s.size := by
  unfold fstN
  rw [← sz_len]
  exact (List.takeWhile_sublist _).length_le
theorem cut_one (c : UInt8) (s : ByteArray) : Lib.cut s.data.toList [c] = if cutF c s then ((cutA c s).data.toList, (cutZ c s).data.toList, true) else (s.data.toList, [], false) := by
  rcases part_at c s.data.toList with h1 | ⟨a, b, e, h1⟩
  · rw [(fstN_none h1).2]
    unfold Lib.cut
    rw [index_none h1, if_neg (by omega)]; rfl
  · obtain ⟨-, e1, e2, e3⟩ := fstN_hit e h1
    rw [e1, e2, e3]
    unfold Lib.cut
    rw [e, index_hit h1, if_pos (by omega)]
    simp only [Int.toNat_natCast, List.length_cons, List.length_nil, Nat.zero_add, if_true, ofL_data]
    rw [List.take_left' rfl, show List.drop (a.length + 1) (a ++ c :: b) = b by rw [← List.drop_drop, List.drop_left' rfl]; rfl]
section
variable {B : Nat} {W : World}
def cutR (c : UInt8) (s : ByteArray) : Value := if cutF c s then .tuple #[.string (cutA c s), .string (cutZ c s), .bool true] else .tuple #[.string s, .string ⟨#[]⟩, .bool false]
theorem c_Cut (hG : LibG W) {s : ByteArray} {c : UInt8} (hs : s.size ≤ 1048576) :
    ACalls Tryz.prog B 10 [.string s, .string ⟨#[c]⟩] W (fun r W' => r = cutR c s ∧ W' = W) := by
  refine acalls_intro fun xs w h1 h2 h3 => ?_
  subst h2
  obtain ⟨m, hm⟩ := hG.raw
  rw [strs2 h1]
  refine (Tryz.strings_Cut s ⟨#[c]⟩ m w (by omega) hm).mono fun e w' ⟨he, n, hw⟩ => ?_
  subst hw
  rw [show (ByteArray.mk #[c]).data.toList = [c] from rfl, cut_one] at he
  refine ⟨_, he, h3, ?_, rfl⟩
  unfold cutR
  cases cutF c s with
  | false =>
    rw [if_neg (by simp), if_neg (by simp)]
    show cv (.tuple #[.string s, .string ⟨#[]⟩, .bool false]) = _
    simp [cv, c1, cl]
  | true =>
    rw [if_pos rfl, if_pos rfl]
    show cv (.tuple #[.string (cutA c s), .string (cutZ c s), .bool true]) = _
    simp [cv, c1, cl]
end
/-! ### journals -/
attribute [irreducible] fstN
def ckJ (ls : List ByteArray) : Nat → Int
  | 0 => 0
  | j + 1 => chk (ckJ ls j) (cutZ 32 (ls.getD j ⟨#[]⟩)) (cutZ 32 (ls.getD j ⟨#[]⟩)).size
def accJ (ls : List ByteArray) (j : Nat) : Bool := cutF 32 (ls.getD j ⟨#[]⟩) && decide (cutA 32 (ls.getD j ⟨#[]⟩) = decS (ckJ ls (j + 1)))
def nJ (ls : List ByteArray) : Nat → Nat
  | 0 => 0
  | k + 1 => nJ ls k + (ls.getD k ⟨#[]⟩).size + 1
theorem nJ_zero (ls : List ByteArray) : nJ ls 0 = 0 := rfl
theorem nJ_succ (ls : List ByteArray) (k : Nat) : nJ ls (k + 1) = nJ ls k + (ls.getD k ⟨#[]⟩).size + 1 := rfl
/-- how many lines are taken -/
def rjK (ls : List ByteArray) : Nat := ((List.range (ls.length - 1)).takeWhile (accJ ls)).length
theorem tw_len {p : Nat → Bool} : ∀ (l : List Nat) (k : Nat), k ≤ l.length → (∀ i, i < k → p (l.getD i 0) = true) → (k = l.length ∨ p (l.getD k 0) = false) → (l.takeWhile p).length = k
  | [], k, hk, _, _ => by simp at hk ⊢; omega
  | x :: l, 0, _, _, h => by
    rcases h with h | h
    · simp at h
    · rw [List.takeWhile_cons]; simp at h; rw [h]; rfl
  | x :: l, k + 1, hk, h1, h2 => by
    have hx : p x = true := by simpa using h1 0 (by omega)
    rw [List.takeWhile_cons, if_pos hx, List.length_cons, tw_len l k (by simpa using hk) (fun i hi => by simpa using h1 (i + 1) (by omega)) (by simpa using h2)]
theorem rjK_eq {ls : List ByteArray} {k : Nat} (hk : k ≤ ls.length - 1) (h1 : ∀ i, i < k → accJ ls i = true) (h2 : k = ls.length - 1 ∨ accJ ls k = false) : rjK ls = k := by
  unfold rjK
  refine tw_len _ k (by simpa using hk) (fun i hi => ?_) ?_
  · rw [show (List.range (ls.length - 1)).getD i 0 = i by simp [List.getD_eq_getElem?_getD, show i < ls.length - 1 by omega]]
    exact h1 i hi
  · rcases h2 with h2 | h2
    · exact .inl (by simpa using h2)
    · rcases Nat.lt_or_ge k (ls.length - 1) with h3 | h3
      · refine .inr ?_
        rw [show (List.range (ls.length - 1)).getD k 0 = k by simp [List.getD_eq_getElem?_getD, h3]]
        exact h2
      · exact .inl (by simp; omega)
attribute [irreducible] ckJ nJ rjK accJ
/-- so far a journal is taken -/
structure TakJ (s : ByteArray) (k : Nat) : Prop where
  le : k ≤ (cutB 10 s).length - 1
  acc : ∀ i, i < k → accJ (cutB 10 s) i = true
theorem TakJ.zero (s : ByteArray) : TakJ s 0 := ⟨Nat.zero_le _, fun _ h => absurd h (Nat.not_lt_zero _)⟩
theorem TakJ.next {s : ByteArray} {k : Nat} (h : TakJ s k) (hk : k < (cutB 10 s).length - 1) (ha : accJ (cutB 10 s) k = true) : TakJ s (k + 1) := by
  refine ⟨hk, fun i hi => ?_⟩
  rcases Nat.lt_or_ge i k with h1 | h1
  · exact h.acc i h1
  · rw [show i = k by omega]; exact ha
theorem TakJ.done {s : ByteArray} {k : Nat} (h : TakJ s k) (hk : k = (cutB 10 s).length - 1 ∨ accJ (cutB 10 s) k = false) : rjK (cutB 10 s) = k := rjK_eq h.le h.acc hk
/-- where the k-th line begins -/
structure PosJ (s : ByteArray) (k : Nat) : Prop where
  le : nJ (cutB 10 s) k ≤ s.size
  lt : k < (cutB 10 s).length
  eq : cutB 10 (s.extract (nJ (cutB 10 s) k) s.size) = (cutB 10 s).drop k
theorem PosJ.zero (s : ByteArray) : PosJ s 0 := by
  refine ⟨by rw [nJ_zero]; omega, List.length_pos_iff.2 (cutB_ne 10 s), ?_⟩
  rw [nJ_zero, List.drop_zero]
  congr 1
  rw [← ofL_extract, List.drop_zero, Nat.sub_zero, ← sz_len, List.take_length]
  rfl
theorem cutB_parts {c : UInt8} (s : ByteArray) : (cutF c s = false ∧ cutB c s = [s]) ∨ (cutF c s = true ∧ cutB c s = cutA c s :: cutB c (cutZ c s)) := by
  rcases part_at c s.data.toList with h1 | ⟨a, b, e, h1⟩
  · refine .inl ⟨(fstN_none h1).2, ?_⟩
    unfold cutB
    rw [cutL_none h1]; rfl
  · obtain ⟨-, e1, e2, e3⟩ := fstN_hit e h1
    refine .inr ⟨e1, ?_⟩
    rw [e2, e3]
    unfold cutB
    rw [e, cutL_hit h1]; rfl
theorem PosJ.next {s : ByteArray} {k : Nat} (h : PosJ s k) (hc : cutF 10 (s.extract (nJ (cutB 10 s) k) s.size) = true) :
    cutA 10 (s.extract (nJ (cutB 10 s) k) s.size) = (cutB 10 s).getD k ⟨#[]⟩ ∧ k < (cutB 10 s).length - 1 ∧ PosJ s (k + 1) := by
  have hlt := h.lt
  have hle := h.le
  rcases cutB_parts (c := 10) (s.extract (nJ (cutB 10 s) k) s.size) with ⟨h1, -⟩ | ⟨h1, h2⟩
  · rw [hc] at h1; cases h1
  · rw [h.eq, List.drop_eq_getElem_cons hlt] at h2
    injection h2 with h3 h4
    have hg : cutA 10 (s.extract (nJ (cutB 10 s) k) s.size) = (cutB 10 s).getD k ⟨#[]⟩ := by rw [← h3]; simp [List.getD_eq_getElem?_getD, hlt]
    have hf : fstN 10 (s.extract (nJ (cutB 10 s) k) s.size) < s.size - nJ (cutB 10 s) k := by
      unfold cutF at hc
      rw [extract_size (Nat.le_refl _)] at hc
      simpa using hc
    have hsz : ((cutB 10 s).getD k ⟨#[]⟩).size = fstN 10 (s.extract (nJ (cutB 10 s) k) s.size) := by
      rw [← hg]
      unfold cutA
      rw [extract_size (by rw [extract_size (Nat.le_refl _)]; omega)]; omega
    have hz : cutZ 10 (s.extract (nJ (cutB 10 s) k) s.size) = s.extract (nJ (cutB 10 s) (k + 1)) s.size := by
      unfold cutZ
      rw [extract_size (Nat.le_refl _), ByteArray.extract_extract, nJ_succ, hsz]
      congr 1
      omega
    have hk1 : k + 1 < (cutB 10 s).length := by
      have := cutB_ne 10 (cutZ 10 (s.extract (nJ (cutB 10 s) k) s.size))
      rw [← h4] at this
      have := List.length_pos_iff.2 this
      rw [List.length_drop] at this
      omega
    refine ⟨hg, by omega, ?_, hk1, ?_⟩
    · rw [nJ_succ, hsz]; omega
    · rw [← hz, ← h4]
end Go.Proofs.YthdnepjajhjmlaaGreatDoor
namespace Go.Proofs.YthdnepjajhjmlaaGreatDoor
set_option linter.unusedSimpArgs false
set_option linter.unusedVariables false
open Go Cn Go.RowKit
theorem pow_dat : (Rows.laid_internal_strconv_uint64pow10 : DataW Unit) = Lib.tabData .u64 Lib.pow10Tab := by kernel_rfl
end Go.Proofs.YthdnepjajhjmlaaGreatDoor
