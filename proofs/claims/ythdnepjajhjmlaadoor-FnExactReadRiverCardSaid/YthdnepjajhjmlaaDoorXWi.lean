/- The listed tables and faults, as the longer rows of this seat give them. -/
import Derived.Test.YthdnepjajhjmlaaDoorXWg
import Derived.Test.YthdnepjajhjmlaaDoorXWc
import Derived.Test.YthdnepjajhjmlaaDoorXVa
import Derived.Test.YthdnepjajhjmlaaDoorXFb
import Derived.Test.YthdnepjajhjmlaaDoorXVu
import Derived.Test.YthdnepjajhjmlaaDoorRows
import Derived.Test.YthdnepjajhjmlaaDoorXWe
import Derived.Lib.LaidTab
import Derived.Stop.LaidErr
namespace Go.Proofs.YthdnepjajhjmlaaDoor
set_option linter.unusedSimpArgs false
set_option linter.unusedVariables false
open Go Cn Go.RowKit
def rdW (w : ByteArray) : Nat := hexN 0 w.data.toList
def rdV (w : ByteArray) : Nat := cb .f32 (rdW w)
def rdOk (w : ByteArray) : Bool := decide (w.size = 8) && (w.data.toList.all lhx && decide (wd (rdV w) = rdW w))
theorem hexN_app : ∀ (l : List UInt8) (a : Nat), hexN a l = a * 16 ^ l.length + hexN 0 l
  | [], a => by simp [hexN]
  | c :: r, a => by
    rw [hexN, hexN_app r, hexN, hexN_app r (0 * 16 + lhd c), List.length_cons, Nat.pow_succ]
    rw [Nat.add_mul, Nat.zero_mul, Nat.zero_add, Nat.mul_assoc, Nat.mul_comm 16, Nat.add_assoc]
theorem hexN_lt : ∀ (l : List UInt8), l.all lhx = true → hexN 0 l < 16 ^ l.length
  | [], _ => by simp [hexN]
  | c :: r, h => by
    rw [List.all_cons, Bool.and_eq_true] at h
    have h1 := hexN_lt r h.2
    have h2 := lhd_le h.1
    rw [hexN, hexN_app r, List.length_cons, Nat.pow_succ, Nat.zero_mul, Nat.zero_add]
    have : lhd c * 16 ^ r.length ≤ 15 * 16 ^ r.length := Nat.mul_le_mul_right _ h2
    generalize lhd c * 16 ^ r.length = x at *
    generalize 16 ^ r.length = y at *
    omega
theorem rdOk_iff {w : ByteArray} : rdOk w = true ↔ w.size = 8 ∧ w.data.toList.all lhx = true ∧ wd (rdV w) = rdW w := by
  unfold rdOk; simp only [Bool.and_eq_true, decide_eq_true_eq]
/-- a text's words -/
def none4 : ByteArray := ⟨#[110, 111, 110, 101]⟩
def rdT (t : ByteArray) : List ByteArray := if t = none4 then [] else cutB 44 t
def rdAll (t : ByteArray) : Bool := decide ((rdT t).length ≤ 256) && (rdT t).all rdOk
section
variable {P : Program} {N B : Nat} {E : Env} {W : World} {ops : Array Oper} {K : Exit → Env → World → Prop} {T : Tab} {o : Oper}
theorem cv_nilIface {u : Value} (h : cv u = .nilIface) : u = .nilIface := by cases u <;> simp_all [cv, c1, cl]
theorem cv_iface {u : Value} {d : TypeId} {z : Value} (h : cv u = .iface d z) : u = .iface d z := by cases u <;> simp_all [cv, c1, cl]
end
end Go.Proofs.YthdnepjajhjmlaaDoor
namespace Go.Proofs.YthdnepjajhjmlaaDoor
set_option linter.unusedSimpArgs false
set_option linter.unusedVariables false
open Go Cn Go.RowKit
section
variable {B : Nat} {A W W' : World} {L L' : List Res}
/-- the library's two faults -/
def ErG (W : World) : Prop := (∃ t p, W.cell? ⟨5, 0, none⟩ = some (.iface t p)) ∧ ∃ t p, W.cell? ⟨6, 0, none⟩ = some (.iface t p)
theorem ErG.below {A W : World} (h : ErG A) (hb : Below A.heap.size A W) : ErG W := by
  obtain ⟨⟨t1, p1, h1⟩, t2, p2, h2⟩ := h
  exact ⟨⟨t1, p1, (hb.cell (World.block_lt_of_cell? _ _ h1)).trans h1⟩, t2, p2, (hb.cell (World.block_lt_of_cell? _ _ h2)).trans h2⟩
theorem ErG.hp {A : World} {l : List Res} (h : ErG A) (H : Hp B A W l) : ErG W := h.below H.below
theorem cl_iface {o : Option Value} {t : TypeId} {p : Value} (h : o.map cl = some (.iface t p)) : o = some (.iface t p) := by
  cases o with
  | none => cases h
  | some v => cases v <;> simp_all [cl]
theorem ErG.raw {w : World} (h : ErG (cw B w)) : ErG w := by
  obtain ⟨⟨t1, p1, h1⟩, t2, p2, h2⟩ := h
  rw [cw_cell] at h1 h2
  refine ⟨⟨t1, p1, ?_⟩, t2, p2, ?_⟩
  · split at h1
    · exact h1
    · exact cl_iface h1
  · split at h2
    · exact h2
    · exact cl_iface h2
theorem strint3 {xs : Array Value} {a : ByteArray} {k q : IntKind} {n m : Int} (h : xs.toList.map cv = [.string a, .int k n, .int q m]) : xs = #[.string a, .int k n, .int q m] := by
  obtain ⟨l⟩ := xs
  match l, h with
  | [u, v, z], h =>
    simp only [List.map_cons, List.map_nil, List.cons.injEq, and_true] at h
    rw [cv_string h.1, cv_int h.2.1, cv_int h.2.2]
  | [], h => cases h
  | [_], h => simp at h
  | [_, _], h => simp at h
  | _ :: _ :: _ :: _ :: _, h => simp at h
theorem rdT_len (t : ByteArray) : (rdT t).length ≤ t.size + 1 := by
  unfold rdT
  split
  · exact Nat.zero_le _
  · exact cutB_len 44 t
/-- what a text's reading hands back -/
def RdH (B : Nat) (W : World) (t : ByteArray) (r : Value) (W' : World) : Prop :=
  (rdAll t = false ∧ r = .tuple #[.slice none 0 0, .bool false] ∧ Hp B W W' []) ∨ (rdAll t = true ∧ ∃ a c, r = .tuple #[.slice a (rdT t).length c, .bool true] ∧ Hp B W W' [.row 49 1 (.slice a (rdT t).length c) (rdT t).length (((rdT t).map rdV).map (.float .f32))])
theorem RdH.bad {B : Nat} {W W' : World} {t : ByteArray} (h : rdAll t = false) (H : Hp B W W' []) : RdH B W t (.tuple #[.slice none 0 0, .bool false]) W' := .inl ⟨h, rfl, H⟩
theorem RdH.good {B : Nat} {W W' : World} {t : ByteArray} {a : Option Addr} {c : Nat} (h : rdAll t = true) (H : Hp B W W' [.row 49 1 (.slice a (rdT t).length c) (rdT t).length (((rdT t).map rdV).map (.float .f32))]) : RdH B W t (.tuple #[.slice a (rdT t).length c, .bool true]) W' := .inr ⟨h, a, c, rfl, H⟩
theorem cutL_le (c : UInt8) : ∀ (l : List UInt8) (w : List UInt8), w ∈ cutL c l → w.length ≤ l.length
  | [], w, h => by simp [cutL] at h; rw [h]; exact Nat.le_refl _
  | b :: l, w, h => by
    unfold cutL at h
    split at h
    · rcases List.mem_cons.1 h with rfl | h
      · exact Nat.zero_le _
      · exact Nat.le_succ_of_le (cutL_le c l w h)
    · split at h
      · rename_i e
        exact absurd e (cutL_ne c l)
      · rename_i x y e
        rcases List.mem_cons.1 h with rfl | h
        · exact Nat.succ_le_succ (cutL_le c l x (by rw [e]; exact List.mem_cons_self))
        · exact Nat.le_succ_of_le (cutL_le c l w (by rw [e]; exact List.mem_cons_of_mem _ h))
theorem cutB_le {c : UInt8} {t w : ByteArray} (h : w ∈ cutB c t) : w.size ≤ t.size := by
  unfold cutB at h
  obtain ⟨l, hl, rfl⟩ := List.mem_map.1 h
  have := cutL_le c _ l hl
  rw [sz_len] at this
  rw [← sz_len]
  exact this
theorem cutB_size {t w : ByteArray} (h : w ∈ rdT t) : w.size ≤ t.size := by
  unfold rdT at h
  split at h
  · cases h
  · exact cutB_le h
end
end Go.Proofs.YthdnepjajhjmlaaDoor
namespace Go.Proofs.YthdnepjajhjmlaaDoor
set_option linter.unusedSimpArgs false
set_option linter.unusedVariables false
open Go Cn Go.RowKit
theorem hexN_snoc (c : UInt8) : ∀ (l : List UInt8) (a : Nat), hexN a (l ++ [c]) = hexN a l * 16 + lhd c
  | [], a => rfl
  | b :: l, a => by rw [List.cons_append, hexN, hexN_snoc c l, hexN]
theorem rd_step {w : ByteArray} {j : Nat} (hj : j < w.size) : ∃ c, bt w j = c.toNat ∧ w.data.toList.take (j + 1) = w.data.toList.take j ++ [c] := by
  have hl : j < w.data.toList.length := by rw [sz_len]; exact hj
  refine ⟨w.data.toList[j], ?_, ?_⟩
  · unfold bt; rw [List.getElem?_eq_getElem hl, Option.getD_some]
  · rw [List.take_add_one, List.getElem?_eq_getElem hl]; rfl
/-- a word read up to the j-th digit -/
def WdI (w : ByteArray) (j : Nat) (a : Int) : Prop := j ≤ 8 ∧ a = (hexN 0 (w.data.toList.take j) : Nat) ∧ (w.data.toList.take j).all lhx = true
theorem WdI.lt {w : ByteArray} {j : Nat} {a : Int} (h : WdI w j a) : 0 ≤ a ∧ a < 4294967296 := by
  obtain ⟨h1, h2, h3⟩ := h
  have h4 := hexN_lt _ h3
  have h5 : 16 ^ (w.data.toList.take j).length ≤ 16 ^ 8 := Nat.pow_le_pow_right (by omega) (by rw [List.length_take]; omega)
  have h6 : 16 ^ 8 = 4294967296 := by decide
  omega
theorem WdI.step {w : ByteArray} {j : Nat} {a : Int} {c : UInt8} (h : WdI w j a) (hj : j < 8) (hc : w.data.toList.take (j + 1) = w.data.toList.take j ++ [c]) (hx : lhx c = true) : WdI w (j + 1) (16 * a + lhd c) := by
  obtain ⟨h1, h2, h3⟩ := h
  refine ⟨by omega, ?_, ?_⟩
  · rw [hc, hexN_snoc, h2]; omega
  · rw [hc, List.all_append, h3, List.all_cons, hx]; rfl
theorem WdI.bad {w : ByteArray} {j : Nat} {c : UInt8} (hc : w.data.toList.take (j + 1) = w.data.toList.take j ++ [c]) (hx : lhx c = false) : rdOk w = false := by
  cases h : rdOk w
  · rfl
  · obtain ⟨-, h2, -⟩ := rdOk_iff.1 h
    rw [List.all_eq_true] at h2
    have hm : c ∈ w.data.toList := List.mem_of_mem_take (i := j + 1) (by rw [hc]; simp)
    rw [h2 c hm] at hx; cases hx
theorem WdI.all {w : ByteArray} {a : Int} (h : WdI w 8 a) (h8 : w.size = 8) : a = (rdW w : Nat) ∧ w.data.toList.all lhx = true := by
  obtain ⟨h1, h2, h3⟩ := h
  rw [List.take_of_length_le (by rw [sz_len]; omega)] at h2 h3
  exact ⟨h2, h3⟩
section
variable {B : Nat} {A W W' : World} {L L' : List Res}
end
end Go.Proofs.YthdnepjajhjmlaaDoor
namespace Go.Proofs.YthdnepjajhjmlaaDoor
set_option linter.unusedSimpArgs false
set_option linter.unusedVariables false
open Go Cn Go.RowKit
theorem cw_below (W : World) : Below W.heap.size W (cw W.heap.size W) := ⟨rfl, rfl, rfl, by rw [cw_size]; exact Nat.le_refl _, fun _ hk => cw_heap_lt hk⟩
theorem tabG_of2 {W : World} {x1 x2 : String × DataW Unit} {rest : List (String × DataW Unit)} (h : laidMet Tryd.prog (x1 :: x2 :: ("internal/strconv.uint64pow10", Rows.laid_internal_strconv_uint64pow10) :: rest) W) : TabG (cw W.heap.size W) := by
  rw [pow_dat] at h
  have h3 := h.tail.tail
  have hT : TabG W := Lib.tabIs_of_head (g := (Tryd.prog.globalNamed "internal/strconv.uint64pow10").getD 0) (t := 208) (e := 182) (n := 20) (by kernel_rfl) (by kernel_rfl) Tryd.underlying208 Tryd.underlying182 (by kernel_rfl) (by kernel_rfl) h3
  exact hT.below (cw_below W)
theorem es_star : "*" ++ "errors.errorString" = "*errors.errorString" := by decide
theorem es_row (u : TypeId) (h : Tryd.prog.typeName? 3 u = some "*errors.errorString") : u = 235 :=
  typeName_ptr_named (nm := "errors.errorString") (by rw [es_star]; kernel_rfl) (by kernel_rfl) (by decide) u (by rw [es_star]; exact h)
theorem erG_of {W : World} {x1 x2 x3 x4 : String × DataW Unit} {rest : List (String × DataW Unit)} (h : laidMet Tryd.prog (x1 :: x2 :: x3 :: x4 :: ("strconv.ErrRange", Rows.laid_strconv_ErrRange) :: ("strconv.ErrSyntax", Rows.laid_strconv_ErrSyntax) :: rest) W) : ErG (cw W.heap.size W) := by
  have h5 := h.tail.tail.tail.tail
  have g6 : Tryd.prog.globalNamed "strconv.ErrRange" = some 6 := by kernel_rfl
  have g5 : Tryd.prog.globalNamed "strconv.ErrSyntax" = some 5 := by kernel_rfl
  obtain ⟨a0, s0, hv0, -, -, -⟩ := laid_sentinel h5 g6 (ti := 90) (by kernel_rfl) Tryd.underlying90 es_row Tryd.underlying235 Tryd.underlying237 rfl rfl Tryd.underlying9 (by kernel_rfl) (by kernel_rfl)
  obtain ⟨a1, s1, hv1, -, -, -⟩ := laid_sentinel h5.tail g5 (ti := 90) (by kernel_rfl) Tryd.underlying90 es_row Tryd.underlying235 Tryd.underlying237 rfl rfl Tryd.underlying9 (by kernel_rfl) (by kernel_rfl)
  have hE : ErG W := ⟨⟨_, _, by simpa using World.var?_cell g5 hv1 0⟩, _, _, by simpa using World.var?_cell g6 hv0 0⟩
  exact hE.below (cw_below W)
end Go.Proofs.YthdnepjajhjmlaaDoor
