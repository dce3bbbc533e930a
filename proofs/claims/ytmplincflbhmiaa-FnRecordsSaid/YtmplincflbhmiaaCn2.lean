/- Canonical values and worlds; the walk over canonical frames and worlds; its rules for control and for operations that touch no memory. -/
import Derived.Test.YtmplincflbhmiaaCn1
import Derived.Calls
import Derived.Below
import Derived.Laws.Entries
import Derived.Laws.Cover2
import Derived.Laws.FloatArith
import Derived.WalkKit
namespace Go.Proofs.Ytmplincflbhmiaa.Cn
set_option linter.unusedSimpArgs false
set_option linter.unusedVariables false
open Go Go.RowKit

/-! ### values -/
def cl : Value → Value
  | .float k b => .float k (cb k b)
  | v => v
def c1 : Value → Value
  | .agg cs => .agg (cs.map cl)
  | v => cl v
def cv : Value → Value
  | .tuple vs => .tuple (vs.map c1)
  | v => c1 v

theorem cl_cl (v : Value) : cl (cl v) = cl v := by cases v <;> simp [cl, cb_cb]
theorem c1_c1 (v : Value) : c1 (c1 v) = c1 v := by
  cases v <;> simp [c1, cl, cb_cb]
  intro a _; exact cl_cl a
theorem cv_cv (v : Value) : cv (cv v) = cv v := by
  cases v <;> simp [cv, c1, cl, cb_cb]
  · intro a _; exact cl_cl a
  · intro a _; exact c1_c1 a

theorem cv_bool {u : Value} {b : Bool} (h : cv u = .bool b) : u = .bool b := by cases u <;> simp_all [cv, c1, cl]
theorem cv_int {u : Value} {k : IntKind} {n : Int} (h : cv u = .int k n) : u = .int k n := by cases u <;> simp_all [cv, c1, cl]
theorem cv_string {u : Value} {s : ByteArray} (h : cv u = .string s) : u = .string s := by cases u <;> simp_all [cv, c1, cl]
theorem cv_pointer {u : Value} {a : Option Addr} (h : cv u = .pointer a) : u = .pointer a := by cases u <;> simp_all [cv, c1, cl]
theorem cv_slice {u : Value} {a : Option Addr} {n c : Nat} (h : cv u = .slice a n c) : u = .slice a n c := by cases u <;> simp_all [cv, c1, cl]
theorem cv_func {u : Value} {f : Fn} {a c : Array Value} (h : cv u = .func f a c) : u = .func f a c := by cases u <;> simp_all [cv, c1, cl]
theorem cv_float {u : Value} {k : FloatKind} {x : Nat} (h : cv u = .float k x) : ∃ b, u = .float k b ∧ cb k b = x := by
  cases u <;> simp [cv, c1, cl] at h
  obtain ⟨h1, h2⟩ := h
  subst h1
  exact ⟨_, rfl, h2⟩
theorem cv_agg {u : Value} {cs : Array Value} (h : cv u = .agg cs) : ∃ ds, u = .agg ds ∧ ds.map cl = cs := by
  cases u <;> simp_all [cv, c1, cl]
theorem cv_tuple {u : Value} {cs : Array Value} (h : cv u = .tuple cs) : ∃ ds, u = .tuple ds ∧ ds.map c1 = cs := by
  cases u <;> simp_all [cv, c1, cl]

/-! ### worlds -/
def co : Obj → Obj
  | .cells c e f => .cells (c.map cl) e f
  | o => o
theorem co_co (o : Obj) : co (co o) = co o := by
  cases o <;> simp [co]
  intro a _; exact cl_cl a
def cw (B : Nat) (w : World) : World := { w with heap := w.heap.mapIdx (fun i o => if i < B then o else co o), drawn := 0 }

@[simp] theorem cw_size (B : Nat) (w : World) : (cw B w).heap.size = w.heap.size := by simp [cw]
theorem cw_heap (B : Nat) (w : World) (i : Nat) : (cw B w).heap[i]? = (w.heap[i]?).map (fun o => if i < B then o else co o) := by
  simp [cw, Array.getElem?_mapIdx]
theorem cw_drew (B : Nat) (w : World) : cw B w.drew = cw B w := rfl
theorem cw_heap_lt {B : Nat} {w : World} {i : Nat} (h : i < B) : (cw B w).heap[i]? = w.heap[i]? := by
  rw [cw_heap]; simp [h]
theorem cw_cell (B : Nat) (w : World) (a : Addr) : (cw B w).cell? a = if a.block < B then w.cell? a else (w.cell? a).map cl := by
  unfold World.cell?
  rw [cw_heap]
  by_cases h : a.block < B
  · simp only [h, if_true]; simp
  · simp only [h, if_false]
    cases w.heap[a.block]? with
    | none => rfl
    | some o =>
      cases o <;> simp [co]
      split <;> simp
/-- a cell that the canonical world holds is held, up to canonical words -/
theorem cell_back {B : Nat} {w W : World} (hw : cw B w = W) {a : Addr} {v : Value} (h : W.cell? a = some v) : ∃ u, w.cell? a = some u ∧ cl u = cl v := by
  rw [← hw, cw_cell] at h
  split at h
  · exact ⟨v, h, rfl⟩
  · cases hc : w.cell? a with
    | none => rw [hc] at h; cases h
    | some u => rw [hc] at h; exact ⟨u, rfl, by cases h; rw [cl_cl]⟩
theorem cw_frozen (B : Nat) (w : World) (a : Addr) : (cw B w).frozen? a = w.frozen? a := by
  unfold World.frozen?
  rw [cw_heap]
  cases w.heap[a.block]? with
  | none => rfl
  | some o => cases o <;> by_cases h : a.block < B <;> simp [h, co]
theorem cw_shape (B : Nat) (w : World) (r : Nat) : (cw B w).shape? r = w.shape? r := by
  unfold World.shape?
  rw [cw_heap]
  cases w.heap[r]? with
  | none => rfl
  | some o => cases o <;> by_cases h : r < B <;> simp [h, co]
theorem world_ext {w w' : World} (h1 : w.heap = w'.heap) (h2 : w.tape = w'.tape) (h3 : w.drawn = w'.drawn) (h4 : w.os = w'.os) (h5 : w.output = w'.output) : w = w' := by
  cases w; cases w'; simp_all
theorem cw_alloc {B : Nat} {w : World} (h : B ≤ w.heap.size) (o : Obj) : cw B (w.alloc o) = (cw B w).alloc (co o) := by
  refine world_ext ?_ rfl rfl rfl rfl
  apply Array.ext_getElem?
  intro i
  show (cw B (w.alloc o)).heap[i]? = ((cw B w).alloc (co o)).heap[i]?
  rw [cw_heap]
  show ((w.heap.push o)[i]?).map _ = ((cw B w).heap.push (co o))[i]?
  rw [Array.getElem?_push, Array.getElem?_push, cw_size]
  by_cases hi : i = w.heap.size
  · simp only [hi, if_true, Option.map_some]; rw [if_neg (by omega)]
  · simp only [hi, if_false]; rw [cw_heap]
theorem cw_setCell {B : Nat} {w : World} {a : Addr} (h : B ≤ a.block) (v : Value) : cw B (w.setCell a v) = (cw B w).setCell a (cl v) := by
  refine world_ext ?_ rfl rfl rfl rfl
  apply Array.ext_getElem?
  intro i
  show (cw B (w.setCell a v)).heap[i]? = ((cw B w).setCell a (cl v)).heap[i]?
  rw [cw_heap]
  simp only [World.setCell, Array.getElem?_modify]
  rw [cw_heap]
  by_cases hi : a.block = i
  · subst hi
    simp only [if_true]
    cases w.heap[a.block]? with
    | none => rfl
    | some o =>
      have hn : ¬ a.block < B := by omega
      cases o <;> simp [hn, co]
      split
      · simp
      · apply Array.ext_getElem?
        intro j
        simp only [Array.getElem?_map, Array.getElem?_setIfInBounds, Array.size_map]
        split
        · split <;> rfl
        · rfl
  · simp [hi]
theorem cw_cw (B : Nat) (w : World) : cw B (cw B w) = cw B w := by
  refine world_ext ?_ rfl rfl rfl rfl
  apply Array.ext_getElem?
  intro i
  rw [cw_heap, cw_heap]
  cases w.heap[i]? with
  | none => rfl
  | some o => by_cases h : i < B <;> simp [h, co_co]

/-! ### frames -/
abbrev Env := List (Nat × Value)
def Env.get : Env → Nat → Option Value
  | [], _ => none
  | (k, v) :: r, t => match Nat.beq k t with
    | true => some v
    | false => Env.get r t
structure EnvR (E : Env) (N : Nat) (a : Act) : Prop where
  defers : a.defers = []
  size : a.tmps.size = N
  get : ∀ t v, E.get t = some v → ∃ u, a.tmps[t]? = some u ∧ cv u = v
def putE (E : Env) (d : Option Nat) (v : Value) : Env :=
  match d with
  | some t => (t, v) :: E
  | none => E
def dstOk (N : Nat) : Option Nat → Bool
  | some t => Nat.ble (t + 1) N
  | none => true
theorem EnvR.put {E : Env} {N : Nat} {a : Act} (h : EnvR E N a) {d : Option Nat} (hd : dstOk N d = true) {u v : Value} (huv : cv u = v) : EnvR (putE E d v) N (a.put d u) := by
  cases d with
  | none => exact h
  | some t =>
    have ht : t < N := by have : t + 1 ≤ N := by simpa [dstOk] using hd
                          omega
    refine ⟨h.defers, by simp [Act.put, h.size], ?_⟩
    intro s x hs
    simp only [putE, Env.get] at hs
    simp only [Act.put, Array.getElem?_setIfInBounds]
    cases hts : Nat.beq t s with
    | true =>
      have : t = s := Nat.eq_of_beq_eq_true hts
      subst this
      rw [hts] at hs
      cases hs
      rw [if_pos rfl, if_pos (by rw [h.size]; exact ht)]
      exact ⟨u, rfl, huv⟩
    | false =>
      rw [hts] at hs
      have : t ≠ s := Nat.ne_of_beq_eq_false hts
      rw [if_neg this]
      exact h.get s x hs
/-- fewer things known -/
theorem EnvR.less {E E' : Env} {N : Nat} {a : Act} (h : EnvR E N a) (hs : ∀ t v, E'.get t = some v → E.get t = some v) : EnvR E' N a :=
  ⟨h.defers, h.size, fun t v ht => h.get t v (hs t v ht)⟩

/-- an operand; a constant that is a not-a-number is none -/
def evC : Value → Option Value
  | .float k b => match (k.decode b).isNaN with
    | false => some (.float k b)
    | true => none
  | .bool b => some (.bool b)
  | .int k n => some (.int k n)
  | .string s => some (.string s)
  | .pointer a => some (.pointer a)
  | .slice a n c => some (.slice a n c)
  | .nilFunc => some .nilFunc
  | .nilIface => some .nilIface
  | _ => none
theorem evC_cv {v u : Value} (h : evC v = some u) : cv v = u := by
  cases v <;> simp [evC] at h <;> try (subst h; rfl)
  rename_i k b
  cases hn : (k.decode b).isNaN
  · rw [hn] at h; simp at h; subst h; simp [cv, c1, cl, cb_num hn]
  · rw [hn] at h; simp at h
def ev (E : Env) : Operand → Option Value
  | .tmp t => E.get t
  | .const v => evC v
  | .global g => some (.pointer (some ⟨g, 0, none⟩))
  | .func f => some (.func (.func f) #[] #[])
theorem ev_sound {E : Env} {N : Nat} {a : Act} (h : EnvR E N a) {x : Operand} {v : Value} (hx : ev E x = some v) : cv (a.eval x) = v := by
  cases x with
  | tmp t =>
    obtain ⟨u, hu, huv⟩ := h.get t v hx
    simp [Act.eval, Array.getD_eq_getD_getElem?, hu, huv]
  | const c => exact evC_cv hx
  | global g => simp [ev] at hx; subst hx; rfl
  | func f => simp [ev] at hx; subst hx; rfl

/-- a guard -/
def guardE (ops : Array Oper) (o : Oper) (E : Env) : Option Bool :=
  match o.guard with
  | none => some true
  | some (j, want) =>
    match (ops[j]?).bind (·.dst) with
    | some t => match E.get t with
      | some (.bool b) => match b, want with
        | true, true => some true
        | false, false => some true
        | true, false => some false
        | false, true => some false
      | some (.tuple _) => some false
      | _ => none
    | none => none
theorem guardE_sound {ops : Array Oper} {o : Oper} {E : Env} {N : Nat} {a : Act} (h : EnvR E N a) {g : Bool} (hg : guardE ops o E = some g) :
    Region.wanted o (yielded ops a.tmps) = g := by
  unfold guardE at hg
  unfold Region.wanted
  split at hg
  · rename_i hn; rw [hn]; simp at hg; rw [hg]
  · rename_i j want hs
    rw [hs]
    show (yielded ops a.tmps j == some want) = g
    split at hg
    · rename_i t ht
      split at hg
      · rename_i b hb
        obtain ⟨u, hu, huv⟩ := h.get t _ hb
        have := cv_bool huv
        subst this
        simp only [yielded, ht, Option.bind_some, hu]
        cases b <;> cases want <;> simp_all
      · rename_i cs hb
        obtain ⟨u, hu, huv⟩ := h.get t _ hb
        obtain ⟨ds, rfl, -⟩ := cv_tuple huv
        cases hg
        simp only [yielded, ht, Option.bind_some, hu]
        rfl
      · cases hg
    · cases hg

/-! ### the walk -/
def Post (N B : Nat) (K : Exit → Env → World → Prop) : Exit → Act → World → Prop :=
  fun e a w => B ≤ w.heap.size ∧ ∃ E, EnvR E N a ∧ K e E (cw B w)
def AOps (P : Program) (N B : Nat) (ops : Array Oper) (l : List Nat) (K : Exit → Env → World → Prop) (E : Env) (W : World) : Prop :=
  ∀ a w, EnvR E N a → cw B w = W → B ≤ w.heap.size → wpOps P ops (Post N B K) l a w
def AW (P : Program) (N B : Nat) (c : Code) (K : Exit → Env → World → Prop) (E : Env) (W : World) : Prop :=
  ∀ a w, EnvR E N a → cw B w = W → B ≤ w.heap.size → c.wp P (Post N B K) a w
/-- a call, on canonical arguments in a canonical world -/
def ACalls (P : Program) (B : Nat) (f : FuncId) (args : List Value) (W : World) (R : Value → World → Prop) : Prop :=
  ∀ (xs : Array Value) w, xs.toList.map cv = args → cw B w = W → B ≤ w.heap.size →
    Calls P f xs w fun e w' => ∃ u, e = .returned u ∧ B ≤ w'.heap.size ∧ R (cv u) (cw B w')

section rules
variable {P : Program} {N B : Nat} {ops : Array Oper} {K : Exit → Env → World → Prop} {E : Env} {W : World}

theorem ACalls.mono {f : FuncId} {args : List Value} {R R' : Value → World → Prop} (h : ACalls P B f args W R) (hr : ∀ v W', R v W' → R' v W') : ACalls P B f args W R' :=
  fun xs w h1 h2 h3 => (h xs w h1 h2 h3).mono fun _ _ ⟨u, he, hb, hR⟩ => ⟨u, he, hb, hr _ _ hR⟩

theorem AW.less {c : Code} {E' : Env} (hs : ∀ t v, E'.get t = some v → E.get t = some v) (h : AW P N B c K E' W) : AW P N B c K E W :=
  fun a w ha hw hB => h a w (ha.less hs) hw hB

theorem aops_nil (h : K .normal E W) : AOps P N B ops [] K E W := by
  intro a w ha hw hB
  subst hw
  exact ⟨hB, E, ha, h⟩

/-- the operation's value, whatever it may be -/
def Yields (P : Program) (N B : Nat) (o : Oper) (E : Env) (W : World) (R : Value → World → Prop) : Prop :=
  ∀ a w, EnvR E N a → cw B w = W → B ≤ w.heap.size → ∃ u w', (execOp a.eval o).run P w = .ok (.value u) w' ∧ B ≤ w'.heap.size ∧ R (cv u) (cw B w')

theorem aops_yields {i : Nat} {rest : List Nat} {o : Oper} {R : Value → World → Prop} (ho : ops[i]? = some o) (hg : guardE ops o E = some true) (hd : dstOk N o.dst = true)
    (hy : Yields P N B o E W R) (k : ∀ v W', R v W' → AOps P N B ops rest K (putE E o.dst v) W') : AOps P N B ops (i :: rest) K E W := by
  intro a w ha hw hB
  obtain ⟨u, w', hr, hB', hR⟩ := hy a w ha hw hB
  simp only [wpOps, ho]
  rw [if_pos (guardE_sound ha hg)]
  refine .inl ?_
  unfold Oper.wp
  rw [hr]
  exact k _ _ hR _ _ (ha.put hd rfl) rfl hB'

/-- the operation's value, told -/
def Gives (P : Program) (N B : Nat) (o : Oper) (E : Env) (W : World) (v : Value) (W' : World) : Prop :=
  Yields P N B o E W (fun v' W'' => v' = v ∧ W'' = W')
theorem aops_gives {i : Nat} {rest : List Nat} {o : Oper} {v : Value} {W' : World} (ho : ops[i]? = some o) (hg : guardE ops o E = some true) (hd : dstOk N o.dst = true)
    (hy : Gives P N B o E W v W') (k : AOps P N B ops rest K (putE E o.dst v) W') : AOps P N B ops (i :: rest) K E W :=
  aops_yields ho hg hd hy fun _ _ ⟨h1, h2⟩ => by subst h1; subst h2; exact k

/-- an operation that gives no value (a store) -/
theorem aops_skips {i : Nat} {rest : List Nat} {o : Oper} {W' : World} (ho : ops[i]? = some o) (hg : guardE ops o E = some true) (hd : o.dst = none)
    (hy : ∀ a w, EnvR E N a → cw B w = W → B ≤ w.heap.size → ∃ w', (execOp a.eval o).run P w = .ok .skip w' ∧ B ≤ w'.heap.size ∧ cw B w' = W')
    (k : AOps P N B ops rest K E W') : AOps P N B ops (i :: rest) K E W := by
  intro a w ha hw hB
  obtain ⟨w', hr, hB', hR⟩ := hy a w ha hw hB
  simp only [wpOps, ho]
  rw [if_pos (guardE_sound ha hg)]
  refine .inl ?_
  unfold Oper.wp
  rw [hr]
  show wpOps P ops (Post N B K) rest (a.put o.dst undef) w'
  rw [hd]
  exact k _ _ ha hR hB'

/-- passed over -/
theorem aops_pass {i : Nat} {rest : List Nat} {o : Oper} (ho : ops[i]? = some o) (hg : guardE ops o E = some false) (hd : dstOk N o.dst = true)
    (k : AOps P N B ops rest K (putE E o.dst undef) W) : AOps P N B ops (i :: rest) K E W := by
  intro a w ha hw hB
  simp only [wpOps, ho]
  rw [guardE_sound ha hg]
  rw [if_neg (by simp)]
  exact k _ _ (ha.put hd (by simp [undef, cv])) hw hB

/-- a guard that is not decided yet -/
theorem aops_part {l : List Nat} {t : Nat} {b : Bool} (hb : E.get t = some (.bool b)) (h1 : b = true → AOps P N B ops l K ((t, .bool true) :: E) W) (h2 : b = false → AOps P N B ops l K ((t, .bool false) :: E) W) :
    AOps P N B ops l K E W := by
  have key : ∀ c : Bool, E.get t = some (.bool c) → ∀ s x, Env.get ((t, .bool c) :: E) s = some x → E.get s = some x := by
    intro c hc s x hs
    simp only [Env.get] at hs
    cases hts : Nat.beq t s with
    | true => rw [hts] at hs; have := Nat.eq_of_beq_eq_true hts; subst this; rw [hc]; exact hs
    | false => rw [hts] at hs; exact hs
  intro a w ha hw hB
  cases b with
  | true => exact h1 rfl a w (ha.less (key true hb)) hw hB
  | false => exact h2 rfl a w (ha.less (key false hb)) hw hB

/-- a call of a function with a body -/
theorem aops_enter {i : Nat} {rest : List Nat} {o : Oper} {f : FuncId} {args : List Value} {R : Value → World → Prop} (ho : ops[i]? = some o) (hg : guardE ops o E = some true) (hd : dstOk N o.dst = true)
    (hy : ∀ a w, EnvR E N a → cw B w = W → B ≤ w.heap.size → ∃ xs : Array Value, (execOp a.eval o).run P w = .ok (.enter f xs) w ∧ xs.toList.map cv = args)
    (hc : ACalls P B f args W R) (k : ∀ v W', R v W' → AOps P N B ops rest K (putE E o.dst v) W') : AOps P N B ops (i :: rest) K E W := by
  intro a w ha hw hB
  obtain ⟨xs, hr, hx⟩ := hy a w ha hw hB
  simp only [wpOps, ho]
  rw [if_pos (guardE_sound ha hg)]
  refine .inl ?_
  unfold Oper.wp
  rw [hr]
  show Calls P f xs w _
  refine (hc xs w hx hw hB).mono ?_
  rintro e w' ⟨u, rfl, hB', hR⟩
  exact k _ _ hR _ _ (ha.put hd rfl) rfl hB'

theorem aw_region {id : Nat} (h : AOps P N B ops (List.range ops.size) K E W) : AW P N B (.region id ops false) K E W :=
  fun a w ha hw hB => wp_region (h a w ha hw hB)
theorem aw_skip (h : K .normal E W) : AW P N B .skip K E W := by
  intro a w ha hw hB; subst hw; exact wp_skip ⟨hB, E, ha, h⟩
theorem aw_exit {id : Nat} (h : K (.exit id) E W) : AW P N B (.exit id) K E W := by
  intro a w ha hw hB; subst hw; exact wp_exit ⟨hB, E, ha, h⟩
theorem aw_ret (h : K .ret E W) : AW P N B .ret K E W := by
  intro a w ha hw hB; subst hw; exact wp_ret ⟨hB, E, ha, h⟩

/-- what stands behind -/
def Thn (P : Program) (N B : Nat) (y : Code) (K : Exit → Env → World → Prop) : Exit → Env → World → Prop
  | .normal, E, W => AW P N B y K E W
  | e, E, W => K e E W
theorem aw_seq {x y : Code} (h : AW P N B x (Thn P N B y K) E W) : AW P N B (.seq x y) K E W := by
  intro a w ha hw hB
  refine wp_seq (wp_mono (h a w ha hw hB) ?_)
  rintro e a' w' ⟨hB', E', ha', hk⟩
  cases e with
  | normal => exact hk a' w' ha' rfl hB'
  | exit id => exact ⟨hB', E', ha', hk⟩
  | goto l => exact ⟨hB', E', ha', hk⟩
  | ret => exact ⟨hB', E', ha', hk⟩
  | panic ch => exact ⟨hB', E', ha', hk⟩
  | outgrown => exact ⟨hB', E', ha', hk⟩
def Blk (id : Nat) (K : Exit → Env → World → Prop) : Exit → Env → World → Prop
  | .exit id', E, W => match Nat.beq id' id with
    | true => K .normal E W
    | false => K (.exit id') E W
  | e, E, W => K e E W
theorem aw_block {id : Nat} {x : Code} (h : AW P N B x (Blk id K) E W) : AW P N B (.block id x) K E W := by
  intro a w ha hw hB
  refine wp_block (wp_mono (h a w ha hw hB) ?_)
  rintro e a' w' ⟨hB', E', ha', hk⟩
  cases e with
  | exit id' =>
    simp only [Blk] at hk
    simp only [Exit.inBlock]
    cases hid : Nat.beq id' id with
    | true =>
      have := Nat.eq_of_beq_eq_true hid
      rw [hid] at hk
      rw [if_pos this]; exact ⟨hB', E', ha', hk⟩
    | false =>
      have := Nat.ne_of_beq_eq_false hid
      rw [hid] at hk
      rw [if_neg this]; exact ⟨hB', E', ha', hk⟩
  | normal => exact ⟨hB', E', ha', hk⟩
  | goto l => exact ⟨hB', E', ha', hk⟩
  | ret => exact ⟨hB', E', ha', hk⟩
  | panic ch => exact ⟨hB', E', ha', hk⟩
  | outgrown => exact ⟨hB', E', ha', hk⟩
theorem aw_if {c : Operand} {x y : Code} {b : Bool} (hc : ev E c = some (.bool b)) (h1 : b = true → AW P N B x K E W) (h2 : b = false → AW P N B y K E W) : AW P N B (.cond c x y) K E W := by
  intro a w ha hw hB
  have := cv_bool (ev_sound ha hc)
  cases b with
  | true => exact wp_cond_true this (h1 rfl a w ha hw hB)
  | false => exact wp_cond_false this (h2 rfl a w ha hw hB)
theorem aw_true {c : Operand} {x y : Code} (hc : ev E c = some (.bool true)) (h1 : AW P N B x K E W) : AW P N B (.cond c x y) K E W :=
  aw_if hc (fun _ => h1) (fun h => by cases h)
theorem aw_false {c : Operand} {x y : Code} (hc : ev E c = some (.bool false)) (h1 : AW P N B y K E W) : AW P N B (.cond c x y) K E W :=
  aw_if hc (fun h => by cases h) (fun _ => h1)

/-- behind a round -/
def Rnd {α : Type} (e : α → Env) (w : α → World) (I : α → Prop) (μ : α → Nat) (m : Nat) (K : Exit → Env → World → Prop) : Exit → Env → World → Prop
  | .normal, E, W => ∃ x, I x ∧ μ x < m ∧ (∀ t v, (e x).get t = some v → E.get t = some v) ∧ W = w x
  | ex, E, W => K ex E W
/-- a loop: 'e x' is what is known of the frame at a round's head, 'w x' the world, for some x of which I holds -/
theorem aw_loop {α : Type} {x : Code} (e : α → Env) (w : α → World) (I : α → Prop) (μ : α → Nat) (x0 : α) (h0 : I x0)
    (hE : ∀ t v, (e x0).get t = some v → E.get t = some v) (hW : W = w x0)
    (h : ∀ y, I y → AW P N B x (Rnd e w I μ (μ y) K) (e y) (w y)) : AW P N B (.loop x) K E W := by
  intro a w0 ha hw hB
  -- the measure as a measure on states
  have key : ∀ n y, μ y = n → I y → ∀ a w0, EnvR (e y) N a → cw B w0 = w y → B ≤ w0.heap.size → ∀ (b : Frame) (k : List Item) (cs : List Frame),
      ∃ ex a' w', Post N B K ex a' w' ∧ Arrives P (lone (b.at a (.code x :: .inLoop x :: k)) cs w0) b k cs ex a' w' := by
    intro n
    induction n using Nat.strongRecOn with
    | _ n ih =>
      intro y hn hI a w0 ha hw hB b k cs
      obtain ⟨ex, a₁, w₁, ⟨hB₁, E₁, ha₁, hk⟩, harr⟩ := h y hI a w0 ha hw hB b (.inLoop x :: k) cs
      cases ex with
      | normal =>
        obtain ⟨y', hI', hlt, hle, hw'⟩ := hk
        obtain ⟨e₂, a₂, w₂, hq₂, harr₂⟩ := ih (μ y') (hn ▸ hlt) y' rfl hI' a₁ w₁ (ha₁.less hle) hw' hB₁ b k cs
        exact ⟨e₂, a₂, w₂, hq₂, .of_steps (Steps.trans harr (.one step_inLoop)) harr₂⟩
      | exit id => exact ⟨_, a₁, w₁, ⟨hB₁, E₁, ha₁, hk⟩, .pass (x := .inLoop x) rfl (fun _ _ => .inl (by simp)) harr⟩
      | goto l => exact ⟨_, a₁, w₁, ⟨hB₁, E₁, ha₁, hk⟩, .pass (x := .inLoop x) rfl (fun _ _ => .inl (by simp)) harr⟩
      | ret => exact ⟨_, a₁, w₁, ⟨hB₁, E₁, ha₁, hk⟩, .pass (x := .inLoop x) rfl (fun _ _ => .inl (by simp)) harr⟩
      | panic ch => exact ⟨_, a₁, w₁, ⟨hB₁, E₁, ha₁, hk⟩, .pass (x := .inLoop x) rfl (fun _ _ => .inl (by simp)) harr⟩
      | outgrown => exact ⟨_, a₁, w₁, ⟨hB₁, E₁, ha₁, hk⟩, .pass (x := .inLoop x) rfl (fun _ _ => .inl (by simp)) harr⟩
  intro b k cs
  obtain ⟨ex, a', w', hq, harr⟩ := key _ x0 rfl h0 a w0 (ha.less hE) (hw.trans hW) hB b k cs
  exact ⟨ex, a', w', hq, .of_steps (.one step_loop) harr⟩
end rules
section again
variable {P : Program} {N B : Nat} {K : Exit → Env → World → Prop} {E : Env} {W : World}
theorem thn_normal {y : Code} (h : AW P N B y K E W) : Thn P N B y K .normal E W := h
theorem thn_ret {y : Code} (h : K .ret E W) : Thn P N B y K .ret E W := h
theorem thn_exit {y : Code} {id : Nat} (h : K (.exit id) E W) : Thn P N B y K (.exit id) E W := h
theorem blk_normal {id : Nat} (h : K .normal E W) : Blk id K .normal E W := h
theorem blk_ret {id : Nat} (h : K .ret E W) : Blk id K .ret E W := h
theorem blk_exit {id : Nat} (h : K .normal E W) : Blk id K (.exit id) E W := by
  simp only [Blk]
  rw [show Nat.beq id id = true from Nat.beq_refl id]
  exact h
theorem blk_exit_other {id id' : Nat} (hne : Nat.beq id' id = false) (h : K (.exit id') E W) : Blk id K (.exit id') E W := by
  simp only [Blk, hne]
  exact h
theorem rnd_ret {α : Type} {e : α → Env} {w : α → World} {I : α → Prop} {μ : α → Nat} {m : Nat} (h : K .ret E W) : Rnd e w I μ m K .ret E W := h
theorem rnd_exit {α : Type} {e : α → Env} {w : α → World} {I : α → Prop} {μ : α → Nat} {m : Nat} {id : Nat} (h : K (.exit id) E W) : Rnd e w I μ m K (.exit id) E W := h
/-- the round's end -/
theorem rnd_next {α : Type} {e : α → Env} {w : α → World} {I : α → Prop} {μ : α → Nat} {m : Nat} (x : α) (h1 : I x) (h2 : μ x < m) (h3 : ∀ t v, (e x).get t = some v → E.get t = some v) (h4 : W = w x) : Rnd e w I μ m K .normal E W :=
  ⟨x, h1, h2, h3, h4⟩
/-- what a function's end asks -/
def RetK (P : Program) (N B : Nat) (fn : Func) (R : Value → World → Prop) : Exit → Env → World → Prop
  | .ret, E, W | .normal, E, W => ∀ a w, EnvR E N a → cw B w = W → ∃ u, (results fn a.tmps).run P w = .ok u w ∧ R (cv u) W
  | _, _, _ => False
theorem retK_is_ret {fn : Func} {R : Value → World → Prop} (h : ∀ a w, EnvR E N a → cw B w = W → ∃ u, (results fn a.tmps).run P w = .ok u w ∧ R (cv u) W) : RetK P N B fn R .ret E W := h
theorem retK_is_normal {fn : Func} {R : Value → World → Prop} (h : ∀ a w, EnvR E N a → cw B w = W → ∃ u, (results fn a.tmps).run P w = .ok u w ∧ R (cv u) W) : RetK P N B fn R .normal E W := h
theorem post_body {fn : Func} {R : Value → World → Prop} {Q : Ending → World → Prop} {e : Exit} {a : Act} {w : World} (h : Post N B (RetK P N B fn R) e a w)
    (hQ : ∀ u, B ≤ w.heap.size → R (cv u) (cw B w) → Q (.returned u) w) : bodyPost P fn Q e a w := by
  obtain ⟨hB', E', ha', hk⟩ := h
  cases e with
  | ret =>
    obtain ⟨u, hr, hR⟩ := hk a w ha' rfl
    exact ⟨ha'.defers, u, hr, hQ u hB' hR⟩
  | normal =>
    obtain ⟨u, hr, hR⟩ := hk a w ha' rfl
    exact ⟨ha'.defers, u, hr, hQ u hB' hR⟩
  | exit id => exact hk.elim
  | goto l => exact hk.elim
  | panic ch => exact hk.elim
  | outgrown => exact hk.elim
theorem acalls_intro {f : FuncId} {args : List Value} {R : Value → World → Prop} (h : ∀ (xs : Array Value) w, xs.toList.map cv = args → cw B w = W → B ≤ w.heap.size →
    Calls P f xs w fun e w' => ∃ u, e = .returned u ∧ B ≤ w'.heap.size ∧ R (cv u) (cw B w')) : ACalls P B f args W R := h
theorem acalls_elim {f : FuncId} {args : List Value} {R : Value → World → Prop} (h : ACalls P B f args W R) (xs : Array Value) (w : World) (h1 : xs.toList.map cv = args) (h2 : cw B w = W) (h3 : B ≤ w.heap.size) :
    Calls P f xs w fun e w' => ∃ u, e = .returned u ∧ B ≤ w'.heap.size ∧ R (cv u) (cw B w') := h xs w h1 h2 h3
theorem aw_elim {c : Code} (h : AW P N B c K E W) (a : Act) (w : World) (ha : EnvR E N a) (hw : cw B w = W) (hB : B ≤ w.heap.size) : c.wp P (Post N B K) a w := h a w ha hw hB
theorem aops_elim {ops : Array Oper} {l : List Nat} (h : AOps P N B ops l K E W) (a : Act) (w : World) (ha : EnvR E N a) (hw : cw B w = W) (hB : B ≤ w.heap.size) : wpOps P ops (Post N B K) l a w := h a w ha hw hB
theorem aw_intro {c : Code} (h : ∀ a w, EnvR E N a → cw B w = W → B ≤ w.heap.size → c.wp P (Post N B K) a w) : AW P N B c K E W := h
theorem aops_intro {ops : Array Oper} {l : List Nat} (h : ∀ a w, EnvR E N a → cw B w = W → B ≤ w.heap.size → wpOps P ops (Post N B K) l a w) : AOps P N B ops l K E W := h
end again
attribute [irreducible] AOps AW ACalls Thn Blk Rnd RetK
end Go.Proofs.Ytmplincflbhmiaa.Cn
