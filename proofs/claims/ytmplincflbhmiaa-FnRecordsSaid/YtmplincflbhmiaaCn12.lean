/- Blocks of the call's own: what is known of one, kept while others are made. -/
import Derived.Test.YtmplincflbhmiaaCn11
import Derived.WalkKit
import Derived.Below
namespace Go.Proofs.Ytmplincflbhmiaa.Cn
set_option linter.unusedSimpArgs false
set_option linter.unusedVariables false
open Go Go.RowKit
/-- block b holds these cells, and none is frozen -/
def Blkc (W : World) (b : Nat) (cs : List Value) (e : TypeId) : Prop := W.heap[b]? = some (.cells cs.toArray e (0, 0))
theorem Blkc.lt {W : World} {b : Nat} {cs : List Value} {e : TypeId} (h : Blkc W b cs e) : b < W.heap.size := by
  unfold Blkc at h
  rcases Nat.lt_or_ge b W.heap.size with h1 | h1
  · exact h1
  · rw [Array.getElem?_eq_none h1] at h; cases h
theorem Blkc.new {W : World} {cs : Array Value} {l : List Value} {e : TypeId} (h : cs.toList = l) : Blkc (W.alloc (.cells cs e)) W.heap.size l e := by
  subst h
  exact heap_alloc_new W _
theorem Blkc.alloc {W : World} {b : Nat} {cs : List Value} {e : TypeId} (h : Blkc W b cs e) (o : Obj) : Blkc (W.alloc o) b cs e := by
  have hl := h.lt
  unfold Blkc at *
  rw [Below.heap_alloc W o b hl]; exact h
theorem Blkc.below {W W' : World} {b B : Nat} {cs : List Value} {e : TypeId} (h : Blkc W b cs e) (hb : Below B W W') (hlt : b < B) : Blkc W' b cs e := by
  unfold Blkc at *
  rw [hb.block b hlt]; exact h
theorem Blkc.grow {W W' : World} {b : Nat} {cs : List Value} {e : TypeId} (h : Blkc W b cs e) (hb : Below W.heap.size W W') : Blkc W' b cs e := h.below hb h.lt
theorem Blkc.set {W : World} {b : Nat} {cs cs' : List Value} {e : TypeId} (h : Blkc W b cs e) : Blkc (W.setRow b cs'.toArray) b cs' e := setRow_heap _ _ _ _ _ _ h
theorem Blkc.setOther {W : World} {b g : Nat} {cs : List Value} {e : TypeId} (h : Blkc W b cs e) (hne : b ≠ g) (cs' : Array Value) : Blkc (W.setRow g cs') b cs e := by
  unfold Blkc at *
  rw [setRow_other _ _ _ _ hne]; exact h
theorem Blkc.cells {W : World} {b : Nat} {cs : List Value} {e : TypeId} (h : Blkc W b cs e) : Cells W b 0 cs := by
  intro j u hj
  unfold Blkc at h
  simp only [World.cell?, h]
  simpa using hj
theorem Blkc.cell {W : World} {b j : Nat} {cs : List Value} {e : TypeId} {v : Value} (h : Blkc W b cs e) (hj : cs[j]? = some v) : W.cell? ⟨b, j, none⟩ = some v := by
  have := h.cells j v hj
  rwa [Nat.zero_add] at this
theorem below_setRow {B : Nat} {a w : World} {g : Nat} (h : Below B a w) (hg : B ≤ g) (cs : Array Value) : Below B a (w.setRow g cs) :=
  h.trans ⟨rfl, rfl, rfl, by simp [World.setRow], fun k hk => setRow_other _ _ _ _ (by omega)⟩
theorem splice_list {cs : List Value} {off : Nat} {vs : List Value} : splice cs.toArray off vs = (cs.take off ++ vs ++ cs.drop (off + vs.length)).toArray := rfl

/-- but for block b all is as it was -/
structure Same (b : Nat) (W W' : World) : Prop where
  heap : ∀ g, g ≠ b → W'.heap[g]? = W.heap[g]?
  size : W'.heap.size = W.heap.size
  os : W'.os = W.os
  tape : W'.tape = W.tape
  output : W'.output = W.output
theorem Same.blk {b g : Nat} {W W' : World} {c : List Value} {e : TypeId} (h : Same b W W') (hne : g ≠ b) (hb : Blkc W g c e) : Blkc W' g c e := by
  unfold Blkc at *; rw [h.heap g hne]; exact hb
theorem Same.below {b B : Nat} {A W W' : World} (h : Same b W W') (hB : B ≤ b) (hb : Below B A W) : Below B A W' :=
  hb.trans ⟨h.os, h.tape, h.output, by rw [h.size]; exact Nat.le_refl _, fun k hk => h.heap k (by omega)⟩
theorem Same.cell {b : Nat} {W W' : World} (h : Same b W W') {a : Addr} (hne : a.block ≠ b) : W'.cell? a = W.cell? a := World.cell?_of_block (h.heap _ hne)
section
variable {P : Program} {N B : Nat} {ops : Array Oper} {K : Exit → Env → World → Prop} {D : World → Prop} {E : Env} {W : World} {T : Tab} {i : Nat} {rest : List Nat} {d : Nat} {op : Op} {ty : TypeId} {pos : String} {aft : Array Edge} {g : Option (Nat × Bool)}
/-- a value boxed: in a world of which only this is known -/
theorem k_box {e : TypeId} {x : Operand} {v : Value} {l : List Value} (ho : getL ops.toList i = some ⟨some d, op, ty, pos, aft, g⟩) (hop : op = .box e x) (hg : guardE ops ⟨some d, op, ty, pos, aft, g⟩ E = some true) (hd : Nat.ble (d + 1) N = true) (hx : ev E x = some v) (hp : plain v = some v) (hl : v.cells.toList = l)
    (k : ∀ b W', W.heap.size ≤ b → Blkc W' b l e → Below W.heap.size W W' → AOps P N B ops rest K ((d, .pointer (some ⟨b, 0, none⟩)) :: E) W') : AOps P N B ops (i :: rest) K E W :=
  s_box ho hop hg hd hx hp (k _ _ (Nat.le_refl _) (Blkc.new hl) ((Below.refl _ _).alloc (Nat.le_refl _) _))
theorem k_alloc (hT : TabOk P T) {e : TypeId} {tt : TT} {l : List Value} (ho : getL ops.toList i = some ⟨some d, op, ty, pos, aft, g⟩) (hop : op = .alloc e) (hg : guardE ops ⟨some d, op, ty, pos, aft, g⟩ E = some true) (hd : Nat.ble (d + 1) N = true) (ht : T.at e = some tt) (hl : (zerosOf tt.zero).toList = l)
    (k : ∀ b W', W.heap.size ≤ b → Blkc W' b l e → Below W.heap.size W W' → AOps P N B ops rest K ((d, .pointer (some ⟨b, 0, none⟩)) :: E) W') : AOps P N B ops (i :: rest) K E W :=
  s_alloc hT ho hop hg hd ht (k _ _ (Nat.le_refl _) (Blkc.new hl) ((Below.refl _ _).alloc (Nat.le_refl _) _))
theorem k_load (hT : TabOk P T) {b j : Nat} {l : List Value} {e : TypeId} {v : Value} (ho : getL ops.toList i = some ⟨some d, op, ty, pos, aft, g⟩) (hg : guardE ops ⟨some d, op, ty, pos, aft, g⟩ E = some true) (hd : Nat.ble (d + 1) N = true)
    (hv : evLd T E ⟨some d, op, ty, pos, aft, g⟩ = some ⟨b, j, none⟩) (hb : Blkc W b l e) (hj : l[j]? = some v) (hp : cv (cl v) = cl v) (k : AOps P N B ops rest K ((d, cl v) :: E) W) : AOps P N B ops (i :: rest) K E W :=
  s_load hT ho hg hd hv (hb.cell hj) hp k
theorem k_loada (hT : TabOk P T) {b n : Nat} {l : List Value} {e : TypeId} (ho : getL ops.toList i = some ⟨some d, op, ty, pos, aft, g⟩) (hg : guardE ops ⟨some d, op, ty, pos, aft, g⟩ E = some true) (hd : Nat.ble (d + 1) N = true)
    (hv : evLa T E ⟨some d, op, ty, pos, aft, g⟩ = some (b, 0, n)) (hb : Blkc W b l e) (hn : l.length = n) (k : AOps P N B ops rest K ((d, .agg (l.map cl).toArray) :: E) W) : AOps P N B ops (i :: rest) K E W :=
  s_loada hT ho hg hd hv hb.cells hn k
theorem k_store (hT : TabOk P T) {b off n : Nat} {v : Value} {l : List Value} (l' : List Value) {e : TypeId} (ho : getL ops.toList i = some ⟨none, op, ty, pos, aft, g⟩) (hg : guardE ops ⟨none, op, ty, pos, aft, g⟩ E = some true) (hv : evSt T E ⟨none, op, ty, pos, aft, g⟩ = some (b, off, n, v)) (hp : plain v = some v) (hn : v.cells.size = n) (h1 : v.cells.toList.all (·.oneCell') = true)
    (hB : B ≤ b) (hb : Blkc W b l e) (hl : Nat.ble (off + n) l.length = true) (he : l.take off ++ v.cells.toList ++ l.drop (off + v.cells.toList.length) = l')
    (k : ∀ W', Blkc W' b l' e → Same b W W' → AOps P N B ops rest K E W') : AOps P N B ops (i :: rest) K E W := by
  subst he
  refine s_store hT ho hg hv hp hn h1 hB hb (by have := Nat.le_of_ble_eq_true hl; simpa using this) ?_
  rw [splice_list]
  exact k _ hb.set ⟨fun g hne => setRow_other _ _ _ _ hne, by simp [World.setRow], rfl, rfl, rfl⟩
theorem dk_loada (hT : TabOk P T) (hK : Lax K) {b n : Nat} {l : List Value} {e : TypeId} (ho : getL ops.toList i = some ⟨some d, op, ty, pos, aft, g⟩) (hg : guardE ops ⟨some d, op, ty, pos, aft, g⟩ E = some true) (hd : Nat.ble (d + 1) N = true)
    (hv : evLa T E ⟨some d, op, ty, pos, aft, g⟩ = some (b, 0, n)) (hb : ∀ W, D W → Blkc W b l e) (hn : l.length = n) (hm : may ops i rest = true) (k : SD P N B ops D K rest ((d, .agg (l.map cl).toArray) :: E) W) : SD P N B ops D K (i :: rest) E W :=
  d_loada hT hK ho hg hd hv (fun W hD => (hb W hD).cells) hn hm k
theorem dk_load (hT : TabOk P T) (hK : Lax K) {b j : Nat} {l : List Value} {e : TypeId} {v : Value} (ho : getL ops.toList i = some ⟨some d, op, ty, pos, aft, g⟩) (hg : guardE ops ⟨some d, op, ty, pos, aft, g⟩ E = some true) (hd : Nat.ble (d + 1) N = true)
    (hv : evLd T E ⟨some d, op, ty, pos, aft, g⟩ = some ⟨b, j, none⟩) (hb : ∀ W, D W → Blkc W b l e) (hj : l[j]? = some v) (hp : cv (cl v) = cl v) (hm : may ops i rest = true) (k : SD P N B ops D K rest ((d, cl v) :: E) W) : SD P N B ops D K (i :: rest) E W :=
  d_load hT hK ho hg hd hv (fun W hD => (hb W hD).cell hj) hp hm k
end
end Go.Proofs.Ytmplincflbhmiaa.Cn
