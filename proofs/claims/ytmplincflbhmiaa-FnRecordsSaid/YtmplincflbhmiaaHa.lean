/- A heap told by its parts: blocks, rows and whatever else the call owns, each apart from the others; the steps that keep it. -/
import Derived.Test.YtmplincflbhmiaaCn16
import Derived.Deep.Slices
namespace Go.Proofs.Ytmplincflbhmiaa.Cn
set_option linter.unusedSimpArgs false
set_option linter.unusedVariables false
open Go Go.RowKit
inductive Res where
  | blk (b : Nat) (cs : List Value) (e : TypeId)
  | row (e : TypeId) (sz : Nat) (v : Value) (n : Nat) (xs : List Value)
  | deep (F : Nat → Prop) (Q : World → Prop)
def Res.foot : Res → Nat → Prop
  | .blk b _ _, k => k = b
  | .row _ _ v _ _, k => v.ownBlock = some k
  | .deep F _, k => F k
/-- canonical cells -/
def Canl (xs : List Value) : Prop := ∀ x ∈ xs, cl x = x
def Agree (F : Nat → Prop) (W W' : World) : Prop := ∀ b, F b → W'.heap[b]? = W.heap[b]?
def Local (F : Nat → Prop) (Q : World → Prop) : Prop := ∀ W W', Agree F W W' → Q W → Q W'
def Res.ok : Res → World → Prop
  | .blk b cs e, W => Blkc W b cs e ∧ Canl cs
  | .row e sz v n xs, W => W.ownsRow 0 e sz v n xs ∧ xs.all (·.oneCell') = true ∧ Canl xs
  | .deep F Q, W => Q W ∧ Local F Q
theorem ownsRow_agree {W W' : World} {base : Nat} {e : TypeId} {sz n : Nat} {v : Value} {xs : List Value} (h : W.ownsRow base e sz v n xs) (ha : ∀ b, v.ownBlock = some b → W'.heap[b]? = W.heap[b]?) : W'.ownsRow base e sz v n xs := by
  obtain ⟨h1, h2⟩ := h
  refine ⟨h1, ?_⟩
  rcases h2 with h2 | ⟨g, cap, cur, hv, hb, hg, r⟩
  · exact .inl h2
  · subst hv
    exact .inr ⟨g, cap, cur, rfl, hb, by rw [ha g rfl]; exact hg, r⟩
theorem ownsRow_base {W : World} {base base' : Nat} {e : TypeId} {sz n : Nat} {v : Value} {xs : List Value} (h : W.ownsRow base e sz v n xs) (ha : ∀ b, v.ownBlock = some b → base' ≤ b) : W.ownsRow base' e sz v n xs := by
  obtain ⟨h1, h2⟩ := h
  refine ⟨h1, ?_⟩
  rcases h2 with h2 | ⟨g, cap, cur, hv, hb, r⟩
  · exact .inl h2
  · subst hv
    exact .inr ⟨g, cap, cur, rfl, ha g rfl, r⟩
theorem Res.loc {r : Res} {W W' : World} (h : r.ok W) (ha : Agree r.foot W W') : r.ok W' := by
  cases r with
  | blk b cs e => exact ⟨(ha b rfl).trans h.1, h.2⟩
  | row e sz v n xs => exact ⟨ownsRow_agree h.1 fun b hb => ha b hb, h.2⟩
  | deep F Q => exact ⟨h.2 W W' ha h.1, h.2⟩
def Res.apart (r s : Res) : Prop := ∀ b, r.foot b → ¬ s.foot b
theorem Res.apart_comm {r s : Res} (h : r.apart s) : s.apart r := fun b h1 h2 => h b h2 h1
structure Hp (B : Nat) (A W : World) (l : List Res) : Prop where
  hB : B ≤ A.heap.size
  below : Below A.heap.size A W
  ok : ∀ r ∈ l, r.ok W
  own : ∀ r ∈ l, ∀ b, r.foot b → A.heap.size ≤ b ∧ b < W.heap.size
  sep : l.Pairwise Res.apart
section
variable {B : Nat} {A W W' : World} {l l' m : List Res} {r r' : Res}
theorem Hp.new (h : B ≤ W.heap.size) : Hp B W W [] := ⟨h, Below.refl _ _, by simp, by simp, List.Pairwise.nil⟩
theorem Hp.size (h : Hp B A W l) : B ≤ W.heap.size := Nat.le_trans h.hB h.below.size
theorem Hp.mem (h : Hp B A W l) (hr : r ∈ l) : r.ok W := h.ok r hr
/-- what is old stays -/
theorem Hp.below_of (_h : Hp B A W l) : Below A.heap.size A W := _h.below
theorem Hp.call (h : Hp B A W l) (hm : Hp B W W' m) : Hp B A W' (m ++ l) := by
  have hs := h.below.size
  refine ⟨h.hB, h.below.trans (hm.below.mono hs), ?_, ?_, ?_⟩
  · intro r hr
    rcases List.mem_append.1 hr with h1 | h1
    · exact hm.ok r h1
    · exact Res.loc (h.ok r h1) fun b hb => hm.below.block b (h.own r h1 b hb).2
  · intro r hr b hb
    rcases List.mem_append.1 hr with h1 | h1
    · have := hm.own r h1 b hb; omega
    · have := h.own r h1 b hb
      have := hm.below.size
      omega
  · rw [List.pairwise_append]
    refine ⟨hm.sep, h.sep, fun r hr s hs b h1 h2 => ?_⟩
    have := (hm.own r hr b h1).1
    have := (h.own s hs b h2).2
    omega
theorem Hp.grow (h : Hp B A W l) (hb : Below W.heap.size W W') : Hp B A W' l := by
  have := h.call (m := []) ⟨h.size, hb, by simp, by simp, List.Pairwise.nil⟩
  simpa using this
theorem Hp.add (h : Hp B A W l) (hb : Below W.heap.size W W') (hr : r.ok W') (hf : ∀ b, r.foot b → W.heap.size ≤ b ∧ b < W'.heap.size) : Hp B A W' (r :: l) :=
  h.call (m := [r]) ⟨h.size, hb, by simpa using hr, by simpa using hf, by simp⟩
theorem Hp.sub (h : Hp B A W l) (hs : l'.Sublist l) : Hp B A W l' :=
  ⟨h.hB, h.below, fun r hr => h.ok r (hs.mem hr), fun r hr => h.own r (hs.mem hr), h.sep.sublist hs⟩
theorem Hp.perm (h : Hp B A W l) (hs : l.Perm l') : Hp B A W l' :=
  ⟨h.hB, h.below, fun r hr => h.ok r (hs.mem_iff.2 hr), fun r hr => h.own r (hs.mem_iff.2 hr), h.sep.perm hs fun h => Res.apart_comm h⟩
/-- seen from an earlier world -/
theorem Hp.outer {A0 : World} (h0 : Hp B A0 A []) (h : Hp B A W l) : Hp B A0 W l := by simpa using h0.call h
/-- parts picked out, in whatever order -/
inductive Pick : List Res → Res → List Res → Prop
  | here {r : Res} {l : List Res} : Pick (r :: l) r l
  | there {s r : Res} {l l' : List Res} (h : Pick l r l') : Pick (s :: l) r (s :: l')
inductive Picks : List Res → List Res → List Res → Prop
  | nil {l : List Res} : Picks l [] l
  | cons {r : Res} {l l1 l2 rs : List Res} (h : Pick l r l1) (h2 : Picks l1 rs l2) : Picks l (r :: rs) l2
theorem Pick.perm (h : Pick l r l') : l.Perm (r :: l') := by
  induction h with
  | here => exact List.Perm.refl _
  | there _ ih => exact (List.Perm.cons _ ih).trans (List.Perm.swap _ _ _)
theorem Picks.perm {rs : List Res} (h : Picks l rs l') : l.Perm (rs ++ l') := by
  induction h with
  | nil => exact List.Perm.refl _
  | cons h _ ih => exact h.perm.trans (List.Perm.cons _ ih)
theorem Hp.picks {rs : List Res} (h : Hp B A W l) (hs : Picks l rs l') : Hp B A W rs := (h.perm hs.perm).sub (List.sublist_append_left _ _)
/-- one part turned -/
inductive Upd : List Res → Res → Res → List Res → Prop
  | here {r r' : Res} {l : List Res} : Upd (r :: l) r r' (r' :: l)
  | there {s r r' : Res} {l l' : List Res} (h : Upd l r r' l') : Upd (s :: l) r r' (s :: l')
theorem Upd.mem (h : Upd l r r' l') : r ∈ l := by
  induction h with
  | here => exact List.Mem.head _
  | there _ ih => exact List.Mem.tail _ ih
theorem Upd.split (h : Upd l r r' l') : ∃ a b, l = a ++ r :: b ∧ l' = a ++ r' :: b := by
  induction h with
  | here => exact ⟨[], _, rfl, rfl⟩
  | @there s r r' l l' h ih =>
    obtain ⟨a, b, h1, h2⟩ := ih
    exact ⟨s :: a, b, by rw [h1]; rfl, by rw [h2]; rfl⟩
theorem Hp.upd (h : Hp B A W l) (hu : Upd l r r' l') (hs : W.heap.size ≤ W'.heap.size) (ho : W'.os = W.os) (ht : W'.tape = W.tape) (hp : W'.output = W.output)
    (hb : ∀ b, b < W.heap.size → ¬ r.foot b → W'.heap[b]? = W.heap[b]?) (hr : r'.ok W') (hf : ∀ b, r'.foot b → r.foot b ∨ W.heap.size ≤ b ∧ b < W'.heap.size) : Hp B A W' l' := by
  obtain ⟨a, c, rfl, rfl⟩ := hu.split
  have hmem : ∀ s, s ∈ a ++ r' :: c → s = r' ∨ (s ∈ a ++ r :: c ∧ (∀ b, s.foot b → ¬ r.foot b)) := by
    intro s hs'
    rcases List.mem_append.1 hs' with h1 | h1
    · refine .inr ⟨List.mem_append_left _ h1, fun b h2 h3 => ?_⟩
      have := (List.pairwise_append.1 h.sep).2.2 s h1 r (List.Mem.head _)
      exact this b h2 h3
    · rcases List.mem_cons.1 h1 with h2 | h2
      · exact .inl h2
      · refine .inr ⟨List.mem_append_right _ (List.mem_cons_of_mem _ h2), fun b h3 h4 => ?_⟩
        have := (List.pairwise_cons.1 (List.pairwise_append.1 h.sep).2.1).1 s h2
        exact this b h4 h3
  have hrm : r ∈ a ++ r :: c := List.mem_append_right _ (List.Mem.head _)
  have hro := h.own r hrm
  refine ⟨h.hB, ⟨ho.trans h.below.os, ht.trans h.below.tape, hp.trans h.below.output, Nat.le_trans h.below.size hs, fun k hk => ?_⟩, fun s hs' => ?_, fun s hs' b hsb => ?_, ?_⟩
  · rw [hb k (by have := h.below.size; omega) (fun h1 => by have := (hro k h1).1; omega)]
    exact h.below.block k hk
  · rcases hmem s hs' with rfl | ⟨h1, h2⟩
    · exact hr
    · exact Res.loc (h.ok s h1) fun b h3 => hb b (h.own s h1 b h3).2 (h2 b h3)
  · rcases hmem s hs' with rfl | ⟨h1, h2⟩
    · rcases hf b hsb with h3 | h3
      · have := hro b h3; omega
      · have := h.below.size; omega
    · have := h.own s h1 b hsb; omega
  · have h1 := List.pairwise_append.1 h.sep
    have h2 := List.pairwise_cons.1 h1.2.1
    have key : ∀ s ∈ a ++ r :: c, (∀ b, r.foot b → ¬ s.foot b) → Res.apart r' s := by
      intro s hs' hrs b h3 h4
      rcases hf b h3 with h5 | h5
      · exact hrs b h5 h4
      · have := (h.own s hs' b h4).2; omega
    rw [List.pairwise_append]
    refine ⟨h1.1, ?_, fun s hs' t ht' => ?_⟩
    · rw [List.pairwise_cons]
      exact ⟨fun s hs' => key s (List.mem_append_right _ (List.mem_cons_of_mem _ hs')) (h2.1 s hs'), h2.2⟩
    · rcases List.mem_cons.1 ht' with rfl | h3
      · exact Res.apart_comm (key s (List.mem_append_left _ hs') (Res.apart_comm (h1.2.2 s hs' r (List.Mem.head _))))
      · exact h1.2.2 s hs' t (List.mem_cons_of_mem _ h3)
/-! ### what is read -/
def RdV (W : World) (b off : Nat) (ys : List Value) : Prop := ∀ i, i < ys.length → ∃ u, W.cell? ⟨b, off + i, none⟩ = some u ∧ cl u = ys.getD i undef ∧ u.oneCell' = true
def SlV (W : World) (sz : Nat) (v : Value) (n : Nat) (ys : List Value) : Prop := ys.length = n * sz ∧ ((n = 0 ∧ (v = .slice none 0 0 ∨ ∃ a c, v = .slice (some a) 0 c)) ∨ ∃ b off c, v = .slice (some ⟨b, off, none⟩) n c ∧ n ≤ c ∧ RdV W b off ys)
theorem RdV.mono {b off : Nat} {ys : List Value} (h : RdV W b off ys) (hk : ∀ (a : Addr) u, a.block = b → W.cell? a = some u → W'.cell? a = some u) : RdV W' b off ys := fun i hi => by
  obtain ⟨u, h1, h2⟩ := h i hi
  exact ⟨u, hk _ _ rfl h1, h2⟩
theorem RdV.below {b off : Nat} {ys : List Value} (h : RdV A b off ys) (hb : Below A.heap.size A W) : RdV W b off ys := h.mono fun a u _ hc => by rw [hb.cell (World.block_lt_of_cell? _ _ hc)]; exact hc
theorem SlV.below {sz n : Nat} {v : Value} {ys : List Value} (h : SlV A sz v n ys) (hb : Below A.heap.size A W) : SlV W sz v n ys := by
  refine ⟨h.1, ?_⟩
  rcases h.2 with h1 | ⟨b, off, c, h1, h2, h3⟩
  · exact .inl h1
  · exact .inr ⟨b, off, c, h1, h2, h3.below hb⟩
theorem Hp.rd (h : Hp B A W l) {b off : Nat} {ys : List Value} (hr : RdV A b off ys) : RdV W b off ys := hr.below h.below
theorem Hp.sl (h : Hp B A W l) {sz n : Nat} {v : Value} {ys : List Value} (hr : SlV A sz v n ys) : SlV W sz v n ys := hr.below h.below
theorem SlV.form {sz n : Nat} {v : Value} {ys : List Value} (h : SlV W sz v n ys) : ∃ a c, v = .slice a n c ∧ n ≤ c := by
  rcases h.2 with ⟨rfl, h1 | ⟨a, c, h1⟩⟩ | ⟨b, off, c, h1, h2, _⟩
  · exact ⟨none, 0, h1, Nat.le_refl _⟩
  · exact ⟨some a, c, h1, Nat.zero_le _⟩
  · exact ⟨_, c, h1, h2⟩
theorem SlV.read {sz n c : Nat} {a : Option Addr} {ys : List Value} (h : SlV W sz (.slice a n c) n ys) (hn : 0 < n) : ∃ b off, a = some ⟨b, off, none⟩ ∧ RdV W b off ys := by
  rcases h.2 with ⟨rfl, -⟩ | ⟨b, off, c, h1, h2, h3⟩
  · omega
  · cases h1; exact ⟨b, off, rfl, h3⟩
theorem ownsRow_cells {base : Nat} {e : TypeId} {sz n c b off : Nat} {sp : Option Nat} {xs : List Value} (h : W.ownsRow base e sz (.slice (some ⟨b, off, sp⟩) n c) n xs) : off = 0 ∧ sp = none ∧ n ≤ c ∧ ∀ i, i < xs.length → W.cell? ⟨b, i, none⟩ = some (xs.getD i undef) := by
  obtain ⟨hl, h⟩ := h
  rcases h with ⟨h1, -⟩ | ⟨g, cap, cur, h1, -, hh, hc, -, -, hx⟩
  · cases h1
  · cases h1
    refine ⟨rfl, rfl, hc, fun i hi => ?_⟩
    have : (cur.toList.take (n * sz))[i]? = some (xs.getD i undef) := by
      rw [hx]; simp [List.getD_eq_getElem?_getD, hi]
    rw [List.getElem?_take, if_pos (by omega)] at this
    simp only [World.cell?, hh]
    simpa using this
theorem SlV.of_row {e : TypeId} {sz n : Nat} {v : Value} {xs : List Value} (h : (Res.row e sz v n xs).ok W) : SlV W sz v n xs := by
  obtain ⟨⟨hl, h1⟩, h2, hc⟩ := h
  refine ⟨hl, ?_⟩
  rcases h1 with ⟨h1, h0⟩ | ⟨g, cap, cur, rfl, hb, r⟩
  · exact .inl ⟨h0, .inl h1⟩
  · have hown : W.ownsRow 0 e sz (.slice (some ⟨g, 0, none⟩) n cap) n xs := ⟨hl, .inr ⟨g, cap, cur, rfl, hb, r⟩⟩
    refine .inr ⟨g, 0, cap, rfl, r.2.1, fun i hi => ?_⟩
    have := (ownsRow_cells hown).2.2.2 i hi
    have hm : xs.getD i undef ∈ xs := by
      rw [List.getD_eq_getElem?_getD, List.getElem?_eq_getElem hi]; exact List.getElem_mem hi
    exact ⟨_, by rw [Nat.zero_add]; exact this, hc _ hm, List.all_eq_true.1 h2 _ hm⟩
theorem Hp.row_form (h : Hp B A W l) {e : TypeId} {sz n : Nat} {v : Value} {xs : List Value} (hr : Res.row e sz v n xs ∈ l) : ∃ a c, v = .slice a n c ∧ n ≤ c := by
  obtain ⟨⟨-, h1⟩, -⟩ := h.ok _ hr
  rcases h1 with ⟨h1, rfl⟩ | ⟨g, cap, cur, rfl, hb, r⟩
  · exact ⟨none, 0, h1, Nat.le_refl _⟩
  · exact ⟨_, _, rfl, r.2.1⟩
theorem Hp.row_ptr (h : Hp B A W l) {e : TypeId} {sz n c : Nat} {a : Option Addr} {xs : List Value} (hr : Res.row e sz (.slice a n c) n xs ∈ l) (hn : 0 < n) : ∃ b, a = some ⟨b, 0, none⟩ := by
  obtain ⟨⟨-, h1⟩, -⟩ := h.ok _ hr
  rcases h1 with ⟨h1, rfl⟩ | ⟨g, cap, cur, h1, r⟩
  · omega
  · cases h1; exact ⟨g, rfl⟩
theorem Hp.row_len (h : Hp B A W l) {e : TypeId} {sz n : Nat} {v : Value} {xs : List Value} (hr : Res.row e sz v n xs ∈ l) : xs.length = n * sz := (h.ok _ hr).1.1
theorem Hp.row_sl (h : Hp B A W l) {e : TypeId} {sz n : Nat} {v : Value} {xs : List Value} (hr : Res.row e sz v n xs ∈ l) : SlV W sz v n xs := SlV.of_row (h.ok _ hr)
theorem Hp.blk (h : Hp B A W l) {b : Nat} {cs : List Value} {e : TypeId} (hr : Res.blk b cs e ∈ l) : Blkc W b cs e := (h.ok _ hr).1
end
/-! ### new parts -/
section
variable {B : Nat} {A W : World} {l : List Res}
theorem Hp.alloc (h : Hp B A W l) {cs : Array Value} {c : List Value} {e : TypeId} (hc : cs.toList = c) (hcan : Canl c) : Hp B A (W.alloc (.cells cs e)) (.blk W.heap.size c e :: l) :=
  h.add ((Below.refl _ _).alloc (Nat.le_refl _) _) ⟨Blkc.new hc, hcan⟩ (fun b hb => by
    have : b = W.heap.size := hb
    subst this
    simp)
theorem Hp.allocRow (h : Hp B A W l) {cs : Array Value} {c : List Value} {e : TypeId} {sz n m : Nat} (hc : cs.toList.take (n * sz) = c) (hn : n ≤ m) (hm : m ≤ maxLen) (hs : cs.size = m * sz) (h1 : c.all (·.oneCell') = true) (hcan : Canl c) : Hp B A (W.alloc (.cells cs e)) (.row e sz (.slice (some ⟨W.heap.size, 0, none⟩) n m) n c :: l) := by
  refine h.add ((Below.refl _ _).alloc (Nat.le_refl _) _) ⟨⟨?_, .inr ⟨W.heap.size, m, cs, rfl, Nat.zero_le _, heap_alloc_new W _, hn, hm, hs, hc⟩⟩, h1, hcan⟩ (fun b hb => ?_)
  · rw [← hc, List.length_take, Array.length_toList, hs]
    exact Nat.min_eq_left (Nat.mul_le_mul_right _ hn)
  · have : W.heap.size = b := Option.some.inj hb
    subst this
    simp
end
/-! ### steps -/
theorem append_where {P : Program} (w : World) (t ty e : TypeId) (i : TypeInfo) (z : Value) (size bytes : Nat) (ht : P.underlying t = some (.slice e)) (hi : P.info? e = some i) (hz : i.zero = some z)
    (hsize : i.size = size) (hby : i.bytes = bytes) (hzs : z.cells.size = size) (hsz : 0 < size)
    (v : Value) (n : Nat) (xs : List Value) (hown : w.ownsRow 0 e size v n xs)
    (a : Addr) (m c : Nat) (news : List Value) (hl : news.length = m * size) (hnews : ∀ j u, news[j]? = some u → w.cell? (a.add j) = some u) (h1 : ∀ u ∈ news, u.oneCell' = true)
    (h63 : n + m ≤ maxLen) (hbytes : (n + m) * bytes ≤ 140737488355328) (v' : Value) (w' : World) (hr : (Builtin.append_ #[t, t] ty #[v, .slice (some a) m c]).run P w = .ok v' w') :
    ∀ b, v'.ownBlock = some b → v.ownBlock = some b ∨ w.heap.size ≤ b := by
  subst hsize
  subst hby
  have hsmall : n + m ≤ 9223372036854775807 := by simp only [maxLen] at h63; omega
  rcases hown.2 with ⟨rfl, rfl⟩ | ⟨g, cap, cur, rfl, hbg, hg, hnc, hcm, hcs, htake⟩
  · intro b hb
    obtain ⟨v2, w2, hr2, ho, -⟩ := run_append_own (P := P) w w.heap.size t ty e i z i.size i.bytes ht hi hz rfl rfl hzs hsz (.slice none 0 0) 0 xs ⟨hown.1, .inl ⟨rfl, rfl⟩⟩ a m c news hl hnews h1 h63 hbytes (Nat.le_refl _)
    rw [hr] at hr2
    cases hr2
    exact .inr (ho.lt b hb).1
  · by_cases hroom : n + m ≤ cap
    · have hfit : n * i.size + news.length ≤ cur.size := by rw [hl, hcs, ← Nat.add_mul]; exact Nat.mul_le_mul_right _ hroom
      have hr2 := run_append_room (P := P) w t ty e i ht hi g n cap cur hg a m c news hl hnews h1 hroom hfit
      rw [hr] at hr2
      cases hr2
      exact fun b hb => .inl hb
    · have holds : ∀ j u, xs[j]? = some u → w.cell? ((⟨g, 0, none⟩ : Addr).add j) = some u := hown.cells (g := g) rfl
      have hr2 := run_append_grow (P := P) w t ty e i z ht hi hz ⟨g, 0, none⟩ n cap xs hown.1 holds a m c news hl hnews (by omega) (by omega) (growslice_fits (by omega) hbytes)
      rw [hr] at hr2
      cases hr2
      exact fun b hb => .inr (by cases hb; exact Nat.le_refl _)
section
variable {P : Program} {N B : Nat} {E : Env} {A W : World} {ops : Array Oper} {K : Exit → Env → World → Prop} {D : World → Prop} {T : Tab} {l l' : List Res}
theorem yieldsH_append (hT : TabOk P T) {o : Oper} {e : TypeId} {tt : TT} {v u : Value} {n m : Nat} {xs ys : List Value}
    (hv : evAp T E o = some (e, v, u)) (ht : T.at e = some tt) (H : Hp B A W l)
    (hm : Res.row e tt.size v n xs ∈ l) (hs : SlV W tt.size u m ys) (hz : tt.zero.cells.size = tt.size) (hpos : 0 < tt.size) (h63 : n + m ≤ maxLen) (hbytes : (n + m) * tt.bytes ≤ 140737488355328) :
    Yields P N B o E W (fun v' W' => ∃ a c, v' = .slice a (n + m) c ∧ ∀ l', Upd l (.row e tt.size v n xs) (.row e tt.size v' (n + m) (xs ++ ys)) l' → Hp B A W' l') := by
  have hown0 := (H.ok _ hm).1
  have hxs1 := (H.ok _ hm).2.1
  have hxsc := (H.ok _ hm).2.2
  have hfoot := H.own _ hm
  have hown : W.ownsRow A.heap.size e tt.size v n xs := ownsRow_base hown0 fun b hb => (hfoot b hb).1
  have form : ∀ {w' : World} {v' : Value} {k : Nat} {zs : List Value}, w'.ownsRow A.heap.size e tt.size v' k zs → ∃ a c, v' = .slice a k c := by
    intro w' v' k zs h
    rcases h.2 with ⟨rfl, rfl⟩ | ⟨g, cap, cur, rfl, -⟩
    · exact ⟨none, 0, rfl⟩
    · exact ⟨_, _, rfl⟩
  have gen : ∀ (ad : Addr) (c : Nat) (ns0 : List Value), u = .slice (some ad) m c → ys.length = m * tt.size → ns0.length = ys.length → ns0.map cl = ys → ns0.all (·.oneCell') = true → (∀ j q, ns0[j]? = some q → W.cell? (ad.add j) = some q) → (ns0 = [] ∨ ad.spot = none) →
      Yields P N B o E W (fun v' W' => ∃ a c, v' = .slice a (n + m) c ∧ ∀ l', Upd l (.row e tt.size v n xs) (.row e tt.size v' (n + m) (xs ++ ys)) l' → Hp B A W' l') := by
    intro ad c ns0 hu0 hyl hnl hmap hone hcell hsp
    subst hu0
    intro a w ha hw hB
    obtain ⟨x, y, t, hop, hu, hev⟩ := evAp_spec (N := N) hT hv
    obtain ⟨-, ii, hi, hsz, hby, hzz⟩ := hT _ _ ht
    obtain ⟨e1, e2⟩ := hev a ha
    obtain ⟨us, hus, hxs⟩ := ownsRow_back hw H.hB hown
    obtain ⟨ns, hn1, hn2, hn3⟩ : ∃ ns : List Value, ns.length = ns0.length ∧ ns.map cl = ns0.map cl ∧ ∀ j q, ns[j]? = some q → w.cell? (ad.add j) = some q := by
      rcases hsp with rfl | hsp
      · exact ⟨[], rfl, rfl, fun j q hj => by cases j <;> cases hj⟩
      · obtain ⟨b, off, sp⟩ := ad
        simp only at hsp; subst hsp
        obtain ⟨ns, h1, h2, h3⟩ := cells_back hw ns0 b off (fun j q hj => by have := hcell j q hj; rwa [Addr.add_lit] at this)
        exact ⟨ns, h1, h2, fun j q hj => by rw [Addr.add_lit]; exact h3 j q hj⟩
    have hWs : W.heap.size = w.heap.size := by rw [← hw]; simp
    have hnl' : ns.length = m * tt.size := by rw [hn1, hnl, hyl]
    have hn1c : ∀ q ∈ ns, q.oneCell' = true := by
      refine all_oneCell fun q hq => ?_
      rw [hn2] at hq
      obtain ⟨q', hq1, rfl⟩ := List.mem_map.1 hq
      rw [oneCell_cl]; exact List.all_eq_true.1 hone q' hq1
    obtain ⟨v', w', hr, ho', hg', -⟩ := run_append_own (P := P) w A.heap.size t o.type e ii tt.zero tt.size tt.bytes hu hi hzz hsz hby hz hpos v n us hus ad m c ns hnl' hn3 hn1c h63 hbytes (by have := H.below.size; omega)
    have hwh := append_where (P := P) w t o.type e ii tt.zero tt.size tt.bytes hu hi hzz hsz hby hz hpos v n us (ownsRow_base hus fun _ _ => Nat.zero_le _) ad m c ns hnl' hn3 hn1c h63 hbytes v' w' hr
    obtain ⟨av, cv', rfl⟩ : ∃ a c, v' = .slice a (n + m) c := by
      rcases ho'.2 with ⟨rfl, h0⟩ | ⟨g, cap, cur, rfl, -⟩
      · exact ⟨none, 0, by rw [h0]⟩
      · exact ⟨_, _, rfl⟩
    refine ⟨.slice av (n + m) cv', w', run_builtin hop (fun cs => ?_), by have := hg'.size; omega, ?_⟩
    · simp [builtin, e1, e2, hr]
    have hg2 : W.grownBy (cw B w') v.ownBlock := by rw [← hw]; exact grownBy_cw hg'
    have ho2 : (cw B w').ownsRow A.heap.size e tt.size (.slice av (n + m) cv') (n + m) (xs ++ ys) := by
      have := ownsRow_cw (B := B) H.hB ho'
      rwa [List.map_append, hxs, hn2, hmap] at this
    refine ⟨av, cv', rfl, fun l' hU => ?_⟩
    refine H.upd hU hg2.size hg2.os hg2.tape hg2.output (fun k hk hn => hg2.block k hk (fun e => hn e.symm)) ⟨ownsRow_base ho2 fun _ _ => Nat.zero_le _, ?_, ?_⟩ (fun k hk => ?_)
    · rw [List.all_append, hxs1, Bool.true_and]
      rw [← hmap, List.all_map]
      rw [List.all_eq_true] at hone ⊢
      intro q hq
      simp only [Function.comp, oneCell_cl]
      exact hone q hq
    · intro q hq
      rcases List.mem_append.1 hq with h1 | h1
      · exact hxsc q h1
      · rw [← hmap] at h1
        obtain ⟨q', -, rfl⟩ := List.mem_map.1 h1
        exact cl_cl q'
    · rcases hwh k hk with h1 | h1
      · exact .inl h1
      · refine .inr ⟨by omega, (ho2.lt k hk).2⟩
  rcases hs.2 with ⟨h0, rfl | ⟨ad, c, rfl⟩⟩ | ⟨b, off, c, rfl, hmc, hrd⟩
  · subst h0
    have hy : ys = [] := List.eq_nil_of_length_eq_zero (by simpa using hs.1)
    subst hy
    intro a w ha hw hB
    obtain ⟨x, y, t, hop, hu, hev⟩ := evAp_spec (N := N) hT hv
    obtain ⟨-, ii, hi, hsz, hby, hzz⟩ := hT _ _ ht
    obtain ⟨e1, e2⟩ := hev a ha
    obtain ⟨us, hus, hxs⟩ := ownsRow_back hw H.hB hown
    have hr := run_append_owned_none (P := P) (w := w) A.heap.size t o.type e ii tt.size hu hi v n us hus
    obtain ⟨av, cv', rfl⟩ := form hown
    refine ⟨.slice av n cv', w, run_builtin hop (fun cs => by simp [builtin, e1, e2, hr]), hB, ?_⟩
    rw [hw]
    refine ⟨av, cv', rfl, fun l' hU => ?_⟩
    refine H.upd hU (Nat.le_refl _) rfl rfl rfl (fun _ _ _ => rfl) ?_ (fun b hb => .inl hb)
    simp only [List.append_nil, Nat.add_zero]
    exact ⟨hown0, hxs1, hxsc⟩
  · subst h0
    have hy : ys = [] := List.eq_nil_of_length_eq_zero (by simpa using hs.1)
    subst hy
    exact gen ad c [] rfl (by simp) rfl rfl rfl (fun j q hj => by cases j <;> cases hj) (.inl rfl)
  · obtain ⟨f, hf⟩ := Deep.choose_lt (α := Value) hrd
    have hcells : Cells W b off ((List.range ys.length).map f) := by
      intro j q hj
      have hjl : j < ys.length := by
        have := (List.getElem?_eq_some_iff.1 hj).1
        simpa using this
      simp [hjl] at hj
      subst hj
      exact (hf j hjl).1
    have hmap : ((List.range ys.length).map f).map cl = ys := by
      apply List.ext_getElem?
      intro j
      by_cases hj : j < ys.length
      · have := (hf j hj).2.1
        simp [hj, this, List.getD_eq_getElem?_getD]
      · simp [hj]
    have hone : ((List.range ys.length).map f).all (·.oneCell') = true := by
      rw [List.all_eq_true]
      intro q hq
      obtain ⟨j, hj, rfl⟩ := List.mem_map.1 hq
      exact (hf j (by simpa using hj)).2.2
    exact gen ⟨b, off, none⟩ c _ rfl hs.1 (by simp) hmap hone (fun j q hj => by rw [Addr.add_lit]; exact hcells j q hj) (.inr rfl)
end
end Go.Proofs.Ytmplincflbhmiaa.Cn
