/- Steps over a heap told by its parts. -/
import Derived.Test.YtmplincflbhmiaaHa
namespace Go.Proofs.Ytmplincflbhmiaa.Cn
set_option linter.unusedSimpArgs false
set_option linter.unusedVariables false
open Go Go.RowKit
theorem ev_can {E : Env} {N : Nat} {a : Act} (h : EnvR E N a) {x : Operand} {v : Value} (hx : ev E x = some v) : cv v = v := by
  rw [← ev_sound h hx, cv_cv]
theorem can_cells {v : Value} (h : cv v = v) (hp : plain v = some v) : Canl v.cells.toList := by
  cases v <;> simp [plain] at hp <;> simp only [Value.cells, Canl] <;> intro x hx
  case agg cs =>
    simp [cv, c1] at h
    have := congrArg Array.toList h
    simp only [Array.toList_map] at this
    obtain ⟨i, hi, rfl⟩ := List.getElem_of_mem hx
    have hi' : i < cs.size := by simpa using hi
    have h2 := congrArg (fun l => l[i]?) this
    simp only [List.getElem?_map, List.getElem?_eq_getElem hi, Option.map_some, Option.some.injEq] at h2
    exact h2
  all_goals
    simp at hx
    subst hx
    simpa [cv, c1] using h
theorem evParts_can {E : Env} {N : Nat} {a : Act} (ha : EnvR E N a) : ∀ (l : List (Nat × Operand)) (n : Nat) (vs : List Value), evParts E n l = some vs → Canl (vs.flatMap (·.cells.toList))
  | [], n, vs, h => by cases h; intro x hx; cases hx
  | (i, x) :: r, n, vs, h => by
    simp only [evParts] at h
    cases hb : Nat.beq i n with
    | false => rw [hb] at h; cases h
    | true =>
      rw [hb] at h
      simp only at h
      split at h
      · rename_i v hv
        split at h
        · rename_i u hu
          split at h
          · rename_i vs' hvs
            cases h
            have hvu : u = v := by
              cases v <;> simp [plain] at hu <;> exact hu.symm
            subst hvu
            intro q hq
            rw [List.flatMap_cons] at hq
            rcases List.mem_append.1 hq with h1 | h1
            · exact can_cells (ev_can ha hv) hu q h1
            · exact evParts_can ha r _ _ hvs q h1
          · cases h
        · cases h
      · cases h
theorem can_zeros (z : Value) : Canl (zerosOf z).toList := by
  intro x hx
  simp only [zerosOf, Array.toList_map] at hx
  obtain ⟨y, -, rfl⟩ := List.mem_map.1 hx
  exact cl_cl y
section
variable {P : Program} {N B : Nat} {E : Env} {A W : World} {ops : Array Oper} {K : Exit → Env → World → Prop} {D : World → Prop} {T : Tab} {l l' : List Res} {o : Oper}
/-! ### what each yields -/
theorem yh_box {e : TypeId} {x : Operand} {v : Value} {c : List Value} (H : Hp B A W l) (hop : o.op = .box e x) (hx : ev E x = some v) (hp : plain v = some v) (hl : v.cells.toList = c) :
    Yields P N B o E W (fun v' W' => ∃ b, v' = .pointer (some ⟨b, 0, none⟩) ∧ Hp B A W' (.blk b c e :: l)) := by
  intro a w ha hw hB
  obtain ⟨u, w', h1, h2, h3, h4⟩ := gives_box (P := P) (W := W) hop hx hp a w ha hw hB
  refine ⟨u, w', h1, h2, _, h3, ?_⟩
  rw [h4]
  exact H.alloc hl (by rw [← hl]; exact can_cells (ev_can ha hx) hp)
theorem yh_alloc (hT : TabOk P T) {e : TypeId} {tt : TT} {c : List Value} (H : Hp B A W l) (hop : o.op = .alloc e) (ht : T.at e = some tt) (hl : (zerosOf tt.zero).toList = c) :
    Yields P N B o E W (fun v' W' => ∃ b, v' = .pointer (some ⟨b, 0, none⟩) ∧ Hp B A W' (.blk b c e :: l)) := by
  intro a w ha hw hB
  obtain ⟨u, w', h1, h2, h3, h4⟩ := gives_alloc (P := P) (W := W) hT hop ht a w ha hw hB
  refine ⟨u, w', h1, h2, _, h3, ?_⟩
  rw [h4]
  exact H.alloc hl (by rw [← hl]; exact can_zeros _)
/-- a slice literal: its cells -/
theorem yh_lit (hT : TabOk P T) {e : TypeId} {tt : TT} {vs c : List Value} {m : Nat} (H : Hp B A W l) (hv : evBs T E o = some (e, vs)) (ht : T.at e = some tt) (hm : vs.length = m) (hs : (vs.all fun v => Nat.beq v.cells.size tt.size) = true) (hpos : Nat.ble 1 tt.size = true) (hz : Nat.beq tt.zero.cells.size 0 = false) (hlen : Nat.ble (m * tt.size) 16777216 = true)
    (hc : vs.flatMap (·.cells.toList) = c) (h1 : c.all (·.oneCell') = true) :
    Yields P N B o E W (fun v' W' => ∃ b, v' = .slice (some ⟨b, 0, none⟩) m m ∧ Hp B A W' (.row e tt.size (.slice (some ⟨b, 0, none⟩) m m) m c :: l)) := by
  subst hm
  have hs' : ∀ v ∈ vs, v.cells.size = tt.size := fun v hv => Nat.eq_of_beq_eq_true (List.all_eq_true.1 hs v hv)
  have hlen' := Nat.le_of_ble_eq_true hlen
  have hpos' := Nat.le_of_ble_eq_true hpos
  intro a w ha hw hB
  obtain ⟨u, w', h2, h3, h4, h5⟩ := gives_buildSlice (P := P) (W := W) hT hv ht hs' hpos' (Nat.ne_of_beq_eq_false hz) hlen' a w ha hw hB
  refine ⟨u, w', h2, h3, _, h4, ?_⟩
  rw [h5]
  have hcl : (cellsAll vs).toList = c := by rw [← hc]; rfl
  have hcount : ∀ (us : List Value), (∀ v ∈ us, v.cells.size = tt.size) → (us.flatMap (·.cells.toList)).length = us.length * tt.size := by
    intro us
    induction us with
    | nil => intro _; simp
    | cons q us ih =>
      intro h
      rw [List.flatMap_cons, List.length_append, ih fun v hv => h v (List.mem_cons_of_mem _ hv), Array.length_toList, h q (List.Mem.head _), List.length_cons, Nat.add_mul]
      omega
  have hsz : (cellsAll vs).size = vs.length * tt.size := by
    rw [← Array.length_toList, hcl, ← hc]; exact hcount vs hs'
  have hmul : vs.length ≤ vs.length * tt.size := Nat.le_mul_of_pos_right _ hpos'
  refine H.allocRow (sz := tt.size) ?_ (Nat.le_refl _) (by simp only [maxLen]; omega) hsz h1 (by
    have hop := hv
    unfold evBs at hop
    split at hop
    · split at hop
      · split at hop
        · rename_i vs' hvs
          split at hop
          · cases hop
            rw [← hc]; exact evParts_can ha _ _ _ hvs
          · cases hop
        · cases hop
      · cases hop
    · cases hop)
  rw [hcl, ← hsz, ← Array.length_toList, hcl, List.take_length]
theorem madeCells_same {z : Array Value} {x : Value} (hz : 0 < z.size) (h : ∀ y ∈ z.toList, y = x) (n : Nat) : (madeCells z n).toList = List.replicate n x := by
  apply List.ext_getElem?
  intro i
  by_cases hi : i < n
  · simp only [madeCells, Array.toList_map, Array.toList_range, List.getElem?_map, List.getElem?_range hi, Option.map_some, List.getElem?_replicate, if_pos hi, Option.some.injEq]
    have hlt : i % z.size < z.size := Nat.mod_lt _ hz
    rw [getElem!_pos z _ hlt]
    exact h _ (by simp)
  · simp [madeCells, hi]
theorem yh_make (hT : TabOk P T) {e : TypeId} {tt : TT} {n m : Int} {z : Value} (H : Hp B A W l) (hv : evMk T E o = some (e, n, m)) (ht : T.at e = some tt) (hzz : ∀ y ∈ (zerosOf tt.zero).toList, y = z) (hz1 : z.oneCell' = true) (hzl : cl z = z) (hs0 : tt.zero.cells.size = tt.size) (hpos : 0 < tt.size) (h0 : 0 ≤ n) (h1 : m = n) (h2 : (tt.bytes : Int) * m ≤ 281474976710656) (h3 : m ≤ 1099511627776) :
    Yields P N B o E W (fun v' W' => ∃ b, v' = .slice (some ⟨b, 0, none⟩) n.toNat n.toNat ∧ Hp B A W' (.row e tt.size (.slice (some ⟨b, 0, none⟩) n.toNat n.toNat) n.toNat (List.replicate (n.toNat * tt.size) z) :: l)) := by
  subst h1
  intro a w ha hw hB
  obtain ⟨u, w', h4, h5, h6, h7⟩ := gives_make (P := P) (W := W) hT hv ht (by omega) h0 (Int.le_refl _) h2 (by omega) a w ha hw hB
  refine ⟨u, w', h4, h5, _, h6, ?_⟩
  rw [h7]
  have hsz : 0 < (zerosOf tt.zero).size := by simp only [zerosOf, Array.size_map]; omega
  have hc := madeCells_same hsz hzz (m.toNat * tt.size)
  refine H.allocRow (sz := tt.size) ?_ (Nat.le_refl _) (by simp only [maxLen]; omega) (by rw [size_madeCells]) ?_ ?_
  · rw [hc]; simp
  · rw [List.all_eq_true]
    intro x hx
    rw [List.eq_of_mem_replicate hx]; exact hz1
  · intro x hx
    rw [List.eq_of_mem_replicate hx]; exact hzl
/-! ### what is read -/
theorem gh_load (hT : TabOk P T) {b j : Nat} {c : List Value} {e : TypeId} {v : Value} (hv : evLd T E o = some ⟨b, j, none⟩) (hb : (Res.blk b c e).ok W) (hj : c[j]? = some v) (hp : cv v = v) : Gives P N B o E W v W := by
  have hcl : cl v = v := hb.2 v (List.mem_of_getElem? hj)
  have := gives_load (P := P) (N := N) (B := B) (W := W) hT hv (hb.1.cell hj) (by rw [hcl]; exact hp)
  rwa [hcl] at this
theorem gh_loada (hT : TabOk P T) {b off n : Nat} {c c' : List Value} {e : TypeId} (hv : evLa T E o = some (b, off, n)) (hb : (Res.blk b c e).ok W) (hc : (c.drop off).take n = c') (hn : Nat.beq c'.length n = true) : Gives P N B o E W (.agg c'.toArray) W := by
  subst hc
  have hcl : ((c.drop off).take n).map cl = (c.drop off).take n := by
    rw [List.map_congr_left (g := id) (fun x hx => hb.2 x (List.mem_of_mem_drop (List.mem_of_mem_take hx)))]
    simp
  have hcells : Cells W b off ((c.drop off).take n) := by
    intro j u hj
    have h1 := hb.1.cells (off + j) u (by
      rw [List.getElem?_take] at hj
      split at hj
      · rwa [List.getElem?_drop] at hj
      · cases hj)
    rwa [Nat.zero_add] at h1
  have := gives_loada (P := P) (N := N) (B := B) (W := W) hT hv hcells (Nat.eq_of_beq_eq_true hn)
  rwa [hcl] at this
/-- a cell read off what is known of old memory, or of a row -/
theorem gh_read (hT : TabOk P T) {b k i : Nat} {ys : List Value} {v : Value} (hv : evLd T E o = some ⟨b, k, none⟩) {off : Nat} (hr : RdV W b off ys) (hk : k = off + i) (hi : i < ys.length) (hy : ys.getD i undef = v) (hp : cv v = v) : Gives P N B o E W v W := by
  subst hk
  obtain ⟨u, h1, h2, -⟩ := hr i hi
  have := gives_load (P := P) (N := N) (B := B) (W := W) hT hv h1 (by rw [h2, hy]; exact hp)
  rwa [h2, hy] at this
theorem gh_reada (hT : TabOk P T) {b k i n : Nat} {ys c : List Value} (hv : evLa T E o = some (b, k, n)) {off : Nat} (hr : RdV W b off ys) (hk : k = off + i) (hi : i + n ≤ ys.length) (hy : (ys.drop i).take n = c) : Gives P N B o E W (.agg c.toArray) W := by
  subst hk
  obtain ⟨f, hf⟩ := Deep.choose_lt (α := Value) hr
  have hcells : Cells W b (off + i) ((List.range n).map fun j => f (i + j)) := by
    intro j u hj
    have hjl : j < n := by
      have := (List.getElem?_eq_some_iff.1 hj).1
      simpa using this
    simp [hjl] at hj
    subst hj
    have := (hf (i + j) (by omega)).1
    rwa [← Nat.add_assoc] at this
  have := gives_loada (P := P) (N := N) (B := B) (W := W) hT hv hcells (by simp)
  have hmap : ((List.range n).map fun j => f (i + j)).map cl = c := by
    subst hy
    apply List.ext_getElem?
    intro j
    by_cases hj : j < n
    · have := (hf (i + j) (by omega)).2.1
      simp [hj, this, List.getD_eq_getElem?_getD, List.getElem?_take, List.getElem?_drop, show i + j < ys.length by omega]
    · simp [hj, List.getElem?_take]
  rwa [hmap] at this
/-! ### what is written -/
theorem splice_can {c : List Value} {v : Value} {off : Nat} (hc : Canl c) (hv : Canl v.cells.toList) : Canl (c.take off ++ v.cells.toList ++ c.drop (off + v.cells.toList.length)) := by
  intro x hx
  rcases List.mem_append.1 hx with h1 | h1
  · rcases List.mem_append.1 h1 with h2 | h2
    · exact hc x (List.mem_of_mem_take h2)
    · exact hv x h2
  · exact hc x (List.mem_of_mem_drop h1)
theorem evSt_can {a : Act} (ha : EnvR E N a) {b off n : Nat} {v : Value} (hv : evSt T E o = some (b, off, n, v)) : cv v = v := by
  unfold evSt at hv
  split at hv
  · split at hv
    · split at hv
      · split at hv
        · rename_i v0 hv0
          cases hv
          exact ev_can ha hv0
        · cases hv
      · cases hv
    · cases hv
  · cases hv
theorem kh_store (hT : TabOk P T) {b off n : Nat} {v : Value} {c c' : List Value} {e : TypeId} (H : Hp B A W l) (hv : evSt T E o = some (b, off, n, v)) (hp : plain v = some v) (hn : v.cells.size = n) (h1 : v.cells.toList.all (·.oneCell') = true) (hcan : cv v = v)
    (hU : Upd l (.blk b c e) (.blk b c' e) l') (hl : off + n ≤ c.length) (he : c.take off ++ v.cells.toList ++ c.drop (off + v.cells.toList.length) = c') :
    ∃ W', (∀ a w, EnvR E N a → cw B w = W → B ≤ w.heap.size → ∃ w', (execOp a.eval o).run P w = .ok .skip w' ∧ B ≤ w'.heap.size ∧ cw B w' = W') ∧ Hp B A W' l' := by
  subst he
  have hm := hU.mem
  have hbk := H.ok _ hm
  have hown := H.own _ hm b rfl
  refine ⟨_, skips_store (P := P) (N := N) (B := B) (E := E) hT hv hp hn h1 (Nat.le_trans H.hB hown.1) hbk.1 (by simpa using hl), ?_⟩
  rw [splice_list]
  exact H.upd hU (by simp [World.setRow]) rfl rfl rfl (fun k _ hk => setRow_other _ _ _ _ hk) ⟨hbk.1.set, splice_can hbk.2 (can_cells hcan hp)⟩ (fun k hk => .inl hk)
theorem kh_storeRow (hT : TabOk P T) {b off n sz m c : Nat} {v : Value} {xs xs' : List Value} {e : TypeId} (H : Hp B A W l) (hv : evSt T E o = some (b, off, n, v)) (hp : plain v = some v) (hn : v.cells.size = n) (h1 : v.cells.toList.all (·.oneCell') = true) (hcan0 : cv v = v)
    (hU : Upd l (.row e sz (.slice (some ⟨b, 0, none⟩) m c) m xs) (.row e sz (.slice (some ⟨b, 0, none⟩) m c) m xs') l') (hl : off + n ≤ xs.length) (he : xs.take off ++ v.cells.toList ++ xs.drop (off + v.cells.toList.length) = xs') :
    ∃ W', (∀ a w, EnvR E N a → cw B w = W → B ≤ w.heap.size → ∃ w', (execOp a.eval o).run P w = .ok .skip w' ∧ B ≤ w'.heap.size ∧ cw B w' = W') ∧ Hp B A W' l' := by
  subst he
  have hm := hU.mem
  obtain ⟨⟨hlen, hrow⟩, hone, hxc⟩ := H.ok _ hm
  have hown := H.own _ hm b rfl
  rcases hrow with ⟨h0, -⟩ | ⟨g, cap, cur, h0, -, hg, hmc, hcm, hcs, htk⟩
  · cases h0
  cases h0
  have hnv : v.cells.toList.length = n := by simpa using hn
  have hcur : cur.toList = xs ++ cur.toList.drop (m * sz) := by rw [← htk, List.take_append_drop]
  have hle : m * sz ≤ c * sz := Nat.mul_le_mul_right _ hmc
  refine ⟨_, skips_store (P := P) (N := N) (B := B) (E := E) hT hv hp hn h1 (Nat.le_trans H.hB hown.1) hg (by omega), ?_⟩
  have hcan := can_cells hcan0 hp
  have hsl : (xs.take off ++ v.cells.toList ++ xs.drop (off + v.cells.toList.length)).length = m * sz := by
    simp only [List.length_append, List.length_take, List.length_drop, hnv]
    omega
  refine H.upd hU (by simp [World.setRow]) rfl rfl rfl (fun k _ hk => setRow_other _ _ _ _ (fun h => hk (by show some b = some k; rw [h]))) ⟨⟨hsl, .inr ⟨b, c, _, rfl, Nat.zero_le _, setRow_heap _ _ _ _ _ _ hg, hmc, hcm, ?_, ?_⟩⟩, ?_, splice_can hxc hcan⟩ (fun k hk => .inl hk)
  · simp only [splice, List.size_toArray, List.length_append, List.length_take, List.length_drop, hnv, Array.length_toList]
    omega
  · have e1 : cur.toList.take off = xs.take off := by rw [hcur]; exact List.take_append_of_le_length (by omega)
    have e2 : cur.toList.drop (off + v.cells.toList.length) = xs.drop (off + v.cells.toList.length) ++ cur.toList.drop (m * sz) := by
      rw [hcur, List.drop_append_of_le_length (by omega), ← hcur]
    simp only [splice, e1, e2]
    rw [← List.append_assoc, List.take_append_of_le_length (by omega), List.take_of_length_le (by omega)]
  · rw [List.all_eq_true] at hone h1 ⊢
    intro x hx
    rcases List.mem_append.1 hx with h5 | h5
    · rcases List.mem_append.1 h5 with h6 | h6
      · exact hone x (List.mem_of_mem_take h6)
      · exact h1 x h6
    · exact hone x (List.mem_of_mem_drop h5)
end
end Go.Proofs.Ytmplincflbhmiaa.Cn
