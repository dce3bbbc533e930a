/- Text made bytes; a constant's row marked; what stays whatever comes between. -/
import Derived.Test.YtkbcbbcacabelaaSe
import Derived.Lib.ConvBytes
namespace Go.Proofs.Ytkbcbbcacabelaa
set_option linter.unusedSimpArgs false
set_option linter.unusedVariables false
open Go Cn Go.RowKit
/-- the bytes of a text, as numbers -/
def bI (s : ByteArray) : List Int := (bL s).map fun (x : Nat) => (x : Int)
theorem bI_len (s : ByteArray) : (bI s).length = s.size := by unfold bI; rw [List.length_map, bL_len]
/-- cells stay as they are; a mark may come -/
def Keeps (W W' : World) : Prop := W.heap.size ≤ W'.heap.size ∧ ∀ (g : Nat) (c : Array Value) (e : TypeId) (fz : Nat × Nat), W.heap[g]? = some (Obj.cells c e fz) → ∃ fz' : Nat × Nat, W'.heap[g]? = some (Obj.cells c e fz')
theorem Keeps.refl (W : World) : Keeps W W := ⟨Nat.le_refl _, fun g c e fz h => ⟨fz, h⟩⟩
theorem Keeps.trans {W W1 W2 : World} (h : Keeps W W1) (k : Keeps W1 W2) : Keeps W W2 := ⟨Nat.le_trans h.1 k.1, fun g c e fz hg => by
  obtain ⟨f1, h1⟩ := h.2 g c e fz hg
  exact k.2 g c e f1 h1⟩
theorem Keeps.of {W W' : World} (h : Below W.heap.size W W') : Keeps W W' := ⟨h.size, fun g c e fz hg => ⟨fz, by rw [h.block g (Array.getElem?_eq_some_iff.1 hg).1]; exact hg⟩⟩
theorem Keeps.cell {W W' : World} (h : Keeps W W') {a : Addr} {v : Value} (hc : W.cell? a = some v) : W'.cell? a = some v := by
  unfold World.cell? at hc ⊢
  cases hg : W.heap[a.block]? with
  | none => rw [hg] at hc; cases hc
  | some o =>
    rw [hg] at hc
    cases o with
    | cells c e fz =>
      obtain ⟨fz', h1⟩ := h.2 _ c e fz hg
      rw [h1]; exact hc
    | _ => cases hc
theorem Keeps.rd {W W' : World} (h : Keeps W W') {b off : Nat} {ys : List Value} (hr : RdV W b off ys) : RdV W' b off ys := hr.mono fun _ _ _ hc => h.cell hc
theorem Keeps.sl {W W' : World} (h : Keeps W W') {sz n : Nat} {v : Value} {ys : List Value} (hs : SlV W sz v n ys) : SlV W' sz v n ys := by
  refine ⟨hs.1, ?_⟩
  rcases hs.2 with h1 | ⟨b, off, c, h1, h2, h3⟩
  · exact .inl h1
  · exact .inr ⟨b, off, c, h1, h2, h.rd h3⟩
/-- a row of the call's own, marked or not -/
def Rowm (W : World) (base : Nat) (e : TypeId) (v : Value) (ys : List Value) : Prop := ∃ (b : Nat) (c : Array Value) (fz : Nat × Nat), v = .slice (some ⟨b, 0, none⟩) ys.length ys.length ∧ base ≤ b ∧ W.heap[b]? = some (Obj.cells c e fz) ∧ c.size = ys.length ∧ RdV W b 0 ys
theorem Rowm.keeps {W W' : World} {base : Nat} {e : TypeId} {v : Value} {ys : List Value} (h : Rowm W base e v ys) (k : Keeps W W') : Rowm W' base e v ys := by
  obtain ⟨b, c, fz, h1, h2, h3, h4, h5⟩ := h
  obtain ⟨fz', h6⟩ := k.2 _ _ _ _ h3
  exact ⟨b, c, fz', h1, h2, h6, h4, k.rd h5⟩
theorem Rowm.sl {W : World} {base : Nat} {e : TypeId} {v : Value} {ys : List Value} (h : Rowm W base e v ys) : SlV W 1 v ys.length ys := by
  obtain ⟨b, c, fz, h1, h2, h3, h4, h5⟩ := h
  exact ⟨by omega, .inr ⟨b, 0, _, h1, Nat.le_refl _, h5⟩⟩
theorem rowm_new {W : World} {base : Nat} {e : TypeId} {vs : List Value} (hb : base ≤ W.heap.size) (h1 : ∀ v ∈ vs, v.oneCell' = true ∧ cl v = v) : Rowm (W.alloc (.cells vs.toArray e)) base e (.slice (some ⟨W.heap.size, 0, none⟩) vs.length vs.length) vs := by
  refine ⟨W.heap.size, vs.toArray, (0, 0), rfl, hb, heap_alloc_new W _, by simp, fun i hi => ?_⟩
  refine ⟨vs[i], ?_, ?_, (h1 _ (List.getElem_mem hi)).1⟩
  · unfold World.cell?
    rw [heap_alloc_new W _]
    simp [hi]
  · rw [(h1 _ (List.getElem_mem hi)).2]
    simp [List.getD_eq_getElem?_getD, hi]
section
variable {P : Program} {N B : Nat} {E : Env} {W : World} {ops : Array Oper} {K : Exit → Env → World → Prop} {T : Tab} {o : Oper}
def evCb (T : Tab) (E : Env) (o : Oper) : Option (TypeId × Value) :=
  match o.op with
  | .convert src dst x => match T.at src with
    | some ⟨.slice e, _, _, _⟩ => match T.at e with
      | some ⟨.int .u8, _, _, _⟩ => match Nat.beq src dst with
        | true => match ev E x with
          | some (.slice a n c) => some (e, .slice a n c)
          | _ => none
        | false => none
      | _ => none
    | _ => none
  | _ => none
theorem yields_markBytes (hT : TabOk P T) {base : Nat} {e : TypeId} {v : Value} {ys : List Value} (hv : evCb T E o = some (e, v)) (hu : Rowm W base e v ys) (hbase : base ≤ W.heap.size) :
    Go.Proofs.Ytkbcbbcacabelaa.Cn.Yields P N B o E W (fun v' W' => v' = v ∧ Rowm W' base e v ys ∧ Keeps W W' ∧ Below base W W' ∧ ∀ k : Nat, W'.heap[k]? = W.heap[k]? ∨ ∃ (c : Array Value) (e : TypeId) (fz : Nat × Nat), W.heap[k]? = some (Obj.cells c e fz) ∧ c.size = ys.length) := by
  intro a w ha hw hB
  unfold evCb at hv
  split at hv
  · rename_i src dst x hop
    split at hv
    · rename_i e' s1 b1 z1 ht1
      split at hv
      · rename_i s2 b2 z2 ht2
        split at hv
        · rename_i hsd
          split at hv
          · rename_i ad n c hx
            cases hv
            have hsd := Nat.eq_of_beq_eq_true hsd
            subst hsd
            have e1 := cv_slice (ev_sound ha hx)
            have hs := (hT _ _ ht1).1
            have he := (hT _ _ ht2).1
            obtain ⟨b, cs, fz, h1, h2, h3, h4, h5⟩ := hu
            cases h1
            have hg : ∃ cs', w.heap[b]? = some (.cells cs' e fz) ∧ cs'.size = cs.size := by
              rw [← hw, cw_heap] at h3
              cases hq : w.heap[b]? with
              | none => rw [hq] at h3; cases h3
              | some ob =>
                rw [hq] at h3
                simp only [Option.map_some, Option.some.injEq] at h3
                split at h3
                · subst h3; exact ⟨cs, rfl, rfl⟩
                · cases ob with
                  | cells c' e'' f' =>
                    simp only [co, Obj.cells.injEq] at h3
                    obtain ⟨rfl, rfl, rfl⟩ := h3
                    exact ⟨c', rfl, by simp⟩
                  | _ => cases h3
            obtain ⟨cs', hg, hsz⟩ := hg
            have hsh : w.shape? b = some (e, cs'.size) := by unfold World.shape?; rw [hg]
            have hrun : (convert src src (.slice (some ⟨b, 0, none⟩) ys.length ys.length)).run P w = .ok (.slice (some ⟨b, 0, none⟩) ys.length ys.length) (w.freeze ⟨b, cs'.size, none⟩ 1) := by
              simp [convert, run_underlying hs, run_underlying he, markStringish, hsh]
            have hfh : ∀ k, (w.freeze ⟨b, cs'.size, none⟩ 1).heap[k]? = if b = k then (w.heap[k]?).map (fun | .cells c elem (lo, hi) => .cells c elem (if lo == hi then (cs'.size, cs'.size + 1) else (min lo cs'.size, max hi (cs'.size + 1))) | o => o) else w.heap[k]? := by
              intro k
              simp [World.freeze, Array.getElem?_modify]
              rfl
            have hfs : (w.freeze ⟨b, cs'.size, none⟩ 1).heap.size = w.heap.size := by simp [World.freeze]
            refine ⟨.slice (some ⟨b, 0, none⟩) ys.length ys.length, w.freeze ⟨b, cs'.size, none⟩ 1, ?_, by rw [hfs]; exact hB, ?_⟩
            · simp only [execOp, hop, e1]
              exact run_v hrun
            · have hk : Keeps W (cw B (w.freeze ⟨b, cs'.size, none⟩ 1)) := by
                refine ⟨by rw [cw_size, hfs, ← hw, cw_size]; exact Nat.le_refl _, fun g c e fz hgc => ?_⟩
                rw [← hw, cw_heap] at hgc
                rw [cw_heap, hfh]
                by_cases hbg : b = g
                · subst hbg
                  rw [hg] at hgc ⊢
                  simp only [Option.map_some, if_true] at hgc ⊢
                  obtain ⟨lo, hi⟩ := fz
                  split at hgc
                  · rename_i hlt
                    simp only [hlt, if_true]
                    cases hgc
                    exact ⟨_, rfl⟩
                  · rename_i hlt
                    simp only [hlt, if_false]
                    cases hgc
                    exact ⟨_, rfl⟩
                · rw [if_neg hbg]
                  exact ⟨fz, hgc⟩
              refine ⟨rfl, Rowm.keeps ⟨b, cs, fz, rfl, h2, h3, h4, h5⟩ hk, hk, ?_, fun k => ?_⟩
              · subst hw
                refine ⟨rfl, rfl, rfl, hk.1, fun k hkb => ?_⟩
                rw [cw_heap, cw_heap, hfh, if_neg (by omega)]
              · by_cases hbk : b = k
                · subst hbk
                  exact .inr ⟨cs, e, fz, h3, h4⟩
                · left
                  subst hw
                  rw [cw_heap, cw_heap, hfh, if_neg hbk]
          · cases hv
        · cases hv
      · cases hv
    · cases hv
  · cases hv
def evSb (T : Tab) (E : Env) (o : Oper) : Option (TypeId × ByteArray) :=
  match o.op with
  | .convert src dst x => match T.at src with
    | some ⟨.string, _, _, _⟩ => match T.at dst with
      | some ⟨.slice e, _, _, _⟩ => match T.at e with
        | some ⟨.int .u8, _, _, _⟩ => match ev E x with
          | some (.string s) => some (e, s)
          | _ => none
        | _ => none
      | _ => none
    | _ => none
  | _ => none
theorem yields_strBytes (hT : TabOk P T) {e : TypeId} {s : ByteArray} (hv : evSb T E o = some (e, s)) :
    Go.Proofs.Ytkbcbbcacabelaa.Cn.Yields P N B o E W (fun v' W' => ∃ a c, v' = .slice a (bI s).length c ∧ SlV W' 1 v' (bI s).length (u8s (bI s)) ∧ Below W.heap.size W W') := by
  intro a w ha hw hB
  unfold evSb at hv
  split at hv
  · rename_i src dst x hop
    split at hv
    · rename_i s1 b1 z1 ht1
      split at hv
      · rename_i e' s2 b2 z2 ht2
        split at hv
        · rename_i s3 b3 z3 ht3
          split at hv
          · rename_i s0 hx
            cases hv
            have e1 := cv_string (ev_sound ha hx)
            have hs := (hT _ _ ht1).1
            have hd := (hT _ _ ht2).1
            have he := (hT _ _ ht3).1
            have hrun := Go.Lib.run_convert_string_bytes w src dst e s hs hd he
            have hsz := Go.Lib.bytesWorld_size w e s
            refine ⟨.slice (some ⟨w.heap.size, 0, none⟩) s.size (grownCap w s.size 0 e), Go.Lib.bytesWorld w e s, ?_, by rw [hsz]; omega, ?_⟩
            · simp only [execOp, hop, e1]
              exact run_v hrun
            · have hW : W.heap.size = w.heap.size := by rw [← hw, cw_size]
              refine ⟨some ⟨w.heap.size, 0, none⟩, grownCap w s.size 0 e, by rw [bI_len]; rfl, ?_, ?_⟩
              · rw [bI_len]
                refine ⟨by simp [bI_len], .inr ⟨w.heap.size, 0, _, rfl, grownCap_ge .., fun i hi => ?_⟩⟩
                have hi' : i < s.size := by simpa [bI_len] using hi
                refine ⟨.int .u8 (bt s i), ?_, ?_, rfl⟩
                · rw [cw_cell, if_neg (by dsimp only; omega), Nat.zero_add, Go.Lib.bytesWorld_cell w e s i hi']
                  simp [cl, bt, List.getD_eq_getElem?_getD]
                · simp [bI, List.getD_eq_getElem?_getD, hi', bL_len, bL_get hi', cl, bL]
              · rw [hW]
                subst hw
                refine ⟨rfl, rfl, rfl, by rw [cw_size, cw_size, hsz]; omega, fun k hk => ?_⟩
                rw [cw_heap, cw_heap, Go.Lib.bytesWorld_at_old w e s k hk]
          · cases hv
        · cases hv
      · cases hv
    · cases hv
  · cases hv
end
end Go.Proofs.Ytkbcbbcacabelaa
