/- Room for more: cap, and zeros appended to nothing. -/
import Derived.Test.YtmplincflbhmiaaXHg
import Derived.Lib.AppendZeros
import Derived.Laws.AppendOwn
namespace Go.Proofs.Ytmplincflbhmiaa.Cn
set_option linter.unusedSimpArgs false
set_option linter.unusedVariables false
open Go Go.RowKit Go.Lib
def evCap (T : Tab) (E : Env) (o : Oper) : Option Nat :=
  match o.op with
  | .call ⟨.builtin .cap, args, ts⟩ => match args.toList with
    | [x] => match ts.toList with
      | [t] => match T.at t with
        | some ⟨.slice _, _, _, _⟩ => match ev E x with
          | some (.slice _ _ c) => some c
          | _ => none
        | _ => none
      | _ => none
    | _ => none
  | _ => none
/-- zeros appended to the nil slice: how many -/
def evGz (T : Tab) (E : Env) (o : Oper) : Option (TypeId × Int) :=
  match o.op with
  | .call ⟨.builtin .append, args, ts⟩ => match args.toList with
    | [x, y] => match ts.toList with
      | [t, t'] => match T.at t with
        | some ⟨.slice e, _, _, _⟩ => match T.at t' with
          | some ⟨.int _, _, _, _⟩ => match ev E x with
            | some (.slice none 0 0) => match ev E y with
              | some (.int _ n) => some (e, n)
              | _ => none
            | _ => none
          | _ => none
        | _ => none
      | _ => none
    | _ => none
  | _ => none
section
variable {P : Program} {N B : Nat} {E : Env} {A W : World} {ops : Array Oper} {K : Exit → Env → World → Prop} {T : Tab} {l : List Res} {o : Oper}
theorem gives_cap (hT : TabOk P T) {c : Nat} (h : evCap T E o = some c) : Gives P N B o E W (.int .i64 c) W := by
  unfold evCap at h
  split at h
  · rename_i args ts ho
    split at h
    · rename_i x hargs
      split at h
      · rename_i t hts
        have e1 : args = #[x] := by apply Array.toList_inj.1; rw [hargs]
        have e2 : ts = #[t] := by apply Array.toList_inj.1; rw [hts]
        subst e1; subst e2
        refine gives_of fun a w ha hw hB => ?_
        split at h
        · rename_i e sz by_ z ht
          obtain ⟨hu, -⟩ := hT _ _ ht
          simp only at hu
          split at h
          · rename_i ad n c hx
            have := cv_slice (ev_sound ha hx)
            cases h
            refine ⟨.int .i64 c, w, run_builtin ho (fun _ => ?_), rfl, rfl⟩
            simp [builtin, Builtin.cap_, this, run_underlying hu, goInt]
          · cases h
        · cases h
      · cases h
    · cases h
  · cases h
theorem yh_growNil (hT : TabOk P T) {e : TypeId} {tt : TT} {n : Int} (H : Hp B A W l) (hv : evGz T E o = some (e, n)) (ht : T.at e = some tt) (hpos : 0 < tt.size) (hz : tt.zero.cells.size = tt.size) (h0 : 0 < n) (h1 : n ≤ 1099511627776) (hb : tt.bytes ≤ 64) :
    Yields P N B o E W (fun v' W' => ∃ b c, v' = .slice (some ⟨b, 0, none⟩) n.toNat c ∧ n.toNat ≤ c ∧ Hp B A W' (.row e tt.size (.slice (some ⟨b, 0, none⟩) 0 c) 0 [] :: l)) := by
  obtain ⟨-, ii, hi, hs, hby, hzz⟩ := hT _ _ ht
  unfold evGz at hv
  split at hv
  · rename_i args ts ho
    split at hv
    · rename_i x y hargs
      split at hv
      · rename_i t t' hts
        have e1 : args = #[x, y] := by apply Array.toList_inj.1; rw [hargs]
        have e2 : ts = #[t, t'] := by apply Array.toList_inj.1; rw [hts]
        subst e1; subst e2
        split at hv
        · rename_i e' s1 b1 z1 hte
          obtain ⟨hu, -⟩ := hT _ _ hte
          split at hv
          · rename_i kq s2 b2 z2 hte'
            obtain ⟨hu', -⟩ := hT _ _ hte'
            split at hv
            · rename_i hx
              split at hv
              · rename_i k m hy
                cases hv
                intro ac w ha hw hB
                have v1 := cv_slice (ev_sound ha hx)
                have v2 := cv_int (ev_sound ha hy)
                obtain ⟨q, rfl⟩ : ∃ q : Nat, n = (q : Int) := ⟨n.toNat, by omega⟩
                have hq0 : 0 < q := by omega
                have hq1 : q ≤ 1099511627776 := by omega
                have hqb : q * ii.bytes ≤ 1099511627776 * 64 := Nat.mul_le_mul hq1 (by rw [hby]; exact hb)
                have hr := run_append_nil_zeros (P := P) w t t' o.type e ii tt.zero k kq hu hu' hi hzz q hq0 (by rw [hs]; exact hpos) (by omega) (by omega)
                refine ⟨_, _, run_builtin ho (fun cs => by simp [builtin, v1, v2, hr]; exact ⟨rfl, rfl⟩), by simp; omega, ?_⟩
                have hge0 := grownCap_ge w q 0 e
                refine ⟨w.heap.size, grownCap w q 0 e, rfl, by simpa using hge0, ?_⟩
                have hWs : W.heap.size = w.heap.size := by rw [← hw]; simp
                have hge := grownCap_ge w q 0 e
                have hle := grownCap_le_maxLen w q 0 e (by simp only [maxLen]; omega)
                rw [cw_alloc (w := w.drew) hB, cw_drew, hw, ← hWs]
                refine H.allocRow (sz := tt.size) (c := []) (by simp) (Nat.zero_le _) hle ?_ rfl (fun x hx => by cases hx)
                simp only [Array.size_map, Array.size_append, size_zeroCells, hz, ← Nat.add_mul]
                congr 1; omega
              · cases hv
            · cases hv
          · cases hv
        · cases hv
      · cases hv
    · cases hv
  · cases hv
variable {i : Nat} {rest : List Nat} {d : Nat} {op : Op} {ty : TypeId} {pos : String} {aft : Array Edge} {g : Option (Nat × Bool)}
theorem s_cap (hT : TabOk P T) {c : Nat} (ho : getL ops.toList i = some ⟨some d, op, ty, pos, aft, g⟩) (hg : guardE ops ⟨some d, op, ty, pos, aft, g⟩ E = some true) (hd : Nat.ble (d + 1) N = true)
    (hv : evCap T E ⟨some d, op, ty, pos, aft, g⟩ = some c) (k : AOps P N B ops rest K ((d, .int .i64 c) :: E) W) : AOps P N B ops (i :: rest) K E W := s_givesv ho hg hd (gives_cap hT hv) k
theorem sh_growNil (hT : TabOk P T) {e : TypeId} {tt : TT} {n : Int} (H : Hp B A W l) (ho : getL ops.toList i = some ⟨some d, op, ty, pos, aft, g⟩) (hg : guardE ops ⟨some d, op, ty, pos, aft, g⟩ E = some true) (hd : Nat.ble (d + 1) N = true)
    (hv : evGz T E ⟨some d, op, ty, pos, aft, g⟩ = some (e, n)) (ht : T.at e = some tt) (hpos : Nat.ble 1 tt.size = true) (hz : Nat.beq tt.zero.cells.size tt.size = true) (hb : Nat.ble tt.bytes 64 = true) (h0 : 0 < n) (h1 : n ≤ 1099511627776)
    (k : ∀ b c W', n.toNat ≤ c → Hp B A W' (.row e tt.size (.slice (some ⟨b, 0, none⟩) 0 c) 0 [] :: l) → AOps P N B ops rest K ((d, .slice (some ⟨b, 0, none⟩) n.toNat c) :: E) W') : AOps P N B ops (i :: rest) K E W :=
  s_yields ho hg hd (yh_growNil hT H hv ht (Nat.le_of_ble_eq_true hpos) (Nat.eq_of_beq_eq_true hz) h0 h1 (Nat.le_of_ble_eq_true hb)) fun v' W' h => by
    obtain ⟨b, c, rfl, hc, h⟩ := h
    exact k b c W' hc h
theorem sliced_none (b c sz : Nat) : sliced (some ⟨b, 0, none⟩) 0 0 c sz = .slice (some ⟨b, 0, none⟩) 0 c := by
  unfold sliced
  simp only [Nat.zero_mul, Nat.sub_zero, Option.map_some, Addr.add_lit]
  split <;> rfl
end
end Go.Proofs.Ytmplincflbhmiaa.Cn
