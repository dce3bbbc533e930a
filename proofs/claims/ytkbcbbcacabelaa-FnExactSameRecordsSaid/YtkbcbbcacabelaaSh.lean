/- Onto a full row that is not to be written: a new row. -/
import Derived.Test.YtkbcbbcacabelaaSg
namespace Go.Proofs.Ytkbcbbcacabelaa
set_option linter.unusedSimpArgs false
set_option linter.unusedVariables false
open Go Cn Go.RowKit
section
variable {P : Program} {N B : Nat} {E : Env} {A W : World} {ops : Array Oper} {K : Exit → Env → World → Prop} {T : Tab} {l : List Res} {o : Oper}
theorem rd_back {w : World} (hw : cw B w = W) {b off : Nat} {ys : List Value} (hrd : RdV W b off ys) : ∃ ns : List Value, ns.length = ys.length ∧ ns.map cl = ys ∧ (∀ q ∈ ns, q.oneCell' = true) ∧ ∀ j q, ns[j]? = some q → w.cell? ((⟨b, off, none⟩ : Addr).add j) = some q := by
  obtain ⟨f, hf⟩ := Deep.choose_lt (α := Value) hrd
  have hcells : Cells W b off ((List.range ys.length).map f) := by
    intro j q hj
    have hjl : j < ys.length := by
      have := (List.getElem?_eq_some_iff.1 hj).1
      simpa using this
    simp [hjl] at hj
    subst hj
    exact (hf j hjl).1
  have hmap : ((List.range ys.length).map f).map cl = ys := by
    apply List.ext_getElem?
    intro j
    by_cases hj : j < ys.length
    · have := (hf j hj).2.1
      simp [hj, this, List.getD_eq_getElem?_getD]
    · simp [hj]
  have hone : ∀ q ∈ (List.range ys.length).map f, q.oneCell' = true := by
    intro q hq
    obtain ⟨j, hj, rfl⟩ := List.mem_map.1 hq
    exact (hf j (List.mem_range.1 hj)).2.2
  obtain ⟨ns, h1, h2, h3⟩ := cells_back hw _ b off hcells
  refine ⟨ns, by simpa using h1, by rw [h2, hmap], ?_, fun j q hj => by rw [Addr.add_lit]; exact h3 j q hj⟩
  intro q hq
  have h4 : cl q ∈ ns.map cl := List.mem_map_of_mem hq
  rw [h2] at h4
  obtain ⟨q', h5, h6⟩ := List.mem_map.1 h4
  have h7 := hone q' h5
  have h8 : (cl q).oneCell' = true := by rw [← h6, oneCell_cl]; exact h7
  rwa [oneCell_cl] at h8
theorem yh_appendFull (hT : TabOk P T) {e : TypeId} {tt : TT} {v u : Value} {n m : Nat} {xs ys : List Value} (hv : evAp T E o = some (e, v, u)) (ht : T.at e = some tt) (H : Hp B A W l) (hsz1 : tt.size = 1) (hz : tt.zero.cells.size = tt.size) (hb : tt.bytes ≤ 64)
    {b off : Nat} (hvv : v = .slice (some ⟨b, off, none⟩) n n) (hx : RdV W b off xs) (hxl : xs.length = n) (hxc : Canl xs) {b' off' c' : Nat} (huu : u = .slice (some ⟨b', off', none⟩) m c') (hy : RdV W b' off' ys) (hyl : ys.length = m) (hyc : Canl ys) (hm : 0 < m) (hnm : n + m ≤ 1099511627776) :
    Go.Proofs.Ytkbcbbcacabelaa.Cn.Yields P N B o E W (fun v' W' => ∃ a c, v' = .slice a (n + m) c ∧ Hp B A W' (.row e 1 v' (n + m) (xs ++ ys) :: l)) := by
  subst hvv huu
  intro a w ha hw hB
  obtain ⟨x, y, t, hop, hu, hev⟩ := evAp_spec (N := N) hT hv
  obtain ⟨-, ii, hi, hsz, hby, hzz⟩ := hT _ _ ht
  obtain ⟨e1, e2⟩ := hev a ha
  obtain ⟨us, u1, u2, u3, u4⟩ := rd_back hw hx
  obtain ⟨ns, n1, n2, n3, n4⟩ := rd_back hw hy
  have hs1 : ii.size = 1 := by rw [hsz, hsz1]
  have hbb : (n + m) * ii.bytes ≤ 1099511627776 * 64 := Nat.mul_le_mul hnm (by rw [hby]; exact hb)
  have hr := run_append_grow (P := P) w t o.type e ii tt.zero hu hi hzz ⟨b, off, none⟩ n n us (by rw [u1, hxl, hs1, Nat.mul_one]) u4 ⟨b', off', none⟩ m c' ns (by rw [n1, hyl, hs1, Nat.mul_one]) n4 (by omega) (by omega) (growslice_fits (by omega) (by omega))
  have hge := grownCap_ge w (n + m) n e
  have hle := grownCap_le_maxLen w (n + m) n e (by simp only [maxLen]; omega)
  refine ⟨_, _, run_builtin hop (fun cs => by simp [builtin, e1, e2, hr]; exact ⟨rfl, rfl⟩), by simp; omega, ?_⟩
  have hWs : W.heap.size = w.heap.size := by rw [← hw]; simp
  refine ⟨some ⟨w.heap.size, 0, none⟩, grownCap w (n + m) n e, rfl, ?_⟩
  rw [cw_alloc (w := w.drew) hB, cw_drew, hw, ← hWs]
  refine H.allocRow (sz := 1) (c := xs ++ ys) ?_ hge hle ?_ ?_ ?_
  · have hl : (us.map cl ++ ns.map cl).length = n + m := by rw [List.length_append, u2, n2, hxl, hyl]
    simp only [Array.toList_map, Array.toList_append, List.map_append, Nat.mul_one]
    rw [← List.map_append, List.map_append, List.take_append_of_le_length (by rw [hl]; exact Nat.le_refl _), List.take_of_length_le (by rw [hl]; exact Nat.le_refl _), u2, n2]
  · simp only [Array.size_map, Array.size_append, size_zeroCells, hz, hsz1, List.size_toArray, List.length_append, u1, n1, hxl, hyl]
    omega
  · rw [← u2, ← n2, ← List.map_append, List.all_map, List.all_eq_true]
    intro q hq
    simp only [Function.comp, oneCell_cl]
    rcases List.mem_append.1 hq with h | h
    · exact u3 q h
    · exact n3 q h
  · intro q hq
    rcases List.mem_append.1 hq with h | h
    · exact hxc q h
    · exact hyc q h
end
end Go.Proofs.Ytkbcbbcacabelaa
