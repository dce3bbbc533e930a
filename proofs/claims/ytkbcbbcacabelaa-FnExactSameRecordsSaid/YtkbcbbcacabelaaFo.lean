/- Records cut, over a heap told by its parts. -/
import Derived.Test.YtkbcbbcacabelaaHd
import Derived.Test.YtkbcbbcacabelaaFn
namespace Go.Proofs.Ytkbcbbcacabelaa
set_option linter.unusedSimpArgs false
set_option linter.unusedVariables false
open Go Cn Go.RowKit
def cutS (s : ByteArray) (st sp : Int) (xs : List Nat) (l h : Int) : ByteArray := (cutRec s st sp xs l h).1
section
variable {B : Nat} {A W W' : World}
/-- what both hand back -/
def CutH (B : Nat) (W W' : World) (r : Value) (s : ByteArray) (st sp : Int) (xs : List Nat) (l h : Int) : Prop :=
  ∃ a c, r = .tuple #[.agg #[.string (cutRec s st sp xs l h).1, .int .i64 (cutRec s st sp xs l h).2.1, .int .i64 (cutRec s st sp xs l h).2.2.1, .slice a (cutRec s st sp xs l h).2.2.2.length c], .bool (cutOk s st sp xs.length l h)] ∧ Hp B W W' [fRow (.slice a (cutRec s st sp xs l h).2.2.2.length c) (cutRec s st sp xs l h).2.2.2]
theorem hp_nilF (hb : Hp B W W' []) : Hp B W W' [fRow (.slice none 0 0) []] :=
  Hp.outer hb ((Hp.new hb.size).add (Below.refl _ _) ⟨World.ownsRow_nil _ _ _ _, rfl, fun x hx => by cases hx⟩ (fun b hk => by cases hk))
theorem CutH.bad {s : ByteArray} {st sp : Int} {xs : List Nat} {l h : Int} (hk : cutOk s st sp xs.length l h = false) (hb : Hp B W W' []) : CutH B W W' (.tuple #[.agg #[.string ⟨#[]⟩, .int .i64 0, .int .i64 0, .slice none 0 0], .bool false]) s st sp xs l h := by
  unfold CutH
  rw [hk, cutRec_bad hk]
  exact ⟨none, 0, rfl, hp_nilF hb⟩
theorem CutH.good {s : ByteArray} {st sp : Int} {xs : List Nat} {l h : Int} {a : Option Addr} {c : Nat} {ys : List Nat} (hk : cutOk s st sp xs.length l h = true) (hy : ys = (xs.drop l.toNat).take (h.toNat - l.toNat)) (hb : Hp B W W' [fRow (.slice a ys.length c) ys]) : CutH B W W' (.tuple #[.agg #[.string s, .int .i64 (st + l * sp), .int .i64 sp, .slice a ys.length c], .bool true]) s st sp xs l h := by
  unfold CutH
  subst hy
  rw [hk, cutRec_good hk]
  exact ⟨a, c, rfl, hb⟩
theorem hc_impl_CutRecord {s : ByteArray} {st sp : Int} {a : Option Addr} {c : Nat} {xs : List Nat} {L : List Res} (H : Hp B A W L) (hm : fRow (.slice a xs.length c) xs ∈ L) (hs : s.size ≤ 1048576) (hl : xs.length ≤ 1048576) (l h : Int) :
    ACalls Try.prog B 44 [.agg #[.string s, .int .i64 st, .int .i64 sp, .slice a xs.length c], .int .i64 l, .int .i64 h] W (fun r W' => CutH B W W' r s st sp xs l h) := by
  refine (c_impl_CutRecord ⟨a, c, rfl, Hp.ownF H hm⟩ hs hl l h H.size).mono fun r W' hr => ?_
  obtain ⟨⟨q, rfl, a', c', rfl, h1⟩, h2⟩ := hr
  exact ⟨a', c', rfl, hp_of_own H.size h2 h1⟩
end
end Go.Proofs.Ytkbcbbcacabelaa
