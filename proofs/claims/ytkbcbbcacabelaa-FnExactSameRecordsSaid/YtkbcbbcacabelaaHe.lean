/- Records in laws: read, copied, compared, over a heap told by its parts. -/
import Derived.Test.YtkbcbbcacabelaaHd
namespace Go.Proofs.Ytkbcbbcacabelaa
set_option linter.unusedSimpArgs false
set_option linter.unusedVariables false
open Go Cn Go.RowKit
section
variable {B : Nat} {A W W' : World} {L : List Res}
theorem Hp.recA {s : ByteArray} {st sp : Int} {a : Option Addr} {c : Nat} {xs : List Nat} (H : Hp B A W L) (hm : fRow (.slice a xs.length c) xs ∈ L) : RecA W (.agg #[.string s, .int .i64 st, .int .i64 sp, .slice a xs.length c]) s st sp xs := ⟨a, c, rfl, Hp.slF H hm⟩
theorem hx_szRecord {v : Value} {s : ByteArray} {st sp : Int} {xs : List Nat} (H : Hp B A W L) (hv : RecA A v s st sp xs) (hs : s.size ≤ 9223372036854775807) (hl : xs.length ≤ 9223372036854775807) {left : Int} (h0 : 0 ≤ left) (h1 : left ≤ 1048576) :
    ACalls Try.prog B 21 [v, .int .i64 left] W (fun r W' => r = .int .i64 (szR left s.size xs.length) ∧ Hp B A W' L) :=
  (c_laws_szRecord (hv.below H.below) hs hl h0 h1).mono fun _ _ h => ⟨h.1, H.grow h.2⟩
theorem hx_toRecord {v : Value} {s : ByteArray} {st sp : Int} {xs : List Nat} (H : Hp B A W L) (hv : RecA A v s st sp xs) (hl : xs.length ≤ 1048576) :
    ACalls Try.prog B 23 [v] W (fun r W' => ∃ a c, r = .agg #[.string s, .int .i64 st, .int .i64 sp, .slice a xs.length c] ∧ Hp B A W' (fRow (.slice a xs.length c) xs :: L)) :=
  (hc_toRecord (hv.below H.below) hl H.size).mono fun _ _ h => by
    obtain ⟨a, c, rfl, h⟩ := h
    exact ⟨a, c, rfl, H.call1 h⟩
theorem hx_eqRecord {s : ByteArray} {st sp : Int} {a a' : Option Addr} {c c' : Nat} {xs : List Nat} (H : Hp B A W L) (h1 : fRow (.slice a xs.length c) xs ∈ L) (h2 : fRow (.slice a' xs.length c') xs ∈ L) (hl : xs.length ≤ 1048576) :
    ACalls Try.prog B 25 [.agg #[.string s, .int .i64 st, .int .i64 sp, .slice a xs.length c], .agg #[.string s, .int .i64 st, .int .i64 sp, .slice a' xs.length c']] W (fun r W' => r = .bool true ∧ Hp B A W' L) :=
  (c_laws_eqRecord (Hp.recA H h1) (Hp.recA H h2) hl).mono fun _ _ h => ⟨h.1, H.grow h.2⟩
end
end Go.Proofs.Ytkbcbbcacabelaa
