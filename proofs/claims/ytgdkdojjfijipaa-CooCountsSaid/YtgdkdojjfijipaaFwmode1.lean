import Derived.Test.YtgdkdojjfijipaaFwX
namespace Go.Fw
open Go
theorem mode_at {x : Int} {L : Nat} (hL : 0 < L) (hL2 : L ≤ 1000000) : ∃ m : Nat, m < L ∧ (IntKind.i64.wrap (x.tmod L + L)).tmod L = (m : Int) := by
  have h1 : x.tmod L < L := Int.tmod_lt_of_pos _ (by omega)
  have h2 : -(L : Int) < x.tmod L := by
    have := Int.tmod_lt_of_pos (-x) (b := (L : Int)) (by omega)
    rw [Int.neg_tmod] at this
    omega
  rw [wrap_i64 (by omega) (by omega), Int.tmod_eq_emod_of_nonneg (by omega)]
  exact ⟨((x.tmod L + L) % L).toNat, by have := Int.emod_lt_of_pos (x.tmod L + L) (b := (L : Int)) (by omega); have := Int.emod_nonneg (x.tmod L + L) (b := (L : Int)) (by omega); omega, by have := Int.emod_nonneg (x.tmod L + L) (b := (L : Int)) (by omega); omega⟩
theorem mode_at1 {x : Int} {L : Nat} (hL2 : L ≤ 1000000) : ∃ m : Nat, m ≤ L ∧ (IntKind.i64.wrap (IntKind.i64.wrap (x.tmod ((L : Int) + 1) + L) + 1)).tmod ((L : Int) + 1) = (m : Int) := by
  have h1 : x.tmod ((L : Int) + 1) < (L : Int) + 1 := Int.tmod_lt_of_pos _ (by omega)
  have h2 : -((L : Int) + 1) < x.tmod ((L : Int) + 1) := by
    have := Int.tmod_lt_of_pos (-x) (b := (L : Int) + 1) (by omega)
    rw [Int.neg_tmod] at this
    omega
  rw [wrap_i64 (n := x.tmod ((L : Int) + 1) + L) (by omega) (by omega), wrap_i64 (by omega) (by omega), Int.tmod_eq_emod_of_nonneg (by omega)]
  have h3 := Int.emod_lt_of_pos (x.tmod ((L : Int) + 1) + L + 1) (b := (L : Int) + 1) (by omega)
  have h4 := Int.emod_nonneg (x.tmod ((L : Int) + 1) + L + 1) (b := (L : Int) + 1) (by omega)
  exact ⟨((x.tmod ((L : Int) + 1) + L + 1) % ((L : Int) + 1)).toNat, by omega, by omega⟩
end Go.Fw
