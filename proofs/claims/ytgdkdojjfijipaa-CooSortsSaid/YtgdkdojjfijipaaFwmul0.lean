import Derived.Test.YtgdkdojjfijipaaFwX
import Derived.Test.YtgdkdojjfijipaaProg
import Derived.RowKit2
import Derived.Lib.Mul64
namespace Go.Fw
open Go Go.RowKit Go.Proofs
set_option maxRecDepth 100000
set_option linter.unusedSimpArgs false
set_option linter.unusedVariables false

def Mul64_11 : AC := (.seq (.ops [⟨(some 48), none, (.k (.mov (.t 0)))⟩, ⟨(some 49), none, (.k (.mov (.t 1)))⟩, ⟨(some 50), none, (.k (.bin .mul (.t 48) (.t 49)))⟩, ⟨(some 5), none, (.k (.mov (.t 50)))⟩]) .ret)
def Mul64_10 : AC := (.seq (.ops [⟨(some 40), none, (.k (.mov (.t 7)))⟩, ⟨(some 41), none, (.k (.mov (.t 9)))⟩, ⟨(some 42), none, (.k (.bin .mul (.t 40) (.t 41)))⟩, ⟨(some 43), none, (.k (.mov (.t 13)))⟩, ⟨(some 44), none, (.k (.bin .add (.t 42) (.t 43)))⟩, ⟨(some 45), none, (.k (.mov (.t 12)))⟩, ⟨(some 46), none, (.k (.bin .shr (.t 45) (.c (.sc (.int .u64 32)))))⟩, ⟨(some 47), none, (.k (.bin .add (.t 44) (.t 46)))⟩, ⟨(some 4), none, (.k (.mov (.t 47)))⟩]) Mul64_11)
def Mul64_9 : AC := (.seq (.ops [⟨(some 35), none, (.k (.mov (.t 12)))⟩, ⟨(some 36), none, (.k (.mov (.t 6)))⟩, ⟨(some 37), none, (.k (.mov (.t 9)))⟩, ⟨(some 38), none, (.k (.bin .mul (.t 36) (.t 37)))⟩, ⟨(some 39), none, (.k (.bin .add (.t 35) (.t 38)))⟩, ⟨(some 12), none, (.k (.mov (.t 39)))⟩]) Mul64_10)
def Mul64_8 : AC := (.seq (.ops [⟨(some 33), none, (.k (.mov (.t 11)))⟩, ⟨(some 34), none, (.k (.bin .shr (.t 33) (.c (.sc (.int .u64 32)))))⟩, ⟨(some 13), none, (.k (.mov (.t 34)))⟩]) Mul64_9)
def Mul64_7 : AC := (.seq (.ops [⟨(some 31), none, (.k (.mov (.t 11)))⟩, ⟨(some 32), none, (.k (.bin .and (.t 31) (.c (.sc (.int .u64 4294967295)))))⟩, ⟨(some 12), none, (.k (.mov (.t 32)))⟩]) Mul64_8)
def Mul64_6 : AC := (.seq (.ops [⟨(some 25), none, (.k (.mov (.t 7)))⟩, ⟨(some 26), none, (.k (.mov (.t 8)))⟩, ⟨(some 27), none, (.k (.bin .mul (.t 25) (.t 26)))⟩, ⟨(some 28), none, (.k (.mov (.t 10)))⟩, ⟨(some 29), none, (.k (.bin .shr (.t 28) (.c (.sc (.int .u64 32)))))⟩, ⟨(some 30), none, (.k (.bin .add (.t 27) (.t 29)))⟩, ⟨(some 11), none, (.k (.mov (.t 30)))⟩]) Mul64_7)
def Mul64_5 : AC := (.seq (.ops [⟨(some 22), none, (.k (.mov (.t 6)))⟩, ⟨(some 23), none, (.k (.mov (.t 8)))⟩, ⟨(some 24), none, (.k (.bin .mul (.t 22) (.t 23)))⟩, ⟨(some 10), none, (.k (.mov (.t 24)))⟩]) Mul64_6)
def Mul64_4 : AC := (.seq (.ops [⟨(some 20), none, (.k (.mov (.t 1)))⟩, ⟨(some 21), none, (.k (.bin .shr (.t 20) (.c (.sc (.int .u64 32)))))⟩, ⟨(some 9), none, (.k (.mov (.t 21)))⟩]) Mul64_5)
def Mul64_3 : AC := (.seq (.ops [⟨(some 18), none, (.k (.mov (.t 1)))⟩, ⟨(some 19), none, (.k (.bin .and (.t 18) (.c (.sc (.int .u64 4294967295)))))⟩, ⟨(some 8), none, (.k (.mov (.t 19)))⟩]) Mul64_4)
def Mul64_2 : AC := (.seq (.ops [⟨(some 16), none, (.k (.mov (.t 0)))⟩, ⟨(some 17), none, (.k (.bin .shr (.t 16) (.c (.sc (.int .u64 32)))))⟩, ⟨(some 7), none, (.k (.mov (.t 17)))⟩]) Mul64_3)
def Mul64_1 : AC := (.seq (.ops [⟨(some 14), none, (.k (.mov (.t 0)))⟩, ⟨(some 15), none, (.k (.bin .and (.t 14) (.c (.sc (.int .u64 4294967295)))))⟩, ⟨(some 6), none, (.k (.mov (.t 15)))⟩]) Mul64_2)
def Mul64_ac : AC := (.seq (.ops [⟨(some 4), none, (.k (.mov (.c (.sc (.int .u64 0)))))⟩, ⟨(some 5), none, (.k (.mov (.c (.sc (.int .u64 0)))))⟩]) Mul64_1)
theorem Mul64_call {args : List AV} {H : List AObj} {R : AV → List AObj → Prop} (h : AWp Try.prog [] H.length Mul64_ac (bodyQ H.length [(.t 4), (.t 5)] R) (args ++ List.replicate (51 - args.length) .und) H) : ACalls Try.prog 72 args H R :=
  ACalls.of_fn Try.func72 rfl (by kernel_rfl) rfl Try.ntmps72 h

abbrev U (n : Nat) : AV := .sc (.int .u64 n)

theorem u_and (n : Nat) : IntKind.u64.wrap ((n % 2 ^ IntKind.u64.bits &&& 4294967295 % 2 ^ IntKind.u64.bits : Nat) : Int) = ((n % 4294967296 : Nat) : Int) := by
  have e : (4294967295 % 2 ^ IntKind.u64.bits : Nat) = 2 ^ 32 - 1 := by decide
  rw [e, Nat.and_two_pow_sub_one_eq_mod, wrap_u64 (by omega) (by omega)]
  have : (2 : Nat) ^ IntKind.u64.bits = 18446744073709551616 := by decide
  rw [this]; omega
theorem u_and' (n : Nat) : IntKind.u64.wrap ((((n : Int) % 2 ^ IntKind.u64.bits).toNat &&& 4294967295 % 2 ^ IntKind.u64.bits : Nat) : Int) = ((n % 4294967296 : Nat) : Int) := by
  have : ((n : Int) % 2 ^ IntKind.u64.bits).toNat = n % 2 ^ IntKind.u64.bits := by
    have e : (2 : Int) ^ IntKind.u64.bits = 18446744073709551616 := by decide
    have e' : (2 : Nat) ^ IntKind.u64.bits = 18446744073709551616 := by decide
    rw [e, e']; omega
  rw [this, u_and]
theorem u_shr (n : Nat) : (n : Int).fdiv (2 ^ min 32 IntKind.u64.bits) = ((n / 4294967296 : Nat) : Int) := by
  have e : (2 : Int) ^ min 32 IntKind.u64.bits = 4294967296 := by decide
  rw [e, Int.fdiv_eq_ediv_of_nonneg _ (by omega)]; omega
theorem u_wrap (n : Nat) (h : n < 18446744073709551616) : IntKind.u64.wrap (n : Int) = n := wrap_u64 (by omega) (by omega)

theorem Mul64_spec (x y : Nat) (hx : x < 18446744073709551616) (hy : y < 18446744073709551616) :
    ACalls Try.prog 72 [U x, U y] [] fun r H' => H' = [] ∧ r = .tup [U (x * y / 18446744073709551616), U (x * y % 18446744073709551616)] := by
  apply Mul64_call
  repeat first | refine AWp.seq ?_ | refine AWp.block ?_
  refine AWp.ops ?_
  simp
  repeat first | refine AWp.seq ?_ | refine AWp.block ?_
  refine AWp.ops ?_
  simp
  repeat first | refine AWp.seq ?_ | refine AWp.block ?_
  refine AWp.ops ?_
  simp
  repeat first | refine AWp.seq ?_ | refine AWp.block ?_
  refine AWp.ops ?_
  simp
  repeat first | refine AWp.seq ?_ | refine AWp.block ?_
  refine AWp.ops ?_
  simp
  repeat first | refine AWp.seq ?_ | refine AWp.block ?_
  refine AWp.ops ?_
  simp
  repeat first | refine AWp.seq ?_ | refine AWp.block ?_
  refine AWp.ops ?_
  simp
  repeat first | refine AWp.seq ?_ | refine AWp.block ?_
  refine AWp.ops ?_
  simp
  repeat first | refine AWp.seq ?_ | refine AWp.block ?_
  refine AWp.ops ?_
  simp
  repeat first | refine AWp.seq ?_ | refine AWp.block ?_
  refine AWp.ops ?_
  simp
  repeat first | refine AWp.seq ?_ | refine AWp.block ?_
  refine AWp.ops ?_
  simp
  repeat first | refine AWp.seq ?_ | refine AWp.block ?_
  refine AWp.ops ?_
  simp
  refine AWp.ret ?_
  simp
  refine retOk.of rfl ⟨rfl, ?_⟩
  simp
  obtain ⟨g1, g2, g3, g4⟩ := Go.Lib.mul64_hi x y hx hy
  have h1 := Go.Lib.half_mul_le (a := x / 4294967296) (b := y / 4294967296) (by omega) (by omega)
  have h2 := Go.Lib.half_mul_le (a := x / 4294967296) (b := y % 4294967296) (by omega) (by omega)
  have h3 := Go.Lib.half_mul_le (a := x % 4294967296) (b := y / 4294967296) (by omega) (by omega)
  have h1' : x / 4294967296 * (y / 4294967296) < 18446744073709551616 := by omega
  have h2' : x / 4294967296 * (y % 4294967296) < 18446744073709551616 := by omega
  have h3' : x % 4294967296 * (y / 4294967296) < 18446744073709551616 := by omega
  have g5 : x * y / 18446744073709551616 < 18446744073709551616 := by
    have : x * y ≤ 18446744073709551615 * 18446744073709551615 := Nat.mul_le_mul (by omega) (by omega)
    omega
  rw [← g4] at g5
  have g6 : x / 4294967296 * (y / 4294967296) + (x / 4294967296 * (y % 4294967296) + x % 4294967296 * (y % 4294967296) / 4294967296) / 4294967296 < 18446744073709551616 := by omega
  simp only [u_and, u_shr, ← Int.natCast_mul, ← Int.natCast_add, u_wrap _ g1, u_wrap _ h1', u_wrap _ h2', u_wrap _ h3', u_wrap _ g2, u_and', u_wrap _ g3, u_wrap _ g6, u_wrap _ g5]
  rw [g4]
  refine ⟨by omega, ?_⟩
  have : IntKind.u64.wrap ((x * y : Nat) : Int) = ((x * y % 18446744073709551616 : Nat) : Int) := by
    unfold IntKind.wrap
    simp [IntKind.bits, IntKind.signed]
  rw [this]; omega
end Go.Fw
