import Derived.Test.YthipbeffhfdamaaFwX
import Derived.Test.YthipbeffhfdamaaProg
import Derived.RowKit2
import Derived.Lib.Mul64
namespace Go.Fw
open Go Go.RowKit Go.Proofs
set_option maxRecDepth 100000
set_option linter.unusedSimpArgs false
set_option linter.unusedVariables false
abbrev InI (xs : List Int) : Prop := xs.length ≤ 9223372036854775807 ∧ ∀ x ∈ xs, -9223372036854775808 ≤ x ∧ x ≤ 9223372036854775807
abbrev intOb (xs : List Int) : AObj := ⟨3, 1, xs.map I, true, none⟩
def Index_10 : AC := (.seq (.ops [.m 11 (.t 1), .m 12 (.t 0), .m 13 (.t 5), .o 14 (.iad 1 (.t 12) (.t 13)), .o 15 (.ld 1 false (.t 14)), .o 16 (.bin .eql (.t 11) (.t 15))]) (.cond (.t 16) (.seq (.ops [.m 17 (.t 5), .m 4 (.t 17)]) .ret) .skip))
def Index_9 : AC := (.seq (.ops [.m 10 (.t 8), .m 5 (.t 10)]) Index_10)
def Index_8 : AC := (.block 1 Index_9)
def Index_7 : AC := (.seq Index_8 (.ops [.o 18 (.bin .add (.t 8) (.i 1)), .m 8 (.t 18)]))
def Index_6 : AC := (.seq (.cond (.t 9) .skip (.exit 0)) Index_7)
def Index_5 : AC := (.seq (.ops [.o 9 (.bin .lss (.t 8) (.t 7))]) Index_6)
def Index_4 : AC := (.loop Index_5)
def Index_3 : AC := (.block 0 Index_4)
def Index_2 : AC := (.seq (.ops [.m 6 (.t 0), .o 7 (.len (.t 6)), .m 8 (.i 0)]) Index_3)
def Index_1 : AC := (.seq Index_2 (.seq (.ops [.m 4 (.i (-1))]) .ret))
def Index_ac : AC := (.seq (.ops [.m 4 (.i 0)]) Index_1)
theorem Index_call {args : List AV} {H : List AObj} {R : AV → List AObj → Prop} (h : AWp Try.prog [] H.length Index_ac (bodyQ H.length [(.t 4)] R) (args ++ List.replicate (19 - args.length) .und) H) : ACalls Try.prog 75 args H R :=
  ACalls.of_fn Try.func75 rfl (by kernel_rfl) rfl Try.ntmps75 h
theorem Index_spec {a : AV} {xs : List Int} {v : Int} (ha : ISl a xs) : ACalls Try.prog 75 [a, I v] [] fun r H' => H' = [] ∧ ∃ n : Int, r = I n ∧ (0 ≤ n ↔ v ∈ xs) := by
  obtain ⟨⟨nl, c, sz, rfl, hs⟩, hlen, hx⟩ := ha
  apply Index_call
  refine AWp.seq (AWp.ops ?_)
  simp
  refine AWp.seq (AWp.seq (AWp.ops ?_))
  simp
  refine AWp.block (AWp.loop (fun (i : Nat) fr H => i ≤ xs.length ∧ (∀ x ∈ xs.take i, x ≠ v) ∧ H = [] ∧ fr = [AV.imm nl c sz (xs.map I), I v, .und, .und, I 0, .und, .imm nl c sz (xs.map I), I xs.length, I i, .und, .und, .und, .und, .und, .und, .und, .und, .und, .und]) (fun i => xs.length - i) 0 (Weak.refl _ _ _) (by simp) ?_)
  rintro i fr H ⟨hi, hno, rfl, rfl⟩
  refine AWp.seq (AWp.ops ?_)
  simp
  refine AWp.seq (AWp.cond (b := decide (i < xs.length)) (by simp) ?_ ?_)
  · intro hb
    have hb : i < xs.length := by simpa using hb
    have hsz : sz = 1 := sz_of hs hb
    subst hsz
    refine AWp.skip ?_
    simp only [qSeq]
    refine AWp.seq (AWp.block (AWp.seq (AWp.ops ?_)))
    simp
    refine AWp.seq (AWp.ops ?_)
    simp [hb]
    refine AWp.cond (b := v == xs[i]) (by simp) ?_ ?_
    · intro he
      have he : v = xs[i] := by simpa using he
      refine AWp.seq (AWp.ops ?_)
      simp
      refine AWp.ret ?_
      simp [qBlock, bodyQ]
      refine retOk.of rfl ⟨rfl, i, by simp [tupV], ?_⟩
      rw [he]; simp
    · intro he
      have he : ¬ v = xs[i] := by simpa using he
      refine AWp.skip ?_
      simp only [qSeq, qBlock]
      refine AWp.ops ?_
      simp
      refine ⟨i + 1, _, _, Weak.slots [0, 1, 4, 6, 7, 8], ⟨by omega, ?_, rfl, ?_⟩, by omega⟩
      · intro x hx
        rw [List.take_succ_eq_append_getElem hb] at hx
        rcases List.mem_append.1 hx with h | h
        · exact hno x h
        · simp at h; rw [h]; exact fun e => he e.symm
      · simp [wrap_i64 (n := (i : Int) + 1) (by omega) (by omega)]
  · intro hb
    have hb : ¬ i < xs.length := by simpa using hb
    refine AWp.exit ?_
    simp [qSeq, qBlock]
    refine AWp.seq (AWp.ops ?_)
    simp
    refine AWp.ret ?_
    simp [bodyQ]
    refine retOk.of rfl ⟨rfl, -1, by simp [tupV], ?_⟩
    have : xs.take i = xs := List.take_of_length_le (by omega)
    rw [this] at hno
    simp
    exact fun h => hno v h rfl
def Contains_1 : AC := (.seq (.ops [.m 5 (.t 0), .m 6 (.t 1), .c 7 false (.f 75) [(.t 5), (.t 6)], .o 8 (.bin .geq (.t 7) (.i 0)), .m 4 (.t 8)]) .ret)
def Contains_ac : AC := (.seq (.ops [.m 4 (.b false)]) Contains_1)
theorem Contains_call {args : List AV} {H : List AObj} {R : AV → List AObj → Prop} (h : AWp Try.prog [] H.length Contains_ac (bodyQ H.length [(.t 4)] R) (args ++ List.replicate (9 - args.length) .und) H) : ACalls Try.prog 46 args H R :=
  ACalls.of_fn Try.func46 rfl (by kernel_rfl) rfl Try.ntmps46 h
theorem Contains_spec {a : AV} {xs : List Int} {v : Int} (ha : ISl a xs) : ACalls Try.prog 46 [a, I v] [] fun r H' => H' = [] ∧ r = Bo (decide (v ∈ xs)) := by
  apply Contains_call
  refine AWp.seq (AWp.ops ?_)
  simp
  refine AWp.seq (AWp.ops ?_)
  simp
  refine (Index_spec ha).mono ?_
  rintro r H' ⟨rfl, n, rfl, hn⟩
  simp
  refine AWp.ret ?_
  simp
  refine retOk.of rfl ⟨rfl, ?_⟩
  simp [hn]
def IndexFunc_10 : AC := (.seq (.ops [.m 11 (.t 1), .m 12 (.t 0), .m 13 (.t 5), .o 14 (.iad 1 (.t 12) (.t 13)), .o 15 (.ld 1 false (.t 14)), .c 16 false (.t 11) [(.t 15)]]) (.cond (.t 16) (.seq (.ops [.m 17 (.t 5), .m 4 (.t 17)]) .ret) .skip))
def IndexFunc_9 : AC := (.seq (.ops [.m 10 (.t 8), .m 5 (.t 10)]) IndexFunc_10)
def IndexFunc_8 : AC := (.block 1 IndexFunc_9)
def IndexFunc_7 : AC := (.seq IndexFunc_8 (.ops [.o 18 (.bin .add (.t 8) (.i 1)), .m 8 (.t 18)]))
def IndexFunc_6 : AC := (.seq (.cond (.t 9) .skip (.exit 0)) IndexFunc_7)
def IndexFunc_5 : AC := (.seq (.ops [.o 9 (.bin .lss (.t 8) (.t 7))]) IndexFunc_6)
def IndexFunc_4 : AC := (.loop IndexFunc_5)
def IndexFunc_3 : AC := (.block 0 IndexFunc_4)
def IndexFunc_2 : AC := (.seq (.ops [.m 6 (.t 0), .o 7 (.len (.t 6)), .m 8 (.i 0)]) IndexFunc_3)
def IndexFunc_1 : AC := (.seq IndexFunc_2 (.seq (.ops [.m 4 (.i (-1))]) .ret))
def IndexFunc_ac : AC := (.seq (.ops [.m 4 (.i 0)]) IndexFunc_1)
theorem IndexFunc_call {args : List AV} {H : List AObj} {R : AV → List AObj → Prop} (h : AWp Try.prog [] H.length IndexFunc_ac (bodyQ H.length [(.t 4)] R) (args ++ List.replicate (19 - args.length) .und) H) : ACalls Try.prog 74 args H R :=
  ACalls.of_fn Try.func74 rfl (by kernel_rfl) rfl Try.ntmps74 h
theorem IndexFunc_gen {a : AV} {xs : List Int} {g : FuncId} {caps : List AV} {H0 : List AObj} {p : Int → Bool} (ha : ISl a xs) (hg : ∀ x ∈ xs, ACalls Try.prog g (I x :: caps) H0 fun r H' => H' = H0 ∧ r = Bo (p x)) :
    ACalls Try.prog 74 [a, .fn (.func g) [] caps] H0 fun r H' => H' = H0 ∧ ∃ n : Int, r = I n ∧ (0 ≤ n ↔ ∃ x ∈ xs, p x = true) := by
  obtain ⟨⟨nl, c, sz, rfl, hs⟩, hlen, hx⟩ := ha
  apply IndexFunc_call
  refine AWp.seq (AWp.ops ?_)
  simp
  refine AWp.seq (AWp.seq (AWp.ops ?_))
  simp
  refine AWp.block (AWp.loop (fun (i : Nat) fr H => i ≤ xs.length ∧ (∀ x ∈ xs.take i, p x = false) ∧ H = H0 ∧ fr = [AV.imm nl c sz (xs.map I), .fn (.func g) [] caps, .und, .und, I 0, .und, .imm nl c sz (xs.map I), I xs.length, I i, .und, .und, .und, .und, .und, .und, .und, .und, .und, .und]) (fun i => xs.length - i) 0 (Weak.refl _ _ _) (by simp) ?_)
  rintro i fr H ⟨hi, hno, rfl, rfl⟩
  refine AWp.seq (AWp.ops ?_)
  simp
  refine AWp.seq (AWp.cond (b := decide (i < xs.length)) (by simp) ?_ ?_)
  · intro hb
    have hb : i < xs.length := by simpa using hb
    have hsz : sz = 1 := sz_of hs hb
    subst hsz
    refine AWp.skip ?_
    simp only [qSeq]
    refine AWp.seq (AWp.block (AWp.seq (AWp.ops ?_)))
    simp
    refine AWp.seq (AWp.ops ?_)
    simp [hb]
    refine (hg xs[i] (List.getElem_mem hb)).mono ?_
    rintro r H' ⟨rfl, rfl⟩
    simp
    refine AWp.cond (b := p xs[i]) (by simp) ?_ ?_
    · intro he
      refine AWp.seq (AWp.ops ?_)
      simp
      refine AWp.ret ?_
      simp
      refine retOk.of rfl ⟨rfl, i, by simp, ?_⟩
      simp
      exact ⟨xs[i], List.getElem_mem hb, he⟩
    · intro he
      refine AWp.skip ?_
      simp only [qSeq, qBlock]
      refine AWp.ops ?_
      simp
      refine ⟨i + 1, _, _, Weak.slots [0, 1, 4, 6, 7, 8], ⟨by omega, ?_, rfl, ?_⟩, by omega⟩
      · intro x hx
        rw [List.take_succ_eq_append_getElem hb] at hx
        rcases List.mem_append.1 hx with h | h
        · exact hno x h
        · simp at h; rw [h]; exact he
      · simp [wrap_i64 (n := (i : Int) + 1) (by omega) (by omega)]
  · intro hb
    have hb : ¬ i < xs.length := by simpa using hb
    refine AWp.exit ?_
    simp [qSeq, qBlock]
    refine AWp.seq (AWp.ops ?_)
    simp
    refine AWp.ret ?_
    simp
    refine retOk.of rfl ⟨rfl, -1, by simp, ?_⟩
    have : xs.take i = xs := List.take_of_length_le (by omega)
    rw [this] at hno
    simp
    exact hno
theorem IndexFunc_spec {a : AV} {xs : List Int} {g : FuncId} {p : Int → Bool} (ha : ISl a xs) (hg : ∀ x ∈ xs, ACalls Try.prog g [I x] [] fun r H' => H' = [] ∧ r = Bo (p x)) :
    ACalls Try.prog 74 [a, .fn (.func g) [] []] [] fun r H' => H' = [] ∧ ∃ n : Int, r = I n ∧ (0 ≤ n ↔ ∃ x ∈ xs, p x = true) := IndexFunc_gen ha hg
def ContainsFunc_1 : AC := (.seq (.ops [.m 5 (.t 0), .m 6 (.t 1), .c 7 false (.f 74) [(.t 5), (.t 6)], .o 8 (.bin .geq (.t 7) (.i 0)), .m 4 (.t 8)]) .ret)
def ContainsFunc_ac : AC := (.seq (.ops [.m 4 (.b false)]) ContainsFunc_1)
theorem ContainsFunc_call {args : List AV} {H : List AObj} {R : AV → List AObj → Prop} (h : AWp Try.prog [] H.length ContainsFunc_ac (bodyQ H.length [(.t 4)] R) (args ++ List.replicate (9 - args.length) .und) H) : ACalls Try.prog 44 args H R :=
  ACalls.of_fn Try.func44 rfl (by kernel_rfl) rfl Try.ntmps44 h
theorem ContainsFunc_gen {a : AV} {xs : List Int} {g : FuncId} {caps : List AV} {H0 : List AObj} {p : Int → Bool} (ha : ISl a xs) (hg : ∀ x ∈ xs, ACalls Try.prog g (I x :: caps) H0 fun r H' => H' = H0 ∧ r = Bo (p x)) :
    ACalls Try.prog 44 [a, .fn (.func g) [] caps] H0 fun r H' => H' = H0 ∧ r = Bo (xs.any p) := by
  apply ContainsFunc_call
  refine AWp.seq (AWp.ops ?_)
  simp
  refine AWp.seq (AWp.ops ?_)
  simp
  refine (IndexFunc_gen ha hg).mono ?_
  rintro r H' ⟨rfl, n, rfl, hn⟩
  simp
  refine AWp.ret ?_
  simp
  refine retOk.of rfl ⟨rfl, ?_⟩
  have e : decide (0 ≤ n) = xs.any p := by rw [Bool.eq_iff_iff]; simp [hn]
  simp [e]
theorem ContainsFunc_spec {a : AV} {xs : List Int} {g : FuncId} {p : Int → Bool} (ha : ISl a xs) (hg : ∀ x ∈ xs, ACalls Try.prog g [I x] [] fun r H' => H' = [] ∧ r = Bo (p x)) :
    ACalls Try.prog 44 [a, .fn (.func g) [] []] [] fun r H' => H' = [] ∧ r = Bo (xs.any p) := ContainsFunc_gen ha hg
end Go.Fw
namespace Go.Fw
open Go Go.RowKit Go.Proofs
set_option maxRecDepth 100000
set_option linter.unusedSimpArgs false
set_option linter.unusedVariables false
def Mul64_11 : AC := (.seq (.ops [.m 48 (.t 0), .m 49 (.t 1), .o 50 (.bin .mul (.t 48) (.t 49)), .m 5 (.t 50)]) .ret)
def Mul64_10 : AC := (.seq (.ops [.m 40 (.t 7), .m 41 (.t 9), .o 42 (.bin .mul (.t 40) (.t 41)), .m 43 (.t 13), .o 44 (.bin .add (.t 42) (.t 43)), .m 45 (.t 12), .o 46 (.bin .shr (.t 45) (.c (.sc (.int .u64 32)))), .o 47 (.bin .add (.t 44) (.t 46)), .m 4 (.t 47)]) Mul64_11)
def Mul64_9 : AC := (.seq (.ops [.m 35 (.t 12), .m 36 (.t 6), .m 37 (.t 9), .o 38 (.bin .mul (.t 36) (.t 37)), .o 39 (.bin .add (.t 35) (.t 38)), .m 12 (.t 39)]) Mul64_10)
def Mul64_8 : AC := (.seq (.ops [.m 33 (.t 11), .o 34 (.bin .shr (.t 33) (.c (.sc (.int .u64 32)))), .m 13 (.t 34)]) Mul64_9)
def Mul64_7 : AC := (.seq (.ops [.m 31 (.t 11), .o 32 (.bin .and (.t 31) (.c (.sc (.int .u64 4294967295)))), .m 12 (.t 32)]) Mul64_8)
def Mul64_6 : AC := (.seq (.ops [.m 25 (.t 7), .m 26 (.t 8), .o 27 (.bin .mul (.t 25) (.t 26)), .m 28 (.t 10), .o 29 (.bin .shr (.t 28) (.c (.sc (.int .u64 32)))), .o 30 (.bin .add (.t 27) (.t 29)), .m 11 (.t 30)]) Mul64_7)
def Mul64_5 : AC := (.seq (.ops [.m 22 (.t 6), .m 23 (.t 8), .o 24 (.bin .mul (.t 22) (.t 23)), .m 10 (.t 24)]) Mul64_6)
def Mul64_4 : AC := (.seq (.ops [.m 20 (.t 1), .o 21 (.bin .shr (.t 20) (.c (.sc (.int .u64 32)))), .m 9 (.t 21)]) Mul64_5)
def Mul64_3 : AC := (.seq (.ops [.m 18 (.t 1), .o 19 (.bin .and (.t 18) (.c (.sc (.int .u64 4294967295)))), .m 8 (.t 19)]) Mul64_4)
def Mul64_2 : AC := (.seq (.ops [.m 16 (.t 0), .o 17 (.bin .shr (.t 16) (.c (.sc (.int .u64 32)))), .m 7 (.t 17)]) Mul64_3)
def Mul64_1 : AC := (.seq (.ops [.m 14 (.t 0), .o 15 (.bin .and (.t 14) (.c (.sc (.int .u64 4294967295)))), .m 6 (.t 15)]) Mul64_2)
def Mul64_ac : AC := (.seq (.ops [.m 4 (.c (.sc (.int .u64 0))), .m 5 (.c (.sc (.int .u64 0)))]) Mul64_1)
theorem Mul64_call {args : List AV} {H : List AObj} {R : AV → List AObj → Prop} (h : AWp Try.prog [] H.length Mul64_ac (bodyQ H.length [(.t 4), (.t 5)] R) (args ++ List.replicate (51 - args.length) .und) H) : ACalls Try.prog 47 args H R :=
  ACalls.of_fn Try.func47 rfl (by kernel_rfl) rfl Try.ntmps47 h
abbrev U (n : Nat) : AV := .sc (.int .u64 n)
theorem u_and (n : Nat) : IntKind.u64.wrap ((n % 2 ^ IntKind.u64.bits &&& 4294967295 % 2 ^ IntKind.u64.bits : Nat) : Int) = ((n % 4294967296 : Nat) : Int) := by
  have e : (4294967295 % 2 ^ IntKind.u64.bits : Nat) = 2 ^ 32 - 1 := by decide
  rw [e, Nat.and_two_pow_sub_one_eq_mod, wrap_u64 (by omega) (by omega)]
  have : (2 : Nat) ^ IntKind.u64.bits = 18446744073709551616 := by decide
  rw [this]; omega
theorem u_and' (n : Nat) : IntKind.u64.wrap ((((n : Int) % 2 ^ IntKind.u64.bits).toNat &&& 4294967295 % 2 ^ IntKind.u64.bits : Nat) : Int) = ((n % 4294967296 : Nat) : Int) := by
  have : ((n : Int) % 2 ^ IntKind.u64.bits).toNat = n % 2 ^ IntKind.u64.bits := by
    have e : (2 : Int) ^ IntKind.u64.bits = 18446744073709551616 := by decide
    have e' : (2 : Nat) ^ IntKind.u64.bits = 18446744073709551616 := by decide
    rw [e, e']; omega
  rw [this, u_and]
theorem u_shr (n : Nat) : (n : Int).fdiv (2 ^ min 32 IntKind.u64.bits) = ((n / 4294967296 : Nat) : Int) := by
  have e : (2 : Int) ^ min 32 IntKind.u64.bits = 4294967296 := by decide
  rw [e, Int.fdiv_eq_ediv_of_nonneg _ (by omega)]; omega
theorem u_wrap (n : Nat) (h : n < 18446744073709551616) : IntKind.u64.wrap (n : Int) = n := wrap_u64 (by omega) (by omega)
theorem Mul64_spec (x y : Nat) (hx : x < 18446744073709551616) (hy : y < 18446744073709551616) :
    ACalls Try.prog 47 [U x, U y] [] fun r H' => H' = [] ∧ r = .tup [U (x * y / 18446744073709551616), U (x * y % 18446744073709551616)] := by
  apply Mul64_call
  repeat first | refine AWp.seq ?_ | refine AWp.block ?_
  refine AWp.ops ?_
  simp
  repeat first | refine AWp.seq ?_ | refine AWp.block ?_
  refine AWp.ops ?_
  simp
  repeat first | refine AWp.seq ?_ | refine AWp.block ?_
  refine AWp.ops ?_
  simp
  repeat first | refine AWp.seq ?_ | refine AWp.block ?_
  refine AWp.ops ?_
  simp
  repeat first | refine AWp.seq ?_ | refine AWp.block ?_
  refine AWp.ops ?_
  simp
  repeat first | refine AWp.seq ?_ | refine AWp.block ?_
  refine AWp.ops ?_
  simp
  repeat first | refine AWp.seq ?_ | refine AWp.block ?_
  refine AWp.ops ?_
  simp
  repeat first | refine AWp.seq ?_ | refine AWp.block ?_
  refine AWp.ops ?_
  simp
  repeat first | refine AWp.seq ?_ | refine AWp.block ?_
  refine AWp.ops ?_
  simp
  repeat first | refine AWp.seq ?_ | refine AWp.block ?_
  refine AWp.ops ?_
  simp
  repeat first | refine AWp.seq ?_ | refine AWp.block ?_
  refine AWp.ops ?_
  simp
  repeat first | refine AWp.seq ?_ | refine AWp.block ?_
  refine AWp.ops ?_
  simp
  refine AWp.ret ?_
  simp
  refine retOk.of rfl ⟨rfl, ?_⟩
  simp
  obtain ⟨g1, g2, g3, g4⟩ := Go.Lib.mul64_hi x y hx hy
  have h1 := Go.Lib.half_mul_le (a := x / 4294967296) (b := y / 4294967296) (by omega) (by omega)
  have h2 := Go.Lib.half_mul_le (a := x / 4294967296) (b := y % 4294967296) (by omega) (by omega)
  have h3 := Go.Lib.half_mul_le (a := x % 4294967296) (b := y / 4294967296) (by omega) (by omega)
  have h1' : x / 4294967296 * (y / 4294967296) < 18446744073709551616 := by omega
  have h2' : x / 4294967296 * (y % 4294967296) < 18446744073709551616 := by omega
  have h3' : x % 4294967296 * (y / 4294967296) < 18446744073709551616 := by omega
  have g5 : x * y / 18446744073709551616 < 18446744073709551616 := by
    have : x * y ≤ 18446744073709551615 * 18446744073709551615 := Nat.mul_le_mul (by omega) (by omega)
    omega
  rw [← g4] at g5
  have g6 : x / 4294967296 * (y / 4294967296) + (x / 4294967296 * (y % 4294967296) + x % 4294967296 * (y % 4294967296) / 4294967296) / 4294967296 < 18446744073709551616 := by omega
  simp only [u_and, u_shr, ← Int.natCast_mul, ← Int.natCast_add, u_wrap _ g1, u_wrap _ h1', u_wrap _ h2', u_wrap _ h3', u_wrap _ g2, u_and', u_wrap _ g3, u_wrap _ g6, u_wrap _ g5]
  rw [g4]
  refine ⟨by omega, ?_⟩
  have : IntKind.u64.wrap ((x * y : Nat) : Int) = ((x * y % 18446744073709551616 : Nat) : Int) := by
    unfold IntKind.wrap
    simp [IntKind.bits, IntKind.signed]
  rw [this]; omega
end Go.Fw
namespace Go.Fw
open Go Go.RowKit Go.Proofs
set_option maxRecDepth 100000
set_option linter.unusedSimpArgs false
set_option linter.unusedVariables false
def neg_1 : AC := (.seq (.ops [.m 3 (.t 0), .o 4 (.bin .lss (.t 3) (.i 0)), .m 2 (.t 4)]) .ret)
def neg_ac : AC := (.seq (.ops [.m 2 (.b false)]) neg_1)
theorem neg_call {args : List AV} {H : List AObj} {R : AV → List AObj → Prop} (h : AWp Try.prog [] H.length neg_ac (bodyQ H.length [(.t 2)] R) (args ++ List.replicate (5 - args.length) .und) H) : ACalls Try.prog 45 args H R :=
  ACalls.of_fn Try.func45 rfl (by kernel_rfl) rfl Try.ntmps45 h
theorem neg_spec (x : Int) : ACalls Try.prog 45 [I x] [] fun r H' => H' = [] ∧ r = Bo (decide (x < 0)) := by
  apply neg_call
  repeat first | refine AWp.seq ?_ | refine AWp.block ?_
  refine AWp.ops ?_
  simp
  repeat first | refine AWp.seq ?_ | refine AWp.block ?_
  refine AWp.ops ?_
  simp
  refine AWp.ret ?_
  simp
  exact retOk.of rfl ⟨rfl, rfl⟩
def mulAll : List Int → Int → Int × Int
  | [], n => (n, 0)
  | s :: r, n => if n * s ≥ 4611686018427387904 then (0, 2) else mulAll r (n * s)
def cells (xs : List Int) : Int × Int :=
  if xs.length > 4 ∨ xs.any (fun x => decide (x < 0)) = true then (0, 1) else if 0 ∈ xs then (0, 0) else mulAll xs 1
def Cells_21 : AC := (.seq (.ops [.m 39 (.t 4), .o 40 (.cvi .i64 (.t 39)), .m 2 (.t 40), .m 3 (.i 0)]) .ret)
def Cells_20 : AC := (.cond (.t 36) (.seq (.ops [.m 2 (.i 0), .m 3 (.i 2)]) .ret) .skip)
def Cells_19 : AC := (.seq (.ops [.m 31 (.t 7), .o 32 (.bin .gtr (.t 31) (.c (.sc (.int .u64 0)))), .m 33 (.t 32), .mg 34 33 false (.t 8), .og 35 33 false (.bin .geq (.t 34) (.c (.sc (.int .u64 4611686018427387904)))), .o 36 (.pick (.t 33) (.b true) (.t 35))]) Cells_20)
def Cells_18 : AC := (.seq Cells_19 (.ops [.m 37 (.t 8), .m 4 (.t 37)]))
def Cells_17 : AC := (.seq (.ops [.m 25 (.t 4), .m 26 (.t 6), .o 27 (.cvi .u64 (.t 26)), .c 28 false (.f 47) [(.t 25), (.t 27)], .m 24 (.t 28), .o 29 (.ext (.t 24) 0), .o 30 (.ext (.t 24) 1), .m 7 (.t 29), .m 8 (.t 30)]) Cells_18)
def Cells_16 : AC := (.seq (.ops [.o 22 (.iad 1 (.t 18) (.t 20)), .o 23 (.ld 1 false (.t 22)), .m 6 (.t 23)]) Cells_17)
def Cells_15 : AC := (.block 1 Cells_16)
def Cells_14 : AC := (.seq Cells_15 (.ops [.o 38 (.bin .add (.t 20) (.i 1)), .m 20 (.t 38)]))
def Cells_13 : AC := (.seq (.cond (.t 21) .skip (.exit 0)) Cells_14)
def Cells_12 : AC := (.seq (.ops [.o 21 (.bin .lss (.t 20) (.t 19))]) Cells_13)
def Cells_11 : AC := (.loop Cells_12)
def Cells_10 : AC := (.block 0 Cells_11)
def Cells_9 : AC := (.seq (.ops [.m 18 (.t 0), .o 19 (.len (.t 18)), .m 20 (.i 0)]) Cells_10)
def Cells_8 : AC := (.seq Cells_9 Cells_21)
def Cells_7 : AC := (.seq (.ops [.m 4 (.c (.sc (.int .u64 1)))]) Cells_8)
def Cells_6 : AC := (.cond (.t 17) (.seq (.ops [.m 2 (.i 0), .m 3 (.i 0)]) .ret) .skip)
def Cells_5 : AC := (.seq (.ops [.m 16 (.t 0), .c 17 false (.f 46) [(.t 16), (.i 0)]]) Cells_6)
def Cells_4 : AC := (.seq Cells_5 Cells_7)
def Cells_3 : AC := (.cond (.t 15) (.seq (.ops [.m 2 (.i 0), .m 3 (.i 1)]) .ret) .skip)
def Cells_2 : AC := (.seq (.ops [.m 9 (.t 0), .o 10 (.len (.t 9)), .o 11 (.bin .gtr (.t 10) (.i 4)), .m 12 (.t 11), .mg 13 12 false (.t 0), .cg 14 12 false false (.f 44) [(.t 13), (.f 45)], .o 15 (.pick (.t 12) (.b true) (.t 14))]) Cells_3)
def Cells_1 : AC := (.seq Cells_2 Cells_4)
def Cells_ac : AC := (.seq (.ops [.m 2 (.i 0), .m 3 (.i 0)]) Cells_1)
theorem Cells_call {args : List AV} {H : List AObj} {R : AV → List AObj → Prop} (h : AWp Try.prog [] H.length Cells_ac (bodyQ H.length [(.t 2), (.t 3)] R) (args ++ List.replicate (41 - args.length) .und) H) : ACalls Try.prog 19 args H R :=
  ACalls.of_fn Try.func19 rfl (by kernel_rfl) rfl Try.ntmps19 h
theorem Cells_spec {a : AV} {xs : List Int} (ha : ISl a xs) : ACalls Try.prog 19 [a] [] fun r H' => H' = [] ∧ r = .tup [I (cells xs).1, I (cells xs).2] := by
  have ha' := ha
  obtain ⟨⟨nl, c, sz, rfl, hs⟩, hlen, hx⟩ := ha
  apply Cells_call
  repeat first | refine AWp.seq ?_ | refine AWp.block ?_
  refine AWp.ops ?_
  simp
  refine AWp.seq (AWp.seq (AWp.ops ?_))
  rcases Int.lt_or_le 4 (xs.length : Int) with h4 | h4
  · simp [h4]
    refine AWp.cond (b := true) (by simp) (fun _ => ?_) (fun h => by cases h)
    repeat first | refine AWp.seq ?_ | refine AWp.block ?_
    refine AWp.ops ?_
    simp
    refine AWp.ret ?_
    simp
    refine retOk.of rfl ⟨rfl, ?_⟩
    have : xs.length > 4 := by omega
    simp [cells, this]
  simp [Int.not_lt.2 h4]
  refine (ContainsFunc_spec (p := fun x => decide (x < 0)) ha' fun x _ => neg_spec x).mono ?_
  rintro r H' ⟨rfl, rfl⟩
  simp
  refine AWp.cond (b := xs.any fun x => decide (x < 0)) (by simp) ?_ ?_
  · intro h
    repeat first | refine AWp.seq ?_ | refine AWp.block ?_
    refine AWp.ops ?_
    simp
    refine AWp.ret ?_
    simp
    refine retOk.of rfl ⟨rfl, ?_⟩
    simp only [cells, h, or_true, if_true]; simp
  intro hn
  refine AWp.skip ?_
  simp only [qSeq]
  have hpos : ∀ x ∈ xs, 0 ≤ x := by simpa using hn
  have hc : cells xs = if 0 ∈ xs then (0, 0) else mulAll xs 1 := by
    unfold cells
    rw [if_neg]
    rintro (h | h)
    · omega
    · rw [hn] at h; cases h
  rw [hc]
  refine AWp.seq (AWp.seq (AWp.ops ?_))
  simp
  refine (Contains_spec ha').mono ?_
  rintro r H' ⟨rfl, rfl⟩
  simp
  refine AWp.cond (b := decide (0 ∈ xs)) (by simp) ?_ ?_
  · intro h
    have h : 0 ∈ xs := by simpa using h
    repeat first | refine AWp.seq ?_ | refine AWp.block ?_
    refine AWp.ops ?_
    simp
    refine AWp.ret ?_
    simp
    refine retOk.of rfl ⟨rfl, ?_⟩
    simp [h]
  intro h0
  have h0 : ¬ 0 ∈ xs := by simpa using h0
  refine AWp.skip ?_
  simp only [qSeq]
  rw [if_neg h0]
  repeat first | refine AWp.seq ?_ | refine AWp.block ?_
  refine AWp.ops ?_
  simp
  repeat first | refine AWp.seq ?_ | refine AWp.block ?_
  refine AWp.ops ?_
  simp
  refine AWp.block (AWp.loop (fun (i : Nat) fr H => i ≤ xs.length ∧ H = [] ∧ ∃ N : Nat, 1 ≤ N ∧ N < 4611686018427387904 ∧ mulAll xs 1 = mulAll (xs.drop i) N ∧
    fr = [AV.imm nl c sz (xs.map I), .und, I 0, I 0, U N, .und, .und, .und, .und, .und, .und, .und, .und, .und, .und, .und, .und, .und, AV.imm nl c sz (xs.map I), I xs.length, I i, .und, .und, .und, .und, .und, .und, .und, .und, .und, .und, .und, .und, .und, .und, .und, .und, .und, .und, .und, .und]) (fun i => xs.length - i) 0 (Weak.slots [0, 2, 3, 4, 18, 19, 20]) ⟨by omega, rfl, 1, by omega, by omega, rfl, by simp⟩ ?_)
  rintro i fr H ⟨hi, rfl, N, hN1, hN2, hm, rfl⟩
  repeat first | refine AWp.seq ?_ | refine AWp.block ?_
  refine AWp.ops ?_
  simp
  refine AWp.seq (AWp.cond (b := decide (i < xs.length)) (by simp) ?_ ?_)
  · intro hb
    have hb : i < xs.length := by simpa using hb
    have hsz : sz = 1 := sz_of hs hb
    subst hsz
    refine AWp.skip ?_
    simp only [qSeq]
    refine AWp.seq (AWp.block (AWp.seq (AWp.ops ?_)))
    simp [hb]
    have hxi := hx xs[i] (List.getElem_mem hb)
    have hxp := hpos xs[i] (List.getElem_mem hb)
    have hx0 : xs[i] ≠ 0 := fun e => h0 (by rw [← e]; exact List.getElem_mem hb)
    obtain ⟨S, hS⟩ : ∃ S : Nat, xs[i] = (S : Int) := ⟨xs[i].toNat, by omega⟩
    rw [List.drop_eq_getElem_cons hb] at hm
    rw [hS] at hm hxi hxp hx0
    simp only [hS]
    refine AWp.seq (AWp.ops ?_)
    simp [wrap_u64 (n := (S : Int)) (by omega) (by omega)]
    refine (Mul64_spec N S (by omega) (by omega)).mono ?_
    rintro r H' ⟨rfl, rfl⟩
    simp
    have wS : N * S % 18446744073709551616 < 18446744073709551616 := by omega
    refine AWp.seq (AWp.seq (AWp.ops ?_))
    have bad : N * S ≥ 4611686018427387904 → (0, 2) = mulAll xs 1 := by
      intro h
      rw [hm]
      simp only [mulAll]
      rw [if_pos (by rw [← Int.natCast_mul]; omega)]
    rcases Nat.eq_zero_or_pos (N * S / 18446744073709551616) with hhi | hhi
    · have hz : ¬ (0 : Int) < ((N * S / 18446744073709551616 : Nat) : Int) := by omega
      have hz' : ((N * S / 18446744073709551616 : Nat) : Int) ≤ 0 := by omega
      have hlo : N * S % 18446744073709551616 = N * S := by omega
      simp only [hlo, hhi]
      simp
      refine AWp.cond (b := decide (4611686018427387904 ≤ (N : Int) * S)) (by simp) ?_ ?_
      · intro h
        have h : 4611686018427387904 ≤ (N : Int) * S := by simpa using h
        repeat first | refine AWp.seq ?_ | refine AWp.block ?_
        refine AWp.ops ?_
        simp
        refine AWp.ret ?_
        simp
        refine retOk.of rfl ⟨rfl, ?_⟩
        rw [← bad (by rw [← Int.natCast_mul] at h; omega)]
        simp
      intro h
      have h : ¬ 4611686018427387904 ≤ (N : Int) * S := by simpa using h
      have h' : N * S < 4611686018427387904 := by rw [← Int.natCast_mul] at h; omega
      refine AWp.skip ?_
      simp only [qSeq]
      refine AWp.ops ?_
      simp
      refine AWp.ops ?_
      simp
      have hpos : 1 ≤ N * S := Nat.mul_pos (by omega) (by omega)
      refine ⟨i + 1, _, _, Weak.slots [0, 2, 3, 4, 18, 19, 20], ⟨by omega, rfl, N * S, hpos, h', ?_, ?_⟩, by omega⟩
      · rw [hm]
        simp only [mulAll]
        rw [if_neg (by omega), Int.natCast_mul]
      · simp [wrap_i64 (n := (i : Int) + 1) (by omega) (by omega)]
    · have hz : (0 : Int) < ((N * S / 18446744073709551616 : Nat) : Int) := by omega
      have hz' : (0 : Int) < (N : Int) * S / 18446744073709551616 := by rw [← Int.natCast_mul]; omega
      simp [hz']
      refine AWp.cond (b := true) (by simp) (fun _ => ?_) (fun h => by cases h)
      repeat first | refine AWp.seq ?_ | refine AWp.block ?_
      refine AWp.ops ?_
      simp
      refine AWp.ret ?_
      simp
      refine retOk.of rfl ⟨rfl, ?_⟩
      rw [← bad (by omega)]
      simp
  · intro hb
    have hb : ¬ i < xs.length := by simpa using hb
    refine AWp.exit ?_
    simp [qSeq, qBlock]
    repeat first | refine AWp.seq ?_ | refine AWp.block ?_
    refine AWp.ops ?_
    simp
    refine AWp.ret ?_
    simp
    refine retOk.of rfl ⟨rfl, ?_⟩
    rw [hm, List.drop_eq_nil_of_le (by omega)]
    simp [mulAll]
    exact wrap_i64 (by omega) (by omega)
end Go.Fw
