/- slices.Repeat of a row of one number. -/
import Derived.Test.YtkfooghdpfhiaaaFwmul0
import Derived.Test.YtkfooghdpfhiaaaFwY4
namespace Go.Fw
open Go Go.RowKit Go.Proofs
set_option maxRecDepth 100000
set_option linter.unusedSimpArgs false
set_option linter.unusedVariables false

def bMul_ac : AC := (.seq (.ops [.m 4 (.c (.sc (.int .u64 0))), .m 5 (.c (.sc (.int .u64 0)))]) (.seq (.cond (.b false) (.seq (.ops [.m 11 (.t 0), .o 12 (.cvi .u32 (.t 11)), .m 13 (.t 1), .o 14 (.cvi .u32 (.t 13)), .c 15 false (.f 85) [(.t 12), (.t 14)], .m 10 (.t 15), .o 16 (.ext (.t 10) 0), .o 17 (.ext (.t 10) 1), .m 6 (.t 16), .m 7 (.t 17)]) (.seq (.ops [.m 18 (.t 6), .o 19 (.cvi .u64 (.t 18)), .m 20 (.t 7), .o 21 (.cvi .u64 (.t 20)), .m 4 (.t 19), .m 5 (.t 21)]) .ret)) .skip) (.seq (.ops [.m 23 (.t 0), .m 24 (.t 1), .c 25 false (.f 73) [(.t 23), (.t 24)], .m 22 (.t 25), .o 26 (.ext (.t 22) 0), .o 27 (.ext (.t 22) 1), .m 8 (.t 26), .m 9 (.t 27)]) (.seq (.ops [.m 28 (.t 8), .m 29 (.t 9), .m 4 (.t 28), .m 5 (.t 29)]) .ret))))
theorem bMul_w {args : List AV} {H : List AObj} {R : AV → List AObj → Prop} (h : wp Try.prog [] H.length bMul_ac (bodyW [(.t 4), (.t 5)] (Nr R .mk)) (args ++ List.replicate (30 - args.length) .und) H) : ACalls Try.prog 75 args H R :=
  ACalls.of_wp Try.func75 rfl (by kernel_rfl) rfl Try.ntmps75 h
theorem bMul_p (x y : Nat) (hx : x < 18446744073709551616) (hy : y < 18446744073709551616) : Pu Try.prog 75 [U x, U y] (.tup [U (x * y / 18446744073709551616), U (x * y % 18446744073709551616)]) := by
  refine Pu.of 4 (bMul_w ?_)
  simp (disch := omega) [ar, -List.take_append_getElem, bMul_ac]
  refine Pu.c (Pu.mk (Mul64_spec x y hx hy)) ?_
  simp (disch := omega) [ar, -List.take_append_getElem]

theorem bMul_1 (n : Nat) (h : n ≤ 1000000000) : Pu Try.prog 75 [U 1, U n] (.tup [U 0, U n]) := by
  have := bMul_p 1 n (by omega) (by omega)
  simp only [Nat.one_mul, show n / 18446744073709551616 = 0 by omega, show n % 18446744073709551616 = n by omega] at this
  exact this
/-- So far i are put. -/
def rp (v : Int) (i n : Nat) : List AV := List.replicate i (I v) ++ List.replicate (n - i) (I 0)
@[simp] theorem rp_len {v : Int} {i n : Nat} (h : i ≤ n) : (rp v i n).length = n := by simp [rp]; omega
theorem rp_copy {v : Int} {i n : Nat} (h : i ≤ n) : (rp v i n).take i ++ ((rp v i n).take i).take (n - i) ++ (rp v i n).drop (i + min ((rp v i n).take i).length (n - i)) = rp v (i + min i (n - i)) n := by
  have e : (rp v i n).take i = List.replicate i (I v) := by simp [rp, List.take_append_of_le_length]
  rw [e]
  simp only [List.length_replicate, List.take_replicate]
  have e2 : (rp v i n).drop (i + min i (n - i)) = List.replicate (n - (i + min i (n - i))) (I 0) := by
    simp only [rp]
    rw [List.drop_append]
    simp
    omega
  rw [e2, rp, Nat.min_comm (n - i) i]
  simp [List.replicate_append_replicate]
def rept_1 : AC := (.seq (.seq (.ops [.m 34 (.t 8), .m 35 (.t 7), .o 36 (.len (.t 35)), .o 37 (.bin .lss (.t 34) (.t 36))]) (.cond (.t 37) .skip (.exit 0))) (.block 1 (.ops [.m 38 (.t 8), .m 39 (.t 7), .m 40 (.t 8), .o 41 (.sl 1 (.t 39) (some (.t 40)) none none), .m 42 (.t 7), .m 43 (.t 8), .o 44 (.sl 1 (.t 42) none (some (.t 43)) none), .o 45 (.cpy 1 (.t 41) (.t 44)), .o 46 (.bin .add (.t 38) (.t 45)), .m 8 (.t 46)])))
def rept_ac : AC := (.seq (.ops [.m 4 .z]) (.seq (.seq (.ops [.m 9 (.t 1), .o 10 (.bin .lss (.t 9) (.i 0))]) (.cond (.t 10) (.ops [.o 11 (.mkI 9 (.c (.sc (.string ⟨#[99, 97, 110, 110, 111, 116, 32, 98, 101, 32, 110, 101, 103, 97, 116, 105, 118, 101]⟩)))), .on .pan]) .skip)) (.seq (.ops [.m 13 (.t 0), .o 14 (.len (.t 13)), .o 15 (.cvi .u64 (.t 14)), .m 16 (.t 1), .o 17 (.cvi .u64 (.t 16)), .c 18 false (.f 75) [(.t 15), (.t 17)], .m 12 (.t 18), .o 19 (.ext (.t 12) 0), .o 20 (.ext (.t 12) 1), .m 5 (.t 19), .m 6 (.t 20)]) (.seq (.seq (.ops [.m 21 (.t 5), .o 22 (.bin .gtr (.t 21) (.c (.sc (.int .u64 0)))), .m 23 (.t 22), .mg 24 23 false (.t 6), .og 25 23 false (.bin .gtr (.t 24) (.c (.sc (.int .u64 9223372036854775807)))), .o 26 (.pick (.t 23) (.b true) (.t 25))]) (.cond (.t 26) (.ops [.o 27 (.mkI 9 (.c (.sc (.string ⟨#[116, 104, 101, 32, 114, 101, 115, 117, 108, 116, 32, 111, 102, 32, 40, 108, 101, 110, 40, 120, 41, 32, 42, 32, 99, 111, 117, 110, 116, 41, 32, 111, 118, 101, 114, 102, 108, 111, 119, 115]⟩)))), .on .pan]) .skip)) (.seq (.ops [.m 28 (.t 6), .o 29 (.cvi .i64 (.t 28)), .o 30 (.mkS 3 1 8 (.sc (.int .i64 0)) (.t 29) (.t 29)), .m 7 (.t 30)]) (.seq (.ops [.m 31 (.t 7), .m 32 (.t 0), .o 33 (.cpy 1 (.t 31) (.t 32)), .m 8 (.t 33)]) (.seq (.block 0 (.loop rept_1)) (.seq (.ops [.m 47 (.t 7), .m 4 (.t 47)]) .ret))))))))
theorem rept_w {args : List AV} {H : List AObj} {R : AV → List AObj → Prop} (h : wp Try.prog [] H.length rept_ac (bodyW [(.t 4)] (Nr R .mk)) (args ++ List.replicate (48 - args.length) .und) H) : ACalls Try.prog 43 args H R :=
  ACalls.of_wp Try.func43 rfl (by kernel_rfl) rfl Try.ntmps43 h
theorem rept_p (v : Int) (n : Nat) (hn : n ≤ 1000000000) : ACalls Try.prog 43 [Is [v], I n] [] fun r H => r = .slc 0 n 0 n none ∧ H = [ob 3 1 (List.replicate n (I v))] := by
  refine rept_w ?_
  simp (disch := omega) [ar, -List.take_append_getElem, rept_ac]
  refine Pu.c (bMul_1 n hn) ?_
  have hm : (n : Int) % 18446744073709551616 = n := by omega
  simp (disch := omega) [ar, -List.take_append_getElem, hm]
  by_cases h0 : n = 0
  · subst h0
    simp
    refine Lp.to 1 [] 0 (fun i => True) (fun i => fm 48 [(7, .slc 0 0 0 0 none), (8, I 0)]) (fun i => [ob 3 1 []]) (by simp) fun i hi _ => ?_
    simp (disch := omega) [ar, -List.take_append_getElem, rept_1]
  have h0' : ¬ n ≤ 0 := by omega
  simp (disch := omega) [ar, -List.take_append_getElem, h0']
  refine Lp.st 1 [] (fun i => 0 < i ∧ i ≤ n) (fun i => n - i) (fun i => fm 48 [(7, .slc 0 n 0 n none), (8, I i)]) (fun i => [ob 3 1 (rp v i n)]) 1 ⟨⟨by omega, by omega⟩, ?_⟩ ?_
  · have e : List.take n [I v] ++ List.replicate (n - 1) (I 0) = rp v 1 n := by
      obtain ⟨k, rfl⟩ : ∃ k, n = k + 1 := ⟨n - 1, by omega⟩
      simp [rp]
    rw [e]
    simp [rp]
  rintro i ⟨h1, h2⟩
  simp (disch := omega) [ar, -List.take_append_getElem, rept_1]
  (first | refine Cnd.sp (fun h3 => ?_) fun h3 => ?_ | refine Gd.sp (fun h3 => ?_) fun h3 => ?_) <;> (try simp at h3) <;> (try simp (disch := omega) [ar, -List.take_append_getElem, h3])
  · have e := rp_copy (v := v) h2
    have h4 : ¬ min i (n - i) = 0 := by omega
    have h5 : min i n = i := by omega
    have h6 : min i (n - i) ≤ n - i := by omega
    have e1 : elems 1 [ob 3 1 (rp v i n)] (.slc 0 n 0 i none) = some (List.replicate i (I v)) := by
      have e : (rp v i n).take i = List.replicate i (I v) := by simp [rp, List.take_append_of_le_length]
      simp (disch := omega) [ar, -List.take_append_getElem, elems, live?, rp_len h2, e]
    have e2 : (rp v i n).take i = List.replicate i (I v) := by simp [rp, List.take_append_of_le_length]
    have e3 : allOneCell 1 (List.replicate i (I v)) = true := by simp [allOneCell, okEl, cellsOf, oneC]
    have e4 : ¬ i = 0 := by omega
    simp only [e2, List.length_replicate, List.append_assoc] at e
    rw [e1]
    simp only [e3, if_true, List.replicate_eq_nil_iff, e4, if_false, List.length_replicate, e2, e]
    simp
    refine ⟨i + min i (n - i), ⟨by omega, by omega⟩, by omega, ?_, ?_⟩
    · rw [wrap_i64 (by omega) (by omega)]; omega
    · simp [rp]
  · obtain rfl : i = n := by omega
    simp (disch := omega) [ar, -List.take_append_getElem, rp]
end Go.Fw
