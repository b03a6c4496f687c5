import Derived.Test.YtbhkoeaecngdhaaFwlaw01c
import Derived.Test.YtbhkoeaecngdhaaFwadd1
namespace Go.Fw
open Go Go.RowKit Go.Proofs
set_option maxRecDepth 100000
set_option linter.unusedSimpArgs false
set_option linter.unusedVariables false

theorem wrap_bmod (n : Int) : IntKind.i64.wrap n = n.bmod 18446744073709551616 := by
  have e : IntKind.i64.wrap n = if (n % 18446744073709551616) ≥ 9223372036854775808 then n % 18446744073709551616 - 18446744073709551616 else n % 18446744073709551616 := by
    unfold IntKind.wrap
    simp [IntKind.bits, IntKind.signed]
  rw [e, Int.bmod_def]
  simp only [show (((18446744073709551616 : Nat) : Int) + 1) / 2 = 9223372036854775808 by decide, show ((18446744073709551616 : Nat) : Int) = 18446744073709551616 from rfl]
  split <;> split <;> omega
theorem addW_comm (x y : Int) : addW x y = addW y x := by simp only [addW, Int.add_comm]
theorem mulW_comm (x y : Int) : mulW x y = mulW y x := by simp only [mulW, Int.mul_comm]
theorem addW_assoc (x y z : Int) : addW (addW x y) z = addW x (addW y z) := by simp only [addW, wrap_bmod, Int.bmod_add_bmod, Int.add_bmod_bmod, Int.add_assoc]
theorem mulW_assoc (x y z : Int) : mulW (mulW x y) z = mulW x (mulW y z) := by simp only [mulW, wrap_bmod, Int.bmod_mul_bmod, Int.mul_bmod_bmod, Int.mul_assoc]
theorem mulW_addW (x y z : Int) : mulW x (addW y z) = addW (mulW x y) (mulW x z) := by simp only [addW, mulW, wrap_bmod, Int.mul_bmod_bmod, Int.bmod_add_bmod, Int.add_bmod_bmod, Int.mul_add]
theorem addW_neg (x : Int) : addW x (mulW x (-1)) = 0 := by
  simp only [addW, mulW, wrap_bmod, Int.add_bmod_bmod]
  rw [show x + x * -1 = 0 by omega]
  decide
theorem addW_zero {x : Int} (h : -9223372036854775808 ≤ x ∧ x ≤ 9223372036854775807) : addW x 0 = x := by
  simp only [addW, Int.add_zero]
  exact wrap_i64 h.1 h.2

theorem check_len {S xs ys : List Int} (h : checkF (S, xs) = 0) (hl : ys.length = xs.length) : checkF (S, ys) = 0 := by
  unfold checkF at *
  simpa [hl] using h
theorem both_ok {op : Int → Int → Int} {S xs ys : List Int} (h : checkF (S, xs) = 0) (hl : ys.length = xs.length) : bothF op (S, xs) (S, ys) = ((S, List.zipWith op xs ys), 0) := by
  simp [bothF, h, check_len h hl]
theorem zip_ext {f g : List Int} (hl : f.length = g.length) (h : ∀ i (h1 : i < f.length) (h2 : i < g.length), f[i] = g[i]) : f = g := List.ext_getElem hl h

def Ring1_1 : AC := (.seq (.ops [⟨(some 8), none, (.k (.ld 2 true (.t 2)))⟩, ⟨(some 9), none, (.k (.ld 2 true (.t 3)))⟩, ⟨(some 10), none, (.call false (.c (.fn (.func 30) [] [])) [(.t 8), (.t 9)])⟩, ⟨(some 7), none, (.k (.mov (.t 10)))⟩, ⟨(some 11), none, (.k (.ext (.t 7) 0))⟩, ⟨(some 12), none, (.k (.ext (.t 7) 1))⟩, ⟨(some 5), none, (.k (.new 35 2 (.c (.agg [(.imm true none 0 []), (.imm true none 0 [])]))))⟩, ⟨none, none, (.k (.st 2 (.t 5) (.t 11)))⟩, ⟨(some 6), none, (.k (.mov (.t 12)))⟩]) (.seq (.ops [⟨(some 13), none, (.k (.ld 2 true (.t 5)))⟩, ⟨none, none, (.k (.st 2 (.t 4) (.t 13)))⟩]) .ret))
def Ring1_ac : AC := (.seq (.ops [⟨(some 2), none, (.k (.new 35 2 (.t 0)))⟩, ⟨(some 3), none, (.k (.new 35 2 (.t 1)))⟩, ⟨(some 4), none, (.k (.new 35 2 (.c (.agg [(.imm true none 0 []), (.imm true none 0 [])]))))⟩]) Ring1_1)
theorem Ring1_call {args : List AV} {H : List AObj} {R : AV → List AObj → Prop} (h : AWp Try.prog [] H.length Ring1_ac (bodyQ H.length [(.cell 4 2 true)] R) (args ++ List.replicate (14 - args.length) .und) H) : ACalls Try.prog 29 args H R :=
  ACalls.of_fn Try.func29 rfl (by kernel_rfl) rfl Try.ntmps29 h

theorem Ring1_spec {d e : AV} {D E : List Int × List Int} (hd : Dn d D) (he : Dn e E) : ACalls Try.prog 29 [d, e] [] fun r H' => H' = [] ∧ Dn r (bothF addW D E).1 := by
  have hb := Add_spec hd he
  have base : ACalls Try.prog 29 [d, e] [] fun r _ => Dn r (bothF addW D E).1 := by
    obtain ⟨s1, v1, rfl, ⟨⟨_, _, _, rfl, _⟩, _⟩, ⟨⟨_, _, _, rfl, _⟩, _⟩⟩ := hd
    obtain ⟨s2, v2, rfl, ⟨⟨_, _, _, rfl, _⟩, _⟩, ⟨⟨_, _, _, rfl, _⟩, _⟩⟩ := he
    apply Ring1_call
    first | refine AWp.seq (AWp.ops ?_) | refine AWp.seq (AWp.seq (AWp.ops ?_)) | refine AWp.ops ?_ | refine AWp.seq (AWp.block (AWp.seq (AWp.ops ?_))) | refine AWp.seq (AWp.seq (AWp.seq (AWp.ops ?_)))
    simp
    first | refine AWp.seq (AWp.ops ?_) | refine AWp.seq (AWp.seq (AWp.ops ?_)) | refine AWp.ops ?_ | refine AWp.seq (AWp.block (AWp.seq (AWp.ops ?_))) | refine AWp.seq (AWp.seq (AWp.seq (AWp.ops ?_)))
    simp
    refine (hb.pure (by simp) (by rintro r ⟨d, rfl, h⟩; simp [h.noRef]) _).mono ?_
    rintro r H' ⟨rfl, q, rfl, hq⟩
    have hq' := hq
    obtain ⟨s3, v3, rfl, ⟨⟨_, _, _, rfl, _⟩, _⟩, ⟨⟨_, _, _, rfl, _⟩, _⟩⟩ := hq
    simp
    first | refine AWp.seq (AWp.ops ?_) | refine AWp.seq (AWp.seq (AWp.ops ?_)) | refine AWp.ops ?_ | refine AWp.seq (AWp.block (AWp.seq (AWp.ops ?_))) | refine AWp.seq (AWp.seq (AWp.seq (AWp.ops ?_)))
    simp
    refine AWp.ret ?_
    simp
    refine retOk.of rfl ?_
    simpa using hq'
  refine (base.frozen 8).mono ?_
  rintro q H' ⟨rfl, r, G, hd, rfl⟩
  exact ⟨rfl, by rw [hd.frz G 0 7 false]; exact hd⟩

def Ring2_1 : AC := (.seq (.ops [⟨(some 8), none, (.k (.ld 2 true (.t 2)))⟩, ⟨(some 9), none, (.k (.ld 2 true (.t 3)))⟩, ⟨(some 10), none, (.call false (.c (.fn (.func 32) [] [])) [(.t 8), (.t 9)])⟩, ⟨(some 7), none, (.k (.mov (.t 10)))⟩, ⟨(some 11), none, (.k (.ext (.t 7) 0))⟩, ⟨(some 12), none, (.k (.ext (.t 7) 1))⟩, ⟨(some 5), none, (.k (.new 35 2 (.c (.agg [(.imm true none 0 []), (.imm true none 0 [])]))))⟩, ⟨none, none, (.k (.st 2 (.t 5) (.t 11)))⟩, ⟨(some 6), none, (.k (.mov (.t 12)))⟩]) (.seq (.ops [⟨(some 13), none, (.k (.ld 2 true (.t 5)))⟩, ⟨none, none, (.k (.st 2 (.t 4) (.t 13)))⟩]) .ret))
def Ring2_ac : AC := (.seq (.ops [⟨(some 2), none, (.k (.new 35 2 (.t 0)))⟩, ⟨(some 3), none, (.k (.new 35 2 (.t 1)))⟩, ⟨(some 4), none, (.k (.new 35 2 (.c (.agg [(.imm true none 0 []), (.imm true none 0 [])]))))⟩]) Ring2_1)
theorem Ring2_call {args : List AV} {H : List AObj} {R : AV → List AObj → Prop} (h : AWp Try.prog [] H.length Ring2_ac (bodyQ H.length [(.cell 4 2 true)] R) (args ++ List.replicate (14 - args.length) .und) H) : ACalls Try.prog 31 args H R :=
  ACalls.of_fn Try.func31 rfl (by kernel_rfl) rfl Try.ntmps31 h

theorem Ring2_spec {d e : AV} {D E : List Int × List Int} (hd : Dn d D) (he : Dn e E) : ACalls Try.prog 31 [d, e] [] fun r H' => H' = [] ∧ Dn r (bothF mulW D E).1 := by
  have hb := Mul_spec hd he
  have base : ACalls Try.prog 31 [d, e] [] fun r _ => Dn r (bothF mulW D E).1 := by
    obtain ⟨s1, v1, rfl, ⟨⟨_, _, _, rfl, _⟩, _⟩, ⟨⟨_, _, _, rfl, _⟩, _⟩⟩ := hd
    obtain ⟨s2, v2, rfl, ⟨⟨_, _, _, rfl, _⟩, _⟩, ⟨⟨_, _, _, rfl, _⟩, _⟩⟩ := he
    apply Ring2_call
    first | refine AWp.seq (AWp.ops ?_) | refine AWp.seq (AWp.seq (AWp.ops ?_)) | refine AWp.ops ?_ | refine AWp.seq (AWp.block (AWp.seq (AWp.ops ?_))) | refine AWp.seq (AWp.seq (AWp.seq (AWp.ops ?_)))
    simp
    first | refine AWp.seq (AWp.ops ?_) | refine AWp.seq (AWp.seq (AWp.ops ?_)) | refine AWp.ops ?_ | refine AWp.seq (AWp.block (AWp.seq (AWp.ops ?_))) | refine AWp.seq (AWp.seq (AWp.seq (AWp.ops ?_)))
    simp
    refine (hb.pure (by simp) (by rintro r ⟨d, rfl, h⟩; simp [h.noRef]) _).mono ?_
    rintro r H' ⟨rfl, q, rfl, hq⟩
    have hq' := hq
    obtain ⟨s3, v3, rfl, ⟨⟨_, _, _, rfl, _⟩, _⟩, ⟨⟨_, _, _, rfl, _⟩, _⟩⟩ := hq
    simp
    first | refine AWp.seq (AWp.ops ?_) | refine AWp.seq (AWp.seq (AWp.ops ?_)) | refine AWp.ops ?_ | refine AWp.seq (AWp.block (AWp.seq (AWp.ops ?_))) | refine AWp.seq (AWp.seq (AWp.seq (AWp.ops ?_)))
    simp
    refine AWp.ret ?_
    simp
    refine retOk.of rfl ?_
    simpa using hq'
  refine (base.frozen 8).mono ?_
  rintro q H' ⟨rfl, r, G, hd, rfl⟩
  exact ⟨rfl, by rw [hd.frz G 0 7 false]; exact hd⟩
end Go.Fw
