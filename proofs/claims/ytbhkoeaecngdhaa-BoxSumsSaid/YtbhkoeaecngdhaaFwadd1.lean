import Derived.Test.YtbhkoeaecngdhaaFwown1
namespace Go.Fw
open Go Go.RowKit Go.Proofs
set_option maxRecDepth 100000
set_option linter.unusedSimpArgs false
set_option linter.unusedVariables false

theorem wrapR (n : Int) : -9223372036854775808 ≤ IntKind.i64.wrap n ∧ IntKind.i64.wrap n ≤ 9223372036854775807 := by
  have e : IntKind.i64.wrap n = if (n % 18446744073709551616) ≥ 9223372036854775808 then n % 18446744073709551616 - 18446744073709551616 else n % 18446744073709551616 := by
    unfold IntKind.wrap
    simp [IntKind.bits, IntKind.signed]
  rw [e]
  split <;> omega
abbrev addW (x y : Int) : Int := IntKind.i64.wrap (x + y)
abbrev mulW (x y : Int) : Int := IntKind.i64.wrap (x * y)
theorem Dn.inR {d : AV} {D : List Int × List Int} (h : Dn d D) : InR D.1 ∧ InR D.2 := by
  obtain ⟨s, v, rfl, h1, h2⟩ := h
  exact ⟨h1.2, h2.2⟩
theorem bothF_inR {op : Int → Int → Int} (hop : ∀ x y, -9223372036854775808 ≤ op x y ∧ op x y ≤ 9223372036854775807) {D E : List Int × List Int} (hD : InR D.1) (hE : InR D.2) : InR (bothF op D E).1.1 ∧ InR (bothF op D E).1.2 := by
  have hn : InR [] := ⟨by simp, by simp⟩
  unfold bothF
  split
  · exact ⟨hn, hn⟩
  · split
    · exact ⟨hn, hn⟩
    · split
      · exact ⟨hn, hn⟩
      · refine ⟨hD, ?_, ?_⟩
        · have := hE.1
          simp; omega
        · intro x hx
          obtain ⟨i, hi, rfl⟩ := List.getElem_of_mem hx
          rw [List.getElem_zipWith]
          exact hop _ _

def Add1_1 : AC := (.seq (.ops [⟨(some 5), none, (.k (.mov (.t 0)))⟩, ⟨(some 6), none, (.k (.mov (.t 1)))⟩, ⟨(some 7), none, (.k (.bin .add (.t 5) (.t 6)))⟩, ⟨(some 4), none, (.k (.mov (.t 7)))⟩]) .ret)
def Add1_ac : AC := (.seq (.ops [⟨(some 4), none, (.k (.mov (.c (.sc (.int .i64 0)))))⟩]) Add1_1)
theorem Add1_call {args : List AV} {H : List AObj} {R : AV → List AObj → Prop} (h : AWp Try.prog [] H.length Add1_ac (bodyQ H.length [(.t 4)] R) (args ++ List.replicate (8 - args.length) .und) H) : ACalls Try.prog 52 args H R :=
  ACalls.of_fn Try.func52 rfl (by kernel_rfl) rfl Try.ntmps52 h

theorem Add1_spec (x y : Int) : ACalls Try.prog 52 ([I x, I y] ++ []) [] fun r H' => H' = [] ∧ r = I (addW x y) := by
  apply Add1_call
  first | refine AWp.seq (AWp.ops ?_) | refine AWp.seq (AWp.seq (AWp.ops ?_)) | refine AWp.ops ?_ | refine AWp.seq (AWp.block (AWp.seq (AWp.ops ?_))) | refine AWp.seq (AWp.seq (AWp.seq (AWp.ops ?_)))
  simp
  first | refine AWp.seq (AWp.ops ?_) | refine AWp.seq (AWp.seq (AWp.ops ?_)) | refine AWp.ops ?_ | refine AWp.seq (AWp.block (AWp.seq (AWp.ops ?_))) | refine AWp.seq (AWp.seq (AWp.seq (AWp.ops ?_)))
  simp
  refine AWp.ret ?_
  simp
  refine retOk.of rfl ⟨rfl, by simp⟩

def Mul1_1 : AC := (.seq (.ops [⟨(some 5), none, (.k (.mov (.t 0)))⟩, ⟨(some 6), none, (.k (.mov (.t 1)))⟩, ⟨(some 7), none, (.k (.bin .mul (.t 5) (.t 6)))⟩, ⟨(some 4), none, (.k (.mov (.t 7)))⟩]) .ret)
def Mul1_ac : AC := (.seq (.ops [⟨(some 4), none, (.k (.mov (.c (.sc (.int .i64 0)))))⟩]) Mul1_1)
theorem Mul1_call {args : List AV} {H : List AObj} {R : AV → List AObj → Prop} (h : AWp Try.prog [] H.length Mul1_ac (bodyQ H.length [(.t 4)] R) (args ++ List.replicate (8 - args.length) .und) H) : ACalls Try.prog 53 args H R :=
  ACalls.of_fn Try.func53 rfl (by kernel_rfl) rfl Try.ntmps53 h

theorem Mul1_spec (x y : Int) : ACalls Try.prog 53 ([I x, I y] ++ []) [] fun r H' => H' = [] ∧ r = I (mulW x y) := by
  apply Mul1_call
  first | refine AWp.seq (AWp.ops ?_) | refine AWp.seq (AWp.seq (AWp.ops ?_)) | refine AWp.ops ?_ | refine AWp.seq (AWp.block (AWp.seq (AWp.ops ?_))) | refine AWp.seq (AWp.seq (AWp.seq (AWp.ops ?_)))
  simp
  first | refine AWp.seq (AWp.ops ?_) | refine AWp.seq (AWp.seq (AWp.ops ?_)) | refine AWp.ops ?_ | refine AWp.seq (AWp.block (AWp.seq (AWp.ops ?_))) | refine AWp.seq (AWp.seq (AWp.seq (AWp.ops ?_)))
  simp
  refine AWp.ret ?_
  simp
  refine retOk.of rfl ⟨rfl, by simp⟩

def Scale1_1 : AC := (.seq (.ops [⟨(some 6), none, (.k (.mov (.t 0)))⟩, ⟨(some 7), none, (.k (.ld 1 false (.t 2)))⟩, ⟨(some 8), none, (.k (.bin .mul (.t 6) (.t 7)))⟩, ⟨(some 5), none, (.k (.mov (.t 8)))⟩]) .ret)
def Scale1_ac : AC := (.seq (.ops [⟨(some 5), none, (.k (.mov (.c (.sc (.int .i64 0)))))⟩]) Scale1_1)
theorem Scale1_call {args : List AV} {H : List AObj} {R : AV → List AObj → Prop} (h : AWp Try.prog [] H.length Scale1_ac (bodyQ H.length [(.t 5)] R) (args ++ List.replicate (9 - args.length) .und) H) : ACalls Try.prog 54 args H R :=
  ACalls.of_fn Try.func54 rfl (by kernel_rfl) rfl Try.ntmps54 h

theorem Scale1_spec (by_ x y : Int) : ACalls Try.prog 54 ([I x, I y] ++ [.ipt (I by_) 0]) [] fun r H' => H' = [] ∧ r = I (mulW x by_) := by
  apply Scale1_call
  first | refine AWp.seq (AWp.ops ?_) | refine AWp.seq (AWp.seq (AWp.ops ?_)) | refine AWp.ops ?_ | refine AWp.seq (AWp.block (AWp.seq (AWp.ops ?_))) | refine AWp.seq (AWp.seq (AWp.seq (AWp.ops ?_)))
  simp
  first | refine AWp.seq (AWp.ops ?_) | refine AWp.seq (AWp.seq (AWp.ops ?_)) | refine AWp.ops ?_ | refine AWp.seq (AWp.block (AWp.seq (AWp.ops ?_))) | refine AWp.seq (AWp.seq (AWp.seq (AWp.ops ?_)))
  simp
  refine AWp.ret ?_
  simp
  refine retOk.of rfl ⟨rfl, by simp⟩

def Add_1 : AC := (.seq (.ops [⟨(some 6), none, (.k (.ld 2 true (.t 2)))⟩, ⟨(some 7), none, (.k (.ld 2 true (.t 3)))⟩, ⟨(some 8), none, (.call false (.c (.fn (.func 51) [] [])) [(.t 6), (.t 7), (.c (.fn (.func 52) [] []))])⟩, ⟨(some 9), none, (.k (.ext (.t 8) 0))⟩, ⟨(some 10), none, (.k (.ext (.t 8) 1))⟩, ⟨none, none, (.k (.st 2 (.t 4) (.t 9)))⟩, ⟨(some 5), none, (.k (.mov (.t 10)))⟩]) .ret)
def Add_ac : AC := (.seq (.ops [⟨(some 2), none, (.k (.new 35 2 (.t 0)))⟩, ⟨(some 3), none, (.k (.new 35 2 (.t 1)))⟩, ⟨(some 4), none, (.k (.new 35 2 (.c (.agg [(.imm true none 0 []), (.imm true none 0 [])]))))⟩, ⟨(some 5), none, (.k (.mov (.c (.sc (.int .i64 0)))))⟩]) Add_1)
theorem Add_call {args : List AV} {H : List AObj} {R : AV → List AObj → Prop} (h : AWp Try.prog [] H.length Add_ac (bodyQ H.length [(.cell 4 2 true), (.t 5)] R) (args ++ List.replicate (11 - args.length) .und) H) : ACalls Try.prog 30 args H R :=
  ACalls.of_fn Try.func30 rfl (by kernel_rfl) rfl Try.ntmps30 h

theorem Add_spec {d e : AV} {D E : List Int × List Int} (hd : Dn d D) (he : Dn e E) : ACalls Try.prog 30 [d, e] [] fun r H' => H' = [] ∧ ∃ q, r = .tup [q, I (bothF addW D E).2] ∧ Dn q (bothF addW D E).1 := by
  obtain ⟨r1, r2⟩ := bothF_inR (op := addW) (fun x y => wrapR _) hd.inR.1 hd.inR.2 (E := E)
  have hb := dense_pure (both_spec hd he (caps := []) (g := 52) rfl (fun _ _ => rfl) Add1_spec) r1 r2
  have base : ACalls Try.prog 30 [d, e] [] fun r _ => ∃ q, r = .tup [q, I (bothF addW D E).2] ∧ Dn q (bothF addW D E).1 := by
    obtain ⟨s1, v1, rfl, ⟨⟨_, _, _, rfl, _⟩, _⟩, ⟨⟨_, _, _, rfl, _⟩, _⟩⟩ := hd
    obtain ⟨s2, v2, rfl, ⟨⟨_, _, _, rfl, _⟩, _⟩, ⟨⟨_, _, _, rfl, _⟩, _⟩⟩ := he
    apply Add_call
    first | refine AWp.seq (AWp.ops ?_) | refine AWp.seq (AWp.seq (AWp.ops ?_)) | refine AWp.ops ?_ | refine AWp.seq (AWp.block (AWp.seq (AWp.ops ?_))) | refine AWp.seq (AWp.seq (AWp.seq (AWp.ops ?_)))
    simp
    first | refine AWp.seq (AWp.ops ?_) | refine AWp.seq (AWp.seq (AWp.ops ?_)) | refine AWp.ops ?_ | refine AWp.seq (AWp.block (AWp.seq (AWp.ops ?_))) | refine AWp.seq (AWp.seq (AWp.seq (AWp.ops ?_)))
    simp
    refine (hb.pure (by simp) (by rintro r ⟨d, rfl, h⟩; simp [h.noRef]) _).mono ?_
    rintro r H' ⟨rfl, q, rfl, hq⟩
    have hq' := hq
    obtain ⟨s3, v3, rfl, ⟨⟨_, _, _, rfl, _⟩, _⟩, ⟨⟨_, _, _, rfl, _⟩, _⟩⟩ := hq
    simp
    refine AWp.ret ?_
    simp
    refine retOk.of rfl ?_
    exact ⟨_, by simp, hq'⟩
  refine (base.frozen 8).mono ?_
  rintro q H' ⟨rfl, r, G, ⟨d, rfl, hd⟩, rfl⟩
  exact ⟨rfl, d, by simp [hd.frz G 0 6 false], hd⟩

def Mul_1 : AC := (.seq (.ops [⟨(some 6), none, (.k (.ld 2 true (.t 2)))⟩, ⟨(some 7), none, (.k (.ld 2 true (.t 3)))⟩, ⟨(some 8), none, (.call false (.c (.fn (.func 51) [] [])) [(.t 6), (.t 7), (.c (.fn (.func 53) [] []))])⟩, ⟨(some 9), none, (.k (.ext (.t 8) 0))⟩, ⟨(some 10), none, (.k (.ext (.t 8) 1))⟩, ⟨none, none, (.k (.st 2 (.t 4) (.t 9)))⟩, ⟨(some 5), none, (.k (.mov (.t 10)))⟩]) .ret)
def Mul_ac : AC := (.seq (.ops [⟨(some 2), none, (.k (.new 35 2 (.t 0)))⟩, ⟨(some 3), none, (.k (.new 35 2 (.t 1)))⟩, ⟨(some 4), none, (.k (.new 35 2 (.c (.agg [(.imm true none 0 []), (.imm true none 0 [])]))))⟩, ⟨(some 5), none, (.k (.mov (.c (.sc (.int .i64 0)))))⟩]) Mul_1)
theorem Mul_call {args : List AV} {H : List AObj} {R : AV → List AObj → Prop} (h : AWp Try.prog [] H.length Mul_ac (bodyQ H.length [(.cell 4 2 true), (.t 5)] R) (args ++ List.replicate (11 - args.length) .und) H) : ACalls Try.prog 32 args H R :=
  ACalls.of_fn Try.func32 rfl (by kernel_rfl) rfl Try.ntmps32 h

theorem Mul_spec {d e : AV} {D E : List Int × List Int} (hd : Dn d D) (he : Dn e E) : ACalls Try.prog 32 [d, e] [] fun r H' => H' = [] ∧ ∃ q, r = .tup [q, I (bothF mulW D E).2] ∧ Dn q (bothF mulW D E).1 := by
  obtain ⟨r1, r2⟩ := bothF_inR (op := mulW) (fun x y => wrapR _) hd.inR.1 hd.inR.2 (E := E)
  have hb := dense_pure (both_spec hd he (caps := []) (g := 53) rfl (fun _ _ => rfl) Mul1_spec) r1 r2
  have base : ACalls Try.prog 32 [d, e] [] fun r _ => ∃ q, r = .tup [q, I (bothF mulW D E).2] ∧ Dn q (bothF mulW D E).1 := by
    obtain ⟨s1, v1, rfl, ⟨⟨_, _, _, rfl, _⟩, _⟩, ⟨⟨_, _, _, rfl, _⟩, _⟩⟩ := hd
    obtain ⟨s2, v2, rfl, ⟨⟨_, _, _, rfl, _⟩, _⟩, ⟨⟨_, _, _, rfl, _⟩, _⟩⟩ := he
    apply Mul_call
    first | refine AWp.seq (AWp.ops ?_) | refine AWp.seq (AWp.seq (AWp.ops ?_)) | refine AWp.ops ?_ | refine AWp.seq (AWp.block (AWp.seq (AWp.ops ?_))) | refine AWp.seq (AWp.seq (AWp.seq (AWp.ops ?_)))
    simp
    first | refine AWp.seq (AWp.ops ?_) | refine AWp.seq (AWp.seq (AWp.ops ?_)) | refine AWp.ops ?_ | refine AWp.seq (AWp.block (AWp.seq (AWp.ops ?_))) | refine AWp.seq (AWp.seq (AWp.seq (AWp.ops ?_)))
    simp
    refine (hb.pure (by simp) (by rintro r ⟨d, rfl, h⟩; simp [h.noRef]) _).mono ?_
    rintro r H' ⟨rfl, q, rfl, hq⟩
    have hq' := hq
    obtain ⟨s3, v3, rfl, ⟨⟨_, _, _, rfl, _⟩, _⟩, ⟨⟨_, _, _, rfl, _⟩, _⟩⟩ := hq
    simp
    refine AWp.ret ?_
    simp
    refine retOk.of rfl ?_
    exact ⟨_, by simp, hq'⟩
  refine (base.frozen 8).mono ?_
  rintro q H' ⟨rfl, r, G, ⟨d, rfl, hd⟩, rfl⟩
  exact ⟨rfl, d, by simp [hd.frz G 0 6 false], hd⟩

def Scale_1 : AC := (.seq (.ops [⟨(some 6), none, (.k (.ld 2 true (.t 2)))⟩, ⟨(some 7), none, (.k (.ld 2 true (.t 2)))⟩, ⟨(some 8), none, (.k (.mkF (.func 54) [] [(.t 3)]))⟩, ⟨(some 9), none, (.call false (.c (.fn (.func 51) [] [])) [(.t 6), (.t 7), (.t 8)])⟩, ⟨(some 10), none, (.k (.ext (.t 9) 0))⟩, ⟨(some 11), none, (.k (.ext (.t 9) 1))⟩, ⟨none, none, (.k (.st 2 (.t 4) (.t 10)))⟩, ⟨(some 5), none, (.k (.mov (.t 11)))⟩]) .ret)
def Scale_ac : AC := (.seq (.ops [⟨(some 2), none, (.k (.new 35 2 (.t 0)))⟩, ⟨(some 3), none, (.k (.new 2 1 (.t 1)))⟩, ⟨(some 4), none, (.k (.new 35 2 (.c (.agg [(.imm true none 0 []), (.imm true none 0 [])]))))⟩, ⟨(some 5), none, (.k (.mov (.c (.sc (.int .i64 0)))))⟩]) Scale_1)
theorem Scale_call {args : List AV} {H : List AObj} {R : AV → List AObj → Prop} (h : AWp Try.prog [] H.length Scale_ac (bodyQ H.length [(.cell 4 2 true), (.t 5)] R) (args ++ List.replicate (12 - args.length) .und) H) : ACalls Try.prog 33 args H R :=
  ACalls.of_fn Try.func33 rfl (by kernel_rfl) rfl Try.ntmps33 h

theorem Scale_spec {d : AV} {D : List Int × List Int} {by_ : Int} (hd : Dn d D) : ACalls Try.prog 33 [d, I by_] [] fun r H' => H' = [] ∧ ∃ q, r = .tup [q, I (bothF (fun x _ => mulW x by_) D D).2] ∧ Dn q (bothF (fun x _ => mulW x by_) D D).1 := by
  obtain ⟨r1, r2⟩ := bothF_inR (op := fun x _ => mulW x by_) (fun x y => wrapR _) hd.inR.1 hd.inR.2 (E := D)
  have hb := both_spec hd hd (caps := [.ipt (I by_) 0]) (g := 54) (op := fun x _ => mulW x by_) rfl (fun _ _ => rfl) (Scale1_spec by_)
  obtain ⟨s1, v1, rfl, ⟨⟨_, _, _, rfl, _⟩, _⟩, ⟨⟨_, _, _, rfl, _⟩, _⟩⟩ := hd
  refine dense_pure ?_ r1 r2
  apply Scale_call
  first | refine AWp.seq (AWp.ops ?_) | refine AWp.seq (AWp.seq (AWp.ops ?_)) | refine AWp.ops ?_ | refine AWp.seq (AWp.block (AWp.seq (AWp.ops ?_))) | refine AWp.seq (AWp.seq (AWp.seq (AWp.ops ?_)))
  simp
  first | refine AWp.seq (AWp.ops ?_) | refine AWp.seq (AWp.seq (AWp.ops ?_)) | refine AWp.ops ?_ | refine AWp.seq (AWp.block (AWp.seq (AWp.ops ?_))) | refine AWp.seq (AWp.seq (AWp.seq (AWp.ops ?_)))
  simp
  refine (dense_lent 3 (F := bothF (fun x _ => mulW x by_) D D) (by simpa using hb)).mono ?_
  rintro r H' ⟨G, rfl, ⟨h1, h2, rfl⟩ | ⟨h1, d, rfl, hown⟩⟩
  · simp
    refine AWp.ret ?_
    simp
    refine retOk.of rfl ?_
    exact .inl ⟨h1, h2, by simp⟩
  · have hown' := hown
    obtain ⟨s, j, hj, rfl, hjo, hs⟩ := hown'
    have hone := hs.one
    simp [hone]
    refine AWp.ret ?_
    simp
    refine retOk.of (by simp; rfl) ?_
    exact .inr ⟨h1, _, rfl, hown.tail (A' := [_, _, _]) rfl (by simp)⟩
end Go.Fw
