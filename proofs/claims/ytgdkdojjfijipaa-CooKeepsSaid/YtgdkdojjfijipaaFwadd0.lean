import Derived.Test.YtgdkdojjfijipaaFwown1
namespace Go.Fw
open Go Go.RowKit Go.Proofs
set_option maxRecDepth 100000
set_option linter.unusedSimpArgs false
set_option linter.unusedVariables false

theorem wrapR (n : Int) : -9223372036854775808 ≤ IntKind.i64.wrap n ∧ IntKind.i64.wrap n ≤ 9223372036854775807 := by
  have e : IntKind.i64.wrap n = if (n % 18446744073709551616) ≥ 9223372036854775808 then n % 18446744073709551616 - 18446744073709551616 else n % 18446744073709551616 := by
    unfold IntKind.wrap
    simp [IntKind.bits, IntKind.signed]
  rw [e]
  split <;> omega
abbrev addW (x y : Int) : Int := IntKind.i64.wrap (x + y)
abbrev mulW (x y : Int) : Int := IntKind.i64.wrap (x * y)
theorem Dn.inR {d : AV} {D : List Int × List Int} (h : Dn d D) : InR D.1 ∧ InR D.2 := by
  obtain ⟨s, v, rfl, h1, h2⟩ := h
  exact ⟨h1.2, h2.2⟩
theorem bothF_inR {op : Int → Int → Int} (hop : ∀ x y, -9223372036854775808 ≤ op x y ∧ op x y ≤ 9223372036854775807) {D E : List Int × List Int} (hD : InR D.1) (hE : InR D.2) : InR (bothF op D E).1.1 ∧ InR (bothF op D E).1.2 := by
  have hn : InR [] := ⟨by simp, by simp⟩
  unfold bothF
  split
  · exact ⟨hn, hn⟩
  · split
    · exact ⟨hn, hn⟩
    · split
      · exact ⟨hn, hn⟩
      · refine ⟨hD, ?_, ?_⟩
        · have := hE.1
          simp; omega
        · intro x hx
          obtain ⟨i, hi, rfl⟩ := List.getElem_of_mem hx
          rw [List.getElem_zipWith]
          exact hop _ _

def Add1_1 : AC := (.seq (.ops [⟨(some 5), none, (.k (.mov (.t 0)))⟩, ⟨(some 6), none, (.k (.mov (.t 1)))⟩, ⟨(some 7), none, (.k (.bin .add (.t 5) (.t 6)))⟩, ⟨(some 4), none, (.k (.mov (.t 7)))⟩]) .ret)
def Add1_ac : AC := (.seq (.ops [⟨(some 4), none, (.k (.mov (.c (.sc (.int .i64 0)))))⟩]) Add1_1)
theorem Add1_call {args : List AV} {H : List AObj} {R : AV → List AObj → Prop} (h : AWp Try.prog [] H.length Add1_ac (bodyQ H.length [(.t 4)] R) (args ++ List.replicate (8 - args.length) .und) H) : ACalls Try.prog 62 args H R :=
  ACalls.of_fn Try.func62 rfl (by kernel_rfl) rfl Try.ntmps62 h

theorem Add1_spec (x y : Int) : ACalls Try.prog 62 ([I x, I y] ++ []) [] fun r H' => H' = [] ∧ r = I (addW x y) := by
  apply Add1_call
  repeat first | refine AWp.seq ?_ | refine AWp.block ?_
  refine AWp.ops ?_
  simp
  repeat first | refine AWp.seq ?_ | refine AWp.block ?_
  refine AWp.ops ?_
  simp
  refine AWp.ret ?_
  simp
  refine retOk.of rfl ⟨rfl, by simp⟩

def Add_1 : AC := (.seq (.ops [⟨(some 6), none, (.k (.ld 2 true (.t 2)))⟩, ⟨(some 7), none, (.k (.ld 2 true (.t 3)))⟩, ⟨(some 8), none, (.call false (.c (.fn (.func 61) [] [])) [(.t 6), (.t 7), (.c (.fn (.func 62) [] []))])⟩, ⟨(some 9), none, (.k (.ext (.t 8) 0))⟩, ⟨(some 10), none, (.k (.ext (.t 8) 1))⟩, ⟨none, none, (.k (.st 2 (.t 4) (.t 9)))⟩, ⟨(some 5), none, (.k (.mov (.t 10)))⟩]) .ret)
def Add_ac : AC := (.seq (.ops [⟨(some 2), none, (.k (.new 49 2 (.t 0)))⟩, ⟨(some 3), none, (.k (.new 49 2 (.t 1)))⟩, ⟨(some 4), none, (.k (.new 49 2 (.c (.agg [(.imm true none 0 []), (.imm true none 0 [])]))))⟩, ⟨(some 5), none, (.k (.mov (.c (.sc (.int .i64 0)))))⟩]) Add_1)
theorem Add_call {args : List AV} {H : List AObj} {R : AV → List AObj → Prop} (h : AWp Try.prog [] H.length Add_ac (bodyQ H.length [(.cell 4 2 true), (.t 5)] R) (args ++ List.replicate (11 - args.length) .und) H) : ACalls Try.prog 33 args H R :=
  ACalls.of_fn Try.func33 rfl (by kernel_rfl) rfl Try.ntmps33 h

theorem Add_spec {d e : AV} {D E : List Int × List Int} (hd : Dn d D) (he : Dn e E) : ACalls Try.prog 33 [d, e] [] fun r H' => H' = [] ∧ ∃ q, r = .tup [q, I (bothF addW D E).2] ∧ Dn q (bothF addW D E).1 := by
  obtain ⟨r1, r2⟩ := bothF_inR (op := addW) (fun x y => wrapR _) hd.inR.1 hd.inR.2 (E := E)
  have hb := dense_pure (both_spec hd he (caps := []) (g := 62) rfl (fun _ _ => rfl) Add1_spec) r1 r2
  have base : ACalls Try.prog 33 [d, e] [] fun r _ => ∃ q, r = .tup [q, I (bothF addW D E).2] ∧ Dn q (bothF addW D E).1 := by
    obtain ⟨s1, v1, rfl, ⟨⟨_, _, _, rfl, _⟩, _⟩, ⟨⟨_, _, _, rfl, _⟩, _⟩⟩ := hd
    obtain ⟨s2, v2, rfl, ⟨⟨_, _, _, rfl, _⟩, _⟩, ⟨⟨_, _, _, rfl, _⟩, _⟩⟩ := he
    apply Add_call
    repeat first | refine AWp.seq ?_ | refine AWp.block ?_
    refine AWp.ops ?_
    simp
    repeat first | refine AWp.seq ?_ | refine AWp.block ?_
    refine AWp.ops ?_
    simp
    refine (hb.pure (by simp) (by rintro r ⟨d, rfl, h⟩; simp [h.noRef]) _).mono ?_
    rintro r H' ⟨rfl, q, rfl, hq⟩
    have hq' := hq
    obtain ⟨s3, v3, rfl, ⟨⟨_, _, _, rfl, _⟩, _⟩, ⟨⟨_, _, _, rfl, _⟩, _⟩⟩ := hq
    simp
    refine AWp.ret ?_
    simp
    refine retOk.of rfl ?_
    exact ⟨_, by simp, hq'⟩
  refine (base.frozen 8).mono ?_
  rintro q H' ⟨rfl, r, G, ⟨d, rfl, hd⟩, rfl⟩
  exact ⟨rfl, d, by simp [hd.frz G 0 6 false], hd⟩
end Go.Fw
