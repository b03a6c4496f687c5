import Derived.Test.YtgdkdojjfijipaaFwcoo7
import Derived.Test.YtgdkdojjfijipaaFwcoo13
namespace Go.Fw
open Go Go.RowKit Go.Proofs
set_option maxRecDepth 100000
set_option linter.unusedSimpArgs false
set_option linter.unusedVariables false

def plainF (X : List Int × List (List Int × Int)) : (List Int × List (List Int × Int)) × Int :=
  if (joinF X []).2 ≠ 0 then (([], []), (joinF X []).2) else trimF (joinF X []).1
theorem plainF_in {X : List Int × List (List Int × Int)} (hX : InX X) : InX (plainF X).1 := by
  unfold plainF
  split
  · exact ⟨⟨by simp, by simp⟩, by simp⟩
  · exact trimF_in (joinF_in hX)

def cPlain_6 : AC := (.seq (.ops [⟨(some 14), none, (.k (.ld 2 true (.t 1)))⟩, ⟨(some 15), none, (.call false (.c (.fn (.func 23) [] [])) [(.t 14)])⟩, ⟨(some 16), none, (.k (.ext (.t 15) 0))⟩, ⟨(some 17), none, (.k (.ext (.t 15) 1))⟩, ⟨none, none, (.k (.st 2 (.t 2) (.t 16)))⟩, ⟨(some 3), none, (.k (.mov (.t 17)))⟩]) .ret)
def cPlain_5 : AC := (.seq (.ops [⟨(some 12), none, (.k (.mk [(.imm true none 0 []), (.imm true none 0 [])] []))⟩, ⟨(some 13), none, (.k (.mov (.t 4)))⟩, ⟨none, none, (.k (.st 2 (.t 2) (.t 12)))⟩, ⟨(some 3), none, (.k (.mov (.t 13)))⟩]) .ret)
def cPlain_4 : AC := (.cond (.t 11) cPlain_5 .skip)
def cPlain_3 : AC := (.seq (.ops [⟨(some 10), none, (.k (.mov (.t 4)))⟩, ⟨(some 11), none, (.k (.bin .neq (.t 10) (.c (.sc (.int .i64 0)))))⟩]) cPlain_4)
def cPlain_2 : AC := (.seq cPlain_3 cPlain_6)
def cPlain_1 : AC := (.seq (.ops [⟨(some 6), none, (.k (.ld 2 true (.t 1)))⟩, ⟨(some 7), none, (.call false (.c (.fn (.func 16) [] [])) [(.t 6), (.c (.imm true none 0 []))])⟩, ⟨(some 5), none, (.k (.mov (.t 7)))⟩, ⟨(some 8), none, (.k (.ext (.t 5) 0))⟩, ⟨(some 9), none, (.k (.ext (.t 5) 1))⟩, ⟨none, none, (.k (.st 2 (.t 1) (.t 8)))⟩, ⟨(some 4), none, (.k (.mov (.t 9)))⟩]) cPlain_2)
def cPlain_ac : AC := (.seq (.ops [⟨(some 1), none, (.k (.new 25 2 (.t 0)))⟩, ⟨(some 2), none, (.k (.new 25 2 (.c (.agg [(.imm true none 0 []), (.imm true none 0 [])]))))⟩, ⟨(some 3), none, (.k (.mov (.c (.sc (.int .i64 0)))))⟩]) cPlain_1)
theorem cPlain_call {args : List AV} {H : List AObj} {R : AV → List AObj → Prop} (h : AWp Try.prog [] H.length cPlain_ac (bodyQ H.length [(.cell 2 2 true), (.t 3)] R) (args ++ List.replicate (18 - args.length) .und) H) : ACalls Try.prog 25 args H R :=
  ACalls.of_fn Try.func25 rfl (by kernel_rfl) rfl Try.ntmps25 h

set_option maxHeartbeats 4000000 in
theorem cPlain_spec {a : AV} {X : List Int × List (List Int × Int)} (ha : Coo a X) (hX : InX X) (hXE : X.2.length ≤ 1000000) : ACalls Try.prog 25 [a] [] (cooR (plainF X)) := by
  have ha' := ha
  have hano := ha.noRef
  have hone : ∃ x y, a = .agg [x, y] ∧ oneC x = true ∧ oneC y = true := by
    obtain ⟨s, e, rfl, ⟨⟨_, _, _, rfl, _⟩, _⟩, ⟨_, _, _, _, rfl, _⟩⟩ := ha
    exact ⟨_, _, rfl, rfl, rfl⟩
  obtain ⟨a1, a2, rfl, ha1, ha2⟩ := hone
  apply cPlain_call
  repeat first | refine AWp.seq ?_ | refine AWp.block ?_
  refine AWp.ops ?_
  simp [ha1, ha2]
  repeat first | refine AWp.seq ?_ | refine AWp.block ?_
  refine AWp.ops ?_
  simp
  refine (coo_at (cJoin_spec ha' ISl.nil (by simp) hX hXE) (by simp at hano ⊢; exact hano) _).mono ?_
  rintro r H' ⟨G, x, rfl, rfl, hx⟩
  have hx' := hx
  obtain ⟨s, e, rfl, hs1, he1⟩ := hx.one
  simp [hs1, he1]
  by_cases h : (joinF X []).2 = 0
  case neg =>
    have he : plainF X = (([], []), (joinF X []).2) := by rw [plainF, if_pos h]
    repeat first | refine AWp.seq ?_ | refine AWp.block ?_
    refine AWp.ops ?_
    simp
    refine AWp.cond (b := true) (by simp [h]) (fun _ => ?_) (fun h => by cases h)
    repeat first | refine AWp.seq ?_ | refine AWp.block ?_
    refine AWp.ops ?_
    simp
    refine AWp.ret ?_
    simp
    refine retOk.of rfl ⟨.agg [.imm true none 0 [], .imm true none 0 []], by simp [he], by rw [he]; exact CooO.nil⟩
  have he : plainF X = trimF (joinF X []).1 := by rw [plainF, if_neg (by simpa using h)]
  rw [he]
  repeat first | refine AWp.seq ?_ | refine AWp.block ?_
  refine AWp.ops ?_
  simp
  refine AWp.cond (b := false) (by simp [h]) (fun h => by cases h) (fun _ => ?_)
  refine AWp.skip ?_
  simp only [qSeq]
  simp at hx'
  obtain ⟨K, hK⟩ : ∃ K, K = cooO (.agg [s, e]) :: cooO (.agg [.imm true none 0 [], .imm true none 0 []]) :: G := ⟨_, rfl⟩
  have gK : ∀ (a b : AObj) k, 2 ≤ k → (a :: b :: G)[k]? = K[k]? := fun a b k hk => by
    obtain ⟨j, rfl⟩ := Nat.exists_eq_add_of_le' hk
    rw [hK]; simp
  have hxK : CooO 2 K (.agg [s, e]) (joinF X []).1 := hx'.to (Nat.le_refl _) (fun k c hk h => by rw [← gK _ _ k hk]; exact h) (fun k es hk h => by rw [← gK _ _ k hk]; exact h)
  rw [← hK]
  have k0 : K[0]? = some (cooO (.agg [s, e])) := by rw [hK]; rfl
  have k1 : K[1]? = some (cooO (.agg [.imm true none 0 [], .imm true none 0 []])) := by rw [hK]; rfl
  have hKl : 2 ≤ K.length := by rw [hK]; simp
  repeat first | refine AWp.seq ?_ | refine AWp.block ?_
  refine AWp.ops ?_
  simp [k0]
  have ht := cTrim_spec (hxK.read (joinF_in hX) 4) (joinF_in hX)
  refine (coo_lent 8 (args := [.agg [s, e]]) (H := K) (by simpa using ht)).mono ?_
  rintro r K' ⟨G2, y, rfl, rfl, hy⟩
  have hy' := hy
  obtain ⟨s3, e3, rfl, hs3, he3⟩ := hy.one
  have k1' : ∀ G, (K ++ G)[1]? = some (cooO (.agg [.imm true none 0 [], .imm true none 0 []])) := fun G => by rw [List.getElem?_append_left (by omega)]; exact k1
  simp [k1', hs3, he3]
  have g2 : ∀ G y, ((K ++ G).set 1 y)[1]? = some y := fun G y => gs_eq (k1' G)
  refine AWp.ret ?_
  simp
  refine retOk.of (vs := [.agg [s3, e3], I (trimF (joinF X []).1).2]) (by simp [g2]) ?_
  refine ⟨_, rfl, hy'.to (by omega) (fun k c hk h => ?_) (fun k es hk h => ?_)⟩
  · rw [gs_ne (by omega)]; exact h
  · rw [gs_ne (by omega)]; exact h
end Go.Fw
