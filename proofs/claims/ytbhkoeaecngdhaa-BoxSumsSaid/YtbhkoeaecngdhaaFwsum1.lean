import Derived.Test.YtbhkoeaecngdhaaFwadd1
namespace Go.Fw
open Go Go.RowKit Go.Proofs
set_option maxRecDepth 100000
set_option linter.unusedSimpArgs false
set_option linter.unusedVariables false

abbrev intO (xs : List Int) : AObj := ⟨3, 1, xs.map I, true, none⟩

def Delete_6 : AC := (.seq (.ops [⟨(some 27), none, (.k (.mov (.t 0)))⟩, ⟨(some 28), none, (.k (.mov (.t 0)))⟩, ⟨(some 29), none, (.k (.len (.t 28)))⟩, ⟨(some 30), none, (.k (.mov (.t 7)))⟩, ⟨(some 31), none, (.k (.sl 1 (.t 27) (some (.t 29)) (some (.t 30)) none))⟩, ⟨none, none, (.k (.clr 1 (.sc (.int .i64 0)) (.t 31)))⟩]) (.seq (.ops [⟨(some 32), none, (.k (.mov (.t 0)))⟩, ⟨(some 6), none, (.k (.mov (.t 32)))⟩]) .ret))
def Delete_5 : AC := (.seq (.ops [⟨(some 20), none, (.k (.mov (.t 0)))⟩, ⟨(some 21), none, (.k (.mov (.t 1)))⟩, ⟨(some 22), none, (.k (.sl 1 (.t 20) none (some (.t 21)) none))⟩, ⟨(some 23), none, (.k (.mov (.t 0)))⟩, ⟨(some 24), none, (.k (.mov (.t 2)))⟩, ⟨(some 25), none, (.k (.sl 1 (.t 23) (some (.t 24)) none none))⟩, ⟨(some 26), none, (.k (.app 3 1 8 (.t 22) (.t 25)))⟩, ⟨(some 0), none, (.k (.mov (.t 26)))⟩]) Delete_6)
def Delete_4 : AC := (.seq (.ops [⟨(some 18), none, (.k (.mov (.t 0)))⟩, ⟨(some 19), none, (.k (.len (.t 18)))⟩, ⟨(some 7), none, (.k (.mov (.t 19)))⟩]) Delete_5)
def Delete_3 : AC := (.seq (.ops [⟨(some 14), none, (.k (.mov (.t 1)))⟩, ⟨(some 15), none, (.k (.mov (.t 2)))⟩, ⟨(some 16), none, (.k (.bin .eql (.t 14) (.t 15)))⟩]) (.cond (.t 16) (.seq (.ops [⟨(some 17), none, (.k (.mov (.t 0)))⟩, ⟨(some 6), none, (.k (.mov (.t 17)))⟩]) .ret) .skip))
def Delete_2 : AC := (.seq Delete_3 Delete_4)
def Delete_1 : AC := (.seq (.ops [⟨(some 8), none, (.k (.mov (.t 0)))⟩, ⟨(some 9), none, (.k (.mov (.t 1)))⟩, ⟨(some 10), none, (.k (.mov (.t 2)))⟩, ⟨(some 11), none, (.k (.mov (.t 0)))⟩, ⟨(some 12), none, (.k (.len (.t 11)))⟩, ⟨(some 13), none, (.k (.sl 1 (.t 8) (some (.t 9)) (some (.t 10)) (some (.t 12))))⟩]) Delete_2)
def Delete_ac : AC := (.seq (.ops [⟨(some 6), none, (.k (.mov (.c (.imm true none 0 []))))⟩]) Delete_1)
theorem Delete_call {args : List AV} {H : List AObj} {R : AV → List AObj → Prop} (h : AWp Try.prog [] H.length Delete_ac (bodyQ H.length [(.t 6)] R) (args ++ List.replicate (33 - args.length) .und) H) : ACalls Try.prog 55 args H R :=
  ACalls.of_fn Try.func55 rfl (by kernel_rfl) rfl Try.ntmps55 h

theorem Delete_spec {H : List AObj} {i m : Nat} {xs : List Int} (hi : H[i]? = some (intO xs)) (hm : m < xs.length) (hl : xs.length ≤ 1000000) :
    ACalls Try.prog 55 [.slc i xs.length 0 xs.length none, I m, I ((m : Int) + 1)] H fun r H' => r = .slc i xs.length 0 (xs.length - 1) none ∧ H' = H.set i (intO (xs.eraseIdx m ++ [0])) := by
  apply Delete_call
  first | refine AWp.seq (AWp.ops ?_) | refine AWp.seq (AWp.seq (AWp.ops ?_)) | refine AWp.ops ?_ | refine AWp.seq (AWp.block (AWp.seq (AWp.ops ?_))) | refine AWp.seq (AWp.seq (AWp.seq (AWp.ops ?_)))
  simp
  have g1 : (m : Int) + 1 ≤ xs.length := by omega
  have g2 : (m : Int) ≤ (m : Int) + 1 := by omega
  first | refine AWp.seq (AWp.ops ?_) | refine AWp.seq (AWp.seq (AWp.ops ?_)) | refine AWp.ops ?_ | refine AWp.seq (AWp.block (AWp.seq (AWp.ops ?_))) | refine AWp.seq (AWp.seq (AWp.seq (AWp.ops ?_)))
  simp [hi, hm, g1, g2]
  first | refine AWp.seq (AWp.ops ?_) | refine AWp.seq (AWp.seq (AWp.ops ?_)) | refine AWp.ops ?_ | refine AWp.seq (AWp.block (AWp.seq (AWp.ops ?_))) | refine AWp.seq (AWp.seq (AWp.seq (AWp.ops ?_)))
  simp
  refine AWp.cond (b := false) (by simp; omega) (fun h => by cases h) (fun _ => ?_)
  refine AWp.skip ?_
  simp only [qSeq]
  first | refine AWp.seq (AWp.ops ?_) | refine AWp.seq (AWp.seq (AWp.ops ?_)) | refine AWp.ops ?_ | refine AWp.seq (AWp.block (AWp.seq (AWp.ops ?_))) | refine AWp.seq (AWp.seq (AWp.seq (AWp.ops ?_)))
  simp
  have g3 : (m : Int) ≤ xs.length := by omega
  have g4 : (0 : Int) ≤ (m : Int) + 1 := by omega
  obtain ⟨T, hT⟩ : ∃ T, T = xs.drop (m + 1) := ⟨_, rfl⟩
  have hTl : T.length = xs.length - (m + 1) := by rw [hT]; simp
  have hel : elems 1 H (.slc i xs.length (m + 1) (xs.length - (m + 1)) none) = some (T.map I) := by
    have e : m + 1 + (xs.length - (m + 1)) ≤ xs.length := by omega
    have e2 : List.take (xs.length - (m + 1)) (List.drop (m + 1) (List.map I xs)) = List.drop (m + 1) (List.map I xs) := List.take_of_length_le (by simp)
    simp [elems, hi, e, hT, e2]
  have hmL : ¬ m = xs.length := by omega
  by_cases hT0 : T = []
  · have hL : xs.length = m + 1 := by rw [hT0] at hTl; simp at hTl; omega
    have he : xs.eraseIdx m = xs.take m := by rw [List.eraseIdx_eq_take_drop_succ, ← hT, hT0]; simp
    rw [he]
    have g6 : m ≤ xs.length := by omega
    have g7 : xs.length - m = 1 := by omega
    have g8 : List.drop (m + 1) (List.map I xs) = [] := List.drop_eq_nil_of_le (by simp; omega)
    have g16 : m + 1 ≤ xs.length := by omega
    first | refine AWp.seq (AWp.ops ?_) | refine AWp.seq (AWp.seq (AWp.ops ?_)) | refine AWp.ops ?_ | refine AWp.seq (AWp.block (AWp.seq (AWp.ops ?_))) | refine AWp.seq (AWp.seq (AWp.seq (AWp.ops ?_)))
    simp [hi, g1, g3, g4, hel, hT0, hmL, g6]
    first | refine AWp.seq (AWp.ops ?_) | refine AWp.seq (AWp.seq (AWp.ops ?_)) | refine AWp.ops ?_ | refine AWp.seq (AWp.block (AWp.seq (AWp.ops ?_))) | refine AWp.seq (AWp.seq (AWp.seq (AWp.ops ?_)))
    simp [hi, g1, g3, g4, hel, hT0, hmL, g6, g7, g8, g16]
    first | refine AWp.seq (AWp.ops ?_) | refine AWp.seq (AWp.seq (AWp.ops ?_)) | refine AWp.ops ?_ | refine AWp.seq (AWp.block (AWp.seq (AWp.ops ?_))) | refine AWp.seq (AWp.seq (AWp.seq (AWp.ops ?_)))
    simp
    refine AWp.ret ?_
    simp
    refine retOk.of rfl ?_
    refine ⟨by simp [hL], ?_⟩
    simp [intO, List.map_take]
  · have he : xs.eraseIdx m = xs.take m ++ T := by rw [List.eraseIdx_eq_take_drop_succ, ← hT]
    rw [he]
    have g5 : m + T.length ≤ xs.length := by omega
    obtain ⟨z, hz⟩ : ∃ z, List.drop (m + T.length) (List.map I xs) = [I z] := by
      have hl1 : (List.drop (m + T.length) xs).length = 1 := by simp; omega
      obtain ⟨z, hz⟩ := List.length_eq_one_iff.1 hl1
      exact ⟨z, by rw [← List.map_drop, hz]; rfl⟩
    first | refine AWp.seq (AWp.ops ?_) | refine AWp.seq (AWp.seq (AWp.ops ?_)) | refine AWp.ops ?_ | refine AWp.seq (AWp.block (AWp.seq (AWp.ops ?_))) | refine AWp.seq (AWp.seq (AWp.seq (AWp.ops ?_)))
    simp [hi, g1, g3, g4, hel, hT0, hmL, g5, hz]
    have h1 : (List.take m (List.map I xs)).length = m := by simp; omega
    obtain ⟨E, hE⟩ : ∃ E, E = List.take m (List.map I xs) ++ (List.map I T ++ [I z]) := ⟨_, rfl⟩
    have hEl : E.length = xs.length := by rw [hE]; simp; omega
    have g9 : 0 ≤ (m : Int) + T.length := by omega
    have g10 : (m : Int) + T.length ≤ xs.length := by omega
    have g11 : ((m : Int) + T.length).toNat = xs.length - 1 := by omega
    have g12 : xs.length - (xs.length - 1) = 1 := by omega
    have g13 : xs.length - 1 + 1 = xs.length := by omega
    have g14 : List.take (xs.length - 1) E = List.take m (List.map I xs) ++ List.map I T := by
      rw [hE, ← List.append_assoc, List.take_append_of_le_length (by simp; omega), List.take_of_length_le (by simp; omega)]
    have g15 : List.drop xs.length E = [] := List.drop_eq_nil_of_le (by omega)
    rw [← hE]
    first | refine AWp.seq (AWp.ops ?_) | refine AWp.seq (AWp.seq (AWp.ops ?_)) | refine AWp.ops ?_ | refine AWp.seq (AWp.block (AWp.seq (AWp.ops ?_))) | refine AWp.seq (AWp.seq (AWp.seq (AWp.ops ?_)))
    simp [gs_eq hi, hEl, g9, g10, g11, g12, g13, g14, g15]
    first | refine AWp.seq (AWp.ops ?_) | refine AWp.seq (AWp.seq (AWp.ops ?_)) | refine AWp.ops ?_ | refine AWp.seq (AWp.block (AWp.seq (AWp.ops ?_))) | refine AWp.seq (AWp.seq (AWp.seq (AWp.ops ?_)))
    simp
    refine AWp.ret ?_
    simp
    refine retOk.of rfl ?_
    refine ⟨by simp; omega, ?_⟩
    simp [intO, List.map_take]
end Go.Fw
