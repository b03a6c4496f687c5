import Derived.Test.YthipbeffhfdamaaFwslices
namespace Go.Fw
open Go Go.RowKit Go.Proofs
set_option maxRecDepth 100000
set_option linter.unusedSimpArgs false
set_option linter.unusedVariables false

def IndexFunc64_10 : AC := (.seq (.ops [⟨(some 11), none, (.k (.mov (.t 1)))⟩, ⟨(some 12), none, (.k (.mov (.t 0)))⟩, ⟨(some 13), none, (.k (.mov (.t 5)))⟩, ⟨(some 14), none, (.k (.iad 1 (.t 12) (.t 13)))⟩, ⟨(some 15), none, (.k (.ld 1 false (.t 14)))⟩, ⟨(some 16), none, (.call false (.t 11) [(.t 15)])⟩]) (.cond (.t 16) (.seq (.ops [⟨(some 17), none, (.k (.mov (.t 5)))⟩, ⟨(some 4), none, (.k (.mov (.t 17)))⟩]) .ret) .skip))
def IndexFunc64_9 : AC := (.seq (.ops [⟨(some 10), none, (.k (.mov (.t 8)))⟩, ⟨(some 5), none, (.k (.mov (.t 10)))⟩]) IndexFunc64_10)
def IndexFunc64_8 : AC := (.block 1 IndexFunc64_9)
def IndexFunc64_7 : AC := (.seq IndexFunc64_8 (.ops [⟨(some 18), none, (.k (.bin .add (.t 8) (.c (.sc (.int .i64 1)))))⟩, ⟨(some 8), none, (.k (.mov (.t 18)))⟩]))
def IndexFunc64_6 : AC := (.seq (.cond (.t 9) .skip (.exit 0)) IndexFunc64_7)
def IndexFunc64_5 : AC := (.seq (.ops [⟨(some 9), none, (.k (.bin .lss (.t 8) (.t 7)))⟩]) IndexFunc64_6)
def IndexFunc64_4 : AC := (.loop IndexFunc64_5)
def IndexFunc64_3 : AC := (.block 0 IndexFunc64_4)
def IndexFunc64_2 : AC := (.seq (.ops [⟨(some 6), none, (.k (.mov (.t 0)))⟩, ⟨(some 7), none, (.k (.len (.t 6)))⟩, ⟨(some 8), none, (.k (.mov (.c (.sc (.int .i64 0)))))⟩]) IndexFunc64_3)
def IndexFunc64_1 : AC := (.seq IndexFunc64_2 (.seq (.ops [⟨(some 4), none, (.k (.mov (.c (.sc (.int .i64 (-1))))))⟩]) .ret))
def IndexFunc64_ac : AC := (.seq (.ops [⟨(some 4), none, (.k (.mov (.c (.sc (.int .i64 0)))))⟩]) IndexFunc64_1)
theorem IndexFunc64_call {args : List AV} {H : List AObj} {R : AV → List AObj → Prop} (h : AWp Try.prog [] H.length IndexFunc64_ac (bodyQ H.length [(.t 4)] R) (args ++ List.replicate (19 - args.length) .und) H) : ACalls Try.prog 78 args H R :=
  ACalls.of_fn Try.func78 rfl (by kernel_rfl) rfl Try.ntmps78 h

theorem IndexFunc64_gen {a : AV} {xs : List Int} {g : FuncId} {caps : List AV} {H0 : List AObj} {p : Int → Bool} (ha : ISl a xs) (hg : ∀ x ∈ xs, ACalls Try.prog g (I x :: caps) H0 fun r H' => H' = H0 ∧ r = Bo (p x)) :
    ACalls Try.prog 78 [a, .fn (.func g) [] caps] H0 fun r H' => H' = H0 ∧ ∃ n : Int, r = I n ∧ (0 ≤ n ↔ ∃ x ∈ xs, p x = true) := by
  obtain ⟨⟨nl, c, sz, rfl, hs⟩, hlen, hx⟩ := ha
  apply IndexFunc64_call
  refine AWp.seq (AWp.ops ?_)
  simp
  refine AWp.seq (AWp.seq (AWp.ops ?_))
  simp
  refine AWp.block (AWp.loop (fun (i : Nat) fr H => i ≤ xs.length ∧ (∀ x ∈ xs.take i, p x = false) ∧ H = H0 ∧ fr = [AV.imm nl c sz (xs.map I), .fn (.func g) [] caps, .und, .und, I 0, .und, .imm nl c sz (xs.map I), I xs.length, I i, .und, .und, .und, .und, .und, .und, .und, .und, .und, .und]) (fun i => xs.length - i) 0 (Weak.refl _ _ _) (by simp) ?_)
  rintro i fr H ⟨hi, hno, rfl, rfl⟩
  refine AWp.seq (AWp.ops ?_)
  simp
  refine AWp.seq (AWp.cond (b := decide (i < xs.length)) (by simp) ?_ ?_)
  · intro hb
    have hb : i < xs.length := by simpa using hb
    have hsz : sz = 1 := sz_of hs hb
    subst hsz
    refine AWp.skip ?_
    simp only [qSeq]
    refine AWp.seq (AWp.block (AWp.seq (AWp.ops ?_)))
    simp
    refine AWp.seq (AWp.ops ?_)
    simp [hb]
    refine (hg xs[i] (List.getElem_mem hb)).mono ?_
    rintro r H' ⟨rfl, rfl⟩
    simp
    refine AWp.cond (b := p xs[i]) (by simp) ?_ ?_
    · intro he
      refine AWp.seq (AWp.ops ?_)
      simp
      refine AWp.ret ?_
      simp
      refine retOk.of rfl ⟨rfl, i, by simp, ?_⟩
      simp
      exact ⟨xs[i], List.getElem_mem hb, he⟩
    · intro he
      refine AWp.skip ?_
      simp only [qSeq, qBlock]
      refine AWp.ops ?_
      simp
      refine ⟨i + 1, _, _, Weak.slots [0, 1, 4, 6, 7, 8], ⟨by omega, ?_, rfl, ?_⟩, by omega⟩
      · intro x hx
        rw [List.take_succ_eq_append_getElem hb] at hx
        rcases List.mem_append.1 hx with h | h
        · exact hno x h
        · simp at h; rw [h]; exact he
      · simp [wrap_i64 (n := (i : Int) + 1) (by omega) (by omega)]
  · intro hb
    have hb : ¬ i < xs.length := by simpa using hb
    refine AWp.exit ?_
    simp [qSeq, qBlock]
    refine AWp.seq (AWp.ops ?_)
    simp
    refine AWp.ret ?_
    simp
    refine retOk.of rfl ⟨rfl, -1, by simp, ?_⟩
    have : xs.take i = xs := List.take_of_length_le (by omega)
    rw [this] at hno
    simp
    exact hno

theorem IndexFunc64_spec {a : AV} {xs : List Int} {g : FuncId} {p : Int → Bool} (ha : ISl a xs) (hg : ∀ x ∈ xs, ACalls Try.prog g [I x] [] fun r H' => H' = [] ∧ r = Bo (p x)) :
    ACalls Try.prog 78 [a, .fn (.func g) [] []] [] fun r H' => H' = [] ∧ ∃ n : Int, r = I n ∧ (0 ≤ n ↔ ∃ x ∈ xs, p x = true) := IndexFunc64_gen ha hg

def ContainsFunc64_1 : AC := (.seq (.ops [⟨(some 5), none, (.k (.mov (.t 0)))⟩, ⟨(some 6), none, (.k (.mov (.t 1)))⟩, ⟨(some 7), none, (.call false (.c (.fn (.func 78) [] [])) [(.t 5), (.t 6)])⟩, ⟨(some 8), none, (.k (.bin .geq (.t 7) (.c (.sc (.int .i64 0)))))⟩, ⟨(some 4), none, (.k (.mov (.t 8)))⟩]) .ret)
def ContainsFunc64_ac : AC := (.seq (.ops [⟨(some 4), none, (.k (.mov (.c (.sc (.bool false)))))⟩]) ContainsFunc64_1)
theorem ContainsFunc64_call {args : List AV} {H : List AObj} {R : AV → List AObj → Prop} (h : AWp Try.prog [] H.length ContainsFunc64_ac (bodyQ H.length [(.t 4)] R) (args ++ List.replicate (9 - args.length) .und) H) : ACalls Try.prog 55 args H R :=
  ACalls.of_fn Try.func55 rfl (by kernel_rfl) rfl Try.ntmps55 h

theorem ContainsFunc64_gen {a : AV} {xs : List Int} {g : FuncId} {caps : List AV} {H0 : List AObj} {p : Int → Bool} (ha : ISl a xs) (hg : ∀ x ∈ xs, ACalls Try.prog g (I x :: caps) H0 fun r H' => H' = H0 ∧ r = Bo (p x)) :
    ACalls Try.prog 55 [a, .fn (.func g) [] caps] H0 fun r H' => H' = H0 ∧ r = Bo (xs.any p) := by
  apply ContainsFunc64_call
  refine AWp.seq (AWp.ops ?_)
  simp
  refine AWp.seq (AWp.ops ?_)
  simp
  refine (IndexFunc64_gen ha hg).mono ?_
  rintro r H' ⟨rfl, n, rfl, hn⟩
  simp
  refine AWp.ret ?_
  simp
  refine retOk.of rfl ⟨rfl, ?_⟩
  have e : decide (0 ≤ n) = xs.any p := by rw [Bool.eq_iff_iff]; simp [hn]
  simp [e]
theorem ContainsFunc64_spec {a : AV} {xs : List Int} {g : FuncId} {p : Int → Bool} (ha : ISl a xs) (hg : ∀ x ∈ xs, ACalls Try.prog g [I x] [] fun r H' => H' = [] ∧ r = Bo (p x)) :
    ACalls Try.prog 55 [a, .fn (.func g) [] []] [] fun r H' => H' = [] ∧ r = Bo (xs.any p) := ContainsFunc64_gen ha hg

end Go.Fw
