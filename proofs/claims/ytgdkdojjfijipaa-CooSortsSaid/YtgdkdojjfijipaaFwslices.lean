import Derived.Test.YtgdkdojjfijipaaFwX
import Derived.Test.YtgdkdojjfijipaaProg
import Derived.RowKit2
namespace Go.Fw
open Go Go.RowKit Go.Proofs
set_option maxRecDepth 100000
set_option linter.unusedSimpArgs false
set_option linter.unusedVariables false

/-- Whole numbers that a slice may have. -/
abbrev InI (xs : List Int) : Prop := xs.length ≤ 9223372036854775807 ∧ ∀ x ∈ xs, -9223372036854775808 ≤ x ∧ x ≤ 9223372036854775807
/-- A row of whole numbers. -/
abbrev intOb (xs : List Int) : AObj := ⟨3, 1, xs.map I, true, none⟩

def Index_10 : AC := (.seq (.ops [⟨(some 11), none, (.k (.mov (.t 1)))⟩, ⟨(some 12), none, (.k (.mov (.t 0)))⟩, ⟨(some 13), none, (.k (.mov (.t 5)))⟩, ⟨(some 14), none, (.k (.iad 1 (.t 12) (.t 13)))⟩, ⟨(some 15), none, (.k (.ld 1 false (.t 14)))⟩, ⟨(some 16), none, (.k (.bin .eql (.t 11) (.t 15)))⟩]) (.cond (.t 16) (.seq (.ops [⟨(some 17), none, (.k (.mov (.t 5)))⟩, ⟨(some 4), none, (.k (.mov (.t 17)))⟩]) .ret) .skip))
def Index_9 : AC := (.seq (.ops [⟨(some 10), none, (.k (.mov (.t 8)))⟩, ⟨(some 5), none, (.k (.mov (.t 10)))⟩]) Index_10)
def Index_8 : AC := (.block 1 Index_9)
def Index_7 : AC := (.seq Index_8 (.ops [⟨(some 18), none, (.k (.bin .add (.t 8) (.c (.sc (.int .i64 1)))))⟩, ⟨(some 8), none, (.k (.mov (.t 18)))⟩]))
def Index_6 : AC := (.seq (.cond (.t 9) .skip (.exit 0)) Index_7)
def Index_5 : AC := (.seq (.ops [⟨(some 9), none, (.k (.bin .lss (.t 8) (.t 7)))⟩]) Index_6)
def Index_4 : AC := (.loop Index_5)
def Index_3 : AC := (.block 0 Index_4)
def Index_2 : AC := (.seq (.ops [⟨(some 6), none, (.k (.mov (.t 0)))⟩, ⟨(some 7), none, (.k (.len (.t 6)))⟩, ⟨(some 8), none, (.k (.mov (.c (.sc (.int .i64 0)))))⟩]) Index_3)
def Index_1 : AC := (.seq Index_2 (.seq (.ops [⟨(some 4), none, (.k (.mov (.c (.sc (.int .i64 (-1))))))⟩]) .ret))
def Index_ac : AC := (.seq (.ops [⟨(some 4), none, (.k (.mov (.c (.sc (.int .i64 0)))))⟩]) Index_1)
theorem Index_call {args : List AV} {H : List AObj} {R : AV → List AObj → Prop} (h : AWp Try.prog [] H.length Index_ac (bodyQ H.length [(.t 4)] R) (args ++ List.replicate (19 - args.length) .und) H) : ACalls Try.prog 84 args H R :=
  ACalls.of_fn Try.func84 rfl (by kernel_rfl) rfl Try.ntmps84 h

theorem Index_spec {a : AV} {xs : List Int} {v : Int} (ha : ISl a xs) : ACalls Try.prog 84 [a, I v] [] fun r H' => H' = [] ∧ ∃ n : Int, r = I n ∧ (0 ≤ n ↔ v ∈ xs) := by
  obtain ⟨⟨nl, c, sz, rfl, hs⟩, hlen, hx⟩ := ha
  apply Index_call
  refine AWp.seq (AWp.ops ?_)
  simp
  refine AWp.seq (AWp.seq (AWp.ops ?_))
  simp
  refine AWp.block (AWp.loop (fun (i : Nat) fr H => i ≤ xs.length ∧ (∀ x ∈ xs.take i, x ≠ v) ∧ H = [] ∧ fr = [AV.imm nl c sz (xs.map I), I v, .und, .und, I 0, .und, .imm nl c sz (xs.map I), I xs.length, I i, .und, .und, .und, .und, .und, .und, .und, .und, .und, .und]) (fun i => xs.length - i) 0 (Weak.refl _ _ _) (by simp) ?_)
  rintro i fr H ⟨hi, hno, rfl, rfl⟩
  refine AWp.seq (AWp.ops ?_)
  simp
  refine AWp.seq (AWp.cond (b := decide (i < xs.length)) (by simp) ?_ ?_)
  · intro hb
    have hb : i < xs.length := by simpa using hb
    have hsz : sz = 1 := sz_of hs hb
    subst hsz
    refine AWp.skip ?_
    simp only [qSeq]
    refine AWp.seq (AWp.block (AWp.seq (AWp.ops ?_)))
    simp
    refine AWp.seq (AWp.ops ?_)
    simp [hb]
    refine AWp.cond (b := v == xs[i]) (by simp) ?_ ?_
    · intro he
      have he : v = xs[i] := by simpa using he
      refine AWp.seq (AWp.ops ?_)
      simp
      refine AWp.ret ?_
      simp [qBlock, bodyQ]
      refine retOk.of rfl ⟨rfl, i, by simp [tupV], ?_⟩
      rw [he]; simp
    · intro he
      have he : ¬ v = xs[i] := by simpa using he
      refine AWp.skip ?_
      simp only [qSeq, qBlock]
      refine AWp.ops ?_
      simp
      refine ⟨i + 1, _, _, Weak.slots [0, 1, 4, 6, 7, 8], ⟨by omega, ?_, rfl, ?_⟩, by omega⟩
      · intro x hx
        rw [List.take_succ_eq_append_getElem hb] at hx
        rcases List.mem_append.1 hx with h | h
        · exact hno x h
        · simp at h; rw [h]; exact fun e => he e.symm
      · simp [wrap_i64 (n := (i : Int) + 1) (by omega) (by omega)]
  · intro hb
    have hb : ¬ i < xs.length := by simpa using hb
    refine AWp.exit ?_
    simp [qSeq, qBlock]
    refine AWp.seq (AWp.ops ?_)
    simp
    refine AWp.ret ?_
    simp [bodyQ]
    refine retOk.of rfl ⟨rfl, -1, by simp [tupV], ?_⟩
    have : xs.take i = xs := List.take_of_length_le (by omega)
    rw [this] at hno
    simp
    exact fun h => hno v h rfl

def Contains_1 : AC := (.seq (.ops [⟨(some 5), none, (.k (.mov (.t 0)))⟩, ⟨(some 6), none, (.k (.mov (.t 1)))⟩, ⟨(some 7), none, (.call false (.c (.fn (.func 84) [] [])) [(.t 5), (.t 6)])⟩, ⟨(some 8), none, (.k (.bin .geq (.t 7) (.c (.sc (.int .i64 0)))))⟩, ⟨(some 4), none, (.k (.mov (.t 8)))⟩]) .ret)
def Contains_ac : AC := (.seq (.ops [⟨(some 4), none, (.k (.mov (.c (.sc (.bool false)))))⟩]) Contains_1)
theorem Contains_call {args : List AV} {H : List AObj} {R : AV → List AObj → Prop} (h : AWp Try.prog [] H.length Contains_ac (bodyQ H.length [(.t 4)] R) (args ++ List.replicate (9 - args.length) .und) H) : ACalls Try.prog 71 args H R :=
  ACalls.of_fn Try.func71 rfl (by kernel_rfl) rfl Try.ntmps71 h

theorem Contains_spec {a : AV} {xs : List Int} {v : Int} (ha : ISl a xs) : ACalls Try.prog 71 [a, I v] [] fun r H' => H' = [] ∧ r = Bo (decide (v ∈ xs)) := by
  apply Contains_call
  refine AWp.seq (AWp.ops ?_)
  simp
  refine AWp.seq (AWp.ops ?_)
  simp
  refine (Index_spec ha).mono ?_
  rintro r H' ⟨rfl, n, rfl, hn⟩
  simp
  refine AWp.ret ?_
  simp
  refine retOk.of rfl ⟨rfl, ?_⟩
  simp [hn]

def IndexFunc_10 : AC := (.seq (.ops [⟨(some 11), none, (.k (.mov (.t 1)))⟩, ⟨(some 12), none, (.k (.mov (.t 0)))⟩, ⟨(some 13), none, (.k (.mov (.t 5)))⟩, ⟨(some 14), none, (.k (.iad 1 (.t 12) (.t 13)))⟩, ⟨(some 15), none, (.k (.ld 1 false (.t 14)))⟩, ⟨(some 16), none, (.call false (.t 11) [(.t 15)])⟩]) (.cond (.t 16) (.seq (.ops [⟨(some 17), none, (.k (.mov (.t 5)))⟩, ⟨(some 4), none, (.k (.mov (.t 17)))⟩]) .ret) .skip))
def IndexFunc_9 : AC := (.seq (.ops [⟨(some 10), none, (.k (.mov (.t 8)))⟩, ⟨(some 5), none, (.k (.mov (.t 10)))⟩]) IndexFunc_10)
def IndexFunc_8 : AC := (.block 1 IndexFunc_9)
def IndexFunc_7 : AC := (.seq IndexFunc_8 (.ops [⟨(some 18), none, (.k (.bin .add (.t 8) (.c (.sc (.int .i64 1)))))⟩, ⟨(some 8), none, (.k (.mov (.t 18)))⟩]))
def IndexFunc_6 : AC := (.seq (.cond (.t 9) .skip (.exit 0)) IndexFunc_7)
def IndexFunc_5 : AC := (.seq (.ops [⟨(some 9), none, (.k (.bin .lss (.t 8) (.t 7)))⟩]) IndexFunc_6)
def IndexFunc_4 : AC := (.loop IndexFunc_5)
def IndexFunc_3 : AC := (.block 0 IndexFunc_4)
def IndexFunc_2 : AC := (.seq (.ops [⟨(some 6), none, (.k (.mov (.t 0)))⟩, ⟨(some 7), none, (.k (.len (.t 6)))⟩, ⟨(some 8), none, (.k (.mov (.c (.sc (.int .i64 0)))))⟩]) IndexFunc_3)
def IndexFunc_1 : AC := (.seq IndexFunc_2 (.seq (.ops [⟨(some 4), none, (.k (.mov (.c (.sc (.int .i64 (-1))))))⟩]) .ret))
def IndexFunc_ac : AC := (.seq (.ops [⟨(some 4), none, (.k (.mov (.c (.sc (.int .i64 0)))))⟩]) IndexFunc_1)
theorem IndexFunc_call {args : List AV} {H : List AObj} {R : AV → List AObj → Prop} (h : AWp Try.prog [] H.length IndexFunc_ac (bodyQ H.length [(.t 4)] R) (args ++ List.replicate (19 - args.length) .und) H) : ACalls Try.prog 83 args H R :=
  ACalls.of_fn Try.func83 rfl (by kernel_rfl) rfl Try.ntmps83 h

theorem IndexFunc_gen {a : AV} {xs : List Int} {g : FuncId} {caps : List AV} {H0 : List AObj} {p : Int → Bool} (ha : ISl a xs) (hg : ∀ x ∈ xs, ACalls Try.prog g (I x :: caps) H0 fun r H' => H' = H0 ∧ r = Bo (p x)) :
    ACalls Try.prog 83 [a, .fn (.func g) [] caps] H0 fun r H' => H' = H0 ∧ ∃ n : Int, r = I n ∧ (0 ≤ n ↔ ∃ x ∈ xs, p x = true) := by
  obtain ⟨⟨nl, c, sz, rfl, hs⟩, hlen, hx⟩ := ha
  apply IndexFunc_call
  refine AWp.seq (AWp.ops ?_)
  simp
  refine AWp.seq (AWp.seq (AWp.ops ?_))
  simp
  refine AWp.block (AWp.loop (fun (i : Nat) fr H => i ≤ xs.length ∧ (∀ x ∈ xs.take i, p x = false) ∧ H = H0 ∧ fr = [AV.imm nl c sz (xs.map I), .fn (.func g) [] caps, .und, .und, I 0, .und, .imm nl c sz (xs.map I), I xs.length, I i, .und, .und, .und, .und, .und, .und, .und, .und, .und, .und]) (fun i => xs.length - i) 0 (Weak.refl _ _ _) (by simp) ?_)
  rintro i fr H ⟨hi, hno, rfl, rfl⟩
  refine AWp.seq (AWp.ops ?_)
  simp
  refine AWp.seq (AWp.cond (b := decide (i < xs.length)) (by simp) ?_ ?_)
  · intro hb
    have hb : i < xs.length := by simpa using hb
    have hsz : sz = 1 := sz_of hs hb
    subst hsz
    refine AWp.skip ?_
    simp only [qSeq]
    refine AWp.seq (AWp.block (AWp.seq (AWp.ops ?_)))
    simp
    refine AWp.seq (AWp.ops ?_)
    simp [hb]
    refine (hg xs[i] (List.getElem_mem hb)).mono ?_
    rintro r H' ⟨rfl, rfl⟩
    simp
    refine AWp.cond (b := p xs[i]) (by simp) ?_ ?_
    · intro he
      refine AWp.seq (AWp.ops ?_)
      simp
      refine AWp.ret ?_
      simp
      refine retOk.of rfl ⟨rfl, i, by simp, ?_⟩
      simp
      exact ⟨xs[i], List.getElem_mem hb, he⟩
    · intro he
      refine AWp.skip ?_
      simp only [qSeq, qBlock]
      refine AWp.ops ?_
      simp
      refine ⟨i + 1, _, _, Weak.slots [0, 1, 4, 6, 7, 8], ⟨by omega, ?_, rfl, ?_⟩, by omega⟩
      · intro x hx
        rw [List.take_succ_eq_append_getElem hb] at hx
        rcases List.mem_append.1 hx with h | h
        · exact hno x h
        · simp at h; rw [h]; exact he
      · simp [wrap_i64 (n := (i : Int) + 1) (by omega) (by omega)]
  · intro hb
    have hb : ¬ i < xs.length := by simpa using hb
    refine AWp.exit ?_
    simp [qSeq, qBlock]
    refine AWp.seq (AWp.ops ?_)
    simp
    refine AWp.ret ?_
    simp
    refine retOk.of rfl ⟨rfl, -1, by simp, ?_⟩
    have : xs.take i = xs := List.take_of_length_le (by omega)
    rw [this] at hno
    simp
    exact hno

theorem IndexFunc_spec {a : AV} {xs : List Int} {g : FuncId} {p : Int → Bool} (ha : ISl a xs) (hg : ∀ x ∈ xs, ACalls Try.prog g [I x] [] fun r H' => H' = [] ∧ r = Bo (p x)) :
    ACalls Try.prog 83 [a, .fn (.func g) [] []] [] fun r H' => H' = [] ∧ ∃ n : Int, r = I n ∧ (0 ≤ n ↔ ∃ x ∈ xs, p x = true) := IndexFunc_gen ha hg

def ContainsFunc_1 : AC := (.seq (.ops [⟨(some 5), none, (.k (.mov (.t 0)))⟩, ⟨(some 6), none, (.k (.mov (.t 1)))⟩, ⟨(some 7), none, (.call false (.c (.fn (.func 83) [] [])) [(.t 5), (.t 6)])⟩, ⟨(some 8), none, (.k (.bin .geq (.t 7) (.c (.sc (.int .i64 0)))))⟩, ⟨(some 4), none, (.k (.mov (.t 8)))⟩]) .ret)
def ContainsFunc_ac : AC := (.seq (.ops [⟨(some 4), none, (.k (.mov (.c (.sc (.bool false)))))⟩]) ContainsFunc_1)
theorem ContainsFunc_call {args : List AV} {H : List AObj} {R : AV → List AObj → Prop} (h : AWp Try.prog [] H.length ContainsFunc_ac (bodyQ H.length [(.t 4)] R) (args ++ List.replicate (9 - args.length) .und) H) : ACalls Try.prog 69 args H R :=
  ACalls.of_fn Try.func69 rfl (by kernel_rfl) rfl Try.ntmps69 h

theorem ContainsFunc_gen {a : AV} {xs : List Int} {g : FuncId} {caps : List AV} {H0 : List AObj} {p : Int → Bool} (ha : ISl a xs) (hg : ∀ x ∈ xs, ACalls Try.prog g (I x :: caps) H0 fun r H' => H' = H0 ∧ r = Bo (p x)) :
    ACalls Try.prog 69 [a, .fn (.func g) [] caps] H0 fun r H' => H' = H0 ∧ r = Bo (xs.any p) := by
  apply ContainsFunc_call
  refine AWp.seq (AWp.ops ?_)
  simp
  refine AWp.seq (AWp.ops ?_)
  simp
  refine (IndexFunc_gen ha hg).mono ?_
  rintro r H' ⟨rfl, n, rfl, hn⟩
  simp
  refine AWp.ret ?_
  simp
  refine retOk.of rfl ⟨rfl, ?_⟩
  have e : decide (0 ≤ n) = xs.any p := by rw [Bool.eq_iff_iff]; simp [hn]
  simp [e]
theorem ContainsFunc_spec {a : AV} {xs : List Int} {g : FuncId} {p : Int → Bool} (ha : ISl a xs) (hg : ∀ x ∈ xs, ACalls Try.prog g [I x] [] fun r H' => H' = [] ∧ r = Bo (p x)) :
    ACalls Try.prog 69 [a, .fn (.func g) [] []] [] fun r H' => H' = [] ∧ r = Bo (xs.any p) := ContainsFunc_gen ha hg

end Go.Fw
