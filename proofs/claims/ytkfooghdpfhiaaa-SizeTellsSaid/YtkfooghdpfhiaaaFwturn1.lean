import Derived.Test.YtkfooghdpfhiaaaFwref20b
namespace Go.Fw
open Go Go.RowKit Go.Proofs
set_option maxRecDepth 100000
set_option linter.unusedSimpArgs false
set_option linter.unusedVariables false

def tplus_5 : AC := (.seq (.ops [⟨(some 14), none, (.k (.mov (.t 1)))⟩, ⟨(some 15), none, (.k (.mov (.t 2)))⟩, ⟨(some 16), none, (.k (.bin .add (.t 14) (.t 15)))⟩, ⟨(some 6), none, (.k (.mov (.t 16)))⟩]) .ret)
def tplus_4 : AC := (.seq (.ops [⟨(some 11), none, (.k (.mov (.t 0)))⟩, ⟨(some 12), none, (.k (.nck (.t 11)))⟩, ⟨(some 13), none, (.k (.fad 0 (.t 12)))⟩, ⟨none, none, (.k (.st 1 (.t 13) (.c (.sc (.bool true)))))⟩]) (.seq (.ops [⟨(some 6), none, (.k (.mov (.c (.sc (.int .i64 0)))))⟩]) .ret))
def tplus_3 : AC := (.cond (.t 10) tplus_4 .skip)
def tplus_2 : AC := (.seq (.ops [⟨(some 7), none, (.k (.mov (.t 1)))⟩, ⟨(some 8), none, (.k (.mov (.t 2)))⟩, ⟨(some 9), none, (.k (.bin .sub (.c (.sc (.int .i64 4611686018427387904))) (.t 8)))⟩, ⟨(some 10), none, (.k (.bin .geq (.t 7) (.t 9)))⟩]) tplus_3)
def tplus_1 : AC := (.seq tplus_2 tplus_5)
def tplus_ac : AC := (.seq (.ops [⟨(some 6), none, (.k (.mov (.c (.sc (.int .i64 0)))))⟩]) tplus_1)
theorem tplus_call {args : List AV} {H : List AObj} {R : AV → List AObj → Prop} (h : AWp Try.prog [] H.length tplus_ac (bodyQ H.length [(.t 6)] R) (args ++ List.replicate (17 - args.length) .und) H) : ACalls Try.prog 66 args H R :=
  ACalls.of_fn Try.func66 rfl (by kernel_rfl) rfl Try.ntmps66 h

def plusR (x y p : Nat) (H : List AObj) (r : AV) (H' : List AObj) : Prop :=
  (4611686018427387904 ≤ x + y → r = I 0 ∧ H' = H.set p (talO true)) ∧ (x + y < 4611686018427387904 → r = I ((x + y : Nat) : Int) ∧ H' = H)
theorem tplus_spec {H : List AObj} {p : Nat} {ov : Bool} {x y : Nat} (hp : H[p]? = some (talO ov)) (hx : x < 4611686018427387904) (hy : y < 4611686018427387904) :
    ACalls Try.prog 66 [.ptr p 1 0 0, I x, I y] H (plusR x y p H) := by
  apply tplus_call
  first | refine AWp.seq (AWp.ops ?_) | refine AWp.seq (AWp.seq (AWp.ops ?_)) | refine AWp.ops ?_ | refine AWp.seq (AWp.block (AWp.seq (AWp.ops ?_))) | refine AWp.seq (AWp.seq (AWp.seq (AWp.ops ?_))) | refine AWp.block (AWp.seq (AWp.ops ?_)) | refine AWp.block (AWp.seq (AWp.seq (AWp.ops ?_))) | refine AWp.seq (AWp.block (AWp.seq (AWp.seq (AWp.ops ?_))))
  simp
  have w1 := wrap_i64 (n := 4611686018427387904 - (y : Int)) (by omega) (by omega)
  first | refine AWp.seq (AWp.ops ?_) | refine AWp.seq (AWp.seq (AWp.ops ?_)) | refine AWp.ops ?_ | refine AWp.seq (AWp.block (AWp.seq (AWp.ops ?_))) | refine AWp.seq (AWp.seq (AWp.seq (AWp.ops ?_))) | refine AWp.block (AWp.seq (AWp.ops ?_)) | refine AWp.block (AWp.seq (AWp.seq (AWp.ops ?_))) | refine AWp.seq (AWp.block (AWp.seq (AWp.seq (AWp.ops ?_))))
  simp [w1]
  by_cases hb : 4611686018427387904 ≤ x + y
  · have g : 4611686018427387904 - (y : Int) ≤ x := by omega
    refine AWp.cond (b := true) (by simp [g] <;> omega) (fun _ => ?_) (fun h => by cases h)
    first | refine AWp.seq (AWp.ops ?_) | refine AWp.seq (AWp.seq (AWp.ops ?_)) | refine AWp.ops ?_ | refine AWp.seq (AWp.block (AWp.seq (AWp.ops ?_))) | refine AWp.seq (AWp.seq (AWp.seq (AWp.ops ?_))) | refine AWp.block (AWp.seq (AWp.ops ?_)) | refine AWp.block (AWp.seq (AWp.seq (AWp.ops ?_))) | refine AWp.seq (AWp.block (AWp.seq (AWp.seq (AWp.ops ?_))))
    simp [hp]
    first | refine AWp.seq (AWp.ops ?_) | refine AWp.seq (AWp.seq (AWp.ops ?_)) | refine AWp.ops ?_ | refine AWp.seq (AWp.block (AWp.seq (AWp.ops ?_))) | refine AWp.seq (AWp.seq (AWp.seq (AWp.ops ?_))) | refine AWp.block (AWp.seq (AWp.ops ?_)) | refine AWp.block (AWp.seq (AWp.seq (AWp.ops ?_))) | refine AWp.seq (AWp.block (AWp.seq (AWp.seq (AWp.ops ?_))))
    simp
    refine AWp.ret ?_
    simp
    refine retOk.of rfl ⟨fun _ => ⟨by simp, rfl⟩, fun h => by omega⟩
  · have w2 := wrap_i64 (n := (x : Int) + y) (by omega) (by omega)
    refine AWp.cond (b := false) (by simp <;> omega) (fun h => by cases h) (fun _ => ?_)
    refine AWp.skip ?_
    simp only [qSeq]
    first | refine AWp.seq (AWp.ops ?_) | refine AWp.seq (AWp.seq (AWp.ops ?_)) | refine AWp.ops ?_ | refine AWp.seq (AWp.block (AWp.seq (AWp.ops ?_))) | refine AWp.seq (AWp.seq (AWp.seq (AWp.ops ?_))) | refine AWp.block (AWp.seq (AWp.ops ?_)) | refine AWp.block (AWp.seq (AWp.seq (AWp.ops ?_))) | refine AWp.seq (AWp.block (AWp.seq (AWp.seq (AWp.ops ?_))))
    simp [w2]
    refine AWp.ret ?_
    simp
    refine retOk.of rfl ⟨fun h => by omega, fun _ => ⟨by simp, rfl⟩⟩

def rplus_4 : AC := (.seq (.ops [⟨(some 10), none, (.k (.mov (.t 0)))⟩, ⟨(some 11), none, (.k (.mov (.t 1)))⟩, ⟨(some 12), none, (.k (.bin .add (.t 10) (.t 11)))⟩, ⟨(some 4), none, (.k (.mov (.t 12)))⟩, ⟨(some 5), none, (.k (.mov (.c (.sc (.bool true)))))⟩]) .ret)
def rplus_3 : AC := (.cond (.t 9) (.seq (.ops [⟨(some 4), none, (.k (.mov (.c (.sc (.int .i64 0)))))⟩, ⟨(some 5), none, (.k (.mov (.c (.sc (.bool false)))))⟩]) .ret) .skip)
def rplus_2 : AC := (.seq (.ops [⟨(some 6), none, (.k (.mov (.t 0)))⟩, ⟨(some 7), none, (.k (.mov (.t 1)))⟩, ⟨(some 8), none, (.k (.bin .sub (.c (.sc (.int .i64 4611686018427387903))) (.t 7)))⟩, ⟨(some 9), none, (.k (.bin .gtr (.t 6) (.t 8)))⟩]) rplus_3)
def rplus_1 : AC := (.seq rplus_2 rplus_4)
def rplus_ac : AC := (.seq (.ops [⟨(some 4), none, (.k (.mov (.c (.sc (.int .i64 0)))))⟩, ⟨(some 5), none, (.k (.mov (.c (.sc (.bool false)))))⟩]) rplus_1)
theorem rplus_call {args : List AV} {H : List AObj} {R : AV → List AObj → Prop} (h : AWp Try.prog [] H.length rplus_ac (bodyQ H.length [(.t 4), (.t 5)] R) (args ++ List.replicate (13 - args.length) .und) H) : ACalls Try.prog 67 args H R :=
  ACalls.of_fn Try.func67 rfl (by kernel_rfl) rfl Try.ntmps67 h

theorem rplus_spec {x y : Nat} (hx : x < 4611686018427387904) (hy : y < 4611686018427387904) :
    ACalls Try.prog 67 [I x, I y] [] fun r H' => H' = [] ∧ r = .tup [I (if 4611686018427387904 ≤ x + y then 0 else ((x + y : Nat) : Int)), Bo (!decide (4611686018427387904 ≤ x + y))] := by
  apply rplus_call
  first | refine AWp.seq (AWp.ops ?_) | refine AWp.seq (AWp.seq (AWp.ops ?_)) | refine AWp.ops ?_ | refine AWp.seq (AWp.block (AWp.seq (AWp.ops ?_))) | refine AWp.seq (AWp.seq (AWp.seq (AWp.ops ?_))) | refine AWp.block (AWp.seq (AWp.ops ?_)) | refine AWp.block (AWp.seq (AWp.seq (AWp.ops ?_))) | refine AWp.seq (AWp.block (AWp.seq (AWp.seq (AWp.ops ?_))))
  simp
  have w1 := wrap_i64 (n := 4611686018427387903 - (y : Int)) (by omega) (by omega)
  first | refine AWp.seq (AWp.ops ?_) | refine AWp.seq (AWp.seq (AWp.ops ?_)) | refine AWp.ops ?_ | refine AWp.seq (AWp.block (AWp.seq (AWp.ops ?_))) | refine AWp.seq (AWp.seq (AWp.seq (AWp.ops ?_))) | refine AWp.block (AWp.seq (AWp.ops ?_)) | refine AWp.block (AWp.seq (AWp.seq (AWp.ops ?_))) | refine AWp.seq (AWp.block (AWp.seq (AWp.seq (AWp.ops ?_))))
  simp [w1]
  by_cases hb : 4611686018427387904 ≤ x + y
  · refine AWp.cond (b := true) (by simp <;> omega) (fun _ => ?_) (fun h => by cases h)
    first | refine AWp.seq (AWp.ops ?_) | refine AWp.seq (AWp.seq (AWp.ops ?_)) | refine AWp.ops ?_ | refine AWp.seq (AWp.block (AWp.seq (AWp.ops ?_))) | refine AWp.seq (AWp.seq (AWp.seq (AWp.ops ?_))) | refine AWp.block (AWp.seq (AWp.ops ?_)) | refine AWp.block (AWp.seq (AWp.seq (AWp.ops ?_))) | refine AWp.seq (AWp.block (AWp.seq (AWp.seq (AWp.ops ?_))))
    simp
    refine AWp.ret ?_
    simp
    refine retOk.of rfl ⟨rfl, ?_⟩
    simp [hb]
  · have w2 := wrap_i64 (n := (x : Int) + y) (by omega) (by omega)
    refine AWp.cond (b := false) (by simp <;> omega) (fun h => by cases h) (fun _ => ?_)
    refine AWp.skip ?_
    simp only [qSeq]
    first | refine AWp.seq (AWp.ops ?_) | refine AWp.seq (AWp.seq (AWp.ops ?_)) | refine AWp.ops ?_ | refine AWp.seq (AWp.block (AWp.seq (AWp.ops ?_))) | refine AWp.seq (AWp.seq (AWp.seq (AWp.ops ?_))) | refine AWp.block (AWp.seq (AWp.ops ?_)) | refine AWp.block (AWp.seq (AWp.seq (AWp.ops ?_))) | refine AWp.seq (AWp.block (AWp.seq (AWp.seq (AWp.ops ?_))))
    simp [w2]
    refine AWp.ret ?_
    simp
    refine retOk.of rfl ⟨rfl, ?_⟩
    simp [hb]
end Go.Fw
