/- Whether a list rises: of the program, and of the document. -/
import Derived.Test.YtkfooghdpfhiaaaFwY4
import Derived.Test.YtkfooghdpfhiaaaFwstp0
import Derived.Test.YtkfooghdpfhiaaaProg
namespace Go.Fw
open Go Go.RowKit Go.Proofs
set_option maxRecDepth 100000
set_option linter.unusedSimpArgs false
set_option linter.unusedVariables false

def pRises_1 : AC := (.seq (.seq (.ops [.m 4 (.t 3), .m 5 (.t 0), .o 6 (.len (.t 5)), .o 7 (.bin .lss (.t 4) (.t 6))]) (.cond (.t 7) .skip (.exit 0))) (.seq (.block 1 (.seq (.ops [.m 10 (.t 0), .m 11 (.t 3), .o 12 (.bin .sub (.t 11) (.i 1)), .o 13 (.iad 1 (.t 10) (.t 12)), .o 14 (.ld 1 false (.t 13)), .m 15 (.t 0), .m 16 (.t 3), .o 17 (.iad 1 (.t 15) (.t 16)), .o 18 (.ld 1 false (.t 17)), .o 19 (.bin .geq (.t 14) (.t 18))]) (.cond (.t 19) (.seq (.ops [.m 2 (.b false)]) .ret) .skip))) (.ops [.m 8 (.t 3), .o 9 (.bin .add (.t 8) (.i 1)), .m 3 (.t 9)])))
def pRises_ac : AC := (.seq (.ops [.m 2 (.b false)]) (.seq (.seq (.ops [.m 3 (.i 1)]) (.block 0 (.loop pRises_1))) (.seq (.ops [.m 2 (.b true)]) .ret)))
theorem pRises_w {args : List AV} {H : List AObj} {R : AV → List AObj → Prop} (h : wp Try.prog [] H.length pRises_ac (bodyW [(.t 2)] (Nr R .mk)) (args ++ List.replicate (20 - args.length) .und) H) : ACalls Try.prog 20 args H R :=
  ACalls.of_wp Try.func20 rfl (by kernel_rfl) rfl Try.ntmps20 h
theorem pRises_p (l : List Int) (hl : l.length ≤ 1000000000) : Pu Try.prog 20 [Is l] (Bo (decide (Rise l))) := by
  refine Pu.of 4 (pRises_w ?_)
  simp (disch := omega) [ar, -List.take_append_getElem, pRises_ac]
  refine Lp.to 0 [] l.length (fun i => ∀ j (h : j + 1 < l.length), j < i → l[j] < l[j + 1]) (fun i => fm 20 [(0, Is l), (3, I ((i : Int) + 1))]) (fun _ => []) ⟨fun j h h2 => by omega, by simp⟩ fun i hi hJ => ?_
  simp (disch := omega) [ar, -List.take_append_getElem, pRises_1]
  (first | refine Cnd.sp (fun h1 => ?_) fun h1 => ?_ | refine Gd.sp (fun h1 => ?_) fun h1 => ?_) <;> (try simp at h1) <;> (try simp (disch := omega) [ar, -List.take_append_getElem, h1])
  · have h2 : i + 1 < l.length := by omega
    have h3 : i < l.length := by omega
    (first | refine Cnd.sp (fun h4 => ?_) fun h4 => ?_ | refine Gd.sp (fun h4 => ?_) fun h4 => ?_) <;> (try simp at h4) <;> (try simp (disch := omega) [ar, -List.take_append_getElem, h4])
    · intro hr
      have := Rise.adj hr i h2
      omega
    · intro j h h5
      by_cases e : j = i
      · subst e; omega
      · exact hJ j h (by omega)
  · exact Rise.of fun j h => hJ j h (by omega)
def rRises_1 : AC := (.seq (.seq (.ops [.m 4 (.t 3), .m 5 (.t 0), .o 6 (.len (.t 5)), .o 7 (.bin .lss (.t 4) (.t 6))]) (.cond (.t 7) .skip (.exit 0))) (.seq (.block 1 (.seq (.ops [.m 10 (.t 0), .m 11 (.t 3), .o 12 (.iad 1 (.t 10) (.t 11)), .o 13 (.ld 1 false (.t 12)), .m 14 (.t 0), .m 15 (.t 3), .o 16 (.bin .sub (.t 15) (.i 1)), .o 17 (.iad 1 (.t 14) (.t 16)), .o 18 (.ld 1 false (.t 17)), .o 19 (.bin .leq (.t 13) (.t 18))]) (.cond (.t 19) (.seq (.ops [.m 2 (.b false)]) .ret) .skip))) (.ops [.m 8 (.t 3), .o 9 (.bin .add (.t 8) (.i 1)), .m 3 (.t 9)])))
def rRises_ac : AC := (.seq (.ops [.m 2 (.b false)]) (.seq (.seq (.ops [.m 3 (.i 1)]) (.block 0 (.loop rRises_1))) (.seq (.ops [.m 2 (.b true)]) .ret)))
theorem rRises_w {args : List AV} {H : List AObj} {R : AV → List AObj → Prop} (h : wp Try.prog [] H.length rRises_ac (bodyW [(.t 2)] (Nr R .mk)) (args ++ List.replicate (20 - args.length) .und) H) : ACalls Try.prog 21 args H R :=
  ACalls.of_wp Try.func21 rfl (by kernel_rfl) rfl Try.ntmps21 h
theorem rRises_p (l : List Int) (hl : l.length ≤ 1000000000) : Pu Try.prog 21 [Is l] (Bo (decide (Rise l))) := by
  refine Pu.of 4 (rRises_w ?_)
  simp (disch := omega) [ar, -List.take_append_getElem, rRises_ac]
  refine Lp.to 0 [] l.length (fun i => ∀ j (h : j + 1 < l.length), j < i → l[j] < l[j + 1]) (fun i => fm 20 [(0, Is l), (3, I ((i : Int) + 1))]) (fun _ => []) ⟨fun j h h2 => by omega, by simp⟩ fun i hi hJ => ?_
  simp (disch := omega) [ar, -List.take_append_getElem, rRises_1]
  (first | refine Cnd.sp (fun h1 => ?_) fun h1 => ?_ | refine Gd.sp (fun h1 => ?_) fun h1 => ?_) <;> (try simp at h1) <;> (try simp (disch := omega) [ar, -List.take_append_getElem, h1])
  · have h2 : i + 1 < l.length := by omega
    have h3 : i < l.length := by omega
    (first | refine Cnd.sp (fun h4 => ?_) fun h4 => ?_ | refine Gd.sp (fun h4 => ?_) fun h4 => ?_) <;> (try simp at h4) <;> (try simp (disch := omega) [ar, -List.take_append_getElem, h4])
    · intro hr
      have := Rise.adj hr i h2
      omega
    · intro j h h5
      by_cases e : j = i
      · subst e; omega
      · exact hJ j h (by omega)
  · exact Rise.of fun j h => hJ j h (by omega)
end Go.Fw
