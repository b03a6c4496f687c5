/- MergeSets: the calls. -/
import Derived.Test.YtkfooghdpfhiaaaFwlaw07s
namespace Go.Fw
open Go Go.RowKit Go.Proofs
set_option maxRecDepth 100000
set_option linter.unusedSimpArgs false
set_option linter.unusedVariables false

set_option maxHeartbeats 4000000 in
theorem lSets_m {A : List (List Int)} {q : Nat} {k km : Int} {l b E : List Int} {a c S : List (Int × List Int)} {Q : Exit → List AV → List AObj → Prop} (hq : q < A.length) (hN : A.length ≤ 50) (hl : A[q] = l)
    (hkm : k.tmod A.length = km) (hqe : (km + A.length).tmod A.length = q) (hm1 : -(A.length : Int) < km) (hm2 : km < A.length)
    (p1 : Pu Try.prog 29 [Ss S, Ls [E]] (.tup [Ss a, I 0])) (p2 : Pu Try.prog 29 [Ss S, Ls [[(q : Int)]]] (.tup [Ss c, I 0])) (p3 : Pu Try.prog 29 [Ss S, Ls []] (.tup [Ss [], I 0]))
    (p4 : Pu Try.prog 24 [Ls A] (.tup [Is b, I 0])) (p5 : Pu Try.prog 22 [Ls [l, l]] (.tup [Is l, I 0])) (p6 : Pu Try.prog 24 [Ls [l, l]] (.tup [Is l, I 0]))
    (hC : wp Try.prog [] 0 lSets_c115 Q (fm 225 [(0, Ls A), (1, I q), (5, Bo true), (10, Ss a), (11, I 0), (12, Is b), (13, I 0), (14, Ss c), (15, I 0), (16, Ss []), (17, I 0), (18, Is l), (19, I 0), (20, Is l), (21, I 0)]) []) :
    wp Try.prog [] 0 lSets_c54 Q (fm 225 [(0, Ls A), (1, I k), (5, Bo true), (6, Ss S), (8, Is E)]) [] := by
  have hNz2 : ¬ (A.length : Int) = 0 := by omega
  simp (disch := omega) [ar, -List.take_append_getElem, lSets_c54, hkm, hqe, hNz2]
  refine Pu.c p1 ?_
  simp (disch := omega) [ar, -List.take_append_getElem]
  refine Pu.c p4 ?_
  simp (disch := omega) [ar, -List.take_append_getElem]
  refine Pu.c p2 ?_
  simp (disch := omega) [ar, -List.take_append_getElem]
  refine Pu.c p3 ?_
  simp (disch := omega) [ar, -List.take_append_getElem, hl]
  refine Pu.c p5 ?_
  simp (disch := omega) [ar, -List.take_append_getElem, hl]
  refine Pu.c p6 ?_
  clear p1 p2 p3 p4 p5 p6
  simp (disch := omega) [ar, -List.take_append_getElem]
  exact Hr.next 0 (by simp) hC
end Go.Fw
