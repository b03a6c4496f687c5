import Derived.Test.YtkfooghdpfhiaaaFwref04b
import Derived.Test.YtkfooghdpfhiaaaFwref05g
namespace Go.Fw
open Go Go.RowKit Go.Proofs
set_option maxRecDepth 100000
set_option linter.unusedSimpArgs false
set_option linter.unusedVariables false

def rcounts_18 : AC := (.seq (.ops [⟨(some 32), none, (.k (.mov (.t 5)))⟩, ⟨(some 2), none, (.k (.mov (.t 32)))⟩, ⟨(some 3), none, (.k (.mov (.c (.sc (.int .i64 0)))))⟩]) .ret)
def rcounts_17 : AC := (.seq (.ops [⟨(some 26), none, (.k (.mov (.t 5)))⟩, ⟨(some 27), none, (.k (.mov (.t 8)))⟩, ⟨(some 28), none, (.k (.lit 1 [(.t 27)]))⟩, ⟨(some 29), none, (.k (.app 3 1 8 (.t 26) (.t 28)))⟩, ⟨(some 5), none, (.k (.mov (.t 29)))⟩]) (.ops [⟨(some 30), none, (.k (.mov (.t 8)))⟩, ⟨(some 4), none, (.k (.mov (.t 30)))⟩]))
def rcounts_16 : AC := (.seq (.ops [⟨(some 25), none, (.k (.mov (.t 9)))⟩, ⟨(some 2), none, (.k (.mov (.c (.imm true none 0 []))))⟩, ⟨(some 3), none, (.k (.mov (.t 25)))⟩]) .ret)
def rcounts_15 : AC := (.cond (.t 24) rcounts_16 .skip)
def rcounts_14 : AC := (.seq (.ops [⟨(some 23), none, (.k (.mov (.t 9)))⟩, ⟨(some 24), none, (.k (.bin .neq (.t 23) (.c (.sc (.int .i64 0)))))⟩]) rcounts_15)
def rcounts_13 : AC := (.seq rcounts_14 rcounts_17)
def rcounts_12 : AC := (.seq (.ops [⟨(some 18), none, (.k (.ld 4 true (.t 7)))⟩, ⟨(some 19), none, (.k (.mov (.t 4)))⟩, ⟨(some 20), none, (.call false (.c (.fn (.func 91) [] [])) [(.t 18), (.t 19)])⟩, ⟨(some 17), none, (.k (.mov (.t 20)))⟩, ⟨(some 21), none, (.k (.ext (.t 17) 0))⟩, ⟨(some 22), none, (.k (.ext (.t 17) 1))⟩, ⟨(some 8), none, (.k (.mov (.t 21)))⟩, ⟨(some 9), none, (.k (.mov (.t 22)))⟩]) rcounts_13)
def rcounts_11 : AC := (.seq (.ops [⟨(some 15), none, (.k (.iad 4 (.t 11) (.t 13)))⟩, ⟨(some 16), none, (.k (.ld 4 true (.t 15)))⟩, ⟨(some 7), none, (.k (.new 97 4 (.c (.agg [(.sc (.int .i64 0)), (.sc (.int .i64 0)), (.imm true none 0 []), (.imm true none 0 [])]))))⟩, ⟨none, none, (.k (.st 4 (.t 7) (.t 16)))⟩]) rcounts_12)
def rcounts_10 : AC := (.block 1 rcounts_11)
def rcounts_9 : AC := (.seq rcounts_10 (.ops [⟨(some 31), none, (.k (.bin .add (.t 13) (.c (.sc (.int .i64 1)))))⟩, ⟨(some 13), none, (.k (.mov (.t 31)))⟩]))
def rcounts_8 : AC := (.seq (.cond (.t 14) .skip (.exit 0)) rcounts_9)
def rcounts_7 : AC := (.seq (.ops [⟨(some 14), none, (.k (.bin .lss (.t 13) (.t 12)))⟩]) rcounts_8)
def rcounts_6 : AC := (.loop rcounts_7)
def rcounts_5 : AC := (.block 0 rcounts_6)
def rcounts_4 : AC := (.seq (.ops [⟨(some 10), none, (.k (.fad 2 (.t 1)))⟩, ⟨(some 11), none, (.k (.ld 1 false (.t 10)))⟩, ⟨(some 12), none, (.k (.len (.t 11)))⟩, ⟨(some 13), none, (.k (.mov (.c (.sc (.int .i64 0)))))⟩]) rcounts_5)
def rcounts_3 : AC := (.seq rcounts_4 rcounts_18)
def rcounts_2 : AC := (.seq (.ops [⟨(some 5), none, (.k (.mov (.c (.imm true none 0 []))))⟩]) rcounts_3)
def rcounts_1 : AC := (.seq (.ops [⟨(some 4), none, (.k (.mov (.c (.sc (.int .i64 1)))))⟩]) rcounts_2)
def rcounts_ac : AC := (.seq (.ops [⟨(some 1), none, (.k (.new 52 4 (.t 0)))⟩, ⟨(some 2), none, (.k (.mov (.c (.imm true none 0 []))))⟩, ⟨(some 3), none, (.k (.mov (.c (.sc (.int .i64 0)))))⟩]) rcounts_1)
theorem rcounts_call {args : List AV} {H : List AObj} {R : AV → List AObj → Prop} (h : AWp Try.prog [] H.length rcounts_ac (bodyQ H.length [(.t 2), (.t 3)] R) (args ++ List.replicate (33 - args.length) .und) H) : ACalls Try.prog 84 args H R :=
  ACalls.of_fn Try.func84 rfl (by kernel_rfl) rfl Try.ntmps84 h

set_option maxHeartbeats 4000000 in
theorem rcounts_spec {sh f l v : AV} {S V : List Int} {F : List (Int × Int × Int)} {xs : List LvA} (hS : ISl sh S) (hF : Sp f F) (hl : Ls l xs) (hV : ISl v V) (hn : xs.length ≤ 1000) (hsm : ∀ x ∈ xs, x.lv.pos.length ≤ 4611686018427387903 ∧ x.lv.crd.length ≤ 4611686018427387903) : ACalls Try.prog 84 [.agg [sh, f, l, v]] [] fun r H' => H' = [] ∧ ∃ o, r = .tup [o, I (cntF xs).2] ∧ ISl o (cntF xs).1 := by
  have hl' := hl
  obtain ⟨⟨nl, c, sz, rfl, hs⟩, hlen, hx⟩ := hl
  obtain ⟨⟨nl1, c1, sz1, rfl, hs1⟩, hlen1, hx1⟩ := hS
  obtain ⟨⟨nl2, c2, sz2, rfl, hs2⟩, hlen2, hx2⟩ := hF
  obtain ⟨⟨nl3, c3, sz3, rfl, hs3⟩, hlen3, hx3⟩ := hV
  have base : ACalls Try.prog 84 [.agg [.imm nl1 c1 sz1 (S.map I), .imm nl2 c2 sz2 (F.map specV), .imm nl c sz (xs.map lvV), .imm nl3 c3 sz3 (V.map I)]] [] fun r G => (r = .tup [.imm true none 0 [], I (cntF xs).2] ∧ (cntF xs).1 = []) ∨ ((cntF xs).2 = 0 ∧ InI (cntF xs).1 ∧ ∃ vr, (vr = some true → (cntF xs).1 = []) ∧ vr ≠ some false ∧ r = .tup [.slc 1 (cntF xs).1.length 0 (cntF xs).1.length none, I 0] ∧ G[1]? = some ⟨3, 1, (cntF xs).1.map I, true, vr⟩) := by
    apply rcounts_call
    first | refine AWp.seq (AWp.ops ?_) | refine AWp.seq (AWp.seq (AWp.ops ?_)) | refine AWp.ops ?_ | refine AWp.seq (AWp.block (AWp.seq (AWp.ops ?_))) | refine AWp.seq (AWp.seq (AWp.seq (AWp.ops ?_))) | refine AWp.block (AWp.seq (AWp.ops ?_)) | refine AWp.block (AWp.seq (AWp.seq (AWp.ops ?_))) | refine AWp.seq (AWp.block (AWp.seq (AWp.seq (AWp.ops ?_))))
    simp
    first | refine AWp.seq (AWp.ops ?_) | refine AWp.seq (AWp.seq (AWp.ops ?_)) | refine AWp.ops ?_ | refine AWp.seq (AWp.block (AWp.seq (AWp.ops ?_))) | refine AWp.seq (AWp.seq (AWp.seq (AWp.ops ?_))) | refine AWp.block (AWp.seq (AWp.ops ?_)) | refine AWp.block (AWp.seq (AWp.seq (AWp.ops ?_))) | refine AWp.seq (AWp.block (AWp.seq (AWp.seq (AWp.ops ?_))))
    simp
    first | refine AWp.seq (AWp.ops ?_) | refine AWp.seq (AWp.seq (AWp.ops ?_)) | refine AWp.ops ?_ | refine AWp.seq (AWp.block (AWp.seq (AWp.ops ?_))) | refine AWp.seq (AWp.seq (AWp.seq (AWp.ops ?_))) | refine AWp.block (AWp.seq (AWp.ops ?_)) | refine AWp.block (AWp.seq (AWp.seq (AWp.ops ?_))) | refine AWp.seq (AWp.block (AWp.seq (AWp.seq (AWp.ops ?_))))
    simp
    refine AWp.weak (Weak.own 5 3 1 (by omega) none 0 (by simp)) ?_
    simp
    first | refine AWp.seq (AWp.ops ?_) | refine AWp.seq (AWp.seq (AWp.ops ?_)) | refine AWp.ops ?_ | refine AWp.seq (AWp.block (AWp.seq (AWp.ops ?_))) | refine AWp.seq (AWp.seq (AWp.seq (AWp.ops ?_))) | refine AWp.block (AWp.seq (AWp.ops ?_)) | refine AWp.block (AWp.seq (AWp.seq (AWp.ops ?_))) | refine AWp.seq (AWp.block (AWp.seq (AWp.seq (AWp.ops ?_))))
    simp
    obtain ⟨J, hJ⟩ : ∃ J : Nat → List AV → List AObj → Prop, J = fun i fr H => i ≤ xs.length ∧ ∃ (ws : List Int) (vr : Option Bool) (n : Nat), (((ws.length = i ∧ ∀ w ∈ ws, 0 ≤ w ∧ w < 4611686018427387904) ∧ (vr = some true → ws = []) ∧ vr ≠ some false) ∧ n ≤ 1048576 ∧ cntGo xs 1 = (cntGo (xs.drop i) n).map (ws ++ ·)) ∧ H = [tnO (.agg [.imm nl1 c1 sz1 (S.map I), .imm nl2 c2 sz2 (F.map specV), .imm nl c sz (xs.map lvV), .imm nl3 c3 sz3 (V.map I)]), ⟨3, 1, ws.map I, true, vr⟩] ∧
      fr = [.und, .ptr 0 1 0 0, .und, .und, I n, .slc 1 ws.length 0 ws.length none, .und, .und, .und, .und, .und, .imm nl c sz (xs.map lvV), I xs.length, I i, .und, .und, .und, .und, .und, .und, .und, .und, .und, .und, .und, .und, .und, .und, .und, .und, .und, .und, .und] := ⟨_, rfl⟩
    refine AWp.block (AWp.loop J (fun i => xs.length - i) 0 (Weak.slots [1, 5, 4, 11, 12, 13]) (by rw [hJ]; exact ⟨by omega, [], some true, 1, ⟨⟨⟨rfl, by simp⟩, by simp, by simp⟩, by omega, exMap_nil _⟩, by simp, by simp⟩) ?_)
    intro i fr H hI
    rw [hJ] at hI
    obtain ⟨hi, ws, vr, n, hinv, rfl, rfl⟩ := hI
    first | refine AWp.seq (AWp.ops ?_) | refine AWp.seq (AWp.seq (AWp.ops ?_)) | refine AWp.ops ?_ | refine AWp.seq (AWp.block (AWp.seq (AWp.ops ?_))) | refine AWp.seq (AWp.seq (AWp.seq (AWp.ops ?_))) | refine AWp.block (AWp.seq (AWp.ops ?_)) | refine AWp.block (AWp.seq (AWp.seq (AWp.ops ?_))) | refine AWp.seq (AWp.block (AWp.seq (AWp.seq (AWp.ops ?_))))
    simp
    refine AWp.seq (AWp.cond (b := decide (i < xs.length)) (by simp <;> omega) ?_ ?_)
    ·
      intro hb
      have hb : i < xs.length := by simpa using hb
      refine AWp.skip ?_
      simp only [qSeq]
      obtain ⟨⟨⟨hwl, hwv⟩, hv1, hv2⟩, hn', hgo⟩ := hinv
      have hsz4 := sz4_of hs hb
      subst hsz4
      have hgs := lv_get hb
      have hok := hx xs[i] (List.getElem_mem hb)
      rw [List.drop_eq_getElem_cons hb] at hgo
      simp only [cntGo] at hgo
      have hsmx := hsm xs[i] (List.getElem_mem hb)
      generalize xs[i] = x at hgs hok hgo hsmx
      obtain ⟨lv, p, q⟩ := x
      simp only at hgs hok hgo hsmx
      have hok' := hok
      obtain ⟨⟨⟨nlp, cp, szp, rfl, _⟩, _⟩, ⟨⟨nlq, cq, szq, rfl, _⟩, _⟩, _⟩ := hok'
      first | refine AWp.seq (AWp.ops ?_) | refine AWp.seq (AWp.seq (AWp.ops ?_)) | refine AWp.ops ?_ | refine AWp.seq (AWp.block (AWp.seq (AWp.ops ?_))) | refine AWp.seq (AWp.seq (AWp.seq (AWp.ops ?_))) | refine AWp.block (AWp.seq (AWp.ops ?_)) | refine AWp.block (AWp.seq (AWp.seq (AWp.ops ?_))) | refine AWp.seq (AWp.block (AWp.seq (AWp.seq (AWp.ops ?_))))
      simp [hgs]
      first | refine AWp.seq (AWp.ops ?_) | refine AWp.seq (AWp.seq (AWp.ops ?_)) | refine AWp.ops ?_ | refine AWp.seq (AWp.block (AWp.seq (AWp.ops ?_))) | refine AWp.seq (AWp.seq (AWp.seq (AWp.ops ?_))) | refine AWp.block (AWp.seq (AWp.ops ?_)) | refine AWp.block (AWp.seq (AWp.seq (AWp.ops ?_))) | refine AWp.seq (AWp.block (AWp.seq (AWp.seq (AWp.ops ?_))))
      simp
      refine ((r4Below_spec hok hsmx hn').pure (by simp) (by rintro r rfl; simp) _).mono ?_
      rintro r H' ⟨rfl, rfl⟩
      simp
      first | refine AWp.seq (AWp.ops ?_) | refine AWp.seq (AWp.seq (AWp.ops ?_)) | refine AWp.ops ?_ | refine AWp.seq (AWp.block (AWp.seq (AWp.ops ?_))) | refine AWp.seq (AWp.seq (AWp.seq (AWp.ops ?_))) | refine AWp.block (AWp.seq (AWp.ops ?_)) | refine AWp.block (AWp.seq (AWp.seq (AWp.ops ?_))) | refine AWp.seq (AWp.block (AWp.seq (AWp.seq (AWp.ops ?_))))
      simp
      by_cases h : lvCheck lv n = 0
      · obtain ⟨b1, b2, b3, b4, b5, b6, b7⟩ := lvBelow_ok h
        rw [if_pos h] at hgo
        refine AWp.cond (b := false) (by simp [h]) (fun h => by cases h) (fun _ => ?_)
        have b1 : (ws.length + 1) * 8 ≤ 140737488355328 := by omega
        have b2 : ws.length + 1 ≤ 9223372036854775807 := by omega
        have hwi := wrap_i64 (n := (i : Int) + 1) (by omega) (by omega)
        refine AWp.skip ?_
        simp only [qSeq]
        first | refine AWp.seq (AWp.ops ?_) | refine AWp.seq (AWp.seq (AWp.ops ?_)) | refine AWp.ops ?_ | refine AWp.seq (AWp.block (AWp.seq (AWp.ops ?_))) | refine AWp.seq (AWp.seq (AWp.seq (AWp.ops ?_))) | refine AWp.block (AWp.seq (AWp.ops ?_)) | refine AWp.block (AWp.seq (AWp.seq (AWp.ops ?_))) | refine AWp.seq (AWp.block (AWp.seq (AWp.seq (AWp.ops ?_))))
        simp [b1, b2, elems, h]
        first | refine AWp.seq (AWp.ops ?_) | refine AWp.seq (AWp.seq (AWp.ops ?_)) | refine AWp.ops ?_ | refine AWp.seq (AWp.block (AWp.seq (AWp.ops ?_))) | refine AWp.seq (AWp.seq (AWp.seq (AWp.ops ?_))) | refine AWp.block (AWp.seq (AWp.ops ?_)) | refine AWp.block (AWp.seq (AWp.seq (AWp.ops ?_))) | refine AWp.seq (AWp.block (AWp.seq (AWp.seq (AWp.ops ?_))))
        simp
        first | refine AWp.seq (AWp.ops ?_) | refine AWp.seq (AWp.seq (AWp.ops ?_)) | refine AWp.ops ?_ | refine AWp.seq (AWp.block (AWp.seq (AWp.ops ?_))) | refine AWp.seq (AWp.seq (AWp.seq (AWp.ops ?_))) | refine AWp.block (AWp.seq (AWp.ops ?_)) | refine AWp.block (AWp.seq (AWp.seq (AWp.ops ?_))) | refine AWp.seq (AWp.block (AWp.seq (AWp.seq (AWp.ops ?_))))
        simp [hwi]
        obtain ⟨m, hm⟩ : ∃ m : Nat, lvBelow lv n = m := ⟨(lvBelow lv n).toNat, by omega⟩
        rw [hm, Int.toNat_natCast] at hgo
        refine ⟨i + 1, _, _, (Weak.slots [1, 4, 5, 11, 12, 13]).trans (Weak.freeze 2 2 (by simp)), ?_, by omega⟩
        rw [hJ]
        refine ⟨by omega, ws ++ [(m : Int)], none, m, ⟨⟨⟨by simp [hwl], fun w hw => ?_⟩, by simp, by simp⟩, by omega, ?_⟩, ?_, ?_⟩
        · rcases List.mem_append.1 hw with h | h
          · exact hwv w h
          · have : w = m := by simpa using h
            omega
        · rw [hgo]
          generalize cntGo (xs.drop (i + 1)) m = o
          cases o <;> simp [Except.map]
        · simp [frzH, hm]
        · simp [h, hm]
      · rw [if_neg h] at hgo
        refine AWp.cond (b := true) (by simp [h]) (fun _ => ?_) (fun h => by cases h)
        first | refine AWp.seq (AWp.ops ?_) | refine AWp.seq (AWp.seq (AWp.ops ?_)) | refine AWp.ops ?_ | refine AWp.seq (AWp.block (AWp.seq (AWp.ops ?_))) | refine AWp.seq (AWp.seq (AWp.seq (AWp.ops ?_))) | refine AWp.block (AWp.seq (AWp.ops ?_)) | refine AWp.block (AWp.seq (AWp.seq (AWp.ops ?_))) | refine AWp.seq (AWp.block (AWp.seq (AWp.seq (AWp.ops ?_))))
        simp
        refine AWp.ret ?_
        simp
        refine retOk.of rfl ?_
        left
        simp [cntF, hgo, Except.map]
    ·
      intro hb
      have hb : ¬ i < xs.length := by simpa using hb
      refine AWp.exit ?_
      simp [qSeq, qBlock]
      obtain ⟨⟨⟨hwl, hwv⟩, hv1, hv2⟩, hn', hgo⟩ := hinv
      rw [List.drop_eq_nil_of_le (by omega)] at hgo
      simp only [cntGo, Except.map, List.append_nil] at hgo
      have hW : cntF xs = (ws, 0) := by simp [cntF, hgo]
      first | refine AWp.seq (AWp.ops ?_) | refine AWp.seq (AWp.seq (AWp.ops ?_)) | refine AWp.ops ?_ | refine AWp.seq (AWp.block (AWp.seq (AWp.ops ?_))) | refine AWp.seq (AWp.seq (AWp.seq (AWp.ops ?_))) | refine AWp.block (AWp.seq (AWp.ops ?_)) | refine AWp.block (AWp.seq (AWp.seq (AWp.ops ?_))) | refine AWp.seq (AWp.block (AWp.seq (AWp.seq (AWp.ops ?_))))
      simp
      refine AWp.ret ?_
      simp
      refine retOk.of rfl ?_
      rw [hW]
      exact .inr ⟨rfl, ⟨by show ws.length ≤ _; omega, fun x hx => by have := hwv x hx; omega⟩, vr, hv1, hv2, by simp, by simp⟩
  refine (base.frozen 2).mono ?_
  rintro q H' ⟨rfl, r, G, ⟨rfl, h1⟩ | ⟨h0, h1, v, hv1, hv2, rfl, h2⟩, rfl⟩
  · exact ⟨rfl, _, by simp; rfl, by rw [h1]; exact ⟨⟨true, none, 0, rfl, by simp, by simp⟩, by simp, by simp⟩⟩
  · refine ⟨rfl, _, by simp [h0]; rfl, ?_⟩
    match v, hv1, hv2 with
    | some true, hv1, _ =>
      have h3 := hv1 rfl
      rw [h3]
      exact ⟨⟨true, none, 1, by simp [h2, h3], by simp, by simp⟩, by simp, by simp⟩
    | none, _, _ => exact ⟨⟨false, none, 1, by simp [h2], by simp, by simp⟩, h1⟩
    | some false, _, h => exact absurd rfl h

end Go.Fw
