import Derived.Test.YthipbeffhfdamaaFwstore12
import Derived.Test.YthipbeffhfdamaaFwonce1
import Derived.Test.YthipbeffhfdamaaFwlive05
namespace Go.Fw
open Go Go.RowKit Go.Proofs
set_option maxRecDepth 100000
set_option linter.unusedSimpArgs false
set_option linter.unusedVariables false

theorem Clone_pure {a : AV} {xs : List Int} (ha : ISl a xs) (hl : xs.length ≤ 1000000) : ACalls Try.prog 48 [a] [] fun r H' => H' = [] ∧ ISl r xs := by
  obtain ⟨⟨nl, c, sz, rfl, hs⟩, hlen, hx⟩ := ha
  refine ((Clone_spec (c := c) hs hl).frozen 3).mono ?_
  rintro q H' ⟨rfl, r, G, hR, rfl⟩
  refine ⟨rfl, ?_⟩
  unfold cloneR at hR
  split at hR
  · rename_i h
    obtain ⟨rfl, rfl⟩ := hR
    rw [hs.1 h]
    simp
    exact ISl.nil
  · split at hR
    · rename_i h
      obtain ⟨rfl, rfl⟩ := hR
      rw [h]
      simp
      exact ISl.of (xs := []) _ (by simp) (by simp)
    · obtain ⟨rfl, rfl⟩ := hR
      simp
      exact ISl.of _ (by omega) hx

theorem rd_len (Vs : List Int) : ∀ (L : List (List Int × Nat)) (W : List (List Int × Int)), (L.foldl (fun s q => rdStep Vs s q.1 q.2) W).length = W.length + L.length
  | [], W => rfl
  | q :: L, W => by rw [List.foldl_cons, rd_len Vs L]; simp [rdStep]; omega
theorem rd_list (Vs : List Int) : ∀ (L : List (List Int × Nat)) (W : List (List Int × Int)), L.foldl (fun s q => rdStep Vs s q.1 q.2) W = W ++ L.map fun q => (q.1, Vs.getD q.2 0)
  | [], W => by simp
  | q :: L, W => by rw [List.foldl_cons, rd_list Vs L]; simp [rdStep]
theorem rd_good {V0 : List Int → Nat → Prop} {Vs : List Int} {B : Nat} : ∀ {xs : List LvA} {fs : List (Int × Int × Int)} {c : List Int} {p : Nat}, Good V0 xs fs c p → ∀ (W : List (List Int × Int)), W.length + (walkL xs fs c p).length ≤ B + 1 →
    GoodS (fun W c p => V0 c p ∧ W.length ≤ B) (rdStep Vs) xs fs c p W
  | [], fs, c, p, h, W, hW => by
    refine ⟨h, ?_⟩
    cases fs <;> simp [walkL] at hW <;> omega
  | x :: xs, [], c, p, h, W, hW => h.elim
  | x :: xs, f :: fs, c, p, h, W, hW => by
    refine ⟨h.1, fun a ha => ⟨(h.2 _ (List.getElem_mem ha)).1, rd_good (h.2 _ (List.getElem_mem ha)).2 _ ?_⟩⟩
    simp only [walkL] at hW
    have e : ((kidsF x.lv p).take a).foldl (fun s y => walkF (rdStep Vs) xs fs (stepC f c y.1) y.2.toNat s) W = (((kidsF x.lv p).take a).flatMap fun y => walkL xs fs (stepC f c y.1) y.2.toNat).foldl (fun s q => rdStep Vs s q.1 q.2) W := by
      rw [foldl_flat]
      exact foldl_same _ _ fun y _ s => walkF_list (rdStep Vs) xs fs _ _ s
    rw [e, rd_len]
    have hsp : (kidsF x.lv p).flatMap (fun y => walkL xs fs (stepC f c y.1) y.2.toNat) = ((kidsF x.lv p).take a).flatMap (fun y => walkL xs fs (stepC f c y.1) y.2.toNat) ++ (walkL xs fs (stepC f c (kidsF x.lv p)[a].1) (kidsF x.lv p)[a].2.toNat ++ ((kidsF x.lv p).drop (a + 1)).flatMap (fun y => walkL xs fs (stepC f c y.1) y.2.toNat)) := by
      conv => lhs; rw [← List.take_append_drop a (kidsF x.lv p), List.flatMap_append, List.drop_eq_getElem_cons ha, List.flatMap_cons]
    rw [hsp] at hW
    simp only [List.length_append] at hW
    omega

/-- Lists of entries. -/
def EnL (a : AV) (W : List (List Int × Int)) : Prop := ∃ nl c sz es, a = .imm nl c sz es ∧ (nl = true → W = []) ∧ (nl = false → sz = 2) ∧ Ents es W
/-- A tensor's entries. -/
def entF (F : List (Int × Int × Int)) (xs : List LvA) (S Vs : List Int) : List (List Int × Int) := (walkL xs F (List.replicate S.length 0) 0).map fun q => (q.1, Vs.getD q.2 0)

set_option maxHeartbeats 2000000 in
theorem sRead_ok {sh f l v : AV} {S Vs : List Int} {F : List (Int × Int × Int)} {xs : List LvA} (hS : ISl sh S) (hF : Sp f F) (hl : Ls l xs) (hV : ISl v Vs) (hn : xs.length ≤ 1000) (hfn : F.length ≤ 1000) (hVl : Vs.length ≤ 1000000) (h : tnCheck S F xs Vs = 0) :
    ACalls Try.prog 20 [.agg [sh, f, l, v]] [] fun r H' => H' = [] ∧ ∃ s e, r = .tup [.agg [s, e], I 0] ∧ ISl s S ∧ EnL e (entF F xs S Vs) := by
  have hS' := hS
  have hF' := hF
  have hl' := hl
  have hV' := hV
  obtain ⟨⟨nl, cl, sz, rfl, hs⟩, hlen, hx⟩ := hl
  obtain ⟨⟨nl1, c01, sz1, rfl, hs1⟩, hlen1, hx1⟩ := hS
  obtain ⟨⟨nl2, c02, sz2, rfl, hs2⟩, hlen2, hx2⟩ := hF
  obtain ⟨⟨nl3, c3, sz3, rfl, hs3⟩, hlen3, hx3⟩ := hV
  have htn : ∀ H k, frz H k 3 true (AV.agg [.imm nl1 c01 sz1 (S.map I), .imm nl2 c02 sz2 (F.map specV), .imm nl cl sz (xs.map lvV), .imm nl3 c3 sz3 (Vs.map I)]) = .agg [.imm nl1 c01 sz1 (S.map I), .imm nl2 c02 sz2 (F.map specV), .imm nl cl sz (xs.map lvV), .imm nl3 c3 sz3 (Vs.map I)] := fun H k => by simp
  have hS4 : S.length ≤ 1000 := by
    have h0 := (tnCheck_ok h).1
    have := cells_len (sizesF_ok h0 (fun s hs => (hx2 s hs).2.2.2)).1
    omega
  have hfl : F.length = xs.length := (tnCheck_ok h).2.1.symm
  obtain ⟨w1, w2, w3⟩ := tn_walk hx1 h
  have hWl : (walkL xs F (List.replicate S.length 0) 0).length = Vs.length := by
    have := congrArg List.length w1
    simpa using this
  have hgood : GoodS (fun W c p => RdV Vs c p ∧ W.length ≤ 1048576) (rdStep Vs) xs F (List.replicate S.length 0) 0 [] := by
    refine rd_good ((tn_good hx1 h).mono ?_) [] (by simp; omega)
    rintro c p ⟨hi, hp⟩
    refine ⟨hp, ⟨by rw [hi.1]; exact hlen1, fun x hxc => ?_⟩, by rw [hi.1]; exact hS4⟩
    obtain ⟨i, hil, rfl⟩ := List.mem_iff_getElem.1 hxc
    have h2 := hi.2 i (by rw [← hi.1]; exact hil)
    have e1 : c.getD i 0 = c[i] := by simp [hil]
    have hiS : i < S.length := by rw [← hi.1]; exact hil
    have e2 : S.getD i 0 = S[i] := by simp [hiS]
    have := hx1 S[i] (List.getElem_mem hiS)
    rw [e1, e2] at h2
    omega
  have base : ACalls Try.prog 20 [.agg [.imm nl1 c01 sz1 (S.map I), .imm nl2 c02 sz2 (F.map specV), .imm nl cl sz (xs.map lvV), .imm nl3 c3 sz3 (Vs.map I)]] [] fun r G => ∃ s, ISl s S ∧ r = .tup [.agg [s, .slc 3 (entF F xs S Vs).length 0 (entF F xs S Vs).length none], I 0] ∧
      ∃ es vr, G[3]? = some ⟨52, 2, es, true, vr⟩ ∧ Ents es (entF F xs S Vs) ∧ (vr = some true → entF F xs S Vs = []) ∧ vr ≠ some false := by
    apply sRead_call
    repeat first | refine AWp.seq ?_ | refine AWp.block ?_
    refine AWp.ops ?_
    simp
    repeat first | refine AWp.seq ?_ | refine AWp.block ?_
    refine AWp.ops ?_
    simp
    refine ((sCheck_spec hS' hF' hl' hV' hn hfn).pure (by simp) (by rintro r rfl; simp) _).mono ?_
    rintro r H' ⟨rfl, rfl⟩
    simp
    repeat first | refine AWp.seq ?_ | refine AWp.block ?_
    refine AWp.ops ?_
    simp
    refine AWp.cond (b := false) (by simp [h]) (fun h => by cases h) (fun _ => ?_)
    refine AWp.skip ?_
    simp only [qSeq]
    repeat first | refine AWp.seq ?_ | refine AWp.block ?_
    refine AWp.ops ?_
    simp
    refine ((Clone_pure hS' (by omega)).pure (by simp) (by rintro r ⟨⟨nl, c, sz, rfl, _⟩, _⟩; simp) _).mono ?_
    rintro r H' ⟨rfl, hr⟩
    have hr' := hr
    obtain ⟨⟨nl5, c5, sz5, rfl, hs5⟩, hlen5, hx5⟩ := hr
    simp
    refine AWp.weak (Weak.ownIn 2 0 1 52 2 (by omega) (o := ⟨48, 2, [.agg [.imm nl5 c5 sz5 (S.map I), .imm true none 0 []]], true, none⟩) (cs := [.imm nl5 c5 sz5 (S.map I), .imm true none 0 []]) (c := none) (sz' := 0) (by simp) rfl (by simp) (by simp)) ?_
    simp
    repeat first | refine AWp.seq ?_ | refine AWp.block ?_
    refine AWp.ops ?_
    simp
    refine (walk_spec (n0 := 4) (P := fun K W => RdP 2 (.imm nl5 c5 sz5 (S.map I)) (.agg [.imm nl1 c01 sz1 (S.map I), .imm nl2 c02 sz2 (F.map specV), .imm nl cl sz (xs.map lvV), .imm nl3 c3 sz3 (Vs.map I)]) K W) (step := rdStep Vs) (V := fun W c p => RdV Vs c p ∧ W.length ≤ 1048576) (s := []) hS' hF' hl' hV' hfl hS4
      (fun K s o h => h.same fun i hi => gs_ne (by omega))
      (fun K s G hK h => (h.same fun i hi => List.getElem?_append_left (by omega)).frz htn (by simp) (by omega))
      (fun H => by simp)
      (fun ty1 ty3 ty4 K ws c p hw h hv => Read1_spec hS' hF' hl' hV' (by simp) hw h hv.1 hv.2)
      (fun K s G hK h => h.same fun i hi => List.getElem?_append_left (by omega))
      (fun K s hK h => h.frz htn (by simp) (by omega)) (by simp) ⟨by omega, rfl, rfl, rfl, [], some true, rfl, Ents.nil, by simp, by simp⟩ hgood).mono ?_
    rintro r K' ⟨rfl, hKl, hP'⟩
    rw [walkF_list, rd_list, List.nil_append] at hP'
    change RdP _ _ _ K' (entF F xs S Vs) at hP'
    simp
    obtain ⟨-, p0, p1, pd, es, vr, pe, q1, q2, q3⟩ := id hP'
    repeat first | refine AWp.seq ?_ | refine AWp.block ?_
    refine AWp.ops ?_
    simp [pd, p1]
    refine AWp.ret ?_
    simp
    refine retOk.of (by simp [gs_eq p1]; rfl) ?_
    simp
    refine ⟨_, hr', rfl, es, vr, pe, q1, q2, by simpa using q3⟩
  refine (base.frozen 4).mono ?_
  rintro q H' ⟨rfl, r, G, ⟨s, ⟨⟨nl5, c5, sz5, rfl, hs5⟩, hlen5, hx5⟩, rfl, es, vr, hG, q1, q2, q3⟩, rfl⟩
  have hel := q1.1
  have hes : es.map (frz G 0 1 false) = es := by
    apply List.ext_getElem (by simp)
    intro i h3 h4
    simp only [List.getElem_map]
    obtain ⟨a, ha, ⟨nl, c, sz, rfl, _⟩, _⟩ := q1.2 i h4 (by omega)
    rw [ha]
    simp
  refine ⟨rfl, .imm nl5 c5 sz5 (S.map I), ?_⟩
  match vr, q2, q3 with
  | some true, q2, _ =>
    have h3 := q2 rfl
    have h4 : es = [] := by rw [h3] at hel; simpa using hel
    refine ⟨.imm true none 2 [], by simp [hG, h3, h4], ⟨⟨nl5, c5, sz5, rfl, hs5⟩, hlen5, hx5⟩, true, none, 2, [], rfl, fun _ => h3, by simp, by rw [h3]; exact Ents.nil⟩
  | none, _, _ =>
    refine ⟨.imm false none 2 es, by simp [hG, hes, hel], ⟨⟨nl5, c5, sz5, rfl, hs5⟩, hlen5, hx5⟩, false, none, 2, es, rfl, by simp, by simp, q1⟩
  | some false, _, h => exact absurd rfl h
end Go.Fw
