import Derived.Test.YtgdkdojjfijipaaFwslices
import Derived.Test.YtgdkdojjfijipaaFwback1
namespace Go.Fw
open Go Go.RowKit Go.Proofs Go.Shelf
set_option maxRecDepth 100000
set_option linter.unusedSimpArgs false
set_option linter.unusedVariables false

/-- The numbers below N, the least first. -/
def ups (N : Nat) : List (Fin N) := List.ofFn fun i => i
theorem ups_len (N : Nat) : (ups N).length = N := by simp [ups]
theorem ups_take {N k : Nat} (h : k < N) : (ups N).take (k + 1) = (ups N).take k ++ [⟨k, h⟩] := by
  have hb : k < (ups N).length := by rw [ups_len]; exact h
  rw [List.take_succ_eq_append_getElem hb]
  congr 2
  simp [ups]
def uvals (zs : List Int) (x : Fin zs.length) : List Value := [.int .i64 (zs[x.1]?.getD 0)]

set_option maxHeartbeats 2000000 in
/-- What slices.Values hands back goes through a slice. -/
theorem vals1_in (F : Fence) (n : Nat) (hF : F.fn 87) (hro : F.round = none) (hn : 1 ≤ n) (l Bs o0 b off cap : Nat) (zs : List Int) (hlen : zs.length ≤ 1000) (Pr : Nat → Prop) (hP1 : Pr Bs) (hP2 : Pr b) (J Jx : List (Fin zs.length) → World → Prop)
    (hY : ∀ pre x W, J pre W → pre.length < zs.length → YieldAt F (n - 1) Try.prog l #[.int .i64 (zs[x.1]?.getD 0)] W fun e W' =>
      (e = .returned (.bool true) ∧ J (pre ++ [x]) W' ∧ KeepP Pr W W') ∨ (e = .returned (.bool false) ∧ Jx (pre ++ [x]) W'))
    (W : World) (hBs : W.cell? ⟨Bs, o0, none⟩ = some (.slice (some ⟨b, off, none⟩) zs.length cap)) (hc : ∀ j, j < zs.length → W.cell? ⟨b, off + j, none⟩ = some (.int .i64 (zs[j]?.getD 0))) (h0 : J [] W) :
    CallsIn F n Try.prog 87 #[.func (.yield l) #[] #[], .pointer (some ⟨Bs, o0, none⟩)] W fun e W' => (∃ v, e = .returned v) ∧
      ((∃ ys, ys = ups zs.length ∧ J ys W') ∨ (∃ pre, True ∧ Jx pre W')) := by
  refine callsIn_of_wp Try.func87 rfl hF ?_ hro
  simp only [Try.ntmps87, List.size_toArray, List.length_cons, List.length_nil, Nat.reduceAdd, Nat.reduceSub, Array.replicate_succ, Array.replicate_zero, List.push_toArray, List.append_toArray, List.nil_append, List.cons_append]
  gi_wp2
  show Code.wpIn F n _ _ _ _ _
  gi_loopw [7] (fun i wr => ∃ k : Nat, k ≤ zs.length ∧ i = .int .i64 (k : Int) ∧ J ((ups zs.length).take k) wr ∧ KeepP Pr W wr)
    (fun i _ => ((zs.length : Int) - intOf i).toNat)
  case atStart => exact ⟨0, by omega, rfl, by simpa using h0, fun _ _ => rfl⟩
  case round =>
    obtain ⟨k, hk, rfl, hJs, hnx⟩ := hrel
    by_cases hlt : k < zs.length
    · have hcx : wr.cell? ⟨b, off + k, none⟩ = some (.int .i64 (zs[k]?.getD 0)) := (World.cell?_of_block (hnx b hP2)).trans (hc k hlt)
      obtain ⟨fn, tmps, assign, body, hy, hR⟩ := hY _ ⟨k, hlt⟩ wr hJs (by simp [ups_len]; omega)
      have hzq : zs[k]?.getD 0 = zs[k] := by simp [hlt]
      dsimp only at hy
      rw [hzq] at hy hcx
      have htk := ups_take hlt
      have hg1 : (k : Int) < zs.length := by omega
      gi_wp2
      refine hR.mono ?_
      rintro e W3 (⟨rfl, hJ3, hk3⟩ | ⟨rfl, hJx3⟩)
      · gi_wp2
        go_roundw
        case rel => exact ⟨k + 1, by omega, by simp, by rw [htk]; exact hJ3, fun b hb => (hk3 b hb).trans (hnx b hb)⟩
        case measure => simp [intOf]; omega
      · gi_wp2
        refine bodyPost_ret (results_none rfl _ _ _) rfl ?_
        exact ⟨⟨_, rfl⟩, .inr ⟨_, trivial, hJx3⟩⟩
    · have hke : k = zs.length := by omega
      subst hke
      have hg1 : ¬ ((zs.length : Int) < zs.length) := by omega
      gi_wp2
      go_end0
      rw [List.take_of_length_le (by rw [ups_len]; omega)] at hJs
      exact ⟨⟨_, rfl⟩, .inl hJs⟩
set_option maxHeartbeats 1000000 in
/-- .. an empty one: there is none. -/
theorem vals1_nil_in (F : Fence) (n : Nat) (hF : F.fn 87) (hro : F.round = none) (l Bs o0 : Nat) (A : Option Addr) (cap : Nat) {α : Type} (J : List α → World → Prop) (W : World) (hBs : W.cell? ⟨Bs, o0, none⟩ = some (.slice A 0 cap)) (h0 : J [] W) :
    CallsIn F n Try.prog 87 #[.func (.yield l) #[] #[], .pointer (some ⟨Bs, o0, none⟩)] W fun e W' => (∃ v, e = .returned v) ∧ J [] W' := by
  refine callsIn_of_wp Try.func87 rfl hF ?_ hro
  simp only [Try.ntmps87, List.size_toArray, List.length_cons, List.length_nil, Nat.reduceAdd, Nat.reduceSub, Array.replicate_succ, Array.replicate_zero, List.push_toArray, List.append_toArray, List.nil_append, List.cons_append]
  gi_wp2
  show Code.wpIn F n _ _ _ _ _
  gi_loopw [7] (fun i wr => i = .int .i64 0 ∧ J [] wr) (fun _ _ => 0)
  case atStart => exact ⟨rfl, h0⟩
  case round =>
    obtain ⟨rfl, hJs⟩ := hrel
    gi_wp2
    go_end0
    exact ⟨⟨_, rfl⟩, hJs⟩

/-- **slices.Values' function value goes through the slice.** -/
theorem vals_stops {nl : Bool} {c : Option Nat} {sz : Nat} {xs : List Int} (hs : (nl = true → xs = []) ∧ (nl = false → sz = 1)) (hlen : xs.length ≤ 1000) (w : World) (Wq : Nat → Prop) (v : Value) (h : RI w Wq (.ipt (.imm nl c sz (xs.map I)) 0) v) (_hW : ∀ b, Wq b → b < w.heap.size) :
    SeqStopsK (fenceR none) 8 Try.prog 87 #[v] (fun x => (uvals xs x).toArray) (KeepP fun b => b < w.heap.size ∧ ¬ Wq b) (fun ys => ys = ups xs.length) (fun _ => True) xs.length w := by
  cases h with
  | @ipt a e f cv hcell hrv =>
    obtain ⟨h1, h2⟩ := hcell 0 (by simp [cellsOf])
    have h3 := hrv 0 (by simp [cellsOf])
    simp only [cellsOf, List.getElem_cons_zero] at h3
    rw [add_zero] at h1 ⊢
    have ea := addr_eq h1
    have hb1 := block_lt h1
    intro l J Jx W hB _ _ hY h0
    rw [ea]
    rw [ea] at h1 hb1 h2
    simp only at hb1 h2
    have h1' : W.cell? ⟨a.block, a.off, none⟩ = some (cv 0) := (World.cell?_of_block (a := ⟨a.block, a.off, none⟩) (hB.block _ hb1)).trans h1
    have nilc : ∀ (A : Option Addr) (cap : Nat), cv 0 = .slice A 0 cap → xs = [] → CallsIn (fenceR none) 8 Try.prog 87 (#[.func (.yield l) #[] #[]] ++ #[.pointer (some ⟨a.block, a.off, none⟩)]) W fun e W' => (∃ v, e = .returned v) ∧ ((∃ ys, ys = ups xs.length ∧ J ys W') ∨ (∃ pre, True ∧ Jx pre W')) := by
      intro A cap e1 e2
      subst e2
      rw [e1] at h1'
      exact (vals1_nil_in (fenceR none) 8 trivial rfl l a.block a.off A cap J W h1' h0).mono fun e W' ⟨he, hj⟩ => ⟨he, .inl ⟨[], rfl, hj⟩⟩
    generalize hcv : cv 0 = sv at h3
    obtain ⟨L, hL⟩ : ∃ L, L = xs.map I := ⟨_, rfl⟩
    rw [← hL] at h3
    cases h3 with
    | nil => exact nilc none 0 hcv (hs.1 rfl)
    | nilx _ _ hcx => exact nilc none 0 hcv (by simpa using hL.symm)
    | @imm ad n cap _ _ _ cv2 hn hcap hc hcell2 hsz hrv2 =>
      subst hL
      have hsz1 := hs.2 rfl
      subst hsz1
      have hn' : n = xs.length := by simpa using hn.symm
      subst hn'
      by_cases hx0 : xs = []
      · exact nilc (some ad) cap (by rw [hcv, hx0]; rfl) hx0
      · have hpos : 0 < xs.length := List.length_pos_iff.2 hx0
        have hc0 := (hcell2 0 0 hpos (by omega)).1
        rw [show 0 * 1 + 0 = 0 by omega, add_zero] at hc0
        have ead := addr_eq hc0
        have hb2 := block_lt hc0
        have hw2 := (hcell2 0 0 hpos (by omega)).2
        have hcells : ∀ j, j < xs.length → W.cell? ⟨ad.block, ad.off + j, none⟩ = some (.int .i64 (xs[j]?.getD 0)) := by
          intro j hj
          have h5 := (hcell2 j 0 hj (by omega)).1
          have h6 := hrv2 j 0 (by simpa using hj) (by simp [cellsOf])
          simp only [List.getElem_map, cellsOf, List.getElem_cons_zero] at h6
          have h7 : cv2 j 0 = .int .i64 (xs[j]?.getD 0) := by
            generalize cv2 j 0 = u at h6
            cases h6
            simp [hj]
          have e8 : ad.add (j * 1 + 0) = ⟨ad.block, ad.off + j, none⟩ := by
            rw [ead]
            unfold Addr.add
            split
            · rename_i h; simp at h; simp [h]
            · simp
          rw [e8, h7] at h5
          exact (World.cell?_of_block (a := ⟨ad.block, ad.off + j, none⟩) (hB.block _ hb2)).trans h5
        rw [hcv, ead] at h1'
        exact vals1_in (fenceR none) 8 trivial rfl (by omega) l a.block a.off ad.block ad.off cap xs hlen _ ⟨hb1, h2⟩ ⟨hb2, hw2⟩ J Jx hY W h1' hcells h0

def Vals_ac : AC := (.seq (.ops [⟨(some 1), none, (.k (.new 22 1 (.t 0)))⟩, ⟨(some 2), none, (.k (.mov (.c (.sc .nilFunc))))⟩]) (.seq (.ops [⟨(some 3), none, (.k (.mkF (.func 87) [] [(.t 1)]))⟩, ⟨(some 2), none, (.k (.mov (.t 3)))⟩]) .ret))
theorem Vals_call {args : List AV} {H : List AObj} {R : AV → List AObj → Prop} (h : AWp Try.prog [] H.length Vals_ac (bodyQ H.length [(.t 2)] R) (args ++ List.replicate (4 - args.length) .und) H) : ACalls Try.prog 74 args H R :=
  ACalls.of_fn Try.func74 rfl (by kernel_rfl) rfl Try.ntmps74 h

theorem Vals_spec {a : AV} {xs : List Int} (ha : ISl a xs) : ACalls Try.prog 74 [a] [] fun r H' => H' = [] ∧ r = .fn (.func 87) [] [.ipt a 0] := by
  obtain ⟨⟨nl, c, sz, rfl, hs⟩, hlen, hx⟩ := ha
  have base : ACalls Try.prog 74 [.imm nl c sz (xs.map I)] [] fun r G => r = .fn (.func 87) [] [.ptr 0 1 0 0] ∧ G = [⟨22, 1, [.imm nl c sz (xs.map I)], true, none⟩] := by
    apply Vals_call
    repeat first | refine AWp.seq ?_ | refine AWp.block ?_
    refine AWp.ops ?_
    simp
    repeat first | refine AWp.seq ?_ | refine AWp.block ?_
    refine AWp.ops ?_
    simp
    refine AWp.ret ?_
    simp
    refine retOk.of rfl ⟨by simp, rfl⟩
  refine (base.frozen 4).mono ?_
  rintro q H' ⟨rfl, r, G, ⟨rfl, rfl⟩, rfl⟩
  exact ⟨rfl, by simp⟩

def AppSeq_5 : AC := (.block 1 (.ops [⟨(some 8), none, (.k (.ld 1 false (.t 2)))⟩, ⟨(some 9), none, (.k (.mov (.t 5)))⟩, ⟨(some 10), none, (.k (.lit 1 [(.t 9)]))⟩, ⟨(some 11), none, (.k (.app 3 1 8 (.t 8) (.t 10)))⟩, ⟨none, none, (.k (.st 1 (.t 2) (.t 11)))⟩]))
def AppSeq_4 : AC := (.range (.t 6) [7] [(5, 7)] AppSeq_5)
def AppSeq_3 : AC := (.block 0 AppSeq_4)
def AppSeq_2 : AC := (.seq (.ops [⟨(some 6), none, (.k (.mov (.t 1)))⟩]) AppSeq_3)
def AppSeq_1 : AC := (.seq AppSeq_2 (.seq (.ops [⟨(some 12), none, (.k (.ld 1 false (.t 2)))⟩, ⟨(some 4), none, (.k (.mov (.t 12)))⟩]) .ret))
def AppSeq_ac : AC := (.seq (.ops [⟨(some 2), none, (.k (.new 22 1 (.t 0)))⟩, ⟨(some 4), none, (.k (.mov (.c (.imm true none 0 []))))⟩]) AppSeq_1)
theorem AppSeq_call {args : List AV} {H : List AObj} {R : AV → List AObj → Prop} (h : AWp Try.prog [] H.length AppSeq_ac (bodyQ H.length [(.t 4)] R) (args ++ List.replicate (13 - args.length) .und) H) : ACalls Try.prog 89 args H R :=
  ACalls.of_fn Try.func89 rfl (by kernel_rfl) rfl Try.ntmps89 h

/-- A list of the call's own. -/
def gotR (xs : List Int) (r : AV) (G : List AObj) : Prop := ∃ vr, (vr = some true → xs = []) ∧ vr ≠ some false ∧ r = .slc 0 xs.length 0 xs.length none ∧ G[0]? = some ⟨3, 1, xs.map I, true, vr⟩

set_option maxHeartbeats 2000000 in
theorem AppSeq_spec {a : AV} {xs : List Int} (ha : ISl a xs) (hl : xs.length ≤ 1000) : ACalls Try.prog 89 [.imm true none 0 [], .fn (.func 87) [] [.ipt a 0]] [] (gotR xs) := by
  obtain ⟨⟨nl, c, sz, rfl, hs⟩, hlen, hx⟩ := ha
  apply AppSeq_call
  refine AWp.weak (Weak.own 0 3 1 (by omega) none 0 (by simp)) ?_
  simp
  repeat first | refine AWp.seq ?_ | refine AWp.block ?_
  refine AWp.ops ?_
  simp
  repeat first | refine AWp.seq ?_ | refine AWp.block ?_
  refine AWp.ops ?_
  simp
  refine AWp.block ?_
  refine AWp.rangeN (N := xs.length) (vals := uvals xs) (order := ups xs.length) (gf := 87) (cap := .ipt (.imm nl c sz (xs.map I)) 0) ?_ ?_ Try.func87 rfl rfl ?_ (by simp) ?_
    (fun pre H => ∃ vr, ∃ ys : List Int, ys = pre.map (fun x => xs[x.1]) ∧ (vr = some true → ys = []) ∧ vr ≠ some false ∧ H = [⟨3, 1, ys.map I, true, vr⟩, ⟨22, 1, [.slc 0 ys.length 0 ys.length none], true, none⟩]) ?_ ?_ ?_
  · intro x v hv
    simp [uvals] at hv
    subst hv; rfl
  · intro x; rfl
  · simp
  · intro w W v hri hW
    exact vals_stops hs hl w W v hri hW
  · exact ⟨some true, [], by simp, by simp, by simp, by simp⟩
  · rintro pre x H hpN ⟨vr, ys, hys, hv1, hv2, rfl⟩
    obtain ⟨i, hi⟩ := x
    have hgi : xs[i]?.getD 0 = xs[i] := by simp [hi]
    have hyl : ys.length = pre.length := by rw [hys]; simp
    have b1 : (ys.length + 1) * 8 ≤ 140737488355328 := by omega
    have b2 : ys.length + 1 ≤ 9223372036854775807 := by omega
    simp only [uvals, mvF, psF]
    rw [hgi]
    simp
    refine AWp.block (AWp.ops ?_)
    simp [b1, b2]
    exact ⟨_, Weak.refl _ _ _, none, by simp, by simp, by simp [hys]⟩
  · rintro H ⟨vr, ys, hys, hv1, hv2, rfl⟩
    have hmap : ((ups xs.length).map fun x => xs[x.1]) = xs := by
      apply List.ext_getElem (by simp [ups_len])
      intro i h1 h2
      simp [ups]
    rw [hmap] at hys
    subst hys
    simp [qSeq, qBlock]
    repeat first | refine AWp.seq ?_ | refine AWp.block ?_
    refine AWp.ops ?_
    simp
    refine AWp.ret ?_
    simp
    refine retOk.of rfl ⟨vr, hv1, hv2, by simp, rfl⟩
end Go.Fw
