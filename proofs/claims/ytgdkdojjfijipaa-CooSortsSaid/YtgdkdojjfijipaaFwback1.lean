import Derived.Test.YtgdkdojjfijipaaFwX
import Derived.Test.YtgdkdojjfijipaaFwslices
import Derived.RangeFuncBox
import Derived.RangeFuncLeaves
import Derived.Shelf.Abstract
import Derived.WalkKit
import Derived.OwnWalkIn
import Derived.TacticsInMore
import Derived.LoopNIn
import Derived.LoopIn
namespace Go.Fw
open Go Go.RowKit Go.Proofs Go.Shelf
set_option maxRecDepth 100000
set_option linter.unusedSimpArgs false
set_option linter.unusedVariables false

/-- The numbers below N, the greatest first. -/
def downs (N : Nat) : List (Fin N) := List.ofFn Fin.rev
theorem downs_len (N : Nat) : (downs N).length = N := by simp [downs]
theorem downs_take {N k : Nat} (h : k < N) : (downs N).take (k + 1) = (downs N).take k ++ [⟨N - 1 - k, by omega⟩] := by
  have hb : k < (downs N).length := by rw [downs_len]; exact h
  rw [List.take_succ_eq_append_getElem hb]
  congr 2
  simp only [downs, List.getElem_ofFn]
  apply Fin.ext
  simp only [Fin.val_rev]
  omega
def bvals (zs : List Int) (x : Fin zs.length) : List Value := [.int .i64 (x.1 : Int), .int .i64 (zs[x.1]?.getD 0)]

set_option maxHeartbeats 2000000 in
/-- What slices.Backward hands back goes through a slice from behind. -/
theorem back1_in (F : Fence) (n : Nat) (hF : F.fn 88) (hro : F.round = none) (hn : 1 ≤ n) (l Bs o0 b off cap : Nat) (zs : List Int) (hlen : zs.length ≤ 1000) (Pr : Nat → Prop) (hP1 : Pr Bs) (hP2 : Pr b) (J Jx : List (Fin zs.length) → World → Prop)
    (hY : ∀ pre x W, J pre W → pre.length < zs.length → YieldAt F (n - 1) Try.prog l #[.int .i64 (x.1 : Int), .int .i64 (zs[x.1]?.getD 0)] W fun e W' =>
      (e = .returned (.bool true) ∧ J (pre ++ [x]) W' ∧ KeepP Pr W W') ∨ (e = .returned (.bool false) ∧ Jx (pre ++ [x]) W'))
    (W : World) (hBs : W.cell? ⟨Bs, o0, none⟩ = some (.slice (some ⟨b, off, none⟩) zs.length cap)) (hc : ∀ j, j < zs.length → W.cell? ⟨b, off + j, none⟩ = some (.int .i64 (zs[j]?.getD 0))) (h0 : J [] W) :
    CallsIn F n Try.prog 88 #[.func (.yield l) #[] #[], .pointer (some ⟨Bs, o0, none⟩)] W fun e W' => (∃ v, e = .returned v) ∧
      ((∃ ys, ys = downs zs.length ∧ J ys W') ∨ (∃ pre, True ∧ Jx pre W')) := by
  refine callsIn_of_wp Try.func88 rfl hF ?_ hro
  simp only [Try.ntmps88, List.size_toArray, List.length_cons, List.length_nil, Nat.reduceAdd, Nat.reduceSub, Array.replicate_succ, Array.replicate_zero, List.push_toArray, List.append_toArray, List.nil_append, List.cons_append]
  gi_wp2
  show Code.wpIn F n _ _ _ _ _
  gi_loopw [3] (fun i wr => ∃ k : Nat, k ≤ zs.length ∧ i = .int .i64 ((k : Int) - 1) ∧ J ((downs zs.length).take (zs.length - k)) wr ∧ KeepP Pr W wr)
    (fun i _ => (intOf i + 1).toNat)
  case atStart => exact ⟨zs.length, Nat.le_refl _, rfl, by simpa using h0, fun _ _ => rfl⟩
  case round =>
    obtain ⟨k, hk, rfl, hJs, hnx⟩ := hrel
    have hbs : wr.cell? ⟨Bs, o0, none⟩ = some (.slice (some ⟨b, off, none⟩) zs.length cap) := (World.cell?_of_block (hnx Bs hP1)).trans hBs
    cases k with
    | zero =>
      gi_wp2
      go_end0
      rw [List.take_of_length_le (by rw [downs_len]; omega)] at hJs
      exact ⟨⟨_, rfl⟩, .inl ⟨_, rfl, hJs⟩⟩
    | succ q =>
      have hlt : q < zs.length := by omega
      have hcx : wr.cell? ⟨b, off + q, none⟩ = some (.int .i64 (zs[q]?.getD 0)) := (World.cell?_of_block (hnx b hP2)).trans (hc q hlt)
      have hq1 : ((q + 1 : Nat) : Int) - 1 = q := by omega
      rw [hq1]
      obtain ⟨fn, tmps, assign, body, hy, hR⟩ := hY _ ⟨q, hlt⟩ wr hJs (by simp [downs_len]; omega)
      have hzq : zs[q]?.getD 0 = zs[q] := by simp [hlt]
      dsimp only at hy
      rw [hzq] at hy hcx
      have htk : (downs zs.length).take (zs.length - (q + 1)) ++ [⟨q, hlt⟩] = (downs zs.length).take (zs.length - q) := by
        have := downs_take (N := zs.length) (k := zs.length - (q + 1)) (by omega)
        rw [show zs.length - (q + 1) + 1 = zs.length - q by omega] at this
        rw [this]
        congr 2
        apply Fin.ext
        simp only
        omega
      gi_wp2
      refine hR.mono ?_
      rintro e W3 (⟨rfl, hJ3, hk3⟩ | ⟨rfl, hJx3⟩)
      · gi_wp2
        go_roundw
        case rel => exact ⟨q, by omega, by simp, by rw [← htk]; exact hJ3, fun b hb => (hk3 b hb).trans (hnx b hb)⟩
        case measure => simp [intOf]
      · gi_wp2
        refine bodyPost_ret (results_none rfl _ _ _) rfl ?_
        exact ⟨⟨_, rfl⟩, .inr ⟨_, trivial, hJx3⟩⟩
set_option maxHeartbeats 1000000 in
/-- .. an empty one: there is none. -/
theorem back1_nil_in (F : Fence) (n : Nat) (hF : F.fn 88) (hro : F.round = none) (l Bs o0 : Nat) (A : Option Addr) (cap : Nat) {α : Type} (J : List α → World → Prop) (W : World) (hBs : W.cell? ⟨Bs, o0, none⟩ = some (.slice A 0 cap)) (h0 : J [] W) :
    CallsIn F n Try.prog 88 #[.func (.yield l) #[] #[], .pointer (some ⟨Bs, o0, none⟩)] W fun e W' => (∃ v, e = .returned v) ∧ J [] W' := by
  refine callsIn_of_wp Try.func88 rfl hF ?_ hro
  simp only [Try.ntmps88, List.size_toArray, List.length_cons, List.length_nil, Nat.reduceAdd, Nat.reduceSub, Array.replicate_succ, Array.replicate_zero, List.push_toArray, List.append_toArray, List.nil_append, List.cons_append]
  gi_wp2
  show Code.wpIn F n _ _ _ _ _
  gi_loopw [3] (fun i wr => i = .int .i64 (-1) ∧ J [] wr) (fun _ _ => 0)
  case atStart => exact ⟨rfl, h0⟩
  case round =>
    obtain ⟨rfl, hJs⟩ := hrel
    gi_wp2
    go_end0
    exact ⟨⟨_, rfl⟩, hJs⟩

theorem addr_eq {w : World} {a : Addr} {v : Value} (h : w.cell? a = some v) : a = ⟨a.block, a.off, none⟩ := by
  unfold World.cell? at h
  split at h
  · cases hs : a.spot with
    | none => cases a; simp_all
    | some k => rw [hs] at h; simp at h
  · cases h
/-- **slices.Backward's function value goes through the slice from behind.** -/
theorem back_stops {nl : Bool} {c : Option Nat} {sz : Nat} {xs : List Int} (hs : (nl = true → xs = []) ∧ (nl = false → sz = 1)) (hlen : xs.length ≤ 1000) (w : World) (Wq : Nat → Prop) (v : Value) (h : RI w Wq (.ipt (.imm nl c sz (xs.map I)) 0) v) (_hW : ∀ b, Wq b → b < w.heap.size) :
    SeqStopsK (fenceR none) 8 Try.prog 88 #[v] (fun x => (bvals xs x).toArray) (KeepP fun b => b < w.heap.size ∧ ¬ Wq b) (fun ys => ys = downs xs.length) (fun _ => True) xs.length w := by
  cases h with
  | @ipt a e f cv hcell hrv =>
    obtain ⟨h1, h2⟩ := hcell 0 (by simp [cellsOf])
    have h3 := hrv 0 (by simp [cellsOf])
    simp only [cellsOf, List.getElem_cons_zero] at h3
    rw [add_zero] at h1 ⊢
    have ea := addr_eq h1
    have hb1 := block_lt h1
    intro l J Jx W hB _ _ hY h0
    rw [ea]
    rw [ea] at h1 hb1 h2
    simp only at hb1 h2
    have h1' : W.cell? ⟨a.block, a.off, none⟩ = some (cv 0) := (World.cell?_of_block (a := ⟨a.block, a.off, none⟩) (hB.block _ hb1)).trans h1
    have nilc : ∀ (A : Option Addr) (cap : Nat), cv 0 = .slice A 0 cap → xs = [] → CallsIn (fenceR none) 8 Try.prog 88 (#[.func (.yield l) #[] #[]] ++ #[.pointer (some ⟨a.block, a.off, none⟩)]) W fun e W' => (∃ v, e = .returned v) ∧ ((∃ ys, ys = downs xs.length ∧ J ys W') ∨ (∃ pre, True ∧ Jx pre W')) := by
      intro A cap e1 e2
      subst e2
      rw [e1] at h1'
      exact (back1_nil_in (fenceR none) 8 trivial rfl l a.block a.off A cap J W h1' h0).mono fun e W' ⟨he, hj⟩ => ⟨he, .inl ⟨[], rfl, hj⟩⟩
    generalize hcv : cv 0 = sv at h3
    obtain ⟨L, hL⟩ : ∃ L, L = xs.map I := ⟨_, rfl⟩
    rw [← hL] at h3
    cases h3 with
    | nil => exact nilc none 0 hcv (hs.1 rfl)
    | nilx _ _ hcx => exact nilc none 0 hcv (by simpa using hL.symm)
    | @imm ad n cap _ _ _ cv2 hn hcap hc hcell2 hsz hrv2 =>
      subst hL
      have hsz1 := hs.2 rfl
      subst hsz1
      have hn' : n = xs.length := by simpa using hn.symm
      subst hn'
      by_cases hx0 : xs = []
      · exact nilc (some ad) cap (by rw [hcv, hx0]; rfl) hx0
      · have hpos : 0 < xs.length := List.length_pos_iff.2 hx0
        have hc0 := (hcell2 0 0 hpos (by omega)).1
        rw [show 0 * 1 + 0 = 0 by omega, add_zero] at hc0
        have ead := addr_eq hc0
        have hb2 := block_lt hc0
        have hw2 := (hcell2 0 0 hpos (by omega)).2
        have hcells : ∀ j, j < xs.length → W.cell? ⟨ad.block, ad.off + j, none⟩ = some (.int .i64 (xs[j]?.getD 0)) := by
          intro j hj
          have h5 := (hcell2 j 0 hj (by omega)).1
          have h6 := hrv2 j 0 (by simpa using hj) (by simp [cellsOf])
          simp only [List.getElem_map, cellsOf, List.getElem_cons_zero] at h6
          have h7 : cv2 j 0 = .int .i64 (xs[j]?.getD 0) := by
            generalize cv2 j 0 = u at h6
            cases h6
            simp [hj]
          have e8 : ad.add (j * 1 + 0) = ⟨ad.block, ad.off + j, none⟩ := by
            rw [ead]
            unfold Addr.add
            split
            · rename_i h; simp at h; simp [h]
            · simp
          rw [e8, h7] at h5
          exact (World.cell?_of_block (a := ⟨ad.block, ad.off + j, none⟩) (hB.block _ hb2)).trans h5
        rw [hcv, ead] at h1'
        exact back1_in (fenceR none) 8 trivial rfl (by omega) l a.block a.off ad.block ad.off cap xs hlen _ ⟨hb1, h2⟩ ⟨hb2, hw2⟩ J Jx hY W h1' hcells h0
end Go.Fw
