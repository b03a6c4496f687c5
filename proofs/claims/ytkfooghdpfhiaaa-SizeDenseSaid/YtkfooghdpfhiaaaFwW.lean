/- From contracts to the claims' form: what is handed in is read as immutable values. -/
import Derived.Test.YtkfooghdpfhiaaaFwV
namespace Go.Fw
open Go Go.RowKit

def m0 : BM := { pl := fun _ => (0, 0), x := fun _ => False }

theorem rel0 (W : World) : Rel W.heap.size W m0 [] W :=
  ⟨⟨rfl, rfl, rfl, Nat.le_refl _, fun _ _ => rfl⟩, Nat.le_refl _, fun i o h => by simp at h, fun i o h => by simp at h, (by rintro i ⟨o, h, _⟩; simp at h), fun i o h => by simp at h, (by rintro i i' ⟨o, h, _⟩; simp at h), fun _ h => h.elim⟩

theorem nowr0 (b : Nat) : ¬ Wr m0 [] b := by
  rintro (h | ⟨i, ⟨o, h, _⟩, _⟩)
  · exact h
  · simp at h

theorem ACalls.told {P : Program} {f : FuncId} {avs : List AV} {v : Value} (h : ACalls P f avs [] fun r G => G = [] ∧ r = .sc v) {W : World} {args : Array Value} (ha : RVs W m0 [] avs args) :
    Calls P f args W fun e W' => e = .returned v ∧ Below W.heap.size W W' := by
  refine (h.2 W.heap.size W m0 W args (rel0 W) ha).mono ?_
  rintro e W' ⟨u, q, m', H', rfl, t, r, hr, rfl, rfl⟩
  exact ⟨by rw [hr.sc_inv.1], r.below⟩

theorem RVs.nil {W : World} {m : BM} {H : List AObj} : RVs W m H [] #[] := ⟨rfl, fun j h => by simp at h⟩
theorem RVs.cons {W : World} {m : BM} {H : List AObj} {a : AV} {as : List AV} {v : Value} {vs : List Value} (h : RV W m H a v) (t : RVs W m H as vs.toArray) : RVs W m H (a :: as) (v :: vs).toArray := by
  refine ⟨by have := t.1; simp at this ⊢; exact this, fun j h1 h2 => ?_⟩
  cases j with
  | zero => exact h
  | succ j => exact t.2 j (by simpa using h1) (by simpa using h2)

/-- A row of whole numbers, handed in. -/
theorem row_rv {W : World} {a : Option Addr} {len cap : Nat} {zs : List Int} (h : (a = none ∧ len = 0 ∧ cap = 0 ∧ zs = []) ∨
    ∃ x, a = some x ∧ len ≤ cap ∧ cap ≤ 9223372036854775807 ∧ zs.length = cap ∧ (∀ i, i < zs.length → W.cell? (x.add i) = some (.int .i64 (zs.getD i 0))) ∧ ∀ n ∈ zs, -9223372036854775808 ≤ n ∧ n ≤ 9223372036854775807) :
    ∃ av, RV W m0 [] av (.slice a len cap) ∧ ISl av (zs.take len) := by
  rcases h with ⟨rfl, rfl, rfl, rfl⟩ | ⟨x, rfl, hl, hc, hz, hcell, hr⟩
  · exact ⟨.imm true none 0 [], .ri (.nil _ _), ⟨⟨true, none, 0, rfl, by simp, by simp⟩, by simp, by simp⟩⟩
  · have hlen : (zs.take len).length = len := by simp; omega
    refine ⟨.imm false none 1 ((zs.take len).map I), .ri ?_, ⟨⟨false, none, 1, rfl, by simp, by simp⟩, by omega, fun n hn => hr n (List.mem_of_mem_take hn)⟩⟩
    refine .imm (fun k _ => .int .i64 (zs.getD k 0)) (by simpa using hlen) hl (fun k e => by cases e) (fun k j hk hj => ?_) (fun k hk => by simp [cellsOf]) (fun k j hk hj => ?_)
    · have : j = 0 := by omega
      subst this
      rw [Nat.mul_one, Nat.add_zero]
      exact ⟨hcell k (by omega), nowr0 _⟩
    · have hk' : k < zs.length := by simp at hk; omega
      have hj0 : j = 0 := by simp [cellsOf] at hj; exact hj
      subst hj0
      have e : (cellsOf ((zs.take len).map I)[k])[0]'hj = I zs[k] := by simp [cellsOf]
      rw [e]
      have e2 : zs.getD k 0 = zs[k] := by simp [List.getD, hk']
      rw [e2]
      exact .sc _ rfl
end Go.Fw
