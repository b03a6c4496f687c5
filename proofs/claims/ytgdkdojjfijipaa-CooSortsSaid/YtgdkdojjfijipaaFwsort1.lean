import Derived.Test.YtgdkdojjfijipaaFwlays1
import Derived.Test.YtgdkdojjfijipaaFwvals1
import Derived.Test.YtgdkdojjfijipaaFwzero1
namespace Go.Fw
open Go Go.RowKit Go.Proofs Go.Shelf
set_option maxRecDepth 100000
set_option linter.unusedSimpArgs false
set_option linter.unusedVariables false

/-- A sorted list. -/
def sortI (xs : List Int) : List Int := xs.mergeSort fun x y => decide (x ≤ y)
theorem sortI_len (xs : List Int) : (sortI xs).length = xs.length := (List.mergeSort_perm xs _).length_eq
theorem sortI_mem (xs : List Int) (x : Int) : x ∈ sortI xs ↔ x ∈ xs := (List.mergeSort_perm xs _).mem_iff

theorem putRow_is (w : World) (b : Nat) (arr : Array Value) (ty : TypeId) (fz : Nat × Nat) (hb : w.heap[b]? = some (.cells arr ty fz)) (ys : List Int) :
    Go.Sort.putRow (Value.int .i64) w b 0 ys.toArray = w.setRow b (arr.toList.take (0 * 1) ++ ys.map (Value.int .i64) ++ arr.toList.drop (0 * 1 + (ys.map (Value.int .i64)).length)).toArray ∨ arr.size < ys.length := by
  rcases Nat.lt_or_ge arr.size ys.length with h | h
  · exact .inr h
  refine .inl ?_
  have hlt := (Array.getElem?_eq_some_iff.1 hb).1
  unfold Go.Sort.putRow Go.Sort.mapBlock World.setRow
  congr 1
  apply Array.ext (by simp)
  intro i h1 h2
  simp only [Array.getElem_modify]
  by_cases e : b = i
  · subst e
    rw [if_pos rfl, if_pos rfl]
    have : w.heap[b] = .cells arr ty fz := (Array.getElem?_eq_some_iff.1 hb).2
    rw [this]
    simp only [Go.Sort.onCells]
    congr 1
    apply Array.ext
    · simp [Go.Sort.putCells]; omega
    · intro j h3 h4
      simp only [Go.Sort.putCells, Array.getElem_mapIdx]
      simp
      by_cases hj : j < ys.length
      · rw [if_pos hj, List.getElem_append_left (by simpa using hj)]
        simp [hj]
      · rw [if_neg hj, List.getElem_append_right (by simp; omega)]
        simp
        congr 1
        omega
  · rw [if_neg e, if_neg e]

/-- slices.Sort, on a list of the call's own. -/
theorem Sort_spec {H : List AObj} {i : Nat} {xs : List Int} {vr : Option Bool} (hi : H[i]? = some ⟨3, 1, xs.map I, true, vr⟩) (h1 : vr = some true → xs = []) (h2 : vr ≠ some false) (hl : xs.length ≤ 1000000) :
    ACalls Try.prog 86 [.slc i xs.length 0 xs.length none] H fun r H' => r = .tup [] ∧ H' = H.set i ⟨3, 1, (sortI xs).map I, true, vr⟩ := by
  refine ⟨⟨_, Try.func86, rfl, rfl⟩, fun B w0 m w vs rl hvs => ?_⟩
  obtain ⟨hsz, hv⟩ := hvs
  have hvs1 : vs.size = 1 := by simpa using hsz.symm
  obtain ⟨v, rfl⟩ : ∃ v, vs = #[v] := ⟨vs[0], by apply Array.ext (by simp [hvs1]); intro j h3 h4; simp at h4; subst h4; rfl⟩
  have hv0 := hv 0 (by simp) (by simp)
  simp only [List.getElem_cons_zero, List.getElem_toArray] at hv0
  obtain ⟨A, cap, o, rfl, ho, hL, hok⟩ := hv0.slc_inv
  rw [hi] at ho
  cases ho
  have hok := hok rfl (by simp)
  have tupr : ∀ (w' : World) (m' : BM) (H' : List AObj), RV w' m' H' (.tup []) (.tuple #[]) := fun w' m' H' => .tup rfl (fun j h => by simp at h)
  by_cases hx0 : xs = []
  · subst hx0
    have hs0 : sortI [] = [] := by simp [sortI]
    have hH : H.set i ⟨3, 1, (sortI []).map I, true, vr⟩ = H := by
      rw [hs0]
      apply List.ext_getElem?
      intro j
      by_cases e : i = j
      · subst e
        rw [List.getElem?_set_self (List.getElem?_eq_some_iff.1 hi).1, hi]
      · rw [List.getElem?_set_ne e]
    rw [hH]
    refine (calls_of_every_depth fun D => AnyS.slices_Sort_int_none_alone Try.laysSort D A cap w).mono ?_
    rintro e w' ⟨rfl, rfl⟩
    exact ⟨_, .tup [], m, H, rfl, Tr.refl _ _ _, rl, tupr _ _ _, rfl, rfl⟩
  · have hvn : vr = none := by
      match vr, h1, h2 with
      | none, _, _ => rfl
      | some true, h, _ => exact absurd (h rfl) hx0
      | some false, _, h => exact absurd rfl h
    subst hvn
    have hpos : 0 < xs.length := List.length_pos_iff.2 hx0
    simp only [SlcOk] at hok
    obtain ⟨hA, hA2, ho1, ho2, -, ho3⟩ := hok
    obtain rfl := hA2 (by omega)
    have hr : Real H i := ⟨_, hi, rfl, rfl⟩
    obtain ⟨arr, g1, ⟨g2, g3⟩, g4⟩ := rl.obj i _ hi rfl rfl
    simp only [List.length_map, Nat.mul_one] at g2 g3 g4
    have hcl : ∀ j (hj : j < xs.length), arr[j]? = some (.int .i64 xs[j]) := by
      intro j hj
      obtain ⟨a1, a2⟩ := g4 j (by simpa using hj)
      obtain ⟨v, b1, b2⟩ := a2 0 (by rw [a1]; omega)
      simp only [List.getElem_map, cellsOf, List.getElem_cons_zero, Nat.add_zero] at b1 b2
      obtain ⟨rfl, _⟩ := b2.sc_inv
      exact b1
    have hH : Go.Sort.Holds (Value.int .i64) w (m i).1 (0 * 1) xs.toArray := by
      intro j hj
      have hj' : j < xs.length := by simpa using hj
      refine ⟨?_, ?_⟩
      · simp only [World.cell?, g1]
        simp [hcl j hj', hj']
      · simp only [World.frozen?, g1]
        simp
    have hblk := (Array.getElem?_eq_some_iff.1 g1).1
    have hc := calls_of_every_depth fun D => AnyS.slices_Sort_int_alone Try.laysSort D (m i).1 (0 * 1) cap xs w hH hblk (by omega)
    refine hc.mono ?_
    rintro e w' ⟨rfl, q, os, rfl⟩
    obtain ⟨t1, r1⟩ := rl.drew (w.drawn + q)
    obtain ⟨arr2, c1, c2, t2, r2⟩ := r1.over hi rfl rfl (off := 0) (ys := (sortI xs).map I) (l := (sortI xs).map (Value.int .i64)) (by simp) (by simp [sortI_len]) (fun k hk => by
      simp only [List.getElem_map, cellsOf, Nat.mul_one]
      refine ⟨rfl, fun j hj => ?_⟩
      have : j = 0 := by simpa using hj
      subst this
      have hk' : k < (sortI xs).length := by simpa using hk
      exact ⟨.int .i64 (sortI xs)[k], by simp [hk'], .sc _ rfl⟩)
    have hlen : (sortI xs).length = xs.length := sortI_len xs
    have hset : (⟨3, 1, (xs.map I).take 0 ++ (sortI xs).map I ++ (xs.map I).drop (0 + ((sortI xs).map I).length), true, none⟩ : AObj) = ⟨3, 1, (sortI xs).map I, true, none⟩ := by
      congr 1
      simp [hlen]
    rw [hset] at t2 r2
    have hw : ({ w with drawn := w.drawn + q } : World).heap[(m i).1]? = some (.cells arr2 3 (0, 0)) := c1
    have e2 := putRow_is { w with drawn := w.drawn + q } (m i).1 arr2 _ _ hw (sortI xs)
    have e3 := e2.resolve_right (by simp at c2; omega)
    have hgr : (Go.Sort.putRow (Value.int .i64) (Go.Sort.ahead w q) (m i).1 (0 * 1) (sortI xs).toArray).grownBy (Go.Sort.grow (Go.Sort.putRow (Value.int .i64) (Go.Sort.ahead w q) (m i).1 (0 * 1) (sortI xs).toArray) os) none :=
      ⟨rfl, rfl, rfl, by simp [Go.Sort.grow], fun k hk _ => Go.Sort.heap_grow_old _ os hk⟩
    have e4 : Go.Sort.putRow (Value.int .i64) (Go.Sort.ahead w q) (m i).1 (0 * 1) (sortI xs).toArray = Go.Sort.putRow (Value.int .i64) { w with drawn := w.drawn + q } (m i).1 0 (sortI xs).toArray := rfl
    rw [e4, e3] at hgr
    obtain ⟨t3, r3⟩ := grown_rel hgr (fun r h => by cases h) rl.hB (t1.trans t2) r2
    refine ⟨_, .tup [], m, _, rfl, ?_, ?_, tupr _ _ _, rfl, rfl⟩
    · change Tr m H w m _ (Go.Sort.grow (Go.Sort.putRow (Value.int .i64) { w with drawn := w.drawn + q } (m i).1 0 (sortI xs).toArray) os)
      rw [e3]; exact t3
    · change Rel B w0 m _ (Go.Sort.grow (Go.Sort.putRow (Value.int .i64) { w with drawn := w.drawn + q } (m i).1 0 (sortI xs).toArray) os)
      rw [e3]; exact r3

def Collect_1 : AC := (.seq (.ops [⟨(some 3), none, (.k (.mov (.t 0)))⟩, ⟨(some 4), none, (.call false (.c (.fn (.func 89) [] [])) [(.c (.imm true none 0 [])), (.t 3)])⟩, ⟨(some 2), none, (.k (.mov (.t 4)))⟩]) .ret)
def Collect_ac : AC := (.seq (.ops [⟨(some 2), none, (.k (.mov (.c (.imm true none 0 []))))⟩]) Collect_1)
theorem Collect_call {args : List AV} {H : List AObj} {R : AV → List AObj → Prop} (h : AWp Try.prog [] H.length Collect_ac (bodyQ H.length [(.t 2)] R) (args ++ List.replicate (5 - args.length) .und) H) : ACalls Try.prog 85 args H R :=
  ACalls.of_fn Try.func85 rfl (by kernel_rfl) rfl Try.ntmps85 h

theorem Collect_spec {a : AV} {xs : List Int} (ha : ISl a xs) (hl : xs.length ≤ 1000) : ACalls Try.prog 85 [.fn (.func 87) [] [.ipt a 0]] [] (gotR xs) := by
  apply Collect_call
  repeat first | refine AWp.seq ?_ | refine AWp.block ?_
  refine AWp.ops ?_
  simp
  repeat first | refine AWp.seq ?_ | refine AWp.block ?_
  refine AWp.ops ?_
  simp
  refine (AppSeq_spec ha hl).mono ?_
  rintro r H' ⟨vr, h1, h2, rfl, h3⟩
  simp
  refine AWp.ret ?_
  simp
  refine retOk.of rfl ⟨vr, h1, h2, by simp, h3⟩

def Sorted_2 : AC := (.seq (.ops [⟨(some 6), none, (.k (.mov (.t 3)))⟩, ⟨(some 7), none, (.call false (.c (.fn (.func 86) [] [])) [(.t 6)])⟩]) (.seq (.ops [⟨(some 8), none, (.k (.mov (.t 3)))⟩, ⟨(some 2), none, (.k (.mov (.t 8)))⟩]) .ret))
def Sorted_1 : AC := (.seq (.ops [⟨(some 4), none, (.k (.mov (.t 0)))⟩, ⟨(some 5), none, (.call false (.c (.fn (.func 85) [] [])) [(.t 4)])⟩, ⟨(some 3), none, (.k (.mov (.t 5)))⟩]) Sorted_2)
def Sorted_ac : AC := (.seq (.ops [⟨(some 2), none, (.k (.mov (.c (.imm true none 0 []))))⟩]) Sorted_1)
theorem Sorted_call {args : List AV} {H : List AObj} {R : AV → List AObj → Prop} (h : AWp Try.prog [] H.length Sorted_ac (bodyQ H.length [(.t 2)] R) (args ++ List.replicate (9 - args.length) .und) H) : ACalls Try.prog 73 args H R :=
  ACalls.of_fn Try.func73 rfl (by kernel_rfl) rfl Try.ntmps73 h

/-- What stands in a slice, sorted. -/
theorem Sorted_spec {a : AV} {xs : List Int} (ha : ISl a xs) (hl : xs.length ≤ 1000) : ACalls Try.prog 73 [.fn (.func 87) [] [.ipt a 0]] [] fun r H' => H' = [] ∧ ISl r (sortI xs) := by
  have hx := ha.2
  have base : ACalls Try.prog 73 [.fn (.func 87) [] [.ipt a 0]] [] fun r G => ∃ vr, (vr = some true → xs = []) ∧ vr ≠ some false ∧ r = .slc 0 xs.length 0 xs.length none ∧ G[0]? = some ⟨3, 1, (sortI xs).map I, true, vr⟩ := by
    apply Sorted_call
    repeat first | refine AWp.seq ?_ | refine AWp.block ?_
    refine AWp.ops ?_
    simp
    repeat first | refine AWp.seq ?_ | refine AWp.block ?_
    refine AWp.ops ?_
    simp
    refine (Collect_spec ha hl).mono ?_
    rintro r H' ⟨vr, h1, h2, rfl, h3⟩
    simp
    repeat first | refine AWp.seq ?_ | refine AWp.block ?_
    refine AWp.ops ?_
    simp
    refine (Sort_spec h3 h1 h2 (by omega)).mono ?_
    rintro r H'' ⟨rfl, rfl⟩
    simp
    repeat first | refine AWp.seq ?_ | refine AWp.block ?_
    refine AWp.ops ?_
    simp
    refine AWp.ret ?_
    simp
    refine retOk.of rfl ⟨vr, h1, h2, by simp, ?_⟩
    rw [List.getElem?_set_self (List.getElem?_eq_some_iff.1 h3).1]
  refine (base.frozen 3).mono ?_
  rintro q H' ⟨rfl, r, G, ⟨vr, h1, h2, rfl, h3⟩, rfl⟩
  refine ⟨rfl, ?_⟩
  have hlen := sortI_len xs
  match vr, h1, h2 with
  | some true, h1, _ =>
    have h0 := h1 rfl
    subst h0
    have : sortI [] = [] := by simp [sortI]
    rw [this] at h3 ⊢
    simp [h3]
    exact ⟨⟨true, none, 1, rfl, by simp, by simp⟩, by simp, by simp⟩
  | none, _, _ =>
    simp [h3, hlen]
    exact ISl.of _ (by omega) (fun x hm => hx.2 x ((sortI_mem xs x).1 hm))
  | some false, _, h => exact absurd rfl h
end Go.Fw
