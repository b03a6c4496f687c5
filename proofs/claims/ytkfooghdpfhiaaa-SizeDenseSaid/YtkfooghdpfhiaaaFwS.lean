/- Regions that draw their order: operations that may be taken the one ahead of the other. -/
import Derived.Test.YtkfooghdpfhiaaaFwR
import Derived.OrdersIn
namespace Go.Fw
open Go Go.RowKit

/-- Frames that agree where somebody looks. -/
def Agree (us : List Nat) (fr fr' : List AV) : Prop := ∀ n ∈ us, fr.getD n .und = fr'.getD n .und

theorem Agree.app {us vs : List Nat} {fr fr' : List AV} (h : Agree (us ++ vs) fr fr') : Agree us fr fr' ∧ Agree vs fr fr' :=
  ⟨fun n hn => h n (List.mem_append_left _ hn), fun n hn => h n (List.mem_append_right _ hn)⟩
theorem AX.ev_congr {x : AX} {fr fr' : List AV} (h : Agree x.uses fr fr') : x.ev fr = x.ev fr' := by
  cases x with
  | t n => exact h n (by simp [AX.uses])
  | c a => rfl
theorem map_congr {xs : List AX} {fr fr' : List AV} (h : Agree (xs.flatMap AX.uses) fr fr') : xs.map (·.ev fr) = xs.map (·.ev fr') := by
  apply List.map_congr_left
  intro x hx
  exact AX.ev_congr fun n hn => h n (List.mem_flatMap.2 ⟨x, hx, hn⟩)
theorem bound_congr {d : Int} {x : Option AX} {fr fr' : List AV} (h : Agree (oUses x) fr fr') : bound? d fr x = bound? d fr' x := by
  cases x with
  | none => rfl
  | some x => simp only [bound?, AX.ev_congr (x := x) h]

theorem evK_congr {k : AK} {fr fr' : List AV} (h : Agree k.uses fr fr') (H : List AObj) : evK k fr H = evK k fr' H := by
  cases k <;> simp only [AK.uses] at h
  case mk z ps =>
    have e : (ps.map fun p => (p.1, p.2.1, p.2.2.ev fr)) = ps.map fun p => (p.1, p.2.1, p.2.2.ev fr') := by
      apply List.map_congr_left
      intro p hp
      rw [AX.ev_congr (x := p.2.2) fun n hn => h n (List.mem_flatMap.2 ⟨p, hp, hn⟩)]
    simp only [evK, e]
  case lit => simp only [evK, map_congr h]
  case litO => simp only [evK, map_congr h]
  case mkF => simp only [evK, map_congr h.app.1, map_congr h.app.2]
  case pick => simp only [evK, AX.ev_congr h.app.1.app.1, AX.ev_congr h.app.1.app.2, AX.ev_congr h.app.2]
  case sl sz x a b c =>
    obtain ⟨h1, h2⟩ := h.app
    obtain ⟨h3, h4⟩ := h1.app
    obtain ⟨h5, h6⟩ := h3.app
    have e4 : ∀ d, bound? d fr b = bound? d fr' b := fun d => bound_congr h4
    cases c with
    | none => simp only [evK, AX.ev_congr h5, bound_congr h6, e4]
    | some q => simp only [oUses] at h2; simp only [evK, AX.ev_congr h5, bound_congr h6, e4, AX.ev_congr h2]
  case st => simp only [evK, AX.ev_congr h.app.1, AX.ev_congr h.app.2]
  case bin => simp only [evK, AX.ev_congr h.app.1, AX.ev_congr h.app.2]
  case beq => simp only [evK, AX.ev_congr h.app.1, AX.ev_congr h.app.2]
  case mkS => simp only [evK, AX.ev_congr h.app.1, AX.ev_congr h.app.2]
  case iad => simp only [evK, AX.ev_congr h.app.1, AX.ev_congr h.app.2]
  case app => simp only [evK, AX.ev_congr h.app.1, AX.ev_congr h.app.2]
  case mm => simp only [evK, AX.ev_congr h.app.1, AX.ev_congr h.app.2]
  case iar => simp only [evK, AX.ev_congr h.app.1, AX.ev_congr h.app.2]
  case ixa => simp only [evK, AX.ev_congr h.app.1, AX.ev_congr h.app.2]
  case ixs => simp only [evK, AX.ev_congr h.app.1, AX.ev_congr h.app.2]
  case mm3 => simp only [evK, AX.ev_congr h.app.1.app.1, AX.ev_congr h.app.1.app.2, AX.ev_congr h.app.2]
  all_goals simp only [evK, AX.ev_congr h]

theorem live_append {H : List AObj} {i L : Nat} {o : AObj} (h : live? H i L = some o) (G : List AObj) : live? (H ++ G) i L = some o := by
  obtain ⟨h1, h2, h3⟩ := live?_some h
  unfold live?
  rw [List.getElem?_append_left (List.getElem?_eq_some_iff.1 h1).1, h1]
  simp [h2, h3]

theorem live_app {H : List AObj} {i L : Nat} (h : (live? H i L).isSome = true) (G : List AObj) : live? (H ++ G) i L = live? H i L := by
  obtain ⟨o, ho⟩ := Option.isSome_iff_exists.1 h
  rw [live_append ho G, ho]

theorem evK_silent {k : AK} (hc : k.cls = 0) {fr : List AV} {H H' : List AObj} {v : AV} (h : evK k fr H = some (v, H')) : H' = H ∧ ∀ H2, evK k fr H2 = some (v, H2) := by
  cases k <;> simp only [AK.cls] at hc <;> try omega
  case app ty sz bytes s x => split at hc <;> omega
  case mm3 mx x y z =>
    simp only [evK] at h ⊢
    split at h
    · rename_i e1 e2 e3
      split at h
      · rename_i hk
        simp only [Option.some.injEq, Prod.mk.injEq] at h
        obtain ⟨rfl, rfl⟩ := h
        refine ⟨rfl, fun H2 => ?_⟩
        rw [if_pos hk]
      · cases h
    · cases h
  case mm mx x y =>
    simp only [evK] at h ⊢
    split at h
    · rename_i e1 e2
      split at h
      · rename_i hk
        simp only [Option.some.injEq, Prod.mk.injEq] at h
        obtain ⟨rfl, rfl⟩ := h
        exact ⟨rfl, fun H2 => by simp only [hk, if_true]⟩
      · cases h
    · cases h
  all_goals
    simp only [evK] at h ⊢
    (repeat' split at h) <;> first
      | cases h; done
      | (simp only [Option.some.injEq, Prod.mk.injEq] at h
         obtain ⟨rfl, rfl⟩ := h
         exact ⟨rfl, fun H2 => by simp_all⟩)

theorem evK_reads {k : AK} (hc : k.cls = 1) {fr : List AV} {H H' : List AObj} {v : AV} (h : evK k fr H = some (v, H')) : H' = H ∧ ∀ G, evK k fr (H ++ G) = some (v, H ++ G) := by
  cases k <;> simp only [AK.cls] at hc <;> try omega
  case app ty sz bytes s x => split at hc <;> omega
  all_goals
    simp only [evK] at h ⊢
    (repeat' split at h) <;> first
      | cases h; done
      | (simp only [Option.some.injEq, Prod.mk.injEq] at h
         obtain ⟨rfl, rfl⟩ := h
         refine ⟨rfl, fun G => ?_⟩
         simp_all [live_app])

theorem evK_ext {k : AK} (hc : k.cls ≤ 2) {fr : List AV} {H H' : List AObj} {v : AV} (h : evK k fr H = some (v, H')) : ∃ G, H' = H ++ G := by
  rcases Nat.lt_or_ge k.cls 2 with hlt | hge
  · rcases Nat.lt_or_ge k.cls 1 with h0 | h1
    · exact ⟨[], by rw [(evK_silent (by omega) h).1]; simp⟩
    · exact ⟨[], by rw [(evK_reads (by omega) h).1]; simp⟩
  · cases k <;> simp only [AK.cls] at hge <;> try omega
    case app ty sz bytes s x =>
      have hi : s.isImm = true := by
        refine Classical.byContradiction fun e => ?_
        simp [AK.cls, e] at hc
      unfold AX.isImm at hi
      split at hi
      case h_2 => cases hi
      simp only [evK, AX.ev] at h
      (repeat' split at h) <;> first
        | cases h; done
        | (simp only [Option.some.injEq, Prod.mk.injEq] at h
           obtain ⟨rfl, rfl⟩ := h
           first
           | exact ⟨_, rfl⟩
           | exact ⟨[], by simp⟩)
    all_goals
      first
        | (simp only [AK.cls] at hc; omega)
        | (simp only [evK] at h
           (repeat' split at h) <;> first
            | cases h; done
            | (simp only [Option.some.injEq, Prod.mk.injEq] at h
               obtain ⟨rfl, rfl⟩ := h
               exact ⟨_, rfl⟩))

section
variable {P : Program}

theorem ACalls.mono {f : FuncId} {args : List AV} {H : List AObj} {R R' : AV → List AObj → Prop} (h : ACalls P f args H R) (hr : ∀ r H', R r H' → R' r H') : ACalls P f args H R' :=
  ⟨h.1, fun B w0 m w vs r hv => (h.2 B w0 m w vs r hv).mono fun _ _ ⟨v, r, m', H', a, b, c, d, e⟩ => ⟨v, r, m', H', a, b, c, d, hr _ _ e⟩⟩

theorem callV_mono {prot : Bool} {f : AV} {args : List AV} {H : List AObj} {n n' : AV → List AObj → Prop} (h : callV P prot f args H n) (hr : ∀ r H', (prot = true → ∃ G, H' = H ++ G) → n r H' → n' r H') : callV P prot f args H n' := by
  unfold callV at *
  split
  · exact ACalls.mono h fun r H' ⟨a, b⟩ => ⟨a, hr r H' a b⟩
  · rename_i hne
    split at h
    · exact absurd rfl (hne _ _ _)
    · exact h

/-- What an operation turns. -/
def Foot (o : AOp) (fr : List AV) (H : List AObj) (fr' : List AV) (H' : List AObj) : Prop := (∃ u, fr' = putD fr o.dst u) ∧ (o.k.cls ≤ 2 → ∃ G, H' = H ++ G)

theorem opWp_mono {o : AOp} {fr : List AV} {H : List AObj} {n n' : List AV → List AObj → Prop} (h : opWp P o n fr H) (hr : ∀ fr' H', Foot o fr H fr' H' → n fr' H' → n' fr' H') : opWp P o n' fr H := by
  have key : kWp P o.k o.dst n fr H → kWp P o.k o.dst n' fr H := by
    intro h
    obtain ⟨dst, guard, k⟩ := o
    cases k with
    | k k =>
      obtain ⟨v, H', h1, h2⟩ := h
      exact ⟨v, H', h1, hr _ _ ⟨⟨v, rfl⟩, fun hc => evK_ext hc h1⟩ h2⟩
    | call prot f args =>
      refine callV_mono h fun r H' h1 h2 => hr _ _ ⟨⟨r, rfl⟩, fun hc => h1 ?_⟩ h2
      cases prot with
      | true => rfl
      | false => simp [AKK.cls] at hc
  have skip : ∀ u, n (putD fr o.dst u) H → n' (putD fr o.dst u) H := fun u h => hr _ _ ⟨⟨u, rfl⟩, fun _ => ⟨[], by simp⟩⟩ h
  unfold opWp at *
  split
  · rename_i hg; rw [hg] at h; exact key h
  · rename_i t b hg
    rw [hg] at h
    simp only at h
    split
    · rename_i c hc; rw [hc] at h; simp only at h
      split
      · rename_i hcb; rw [if_pos hcb] at h; exact key h
      · rename_i hcb; rw [if_neg hcb] at h; exact skip _ h
    · rename_i hc; rw [hc] at h; exact skip _ h
    · rename_i h1 h2
      split at h
      · rename_i c hc; exact absurd hc (h1 c)
      · rename_i hc; exact absurd hc h2
      · exact h

theorem opsWp_mono {n n' : List AV → List AObj → Prop} (hr : ∀ fr H, n fr H → n' fr H) : ∀ {l : List AOp} {fr : List AV} {H : List AObj}, opsWp P l n fr H → opsWp P l n' fr H
  | [], _, _, h => hr _ _ h
  | _ :: _, _, _, h => opWp_mono h fun _ _ _ h => opsWp_mono hr h

theorem getD_putD {fr : List AV} {d : Option Nat} {v : AV} {n : Nat} (h : d ≠ some n) : (putD fr d v).getD n .und = fr.getD n .und := by
  cases d with
  | none => rfl
  | some d =>
    have : d ≠ n := fun e => h (by rw [e])
    simp only [putD, List.getD, List.getElem?_set_ne this]

theorem Agree.put {us : List Nat} {d : Option Nat} (h : clear d us = true) (fr : List AV) (v : AV) : Agree us (putD fr d v) fr := by
  intro n hn
  have := List.all_eq_true.1 h n hn
  exact getD_putD (by simpa using this)

theorem putD_comm {fr : List AV} {d e : Option Nat} (h : d = none ∨ e = none ∨ d ≠ e) (v u : AV) : putD (putD fr d v) e u = putD (putD fr e u) d v := by
  cases d <;> cases e <;> simp only [putD]
  rename_i d e
  have : d ≠ e := by rintro rfl; simp at h
  exact List.set_comm v u this

/-- Another operation's temporary makes no difference. -/
theorem opWp_put {o : AOp} {d : Option Nat} (hu : clear d o.uses = true) (hd : d = none ∨ o.dst = none ∨ d ≠ o.dst) {fr : List AV} {H : List AObj} {v : AV} {n : List AV → List AObj → Prop}
    (h : opWp P o n (putD fr d v) H) : opWp P o (fun fr' H' => n (putD fr' d v) H') fr H := by
  obtain ⟨dst, guard, k⟩ := o
  simp only [AOp.uses, clear, List.all_append, Bool.and_eq_true] at hu
  obtain ⟨hg, hk⟩ := hu
  have key : kWp P k dst n (putD fr d v) H → kWp P k dst (fun fr' H' => n (putD fr' d v) H') fr H := by
    intro h
    cases k with
    | k k =>
      obtain ⟨z, H', h1, h2⟩ := h
      rw [evK_congr (Agree.put (us := k.uses) hk fr v)] at h1
      refine ⟨z, H', h1, ?_⟩
      rw [putD_comm hd] at h2; exact h2
    | call prot f args =>
      have ha := Agree.put (us := f.uses ++ args.flatMap AX.uses) hk fr v
      simp only [kWp, AX.ev_congr ha.app.1, map_congr ha.app.2] at h ⊢
      refine callV_mono h fun r H' _ h2 => ?_
      rw [putD_comm hd] at h2; exact h2
  have skip : ∀ u, n (putD (putD fr d v) dst u) H → n (putD (putD fr dst u) d v) H := by
    intro u h; rw [putD_comm hd] at h; exact h
  unfold opWp at *
  cases guard with
  | none => exact key h
  | some tb =>
    obtain ⟨t, b⟩ := tb
    simp only at h hg ⊢
    have ht : (putD fr d v).getD t .und = fr.getD t .und := getD_putD (by simpa using hg)
    rw [ht] at h
    split
    · rename_i c hc; rw [hc] at h; simp only at h
      split
      · rename_i hcb; rw [if_pos hcb] at h; exact key h
      · rename_i hcb; rw [if_neg hcb] at h; exact skip _ h
    · rename_i hc; rw [hc] at h; exact skip _ h
    · rename_i h1 h2
      split at h
      · rename_i c hc; exact absurd hc (h1 c)
      · rename_i hc; exact absurd hc h2
      · exact h

theorem swap {x y : AOp} (hc : commB x y = true) {K : List AV → List AObj → Prop} {fr : List AV} {H : List AObj} (h : opWp P x (opWp P y K) fr H) : opWp P y (opWp P x K) fr H := by
  simp only [commB, Bool.and_eq_true, Bool.or_eq_true, beq_iff_eq, decide_eq_true_eq] at hc
  obtain ⟨⟨⟨c1, c2⟩, c3⟩, c4⟩ := hc
  have c3' : x.dst = none ∨ y.dst = none ∨ x.dst ≠ y.dst := by
    rcases c3 with (h | h) | h
    · left; cases hx : x.dst <;> simp_all
    · right; left; cases hy : y.dst <;> simp_all
    · right; right; simpa using h
  obtain ⟨xd, xg, xk⟩ := x
  cases xk with
  | call prot f args =>
    exfalso
    simp only [AKK.cls] at c4
    cases prot <;> simp at c4
  | k kx =>
    simp only at c1 c2 c3' c4
    -- behind y the value is the same
    have again : ∀ (v : AV), evK kx fr H = some (v, H) → ∀ fr' H', Foot y fr H fr' H' → evK kx fr' H' = some (v, H') := by
      intro v hv fr' H' ⟨⟨u, hu⟩, hG⟩
      subst hu
      have hus : clear y.dst kx.uses = true := by
        simp only [AOp.uses, AKK.uses, clear, List.all_append, Bool.and_eq_true] at c2; exact c2.2
      rw [evK_congr (Agree.put hus fr u)]
      rcases c4 with h0 | ⟨h1, h2⟩
      · exact (evK_silent h0 hv).2 H'
      · obtain ⟨G, rfl⟩ := hG h2
        exact (evK_reads h1 hv).2 G
    have same : ∀ v H', evK kx fr H = some (v, H') → H' = H := by
      intro v H' hv
      rcases c4 with h0 | ⟨h1, _⟩
      · exact (evK_silent h0 hv).1
      · exact (evK_reads h1 hv).1
    have key : kWp P (.k kx) xd (opWp P y K) fr H → opWp P y (fun fr' H' => kWp P (.k kx) xd K fr' H') fr H := by
      rintro ⟨v, H', hv, hn⟩
      obtain rfl := same v H' hv
      refine opWp_mono (opWp_put c1 c3' hn) fun fr' H'' hf hK => ?_
      exact ⟨v, H'', again v hv fr' H'' hf, hK⟩
    have skip : ∀ u, opWp P y K (putD fr xd u) H → opWp P y (fun fr' H' => K (putD fr' xd u) H') fr H := fun u h => opWp_put c1 c3' h
    cases xg with
    | none => exact opWp_mono (key h) fun _ _ _ h => h
    | some tb =>
      obtain ⟨t, b⟩ := tb
      have hgt : ∀ fr' H', Foot y fr H fr' H' → fr'.getD t .und = fr.getD t .und := by
        rintro fr' H' ⟨⟨u, rfl⟩, _⟩
        refine getD_putD ?_
        simp only [AOp.uses, clear, List.all_append, Bool.and_eq_true] at c2
        simpa using c2.1
      simp only [opWp] at h
      split at h
      · rename_i c hc
        split at h
        · rename_i hcb
          refine opWp_mono (key h) fun fr' H' hf hK => ?_
          simp only [opWp, hgt _ _ hf, hc, hcb, if_true]; exact hK
        · rename_i hcb
          refine opWp_mono (skip _ h) fun fr' H' hf hK => ?_
          simp only [opWp, hgt _ _ hf, hc, hcb, if_false]; exact hK
      · rename_i hc
        refine opWp_mono (skip _ h) fun fr' H' hf hK => ?_
        simp only [opWp, hgt _ _ hf, hc]; exact hK
      · exact h.elim
end
end Go.Fw
