/- Regions that draw their order: operations that may be taken the one ahead of the other. -/
import Derived.Test.YthipbeffhfdamaaFwR2
import Derived.OrdersIn
namespace Go.Fw
open Go Go.RowKit
def Agree (us : List Nat) (fr fr' : List AV) : Prop := ∀ n ∈ us, fr.getD n .und = fr'.getD n .und
theorem Agree.app {us vs : List Nat} {fr fr' : List AV} (h : Agree (us ++ vs) fr fr') : Agree us fr fr' ∧ Agree vs fr fr' :=
  ⟨fun n hn => h n (List.mem_append_left _ hn), fun n hn => h n (List.mem_append_right _ hn)⟩
theorem AX.ev_congr {x : AX} {fr fr' : List AV} (h : Agree x.uses fr fr') : x.ev fr = x.ev fr' := by
  cases x with
  | t n => exact h n (by simp [AX.uses])
  | c a => rfl
theorem map_congr {xs : List AX} {fr fr' : List AV} (h : Agree (xs.flatMap AX.uses) fr fr') : xs.map (·.ev fr) = xs.map (·.ev fr') := by
  apply List.map_congr_left
  intro x hx
  exact AX.ev_congr fun n hn => h n (List.mem_flatMap.2 ⟨x, hx, hn⟩)
theorem bound_congr {d : Int} {x : Option AX} {fr fr' : List AV} (h : Agree (oUses x) fr fr') : bound? d fr x = bound? d fr' x := by
  cases x with
  | none => rfl
  | some x => simp only [bound?, AX.ev_congr (x := x) h]
theorem evK_congr {k : AK} {fr fr' : List AV} (h : Agree k.uses fr fr') (H : List AObj) : evK k fr H = evK k fr' H := by
  cases k <;> simp only [AK.uses] at h
  case mk z ps =>
    have e : (ps.map fun p => (p.1, p.2.1, p.2.2.ev fr)) = ps.map fun p => (p.1, p.2.1, p.2.2.ev fr') := by
      apply List.map_congr_left
      intro p hp
      rw [AX.ev_congr (x := p.2.2) fun n hn => h n (List.mem_flatMap.2 ⟨p, hp, hn⟩)]
    simp only [evK, e]
  case pan => rfl
  case lit => simp only [evK, map_congr h]
  case litO => simp only [evK, map_congr h]
  case mkF => simp only [evK, map_congr h.app.1, map_congr h.app.2]
  case pick => simp only [evK, AX.ev_congr h.app.1.app.1, AX.ev_congr h.app.1.app.2, AX.ev_congr h.app.2]
  case sl sz x a b c =>
    obtain ⟨h1, h2⟩ := h.app
    obtain ⟨h3, h4⟩ := h1.app
    obtain ⟨h5, h6⟩ := h3.app
    have e4 : ∀ d, bound? d fr b = bound? d fr' b := fun d => bound_congr h4
    cases c with
    | none => simp only [evK, AX.ev_congr h5, bound_congr h6, e4]
    | some q => simp only [oUses] at h2; simp only [evK, AX.ev_congr h5, bound_congr h6, e4, AX.ev_congr h2]
  case sls x a b =>
    obtain ⟨h1, h2⟩ := h.app
    obtain ⟨h3, h4⟩ := h1.app
    have e4 : ∀ d, bound? d fr b = bound? d fr' b := fun d => bound_congr h2
    simp only [evK, AX.ev_congr h3, bound_congr h4, e4]
  case st => simp only [evK, AX.ev_congr h.app.1, AX.ev_congr h.app.2]
  case aeq => simp only [evK, AX.ev_congr h.app.1, AX.ev_congr h.app.2]
  case bin => simp only [evK, AX.ev_congr h.app.1, AX.ev_congr h.app.2]
  case beq => simp only [evK, AX.ev_congr h.app.1, AX.ev_congr h.app.2]
  case mkS => simp only [evK, AX.ev_congr h.app.1, AX.ev_congr h.app.2]
  case iad => simp only [evK, AX.ev_congr h.app.1, AX.ev_congr h.app.2]
  case app => simp only [evK, AX.ev_congr h.app.1, AX.ev_congr h.app.2]
  case mm => simp only [evK, AX.ev_congr h.app.1, AX.ev_congr h.app.2]
  case iar => simp only [evK, AX.ev_congr h.app.1, AX.ev_congr h.app.2]
  case ixa => simp only [evK, AX.ev_congr h.app.1, AX.ev_congr h.app.2]
  case ixs => simp only [evK, AX.ev_congr h.app.1, AX.ev_congr h.app.2]
  case cpy => simp only [evK, AX.ev_congr h.app.1, AX.ev_congr h.app.2]
  case mm3 => simp only [evK, AX.ev_congr h.app.1.app.1, AX.ev_congr h.app.1.app.2, AX.ev_congr h.app.2]
  all_goals simp only [evK, AX.ev_congr h]
theorem live_append {H : List AObj} {i L : Nat} {o : AObj} (h : live? H i L = some o) (G : List AObj) : live? (H ++ G) i L = some o := by
  obtain ⟨h1, h2, h3⟩ := live?_some h
  unfold live?
  rw [List.getElem?_append_left (List.getElem?_eq_some_iff.1 h1).1, h1]
  simp [h2, h3]
theorem live_app {H : List AObj} {i L : Nat} (h : (live? H i L).isSome = true) (G : List AObj) : live? (H ++ G) i L = live? H i L := by
  obtain ⟨o, ho⟩ := Option.isSome_iff_exists.1 h
  rw [live_append ho G, ho]
theorem evK_silent {k : AK} (hc : k.cls = 0) {fr : List AV} {H H' : List AObj} {v : AV} (h : evK k fr H = some (v, H')) : H' = H ∧ ∀ H2, evK k fr H2 = some (v, H2) := by
  cases k <;> simp only [AK.cls] at hc <;> try omega
  case app ty sz bytes s x => split at hc <;> omega
  case mm3 mx x y z =>
    simp only [evK] at h ⊢
    split at h
    · rename_i e1 e2 e3
      split at h
      · rename_i hk
        simp only [Option.some.injEq, Prod.mk.injEq] at h
        obtain ⟨rfl, rfl⟩ := h
        refine ⟨rfl, fun H2 => ?_⟩
        rw [if_pos hk]
      · cases h
    · cases h
  case mm mx x y =>
    simp only [evK] at h ⊢
    split at h
    · rename_i e1 e2
      split at h
      · rename_i hk
        simp only [Option.some.injEq, Prod.mk.injEq] at h
        obtain ⟨rfl, rfl⟩ := h
        exact ⟨rfl, fun H2 => by simp only [hk, if_true]⟩
      · cases h
    · cases h
  all_goals
    simp only [evK] at h ⊢
    (repeat' split at h) <;> first
      | cases h; done
      | (simp only [Option.some.injEq, Prod.mk.injEq] at h
         obtain ⟨rfl, rfl⟩ := h
         exact ⟨rfl, fun H2 => by simp_all⟩)
theorem evK_reads {k : AK} (hc : k.cls = 1) {fr : List AV} {H H' : List AObj} {v : AV} (h : evK k fr H = some (v, H')) : H' = H ∧ ∀ G, evK k fr (H ++ G) = some (v, H ++ G) := by
  cases k <;> simp only [AK.cls] at hc <;> try omega
  case app ty sz bytes s x => split at hc <;> omega
  all_goals
    simp only [evK] at h ⊢
    (repeat' split at h) <;> first
      | cases h; done
      | (simp only [Option.some.injEq, Prod.mk.injEq] at h
         obtain ⟨rfl, rfl⟩ := h
         refine ⟨rfl, fun G => ?_⟩
         simp_all [live_app])
theorem evK_ext {k : AK} (hc : k.cls ≤ 2) {fr : List AV} {H H' : List AObj} {v : AV} (h : evK k fr H = some (v, H')) : ∃ G, H' = H ++ G := by
  rcases Nat.lt_or_ge k.cls 2 with hlt | hge
  · rcases Nat.lt_or_ge k.cls 1 with h0 | h1
    · exact ⟨[], by rw [(evK_silent (by omega) h).1]; simp⟩
    · exact ⟨[], by rw [(evK_reads (by omega) h).1]; simp⟩
  · cases k <;> simp only [AK.cls] at hge <;> try omega
    case app ty sz bytes s x =>
      have hi : s.isImm = true := by
        refine Classical.byContradiction fun e => ?_
        simp [AK.cls, e] at hc
      unfold AX.isImm at hi
      split at hi
      case h_2 => cases hi
      simp only [evK, AX.ev] at h
      (repeat' split at h) <;> first
        | cases h; done
        | (simp only [Option.some.injEq, Prod.mk.injEq] at h
           obtain ⟨rfl, rfl⟩ := h
           first
           | exact ⟨_, rfl⟩
           | exact ⟨[], by simp⟩)
    all_goals
      first
        | (simp only [AK.cls] at hc; omega)
        | (simp only [evK] at h
           (repeat' split at h) <;> first
            | cases h; done
            | (simp only [Option.some.injEq, Prod.mk.injEq] at h
               obtain ⟨rfl, rfl⟩ := h
               exact ⟨_, rfl⟩))
section
variable {P : Program}
theorem ACalls.mono {f : FuncId} {args : List AV} {H : List AObj} {R R' : AV → List AObj → Prop} (h : ACalls P f args H R) (hr : ∀ r H', R r H' → R' r H') : ACalls P f args H R' :=
  ⟨h.1, fun B w0 m w vs r hv => (h.2 B w0 m w vs r hv).mono fun _ _ ⟨v, r, m', H', a, b, c, d, e⟩ => ⟨v, r, m', H', a, b, c, d, hr _ _ e⟩⟩
theorem callV_mono {prot : Bool} {f : AV} {args : List AV} {H : List AObj} {n n' : AV → List AObj → Prop} (h : callV P prot f args H n) (hr : ∀ r H', (prot = true → ∃ G, H' = H ++ G) → n r H' → n' r H') : callV P prot f args H n' := by
  unfold callV at *
  split
  · exact ACalls.mono h fun r H' ⟨a, b⟩ => ⟨a, hr r H' a b⟩
  · rename_i hne
    split at h
    · exact absurd rfl (hne _ _ _)
    · exact h
theorem invV_mono {prot : Bool} {f : String} {args : List AV} {H : List AObj} {n n' : AV → List AObj → Prop} (h : invV P prot f args H n) (hr : ∀ r H', (prot = true → ∃ G, H' = H ++ G) → n r H' → n' r H') : invV P prot f args H n' := by
  unfold invV at *
  have go : ∀ {g : FuncId} {xs : List AV}, ACalls P g xs H (fun r H' => (prot = true → ∃ G, H' = H ++ G) ∧ n r H') → ACalls P g xs H (fun r H' => (prot = true → ∃ G, H' = H ++ G) ∧ n' r H') :=
    fun h => ACalls.mono h fun r H' ⟨a, b⟩ => ⟨a, hr r H' a b⟩
  match args, h with
  | .ifc t v :: rest, h =>
    simp only at h ⊢
    cases hm : methP P t f with
    | none => simp only [hm] at h
    | some q =>
      obtain ⟨g, o⟩ := q
      cases o with
      | none => simp only [hm] at h ⊢; exact go h
      | some q =>
        obtain ⟨sz, ag, off⟩ := q
        simp only [hm] at h ⊢
        cases he : evK (.ld sz ag (.c (offV off v))) [] H with
        | none => simp only [he] at h
        | some q => simp only [he] at h ⊢; exact go h
def Foot (o : AOp) (fr : List AV) (H : List AObj) (fr' : List AV) (H' : List AObj) : Prop := (∃ u, fr' = putD fr o.dst u) ∧ (o.k.cls ≤ 2 → ∃ G, H' = H ++ G)
theorem opWp_mono {o : AOp} {fr : List AV} {H : List AObj} {n n' : List AV → List AObj → Prop} (h : opWp P o n fr H) (hr : ∀ fr' H', Foot o fr H fr' H' → n fr' H' → n' fr' H') : opWp P o n' fr H := by
  have key : kWp P o.k o.dst n fr H → kWp P o.k o.dst n' fr H := by
    intro h
    obtain ⟨dst, guard, k⟩ := o
    cases k with
    | k k =>
      obtain ⟨v, H', h1, h2⟩ := h
      exact ⟨v, H', h1, hr _ _ ⟨⟨v, rfl⟩, fun hc => evK_ext hc h1⟩ h2⟩
    | call prot f args =>
      refine callV_mono h fun r H' h1 h2 => hr _ _ ⟨⟨r, rfl⟩, fun hc => h1 ?_⟩ h2
      cases prot with
      | true => rfl
      | false => simp [AKK.cls] at hc
    | inv prot f args =>
      refine invV_mono h fun r H' h1 h2 => hr _ _ ⟨⟨r, rfl⟩, fun hc => h1 ?_⟩ h2
      cases prot with
      | true => rfl
      | false => simp [AKK.cls] at hc
  have skip : ∀ u, n (putD fr o.dst u) H → n' (putD fr o.dst u) H := fun u h => hr _ _ ⟨⟨u, rfl⟩, fun _ => ⟨[], by simp⟩⟩ h
  unfold opWp at *
  split
  · rename_i hg; rw [hg] at h; exact key h
  · rename_i t b hg
    rw [hg] at h
    simp only at h
    split
    · rename_i c hc; rw [hc] at h; simp only at h
      split
      · rename_i hcb; rw [if_pos hcb] at h; exact key h
      · rename_i hcb; rw [if_neg hcb] at h; exact skip _ h
    · rename_i hc; rw [hc] at h; exact skip _ h
    · rename_i h1 h2
      split at h
      · rename_i c hc; exact absurd hc (h1 c)
      · rename_i hc; exact absurd hc h2
      · exact h
theorem opsWp_mono {n n' : List AV → List AObj → Prop} (hr : ∀ fr H, n fr H → n' fr H) : ∀ {l : List AOp} {fr : List AV} {H : List AObj}, opsWp P l n fr H → opsWp P l n' fr H
  | [], _, _, h => hr _ _ h
  | _ :: _, _, _, h => opWp_mono h fun _ _ _ h => opsWp_mono hr h
theorem getD_putD {fr : List AV} {d : Option Nat} {v : AV} {n : Nat} (h : d ≠ some n) : (putD fr d v).getD n .und = fr.getD n .und := by
  cases d with
  | none => rfl
  | some d =>
    have : d ≠ n := fun e => h (by rw [e])
    simp only [putD, List.getD, List.getElem?_set_ne this]
theorem Agree.put {us : List Nat} {d : Option Nat} (h : clear d us = true) (fr : List AV) (v : AV) : Agree us (putD fr d v) fr := by
  intro n hn
  have := List.all_eq_true.1 h n hn
  exact getD_putD (by simpa using this)
theorem putD_comm {fr : List AV} {d e : Option Nat} (h : d = none ∨ e = none ∨ d ≠ e) (v u : AV) : putD (putD fr d v) e u = putD (putD fr e u) d v := by
  cases d <;> cases e <;> simp only [putD]
  rename_i d e
  have : d ≠ e := by rintro rfl; simp at h
  exact List.set_comm v u this
theorem opWp_put {o : AOp} {d : Option Nat} (hu : clear d o.uses = true) (hd : d = none ∨ o.dst = none ∨ d ≠ o.dst) {fr : List AV} {H : List AObj} {v : AV} {n : List AV → List AObj → Prop}
    (h : opWp P o n (putD fr d v) H) : opWp P o (fun fr' H' => n (putD fr' d v) H') fr H := by
  obtain ⟨dst, guard, k⟩ := o
  simp only [AOp.uses, clear, List.all_append, Bool.and_eq_true] at hu
  obtain ⟨hg, hk⟩ := hu
  have key : kWp P k dst n (putD fr d v) H → kWp P k dst (fun fr' H' => n (putD fr' d v) H') fr H := by
    intro h
    cases k with
    | k k =>
      obtain ⟨z, H', h1, h2⟩ := h
      rw [evK_congr (Agree.put (us := k.uses) hk fr v)] at h1
      refine ⟨z, H', h1, ?_⟩
      rw [putD_comm hd] at h2; exact h2
    | call prot f args =>
      have ha := Agree.put (us := f.uses ++ args.flatMap AX.uses) hk fr v
      simp only [kWp, AX.ev_congr ha.app.1, map_congr ha.app.2] at h ⊢
      refine callV_mono h fun r H' _ h2 => ?_
      rw [putD_comm hd] at h2; exact h2
    | inv prot f args =>
      have ha := Agree.put (us := args.flatMap AX.uses) hk fr v
      simp only [kWp, map_congr ha] at h ⊢
      refine invV_mono h fun r H' _ h2 => ?_
      rw [putD_comm hd] at h2; exact h2
  have skip : ∀ u, n (putD (putD fr d v) dst u) H → n (putD (putD fr dst u) d v) H := by
    intro u h; rw [putD_comm hd] at h; exact h
  unfold opWp at *
  cases guard with
  | none => exact key h
  | some tb =>
    obtain ⟨t, b⟩ := tb
    simp only at h hg ⊢
    have ht : (putD fr d v).getD t .und = fr.getD t .und := getD_putD (by simpa using hg)
    rw [ht] at h
    split
    · rename_i c hc; rw [hc] at h; simp only at h
      split
      · rename_i hcb; rw [if_pos hcb] at h; exact key h
      · rename_i hcb; rw [if_neg hcb] at h; exact skip _ h
    · rename_i hc; rw [hc] at h; exact skip _ h
    · rename_i h1 h2
      split at h
      · rename_i c hc; exact absurd hc (h1 c)
      · rename_i hc; exact absurd hc h2
      · exact h
theorem opWp_silent {y : AOp} (hy : y.k.cls = 0) {n : List AV → Prop} {fr : List AV} {H1 H : List AObj} (h : opWp P y (fun fr' _ => n fr') fr H1) : opWp P y (fun fr' H' => H' = H ∧ n fr') fr H := by
  obtain ⟨yd, yg, yk⟩ := y
  cases yk with
  | call prot f args =>
    exfalso
    simp only [AKK.cls] at hy
    cases prot <;> simp at hy
  | inv prot f args =>
    exfalso
    simp only [AKK.cls] at hy
    cases prot <;> simp at hy
  | k ky =>
    have key : kWp P (.k ky) yd (fun fr' _ => n fr') fr H1 → kWp P (.k ky) yd (fun fr' H' => H' = H ∧ n fr') fr H := by
      rintro ⟨v, H', hv, hn⟩
      exact ⟨v, H, (evK_silent hy hv).2 H, rfl, hn⟩
    cases yg with
    | none => exact key h
    | some tb =>
      obtain ⟨t, b⟩ := tb
      simp only [opWp] at h ⊢
      split
      · rename_i c hc; rw [hc] at h; simp only at h
        split
        · rename_i hcb; rw [if_pos hcb] at h; exact key h
        · rename_i hcb; rw [if_neg hcb] at h; exact ⟨trivial, h⟩
      · rename_i hc; rw [hc] at h; exact ⟨trivial, h⟩
      · rename_i h1 h2
        split at h
        · rename_i c hc; exact absurd hc (h1 c)
        · rename_i hc; exact absurd hc h2
        · exact h
theorem swap_silent {xd : Option Nat} {xg : Option (Nat × Bool)} {xk : AKK} {y : AOp} (c1 : clear xd y.uses = true) (c2 : clear y.dst (AOp.mk xd xg xk).uses = true) (c3 : xd = none ∨ y.dst = none ∨ xd ≠ y.dst) (hx : xk.cls = 3) (hy : y.k.cls = 0)
    {K : List AV → List AObj → Prop} {fr : List AV} {H : List AObj} (h : opWp P ⟨xd, xg, xk⟩ (opWp P y K) fr H) : opWp P y (opWp P ⟨xd, xg, xk⟩ K) fr H := by
  cases xk with
  | call prot f args =>
    exfalso
    simp only [AKK.cls] at hx
    cases prot <;> simp at hx
  | inv prot f args =>
    exfalso
    simp only [AKK.cls] at hx
    cases prot <;> simp at hx
  | k kx =>
    simp only [AOp.uses, clear, List.all_append, Bool.and_eq_true] at c2
    obtain ⟨c2g, c2k⟩ := c2
    have one : ∀ (v : AV) (H1 : List AObj), opWp P y K (putD fr xd v) H1 → opWp P y (fun fr' H' => H' = H ∧ K (putD fr' xd v) H1) fr H := by
      intro v H1 h
      have h1 := opWp_put c1 c3 h
      -- y leaves the objects as they are
      have h2 : opWp P y (fun fr' _ => K (putD fr' xd v) H1) fr H1 := by
        obtain ⟨yd, yg, yk⟩ := y
        cases yk with
        | call prot f args =>
          exfalso
          simp only [AKK.cls] at hy
          cases prot <;> simp at hy
        | inv prot f args =>
          exfalso
          simp only [AKK.cls] at hy
          cases prot <;> simp at hy
        | k ky =>
          have key : kWp P (.k ky) yd (fun fr' H' => K (putD fr' xd v) H') fr H1 → kWp P (.k ky) yd (fun fr' _ => K (putD fr' xd v) H1) fr H1 := by
            rintro ⟨z, H', hv, hn⟩
            obtain rfl := (evK_silent hy hv).1
            exact ⟨z, H', hv, hn⟩
          cases yg with
          | none => exact key h1
          | some tb =>
            obtain ⟨t, b⟩ := tb
            simp only [opWp] at h1 ⊢
            split
            · rename_i c hc; rw [hc] at h1; simp only at h1
              split
              · rename_i hcb; rw [if_pos hcb] at h1; exact key h1
              · rename_i hcb; rw [if_neg hcb] at h1; exact h1
            · rename_i hc; rw [hc] at h1; exact h1
            · rename_i q1 q2
              split at h1
              · rename_i c hc; exact absurd hc (q1 c)
              · rename_i hc; exact absurd hc q2
              · exact h1
      exact opWp_silent hy h2
    have key : kWp P (.k kx) xd (opWp P y K) fr H → opWp P y (fun fr' H' => kWp P (.k kx) xd K fr' H') fr H := by
      rintro ⟨v, H1, hv, hn⟩
      refine opWp_mono (one v H1 hn) fun fr' H' hf hK => ?_
      obtain ⟨⟨u, rfl⟩, _⟩ := hf
      obtain ⟨rfl, hK⟩ := hK
      exact ⟨v, H1, by rw [evK_congr (Agree.put (us := kx.uses) c2k fr u)]; exact hv, hK⟩
    have skip : ∀ u, opWp P y K (putD fr xd u) H → opWp P y (fun fr' H' => K (putD fr' xd u) H') fr H := fun u h => opWp_put c1 c3 h
    cases xg with
    | none => exact opWp_mono (key h) fun _ _ _ h => h
    | some tb =>
      obtain ⟨t, b⟩ := tb
      have hgt : ∀ fr' H', Foot y fr H fr' H' → fr'.getD t .und = fr.getD t .und := by
        rintro fr' H' ⟨⟨u, rfl⟩, _⟩
        exact getD_putD (by simpa using c2g)
      simp only [opWp] at h
      split at h
      · rename_i c hc
        split at h
        · rename_i hcb
          refine opWp_mono (key h) fun fr' H' hf hK => ?_
          simp only [opWp, hgt _ _ hf, hc, hcb, if_true]; exact hK
        · rename_i hcb
          refine opWp_mono (skip _ h) fun fr' H' hf hK => ?_
          simp only [opWp, hgt _ _ hf, hc, hcb, if_false]; exact hK
      · rename_i hc
        refine opWp_mono (skip _ h) fun fr' H' hf hK => ?_
        simp only [opWp, hgt _ _ hf, hc]; exact hK
      · exact h.elim
theorem swap {x y : AOp} (hc : commB x y = true) {K : List AV → List AObj → Prop} {fr : List AV} {H : List AObj} (h : opWp P x (opWp P y K) fr H) : opWp P y (opWp P x K) fr H := by
  simp only [commB, Bool.and_eq_true, Bool.or_eq_true, beq_iff_eq, decide_eq_true_eq] at hc
  obtain ⟨⟨⟨c1, c2⟩, c3⟩, c4⟩ := hc
  have c3' : x.dst = none ∨ y.dst = none ∨ x.dst ≠ y.dst := by
    rcases c3 with (h | h) | h
    · left; cases hx : x.dst <;> simp_all
    · right; left; cases hy : y.dst <;> simp_all
    · right; right; simpa using h
  obtain ⟨xd, xg, xk⟩ := x
  rcases c4 with c4 | c4
  case inr => exact swap_silent c1 c2 c3' c4.1 c4.2 h
  cases xk with
  | call prot f args =>
    exfalso
    simp only [AKK.cls] at c4
    cases prot <;> simp at c4
  | inv prot f args =>
    exfalso
    simp only [AKK.cls] at c4
    cases prot <;> simp at c4
  | k kx =>
    simp only at c1 c2 c3' c4
    -- behind y the value is the same
    have again : ∀ (v : AV), evK kx fr H = some (v, H) → ∀ fr' H', Foot y fr H fr' H' → evK kx fr' H' = some (v, H') := by
      intro v hv fr' H' ⟨⟨u, hu⟩, hG⟩
      subst hu
      have hus : clear y.dst kx.uses = true := by
        simp only [AOp.uses, AKK.uses, clear, List.all_append, Bool.and_eq_true] at c2; exact c2.2
      rw [evK_congr (Agree.put hus fr u)]
      rcases c4 with h0 | ⟨h1, h2⟩
      · exact (evK_silent h0 hv).2 H'
      · obtain ⟨G, rfl⟩ := hG h2
        exact (evK_reads h1 hv).2 G
    have same : ∀ v H', evK kx fr H = some (v, H') → H' = H := by
      intro v H' hv
      rcases c4 with h0 | ⟨h1, _⟩
      · exact (evK_silent h0 hv).1
      · exact (evK_reads h1 hv).1
    have key : kWp P (.k kx) xd (opWp P y K) fr H → opWp P y (fun fr' H' => kWp P (.k kx) xd K fr' H') fr H := by
      rintro ⟨v, H', hv, hn⟩
      obtain rfl := same v H' hv
      refine opWp_mono (opWp_put c1 c3' hn) fun fr' H'' hf hK => ?_
      exact ⟨v, H'', again v hv fr' H'' hf, hK⟩
    have skip : ∀ u, opWp P y K (putD fr xd u) H → opWp P y (fun fr' H' => K (putD fr' xd u) H') fr H := fun u h => opWp_put c1 c3' h
    cases xg with
    | none => exact opWp_mono (key h) fun _ _ _ h => h
    | some tb =>
      obtain ⟨t, b⟩ := tb
      have hgt : ∀ fr' H', Foot y fr H fr' H' → fr'.getD t .und = fr.getD t .und := by
        rintro fr' H' ⟨⟨u, rfl⟩, _⟩
        refine getD_putD ?_
        simp only [AOp.uses, clear, List.all_append, Bool.and_eq_true] at c2
        simpa using c2.1
      simp only [opWp] at h
      split at h
      · rename_i c hc
        split at h
        · rename_i hcb
          refine opWp_mono (key h) fun fr' H' hf hK => ?_
          simp only [opWp, hgt _ _ hf, hc, hcb, if_true]; exact hK
        · rename_i hcb
          refine opWp_mono (skip _ h) fun fr' H' hf hK => ?_
          simp only [opWp, hgt _ _ hf, hc, hcb, if_false]; exact hK
      · rename_i hc
        refine opWp_mono (skip _ h) fun fr' H' hf hK => ?_
        simp only [opWp, hgt _ _ hf, hc]; exact hK
      · exact h.elim
end
end Go.Fw
/- Regions that draw: every order that may come up leads where the given orders lead. -/
namespace Go.Fw
open Go Go.RowKit
section
variable {P : Program} {K : List AV → List AObj → Prop}
theorem bubble {x : AOp} : ∀ (s1 : List AOp) (s2 : List AOp) (fr : List AV) (H : List AObj), (∀ y ∈ s1, commB x y = true) → opWp P x (opsWp P (s1 ++ s2) K) fr H → opsWp P (s1 ++ x :: s2) K fr H
  | [], _, _, _, _, h => h
  | y :: s1, s2, fr, H, hc, h => by
    have h1 : opWp P y (opWp P x (opsWp P (s1 ++ s2) K)) fr H := swap (hc y (by simp)) h
    exact opWp_mono h1 fun fr' H' _ h' => bubble s1 s2 fr' H' (fun z hz => hc z (by simp [hz])) h'
theorem perm_sound {l : Nat → AOp} : ∀ (ord σ : List Nat), ord.Nodup → σ.Perm ord → (∀ x y, [x, y].Sublist ord → [y, x].Sublist σ → commB (l x) (l y) = true) →
    ∀ fr H, opsWp P (ord.map l) K fr H → opsWp P (σ.map l) K fr H
  | [], σ, _, hp, _, fr, H, h => by rw [List.Perm.eq_nil hp]; exact h
  | x :: ord, σ, hn, hp, hc, fr, H, h => by
    have hx : x ∈ σ := hp.mem_iff.2 (by simp)
    obtain ⟨s1, s2, rfl⟩ := List.append_of_mem hx
    have hp' : (s1 ++ s2).Perm ord := (List.perm_middle.symm.trans hp).cons_inv
    have hn' := List.nodup_cons.1 hn
    have ih := perm_sound (l := l) ord (s1 ++ s2) hn'.2 hp' (fun a b h1 h2 => hc a b (h1.cons x) (h2.trans (List.Sublist.append_left (List.sublist_cons_self x s2) s1)))
    rw [List.map_append, List.map_cons]
    refine bubble (s1.map l) (s2.map l) fr H (fun y hy => ?_) (opWp_mono h fun fr' H' _ h' => ?_)
    · obtain ⟨b, hb, rfl⟩ := List.mem_map.1 hy
      have hbo : b ∈ ord := hp'.mem_iff.1 (by simp [hb])
      refine hc x b (List.Sublist.cons_cons x (List.singleton_sublist.2 hbo)) ?_
      have : [b].Sublist s1 := List.singleton_sublist.2 hb
      exact List.Sublist.append this (List.Sublist.cons_cons x (List.nil_sublist s2))
    · rw [← List.map_append]; exact ih fr' H' h'
end
def Topo (deps : Nat → List Nat) (σ : List Nat) : Prop := ∀ s1 i s2, σ = s1 ++ i :: s2 → ∀ d ∈ deps i, d ∈ s1
theorem linExts_mem {cl : List Nat} : ∀ (n : Nat) (hs τ : List Nat), τ.Perm hs → τ.Nodup → hs.length ≤ n → (∀ s1 i s2, τ = s1 ++ i :: s2 → ∀ y ∈ s2, (cl.getD i 0).testBit y = false) → τ ∈ linExts cl n hs
  | n, hs, [], hp, _, _, _ => by
    have : hs = [] := List.Perm.eq_nil hp.symm
    subst this; cases n <;> simp [linExts]
  | 0, hs, x :: τ, hp, _, hl, _ => by
    have := hp.length_eq; simp at this; omega
  | n + 1, hs, x :: τ, hp, hn, hl, hc => by
    have hx : x ∈ hs := hp.mem_iff.1 (by simp)
    have hne : hs ≠ [] := by intro e; rw [e] at hx; simp at hx
    obtain ⟨h, hs', rfl⟩ : ∃ h hs', hs = h :: hs' := by cases hs with | nil => exact absurd rfl hne | cons h t => exact ⟨h, t, rfl⟩
    have hn' := List.nodup_cons.1 hn
    unfold linExts
    refine List.mem_flatMap.2 ⟨x, hx, ?_⟩
    rw [if_pos]
    · refine List.mem_map.2 ⟨τ, ?_, rfl⟩
      have hpe : τ.Perm ((h :: hs').erase x) := by
        have := hp.erase x
        simpa using this
      refine linExts_mem n _ τ hpe hn'.2 ?_ (fun s1 i s2 e y hy => hc (x :: s1) i s2 (by rw [e]; rfl) y hy)
      have := List.length_erase_of_mem hx
      omega
    · refine List.all_eq_true.2 fun y hy => ?_
      by_cases e : y = x
      · simp [e]
      · have hyt : y ∈ τ := by
          have := hp.mem_iff.2 hy
          simpa [e] using this
        have := hc [] x τ rfl y hyt
        simp only [this, Bool.not_false, Bool.or_true]
theorem pairsOk_get {cl : List Nat} {hv : Nat} {cm : Nat → Nat → Bool} : ∀ {ord : List Nat} (_ : pairsOk cl hv cm ord = true) {x y : Nat}, [x, y].Sublist ord → (cl.getD y 0).testBit x = true ∨ (hv.testBit x = true ∧ hv.testBit y = true) ∨ cm x y = true
  | [], _, _, _, h => by cases h
  | z :: ord, hp, x, y, h => by
    simp only [pairsOk, Bool.and_eq_true] at hp
    cases h with
    | cons _ h => exact pairsOk_get hp.2 h
    | cons_cons _ h =>
      have hy : y ∈ ord := List.singleton_sublist.1 h
      have := List.all_eq_true.1 hp.1 y hy
      simp only [Bool.or_eq_true, Bool.and_eq_true] at this
      rcases this with (h | h) | h
      · exact .inl h
      · exact .inr (.inl h)
      · exact .inr (.inr h)
theorem nodup_no_swap {τ : List Nat} (hn : τ.Nodup) {x y : Nat} (h1 : [x, y].Sublist τ) (h2 : [y, x].Sublist τ) : False := by
  induction τ with
  | nil => cases h1
  | cons z τ ih =>
    have hn' := List.nodup_cons.1 hn
    cases h1 with
    | cons _ h1 =>
      cases h2 with
      | cons _ h2 => exact ih hn'.2 h1 h2
      | cons_cons _ h2 => exact hn'.1 (h1.subset (by simp))
    | cons_cons _ h1 =>
      cases h2 with
      | cons _ h2 => exact hn'.1 (h2.subset (by simp))
      | cons_cons _ h2 => exact hn'.1 (h1.subset (by simp))
theorem range_perm {σ : List Nat} {n : Nat} (hn : σ.Nodup) (hl : σ.length = n) (hb : ∀ i ∈ σ, i < n) : σ.Perm (List.range n) := by
  refine (List.perm_ext_iff_of_nodup hn List.nodup_range).2 fun a => ⟨fun h => List.mem_range.2 (hb a h), fun h => ?_⟩
  have ha := List.mem_range.1 h
  refine Classical.byContradiction fun hna => ?_
  have := List.Nodup.length_le_of_subset (List.nodup_cons.2 ⟨hna, hn⟩) (l₂ := List.range n) (fun i hi => by
    rcases List.mem_cons.1 hi with rfl | hi
    · exact h
    · exact List.mem_range.2 (hb i hi))
  simp at this
  omega
theorem draw_sound {P : Program} {K : List AV → List AObj → Prop} {l : List AOp} {cl : List Nat} {hv : Nat} {cm : Nat → Nat → Bool} {ords : List (List Nat)} (hcm : ∀ x y, x < l.length → y < l.length → cm x y = true → commB (l.getD x default) (l.getD y default) = true) (hck : checkDraw cl hv cm l.length ords = true) {σ : List Nat} (hn : σ.Nodup) (hlen : σ.length = l.length) (hb : ∀ i ∈ σ, i < l.length)
    (hcl : ∀ s1 i s2, σ = s1 ++ i :: s2 → ∀ y ∈ s2, (cl.getD i 0).testBit y = false) {fr : List AV} {H : List AObj} (h : ∀ ord ∈ ords, opsWp P (ord.map fun i => l.getD i default) K fr H) : opsWp P (σ.map fun i => l.getD i default) K fr H := by
  simp only [checkDraw, Bool.and_eq_true] at hck
  obtain ⟨h1, h2⟩ := hck
  have hσ := range_perm hn hlen hb
  have hτ : σ.filter (fun i => hv.testBit i) ∈ linExts cl l.length ((List.range l.length).filter (fun i => hv.testBit i)) := by
    refine linExts_mem _ _ _ (hσ.filter _) (hn.sublist (List.filter_sublist)) ?_ ?_
    · have := List.length_filter_le (fun i => hv.testBit i) (List.range l.length); simpa using this
    · intro s1 i s2 e y hy
      have hsub : [i, y].Sublist σ := by
        have a1 : [i, y].Sublist (σ.filter (fun i => hv.testBit i)) := by
          rw [e]
          exact (List.Sublist.cons_cons i (List.singleton_sublist.2 hy)).trans (List.sublist_append_right s1 _)
        exact a1.trans List.filter_sublist
      obtain ⟨p1, p2, rfl⟩ := List.append_of_mem (hsub.subset (List.mem_cons_self : i ∈ [i, y]))
      have hy2 : y ∈ p2 := by
        refine Classical.byContradiction fun hny => ?_
        have hnd := hn
        have hyσ : y ∈ p1 ++ i :: p2 := hsub.subset (by simp)
        rcases List.mem_append.1 hyσ with hp | hp
        · have : [y, i].Sublist (p1 ++ i :: p2) := List.Sublist.append (List.singleton_sublist.2 hp) (List.Sublist.cons_cons i (List.nil_sublist p2))
          exact nodup_no_swap hnd hsub this
        · rcases List.mem_cons.1 hp with rfl | hp
          · have := hsub.nodup hnd; simp at this
          · exact hny hp
      exact hcl p1 i p2 rfl y hy2
  have hany := List.all_eq_true.1 h1 _ hτ
  obtain ⟨ord, hord, hoe⟩ := List.any_eq_true.1 hany
  have hoe : ord.filter (fun i => hv.testBit i) = σ.filter (fun i => hv.testBit i) := by simpa using hoe
  have ho := List.all_eq_true.1 h2 ord hord
  simp only [Bool.and_eq_true, decide_eq_true_eq] at ho
  obtain ⟨⟨⟨o1, o2⟩, o3⟩, o4⟩ := ho
  have hop := range_perm o1 o2 (fun i hi => by simpa using List.all_eq_true.1 o3 i hi)
  refine perm_sound (l := fun i => l.getD i default) ord σ o1 (hσ.trans hop.symm) (fun x y h3 h4 => ?_) fr H (h ord hord)
  rcases pairsOk_get o4 h3 with hx | ⟨hx, hy⟩ | hx
  · exfalso
    obtain ⟨p1, p2, rfl⟩ := List.append_of_mem (h4.subset (List.mem_cons_self : y ∈ [y, x]))
    have hx2 : x ∈ p2 := by
      refine Classical.byContradiction fun hny => ?_
      have hyσ : x ∈ p1 ++ y :: p2 := h4.subset (by simp)
      rcases List.mem_append.1 hyσ with hp | hp
      · have : [x, y].Sublist (p1 ++ y :: p2) := List.Sublist.append (List.singleton_sublist.2 hp) (List.Sublist.cons_cons y (List.nil_sublist p2))
        exact nodup_no_swap hn h4 this
      · rcases List.mem_cons.1 hp with rfl | hp
        · have := h4.nodup hn; simp at this
        · exact hny hp
    have := hcl p1 y p2 rfl x hx2
    rw [this] at hx; cases hx
  · exfalso
    have a1 : [x, y].Sublist (ord.filter (fun i => hv.testBit i)) := by have := h3.filter (fun i => hv.testBit i); simpa [List.filter_cons, hx, hy] using this
    have a2 : [y, x].Sublist (σ.filter (fun i => hv.testBit i)) := by have := h4.filter (fun i => hv.testBit i); simpa [List.filter_cons, hx, hy] using this
    rw [hoe] at a1
    exact nodup_no_swap (hn.sublist List.filter_sublist) a1 a2
  · have hlt : ∀ i ∈ ord, i < l.length := fun i hi => by simpa using List.all_eq_true.1 o3 i hi
    exact hcm x y (hlt x (h3.subset (by simp))) (hlt y (h3.subset (by simp))) hx
theorem go_spec (ops : Array Oper) (hdeps : ∀ i o, ops[i]? = some o → ∀ d ∈ depsOf o, d < i) : ∀ (fuel t : Nat) (listed : Array Bool), listed.size = ops.size →
    ((List.range ops.size).filter fun i => !listed.getD i true).length = fuel →
    (Region.linearise.go .any ops fuel t listed []).Nodup ∧ (∀ i, i ∈ Region.linearise.go .any ops fuel t listed [] ↔ i < ops.size ∧ listed.getD i true = false) ∧
    ∀ s1 i s2, Region.linearise.go .any ops fuel t listed [] = s1 ++ i :: s2 → ∀ o, ops[i]? = some o → ∀ d ∈ depsOf o, listed.getD d false = true ∨ d ∈ s1
  | 0, t, listed, hs, hf => by
    have hnil : (List.range ops.size).filter (fun i => !listed.getD i true) = [] := List.eq_nil_of_length_eq_zero hf
    simp only [Region.linearise.go, List.reverse_nil]
    refine ⟨List.nodup_nil, fun i => ⟨fun h => by simp at h, fun ⟨h1, h2⟩ => ?_⟩, fun s1 i s2 e => by simp at e⟩
    have : i ∈ (List.range ops.size).filter (fun i => !listed.getD i true) := List.mem_filter.2 ⟨List.mem_range.2 h1, by rw [h2]; rfl⟩
    rw [hnil] at this; simp at this
  | fuel + 1, t, listed, hs, hf => by
    have mem_ready : ∀ i, i ∈ Region.ready .any ops listed ↔ i < ops.size ∧ listed.getD i true = false ∧ ∀ o, ops[i]? = some o → ∀ d ∈ depsOf o, listed.getD d false = true := by
      intro i
      simp only [Region.ready, List.mem_filter, List.mem_range, Bool.and_eq_true, Bool.not_eq_true']
      constructor
      · rintro ⟨h1, h2, h3⟩
        refine ⟨h1, h2, fun o ho d hd => ?_⟩
        simp only [ho, Option.map_some, Option.getD_some] at h3
        simp only [depsOf, List.mem_map, List.mem_filter] at hd
        obtain ⟨e, ⟨he1, he2⟩, rfl⟩ := hd
        have := Array.all_eq_true_iff_forall_mem.1 h3 e (by simpa using he1)
        simpa [he2] using this
      · rintro ⟨h1, h2, h3⟩
        refine ⟨h1, h2, ?_⟩
        have ho : ops[i]? = some ops[i] := Array.getElem?_eq_getElem h1
        simp only [ho, Option.map_some, Option.getD_some]
        refine Array.all_eq_true_iff_forall_mem.2 fun e he => ?_
        by_cases hb : Region.binds .any e = true
        · have := h3 _ ho e.on (by simp only [depsOf, List.mem_map, List.mem_filter]; exact ⟨e, ⟨by simpa using he, hb⟩, rfl⟩)
          simp [hb, this]
        · simp [hb]
    -- something is ready
    have hready : Region.ready .any ops listed ≠ [] := by
      have hne : ∃ i, i < ops.size ∧ listed.getD i true = false := by
        have : 0 < ((List.range ops.size).filter fun i => !listed.getD i true).length := by omega
        obtain ⟨i, hi⟩ := List.exists_mem_of_length_pos this
        have := List.mem_filter.1 hi
        exact ⟨i, List.mem_range.1 this.1, by simpa using this.2⟩
      obtain ⟨n, ⟨h1, h2⟩, h3⟩ := exists_min hne
      intro e
      have : n ∈ Region.ready .any ops listed := (mem_ready n).2 ⟨h1, h2, fun o ho d hd => by
        have hdn := hdeps n o ho d hd
        refine Classical.byContradiction fun hnot => ?_
        have hlt : d < listed.size := by omega
        have hd2 : listed.getD d true = false := by
          simp [Array.getD, hlt] at hnot ⊢; exact hnot
        have := h3 d ⟨by omega, hd2⟩
        omega⟩
      rw [e] at this; simp at this
    obtain ⟨i, hi⟩ : ∃ i, (Region.ready .any ops listed)[t % (Region.ready .any ops listed).length]? = some i := by
      have hpos : 0 < (Region.ready .any ops listed).length := List.length_pos_iff.2 hready
      exact ⟨_, List.getElem?_eq_getElem (Nat.mod_lt _ hpos)⟩
    have hir := (mem_ready i).1 (List.mem_of_getElem? hi)
    obtain ⟨i1, i2, i3⟩ := hir
    have hgo : Region.linearise.go .any ops (fuel + 1) t listed [] = i :: Region.linearise.go .any ops fuel (t / (Region.ready .any ops listed).length) (listed.setIfInBounds i true) [] := by
      simp only [Region.linearise.go]
      change (match (Region.ready .any ops listed)[t % (Region.ready .any ops listed).length]? with
        | some i => Region.linearise.go .any ops fuel (t / (Region.ready .any ops listed).length) (listed.setIfInBounds i true) [i]
        | none => [].reverse) = _
      rw [hi]
      simp only []
      rw [linearise_go_acc]; rfl
    have hil : i < listed.size := by omega
    have hset : ∀ j b, (listed.setIfInBounds i true).getD j b = if j = i then true else listed.getD j b := by
      intro j b
      by_cases e : j = i
      · subst e; simp [Array.getD, hil]
      · by_cases hj : j < listed.size
        · simp [Array.getD, hj, e, Ne.symm e]
        · simp [Array.getD, hj, e]
    obtain ⟨q1, q2, q3⟩ := go_spec ops hdeps fuel (t / (Region.ready .any ops listed).length) (listed.setIfInBounds i true) (by simpa using hs) (by
      have hp : ((List.range ops.size).filter fun j => !listed.getD j true).Perm (i :: ((List.range ops.size).filter fun j => !(listed.setIfInBounds i true).getD j true)) := by
        refine (List.perm_ext_iff_of_nodup (List.nodup_range.sublist List.filter_sublist) ?_).2 fun j => ?_
        · refine List.nodup_cons.2 ⟨fun h => ?_, List.nodup_range.sublist List.filter_sublist⟩
          have := (List.mem_filter.1 h).2
          rw [hset] at this; simp at this
        · simp only [List.mem_filter, List.mem_range, List.mem_cons, hset]
          by_cases e : j = i
          · subst e; simp [i1, i2]
          · simp [e]
      have := hp.length_eq
      simp only [List.length_cons] at this
      omega)
    rw [hgo]
    refine ⟨List.nodup_cons.2 ⟨fun h => ?_, q1⟩, fun j => ?_, fun s1 j s2 e o ho d hd => ?_⟩
    · have := ((q2 i).1 h).2
      rw [hset] at this; simp at this
    · simp only [List.mem_cons, q2, hset]
      by_cases e : j = i
      · subst e; simp [i1, i2]
      · simp [e]
    · cases s1 with
      | nil =>
        simp only [List.nil_append, List.cons.injEq] at e
        obtain ⟨rfl, _⟩ := e
        exact .inl (i3 o ho d hd)
      | cons a s1 =>
        simp only [List.cons_append, List.cons.injEq] at e
        obtain ⟨rfl, e⟩ := e
        rcases q3 s1 j s2 e o ho d hd with h | h
        · rw [hset] at h
          split at h
          · rename_i hdi; subst hdi; exact .inr (by simp)
          · exact .inl h
        · exact .inr (by simp [h])
theorem schedule_spec (ops : Array Oper) (hdeps : ∀ i o, ops[i]? = some o → ∀ d ∈ depsOf o, d < i) (t : Nat) :
    (Region.linearise .any ops t).Nodup ∧ (∀ i, i ∈ Region.linearise .any ops t ↔ i < ops.size) ∧ ∀ s1 i s2, Region.linearise .any ops t = s1 ++ i :: s2 → ∀ o, ops[i]? = some o → ∀ d ∈ depsOf o, d ∈ s1 := by
  have hr : ∀ i b, (Array.replicate ops.size false).getD i b = if i < ops.size then false else b := by
    intro i b
    by_cases h : i < ops.size <;> simp [Array.getD, h]
  obtain ⟨h1, h2, h3⟩ := go_spec ops hdeps ops.size t (Array.replicate ops.size false) (by simp) (by
    have e : (List.range ops.size).filter (fun i => !(Array.replicate ops.size false).getD i true) = List.range ops.size := by
      refine List.filter_eq_self.2 fun i hi => ?_
      rw [hr, if_pos (List.mem_range.1 hi)]; rfl
    rw [e]; simp)
  refine ⟨h1, fun i => ?_, fun s1 i s2 e o ho d hd => ?_⟩
  · refine (h2 i).trans ⟨fun h => h.1, fun h => ⟨h, by rw [hr, if_pos h]⟩⟩
  · rcases h3 s1 i s2 e o ho d hd with h | h
    · rw [hr] at h; split at h <;> simp at h
    · exact h
theorem maskOf_bit (l : List Nat) (x : Nat) : (maskOf l).testBit x = l.contains x := by
  have key : ∀ (l : List Nat) (a : Nat), (l.foldl (fun a n => a ||| 2 ^ n) a).testBit x = (a.testBit x || l.contains x) := by
    intro l
    induction l with
    | nil => intro a; simp
    | cons n l ih =>
      intro a
      rw [List.foldl_cons, ih, Nat.testBit_or, Nat.testBit_two_pow, List.contains_cons, Bool.or_assoc]
      congr 1
      congr 1
      by_cases e : n = x
      · simp [e]
      · have : (x == n) = false := by simpa using Ne.symm e
        simp [e, this]
  have := key l 0
  simpa [maskOf] using this
theorem unionM_bit (cl ds : List Nat) (x : Nat) (h : (unionM cl ds).testBit x = true) : ∃ d ∈ ds, x = d ∨ (cl.getD d 0).testBit x = true := by
  have key : ∀ (l : List Nat) (a : Nat), (l.foldl (fun a d => a ||| (2 ^ d ||| cl.getD d 0)) a).testBit x = true → a.testBit x = true ∨ ∃ d ∈ l, x = d ∨ (cl.getD d 0).testBit x = true := by
    intro l
    induction l with
    | nil => intro a h; exact .inl h
    | cons n l ih =>
      intro a h
      rcases ih _ h with h | ⟨d, hd, h⟩
      · rw [Nat.testBit_or, Nat.testBit_or, Nat.testBit_two_pow] at h
        simp only [Bool.or_eq_true, decide_eq_true_eq] at h
        rcases h with h | h | h
        · exact .inl h
        · exact .inr ⟨n, by simp, .inl h.symm⟩
        · exact .inr ⟨n, by simp, .inr h⟩
      · exact .inr ⟨d, by simp [hd], h⟩
  rcases key ds 0 h with h | h
  · simp at h
  · exact h
theorem mask_disj {a b x : Nat} (h : (a &&& b) = 0) (ha : a.testBit x = true) : b.testBit x = false := by
  have : (a &&& b).testBit x = false := by rw [h]; simp
  rw [Nat.testBit_and, ha] at this
  simpa using this
theorem clear_of_mask {o : AOp} {us : List Nat} (h : (dstM o &&& maskOf us) = 0) : clear o.dst us = true := by
  unfold dstM at h
  refine List.all_eq_true.2 fun n hn => ?_
  cases hd : o.dst with
  | none => rfl
  | some d =>
    rw [hd] at h
    have := mask_disj (x := d) h (by simp)
    rw [maskOf_bit] at this
    have : d ≠ n := by rintro rfl; simp [hn] at this
    simpa using this
theorem commM_sound {l : List AOp} {x y : Nat} (h : commM (l.map fun o => o.k.cls) (l.map dstM) (l.map useM) x y = true) (hx : x < l.length) (hy : y < l.length) : commB (l.getD x default) (l.getD y default) = true := by
  have g : ∀ (f : AOp → Nat) (i : Nat) (h : i < l.length), (l.map f).getD i 0 = f (l.getD i default) := by
    intro f i hi
    simp [List.getD, hi]
  simp only [commM, g _ x hx, g _ y hy, Bool.and_eq_true, beq_iff_eq, Bool.or_eq_true, decide_eq_true_eq] at h
  obtain ⟨⟨⟨h1, h2⟩, h3⟩, h4⟩ := h
  simp only [commB, Bool.and_eq_true, clear_of_mask h1, clear_of_mask h2, true_and, Bool.or_eq_true, beq_iff_eq, decide_eq_true_eq]
  refine ⟨?_, h4⟩
  cases hdx : (l.getD x default).dst with
  | none => simp
  | some d =>
    cases hdy : (l.getD y default).dst with
    | none => simp
    | some e =>
      have := mask_disj (x := d) h3 (by simp only [dstM, hdx]; simp)
      have : d ≠ e := by rintro rfl; simp only [dstM, hdy] at this; simp at this
      right; simpa using this
theorem checkCl_get {ops : List Oper} {cl : List Nat} (h : checkCl ops cl = true) {i : Nat} {o : Oper} (ho : ops[i]? = some o) :
    (∀ d ∈ depsOf o, d < i) ∧ ∀ x, (cl.getD i 0).testBit x = true → ∃ d ∈ depsOf o, x = d ∨ (cl.getD d 0).testBit x = true := by
  have hmem : (o, i) ∈ ops.zipIdx := by rw [List.mem_zipIdx_iff_getElem?]; exact ho
  have := List.all_eq_true.1 h _ hmem
  simp only [Bool.and_eq_true, beq_iff_eq] at this
  refine ⟨fun d hd => by simpa using List.all_eq_true.1 this.1 d hd, fun x hx => unionM_bit cl _ x ?_⟩
  rw [← this.2, Nat.testBit_and] at hx
  simp only [Bool.and_eq_true] at hx
  exact hx.2
theorem topo_cl {ops : Array Oper} {cl : List Nat} (hck : checkCl ops.toList cl = true) {σ : List Nat} (hb : ∀ i ∈ σ, i < ops.size) (ht : ∀ s1 i s2, σ = s1 ++ i :: s2 → ∀ o, ops[i]? = some o → ∀ d ∈ depsOf o, d ∈ s1) :
    ∀ (i : Nat) (x : Nat), (cl.getD i 0).testBit x = true → ∀ s1 s2, σ = s1 ++ i :: s2 → x ∈ s1 := by
  intro i
  induction i using Nat.strongRecOn with
  | _ i ih =>
    intro x hx s1 s2 e
    have hi : i < ops.size := hb i (by rw [e]; simp)
    have ho : ops[i]? = some ops[i] := Array.getElem?_eq_getElem hi
    obtain ⟨c1, c2⟩ := checkCl_get hck (i := i) (o := ops[i]) (by simp)
    obtain ⟨d, hd, h⟩ := c2 x hx
    have hds := ht s1 i s2 e _ ho d hd
    rcases h with rfl | h
    · exact hds
    · obtain ⟨p1, p2, rfl⟩ := List.append_of_mem hds
      have := ih d (c1 d hd) x h p1 (p2 ++ i :: s2) (by rw [e]; simp)
      exact List.mem_append_left _ this
theorem par_sound {P : Program} {own : List Nat} {nb : Nat} {id : Nat} {ops : Array Oper} {cl : List Nat} {hv : Nat} {ords : List (List Nat)} {ls : List (List AOp)} (htr : trDraw P own ops cl hv ords = some ls)
    {Q : Exit → List AV → List AObj → Prop} {fr : List AV} {H : List AObj} (h : ∀ l ∈ ls, opsWp P l (Q .normal) fr H) : AWpC P nb (.region id ops true) Q fr H := by
  simp only [trDraw, Option.bind_eq_bind, Option.bind_eq_some_iff, forceL_eq] at htr
  obtain ⟨l, hl, htr⟩ := htr
  split at htr
  case isFalse => cases htr
  rename_i hc
  obtain ⟨hc1, hc2, hc3⟩ := hc
  cases htr
  obtain ⟨h1, h2⟩ := mapM_some hl
  have hdeps : ∀ i o, ops[i]? = some o → ∀ d ∈ depsOf o, d < i := fun i o ho d hd => (checkCl_get hc1 (i := i) (o := o) (by simpa using ho)).1 d hd
  intro r B w0 mb Hb wb m w a hnb t rl f hd
  refine wpIn_region_draw fun tp => ?_
  simp only [Region.schedule, hc3, Bool.true_or, if_true]
  obtain ⟨s1, s2, s3⟩ := schedule_spec ops hdeps tp
  have hlen : (Region.linearise .any ops tp).length = l.length := by
    have := (range_perm s1 rfl (n := (Region.linearise .any ops tp).length) (fun i hi => ?_)).length_eq
    · have hp : (Region.linearise .any ops tp).Perm (List.range ops.size) := (List.perm_ext_iff_of_nodup s1 List.nodup_range).2 fun i => (s2 i).trans List.mem_range.symm
      have := hp.length_eq
      simp at this h1
      omega
    · have hp : (Region.linearise .any ops tp).Perm (List.range ops.size) := (List.perm_ext_iff_of_nodup s1 List.nodup_range).2 fun i => (s2 i).trans List.mem_range.symm
      have := hp.length_eq
      simp at this
      rw [this]; exact (s2 i).1 hi
  have hszl : ops.size = l.length := by simpa using h1
  have key := draw_sound (P := P) (K := Q .normal) (fr := fr) (H := H) (fun x y hx hy h => commM_sound h hx hy) hc2 s1 hlen (fun i hi => by have := (s2 i).1 hi; omega)
    (fun p1 i p2 e y hy => by
      refine Bool.eq_false_iff.2 fun hcy => ?_
      have hy1 := topo_cl hc1 (fun i hi => (s2 i).1 hi) s3 i y hcy p1 p2 e
      rw [e] at s1
      have := (List.nodup_append.1 s1).2.2 y hy1 y (by simp [hy])
      exact this rfl)
    (fun ord ho => h _ (List.mem_map.2 ⟨ord, ho, rfl⟩))
  obtain ⟨t1, r1⟩ := rl.drew (w.drawn + 1)
  refine ops_sound (own := own) (draw := true) (fun a w h => h) _ _ (by simp) (fun j hj hj' => ?_) m H _ fr a (t.trans t1) r1 (f.mono t1) (hd.mono rl t1) key
  have hlt := (s2 _).1 (List.getElem_mem hj)
  refine ⟨ops[(Region.linearise .any ops tp)[j]], Array.getElem?_eq_getElem hlt, ?_⟩
  have := h2 _ (by simpa using hlt) (by omega : (Region.linearise .any ops tp)[j] < l.length)
  simp only [List.getElem_map]
  have e : l.getD (Region.linearise .any ops tp)[j] default = l[(Region.linearise .any ops tp)[j]]'(by omega) := by simp [List.getD, (by omega : (Region.linearise .any ops tp)[j] < l.length)]
  rw [e]
  simpa using this
section
variable {P : Program} {own : List Nat} {nb : Nat} {Q : Exit → List AV → List AObj → Prop} {fr : List AV} {H : List AObj}
theorem region_sound {id : Nat} {ops : Array Oper} {d : Bool} {ac : AC} (hc : trC P own (.region id ops d) = some ac)
    (h : (∀ l, ac = .ops l → opsWp P l (Q .normal) fr H) ∧ ∀ ls, ac = .par ls → ∀ l ∈ ls, opsWp P l (Q .normal) fr H) : AWpC P nb (.region id ops d) Q fr H := by
  cases d with
  | true =>
    simp only [trC, Option.map_eq_some_iff] at hc
    obtain ⟨ls, hd, rfl⟩ := hc
    obtain ⟨_, _, _, hd⟩ := trReg_some hd
    refine par_sound hd ?_
    match ls, h with
    | [l], h => intro l' hl'; simp at hl'; subst hl'; exact h.1 _ rfl
    | [], h => intro l' hl'; simp at hl'
    | a :: b :: r, h => exact h.2 _ rfl
  | false =>
    intro r B w0 mb Hb wb m w a hn t rl f hd
    simp only [trC, Option.map_eq_some_iff] at hc
    obtain ⟨l, hc, rfl⟩ := hc
    obtain ⟨h1, h2⟩ := mapM_some hc
    refine wpIn_region (ops_sound (own := own) (draw := false) (fun a w h => h) (List.range ops.size) l (by simpa using h1) (fun j hj hj' => ?_) m H w fr a t rl f hd (h.1 l rfl))
    have hj1 : j < ops.toList.length := by simpa using hj
    have := h2 j hj1 hj'
    refine ⟨ops[j]'(by simpa using hj1), ?_, by simpa using this⟩
    simp only [List.getElem_range]
    exact Array.getElem?_eq_getElem _
theorem AWp.ops {l : List AOp} (h : opsWp P l (Q .normal) fr H) : AWp P own nb (.ops l) Q fr H := by
  intro c hc
  cases c <;> try simp [trC, Option.bind_eq_some_iff] at hc
  exact region_sound hc ⟨fun l' e => by cases e; exact h, fun ls e => by cases e⟩
theorem AWp.par {ls : List (List AOp)} (h : ∀ l ∈ ls, opsWp P l (Q .normal) fr H) : AWp P own nb (.par ls) Q fr H := by
  intro c hc
  cases c <;> try simp [trC, Option.bind_eq_some_iff] at hc
  exact region_sound hc ⟨(fun l' e => by cases e), fun ls' e => by cases e; exact h⟩
end
end Go.Fw
