/- Weaker views of values, frames and objects; walks by simp; contracts of what is only read. -/
import Derived.Test.YthipbeffhfdamaaFwX
namespace Go.Fw
open Go Go.RowKit
mutual
def Wk : AV → AV → Prop
  | .und, b => b = .und
  | .sc v, b => b = .und ∨ b = .sc v
  | .imm nl c sz xs, b => match b with
    | .und => True
    | .imm nl' c' sz' xs' => (c' = none ∨ c' = c) ∧ ((nl' = nl ∧ sz' = sz ∧ Wks xs xs') ∨ (nl' = false ∧ xs = [] ∧ xs' = [] ∧ c' = none))
    | _ => False
  | .slc i L off n c, b => b = .und ∨ b = .slc i L off n c
  | .ptr i L k f, b => b = .und ∨ b = .ptr i L k f
  | .ipt e f, b => match b with
    | .und => True
    | .ipt e' f' => f' = f ∧ Wk e e'
    | _ => False
  | .agg cs, b => match b with
    | .agg cs' => Wks cs cs'
    | _ => False
  | .tup cs, b => match b with
    | .und => True
    | .tup cs' => Wks cs cs'
    | _ => False
  | .fn f x y, b => match b with
    | .und => True
    | .fn f' x' y' => f' = f ∧ Wks x x' ∧ Wks y y'
    | _ => False
  | .ifc t v, b => match b with
    | .und => True
    | .ifc t' v' => t' = t ∧ Wk v v'
    | _ => False
def Wks : List AV → List AV → Prop
  | [], l => l = []
  | x :: xs, l => match l with
    | y :: ys => Wk x y ∧ Wks xs ys
    | [] => False
end
attribute [simp] Wk Wks
mutual
theorem Wk.refl : ∀ a, Wk a a
  | .und | .sc _ | .slc .. | .ptr .. => by simp
  | .fn f x y => by simp [Wks.refl x, Wks.refl y]
  | .imm nl c sz xs => by simp [Wks.refl xs]
  | .ipt e f => by simp [Wk.refl e]
  | .agg cs => by simp [Wks.refl cs]
  | .tup cs => by simp [Wks.refl cs]
  | .ifc t v => by simp [Wk.refl v]
theorem Wks.refl : ∀ l, Wks l l
  | [] => by simp
  | x :: xs => by simp [Wk.refl x, Wks.refl xs]
end
@[simp] theorem Wks_same (l : List AV) : Wks l l = True := eq_true (Wks.refl l)
@[simp] theorem Wk_same (a : AV) : Wk a a = True := eq_true (Wk.refl a)
theorem Wks.len : ∀ {l l' : List AV}, Wks l l' → l.length = l'.length
  | [], _, h => by simp at h; simp [h]
  | x :: xs, [], h => by simp at h
  | x :: xs, y :: ys, h => by simp at h ⊢; exact Wks.len h.2
theorem Wks.get : ∀ {l l' : List AV}, Wks l l' → ∀ j (h : j < l.length) (h' : j < l'.length), Wk l[j] l'[j]
  | x :: xs, y :: ys, h, 0, _, _ => by simp at h ⊢; exact h.1
  | x :: xs, y :: ys, h, j + 1, h1, h2 => by
    simp only [Wks] at h
    exact Wks.get h.2 j (by simpa using h1) (by simpa using h2)
@[simp] theorem Wks_app (l a b : List AV) : Wks (l ++ a) (l ++ b) = Wks a b := by
  induction l with
  | nil => rfl
  | cons x l ih => simp [ih]
theorem Wks.append : ∀ {l l' a b : List AV}, Wks l l' → Wks a b → Wks (l ++ a) (l' ++ b)
  | [], _, _, _, h, k => by simp at h; subst h; exact k
  | x :: xs, [], _, _, h, _ => by simp at h
  | x :: xs, y :: ys, _, _, h, k => by simp at h ⊢; exact ⟨h.1, h.2.append k⟩
theorem Wk.cells {a b : AV} (h : Wk a b) : Wks (cellsOf a) (cellsOf b) := by
  cases a with
  | agg cs => cases b <;> first | exact h | (simp at h; done)
  | _ => cases b <;> first | exact ⟨h, rfl⟩ | (simp at h; done)
section
variable {w : World} {W : Nat → Prop}
theorem Wk.ri {a : AV} {v : Value} (h : RI w W a v) : ∀ {b : AV}, Wk a b → RI w W b v := by
  induction h with
  | und v => intro b hb; simp at hb; subst hb; exact .und v
  | sc v h => intro b hb; simp at hb; rcases hb with rfl | rfl; exact .und _; exact .sc v h
  | nil c sz =>
    intro b hb
    cases b <;> first | (simp at hb; done) | exact .und _ | skip
    rename_i nl' c' sz' xs'
    simp only [Wk, Wks] at hb
    obtain ⟨hc, ⟨rfl, rfl, rfl⟩ | ⟨rfl, _, rfl, rfl⟩⟩ := hb
    · exact .nil _ _
    · exact .nilx _ _ (by simp)
  | nilx c sz hc0 =>
    intro b hb
    cases b <;> first | (simp at hb; done) | exact .und _ | skip
    rename_i nl' c' sz' xs'
    simp only [Wk, Wks] at hb
    obtain ⟨hc, ⟨rfl, rfl, rfl⟩ | ⟨rfl, _, rfl, rfl⟩⟩ := hb
    · rcases hc with rfl | rfl
      · exact .nilx _ _ (by simp)
      · exact .nilx _ _ hc0
    · exact .nilx _ _ (by simp)
  | @imm a n cap sz c xs cv hn hcap hc hcell hsz hrv ih =>
    intro b hb
    cases b <;> first | (simp at hb; done) | exact .und _ | skip
    rename_i nl' c' sz' xs'
    simp only [Wk] at hb
    obtain ⟨hcc, ⟨rfl, rfl, hx⟩ | ⟨rfl, rfl, rfl, rfl⟩⟩ := hb
    · have hl := hx.len
      refine .imm cv (by omega) hcap (fun k e => by rcases hcc with rfl | rfl; cases e; exact hc k e) hcell (fun k hk => ?_) (fun k j hk hj => ?_)
      · have hk' : k < xs.length := by omega
        have := (hx.get k hk' hk).cells.len
        rw [← this]; exact hsz k hk'
      · have hk' : k < xs.length := by omega
        have hcs := (hx.get k hk' hk).cells
        have hj' : j < (cellsOf xs[k]).length := by rw [hcs.len]; exact hj
        exact ih k j hk' hj' (hcs.get j hj' hj)
    · simp at hn; subst hn
      exact .imm cv rfl hcap (by simp) (fun k j hk => by omega) (fun k hk => by simp at hk) (fun k j hk => by simp at hk)
  | @ipt a e f cv hcell hrv ih =>
    intro b hb
    cases b <;> first | (simp at hb; done) | exact .und _ | skip
    rename_i e' f'
    simp only [Wk] at hb
    obtain ⟨rfl, he⟩ := hb
    have hcs := he.cells
    have hl := hcs.len
    exact .ipt cv (fun j hj => hcell j (by omega)) (fun j hj => ih j (by omega) (hcs.get j (by omega) hj))
  | @agg cs vs hn hrv ih =>
    intro b hb
    cases b <;> first | (simp at hb; done) | exact .und _ | skip
    simp only [Wk] at hb
    exact .agg (by rw [← hb.len]; exact hn) (fun j h h' => ih j (by rw [hb.len]; exact h) h' (hb.get j _ h))
  | @tup cs vs hn hrv ih =>
    intro b hb
    cases b <;> first | (simp at hb; done) | exact .und _ | skip
    simp only [Wk] at hb
    exact .tup (by rw [← hb.len]; exact hn) (fun j h h' => ih j (by rw [hb.len]; exact h) h' (hb.get j _ h))
  | fn hn hn' hrv hrv' ih ih' =>
    intro b hb
    cases b <;> first | (simp at hb; done) | exact .und _ | skip
    simp only [Wk] at hb
    obtain ⟨rfl, h1, h2⟩ := hb
    exact .fn (by rw [← h1.len]; exact hn) (by rw [← h2.len]; exact hn') (fun j h h' => ih j (by rw [h1.len]; exact h) h' (h1.get j _ h)) (fun j h h' => ih' j (by rw [h2.len]; exact h) h' (h2.get j _ h))
  | ifc h ih =>
    intro b hb
    cases b <;> first | (simp at hb; done) | exact .und _ | skip
    simp only [Wk] at hb
    obtain ⟨rfl, hv⟩ := hb
    exact .ifc (ih hv)
end
section
variable {w : World} {m : BM} {H : List AObj}
theorem Wk.rv {a : AV} {v : Value} (h : RV w m H a v) : ∀ {b : AV}, Wk a b → RV w m H b v := by
  induction h with
  | ri h => intro b hb; exact .ri (Wk.ri h hb)
  | slc o ho hL hv => intro b hb; simp at hb; rcases hb with rfl | rfl; exact .und _; exact .slc o ho hL hv
  | ptr o ho hL hv => intro b hb; simp at hb; rcases hb with rfl | rfl; exact .und _; exact .ptr o ho hL hv
  | @agg cs vs hn hrv ih =>
    intro b hb
    cases b <;> first | (simp at hb; done) | exact .und _ | skip
    simp only [Wk] at hb
    exact .agg (by rw [← hb.len]; exact hn) (fun j h h' => ih j (by rw [hb.len]; exact h) h' (hb.get j _ h))
  | @tup cs vs hn hrv ih =>
    intro b hb
    cases b <;> first | (simp at hb; done) | exact .und _ | skip
    simp only [Wk] at hb
    exact .tup (by rw [← hb.len]; exact hn) (fun j h h' => ih j (by rw [hb.len]; exact h) h' (hb.get j _ h))
  | fn hn hn' hrv hrv' ih ih' =>
    intro b hb
    cases b <;> first | (simp at hb; done) | exact .und _ | skip
    simp only [Wk] at hb
    obtain ⟨rfl, h1, h2⟩ := hb
    exact .fn (by rw [← h1.len]; exact hn) (by rw [← h2.len]; exact hn') (fun j h h' => ih j (by rw [h1.len]; exact h) h' (h1.get j _ h)) (fun j h h' => ih' j (by rw [h2.len]; exact h) h' (h2.get j _ h))
  | ifc h ih =>
    intro b hb
    cases b <;> first | (simp at hb; done) | exact .und _ | skip
    simp only [Wk] at hb
    obtain ⟨rfl, hv⟩ := hb
    exact .ifc (ih hv)
end
def leF : List AV → List AV → Prop
  | [], l => l = []
  | x :: xs, l => match l with
    | y :: ys => (y = .und ∨ Wk x y) ∧ leF xs ys
    | [] => False
def leH : List AObj → List AObj → Prop
  | [], l => l = []
  | x :: xs, l => match l with
    | y :: ys => (y.ty = x.ty ∧ y.sz = x.sz ∧ y.live = x.live ∧ y.vir = x.vir ∧ Wks x.es y.es) ∧ leH xs ys
    | [] => False
attribute [simp] leF leH
theorem leF.len : ∀ {l l' : List AV}, leF l l' → l.length = l'.length
  | [], _, h => by simp at h; simp [h]
  | x :: xs, [], h => by simp at h
  | x :: xs, y :: ys, h => by simp only [leF] at h; simp; exact leF.len h.2
theorem leF.get : ∀ {l l' : List AV}, leF l l' → ∀ j (h : j < l.length) (h' : j < l'.length), l'[j] = .und ∨ Wk l[j] l'[j]
  | x :: xs, y :: ys, h, 0, _, _ => by simp only [leF] at h; exact h.1
  | x :: xs, y :: ys, h, j + 1, h1, h2 => by
    simp only [leF] at h
    exact leF.get h.2 j (by simpa using h1) (by simpa using h2)
theorem leH.get : ∀ {l l' : List AObj}, leH l l' → ∀ (j : Nat) (o' : AObj), l'[j]? = some o' → ∃ o, l[j]? = some o ∧ o'.ty = o.ty ∧ o'.sz = o.sz ∧ o'.live = o.live ∧ o'.vir = o.vir ∧ Wks o.es o'.es
  | [], _, h, j, o', e => by simp only [leH] at h; subst h; simp at e
  | x :: xs, [], h, j, o', e => by simp at e
  | x :: xs, y :: ys, h, 0, o', e => by
    simp only [leH] at h
    simp at e; subst e
    exact ⟨x, rfl, h.1⟩
  | x :: xs, y :: ys, h, j + 1, o', e => by
    simp only [leH] at h
    simpa using leH.get h.2 j o' (by simpa using e)
theorem leH.len : ∀ {l l' : List AObj}, leH l l' → l.length = l'.length
  | [], _, h => by simp only [leH] at h; simp [h]
  | x :: xs, [], h => by simp only [leH] at h
  | x :: xs, y :: ys, h => by simp only [leH] at h; simp; exact leH.len h.2
theorem leH.refl : ∀ l, leH l l
  | [] => rfl
  | _ :: xs => ⟨⟨rfl, rfl, rfl, rfl, Wks.refl _⟩, leH.refl xs⟩
theorem leF.refl : ∀ l, leF l l
  | [] => rfl
  | x :: xs => by simp only [leF]; exact ⟨.inr (Wk.refl _), leF.refl xs⟩
theorem Weak.le {nb : Nat} {fr fr' : List AV} {H H' : List AObj} (hf : leF fr fr') (hh : leH H H') : Weak nb fr H fr' H' := by
  intro B w0 mb Hb wb m w tmps hn t r f
  have real : ∀ {i}, Real H' i → Real H i := by
    rintro i ⟨o', ho, hl, hv⟩
    obtain ⟨o, h1, _, _, h4, h5, _⟩ := hh.get i o' ho
    exact ⟨o, h1, by rw [← h4]; exact hl, by rw [← h5]; exact hv⟩
  have hwr : ∀ b, Wr m H' b → Wr m H b := by
    rintro b (h | ⟨i, hr, e⟩)
    · exact .inl h
    · exact .inr ⟨i, real hr, e⟩
  have t1 : Tr m H w m H' w := by
    refine ⟨Nat.le_refl _, Nat.le_of_eq hh.len, fun _ _ _ => rfl, fun b _ hn hw => hn (hwr b hw), fun i o o' ho ho' => ?_, rfl⟩
    obtain ⟨x, h1, _, h3, h4, h5, h6⟩ := hh.get i o' ho'
    rw [ho] at h1; cases h1
    exact ⟨Nat.le_of_eq h6.len, fun hl _ => ⟨by rw [← h4]; exact hl, rfl, h5, h3⟩⟩
  refine ⟨m, t.trans t1, ⟨r.below, r.hB, fun i o ho => ?_, fun i o ho hv => ?_, fun i h => r.base i (real h), fun i o ho hl hv => ?_, fun i i' h h' e => r.inj i i' (real h) (real h') e, r.xlt⟩, ?_⟩
  · obtain ⟨x, h1, _, h3, _⟩ := hh.get i o ho
    rw [h3]; exact r.szpos i x h1
  · obtain ⟨x, h1, _, _, _, h5, h6⟩ := hh.get i o ho
    have := r.virt i x h1 (by rw [← h5]; exact hv)
    have h7 := h6.len
    rw [this] at h7
    exact List.eq_nil_of_length_eq_zero h7.symm
  · obtain ⟨x, h1, h2, h3, h4, h5, h6⟩ := hh.get i o ho
    obtain ⟨arr, a1, a2, a3⟩ := r.obj i x h1 (by rw [← h4]; exact hl) (by rw [← h5]; exact hv)
    refine ⟨arr, by rw [h2]; exact a1, by rw [h3, ← h6.len]; exact a2, fun k hk => ?_⟩
    have hk' : k < x.es.length := by rw [h6.len]; exact hk
    have hcs := (h6.get k hk' hk).cells
    obtain ⟨b1, b2⟩ := a3 k hk'
    refine ⟨by rw [← hcs.len, h3]; exact b1, fun j hj => ?_⟩
    have hj' : j < (cellsOf x.es[k]).length := by rw [hcs.len]; exact hj
    obtain ⟨v, c1, c2⟩ := b2 j hj'
    exact ⟨v, by rw [h3]; exact c1, Wk.rv (c2.mono t1) (hcs.get j hj' hj)⟩
  · have f1 := f.mono t1
    refine ⟨by rw [← hf.len]; exact f.len, fun i h1 h2 => ?_⟩
    have h1' : i < fr.length := by rw [hf.len]; exact h1
    rcases hf.get i h1' h1 with e | e
    · rw [e]; exact .und _
    · exact Wk.rv (f1.rv i h1' h2) e
def ownsF : List (Nat × Nat × Nat) → List AV → List AObj → Option (List AV × List AObj)
  | [], fr, H => some (fr, H)
  | (d, ty, sz) :: l, fr, H => match fr[d]? with
    | some (.imm true _ _ []) => if 0 < sz then ownsF l (fr.set d (.slc H.length 0 0 0 none)) (H ++ [{ ty := ty, sz := sz, es := [], vir := some true }]) else none
    | _ => none
theorem Weak.owns {nb : Nat} : ∀ (l : List (Nat × Nat × Nat)) {fr fr' : List AV} {H H' : List AObj}, ownsF l fr H = some (fr', H') → Weak nb fr H fr' H'
  | [], _, _, _, _, h => by simp only [ownsF, Option.some.injEq, Prod.mk.injEq] at h; obtain ⟨rfl, rfl⟩ := h; exact Weak.refl _ _ _
  | (d, ty, sz) :: l, fr, fr', H, H', h => by
    simp only [ownsF] at h
    split at h
    · rename_i c sz' hd
      split at h
      · rename_i hsz
        exact (Weak.own d ty sz hsz c sz' hd).trans (Weak.owns l h)
      · cases h
    · cases h
section
variable {P : Program} {own : List Nat} {nb : Nat}
inductive Blk2 (a b : AC) (Q : Exit → List AV → List AObj → Prop) : Type
  | mk
inductive Blk1 (a : AC) (Q : Exit → List AV → List AObj → Prop) : Type
  | mk
def er : AC → AC
  | .seq a b => .seq (er a) (er b)
  | .cond x a b => .cond x (er a) (er b)
  | .block i a => .block i (er a)
  | .loop a => .loop (er a)
  | .range g ps mv a => .range g ps mv (er a)
  | .here a => er a
  | .skip => .skip
  | .ops l => .ops l
  | .par l => .par l
  | .exit i => .exit i
  | .ret => .ret
def Lp (P : Program) (own : List Nat) (nb : Nat) (a : AC) (Q : Exit → List AV → List AObj → Prop) (_ : Blk1 a Q) (fr : List AV) (H : List AObj) : Prop := AWp P own nb (er a) Q fr H
def Hr (P : Program) (own : List Nat) (nb : Nat) (a : AC) (Q : Exit → List AV → List AObj → Prop) (_ : Blk1 a Q) (fr : List AV) (H : List AObj) : Prop := AWp P own nb (er a) Q fr H
mutual
def wp (P : Program) (own : List Nat) (nb : Nat) : AC → (Exit → List AV → List AObj → Prop) → List AV → List AObj → Prop
  | .skip, Q, fr, H => Q .normal fr H
  | .ops l, Q, fr, H => opsWp P l (Q .normal) fr H
  | .par ls, Q, fr, H => ∀ l ∈ ls, opsWp P l (Q .normal) fr H
  | .seq a b, Q, fr, H => wp P own nb a (qSeq (wp P own nb b Q) Q) fr H
  | .cond x a b, Q, fr, H => match x.ev fr with
    | .sc (.bool c) => (c = true → wp P own nb a Q fr H) ∧ (c = false → wp P own nb b Q fr H)
    | _ => False
  | .block id a, Q, fr, H => wp P own nb a (qBlock id Q) fr H
  | .exit id, Q, fr, H => Q (.exit id) fr H
  | .ret, Q, fr, H => Q .ret fr H
  | .loop a, Q, fr, H => Lp P own nb (.loop a) Q .mk fr H
  | .range g ps mv a, Q, fr, H => Lp P own nb (.range g ps mv a) Q .mk fr H
  | .here a, Q, fr, H => Hr P own nb a Q .mk fr H
end
theorem AWp.of_wp : ∀ {ac : AC} {Q : Exit → List AV → List AObj → Prop} {fr : List AV} {H : List AObj}, wp P own nb ac Q fr H → AWp P own nb (er ac) Q fr H
  | .skip, Q, fr, H, h => AWp.skip (by simpa only [wp] using h)
  | .ops l, Q, fr, H, h => AWp.ops (by simpa only [wp] using h)
  | .par ls, Q, fr, H, h => AWp.par (by simpa only [wp] using h)
  | .seq a b, Q, fr, H, h => by
    simp only [wp] at h
    refine AWp.seq ((AWp.of_wp h).mono fun e fr H hq => ?_)
    cases e with
    | normal => exact AWp.of_wp hq
    | _ => exact hq
  | .cond x a b, Q, fr, H, h => by
    simp only [wp] at h
    split at h
    · rename_i c hx
      exact AWp.cond hx (fun e => AWp.of_wp (h.1 e)) (fun e => AWp.of_wp (h.2 e))
    · exact h.elim
  | .block id a, Q, fr, H, h => AWp.block (AWp.of_wp (by simpa only [wp] using h))
  | .exit id, Q, fr, H, h => AWp.exit (by simpa only [wp] using h)
  | .ret, Q, fr, H, h => AWp.ret (by simpa only [wp] using h)
  | .loop a, Q, fr, H, h => by simpa only [wp, Lp] using h
  | .range g ps mv a, Q, fr, H, h => by simpa only [wp, Lp] using h
  | .here a, Q, fr, H, h => by simpa only [wp, Hr, er] using h
def Cnd (P : Program) (own : List Nat) (nb : Nat) (a b : AC) (Q : Exit → List AV → List AObj → Prop) (_ : Blk2 a b Q) (c : Bool) (fr : List AV) (H : List AObj) : Prop :=
  (c = true → wp P own nb a Q fr H) ∧ (c = false → wp P own nb b Q fr H)
variable {a b : AC} {Q : Exit → List AV → List AObj → Prop} {fr : List AV} {H : List AObj}
theorem wp_skip : wp P own nb .skip Q fr H = Q .normal fr H := by simp only [wp]
theorem wp_ops {l : List AOp} : wp P own nb (.ops l) Q fr H = opsWp P l (Q .normal) fr H := by simp only [wp]
theorem wp_par {ls : List (List AOp)} : wp P own nb (.par ls) Q fr H = ∀ l ∈ ls, opsWp P l (Q .normal) fr H := by simp only [wp]
def sq (P : Program) (own : List Nat) (nb : Nat) (b : AC) (Q : Exit → List AV → List AObj → Prop) : Exit → List AV → List AObj → Prop := qSeq (wp P own nb b Q) Q
theorem wp_seq : wp P own nb (.seq a b) Q fr H = wp P own nb a (sq P own nb b Q) fr H := by simp only [wp, sq]
@[simp] theorem sq_normal : sq P own nb b Q .normal fr H = wp P own nb b Q fr H := id rfl
@[simp] theorem sq_ret : sq P own nb b Q .ret fr H = Q .ret fr H := id rfl
@[simp] theorem sq_exit {i : Nat} : sq P own nb b Q (.exit i) fr H = Q (.exit i) fr H := id rfl
theorem sq_normal' : sq P own nb b Q .normal = wp P own nb b Q := rfl
theorem sq_ret' : sq P own nb b Q .ret = Q .ret := rfl
@[simp high] theorem qBlock_ret {i : Nat} : qBlock i Q .ret fr H = Q .ret fr H := id rfl
@[simp high] theorem qBlock_normal {i : Nat} : qBlock i Q .normal fr H = Q .normal fr H := id rfl
@[simp high] theorem qBlock_here {id : Nat} : qBlock id Q (.exit id) fr H = Q .normal fr H := by simp only [qBlock, if_pos]
@[simp high] theorem qSeq_ret {n : List AV → List AObj → Prop} : qSeq n Q .ret fr H = Q .ret fr H := id rfl
@[simp high] theorem qSeq_normal {n : List AV → List AObj → Prop} : qSeq n Q .normal fr H = n fr H := id rfl
theorem wp_cond {x : AX} : wp P own nb (.cond x a b) Q fr H = match x.ev fr with
    | .sc (.bool c) => Cnd P own nb a b Q .mk c fr H
    | _ => False := by simp only [wp, Cnd]
theorem wp_block {id : Nat} : wp P own nb (.block id a) Q fr H = wp P own nb a (qBlock id Q) fr H := by simp only [wp]
theorem wp_exit {id : Nat} : wp P own nb (.exit id) Q fr H = Q (.exit id) fr H := by simp only [wp]
theorem wp_ret : wp P own nb .ret Q fr H = Q .ret fr H := by simp only [wp]
theorem wp_loop : wp P own nb (.loop a) Q fr H = Lp P own nb (.loop a) Q .mk fr H := by simp only [wp]
theorem wp_range {g : AX} {ps : List Nat} {mv : List (Nat × Nat)} : wp P own nb (.range g ps mv a) Q fr H = Lp P own nb (.range g ps mv a) Q .mk fr H := by simp only [wp]
theorem wp_here : wp P own nb (.here a) Q fr H = Hr P own nb a Q .mk fr H := by simp only [wp]
attribute [simp] wp_here wp_skip wp_ops wp_par wp_seq wp_cond wp_block wp_exit wp_ret wp_loop wp_range
@[simp] theorem Cnd_true {k : Blk2 a b Q} : Cnd P own nb a b Q k true fr H = wp P own nb a Q fr H := by simp [Cnd]
@[simp] theorem Cnd_false {k : Blk2 a b Q} : Cnd P own nb a b Q k false fr H = wp P own nb b Q fr H := by simp [Cnd]
theorem Cnd.sp {k : Blk2 a b Q} {c : Bool} (ht : c = true → wp P own nb a Q fr H) (hf : c = false → wp P own nb b Q fr H) : Cnd P own nb a b Q k c fr H := ⟨ht, hf⟩
theorem Hr.w {b : Blk1 a Q} {fr' : List AV} {H' : List AObj} (hw : Weak nb fr H fr' H') (h : wp P own nb a Q fr' H') : Hr P own nb a Q b fr H := AWp.weak hw (AWp.of_wp h)
theorem wp.weak {ac : AC} {fr' : List AV} {H' : List AObj} (hw : Weak nb fr H fr' H') (h : AWp P own nb ac Q fr' H') : AWp P own nb ac Q fr H := AWp.weak hw h
theorem wp.mono : ∀ {x : AC} {Q1 Q2 : Exit → List AV → List AObj → Prop} {fr : List AV} {H : List AObj}, (∀ e fr H, Q1 e fr H → Q2 e fr H) → wp P own nb x Q1 fr H → wp P own nb x Q2 fr H := by
  intro x
  induction x with
  | skip => intro Q1 Q2 fr H hq h; simp only [wp] at h ⊢; exact hq _ _ _ h
  | ops l =>
    intro Q1 Q2 fr H hq h; simp only [wp] at h ⊢
    exact opsWp_mono (hq _) h
  | par ls =>
    intro Q1 Q2 fr H hq h; simp only [wp] at h ⊢
    exact fun l hl => opsWp_mono (hq _) (h l hl)
  | seq x y ihx ihy =>
    intro Q1 Q2 fr H hq h; simp only [wp] at h ⊢
    refine ihx (fun e fr H h => ?_) h
    cases e with
    | normal => exact ihy hq h
    | _ => exact hq _ _ _ h
  | cond c x y ihx ihy =>
    intro Q1 Q2 fr H hq h; simp only [wp] at h ⊢
    split at h
    · exact ⟨fun e => ihx hq (h.1 e), fun e => ihy hq (h.2 e)⟩
    · exact h
  | block id x ih =>
    intro Q1 Q2 fr H hq h; simp only [wp] at h ⊢
    refine ih (fun e fr H h => ?_) h
    cases e with
    | exit i => simp only [qBlock] at h ⊢; split at h <;> (split <;> first | exact hq _ _ _ h | contradiction)
    | _ => exact hq _ _ _ h
  | exit id => intro Q1 Q2 fr H hq h; simp only [wp] at h ⊢; exact hq _ _ _ h
  | ret => intro Q1 Q2 fr H hq h; simp only [wp] at h ⊢; exact hq _ _ _ h
  | loop x ih => intro Q1 Q2 fr H hq h; simp only [wp, Lp] at h ⊢; exact AWp.mono h hq
  | range g ps mv x ih => intro Q1 Q2 fr H hq h; simp only [wp, Lp] at h ⊢; exact AWp.mono h hq
  | here x ih => intro Q1 Q2 fr H hq h; simp only [wp, Hr] at h ⊢; exact AWp.mono h hq
theorem Lp.on {σ : Type} {k : Blk1 (.loop a) Q} (J : σ → Prop) (μ : σ → Nat) (F : σ → List AV) (G : σ → List AObj) (s0 : σ) (hw : Weak nb fr H (F s0) (G s0)) (h0 : J s0)
    (step : ∀ s, J s → wp P own nb a (qSeq (fun fr' H' => ∃ s', J s' ∧ μ s' < μ s ∧ Weak nb fr' H' (F s') (G s')) Q) (F s) (G s)) : Lp P own nb (.loop a) Q k fr H := by
  refine AWp.loop (fun s fr H => J s ∧ fr = F s ∧ H = G s) μ s0 hw ⟨h0, rfl, rfl⟩ ?_
  rintro s _ _ ⟨hJ, rfl, rfl⟩
  refine (AWp.of_wp (step s hJ)).mono fun e fr H hq => ?_
  cases e with
  | normal => obtain ⟨s', h1, h2, h3⟩ := hq; exact ⟨s', _, _, h3, ⟨h1, rfl, rfl⟩, h2⟩
  | _ => exact hq
theorem Lp.up {k : Blk1 (.loop a) Q} (n : Nat) (J : Nat → Prop) (F : Nat → List AV) (G : Nat → List AObj) (hw : Weak nb fr H (F 0) (G 0)) (h0 : J 0)
    (step : ∀ i, i ≤ n → J i → wp P own nb a (qSeq (fun fr' H' => i < n ∧ J (i + 1) ∧ Weak nb fr' H' (F (i + 1)) (G (i + 1))) Q) (F i) (G i)) : Lp P own nb (.loop a) Q k fr H := by
  refine Lp.on (fun i => i ≤ n ∧ J i) (fun i => n - i) F G 0 hw ⟨Nat.zero_le _, h0⟩ ?_
  rintro i ⟨hi, hJ⟩
  refine wp.mono (fun e fr H hq => ?_) (step i hi hJ)
  cases e with
  | normal => exact ⟨i + 1, ⟨hq.1, hq.2.1⟩, by have := hq.1; omega, hq.2.2⟩
  | _ => exact hq
end
end Go.Fw
/- Own objects let go, as plain lists; contracts of what is only read; the words of walks. -/
namespace Go.Fw
open Go Go.RowKit
def fz (H : List AObj) (k : Nat) : Nat → Bool → AV → AV
  | 0, _, v =>
    match v with
    | .agg cs => .agg (cs.map fun _ => .und)
    | .sc v => .sc v
    | .imm nl c sz xs => .imm nl c sz xs
    | .ipt e f => .ipt e f
    | _ => .und
  | n + 1, b, v =>
    match v with
    | .agg cs => .agg (cs.map (fz H k n b))
    | .tup cs => .tup (cs.map (fz H k n b))
    | .fn f x y => .fn f (x.map (fz H k n b)) (y.map (fz H k n b))
    | .ifc t v => .ifc t (fz H k n b v)
    | .slc i L off q c =>
      if i < k then (if b then .slc i L off q c else .und)
      else match live? H i L with
        | some o => if off + q ≤ L ∧ (c = none ∨ o.vir = none) then .imm false c o.sz ((if off = 0 ∧ q = L then o.es else (o.es.drop off).take q).map (fz H k n false)) else .und
        | none => .und
    | .ptr i L q f =>
      if i < k then (if b then .ptr i L q f else .und)
      else match live? H i L with
        | some o => if o.vir = none then match o.es[q]? with
            | some e => .ipt (fz H k n false e) f
            | none => .und
          else .und
        | none => .und
    | v => v
theorem Wks.maps {f g : AV → AV} (h : ∀ v, Wk (f v) (g v)) : ∀ l : List AV, Wks (l.map f) (l.map g)
  | [] => rfl
  | x :: xs => by simp only [List.map_cons, Wks]; exact ⟨h x, Wks.maps h xs⟩
theorem Wk_fz {H : List AObj} {k : Nat} (hv : ∀ (i : Nat) (o : AObj), H[i]? = some o → o.vir ≠ none → o.es = []) : ∀ (n : Nat) (b : Bool) (v : AV), Wk (frz H k n b v) (fz H k n b v)
  | 0, b, v => by cases v <;> first | exact Wk.refl _ | simp [frz, fz]
  | n + 1, b, v => by
    cases v with
    | agg cs => simp only [frz, fz, Wk]; exact Wks.maps (Wk_fz hv n b) cs
    | tup cs => simp only [frz, fz, Wk]; exact Wks.maps (Wk_fz hv n b) cs
    | fn f x y => simp only [frz, fz, Wk]; exact ⟨trivial, Wks.maps (Wk_fz hv n b) x, Wks.maps (Wk_fz hv n b) y⟩
    | ifc t v => simp only [frz, fz, Wk]; exact ⟨trivial, Wk_fz hv n b v⟩
    | slc i L off q c =>
      simp only [frz, fz]
      split
      · exact Wk.refl _
      · cases hl : live? H i L with
        | none => exact Wk.refl _
        | some o =>
          obtain ⟨ho, _, hL⟩ := live?_some hl
          simp only
          cases hvir : o.vir with
          | none =>
            simp only [or_true, and_true]
            split
            · simp only [Wk]; exact ⟨.inr trivial, .inl ⟨trivial, trivial, Wks.maps (Wk_fz hv n false) _⟩⟩
            · exact Wk.refl _
          | some z =>
            have he := hv i o ho (by rw [hvir]; simp)
            cases z <;> simp only [he] <;> (split <;> simp_all)
    | ptr i L q f =>
      simp only [frz, fz]
      split
      · exact Wk.refl _
      · cases hl : live? H i L with
        | none => exact Wk.refl _
        | some o =>
          simp only
          split
          · cases he : o.es[q]? with
            | none => exact Wk.refl _
            | some e => simp only [Wk]; exact ⟨trivial, Wk_fz hv n false e⟩
          · exact Wk.refl _
    | _ => exact Wk.refl _
def fzH (H : List AObj) (k n : Nat) : List AObj := (H.take k).map fun o => { o with es := o.es.map (fz H k n true) }
theorem leH_fz {H : List AObj} {k : Nat} (hv : ∀ (i : Nat) (o : AObj), H[i]? = some o → o.vir ≠ none → o.es = []) (n : Nat) : leH (frzH H k n) (fzH H k n) := by
  unfold frzH fzH
  generalize H.take k = l
  induction l with
  | nil => rfl
  | cons x l ih => simp only [List.map_cons, leH]; exact ⟨⟨trivial, trivial, trivial, trivial, Wks.maps (Wk_fz hv n true) _⟩, ih⟩
theorem leF_fz {H : List AObj} {k : Nat} (hv : ∀ (i : Nat) (o : AObj), H[i]? = some o → o.vir ≠ none → o.es = []) (n : Nat) : ∀ fr : List AV, leF (fr.map (frz H k n true)) (fr.map (fz H k n true))
  | [] => rfl
  | x :: fr => by simp only [List.map_cons, leF]; exact ⟨.inr (Wk_fz hv n true x), leF_fz hv n fr⟩
theorem Weak.virt {nb : Nat} {fr fr' : List AV} {H H' : List AObj} (h : (∀ (i : Nat) (o : AObj), H[i]? = some o → o.vir ≠ none → o.es = []) → Weak nb fr H fr' H') : Weak nb fr H fr' H' :=
  fun B w0 mb Hb wb m w tmps hn t r f => h r.virt B w0 mb Hb wb m w tmps hn t r f
theorem Weak.fz {nb : Nat} {fr : List AV} {H : List AObj} (k n : Nat) (hk : nb ≤ k) : Weak nb fr H (fr.map (fz H k n true)) (fzH H k n) :=
  Weak.virt fun hv => (Weak.freeze k n hk).trans (Weak.le (leF_fz hv n fr) (leH_fz hv n))
def wkN (nb k n : Nat) (fr : List AV) (H : List AObj) (fr' : List AV) (H' : List AObj) : Prop :=
  nb ≤ k ∧ leF (fr.map (fz H k n true)) fr' ∧ leH (fzH H k n) H'
theorem Weak.next {nb : Nat} (k n : Nat) {fr fr' : List AV} {H H' : List AObj} (h : wkN nb k n fr H fr' H') : Weak nb fr H fr' H' :=
  (Weak.fz k n h.1).trans (Weak.le h.2.1 h.2.2)
def wkO (nb : Nat) (l : List (Nat × Nat × Nat)) (k n : Nat) (fr : List AV) (H : List AObj) (fr' : List AV) (H' : List AObj) : Prop :=
  match ownsF l fr H with
  | some (f, K) => wkN nb k n f K fr' H'
  | none => False
theorem Weak.nextO {nb : Nat} (l : List (Nat × Nat × Nat)) (k n : Nat) {fr fr' : List AV} {H H' : List AObj} (h : wkO nb l k n fr H fr' H') : Weak nb fr H fr' H' := by
  unfold wkO at h
  split at h
  · rename_i f K e
    exact (Weak.owns l e).trans (Weak.next k n h)
  · exact h.elim
attribute [simp] wkN wkO ownsF fzH
section
variable {H : List AObj} {k n : Nat} {b : Bool}
@[simp] theorem fz_und : fz H k n b .und = .und := by cases n <;> rfl
@[simp] theorem fz_sc (v : Value) : fz H k n b (.sc v) = .sc v := by cases n <;> rfl
@[simp] theorem fz_imm (nl : Bool) (c : Option Nat) (sz : Nat) (xs : List AV) : fz H k n b (.imm nl c sz xs) = .imm nl c sz xs := by cases n <;> rfl
@[simp] theorem fz_ipt (e : AV) (f : Nat) : fz H k n b (.ipt e f) = .ipt e f := by cases n <;> rfl
@[simp] theorem fz_agg (cs : List AV) : fz H k (n + 1) b (.agg cs) = .agg (cs.map (fz H k n b)) := rfl
@[simp] theorem fz_tup (cs : List AV) : fz H k (n + 1) b (.tup cs) = .tup (cs.map (fz H k n b)) := rfl
@[simp] theorem fz_fn (f : Fn) (x y : List AV) : fz H k (n + 1) b (.fn f x y) = .fn f (x.map (fz H k n b)) (y.map (fz H k n b)) := rfl
@[simp] theorem fz_ifc (t : TypeId) (v : AV) : fz H k (n + 1) b (.ifc t v) = .ifc t (fz H k n b v) := rfl
@[simp] theorem fz_slc (i L off q : Nat) (c : Option Nat) : fz H k (n + 1) b (.slc i L off q c) =
    if i < k then (if b then .slc i L off q c else .und)
    else match live? H i L with
      | some o => if off + q ≤ L ∧ (c = none ∨ o.vir = none) then .imm false c o.sz ((if off = 0 ∧ q = L then o.es else (o.es.drop off).take q).map (fz H k n false)) else .und
      | none => .und := rfl
@[simp] theorem fz_ptr (i L q f : Nat) : fz H k (n + 1) b (.ptr i L q f) =
    if i < k then (if b then .ptr i L q f else .und)
    else match live? H i L with
      | some o => if o.vir = none then match o.es[q]? with
          | some e => .ipt (fz H k n false e) f
          | none => .und
        else .und
      | none => .und := rfl
@[simp] theorem fz_I : fz H k n b ∘ I = I := by funext x; exact fz_sc _
end
inductive Gb (k : AKK) (d : Option Nat) (next : List AV → List AObj → Prop) : Type
  | mk
def Gd (P : Program) (k : AKK) (d : Option Nat) (next : List AV → List AObj → Prop) (_ : Gb k d next) (c b : Bool) (fr : List AV) (H : List AObj) : Prop := if c = b then kWp P k d next fr H else next (putD fr d (.tup [])) H
section
variable {P : Program} {k : AKK} {d : Option Nat} {next : List AV → List AObj → Prop} {g : Gb k d next} {b c : Bool} {fr : List AV} {H : List AObj}
@[simp] theorem Gd_tt : Gd P k d next g true true fr H = kWp P k d next fr H := id rfl
@[simp] theorem Gd_ff : Gd P k d next g false false fr H = kWp P k d next fr H := id rfl
@[simp] theorem Gd_tf : Gd P k d next g true false fr H = next (putD fr d (.tup [])) H := id rfl
@[simp] theorem Gd_ft : Gd P k d next g false true fr H = next (putD fr d (.tup [])) H := id rfl
theorem Gd.sp (ht : c = true → Gd P k d next g true b fr H) (hf : c = false → Gd P k d next g false b fr H) : Gd P k d next g c b fr H := by
  cases c with
  | true => exact ht rfl
  | false => exact hf rfl
def Gq (P : Program) (k : AKK) (d : Option Nat) (next : List AV → List AObj → Prop) (g : Gb k d next) (b : Bool) (v : AV) (fr : List AV) (H : List AObj) : Prop :=
  match v with
  | .sc (.bool c) => Gd P k d next g c b fr H
  | .tup [] => next (putD fr d (.tup [])) H
  | _ => False
@[simp] theorem Gq_bool : Gq P k d next g b (.sc (.bool c)) fr H = Gd P k d next g c b fr H := id rfl
@[simp] theorem Gq_tup : Gq P k d next g b (.tup []) fr H = next (putD fr d (.tup [])) H := id rfl
@[simp high] theorem opWp_gd {t : Nat} : opWp P ⟨d, some (t, b), k⟩ next fr H = Gq P k d next .mk b (fr.getD t .und) fr H := id rfl
end
@[simp] theorem ibeq (a b : Int) : (a == b) = decide (a = b) := rfl
@[simp] theorem ibne (a b : Int) : (a != b) = !decide (a = b) := rfl
def ow (ty sz : Nat) (es : List AV) : AObj := { ty := ty, sz := sz, es := es, live := true, vir := if es = [] then some true else none }
abbrev bx (ty sz : Nat) (v : AV) : AObj := { ty := ty, sz := sz, es := [v] }
abbrev ob (ty sz : Nat) (es : List AV) : AObj := { ty := ty, sz := sz, es := es }
section
variable {ty sz : Nat} {es : List AV}
@[simp] theorem ow_ty : (ow ty sz es).ty = ty := rfl
@[simp] theorem ow_sz : (ow ty sz es).sz = sz := rfl
@[simp] theorem ow_es : (ow ty sz es).es = es := rfl
@[simp] theorem ow_live : (ow ty sz es).live = true := rfl
@[simp] theorem ow_vir : (ow ty sz es).vir = if es = [] then some true else none := rfl
end
def ov (v0 : Option Bool) (ty sz : Nat) (es : List AV) : AObj := { ty := ty, sz := sz, es := es, live := true, vir := if es = [] then v0 else none }
section
variable {v0 : Option Bool} {ty sz : Nat} {es : List AV}
@[simp] theorem ov_ty : (ov v0 ty sz es).ty = ty := rfl
@[simp] theorem ov_sz : (ov v0 ty sz es).sz = sz := rfl
@[simp] theorem ov_es : (ov v0 ty sz es).es = es := rfl
@[simp] theorem ov_live : (ov v0 ty sz es).live = true := rfl
theorem ov_vir : (ov v0 ty sz es).vir = if es = [] then v0 else none := rfl
theorem ov_real (h : es ≠ []) : (ov v0 ty sz es).vir = none := if_neg h
theorem ov_mk (h : es ≠ []) : (⟨ty, sz, es, true, none⟩ : AObj) = ov v0 ty sz es := by simp [ov, h]
end
def fm (n : Nat) (l : List (Nat × AV)) : List AV := l.foldl (fun f p => f.set p.1 p.2) (List.replicate n .und)
attribute [simp] fm
abbrev ls (sz : Nat) (xs : List AV) : AV := .imm false none sz xs
abbrev Is (xs : List Int) : AV := .imm false none 1 (xs.map I)
abbrev St (s : ByteArray) : AV := .sc (.string s)
inductive Fx {α : Type} (x : α) : Type
  | mk
def Nx (R : List AV → List AObj → Prop) (_ : Fx R) : List AV → List AObj → Prop := R
@[simp] theorem Nx_eq {R : List AV → List AObj → Prop} {b : Fx R} {fr : List AV} {H : List AObj} : Nx R b fr H = R fr H := id rfl
def Nr (R : AV → List AObj → Prop) (_ : Fx R) : AV → List AObj → Prop := R
@[simp] theorem Nr_eq {R : AV → List AObj → Prop} {b : Fx R} {v : AV} {H : List AObj} : Nr R b v H = R v H := id rfl
section
variable {P : Program} {own : List Nat} {nb : Nat} {a : AC} {Q : Exit → List AV → List AObj → Prop} {fr : List AV} {H : List AObj}
theorem Lp.st {σ : Type} {b : Blk1 (.loop a) Q} (k : Nat) (os : List (Nat × Nat × Nat)) (J : σ → Prop) (μ : σ → Nat) (F : σ → List AV) (G : σ → List AObj) (s0 : σ) (h0 : J s0 ∧ wkO nb os k 8 fr H (F s0) (G s0))
    (step : ∀ s, J s → wp P own nb a (qSeq (Nx (fun fr' H' => ∃ s', J s' ∧ μ s' < μ s ∧ wkN nb k 8 fr' H' (F s') (G s')) .mk) Q) (F s) (G s)) : Lp P own nb (.loop a) Q b fr H := by
  refine Lp.on J μ F G s0 (Weak.nextO os k 8 h0.2) h0.1 fun s hs => wp.mono (fun e fr H hq => ?_) (step s hs)
  cases e with
  | normal => obtain ⟨s', h1, h2, h3⟩ := hq; exact ⟨s', h1, h2, Weak.next k 8 h3⟩
  | _ => exact hq
theorem Lp.op {σ : Type} {b : Blk1 (.loop a) Q} (J : σ → Prop) (μ : σ → Nat) (F : σ → List AV) (G : σ → List AObj) (s0 : σ) (h0 : J s0 ∧ leF fr (F s0) ∧ H = G s0)
    (step : ∀ s, J s → wp P own nb a (qSeq (Nx (fun fr' H' => ∃ s', J s' ∧ μ s' < μ s ∧ leF fr' (F s') ∧ H' = G s') .mk) Q) (F s) (G s)) : Lp P own nb (.loop a) Q b fr H := by
  obtain ⟨h1, h2, h3⟩ := h0
  refine Lp.on J μ F G s0 (Weak.le h2 (by rw [h3]; exact leH.refl _)) h1 fun s hs => wp.mono (fun e fr H hq => ?_) (step s hs)
  cases e with
  | normal => obtain ⟨s', h1, h2, h3, h4⟩ := hq; exact ⟨s', h1, h2, Weak.le h3 (by rw [h4]; exact leH.refl _)⟩
  | _ => exact hq
theorem Lp.opw {σ : Type} {b : Blk1 (.loop a) Q} (J : σ → Prop) (μ : σ → Nat) (F : σ → List AV) (G : σ → List AObj) (s0 : σ) (h1 : J s0) (hw : Weak nb fr H (F s0) (G s0))
    (step : ∀ s, J s → wp P own nb a (qSeq (Nx (fun fr' H' => ∃ s', J s' ∧ μ s' < μ s ∧ leF fr' (F s') ∧ H' = G s') .mk) Q) (F s) (G s)) : Lp P own nb (.loop a) Q b fr H := by
  refine Lp.on J μ F G s0 hw h1 fun s hs => wp.mono (fun e fr H hq => ?_) (step s hs)
  cases e with
  | normal => obtain ⟨s', h1, h2, h3, h4⟩ := hq; exact ⟨s', h1, h2, Weak.le h3 (by rw [h4]; exact leH.refl _)⟩
  | _ => exact hq
theorem Hr.next {b : Blk1 a Q} (k : Nat) {fr' : List AV} {H' : List AObj} (hw : wkN nb k 8 fr H fr' H') (h : wp P own nb a Q fr' H') : Hr P own nb a Q b fr H := Hr.w (Weak.next k 8 hw) h
theorem Hr.nextO {b : Blk1 a Q} (os : List (Nat × Nat × Nat)) (k : Nat) {fr' : List AV} {H' : List AObj} (hw : wkO nb os k 8 fr H fr' H') (h : wp P own nb a Q fr' H') : Hr P own nb a Q b fr H := Hr.w (Weak.nextO os k 8 hw) h
theorem Lp.to {b : Blk1 (.loop a) Q} (k : Nat) (os : List (Nat × Nat × Nat)) (n : Nat) (J : Nat → Prop) (F : Nat → List AV) (G : Nat → List AObj) (h0 : J 0 ∧ wkO nb os k 8 fr H (F 0) (G 0))
    (step : ∀ i, i ≤ n → J i → wp P own nb a (qSeq (Nx (fun fr' H' => i < n ∧ J (i + 1) ∧ wkN nb k 8 fr' H' (F (i + 1)) (G (i + 1))) .mk) Q) (F i) (G i)) : Lp P own nb (.loop a) Q b fr H := by
  refine Lp.up n J F G (Weak.nextO os k 8 h0.2) h0.1 fun i hi hJ => wp.mono (fun e fr H hq => ?_) (step i hi hJ)
  cases e with
  | normal => exact ⟨hq.1, hq.2.1, Weak.next k 8 hq.2.2⟩
  | _ => exact hq
end
attribute [simp] wrap_i64 wrap_u64 List.getElem?_cons_zero
theorem ar : (∀ {a b : Int}, a ≤ b → (a ≤ b) = True) ∧ (∀ {a b : Int}, b < a → (a ≤ b) = False) ∧ (∀ {a b : Int}, a < b → (a < b) = True) ∧ (∀ {a b : Int}, b ≤ a → (a < b) = False) ∧
    (∀ {a b : Nat}, a ≤ b → (a ≤ b) = True) ∧ (∀ {a b : Nat}, b < a → (a ≤ b) = False) ∧ (∀ {a b : Nat}, a < b → (a < b) = True) ∧ (∀ {a b : Nat}, b ≤ a → (a < b) = False) ∧
    (∀ {a b : Nat}, a = b → (a = b) = True) ∧ (∀ {a b : Nat}, a ≠ b → (a = b) = False) ∧ (∀ {a b : Int}, a = b → (a = b) = True) ∧ (∀ {a b : Int}, a ≠ b → (a = b) = False) ∧
    (∀ {α : Type} {l : List α} {i : Nat} (h : i < l.length), l.take (i + 1) = l.take i ++ [l[i]]) ∧ (∀ {α : Type} {l : List α} {n : Nat}, l.length ≤ n → l.take n = l) :=
  ⟨fun h => eq_true h, fun h => eq_false (by omega), fun h => eq_true h, fun h => eq_false (by omega), fun h => eq_true h, fun h => eq_false (by omega), fun h => eq_true h, fun h => eq_false (by omega),
    fun h => eq_true h, fun h => eq_false h, fun h => eq_true h, fun h => eq_false h, fun h => List.take_succ_eq_append_getElem h, fun h => List.take_of_length_le h⟩
def fill {α : Type} (xs : List α) (i : Nat) (z : α) : List α := xs.take i ++ List.replicate (xs.length - i) z
section
variable {α : Type} {xs : List α} {i : Nat} {z : α}
@[simp] theorem fill_len : (fill xs i z).length = xs.length := by simp [fill]; omega
@[simp] theorem fill_zero : fill xs 0 z = List.replicate xs.length z := by simp [fill]
theorem fill_all (h : xs.length ≤ i) : fill xs i z = xs := by simp [fill, List.take_of_length_le h, show xs.length - i = 0 by omega]
theorem fill_set (h : i < xs.length) : (fill xs i z).set i xs[i] = fill xs (i + 1) z := by
  apply List.ext_getElem (by simp)
  intro j h1 h2
  simp at h1
  rw [List.getElem_set]
  simp only [fill]
  split
  · rename_i e; subst e
    rw [List.getElem_append_left (by simp; omega)]; simp
  · by_cases hj : j < i
    · rw [List.getElem_append_left (by simp; omega), List.getElem_append_left (by simp; omega)]; simp
    · rw [List.getElem_append_right (by simp; omega), List.getElem_append_right (by simp; omega)]; simp
theorem fill_set' {v : α} (h : xs[i]? = some v) : (fill xs i z).set i v = fill xs (i + 1) z := by
  obtain ⟨h1, rfl⟩ := List.getElem?_eq_some_iff.1 h
  exact fill_set h1
@[simp] theorem fill_map {β : Type} (f : α → β) : (fill xs i z).map f = fill (xs.map f) i (f z) := by simp [fill]
theorem fill_get (h : i < xs.length) : (fill xs i z)[i]? = some z := by
  rw [List.getElem?_eq_getElem (by simpa using h)]
  simp only [fill]
  rw [List.getElem_append_right (by simp; omega)]; simp
end
section
variable {P : Program} {own : List Nat} {f : FuncId} {args args' : List AV} {H : List AObj} {R R' : AV → List AObj → Prop}
def resVals : List ARes → List AV → List AObj → Option (List AV)
  | [], _, _ => some []
  | r :: l, fr, H => match resVal fr H r with
    | some v => match resVals l fr H with
      | some vs => some (v :: vs)
      | none => none
    | none => none
theorem resVals_eq {fr : List AV} {H : List AObj} : ∀ rs : List ARes, resVals rs fr H = rs.mapM (resVal fr H)
  | [] => rfl
  | r :: l => by
    simp only [resVals, List.mapM_cons, resVals_eq l]
    cases resVal fr H r with
    | none => rfl
    | some v => cases List.mapM (resVal fr H) l <;> rfl
def bodyW (rs : List ARes) (R : AV → List AObj → Prop) : Exit → List AV → List AObj → Prop
  | .normal | .ret => fun fr H => match resVals rs fr H with
    | some vs => R (tupV vs) H
    | none => False
  | _ => fun _ _ => False
attribute [simp] resVals bodyW
theorem bodyW.to {nb : Nat} {rs : List ARes} {e : Exit} {fr : List AV} (h : bodyW rs R e fr H) : bodyQ nb rs R e fr H := by
  have key : (match resVals rs fr H with | some vs => R (tupV vs) H | none => False) → retOk nb rs R fr H := by
    rw [resVals_eq]
    intro h
    split at h
    · rename_i vs e; exact retOk.of e h
    · exact h.elim
  cases e <;> first | exact key h | exact h
theorem ACalls.of_wp {fn : Func} {ac : AC} {rs : List ARes} (hfn : P.funcs[f]? = some fn) (hname : (fn.name == "runtime.NumGoroutine") = false)
    (htr : fn.body.bind (trC P own) = some (er ac)) (hrs : fn.results.toList.mapM (trRes P) = some rs) {n : Nat} (hn : fn.ntmps = n)
    (h : wp P own H.length ac (bodyW rs (Nr R .mk)) (args ++ List.replicate (n - args.length) .und) H) : ACalls P f args H R :=
  ACalls.of_fn hfn hname htr hrs hn ((AWp.of_wp h).mono fun _ _ _ h => h.to)
theorem ACalls.wk (h : ACalls P f args H R) (hR : ∀ r H', R r H' → ∃ r', Wk r r' ∧ R' r' H') : ACalls P f args H R' := by
  refine ⟨h.1, fun B w0 m w vs r hvs => (h.2 B w0 m w vs r hvs).mono ?_⟩
  rintro e w' ⟨v, q, m', H', e1, t, r', hq, hR0⟩
  obtain ⟨q', h1, h2⟩ := hR q H' hR0
  exact ⟨v, q', m', H', e1, t, r', Wk.rv hq h1, h2⟩
theorem ACalls.argsWk (h : ACalls P f args' H R) (hw : Wks args args') : ACalls P f args H R :=
  ⟨h.1, fun B w0 m w vs r hvs => h.2 B w0 m w vs r ⟨by rw [← hw.len]; exact hvs.1, fun j h1 h2 => Wk.rv (hvs.2 j (by rw [hw.len]; exact h1) h2) (hw.get j _ h1)⟩⟩
theorem invV.c {g : String} {as : List AV} {R : AV → List AObj → Prop} {next : List AV → List AObj → Prop} {d : Option Nat} {fr : List AV} {b : Kb next d fr} (h : invV P false g as H R) (k : ∀ r H', R r H' → Kp next d fr b r H') : invV P false g as H (Kp next d fr b) :=
  invV_mono h fun r H' _ hR => k r H' hR
theorem ACalls.c {g : FuncId} {as : List AV} {R : AV → List AObj → Prop} {next : List AV → List AObj → Prop} {d : Option Nat} {fr : List AV} {b : Kb next d fr} {bb : Cb (Kp next d fr b)} (h : ACalls P g as H R) (k : ∀ r H', R r H' → Kp next d fr b r H') : ACalls P g as H (Cp false H (Kp next d fr b) bb) :=
  h.mono fun r H' hR => ⟨fun e => (by cases e), k r H' hR⟩
def Pu (P : Program) (f : FuncId) (args : List AV) (r : AV) : Prop := ACalls P f args [] fun q H' => H' = [] ∧ q = r
theorem Pu.of {r : AV} (n : Nat) (h : ACalls P f args [] fun q G => Wk (fz G 0 n false q) r) : Pu P f args r := by
  refine ⟨h.1, fun B w0 m w vs r0 hvs => (h.2 B w0 m w vs r0 hvs).mono ?_⟩
  rintro e w' ⟨v, q, m', H', e1, t, r', hq, hR⟩
  refine ⟨v, r, m', [], e1, ?_, ?_, ?_, rfl, rfl⟩
  · simpa [frzH] using frz_tr t n (k := 0) (Nat.le_refl _)
  · simpa [frzH] using frz_rel r' 0 n
  · have h1 := frz_ri (k := 0) (nn := n) r' n hq
    exact Wk.rv (.ri (Wk.ri h1 (Wk_fz r'.virt n false q))) hR
theorem Pu.mk {r : AV} (h : ACalls P f args [] fun q H' => H' = [] ∧ q = r) : Pu P f args r := h
theorem Pu.c {g : FuncId} {r : AV} {prot : Bool} {next : List AV → List AObj → Prop} {d : Option Nat} {fr : List AV} {b : Kb next d fr} {bb : Cb (Kp next d fr b)} (h : Pu P g args' r) (k : Kp next d fr b r H)
    (hw : Wks args args' := by simp) (hn : noRefs args = true := by simp) (hr : noRef r = true := by simp) : ACalls P g args H (Cp prot H (Kp next d fr b) bb) := by
  refine ((ACalls.argsWk h hw).pure (R := fun q => q = r) hn (by rintro q rfl; exact hr) H).mono ?_
  rintro q H' ⟨rfl, rfl⟩
  exact ⟨fun _ => ⟨[], by simp⟩, k⟩
theorem Pu.l {g : FuncId} {r : AV} {prot : Bool} {next : List AV → List AObj → Prop} {d : Option Nat} {fr : List AV} {b : Kb next d fr} {bb : Cb (Kp next d fr b)} (n : Nat) (h : Pu P g args' r) (k : Kp next d fr b r H)
    (hv : (∀ (i : Nat) (o : AObj), H[i]? = some o → o.vir ≠ none → o.es = []) → Wks (args.map (frz H 0 n false)) args') (hr : ∀ s, shv s true 4 r = r := by simp [shv]) : ACalls P g args H (Cp prot H (Kp next d fr b) bb) := by
  refine ⟨h.1, fun B w0 m w vs rl hvs => ?_⟩
  refine ((((ACalls.argsWk h (hv rl.virt)).pureLent (R := fun q => q = r) n (by rintro q rfl; exact hr)).mono ?_ : ACalls P g args H (Cp prot H (Kp next d fr b) bb))).2 B w0 m w vs rl hvs
  rintro q H' ⟨rfl, rfl⟩
  exact ⟨fun _ => ⟨[], by simp⟩, k⟩
theorem lent_fz {n : Nat} (hw : Wks (args.map (fz H 0 n false)) args') (hv : ∀ (i : Nat) (o : AObj), H[i]? = some o → o.vir ≠ none → o.es = []) (ht : ∀ {a b c : AV}, Wk a b → Wk b c → Wk a c) : Wks (args.map (frz H 0 n false)) args' := by
  induction args generalizing args' with
  | nil => exact hw
  | cons x l ih =>
    cases args' with
    | nil => simp at hw
    | cons y l' =>
      simp only [List.map_cons, Wks] at hw ⊢
      exact ⟨ht (Wk_fz hv n false x) hw.1, ih hw.2⟩
end
end Go.Fw
/- Nil slices inside objects, taken for the call's own. -/
namespace Go.Fw
open Go Go.RowKit
section
variable {B : Nat} {w0 w : World} {m : BM} {H : List AObj}
theorem rv_nil0 {c : Option Nat} {sz' : Nat} {v : Value} (h : RV w m H (.imm true c sz' []) v) : v = .slice none 0 0 := by
  cases h with | ri h => cases h with | nil => rfl
theorem Weak.ownAt {nb : Nat} {fr : List AV} (j q t ty sz : Nat) (hsz : 0 < sz) {o : AObj} {e0 e1 : AV} {c : Option Nat} {sz' : Nat} (hj : H[j]? = some o) (hv : o.vir = none) (hq : o.es[q]? = some e0) (ht : (cellsOf e0)[t]? = some (.imm true c sz' [])) (he : cellsOf e1 = (cellsOf e0).set t (.slc H.length 0 0 0 none)) :
    Weak nb fr H fr (H.set j { o with es := o.es.set q e1 } ++ [ow ty sz []]) := by
  intro B w0 mb Hb wb m w tmps hn tr r f
  obtain ⟨o2, ho2⟩ : ∃ o2 : AObj, o2 = { o with es := o.es.set q e1 } := ⟨_, rfl⟩
  obtain ⟨V, hV⟩ : ∃ V : AObj, V = { ty := ty, sz := sz, es := [], vir := some true } := ⟨_, rfl⟩
  have how : ow ty sz [] = V := by rw [hV]; simp [ow]
  rw [how]
  rw [← ho2]
  have hjl := (List.getElem?_eq_some_iff.1 hj).1
  have hll : (H.set j o2).length = H.length := by simp
  have hlast : (H.set j o2 ++ [V])[H.length]? = some V := by rw [List.getElem?_append_right (by simp)]; simp
  have hgetj : (H.set j o2 ++ [V])[j]? = some o2 := by rw [List.getElem?_append_left (by omega), List.getElem?_set_self hjl]
  have hgetn : ∀ {i}, i ≠ j → i < H.length → (H.set j o2 ++ [V])[i]? = H[i]? := by
    intro i h1 h2
    rw [List.getElem?_append_left (by omega), List.getElem?_set_ne (Ne.symm h1)]
  have hget : ∀ i x, (H.set j o2 ++ [V])[i]? = some x → (i = j ∧ x = o2) ∨ (i ≠ j ∧ H[i]? = some x) ∨ (i = H.length ∧ x = V) := by
    intro i x h
    by_cases hi : i < H.length
    · by_cases e : i = j
      · subst e; rw [hgetj] at h; exact .inl ⟨rfl, (Option.some.inj h).symm⟩
      · rw [hgetn e hi] at h; exact .inr (.inl ⟨e, h⟩)
    · have hlt := (List.getElem?_eq_some_iff.1 h).1
      simp at hlt
      have : i = H.length := by omega
      subst this
      rw [hlast] at h; exact .inr (.inr ⟨rfl, (Option.some.inj h).symm⟩)
  have hlv : o2.live = o.live ∧ o2.vir = o.vir ∧ o2.sz = o.sz ∧ o2.ty = o.ty ∧ o2.es.length = o.es.length := by rw [ho2]; simp
  obtain ⟨w1, w2, w3, w4, w5⟩ := hlv
  have real : ∀ {i}, Real (H.set j o2 ++ [V]) i → Real H i := by
    rintro i ⟨x, hx, hl, hv'⟩
    rcases hget i x hx with ⟨rfl, rfl⟩ | ⟨_, h⟩ | ⟨_, rfl⟩
    · exact ⟨o, hj, by rw [← w1]; exact hl, hv⟩
    · exact ⟨x, h, hl, hv'⟩
    · rw [hV] at hv'; cases hv'
  have hwr : ∀ b, Wr m (H.set j o2 ++ [V]) b → Wr m H b := by
    rintro b (h | ⟨i, hr, e⟩)
    · exact .inl h
    · exact .inr ⟨i, real hr, e⟩
  have t1 : Tr m H w m (H.set j o2 ++ [V]) w := by
    refine ⟨Nat.le_refl _, by simp, fun _ _ _ => rfl, fun b _ hn hw => hn (hwr b hw), fun i x x' hx hx' => ?_, rfl⟩
    have hil := (List.getElem?_eq_some_iff.1 hx).1
    rcases hget i x' hx' with ⟨rfl, rfl⟩ | ⟨_, h⟩ | ⟨h, _⟩
    · rw [hj] at hx; cases hx
      exact ⟨by omega, fun hl _ => ⟨by rw [← w1]; exact hl, rfl, w2, w3⟩⟩
    · rw [h] at hx; cases hx
      exact ⟨Nat.le_refl _, fun hl _ => ⟨hl, rfl, rfl, rfl⟩⟩
    · omega
  refine ⟨m, tr.trans t1, ⟨r.below, r.hB, fun i x hx => ?_, fun i x hx hvx => ?_, fun i h => r.base i (real h), fun i x hx hl hvx => ?_, fun i i' h h' e => r.inj i i' (real h) (real h') e, r.xlt⟩, f.mono t1⟩
  · rcases hget i x hx with ⟨rfl, rfl⟩ | ⟨_, h⟩ | ⟨_, rfl⟩
    · rw [w3]; exact r.szpos _ _ hj
    · exact r.szpos i x h
    · rw [hV]; exact hsz
  · rcases hget i x hx with ⟨rfl, rfl⟩ | ⟨_, h⟩ | ⟨_, rfl⟩
    · rw [w2, hv] at hvx; exact absurd rfl hvx
    · exact r.virt i x h hvx
    · rw [hV]
  · rcases hget i x hx with ⟨rfl, rfl⟩ | ⟨_, h⟩ | ⟨_, rfl⟩
    · obtain ⟨arr, h1, h2, h3⟩ := r.obj i o hj (by rw [← w1]; exact hl) hv
      refine ⟨arr, by rw [w4]; exact h1, by rw [w3, w5]; exact h2, fun k hk => ?_⟩
      have hk' : k < o.es.length := by omega
      obtain ⟨g1, g2⟩ := h3 k hk'
      have hke : x.es[k] = if q = k then e1 else o.es[k] := by
        simp only [ho2, List.getElem_set]
      by_cases e : q = k
      · subst e
        rw [if_pos rfl] at hke
        have hqe : o.es[q] = e0 := by rw [List.getElem?_eq_getElem hk'] at hq; exact Option.some.inj hq
        rw [hqe] at g1
        simp only [hqe] at g2
        rw [w3]
        have hxc : cellsOf x.es[q] = (cellsOf e0).set t (.slc H.length 0 0 0 none) := by rw [hke]; exact he
        rw [hxc]
        refine ⟨by simpa using g1, fun jj hjj => ?_⟩
        have hjj' : jj < (cellsOf e0).length := by simpa using hjj
        obtain ⟨v, a1, a2⟩ := g2 jj hjj'
        refine ⟨v, a1, ?_⟩
        rw [List.getElem_set]
        split
        · rename_i et
          subst et
          have hcs : (cellsOf e0)[t] = .imm true c sz' [] := by
            have hlt : t < (cellsOf e0).length := hjj'
            rw [List.getElem?_eq_getElem hlt] at ht; exact Option.some.inj ht
          have a2' : RV w m H (.imm true c sz' []) v := by rw [← hcs]; exact a2
          rw [rv_nil0 a2']
          exact .slc V hlast (by simp) (fun _ _ => by rw [hV]; simp [SlcOk])
        · exact a2.mono t1
      · rw [if_neg e] at hke
        rw [w3]
        have hxc : cellsOf x.es[k] = cellsOf o.es[k] := by rw [hke]
        refine ⟨by rw [hxc]; exact g1, fun jj hjj => ?_⟩
        obtain ⟨v, a1, a2⟩ := g2 jj (by rw [← hxc]; exact hjj)
        refine ⟨v, a1, ?_⟩
        have : (cellsOf x.es[k])[jj] = (cellsOf o.es[k])[jj]'(by rw [← hxc]; exact hjj) := by simp only [hxc]
        rw [this]
        exact a2.mono t1
    · obtain ⟨arr, h1, h2, h3⟩ := r.obj i x h hl hvx
      exact ⟨arr, h1, h2, fun k hk => ⟨(h3 k hk).1, fun j hj => let ⟨v, a, b⟩ := (h3 k hk).2 j hj; ⟨v, a, b.mono t1⟩⟩⟩
    · rw [hV] at hvx; cases hvx
theorem Weak.ownRow {nb : Nat} {fr : List AV} (j ty sz ty1 n : Nat) (hsz : 0 < sz) {z : Nat} (hj : H[j]? = some (ob ty1 1 (List.replicate n (.imm true none z [])))) :
    Weak nb fr H fr (H.set j (ob ty1 1 ((List.range n).map fun x => .slc (H.length + x) 0 0 0 none)) ++ List.replicate n (ow ty sz [])) := by
  have hjl := (List.getElem?_eq_some_iff.1 hj).1
  have key : ∀ m, m ≤ n → Weak nb fr H fr (H.set j (ob ty1 1 (((List.range m).map fun x => AV.slc (H.length + x) 0 0 0 none) ++ List.replicate (n - m) (.imm true none z []))) ++ List.replicate m (ow ty sz [])) := by
    intro m
    induction m with
    | zero =>
      intro _
      have e : H.set j (ob ty1 1 (List.replicate n (.imm true none z []))) = H := by
        apply List.ext_getElem?
        intro i
        by_cases e : i = j
        · subst e; rw [List.getElem?_set_self hjl, hj]
        · rw [List.getElem?_set_ne (Ne.symm e)]
      simp only [List.range_zero, List.map_nil, List.nil_append, Nat.sub_zero, List.replicate_zero, List.append_nil, e]
      exact Weak.refl _ _ _
    | succ m ih =>
      intro hm
      refine (ih (by omega)).trans ?_
      obtain ⟨K, hK⟩ : ∃ K, K = H.set j (ob ty1 1 (((List.range m).map fun x => AV.slc (H.length + x) 0 0 0 none) ++ List.replicate (n - m) (.imm true none z []))) ++ List.replicate m (ow ty sz []) := ⟨_, rfl⟩
      have hKl : K.length = H.length + m := by rw [hK]; simp
      have hKj : K[j]? = some (ob ty1 1 (((List.range m).map fun x => AV.slc (H.length + x) 0 0 0 none) ++ List.replicate (n - m) (.imm true none z []))) := by
        rw [hK, List.getElem?_append_left (by simpa using hjl), List.getElem?_set_self hjl]
      rw [← hK]
      have hw := Weak.ownAt (nb := nb) (fr := fr) (H := K) j m 0 ty sz hsz (c := none) (sz' := z) (e0 := .imm true none z []) (e1 := .slc K.length 0 0 0 none) hKj rfl
        (by show (_ ++ _)[m]? = _; rw [List.getElem?_append_right (by simp)]; simp only [List.length_map, List.length_range, Nat.sub_self]; rw [List.getElem?_replicate, if_pos (by omega)]) rfl rfl
      refine hw.trans ?_
      have e : (((List.range m).map fun x => AV.slc (H.length + x) 0 0 0 none) ++ List.replicate (n - m) (AV.imm true none z [])).set m (AV.slc K.length 0 0 0 none) =
          ((List.range (m + 1)).map fun x => AV.slc (H.length + x) 0 0 0 none) ++ List.replicate (n - (m + 1)) (AV.imm true none z []) := by
        rw [List.set_append_right _ _ (by simp), List.range_succ, List.map_append, hKl]
        obtain ⟨q, hq⟩ : ∃ q, n - m = q + 1 := ⟨n - m - 1, by omega⟩
        rw [hq, show n - (m + 1) = q by omega, List.replicate_succ]
        simp
      have e2 : K.set j (ob ty1 1 (((List.range (m + 1)).map fun x => AV.slc (H.length + x) 0 0 0 none) ++ List.replicate (n - (m + 1)) (.imm true none z []))) ++ [ow ty sz []] =
          H.set j (ob ty1 1 (((List.range (m + 1)).map fun x => AV.slc (H.length + x) 0 0 0 none) ++ List.replicate (n - (m + 1)) (.imm true none z []))) ++ List.replicate (m + 1) (ow ty sz []) := by
        rw [hK, List.set_append_left _ _ (by simpa using hjl), List.set_set, List.append_assoc, List.replicate_succ']
      simp only [e]
      refine (Weak.refl _ _ _).to rfl ?_
      exact e2
  have := key n (Nat.le_refl _)
  simpa using this
end
end Go.Fw
/- A call that takes own objects, and lets them go. -/
namespace Go.Fw
open Go Go.RowKit
def dO (o : AObj) : AObj := { o with live := false }
def dK (k : Nat) (H : List AObj) : List AObj := H.take k ++ (H.drop k).map dO
@[simp] theorem dK_len {k : Nat} {H : List AObj} : (dK k H).length = H.length := by simp [dK]; omega
theorem dK_get {k : Nat} {H : List AObj} {i : Nat} {x : AObj} (h : (dK k H)[i]? = some x) : ∃ o, H[i]? = some o ∧ ((i < k ∧ x = o) ∨ (k ≤ i ∧ x = dO o)) := by
  by_cases hi : i < k
  · rw [dK, List.getElem?_append] at h
    split at h
    · rw [List.getElem?_take, if_pos hi] at h; exact ⟨x, h, .inl ⟨hi, rfl⟩⟩
    · rename_i h1
      simp at h1
      rw [List.getElem?_eq_none (by simp; omega)] at h; cases h
  · rw [dK, List.getElem?_append_right (by simp; omega), List.getElem?_map, Option.map_eq_some_iff] at h
    obtain ⟨o, ho, rfl⟩ := h
    rw [List.getElem?_drop] at ho
    by_cases hk : k ≤ H.length
    · rw [List.length_take, Nat.min_eq_left hk, Nat.add_sub_of_le (by omega)] at ho
      exact ⟨o, ho, .inr ⟨by omega, rfl⟩⟩
    · rw [List.getElem?_eq_none (by omega)] at ho; cases ho
theorem dK_low {k : Nat} {H : List AObj} {i : Nat} {o : AObj} (hi : i < k) (h : H[i]? = some o) : (dK k H)[i]? = some o := by
  have := (List.getElem?_eq_some_iff.1 h).1
  rw [dK, List.getElem?_append_left (by simp; omega), List.getElem?_take, if_pos hi, h]
section
variable {B : Nat} {w0 w : World} {m : BM} {H : List AObj}
theorem dK_rel (k : Nat) (r : Rel B w0 m H w) : Tr m H w m (dK k H) w ∧ Rel B w0 m (dK k H) w := by
  have real : ∀ {i}, Real (dK k H) i → Real H i := by
    rintro i ⟨x, hx, hl, hv⟩
    obtain ⟨o, ho, ⟨_, rfl⟩ | ⟨_, rfl⟩⟩ := dK_get hx
    · exact ⟨_, ho, hl, hv⟩
    · simp [dO] at hl
  have hwr : ∀ b, Wr m (dK k H) b → Wr m H b := by
    rintro b (h | ⟨i, hr, e⟩)
    · exact .inl h
    · exact .inr ⟨i, real hr, e⟩
  have t1 : Tr m H w m (dK k H) w := by
    refine ⟨Nat.le_refl _, by simp, fun _ _ _ => rfl, fun b _ hn hw => hn (hwr b hw), fun i o o' ho ho' => ?_, rfl⟩
    obtain ⟨o2, h2, ⟨_, rfl⟩ | ⟨_, rfl⟩⟩ := dK_get ho'
    · rw [ho] at h2; cases h2
      exact ⟨Nat.le_refl _, fun hl _ => ⟨hl, rfl, rfl, rfl⟩⟩
    · rw [ho] at h2; cases h2
      exact ⟨by simp [dO], fun hl _ => by simp [dO] at hl⟩
  refine ⟨t1, ⟨r.below, r.hB, fun i x hx => ?_, fun i x hx hvx => ?_, fun i h => r.base i (real h), fun i x hx hl hvx => ?_, fun i i' h h' e => r.inj i i' (real h) (real h') e, r.xlt⟩⟩
  · obtain ⟨o, ho, ⟨_, rfl⟩ | ⟨_, rfl⟩⟩ := dK_get hx
    · exact r.szpos _ _ ho
    · exact r.szpos i o ho
  · obtain ⟨o, ho, ⟨_, rfl⟩ | ⟨_, rfl⟩⟩ := dK_get hx
    · exact r.virt i _ ho hvx
    · exact r.virt i o ho hvx
  · obtain ⟨o, ho, ⟨_, rfl⟩ | ⟨_, rfl⟩⟩ := dK_get hx
    · obtain ⟨arr, h1, h2, h3⟩ := r.obj i _ ho hl hvx
      exact ⟨arr, h1, h2, fun k hk => ⟨(h3 k hk).1, fun j hj => let ⟨v, a, b⟩ := (h3 k hk).2 j hj; ⟨v, a, b.mono t1⟩⟩⟩
    · simp [dO] at hl
end
section
variable {P : Program} {args args' : List AV} {H : List AObj}
theorem Pu.d {g : FuncId} {r : AV} {next : List AV → List AObj → Prop} {d : Option Nat} {fr : List AV} {b : Kb next d fr} {bb : Cb (Kp next d fr b)} (k n : Nat) (h : Pu P g args' r) (kk : Kp next d fr b r (dK k H))
    (hw : (∀ (i : Nat) (o : AObj), H[i]? = some o → o.vir ≠ none → o.es = []) → Wks (args.map (frz H k n false)) args') (hn : noRefs args' = true := by simp) (hr : noRef r = true := by simp) : ACalls P g args H (Cp false H (Kp next d fr b) bb) := by
  refine ⟨h.1, fun B w0 m w vs rl hvs => ?_⟩
  obtain ⟨t1, r1⟩ := dK_rel k rl
  have hws := hw rl.virt
  have hwr : ∀ b, Wr m (dK k H) b → Wr m (frzH H k n) b := by
    rintro b (h | ⟨i, ⟨x, hx, hl, hv⟩, e⟩)
    · exact .inl h
    · obtain ⟨o, ho, ⟨hi, rfl⟩ | ⟨_, rfl⟩⟩ := dK_get hx
      · exact .inr ⟨i, ⟨_, frzH_of n hi ho, hl, hv⟩, e⟩
      · simp [dO] at hl
  have hv1 : RVs w m (dK k H) args' vs := by
    have hl := hws.len
    simp at hl
    refine ⟨by rw [← hl]; exact hvs.1, fun j h1 h2 => ?_⟩
    have h3 := frz_ri (k := k) (nn := n) rl n (hvs.2 j (by omega) h2)
    have h4 := RI.mono (w' := w) (W' := Wr m (dK k H)) (fun _ _ _ h => h) (fun b _ hb hw => hb (hwr b hw)) h3
    have h5 := hws.get j (by simp; omega) h1
    rw [List.getElem_map] at h5
    exact .ri (Wk.ri h4 h5)
  refine ((ACalls.pure (R := fun q => q = r) h hn (by rintro q rfl; exact hr) (dK k H)).2 B w0 m w vs r1 hv1).mono ?_
  rintro e w' ⟨v, q, m', H', e1, t, r', hq, rfl, rfl⟩
  exact ⟨v, q, m', _, e1, t1.trans t, r', hq, fun e => (by cases e), kk⟩
end
end Go.Fw
