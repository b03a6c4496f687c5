/- merge.Walk. -/
import Derived.Test.YtkfooghdpfhiaaaFwrise1
import Derived.Test.YtkfooghdpfhiaaaFwrep1
import Derived.Test.YtkfooghdpfhiaaaFwhp3
namespace Go.Fw
open Go Go.RowKit Go.Proofs
set_option maxRecDepth 100000
set_option linter.unusedSimpArgs false
set_option linter.unusedVariables false

def mwalk_1 : AC := (.seq (.ops [.o 16 (.bin .lss (.t 15) (.t 14))]) (.seq (.cond (.t 16) .skip (.exit 0)) (.seq (.block 1 (.seq (.ops [.m 17 (.t 15), .o 18 (.iad 1 (.t 13) (.t 15)), .o 19 (.ld 1 false (.t 18)), .m 5 (.t 17), .m 6 (.t 19)]) (.seq (.seq (.ops [.m 20 (.t 6), .c 21 false (.f 20) [(.t 20)], .o 22 (.un .not (.t 21))]) (.cond (.t 22) (.seq (.ops [.m 2 .z, .m 3 (.i 1)]) .ret) .skip)) (.seq (.ops [.m 23 (.t 6), .o 24 (.len (.t 23)), .o 25 (.bin .gtr (.t 24) (.i 0))]) (.cond (.t 25) (.ops [.m 26 (.t 4), .m 27 (.t 4), .o 28 (.nck (.t 27)), .o 29 (.ld 1 false (.t 28)), .m 30 (.t 6), .m 31 (.t 5), .o 32 (.mk [nil0, (.sc (.int .i64 0)), (.sc (.int .i64 0))] [(0, (1, (.t 30))), (2, (1, (.t 31)))]), .o 33 (.lit 3 [(.t 32)]), .o 34 (.app 76 3 40 (.t 29) (.t 33)), .o 35 (.nck (.t 26)), .on (.st 1 (.t 35) (.t 34))]) .skip))))) (.ops [.o 36 (.bin .add (.t 15) (.i 1)), .m 15 (.t 36)]))))
def mwalk_c82 : AC := (.seq (.ops [.m 82 (.t 7), .m 83 (.t 7), .o 84 (.len (.t 83)), .o 85 (.bin .sub (.t 84) (.i 1)), .o 86 (.iad 2 (.t 82) (.t 85)), .o 87 (.fad 1 (.t 86)), .o 88 (.ld 1 false (.t 87)), .m 89 (.t 8), .o 90 (.nck (.t 89)), .o 91 (.fad 2 (.t 90)), .o 92 (.ld 1 false (.t 91)), .m 93 (.t 8), .o 94 (.nck (.t 93)), .o 95 (.fad 1 (.t 94)), .o 96 (.ld 1 false (.t 95)), .o 97 (.iad 1 (.t 88) (.t 92)), .on (.st 1 (.t 97) (.t 96))]) (.seq (.ops [.m 98 (.t 8), .o 99 (.nck (.t 98)), .o 100 (.fad 1 (.t 99)), .o 101 (.ld 1 false (.t 100)), .o 102 (.bin .add (.t 101) (.i 1)), .o 103 (.nck (.t 98)), .o 104 (.fad 1 (.t 103)), .on (.st 1 (.t 104) (.t 102))]) (.seq (.ops [.m 105 (.t 8), .o 106 (.nck (.t 105)), .o 107 (.fad 1 (.t 106)), .o 108 (.ld 1 false (.t 107)), .m 109 (.t 8), .o 110 (.nck (.t 109)), .o 111 (.fad 0 (.t 110)), .o 112 (.ld 1 false (.t 111)), .o 113 (.len (.t 112)), .o 114 (.bin .lss (.t 108) (.t 113))]) (.cond (.t 114) (.ops [.m 115 (.t 4), .o 116 (.mkI 72 (.t 115)), .c 117 false (.f 44) [(.t 116), (.i 0)]]) (.ops [.m 118 (.t 4), .o 119 (.mkI 72 (.t 118)), .c 120 false (.f 45) [(.t 119)]])))))
def mwalk_2 : AC := (.seq (.seq (.ops [.m 40 (.t 4), .o 41 (.nck (.t 40)), .o 42 (.ld 1 false (.t 41)), .c 43 false (.f 42) [(.t 42)], .o 44 (.bin .gtr (.t 43) (.i 0))]) (.cond (.t 44) .skip (.exit 2))) (.block 3 (.seq (.ops [.m 45 (.t 4), .o 46 (.nck (.t 45)), .o 47 (.ld 1 false (.t 46)), .o 48 (.iad 3 (.t 47) (.i 0)), .m 8 (.t 48)]) (.seq (.ops [.m 49 (.t 8), .o 50 (.nck (.t 49)), .o 51 (.fad 0 (.t 50)), .o 52 (.ld 1 false (.t 51)), .m 53 (.t 8), .o 54 (.nck (.t 53)), .o 55 (.fad 1 (.t 54)), .o 56 (.ld 1 false (.t 55)), .o 57 (.iad 1 (.t 52) (.t 56)), .o 58 (.ld 1 false (.t 57)), .m 9 (.t 58)]) (.seq (.seq (.ops [.m 59 (.t 7), .o 60 (.len (.t 59)), .m 10 (.t 60)]) (.seq (.ops [.m 61 (.t 10), .o 62 (.bin .eql (.t 61) (.i 0)), .m 63 (.t 62), .mg 64 63 false (.t 7), .mg 65 63 false (.t 10), .og 66 63 false (.bin .sub (.t 65) (.i 1)), .og 67 63 false (.iad 2 (.t 64) (.t 66)), .og 68 63 false (.fad 0 (.t 67)), .og 69 63 false (.ld 1 false (.t 68)), .mg 70 63 false (.t 9), .og 71 63 false (.bin .neq (.t 69) (.t 70)), .o 72 (.pick (.t 63) (.b true) (.t 71))]) (.cond (.t 72) (.ops [.m 73 (.t 7), .m 74 (.t 9), .o 75 (.lit 1 [(.i (-1))]), .m 76 (.t 0), .o 77 (.len (.t 76)), .c 78 false (.f 43) [(.t 75), (.t 77)], .o 79 (.mk [(.sc (.int .i64 0)), nil0] [(0, (1, (.t 74))), (1, (1, (.t 78)))]), .o 80 (.litO 37 2 [(.t 79)]), .o 81 (.app 37 2 32 (.t 73) (.t 80)), .m 7 (.t 81)]) .skip))) mwalk_c82)))))
def mwalk_ac : AC := (.seq (.ops [.m 2 .z, .m 3 (.i 0)]) (.seq (.ops [.o 11 (.litO 76 3 []), .o 12 (.new 74 1 (.t 11)), .m 4 (.t 12)]) (.seq (.seq (.ops [.m 13 (.t 0), .o 14 (.len (.t 13)), .m 15 (.i 0)]) (.block 0 (.loop mwalk_1))) (.seq (.ops [.m 37 (.t 4), .o 38 (.mkI 72 (.t 37)), .c 39 false (.f 41) [(.t 38)]]) (.seq (.ops [.m 7 .z]) (.seq (.block 2 (.loop mwalk_2)) (.seq (.ops [.m 121 (.t 7), .m 2 (.t 121), .m 3 (.i 0)]) .ret)))))))
theorem mwalk_w {args : List AV} {H : List AObj} {R : AV → List AObj → Prop} (h : wp Try.prog [11, 80] H.length mwalk_ac (bodyW [(.t 2), (.t 3)] (Nr R .mk)) (args ++ List.replicate (122 - args.length) .und) H) : ACalls Try.prog 16 args H R :=
  ACalls.of_wp Try.func16 rfl (by kernel_rfl) rfl Try.ntmps16 h
/-- The stops, as the program's list has them: each has a row of its own. -/
def outs (N : Nat) (O : List (Int × List Int)) : List AV := O.zipIdx.map fun p => .agg [I p.1.1, .slc (3 + 2 * p.2) N 0 N none]
@[simp] theorem outs_len {N : Nat} {O : List (Int × List Int)} : (outs N O).length = O.length := by simp [outs]
theorem outs_snoc {N : Nat} {O : List (Int × List Int)} {st : Int × List Int} : outs N (O ++ [st]) = outs N O ++ [.agg [I st.1, .slc (3 + 2 * O.length) N 0 N none]] := by simp [outs, List.zipIdx_append]
theorem outs_get {N : Nat} {O : List (Int × List Int)} {j : Nat} (h : j < O.length) : (outs N O)[j]'(by simpa using h) = .agg [I O[j].1, .slc (3 + 2 * j) N 0 N none] := by simp [outs]
theorem outs_get? {N : Nat} {O : List (Int × List Int)} {j : Nat} (h : j < O.length) : (outs N O)[j]? = some (.agg [I O[j].1, .slc (3 + 2 * j) N 0 N none]) := by rw [List.getElem?_eq_getElem (by simpa using h), outs_get h]
theorem outs_one {N : Nat} {O : List (Int × List Int)} : allOneCell 2 (outs N O) = true := by
  simp only [allOneCell, List.all_eq_true, outs, List.mem_map]
  rintro _ ⟨p, _, rfl⟩
  rfl
theorem outs_put {N : Nat} {O : List (Int × List Int)} {j : Nat} {s : List Int} (h : j < O.length) : outs N (O.set j (O[j].1, s)) = outs N O := by
  apply List.ext_getElem (by simp)
  intro i h1 h2
  simp only [outs_len, List.length_set] at h1 h2
  rw [outs_get (by simpa using h1), outs_get (by simpa using h2)]
  rw [List.getElem_set]
  split
  · rename_i e; subst e; rfl
  · rfl
/-- The objects. -/
structure WO (N : Nat) (H : List AObj) (es : List AV) (n : Nat) (O : List (Int × List Int)) : Prop where
  hs : HS none id 74 76 3 H 1 0 es n
  ho : H[2]? = some (ow 37 2 (outs N O))
  hr : ∀ j (h : j < O.length), H[3 + 2 * j]? = some (ob 3 1 (O[j].2.map I))
  hl : H.length = 3 + 2 * O.length
  hN : ∀ j (h : j < O.length), O[j].2.length = N
section
variable {N : Nat} {H : List AObj} {es es' : List AV} {n n' : Nat} {O : List (Int × List Int)}
theorem WO.hset (h : WO N H es n O) (hl : n' ≤ es'.length) : WO N (hset none id 74 76 3 H 1 0 es' n') es' n' O := by
  refine ⟨h.hs.hset hl, ?_, fun j hj => ?_, by simp [Fw.hset, h.hl], h.hN⟩
  · simp only [Fw.hset]; rw [List.getElem?_set_ne (by omega), List.getElem?_set_ne (by omega), h.ho]
  · simp only [Fw.hset]; rw [List.getElem?_set_ne (by omega), List.getElem?_set_ne (by omega), h.hr j hj]
theorem WO.heap (h : WO N H es n O) (hl : es'.length = es.length) : WO N (H.set 0 (ov none 76 3 es')) es' n O := by
  refine ⟨h.hs.set hl, ?_, fun j hj => ?_, by simp [h.hl], h.hN⟩
  · rw [List.getElem?_set_ne (by omega), h.ho]
  · rw [List.getElem?_set_ne (by omega), h.hr j hj]
theorem WO.new (h : WO N H es n O) {v : Int} {s : List Int} {g : AObj} (hs : s.length = N) : WO N ((H ++ [ob 3 1 (s.map I), g]).set 2 (ow 37 2 (outs N (O ++ [(v, s)])))) es n (O ++ [(v, s)]) := by
  have hl := h.hl
  have h0 := (List.getElem?_eq_some_iff.1 h.hs.hp).1
  have h1 := (List.getElem?_eq_some_iff.1 h.hs.hj).1
  refine ⟨⟨?_, ?_, h.hs.ne, h.hs.le⟩, ?_, fun j hj => ?_, by simp [hl]; omega, fun j hj => ?_⟩
  · rw [List.getElem?_set_ne (by omega), List.getElem?_append_left h0, h.hs.hp]
  · rw [List.getElem?_set_ne (by omega), List.getElem?_append_left h1, h.hs.hj]
  · rw [List.getElem?_set_self (by simp; omega)]
  · simp at hj
    rw [List.getElem?_set_ne (by omega)]
    by_cases e : j < O.length
    · rw [List.getElem?_append_left (by omega), h.hr j e, List.getElem_append_left e]
    · obtain rfl : j = O.length := by omega
      rw [List.getElem?_append_right (by omega)]
      simp [hl]
  · simp at hj
    by_cases e : j < O.length
    · rw [List.getElem_append_left e]; exact h.hN j e
    · obtain rfl : j = O.length := by omega
      simp [hs]
theorem WO.put (h : WO N H es n O) {j : Nat} (hj : j < O.length) {s : List Int} (hs : s.length = N) : WO N (H.set (3 + 2 * j) (ob 3 1 (s.map I))) es n (O.set j (O[j].1, s)) := by
  have hl := h.hl
  refine ⟨⟨?_, ?_, h.hs.ne, h.hs.le⟩, ?_, fun i hi => ?_, by simp [hl], fun i hi => ?_⟩
  · rw [List.getElem?_set_ne (by omega), h.hs.hp]
  · rw [List.getElem?_set_ne (by omega), h.hs.hj]
  · rw [List.getElem?_set_ne (by omega), h.ho, outs_put hj]
  · simp at hi
    by_cases e : i = j
    · subst e; rw [List.getElem?_set_self (by omega)]; simp
    · rw [List.getElem?_set_ne (by omega), h.hr i hi, List.getElem_set_ne (Ne.symm e)]
  · simp at hi
    rw [List.getElem_set]
    split
    · exact hs
    · exact h.hN i hi
end
theorem rept_at (v : Int) (n : Nat) (hn : n ≤ 1000000000) (H : List AObj) : ACalls Try.prog 43 [Is [v], I n] H fun r H' => r = .slc H.length n 0 n none ∧ H' = H ++ [ob 3 1 (List.replicate n (I v))] := by
  refine ((rept_p v n hn).anywhere (by simp) 4 H).mono ?_
  rintro q H' ⟨r, G, ⟨rfl, rfl⟩, rfl, rfl⟩
  simp
theorem rept_c {c : Option Nat} {v : Int} {n : Nat} (hn : n ≤ 1000000000) {H : List AObj} : ACalls Try.prog 43 [.imm false c 1 [I v], I n] H fun r H' => r = .slc H.length n 0 n none ∧ H' = H ++ [ob 3 1 (List.replicate n (I v))] :=
  ACalls.argsWk (rept_at v n hn H) (by simp)
theorem rLen_c {i L off m : Nat} {c : Option Nat} {H : List AObj} : ACalls Try.prog 42 [.slc i L off m c] H fun r H' => H' = H ∧ r = I m := by
  refine rLen_w ?_
  simp (disch := omega) [ar, -List.take_append_getElem, rLen_ac]
/-- What is read so far. -/
def upto (A : List (List Int)) (pos : Nat → Nat) : List (List Int) := (List.range A.length).map fun k => (A.getD k []).take (pos k)
/-- What holds while lists are read: pos tells how far each is. -/
structure WI (A : List (List Int)) (pos : Nat → Nat) (es : List AV) (n : Nat) (O : List (Int × List Int)) (H : List AObj) : Prop where
  wo : WO A.length H es n O
  hO : O = stops (upto A pos)
  pl : ∀ k, pos k ≤ (A.getD k []).length
  pe : (es.take n).Perm (((List.range A.length).filter fun k => decide (pos k < (A.getD k []).length)).map fun k => rdr (A.getD k []) (pos k) k)
  hd : Hp (kAt keyR es) n 0
  el : es.length ≤ A.length
  mx : ∀ j k x, x ∈ (A.getD j []).take (pos j) → ∀ (h : pos k < (A.getD k []).length), x ≤ (A.getD k [])[pos k]
theorem WI.top {A : List (List Int)} {pos : Nat → Nat} {es : List AV} {n : Nat} {O : List (Int × List Int)} {H : List AObj} (h : WI A pos es n O H) (hn : 0 < n) :
    ∃ k, ∃ hl : 0 < es.length, ∃ hk : pos k < (A.getD k []).length, k < A.length ∧ es[0] = rdr (A.getD k []) (pos k) k ∧ ∀ j, j < A.length → ∀ hj : pos j < (A.getD j []).length, (A.getD k [])[pos k] ≤ (A.getD j [])[pos j] := by
  have hle := h.wo.hs.le
  have h0 : 0 < es.length := by omega
  have hm : es[0] ∈ es.take n := by rw [List.mem_take_iff_getElem]; exact ⟨0, by omega, rfl⟩
  obtain ⟨k, hk, hk0⟩ := List.mem_map.1 (h.pe.mem_iff.1 hm)
  obtain ⟨hk1, hk2⟩ := List.mem_filter.1 hk
  have hk2 : pos k < (A.getD k []).length := by simpa using hk2
  refine ⟨k, h0, hk2, by simpa using hk1, hk0.symm, fun j hj hjl => ?_⟩
  have hjm : rdr (A.getD j []) (pos j) j ∈ es.take n := h.pe.mem_iff.2 (List.mem_map.2 ⟨j, List.mem_filter.2 ⟨by simpa using hj, by simpa using hjl⟩, rfl⟩)
  rw [List.mem_take_iff_getElem] at hjm
  obtain ⟨c, hc, hce⟩ := hjm
  have := h.hd.le c (by omega)
  simp only [kAt, List.getD] at this
  rw [List.getElem?_eq_getElem h0, List.getElem?_eq_getElem (by omega), Option.getD_some, Option.getD_some, ← hk0, hce] at this
  have e1 := keyR_rdr (l := A.getD k []) (k := k) hk2
  have e2 := keyR_rdr (l := A.getD j []) (k := j) hjl
  rw [e1, e2] at this
  exact this
set_option maxHeartbeats 4000000 in
theorem mwalk_t {x1 x2 x3 x5 x6 x9 x10 x11 x12 x13 x14 x15 x16 x17 x18 x19 x20 x21 x22 x23 x24 x25 x26 x27 x28 x29 x30 x31 x32 x33 x34 x35 x36 x37 x38 x39 x40 x41 x42 x43 x44 x45 x46 x47 x48 x49 x50 x51 x52 x53 x54 x55 x56 x57 x58 x59 x60 x61 x62 x63 x64 x65 x66 x67 x68 x69 x70 x71 x72 x73 x74 x75 x76 x77 x78 x79 x80 x81 : AV} {N : Nat} {H : List AObj} {es : List AV} {n j q k0 : Nat} {O : List (Int × List Int)} {l : List Int} {a : AV} {Q : Exit → List AV → List AObj → Prop}
    (wo : WO N H es n O) (hj : O.length = j + 1) (hk : k0 < N) (h0 : 0 < es.length) (he0 : es[0] = rdr l q k0) (hq : q < l.length) (hD : Hp (kAt keyR es) n 0) (hok : ∀ e ∈ es.take n, okR e) (hn : 0 < n) (hel : es.length ≤ 1000000) (hll : l.length ≤ 1000000) (hjm : j ≤ 1000000)
    (hQ : ∀ fr' es' n' H', WO N H' es' n' (O.set j ((O[j]'(by omega)).1, (O[j]'(by omega)).2.set k0 q)) → leF fr' (fm 122 [(0, a), (4, .ptr 1 1 0 0), (7, .slc 2 (j + 1) 0 (j + 1) none)]) →
      (es'.take n').Perm ((if q + 1 < l.length then [rdr l (q + 1) k0] else []) ++ (es.take n).tail) → Hp (kAt keyR es') n' 0 → es'.length = es.length → Q .normal fr' H') :
    wp Try.prog [11, 80] 0 mwalk_c82 Q [a, x1, x2, x3, .ptr 1 1 0 0, x5, x6, .slc 2 (j + 1) 0 (j + 1) none, .ptr 0 es.length 0 0, x9, x10, x11, x12, x13, x14, x15, x16, x17, x18, x19, x20, x21, x22, x23, x24, x25, x26, x27, x28, x29, x30, x31, x32, x33, x34, x35, x36, x37, x38, x39, x40, x41, x42, x43, x44, x45, x46, x47, x48, x49, x50, x51, x52, x53, x54, x55, x56, x57, x58, x59, x60, x61, x62, x63, x64, x65, x66, x67, x68, x69, x70, x71, x72, x73, x74, x75, x76, x77, x78, x79, x80, x81, .und, .und, .und, .und, .und, .und, .und, .und, .und, .und, .und, .und, .und, .und, .und, .und, .und, .und, .und, .und, .und, .und, .und, .und, .und, .und, .und, .und, .und, .und, .und, .und, .und, .und, .und, .und, .und, .und, .und, .und] H := by
  have ho := wo.ho
  have hr := wo.hr j (by omega)
  have hN := wo.hN j (by omega)
  have hjj := wo.hs.gj
  have hjl := wo.hs.jlt
  have hle := wo.hs.le
  have hg := outs_get (N := N) (O := O) (j := j) (by omega)
  have hol := outs_len (N := N) (O := O)
  have hone : ¬ outs N O = [] := by intro e; rw [e] at hol; simp at hol; omega
  have hv := ov_real (v0 := none) (ty := 76) (sz := 3) (wo.hs.ne0 (x := 0) hn)
  have hwo1 := wo.put (j := j) (by omega) (s := (O[j]'(by omega)).2.set k0 q) (by simpa using hN)
  have hs0 : ∀ x y, ((H.set (3 + 2 * j) x).set 0 y)[0]? = some y := fun x y => List.getElem?_set_self (by simpa using hjl)
  simp (disch := omega) [ar, -List.take_append_getElem, mwalk_c82, ho, hr, hN, hg, hone, hjj, hv, he0, rdr, hs0]
  clear hs0 hv hone hg hN hr ho
  (first | refine Cnd.sp (fun h5 => ?_) fun h5 => ?_ | refine Gd.sp (fun h5 => ?_) fun h5 => ?_) <;> (try simp at h5) <;> (try simp (disch := omega) [ar, -List.take_append_getElem, h5])
  all_goals
    obtain ⟨es1, hes1⟩ : ∃ e, e = es.set 0 (rdr l (q + 1) k0) := ⟨_, rfl⟩
    have hl1 : es1.length = es.length := by rw [hes1]; simp
    have eH : ((H.set (3 + 2 * j) { ty := 3, sz := 1, es := (List.map I (O[j]'(by omega)).snd).set k0 (I ↑q) }).set 0 { ty := 76, sz := 3, es := es.set 0 (AV.agg [Is l, AV.sc (Value.int IntKind.i64 (↑q + 1)), I ↑k0]) }) =
        (H.set (3 + 2 * j) (ob 3 1 (((O[j]'(by omega)).2.set k0 (q : Int)).map I))).set 0 (ov none 76 3 es1) := by
      have e1 : es1 = es.set 0 (AV.agg [Is l, AV.sc (Value.int IntKind.i64 (↑q + 1)), I ↑k0]) := by rw [hes1]; rfl
      rw [List.map_set, e1]
      exact congrArg _ (ov_mk (v0 := none) (fun e => by have := congrArg List.length e; simp at this; rw [this] at h0; simp at h0))
    rw [eH]
    have hw2 := hwo1.heap (es' := es1) hl1
    generalize (H.set (3 + 2 * j) (ob 3 1 (((O[j]'(by omega)).2.set k0 (q : Int)).map I))).set 0 (ov none 76 3 es1) = H2 at hw2 ⊢
    have hne : ∀ x, 0 < x → es1.getD x .und = es.getD x .und := fun x hx => by simp [hes1, List.getD, List.getElem?_set_ne (show 0 ≠ x by omega)]
    have hk1 : ∀ x, 0 < x → kAt keyR es1 x = kAt keyR es x := fun x hx => by simp only [kAt, hne x hx]
    have hok1 : ∀ x, 0 < x → x < n → okR (es1.getD x .und) := fun x hx hxn => by
      rw [hne x hx]
      exact (Mv.refl es n).okAt hle hok hxn
    have hz : es1.getD 0 .und = rdr l (q + 1) k0 := by simp [hes1, List.getD, h0]
    have hH : HoleD (kAt keyR es1) n 0 0 := ⟨fun c a b d e => by rw [hk1 c a, hk1 _ (by omega)]; exact hD c a b (by omega), fun h => by omega⟩
    have htk : es1.take n = rdr l (q + 1) k0 :: (es.take n).tail := by
      obtain ⟨x, es2, rfl⟩ : ∃ x es2, es = x :: es2 := by
        cases es with
        | nil => simp at h0
        | cons x es2 => exact ⟨x, es2, rfl⟩
      obtain ⟨m, rfl⟩ : ∃ m, n = m + 1 := ⟨n - 1, by omega⟩
      simp [hes1]
    clear hjj hjl hol hwo1 wo eH
  · refine ACalls.c (hfix_spec rd_HM hw2.hs (fun e he => ?_) hH (by omega) hn) ?_
    · rw [List.mem_take_iff_getElem] at he
      obtain ⟨x, hx, rfl⟩ := he
      have e : es1[x] = es1.getD x .und := by simp [List.getD, show x < es1.length by omega]
      rw [e]
      by_cases hx0 : x = 0
      · subst hx0; rw [hz]; exact ⟨l, q + 1, k0, rfl, by omega⟩
      · exact hok1 x (by omega) (by omega)
    rintro r H3 ⟨es', rfl, hM, hD2⟩
    have hw3 := hw2.heap (es' := es') hM.len
    simp only [Kp, putD]
    simp (disch := omega) [ar, -List.take_append_getElem]
    refine hQ _ es' n _ hw3 (by simp) ?_ hD2 (by rw [hM.len, hl1])
    rw [if_pos (by omega)]
    have := hM.perm
    rw [htk] at this
    simpa using this
  · obtain ⟨m, rfl⟩ : ∃ m, n = m + 1 := ⟨n - 1, by omega⟩
    refine ACalls.c (hpop_gen rd_HM rd_HP hw2.hs (by rw [hz]; exact ⟨l, q + 1, k0, rfl⟩) (fun x a b => hok1 x a (by omega)) hH (by omega)) ?_
    rintro r H3 ⟨es', rfl, rfl, hl, hP, hD2, hM⟩
    have hw3 := hw2.hset (es' := es') (n' := m) (by omega)
    simp only [Kp, putD]
    simp (disch := omega) [ar, -List.take_append_getElem]
    refine hQ _ es' m _ hw3 (by simp) ?_ hD2 (by rw [hl, hl1])
    rw [if_neg (by omega)]
    rw [htk, hz] at hP
    have h2 := (List.perm_append_comm (l₁ := [rdr l (q + 1) k0]) (l₂ := es'.take m)).trans hP
    simpa using (List.perm_cons _).1 h2
end Go.Fw
