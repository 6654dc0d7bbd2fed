/- A part of the proof: walks of the functions that the law calls. No condition. -/
import Derived.Test.YtlbdgdpnilebpaaRefA
set_option linter.all false
section
namespace Go.Ev.F35
open Go.Proofs Go.Ev
set_option maxRecDepth 100000
set_option linter.all false
structure Mo where
  M : List Rc
  S : List Mi
def mis (S : List Mi) : List PV := S.map miP
theorem mis_len (L : List Mi) : (mis L).length = L.length := by simp [mis]
theorem mis_get {L : List Mi} {i : Nat} (h : i < L.length) : (mis L)[i]? = some (miP L[i]) := by simp [mis, h]
abbrev moP (m : Mo) : PV := .agg [rcsP m.M, .sl 3 (mis m.S)]
def mi0 : Mi := ⟨false, [], []⟩
def an0 : An := ⟨0, [], 0⟩
def putS (S : List Sv) (n : Int) (k : Nat) : List Sv := S.filter (fun s => !(s.1 == n)) ++ [(n, k)]
def cutS (S : List Sv) (k : Nat) : List Sv := S.filter (fun s => decide (s.2 ≤ k))
def getS (S : List Sv) (n : Int) : Option Nat := (S.find? (fun s => s.1 == n)).map (·.2)
def turnF (M : List Rc) (t : Mi) (o : Ao) : List Rc × Mi × An :=
  if o.kind = 6 then (M, ⟨t.on, t.L, putS t.S o.n t.L.length⟩, an0)
  else if o.kind = 7 then (match getS t.S o.n with
    | none => (M, t, ⟨7, [], 0⟩)
    | some k => (M, ⟨t.on, t.L.take k, cutS t.S k⟩, an0))
  else if o.kind = 8 then (viewF M t.L, mi0, an0)
  else if o.kind = 9 then (M, mi0, an0)
  else (M, t, an0)
theorem getS_none {S : List Sv} {n : Int} (h : ∀ s ∈ S, s.1 ≠ n) : getS S n = none := by
  unfold getS
  rw [List.find?_eq_none.2 (fun s hs => by simpa using h s hs)]; rfl
theorem getS_some {S : List Sv} (nd : (S.map (·.1)).Nodup) {j : Nat} (hj : j < S.length) : getS S S[j].1 = some S[j].2 := by
  unfold getS
  rw [List.find?_eq_some_iff_getElem.2 ⟨by simp, j, hj, rfl, fun k hk => ?_⟩]
  · rfl
  · have hne := List.pairwise_iff_getElem.1 nd k j (by simp; omega) (by simpa using hj) hk
    rw [List.getElem_map, List.getElem_map] at hne
    simpa using hne
theorem frzN_mi2 {H : Heap} {v : AV} {K : List PV} (h : OwnS H v 2 K) (a s : PV) : frzN Try.prog H 4 79 (.agg [.p a, .p s, v]) = some (.agg [a, s, .sl 2 K]) := by
  simp [frzN, hleaf81, frzL, frz_own (n := 3) telem_77 h]
theorem frzN_mi0 {H : Heap} : frzN Try.prog H 4 79 (.agg [.p (B false), .nsl, .nsl]) = some (miP mi0) := by
  simp [frzN, hleaf81, frzL, telem_76, telem_77, mi0, wrs, svs]
theorem frzN_an0 {H : Heap} {a : PV} : frzN Try.prog H 4 38 (.agg [.p a, .nsl, .p (I 0)]) = some (.agg [a, .sl 6 [], I 0]) := by
  simp [frzN, hleaf47, frzL, telem_36]
/-- The first blocks are these. -/
def Pre (bs : List Blk) (H : Heap) : Prop := ∀ j, j < bs.length → H[j]? = bs[j]?
theorem Pre.len {bs : List Blk} {H : Heap} (h : Pre bs H) : bs.length ≤ H.length := by
  rcases Nat.eq_zero_or_pos bs.length with h0 | h0
  · omega
  · have := h (bs.length - 1) (by omega)
    rw [List.getElem?_eq_getElem (l := bs) (by omega)] at this
    have := (List.getElem?_eq_some_iff.1 this).1
    omega
theorem Pre.app {bs : List Blk} {H : Heap} (h : Pre bs H) (l : Heap) : Pre bs (H ++ l) := fun j hj => (hs_app (by have := h.len; omega)).trans (h j hj)
theorem Pre.set {bs : List Blk} {H : Heap} (h : Pre bs H) {i : Nat} (hi : bs.length ≤ i) (x : Blk) : Pre bs (H.set i x) := fun j hj => (hs_ne (by omega)).trans (h j hj)
theorem Pre.fr {bs : List Blk} {H H' : Heap} (h : Pre bs H) (k : ∀ j, j < bs.length → H'[j]? = H[j]?) : Pre bs H' := fun j hj => (k j hj).trans (h j hj)
theorem putS_snoc (S : List Sv) (s : Sv) (n : Int) : (S ++ [s]).filter (fun s => !(s.1 == n)) = S.filter (fun s => !(s.1 == n)) ++ (if s.1 = n then [] else [s]) := by
  rw [List.filter_append]
  by_cases h : s.1 = n <;> simp [h]
theorem cutS_snoc (S : List Sv) (s : Sv) (k : Nat) : cutS (S ++ [s]) k = cutS S k ++ (if s.2 ≤ k then [s] else []) := by
  unfold cutS
  rw [List.filter_append]
  by_cases h : s.2 ≤ k <;> simp [h]
set_option maxHeartbeats 2000000 in
theorem p37 (m : Mo) (t : Mi) (o : Ao) (hM : m.M.length + t.L.length ≤ 1000) (hS : t.S.length ≤ 1000) (hm : ∀ s ∈ t.S, s.2 ≤ t.L.length) (nd : (t.S.map (·.1)).Nodup) (hk6 : 6 ≤ o.kind) (hk9 : o.kind ≤ 9) : PS Cf okf 47 [36, 79, 38] [moP m, miP t, aoP o] (fun v => v = .tup [rcsP (turnF m.M t o).1, miP (turnF m.M t o).2.1, anP (turnF m.M t o).2.2]) := by
  refine PS.mk extMono Try.func47 body47 (by decide) rfl ?_
  simp only [c47, Try.f47, Option.getD_some]
  obtain ⟨M, mS⟩ := m
  obtain ⟨on, L, S⟩ := t
  obtain ⟨ok, key, x, y, val, w, n⟩ := o
  dsimp only at hM hS hm nd hk6 hk9
  have hll := wrs_len L
  have hsl := svs_len S
  unfold turnF
  dsimp only
  by_cases h6 : ok = 6
  · subst h6
    rw [if_pos rfl]
    simp -implicitDefEqProofs -dsimp (maxSteps := 1000000) (disch := first | omega | (simp only [wkLen]; omega) | decide +kernel) only [↓wkPre, ↓wkPre2, ↓wkE, wkPost, wkDef, wkF, simprocAttr, hsl]
    have key5 : ∀ (v : AV) (Hc : Heap), Pre [Blk.var true (.p (moP ⟨M, mS⟩)), .var true (.p (miP ⟨on, L, S⟩)), .var true (.p (aoP ⟨6, key, x, y, val, w, n⟩)), .var true (.agg [.p (B false), .nsl, .nsl]), .var true (.agg [.p (I 0), .nsl, .p (I 0)])] Hc → True := fun _ _ _ => trivial
    refine loop_use extMono (fun m' e H => ∃ (i : Nat) (v : AV), m' = S.length - i ∧ i ≤ S.length ∧ e 3 = .vptr 0 0 ∧ e 4 = .vptr 1 0 ∧ e 5 = .vptr 2 0 ∧ e 7 = .vptr 3 0 ∧ e 8 = .vptr 4 0 ∧ e 9 = .vptr 5 0 ∧ e 10 = .p (I i) ∧
       Pre [Blk.var true (.p (moP ⟨M, mS⟩)), .var true (.p (miP ⟨on, L, S⟩)), .var true (.p (aoP ⟨6, key, x, y, val, w, n⟩)), .var true (.agg [.p (B false), .nsl, .nsl]), .var true (.agg [.p (I 0), .nsl, .p (I 0)])] H ∧ H[5]? = some (.var true (.agg [.p (B on), .p (wrsP L), v])) ∧ OwnS H v 2 (svs ((S.take i).filter (fun s => !(s.1 == n)))) ∧ (∀ c, v.blk = some c → 6 ≤ c)) ?_ S.length _ _ ⟨0, .nsl, rfl, by omega, ?_⟩
    · rintro m' e H ⟨i, v, rfl, hi, e3, e4, e5, e7, e8, e9, e10, hk, k5, hown, hvb⟩
      have k0 := hk 0 (by simp)
      have k1 := hk 1 (by simp)
      have k2 := hk 2 (by simp)
      have k3 := hk 3 (by simp)
      have k4 := hk 4 (by simp)
      have hH := (List.getElem?_eq_some_iff.1 k5).1
      simp only [List.getElem?_cons_succ, List.getElem?_cons_zero] at k0 k1 k2 k3 k4
      have hfl : (svs ((S.take i).filter (fun s => !(s.1 == n)))).length ≤ i := by
        rw [svs_len]
        refine Nat.le_trans (List.length_filter_le _ _) ?_
        rw [List.length_take]; omega
      rcases Nat.lt_or_ge i S.length with hlt | hge
      · have gi := svs_get hlt
        have hsn := putS_snoc (S.take i) S[i] n
        rw [← List.take_succ_eq_append_getElem hlt] at hsn
        generalize hsi : S[i] = s at gi hsn
        obtain ⟨s1, s2⟩ := s
        have s2b : s2 ≤ 1000 := by
          have := hm _ (List.getElem_mem hlt)
          rw [hsi] at this
          dsimp only at this
          omega
        by_cases hc : s1 = n
        · dsimp only at hsn
          rw [if_pos hc] at hsn
          simp -implicitDefEqProofs -dsimp (maxSteps := 1000000) (disch := first | omega | (simp only [wkLen]; omega) | decide +kernel) only [↓wkPre, ↓wkPre2, ↓wkE, wkPost, wkDef, wkF, simprocAttr, e3, e4, e5, e7, e8, e9, e10, k0, k1, k2, k3, k4, k5, hsl, gi, hc]
          exact ⟨S.length - (i + 1), by omega, i + 1, v, rfl, by omega, by push_cast; rfl, hk, rfl, by rw [hsn]; simpa using hown, hvb⟩
        · dsimp only at hsn
          rw [if_neg hc] at hsn
          simp -implicitDefEqProofs -dsimp (maxSteps := 1000000) (disch := first | omega | (simp only [wkLen]; omega) | decide +kernel) only [↓wkPre, ↓wkPre2, ↓wkE, wkPost, wkDef, wkF, simprocAttr, e3, e4, e5, e7, e8, e9, e10, k0, k1, k2, k3, k4, k5, hsl, gi, hc]
          refine evC_pl pl_47_9 (by kernel_rfl) (by decide +kernel) ?_
          simp only [pl_47_9]
          simp -implicitDefEqProofs -dsimp (maxSteps := 1000000) (disch := first | omega | (simp only [wkLen]; omega) | decide +kernel) only [↓wkPre, ↓wkPre2, ↓wkE, wkPost, wkDef, wkF, simprocAttr, e3, e4, e5, e7, e8, e9, e10, k0, k1, k2, k3, k4, k5, hsl, gi, hc]
          refine append_step telem_77 (elems_new rfl rfl) (by simp) (hown.app _) ?_ ?_
          · rw [byt_138]; simp; omega
          intro u H2 hown2 hfr2 hle2 hb2
          rw [← svs_snoc (r := (s1, s2)), ← hsn] at hown2
          simp only [List.length_append, List.length_cons, List.length_nil] at hfr2 hle2 hb2
          have hub : ∀ c, u.blk = some c → 6 ≤ c := fun c hc2 => by
            by_cases h : c < H.length + (0 + 1)
            · exact hvb c (hb2 c hc2 h)
            · omega
          have r5 := (hfr2 5 (by omega) (fun h => by have := hvb 5 h; omega)).trans ((hs_app (by omega)).trans k5)
          have hk2 := (hk.app [Blk.arr true 0 2 [svP (s1, s2)]]).fr (H' := H2) (fun j hj => hfr2 j (by simp at hj; omega) (fun h => by have := hvb j h; simp at hj; omega))
          have v5 : ∀ x : Blk, (H2.set 5 x)[5]? = some x := fun x => hs_set (by omega)
          rcases id hown2 with ⟨_, hx2⟩ | ⟨bb2, g2, rfl, hbk2⟩
          · have := congrArg List.length hx2
            rw [svs_len, hsn] at this; simp at this
          simp -implicitDefEqProofs -dsimp (maxSteps := 1000000) (disch := first | omega | (simp only [wkLen]; omega) | decide +kernel) only [↓wkPre, ↓wkPre2, ↓wkE, wkPost, wkDef, wkF, simprocAttr, e3, e4, e5, e7, e8, e9, e10, r5, v5]
          have hbb := hub bb2 rfl
          exact ⟨S.length - (i + 1), by omega, i + 1, _, rfl, by omega, by push_cast; rfl, hk2.set (by simp) _, rfl, hown2.set (fun h => by have := hub _ h; omega), hub⟩
      · have hie : S.take i = S := List.take_of_length_le (by omega)
        rw [hie] at hown hfl
        simp -implicitDefEqProofs -dsimp (maxSteps := 1000000) (disch := first | omega | (simp only [wkLen]; omega) | decide +kernel) only [↓wkPre, ↓wkPre2, ↓wkE, wkPost, wkDef, wkF, simprocAttr, e3, e4, e5, e7, e8, e9, e10, k0, k1, k2, k3, k4, k5, hsl, hll]
        refine append_step telem_77 (elems_new rfl rfl) (by simp) (hown.app _) ?_ ?_
        · rw [byt_138]; simp; omega
        intro u H2 hown2 hfr2 hle2 hb2
        rw [← svs_snoc (r := (n, L.length))] at hown2
        simp only [List.length_append, List.length_cons, List.length_nil] at hfr2 hle2 hb2
        have hub : ∀ c, u.blk = some c → 6 ≤ c := fun c hc2 => by
          by_cases h : c < H.length + (0 + 1)
          · exact hvb c (hb2 c hc2 h)
          · omega
        have fr := fun j (h : j < 6) (b : Blk) (hb : H[j]? = some b) => (hfr2 j (by omega) (fun h => by have := hvb j h; omega)).trans ((hs_app (by omega)).trans hb)
        have r0 := fr 0 (by omega) _ k0
        have r3 := fr 3 (by omega) _ k3
        have r4 := fr 4 (by omega) _ k4
        have r5 := fr 5 (by omega) _ k5
        have v5 : ∀ x : Blk, (H2.set 5 x)[5]? = some x := fun x => hs_set (by omega)
        have v0 : ∀ x : Blk, (H2.set 5 x)[0]? = H2[0]? := fun x => hs_ne (by omega)
        have v3 : ∀ x : Blk, (H2.set 5 x)[3]? = H2[3]? := fun x => hs_ne (by omega)
        have w3 : ∀ x y : Blk, ((H2.set 5 x).set 3 y)[3]? = some y := fun x y => hs_set (by simp; omega)
        have w4 : ∀ x y : Blk, ((H2.set 5 x).set 3 y)[4]? = H2[4]? := fun x y => (hs_ne (by omega)).trans (hs_ne (by omega))
        have z3 : ∀ x y z : Blk, (((H2.set 5 x).set 3 y).set 4 z)[3]? = some y := fun x y z => (hs_ne (by omega)).trans (w3 x y)
        have z4 : ∀ x y z : Blk, (((H2.set 5 x).set 3 y).set 4 z)[4]? = some z := fun x y z => hs_set (by simp; omega)
        have hownZ : ∀ x y z : Blk, OwnS (((H2.set 5 x).set 3 y).set 4 z) u 2 _ := fun x y z => ((hown2.set (fun h => by have := hub _ h; omega)).set (fun h => by have := hub _ h; omega)).set (fun h => by have := hub _ h; omega)
        rcases id hown2 with ⟨_, hx2⟩ | ⟨bb2, g2, rfl, hbk2⟩
        · have := congrArg List.length hx2
          rw [svs_len] at this; simp at this
        simp -implicitDefEqProofs -dsimp (maxSteps := 1000000) (disch := first | omega | (simp only [wkLen]; omega) | decide +kernel) only [↓wkPre, ↓wkPre2, ↓wkE, wkPost, wkDef, wkF, simprocAttr, e3, e4, e5, e7, e8, e9, e10, r0, r3, r4, r5, v5, v0, v3, w3, w4, z3, z4]
        rw [frzN_mi2 (hownZ _ _ _), frzN_an0]
        rfl
    · simp -implicitDefEqProofs -dsimp (maxSteps := 1000000) (disch := first | omega | (simp only [wkLen]; omega) | decide +kernel) only [↓wkPre, ↓wkPre2, ↓wkE, wkPost, wkDef, wkF, simprocAttr]
      exact ⟨fun j hj => by rcases j with _ | _ | _ | _ | _ | j <;> first | rfl | exact absurd hj (by simp only [List.length_cons, List.length_nil]; omega), OwnS.nil _ _, fun c h => by cases h⟩
  · rw [if_neg h6]
    by_cases h7 : ok = 7
    · subst h7
      rw [if_pos rfl]
      have h52 := p52 S n hS
      have hsaved : ∀ kk : Int, ((kk = -1 ∧ ∀ s ∈ S, s.1 ≠ n) ∨ ∃ j, ∃ h : j < S.length, kk = (j : Nat) ∧ S[j].1 = n) → (kk = -1 ∧ getS S n = none) ∨ ∃ j, ∃ h : j < S.length, kk = (j : Nat) ∧ getS S n = some S[j].2 := by
        rintro kk (⟨h1, h2⟩ | ⟨j, hj, h1, h2⟩)
        · exact .inl ⟨h1, getS_none h2⟩
        · refine .inr ⟨j, hj, h1, ?_⟩
          have := getS_some nd hj
          rwa [h2] at this
      have hwalk : ∀ kk : Int, True := fun _ => trivial
      simp -implicitDefEqProofs -dsimp (maxSteps := 1000000) (disch := first | omega | (simp only [wkLen]; omega) | decide +kernel) only [↓wkPre, ↓wkPre2, ↓wkE, wkPost, wkDef, wkF, simprocAttr, hsl]
      refine PS.app md_74 Try.func74 h52 rfl ?_
      rintro _ ⟨kk, rfl, hkk⟩
      rcases hsaved kk hkk with ⟨rfl, hg⟩ | ⟨j, hj, rfl, hg⟩
      · rw [hg]
        simp -implicitDefEqProofs -dsimp (maxSteps := 1000000) (disch := first | omega | (simp only [wkLen]; omega) | decide +kernel) only [↓wkPre, ↓wkPre2, ↓wkE, wkPost, wkDef, wkF, simprocAttr, hsl]
        rw [frzN_an0]
        rfl
      · rw [hg]
        have gj := svs_get hj
        have hmj := hm _ (List.getElem_mem hj)
        have htk : (wrs L).take S[j].2 = wrs (L.take S[j].2) := by simp [wrs]
        generalize hsj : S[j] = sj at gj hmj htk
        obtain ⟨sn, k⟩ := sj
        dsimp only at hmj htk ⊢
        simp -implicitDefEqProofs -dsimp (maxSteps := 1000000) (disch := first | omega | (simp only [wkLen]; omega) | decide +kernel) only [↓wkPre, ↓wkPre2, ↓wkE, wkPost, wkDef, wkF, simprocAttr, hsl, gj, hll, htk]
        have key5 : ∀ (v : AV) (Hc : Heap), Pre [Blk.var true (.p (moP ⟨M, mS⟩)), .var true (.p (miP ⟨on, L, S⟩)), .var true (.p (aoP ⟨7, key, x, y, val, w, n⟩)), .var true (.agg [.p (B false), .nsl, .nsl]), .var true (.agg [.p (I 0), .nsl, .p (I 0)])] Hc → True := fun _ _ _ => trivial
        refine loop_use extMono (fun m' e H => ∃ (i : Nat) (v : AV), m' = S.length - i ∧ i ≤ S.length ∧ e 3 = .vptr 0 0 ∧ e 4 = .vptr 1 0 ∧ e 5 = .vptr 2 0 ∧ e 7 = .vptr 3 0 ∧ e 8 = .vptr 4 0 ∧ e 9 = .vptr 5 0 ∧ e 12 = .p (I k) ∧ e 13 = .p (I i) ∧
           Pre [Blk.var true (.p (moP ⟨M, mS⟩)), .var true (.p (miP ⟨on, L, S⟩)), .var true (.p (aoP ⟨7, key, x, y, val, w, n⟩)), .var true (.agg [.p (B false), .nsl, .nsl]), .var true (.agg [.p (I 0), .nsl, .p (I 0)])] H ∧ H[5]? = some (.var true (.agg [.p (B on), .p (wrsP (L.take k)), v])) ∧ OwnS H v 2 (svs (cutS (S.take i) k)) ∧ (∀ c, v.blk = some c → 6 ≤ c)) ?_ S.length _ _ ⟨0, .nsl, rfl, by omega, ?_⟩
        · rintro m' e H ⟨i, v, rfl, hi, e3, e4, e5, e7, e8, e9, e12, e10, hk, k5, hown, hvb⟩
          have k0 := hk 0 (by simp)
          have k1 := hk 1 (by simp)
          have k2 := hk 2 (by simp)
          have k3 := hk 3 (by simp)
          have k4 := hk 4 (by simp)
          have hH := (List.getElem?_eq_some_iff.1 k5).1
          simp only [List.getElem?_cons_succ, List.getElem?_cons_zero] at k0 k1 k2 k3 k4
          have hfl : (svs (cutS (S.take i) k)).length ≤ i := by
            rw [svs_len]
            refine Nat.le_trans (List.length_filter_le _ _) ?_
            rw [List.length_take]; omega
          rcases Nat.lt_or_ge i S.length with hlt | hge
          · have gi := svs_get hlt
            have hsn := cutS_snoc (S.take i) S[i] k
            rw [← List.take_succ_eq_append_getElem hlt] at hsn
            generalize hsi : S[i] = s at gi hsn
            obtain ⟨s1, s2⟩ := s
            have s2b : s2 ≤ 1000 := by
              have := hm _ (List.getElem_mem hlt)
              rw [hsi] at this
              dsimp only at this
              omega
            by_cases hc : s2 ≤ k
            · dsimp only at hsn
              rw [if_pos hc] at hsn
              simp -implicitDefEqProofs -dsimp (maxSteps := 1000000) (disch := first | omega | (simp only [wkLen]; omega) | decide +kernel) only [↓wkPre, ↓wkPre2, ↓wkE, wkPost, wkDef, wkF, simprocAttr, e3, e4, e5, e7, e8, e9, e12, e10, k0, k1, k2, k3, k4, k5, hsl, gi, hc]
              refine evC_pl pl_47_22 (by kernel_rfl) (by decide +kernel) ?_
              simp only [pl_47_22]
              simp -implicitDefEqProofs -dsimp (maxSteps := 1000000) (disch := first | omega | (simp only [wkLen]; omega) | decide +kernel) only [↓wkPre, ↓wkPre2, ↓wkE, wkPost, wkDef, wkF, simprocAttr, e3, e4, e5, e7, e8, e9, e12, e10, k0, k1, k2, k3, k4, k5, hsl, gi, hc]
              refine append_step telem_77 (elems_new rfl rfl) (by simp) (hown.app _) ?_ ?_
              · rw [byt_138]; simp; omega
              intro u H2 hown2 hfr2 hle2 hb2
              rw [← svs_snoc (r := (s1, s2)), ← hsn] at hown2
              simp only [List.length_append, List.length_cons, List.length_nil] at hfr2 hle2 hb2
              have hub : ∀ c, u.blk = some c → 6 ≤ c := fun c hc2 => by
                by_cases h : c < H.length + (0 + 1)
                · exact hvb c (hb2 c hc2 h)
                · omega
              have r5 := (hfr2 5 (by omega) (fun h => by have := hvb 5 h; omega)).trans ((hs_app (by omega)).trans k5)
              have hk2 := (hk.app [Blk.arr true 0 2 [svP (s1, s2)]]).fr (H' := H2) (fun j hj => hfr2 j (by simp at hj; omega) (fun h => by have := hvb j h; simp at hj; omega))
              have v5 : ∀ x : Blk, (H2.set 5 x)[5]? = some x := fun x => hs_set (by omega)
              rcases id hown2 with ⟨_, hx2⟩ | ⟨bb2, g2, rfl, hbk2⟩
              · have := congrArg List.length hx2
                rw [svs_len, hsn] at this; simp at this
              simp -implicitDefEqProofs -dsimp (maxSteps := 1000000) (disch := first | omega | (simp only [wkLen]; omega) | decide +kernel) only [↓wkPre, ↓wkPre2, ↓wkE, wkPost, wkDef, wkF, simprocAttr, e3, e4, e5, e7, e8, e9, e12, e10, r5, v5]
              have hbb := hub bb2 rfl
              exact ⟨S.length - (i + 1), by omega, i + 1, _, rfl, by omega, by push_cast; rfl, hk2.set (by simp) _, rfl, hown2.set (fun h => by have := hub _ h; omega), hub⟩
            · dsimp only at hsn
              rw [if_neg hc] at hsn
              simp -implicitDefEqProofs -dsimp (maxSteps := 1000000) (disch := first | omega | (simp only [wkLen]; omega) | decide +kernel) only [↓wkPre, ↓wkPre2, ↓wkE, wkPost, wkDef, wkF, simprocAttr, e3, e4, e5, e7, e8, e9, e12, e10, k0, k1, k2, k3, k4, k5, hsl, gi, hc]
              exact ⟨S.length - (i + 1), by omega, i + 1, v, rfl, by omega, by push_cast; rfl, hk, rfl, by rw [hsn]; simpa using hown, hvb⟩
          · have hie : S.take i = S := List.take_of_length_le (by omega)
            rw [hie] at hown hfl
            simp -implicitDefEqProofs -dsimp (maxSteps := 1000000) (disch := first | omega | (simp only [wkLen]; omega) | decide +kernel) only [↓wkPre, ↓wkPre2, ↓wkE, wkPost, wkDef, wkF, simprocAttr, e3, e4, e5, e7, e8, e9, e12, e10, k0, k1, k2, k3, k4, k5, hsl, hll]
            have fr := fun j (h : j < 6) (b : Blk) (hb : H[j]? = some b) => hb
            have r0 := fr 0 (by omega) _ k0
            have r3 := fr 3 (by omega) _ k3
            have r4 := fr 4 (by omega) _ k4
            have r5 := fr 5 (by omega) _ k5
            have w3 : ∀ x : Blk, (H.set 3 x)[3]? = some x := fun x => hs_set (by omega)
            have w4 : ∀ x : Blk, (H.set 3 x)[4]? = H[4]? := fun x => hs_ne (by omega)
            have z3 : ∀ x y : Blk, ((H.set 3 x).set 4 y)[3]? = some x := fun x y => (hs_ne (by omega)).trans (w3 x)
            have z4 : ∀ x y : Blk, ((H.set 3 x).set 4 y)[4]? = some y := fun x y => hs_set (by simp; omega)
            have hownZ : ∀ x y : Blk, OwnS ((H.set 3 x).set 4 y) v 2 _ := fun x y => (hown.set (fun h => by have := hvb _ h; omega)).set (fun h => by have := hvb _ h; omega)
            rw [frzN_mi2 (hownZ _ _), frzN_an0]
            rfl
        · simp -implicitDefEqProofs -dsimp (maxSteps := 1000000) (disch := first | omega | (simp only [wkLen]; omega) | decide +kernel) only [↓wkPre, ↓wkPre2, ↓wkE, wkPost, wkDef, wkF, simprocAttr]
          exact ⟨fun j hj => by rcases j with _ | _ | _ | _ | _ | j <;> first | rfl | exact absurd hj (by simp only [List.length_cons, List.length_nil]; omega), OwnS.nil _ _, fun c h => by cases h⟩
    · rw [if_neg h7]
      by_cases h8 : ok = 8
      · subst h8
        rw [if_pos rfl]
        simp -implicitDefEqProofs -dsimp (maxSteps := 1000000) (disch := first | omega | (simp only [wkLen]; omega) | decide +kernel) only [↓wkPre, ↓wkPre2, ↓wkE, wkPost, wkDef, wkF, simprocAttr]
        refine PS.app md_46 Try.func46 (p35 M L hM) rfl ?_
        rintro _ rfl
        simp -implicitDefEqProofs -dsimp (maxSteps := 1000000) (disch := first | omega | (simp only [wkLen]; omega) | decide +kernel) only [↓wkPre, ↓wkPre2, ↓wkE, wkPost, wkDef, wkF, simprocAttr]
        rw [frzN_mi0, frzN_an0]
        rfl
      · have h9 : ok = 9 := by omega
        subst h9
        rw [if_neg (by decide), if_pos rfl]
        simp -implicitDefEqProofs -dsimp (maxSteps := 1000000) (disch := first | omega | (simp only [wkLen]; omega) | decide +kernel) only [↓wkPre, ↓wkPre2, ↓wkE, wkPost, wkDef, wkF, simprocAttr]
        rw [frzN_mi0, frzN_an0]
        rfl
end Go.Ev.F35
end
section
namespace Go.Ev.F35
open Go.Proofs Go.Ev
set_option maxRecDepth 100000
set_option linter.all false
theorem hleaf30 : leafTs Try.prog 20 48 = [36, 46] := by kernel_rfl
theorem frzR_mo {H : Heap} {v : AV} {K : List PV} (h : OwnS H v 3 K) (a : PV) : frzR Try.prog H [48] (.agg [.p a, v]) = some (.agg [a, .sl 3 K]) := by
  show frzN Try.prog H 4 48 _ = _
  simp [frzN, hleaf30, frzL, frz_own (n := 3) telem_46 h]
theorem frzN_mo {H : Heap} {v : AV} {K : List PV} (h : OwnS H v 3 K) (a : PV) : frzN Try.prog H 4 48 (.agg [.p a, v]) = some (.agg [a, .sl 3 K]) := frzR_mo h a
theorem frzR_mo0 {H : Heap} {v : AV} {K : List PV} (h : OwnS H v 3 K) : frzR Try.prog H [48] (.agg [.nsl, v]) = some (.agg [rcsP [], .sl 3 K]) := by
  show frzN Try.prog H 4 48 _ = _
  simp [frzN, hleaf30, frzL, frz_own (n := 3) telem_46 h, telem_36, rcs]
theorem mis_set (S : List Mi) (i : Nat) (t : Mi) : (mis S).set i (miP t) = mis (S.set i t) := by simp [mis, List.map_set]
theorem own3_at {H : Heap} {b g n : Nat} {xs : List PV} (h : H[b]? = some (.arr true g 3 xs)) (hn : xs.length = n) : OwnS H (.ref b g 0 n false) 3 xs := by
  subst hn; exact .inr ⟨b, g, rfl, h⟩
theorem fr81 {H : Heap} : frzN Try.prog H 4 79 (.agg [.p (B false), .nsl, .nsl]) = some (.agg [B false, wrsP [], svsP []]) := frzN_mi0
theorem id81 : ids 4 (.agg [.p (B false), .nsl, .nsl]) = [] := rfl
theorem st81 (b g i o : Nat) (H : Heap) : stV Try.prog 79 (.eptr b g i o) (.agg [.p (B false), .nsl, .nsl]) H = .p (.agg [B false, wrsP [], svsP []]) := by
  show orV (frzN Try.prog H 4 79 _) _ = _
  rw [fr81]; rfl
theorem sh81 (b g i o : Nat) (H : Heap) : stH (.eptr b g i o) (.agg [.p (B false), .nsl, .nsl]) H = H := rfl
theorem replicate_mis (n : Nat) : List.replicate n (miP mi0) = mis (List.replicate n mi0) := by simp [mis]
theorem p9 (n : Nat) (hn : n ≤ 1000) : PS Cf okf 14 [48] [I n] (fun v => v = moP ⟨[], List.replicate n mi0⟩) := by
  refine PS.mk extMono Try.func14 body14 (by decide) rfl ?_
  simp only [c14, Try.f14, Option.getD_some]
  simp -implicitDefEqProofs -dsimp (maxSteps := 1000000) (disch := first | omega | (simp only [wkLen]; omega) | decide +kernel) only [↓wkPre, ↓wkPre2, ↓wkE, wkPost, wkDef, wkF, simprocAttr, @fr81, id81]
  rw [frzR_mo0 (own3_at (by rfl) (by simp))]
  show _ = _
  rw [show (PV.agg [B false, wrsP [], svsP []]) = miP mi0 from rfl, replicate_mis]
theorem p25 (m : Mo) (who : Nat) (hw : who < m.S.length) (hS : m.S.length ≤ 1000) : PS Cf okf 17 [48] [moP m, I who] (fun v => v = moP ⟨m.M, m.S.set who mi0⟩) := by
  refine PS.mk extMono Try.func17 body17 (by decide) rfl ?_
  simp only [c17, Try.f17, Option.getD_some]
  obtain ⟨M, S⟩ := m
  dsimp only at hw hS ⊢
  have hl := mis_len S
  simp -implicitDefEqProofs -dsimp (maxSteps := 1000000) (disch := first | omega | (simp only [wkLen]; omega) | decide +kernel) only [↓wkPre, ↓wkPre2, ↓wkE, wkPost, wkDef, wkF, simprocAttr]
  refine append_any telem_46 (ys := mis S) (xs := []) rfl (OwnS.nil _ _) (by rw [byt_79, hl]; simp; omega) ?_
  intro v H hown hfr hle hb
  rw [List.nil_append] at hown
  have hvb : ∀ c, v.blk = some c → 3 ≤ c := fun c hc => by
    rcases Nat.lt_or_ge c 3 with h | h
    · have := hb c hc (by simp; omega); simp [AV.blk] at this
    · exact h
  simp only [List.length_cons, List.length_nil] at hfr hle
  have q1 := hfr 1 (by omega) (by simp [AV.blk])
  have q2 := hfr 2 (by omega) (by simp [AV.blk])
  simp only [List.getElem?_cons_succ, List.getElem?_cons_zero] at q1 q2
  have s2 : ∀ x : Blk, (H.set 2 x)[2]? = some x := fun x => hs_set (by omega)
  rcases hown with ⟨rfl, hx⟩ | ⟨bb, g, rfl, hbk⟩
  · rw [hx] at hl; simp at hl; omega
  · have hbb := hvb bb rfl
    have s2b : ∀ x : Blk, (H.set 2 x)[bb]? = some (.arr true g 3 (mis S)) := fun x => (hs_ne (by omega)).trans hbk
    have gi := mis_get hw
    simp -implicitDefEqProofs -dsimp (maxSteps := 1000000) (disch := first | omega | (simp only [wkLen]; omega) | decide +kernel) only [↓wkPre, ↓wkPre2, ↓wkE, wkPost, wkDef, wkF, simprocAttr, q1, q2, s2, s2b, hl, gi, st81, sh81]
    rw [frzR_mo (own3_at ((hs_ne (by omega)).trans (hs_set (by simpa using (List.getElem?_eq_some_iff.1 hbk).1))) (by simp [hl]))]
    show _ = _
    rw [show (PV.agg [B false, wrsP [], svsP []]) = miP mi0 from rfl, mis_set]
/-- A session is at something. -/
def onMi (t : Mi) : Mi := ⟨true, t.L, t.S⟩
end Go.Ev.F35
end
section
namespace Go.Ev.F35
open Go.Proofs Go.Ev
set_option maxRecDepth 100000
set_option linter.all false
theorem p14 (L : List Rc) (hL : L.length ≤ 1000) : PS Cf okf 18 [4] [rcsP L, rcsP L] (fun v => v = B true) := by
  refine PS.mk extMono Try.func18 body18 (by decide) rfl ?_
  simp only [c18, Try.f18, Option.getD_some]
  have hl := rcs_len L
  simp -implicitDefEqProofs -dsimp (maxSteps := 1000000) (disch := first | omega | (simp only [wkLen]; omega) | decide +kernel) only [↓wkPre, ↓wkPre2, ↓wkE, wkPost, wkDef, wkF, simprocAttr, hl]
  refine loop_use extMono (fun m' e H => ∃ (i : Nat), m' = L.length - i ∧ i ≤ L.length ∧ e 0 = .p (rcsP L) ∧ e 1 = .p (rcsP L) ∧ e 5 = .p (I i)) ?_ L.length _ _ ⟨0, rfl, by omega, ?_⟩
  · rintro m' e H ⟨i, rfl, hi, e0, e1, e5⟩
    rcases Nat.lt_or_ge i L.length with hlt | hge
    · have gi := rcs_get hlt
      simp -implicitDefEqProofs -dsimp (maxSteps := 1000000) (disch := first | omega | (simp only [wkLen]; omega) | decide +kernel) only [↓wkPre, ↓wkPre2, ↓wkE, wkPost, wkDef, wkF, simprocAttr, e0, e1, e5, hl, gi]
      exact ⟨L.length - (i + 1), by omega, i + 1, rfl, by omega, by push_cast; rfl⟩
    · simp -implicitDefEqProofs -dsimp (maxSteps := 1000000) (disch := first | omega | (simp only [wkLen]; omega) | decide +kernel) only [↓wkPre, ↓wkPre2, ↓wkE, wkPost, wkDef, wkF, simprocAttr, e0, e1, e5, hl]
  · simp -implicitDefEqProofs -dsimp (maxSteps := 1000000) (disch := first | omega | (simp only [wkLen]; omega) | decide +kernel) only [↓wkPre, ↓wkPre2, ↓wkE, wkPost, wkDef, wkF, simprocAttr]
theorem p29 (a : An) (hL : a.recs.length ≤ 1000) : PS Cf okf 35 [4] [anP a, anP a] (fun v => v = B true) := by
  refine PS.mk extMono Try.func35 body35 (by decide) rfl ?_
  simp only [c35, Try.f35, Option.getD_some]
  obtain ⟨code, L, n⟩ := a
  dsimp only at hL
  have hl := rcs_len L
  simp -implicitDefEqProofs -dsimp (maxSteps := 1000000) (disch := first | omega | (simp only [wkLen]; omega) | decide +kernel) only [↓wkPre, ↓wkPre2, ↓wkE, wkPost, wkDef, wkF, simprocAttr, hl]
  refine loop_use extMono (fun m' e H => ∃ (i : Nat), m' = L.length - i ∧ i ≤ L.length ∧ e 2 = .vptr 0 0 ∧ e 3 = .vptr 1 0 ∧ e 5 = .p (I i) ∧ H[0]? = some (.var true (.p (anP ⟨code, L, n⟩))) ∧ H[1]? = some (.var true (.p (anP ⟨code, L, n⟩)))) ?_ L.length _ _ ⟨0, rfl, by omega, ?_⟩
  · rintro m' e H ⟨i, rfl, hi, e2, e3, e5, k0, k1⟩
    rcases Nat.lt_or_ge i L.length with hlt | hge
    · have gi := rcs_get hlt
      simp -implicitDefEqProofs -dsimp (maxSteps := 1000000) (disch := first | omega | (simp only [wkLen]; omega) | decide +kernel) only [↓wkPre, ↓wkPre2, ↓wkE, wkPost, wkDef, wkF, simprocAttr, e2, e3, e5, hl, gi, k0, k1]
      exact ⟨L.length - (i + 1), by omega, i + 1, rfl, by omega, by push_cast; rfl⟩
    · simp -implicitDefEqProofs -dsimp (maxSteps := 1000000) (disch := first | omega | (simp only [wkLen]; omega) | decide +kernel) only [↓wkPre, ↓wkPre2, ↓wkE, wkPost, wkDef, wkF, simprocAttr, e2, e3, e5, hl, k0, k1]
  · simp -implicitDefEqProofs -dsimp (maxSteps := 1000000) (disch := first | omega | (simp only [wkLen]; omega) | decide +kernel) only [↓wkPre, ↓wkPre2, ↓wkE, wkPost, wkDef, wkF, simprocAttr]
end Go.Ev.F35
end
