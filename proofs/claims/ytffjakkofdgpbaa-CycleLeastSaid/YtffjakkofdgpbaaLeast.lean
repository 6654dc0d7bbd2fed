/- The law CycleLeast answers true for every input, and its arguments read as before. No condition: the whole of the given statement. -/
import Derived.Test.YtffjakkofdgpbaaRows
import Derived.Test.YtffjakkofdgpbaaWalkC
set_option linter.all false
section
namespace Go.Ev.F12
open Go.Proofs Go.Ev Go.Sort
set_option maxRecDepth 100000
set_option linter.all false
/-- A call apart: behind it, all that no argument leads to stands as it stood. -/
theorem PS.appO {C : Cfg} {ok : FuncId → Bool} {f : FuncId} {fn : Func} {args : List AV} {pa : List PV} {R : PV → Prop} {H : Heap} {k : AV → Heap → Prop} {t : Tag k} (hm : C.md f = .pure)
    (hf : C.P.funcs[f]? = some fn) (h : PS C ok f fn.resultTypes.toList pa R) (hpa : frzL (frzN C.P H 4) args fn.params.toList = some pa)
    (hk : ∀ r H', R r → H'.length = H.length → (∀ i, i ∉ args.flatMap (ids 4) → H'[i]? = H[i]?) → k (.p r) H') : evCallT C (W C ok) f args H k t := by
  refine PS.app hm hf h hpa fun r hr => ?_
  split
  · exact hk r H hr rfl (fun _ _ => rfl)
  · exact hk r _ hr (freezeIds_length _ _) (fun i hi => by rw [freezeIds_get, if_neg hi])
theorem FarS.uniq {L : Arcs} {a b : Int} {m n : Nat} (h : FarS L a b m) (k : FarS L a b n) : m = n := by
  rcases h with ⟨h1, h2, h3, h4⟩ | ⟨rfl, h1⟩
  · rcases k with ⟨k1, k2, k3, k4⟩ | ⟨rfl, k1⟩
    · rcases Nat.lt_trichotomy m n with h | h | h
      · exact absurd h3 (k4 m h1 h)
      · exact h
      · exact absurd k3 (h4 n k1 h)
    · exact absurd h3 (k1 m h1 h2)
  · rcases k with ⟨k1, k2, k3, k4⟩ | ⟨rfl, k1⟩
    · exact absurd k3 (h1 n k1 k2)
    · rfl
theorem Pth.ext {L : Arcs} {fr : Int} {q : List Int} (h : Pth L fr q) {t : Int} (ha : (lastN q, t) ∈ L) : ∀ {m : Nat} {b : Int}, Wk L m t b → ∃ p, Pth L fr (q ++ t :: p) ∧ p.length = m ∧ lastN (q ++ t :: p) = b
  | 0, b, h2 => by cases h2; exact ⟨[], h.more ha, rfl, lastN_snoc _ _⟩
  | m + 1, b, ⟨y, h2, h3⟩ => by
    obtain ⟨p, p1, p2, p3⟩ := h.ext ha h2
    refine ⟨p ++ [b], ?_, by simp [p2], ?_⟩
    · have := p1.more (t := b) (by rw [p3]; exact h3)
      simpa using this
    · have := lastN_snoc (q ++ t :: p) b
      simpa using this
theorem Pth.take {L : Arcs} {fr : Int} {c : List Int} (h : Pth L fr c) : ∀ j, j < c.length → Pth L fr (c.take (j + 1)) := by
  induction h with
  | one => intro j hj; simp at hj; subst hj; exact .one
  | @more p t hp ha ih =>
    intro j hj
    simp only [List.length_append, List.length_cons, List.length_nil] at hj
    rcases Nat.lt_or_ge j p.length with h | h
    · rw [List.take_append_of_le_length (by omega)]
      exact ih j h
    · rw [List.take_of_length_le (by simp; omega)]
      exact hp.more ha
theorem lastN_take {c : List Int} {j : Nat} (h : j < c.length) : lastN (c.take (j + 1)) = c[j] := by
  rw [List.take_succ_eq_append_getElem h, lastN_snoc]
theorem Pth.sub {L : Arcs} {fr : Int} {c : List Int} (h : Pth L fr c) {j : Nat} (hj : j < c.length) : ∀ (d : Nat) (hd : j + d < c.length), Wk L d c[j] c[j + d]
  | 0, hd => rfl
  | d + 1, hd => by
    refine ⟨c[j + d], h.sub hj d (by omega), ?_⟩
    exact h.nth.2.1 (j + d) _ _ (by simp [show j + d < c.length by omega]) (by simp [show j + d + 1 < c.length by omega]; rfl)
/-- The rest of a way round. -/
theorem Cyc.rest {L : Arcs} {fr : Int} {c : List Int} (h : Cyc L fr c) {j : Nat} (hj : j < c.length) : Wk L (c.length - j) c[j] fr := by
  obtain ⟨d, hd⟩ : ∃ d, c.length = j + d + 1 := ⟨c.length - j - 1, by omega⟩
  rw [show c.length - j = d + 1 by omega]
  refine ⟨c[j + d], h.1.sub hj d (by omega), ?_⟩
  have h1 := h.1.nth.2.2
  have h2 : c[j + d]? = some (lastN c) := by rw [← h1, hd]; rfl
  have h3 : c[j + d]? = some c[j + d] := by simp [show j + d < c.length by omega]
  rw [h3] at h2
  rw [Option.some.inj h2]
  exact h.2
/-- Another way round: as far as j, and on through t. -/
theorem Cyc.other {L : Arcs} {fr : Int} {c : List Int} (h : Cyc L fr c) {j : Nat} (hj : j < c.length) {t : Int} (ht : (c[j], t) ∈ L) {m : Nat} (hw : Wk L (m + 1) t fr) : ∃ p, Cyc L fr (c.take (j + 1) ++ t :: p) ∧ p.length = m := by
  obtain ⟨y, h2, h3⟩ := hw
  obtain ⟨p, p1, p2, p3⟩ := (h.1.take j hj).ext (by rw [lastN_take hj]; exact ht) h2
  exact ⟨p, ⟨p1, by rw [p3]; exact h3⟩, p2⟩
/-- The least way round goes on where the way back is as short as it can be, first to the least. -/
theorem FindS.step {L : Arcs} {fr : Int} {c : List Int} (h : Cyc L fr c) (hn : c.Nodup) (hmin : ∀ w, Cyc L fr w → SLe c w) {j : Nat} (hj : j + 1 < c.length) :
    FarS L c[j + 1] fr (c.length - (j + 1)) ∧ ∀ t, (c[j], t) ∈ L → t < c[j + 1] → ¬ FarS L t fr (c.length - (j + 1)) := by
  have ha : (c[j], c[j + 1]) ∈ L := h.1.nth.2.1 j _ _ (by simp [show j < c.length by omega]) (by simp [hj])
  have hlen := h.len hn
  constructor
  · refine .inl ⟨by omega, by omega, h.rest hj, fun k h1 h2 hw => ?_⟩
    obtain ⟨m, rfl⟩ : ∃ m, k = m + 1 := ⟨k - 1, by omega⟩
    obtain ⟨p, hp, hl⟩ := h.other (show j < c.length by omega) ha hw
    have := (hmin _ hp).len
    simp at this
    omega
  · rintro t ht hlt (⟨h1, h2, h3, h4⟩ | ⟨h1, _⟩)
    · obtain ⟨m, hm⟩ : ∃ m, c.length - (j + 1) = m + 1 := ⟨c.length - (j + 1) - 1, by omega⟩
      rw [hm] at h3
      obtain ⟨p, hp, hl⟩ := h.other (show j < c.length by omega) ht h3
      refine SLt.anti (.inr ⟨by simp; omega, ?_⟩) (hmin _ hp)
      have hc : c = c.take (j + 1) ++ c[j + 1] :: c.drop (j + 2) := by
        conv => lhs; rw [← List.take_append_drop (j + 1) c, List.drop_eq_getElem_cons hj]
      conv => rhs; rw [hc]
      exact LX.pre _ (.inl hlt)
    · omega
set_option maxHeartbeats 2000000 in
theorem p20 (L : Arcs) (hL : L.length ≤ 1000) (fr : Int) (c : List Int) (hc : FindS L fr c) : PS Cf okf 20 [25] [arcs L, U fr] (fun r => r = us c) := by
  refine PS.mk extMono Try.func20 body20 (by decide) rfl ?_
  simp only [c20, Try.f20, Option.getD_some]
  have hul := arcL_len L
  have hcl := hc.cl
  simp -implicitDefEqProofs -dsimp (disch := first | omega | (simp only [wkLen]; omega) | decide +kernel) only [↓wkPre, ↓wkPre2, ↓wkE, wkPost, wkDef, wkF, simprocAttr]
  refine PS.app md_11 Try.func11 (p11 L fr fr (by omega)) rfl ?_
  rintro _ ⟨n, rfl, hn⟩
  obtain rfl := hc.far hn
  simp -implicitDefEqProofs -dsimp (disch := first | omega | (simp only [wkLen]; omega) | decide +kernel) only [↓wkPre, ↓wkPre2, ↓wkE, wkPost, wkDef, wkF, simprocAttr]
  refine loop_use extMono (fun m e H => ∃ (j : Nat) (w : AV) (v : Int), m = c.length - j ∧ j ≤ c.length ∧ e 0 = .p (arcs L) ∧ e 1 = .p (U fr) ∧ e 6 = w ∧ e 7 = .p (U v) ∧ e 8 = .p (I (c.length - j : Nat)) ∧ OwnS H w 0 (usL (c.take j)) ∧ (∀ h : j < c.length, v = c[j])) ?_ c.length _ _ ⟨0, .nsl, fr, rfl, by omega, ?_⟩
  · rintro m e H ⟨j, w, v, rfl, hj, e0, e1, e6, e7, e8, hown, hv⟩
    rcases Nat.lt_or_ge j c.length with h | h
    · obtain rfl := hv h
      obtain ⟨hcy, hnd, hmin⟩ : Cyc L fr c ∧ c.Nodup ∧ ∀ w, Cyc L fr w → SLe c w := by
        rcases hc with ⟨rfl, _⟩ | hc
        · simp at h
        · exact hc
      have hgt : ((0 : Int) < ((c.length - j : Nat) : Int)) = True := by simp; omega
      simp -implicitDefEqProofs -dsimp (disch := first | omega | (simp only [wkLen]; omega) | decide +kernel) only [↓wkPre, ↓wkPre2, ↓wkE, wkPost, wkDef, wkF, simprocAttr, e0, e1, e6, e7, e8, hgt]
      refine append_step telem_25 (elems_new rfl rfl) (by simp) (hown.app _) ?_ ?_
      · rw [byt_23, usL_len]; simp; omega
      intro w' H' hown' hfr' hle hb'
      simp -implicitDefEqProofs -dsimp (disch := first | omega | (simp only [wkLen]; omega) | decide +kernel) only [↓wkPre, ↓wkPre2, ↓wkE, wkPost, wkDef, wkF, simprocAttr, e0, e1, e6, e7, e8, hgt]
      have hwl := hown'.lt
      refine PS.appO md_24 Try.func24 (p24 L [c[j]] hL (by simp)) (by show frzL (frzN Try.prog _ 4) [.p (arcs L), .ref _ 0 0 1 false] [22, 25] = _; simp [frzL, frzN, usL]) ?_
      rintro _ H1 rfl hl1 hk1
      have hown1 : OwnS H1 w' 0 (usL (c.take (j + 1))) := by
        rw [List.take_succ_eq_append_getElem h, usL_snoc]
        refine (hown'.app _).keep fun b hb => hk1 b ?_
        have := hwl b hb
        simp [ids_p, ids_ref]
        omega
      clear hown hown' hfr' hb' hk1 hwl
      simp -implicitDefEqProofs -dsimp (disch := first | omega | (simp only [wkLen]; omega) | decide +kernel) only [↓wkPre, ↓wkPre2, ↓wkE, wkPost, wkDef, wkF, simprocAttr, e0, e1, e6, e7, e8, hgt]
      have hrise := stepL_rise L [c[j]]
      have hmem : ∀ t, t ∈ stepL L [c[j]] ↔ (c[j], t) ∈ L := fun t => mem_nxt
      have hrl := usL_len (stepL L [c[j]])
      have hrb := stepL_len L [c[j]]
      generalize stepL L [c[j]] = row at *
      have hin : ∀ h1 : j + 1 < c.length, c[j + 1] ∈ row := fun h1 => (hmem _).2 (hcy.1.nth.2.1 j _ _ (by simp [h]) (by simp [h1]))
      refine loop_use extMono (fun m e Hd => ∃ i : Nat, m = row.length - i ∧ i ≤ row.length ∧ e 0 = .p (arcs L) ∧ e 1 = .p (U fr) ∧ e 6 = w' ∧ e 7 = .p (U c[j]) ∧ e 8 = .p (I (c.length - j : Nat)) ∧ e 9 = .p (us row) ∧ e 10 = .p (I i) ∧ Hd = H1 ∧ (j + 1 = c.length → i = 0) ∧ ∀ h1 : j + 1 < c.length, c[j + 1] ∉ row.take i) ?_ row.length _ _ ⟨0, rfl, by omega, ?_⟩
      · rintro m e Hd ⟨i, rfl, hi, e0, e1, e6, e7, e8, e9, e10, rfl, hlast, hbef⟩
        have hil : i < row.length := by
          rcases Nat.lt_or_ge i row.length with h2 | h2
          · exact h2
          exfalso
          rcases Nat.lt_or_ge (j + 1) c.length with h3 | h3
          · have := hbef h3
            rw [List.take_of_length_le h2] at this
            exact this (hin h3)
          · have h4 := hlast (by omega)
            have h5 : fr ∈ row := by
              rw [hmem]
              have := hcy.rest h
              rw [show c.length - j = 1 by omega] at this
              obtain ⟨m, h6, h7⟩ := this
              cases h6
              exact h7
            have := List.length_pos_of_mem h5
            omega
        have gi := usL_get hil
        rcases Nat.lt_or_ge (j + 1) c.length with h3 | h3
        · have hk1 : ((c.length - j : Nat) : Int) = (c.length - (j + 1) : Nat) + 1 := by omega
          have hk2 : (((c.length - j : Nat) : Int) == 1) = false := by simp; omega
          simp -implicitDefEqProofs -dsimp (disch := first | omega | (simp only [wkLen]; omega) | decide +kernel) only [↓wkPre, ↓wkPre2, ↓wkE, wkPost, wkDef, wkF, simprocAttr, e0, e1, e6, e7, e8, e9, e10, hgt, hrl, gi, hk2]
          refine PS.app md_11 Try.func11 (p11 L row[i] fr (by omega)) rfl ?_
          rintro _ ⟨n, rfl, hn⟩
          obtain ⟨s1, s2⟩ := FindS.step hcy hnd hmin h3
          have hge : c[j + 1] ≤ row[i] → row[i] = c[j + 1] := fun h4 => by
            obtain ⟨q, hq, hqe⟩ := List.getElem_of_mem (hin h3)
            rcases Nat.lt_trichotomy q i with h5 | h5 | h5
            · exact absurd (List.mem_take_iff_getElem.2 ⟨q, by omega, hqe⟩) (hbef h3)
            · subst h5; exact hqe
            · have := List.pairwise_iff_getElem.1 hrise i q hil hq h5
              omega
          by_cases hq : n = c.length - (j + 1)
          · have hk3 : ((n : Int) == ((c.length - j : Nat) : Int) - 1) = true := by simp; omega
            have hri : row[i] = c[j + 1] := by
              refine hge (Int.not_lt.1 fun h4 => ?_)
              exact s2 row[i] ((hmem _).1 (List.getElem_mem _)) h4 (hq ▸ hn)
            simp -implicitDefEqProofs -dsimp (disch := first | omega | (simp only [wkLen]; omega) | decide +kernel) only [↓wkPre, ↓wkPre2, ↓wkE, wkPost, wkDef, wkF, simprocAttr, e0, e1, e6, e7, e8, e9, e10, hgt, hrl, gi, hk2, hk3]
            refine ⟨c.length - (j + 1), by omega, j + 1, w', c[j + 1], rfl, by omega, ?_⟩
            have e9 : ((c.length - j : Nat) : Int) - 1 = (c.length - (j + 1) : Nat) := by omega
            rw [hri, e9]
            exact ⟨rfl, rfl, rfl, hown1, fun _ => rfl⟩
          · have hk3 : ((n : Int) == ((c.length - j : Nat) : Int) - 1) = false := by simp; omega
            simp -implicitDefEqProofs -dsimp (disch := first | omega | (simp only [wkLen]; omega) | decide +kernel) only [↓wkPre, ↓wkPre2, ↓wkE, wkPost, wkDef, wkF, simprocAttr, e0, e1, e6, e7, e8, e9, e10, hgt, hrl, gi, hk2, hk3]
            refine ⟨row.length - (i + 1), by omega, i + 1, rfl, by omega, by push_cast; rfl, fun h => by omega, fun _ h4 => ?_⟩
            rw [List.take_succ_eq_append_getElem hil] at h4
            rcases List.mem_append.1 h4 with h4 | h4
            · exact hbef h3 h4
            · rw [List.mem_singleton] at h4
              rw [← h4] at hn
              exact hq (hn.uniq s1)
        · have hk2 : (((c.length - j : Nat) : Int) == 1) = true := by simp; omega
          simp -implicitDefEqProofs -dsimp (disch := first | omega | (simp only [wkLen]; omega) | decide +kernel) only [↓wkPre, ↓wkPre2, ↓wkE, wkPost, wkDef, wkF, simprocAttr, e0, e1, e6, e7, e8, e9, e10, hgt, hrl, gi, hk2]
          refine ⟨c.length - (j + 1), by omega, j + 1, w', row[i], rfl, by omega, ?_⟩
          have e9 : ((c.length - j : Nat) : Int) - 1 = (c.length - (j + 1) : Nat) := by omega
          rw [e9]
          exact ⟨rfl, rfl, rfl, hown1, fun h => by omega⟩
      · simp -implicitDefEqProofs -dsimp (disch := first | omega | (simp only [wkLen]; omega) | decide +kernel) only [↓wkPre, ↓wkPre2, ↓wkE, wkPost, wkDef, wkF, simprocAttr, e0, e1, e6, e7, e8]
        exact ⟨fun _ => trivial, fun _ h => by cases h⟩
    · obtain rfl : j = c.length := by omega
      rw [List.take_length] at hown
      simp -implicitDefEqProofs -dsimp (disch := first | omega | (simp only [wkLen]; omega) | decide +kernel) only [↓wkPre, ↓wkPre2, ↓wkE, wkPost, wkDef, wkF, simprocAttr, e0, e1, e6, e7, e8]
      exact us_frz hown
  · simp -implicitDefEqProofs -dsimp (disch := first | omega | (simp only [wkLen]; omega) | decide +kernel) only [↓wkPre, ↓wkPre2, ↓wkE, wkPost, wkDef, wkF, simprocAttr]
    refine ⟨rfl, OwnS.nil _ _, fun h => ?_⟩
    rcases hc with ⟨rfl, _⟩ | hc
    · simp at h
    · have := hc.1.1.nth.1
      simp [h] at this
      exact this.symm
set_option maxHeartbeats 1000000 in
theorem least (L : Arcs) (fr : Int) : (W Cf okf).call 6 [.p (arcs L), .p (U fr)] [] fun v _ => v = .p (.bool true) := by
  refine top_mk extMono Try.func6 body6 (by decide) rfl ?_
  simp only [c6, Try.f6, Option.getD_some]
  have hul := arcL_len L
  rcases Nat.lt_or_ge 24 L.length with h | h
  · simp -implicitDefEqProofs -dsimp (disch := first | omega | (simp only [wkLen]; omega) | decide +kernel) only [↓wkPre, ↓wkPre2, ↓wkE, wkPost, wkDef, wkF, simprocAttr, hul]
    refine PS.app md_8 Try.func8 p8 rfl ?_
    rintro _ rfl
    simp -implicitDefEqProofs -dsimp (disch := first | omega | (simp only [wkLen]; omega) | decide +kernel) only [↓wkPre, ↓wkPre2, ↓wkE, wkPost, wkDef, wkF, simprocAttr]
  · simp -implicitDefEqProofs -dsimp (disch := first | omega | (simp only [wkLen]; omega) | decide +kernel) only [↓wkPre, ↓wkPre2, ↓wkE, wkPost, wkDef, wkF, simprocAttr, hul]
    refine PS.app md_10 Try.func10 (p10 L (by omega)) rfl ?_
    rintro _ rfl
    simp -implicitDefEqProofs -dsimp (disch := first | omega | (simp only [wkLen]; omega) | decide +kernel) only [↓wkPre, ↓wkPre2, ↓wkE, wkPost, wkDef, wkF, simprocAttr]
    refine PS.app md_9 Try.func9 (p9 L (by omega) fr) rfl ?_
    rintro _ ⟨c, rfl, hc⟩
    simp -implicitDefEqProofs -dsimp (disch := first | omega | (simp only [wkLen]; omega) | decide +kernel) only [↓wkPre, ↓wkPre2, ↓wkE, wkPost, wkDef, wkF, simprocAttr]
    refine PS.app md_20 Try.func20 (p20 L (by omega) fr c hc) rfl ?_
    rintro _ rfl
    simp -implicitDefEqProofs -dsimp (disch := first | omega | (simp only [wkLen]; omega) | decide +kernel) only [↓wkPre, ↓wkPre2, ↓wkE, wkPost, wkDef, wkF, simprocAttr]
    refine PS.app md_14 Try.func14 (p14 c c (by have := hc.cl; omega)) rfl ?_
    rintro _ rfl
    simp -implicitDefEqProofs -dsimp (disch := first | omega | (simp only [wkLen]; omega) | decide +kernel) only [↓wkPre, ↓wkPre2, ↓wkE, wkPost, wkDef, wkF, simprocAttr]
    refine PS.app md_8 Try.func8 p8 rfl ?_
    rintro _ rfl
    simp -implicitDefEqProofs -dsimp (disch := first | omega | (simp only [wkLen]; omega) | decide +kernel) only [↓wkPre, ↓wkPre2, ↓wkE, wkPost, wkDef, wkF, simprocAttr]
theorem lawCycleLeast : ∀ xs, Tyas [(0, [Ty.sl 2 [Ty.int .u64, Ty.int .u64]]), (0, [Ty.int .u64])] xs → (Ev.W Cf okf).call 6 (xs.map AV.p) [] fun v _ => v = .p (.bool true) := by
  intro xs h
  obtain ⟨L, fr, rfl⟩ := law_args h
  exact least L fr
end Go.Ev.F12
end
section
namespace Go.Proofs.Ytffjakkofdgpbaa
open Go.Ev Go.Ev.F12
set_option maxRecDepth 100000
theorem own : ownKnob Try.prog.godebug = Option.none := by kernel_rfl
theorem laidOut : laidOutB Try.prog = true := by kernel_rfl
theorem tyCycleLeast : Try.f6.params.toList.mapM (tyA Try.prog 8) = some [(0, [Ty.sl 2 [Ty.int .u64, Ty.int .u64]]), (0, [Ty.int .u64])] := by kernel_rfl
theorem cycleLeast_lifted (os : Os) (started : os.Started) (H : Type) (enc : TypeId × Value → H) :
    ReturnsInHanded {} Try.checked os 6 .any (Rows.cycleLeastSpec.pre6 enc Try.prog Try.f6 Rows.cycleLeastRow.domain false) (Rows.cycleLeastSpec.post enc Try.prog Try.f6 false true false false) := by
  refine returnsInHanded_of_change (C := Try.checked) own started (by kernel_rfl) Try.func6
    (ChangeSpec.witness6 (enc := enc) (C := Try.checked) false ⟨#[], #[.slice Option.none 0 0, .int .u64 0], []⟩ 8 (by kernel_rfl) (by kernel_rfl) (by kernel_rfl) (by kernel_rfl)) ?_
  intro W base args ds gs before hval hW _ _
  refine law_calls (C := Cf) extOK extMono okfOK (fn := Try.f6) laidOut (by decide +kernel) (s := Rows.cycleLeastSpec) rfl ?_ tyCycleLeast (bt := 4) (by kernel_rfl) und_4 lawCycleLeast hval hW
  intro H ds h
  match ds, h with
  | [_, _], _ => rfl
theorem cycleLeast_holds : Rows.CycleLeastSaid :=
  OpenClaim.holds_of_wide 6 Try.f6 rfl rfl rfl rfl rfl rfl rfl ⟨rfl, rfl, rfl, rfl, rfl⟩ rfl rfl rfl rfl rfl (by kernel_rfl) Try.func6 (by kernel_rfl)
    (of_decide_eq_true (by kernel_rfl)) (by unfold Func.isWrapper; rw [if_neg (by decide +kernel)]; exact ⟨rfl, rfl⟩)
    (fun os started H enc _ => cycleLeast_lifted os started H enc)
end Go.Proofs.Ytffjakkofdgpbaa
#print axioms Go.Proofs.Ytffjakkofdgpbaa.cycleLeast_holds
end
