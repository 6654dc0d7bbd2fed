/- A part of the proof: walks of the functions that the law calls. No condition. -/
import Derived.Test.YtdcialefdfalfaaWalkB
set_option linter.all false
section
namespace Go.Ev.F15
open Go.Proofs Go.Ev Go.Sort
set_option maxRecDepth 100000
set_option linter.all false
theorem seg {l : List Int} (hr : Rise l) {k : Nat} (hk : k ≤ l.length) {x : Int} (h0 : 0 ≤ x) (h1 : x ≤ 4294967295) : atL l x = k ↔ loL l k ≤ x ∧ x ≤ hiL l k := by
  have hi := at_iff (x := x) hr
  have hle := atL_le l x
  unfold loL hiL
  constructor
  · intro e
    constructor
    · split
      · rename_i h
        exact (hi _ h.2).1 (by omega)
      · exact h0
    · split
      · rename_i h
        have := mt (hi k h).2 (by omega)
        omega
      · exact h1
  · rintro ⟨e1, e2⟩
    have g1 : k ≤ atL l x := by
      by_cases h : 0 < k
      · rw [dif_pos ⟨h, by omega⟩] at e1
        have := (hi (k - 1) (by omega)).2 e1
        omega
      · omega
    have g2 : atL l x ≤ k := by
      by_cases h : k < l.length
      · rw [dif_pos h] at e2
        have := mt (hi k h).1 (by omega)
        omega
      · omega
    omega
theorem ends_ok {l : List Int} (hr : Rise l) (hR : InR l) {k : Nat} (hk : k ≤ l.length) : 0 ≤ loL l k ∧ loL l k ≤ hiL l k ∧ hiL l k ≤ 4294967295 := by
  unfold loL hiL
  split
  · rename_i h
    have h1 := hR _ (List.getElem_mem h.2)
    split
    · rename_i h2
      have h3 := hR _ (List.getElem_mem h2)
      have := List.pairwise_iff_getElem.1 hr (k - 1) k h.2 h2 (by omega)
      omega
    · omega
  · split
    · rename_i h2
      have h3 := hR _ (List.getElem_mem h2)
      omega
    · omega
theorem lo_next {l : List Int} {k : Nat} (hk : k < l.length) : hiL l k + 1 = loL l (k + 1) := by
  unfold loL hiL
  rw [dif_pos hk, dif_pos ⟨by omega, by simpa using hk⟩]
  simp
theorem lo_zero (l : List Int) : loL l 0 = 0 := by simp [loL]
theorem hi_last (l : List Int) : hiL l l.length = 4294967295 := by simp [hiL]
theorem inR {l : List Int} (h : RightL l) (hu : ∀ x ∈ l, 0 ≤ x ∧ x ≤ 4294967295) : InR l := fun x hx => by
  have := h.2.1 x hx
  have := hu x hx
  omega
set_option maxHeartbeats 2000000 in
theorem ends (l : List Int) (x i : Int) (hu : ∀ y ∈ l, 0 ≤ y ∧ y ≤ 4294967295) (hx : 0 ≤ x ∧ x ≤ 4294967295) : (W Cf okf).call 4 [.p (es l), .p (E x), .p (I i)] [] fun v _ => v = .p (.bool true) := by
  refine top_mk extMono Try.func4 body4 (by decide) rfl ?_
  simp only [c4, Try.f4, Option.getD_some, List.append_eq, List.cons_append, List.nil_append]
  simp -implicitDefEqProofs -dsimp (disch := first | omega | (simp only [wkLen]; omega) | decide +kernel) only [↓wkPre, ↓wkPre2, ↓wkE, wkPost, wkDef, wkF, simprocAttr]
  refine PS.app md_8 Try.func8 (p8 l) rfl ?_
  rintro _ (⟨hri, rfl⟩ | ⟨_, rfl⟩)
  · have hR := inR hri hu
    obtain ⟨h7, _, hr⟩ := hri
    simp -implicitDefEqProofs -dsimp (disch := first | omega | (simp only [wkLen]; omega) | decide +kernel) only [↓wkPre, ↓wkPre2, ↓wkE, wkPost, wkDef, wkF, simprocAttr]
    refine loop_use extMono (fun m e H => ∃ k : Nat, m = l.length + 1 - k ∧ k ≤ l.length + 1 ∧ e 1 = .p (E x) ∧ e 2 = .p (I i) ∧ e 7 = .vptr 0 0 ∧ (k ≤ l.length → e 9 = .p (E (loL l k))) ∧ e 10 = .p (I k) ∧ H = [.var true (.p (sc l))]) ?_ (l.length + 1) _ _ ⟨0, rfl, by omega, ?_⟩
    · rintro m e H ⟨k, rfl, hk, e1, e2, e7, e9, e10, rfl⟩
      rcases Nat.lt_or_ge k (l.length + 1) with h | h
      · have hkl : k ≤ l.length := by omega
        have e9 := e9 hkl
        obtain ⟨b1, b2, b3⟩ := ends_ok hr hR hkl
        simp -implicitDefEqProofs -dsimp (disch := first | omega | (simp only [wkLen]; omega) | decide +kernel) only [↓wkPre, ↓wkPre2, ↓wkE, wkPost, wkDef, wkF, simprocAttr, e1, e2, e7, e9, e10]
        refine PS.app md_10 Try.func10 (p10 l (by omega)) rfl ?_
        rintro _ rfl
        simp -implicitDefEqProofs -dsimp (disch := first | omega | (simp only [wkLen]; omega) | decide +kernel) only [↓wkPre, ↓wkPre2, ↓wkE, wkPost, wkDef, wkF, simprocAttr, e1, e2, e7, e9, e10]
        refine PS.app md_17 Try.func17 (p17 l k (by omega) hR) rfl ?_
        rintro _ (⟨h, _⟩ | ⟨_, _, rfl⟩)
        · omega
        rw [Int.toNat_natCast]
        have s1 := (seg hr hkl b1 (by omega)).2 ⟨Int.le_refl _, b2⟩
        have s2 := (seg hr hkl (by omega) b3).2 ⟨b2, Int.le_refl _⟩
        have s3 := seg hr hkl hx.1 hx.2
        by_cases q1 : loL l k ≤ x
        · by_cases q2 : x ≤ hiL l k
          · have g1 := decide_eq_true q1
            have g2 := decide_eq_true q2
            simp -implicitDefEqProofs -dsimp (disch := first | omega | (simp only [wkLen]; omega) | decide +kernel) only [↓wkPre, ↓wkPre2, ↓wkE, wkPost, wkDef, wkF, simprocAttr, e1, e2, e7, e9, e10, g1, g2]
            refine PS.app md_15 Try.func15 (p15 l x (by omega) hr) rfl ?_
            rintro _ rfl
            have da : ((atL l x : Int) == (k : Int)) = true := by rw [s3.2 ⟨q1, q2⟩]; simp
            simp -implicitDefEqProofs -dsimp (disch := first | omega | (simp only [wkLen]; omega) | decide +kernel) only [↓wkPre, ↓wkPre2, ↓wkE, wkPost, wkDef, wkF, simprocAttr, e1, e2, e7, e9, e10, g1, g2, da]
            refine PS.app md_15 Try.func15 (p15 l (loL l k) (by omega) hr) rfl ?_
            rintro _ rfl
            rw [s1]
            simp -implicitDefEqProofs -dsimp (disch := first | omega | (simp only [wkLen]; omega) | decide +kernel) only [↓wkPre, ↓wkPre2, ↓wkE, wkPost, wkDef, wkF, simprocAttr, e1, e2, e7, e9, e10]
            refine PS.app md_15 Try.func15 (p15 l (hiL l k) (by omega) hr) rfl ?_
            rintro _ rfl
            rw [s2]
            simp -implicitDefEqProofs -dsimp (disch := first | omega | (simp only [wkLen]; omega) | decide +kernel) only [↓wkPre, ↓wkPre2, ↓wkE, wkPost, wkDef, wkF, simprocAttr, e1, e2, e7, e9, e10]
            refine PS.app md_10 Try.func10 (p10 l (by omega)) rfl ?_
            rintro _ rfl
            rcases Nat.lt_or_eq_of_le hkl with hlt | heq
            · have dk : ((k : Int) == ((l.length + 1 : Nat) : Int) - 1) = false := beq_eq_false_iff_ne.2 (by omega)
              have hw : IntKind.u32.wrap (hiL l k + 1) = loL l (k + 1) := by
                have h2 := lo_next hlt
                have h3 := (ends_ok hr hR (show k + 1 ≤ l.length by omega))
                unfold IntKind.wrap; simp [IntKind.signed, IntKind.bits]; omega
              simp -implicitDefEqProofs -dsimp (disch := first | omega | (simp only [wkLen]; omega) | decide +kernel) only [↓wkPre, ↓wkPre2, ↓wkE, wkPost, wkDef, wkF, simprocAttr, e1, e2, e7, e9, e10, dk, hw]
              exact ⟨l.length + 1 - (k + 1), by omega, k + 1, rfl, by omega, fun _ => rfl, by push_cast; rfl⟩
            · have dk : ((k : Int) == ((l.length + 1 : Nat) : Int) - 1) = true := beq_iff_eq.2 (by omega)
              have dh : (hiL l k == 4294967295) = true := by rw [heq, hi_last]; rfl
              simp -implicitDefEqProofs -dsimp (disch := first | omega | (simp only [wkLen]; omega) | decide +kernel) only [↓wkPre, ↓wkPre2, ↓wkE, wkPost, wkDef, wkF, simprocAttr, e1, e2, e7, e9, e10, dk, dh]
              exact ⟨l.length + 1 - (k + 1), by omega, k + 1, rfl, by omega, fun h => by omega, by push_cast; rfl⟩

          · have g1 := decide_eq_true q1
            have g2 := decide_eq_false q2
            simp -implicitDefEqProofs -dsimp (disch := first | omega | (simp only [wkLen]; omega) | decide +kernel) only [↓wkPre, ↓wkPre2, ↓wkE, wkPost, wkDef, wkF, simprocAttr, e1, e2, e7, e9, e10, g1, g2]
            refine PS.app md_15 Try.func15 (p15 l x (by omega) hr) rfl ?_
            rintro _ rfl
            have da : ((atL l x : Int) == (k : Int)) = false := by refine beq_eq_false_iff_ne.2 (fun e => q2 (s3.1 (by omega)).2)
            simp -implicitDefEqProofs -dsimp (disch := first | omega | (simp only [wkLen]; omega) | decide +kernel) only [↓wkPre, ↓wkPre2, ↓wkE, wkPost, wkDef, wkF, simprocAttr, e1, e2, e7, e9, e10, g1, g2, da]
            refine PS.app md_15 Try.func15 (p15 l (loL l k) (by omega) hr) rfl ?_
            rintro _ rfl
            rw [s1]
            simp -implicitDefEqProofs -dsimp (disch := first | omega | (simp only [wkLen]; omega) | decide +kernel) only [↓wkPre, ↓wkPre2, ↓wkE, wkPost, wkDef, wkF, simprocAttr, e1, e2, e7, e9, e10]
            refine PS.app md_15 Try.func15 (p15 l (hiL l k) (by omega) hr) rfl ?_
            rintro _ rfl
            rw [s2]
            simp -implicitDefEqProofs -dsimp (disch := first | omega | (simp only [wkLen]; omega) | decide +kernel) only [↓wkPre, ↓wkPre2, ↓wkE, wkPost, wkDef, wkF, simprocAttr, e1, e2, e7, e9, e10]
            refine PS.app md_10 Try.func10 (p10 l (by omega)) rfl ?_
            rintro _ rfl
            rcases Nat.lt_or_eq_of_le hkl with hlt | heq
            · have dk : ((k : Int) == ((l.length + 1 : Nat) : Int) - 1) = false := beq_eq_false_iff_ne.2 (by omega)
              have hw : IntKind.u32.wrap (hiL l k + 1) = loL l (k + 1) := by
                have h2 := lo_next hlt
                have h3 := (ends_ok hr hR (show k + 1 ≤ l.length by omega))
                unfold IntKind.wrap; simp [IntKind.signed, IntKind.bits]; omega
              simp -implicitDefEqProofs -dsimp (disch := first | omega | (simp only [wkLen]; omega) | decide +kernel) only [↓wkPre, ↓wkPre2, ↓wkE, wkPost, wkDef, wkF, simprocAttr, e1, e2, e7, e9, e10, dk, hw]
              exact ⟨l.length + 1 - (k + 1), by omega, k + 1, rfl, by omega, fun _ => rfl, by push_cast; rfl⟩
            · have dk : ((k : Int) == ((l.length + 1 : Nat) : Int) - 1) = true := beq_iff_eq.2 (by omega)
              have dh : (hiL l k == 4294967295) = true := by rw [heq, hi_last]; rfl
              exact absurd (by rw [heq, hi_last]; exact hx.2) q2

        · have g1 := decide_eq_false q1
          simp -implicitDefEqProofs -dsimp (disch := first | omega | (simp only [wkLen]; omega) | decide +kernel) only [↓wkPre, ↓wkPre2, ↓wkE, wkPost, wkDef, wkF, simprocAttr, e1, e2, e7, e9, e10, g1]
          refine PS.app md_15 Try.func15 (p15 l x (by omega) hr) rfl ?_
          rintro _ rfl
          have da : ((atL l x : Int) == (k : Int)) = false := by refine beq_eq_false_iff_ne.2 (fun e => q1 (s3.1 (by omega)).1)
          simp -implicitDefEqProofs -dsimp (disch := first | omega | (simp only [wkLen]; omega) | decide +kernel) only [↓wkPre, ↓wkPre2, ↓wkE, wkPost, wkDef, wkF, simprocAttr, e1, e2, e7, e9, e10, g1, da]
          refine PS.app md_15 Try.func15 (p15 l (loL l k) (by omega) hr) rfl ?_
          rintro _ rfl
          rw [s1]
          simp -implicitDefEqProofs -dsimp (disch := first | omega | (simp only [wkLen]; omega) | decide +kernel) only [↓wkPre, ↓wkPre2, ↓wkE, wkPost, wkDef, wkF, simprocAttr, e1, e2, e7, e9, e10]
          refine PS.app md_15 Try.func15 (p15 l (hiL l k) (by omega) hr) rfl ?_
          rintro _ rfl
          rw [s2]
          simp -implicitDefEqProofs -dsimp (disch := first | omega | (simp only [wkLen]; omega) | decide +kernel) only [↓wkPre, ↓wkPre2, ↓wkE, wkPost, wkDef, wkF, simprocAttr, e1, e2, e7, e9, e10]
          refine PS.app md_10 Try.func10 (p10 l (by omega)) rfl ?_
          rintro _ rfl
          rcases Nat.lt_or_eq_of_le hkl with hlt | heq
          · have dk : ((k : Int) == ((l.length + 1 : Nat) : Int) - 1) = false := beq_eq_false_iff_ne.2 (by omega)
            have hw : IntKind.u32.wrap (hiL l k + 1) = loL l (k + 1) := by
              have h2 := lo_next hlt
              have h3 := (ends_ok hr hR (show k + 1 ≤ l.length by omega))
              unfold IntKind.wrap; simp [IntKind.signed, IntKind.bits]; omega
            simp -implicitDefEqProofs -dsimp (disch := first | omega | (simp only [wkLen]; omega) | decide +kernel) only [↓wkPre, ↓wkPre2, ↓wkE, wkPost, wkDef, wkF, simprocAttr, e1, e2, e7, e9, e10, dk, hw]
            exact ⟨l.length + 1 - (k + 1), by omega, k + 1, rfl, by omega, fun _ => rfl, by push_cast; rfl⟩
          · have dk : ((k : Int) == ((l.length + 1 : Nat) : Int) - 1) = true := beq_iff_eq.2 (by omega)
            have dh : (hiL l k == 4294967295) = true := by rw [heq, hi_last]; rfl
            simp -implicitDefEqProofs -dsimp (disch := first | omega | (simp only [wkLen]; omega) | decide +kernel) only [↓wkPre, ↓wkPre2, ↓wkE, wkPost, wkDef, wkF, simprocAttr, e1, e2, e7, e9, e10, dk, dh]
            exact ⟨l.length + 1 - (k + 1), by omega, k + 1, rfl, by omega, fun h => by omega, by push_cast; rfl⟩


      · obtain rfl : k = l.length + 1 := by omega
        simp -implicitDefEqProofs -dsimp (disch := first | omega | (simp only [wkLen]; omega) | decide +kernel) only [↓wkPre, ↓wkPre2, ↓wkE, wkPost, wkDef, wkF, simprocAttr, e1, e2, e7, e10]
        refine PS.app md_10 Try.func10 (p10 l (by omega)) rfl ?_
        rintro _ rfl
        simp -implicitDefEqProofs -dsimp (disch := first | omega | (simp only [wkLen]; omega) | decide +kernel) only [↓wkPre, ↓wkPre2, ↓wkE, wkPost, wkDef, wkF, simprocAttr, e1, e2, e7, e10]
        refine PS.app md_17 Try.func17 (p17 l i (by omega) hR) rfl ?_
        rintro _ (⟨hno, rfl⟩ | ⟨h0, hl, rfl⟩)
        · by_cases hn : i < 0
          · simp -implicitDefEqProofs -dsimp (disch := first | omega | (simp only [wkLen]; omega) | decide +kernel) only [↓wkPre, ↓wkPre2, ↓wkE, wkPost, wkDef, wkF, simprocAttr, e1, e2, e7, e10, decide_eq_true hn]
            refine PS.app md_7 Try.func7 p7 rfl ?_
            rintro _ rfl
            simp -implicitDefEqProofs -dsimp (disch := first | omega | (simp only [wkLen]; omega) | decide +kernel) only [↓wkPre, ↓wkPre2, ↓wkE, wkPost, wkDef, wkF, simprocAttr]
          · have dg : decide (((l.length + 1 : Nat) : Int) ≤ i) = true := decide_eq_true (by omega)
            simp -implicitDefEqProofs -dsimp (disch := first | omega | (simp only [wkLen]; omega) | decide +kernel) only [↓wkPre, ↓wkPre2, ↓wkE, wkPost, wkDef, wkF, simprocAttr, e1, e2, e7, e10, decide_eq_false hn]
            refine PS.app md_10 Try.func10 (p10 l (by omega)) rfl ?_
            rintro _ rfl
            simp -implicitDefEqProofs -dsimp (disch := first | omega | (simp only [wkLen]; omega) | decide +kernel) only [↓wkPre, ↓wkPre2, ↓wkE, wkPost, wkDef, wkF, simprocAttr, e1, e2, e7, e10, dg]
            refine PS.app md_7 Try.func7 p7 rfl ?_
            rintro _ rfl
            simp -implicitDefEqProofs -dsimp (disch := first | omega | (simp only [wkLen]; omega) | decide +kernel) only [↓wkPre, ↓wkPre2, ↓wkE, wkPost, wkDef, wkF, simprocAttr]
        · obtain ⟨b1, b2, b3⟩ := ends_ok hr hR (show i.toNat ≤ l.length by omega)
          have dg : decide (((l.length + 1 : Nat) : Int) ≤ i) = false := decide_eq_false (by omega)
          have dl : decide (hiL l i.toNat < loL l i.toNat) = false := decide_eq_false (by omega)
          simp -implicitDefEqProofs -dsimp (disch := first | omega | (simp only [wkLen]; omega) | decide +kernel) only [↓wkPre, ↓wkPre2, ↓wkE, wkPost, wkDef, wkF, simprocAttr, e1, e2, e7, e10]
          refine PS.app md_10 Try.func10 (p10 l (by omega)) rfl ?_
          rintro _ rfl
          simp -implicitDefEqProofs -dsimp (disch := first | omega | (simp only [wkLen]; omega) | decide +kernel) only [↓wkPre, ↓wkPre2, ↓wkE, wkPost, wkDef, wkF, simprocAttr, e1, e2, e7, e10, dg, dl]
          refine PS.app md_7 Try.func7 p7 rfl ?_
          rintro _ rfl
          simp -implicitDefEqProofs -dsimp (disch := first | omega | (simp only [wkLen]; omega) | decide +kernel) only [↓wkPre, ↓wkPre2, ↓wkE, wkPost, wkDef, wkF, simprocAttr]
    · simp -implicitDefEqProofs -dsimp (disch := first | omega | (simp only [wkLen]; omega) | decide +kernel) only [↓wkPre, ↓wkPre2, ↓wkE, wkPost, wkDef, wkF, simprocAttr]
      intro _
      rw [lo_zero]
  · simp -implicitDefEqProofs -dsimp (disch := first | omega | (simp only [wkLen]; omega) | decide +kernel) only [↓wkPre, ↓wkPre2, ↓wkE, wkPost, wkDef, wkF, simprocAttr]
    refine PS.app md_7 Try.func7 p7 rfl ?_
    rintro _ rfl
    simp -implicitDefEqProofs -dsimp (disch := first | omega | (simp only [wkLen]; omega) | decide +kernel) only [↓wkPre, ↓wkPre2, ↓wkE, wkPost, wkDef, wkF, simprocAttr]
theorem u32_args {x : PV} (h : Tya (0, [Ty.sl 0 [Ty.int .u32]]) x) : ∃ l : List Int, x = es l ∧ l.length ≤ maxLen ∧ ∀ y ∈ l, 0 ≤ y ∧ y ≤ 4294967295 := by
  obtain ⟨xs, rfl, hl, h⟩ := Tyd_sl0 (Tya_one h)
  obtain ⟨l, rfl, hr⟩ := ints_list h
  exact ⟨l, rfl, by simpa using hl, fun y hy => by
    have := hr y hy
    simpa [IntKind.min, IntKind.max, IntKind.signed, IntKind.bits] using this⟩
theorem u32_one {x : PV} (h : Tya (0, [Ty.int .u32]) x) : ∃ n : Int, x = E n ∧ 0 ≤ n ∧ n ≤ 4294967295 := by
  obtain ⟨n, rfl, hr⟩ := Tya_one h
  exact ⟨n, rfl, by simpa [IntKind.min, IntKind.max, IntKind.signed, IntKind.bits] using hr⟩
theorem lawScaleEnds : ∀ xs, Tyas [(0, [Ty.sl 0 [Ty.int .u32]]), (0, [Ty.int .u32]), (0, [Ty.int .i64])] xs → (Ev.W Cf okf).call 4 (xs.map AV.p) [] fun v _ => v = .p (.bool true) := by
  intro xs h
  simp only [Tyas] at h
  obtain ⟨x1, r1, rfl, h1, x2, r2, rfl, h2, x3, r3, rfl, h3, rfl⟩ := h
  obtain ⟨l, rfl, _, hu⟩ := u32_args h1
  obtain ⟨x, rfl, hx⟩ := u32_one h2
  obtain ⟨i, rfl, _⟩ := Tya_one h3
  exact ends l x i hu hx
end Go.Ev.F15
end
