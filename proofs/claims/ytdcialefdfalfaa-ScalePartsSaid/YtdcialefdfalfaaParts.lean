/- The law ScaleParts answers true for every input, and its arguments read as before. No condition: the whole of the given statement. -/
import Derived.Test.YtdcialefdfalfaaRows
import Derived.Test.YtdcialefdfalfaaCutsW
import Derived.Test.YtdcialefdfalfaaMidW
set_option linter.all false
section
namespace Go.Ev.F15
open Go.Proofs Go.Ev Go.Sort
set_option maxRecDepth 100000
set_option linter.all false
theorem atL_mono : ∀ (l : List Int) {x y : Int}, x ≤ y → atL l x ≤ atL l y
  | [], _, _, _ => Nat.le_refl _
  | a :: t, x, y, h => by
    have ih := atL_mono t h
    have e : ∀ z, atL (a :: t) z = atL t z + if a ≤ z then 1 else 0 := fun z => by
      unfold atL
      by_cases hz : a ≤ z <;> simp [hz]
    rw [e, e]
    by_cases h1 : a ≤ x
    · rw [if_pos h1, if_pos (by omega)]; omega
    · rw [if_neg h1]; omega
theorem atL_cut (l : List Int) (k : Nat) (v w : Int) : atL (l.take k ++ v :: l.drop k) w = atL l w + if v ≤ w then 1 else 0 := by
  have e : atL l w = atL (l.take k) w + atL (l.drop k) w := by
    unfold atL
    rw [← List.length_append, ← List.filter_append, List.take_append_drop]
  rw [e]
  unfold atL
  rw [List.filter_append, List.length_append]
  by_cases h : v ≤ w
  · rw [List.filter_cons_of_pos (by simpa using h), if_pos h, List.length_cons]; omega
  · rw [List.filter_cons_of_neg (by simpa using h), if_neg h]; omega
theorem cut_mid {l nums : List Int} (hg : Good l) (hn : ∀ y ∈ nums, 0 ≤ y ∧ y ≤ 4294967295) {k : Nat} (hk : ∀ y ∈ nums, atL l y = k) {v : Int} (hv : v ∈ nums) (hp : 0 < ltL nums v) :
    cutS l v = if 7 ≤ l.length then (l, 0, 6) else (l.take k ++ v :: l.drop k, k, 0) := by
  obtain ⟨u, hu, huv⟩ : ∃ u ∈ nums, u < v := by
    unfold ltL at hp
    obtain ⟨u, hu⟩ := List.exists_mem_of_length_pos hp
    have := List.mem_filter.1 hu
    exact ⟨u, this.1, by simpa using this.2⟩
  obtain ⟨h7, hr, hR⟩ := hg
  have hu0 := hn u hu
  have hv0 := hn v hv
  have hkl : k ≤ l.length := by rw [← hk v hv]; exact atL_le _ _
  have hno : ¬ (v = 0 ∨ v ∈ l) := by
    rw [← loL_iff hr hR v hv0.1, hk v hv]
    intro e
    have := (seg hr hkl hu0.1 hu0.2).1 (hk u hu)
    omega
  unfold cutS
  rw [if_neg hno, hk v hv]
theorem ltL_snoc {l : List Int} {i : Nat} (h : i < l.length) (v : Int) : ltL (l.take (i + 1)) v = ltL (l.take i) v + if l[i] < v then 1 else 0 := by
  unfold ltL
  rw [List.take_succ_eq_append_getElem h, List.filter_append, List.length_append]
  by_cases hx : l[i] < v <;> simp [hx]
set_option maxHeartbeats 4000000 in
theorem parts (l nums : List Int) (x : Int) (hu : ∀ y ∈ l, 0 ≤ y ∧ y ≤ 4294967295) (hn : ∀ y ∈ nums, 0 ≤ y ∧ y ≤ 4294967295) : (W Cf okf).call 6 [.p (es l), .p (es nums), .p (E x)] [] fun v _ => v = .p (.bool true) := by
  refine top_mk extMono Try.func6 body6 (by decide) rfl ?_
  simp only [c6, Try.f6, Option.getD_some, List.append_eq, List.cons_append, List.nil_append]
  have hul := esL_len l
  have hun := esL_len nums
  simp -implicitDefEqProofs -dsimp (disch := first | omega | (simp only [wkLen]; omega) | decide +kernel) only [↓wkPre, ↓wkPre2, ↓wkE, wkPost, wkDef, wkF, simprocAttr]
  refine PS.app md_8 Try.func8 (p8 l) rfl ?_
  rintro _ (⟨hri, rfl⟩ | ⟨hri, rfl⟩)
  rotate_left
  · simp -implicitDefEqProofs -dsimp (disch := first | omega | (simp only [wkLen]; omega) | decide +kernel) only [↓wkPre, ↓wkPre2, ↓wkE, wkPost, wkDef, wkF, simprocAttr]
    refine PS.app md_7 Try.func7 p7 rfl ?_
    rintro _ rfl
    simp -implicitDefEqProofs -dsimp (disch := first | omega | (simp only [wkLen]; omega) | decide +kernel) only [↓wkPre, ↓wkPre2, ↓wkE, wkPost, wkDef, wkF, simprocAttr]
  have hg : Good l := ⟨hri.1, hri.2.2, fun y hy => by have := hri.2.1 y hy; have := hu y hy; omega⟩
  obtain ⟨h7, hr, hR⟩ := id hg
  by_cases h1 : 40 < nums.length
  · simp -implicitDefEqProofs -dsimp (disch := first | omega | (simp only [wkLen]; omega) | decide +kernel) only [↓wkPre, ↓wkPre2, ↓wkE, wkPost, wkDef, wkF, simprocAttr, hun]
    refine PS.app md_7 Try.func7 p7 rfl ?_
    rintro _ rfl
    simp -implicitDefEqProofs -dsimp (disch := first | omega | (simp only [wkLen]; omega) | decide +kernel) only [↓wkPre, ↓wkPre2, ↓wkE, wkPost, wkDef, wkF, simprocAttr]
  by_cases h2 : nums.length = 0
  · have d2 : ((nums.length : Int) == 0) = true := beq_iff_eq.2 (by omega)
    simp -implicitDefEqProofs -dsimp (disch := first | omega | (simp only [wkLen]; omega) | decide +kernel) only [↓wkPre, ↓wkPre2, ↓wkE, wkPost, wkDef, wkF, simprocAttr, hun, d2]
    refine PS.app md_7 Try.func7 p7 rfl ?_
    rintro _ rfl
    simp -implicitDefEqProofs -dsimp (disch := first | omega | (simp only [wkLen]; omega) | decide +kernel) only [↓wkPre, ↓wkPre2, ↓wkE, wkPost, wkDef, wkF, simprocAttr]
  have d2 : ((nums.length : Int) == 0) = false := beq_eq_false_iff_ne.2 (by omega)
  have hn0 : 0 < nums.length := by omega
  have g0 := esL_get hn0
  simp -implicitDefEqProofs -dsimp (disch := first | omega | (simp only [wkLen]; omega) | decide +kernel) only [↓wkPre, ↓wkPre2, ↓wkE, wkPost, wkDef, wkF, simprocAttr, hun, d2, g0]
  refine PS.app md_15 Try.func15 (p15 l nums[0] (by omega) hr) rfl ?_
  rintro _ rfl
  have hkl := atL_le l nums[0]
  generalize hk0 : atL l nums[0] = k at *
  simp -implicitDefEqProofs -dsimp (disch := first | omega | (simp only [wkLen]; omega) | decide +kernel) only [↓wkPre, ↓wkPre2, ↓wkE, wkPost, wkDef, wkF, simprocAttr, hun, d2, g0]
  refine loop_use extMono (fun m e H => ∃ i : Nat, m = nums.length - i ∧ i ≤ nums.length ∧ e 0 = .p (es l) ∧ e 1 = .p (es nums) ∧ e 2 = .p (E x) ∧ e 7 = .vptr 0 0 ∧ e 9 = .p (I k) ∧ e 10 = .p (I i) ∧ H = [.var true (.p (sc l))] ∧ ∀ y ∈ nums.take i, atL l y = k) ?_ nums.length _ _ ⟨0, rfl, by omega, ?_⟩
  · rintro m e H ⟨i, rfl, hi, e0, e1, e2, e7, e9, e10, rfl, hall⟩
    rcases Nat.lt_or_ge i nums.length with h | h
    · have gi := esL_get h
      simp -implicitDefEqProofs -dsimp (disch := first | omega | (simp only [wkLen]; omega) | decide +kernel) only [↓wkPre, ↓wkPre2, ↓evC_region_st [8], ↓evC_text_st [8], ↓evC_cond, ↓evC_block, ↓evC_stop [8], wkPost, wkDef, wkF, simprocAttr, e0, e1, e2, e7, e9, e10, hun, gi]
      refine stop_pl pl_6_8 (by kernel_rfl) (by decide +kernel) ?_
      simp only [pl_6_8]
      simp -implicitDefEqProofs -dsimp (disch := first | omega | (simp only [wkLen]; omega) | decide +kernel) only [↓wkPre, ↓wkPre2, ↓wkE, wkPost, wkDef, wkF, simprocAttr, e0, e1, e2, e7, e9, e10, hun, gi]
      refine PS.app md_15 Try.func15 (p15 l nums[i] (by omega) hr) rfl ?_
      rintro _ rfl
      by_cases q : atL l nums[i] = k
      · have d : ((atL l nums[i] : Int) == (k : Int)) = true := beq_iff_eq.2 (by omega)
        simp -implicitDefEqProofs -dsimp (disch := first | omega | (simp only [wkLen]; omega) | decide +kernel) only [↓wkPre, ↓wkPre2, ↓wkE, wkPost, wkDef, wkF, simprocAttr, e0, e1, e2, e7, e9, e10, hun, gi, d]
        refine ⟨nums.length - (i + 1), by omega, i + 1, rfl, by omega, by push_cast; rfl, fun y hy => ?_⟩
        rw [List.take_succ_eq_append_getElem h] at hy
        rcases List.mem_append.1 hy with hy | hy
        · exact hall y hy
        · rw [List.mem_singleton.1 hy]; exact q
      · have d : ((atL l nums[i] : Int) == (k : Int)) = false := beq_eq_false_iff_ne.2 (by omega)
        simp -implicitDefEqProofs -dsimp (disch := first | omega | (simp only [wkLen]; omega) | decide +kernel) only [↓wkPre, ↓wkPre2, ↓wkE, wkPost, wkDef, wkF, simprocAttr, e0, e1, e2, e7, e9, e10, hun, gi, d]
        refine PS.app md_7 Try.func7 p7 rfl ?_
        rintro _ rfl
        simp -implicitDefEqProofs -dsimp (disch := first | omega | (simp only [wkLen]; omega) | decide +kernel) only [↓wkPre, ↓wkPre2, ↓wkE, wkPost, wkDef, wkF, simprocAttr]
    · obtain rfl : i = nums.length := by omega
      rw [List.take_length] at hall
      simp -implicitDefEqProofs -dsimp (disch := first | omega | (simp only [wkLen]; omega) | decide +kernel) only [↓wkPre, ↓wkPre2, ↓wkE, wkPost, wkDef, wkF, simprocAttr, e0, e1, e2, e7, e9, e10, hun]
      refine PS.app md_18 Try.func18 (p18 nums (by omega)) rfl ?_
      rintro _ ⟨m, rfl, ⟨rfl, hz⟩ | ⟨v, rfl, hv, hpos, _⟩⟩
      · simp -implicitDefEqProofs -dsimp (disch := first | omega | (simp only [wkLen]; omega) | decide +kernel) only [↓wkPre, ↓wkPre2, ↓wkE, wkPost, wkDef, wkF, simprocAttr, e0, e1, e2, e7, e9, e10, hun, midP]
        refine PS.app md_7 Try.func7 p7 rfl ?_
        rintro _ rfl
        simp -implicitDefEqProofs -dsimp (disch := first | omega | (simp only [wkLen]; omega) | decide +kernel) only [↓wkPre, ↓wkPre2, ↓wkE, wkPost, wkDef, wkF, simprocAttr]
      · have hcm := cut_mid hg hn hall hv hpos
        have hgc := cut_good hg (hn v hv)
        simp -implicitDefEqProofs -dsimp (disch := first | omega | (simp only [wkLen]; omega) | decide +kernel) only [↓wkPre, ↓wkPre2, ↓wkE, wkPost, wkDef, wkF, simprocAttr, e0, e1, e2, e7, e9, e10, hun, midP]
        refine PS.app md_11 Try.func11 (p11 l v h7 hr hR (hn v hv).1) rfl ?_
        rintro _ rfl
        by_cases h8 : 7 ≤ l.length
        · rw [hcm, if_pos h8]
          have d7 : ((l.length : Int) == 7) = true := beq_iff_eq.2 (by omega)
          simp -implicitDefEqProofs -dsimp (disch := first | omega | (simp only [wkLen]; omega) | decide +kernel) only [↓wkPre, ↓wkPre2, ↓wkE, wkPost, wkDef, wkF, simprocAttr, e0, e1, e2, e7, e9, e10, hun, hul, d7]
          refine PS.app md_7 Try.func7 p7 rfl ?_
          rintro _ rfl
          simp -implicitDefEqProofs -dsimp (disch := first | omega | (simp only [wkLen]; omega) | decide +kernel) only [↓wkPre, ↓wkPre2, ↓wkE, wkPost, wkDef, wkF, simprocAttr]
        · rw [hcm, if_neg h8] at hgc
          rw [hcm, if_neg h8]
          have hat := atL_cut l k v
          obtain ⟨c7, cr, _⟩ := hgc
          simp only at c7 cr
          generalize l.take k ++ v :: l.drop k = c at *
          simp -implicitDefEqProofs -dsimp (disch := first | omega | (simp only [wkLen]; omega) | decide +kernel) only [↓wkPre, ↓wkPre2, ↓wkE, wkPost, wkDef, wkF, simprocAttr, e0, e1, e2, e7, e9, e10, hun, hul]
          refine loop_use extMono (fun m e H => ∃ i : Nat, m = nums.length - i ∧ i ≤ nums.length ∧ e 0 = .p (es l) ∧ e 1 = .p (es nums) ∧ e 2 = .p (E x) ∧ e 7 = .vptr 0 0 ∧ e 9 = .p (I k) ∧ e 11 = .p (E v) ∧ e 13 = .vptr 1 0 ∧ e 14 = .p (I k) ∧ e 16 = .p (I (ltL (nums.take i) v)) ∧ e 17 = .p (I (i - ltL (nums.take i) v : Nat)) ∧ e 18 = .p (I i) ∧ H = [.var true (.p (sc l)), .var true (.p (sc c))]) ?_ nums.length _ _ ⟨0, rfl, by omega, ?_⟩
          · rintro m e H ⟨i, rfl, hi, e0, e1, e2, e7, e9, e11, e13, e14, e16, e17, e18, rfl⟩
            have hlb : ltL (nums.take i) v ≤ i := Nat.le_trans (ltL_le _ _) (by rw [List.length_take]; omega)
            rcases Nat.lt_or_ge i nums.length with h | h
            · have gi := esL_get h
              have hs := ltL_snoc h v
              have hw := hall nums[i] (List.getElem_mem h)
              have ha := hat nums[i]
              rw [hw] at ha
              by_cases q : nums[i] < v
              · rw [if_neg (by omega)] at ha
                rw [if_pos q] at hs
                have d : ((atL c nums[i] : Int) == (k : Int)) = true := beq_iff_eq.2 (by omega)
                have d' : ((atL c nums[i] : Int) == (k : Int) + 1) = false := beq_eq_false_iff_ne.2 (by omega)
                simp -implicitDefEqProofs -dsimp (disch := first | omega | (simp only [wkLen]; omega) | decide +kernel) only [↓wkPre, ↓wkPre2, ↓evC_region_st [20], ↓evC_text_st [20], ↓evC_cond, ↓evC_block, ↓evC_stop [20], wkPost, wkDef, wkF, simprocAttr, e0, e1, e2, e7, e9, e11, e13, e14, e16, e17, e18, hun, hul, gi]
                refine stop_pl pl_6_20 (by kernel_rfl) (by decide +kernel) ?_
                simp only [pl_6_20]
                simp -implicitDefEqProofs -dsimp (disch := first | omega | (simp only [wkLen]; omega) | decide +kernel) only [↓wkPre, ↓wkPre2, ↓wkE, wkPost, wkDef, wkF, simprocAttr, e0, e1, e2, e7, e9, e11, e13, e14, e16, e17, e18, hun, hul, gi]
                refine PS.app md_15 Try.func15 (p15 c nums[i] (by omega) cr) rfl ?_
                rintro _ rfl
                simp -implicitDefEqProofs -dsimp (disch := first | omega | (simp only [wkLen]; omega) | decide +kernel) only [↓wkPre, ↓wkPre2, ↓evC_region_st [22], ↓evC_text_st [22], ↓evC_cond, ↓evC_block, ↓evC_stop [22], wkPost, wkDef, wkF, simprocAttr, e0, e1, e2, e7, e9, e11, e13, e14, e16, e17, e18, hun, hul, gi, d]
                refine stop_pl pl_6_22 (by kernel_rfl) (by decide +kernel) ?_
                simp only [pl_6_22]
                simp -implicitDefEqProofs -dsimp (disch := first | omega | (simp only [wkLen]; omega) | decide +kernel) only [↓wkPre, ↓wkPre2, ↓wkE, wkPost, wkDef, wkF, simprocAttr, e0, e1, e2, e7, e9, e11, e13, e14, e16, e17, e18, hun, hul, gi]
                refine PS.app md_15 Try.func15 (p15 c nums[i] (by omega) cr) rfl ?_
                rintro _ rfl
                simp -implicitDefEqProofs -dsimp (disch := first | omega | (simp only [wkLen]; omega) | decide +kernel) only [↓wkPre, ↓wkPre2, ↓wkE, wkPost, wkDef, wkF, simprocAttr, e0, e1, e2, e7, e9, e11, e13, e14, e16, e17, e18, hun, hul, gi, d']
                exact ⟨nums.length - (i + 1), by omega, i + 1, rfl, by omega, by rw [hs]; push_cast; rfl, by rw [hs, show i + 1 - (ltL (nums.take i) v + 1) = i - ltL (nums.take i) v by omega], by push_cast; rfl⟩
              · rw [if_pos (by omega)] at ha
                rw [if_neg q] at hs
                have d : ((atL c nums[i] : Int) == (k : Int)) = false := beq_eq_false_iff_ne.2 (by omega)
                have d' : ((atL c nums[i] : Int) == (k : Int) + 1) = true := beq_iff_eq.2 (by omega)
                simp -implicitDefEqProofs -dsimp (disch := first | omega | (simp only [wkLen]; omega) | decide +kernel) only [↓wkPre, ↓wkPre2, ↓evC_region_st [20], ↓evC_text_st [20], ↓evC_cond, ↓evC_block, ↓evC_stop [20], wkPost, wkDef, wkF, simprocAttr, e0, e1, e2, e7, e9, e11, e13, e14, e16, e17, e18, hun, hul, gi]
                refine stop_pl pl_6_20 (by kernel_rfl) (by decide +kernel) ?_
                simp only [pl_6_20]
                simp -implicitDefEqProofs -dsimp (disch := first | omega | (simp only [wkLen]; omega) | decide +kernel) only [↓wkPre, ↓wkPre2, ↓wkE, wkPost, wkDef, wkF, simprocAttr, e0, e1, e2, e7, e9, e11, e13, e14, e16, e17, e18, hun, hul, gi]
                refine PS.app md_15 Try.func15 (p15 c nums[i] (by omega) cr) rfl ?_
                rintro _ rfl
                simp -implicitDefEqProofs -dsimp (disch := first | omega | (simp only [wkLen]; omega) | decide +kernel) only [↓wkPre, ↓wkPre2, ↓evC_region_st [22], ↓evC_text_st [22], ↓evC_cond, ↓evC_block, ↓evC_stop [22], wkPost, wkDef, wkF, simprocAttr, e0, e1, e2, e7, e9, e11, e13, e14, e16, e17, e18, hun, hul, gi, d]
                refine stop_pl pl_6_22 (by kernel_rfl) (by decide +kernel) ?_
                simp only [pl_6_22]
                simp -implicitDefEqProofs -dsimp (disch := first | omega | (simp only [wkLen]; omega) | decide +kernel) only [↓wkPre, ↓wkPre2, ↓wkE, wkPost, wkDef, wkF, simprocAttr, e0, e1, e2, e7, e9, e11, e13, e14, e16, e17, e18, hun, hul, gi]
                refine PS.app md_15 Try.func15 (p15 c nums[i] (by omega) cr) rfl ?_
                rintro _ rfl
                simp -implicitDefEqProofs -dsimp (disch := first | omega | (simp only [wkLen]; omega) | decide +kernel) only [↓wkPre, ↓wkPre2, ↓wkE, wkPost, wkDef, wkF, simprocAttr, e0, e1, e2, e7, e9, e11, e13, e14, e16, e17, e18, hun, hul, gi, d']
                exact ⟨nums.length - (i + 1), by omega, i + 1, rfl, by omega, by rw [hs]; rfl, by rw [hs, show i + 1 - (ltL (nums.take i) v + 0) = i - ltL (nums.take i) v + 1 by omega]; push_cast; rfl, by push_cast; rfl⟩
            · obtain rfl : i = nums.length := by omega
              rw [List.take_length] at e16 e17 hlb
              have hlt : ltL nums v < nums.length := by
                unfold ltL
                exact List.length_filter_lt_length_iff_exists.2 ⟨v, hv, by simp⟩
              have hax := hat x
              have hkv : atL l v = k := hall v hv
              simp -implicitDefEqProofs -dsimp (disch := first | omega | (simp only [wkLen]; omega) | decide +kernel) only [↓wkPre, ↓wkPre2, ↓wkE, wkPost, wkDef, wkF, simprocAttr, e0, e1, e2, e7, e9, e11, e13, e14, e16, e17, e18, hun, hul]
              refine PS.app md_15 Try.func15 (p15 l x (by omega) hr) rfl ?_
              rintro _ rfl
              have hxb := atL_le l x
              have f1 : (((ltL nums v : Nat) : Int) + ((nums.length - ltL nums v : Nat) : Int) == (nums.length : Int)) = true := beq_iff_eq.2 (by omega)
              have f2 : decide ((0 : Int) < (ltL nums v : Nat)) = true := decide_eq_true (by omega)
              have f3 : decide ((0 : Int) < (nums.length - ltL nums v : Nat)) = true := decide_eq_true (by omega)
              have f4 : ((k : Int) == (k : Int)) = true := beq_iff_eq.2 rfl
              rcases Nat.lt_trichotomy k (atL l x) with q | q | q
              · have hvx : v ≤ x := Int.not_lt.1 fun hlt => by have := atL_mono l (show x ≤ v by omega); omega
                rw [if_pos hvx] at hax
                have d1 : decide ((k : Int) < (atL l x : Nat)) = true := decide_eq_true (by omega)
                have d9 : (((atL c x : Nat) : Int) == ((atL l x : Nat) : Int) + 1) = true := beq_iff_eq.2 (by omega)
                simp -implicitDefEqProofs -dsimp (disch := first | omega | (simp only [wkLen]; omega) | decide +kernel) only [↓wkPre, ↓wkPre2, ↓wkE, wkPost, wkDef, wkF, simprocAttr, e0, e1, e2, e7, e9, e11, e13, e14, e16, e17, e18, hun, hul, f1, f2, f3, f4, d1, d9]
                refine PS.app md_15 Try.func15 (p15 c x (by omega) cr) rfl ?_
                rintro _ rfl
                simp -implicitDefEqProofs -dsimp (disch := first | omega | (simp only [wkLen]; omega) | decide +kernel) only [↓wkPre, ↓wkPre2, ↓wkE, wkPost, wkDef, wkF, simprocAttr, e0, e1, e2, e7, e9, e11, e13, e14, e16, e17, e18, hun, hul, f1, f2, f3, f4, d1, d9]
                refine PS.app md_7 Try.func7 p7 rfl ?_
                rintro _ rfl
                simp -implicitDefEqProofs -dsimp (disch := first | omega | (simp only [wkLen]; omega) | decide +kernel) only [↓wkPre, ↓wkPre2, ↓wkE, wkPost, wkDef, wkF, simprocAttr]

              · have d1 : decide ((k : Int) < (atL l x : Nat)) = false := decide_eq_false (by omega)
                have d2 : (((atL l x : Nat) : Int) == (k : Int)) = true := beq_iff_eq.2 (by omega)
                by_cases hvx : v ≤ x
                · rw [if_pos hvx] at hax
                  have d9 : (((atL c x : Nat) : Int) == ((atL l x : Nat) : Int) + 1) = true := beq_iff_eq.2 (by omega)
                  simp -implicitDefEqProofs -dsimp (disch := first | omega | (simp only [wkLen]; omega) | decide +kernel) only [↓wkPre, ↓wkPre2, ↓wkE, wkPost, wkDef, wkF, simprocAttr, e0, e1, e2, e7, e9, e11, e13, e14, e16, e17, e18, hun, hul, f1, f2, f3, f4, d1, d2, d9, decide_eq_true hvx]
                  refine PS.app md_15 Try.func15 (p15 c x (by omega) cr) rfl ?_
                  rintro _ rfl
                  simp -implicitDefEqProofs -dsimp (disch := first | omega | (simp only [wkLen]; omega) | decide +kernel) only [↓wkPre, ↓wkPre2, ↓wkE, wkPost, wkDef, wkF, simprocAttr, e0, e1, e2, e7, e9, e11, e13, e14, e16, e17, e18, hun, hul, f1, f2, f3, f4, d1, d2, d9, decide_eq_true hvx]
                  refine PS.app md_7 Try.func7 p7 rfl ?_
                  rintro _ rfl
                  simp -implicitDefEqProofs -dsimp (disch := first | omega | (simp only [wkLen]; omega) | decide +kernel) only [↓wkPre, ↓wkPre2, ↓wkE, wkPost, wkDef, wkF, simprocAttr]

                · rw [if_neg hvx] at hax
                  have d9 : (((atL c x : Nat) : Int) == ((atL l x : Nat) : Int)) = true := beq_iff_eq.2 (by omega)
                  simp -implicitDefEqProofs -dsimp (disch := first | omega | (simp only [wkLen]; omega) | decide +kernel) only [↓wkPre, ↓wkPre2, ↓wkE, wkPost, wkDef, wkF, simprocAttr, e0, e1, e2, e7, e9, e11, e13, e14, e16, e17, e18, hun, hul, f1, f2, f3, f4, d1, d2, d9, decide_eq_false hvx]
                  refine PS.app md_15 Try.func15 (p15 c x (by omega) cr) rfl ?_
                  rintro _ rfl
                  simp -implicitDefEqProofs -dsimp (disch := first | omega | (simp only [wkLen]; omega) | decide +kernel) only [↓wkPre, ↓wkPre2, ↓wkE, wkPost, wkDef, wkF, simprocAttr, e0, e1, e2, e7, e9, e11, e13, e14, e16, e17, e18, hun, hul, f1, f2, f3, f4, d1, d2, d9, decide_eq_false hvx]
                  refine PS.app md_7 Try.func7 p7 rfl ?_
                  rintro _ rfl
                  simp -implicitDefEqProofs -dsimp (disch := first | omega | (simp only [wkLen]; omega) | decide +kernel) only [↓wkPre, ↓wkPre2, ↓wkE, wkPost, wkDef, wkF, simprocAttr]

              · have hvx : ¬ v ≤ x := fun hle => by have := atL_mono l hle; omega
                rw [if_neg hvx] at hax
                have d1 : decide ((k : Int) < (atL l x : Nat)) = false := decide_eq_false (by omega)
                have d2 : (((atL l x : Nat) : Int) == (k : Int)) = false := beq_eq_false_iff_ne.2 (by omega)
                have d9 : (((atL c x : Nat) : Int) == ((atL l x : Nat) : Int)) = true := beq_iff_eq.2 (by omega)
                simp -implicitDefEqProofs -dsimp (disch := first | omega | (simp only [wkLen]; omega) | decide +kernel) only [↓wkPre, ↓wkPre2, ↓wkE, wkPost, wkDef, wkF, simprocAttr, e0, e1, e2, e7, e9, e11, e13, e14, e16, e17, e18, hun, hul, f1, f2, f3, f4, d1, d2, d9]
                refine PS.app md_15 Try.func15 (p15 c x (by omega) cr) rfl ?_
                rintro _ rfl
                simp -implicitDefEqProofs -dsimp (disch := first | omega | (simp only [wkLen]; omega) | decide +kernel) only [↓wkPre, ↓wkPre2, ↓wkE, wkPost, wkDef, wkF, simprocAttr, e0, e1, e2, e7, e9, e11, e13, e14, e16, e17, e18, hun, hul, f1, f2, f3, f4, d1, d2, d9]
                refine PS.app md_7 Try.func7 p7 rfl ?_
                rintro _ rfl
                simp -implicitDefEqProofs -dsimp (disch := first | omega | (simp only [wkLen]; omega) | decide +kernel) only [↓wkPre, ↓wkPre2, ↓wkE, wkPost, wkDef, wkF, simprocAttr]

          · simp -implicitDefEqProofs -dsimp (disch := first | omega | (simp only [wkLen]; omega) | decide +kernel) only [↓wkPre, ↓wkPre2, ↓wkE, wkPost, wkDef, wkF, simprocAttr, e0, e1, e2, e7, e9]
            exact ⟨rfl, rfl⟩

  · simp -implicitDefEqProofs -dsimp (disch := first | omega | (simp only [wkLen]; omega) | decide +kernel) only [↓wkPre, ↓wkPre2, ↓wkE, wkPost, wkDef, wkF, simprocAttr]
    simp
theorem lawScaleParts : ∀ xs, Tyas [(0, [Ty.sl 0 [Ty.int .u32]]), (0, [Ty.sl 0 [Ty.int .u32]]), (0, [Ty.int .u32])] xs → (Ev.W Cf okf).call 6 (xs.map AV.p) [] fun v _ => v = .p (.bool true) := by
  intro xs h
  simp only [Tyas] at h
  obtain ⟨x1, r1, rfl, h1, x2, r2, rfl, h2, x3, r3, rfl, h3, rfl⟩ := h
  obtain ⟨l, rfl, _, hu⟩ := u32_args h1
  obtain ⟨m, rfl, _, hm⟩ := u32_args h2
  obtain ⟨x, rfl, _⟩ := u32_one h3
  exact parts l m x hu hm
end Go.Ev.F15
end
section
namespace Go.Proofs.Ytdcialefdfalfaa
open Go.Ev Go.Ev.F15
set_option maxRecDepth 100000
theorem own : ownKnob Try.prog.godebug = Option.none := by kernel_rfl
theorem laidOut : laidOutB Try.prog = true := by kernel_rfl
theorem tyScaleParts : Try.f6.params.toList.mapM (tyA Try.prog 8) = some [(0, [Ty.sl 0 [Ty.int .u32]]), (0, [Ty.sl 0 [Ty.int .u32]]), (0, [Ty.int .u32])] := by kernel_rfl
theorem scaleParts_lifted (os : Os) (started : os.Started) (H : Type) (enc : TypeId × Value → H) :
    ReturnsInHanded {} Try.checked os 6 .any (Rows.scalePartsSpec.pre6 enc Try.prog Try.f6 Rows.scalePartsRow.domain false) (Rows.scalePartsSpec.post enc Try.prog Try.f6 false true false false) := by
  refine returnsInHanded_of_change (C := Try.checked) own started (by kernel_rfl) Try.func6
    (ChangeSpec.witness6 (enc := enc) (C := Try.checked) false ⟨#[], #[.slice Option.none 0 0, .slice Option.none 0 0, .int .u32 0], []⟩ 8 (by kernel_rfl) (by kernel_rfl) (by kernel_rfl) (by kernel_rfl)) ?_
  intro W base args ds gs before hval hW _ _
  refine law_calls (C := Cf) extOK extMono okfOK (fn := Try.f6) laidOut (by decide +kernel) (s := Rows.scalePartsSpec) rfl ?_ tyScaleParts (bt := 4) (by kernel_rfl) und_4 lawScaleParts hval hW
  intro H ds h
  match ds, h with
  | [_, _, _], _ => rfl
theorem scaleParts_holds : Rows.ScalePartsSaid :=
  OpenClaim.holds_of_wide 6 Try.f6 rfl rfl rfl rfl rfl rfl rfl ⟨rfl, rfl, rfl, rfl, rfl⟩ rfl rfl rfl rfl rfl (by kernel_rfl) Try.func6 (by kernel_rfl)
    (of_decide_eq_true (by kernel_rfl)) (by unfold Func.isWrapper; rw [if_neg (by decide +kernel)]; exact ⟨rfl, rfl⟩)
    (fun os started H enc _ => scaleParts_lifted os started H enc)
end Go.Proofs.Ytdcialefdfalfaa
#print axioms Go.Proofs.Ytdcialefdfalfaa.scaleParts_holds
end
