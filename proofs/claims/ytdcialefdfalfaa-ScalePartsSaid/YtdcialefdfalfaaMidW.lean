/- A part of the proof: walks of the functions that the law calls. No condition. -/
import Derived.Test.YtdcialefdfalfaaEndsW
set_option linter.all false
section
namespace Go.Ev.F15
open Go.Proofs Go.Ev Go.Sort
set_option maxRecDepth 100000
set_option linter.all false
theorem ltL_le (l : List Int) (x : Int) : ltL l x ≤ l.length := List.length_filter_le _ _
theorem p26 (l : List Int) (x : Int) (hl : l.length ≤ 1000000) : PS Cf okf 26 [3] [es l, E x] (fun r => r = I (ltL l x)) := by
  refine PS.mk extMono Try.func26 body26 (by decide) rfl ?_
  simp only [c26, Try.f26, Option.getD_some]
  have hul := esL_len l
  simp -implicitDefEqProofs -dsimp (disch := first | omega | (simp only [wkLen]; omega) | decide +kernel) only [↓wkPre, ↓wkPre2, ↓wkE, wkPost, wkDef, wkF, simprocAttr]
  refine loop_use extMono (fun m e H => ∃ i : Nat, m = l.length - i ∧ i ≤ l.length ∧ e 0 = .p (es l) ∧ e 1 = .p (E x) ∧ e 5 = .p (I (ltL (l.take i) x)) ∧ e 6 = .p (I i)) ?_ l.length _ _ ⟨0, rfl, by omega, ?_⟩
  · rintro m e H ⟨i, rfl, hi, e0, e1, e5, e6⟩
    have hb : ltL (l.take i) x ≤ l.length := Nat.le_trans (List.length_filter_le _ _) (by rw [List.length_take]; omega)
    rcases Nat.lt_or_ge i l.length with h | h
    · have gi := esL_get h
      have hs : ltL (l.take (i + 1)) x = ltL (l.take i) x + if l[i] < x then 1 else 0 := by
        unfold ltL
        rw [List.take_succ_eq_append_getElem h, List.filter_append, List.length_append]
        by_cases hx : l[i] < x <;> simp [hx]
      by_cases hx : l[i] < x
      · rw [if_pos hx] at hs
        simp -implicitDefEqProofs -dsimp (disch := first | omega | (simp only [wkLen]; omega) | decide +kernel) only [↓wkPre, ↓wkPre2, ↓wkE, wkPost, wkDef, wkF, simprocAttr, e0, e1, e5, e6, hul, gi, decide_eq_true hx]
        exact ⟨l.length - (i + 1), by omega, i + 1, rfl, by omega, by rw [hs]; push_cast; rfl, by push_cast; rfl⟩
      · rw [if_neg hx] at hs
        simp -implicitDefEqProofs -dsimp (disch := first | omega | (simp only [wkLen]; omega) | decide +kernel) only [↓wkPre, ↓wkPre2, ↓wkE, wkPost, wkDef, wkF, simprocAttr, e0, e1, e5, e6, hul, gi, decide_eq_false hx]
        exact ⟨l.length - (i + 1), by omega, i + 1, rfl, by omega, by rw [hs]; rfl, by push_cast; rfl⟩
    · obtain rfl : i = l.length := by omega
      rw [List.take_length] at e5
      simp -implicitDefEqProofs -dsimp (disch := first | omega | (simp only [wkLen]; omega) | decide +kernel) only [↓wkPre, ↓wkPre2, ↓wkE, wkPost, wkDef, wkF, simprocAttr, e0, e1, e5, e6, hul]
  · simp -implicitDefEqProofs -dsimp (disch := first | omega | (simp only [wkLen]; omega) | decide +kernel) only [↓wkPre, ↓wkPre2, ↓wkE, wkPost, wkDef, wkF, simprocAttr]
    rfl
def unL (l : List Int) (x : Int) : Nat := (2 * (ltL l x : Int) - l.length).natAbs
theorem p27 (l : List Int) (x : Int) (hl : l.length ≤ 1000000) : PS Cf okf 27 [3] [es l, E x] (fun r => r = I (unL l x)) := by
  refine PS.mk extMono Try.func27 body27 (by decide) rfl ?_
  simp only [c27, Try.f27, Option.getD_some]
  have hul := esL_len l
  have hle := ltL_le l x
  simp -implicitDefEqProofs -dsimp (disch := first | omega | (simp only [wkLen]; omega) | decide +kernel) only [↓wkPre, ↓wkPre2, ↓wkE, wkPost, wkDef, wkF, simprocAttr]
  refine PS.app md_26 Try.func26 (p26 l x hl) rfl ?_
  rintro _ rfl
  by_cases hn : 2 * (ltL l x : Int) - l.length < 0
  · have e : ((unL l x : Nat) : Int) = -(2 * (ltL l x : Int) - l.length) := by unfold unL; omega
    simp -implicitDefEqProofs -dsimp (disch := first | omega | (simp only [wkLen]; omega) | decide +kernel) only [↓wkPre, ↓wkPre2, ↓wkE, wkPost, wkDef, wkF, simprocAttr, hul, decide_eq_true hn]
    rw [e, Int.zero_sub]
  · have e : ((unL l x : Nat) : Int) = 2 * (ltL l x : Int) - l.length := by unfold unL; omega
    simp -implicitDefEqProofs -dsimp (disch := first | omega | (simp only [wkLen]; omega) | decide +kernel) only [↓wkPre, ↓wkPre2, ↓wkE, wkPost, wkDef, wkF, simprocAttr, hul, decide_eq_false hn]
    rw [e]
/-- A number by which others are cut: the candidates, and which of two is taken. -/
def Bet (l : List Int) (v w : Int) : Prop := unL l v < unL l w ∨ (unL l v = unL l w ∧ v ≤ w)
def MidS (l : List Int) (r : Option Int) : Prop := (r = none ∧ ∀ v ∈ l, ltL l v = 0) ∨ ∃ v, r = some v ∧ v ∈ l ∧ 0 < ltL l v ∧ ∀ w ∈ l, 0 < ltL l w → Bet l v w
def midP (r : Option Int) : PV := match r with | none => .tup [E 0, B false] | some v => .tup [E v, B true]
theorem MidS.uniq {l : List Int} {r s : Option Int} (h : MidS l r) (k : MidS l s) : r = s := by
  rcases h with ⟨rfl, h⟩ | ⟨v, rfl, h1, h2, h3⟩
  · rcases k with ⟨rfl, _⟩ | ⟨v, rfl, k1, k2, _⟩
    · rfl
    · have := h v k1; omega
  · rcases k with ⟨rfl, k⟩ | ⟨w, rfl, k1, k2, k3⟩
    · have := k v h1; omega
    · have a := h3 w k1 k2
      have b := k3 v h1 h2
      unfold Bet at a b
      have : v = w := by omega
      rw [this]
set_option maxHeartbeats 2000000 in
theorem p19 (l : List Int) (hl : l.length ≤ 1000000) : PS Cf okf 19 [23, 4] [es l] (fun r => ∃ m, r = midP m ∧ MidS l m) := by
  refine PS.mk extMono Try.func19 body19 (by decide) rfl ?_
  simp only [c19, Try.f19, Option.getD_some]
  have hul := esL_len l
  simp -implicitDefEqProofs -dsimp (disch := first | omega | (simp only [wkLen]; omega) | decide +kernel) only [↓wkPre, ↓wkPre2, ↓wkE, wkPost, wkDef, wkF, simprocAttr]
  refine loop_use extMono (fun m e H => ∃ i : Nat, m = l.length - i ∧ i ≤ l.length ∧ e 0 = .p (es l) ∧ e 5 = .p (I i) ∧
    ((e 4 = .p (I (-1)) ∧ ∀ w ∈ l.take i, ltL l w = 0) ∨ ∃ (k : Nat) (hk : k < l.length), e 4 = .p (I k) ∧ 0 < ltL l l[k] ∧ ∀ w ∈ l.take i, 0 < ltL l w → Bet l l[k] w)) ?_ l.length _ _ ⟨0, rfl, by omega, ?_⟩
  · rintro m e H ⟨i, rfl, hi, e0, e5, hbest⟩
    rcases Nat.lt_or_ge i l.length with h | h
    · have gi := esL_get h
      have hsn : ∀ w, w ∈ l.take (i + 1) ↔ w ∈ l.take i ∨ w = l[i] := fun w => by rw [List.take_succ_eq_append_getElem h, List.mem_append, List.mem_singleton]
      simp -implicitDefEqProofs -dsimp (disch := first | omega | (simp only [wkLen]; omega) | decide +kernel) only [↓wkPre, ↓wkPre2, ↓wkE, wkPost, wkDef, wkF, simprocAttr, e0, e5, hul, gi]
      refine PS.app md_26 Try.func26 (p26 l l[i] hl) rfl ?_
      rintro _ rfl
      by_cases hz : ltL l l[i] = 0
      · have dz : ((ltL l l[i] : Int) == 0) = true := beq_iff_eq.2 (by omega)
        simp -implicitDefEqProofs -dsimp (disch := first | omega | (simp only [wkLen]; omega) | decide +kernel) only [↓wkPre, ↓wkPre2, ↓wkE, wkPost, wkDef, wkF, simprocAttr, e0, e5, hul, gi, dz]
        refine ⟨l.length - (i + 1), by omega, i + 1, rfl, by omega, by push_cast; rfl, ?_⟩
        rcases hbest with ⟨e4, hb⟩ | ⟨k, hk, e4, hb1, hb2⟩
        · exact .inl ⟨e4, fun w hw => by rcases (hsn w).1 hw with h1 | rfl; exact hb w h1; exact hz⟩
        · exact .inr ⟨k, hk, e4, hb1, fun w hw hp => by rcases (hsn w).1 hw with h1 | rfl; exact hb2 w h1 hp; omega⟩
      · have dz : ((ltL l l[i] : Int) == 0) = false := beq_eq_false_iff_ne.2 (by omega)
        rcases hbest with ⟨e4, hb⟩ | ⟨k, hk, e4, hb1, hb2⟩
        · simp -implicitDefEqProofs -dsimp (disch := first | omega | (simp only [wkLen]; omega) | decide +kernel) only [↓wkPre, ↓wkPre2, ↓evC_region_st [6], ↓evC_text_st [6], ↓evC_cond, ↓evC_block, ↓evC_stop [6], wkPost, wkDef, wkF, simprocAttr, e0, e5, e4, hul, gi, dz]
          refine stop_pl pl_19_6 (by kernel_rfl) (by decide +kernel) ?_
          simp only [pl_19_6]
          simp -implicitDefEqProofs -dsimp (disch := first | omega | (simp only [wkLen]; omega) | decide +kernel) only [↓wkPre, ↓wkPre2, ↓wkE, wkPost, wkDef, wkF, simprocAttr, e0, e5, e4, hul, gi, dz]
          refine ⟨l.length - (i + 1), by omega, i + 1, rfl, by omega, by push_cast; rfl, .inr ⟨i, h, rfl, by omega, fun w hw hp => ?_⟩⟩
          rcases (hsn w).1 hw with h1 | rfl
          · have := hb w h1; omega
          · exact .inr ⟨rfl, Int.le_refl _⟩
        · have gk := esL_get hk
          simp -implicitDefEqProofs -dsimp (disch := first | omega | (simp only [wkLen]; omega) | decide +kernel) only [↓wkPre, ↓wkPre2, ↓evC_region_st [6], ↓evC_text_st [6], ↓evC_cond, ↓evC_block, ↓evC_stop [6], wkPost, wkDef, wkF, simprocAttr, e0, e5, e4, hul, gi, gk, dz]
          refine stop_pl pl_19_6 (by kernel_rfl) (by decide +kernel) ?_
          simp only [pl_19_6]
          simp -implicitDefEqProofs -dsimp (disch := first | omega | (simp only [wkLen]; omega) | decide +kernel) only [↓wkPre, ↓wkPre2, ↓wkE, wkPost, wkDef, wkF, simprocAttr, e0, e5, e4, hul, gi, gk, dz]
          refine PS.app md_27 Try.func27 (p27 l l[i] hl) rfl ?_
          rintro _ rfl
          simp -implicitDefEqProofs -dsimp (disch := first | omega | (simp only [wkLen]; omega) | decide +kernel) only [↓wkPre, ↓wkPre2, ↓wkE, wkPost, wkDef, wkF, simprocAttr, e0, e5, e4, hul, gi, gk, dz]
          refine PS.app md_27 Try.func27 (p27 l l[k] hl) rfl ?_
          rintro _ rfl
          have taken : ∀ (hlt : Bet l l[i] l[k]), ∀ w ∈ l.take (i + 1), 0 < ltL l w → Bet l l[i] w := fun hlt w hw hp => by
            rcases (hsn w).1 hw with h1 | rfl
            · have := hb2 w h1 hp
              unfold Bet at *
              omega
            · exact .inr ⟨rfl, Int.le_refl _⟩
          have kept : ∀ (hlt : Bet l l[k] l[i]), ∀ w ∈ l.take (i + 1), 0 < ltL l w → Bet l l[k] w := fun hlt w hw hp => by
            rcases (hsn w).1 hw with h1 | rfl
            · exact hb2 w h1 hp
            · exact hlt
          by_cases q1 : unL l l[i] < unL l l[k]
          · have d1 : decide (((unL l l[i] : Nat) : Int) < (unL l l[k] : Nat)) = true := decide_eq_true (by omega)
            simp -implicitDefEqProofs -dsimp (disch := first | omega | (simp only [wkLen]; omega) | decide +kernel) only [↓wkPre, ↓wkPre2, ↓wkE, wkPost, wkDef, wkF, simprocAttr, e0, e5, e4, hul, gi, gk, dz, d1]
            exact ⟨l.length - (i + 1), by omega, i + 1, rfl, by omega, by push_cast; rfl, .inr ⟨i, h, rfl, by omega, taken (.inl q1)⟩⟩
          · have d1 : decide (((unL l l[i] : Nat) : Int) < (unL l l[k] : Nat)) = false := decide_eq_false (by omega)
            simp -implicitDefEqProofs -dsimp (disch := first | omega | (simp only [wkLen]; omega) | decide +kernel) only [↓wkPre, ↓wkPre2, ↓wkE, wkPost, wkDef, wkF, simprocAttr, e0, e5, e4, hul, gi, gk, dz, d1]
            refine PS.app md_27 Try.func27 (p27 l l[i] hl) rfl ?_
            rintro _ rfl
            simp -implicitDefEqProofs -dsimp (disch := first | omega | (simp only [wkLen]; omega) | decide +kernel) only [↓wkPre, ↓wkPre2, ↓wkE, wkPost, wkDef, wkF, simprocAttr, e0, e5, e4, hul, gi, gk, dz, d1]
            refine PS.app md_27 Try.func27 (p27 l l[k] hl) rfl ?_
            rintro _ rfl
            by_cases q2 : unL l l[i] = unL l l[k]
            · have d2 : (((unL l l[i] : Nat) : Int) == (unL l l[k] : Nat)) = true := beq_iff_eq.2 (by omega)
              by_cases q3 : l[i] < l[k]
              · simp -implicitDefEqProofs -dsimp (disch := first | omega | (simp only [wkLen]; omega) | decide +kernel) only [↓wkPre, ↓wkPre2, ↓wkE, wkPost, wkDef, wkF, simprocAttr, e0, e5, e4, hul, gi, gk, dz, d1, d2, decide_eq_true q3]
                exact ⟨l.length - (i + 1), by omega, i + 1, rfl, by omega, by push_cast; rfl, .inr ⟨i, h, rfl, by omega, taken (.inr ⟨q2, by omega⟩)⟩⟩
              · simp -implicitDefEqProofs -dsimp (disch := first | omega | (simp only [wkLen]; omega) | decide +kernel) only [↓wkPre, ↓wkPre2, ↓wkE, wkPost, wkDef, wkF, simprocAttr, e0, e5, e4, hul, gi, gk, dz, d1, d2, decide_eq_false q3]
                exact ⟨l.length - (i + 1), by omega, i + 1, rfl, by omega, by push_cast; rfl, .inr ⟨k, hk, rfl, hb1, kept (.inr ⟨q2.symm, by omega⟩)⟩⟩
            · have d2 : (((unL l l[i] : Nat) : Int) == (unL l l[k] : Nat)) = false := beq_eq_false_iff_ne.2 (by omega)
              simp -implicitDefEqProofs -dsimp (disch := first | omega | (simp only [wkLen]; omega) | decide +kernel) only [↓wkPre, ↓wkPre2, ↓wkE, wkPost, wkDef, wkF, simprocAttr, e0, e5, e4, hul, gi, gk, dz, d1, d2]
              exact ⟨l.length - (i + 1), by omega, i + 1, rfl, by omega, by push_cast; rfl, .inr ⟨k, hk, rfl, hb1, kept (.inl (by omega))⟩⟩
    · obtain rfl : i = l.length := by omega
      rw [List.take_length] at hbest
      rcases hbest with ⟨e4, hb⟩ | ⟨k, hk, e4, hb1, hb2⟩
      · simp -implicitDefEqProofs -dsimp (disch := first | omega | (simp only [wkLen]; omega) | decide +kernel) only [↓wkPre, ↓wkPre2, ↓wkE, wkPost, wkDef, wkF, simprocAttr, e0, e5, e4, hul]
        exact ⟨none, rfl, .inl ⟨rfl, hb⟩⟩
      · have gk := esL_get hk
        simp -implicitDefEqProofs -dsimp (disch := first | omega | (simp only [wkLen]; omega) | decide +kernel) only [↓wkPre, ↓wkPre2, ↓wkE, wkPost, wkDef, wkF, simprocAttr, e0, e5, e4, hul, gk]
        exact ⟨some l[k], rfl, .inr ⟨_, rfl, List.getElem_mem hk, hb1, hb2⟩⟩
  · simp -implicitDefEqProofs -dsimp (disch := first | omega | (simp only [wkLen]; omega) | decide +kernel) only [↓wkPre, ↓wkPre2, ↓wkE, wkPost, wkDef, wkF, simprocAttr]
    simp
theorem esL_encA (l : List Int) : esL l = encA E l.toArray := by simp [esL, encA]
theorem wSortO (w : AV) (T : List Int) (H : Heap) (ho : OwnS H w 0 (esL T)) (hT : T.length < 50) (Q : AV → Heap → Prop)
    (hq : ∀ H', OwnS H' w 0 (esL (T.mergeSort (fun x y => !ltInt y x))) → Q (.p (.tup [])) H') : (W Cf okf).call 25 [w] H Q := by
  rcases ho with ⟨rfl, h0⟩ | ⟨b, g, rfl, hb⟩
  · have : T = [] := by simpa [esL] using h0
    subst this
    exact wSort0 H Q (hq H (by simpa [esL] using OwnS.nil H 0))
  · have hsz : (esL T).length = T.toArray.size := by rw [esL_len]; rfl
    rw [hsz]
    rw [esL_encA] at hb
    refine wSort b g false T.toArray H hb (by simpa using hT) Q fun H' d' hr hs hf => ?_
    have hl : d'.toList.length = T.length := by rw [hs]; simp
    rw [show T.toArray.toList = T from rfl] at hs
    rw [hsz] at hq
    refine hq H' (.inr ⟨b, g, ?_, ?_⟩)
    · rw [esL_len, ← hs, hl]; rfl
    · rw [← hs]
      have : esL d'.toList = encA E d' := by simp [esL, encA]
      rw [this]; exact hr
theorem lt_iffS {x : Int} : ∀ {l : List Int}, l.Pairwise (· ≤ ·) → ∀ (k : Nat) (h : k < l.length), k < ltL l x ↔ l[k] < x
  | [], _, k, h => by simp at h
  | a :: t, hr, k, h => by
    obtain ⟨h1, h2⟩ := List.pairwise_cons.1 hr
    by_cases ha : a < x
    · have e : ltL (a :: t) x = ltL t x + 1 := by simp [ltL, ha]
      rw [e]
      cases k with
      | zero => simp [ha]
      | succ k => simp only [List.length_cons] at h; rw [List.getElem_cons_succ, ← lt_iffS h2 k (by omega)]; omega
    · have e : ltL (a :: t) x = 0 := by
        unfold ltL
        rw [List.length_eq_zero_iff, List.filter_eq_nil_iff]
        intro b hb
        rcases List.mem_cons.1 hb with rfl | hb
        · simpa using ha
        · have := h1 b hb; simp; omega
      rw [e]
      refine ⟨fun h => by omega, fun hk => ?_⟩
      cases k with
      | zero => exact absurd hk ha
      | succ k =>
        simp only [List.length_cons] at h
        have := h1 _ (List.getElem_mem (show k < t.length by omega))
        rw [List.getElem_cons_succ] at hk
        omega
def dv (n j : Nat) : Nat := (2 * (j : Int) - n).natAbs
/-- What the loop over the sorted numbers keeps. -/
def Best (S : List Int) (i : Nat) (B D : Nat) : Prop :=
  (B = 0 ∧ D = S.length + 1 ∧ ∀ j (hj : j < S.length), 1 ≤ j → j < i → S[j] = S[j - 1]) ∨
  (0 < B ∧ B < i ∧ ∃ hB : B < S.length, S[B] ≠ S[B - 1] ∧ D = dv S.length B ∧ ∀ j (hj : j < S.length), 1 ≤ j → j < i → S[j] ≠ S[j - 1] → D < dv S.length j ∨ (D = dv S.length j ∧ B ≤ j))
theorem best_mid {l S : List Int} (hp : S.Perm l) (hs : S.Pairwise (· ≤ ·)) {B D : Nat} (h : Best S S.length B D) : MidS l (if hB : 0 < B ∧ B < S.length then some (S[B]'hB.2) else none) := by
  have hlen := hp.length_eq
  have hlt : ∀ x, ltL l x = ltL S x := fun x => by unfold ltL; exact (hp.filter _).length_eq.symm
  have le : ∀ i j (hi : i < S.length) (hj : j < S.length), i ≤ j → S[i] ≤ S[j] := fun i j hi hj hij => by
    rcases Nat.lt_or_eq_of_le hij with h1 | h1
    · exact List.pairwise_iff_getElem.1 hs i j hi hj h1
    · subst h1; exact Int.le_refl _
  have at_ : ∀ j (hj : j < S.length), 1 ≤ j → S[j] ≠ S[j - 1] → ltL S S[j] = j := fun j hj h1 hne => by
    have a := mt (lt_iffS (x := S[j]) hs j hj).1 (by omega)
    have b := (lt_iffS (x := S[j]) hs (j - 1) (by omega)).2 (by have := le (j - 1) j (by omega) hj (by omega); omega)
    omega
  have un : ∀ j (hj : j < S.length), 1 ≤ j → S[j] ≠ S[j - 1] → unL l S[j] = dv S.length j := fun j hj h1 hne => by
    unfold unL dv
    rw [hlt, at_ j hj h1 hne, ← hlen]
  have cand : ∀ w ∈ l, 0 < ltL l w → ∃ j, ∃ hj : j < S.length, 1 ≤ j ∧ S[j] ≠ S[j - 1] ∧ S[j] = w := fun w hw hpos => by
    rw [hlt] at hpos
    obtain ⟨m, hm, rfl⟩ := List.getElem_of_mem (hp.mem_iff.2 hw)
    have a := mt (lt_iffS (x := S[m]) hs m hm).1 (by omega)
    have hj : ltL S S[m] < S.length := by omega
    have b := mt (lt_iffS (x := S[m]) hs _ hj).2 (by omega)
    have c := (lt_iffS (x := S[m]) hs (ltL S S[m] - 1) (by omega)).1 (by omega)
    have d := le _ m hj hm (by omega)
    exact ⟨_, hj, by omega, by omega, by omega⟩
  rcases h with ⟨rfl, _, h⟩ | ⟨h0, _, hB, hne, rfl, h⟩
  · rw [dif_neg (by omega)]
    refine .inl ⟨rfl, fun v hv => ?_⟩
    rcases Nat.eq_zero_or_pos (ltL l v) with h1 | h1
    · exact h1
    · obtain ⟨j, hj, g1, g2, _⟩ := cand v hv h1
      exact absurd (h j hj g1 hj) g2
  · rw [dif_pos ⟨h0, hB⟩]
    refine .inr ⟨_, rfl, hp.mem_iff.1 (List.getElem_mem hB), by rw [hlt, at_ B hB h0 hne]; exact h0, fun w hw hpos => ?_⟩
    obtain ⟨j, hj, g1, g2, rfl⟩ := cand w hw hpos
    unfold Bet
    rw [un B hB h0 hne, un j hj g1 g2]
    rcases h j hj g1 hj g2 with h1 | ⟨h1, h2⟩
    · exact .inl h1
    · exact .inr ⟨h1, le B j hB hj h2⟩
theorem Best.eq {S : List Int} {k B D : Nat} (h : k + 1 < S.length) (q : S[k + 1] = S[k]) (hb : Best S (k + 1) B D) : Best S (k + 2) B D := by
  rcases hb with ⟨h0, h1, h2⟩ | ⟨h0, hBi, hB, h1, h2, h3⟩
  · refine .inl ⟨h0, h1, fun j hj g1 g2 => ?_⟩
    by_cases e : j = k + 1
    · subst e; exact q
    · exact h2 j hj g1 (by omega)
  · refine .inr ⟨h0, by omega, hB, h1, h2, fun j hj g1 g2 g3 => ?_⟩
    by_cases e : j = k + 1
    · subst e; exact absurd q g3
    · exact h3 j hj g1 (by omega) g3
theorem Best.new {S : List Int} {k B D : Nat} (h : k + 1 < S.length) (q : S[k + 1] ≠ S[k]) (hd : dv S.length (k + 1) < D) (hb : Best S (k + 1) B D) : Best S (k + 2) (k + 1) (dv S.length (k + 1)) := by
  refine .inr ⟨by omega, by omega, h, q, rfl, fun j hj g1 g2 g3 => ?_⟩
  by_cases e : j = k + 1
  · subst e; exact .inr ⟨rfl, Nat.le_refl _⟩
  · rcases hb with ⟨h0, h1, h2⟩ | ⟨h0, hBi, hB, h1, h2, h3⟩
    · exact absurd (h2 j hj g1 (by omega)) g3
    · have := h3 j hj g1 (by omega) g3
      left; omega
theorem Best.old {S : List Int} {k B D : Nat} (h : k + 1 < S.length) (q : S[k + 1] ≠ S[k]) (hd : ¬ dv S.length (k + 1) < D) (hb : Best S (k + 1) B D) : Best S (k + 2) B D := by
  rcases hb with ⟨h0, h1, h2⟩ | ⟨h0, hBi, hB, h1, h2, h3⟩
  · unfold dv at hd; omega
  · refine .inr ⟨h0, by omega, hB, h1, h2, fun j hj g1 g2 g3 => ?_⟩
    by_cases e : j = k + 1
    · subst e
      rcases Nat.lt_or_eq_of_le (Nat.not_lt.1 hd) with h4 | h4
      · exact .inl h4
      · exact .inr ⟨h4, by omega⟩
    · exact h3 j hj g1 (by omega) g3
set_option maxHeartbeats 2000000 in
theorem p18 (l : List Int) (hl : l.length < 50) : PS Cf okf 18 [23, 4] [es l] (fun r => ∃ m, r = midP m ∧ MidS l m) := by
  refine PS.mk extMono Try.func18 body18 (by decide) rfl ?_
  simp only [c18, Try.f18, Option.getD_some]
  simp -implicitDefEqProofs -dsimp (disch := first | omega | (simp only [wkLen]; omega) | decide +kernel) only [↓wkPre, ↓wkPre2, ↓wkE, wkPost, wkDef, wkF, simprocAttr]
  refine imp_call md_21 (w21 l _ (by omega) _ fun v H0 hown _ _ _ => ?_)
  simp -implicitDefEqProofs -dsimp (disch := first | omega | (simp only [wkLen]; omega) | decide +kernel) only [↓wkPre, ↓wkPre2, ↓wkE, wkPost, wkDef, wkF, simprocAttr]
  refine imp_call md_25 (wSortO v l H0 hown hl _ fun H1 hown1 => ?_)
  have hp : (l.mergeSort (fun x y => !ltInt y x)).Perm l := List.mergeSort_perm _ _
  have hs : (l.mergeSort (fun x y => !ltInt y x)).Pairwise (· ≤ ·) := by
    have := List.pairwise_mergeSort (le := fun x y : Int => !ltInt y x) (fun a b c h1 h2 => by simp [ltInt] at *; omega) (fun a b => by simp [ltInt]; omega) l
    exact this.imp (fun h => by simpa [ltInt] using h)
  generalize l.mergeSort (fun x y => !ltInt y x) = S at *
  have hlen := hp.length_eq
  have hul := esL_len S
  rcases hown1 with ⟨rfl, hx⟩ | ⟨b, g, rfl, hb⟩
  · have hS : S = [] := by cases S with | nil => rfl | cons => simp at hx
    subst hS
    simp -implicitDefEqProofs -dsimp (disch := first | omega | (simp only [wkLen]; omega) | decide +kernel) only [↓wkPre, ↓wkPre2, ↓wkE, wkPost, wkDef, wkF, simprocAttr]
    refine loop_use extMono (fun m e Hc => e 4 = .nsl ∧ e 5 = .p (I 0) ∧ e 7 = .p (I 1)) ?_ 0 _ _ ?_
    · rintro m e Hc ⟨e4, e5, e7⟩
      simp -implicitDefEqProofs -dsimp (disch := first | omega | (simp only [wkLen]; omega) | decide +kernel) only [↓wkPre, ↓wkPre2, ↓wkE, wkPost, wkDef, wkF, simprocAttr, e4, e5, e7]
      refine ⟨none, rfl, .inl ⟨rfl, fun v hv => ?_⟩⟩
      have : l = [] := List.eq_nil_of_length_eq_zero (by simp at hlen; omega)
      subst this
      cases hv
    · simp -implicitDefEqProofs -dsimp (disch := first | omega | (simp only [wkLen]; omega) | decide +kernel) only [↓wkPre, ↓wkPre2, ↓wkE, wkPost, wkDef, wkF, simprocAttr]
  · simp -implicitDefEqProofs -dsimp (disch := first | omega | (simp only [wkLen]; omega) | decide +kernel) only [↓wkPre, ↓wkPre2, ↓wkE, wkPost, wkDef, wkF, simprocAttr, hb, hul]
    refine loop_use extMono (fun m e Hc => ∃ (i B D : Nat), m = S.length + 1 - i ∧ 1 ≤ i ∧ (i ≤ S.length ∨ i = 1) ∧ e 4 = .ref b g 0 (esL S).length false ∧ e 5 = .p (I B) ∧ e 6 = .p (I D) ∧ e 7 = .p (I i) ∧ Best S i B D ∧ Hc[b]? = some (.arr true g 0 (esL S))) ?_ S.length _ _ ⟨1, 0, S.length + 1, by omega, by omega, .inr rfl, ?_⟩
    · rintro m e Hc ⟨i, B, D, rfl, hi1, hi2, e4, e5, e6, e7, hbest, hb⟩
      rcases Nat.lt_or_ge i S.length with h | h
      · obtain ⟨k, rfl⟩ : ∃ k, i = k + 1 := ⟨i - 1, by omega⟩
        have gi := esL_get h
        have gk := esL_get (show k < S.length by omega)
        have hk : ((k + 1 : Nat) : Int) - 1 = (k : Int) := by omega
        by_cases q : S[k + 1] = S[k]
        · have d : (S[k + 1] == S[k]) = true := by simp [q]
          simp -implicitDefEqProofs -dsimp (disch := first | omega | (simp only [wkLen]; omega) | decide +kernel) only [↓wkPre, ↓wkPre2, ↓wkE, wkPost, wkDef, wkF, simprocAttr, e4, e5, e6, e7, hb, hul, gi, gk, hk, d]
          exact ⟨S.length - (k + 1), by omega, k + 2, B, D, by omega, by omega, .inl (by omega), rfl, rfl, by push_cast; rfl, hbest.eq h q⟩
        · have d : (S[k + 1] == S[k]) = false := by simp [q]
          have hmax : intsMax [.p (.int .i64 (2 * ((k + 1 : Nat) : Int) - S.length)), .p (.int .i64 ((S.length : Int) - 2 * ((k + 1 : Nat) : Int)))] = some (IntKind.i64, ((dv S.length (k + 1) : Nat) : Int)) := by
            simp only [intsMax, if_true, Option.some.injEq, Prod.mk.injEq, true_and]
            unfold dv; omega
          by_cases hd : dv S.length (k + 1) < D
          · have dd : decide (((dv S.length (k + 1) : Nat) : Int) < (D : Int)) = true := decide_eq_true (by omega)
            simp -implicitDefEqProofs -dsimp (disch := first | omega | (simp only [wkLen]; omega) | decide +kernel) only [↓wkPre, ↓wkPre2, ↓wkE, wkPost, wkDef, wkF, simprocAttr, e4, e5, e6, e7, hb, hul, gi, gk, hk, d, hmax, dd]
            exact ⟨S.length - (k + 1), by omega, k + 2, k + 1, dv S.length (k + 1), by omega, by omega, .inl (by omega), rfl, rfl, by push_cast; rfl, hbest.new h q hd⟩
          · have dd : decide (((dv S.length (k + 1) : Nat) : Int) < (D : Int)) = false := decide_eq_false (by omega)
            simp -implicitDefEqProofs -dsimp (disch := first | omega | (simp only [wkLen]; omega) | decide +kernel) only [↓wkPre, ↓wkPre2, ↓wkE, wkPost, wkDef, wkF, simprocAttr, e4, e5, e6, e7, hb, hul, gi, gk, hk, d, hmax, dd]
            exact ⟨S.length - (k + 1), by omega, k + 2, B, D, by omega, by omega, .inl (by omega), rfl, rfl, by push_cast; rfl, hbest.old h q hd⟩
      · have hb2 : Best S S.length B D := by
          rcases hi2 with h1 | rfl
          · obtain rfl : i = S.length := by omega
            exact hbest
          · rcases hbest with ⟨g0, g1, _⟩ | ⟨g0, gi, gB, _⟩
            · exact .inl ⟨g0, g1, fun j hj h1 h2 => by omega⟩
            · omega
        have hm := best_mid hp hs hb2
        by_cases h0 : B = 0
        · have d0 : ((B : Int) == 0) = true := beq_iff_eq.2 (by omega)
          rw [dif_neg (by omega)] at hm
          simp -implicitDefEqProofs -dsimp (disch := first | omega | (simp only [wkLen]; omega) | decide +kernel) only [↓wkPre, ↓wkPre2, ↓wkE, wkPost, wkDef, wkF, simprocAttr, e4, e5, e6, e7, hb, hul, d0]
          exact ⟨none, rfl, hm⟩
        · have d0 : ((B : Int) == 0) = false := beq_eq_false_iff_ne.2 (by omega)
          have hB : B < S.length := by
            rcases hb2 with ⟨g0, _⟩ | ⟨_, _, gB, _⟩
            · omega
            · exact gB
          have gB := esL_get hB
          rw [dif_pos ⟨by omega, hB⟩] at hm
          simp -implicitDefEqProofs -dsimp (disch := first | omega | (simp only [wkLen]; omega) | decide +kernel) only [↓wkPre, ↓wkPre2, ↓wkE, wkPost, wkDef, wkF, simprocAttr, e4, e5, e6, e7, hb, hul, d0, gB]
          exact ⟨some S[B], rfl, hm⟩
    · simp -implicitDefEqProofs -dsimp (disch := first | omega | (simp only [wkLen]; omega) | decide +kernel) only [↓wkPre, ↓wkPre2, ↓wkE, wkPost, wkDef, wkF, simprocAttr]
      exact ⟨by rw [hul], by push_cast; rfl, .inl ⟨rfl, rfl, fun j hj h1 h2 => by omega⟩, hb⟩
end Go.Ev.F15
end
