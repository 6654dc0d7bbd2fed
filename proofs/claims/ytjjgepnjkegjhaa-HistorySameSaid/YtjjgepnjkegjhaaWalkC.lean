/- A part of the proof: walks of the functions that the law calls. No condition. -/
import Derived.Test.YtjjgepnjkegjhaaWalkB
set_option linter.all false
section
namespace Go.Ev.F23
open Go.Proofs Go.Ev Go.Sort
set_option maxRecDepth 100000
set_option linter.all false
/-- A slice of accesses that is read. -/
def AF (H : Heap) (v : AV) (l : List Acc) : Prop := (v = .nsl ∧ l = []) ∨ v = .p (acs l) ∨ ∃ b g ex lv, v = .ref b g 0 l.length ex ∧ H[b]? = some (.arr lv g 3 (aL l))
theorem AF.ge {H H' : Heap} {v : AV} {l : List Acc} (h : AF H v l) (k : GE H H') : AF H' v l := by
  rcases h with h | h | ⟨b, g, ex, lv, h1, h2⟩
  · exact .inl h
  · exact .inr (.inl h)
  · exact .inr (.inr ⟨b, g, ex, lv, h1, k.at h2⟩)
theorem AF.own {H : Heap} {v : AV} {l : List Acc} (h : OwnS H v 3 (aL l)) : AF H v l := by
  rcases h with ⟨h1, h2⟩ | ⟨b, g, h1, h2⟩
  · exact .inl ⟨h1, by simpa [aL] using h2⟩
  · exact .inr (.inr ⟨b, g, false, true, by rw [aL_len] at h1; exact h1, h2⟩)
/-- What a closure over a box says. -/
def Says (f : FuncId) (ca : Nat) (a : Acc) (p : Acc → Bool) : Prop := ∀ (x : Acc) (H : Heap) (t : Bool) (Q : AV → Heap → Prop), H[ca]? = some (.var t (.p (EA a))) → (∀ H', GE H H' → Q (.p (B (p x))) H') → (W Cf okf).call f [.p (EA x), .vptr ca 0] H Q
theorem w39 (ca : Nat) (a : Acc) : Says 39 ca a (fun x => x.2.1 == a.2.1) := by
  intro x H t Q hc hq
  refine top_mk extMono Try.func39 body39 (by decide) rfl ?_
  simp only [c39, Try.f39, Option.getD_some]
  have hl := (List.getElem?_eq_some_iff.1 hc).1
  simp -implicitDefEqProofs -dsimp (disch := first | omega | (simp only [wkLen]; omega) | decide +kernel) only [↓wkPre, ↓wkPre2, ↓wkE, wkPost, wkDef, wkF, simprocAttr, hc]
  exact hq _ (GE.app _ _)
theorem w42 (ca : Nat) (a : Acc) : Says 42 ca a (fun x => x.1 == a.1) := by
  intro x H t Q hc hq
  refine top_mk extMono Try.func42 body42 (by decide) rfl ?_
  simp only [c42, Try.f42, Option.getD_some]
  have hl := (List.getElem?_eq_some_iff.1 hc).1
  simp -implicitDefEqProofs -dsimp (disch := first | omega | (simp only [wkLen]; omega) | decide +kernel) only [↓wkPre, ↓wkPre2, ↓wkE, wkPost, wkDef, wkF, simprocAttr, hc]
  exact hq _ (GE.app _ _)
theorem w48 {f : FuncId} {ca : Nat} {a : Acc} {p : Acc → Bool} (hm : Cf.md f = .imp) (hs : Says f ca a p) {t : Bool} {v : AV} {l : List Acc} {H : Heap} (hc : H[ca]? = some (.var t (.p (EA a)))) (h0 : AF H v l) (hl : l.length ≤ 1000000) (Q : AV → Heap → Prop)
    (hq : ∀ (r : Int) H', GE H H' → decide (0 ≤ r) = l.any p → Q (.p (I r)) H') : (W Cf okf).call 48 [v, .fn f [.vptr ca 0]] H Q := by
  refine top_mk extMono Try.func48 body48 (by decide) rfl ?_
  simp only [c48, Try.f48, Option.getD_some]
  have hul := aL_len l
  rcases h0 with ⟨rfl, rfl⟩ | rfl | ⟨b, g, ex, lv, rfl, hb⟩
  · simp -implicitDefEqProofs -dsimp (disch := first | omega | (simp only [wkLen]; omega) | decide +kernel) only [↓wkPre, ↓wkPre2, ↓wkE, wkPost, wkDef, wkF, simprocAttr]
    refine loop_use extMono (fun m e Hc => Hc = H ∧ e 7 = .p (I 0) ∧ e 8 = .p (I 0)) ?_ 0 _ _ ⟨rfl, ?_⟩
    · rintro m e Hc ⟨rfl, e7, e8⟩
      simp -implicitDefEqProofs -dsimp (disch := first | omega | (simp only [wkLen]; omega) | decide +kernel) only [↓wkPre, ↓wkPre2, ↓wkE, wkPost, wkDef, wkF, simprocAttr, e7, e8]
      exact hq _ _ (GE.refl _) rfl
    · simp -implicitDefEqProofs -dsimp (disch := first | omega | (simp only [wkLen]; omega) | decide +kernel) only [↓wkPre, ↓wkPre2, ↓wkE, wkPost, wkDef, wkF, simprocAttr]
  · simp -implicitDefEqProofs -dsimp (disch := first | omega | (simp only [wkLen]; omega) | decide +kernel) only [↓wkPre, ↓wkPre2, ↓wkE, wkPost, wkDef, wkF, simprocAttr]
    refine loop_use extMono (fun m e Hc => ∃ i : Nat, m = l.length - i ∧ i ≤ l.length ∧ GE H Hc ∧ e 0 = .p (acs l) ∧ e 1 = .fn f [.vptr ca 0] ∧ e 7 = .p (I l.length) ∧ e 8 = .p (I i) ∧ l.any p = (l.drop i).any p) ?_ l.length _ _ ⟨0, rfl, by omega, GE.refl _, ?_⟩
    · rintro m e Hc ⟨i, rfl, hi, hge, e0, e1, e7, e8, hn⟩
      rcases Nat.lt_or_ge i l.length with h | h
      · have gi := aL_get h
        rw [List.drop_eq_getElem_cons h, List.any_cons] at hn
        simp -implicitDefEqProofs -dsimp (disch := first | omega | (simp only [wkLen]; omega) | decide +kernel) only [↓wkPre, ↓wkPre2, ↓wkE, wkPost, wkDef, wkF, simprocAttr, e0, e1, e7, e8, hul, gi]
        refine imp_call hm (hs l[i] Hc t _ (hge.at hc) fun H' hg' => ?_)
        cases hp : p l[i]
        · simp -implicitDefEqProofs -dsimp (disch := first | omega | (simp only [wkLen]; omega) | decide +kernel) only [↓wkPre, ↓wkPre2, ↓wkE, wkPost, wkDef, wkF, simprocAttr, e0, e1, e7, e8]
          exact ⟨l.length - (i + 1), by omega, i + 1, rfl, by omega, hge.trans hg', by push_cast; rfl, by rw [hn, hp]; rfl⟩
        · simp -implicitDefEqProofs -dsimp (disch := first | omega | (simp only [wkLen]; omega) | decide +kernel) only [↓wkPre, ↓wkPre2, ↓wkE, wkPost, wkDef, wkF, simprocAttr, e0, e1, e7, e8]
          refine hq _ _ (hge.trans hg') ?_
          rw [hn, hp]
          simp
      · obtain rfl : i = l.length := by omega
        rw [List.drop_length] at hn
        simp -implicitDefEqProofs -dsimp (disch := first | omega | (simp only [wkLen]; omega) | decide +kernel) only [↓wkPre, ↓wkPre2, ↓wkE, wkPost, wkDef, wkF, simprocAttr, e0, e1, e7, e8]
        exact hq _ _ hge (by rw [hn]; rfl)
    · simp -implicitDefEqProofs -dsimp (disch := first | omega | (simp only [wkLen]; omega) | decide +kernel) only [↓wkPre, ↓wkPre2, ↓wkE, wkPost, wkDef, wkF, simprocAttr]
      rw [hul]
  · simp -implicitDefEqProofs -dsimp (disch := first | omega | (simp only [wkLen]; omega) | decide +kernel) only [↓wkPre, ↓wkPre2, ↓wkE, wkPost, wkDef, wkF, simprocAttr]
    refine loop_use extMono (fun m e Hc => ∃ i : Nat, m = l.length - i ∧ i ≤ l.length ∧ GE H Hc ∧ e 0 = .ref b g 0 l.length ex ∧ e 1 = .fn f [.vptr ca 0] ∧ e 7 = .p (I l.length) ∧ e 8 = .p (I i) ∧ l.any p = (l.drop i).any p) ?_ l.length _ _ ⟨0, rfl, by omega, GE.refl _, ?_⟩
    · rintro m e Hc ⟨i, rfl, hi, hge, e0, e1, e7, e8, hn⟩
      rcases Nat.lt_or_ge i l.length with h | h
      · have gi := aL_get h
        have hb2 := hge.at hb
        rw [List.drop_eq_getElem_cons h, List.any_cons] at hn
        simp -implicitDefEqProofs -dsimp (disch := first | omega | (simp only [wkLen]; omega) | decide +kernel) only [↓wkPre, ↓wkPre2, ↓wkE, wkPost, wkDef, wkF, simprocAttr, e0, e1, e7, e8, hul, gi, hb2]
        refine imp_call hm (hs l[i] Hc t _ (hge.at hc) fun H' hg' => ?_)
        cases hp : p l[i]
        · simp -implicitDefEqProofs -dsimp (disch := first | omega | (simp only [wkLen]; omega) | decide +kernel) only [↓wkPre, ↓wkPre2, ↓wkE, wkPost, wkDef, wkF, simprocAttr, e0, e1, e7, e8]
          exact ⟨l.length - (i + 1), by omega, i + 1, rfl, by omega, hge.trans hg', by push_cast; rfl, by rw [hn, hp]; rfl⟩
        · simp -implicitDefEqProofs -dsimp (disch := first | omega | (simp only [wkLen]; omega) | decide +kernel) only [↓wkPre, ↓wkPre2, ↓wkE, wkPost, wkDef, wkF, simprocAttr, e0, e1, e7, e8]
          refine hq _ _ (hge.trans hg') ?_
          rw [hn, hp]
          simp
      · obtain rfl : i = l.length := by omega
        rw [List.drop_length] at hn
        simp -implicitDefEqProofs -dsimp (disch := first | omega | (simp only [wkLen]; omega) | decide +kernel) only [↓wkPre, ↓wkPre2, ↓wkE, wkPost, wkDef, wkF, simprocAttr, e0, e1, e7, e8]
        exact hq _ _ hge (by rw [hn]; rfl)
    · simp -implicitDefEqProofs -dsimp (disch := first | omega | (simp only [wkLen]; omega) | decide +kernel) only [↓wkPre, ↓wkPre2, ↓wkE, wkPost, wkDef, wkF, simprocAttr]
theorem w38 {f : FuncId} {ca : Nat} {a : Acc} {p : Acc → Bool} (hm : Cf.md f = .imp) (hs : Says f ca a p) {t : Bool} {v : AV} {l : List Acc} {H : Heap} (hc : H[ca]? = some (.var t (.p (EA a)))) (h0 : AF H v l) (hl : l.length ≤ 1000000) (Q : AV → Heap → Prop)
    (hq : ∀ H', GE H H' → Q (.p (B (l.any p))) H') : (W Cf okf).call 38 [v, .fn f [.vptr ca 0]] H Q := by
  refine top_mk extMono Try.func38 body38 (by decide) rfl ?_
  simp only [c38, Try.f38, Option.getD_some]
  have fin : ∀ (r : Int) H', GE H H' → decide (0 ≤ r) = l.any p → Q (.p (B (decide (0 ≤ r)))) H' := fun r H' h1 h2 => by rw [h2]; exact hq H' h1
  simp -implicitDefEqProofs -dsimp (disch := first | omega | (simp only [wkLen]; omega) | decide +kernel) only [↓wkPre, ↓wkPre2, ↓wkE, wkPost, wkDef, wkF, simprocAttr]
  refine imp_call md_48 (w48 hm hs hc h0 hl _ fun r H' hg hr => ?_)
  simp -implicitDefEqProofs -dsimp (disch := first | omega | (simp only [wkLen]; omega) | decide +kernel) only [↓wkPre, ↓wkPre2, ↓wkE, wkPost, wkDef, wkF, simprocAttr]
  exact fin r H' hg hr
/-- Who wrote each key last, from behind. -/
def lstS (out : List Acc) (a : Acc) : List Acc := if a.2.2 && !out.any (fun x => x.2.1 == a.2.1) then out ++ [a] else out
def lstR (l : List Acc) : Nat → List Acc → List Acc
  | 0, out => out
  | n + 1, out => lstR l n (lstS out l[n]!)
theorem lstR_len (l : List Acc) : ∀ n out, (lstR l n out).length ≤ out.length + n
  | 0, out => Nat.le_refl _
  | n + 1, out => by
    have := lstR_len l n (lstS out l[n]!)
    have h2 : (lstS out l[n]!).length ≤ out.length + 1 := by unfold lstS; split <;> simp
    rw [lstR]; omega
theorem p18 (l : List Acc) (hl : l.length ≤ 1000) : PS Cf okf 18 [24] [acs l] (fun r => ∃ ys : List Acc, r = acs ys ∧ ys.Perm (lstR l l.length []) ∧ ∀ i j, i < j → j < ys.length → ltA ys[j]! ys[i]! = false) := by
  refine PS.mk extMono Try.func18 body18 (by decide) rfl ?_
  simp only [c18, Try.f18, Option.getD_some]
  have hul := aL_len l
  have hrl := lstR_len l l.length []
  simp -implicitDefEqProofs -dsimp (disch := first | omega | (simp only [wkLen]; omega) | decide +kernel) only [↓wkPre, ↓wkPre2, ↓wkE, wkPost, wkDef, wkF, simprocAttr, hul]
  refine loop_use extMono (fun m e Hc => ∃ (n : Nat) (w : AV) (out : List Acc), m = n ∧ n ≤ l.length ∧ out.length ≤ l.length - n ∧ e 0 = .p (acs l) ∧ e 4 = .p (I ((n : Int) - 1)) ∧ e 3 = w ∧ OwnS Hc w 3 (aL out) ∧ lstR l l.length [] = lstR l n out) ?_ l.length _ _ ⟨l.length, .nsl, [], rfl, by omega, by simp, ?_⟩
  · rintro m e Hc ⟨n, w, out, rfl, hn, hol, e0, e4, e3, hown, hR⟩
    cases m with
    | zero =>
      rw [lstR] at hR
      subst hR
      simp -implicitDefEqProofs -dsimp (disch := first | omega | (simp only [wkLen]; omega) | decide +kernel) only [↓wkPre, ↓wkPre2, ↓wkE, wkPost, wkDef, wkF, simprocAttr, e0, e4, e3]
      refine ext_call md_40 ?_
      rcases hown with ⟨rfl, hx0⟩ | ⟨b, g, rfl, hb⟩
      · have hr0 : lstR l l.length [] = [] := by simpa [aL] using hx0
        refine .inl ⟨rfl, ?_⟩
        simp -implicitDefEqProofs -dsimp (disch := first | omega | (simp only [wkLen]; omega) | decide +kernel) only [↓wkPre, ↓wkPre2, ↓wkE, wkPost, wkDef, wkF, simprocAttr, e0, e4, e3]
        exact ⟨[], rfl, by rw [hr0], fun i j _ h => by simp at h⟩
      · rw [aL_len] at e3 ⊢
        refine .inr ⟨b, g, false, lstR l l.length [], hb, by simp at hrl; omega, rfl, fun ys hp hs => ?_⟩
        have hyl := hp.length_eq
        rw [← hyl] at e3
        have hbl := (List.getElem?_eq_some_iff.1 hb).1
        have hfz : frzN Try.prog (Hc.set b (.arr true g 3 (aL ys))) 4 24 (.ref b g 0 ys.length false) = some (acs ys) := by
          rw [frzN_ref, hs_set hbl]
          simp [aL_len, List.take_of_length_le]
        have hfz2 : frzN Try.prog (Hc.set b (.arr true g 3 (ys.map EA))) 4 24 (.ref b g 0 ys.length false) = some (acs ys) := hfz
        simp -implicitDefEqProofs -dsimp (disch := first | omega | (simp only [wkLen]; omega) | decide +kernel) only [↓wkPre, ↓wkPre2, ↓wkE, wkPost, wkDef, wkF, simprocAttr, e0, e4, e3]
        rw [hfz2]
        exact ⟨ys, rfl, hp, hs⟩
    | succ n =>
      have h : n < l.length := by omega
      have gi := aL_get h
      have hg : l[n]! = l[n] := getElem!_pos l n h
      rw [show ((n + 1 : Nat) : Int) - 1 = (n : Int) by omega] at e4
      rw [lstR, hg] at hR
      have hbx : (Hc ++ [Blk.var true (.p (EA l[n]))])[Hc.length]? = some (.var true (.p (EA l[n]))) := by simp
      cases hw : l[n].2.2
      · have hS : lstS out l[n] = out := by simp [lstS, hw]
        rw [hS] at hR
        simp -implicitDefEqProofs -dsimp (disch := first | omega | (simp only [wkLen]; omega) | decide +kernel) only [↓wkPre, ↓wkPre2, ↓wkE, wkPost, wkDef, wkF, simprocAttr, e0, e4, e3, hul, gi, hw]
        exact ⟨n, by omega, n, w, out, rfl, by omega, by omega, rfl, rfl, hown.app _, hR⟩
      · simp -implicitDefEqProofs -dsimp (disch := first | omega | (simp only [wkLen]; omega) | decide +kernel) only [↓wkPre, ↓wkPre2, ↓wkE, wkPost, wkDef, wkF, simprocAttr, e0, e4, e3, hul, gi, hw]
        have hEA : EA l[n] = .agg [.int .i64 l[n].1, .int .u64 l[n].2.1, .bool true] := by simp [EA, hw]
        refine imp_call md_38 (w38 (p := fun x => x.2.1 == l[n].2.1) md_39 (w39 Hc.length l[n]) (t := true) (by rw [← hEA]; exact hbx) (AF.own (hown.app _)) (by omega) _ fun H1 hg1 => ?_)
        have hb1 : H1[Hc.length]? = some (.var true (.p (EA l[n]))) := hg1.at (by rw [← hEA]; exact hbx)
        have hown1 : OwnS H1 w 3 (aL out) := hown.keep fun c hc => by
          have := hown.lt c hc
          rw [hg1.2 c (by simp; omega), hs_app this]
        cases hany : out.any (fun x => x.2.1 == l[n].2.1)
        · have hS : lstS out l[n] = out ++ [l[n]] := by simp [lstS, hw, hany]
          rw [hS] at hR
          simp -implicitDefEqProofs -dsimp (disch := first | omega | (simp only [wkLen]; omega) | decide +kernel) only [↓wkPre, ↓wkPre2, ↓wkE, wkPost, wkDef, wkF, simprocAttr, e0, e4, e3, hany, hb1]
          refine append_step telem_24 (elems_new rfl rfl) (by simp) (hown1.app _) ?_ ?_
          · rw [byt_45, aL_len]; simp; omega
          intro w' H' hown' hfr hle hb'
          simp -implicitDefEqProofs -dsimp (disch := first | omega | (simp only [wkLen]; omega) | decide +kernel) only [↓wkPre, ↓wkPre2, ↓wkE, wkPost, wkDef, wkF, simprocAttr, e0, e4, e3]
          refine ⟨n, by omega, n, w', out ++ [l[n]], rfl, by omega, by simp; omega, rfl, rfl, ?_, hR⟩
          rw [aL_snoc]; exact hown'
        · have hS : lstS out l[n] = out := by simp [lstS, hany]
          rw [hS] at hR
          simp -implicitDefEqProofs -dsimp (disch := first | omega | (simp only [wkLen]; omega) | decide +kernel) only [↓wkPre, ↓wkPre2, ↓wkE, wkPost, wkDef, wkF, simprocAttr, e0, e4, e3, hany]
          exact ⟨n, by omega, n, w, out, rfl, by omega, by omega, rfl, rfl, hown1, hR⟩
  · simp -implicitDefEqProofs -dsimp (disch := first | omega | (simp only [wkLen]; omega) | decide +kernel) only [↓wkPre, ↓wkPre2, ↓wkE, wkPost, wkDef, wkF, simprocAttr]
    exact OwnS.nil _ _
/-- Whether nobody touches what is not done. -/
def st1 (a : Acc) : List Acc → Bool
  | [] => true
  | b :: t => ((b.1 == a.1 || b.2.1 != a.2.1) || !t.any (fun x => x.1 == a.1)) && st1 a t
def stB : List Acc → Bool
  | [] => true
  | a :: t => (!a.2.2 || st1 a t) && stB t
theorem p21 (l : List Acc) (hl : l.length ≤ 1000) : PS Cf okf 21 [4] [acs l] (fun r => r = B (stB l)) := by
  refine PS.mk extMono Try.func21 body21 (by decide) rfl ?_
  simp only [c21, Try.f21, Option.getD_some]
  have hul := aL_len l
  simp -implicitDefEqProofs -dsimp (disch := first | omega | (simp only [wkLen]; omega) | decide +kernel) only [↓wkPre, ↓wkPre2, ↓wkE, wkPost, wkDef, wkF, simprocAttr]
  refine loop_use extMono (fun m e Hc => ∃ i : Nat, m = l.length - i ∧ i ≤ l.length ∧ e 0 = .p (acs l) ∧ e 6 = .p (acs l) ∧ e 7 = .p (I l.length) ∧ e 8 = .p (I i) ∧ stB l = stB (l.drop i)) ?_ l.length _ _ ⟨0, rfl, by omega, ?_⟩
  · rintro m e Hc ⟨i, rfl, hi, e0, e6, e7, e8, hR⟩
    rcases Nat.lt_or_ge i l.length with h | h
    · have gi := aL_get h
      rw [List.drop_eq_getElem_cons h, stB] at hR
      simp -implicitDefEqProofs -dsimp (disch := first | omega | (simp only [wkLen]; omega) | decide +kernel) only [↓wkPre, ↓wkPre2, ↓wkE, wkPost, wkDef, wkF, simprocAttr, e0, e6, e7, e8, hul, gi]
      refine loop_use extMono (fun m e Hc => ∃ k c : Nat, m = l.length - k ∧ i < k ∧ k ≤ l.length ∧ e 0 = .p (acs l) ∧ e 6 = .p (acs l) ∧ e 7 = .p (I l.length) ∧ e 8 = .p (I i) ∧ e 4 = .vptr c 0 ∧ e 5 = .p (I k) ∧ Hc[c]? = some (.var true (.p (EA l[i]))) ∧ (l[i].2.2 = true → st1 l[i] (l.drop (i + 1)) = st1 l[i] (l.drop k))) ?_ (l.length - (i + 1)) _ _ ⟨i + 1, Hc.length, rfl, by omega, by omega, ?_⟩
      · rintro m e Hc ⟨k, c, rfl, hik, hk, e0, e6, e7, e8, e4, e5, hc, hS⟩
        have hcl := (List.getElem?_eq_some_iff.1 hc).1
        cases hw : l[i].2.2
        · rw [hw] at hR
          simp -implicitDefEqProofs -dsimp (disch := first | omega | (simp only [wkLen]; omega) | decide +kernel) only [↓wkPre, ↓wkPre2, ↓wkE, wkPost, wkDef, wkF, simprocAttr, e0, e6, e7, e8, e4, e5, hul, hc, hw]
          exact ⟨l.length - (i + 1), by omega, i + 1, rfl, by omega, by push_cast; rfl, by rw [hR]; rfl⟩
        · have hS := hS hw
          rw [hw, hS] at hR
          have hEA : EA l[i] = .agg [.int .i64 l[i].1, .int .u64 l[i].2.1, .bool true] := by simp [EA, hw]
          rcases Nat.lt_or_ge k l.length with h2 | h2
          · have gk := aL_get h2
            rw [List.drop_eq_getElem_cons h2, st1] at hS hR
            have next : ((l[k].1 == l[i].1 || l[k].2.1 != l[i].2.1) || !(l.drop (k + 1)).any (fun x => x.1 == l[i].1)) = true → st1 l[i] (l.drop (i + 1)) = st1 l[i] (l.drop (k + 1)) := fun h9 => by rw [hS, h9, Bool.true_and]
            cases h1 : (l[k].1 == l[i].1)
            · cases h3 : (l[k].2.1 == l[i].2.1)
              · simp -implicitDefEqProofs -dsimp (disch := first | omega | (simp only [wkLen]; omega) | decide +kernel) only [↓wkPre, ↓wkPre2, ↓wkE, wkPost, wkDef, wkF, simprocAttr, e0, e6, e7, e8, e4, e5, hul, hc, hw, gk, h1, h3]
                exact ⟨l.length - (k + 1), by omega, k + 1, c, rfl, by omega, by omega, rfl, by push_cast; rfl, hc, fun _ => next (by simp [bne, h3])⟩
              · simp -implicitDefEqProofs -dsimp (disch := first | omega | (simp only [wkLen]; omega) | decide +kernel) only [↓wkPre, ↓wkPre2, ↓wkE, wkPost, wkDef, wkF, simprocAttr, e0, e6, e7, e8, e4, e5, hul, hc, hw, gk, h1, h3]
                have hx : List.drop ((k : Int) + 1).toNat (List.take l.length (aL l)) = aL (l.drop (k + 1)) := by rw [show ((k : Int) + 1).toNat = k + 1 by omega, ← hul, List.take_length, aL_drop]
                rw [hx]
                refine imp_call md_38 (w38 (p := fun x => x.1 == l[i].1) md_42 (w42 c l[i]) hc (.inr (.inl rfl)) (by simp; omega) _ fun H1 hg1 => ?_)
                cases hany : (l.drop (k + 1)).any (fun x => x.1 == l[i].1)
                · simp -implicitDefEqProofs -dsimp (disch := first | omega | (simp only [wkLen]; omega) | decide +kernel) only [↓wkPre, ↓wkPre2, ↓wkE, wkPost, wkDef, wkF, simprocAttr, e0, e6, e7, e8, e4, e5, hany]
                  exact ⟨l.length - (k + 1), by omega, k + 1, c, rfl, by omega, by omega, rfl, by push_cast; rfl, hg1.at hc, fun _ => next (by rw [hany]; simp)⟩
                · simp -implicitDefEqProofs -dsimp (disch := first | omega | (simp only [wkLen]; omega) | decide +kernel) only [↓wkPre, ↓wkPre2, ↓wkE, wkPost, wkDef, wkF, simprocAttr, e0, e6, e7, e8, e4, e5, hany]
                  rw [hR, h1, hany]
                  simp [bne, h3]
            · simp -implicitDefEqProofs -dsimp (disch := first | omega | (simp only [wkLen]; omega) | decide +kernel) only [↓wkPre, ↓wkPre2, ↓wkE, wkPost, wkDef, wkF, simprocAttr, e0, e6, e7, e8, e4, e5, hul, hc, hw, gk, h1]
              exact ⟨l.length - (k + 1), by omega, k + 1, c, rfl, by omega, by omega, rfl, by push_cast; rfl, hc, fun _ => next (by simp [h1])⟩
          · obtain rfl : k = l.length := by omega
            rw [List.drop_length] at hR
            simp -implicitDefEqProofs -dsimp (disch := first | omega | (simp only [wkLen]; omega) | decide +kernel) only [↓wkPre, ↓wkPre2, ↓wkE, wkPost, wkDef, wkF, simprocAttr, e0, e6, e7, e8, e4, e5, hul, hc, hw]
            exact ⟨l.length - (i + 1), by omega, i + 1, rfl, by omega, by push_cast; rfl, by rw [hR]; rfl⟩
      · simp -implicitDefEqProofs -dsimp (disch := first | omega | (simp only [wkLen]; omega) | decide +kernel) only [↓wkPre, ↓wkPre2, ↓wkE, wkPost, wkDef, wkF, simprocAttr]
        exact ⟨e0, e6, e7, e8, by push_cast; rfl, fun _ => trivial⟩
    · obtain rfl : i = l.length := by omega
      rw [List.drop_length] at hR
      simp -implicitDefEqProofs -dsimp (disch := first | omega | (simp only [wkLen]; omega) | decide +kernel) only [↓wkPre, ↓wkPre2, ↓wkE, wkPost, wkDef, wkF, simprocAttr, e0, e6, e7, e8, hul]
      rw [hR]; rfl
  · simp -implicitDefEqProofs -dsimp (disch := first | omega | (simp only [wkLen]; omega) | decide +kernel) only [↓wkPre, ↓wkPre2, ↓wkE, wkPost, wkDef, wkF, simprocAttr]
    rw [hul]
end Go.Ev.F23
end
section
namespace Go.Ev.F23
open Go.Proofs Go.Ev Go.Sort
set_option maxRecDepth 100000
set_option linter.all false
def serial (l : List Acc) (o : List Int) : List Acc := o.flatMap (fun w => l.filter (fun a => a.1 == w))
theorem serial_len (l : List Acc) : ∀ o : List Int, (serial l o).length ≤ o.length * l.length
  | [] => Nat.zero_le _
  | w :: o => by
    have := serial_len l o
    have h2 : (l.filter (fun a => a.1 == w)).length ≤ l.length := List.length_filter_le _ _
    simp only [serial, List.flatMap_cons, List.length_append, List.length_cons, Nat.succ_mul] at this ⊢
    omega
theorem p16 (l : List Acc) (o : List Int) (hl : l.length ≤ 1000) (ho : o.length ≤ 1000) : PS Cf okf 16 [24] [acs l, ins o] (fun r => r = acs (serial l o)) := by
  refine PS.mk extMono Try.func16 body16 (by decide) rfl ?_
  simp only [c16, Try.f16, Option.getD_some]
  have hul := aL_len l
  have huo := iL_len o
  have hB : (serial l o).length ≤ 1000000 := Nat.le_trans (serial_len l o) (Nat.mul_le_mul ho hl)
  simp -implicitDefEqProofs -dsimp (disch := first | omega | (simp only [wkLen]; omega) | decide +kernel) only [↓wkPre, ↓wkPre2, ↓wkE, wkPost, wkDef, wkF, simprocAttr]
  refine loop_use extMono (fun m e Hc => ∃ (i : Nat) (w : AV) (R : List Acc), m = o.length - i ∧ i ≤ o.length ∧ e 0 = .p (acs l) ∧ e 10 = .p (ins o) ∧ e 11 = .p (I o.length) ∧ e 12 = .p (I i) ∧ e 5 = w ∧ OwnS Hc w 3 (aL R) ∧ R ++ serial l (o.drop i) = serial l o) ?_ o.length _ _ ⟨0, .nsl, [], rfl, by omega, ?_⟩
  · rintro m e Hc ⟨i, w, R, rfl, hi, e0, e10, e11, e12, e5, hown, hR⟩
    rcases Nat.lt_or_ge i o.length with h | h
    · have gi := iL_get h
      rw [List.drop_eq_getElem_cons h, serial, List.flatMap_cons] at hR
      simp -implicitDefEqProofs -dsimp (disch := first | omega | (simp only [wkLen]; omega) | decide +kernel) only [↓wkPre, ↓wkPre2, ↓wkE, wkPost, wkDef, wkF, simprocAttr, e0, e10, e11, e12, e5, huo, gi]
      refine loop_use extMono (fun m e Hc => ∃ (k : Nat) (w : AV) (R : List Acc), m = l.length - k ∧ k ≤ l.length ∧ e 0 = .p (acs l) ∧ e 10 = .p (ins o) ∧ e 11 = .p (I o.length) ∧ e 12 = .p (I i) ∧ e 5 = w ∧ e 7 = .p (I o[i]) ∧ e 16 = .p (acs l) ∧ e 17 = .p (I l.length) ∧ e 18 = .p (I k) ∧ OwnS Hc w 3 (aL R) ∧ R ++ ((l.drop k).filter (fun a => a.1 == o[i]) ++ serial l (o.drop (i + 1))) = serial l o) ?_ l.length _ _ ⟨0, w, R, rfl, by omega, ?_⟩
      · rintro m e Hc ⟨k, w, R, rfl, hk, e0, e10, e11, e12, e5, e7, e16, e17, e18, hown, hR⟩
        rcases Nat.lt_or_ge k l.length with h2 | h2
        · have gk := aL_get h2
          have hbx : (Hc ++ [Blk.var true (.p (EA l[k]))])[Hc.length]? = some (.var true (.p (EA l[k]))) := by simp
          rw [List.drop_eq_getElem_cons h2, List.filter_cons] at hR
          cases hc : (l[k].1 == o[i])
          · rw [hc] at hR
            simp -implicitDefEqProofs -dsimp (disch := first | omega | (simp only [wkLen]; omega) | decide +kernel) only [↓wkPre, ↓wkPre2, ↓wkE, wkPost, wkDef, wkF, simprocAttr, e0, e10, e11, e12, e5, e7, e16, e17, e18, hul, gk, hc]
            exact ⟨l.length - (k + 1), by omega, k + 1, w, R, rfl, by omega, rfl, by push_cast; rfl, hown.app _, by simpa using hR⟩
          · rw [hc] at hR
            have hRl : R.length + 1 ≤ 1000000 := by have := congrArg List.length hR; simp at this; omega
            simp -implicitDefEqProofs -dsimp (disch := first | omega | (simp only [wkLen]; omega) | decide +kernel) only [↓wkPre, ↓wkPre2, ↓wkE, wkPost, wkDef, wkF, simprocAttr, e0, e10, e11, e12, e5, e7, e16, e17, e18, hul, gk, hc]
            refine append_step telem_24 (elems_new2 rfl rfl) (by simp) (hown.app _) ?_ ?_
            · rw [byt_45, aL_len]; simp; omega
            intro w' H' hown' hfr hle hb'
            simp -implicitDefEqProofs -dsimp (disch := first | omega | (simp only [wkLen]; omega) | decide +kernel) only [↓wkPre, ↓wkPre2, ↓wkE, wkPost, wkDef, wkF, simprocAttr, e0, e10, e11, e12, e5, e7, e16, e17, e18]
            refine ⟨l.length - (k + 1), by omega, k + 1, w', R ++ [l[k]], rfl, by omega, rfl, by push_cast; rfl, ?_, by simpa using hR⟩
            rw [aL_snoc]; exact hown'
        · obtain rfl : k = l.length := by omega
          rw [List.drop_length] at hR
          simp -implicitDefEqProofs -dsimp (disch := first | omega | (simp only [wkLen]; omega) | decide +kernel) only [↓wkPre, ↓wkPre2, ↓wkE, wkPost, wkDef, wkF, simprocAttr, e0, e10, e11, e12, e5, e7, e16, e17, e18]
          exact ⟨o.length - (i + 1), by omega, i + 1, w, R, rfl, by omega, by push_cast; rfl, rfl, hown, by simpa using hR⟩
      · simp -implicitDefEqProofs -dsimp (disch := first | omega | (simp only [wkLen]; omega) | decide +kernel) only [↓wkPre, ↓wkPre2, ↓wkE, wkPost, wkDef, wkF, simprocAttr]
        exact ⟨e0, e10, e11, e12, e5, by rw [hul], hown, hR⟩
    · obtain rfl : i = o.length := by omega
      rw [List.drop_length] at hR
      have hR2 : R = serial l o := by rw [← hR]; simp [serial]
      subst hR2
      have hfz := frz_own (P := Try.prog) (n := 4) telem_24 hown
      rcases hown with ⟨rfl, hx0⟩ | ⟨b, g, rfl, hb⟩
      · simp -implicitDefEqProofs -dsimp (disch := first | omega | (simp only [wkLen]; omega) | decide +kernel) only [↓wkPre, ↓wkPre2, ↓wkE, wkPost, wkDef, wkF, simprocAttr, e0, e10, e11, e12, e5]
        show PV.sl 3 [] = .sl 3 (aL (serial l o))
        rw [hx0]
      · simp -implicitDefEqProofs -dsimp (disch := first | omega | (simp only [wkLen]; omega) | decide +kernel) only [↓wkPre, ↓wkPre2, ↓wkE, wkPost, wkDef, wkF, simprocAttr, e0, e10, e11, e12, e5]
        rw [hfz]; rfl
  · simp -implicitDefEqProofs -dsimp (disch := first | omega | (simp only [wkLen]; omega) | decide +kernel) only [↓wkPre, ↓wkPre2, ↓wkE, wkPost, wkDef, wkF, simprocAttr]
    exact ⟨by rw [huo], OwnS.nil _ _⟩
/-- free: is nobody ahead of somebody, but those who are told? -/
def freeB (l : List Acc) (all done : List Int) (who : Int) : Bool := all.all (fun y => decide (y ∈ done) || !ahB y who l)
theorem freeB_cons (l : List Acc) (x : Int) (t done : List Int) (who : Int) : freeB l (x :: t) done who = ((decide (x ∈ done) || !ahB x who l) && freeB l t done who) := rfl
/-- has: is a number among some? -/
theorem w25 {v : AV} {l : List Int} (x : Int) {H : Heap} (h0 : LF H v l) (hl : l.length ≤ 1000000) (Q : AV → Heap → Prop)
    (hq : Q (.p (B (decide (x ∈ l)))) H) : (W Cf okf).call 25 [v, .p (I x)] H Q := by
  refine top_mk extMono Try.func25 body25 (by decide) rfl ?_
  simp only [c25, Try.f25, Option.getD_some]
  have hul := iL_len l
  rcases h0 with ⟨rfl, rfl⟩ | ⟨b, g, ex, lv, zs, rfl, hb⟩
  · simp -implicitDefEqProofs -dsimp (disch := first | omega | (simp only [wkLen]; omega) | decide +kernel) only [↓wkPre, ↓wkPre2, ↓wkE, wkPost, wkDef, wkF, simprocAttr]
    refine loop_use extMono (fun m e Hc => H = Hc ∧ e 0 = .nsl ∧ e 5 = .p (I 0)) ?_ 0 _ _ ⟨rfl, ?_⟩
    · rintro m e Hc ⟨rfl, e0, e5⟩
      simp -implicitDefEqProofs -dsimp (disch := first | omega | (simp only [wkLen]; omega) | decide +kernel) only [↓wkPre, ↓wkPre2, ↓wkE, wkPost, wkDef, wkF, simprocAttr, e0, e5]
      exact hq
    · simp -implicitDefEqProofs -dsimp (disch := first | omega | (simp only [wkLen]; omega) | decide +kernel) only [↓wkPre, ↓wkPre2, ↓wkE, wkPost, wkDef, wkF, simprocAttr]
  · simp -implicitDefEqProofs -dsimp (disch := first | omega | (simp only [wkLen]; omega) | decide +kernel) only [↓wkPre, ↓wkPre2, ↓wkE, wkPost, wkDef, wkF, simprocAttr]
    refine loop_use extMono (fun m e Hc => ∃ i : Nat, m = l.length - i ∧ i ≤ l.length ∧ H = Hc ∧ e 0 = .ref b g 0 l.length ex ∧ e 1 = .p (I x) ∧ e 5 = .p (I i) ∧ x ∉ l.take i) ?_ l.length _ _ ⟨0, rfl, by omega, rfl, ?_⟩
    · rintro m e Hc ⟨i, rfl, hi, rfl, e0, e1, e5, hn⟩
      rcases Nat.lt_or_ge i l.length with h | h
      · have gi := pre_get (zs := zs) h
        have hln : (iL l ++ zs).length = l.length + zs.length := by rw [List.length_append, hul]
        cases hc : (l[i] == x)
        · simp -implicitDefEqProofs -dsimp (disch := first | omega | (simp only [wkLen]; omega) | decide +kernel) only [↓wkPre, ↓wkPre2, ↓wkE, wkPost, wkDef, wkF, simprocAttr, e0, e1, e5, hb, gi, hln, hc]
          refine ⟨l.length - (i + 1), by omega, i + 1, rfl, by omega, by push_cast; rfl, ?_⟩
          rw [List.take_succ_eq_append_getElem h]
          simp at hc
          simp only [List.mem_append, List.mem_singleton, not_or]
          exact ⟨hn, fun e => hc e.symm⟩
        · simp -implicitDefEqProofs -dsimp (disch := first | omega | (simp only [wkLen]; omega) | decide +kernel) only [↓wkPre, ↓wkPre2, ↓wkE, wkPost, wkDef, wkF, simprocAttr, e0, e1, e5, hb, gi, hln, hc]
          have hm : x ∈ l := by simp at hc; rw [← hc]; simp
          simpa [hm] using hq
      · obtain rfl : i = l.length := by omega
        rw [List.take_length] at hn
        simp -implicitDefEqProofs -dsimp (disch := first | omega | (simp only [wkLen]; omega) | decide +kernel) only [↓wkPre, ↓wkPre2, ↓wkE, wkPost, wkDef, wkF, simprocAttr, e0, e1, e5, hb]
        simpa [hn] using hq
    · simp -implicitDefEqProofs -dsimp (disch := first | omega | (simp only [wkLen]; omega) | decide +kernel) only [↓wkPre, ↓wkPre2, ↓wkE, wkPost, wkDef, wkF, simprocAttr]
      simp
theorem w33 (l : List Acc) (all done : List Int) (who : Int) {v : AV} {H : Heap} (h0 : LF H v done) (hl : l.length ≤ 1000) (ha : all.length ≤ 1000) (hd : done.length ≤ 1000) (Q : AV → Heap → Prop)
    (hq : Q (.p (B (freeB l all done who))) H) : (W Cf okf).call 33 [.p (acs l), .p (ins all), v, .p (I who)] H Q := by
  refine top_mk extMono Try.func33 body33 (by decide) rfl ?_
  simp only [c33, Try.f33, Option.getD_some]
  have hul := iL_len all
  have hsh := h0.shape
  simp -implicitDefEqProofs -dsimp (disch := first | omega | (simp only [wkLen]; omega) | decide +kernel) only [↓wkPre, ↓wkPre2, ↓wkE, wkPost, wkDef, wkF, simprocAttr]
  refine loop_use extMono (fun m e Hc => ∃ i : Nat, m = all.length - i ∧ i ≤ all.length ∧ H = Hc ∧ e 0 = .p (acs l) ∧ e 1 = .p (ins all) ∧ e 2 = v ∧ e 3 = .p (I who) ∧ e 9 = .p (I i) ∧ freeB l all done who = freeB l (all.drop i) done who) ?_ all.length _ _ ⟨0, rfl, by omega, rfl, ?_⟩
  · rintro m e Hc ⟨i, rfl, hi, rfl, e0, e1, e2, e3, e9, hR⟩
    rcases Nat.lt_or_ge i all.length with h | h
    · have gi := iL_get h
      rw [List.drop_eq_getElem_cons h, freeB_cons] at hR
      simp -implicitDefEqProofs -dsimp (disch := first | omega | (simp only [wkLen]; omega) | decide +kernel) only [↓wkPre, ↓wkPre2, ↓wkE, wkPost, wkDef, wkF, simprocAttr, e0, e1, e2, e3, e9, hul, gi]
      refine imp_call md_25 (w25 all[i] h0 (by omega) _ ?_)
      cases hm : decide (all[i] ∈ done)
      · rw [hm] at hR
        simp -implicitDefEqProofs -dsimp (disch := first | omega | (simp only [wkLen]; omega) | decide +kernel) only [↓wkPre, ↓wkPre2, ↓wkE, wkPost, wkDef, wkF, simprocAttr, e0, e1, e2, e3, e9, hul, gi, hm]
        refine PS.app md_13 Try.func13 (p13 l all[i] who (by omega)) rfl ?_
        rintro _ rfl
        cases hh : ahB all[i] who l
        · rw [hh] at hR
          simp -implicitDefEqProofs -dsimp (disch := first | omega | (simp only [wkLen]; omega) | decide +kernel) only [↓wkPre, ↓wkPre2, ↓wkE, wkPost, wkDef, wkF, simprocAttr, e0, e1, e2, e3, e9, hh]
          exact ⟨all.length - (i + 1), by omega, i + 1, rfl, by omega, by push_cast; rfl, by rw [hR]; rfl⟩
        · rw [hh] at hR
          simp -implicitDefEqProofs -dsimp (disch := first | omega | (simp only [wkLen]; omega) | decide +kernel) only [↓wkPre, ↓wkPre2, ↓wkE, wkPost, wkDef, wkF, simprocAttr, e0, e1, e2, e3, e9, hh]
          rw [hR] at hq; exact hq
      · rw [hm] at hR
        simp -implicitDefEqProofs -dsimp (disch := first | omega | (simp only [wkLen]; omega) | decide +kernel) only [↓wkPre, ↓wkPre2, ↓wkE, wkPost, wkDef, wkF, simprocAttr, e0, e1, e2, e3, e9, hul, gi, hm]
        exact ⟨all.length - (i + 1), by omega, i + 1, rfl, by omega, by push_cast; rfl, by rw [hR]; rfl⟩
    · obtain rfl : i = all.length := by omega
      rw [List.drop_length] at hR
      simp -implicitDefEqProofs -dsimp (disch := first | omega | (simp only [wkLen]; omega) | decide +kernel) only [↓wkPre, ↓wkPre2, ↓wkE, wkPost, wkDef, wkF, simprocAttr, e0, e1, e2, e3, e9, hul]
      rw [hR] at hq; exact hq
  · simp -implicitDefEqProofs -dsimp (disch := first | omega | (simp only [wkLen]; omega) | decide +kernel) only [↓wkPre, ↓wkPre2, ↓wkE, wkPost, wkDef, wkF, simprocAttr]
end Go.Ev.F23
end
section
namespace Go.Ev.F23
open Go.Proofs Go.Ev Go.Sort
set_option maxRecDepth 100000
set_option linter.all false
theorem Rise.nodup {l : List Int} (h : Rise l) : l.Nodup := h.imp (fun h => by omega)
theorem rise_not_take {P : List Int} (h : Rise P) {i : Nat} (hi : i < P.length) : P[i] ∉ P.take i := fun hm => by
  obtain ⟨j, hj, he⟩ := List.mem_iff_getElem.1 hm
  rw [List.length_take] at hj
  rw [List.getElem_take] at he
  have := List.pairwise_iff_getElem.1 h j i (by omega) hi (by omega)
  omega
/-- The least that is not yet there. -/
theorem least_next {P : List Int} (h : Rise P) {i : Nat} {x : Int} (hx : x ∈ P) (hn : x ∉ P.take i) (hm : ∀ y ∈ P, y ∉ P.take i → x ≤ y) : ∃ hi : i < P.length, x = P[i] := by
  obtain ⟨q, hq, rfl⟩ := List.mem_iff_getElem.1 hx
  have hiq : i ≤ q := by
    rcases Nat.lt_or_ge q i with h1 | h1
    · exact absurd (List.mem_iff_getElem.2 ⟨q, by rw [List.length_take]; omega, by rw [List.getElem_take]⟩) hn
    · exact h1
  have hi : i < P.length := by omega
  refine ⟨hi, ?_⟩
  have h1 := hm P[i] (List.getElem_mem hi) (rise_not_take h hi)
  rcases Nat.lt_or_ge i q with h2 | h2
  · have := List.pairwise_iff_getElem.1 h i q hi hq h2
    omega
  · have : i = q := by omega
    subst this; rfl
theorem p10 (l : List Acc) (hl : l.length ≤ 1000) : PS Cf okf 10 [26] [acs l] (fun r => r = ins (ppl l)) := by
  refine PS.mk extMono Try.func10 body10 (by decide) rfl ?_
  simp only [c10, Try.f10, Option.getD_some]
  have hul := aL_len l
  obtain ⟨hr, hmem⟩ := ppl_ok l
  have hpl := ppl_len l
  generalize ppl l = P at hr hmem hpl ⊢
  simp -implicitDefEqProofs -dsimp (disch := first | omega | (simp only [wkLen]; omega) | decide +kernel) only [↓wkPre, ↓wkPre2, ↓wkE, wkPost, wkDef, wkF, simprocAttr]
  refine loop_use extMono (fun m e Hc => ∃ (i : Nat) (w : AV), m = l.length - i ∧ i ≤ l.length ∧ e 0 = .p (acs l) ∧ e 4 = .p (I i) ∧ e 3 = w ∧ OwnS Hc w 0 (iL (P.take i))) ?_ l.length _ _ ⟨0, .nsl, rfl, by omega, ?_⟩
  · rintro m e Hc ⟨i, w, rfl, hi, e0, e4, e3, hown⟩
    have hlf := own_LF hown
    have htl : (P.take i).length ≤ 1000 := by rw [List.length_take]; omega
    rcases Nat.lt_or_ge i l.length with h | h
    · simp -implicitDefEqProofs -dsimp (disch := first | omega | (simp only [wkLen]; omega) | decide +kernel) only [↓wkPre, ↓wkPre2, ↓wkE, wkPost, wkDef, wkF, simprocAttr, e0, e4, e3, hul]
      refine loop_use extMono (fun m e H => ∃ (k : Nat) (b : Int), m = l.length - k ∧ k ≤ l.length ∧ Hc = H ∧ e 0 = .p (acs l) ∧ e 4 = .p (I i) ∧ e 3 = w ∧ e 6 = .p (I k) ∧ e 5 = .p (I b) ∧
        ((b = -1 ∧ ∀ q, q < k → l[q]!.1 ∈ P.take i) ∨ ∃ j : Nat, b = j ∧ j < k ∧ l[j]!.1 ∉ P.take i ∧ ∀ q, q < k → l[q]!.1 ∉ P.take i → l[j]!.1 ≤ l[q]!.1)) ?_ l.length _ _ ⟨0, -1, rfl, by omega, rfl, ?_⟩
      · rintro m e H ⟨k, b, rfl, hk, rfl, e0, e4, e3, e6, e5, hb⟩
        rcases Nat.lt_or_ge k l.length with h2 | h2
        · have gk := aL_get h2
          have hg : l[k]! = l[k] := getElem!_pos l k h2
          simp -implicitDefEqProofs -dsimp (disch := first | omega | (simp only [wkLen]; omega) | decide +kernel) only [↓wkPre, ↓wkPre2, ↓wkE, wkPost, wkDef, wkF, simprocAttr, e0, e4, e3, e6, e5, hul, gk]
          refine imp_call md_25 (w25 l[k].1 hlf (by omega) _ ?_)
          have old : l[k].1 ∈ P.take i → ((b = -1 ∧ ∀ q, q < k + 1 → l[q]!.1 ∈ P.take i) ∨ ∃ j : Nat, b = j ∧ j < k + 1 ∧ l[j]!.1 ∉ P.take i ∧ ∀ q, q < k + 1 → l[q]!.1 ∉ P.take i → l[j]!.1 ≤ l[q]!.1) := fun hm => by
            rcases hb with ⟨h3, h4⟩ | ⟨j, h3, h4, h5, h6⟩
            · refine .inl ⟨h3, fun q hq => ?_⟩
              rcases Nat.lt_or_ge q k with h9 | h9
              · exact h4 q h9
              · obtain rfl : q = k := by omega
                rw [hg]; exact hm
            · refine .inr ⟨j, h3, by omega, h5, fun q hq hn => ?_⟩
              rcases Nat.lt_or_ge q k with h9 | h9
              · exact h6 q h9 hn
              · obtain rfl : q = k := by omega
                rw [hg] at hn; exact absurd hm hn
          cases hm : decide (l[k].1 ∈ P.take i)
          · have hnm := of_decide_eq_false hm
            rcases hb with ⟨rfl, h4⟩ | ⟨j, rfl, h4, h5, h6⟩
            · simp -implicitDefEqProofs -dsimp (disch := first | omega | (simp only [wkLen]; omega) | decide +kernel) only [↓wkPre, ↓wkPre2, ↓wkE, wkPost, wkDef, wkF, simprocAttr, e0, e4, e3, e6, e5, hul, gk, hm]
              refine ⟨l.length - (k + 1), by omega, k + 1, k, rfl, by omega, by push_cast; rfl, rfl, .inr ⟨k, rfl, by omega, by rw [hg]; exact hnm, fun q hq hn => ?_⟩⟩
              rcases Nat.lt_or_ge q k with h9 | h9
              · exact absurd (h4 q h9) hn
              · obtain rfl : q = k := by omega
                exact Int.le_refl _
            · have hjl : j < l.length := by omega
              have gj := aL_get hjl
              have hgj : l[j]! = l[j] := getElem!_pos l j hjl
              cases hlt : decide (l[k].1 < l[j].1)
              · have hlt' := of_decide_eq_false hlt
                simp -implicitDefEqProofs -dsimp (disch := first | omega | (simp only [wkLen]; omega) | decide +kernel) only [↓wkPre, ↓wkPre2, ↓wkE, wkPost, wkDef, wkF, simprocAttr, e0, e4, e3, e6, e5, hul, gk, gj, hm, hlt]
                refine ⟨l.length - (k + 1), by omega, k + 1, j, rfl, by omega, by push_cast; rfl, rfl, .inr ⟨j, rfl, by omega, h5, fun q hq hn => ?_⟩⟩
                rcases Nat.lt_or_ge q k with h9 | h9
                · exact h6 q h9 hn
                · obtain rfl : q = k := by omega
                  rw [hg, hgj]; omega
              · have hlt' := of_decide_eq_true hlt
                simp -implicitDefEqProofs -dsimp (disch := first | omega | (simp only [wkLen]; omega) | decide +kernel) only [↓wkPre, ↓wkPre2, ↓wkE, wkPost, wkDef, wkF, simprocAttr, e0, e4, e3, e6, e5, hul, gk, gj, hm, hlt]
                refine ⟨l.length - (k + 1), by omega, k + 1, k, rfl, by omega, by push_cast; rfl, rfl, .inr ⟨k, rfl, by omega, by rw [hg]; exact hnm, fun q hq hn => ?_⟩⟩
                rcases Nat.lt_or_ge q k with h9 | h9
                · have := h6 q h9 hn
                  rw [hgj] at this
                  rw [hg]; omega
                · obtain rfl : q = k := by omega
                  exact Int.le_refl _
          · simp -implicitDefEqProofs -dsimp (disch := first | omega | (simp only [wkLen]; omega) | decide +kernel) only [↓wkPre, ↓wkPre2, ↓wkE, wkPost, wkDef, wkF, simprocAttr, e0, e4, e3, e6, e5, hul, gk, hm]
            exact ⟨l.length - (k + 1), by omega, k + 1, b, rfl, by omega, by push_cast; rfl, rfl, old (of_decide_eq_true hm)⟩
        · obtain rfl : k = l.length := by omega
          have inP : ∀ y ∈ P, ∃ q, q < l.length ∧ l[q]!.1 = y := fun y hy => by
            obtain ⟨a, ha, rfl⟩ := List.mem_map.1 ((hmem y).1 hy)
            obtain ⟨q, hq, rfl⟩ := List.mem_iff_getElem.1 ha
            exact ⟨q, hq, by rw [getElem!_pos l q hq]⟩
          rcases hb with ⟨rfl, h4⟩ | ⟨j, rfl, h4, h5, h6⟩
          · have hall : P.take (i + 1) = P.take i := by
              rcases Nat.lt_or_ge i P.length with h9 | h9
              · obtain ⟨q, hq, he⟩ := inP P[i] (List.getElem_mem h9)
                exact absurd (he ▸ h4 q hq) (rise_not_take hr h9)
              · rw [List.take_of_length_le (by omega), List.take_of_length_le (by omega)]
            simp -implicitDefEqProofs -dsimp (disch := first | omega | (simp only [wkLen]; omega) | decide +kernel) only [↓wkPre, ↓wkPre2, ↓wkE, wkPost, wkDef, wkF, simprocAttr, e0, e4, e3, e6, e5, hul]
            exact ⟨l.length - (i + 1), by omega, i + 1, w, rfl, by omega, by push_cast; rfl, rfl, by rw [hall]; exact hown⟩
          · have gj := aL_get h4
            have hgj : l[j]! = l[j] := getElem!_pos l j h4
            rw [hgj] at h5 h6
            obtain ⟨hiP, hx⟩ := least_next hr (i := i) (x := l[j].1) ((hmem _).2 (List.mem_map.2 ⟨l[j], List.getElem_mem h4, rfl⟩)) h5 (fun y hy hn => by
              obtain ⟨q, hq, rfl⟩ := inP y hy
              exact h6 q hq hn)
            simp -implicitDefEqProofs -dsimp (disch := first | omega | (simp only [wkLen]; omega) | decide +kernel) only [↓wkPre, ↓wkPre2, ↓wkE, wkPost, wkDef, wkF, simprocAttr, e0, e4, e3, e6, e5, hul, gj]
            refine append_step telem_26 (elems_new rfl rfl) (by simp) (hown.app _) ?_ ?_
            · rw [byt_3, iL_len]; simp; omega
            intro w' H' hown' hfr hle hb'
            simp -implicitDefEqProofs -dsimp (disch := first | omega | (simp only [wkLen]; omega) | decide +kernel) only [↓wkPre, ↓wkPre2, ↓wkE, wkPost, wkDef, wkF, simprocAttr, e0, e4, e3]
            refine ⟨l.length - (i + 1), by omega, i + 1, w', rfl, by omega, by push_cast; rfl, rfl, ?_⟩
            rw [List.take_succ_eq_append_getElem hiP, iL_snoc, ← hx]
            exact hown'
      · simp -implicitDefEqProofs -dsimp (disch := first | omega | (simp only [wkLen]; omega) | decide +kernel) only [↓wkPre, ↓wkPre2, ↓wkE, wkPost, wkDef, wkF, simprocAttr]
        exact ⟨e0, e4, e3, .inl (fun q hq => absurd hq (by omega))⟩
    · obtain rfl : i = l.length := by omega
      rw [List.take_of_length_le (by omega)] at hown
      have hfz := frz_own (P := Try.prog) (n := 4) telem_26 hown
      rcases hown with ⟨rfl, hx0⟩ | ⟨b, g, rfl, hb⟩
      · simp -implicitDefEqProofs -dsimp (disch := first | omega | (simp only [wkLen]; omega) | decide +kernel) only [↓wkPre, ↓wkPre2, ↓wkE, wkPost, wkDef, wkF, simprocAttr, e0, e4, e3, hul]
        show PV.sl 0 [] = .sl 0 (iL P)
        rw [hx0]
      · simp -implicitDefEqProofs -dsimp (disch := first | omega | (simp only [wkLen]; omega) | decide +kernel) only [↓wkPre, ↓wkPre2, ↓wkE, wkPost, wkDef, wkF, simprocAttr, e0, e4, e3, hul]
        rw [hfz]; rfl
  · simp -implicitDefEqProofs -dsimp (disch := first | omega | (simp only [wkLen]; omega) | decide +kernel) only [↓wkPre, ↓wkPre2, ↓wkE, wkPost, wkDef, wkF, simprocAttr]
    exact OwnS.nil _ _
/-- Those who are left. -/
def lft (P out : List Int) : List Int := P.filter (fun x => !decide (x ∈ out))
theorem freeB_blk (l : List Acc) (P out : List Int) (x : Int) : freeB l P out x = !blk l (lft P out) x := by
  unfold freeB blk lft
  rw [List.any_filter, Bool.eq_iff_iff]
  simp only [List.all_eq_true, Bool.or_eq_true, decide_eq_true_eq, Bool.not_eq_true', List.any_eq_false, Bool.and_eq_true, decide_eq_false_iff_not, not_and, Bool.not_eq_true]
  constructor
  · intro h y hy hn
    rcases h y hy with h1 | h1
    · exact absurd h1 hn
    · exact h1
  · intro h y hy
    by_cases hm : y ∈ out
    · exact .inl hm
    · exact .inr (h y hy hm)
theorem pick_lft (l : List Acc) (P out : List Int) : pick l (lft P out) = P.find? (fun x => !decide (x ∈ out) && freeB l P out x) := by
  unfold pick
  conv => lhs; rw [lft, List.find?_filter]
  congr 1
  funext x
  rw [freeB_blk]
  show decide ((!decide (x ∈ out)) = true ∧ (!blk l (lft P out) x) = true) = _
  cases decide (x ∈ out) <;> cases blk l (lft P out) x <;> rfl
theorem lft_erase {P out : List Int} (h : P.Nodup) (x : Int) : (lft P out).erase x = lft P (out ++ [x]) := by
  unfold lft
  rw [List.Nodup.erase_eq_filter (h.filter _), List.filter_filter]
  congr 1
  funext y
  rw [Bool.eq_iff_iff]
  simp
  constructor
  · rintro ⟨h1, h2⟩; exact ⟨h2, h1⟩
  · rintro ⟨h1, h2⟩; exact ⟨h2, h1⟩
theorem lft_len {P out : List Int} (h : P.Nodup) {x : Int} (hx : x ∈ lft P out) : (lft P (out ++ [x])).length + 1 = (lft P out).length := by
  rw [← lft_erase h, List.length_erase_of_mem hx]
  have := List.length_pos_of_mem hx
  omega
theorem p12 (l : List Acc) (hl : l.length ≤ 1000) : PS Cf okf 12 [26, 4] [acs l] (fun r => r = .tup [ins (ordS l (ppl l).length (ppl l) []).1, B (ordS l (ppl l).length (ppl l) []).2]) := by
  refine PS.mk extMono Try.func12 body12 (by decide) rfl ?_
  simp only [c12, Try.f12, Option.getD_some]
  have hul := aL_len l
  have hP := p10 l hl
  obtain ⟨hr, hmem⟩ := ppl_ok l
  have hpl := ppl_len l
  generalize ppl l = P at hr hmem hpl hP ⊢
  have huP := iL_len P
  have h0 : lft P [] = P := by simp [lft]
  simp -implicitDefEqProofs -dsimp (disch := first | omega | (simp only [wkLen]; omega) | decide +kernel) only [↓wkPre, ↓wkPre2, ↓wkE, wkPost, wkDef, wkF, simprocAttr]
  refine PS.app md_10 Try.func10 hP rfl ?_
  rintro _ rfl
  simp -implicitDefEqProofs -dsimp (disch := first | omega | (simp only [wkLen]; omega) | decide +kernel) only [↓wkPre, ↓wkPre2, ↓wkE, wkPost, wkDef, wkF, simprocAttr]
  refine loop_use extMono (fun m e Hc => ∃ (w : AV) (out : List Int), m = (lft P out).length ∧ (lft P out).length + out.length = P.length ∧ e 0 = .p (acs l) ∧ e 4 = .p (ins P) ∧ e 5 = w ∧ OwnS Hc w 0 (iL out) ∧ ordS l P.length P [] = ordS l (lft P out).length (lft P out) out) ?_ P.length _ _ ⟨.nsl, [], by rw [h0], ?_⟩
  · rintro m e Hc ⟨w, out, rfl, hln, e0, e4, e5, hown, hR⟩
    have hlf := own_LF hown
    have hfz := frz_own (P := Try.prog) (n := 4) telem_26 hown
    rcases Nat.eq_zero_or_pos (lft P out).length with hz | hpos
    · have hz' : lft P out = [] := List.eq_nil_of_length_eq_zero hz
      rw [hz'] at hR
      have hlo : out.length = P.length := by omega
      rw [hR]
      rcases hown with ⟨rfl, hx0⟩ | ⟨b, g, rfl, hb⟩
      · have : out = [] := by simpa [iL] using hx0
        subst this
        have hP0 : P.length = 0 := by simpa using hlo.symm
        simp -implicitDefEqProofs -dsimp (disch := first | omega | (simp only [wkLen]; omega) | decide +kernel) only [↓wkPre, ↓wkPre2, ↓wkE, wkPost, wkDef, wkF, simprocAttr, e0, e4, e5, huP, hP0]
        rfl
      · rw [iL_len] at e5 hfz
        rw [hlo] at e5 hfz
        simp -implicitDefEqProofs -dsimp (disch := first | omega | (simp only [wkLen]; omega) | decide +kernel) only [↓wkPre, ↓wkPre2, ↓wkE, wkPost, wkDef, wkF, simprocAttr, e0, e4, e5, huP]
        rw [hfz]; rfl
    · have hlt : out.length < P.length := by omega
      rcases id hown with ⟨rfl, hx0⟩ | ⟨b, g, rfl, hb⟩
      · have hoz : out = [] := by simpa [iL] using hx0
        have hol0 : out.length = 0 := by rw [hoz]; rfl
        simp -implicitDefEqProofs -dsimp (disch := first | omega | (simp only [wkLen]; omega) | decide +kernel) only [↓wkPre, ↓wkPre2, ↓wkE, wkPost, wkDef, wkF, simprocAttr, e0, e4, e5, huP]
        refine loop_use extMono (fun m e H => ∃ i : Nat, m = P.length - i ∧ i ≤ P.length ∧ Hc = H ∧ e 0 = .p (acs l) ∧ e 4 = .p (ins P) ∧ e 5 = .nsl ∧ e 6 = .p (I 0) ∧ e 7 = .p (I i) ∧ pick l (lft P out) = (P.drop i).find? (fun x => !decide (x ∈ out) && freeB l P out x)) ?_ P.length _ _ ⟨0, rfl, by omega, rfl, ?_⟩
        · rintro m e H ⟨i, rfl, hi, rfl, e0, e4, e5, e6, e7, hF⟩
          rcases Nat.lt_or_ge i P.length with h | h
          · have gi := iL_get h
            rw [List.drop_eq_getElem_cons h, List.find?_cons] at hF
            simp -implicitDefEqProofs -dsimp (disch := first | omega | (simp only [wkLen]; omega) | decide +kernel) only [↓wkPre, ↓wkPre2, ↓wkE, wkPost, wkDef, wkF, simprocAttr, e0, e4, e5, e6, e7, huP, gi]
            refine imp_call md_25 (w25 P[i] hlf (by omega) _ ?_)
            cases hm : decide (P[i] ∈ out)
            · rw [hm] at hF
              simp -implicitDefEqProofs -dsimp (disch := first | omega | (simp only [wkLen]; omega) | decide +kernel) only [↓wkPre, ↓wkPre2, ↓wkE, wkPost, wkDef, wkF, simprocAttr, e0, e4, e5, e6, e7, huP, gi, hm]
              refine imp_call md_33 (w33 l P out P[i] hlf (by omega) (by omega) (by omega) _ ?_)
              cases hf : freeB l P out P[i]
              · rw [hf] at hF
                simp -implicitDefEqProofs -dsimp (disch := first | omega | (simp only [wkLen]; omega) | decide +kernel) only [↓wkPre, ↓wkPre2, ↓wkE, wkPost, wkDef, wkF, simprocAttr, e0, e4, e5, e6, e7, huP, gi, hf]
                exact ⟨P.length - (i + 1), by omega, i + 1, rfl, by omega, by push_cast; rfl, by simpa using hF⟩
              · rw [hf] at hF
                have hpick : pick l (lft P out) = some P[i] := by simpa using hF
                simp -implicitDefEqProofs -dsimp (disch := first | omega | (simp only [wkLen]; omega) | decide +kernel) only [↓wkPre, ↓wkPre2, ↓wkE, wkPost, wkDef, wkF, simprocAttr, e0, e4, e5, e6, e7, huP, gi, hf]
                refine append_step telem_26 (elems_new rfl rfl) (by simp) (hown.app _) ?_ ?_
                · rw [byt_3, iL_len]; simp; omega
                intro w' H' hown' hfr hle hb'
                have hin : P[i] ∈ lft P out := by unfold lft; rw [List.mem_filter]; exact ⟨List.getElem_mem h, by rw [hm]; rfl⟩
                have hl2 := lft_len hr.nodup hin
                have hord : ordS l (lft P out).length (lft P out) out = ordS l (lft P (out ++ [P[i]])).length (lft P (out ++ [P[i]])) (out ++ [P[i]]) := by
                  rw [← hl2, ordS, hpick]
                  simp only [lft_erase hr.nodup]
                have hown2 : OwnS H' w' 0 (iL (out ++ [P[i]])) := by rw [iL_snoc]; exact hown'
                rcases id hown2 with ⟨_, h9⟩ | ⟨b', g', rfl, hbb⟩
                · rw [iL_snoc] at h9; simp at h9
                rw [iL_len] at hown2 ⊢
                have hol : (out ++ [P[i]]).length = out.length + 1 := by simp
                rw [hol] at hown2 ⊢
                simp -implicitDefEqProofs -dsimp (disch := first | omega | (simp only [wkLen]; omega) | decide +kernel) only [↓wkPre, ↓wkPre2, ↓wkE, wkPost, wkDef, wkF, simprocAttr, e0, e4, e5, e6, e7, huP, gi]
                exact ⟨(lft P (out ++ [P[i]])).length, by omega, _, out ++ [P[i]], rfl, by rw [hol]; omega, rfl, hown2, by rw [hR, hord]⟩
            · rw [hm] at hF
              simp -implicitDefEqProofs -dsimp (disch := first | omega | (simp only [wkLen]; omega) | decide +kernel) only [↓wkPre, ↓wkPre2, ↓wkE, wkPost, wkDef, wkF, simprocAttr, e0, e4, e5, e6, e7, huP, gi, hm]
              exact ⟨P.length - (i + 1), by omega, i + 1, rfl, by omega, by push_cast; rfl, by simpa using hF⟩
          · obtain rfl : i = P.length := by omega
            rw [List.drop_length] at hF
            have hord : ordS l (lft P out).length (lft P out) out = ([], false) := by
              obtain ⟨n, hn⟩ : ∃ n, (lft P out).length = n + 1 := ⟨(lft P out).length - 1, by omega⟩
              rw [hn, ordS, hF]; rfl
            simp -implicitDefEqProofs -dsimp (disch := first | omega | (simp only [wkLen]; omega) | decide +kernel) only [↓wkPre, ↓wkPre2, ↓wkE, wkPost, wkDef, wkF, simprocAttr, e0, e4, e5, e6, e7, huP]
            rw [hR, hord]; rfl
        · simp -implicitDefEqProofs -dsimp (disch := first | omega | (simp only [wkLen]; omega) | decide +kernel) only [↓wkPre, ↓wkPre2, ↓wkE, wkPost, wkDef, wkF, simprocAttr]
          exact ⟨e0, e4, e5, pick_lft l P out⟩
      · rw [iL_len] at e5 hlf hown
        simp -implicitDefEqProofs -dsimp (disch := first | omega | (simp only [wkLen]; omega) | decide +kernel) only [↓wkPre, ↓wkPre2, ↓wkE, wkPost, wkDef, wkF, simprocAttr, e0, e4, e5, huP]
        refine loop_use extMono (fun m e H => ∃ i : Nat, m = P.length - i ∧ i ≤ P.length ∧ Hc = H ∧ e 0 = .p (acs l) ∧ e 4 = .p (ins P) ∧ e 5 = .ref b g 0 out.length false ∧ e 6 = .p (I out.length) ∧ e 7 = .p (I i) ∧ pick l (lft P out) = (P.drop i).find? (fun x => !decide (x ∈ out) && freeB l P out x)) ?_ P.length _ _ ⟨0, rfl, by omega, rfl, ?_⟩
        · rintro m e H ⟨i, rfl, hi, rfl, e0, e4, e5, e6, e7, hF⟩
          rcases Nat.lt_or_ge i P.length with h | h
          · have gi := iL_get h
            rw [List.drop_eq_getElem_cons h, List.find?_cons] at hF
            simp -implicitDefEqProofs -dsimp (disch := first | omega | (simp only [wkLen]; omega) | decide +kernel) only [↓wkPre, ↓wkPre2, ↓wkE, wkPost, wkDef, wkF, simprocAttr, e0, e4, e5, e6, e7, huP, gi]
            refine imp_call md_25 (w25 P[i] hlf (by omega) _ ?_)
            cases hm : decide (P[i] ∈ out)
            · rw [hm] at hF
              simp -implicitDefEqProofs -dsimp (disch := first | omega | (simp only [wkLen]; omega) | decide +kernel) only [↓wkPre, ↓wkPre2, ↓wkE, wkPost, wkDef, wkF, simprocAttr, e0, e4, e5, e6, e7, huP, gi, hm]
              refine imp_call md_33 (w33 l P out P[i] hlf (by omega) (by omega) (by omega) _ ?_)
              cases hf : freeB l P out P[i]
              · rw [hf] at hF
                simp -implicitDefEqProofs -dsimp (disch := first | omega | (simp only [wkLen]; omega) | decide +kernel) only [↓wkPre, ↓wkPre2, ↓wkE, wkPost, wkDef, wkF, simprocAttr, e0, e4, e5, e6, e7, huP, gi, hf]
                exact ⟨P.length - (i + 1), by omega, i + 1, rfl, by omega, by push_cast; rfl, by simpa using hF⟩
              · rw [hf] at hF
                have hpick : pick l (lft P out) = some P[i] := by simpa using hF
                simp -implicitDefEqProofs -dsimp (disch := first | omega | (simp only [wkLen]; omega) | decide +kernel) only [↓wkPre, ↓wkPre2, ↓wkE, wkPost, wkDef, wkF, simprocAttr, e0, e4, e5, e6, e7, huP, gi, hf]
                refine append_step telem_26 (elems_new rfl rfl) (by simp) (hown.app _) ?_ ?_
                · rw [byt_3, iL_len]; simp; omega
                intro w' H' hown' hfr hle hb'
                have hin : P[i] ∈ lft P out := by unfold lft; rw [List.mem_filter]; exact ⟨List.getElem_mem h, by rw [hm]; rfl⟩
                have hl2 := lft_len hr.nodup hin
                have hord : ordS l (lft P out).length (lft P out) out = ordS l (lft P (out ++ [P[i]])).length (lft P (out ++ [P[i]])) (out ++ [P[i]]) := by
                  rw [← hl2, ordS, hpick]
                  simp only [lft_erase hr.nodup]
                have hown2 : OwnS H' w' 0 (iL (out ++ [P[i]])) := by rw [iL_snoc]; exact hown'
                rcases id hown2 with ⟨_, h9⟩ | ⟨b', g', rfl, hbb⟩
                · rw [iL_snoc] at h9; simp at h9
                rw [iL_len] at hown2 ⊢
                have hol : (out ++ [P[i]]).length = out.length + 1 := by simp
                rw [hol] at hown2 ⊢
                simp -implicitDefEqProofs -dsimp (disch := first | omega | (simp only [wkLen]; omega) | decide +kernel) only [↓wkPre, ↓wkPre2, ↓wkE, wkPost, wkDef, wkF, simprocAttr, e0, e4, e5, e6, e7, huP, gi]
                exact ⟨(lft P (out ++ [P[i]])).length, by omega, _, out ++ [P[i]], rfl, by rw [hol]; omega, rfl, hown2, by rw [hR, hord]⟩
            · rw [hm] at hF
              simp -implicitDefEqProofs -dsimp (disch := first | omega | (simp only [wkLen]; omega) | decide +kernel) only [↓wkPre, ↓wkPre2, ↓wkE, wkPost, wkDef, wkF, simprocAttr, e0, e4, e5, e6, e7, huP, gi, hm]
              exact ⟨P.length - (i + 1), by omega, i + 1, rfl, by omega, by push_cast; rfl, by simpa using hF⟩
          · obtain rfl : i = P.length := by omega
            rw [List.drop_length] at hF
            have hord : ordS l (lft P out).length (lft P out) out = ([], false) := by
              obtain ⟨n, hn⟩ : ∃ n, (lft P out).length = n + 1 := ⟨(lft P out).length - 1, by omega⟩
              rw [hn, ordS, hF]; rfl
            simp -implicitDefEqProofs -dsimp (disch := first | omega | (simp only [wkLen]; omega) | decide +kernel) only [↓wkPre, ↓wkPre2, ↓wkE, wkPost, wkDef, wkF, simprocAttr, e0, e4, e5, e6, e7, huP]
            rw [hR, hord]; rfl
        · simp -implicitDefEqProofs -dsimp (disch := first | omega | (simp only [wkLen]; omega) | decide +kernel) only [↓wkPre, ↓wkPre2, ↓wkE, wkPost, wkDef, wkF, simprocAttr]
          exact ⟨e0, e4, e5, pick_lft l P out⟩
  · simp -implicitDefEqProofs -dsimp (disch := first | omega | (simp only [wkLen]; omega) | decide +kernel) only [↓wkPre, ↓wkPre2, ↓wkE, wkPost, wkDef, wkF, simprocAttr]
    exact ⟨by rw [h0], OwnS.nil _ _, by rw [h0]⟩
end Go.Ev.F23
end
