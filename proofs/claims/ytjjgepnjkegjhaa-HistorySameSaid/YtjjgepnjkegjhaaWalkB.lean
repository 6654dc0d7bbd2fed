/- A part of the proof: walks of the functions that the law calls. No condition. -/
import Derived.Test.YtjjgepnjkegjhaaWalkA
import Derived.Test.YtjjgepnjkegjhaaRun
set_option linter.all false
section
namespace Go.Ev.F23
open Go.Proofs Go.Ev Go.Sort
set_option maxRecDepth 100000
set_option linter.all false
theorem cmpT_rise {α : Type} [DecidableEq α] [Inhabited α] {lt : α → α → Bool} (hS : SWO lt) (hT : ∀ a b, lt a b = false → lt b a = false → a = b) {xs : List α} (hs : ∀ i j, i < j → j < xs.length → lt xs[j]! xs[i]! = false) :
    ∀ m, m ≤ xs.length → (cmpT xs m).Pairwise (fun a b => lt a b = true) ∧ ∀ x, x ∈ cmpT xs m ↔ x ∈ xs.take m
  | 0, _ => by simp [cmpT]
  | m + 1, h => by
    obtain ⟨h1, h2⟩ := cmpT_rise hS hT hs m (by omega)
    have hm : m < xs.length := by omega
    have gm : xs[m]! = xs[m] := getElem!_pos xs m hm
    have tk : xs.take (m + 1) = xs.take m ++ [xs[m]] := List.take_succ_eq_append_getElem hm
    have at_ : ∀ a ∈ xs.take m, ∃ i, i < m ∧ xs[i]! = a := fun a ha => by
      obtain ⟨i, hi, rfl⟩ := List.mem_iff_getElem.1 ha
      rw [List.length_take] at hi
      exact ⟨i, by omega, by rw [getElem!_pos xs i (by omega), List.getElem_take]⟩
    rw [cmpT, tk]
    by_cases hc : m ≠ 0 ∧ xs[m]! = xs[m - 1]!
    · rw [if_pos hc, List.append_nil]
      refine ⟨h1, fun x => ?_⟩
      rw [h2, List.mem_append, List.mem_singleton]
      constructor
      · exact .inl
      · rintro (h3 | rfl)
        · exact h3
        · rw [← gm, hc.2, getElem!_pos xs (m - 1) (by omega)]
          exact List.mem_iff_getElem.2 ⟨m - 1, by rw [List.length_take]; omega, by rw [List.getElem_take]⟩
    · rw [if_neg hc]
      refine ⟨List.pairwise_append.2 ⟨h1, List.pairwise_singleton _ _, ?_⟩, fun x => by rw [List.mem_append, List.mem_append, h2, gm]⟩
      intro a ha y hy
      rw [List.mem_singleton] at hy
      subst hy
      obtain ⟨i, hi, rfl⟩ := at_ a ((h2 a).1 ha)
      cases hlt : lt xs[i]! xs[m]! with
      | true => rfl
      | false =>
        refine absurd ⟨by omega, ?_⟩ hc
        have e1 := hT _ _ hlt (hs i m hi hm)
        rcases Nat.lt_or_ge i (m - 1) with h9 | h9
        · have a1 := hs i (m - 1) h9 (by omega)
          rw [e1] at a1
          have a2 := hs (m - 1) m (by omega) hm
          exact hT _ _ a2 a1
        · have : i = m - 1 := by omega
          rw [← this]; exact e1.symm
def Rise (l : List Int) : Prop := l.Pairwise (· < ·)
theorem Rise.ext {a b : List Int} (ha : Rise a) (hb : Rise b) (h : ∀ x, x ∈ a ↔ x ∈ b) : a = b := by
  have hp : a.Perm b := by
    have hna : a.Nodup := ha.imp (fun h => by omega)
    have hnb : b.Nodup := hb.imp (fun h => by omega)
    rw [List.perm_ext_iff_of_nodup hna hnb]
    exact h
  exact hp.eq_of_pairwise (fun x y _ _ h1 h2 => by omega) ha hb
theorem iL_encA (l : List Int) : iL l = encA E l.toArray := by simp [iL, encA]
theorem wSortO (w : AV) (T : List Int) (H : Heap) (ho : OwnS H w 0 (iL T)) (hT : T.length < 50) (Q : AV → Heap → Prop)
    (hq : ∀ H', OwnS H' w 0 (iL (T.mergeSort (fun x y => !ltInt y x))) → (∀ i, w.blk ≠ some i → i < H.length → H'[i]? = H[i]?) → H.length ≤ H'.length → Q (.p (.tup [])) H') : (W Cf okf).call 23 [w] H Q := by
  rcases ho with ⟨rfl, h0⟩ | ⟨b, g, rfl, hb⟩
  · have : T = [] := by simpa [iL] using h0
    subst this
    exact wSort0 H Q (hq H (by simpa [iL] using OwnS.nil H 0) (fun _ _ _ => rfl) (Nat.le_refl _))
  · have hsz : (iL T).length = T.toArray.size := by rw [iL_len]; rfl
    rw [hsz]
    rw [iL_encA] at hb
    refine wSort b g false T.toArray H hb (by simpa using hT) Q fun H' d' hr hs hf => ?_
    have hl : d'.toList.length = T.length := by rw [hs]; simp
    rw [show T.toArray.toList = T from rfl] at hs
    rw [hsz] at hq
    refine hq H' (.inr ⟨b, g, ?_, ?_⟩) (fun i hi hl => hf.1 i (fun e => hi (by rw [e]; rfl)) hl) hf.2
    · rw [iL_len, ← hs, hl]; rfl
    · rw [← hs]
      have : iL d'.toList = encA E d' := by simp [iL, encA]
      rw [this]; exact hr
def srt (T : List Int) : List Int := T.mergeSort (fun x y => !ltInt y x)
/-- All who did something, rising. -/
def ppl (l : List Acc) : List Int := cmpT (srt (l.map (·.1))) (srt (l.map (·.1))).length
theorem srt_sorted (T : List Int) : ∀ i j, i < j → j < (srt T).length → ltInt (srt T)[j]! (srt T)[i]! = false := by
  intro i j hij hj
  have := List.pairwise_mergeSort (le := fun x y : Int => !ltInt y x) (fun a b c h1 h2 => by simp [ltInt] at *; omega) (fun a b => by simp [ltInt]; omega) T
  have h2 := List.pairwise_iff_getElem.1 this i j (by unfold srt at hj; omega) (by unfold srt at hj; exact hj) hij
  rw [getElem!_pos _ j hj, getElem!_pos _ i (by omega)]
  exact Eq.mp (Bool.not_eq_true' _) h2
theorem ppl_ok (l : List Acc) : Rise (ppl l) ∧ ∀ x, x ∈ ppl l ↔ x ∈ l.map (·.1) := by
  obtain ⟨h1, h2⟩ := cmpT_rise (lt := ltInt) swo_ltInt (fun a b h1 h2 => by simp [ltInt] at h1 h2; omega) (srt_sorted (l.map (·.1))) _ (Nat.le_refl _)
  refine ⟨h1.imp (fun h => by simpa [ltInt] using h), fun x => ?_⟩
  unfold ppl
  rw [h2, List.take_length, srt, List.mem_mergeSort]
theorem cmpT_len {α : Type} [DecidableEq α] [Inhabited α] (xs : List α) : ∀ m, (cmpT xs m).length ≤ m
  | 0 => Nat.le_refl _
  | m + 1 => by
    have := cmpT_len xs m
    rw [cmpT, List.length_append]
    split <;> simp <;> omega
theorem ppl_len (l : List Acc) : (ppl l).length ≤ l.length := by
  have := cmpT_len (srt (l.map (·.1))) (srt (l.map (·.1))).length
  unfold ppl
  have h2 : (srt (l.map (·.1))).length = l.length := by simp [srt]
  omega
theorem own_LF {H : Heap} {v : AV} {l : List Int} (h : OwnS H v 0 (iL l)) : LF H v l := by
  rcases h with ⟨h1, h2⟩ | ⟨b, g, h1, h2⟩
  · exact .inl ⟨h1, by simpa [iL] using h2⟩
  · exact .inr ⟨b, g, false, true, [], by rw [iL_len] at h1; exact h1, by simpa using h2⟩
/-- Compact of a slice of one's own. -/
theorem w24o (w : AV) (T : List Int) (H : Heap) (ho : OwnS H w 0 (iL T)) (hT : T.length ≤ 1000000) (Q : AV → Heap → Prop)
    (hq : ∀ v H', LF H' v (cmpT T T.length) → (∀ i, w.blk ≠ some i → H'[i]? = H[i]?) → H.length ≤ H'.length → Q v H') : (W Cf okf).call 24 [w] H Q := by
  rcases ho with ⟨rfl, h0⟩ | ⟨b, g, rfl, hb⟩
  · have : T = [] := by simpa [iL] using h0
    subst this
    refine top_mk extMono Try.func24 body24 (by decide) rfl ?_
    simp only [c24, Try.f24, Option.getD_some]
    simp -implicitDefEqProofs -dsimp (disch := first | omega | (simp only [wkLen]; omega) | decide +kernel) only [↓wkPre, ↓wkPre2, ↓wkE, wkPost, wkDef, wkF, simprocAttr]
    exact hq _ _ (.inl ⟨rfl, rfl⟩) (fun _ _ => rfl) (Nat.le_refl _)
  · rw [iL_len] at hq ⊢
    have hbl := (List.getElem?_eq_some_iff.1 hb).1
    refine w24 hb hT Q fun ex' zs _ => ?_
    refine hq _ _ (.inr ⟨b, g, ex', true, zs, rfl, hs_set hbl⟩) (fun i hi => hs_ne (fun e => hi (by rw [e]; rfl))) (by simp)
theorem w9 (l : List Acc) (H : Heap) (hl : l.length < 50) (Q : AV → Heap → Prop)
    (hq : ∀ v H', LF H' v (ppl l) → GE H H' → Q v H') : (W Cf okf).call 9 [.p (acs l)] H Q := by
  refine top_mk extMono Try.func9 body9 (by decide) rfl ?_
  simp only [c9, Try.f9, Option.getD_some]
  have hul := aL_len l
  simp -implicitDefEqProofs -dsimp (disch := first | omega | (simp only [wkLen]; omega) | decide +kernel) only [↓wkPre, ↓wkPre2, ↓wkE, wkPost, wkDef, wkF, simprocAttr]
  refine loop_use extMono (fun m e Hc => ∃ (i : Nat) (w : AV), m = l.length - i ∧ i ≤ l.length ∧ e 6 = .p (acs l) ∧ e 7 = .p (I l.length) ∧ e 8 = .p (I i) ∧ e 3 = w ∧ OwnS Hc w 0 (iL ((l.take i).map (·.1))) ∧ (∀ c, w.blk = some c → H.length ≤ c) ∧ GE H Hc) ?_ l.length _ _ ⟨0, .nsl, rfl, by omega, ?_⟩
  · rintro m e Hc ⟨i, w, rfl, hi, e6, e7, e8, e3, hown, hwb, hge⟩
    rcases Nat.lt_or_ge i l.length with h | h
    · have gi := aL_get h
      simp -implicitDefEqProofs -dsimp (disch := first | omega | (simp only [wkLen]; omega) | decide +kernel) only [↓wkPre, ↓wkPre2, ↓wkE, wkPost, wkDef, wkF, simprocAttr, e6, e7, e8, e3, hul, gi]
      refine append_step telem_26 (elems_new2 rfl rfl) (by simp) (hown.app _) ?_ ?_
      · rw [byt_3, iL_len, List.length_map, List.length_take]; simp; omega
      intro w' H' hown' hfr' hle hb'
      simp only [List.length_append, List.length_cons, List.length_nil] at hfr' hle hb'
      simp -implicitDefEqProofs -dsimp (disch := first | omega | (simp only [wkLen]; omega) | decide +kernel) only [↓wkPre, ↓wkPre2, ↓wkE, wkPost, wkDef, wkF, simprocAttr, e6, e7, e8, e3]
      refine ⟨l.length - (i + 1), by omega, i + 1, w', rfl, by omega, by push_cast; rfl, rfl, ?_, fun c hc => ?_, ?_, fun j hj => ?_⟩
      · rw [List.take_succ_eq_append_getElem h, List.map_append]
        simpa [iL] using hown'
      · by_cases hcl : c < Hc.length + (0 + 1) + (0 + 1)
        · exact hwb c (hb' c hc (by omega))
        · have := hge.1; omega
      · have := hge.1; omega
      · have hgl := hge.1
        rw [hfr' j (by omega) (fun e => by have := hwb j e; omega), hs_app (by omega)]
        exact hge.2 j hj
    · obtain rfl : i = l.length := by omega
      rw [List.take_length] at hown
      simp -implicitDefEqProofs -dsimp (disch := first | omega | (simp only [wkLen]; omega) | decide +kernel) only [↓wkPre, ↓wkPre2, ↓wkE, wkPost, wkDef, wkF, simprocAttr, e6, e7, e8, e3]
      refine imp_call md_23 (wSortO w _ Hc hown (by simpa using hl) _ ?_)
      intro H1 hown1 hfr1 hln1
      simp -implicitDefEqProofs -dsimp (disch := first | omega | (simp only [wkLen]; omega) | decide +kernel) only [↓wkPre, ↓wkPre2, ↓wkE, wkPost, wkDef, wkF, simprocAttr, e6, e7, e8, e3]
      refine imp_call md_24 (w24o w _ H1 hown1 (by simp; omega) _ ?_)
      intro v H2 hlf hfr2 hln2
      have hsh := hlf.shape
      simp -implicitDefEqProofs -dsimp (disch := first | omega | (simp only [wkLen]; omega) | decide +kernel) only [↓wkPre, ↓wkPre2, ↓wkE, wkPost, wkDef, wkF, simprocAttr, e6, e7, e8, e3, hsh.1, hsh.2.1, hsh.2.2]
      refine hq _ _ hlf ⟨by have := hge.1; omega, fun j hj => ?_⟩
      have hw : w.blk ≠ some j := fun e => by have := hwb j e; omega
      rw [hfr2 j hw, hfr1 j hw (by have := hge.1; omega)]
      exact hge.2 j hj
  · simp -implicitDefEqProofs -dsimp (disch := first | omega | (simp only [wkLen]; omega) | decide +kernel) only [↓wkPre, ↓wkPre2, ↓wkE, wkPost, wkDef, wkF, simprocAttr]
    exact ⟨by rw [hul], OwnS.nil _ _, fun c hc => (by cases hc), GE.refl _⟩
theorem w9r {b g : Nat} {ex lv : Bool} (l : List Acc) (H : Heap) (hb : H[b]? = some (.arr lv g 3 (aL l))) (hl : l.length < 50) (Q : AV → Heap → Prop)
    (hq : ∀ v H', LF H' v (ppl l) → GE H H' → Q v H') : (W Cf okf).call 9 [.ref b g 0 l.length ex] H Q := by
  refine top_mk extMono Try.func9 body9 (by decide) rfl ?_
  simp only [c9, Try.f9, Option.getD_some]
  have hul := aL_len l
  simp -implicitDefEqProofs -dsimp (disch := first | omega | (simp only [wkLen]; omega) | decide +kernel) only [↓wkPre, ↓wkPre2, ↓wkE, wkPost, wkDef, wkF, simprocAttr]
  refine loop_use extMono (fun m e Hc => ∃ (i : Nat) (w : AV), m = l.length - i ∧ i ≤ l.length ∧ e 6 = .ref b g 0 l.length ex ∧ e 7 = .p (I l.length) ∧ e 8 = .p (I i) ∧ e 3 = w ∧ OwnS Hc w 0 (iL ((l.take i).map (·.1))) ∧ (∀ c, w.blk = some c → H.length ≤ c) ∧ GE H Hc) ?_ l.length _ _ ⟨0, .nsl, rfl, by omega, ?_⟩
  · rintro m e Hc ⟨i, w, rfl, hi, e6, e7, e8, e3, hown, hwb, hge⟩
    rcases Nat.lt_or_ge i l.length with h | h
    · have gi := aL_get h
      have hb2 := hge.at hb
      simp -implicitDefEqProofs -dsimp (disch := first | omega | (simp only [wkLen]; omega) | decide +kernel) only [↓wkPre, ↓wkPre2, ↓wkE, wkPost, wkDef, wkF, simprocAttr, e6, e7, e8, e3, hul, gi, hb2]
      refine append_step telem_26 (elems_new2 rfl rfl) (by simp) (hown.app _) ?_ ?_
      · rw [byt_3, iL_len, List.length_map, List.length_take]; simp; omega
      intro w' H' hown' hfr' hle hb'
      simp only [List.length_append, List.length_cons, List.length_nil] at hfr' hle hb'
      simp -implicitDefEqProofs -dsimp (disch := first | omega | (simp only [wkLen]; omega) | decide +kernel) only [↓wkPre, ↓wkPre2, ↓wkE, wkPost, wkDef, wkF, simprocAttr, e6, e7, e8, e3]
      refine ⟨l.length - (i + 1), by omega, i + 1, w', rfl, by omega, by push_cast; rfl, rfl, ?_, fun c hc => ?_, ?_, fun j hj => ?_⟩
      · rw [List.take_succ_eq_append_getElem h, List.map_append]
        simpa [iL] using hown'
      · by_cases hcl : c < Hc.length + (0 + 1) + (0 + 1)
        · exact hwb c (hb' c hc (by omega))
        · have := hge.1; omega
      · have := hge.1; omega
      · have hgl := hge.1
        rw [hfr' j (by omega) (fun e => by have := hwb j e; omega), hs_app (by omega)]
        exact hge.2 j hj
    · obtain rfl : i = l.length := by omega
      rw [List.take_length] at hown
      simp -implicitDefEqProofs -dsimp (disch := first | omega | (simp only [wkLen]; omega) | decide +kernel) only [↓wkPre, ↓wkPre2, ↓wkE, wkPost, wkDef, wkF, simprocAttr, e6, e7, e8, e3]
      refine imp_call md_23 (wSortO w _ Hc hown (by simpa using hl) _ ?_)
      intro H1 hown1 hfr1 hln1
      simp -implicitDefEqProofs -dsimp (disch := first | omega | (simp only [wkLen]; omega) | decide +kernel) only [↓wkPre, ↓wkPre2, ↓wkE, wkPost, wkDef, wkF, simprocAttr, e6, e7, e8, e3]
      refine imp_call md_24 (w24o w _ H1 hown1 (by simp; omega) _ ?_)
      intro v H2 hlf hfr2 hln2
      have hsh := hlf.shape
      simp -implicitDefEqProofs -dsimp (disch := first | omega | (simp only [wkLen]; omega) | decide +kernel) only [↓wkPre, ↓wkPre2, ↓wkE, wkPost, wkDef, wkF, simprocAttr, e6, e7, e8, e3, hsh.1, hsh.2.1, hsh.2.2]
      refine hq _ _ hlf ⟨by have := hge.1; omega, fun j hj => ?_⟩
      have hw : w.blk ≠ some j := fun e => by have := hwb j e; omega
      rw [hfr2 j hw, hfr1 j hw (by have := hge.1; omega)]
      exact hge.2 j hj
  · simp -implicitDefEqProofs -dsimp (disch := first | omega | (simp only [wkLen]; omega) | decide +kernel) only [↓wkPre, ↓wkPre2, ↓wkE, wkPost, wkDef, wkF, simprocAttr]
    exact ⟨OwnS.nil _ _, fun c hc => (by cases hc), GE.refl _⟩
/-- slices.Clone. -/
theorem w32 {v : AV} {l : List Int} (H : Heap) (h0 : LF H v l) (hl : l.length ≤ 1000000) (hne : l ≠ []) (Q : AV → Heap → Prop)
    (hq : ∀ b' g' H', H'[b']? = some (.arr true g' 0 (iL l)) → H.length ≤ b' → GE H H' → Q (.ref b' g' 0 l.length false) H') : (W Cf okf).call 32 [v] H Q := by
  refine top_mk extMono Try.func32 body32 (by decide) rfl ?_
  simp only [c32, Try.f32, Option.getD_some]
  have hul := iL_len l
  rcases h0 with ⟨_, h⟩ | ⟨b, g, ex, lv, zs, rfl, hb⟩
  · exact absurd h hne
  have hbl := (List.getElem?_eq_some_iff.1 hb).1
  have hln : (iL l ++ zs).length = l.length + zs.length := by rw [List.length_append, hul]
  have hpos : 0 < l.length := List.length_pos_iff.2 hne
  simp -implicitDefEqProofs -dsimp (disch := first | omega | (simp only [wkLen]; omega) | decide +kernel) only [↓wkPre, ↓wkPre2, ↓wkE, wkPost, wkDef, wkF, simprocAttr, hb, hln]
  refine append_any telem_26 (ys := iL l) (xs := []) ?_ (.inr ⟨H.length, 0, rfl, by simp⟩) (by rw [byt_3, hul]; simp; omega) ?_
  · simp [elems, hs_app hbl, hb, hul]
  intro v' H' hown hfr hle hbk
  rw [List.nil_append] at hown
  rcases hown with ⟨_, h9⟩ | ⟨b', g', rfl, hb'⟩
  · exact absurd (by simpa [iL] using h9) hne
  rw [hul]
  simp -implicitDefEqProofs -dsimp (disch := first | omega | (simp only [wkLen]; omega) | decide +kernel) only [↓wkPre, ↓wkPre2, ↓wkE, wkPost, wkDef, wkF, simprocAttr]
  refine hq _ _ _ hb' ?_ ⟨by simp at hle; omega, fun i hi => ?_⟩
  · rcases Nat.lt_or_ge b' (H ++ [Blk.arr true 0 0 []]).length with h1 | h1
    · have := hbk b' rfl h1
      simp [AV.blk] at this
      omega
    · simp at h1; omega
  · rw [hfr i (by simp; omega) (by simp [AV.blk]; omega)]
    exact hs_app hi
end Go.Ev.F23
end
section
namespace Go.Ev.F23
open Go.Proofs Go.Ev Go.Sort
set_option maxRecDepth 100000
set_option linter.all false
/-- Who comes ahead of whom, as it is found. -/
def rawI (x : Acc) (t : List Acc) : List Arc := (t.filter (conf x)).map (fun y => (x.1, y.1))
def rawA : List Acc → List Arc
  | [] => []
  | x :: t => rawI x t ++ rawA t
theorem rawI_cons (x y : Acc) (t : List Acc) : rawI x (y :: t) = (if conf x y then [(x.1, y.1)] else []) ++ rawI x t := by
  unfold rawI
  cases h : conf x y <;> simp [h]
theorem mem_rawA (a : Arc) : ∀ l : List Acc, a ∈ rawA l ↔ ahB a.1 a.2 l = true
  | [] => by simp [rawA, ahB]
  | x :: t => by
    rw [rawA, List.mem_append, mem_rawA a t, ahB, Bool.or_eq_true, List.any_eq_true]
    refine or_congr ⟨fun h => ?_, fun ⟨y, h1, h2⟩ => ?_⟩ Iff.rfl
    · unfold rawI at h
      obtain ⟨y, h1, rfl⟩ := List.mem_map.1 h
      obtain ⟨h1, h2⟩ := List.mem_filter.1 h1
      refine ⟨y, h1, ?_⟩
      simpa [hit, conf] using h2
    · unfold hit at h2
      simp only [Bool.and_eq_true, beq_iff_eq] at h2
      obtain ⟨h3, h4, h5⟩ := h2
      obtain ⟨a1, a2⟩ := a
      subst h3; subst h4
      exact List.mem_map.2 ⟨y, List.mem_filter.2 ⟨h1, by simpa [conf] using h5⟩, rfl⟩
theorem rawA_len : ∀ l : List Acc, (rawA l).length ≤ l.length * l.length
  | [] => Nat.le_refl _
  | x :: t => by
    have h1 : (rawI x t).length ≤ t.length := by unfold rawI; rw [List.length_map]; exact List.length_filter_le _ _
    have h2 := rawA_len t
    rw [rawA, List.length_append, List.length_cons]
    have : (t.length + 1) * (t.length + 1) = t.length * t.length + 2 * t.length + 1 := by
      rw [Nat.add_mul, Nat.mul_add]; omega
    omega
theorem rL_snoc (l : List Arc) (x : Arc) : rL (l ++ [x]) = rL l ++ [.agg [.int .i64 x.1, .int .i64 x.2]] := by simp [rL]
theorem aL_drop (l : List Acc) (k : Nat) : (aL l).drop k = aL (l.drop k) := by simp [aL, List.map_drop]
theorem aL_taken (l : List Acc) (k : Nat) : (aL l).take k = aL (l.take k) := by simp [aL, List.map_take]
theorem w37n (H : Heap) (Q : AV → Heap → Prop) (hq : Q .nsl H) : (W Cf okf).call 37 [.nsl] H Q := by
  refine top_mk extMono Try.func37 body37 (by decide) rfl ?_
  simp only [c37, Try.f37, Option.getD_some]
  simp -implicitDefEqProofs -dsimp (disch := first | omega | (simp only [wkLen]; omega) | decide +kernel) only [↓wkPre, ↓wkPre2, ↓wkE, wkPost, wkDef, wkF, simprocAttr]
  exact hq
theorem p14 (l : List Acc) (hl : l.length ≤ 40) : PS Cf okf 14 [34] [acs l] (fun r => ∃ A : List Arc, r = rcs A ∧ A.Pairwise (fun a b => ltR a b = true) ∧ A.length ≤ 1600 ∧ ∀ a, a ∈ A ↔ ahB a.1 a.2 l = true) := by
  refine PS.mk extMono Try.func14 body14 (by decide) rfl ?_
  simp only [c14, Try.f14, Option.getD_some]
  have hul := aL_len l
  have hB : (rawA l).length ≤ 1600 := Nat.le_trans (rawA_len l) (Nat.mul_le_mul hl hl)
  simp -implicitDefEqProofs -dsimp (disch := first | omega | (simp only [wkLen]; omega) | decide +kernel) only [↓wkPre, ↓wkPre2, ↓wkE, wkPost, wkDef, wkF, simprocAttr]
  refine loop_use extMono (fun m e Hc => ∃ (i : Nat) (w : AV) (R : List Arc), m = l.length - i ∧ i ≤ l.length ∧ e 0 = .p (acs l) ∧ e 8 = .p (acs l) ∧ e 9 = .p (I l.length) ∧ e 10 = .p (I i) ∧ e 3 = w ∧ OwnS Hc w 2 (rL R) ∧ R ++ rawA (l.drop i) = rawA l) ?_ l.length _ _ ⟨0, .nsl, [], rfl, by omega, ?_⟩
  · rintro m e Hc ⟨i, w, R, rfl, hi, e0, e8, e9, e10, e3, hown, hR⟩
    rcases Nat.lt_or_ge i l.length with h | h
    · have gi := aL_get h
      rw [List.drop_eq_getElem_cons h, rawA, ← List.append_assoc] at hR
      simp -implicitDefEqProofs -dsimp (disch := first | omega | (simp only [wkLen]; omega) | decide +kernel) only [↓wkPre, ↓wkPre2, ↓wkE, wkPost, wkDef, wkF, simprocAttr, e0, e8, e9, e10, e3, hul, gi]
      refine loop_use extMono (fun m e Hc => ∃ (k c : Nat) (w : AV) (R : List Arc), m = l.length - k ∧ i < k ∧ k ≤ l.length ∧ e 0 = .p (acs l) ∧ e 8 = .p (acs l) ∧ e 9 = .p (I l.length) ∧ e 10 = .p (I i) ∧ e 3 = w ∧ e 5 = .vptr c 0 ∧ e 18 = .p (acs (l.drop (i + 1))) ∧ e 19 = .p (I (l.length - (i + 1) : Nat)) ∧ e 20 = .p (I (k - (i + 1) : Nat)) ∧
        Hc[c]? = some (.var true (.p (EA l[i]))) ∧ w.blk ≠ some c ∧ OwnS Hc w 2 (rL R) ∧ R ++ rawI l[i] (l.drop k) ++ rawA (l.drop (i + 1)) = rawA l) ?_ (l.length - (i + 1)) _ _ ⟨i + 1, Hc.length, w, R, rfl, by omega, by omega, ?_⟩
      · rintro m e Hc ⟨k, c, w, R, rfl, hik, hk, e0, e8, e9, e10, e3, e5, e18, e19, e20, hc, hwc, hown, hR⟩
        have hcl := (List.getElem?_eq_some_iff.1 hc).1
        rcases Nat.lt_or_ge k l.length with h2 | h2
        · have gk : (aL (l.drop (i + 1)))[k - (i + 1)]? = some (.agg [.int .i64 l[k].1, .int .u64 l[k].2.1, .bool l[k].2.2]) := by
            have := aL_get (l := l.drop (i + 1)) (i := k - (i + 1)) (by rw [List.length_drop]; omega)
            rw [this]
            simp [show i + 1 + (k - (i + 1)) = k by omega]
          have hdl : (aL (l.drop (i + 1))).length = l.length - (i + 1) := by rw [aL_len, List.length_drop]
          have hlt : k - (i + 1) < l.length - (i + 1) := by omega
          have hnext : ((k - (i + 1) : Nat) : Int) + 1 = ((k + 1 - (i + 1) : Nat) : Int) := by omega
          rw [List.drop_eq_getElem_cons h2, rawI_cons] at hR
          simp -implicitDefEqProofs -dsimp (disch := first | omega | (simp only [wkLen]; omega) | decide +kernel) only [↓wkPre, ↓wkPre2, ↓wkE, wkPost, wkDef, wkF, simprocAttr, e0, e8, e9, e10, e3, e5, e18, e19, e20, hdl, gk, hc]
          refine PS.app md_22 Try.func22 (p22 _ _) rfl ?_
          rintro _ rfl
          cases hcf : conf l[i] l[k]
          · rw [hcf] at hR
            simp -implicitDefEqProofs -dsimp (disch := first | omega | (simp only [wkLen]; omega) | decide +kernel) only [↓wkPre, ↓wkPre2, ↓wkE, wkPost, wkDef, wkF, simprocAttr, e0, e8, e9, e10, e3, e5, e18, e19, e20, hcf]
            exact ⟨l.length - (k + 1), by omega, k + 1, c, w, R, rfl, by omega, by omega, rfl, rfl, by rw [hnext], (hs_app hcl).trans hc, hwc, hown.app _, by simpa using hR⟩
          · rw [hcf] at hR
            have hRl : R.length + 1 ≤ 1600 := by have := congrArg List.length hR; simp at this; omega
            have hcx := (hs_app (l := [Blk.var true (.p (EA l[k]))]) hcl).trans hc
            simp -implicitDefEqProofs -dsimp (disch := first | omega | (simp only [wkLen]; omega) | decide +kernel) only [↓wkPre, ↓wkPre2, ↓wkE, wkPost, wkDef, wkF, simprocAttr, e0, e8, e9, e10, e3, e5, e18, e19, e20, hcf, hcx]
            refine append_step telem_34 (elems_new2 rfl rfl) (by simp) (hown.app _) ?_ ?_
            · rw [byt_37, rL_len]; simp; omega
            intro w' H' hown' hfr hle hb'
            simp only [List.length_append, List.length_cons, List.length_nil] at hfr hle hb'
            simp -implicitDefEqProofs -dsimp (disch := first | omega | (simp only [wkLen]; omega) | decide +kernel) only [↓wkPre, ↓wkPre2, ↓wkE, wkPost, wkDef, wkF, simprocAttr, e0, e8, e9, e10, e3, e5, e18, e19, e20]
            refine ⟨l.length - (k + 1), by omega, k + 1, c, w', R ++ [(l[i].1, l[k].1)], rfl, by omega, by omega, rfl, rfl, by rw [hnext], ?_, fun h9 => hwc (hb' c h9 (by omega)), ?_, by simpa using hR⟩
            · rw [hfr c (by omega) hwc, hs_app hcl]; exact hc
            · rw [rL_snoc]; exact hown'
        · obtain rfl : k = l.length := by omega
          rw [List.drop_length] at hR
          simp -implicitDefEqProofs -dsimp (disch := first | omega | (simp only [wkLen]; omega) | decide +kernel) only [↓wkPre, ↓wkPre2, ↓wkE, wkPost, wkDef, wkF, simprocAttr, e0, e8, e9, e10, e3, e5, e18, e19, e20]
          exact ⟨l.length - (i + 1), by omega, i + 1, w, R, rfl, by omega, by push_cast; rfl, rfl, hown, by simpa [rawI] using hR⟩
      · simp -implicitDefEqProofs -dsimp (disch := first | omega | (simp only [wkLen]; omega) | decide +kernel) only [↓wkPre, ↓wkPre2, ↓wkE, wkPost, wkDef, wkF, simprocAttr]
        have hx : List.drop ((i : Int) + 1).toNat (List.take l.length (aL l)) = aL (l.drop (i + 1)) := by rw [show ((i : Int) + 1).toNat = i + 1 by omega, ← hul, List.take_length, aL_drop]
        rw [hx]
        exact ⟨e0, e8, e9, e10, e3, rfl, by rw [aL_len, List.length_drop], fun h9 => by have := hown.lt _ h9; omega, hown.app _, by simpa using hR⟩
    · obtain rfl : i = l.length := by omega
      rw [List.drop_length, rawA, List.append_nil] at hR
      subst hR
      have fin : ∀ ys : List Arc, ys.Perm (rawA l) → (∀ i j, i < j → j < ys.length → ltR ys[j]! ys[i]! = false) →
          (cmpT ys ys.length).Pairwise (fun a b => ltR a b = true) ∧ (cmpT ys ys.length).length ≤ 1600 ∧ ∀ a, a ∈ cmpT ys ys.length ↔ ahB a.1 a.2 l = true := fun ys hp hs => by
        obtain ⟨h1, h2⟩ := cmpT_rise swoR (fun a b h1 h2 => by simp only [ltR, decide_eq_false_iff_not] at h1 h2; exact Prod.ext (by omega) (by omega)) hs _ (Nat.le_refl _)
        refine ⟨h1, ?_, fun a => ?_⟩
        · have := cmpT_len ys ys.length
          have := hp.length_eq
          omega
        · rw [h2, List.take_length, hp.mem_iff, mem_rawA]
      simp -implicitDefEqProofs -dsimp (disch := first | omega | (simp only [wkLen]; omega) | decide +kernel) only [↓wkPre, ↓wkPre2, ↓wkE, wkPost, wkDef, wkF, simprocAttr, e0, e8, e9, e10, e3]
      refine ext_call md_34 ?_
      rcases hown with ⟨rfl, hx0⟩ | ⟨b, g, rfl, hb⟩
      · have hr0 : rawA l = [] := by simpa [rL] using hx0
        refine .inl ⟨rfl, ?_⟩
        simp -implicitDefEqProofs -dsimp (disch := first | omega | (simp only [wkLen]; omega) | decide +kernel) only [↓wkPre, ↓wkPre2, ↓wkE, wkPost, wkDef, wkF, simprocAttr, e0, e8, e9, e10, e3]
        refine imp_call md_37 (w37n _ _ ?_)
        simp -implicitDefEqProofs -dsimp (disch := first | omega | (simp only [wkLen]; omega) | decide +kernel) only [↓wkPre, ↓wkPre2, ↓wkE, wkPost, wkDef, wkF, simprocAttr, e0, e8, e9, e10, e3]
        obtain ⟨f1, f2, f3⟩ := fin [] (by rw [hr0]) (fun i j _ h => by simp at h)
        exact ⟨[], rfl, f1, f2, f3⟩
      · rw [rL_len] at e3 ⊢
        refine .inr ⟨b, g, false, rawA l, hb, by omega, rfl, fun ys hp hs => ?_⟩
        have hyl := hp.length_eq
        rw [← hyl] at e3
        simp -implicitDefEqProofs -dsimp (disch := first | omega | (simp only [wkLen]; omega) | decide +kernel) only [↓wkPre, ↓wkPre2, ↓wkE, wkPost, wkDef, wkF, simprocAttr, e0, e8, e9, e10, e3]
        have hbl := (List.getElem?_eq_some_iff.1 hb).1
        refine imp_call md_37 (w37 (hs_set hbl) (by omega) _ fun ex' zs hz => ?_)
        obtain ⟨f1, f2, f3⟩ := fin ys hp hs
        have hfz : frzN Try.prog ((Hc.set b (.arr true g 2 (rL ys))).set b (.arr true g 2 (rL (cmpT ys ys.length) ++ zs))) 4 34 (.ref b g 0 (cmpT ys ys.length).length ex') = some (rcs (cmpT ys ys.length)) := by
          rw [frzN_ref, hs_set (by simpa using hbl)]
          simp [rL_len]
        simp -implicitDefEqProofs -dsimp (disch := first | omega | (simp only [wkLen]; omega) | decide +kernel) only [↓wkPre, ↓wkPre2, ↓wkE, wkPost, wkDef, wkF, simprocAttr, e0, e8, e9, e10, e3]
        rw [hfz]
        exact ⟨_, rfl, f1, f2, f3⟩
  · simp -implicitDefEqProofs -dsimp (disch := first | omega | (simp only [wkLen]; omega) | decide +kernel) only [↓wkPre, ↓wkPre2, ↓wkE, wkPost, wkDef, wkF, simprocAttr]
    exact ⟨by rw [hul], OwnS.nil _ _⟩
end Go.Ev.F23
end
section
namespace Go.Ev.F23
open Go.Proofs Go.Ev Go.Sort
set_option maxRecDepth 100000
set_option linter.all false
/-- Is one of those who are left ahead of somebody? -/
def blk (l : List Acc) (left : List Int) (x : Int) : Bool := left.any (fun y => ahB y x l)
def pick (l : List Acc) (left : List Int) : Option Int := left.find? (fun x => !blk l left x)
def ordS (l : List Acc) : Nat → List Int → List Int → List Int × Bool
  | 0, _, out => (out, true)
  | n + 1, left, out => match pick l left with
    | none => ([], false)
    | some x => ordS l n (left.erase x) (out ++ [x])
theorem bar_blk {l : List Acc} {A : List Arc} (hA : ∀ a, a ∈ A ↔ ahB a.1 a.2 l = true) (left : List Int) (x : Int) : A.any (bar x left) = blk l left x := by
  rw [Bool.eq_iff_iff, List.any_eq_true, blk, List.any_eq_true]
  constructor
  · rintro ⟨a, h1, h2⟩
    simp only [bar, Bool.and_eq_true, beq_iff_eq, decide_eq_true_eq] at h2
    obtain ⟨rfl, h3⟩ := h2
    exact ⟨a.1, h3, (hA a).1 h1⟩
  · rintro ⟨y, h1, h2⟩
    exact ⟨(y, x), (hA _).2 h2, by simp [bar, h1]⟩
theorem frI_spec {l : List Acc} {A : List Arc} (hA : ∀ a, a ∈ A ↔ ahB a.1 a.2 l = true) (left : List Int) : ∀ (t : List Int) (n : Int),
    (t.find? (fun x => !blk l left x) = none ∧ frI A left t n = -1) ∨ ∃ (i : Nat) (h : i < t.length), t.find? (fun x => !blk l left x) = some t[i] ∧ frI A left t n = n + i ∧ t.eraseIdx i = t.erase t[i]
  | [], n => .inl ⟨rfl, rfl⟩
  | x :: t, n => by
    cases hb : blk l left x
    · refine .inr ⟨0, by simp, by simp [hb], ?_, by simp⟩
      simp [frI, bar_blk hA, hb]
    · rcases frI_spec hA left t (n + 1) with ⟨h1, h2⟩ | ⟨i, h0, h1, h2, h3⟩
      · refine .inl ⟨by simp [hb]; simpa using h1, ?_⟩
        simp [frI, bar_blk hA, hb, h2]
      · refine .inr ⟨i + 1, by simp; omega, by simp [hb]; simpa using h1, ?_, ?_⟩
        · simp [frI, bar_blk hA, hb, h2]; omega
        · have hne : x ≠ t[i] := fun e => by
            have := List.find?_some h1
            rw [← e, hb] at this; simp at this
          rw [List.eraseIdx_cons_succ, h3, List.getElem_cons_succ, List.erase_cons_tail (by simpa using hne)]
theorem LF.keep {H H' : Heap} {v : AV} {l : List Int} (h : LF H v l) (k : ∀ c, v.blk = some c → H'[c]? = H[c]?) : LF H' v l := by
  rcases h with h | ⟨b, g, ex, lv, zs, h1, h2⟩
  · exact .inl h
  · exact .inr ⟨b, g, ex, lv, zs, h1, (k b (by rw [h1]; rfl)).trans h2⟩
theorem LF.lt {H : Heap} {v : AV} {l : List Int} (h : LF H v l) : ∀ c, v.blk = some c → c < H.length := by
  rcases h with ⟨rfl, _⟩ | ⟨b, g, ex, lv, zs, rfl, h2⟩
  · intro c hc; cases hc
  · intro c hc; cases hc; exact (List.getElem?_eq_some_iff.1 h2).1
theorem p11 (l : List Acc) (hl : l.length ≤ 40) : PS Cf okf 11 [26, 4] [acs l] (fun r => r = .tup [ins (ordS l (ppl l).length (ppl l) []).1, B (ordS l (ppl l).length (ppl l) []).2]) := by
  refine PS.mk extMono Try.func11 body11 (by decide) rfl ?_
  simp only [c11, Try.f11, Option.getD_some]
  have hpl := ppl_len l
  simp -implicitDefEqProofs -dsimp (disch := first | omega | (simp only [wkLen]; omega) | decide +kernel) only [↓wkPre, ↓wkPre2, ↓wkE, wkPost, wkDef, wkF, simprocAttr]
  refine PS.app md_14 Try.func14 (p14 l hl) rfl ?_
  rintro _ ⟨A, rfl, _, hAl, hA⟩
  simp -implicitDefEqProofs -dsimp (disch := first | omega | (simp only [wkLen]; omega) | decide +kernel) only [↓wkPre, ↓wkPre2, ↓wkE, wkPost, wkDef, wkF, simprocAttr]
  refine imp_call md_9 (w9 l _ (by omega) _ fun v H1 hlf hge => ?_)
  have hsh := hlf.shape
  simp -implicitDefEqProofs -dsimp (disch := first | omega | (simp only [wkLen]; omega) | decide +kernel) only [↓wkPre, ↓wkPre2, ↓wkE, wkPost, wkDef, wkF, simprocAttr, hsh.1, hsh.2.1, hsh.2.2]
  have hcl1 : 0 < H1.length := by have := hge.1; simp at this; omega
  have hA0 : H1[0]? = some (.var true (.p (rcs A))) := hge.at rfl
  refine loop_use extMono (fun m e Hc => ∃ (v w : AV) (left out : List Int), m = left.length ∧ left.length + out.length ≤ l.length ∧ e 5 = .vptr H1.length 0 ∧ e 6 = .fn 26 [.vptr 0 0, .vptr H1.length 0] ∧ e 7 = w ∧
    Hc[0]? = some (.var true (.p (rcs A))) ∧ Hc[H1.length]? = some (.var true v) ∧ LF Hc v left ∧ OwnS Hc w 0 (iL out) ∧ w.blk ≠ some 0 ∧ w.blk ≠ some H1.length ∧ (∀ c, w.blk = some c → v.blk ≠ some c) ∧
    ordS l (ppl l).length (ppl l) [] = ordS l left.length left out) ?_ (ppl l).length _ _ ⟨v, .nsl, ppl l, [], rfl, ?_⟩
  · rintro m e Hc ⟨v, w, left, out, rfl, hln, e5, e6, e7, hc0, hc1, hlf, hown, hw0, hw1, hwv, hord⟩
    rw [hord]
    have hl0 := (List.getElem?_eq_some_iff.1 hc0).1
    have hl1 := (List.getElem?_eq_some_iff.1 hc1).1
    rcases id hlf with ⟨rfl, rfl⟩ | ⟨b, g, ex, lv, zs, rfl, hb⟩
    · have hfz := frz_own (P := Try.prog) (n := 4) telem_26 hown
      rcases hown with ⟨rfl, hx0⟩ | ⟨b, g, rfl, hb⟩
      · simp -implicitDefEqProofs -dsimp (disch := first | omega | (simp only [wkLen]; omega) | decide +kernel) only [↓wkPre, ↓wkPre2, ↓wkE, wkPost, wkDef, wkF, simprocAttr, e5, e6, e7, hc1]
        show PV.tup [.sl 0 [], B true] = .tup [.sl 0 (iL out), B true]
        rw [hx0]
      · simp -implicitDefEqProofs -dsimp (disch := first | omega | (simp only [wkLen]; omega) | decide +kernel) only [↓wkPre, ↓wkPre2, ↓wkE, wkPost, wkDef, wkF, simprocAttr, e5, e6, e7, hc1]
        rw [hfz]; rfl
    · rcases Nat.eq_zero_or_pos left.length with hz | hpos
      · have hfz := frz_own (P := Try.prog) (n := 4) telem_26 hown
        have hl9 : left = [] := List.eq_nil_of_length_eq_zero hz
        subst hl9
        rcases hown with ⟨rfl, hx0⟩ | ⟨b, g, rfl, hb⟩
        · simp -implicitDefEqProofs -dsimp (disch := first | omega | (simp only [wkLen]; omega) | decide +kernel) only [↓wkPre, ↓wkPre2, ↓wkE, wkPost, wkDef, wkF, simprocAttr, e5, e6, e7, hc1, List.length_nil]
          show PV.tup [.sl 0 [], B true] = .tup [.sl 0 (iL out), B true]
          rw [hx0]
        · simp -implicitDefEqProofs -dsimp (disch := first | omega | (simp only [wkLen]; omega) | decide +kernel) only [↓wkPre, ↓wkPre2, ↓wkE, wkPost, wkDef, wkF, simprocAttr, e5, e6, e7, hc1, List.length_nil]
          rw [hfz]; rfl
      · have hne : left ≠ [] := List.length_pos_iff.1 hpos
        simp -implicitDefEqProofs -dsimp (disch := first | omega | (simp only [wkLen]; omega) | decide +kernel) only [↓wkPre, ↓wkPre2, ↓wkE, wkPost, wkDef, wkF, simprocAttr, e5, e6, e7, hc1]
        refine imp_call md_30 (w30 A hc0 hc1 hlf (by omega) (by omega) hne _ fun H2 hg2 => ?_)
        have hd0 := hg2.at hc0
        have hd1 := hg2.at hc1
        have hdf := hlf.ge hg2
        have hdo : OwnS H2 w 0 (iL out) := hown.keep fun c hc => hg2.2 c (hown.lt c hc)
        have hdb := hg2.at hb
        rcases frI_spec hA left left 0 with ⟨f1, f2⟩ | ⟨i, hi, f1, f2, f3⟩
        · have ho : ordS l left.length left out = ([], false) := by
            obtain ⟨n, hn⟩ : ∃ n, left.length = n + 1 := ⟨left.length - 1, by omega⟩
            rw [hn, ordS, pick, f1]
          rw [ho]
          simp -implicitDefEqProofs -dsimp (disch := first | omega | (simp only [wkLen]; omega) | decide +kernel) only [↓wkPre, ↓wkPre2, ↓wkE, wkPost, wkDef, wkF, simprocAttr, e5, e6, e7, f2]
          rfl
        · rw [Int.zero_add] at f2
          have ho : ordS l left.length left out = ordS l (left.eraseIdx i).length (left.eraseIdx i) (out ++ [left[i]]) := by
            obtain ⟨n, hn⟩ : ∃ n, left.length = n + 1 := ⟨left.length - 1, by omega⟩
            rw [List.length_eraseIdx_of_lt hi, hn, ordS, pick, f1, f3]
            rfl
          have gi := pre_get (zs := zs) hi
          have hln : (iL left ++ zs).length = left.length + zs.length := by rw [List.length_append, iL_len]
          simp -implicitDefEqProofs -dsimp (disch := first | omega | (simp only [wkLen]; omega) | decide +kernel) only [↓wkPre, ↓wkPre2, ↓wkE, wkPost, wkDef, wkF, simprocAttr, e5, e6, e7, f2, hd1, hdb, gi, hln]
          refine append_step telem_26 (elems_new rfl rfl) (by simp) (hdo.app _) ?_ ?_
          · rw [byt_3, iL_len]; simp; omega
          intro w' H3 hown3 hfr3 hle3 hb3
          simp only [List.length_append, List.length_cons, List.length_nil] at hfr3 hle3 hb3
          have hgl2 := hg2.1
          have k0 : H3[0]? = some (.var true (.p (rcs A))) := by rw [hfr3 0 (by omega) hw0, hs_app (by omega)]; exact hd0
          have k1 : H3[H1.length]? = some (.var true (.ref b g 0 left.length ex)) := by rw [hfr3 _ (by omega) hw1, hs_app (by omega)]; exact hd1
          have kl : LF H3 (.ref b g 0 left.length ex) left := hdf.keep fun c hc => by
            have hcl := hdf.lt c hc
            rw [hfr3 c (by omega) (fun h9 => hwv c h9 hc), hs_app hcl]
          simp -implicitDefEqProofs -dsimp (disch := first | omega | (simp only [wkLen]; omega) | decide +kernel) only [↓wkPre, ↓wkPre2, ↓wkE, wkPost, wkDef, wkF, simprocAttr, e5, e6, e7, f2, k1]
          refine imp_call md_32 (w32 H3 kl (by omega) hne _ fun b' g' H4 hb4 hbl4 hg4 => ?_)
          simp -implicitDefEqProofs -dsimp (disch := first | omega | (simp only [wkLen]; omega) | decide +kernel) only [↓wkPre, ↓wkPre2, ↓wkE, wkPost, wkDef, wkF, simprocAttr, e5, e6, e7, f2]
          refine ext_call md_31 ⟨b', g', i, left, hb4, hi, by omega, rfl, ?_⟩
          have hb4l := (List.getElem?_eq_some_iff.1 hb4).1
          have q1 : (H4.set b' (.arr true (g' + 1) 0 ((left.eraseIdx i).map (PV.int .i64))))[H1.length]? = some (.var true (.ref b g 0 left.length ex)) := by
            rw [hs_ne (by omega)]; exact hg4.at k1
          simp -implicitDefEqProofs -dsimp (disch := first | omega | (simp only [wkLen]; omega) | decide +kernel) only [↓wkPre, ↓wkPre2, ↓wkE, wkPost, wkDef, wkF, simprocAttr, e5, e6, e7, f2, q1]
          have hwl := hown3.lt
          have hwn : ∀ c, w'.blk = some c → c ≠ 0 ∧ c ≠ H1.length ∧ c ≠ b' := fun c hc => by
            have h8 := hwl c hc
            refine ⟨fun h9 => ?_, fun h9 => ?_, by omega⟩
            · subst h9; exact hw0 (hb3 _ hc (by omega))
            · subst h9; exact hw1 (hb3 _ hc (by omega))
          have hel : (left.eraseIdx i).length = left.length - 1 := List.length_eraseIdx_of_lt hi
          refine ⟨left.length - 1, by omega, .ref b' (g' + 1) 0 (left.length - 1) false, w', left.eraseIdx i, out ++ [left[i]], hel.symm, ?_, rfl, hg4.at k0, rfl, ?_, ?_, ?_, ?_, ?_, ho⟩
          · rw [hel, List.length_append, List.length_singleton]; omega
          · rw [← hel]
            refine .inr ⟨b', g' + 1, false, true, [], rfl, ?_⟩
            rw [hs_ne (by omega), hs_set hb4l, List.append_nil]; rfl
          · rw [iL_snoc]
            refine hown3.keep fun c hc => ?_
            obtain ⟨n1, n2, n3⟩ := hwn c hc
            rw [hs_ne (Ne.symm n2), hs_ne (Ne.symm n3)]
            exact hg4.2 c (hwl c hc)
          · exact fun h9 => (hwn _ h9).1 rfl
          · exact fun h9 => (hwn _ h9).2.1 rfl
          · exact fun c hc h9 => (hwn c hc).2.2 (by simpa [AV.blk] using h9.symm)
  · simp -implicitDefEqProofs -dsimp (disch := first | omega | (simp only [wkLen]; omega) | decide +kernel) only [↓wkPre, ↓wkPre2, ↓wkE, wkPost, wkDef, wkF, simprocAttr]
    exact ⟨hpl, hA0, hlf.ge (GE.app _ _), OwnS.nil _ _, fun h => (by cases h), fun h => (by cases h), fun c h => (by cases h)⟩
end Go.Ev.F23
end
section
namespace Go.Ev.F23
open Go.Proofs Go.Ev Go.Sort
set_option maxRecDepth 100000
set_option linter.all false
abbrev EF (x : Int × Int) : PV := .agg [.int .i64 x.1, .int .i64 x.2]
theorem keyEnc_acc : KeyEnc (.wide [2, 2, 1]) EA := fun x y => by
  obtain ⟨a, b, c⟩ := x
  obtain ⟨d, e, f⟩ := y
  simp only [EA, keyEq, cellsEq, leafEq]
  have h0 : (match if True then some (a == d) else none, (match if True then some (b == e) else none, some (c == f && true) with | some a, some b => some (a && b) | x, x_1 => none : Option Bool) with | some a, some b => some (a && b) | x, x_1 => none : Option Bool) = some ((a == d) && ((b == e) && (c == f))) := by simp
  refine h0.trans ?_
  rw [Option.some.injEq, Bool.eq_iff_iff]
  simp
theorem keyEnc_u : KeyEnc (.plain 2) U := keyEnc_int .u64
/-- Where the last write of a key came from, and how many like an access there were, of the first n. -/
def lastF (l : List Acc) (n : Nat) (k : Int) : Option (Int × Int) := if srcA l k n < 0 then none else some (l[(srcA l k n).toNat]!.1, (nthA l l[(srcA l k n).toNat]! ((srcA l k n).toNat + 1) : Nat))
def cntF (l : List Acc) (n : Nat) (x : Acc) : Option Int := if x.2.2 = true ∧ nthA l x n ≠ 0 then some (nthA l x n : Nat) else none
theorem cntF_no {l : List Acc} {n : Nat} (h : n < l.length) (hw : l[n].2.2 = false) (x : Acc) : cntF l (n + 1) x = cntF l n x := by
  unfold cntF
  rw [nthA_succ h]
  by_cases hx : l[n] = x
  · subst hx; simp [hw]
  · simp [hx]
theorem cntF_yes {l : List Acc} {n : Nat} (h : n < l.length) (hw : l[n].2.2 = true) (x : Acc) : cntF l (n + 1) x = if x = l[n] then some ((nthA l l[n] n : Int) + 1) else cntF l n x := by
  unfold cntF
  rw [nthA_succ h]
  by_cases hx : l[n] = x
  · subst hx; simp [hw]
  · simp [hx, Ne.symm hx]
theorem cntF_get {l : List Acc} {n : Nat} (h : n < l.length) (hw : l[n].2.2 = true) : (cntF l n l[n]).getD 0 = (nthA l l[n] n : Int) := by
  unfold cntF
  by_cases h0 : nthA l l[n] n = 0 <;> simp [hw, h0]
theorem lastF_no {l : List Acc} {n : Nat} (h : n < l.length) (hw : l[n].2.2 = false) (k : Int) : lastF l (n + 1) k = lastF l n k := by
  have hg : l[n]! = l[n] := getElem!_pos l n h
  have : srcA l k (n + 1) = srcA l k n := by rw [srcA, hg, hw]; rfl
  unfold lastF
  rw [this]
theorem lastF_yes {l : List Acc} {n : Nat} (h : n < l.length) (hw : l[n].2.2 = true) (k : Int) : lastF l (n + 1) k = if k = l[n].2.1 then some (l[n].1, (nthA l l[n] n : Int) + 1) else lastF l n k := by
  have hg : l[n]! = l[n] := getElem!_pos l n h
  by_cases hk : k = l[n].2.1
  · have : srcA l k (n + 1) = n := by rw [srcA, hg, hw, hk]; simp
    unfold lastF
    rw [this, if_pos hk, if_neg (by omega), Int.toNat_natCast, hg, nthA_succ h, if_pos rfl]
    push_cast; rfl
  · have : srcA l k (n + 1) = srcA l k n := by rw [srcA, hg, hw]; simp [Ne.symm hk]
    unfold lastF
    rw [this, if_neg hk]
def frm (l : List Acc) (i : Nat) : Int × Int := (lastF l i l[i]!.2.1).getD (0, 0)
def frmL (l : List Acc) (n : Nat) : List PV := (List.range n).map (fun i => EF (frm l i))
theorem p17 (l : List Acc) (hl : l.length ≤ 1000) : PS Cf okf 17 [40] [acs l] (fun r => r = .sl 2 (frmL l l.length)) := by
  refine PS.mk extMono Try.func17 body17 (by decide) rfl ?_
  simp only [c17, Try.f17, Option.getD_some]
  have hul := aL_len l
  simp -implicitDefEqProofs -dsimp (disch := first | omega | (simp only [wkLen]; omega) | decide +kernel) only [↓wkPre, ↓wkPre2, ↓wkE, wkPost, wkDef, wkF, simprocAttr]
  refine loop_use extMono (fun m e Hc => ∃ (i : Nat) (w : AV), m = l.length - i ∧ i ≤ l.length ∧ e 3 = .map 0 ∧ e 4 = .map 1 ∧ e 10 = .p (acs l) ∧ e 11 = .p (I l.length) ∧ e 12 = .p (I i) ∧ e 5 = w ∧
    MF Hc 0 U (fun x => .p (EF x)) (lastF l i) ∧ MF Hc 1 EA (fun n => .p (I n)) (cntF l i) ∧ OwnS Hc w 2 (frmL l i) ∧ w.blk ≠ some 0 ∧ w.blk ≠ some 1) ?_ l.length _ _ ⟨0, .nsl, rfl, by omega, ?_⟩
  · rintro m e Hc ⟨i, w, rfl, hi, e3, e4, e10, e11, e12, e5, hm0, hm1, hown, hw0, hw1⟩
    have h0l := hm0.lt
    have h1l := hm1.lt
    rcases Nat.lt_or_ge i l.length with h | h
    · have gi := aL_get h
      have hg : l[i]! = l[i] := getElem!_pos l i h
      have hm0' : MF (Hc ++ [Blk.var true (.p (EA l[i]))]) 0 U (fun x => .p (EF x)) (lastF l i) := hm0.keep (hs_app h0l)
      have hlk := hm0'.look tmap_65 keyEnc_u (z := .p (EF (0, 0))) tzero_47 l[i].2.1 false
      have hel : (lastF l i l[i].2.1).elim (AV.p (EF (0, 0))) (fun x => .p (EF x)) = .p (EF (frm l i)) := by
        unfold frm; rw [hg]
        cases lastF l i l[i].2.1 <;> rfl
      simp only [Bool.false_eq_true, if_false, hel] at hlk
      simp -implicitDefEqProofs -dsimp (disch := first | omega | (simp only [wkLen]; omega) | decide +kernel) only [↓wkPre, ↓wkPre2, ↓evC_region_st [9], ↓evC_text_st [9], ↓evC_cond, ↓evC_block, ↓evC_stop [9], wkPost, wkDef, wkF, simprocAttr, e3, e4, e10, e11, e12, e5, hul, gi, hlk]
      have hfl : (frmL l i).length = i := by simp [frmL]
      refine append_step telem_40 (elems_new2 rfl rfl) (by simp) (hown.app _) ?_ ?_
      · rw [byt_47, hfl]; simp; omega
      intro w' H' hown' hfr hle hb'
      simp only [List.length_append, List.length_cons, List.length_nil] at hfr hle hb'
      have hbx : H'[Hc.length]? = some (.var true (.p (EA l[i]))) := by
        rw [hfr _ (by omega) (fun h9 => by have := hown.lt _ h9; omega), List.getElem?_append_right (Nat.le_refl _)]; simp
      have k0 : MF H' 0 U (fun x => .p (EF x)) (lastF l i) := hm0.keep (by rw [hfr 0 (by omega) hw0, hs_app h0l])
      have k1 : MF H' 1 EA (fun n => .p (I n)) (cntF l i) := hm1.keep (by rw [hfr 1 (by omega) hw1, hs_app h1l])
      have hw0' : w'.blk ≠ some 0 := fun h9 => hw0 (hb' _ h9 (by omega))
      have hw1' : w'.blk ≠ some 1 := fun h9 => hw1 (hb' _ h9 (by omega))
      have hwx : w'.blk ≠ some Hc.length := fun h9 => by have := hown.lt _ (hb' _ h9 (by omega)); omega
      have hfs : frmL l (i + 1) = frmL l i ++ [EF (frm l i)] := by simp [frmL, List.range_succ]
      rw [← hfs] at hown'
      cases hw : l[i].2.2
      · simp -implicitDefEqProofs -dsimp (disch := first | omega | (simp only [wkLen]; omega) | decide +kernel) only [↓wkPre, ↓wkPre2, ↓wkE, wkPost, wkDef, wkF, simprocAttr, e3, e4, e10, e11, e12, e5, hul, hbx, hw]
        exact ⟨l.length - (i + 1), by omega, i + 1, w', rfl, by omega, by push_cast; rfl, rfl, k0.congr (lastF_no h hw), k1.congr (cntF_no h hw), hown', hw0', hw1'⟩
      · simp -implicitDefEqProofs -dsimp (disch := first | omega | (simp only [wkLen]; omega) | decide +kernel) only [↓wkPre, ↓wkPre2, ↓evC_region_st [9], ↓evC_text_st [9], ↓evC_cond, ↓evC_block, ↓evC_stop [9], wkPost, wkDef, wkF, simprocAttr, e3, e4, e10, e11, e12, e5, hul, hbx, hw]
        refine stop_pl pl_17_9 (by kernel_rfl) (by decide +kernel) ?_
        simp only [pl_17_9]
        have hlk1 := k1.look tmap_66 keyEnc_acc (z := .p (I 0)) tzero_3 l[i] false
        have hz0 : (fun n : Int => AV.p (I n)) 0 = .p (I 0) := rfl
        obtain ⟨B, g, j, he1, he2, he3⟩ := k1.entry tmap_66 keyEnc_acc (y0 := 0) tzero_3 l[i]
        have hlk2 := he2.look tmap_66 keyEnc_acc (z := .p (I 0)) tzero_3 l[i] false
        have hcv : (cntF l i l[i]).elim (AV.p (I 0)) (fun n => .p (I n)) = .p (I (nthA l l[i] i)) := by
          have := cntF_get h hw
          cases hc : cntF l i l[i] with
          | none => rw [hc] at this; simp at this; simp [← this]
          | some n => rw [hc] at this; simp at this; simp [this]
        simp only [Bool.false_eq_true, if_false, if_true, hcv, cntF_get h hw, Option.elim_some] at hlk1 hlk2 he1
        have hbB : (H'.set 1 B)[1]? = some B := hs_set k1.lt
        obtain ⟨B', hs1, hs2⟩ := he3 (H'.set 1 B) ((nthA l l[i] i : Int) + 1) hbB
        have hnb := nthA_le l l[i] i
        have hbx2 : (H'.set 1 B)[Hc.length]? = some (.var true (.p (EA l[i]))) := by rw [hs_ne (by omega)]; exact hbx
        have hbx3 : ((H'.set 1 B).set 1 B')[Hc.length]? = some (.var true (.p (EA l[i]))) := by rw [hs_ne (by omega)]; exact hbx2
        have k03 : MF ((H'.set 1 B).set 1 B') 0 U (fun x => .p (EF x)) (lastF l i) := k0.keep (by rw [hs_ne (by omega), hs_ne (by omega)])
        have hlk3 := hs2.look tmap_66 keyEnc_acc (z := .p (I 0)) tzero_3 l[i] false
        simp only [Bool.false_eq_true, if_false, if_true, Option.elim_some] at hlk3
        obtain ⟨B0, hu1, hu2⟩ := k03.upd tmap_65 keyEnc_u l[i].2.1 (l[i].1, (nthA l l[i] i : Int) + 1)
        generalize hHH : (H'.set 1 B).set 1 B' = HH at hbx3 k03 hlk3 hu1 hu2 hs1 hs2
        have hl2 : HH.length = H'.length := by rw [← hHH]; simp
        simp -implicitDefEqProofs -dsimp (disch := first | omega | (simp only [wkLen]; omega) | decide +kernel) only [↓wkPre, ↓wkPre2, ↓wkE, wkPost, wkDef, wkF, simprocAttr, e3, e4, e10, e11, e12, e5, hul, hbx, hbx2, hw, evOp_mapEntry, evOp_entryStore, hlk1, hlk2, he1, hs1, hbx3, hlk3, hu1]
        refine ⟨l.length - (i + 1), by omega, i + 1, w', rfl, by omega, by push_cast; rfl, rfl, hu2.congr (lastF_yes h hw), ?_, ?_, hw0', hw1'⟩
        · exact (hs2.keep (hs_ne (by omega))).congr fun x => by rw [cntF_yes h hw]
        · refine hown'.keep fun c hc => ?_
          rw [hs_ne (fun h9 => hw0' (by rw [hc, ← h9])), ← hHH, hs_ne (fun h9 => hw1' (by rw [hc, ← h9])), hs_ne (fun h9 => hw1' (by rw [hc, ← h9]))]
    · obtain rfl : i = l.length := by omega
      have hfz := frz_own (P := Try.prog) (n := 4) telem_40 hown
      rcases hown with ⟨rfl, hx0⟩ | ⟨b, g, rfl, hb⟩
      · simp -implicitDefEqProofs -dsimp (disch := first | omega | (simp only [wkLen]; omega) | decide +kernel) only [↓wkPre, ↓wkPre2, ↓wkE, wkPost, wkDef, wkF, simprocAttr, e3, e4, e10, e11, e12, e5]
        show PV.sl 2 [] = .sl 2 (frmL l l.length)
        rw [hx0]
      · simp -implicitDefEqProofs -dsimp (disch := first | omega | (simp only [wkLen]; omega) | decide +kernel) only [↓wkPre, ↓wkPre2, ↓wkE, wkPost, wkDef, wkF, simprocAttr, e3, e4, e10, e11, e12, e5]
        rw [hfz]; rfl
  · simp -implicitDefEqProofs -dsimp (disch := first | omega | (simp only [wkLen]; omega) | decide +kernel) only [↓wkPre, ↓wkPre2, ↓wkE, wkPost, wkDef, wkF, simprocAttr]
    exact ⟨by rw [hul], ((MF.new [] U (fun x : Int × Int => AV.p (EF x))).keep rfl).congr (fun x => by simp [lastF, srcA]), (MF.new [.map true 0 [] []] EA (fun n : Int => AV.p (I n))).congr (fun x => by simp [cntF, nthA]), OwnS.nil _ _, fun h => (by cases h), fun h => (by cases h)⟩
end Go.Ev.F23
end
