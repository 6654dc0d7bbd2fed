/- A part of the proof: walks of the functions that the law calls. No condition. -/
import Derived.Test.YtffjakkofdgpbaaSorts
import Derived.Test.YtffjakkofdgpbaaRun
set_option linter.all false
section
namespace Go.Ev.F12
open Go.Proofs Go.Ev Go.Sort
set_option maxRecDepth 100000
set_option linter.all false
def usL (l : List Int) : List PV := l.map U
abbrev us (l : List Int) : PV := .sl 0 (usL l)
def arc (a : Int × Int) : PV := .agg [.int .u64 a.1, .int .u64 a.2]
def arcL (L : List (Int × Int)) : List PV := L.map arc
abbrev arcs (L : List (Int × Int)) : PV := .sl 2 (arcL L)
theorem usL_len (l : List Int) : (usL l).length = l.length := by simp [usL]
theorem arcL_len (L : List (Int × Int)) : (arcL L).length = L.length := by simp [arcL]
theorem usL_get {l : List Int} {i : Nat} (h : i < l.length) : (usL l)[i]? = some (.int .u64 l[i]) := by simp [usL, h]
theorem arcL_get {L : List (Int × Int)} {i : Nat} (h : i < L.length) : (arcL L)[i]? = some (.agg [.int .u64 L[i].1, .int .u64 L[i].2]) := by simp [arcL, h, arc]
/-- A slice of numbers: nil, or data. -/
def MU (v : AV) (l : List Int) : Prop := (v = .nsl ∧ l = []) ∨ v = .p (us l)
theorem MU.frz {v : AV} {l : List Int} (h : MU v l) (H : Heap) (n : Nat) : frzN Try.prog H n 25 v = some (us l) := by
  rcases h with ⟨rfl, rfl⟩ | rfl
  · rw [frzN_nsl, telem_25]; rfl
  · exact frzN_p _ _ _ _ _
theorem MU.ids {v : AV} {l : List Int} (h : MU v l) : ids 4 v = [] := by
  rcases h with ⟨rfl, rfl⟩ | rfl
  · exact ids_nsl 4
  · exact ids_p 4 _
theorem p25 (l : List Int) (n : Int) (hl : l.length ≤ 1000000) : PS Cf okf 25 [4] [us l, U n] (fun r => r = B (decide (n ∈ l))) := by
  refine PS.mk extMono Try.func25 body25 (by decide) rfl ?_
  simp only [c25, Try.f25, Option.getD_some]
  have hul := usL_len l
  simp -implicitDefEqProofs -dsimp (disch := first | omega | (simp only [wkLen]; omega) | decide +kernel) only [↓wkPre, ↓wkPre2, ↓wkE, wkPost, wkDef, wkF, simprocAttr]
  refine loop_use extMono (fun m e H => ∃ i : Nat, m = l.length - i ∧ i ≤ l.length ∧ e 0 = .p (us l) ∧ e 1 = .p (U n) ∧ e 5 = .p (I i) ∧ H = [] ∧ n ∉ l.take i) ?_ l.length _ _ ⟨0, rfl, by omega, ?_⟩
  · rintro m e H ⟨i, rfl, hi, e0, e1, e5, rfl, hn⟩
    rcases Nat.lt_or_ge i l.length with h | h
    · have gi := usL_get h
      cases hc : (l[i] == n)
      · simp -implicitDefEqProofs -dsimp (disch := first | omega | (simp only [wkLen]; omega) | decide +kernel) only [↓wkPre, ↓wkPre2, ↓wkE, wkPost, wkDef, wkF, simprocAttr, e0, e1, e5, hul, gi, hc]
        refine ⟨l.length - (i + 1), by omega, i + 1, rfl, by omega, by push_cast; rfl, ?_⟩
        rw [List.take_succ_eq_append_getElem h]
        simp at hc
        simp only [List.mem_append, List.mem_singleton, not_or]
        exact ⟨hn, fun e => hc e.symm⟩
      · simp -implicitDefEqProofs -dsimp (disch := first | omega | (simp only [wkLen]; omega) | decide +kernel) only [↓wkPre, ↓wkPre2, ↓wkE, wkPost, wkDef, wkF, simprocAttr, e0, e1, e5, hul, gi, hc]
        have hm : n ∈ l := by simp at hc; rw [← hc]; simp
        simp [hm]
    · have : i = l.length := by omega
      subst this
      rw [List.take_length] at hn
      simp -implicitDefEqProofs -dsimp (disch := first | omega | (simp only [wkLen]; omega) | decide +kernel) only [↓wkPre, ↓wkPre2, ↓wkE, wkPost, wkDef, wkF, simprocAttr, e0, e1, e5, hul]
      simp [hn]
  · simp -implicitDefEqProofs -dsimp (disch := first | omega | (simp only [wkLen]; omega) | decide +kernel) only [↓wkPre, ↓wkPre2, ↓wkE, wkPost, wkDef, wkF, simprocAttr]
    simp
theorem p13 (L : List (Int × Int)) (a b : Int) (hl : L.length ≤ 1000000) : PS Cf okf 13 [4] [arcs L, U a, U b] (fun r => r = B (decide ((a, b) ∈ L))) := by
  refine PS.mk extMono Try.func13 body13 (by decide) rfl ?_
  simp only [c13, Try.f13, Option.getD_some]
  have hul := arcL_len L
  simp -implicitDefEqProofs -dsimp (disch := first | omega | (simp only [wkLen]; omega) | decide +kernel) only [↓wkPre, ↓wkPre2, ↓wkE, wkPost, wkDef, wkF, simprocAttr]
  refine loop_use extMono (fun m e H => ∃ i : Nat, m = L.length - i ∧ i ≤ L.length ∧ e 0 = .p (arcs L) ∧ e 1 = .p (U a) ∧ e 2 = .p (U b) ∧ e 7 = .p (I i) ∧ H = [] ∧ (a, b) ∉ L.take i) ?_ L.length _ _ ⟨0, rfl, by omega, ?_⟩
  · rintro m e H ⟨i, rfl, hi, e0, e1, e2, e7, rfl, hn⟩
    rcases Nat.lt_or_ge i L.length with h | h
    · have gi := arcL_get h
      have step : ¬ (L[i].1 = a ∧ L[i].2 = b) → (a, b) ∉ L.take (i + 1) := fun hne => by
        rw [List.take_succ_eq_append_getElem h]
        simp only [List.mem_append, List.mem_singleton, not_or]
        refine ⟨hn, fun e => hne ?_⟩
        rw [← e]; exact ⟨rfl, rfl⟩
      cases hc : (L[i].1 == a)
      · simp -implicitDefEqProofs -dsimp (disch := first | omega | (simp only [wkLen]; omega) | decide +kernel) only [↓wkPre, ↓wkPre2, ↓wkE, wkPost, wkDef, wkF, simprocAttr, e0, e1, e2, e7, hul, gi, hc]
        simp at hc
        exact ⟨L.length - (i + 1), by omega, i + 1, rfl, by omega, by push_cast; rfl, step (fun h => hc h.1)⟩
      · cases hd : (L[i].2 == b)
        · simp -implicitDefEqProofs -dsimp (disch := first | omega | (simp only [wkLen]; omega) | decide +kernel) only [↓wkPre, ↓wkPre2, ↓wkE, wkPost, wkDef, wkF, simprocAttr, e0, e1, e2, e7, hul, gi, hc, hd]
          simp at hd
          exact ⟨L.length - (i + 1), by omega, i + 1, rfl, by omega, by push_cast; rfl, step (fun h => hd h.2)⟩
        · simp -implicitDefEqProofs -dsimp (disch := first | omega | (simp only [wkLen]; omega) | decide +kernel) only [↓wkPre, ↓wkPre2, ↓wkE, wkPost, wkDef, wkF, simprocAttr, e0, e1, e2, e7, hul, gi, hc, hd]
          have hm : (a, b) ∈ L := by rw [← beq_iff_eq.1 hc, ← beq_iff_eq.1 hd]; exact List.getElem_mem h
          simp [hm]
    · have : i = L.length := by omega
      subst this
      rw [List.take_length] at hn
      simp -implicitDefEqProofs -dsimp (disch := first | omega | (simp only [wkLen]; omega) | decide +kernel) only [↓wkPre, ↓wkPre2, ↓wkE, wkPost, wkDef, wkF, simprocAttr, e0, e1, e2, e7, hul]
      simp [hn]
  · simp -implicitDefEqProofs -dsimp (disch := first | omega | (simp only [wkLen]; omega) | decide +kernel) only [↓wkPre, ↓wkPre2, ↓wkE, wkPost, wkDef, wkF, simprocAttr]
    simp
theorem p14 (a b : List Int) (hl : a.length ≤ 1000000) : PS Cf okf 14 [4] [us a, us b] (fun r => r = B (decide (a = b))) := by
  refine PS.mk extMono Try.func14 body14 (by decide) rfl ?_
  simp only [c14, Try.f14, Option.getD_some]
  have ha := usL_len a
  have hb := usL_len b
  by_cases hlen : a.length = b.length
  · simp -implicitDefEqProofs -dsimp (disch := first | omega | (simp only [wkLen]; omega) | decide +kernel) only [↓wkPre, ↓wkPre2, ↓wkE, wkPost, wkDef, wkF, simprocAttr, ha, hb]
    refine loop_use extMono (fun m e H => ∃ i : Nat, m = a.length - i ∧ i ≤ a.length ∧ e 0 = .p (us a) ∧ e 1 = .p (us b) ∧ e 5 = .p (I i) ∧ H = [] ∧ a.take i = b.take i) ?_ a.length _ _ ⟨0, rfl, by omega, ?_⟩
    · rintro m e H ⟨i, rfl, hi, e0, e1, e5, rfl, hn⟩
      rcases Nat.lt_or_ge i a.length with h | h
      · have hib : i < b.length := by omega
        have gi := usL_get h
        have gj := usL_get hib
        cases hc : (a[i] == b[i])
        · simp -implicitDefEqProofs -dsimp (disch := first | omega | (simp only [wkLen]; omega) | decide +kernel) only [↓wkPre, ↓wkPre2, ↓wkE, wkPost, wkDef, wkF, simprocAttr, e0, e1, e5, ha, hb, gi, gj, hc]
          simp at hc
          have : a ≠ b := fun e => hc (by subst e; rfl)
          simp [this]
        · simp -implicitDefEqProofs -dsimp (disch := first | omega | (simp only [wkLen]; omega) | decide +kernel) only [↓wkPre, ↓wkPre2, ↓wkE, wkPost, wkDef, wkF, simprocAttr, e0, e1, e5, ha, hb, gi, gj, hc]
          simp at hc
          exact ⟨a.length - (i + 1), by omega, i + 1, rfl, by omega, by push_cast; rfl, by rw [List.take_succ_eq_append_getElem h, List.take_succ_eq_append_getElem hib, hn, hc]⟩
      · have : i = a.length := by omega
        subst this
        rw [List.take_length, hlen, List.take_length] at hn
        simp -implicitDefEqProofs -dsimp (disch := first | omega | (simp only [wkLen]; omega) | decide +kernel) only [↓wkPre, ↓wkPre2, ↓wkE, wkPost, wkDef, wkF, simprocAttr, e0, e1, e5, ha, hb]
        simp [hn]
    · simp -implicitDefEqProofs -dsimp (disch := first | omega | (simp only [wkLen]; omega) | decide +kernel) only [↓wkPre, ↓wkPre2, ↓wkE, wkPost, wkDef, wkF, simprocAttr]
  · have : a ≠ b := fun e => hlen (by rw [e])
    have hc : ((a.length : Int) == (b.length : Int)) = false := by simp; omega
    simp -implicitDefEqProofs -dsimp (disch := first | omega | (simp only [wkLen]; omega) | decide +kernel) only [↓wkPre, ↓wkPre2, ↓wkE, wkPost, wkDef, wkF, simprocAttr, ha, hb, hc]
    simp [this]
/-- Rising. -/
def Rise (l : List Int) : Prop := l.Pairwise (· < ·)
def insL (n : Int) (l : List Int) : List Int := l.filter (fun x => decide (x < n)) ++ n :: l.filter (fun x => decide (n < x))
theorem mem_insL {n x : Int} {l : List Int} (h : n ∉ l) : x ∈ insL n l ↔ x = n ∨ x ∈ l := by
  simp only [insL, List.mem_append, List.mem_filter, decide_eq_true_eq, List.mem_cons]
  constructor
  · rintro (⟨a, b⟩ | a | ⟨a, b⟩)
    · exact .inr a
    · exact .inl a
    · exact .inr a
  · rintro (rfl | a)
    · exact .inr (.inl rfl)
    · rcases Int.lt_trichotomy x n with h1 | h1 | h1
      · exact .inl ⟨a, h1⟩
      · exact absurd (h1 ▸ a) h
      · exact .inr (.inr ⟨a, h1⟩)
theorem Rise.ins {n : Int} {l : List Int} (h : Rise l) : Rise (insL n l) := by
  unfold Rise insL at *
  rw [List.pairwise_append]
  refine ⟨h.filter _, ?_, ?_⟩
  · rw [List.pairwise_cons]
    refine ⟨fun x hx => by simpa using (List.mem_filter.1 hx).2, h.filter _⟩
  · intro a ha b hb
    have h1 : a < n := by simpa using (List.mem_filter.1 ha).2
    rcases List.mem_cons.1 hb with rfl | hb
    · exact h1
    · have h2 : n < b := by simpa using (List.mem_filter.1 hb).2
      omega
theorem insL_len {n : Int} {l : List Int} : (insL n l).length ≤ l.length + 1 := by
  unfold insL
  have : ∀ l : List Int, (l.filter (fun x => decide (x < n))).length + (l.filter (fun x => decide (n < x))).length ≤ l.length := by
    intro l
    induction l with
    | nil => simp
    | cons a l ih =>
      simp only [List.filter_cons]
      split <;> split <;> simp_all <;> omega
  have := this l
  simp; omega
/-- What 'insert' has made behind i of its numbers. -/
def insW (n : Int) (l : List Int) (put : Bool) : List Int := if put then insL n l else l
theorem insL_take (n : Int) (l : List Int) (h : Rise l) (hn : n ∉ l) (i : Nat) (hi : i < l.length) :
    (if l[i] < n then (l.take (i + 1)) else if (l.take i).any (fun x => decide (n < x)) = true then insL n (l.take i) ++ [l[i]] else (l.take i) ++ [n] ++ [l[i]]) = if (l.take (i + 1)).any (fun x => decide (n < x)) = true then insL n (l.take (i + 1)) else l.take (i + 1) := by
  have hs := List.take_succ_eq_append_getElem hi
  have hlt : ∀ x ∈ l.take i, x < l[i] := by
    intro x hx
    have h1 : l = l.take i ++ l[i] :: l.drop (i + 1) := by rw [← List.drop_eq_getElem_cons hi, List.take_append_drop]
    unfold Rise at h
    rw [h1] at h
    exact (List.pairwise_append.1 h).2.2 x hx _ (List.mem_cons_self ..)
  have hne : l[i] ≠ n := fun e => hn (by rw [← e]; simp)
  by_cases h1 : l[i] < n
  · rw [if_pos h1, if_neg]
    simp only [List.any_eq_true, decide_eq_true_eq, not_exists, not_and]
    intro x hx
    rw [hs] at hx
    rcases List.mem_append.1 hx with hx | hx
    · have := hlt x hx; omega
    · simp at hx; omega
  · have hni : n < l[i] := by omega
    rw [if_neg h1]
    have hex : (l.take (i + 1)).any (fun x => decide (n < x)) = true := by
      simp only [List.any_eq_true, decide_eq_true_eq]
      exact ⟨l[i], by rw [hs]; exact List.mem_append_right _ (List.mem_singleton_self _), hni⟩
    rw [if_pos hex]
    have hins : insL n (l.take (i + 1)) = (l.take i).filter (fun x => decide (x < n)) ++ n :: ((l.take i).filter (fun x => decide (n < x)) ++ [l[i]]) := by
      unfold insL
      rw [hs, List.filter_append, List.filter_append]
      simp [h1, hni]
    split
    · rw [hins]; simp [insL]
    · rename_i hno
      simp only [List.any_eq_true, decide_eq_true_eq, not_exists, not_and] at hno
      rw [hins]
      have f1 : (l.take i).filter (fun x => decide (x < n)) = l.take i := by
        rw [List.filter_eq_self]
        intro x hx
        have := hno x hx
        have : x ≠ n := fun e => hn (by rw [← e]; exact List.mem_of_mem_take hx)
        simp; omega
      have f2 : (l.take i).filter (fun x => decide (n < x)) = [] := by
        rw [List.filter_eq_nil_iff]
        intro x hx
        have := hno x hx
        simp; omega
      rw [f1, f2]; simp
theorem usL_snoc (l : List Int) (x : Int) : usL (l ++ [x]) = usL l ++ [.int .u64 x] := by simp only [usL, List.map_append, List.map_cons, List.map_nil]
theorem us_frz {H : Heap} {v : AV} {l : List Int} (h : OwnS H v 0 (usL l)) : oK (frzR Try.prog H [25] v) (fun r => r = us l) := by
  have hfz := frz_own (P := Try.prog) (n := 4) telem_25 h
  rcases h with ⟨rfl, hx0⟩ | ⟨b, g, rfl, hb⟩
  · rw [frzR_nsl, hfz]; rfl
  · rw [frzR_ref, hfz]; rfl
theorem p29 (l : List Int) (n : Int) (h : Rise l) (hn : n ∉ l) (hl : l.length ≤ 1000000) : PS Cf okf 29 [25] [us l, U n] (fun r => r = us (insL n l)) := by
  refine PS.mk extMono Try.func29 body29 (by decide) rfl ?_
  simp only [c29, Try.f29, Option.getD_some]
  have hul := usL_len l
  simp -implicitDefEqProofs -dsimp (disch := first | omega | (simp only [wkLen]; omega) | decide +kernel) only [↓wkPre, ↓wkPre2, ↓wkE, wkPost, wkDef, wkF, simprocAttr]
  refine loop_use extMono (fun m e H => ∃ (i : Nat) (w : AV) (put : Bool), m = l.length - i ∧ i ≤ l.length ∧ e 0 = .p (us l) ∧ e 1 = .p (U n) ∧ e 5 = w ∧ e 6 = .p (B put) ∧ e 7 = .p (I i) ∧
    put = (l.take i).any (fun x => decide (n < x)) ∧ OwnS H w 0 (usL (if put = true then insL n (l.take i) else l.take i))) ?_ l.length _ _ ⟨0, .nsl, false, rfl, by omega, ?_⟩
  · rintro m e H ⟨i, w, put, rfl, hi, e0, e1, e5, e6, e7, hput, hown⟩
    have hb0 : (usL (if put = true then insL n (l.take i) else l.take i)).length ≤ l.length + 1 := by
      rw [usL_len]
      have h1 : (l.take i).length ≤ l.length := by rw [List.length_take]; omega
      have h2 := insL_len (n := n) (l := l.take i)
      split <;> omega
    rcases Nat.lt_or_ge i l.length with h | h
    · have gi := usL_get h
      have key := insL_take n l ‹Rise l› hn i h
      have fin : ∀ (e' : Env) (H' : Heap) (w' : AV) (put' : Bool), e' 0 = .p (us l) → e' 1 = .p (U n) → e' 5 = w' → e' 6 = .p (B put') → e' 7 = .p (I (i + 1 : Nat)) → put' = (l.take (i + 1)).any (fun x => decide (n < x)) → OwnS H' w' 0 (usL (if put' = true then insL n (l.take (i + 1)) else l.take (i + 1))) →
          ∃ m, m < l.length - i ∧ ∃ (i : Nat) (w : AV) (put : Bool), m = l.length - i ∧ i ≤ l.length ∧ e' 0 = .p (us l) ∧ e' 1 = .p (U n) ∧ e' 5 = w ∧ e' 6 = .p (B put) ∧ e' 7 = .p (I i) ∧
          put = (l.take i).any (fun x => decide (n < x)) ∧ OwnS H' w 0 (usL (if put = true then insL n (l.take i) else l.take i)) := fun e' H' w' put' h0 h1 h5 h6 h7 hp ho =>
        ⟨l.length - (i + 1), by omega, i + 1, w', put', rfl, by omega, h0, h1, h5, h6, h7, hp, ho⟩
      have hany : (l.take (i + 1)).any (fun x => decide (n < x)) = ((l.take i).any (fun x => decide (n < x)) || decide (n < l[i])) := by
        rw [List.take_succ_eq_append_getElem h, List.any_append]; simp
      cases put with
      | true =>
        rw [if_pos rfl] at hown hb0
        have hni : n < l[i] := by
          have h1 := hput.symm
          rw [List.any_eq_true] at h1
          obtain ⟨x, hx, hx2⟩ := h1
          have hlt : ∀ x ∈ l.take i, x < l[i] := by
            intro x hx
            have h1 : l = l.take i ++ l[i] :: l.drop (i + 1) := by rw [← List.drop_eq_getElem_cons h, List.take_append_drop]
            have h2 := ‹Rise l›
            unfold Rise at h2
            rw [h1] at h2
            exact (List.pairwise_append.1 h2).2.2 x hx _ (List.mem_cons_self ..)
          have := hlt x hx
          simp at hx2; omega
        rw [← hput, Bool.true_or] at hany
        rw [if_neg (by omega), if_pos hput.symm, hany, if_pos rfl] at key
        simp -implicitDefEqProofs -dsimp (disch := first | omega | (simp only [wkLen]; omega) | decide +kernel) only [↓wkPre, ↓wkPre2, ↓wkE, wkPost, wkDef, wkF, simprocAttr, e0, e1, e5, e6, e7, hul, gi]
        refine append_step telem_25 (elems_new rfl rfl) (by simp) (hown.app _) ?_ ?_
        · rw [byt_23]; simp; omega
        intro w' H' hown' hfr hle hb'
        simp -implicitDefEqProofs -dsimp (disch := first | omega | (simp only [wkLen]; omega) | decide +kernel) only [↓wkPre, ↓wkPre2, ↓wkE, wkPost, wkDef, wkF, simprocAttr, e0, e1, e5, e6, e7, hul, gi]
        refine ⟨l.length - (i + 1), by omega, i + 1, w', true, rfl, by omega, rfl, rfl, by push_cast; rfl, hany.symm, ?_⟩
        rw [if_pos rfl, ← key]
        simpa [usL] using hown'
      | false =>
        rw [if_neg (by simp)] at hown hb0
        rw [← hput, Bool.false_or] at hany
        by_cases h2 : n < l[i]
        · rw [if_neg (by omega), if_neg (by rw [← hput]; simp), hany, if_pos (by simpa using h2)] at key
          simp -implicitDefEqProofs -dsimp (disch := first | omega | (simp only [wkLen]; omega) | decide +kernel) only [↓wkPre, ↓wkPre2, ↓wkE, wkPost, wkDef, wkF, simprocAttr, e0, e1, e5, e6, e7, hul, gi]
          refine append_step telem_25 (elems_new rfl rfl) (by simp) (hown.app _) ?_ ?_
          · rw [byt_23]; simp; omega
          intro w1 H1 hown1 hfr1 hle1 hb1
          simp -implicitDefEqProofs -dsimp (disch := first | omega | (simp only [wkLen]; omega) | decide +kernel) only [↓wkPre, ↓wkPre2, ↓wkE, wkPost, wkDef, wkF, simprocAttr, e0, e1, e5, e6, e7, hul, gi]
          refine append_step telem_25 (elems_new rfl rfl) (by simp) (hown1.app _) ?_ ?_
          · rw [byt_23]; simp; omega
          intro w' H' hown' hfr hle hb'
          simp -implicitDefEqProofs -dsimp (disch := first | omega | (simp only [wkLen]; omega) | decide +kernel) only [↓wkPre, ↓wkPre2, ↓wkE, wkPost, wkDef, wkF, simprocAttr, e0, e1, e5, e6, e7, hul, gi]
          refine ⟨l.length - (i + 1), by omega, i + 1, w', true, rfl, by omega, rfl, rfl, by push_cast; rfl, by rw [hany]; simp [h2], ?_⟩
          rw [if_pos rfl, ← key]
          simpa [usL] using hown'
        · have h3 : l[i] < n := by
            have : l[i] ≠ n := fun e => hn (by rw [← e]; exact List.getElem_mem h)
            omega
          simp -implicitDefEqProofs -dsimp (disch := first | omega | (simp only [wkLen]; omega) | decide +kernel) only [↓wkPre, ↓wkPre2, ↓wkE, wkPost, wkDef, wkF, simprocAttr, e0, e1, e5, e6, e7, hul, gi]
          refine append_step telem_25 (elems_new rfl rfl) (by simp) (hown.app _) ?_ ?_
          · rw [byt_23]; simp; omega
          intro w' H' hown' hfr hle hb'
          simp -implicitDefEqProofs -dsimp (disch := first | omega | (simp only [wkLen]; omega) | decide +kernel) only [↓wkPre, ↓wkPre2, ↓wkE, wkPost, wkDef, wkF, simprocAttr, e0, e1, e5, e6, e7, hul, gi]
          refine ⟨l.length - (i + 1), by omega, i + 1, w', false, rfl, by omega, rfl, rfl, by push_cast; rfl, by rw [hany]; simp [h2], ?_⟩
          rw [if_neg (by simp), List.take_succ_eq_append_getElem h, usL_snoc]
          exact hown'
    · have : i = l.length := by omega
      subst this
      rw [List.take_length] at hown hput
      cases put with
      | true =>
        simp -implicitDefEqProofs -dsimp (disch := first | omega | (simp only [wkLen]; omega) | decide +kernel) only [↓wkPre, ↓wkPre2, ↓wkE, wkPost, wkDef, wkF, simprocAttr, e0, e1, e5, e6, e7, hul]
        exact us_frz (by simpa using hown)
      | false =>
        have heq : insL n l = l ++ [n] := by
          have h1 := hput.symm
          rw [List.any_eq_false] at h1
          unfold insL
          have f1 : l.filter (fun x => decide (x < n)) = l := by
            rw [List.filter_eq_self]
            intro x hx
            have h2 := h1 x hx
            have : x ≠ n := fun e => hn (by rw [← e]; exact hx)
            simp at h2; simp; omega
          have f2 : l.filter (fun x => decide (n < x)) = [] := by
            rw [List.filter_eq_nil_iff]
            intro x hx
            exact h1 x hx
          rw [f1, f2]
        simp -implicitDefEqProofs -dsimp (disch := first | omega | (simp only [wkLen]; omega) | decide +kernel) only [↓wkPre, ↓wkPre2, ↓wkE, wkPost, wkDef, wkF, simprocAttr, e0, e1, e5, e6, e7, hul]
        refine append_step telem_25 (elems_new rfl rfl) (by simp) (hown.app _) ?_ ?_
        · rw [byt_23]; simp; omega
        intro w' H' hown' hfr hle hb'
        simp -implicitDefEqProofs -dsimp (disch := first | omega | (simp only [wkLen]; omega) | decide +kernel) only [↓wkPre, ↓wkPre2, ↓wkE, wkPost, wkDef, wkF, simprocAttr, e0, e1, e5, e6, e7, hul]
        rw [heq]
        exact us_frz (by simpa [usL] using hown')
  · simp -implicitDefEqProofs -dsimp (disch := first | omega | (simp only [wkLen]; omega) | decide +kernel) only [↓wkPre, ↓wkPre2, ↓wkE, wkPost, wkDef, wkF, simprocAttr]
    exact ⟨by simp, OwnS.nil _ _⟩
end Go.Ev.F12
end
section
namespace Go.Ev.F12
open Go.Proofs Go.Ev Go.Sort
set_option maxRecDepth 100000
set_option linter.all false
abbrev Arcs := List (Int × Int)
def stp (F : List Int) (out : List Int) (a : Int × Int) : List Int := if a.1 ∈ F then (if a.2 ∈ out then out else insL a.2 out) else out
def stepL (L : Arcs) (F : List Int) : List Int := L.foldl (stp F) []
theorem stp_ok (F : List Int) : ∀ (L : Arcs) (out : List Int), Rise out → Rise (L.foldl (stp F) out) ∧ (∀ t, t ∈ L.foldl (stp F) out ↔ t ∈ out ∨ ∃ f ∈ F, (f, t) ∈ L) ∧ (L.foldl (stp F) out).length ≤ out.length + L.length
  | [], out, h => by refine ⟨h, fun t => ?_, ?_⟩ <;> simp
  | a :: L, out, h => by
    have hr : Rise (stp F out a) := by
      unfold stp; split
      · split
        · exact h
        · exact h.ins
      · exact h
    obtain ⟨h1, h2, h3⟩ := stp_ok F L (stp F out a) hr
    have hm : ∀ t, t ∈ stp F out a ↔ t ∈ out ∨ (a.1 ∈ F ∧ t = a.2) := by
      intro t
      unfold stp; split
      · rename_i hf
        split
        · rename_i ho
          constructor
          · exact .inl
          · rintro (h | ⟨_, rfl⟩)
            · exact h
            · exact ho
        · rename_i ho
          rw [mem_insL ho]
          constructor
          · rintro (h | h)
            · exact .inr ⟨hf, h⟩
            · exact .inl h
          · rintro (h | ⟨_, h⟩)
            · exact .inr h
            · exact .inl h
      · rename_i hf
        constructor
        · exact .inl
        · rintro (h | ⟨h, _⟩)
          · exact h
          · exact absurd h hf
    have hl : (stp F out a).length ≤ out.length + 1 := by
      unfold stp; split
      · split
        · omega
        · exact insL_len
      · omega
    refine ⟨h1, fun t => ?_, by simp only [List.foldl_cons, List.length_cons]; omega⟩
    simp only [List.foldl_cons]
    rw [h2, hm]
    constructor
    · rintro ((h | ⟨h, rfl⟩) | ⟨f, hf, hL⟩)
      · exact .inl h
      · exact .inr ⟨a.1, h, by simp⟩
      · exact .inr ⟨f, hf, by simp [hL]⟩
    · rintro (h | ⟨f, hf, hL⟩)
      · exact .inl (.inl h)
      · rcases List.mem_cons.1 hL with h | h
        · exact .inl (.inr ⟨by rw [← h]; exact hf, by rw [← h]⟩)
        · exact .inr ⟨f, hf, h⟩
theorem stepL_rise (L : Arcs) (F : List Int) : Rise (stepL L F) := (stp_ok F L [] List.Pairwise.nil).1
theorem mem_stepL {L : Arcs} {F : List Int} {t : Int} : t ∈ stepL L F ↔ ∃ f ∈ F, (f, t) ∈ L := by
  have := (stp_ok F L [] List.Pairwise.nil).2.1 t
  simpa [stepL] using this
theorem stepL_len (L : Arcs) (F : List Int) : (stepL L F).length ≤ L.length := by
  have := (stp_ok F L [] List.Pairwise.nil).2.2
  simpa [stepL] using this
theorem stepL_succ (L : Arcs) (F : List Int) (i : Nat) (h : i < L.length) : stepL (L.take (i + 1)) F = stp F (stepL (L.take i) F) L[i] := by
  unfold stepL; rw [List.take_succ_eq_append_getElem h, List.foldl_append]; rfl
theorem frz1u {H : Heap} {v : AV} {l : List Int} (h : MU v l) (x : PV) (ty : TypeId) : frzL (frzN Try.prog H 4) [v, .p x] [25, ty] = some [us l, x] := by
  simp [frzL, h.frz, frzN_p]
theorem p24 (L : Arcs) (F : List Int) (hL : L.length ≤ 1000) (hF : F.length ≤ 1000000) : PS Cf okf 24 [25] [arcs L, us F] (fun r => r = us (stepL L F)) := by
  refine PS.mk extMono Try.func24 body24 (by decide) rfl ?_
  simp only [c24, Try.f24, Option.getD_some]
  have hul := arcL_len L
  simp -implicitDefEqProofs -dsimp (disch := first | omega | (simp only [wkLen]; omega) | decide +kernel) only [↓wkPre, ↓wkPre2, ↓wkE, wkPost, wkDef, wkF, simprocAttr]
  refine loop_use extMono (fun m e H => ∃ (i : Nat) (w : AV), m = L.length - i ∧ i ≤ L.length ∧ e 0 = .p (arcs L) ∧ e 1 = .p (us F) ∧ e 5 = w ∧ e 6 = .p (I i) ∧ H = [] ∧ MU w (stepL (L.take i) F)) ?_ L.length _ _ ⟨0, .nsl, rfl, by omega, ?_⟩
  · rintro m e H ⟨i, w, rfl, hi, e0, e1, e5, e6, rfl, hw⟩
    have hb := stepL_len (L.take i) F
    have hb2 : (L.take i).length ≤ L.length := by rw [List.length_take]; omega
    rcases Nat.lt_or_ge i L.length with h | h
    · have gi := arcL_get h
      have hs := stepL_succ L F i h
      unfold stp at hs
      simp -implicitDefEqProofs -dsimp (disch := first | omega | (simp only [wkLen]; omega) | decide +kernel) only [↓wkPre, ↓wkPre2, ↓wkE, wkPost, wkDef, wkF, simprocAttr, e0, e1, e5, e6, hul, gi]
      refine PS.app md_25 Try.func25 (p25 F L[i].1 hF) rfl ?_
      rintro _ rfl
      by_cases h1 : L[i].1 ∈ F
      · rw [if_pos h1] at hs
        simp -implicitDefEqProofs -dsimp (disch := first | omega | (simp only [wkLen]; omega) | decide +kernel) only [↓wkPre, ↓wkPre2, ↓wkE, wkPost, wkDef, wkF, simprocAttr, e0, e1, e5, e6, hul, gi, decide_eq_true h1]
        refine PS.app md_25 Try.func25 (p25 (stepL (L.take i) F) L[i].2 (by omega)) (frz1u hw _ _) ?_
        rintro _ rfl
        by_cases h2 : L[i].2 ∈ stepL (L.take i) F
        · rw [if_pos h2] at hs
          simp -implicitDefEqProofs -dsimp (disch := first | omega | (simp only [wkLen]; omega) | decide +kernel) only [↓wkPre, ↓wkPre2, ↓wkE, wkPost, wkDef, wkF, simprocAttr, e0, e1, e5, e6, hul, gi, decide_eq_true h2]
          exact ⟨L.length - (i + 1), by omega, i + 1, w, rfl, by omega, rfl, by push_cast; rfl, by rw [hs]; exact hw⟩
        · rw [if_neg h2] at hs
          simp -implicitDefEqProofs -dsimp (disch := first | omega | (simp only [wkLen]; omega) | decide +kernel) only [↓wkPre, ↓wkPre2, ↓wkE, wkPost, wkDef, wkF, simprocAttr, e0, e1, e5, e6, hul, gi, decide_eq_false h2]
          refine PS.app md_29 Try.func29 (p29 (stepL (L.take i) F) L[i].2 (stepL_rise _ _) h2 (by omega)) (frz1u hw _ _) ?_
          rintro _ rfl
          simp -implicitDefEqProofs -dsimp (disch := first | omega | (simp only [wkLen]; omega) | decide +kernel) only [↓wkPre, ↓wkPre2, ↓wkE, wkPost, wkDef, wkF, simprocAttr, e0, e1, e5, e6, hul, gi, hw.ids]
          exact ⟨L.length - (i + 1), by omega, i + 1, _, rfl, by omega, rfl, by push_cast; rfl, by rw [hs]; exact .inr rfl⟩
      · rw [if_neg h1] at hs
        simp -implicitDefEqProofs -dsimp (disch := first | omega | (simp only [wkLen]; omega) | decide +kernel) only [↓wkPre, ↓wkPre2, ↓wkE, wkPost, wkDef, wkF, simprocAttr, e0, e1, e5, e6, hul, gi, decide_eq_false h1]
        exact ⟨L.length - (i + 1), by omega, i + 1, w, rfl, by omega, rfl, by push_cast; rfl, by rw [hs]; exact hw⟩
    · have : i = L.length := by omega
      subst this
      rw [List.take_length] at hw
      rcases hw with ⟨rfl, h0⟩ | rfl
      · simp -implicitDefEqProofs -dsimp (disch := first | omega | (simp only [wkLen]; omega) | decide +kernel) only [↓wkPre, ↓wkPre2, ↓wkE, wkPost, wkDef, wkF, simprocAttr, e0, e1, e5, e6, hul]
        rw [h0]; rfl
      · simp -implicitDefEqProofs -dsimp (disch := first | omega | (simp only [wkLen]; omega) | decide +kernel) only [↓wkPre, ↓wkPre2, ↓wkE, wkPost, wkDef, wkF, simprocAttr, e0, e1, e5, e6, hul]
  · simp -implicitDefEqProofs -dsimp (disch := first | omega | (simp only [wkLen]; omega) | decide +kernel) only [↓wkPre, ↓wkPre2, ↓wkE, wkPost, wkDef, wkF, simprocAttr]
    exact .inl ⟨rfl, rfl⟩
/-- A way of so many arcs. -/
def Wk (L : Arcs) : Nat → Int → Int → Prop
  | 0, a, b => a = b
  | k + 1, a, b => ∃ m, Wk L k a m ∧ (m, b) ∈ L
def rowL (L : Arcs) (fr : Int) : Nat → List Int
  | 0 => [fr]
  | k + 1 => stepL L (rowL L fr k)
theorem mem_rowL {L : Arcs} {fr : Int} : ∀ {k : Nat} {t : Int}, t ∈ rowL L fr k ↔ Wk L k fr t
  | 0, t => by simp only [rowL, Wk, List.mem_singleton]; exact eq_comm
  | k + 1, t => by
    simp only [rowL, Wk, mem_stepL]
    constructor
    · rintro ⟨f, h1, h2⟩; exact ⟨f, mem_rowL.1 h1, h2⟩
    · rintro ⟨f, h1, h2⟩; exact ⟨f, mem_rowL.2 h1, h2⟩
theorem rowL_len (L : Arcs) (fr : Int) (k : Nat) : (rowL L fr k).length ≤ L.length + 1 := by
  cases k with
  | zero => simp [rowL]
  | succ k => have := stepL_len L (rowL L fr k); simp only [rowL]; omega
/-- How far: the least number of arcs, within the arcs' number; 0: there is no way. -/
def FarS (L : Arcs) (a b : Int) (n : Nat) : Prop := (1 ≤ n ∧ n ≤ L.length ∧ Wk L n a b ∧ ∀ k, 1 ≤ k → k < n → ¬ Wk L k a b) ∨ (n = 0 ∧ ∀ k, 1 ≤ k → k ≤ L.length → ¬ Wk L k a b)
theorem p11 (L : Arcs) (fr to : Int) (hL : L.length ≤ 1000) : PS Cf okf 11 [3] [arcs L, U fr, U to] (fun r => ∃ n : Nat, r = I n ∧ FarS L fr to n) := by
  refine PS.mk extMono Try.func11 body11 (by decide) rfl ?_
  simp only [c11, Try.f11, Option.getD_some]
  have hul := arcL_len L
  simp -implicitDefEqProofs -dsimp (disch := first | omega | (simp only [wkLen]; omega) | decide +kernel) only [↓wkPre, ↓wkPre2, ↓wkE, wkPost, wkDef, wkF, simprocAttr]
  refine loop_use extMono (fun m e H => ∃ (k : Nat) (w : AV), m = L.length + 1 - k ∧ 1 ≤ k ∧ k ≤ L.length + 1 ∧ e 0 = .p (arcs L) ∧ e 2 = .p (U to) ∧ e 7 = w ∧ e 8 = .p (I k) ∧ RV H w 0 (usL (rowL L fr (k - 1))) ∧ ∀ j, 1 ≤ j → j < k → ¬ Wk L j fr to) ?_ (L.length + 1 - 1) _ _ ⟨1, .ref 0 0 0 1 false, rfl, by omega, by omega, ?_⟩
  · rintro m e H ⟨k, w, rfl, hk1, hk, e0, e2, e7, e8, hrv, hno⟩
    have hb := rowL_len L fr (k - 1)
    have hb' := rowL_len L fr k
    have hrow : stepL L (rowL L fr (k - 1)) = rowL L fr k := by
      obtain ⟨j, rfl⟩ : ∃ j, k = j + 1 := ⟨k - 1, by omega⟩
      rfl
    rcases Nat.lt_or_ge L.length k with h | h
    · simp -implicitDefEqProofs -dsimp (disch := first | omega | (simp only [wkLen]; omega) | decide +kernel) only [↓wkPre, ↓wkPre2, ↓wkE, wkPost, wkDef, wkF, simprocAttr, e0, e2, e7, e8, hul]
      exact ⟨0, rfl, .inr ⟨rfl, fun j h1 h2 => hno j h1 (by omega)⟩⟩
    · simp -implicitDefEqProofs -dsimp (disch := first | omega | (simp only [wkLen]; omega) | decide +kernel) only [↓wkPre, ↓wkPre2, ↓wkE, wkPost, wkDef, wkF, simprocAttr, e0, e2, e7, e8, hul]
      refine PS.appR md_24 Try.func24 (p24 L (rowL L fr (k - 1)) hL (by omega)) (by show frzL (frzN Try.prog H 4) [.p (arcs L), w] [22, 25] = _; simp [frzL, frzN_p, hrv.frz]) ?_ ?_
      · intro b hb
        simp only [List.flatMap_cons, ids_p, List.nil_append, List.flatMap_nil, List.append_nil] at hb
        exact hrv.ids b hb
      · rintro _ H' rfl _ _ _
        rw [hrow]
        simp -implicitDefEqProofs -dsimp (disch := first | omega | (simp only [wkLen]; omega) | decide +kernel) only [↓wkPre, ↓wkPre2, ↓wkE, wkPost, wkDef, wkF, simprocAttr, e0, e2, e7, e8, hul]
        refine PS.app md_25 Try.func25 (p25 (rowL L fr k) to (by omega)) rfl ?_
        rintro _ rfl
        by_cases hm : to ∈ rowL L fr k
        · simp -implicitDefEqProofs -dsimp (disch := first | omega | (simp only [wkLen]; omega) | decide +kernel) only [↓wkPre, ↓wkPre2, ↓wkE, wkPost, wkDef, wkF, simprocAttr, e0, e2, e7, e8, hul, decide_eq_true hm]
          exact ⟨k, rfl, .inl ⟨hk1, h, mem_rowL.1 hm, hno⟩⟩
        · simp -implicitDefEqProofs -dsimp (disch := first | omega | (simp only [wkLen]; omega) | decide +kernel) only [↓wkPre, ↓wkPre2, ↓wkE, wkPost, wkDef, wkF, simprocAttr, e0, e2, e7, e8, hul, decide_eq_false hm]
          exact ⟨L.length + 1 - (k + 1), by omega, k + 1, _, rfl, by omega, by omega, rfl, by push_cast; rfl, .inl rfl, fun j h1 h2 => by
            by_cases hj : j = k
            · subst hj; exact fun hw => hm (mem_rowL.2 hw)
            · exact hno j h1 (by omega)⟩
  · simp -implicitDefEqProofs -dsimp (disch := first | omega | (simp only [wkLen]; omega) | decide +kernel) only [↓wkPre, ↓wkPre2, ↓wkE, wkPost, wkDef, wkF, simprocAttr]
    exact ⟨.inr ⟨0, 0, true, rfl, rfl⟩, fun j h1 h2 => by omega⟩
theorem p33 (l : List Int) (n : Int) (hl : l.length ≤ 1000000) : PS Cf okf 33 [3] [us l, U n] (fun r => ∃ k : Int, r = I k ∧ (0 ≤ k ↔ n ∈ l)) := by
  refine PS.mk extMono Try.func33 body33 (by decide) rfl ?_
  simp only [c33, Try.f33, Option.getD_some]
  have hul := usL_len l
  simp -implicitDefEqProofs -dsimp (disch := first | omega | (simp only [wkLen]; omega) | decide +kernel) only [↓wkPre, ↓wkPre2, ↓wkE, wkPost, wkDef, wkF, simprocAttr, hul]
  refine loop_use extMono (fun m e H => ∃ i : Nat, m = l.length - i ∧ i ≤ l.length ∧ e 0 = .p (us l) ∧ e 1 = .p (U n) ∧ e 7 = .p (I l.length) ∧ e 8 = .p (I i) ∧ H = [] ∧ n ∉ l.take i) ?_ l.length _ _ ⟨0, rfl, by omega, ?_⟩
  · rintro m e H ⟨i, rfl, hi, e0, e1, e7, e8, rfl, hn⟩
    rcases Nat.lt_or_ge i l.length with h | h
    · have gi := usL_get h
      cases hc : (n == l[i])
      · simp -implicitDefEqProofs -dsimp (disch := first | omega | (simp only [wkLen]; omega) | decide +kernel) only [↓wkPre, ↓wkPre2, ↓wkE, wkPost, wkDef, wkF, simprocAttr, e0, e1, e7, e8, hul, gi, hc]
        refine ⟨l.length - (i + 1), by omega, i + 1, rfl, by omega, by push_cast; rfl, ?_⟩
        rw [List.take_succ_eq_append_getElem h]
        simp at hc
        simp only [List.mem_append, List.mem_singleton, not_or]
        exact ⟨hn, hc⟩
      · simp -implicitDefEqProofs -dsimp (disch := first | omega | (simp only [wkLen]; omega) | decide +kernel) only [↓wkPre, ↓wkPre2, ↓wkE, wkPost, wkDef, wkF, simprocAttr, e0, e1, e7, e8, hul, gi, hc]
        have hm : n ∈ l := by rw [beq_iff_eq.1 hc]; exact List.getElem_mem h
        exact ⟨i, rfl, by simp [hm]⟩
    · have : i = l.length := by omega
      subst this
      rw [List.take_length] at hn
      simp -implicitDefEqProofs -dsimp (disch := first | omega | (simp only [wkLen]; omega) | decide +kernel) only [↓wkPre, ↓wkPre2, ↓wkE, wkPost, wkDef, wkF, simprocAttr, e0, e1, e7, e8, hul]
      exact ⟨-1, rfl, by simp [hn]⟩
  · simp -implicitDefEqProofs -dsimp (disch := first | omega | (simp only [wkLen]; omega) | decide +kernel) only [↓wkPre, ↓wkPre2, ↓wkE, wkPost, wkDef, wkF, simprocAttr]
    simp
theorem p26 (l : List Int) (n : Int) (hl : l.length ≤ 1000000) : PS Cf okf 26 [4] [us l, U n] (fun r => r = B (decide (n ∈ l))) := by
  refine PS.mk extMono Try.func26 body26 (by decide) rfl ?_
  simp only [c26, Try.f26, Option.getD_some]
  simp -implicitDefEqProofs -dsimp (disch := first | omega | (simp only [wkLen]; omega) | decide +kernel) only [↓wkPre, ↓wkPre2, ↓wkE, wkPost, wkDef, wkF, simprocAttr]
  refine PS.app md_33 Try.func33 (p33 l n hl) rfl ?_
  rintro _ ⟨k, rfl, hk⟩
  simp -implicitDefEqProofs -dsimp (disch := first | omega | (simp only [wkLen]; omega) | decide +kernel) only [↓wkPre, ↓wkPre2, ↓wkE, wkPost, wkDef, wkF, simprocAttr]
  by_cases h : n ∈ l
  · simp [h, hk.2 h]
  · have : ¬ 0 ≤ k := fun h0 => h (hk.1 h0)
    simp [h, this]
end Go.Ev.F12
end
section
namespace Go.Ev.F12
open Go.Proofs Go.Ev Go.Sort
set_option maxRecDepth 100000
set_option linter.all false
theorem usL_set (l : List Int) (i : Nat) (x : Int) : (usL l).set i (.int .u64 x) = usL (l.set i x) := by simp [usL, List.map_set]
/-- The first i of some numbers, neighbours that are alike once. -/
def cpN (l : List Int) : Nat → List Int
  | 0 => []
  | i + 1 => if 0 < i ∧ l[i]? = l[i - 1]? then cpN l i else cpN l i ++ [l.getD i 0]
theorem cpN_ok {l : List Int} (h : l.Pairwise (· ≤ ·)) : ∀ i, i ≤ l.length → Rise (cpN l i) ∧ (∀ x, x ∈ cpN l i ↔ x ∈ l.take i) ∧ (cpN l i).length ≤ i
  | 0, _ => ⟨List.Pairwise.nil, by simp [cpN], by simp [cpN]⟩
  | i + 1, hi => by
    obtain ⟨h1, h2, h3⟩ := cpN_ok h i (by omega)
    have hil : i < l.length := by omega
    have hs := List.take_succ_eq_append_getElem hil
    have hle : ∀ x ∈ l.take i, x ≤ l[i] := by
      intro x hx
      have h4 : l = l.take i ++ l[i] :: l.drop (i + 1) := by rw [← List.drop_eq_getElem_cons hil, List.take_append_drop]
      rw [h4] at h
      exact (List.pairwise_append.1 h).2.2 x hx _ (List.mem_cons_self ..)
    unfold cpN
    split
    · rename_i hc
      obtain ⟨h0, hc⟩ := hc
      have hi1 : i - 1 < l.length := by omega
      rw [List.getElem?_eq_getElem hil, List.getElem?_eq_getElem hi1] at hc
      simp only [Option.some.injEq] at hc
      refine ⟨h1, fun x => ?_, by omega⟩
      rw [h2, hs, List.mem_append, List.mem_singleton]
      constructor
      · exact .inl
      · rintro (h | rfl)
        · exact h
        · rw [hc, List.mem_take_iff_getElem]
          exact ⟨i - 1, by omega, rfl⟩
    · rename_i hc
      have hgd : l.getD i 0 = l[i] := by simp [List.getD, hil]
      refine ⟨?_, fun x => ?_, by simp; omega⟩
      · unfold Rise at h1 ⊢
        rw [List.pairwise_append]
        refine ⟨h1, by simp, ?_⟩
        intro a ha b hb
        rw [List.mem_singleton] at hb
        subst hb
        rw [h2] at ha
        have h4 := hle a ha
        rw [hgd]
        rcases Int.lt_or_eq_of_le h4 with h5 | h5
        · exact h5
        · exfalso
          obtain ⟨j, hj, hja⟩ := List.mem_take_iff_getElem.1 ha
          have hi0 : 0 < i := by omega
          have hi1 : i - 1 < l.length := by omega
          have h6 : l[j] ≤ l[i - 1] := by
            rcases Nat.lt_or_eq_of_le (show j ≤ i - 1 by omega) with h7 | h7
            · exact List.pairwise_iff_getElem.1 h j (i - 1) (by omega) hi1 h7
            · subst h7; exact Int.le_refl _
          have h7 := List.pairwise_iff_getElem.1 h (i - 1) i hi1 hil (by omega)
          refine hc ⟨hi0, ?_⟩
          rw [List.getElem?_eq_getElem hil, List.getElem?_eq_getElem hi1]
          congr 1
          omega
      · rw [List.mem_append, h2, hs, List.mem_append, hgd]
theorem usL_zero (n : Nat) : List.replicate n (PV.int .u64 0) = usL (List.replicate n 0) := by simp [usL]
theorem setR_usL : ∀ (Y X : List Int) (k : Nat), setR (usL X) k (usL Y) = usL (setR X k Y)
  | [], X, k => rfl
  | y :: Y, X, k => by
    show setR ((usL X).set k (.int .u64 y)) (k + 1) (usL Y) = _
    rw [usL_set, setR_usL Y]; rfl
theorem setR_take {α : Type} : ∀ (Y X : List α) (k : Nat), (setR X k Y).take k = X.take k ∧ (setR X k Y).length = X.length
  | [], X, k => ⟨rfl, rfl⟩
  | y :: Y, X, k => by
    obtain ⟨h1, h2⟩ := setR_take Y (X.set k y) (k + 1)
    refine ⟨?_, by simpa [setR] using h2⟩
    have : (setR (X.set k y) (k + 1) Y).take k = ((setR (X.set k y) (k + 1) Y).take (k + 1)).take k := by rw [List.take_take]; congr 1; omega
    show (setR (X.set k y) (k + 1) Y).take k = _
    rw [this, h1, List.take_take, show min k (k + 1) = k by omega, List.take_set_of_le (Nat.le_refl _)]
/-- A slice whose numbers lie ahead in a row. -/
def HdS (H : Heap) (v : AV) (D : List Int) : Prop := (v = .nsl ∧ D = []) ∨ ∃ b g ex X, v = .ref b g 0 D.length ex ∧ H[b]? = some (.arr true g 0 (usL X)) ∧ X.take D.length = D ∧ D.length ≤ X.length
theorem clear_u {H : Heap} {b g off n : Nat} {ex : Bool} {X : List Int} (hb : H[b]? = some (.arr true g 0 (usL X))) (h : off + n ≤ X.length) (h0 : n ≠ 0) :
    noRes (evClearS Try.prog 25 (.ref b g off n ex) H) = some (.p (.tup []), H.set b (.arr true g 0 (usL (setR X off (List.replicate n 0))))) := by
  have hx := usL_len X
  unfold evClearS
  rw [telem_25]
  simp only [Option.bind_some, tzero_23, frzN_p, hb, hx, ids_p, PV.shape, and_self, if_true, h, h0, ne_eq, not_false_eq_true, usL_zero, setR_usL, noRes, Option.map_some]
theorem w31 (v : AV) (l : List Int) (H : Heap) (ho : OwnS H v 0 (usL l)) (hl : l.length ≤ 1000) (Q : AV → Heap → Prop)
    (hq : ∀ v' H', HdS H' v' (cpN l l.length) → (∀ c, v'.blk = some c → v.blk = some c) → (∀ i, v.blk ≠ some i → H'[i]? = H[i]?) → H'.length = H.length → Q v' H') : (W Cf okf).call 31 [v] H Q := by
  refine top_mk extMono Try.func31 body31 (by decide) rfl ?_
  simp only [c31, Try.f31, Option.getD_some]
  have hul := usL_len l
  rcases ho with ⟨rfl, h0⟩ | ⟨b, g, rfl, hb⟩
  · have : l = [] := by simpa [usL] using h0
    subst this
    simp -implicitDefEqProofs -dsimp (disch := first | omega | (simp only [wkLen]; omega) | decide +kernel) only [↓wkPre, ↓wkPre2, ↓wkE, wkPost, wkDef, wkF, simprocAttr]
    exact hq _ H (.inl ⟨rfl, rfl⟩) (fun c h => by cases h) (fun _ _ => rfl) rfl
  · have hbl := (List.getElem?_eq_some_iff.1 hb).1
    rw [hul] at hq ⊢
    rcases Nat.lt_or_ge l.length 2 with h2 | h2
    · have hcp : cpN l l.length = l := by
        match l, h2 with
        | [], _ => rfl
        | [x], _ => simp [cpN]
      rw [hcp] at hq
      simp -implicitDefEqProofs -dsimp (disch := first | omega | (simp only [wkLen]; omega) | decide +kernel) only [↓wkPre, ↓wkPre2, ↓wkE, wkPost, wkDef, wkF, simprocAttr, hul]
      exact hq _ H (.inr ⟨b, g, false, l, rfl, hb, by simp, Nat.le_refl _⟩) (fun c h => h) (fun _ _ => rfl) rfl
    · simp -implicitDefEqProofs -dsimp (disch := first | omega | (simp only [wkLen]; omega) | decide +kernel) only [↓wkPre, ↓wkPre2, ↓wkE, wkPost, wkDef, wkF, simprocAttr, hul]
      refine loop_use extMono (fun m e Hc => ∃ i : Nat, m = l.length - i ∧ 1 ≤ i ∧ i ≤ l.length ∧ e 0 = .ref b g 0 l.length false ∧ e 3 = .p (I i) ∧ Hc = H ∧ cpN l i = l.take i) ?_ (l.length - 1) _ _ ⟨1, rfl, by omega, by omega, ?_⟩
      · rintro m e Hc ⟨i, rfl, hi1, hi, e0, e3, rfl, hcp⟩
        rcases Nat.lt_or_ge i l.length with h | h
        · have hk : (i : Int) - 1 = ((i - 1 : Nat) : Int) := by omega
          have gi := usL_get h
          have gj := usL_get (show i - 1 < l.length by omega)
          have hs := List.take_succ_eq_append_getElem h
          have hcs : cpN l (i + 1) = if l[i] = l[i - 1] then cpN l i else cpN l i ++ [l[i]] := by
            rw [cpN]
            have hgd : l.getD i 0 = l[i] := by simp [List.getD, h]
            rw [hgd, List.getElem?_eq_getElem h, List.getElem?_eq_getElem (show i - 1 < l.length by omega)]
            by_cases hc : l[i] = l[i - 1]
            · rw [if_pos ⟨by omega, by rw [hc]⟩, if_pos hc]
            · rw [if_neg (fun h => hc (Option.some.inj h.2)), if_neg hc]
          cases hc : (l[i] == l[i - 1])
          · simp -implicitDefEqProofs -dsimp (disch := first | omega | (simp only [wkLen]; omega) | decide +kernel) only [↓wkPre, ↓wkPre2, ↓wkE, wkPost, wkDef, wkF, simprocAttr, e0, e3, hul, hb, gi, gj, hk, hc]
            rw [if_neg (by simpa using hc)] at hcs
            exact ⟨l.length - (i + 1), by omega, i + 1, rfl, by omega, by omega, by push_cast; rfl, by rw [hcs, hs, hcp]⟩
          · simp -implicitDefEqProofs -dsimp (disch := first | omega | (simp only [wkLen]; omega) | decide +kernel) only [↓wkPre, ↓wkPre2, ↓wkE, wkPost, wkDef, wkF, simprocAttr, e0, e3, hul, hb, gi, gj, hk, hc]
            rw [if_pos (by simpa using hc), hcp] at hcs
            refine loop_use extMono (fun m e Hd => ∃ (j k : Nat) (X : List Int), m = l.length - i - j ∧ 1 ≤ j ∧ i + j ≤ l.length ∧ k < i + j ∧ i ≤ k ∧ e 0 = .ref b g 0 l.length false ∧ e 3 = .p (I k) ∧ e 4 = .ref b g i (l.length - i) false ∧ e 5 = .p (I j) ∧
              Hd[b]? = some (.arr true g 0 (usL X)) ∧ (∀ q, q ≠ b → Hd[q]? = Hc[q]?) ∧ Hd.length = Hc.length ∧ X.length = l.length ∧ X.take k = cpN l (i + j) ∧ (∀ q, i + j ≤ q + 1 → X[q]? = l[q]?)) ?_ (l.length - i - 1) _ _ ⟨1, i, l, rfl, by omega, by omega, by omega, by omega, ?_⟩
            · rintro m e Hd ⟨j, k, X, rfl, hj1, hj, hk1, hik, e0, e3, e4, e5, hb', hfr, hln, hX, hcp2, hrest⟩
              have hux := usL_len X
              have hbl' := (List.getElem?_eq_some_iff.1 hb').1
              rcases Nat.lt_or_ge (i + j) l.length with h3 | h3
              · have hj2 : (j : Int) - 1 = ((j - 1 : Nat) : Int) := by omega
                have g1 : (usL X)[i + j]? = some (.int .u64 l[i + j]) := by
                  have := hrest (i + j) (by omega)
                  simp [usL, this, h3]
                have g2 : (usL X)[i + (j - 1)]? = some (.int .u64 l[i + j - 1]) := by
                  have h4 := hrest (i + (j - 1)) (by omega)
                  have e4 : i + (j - 1) = i + j - 1 := by omega
                  rw [e4] at h4 ⊢
                  rw [List.getElem?_eq_getElem (show i + j - 1 < l.length by omega)] at h4
                  simp [usL, h4]
                have g3 := usL_get (show k < X.length by omega)
                have hcs2 : cpN l (i + j + 1) = if l[i + j] = l[i + j - 1] then cpN l (i + j) else cpN l (i + j) ++ [l[i + j]] := by
                  rw [cpN]
                  have hgd : l.getD (i + j) 0 = l[i + j] := by simp [List.getD, h3]
                  rw [hgd, List.getElem?_eq_getElem h3, List.getElem?_eq_getElem (show i + j - 1 < l.length by omega)]
                  by_cases hc : l[i + j] = l[i + j - 1]
                  · rw [if_pos ⟨by omega, by rw [hc]⟩, if_pos hc]
                  · rw [if_neg (fun h => hc (Option.some.inj h.2)), if_neg hc]
                cases hc2 : (l[i + j] == l[i + j - 1])
                · simp -implicitDefEqProofs -dsimp (disch := first | omega | (simp only [wkLen]; omega) | decide +kernel) only [↓wkPre, ↓wkPre2, ↓wkE, wkPost, wkDef, wkF, simprocAttr, e0, e3, e4, e5, hux, hX, hb', g1, g2, g3, hj2, hc2, usL_set]
                  rw [if_neg (by simpa using hc2)] at hcs2
                  refine ⟨l.length - i - (j + 1), by omega, j + 1, k + 1, X.set k l[i + j], rfl, by omega, by omega, by omega, by omega, by push_cast; rfl, rfl, by push_cast; rfl, fun q hq => by rw [hs_ne (fun e => hq e.symm)]; exact hfr q hq, by simpa using hln, by simpa using hX, ?_, fun q hq => ?_⟩
                  · rw [show i + (j + 1) = i + j + 1 by omega, hcs2, ← hcp2, List.take_succ_eq_append_getElem (by simp; omega)]
                    simp [List.take_set_of_le]
                  · rw [List.getElem?_set_ne (by omega)]; exact hrest q (by omega)
                · simp -implicitDefEqProofs -dsimp (disch := first | omega | (simp only [wkLen]; omega) | decide +kernel) only [↓wkPre, ↓wkPre2, ↓wkE, wkPost, wkDef, wkF, simprocAttr, e0, e3, e4, e5, hux, hX, hb', g1, g2, hj2, hc2]
                  rw [if_pos (by simpa using hc2)] at hcs2
                  exact ⟨l.length - i - (j + 1), by omega, j + 1, k, X, rfl, by omega, by omega, by omega, by omega, rfl, rfl, by push_cast; rfl, hfr, hln, hX, by rw [show i + (j + 1) = i + j + 1 by omega, hcs2, hcp2], fun q hq => hrest q (by omega)⟩
              · have hij : i + j = l.length := by omega
                rw [hij] at hcp2 hk1
                simp -implicitDefEqProofs -dsimp (disch := first | omega | (simp only [wkLen]; omega) | decide +kernel) only [↓wkPre, ↓wkPre2, ↓wkE, wkPost, wkDef, wkF, simprocAttr, e0, e3, e4, e5, hux, hX, hb']
                rw [clear_u hb' (by omega) (by omega)]
                obtain ⟨t1, t2⟩ := setR_take (List.replicate (l.length - k) (0 : Int)) X k
                have hkl : (cpN l l.length).length = k := by rw [← hcp2, List.length_take]; omega
                have hxl2 := usL_len (setR X k (List.replicate (l.length - k) (0 : Int)))
                rw [t2] at hxl2
                simp -implicitDefEqProofs -dsimp (disch := first | omega | (simp only [wkLen]; omega) | decide +kernel) only [↓wkPre, ↓wkPre2, ↓wkE, wkPost, wkDef, wkF, simprocAttr, e0, e3, e4, e5, hxl2, hX]
                rw [← hkl] at hcp2 t1 t2 ⊢
                refine hq _ _ (.inr ⟨b, g, _, _, rfl, hs_set (by omega), t1.trans hcp2, by rw [t2]; omega⟩) (fun c h => h) (fun q hq => ?_) (by simpa using hln)
                rw [hs_ne (fun e => hq (by rw [e]; rfl))]
                exact hfr q (fun e => hq (by rw [e]; rfl))
            · simp -implicitDefEqProofs -dsimp (disch := first | omega | (simp only [wkLen]; omega) | decide +kernel) only [↓wkPre, ↓wkPre2, ↓wkE, wkPost, wkDef, wkF, simprocAttr]
              exact ⟨e0, e3, hb, fun _ _ => trivial, hcs.symm, fun _ _ => trivial⟩
        · obtain rfl : i = l.length := by omega
          rw [List.take_length] at hcp
          simp -implicitDefEqProofs -dsimp (disch := first | omega | (simp only [wkLen]; omega) | decide +kernel) only [↓wkPre, ↓wkPre2, ↓wkE, wkPost, wkDef, wkF, simprocAttr, e0, e3, hul]
          exact hq _ Hc (.inr ⟨b, g, false, l, by rw [hcp], hb, by rw [hcp]; simp, by rw [hcp]; exact Nat.le_refl _⟩) (fun c h => h) (fun _ _ => rfl) rfl
      · simp -implicitDefEqProofs -dsimp (disch := first | omega | (simp only [wkLen]; omega) | decide +kernel) only [↓wkPre, ↓wkPre2, ↓wkE, wkPost, wkDef, wkF, simprocAttr]
        match l, h2 with
        | x :: l, _ => simp [cpN]
end Go.Ev.F12
end
section
namespace Go.Ev.F12
open Go.Proofs Go.Ev Go.Sort
set_option maxRecDepth 100000
set_option linter.all false
theorem w32 (b g : Nat) (ex : Bool) (l : List Int) (H : Heap) (hb : H[b]? = some (.arr true g 0 (usL l))) (hl : l.length ≤ 1000) (Q : AV → Heap → Prop)
    (hq : ∀ H', H'[b]? = some (.arr true g 0 (usL l.reverse)) → (∀ i, i ≠ b → H'[i]? = H[i]?) → H'.length = H.length → Q (.p (.tup [])) H') : (W Cf okf).call 32 [.ref b g 0 l.length ex] H Q := by
  refine top_mk extMono Try.func32 body32 (by decide) rfl ?_
  simp only [c32, Try.f32, Option.getD_some]
  have hbl := (List.getElem?_eq_some_iff.1 hb).1
  simp -implicitDefEqProofs -dsimp (disch := first | omega | (simp only [wkLen]; omega) | decide +kernel) only [↓wkPre, ↓wkPre2, ↓wkE, wkPost, wkDef, wkF, simprocAttr]
  refine loop_use extMono (fun m e Hc => ∃ (i : Nat) (X : List Int), m = l.length - i ∧ i ≤ l.length ∧ e 0 = .ref b g 0 l.length ex ∧ e 2 = .p (I i) ∧ e 3 = .p (I ((l.length : Int) - 1 - i)) ∧ Hc[b]? = some (.arr true g 0 (usL X)) ∧ (∀ q, q ≠ b → Hc[q]? = H[q]?) ∧ Hc.length = H.length ∧ X.length = l.length ∧
    (∀ j, (j < i ∨ l.length - i ≤ j) → j < l.length → X[j]? = l[l.length - 1 - j]?) ∧ (∀ j, i ≤ j → j < l.length - i → X[j]? = l[j]?)) ?_ l.length _ _ ⟨0, l, rfl, by omega, ?_⟩
  · rintro m e Hc ⟨i, X, rfl, hi, e0, e2, e3, hb', hfr, hln, hX, h1, h2⟩
    have hux := usL_len X
    have hbl' := (List.getElem?_eq_some_iff.1 hb').1
    by_cases h : (i : Int) < (l.length : Int) - 1 - i
    · have k1 : (l.length : Int) - 1 - i = ((l.length - 1 - i : Nat) : Int) := by omega
      have g1 := usL_get (show i < X.length by omega)
      have g2 := usL_get (show l.length - 1 - i < X.length by omega)
      have g3 := fun y => usL_get (l := X.set i y) (show l.length - 1 - i < (X.set i y).length by simp; omega)
      have s1 : (usL X).length = l.length := by rw [hux, hX]
      have x1 := h2 i (by omega) (by omega)
      have x2 := h2 (l.length - 1 - i) (by omega) (by omega)
      rw [List.getElem?_eq_getElem (show i < X.length by omega), List.getElem?_eq_getElem (show i < l.length by omega)] at x1
      rw [List.getElem?_eq_getElem (show l.length - 1 - i < X.length by omega), List.getElem?_eq_getElem (show l.length - 1 - i < l.length by omega)] at x2
      simp only [Option.some.injEq] at x1 x2
      simp -implicitDefEqProofs -dsimp (disch := first | omega | (simp only [wkLen]; omega) | decide +kernel) only [↓wkPre, ↓wkPre2, ↓wkE, wkPost, wkDef, wkF, simprocAttr, e0, e2, e3, k1, hb', g1, g2, g3, s1, usL_set]
      refine ⟨l.length - (i + 1), by omega, i + 1, _, rfl, by omega, by push_cast; rfl, by rw [← k1]; congr 2; omega, rfl, fun q hq => by rw [hs_ne (fun e => hq e.symm), hs_ne (fun e => hq e.symm)]; exact hfr q hq, by simpa using hln, by simpa using hX, fun j hj hjl => ?_, fun j hj1 hj2 => ?_⟩
      · by_cases ha : j = i
        · subst ha
          rw [List.getElem?_set_ne (by omega), List.getElem?_set_self (by omega), x2, List.getElem?_eq_getElem (show l.length - 1 - j < l.length by omega)]
        · by_cases hb2 : j = l.length - 1 - i
          · subst hb2
            rw [List.getElem?_set_self (by simp; omega), x1, show l.length - 1 - (l.length - 1 - i) = i by omega, List.getElem?_eq_getElem (show i < l.length by omega)]
          · rw [List.getElem?_set_ne (by omega), List.getElem?_set_ne (by omega)]
            exact h1 j (by omega) hjl
      · rw [List.getElem?_set_ne (by omega), List.getElem?_set_ne (by omega)]
        exact h2 j (by omega) (by omega)
    · have hrev : X = l.reverse := by
        apply List.ext_getElem?
        intro j
        by_cases hj : j < l.length
        · rw [List.getElem?_reverse hj]
          by_cases hc : j < i ∨ l.length - i ≤ j
          · exact h1 j hc hj
          · rw [h2 j (by omega) (by omega)]
            congr 1; omega
        · rw [List.getElem?_eq_none (by omega), List.getElem?_eq_none (by simp; omega)]
      simp -implicitDefEqProofs -dsimp (disch := first | omega | (simp only [wkLen]; omega) | decide +kernel) only [↓wkPre, ↓wkPre2, ↓wkE, wkPost, wkDef, wkF, simprocAttr, e0, e2, e3]
      exact hq _ (hrev ▸ hb') hfr hln
  · simp -implicitDefEqProofs -dsimp (disch := first | omega | (simp only [wkLen]; omega) | decide +kernel) only [↓wkPre, ↓wkPre2, ↓wkE, wkPost, wkDef, wkF, simprocAttr]
    exact ⟨by simp, hb, fun _ _ => trivial, fun j h => by omega, fun _ _ _ => trivial⟩
/-- A way back, by what one came from. -/
inductive Chn (K V : List Int) (fr : Int) : Int → List Int → Prop
  | one : Chn K V fr fr [fr]
  | more {x y : Int} {P : List Int} {i : Nat} : x ≠ fr → K.findIdx? (fun y => x == y) = some i → V[i]? = some y → Chn K V fr y P → Chn K V fr x (P ++ [x])
theorem Chn.last {K V : List Int} {fr x : Int} {P : List Int} (h : Chn K V fr x P) : ∃ P0, P = P0 ++ [x] := by
  cases h with
  | one => exact ⟨[], rfl⟩
  | more => exact ⟨_, rfl⟩
theorem p23 (K V : List Int) (fr last : Int) (P : List Int) (hP : P.length ≤ 1000) (h : Chn K V fr last P) : PS Cf okf 23 [25] [.fmap (kI .u64 K) (usL V), U fr, U last] (fun r => r = us P) := by
  refine PS.mk extMono Try.func23 body23 (by decide) rfl ?_
  simp only [c23, Try.f23, Option.getD_some]
  simp -implicitDefEqProofs -dsimp (disch := first | omega | (simp only [wkLen]; omega) | decide +kernel) only [↓wkPre, ↓wkPre2, ↓wkE, wkPost, wkDef, wkF, simprocAttr]
  refine loop_use extMono (fun m e H => ∃ (x : Int) (Px O : List Int) (w : AV), m = Px.length ∧ e 0 = .p (.fmap (kI .u64 K) (usL V)) ∧ e 1 = .p (U fr) ∧ e 2 = .p (U x) ∧ e 7 = w ∧ OwnS H w 0 (usL (O ++ [x])) ∧ Chn K V fr x Px ∧ P = Px ++ O.reverse) ?_ P.length _ _ ⟨last, P, [], .ref 0 0 0 1 false, rfl, ?_⟩
  · rintro m e H ⟨x, Px, O, w, rfl, e0, e1, e2, e7, hown, hch, hPP⟩
    have hlen : P.length = Px.length + O.length := by rw [hPP]; simp
    cases hch with
    | one =>
      rcases hown with ⟨_, h0⟩ | ⟨b, g, rfl, hb⟩
      · simp [usL] at h0
      · have hl2 : (usL (O ++ [fr])).length = (O ++ [fr]).length := usL_len _
        simp -implicitDefEqProofs -dsimp (disch := first | omega | (simp only [wkLen]; omega) | decide +kernel) only [↓wkPre, ↓wkPre2, ↓wkE, wkPost, wkDef, wkF, simprocAttr, e0, e1, e2, e7]
        rw [hl2]
        refine imp_call md_32 (w32 b g false (O ++ [fr]) H hb (by simp; simp at hlen; omega) _ ?_)
        intro H' hb' hfr' hln'
        simp -implicitDefEqProofs -dsimp (disch := first | omega | (simp only [wkLen]; omega) | decide +kernel) only [↓wkPre, ↓wkPre2, ↓wkE, wkPost, wkDef, wkF, simprocAttr, e0, e1, e2, e7]
        have hl3 : (usL (O ++ [fr])).length = (usL (O ++ [fr]).reverse).length := by rw [usL_len, usL_len, List.length_reverse]
        rw [hl3]
        have := us_frz (H := H') (v := .ref b g 0 (usL (O ++ [fr]).reverse).length false) (l := (O ++ [fr]).reverse) (.inr ⟨b, g, rfl, hb'⟩)
        rw [show (O ++ [fr]).reverse = P by rw [hPP]; simp] at this ⊢
        rw [frzR_ref] at this
        exact this
    | @more _ y P1 i hne hi hv hch =>
      have hc : (x == fr) = false := by simp [hne]
      have hlk := look_fhit (P := Try.prog) (t := 41) (H := H) tmap_41 tzero_23 (kd := .u64) (ws := usL V) (v := .int .u64 y) hi (by simp [usL, hv]) false
      simp -implicitDefEqProofs -dsimp (disch := first | omega | (simp only [wkLen]; omega) | decide +kernel) only [↓wkPre, ↓wkPre2, ↓wkE, wkPost, wkDef, wkF, simprocAttr, e0, e1, e2, e7, hc, hlk]
      refine append_step telem_25 (elems_new rfl rfl) (by simp) (hown.app _) ?_ ?_
      · rw [byt_23, usL_len]; simp; simp at hlen; omega
      intro w' H' hown' hfr' hle hb'
      simp -implicitDefEqProofs -dsimp (disch := first | omega | (simp only [wkLen]; omega) | decide +kernel) only [↓wkPre, ↓wkPre2, ↓wkE, wkPost, wkDef, wkF, simprocAttr, e0, e1, e2, e7]
      refine ⟨P1.length, by simp, y, P1, O ++ [x], w', rfl, rfl, rfl, ?_, hch, by rw [hPP]; simp⟩
      rw [usL_snoc (O ++ [x])]
      exact hown'
  · simp -implicitDefEqProofs -dsimp (disch := first | omega | (simp only [wkLen]; omega) | decide +kernel) only [↓wkPre, ↓wkPre2, ↓wkE, wkPost, wkDef, wkF, simprocAttr]
    exact ⟨.inr ⟨0, 0, rfl, rfl⟩, h, by simp⟩
end Go.Ev.F12
end
section
namespace Go.Ev.F12
open Go.Proofs Go.Ev Go.Sort
set_option maxRecDepth 100000
set_option linter.all false
theorem arcL_take {L : Arcs} {i : Nat} (h : i < L.length) : arcL (L.take (i + 1)) = arcL (L.take i) ++ [.agg [.int .u64 L[i].1, .int .u64 L[i].2]] := by
  rw [List.take_succ_eq_append_getElem h]; simp only [arcL, List.map_append, List.map_cons, List.map_nil, arc]
theorem p10 (L : Arcs) (hL : L.length ≤ 1000) : PS Cf okf 10 [27] [arcs L] (fun r => r = arcs L) := by
  refine PS.mk extMono Try.func10 body10 (by decide) rfl ?_
  simp only [c10, Try.f10, Option.getD_some]
  have hul := arcL_len L
  simp -implicitDefEqProofs -dsimp (disch := first | omega | (simp only [wkLen]; omega) | decide +kernel) only [↓wkPre, ↓wkPre2, ↓wkE, wkPost, wkDef, wkF, simprocAttr]
  refine loop_use extMono (fun m e H => ∃ (i : Nat) (w : AV), m = L.length - i ∧ i ≤ L.length ∧ e 0 = .p (arcs L) ∧ e 3 = w ∧ e 4 = .p (I i) ∧ OwnS H w 2 (arcL (L.take i))) ?_ L.length _ _ ⟨0, .nsl, rfl, by omega, ?_⟩
  · rintro m e H ⟨i, w, rfl, hi, e0, e3, e4, hown⟩
    have hb : (arcL (L.take i)).length ≤ L.length := by rw [arcL_len, List.length_take]; omega
    rcases Nat.lt_or_ge i L.length with h | h
    · have gi := arcL_get h
      simp -implicitDefEqProofs -dsimp (disch := first | omega | (simp only [wkLen]; omega) | decide +kernel) only [↓wkPre, ↓wkPre2, ↓wkE, wkPost, wkDef, wkF, simprocAttr, e0, e3, e4, hul, gi]
      refine append_step telem_27 (elems_new rfl rfl) (by simp) (hown.app _) ?_ ?_
      · rw [show Program.bytesOf Try.prog 40 = 16 by decide +kernel]; simp; omega
      intro w' H' hown' hfr hle hb'
      simp -implicitDefEqProofs -dsimp (disch := first | omega | (simp only [wkLen]; omega) | decide +kernel) only [↓wkPre, ↓wkPre2, ↓wkE, wkPost, wkDef, wkF, simprocAttr, e0, e3, e4]
      refine ⟨L.length - (i + 1), by omega, i + 1, w', rfl, by omega, rfl, by push_cast; rfl, ?_⟩
      rw [arcL_take h]; exact hown'
    · obtain rfl : i = L.length := by omega
      rw [List.take_length] at hown
      have hfz := frz_own (P := Try.prog) (n := 4) telem_27 hown
      rcases hown with ⟨rfl, hx0⟩ | ⟨b, g, rfl, hb⟩
      · simp -implicitDefEqProofs -dsimp (disch := first | omega | (simp only [wkLen]; omega) | decide +kernel) only [↓wkPre, ↓wkPre2, ↓wkE, wkPost, wkDef, wkF, simprocAttr, e0, e3, e4, hul]
        show PV.sl 2 [] = .sl 2 (arcL L)
        rw [hx0]
      · rw [hul] at hfz
        simp -implicitDefEqProofs -dsimp (disch := first | omega | (simp only [wkLen]; omega) | decide +kernel) only [↓wkPre, ↓wkPre2, ↓wkE, wkPost, wkDef, wkF, simprocAttr, e0, e3, e4, hul, hb]
        rw [hfz]; rfl
  · simp -implicitDefEqProofs -dsimp (disch := first | omega | (simp only [wkLen]; omega) | decide +kernel) only [↓wkPre, ↓wkPre2, ↓wkE, wkPost, wkDef, wkF, simprocAttr]
    exact OwnS.nil _ _
theorem p22 (L : Arcs) (n : Int) : PS Cf okf 22 [43] [arcs L, U n] (fun r => r = .fn 30 [.fp (arcs L) 0 0, .fp (U n) 0 0]) := by
  refine PS.mk extMono Try.func22 body22 (by decide) rfl ?_
  simp only [c22, Try.f22, Option.getD_some]
  simp -implicitDefEqProofs -dsimp (disch := first | omega | (simp only [wkLen]; omega) | decide +kernel) only [↓wkPre, ↓wkPre2, ↓wkE, wkPost, wkDef, wkF, simprocAttr]
/-- For whom somebody waits. -/
def nxt (L : Arcs) (n : Int) : List Int := stepL L [n]
theorem mem_nxt {L : Arcs} {n t : Int} : t ∈ nxt L n ↔ (n, t) ∈ L := by simp [nxt, mem_stepL]
theorem Rise.ext {a b : List Int} (ha : Rise a) (hb : Rise b) (h : ∀ x, x ∈ a ↔ x ∈ b) : a = b := by
  have hp : a.Perm b := by
    have hna : a.Nodup := ha.imp (fun h => by omega)
    have hnb : b.Nodup := hb.imp (fun h => by omega)
    rw [List.perm_ext_iff_of_nodup hna hnb]
    exact h
  exact hp.eq_of_pairwise (fun x y _ _ h1 h2 => by omega) ha hb
def tg (L : Arcs) (n : Int) : List Int := (L.filter (fun a => a.1 == n)).map (·.2)
theorem tg_take {L : Arcs} {n : Int} {i : Nat} (h : i < L.length) : tg (L.take (i + 1)) n = tg (L.take i) n ++ if L[i].1 = n then [L[i].2] else [] := by
  unfold tg
  rw [List.take_succ_eq_append_getElem h, List.filter_append, List.map_append]
  congr 1
  by_cases hc : L[i].1 = n
  · simp [hc]
  · simp [hc]
theorem mem_tg {L : Arcs} {n t : Int} : t ∈ tg L n ↔ (n, t) ∈ L := by
  unfold tg
  simp only [List.mem_map, List.mem_filter, beq_iff_eq]
  constructor
  · rintro ⟨⟨a, b⟩, ⟨h1, h2⟩, rfl⟩
    simp only at h2
    subst h2; exact h1
  · intro h; exact ⟨(n, t), ⟨h, rfl⟩, rfl⟩
theorem tg_len (L : Arcs) (n : Int) : (tg L n).length ≤ L.length := by
  unfold tg; rw [List.length_map]; exact List.length_filter_le _ _
theorem usL_encA (l : List Int) : usL l = encA E l.toArray := by simp [usL, encA]
theorem sorted_nxt {L : Arcs} {n : Int} {S : List Int} (hS : S = (tg L n).mergeSort (fun x y => !ltInt y x)) : cpN S S.length = nxt L n := by
  have hle : S.Pairwise (· ≤ ·) := by
    rw [hS]
    have := List.pairwise_mergeSort (le := fun x y : Int => !ltInt y x) (fun a b c h1 h2 => by simp [ltInt] at *; omega) (fun a b => by simp [ltInt]; omega) (tg L n)
    exact this.imp (fun h => by simpa [ltInt] using h)
  obtain ⟨h1, h2, _⟩ := cpN_ok hle S.length (Nat.le_refl _)
  refine Rise.ext h1 (stepL_rise _ _) fun x => ?_
  rw [h2, List.take_length, hS, List.mem_mergeSort, mem_tg, ← mem_nxt]
theorem wSortO (w : AV) (T : List Int) (H : Heap) (ho : OwnS H w 0 (usL T)) (hT : T.length < 50) (Q : AV → Heap → Prop)
    (hq : ∀ H', OwnS H' w 0 (usL (T.mergeSort (fun x y => !ltInt y x))) → (∀ i, w.blk ≠ some i → i < H.length → H'[i]? = H[i]?) → H.length ≤ H'.length → Q (.p (.tup [])) H') : (W Cf okf).call 28 [w] H Q := by
  rcases ho with ⟨rfl, h0⟩ | ⟨b, g, rfl, hb⟩
  · have : T = [] := by simpa [usL] using h0
    subst this
    exact wSort0 H Q (hq H (by simpa [usL] using OwnS.nil H 0) (fun _ _ _ => rfl) (Nat.le_refl _))
  · have hsz : (usL T).length = T.toArray.size := by rw [usL_len]; rfl
    rw [hsz]
    rw [usL_encA] at hb
    refine wSort b g false T.toArray H hb (by simpa using hT) Q fun H' d' hr hs hf => ?_
    have hl : d'.toList.length = T.length := by rw [hs]; simp
    rw [show T.toArray.toList = T from rfl] at hs
    rw [hsz] at hq
    refine hq H' (.inr ⟨b, g, ?_, ?_⟩) (fun i hi hl => hf.1 i (fun e => hi (by rw [e]; rfl)) hl) hf.2
    · rw [usL_len, ← hs, hl]; rfl
    · rw [← hs]
      have : usL d'.toList = encA E d' := by simp [usL, encA]
      rw [this]; exact hr
theorem w30 (b : Nat) (L : Arcs) (n : Int) (hL : L.length ≤ 40) (H : Heap) (J : Heap → List Int → Heap → Prop) (F : Heap → Prop) (Q : AV → Heap → Prop)
    (h0 : ∀ K, (∀ i, i < H.length → K[i]? = H[i]?) → H.length ≤ K.length → J K (nxt L n) K)
    (hJc : ∀ K l H', J K l H' → ∀ i, H.length ≤ i → i < K.length → H'[i]? = K[i]?)
    (hstep : ∀ K k rest H', J K (k :: rest) H' → yieldK (W Cf okf) b [.p (U k)] H' (fun x H'' => ∃ c : Bool, x = .p (.bool c) ∧ (c = true → J K rest H'') ∧ (c = false → F H'')))
    (hJ : ∀ K H', J K [] H' → Q (.p (.tup [])) H') (hF : ∀ H', F H' → Q (.p (.tup [])) H') :
    (W Cf okf).call 30 [.yld b, .p (.fp (arcs L) 0 0), .p (.fp (U n) 0 0)] H Q := by
  refine top_mk extMono Try.func30 body30 (by decide) rfl ?_
  simp only [c30, Try.f30, Option.getD_some]
  have hul := arcL_len L
  simp -implicitDefEqProofs -dsimp (disch := first | omega | (simp only [wkLen]; omega) | decide +kernel) only [↓wkPre, ↓wkPre2, ↓wkE, wkPost, wkDef, wkF, simprocAttr, hul]
  refine loop_use extMono (fun m e Hc => ∃ (i : Nat) (w : AV), m = L.length - i ∧ i ≤ L.length ∧ e 0 = .yld b ∧ e 2 = .p (.fp (U n) 0 0) ∧ e 9 = .p (arcs L) ∧ e 10 = .p (I L.length) ∧ e 11 = .p (I i) ∧ e 4 = w ∧
    OwnS Hc w 0 (usL (tg (L.take i) n)) ∧ (∀ c, w.blk = some c → H.length ≤ c) ∧ (∀ i, i < H.length → Hc[i]? = H[i]?) ∧ H.length ≤ Hc.length) ?_ L.length _ _ ⟨0, .nsl, rfl, by omega, ?_⟩
  · rintro m e Hc ⟨i, w, rfl, hi, e0, e2, e9, e10, e11, e4, hown, hwb, hfr, hln⟩
    have htl : (tg (L.take i) n).length ≤ L.length := Nat.le_trans (tg_len _ _) (by rw [List.length_take]; omega)
    rcases Nat.lt_or_ge i L.length with h | h
    · have gi := arcL_get h
      have ht := tg_take (n := n) h
      by_cases hc : L[i].1 = n
      · have hc' : (L[i].1 == n) = true := by simp [hc]
        rw [if_pos hc] at ht
        simp -implicitDefEqProofs -dsimp (disch := first | omega | (simp only [wkLen]; omega) | decide +kernel) only [↓wkPre, ↓wkPre2, ↓wkE, wkPost, wkDef, wkF, simprocAttr, e0, e2, e9, e10, e11, e4, hul, gi, hc']
        refine append_step telem_25 (elems_new2 rfl rfl) (by simp) (hown.app _) ?_ ?_
        · rw [byt_23, usL_len]; simp; omega
        intro w' H' hown' hfr' hle hb'
        simp only [List.length_append, List.length_cons, List.length_nil] at hfr' hle hb'
        simp -implicitDefEqProofs -dsimp (disch := first | omega | (simp only [wkLen]; omega) | decide +kernel) only [↓wkPre, ↓wkPre2, ↓wkE, wkPost, wkDef, wkF, simprocAttr, e0, e2, e9, e10, e11, e4]
        refine ⟨L.length - (i + 1), by omega, i + 1, w', rfl, by omega, by push_cast; rfl, rfl, ?_, fun c hc => ?_, fun j hj => ?_, by omega⟩
        · rw [ht, usL_snoc]; exact hown'
        · by_cases hcl : c < Hc.length + (0 + 1) + (0 + 1)
          · exact hwb c (hb' c hc (by omega))
          · omega
        · rw [hfr' j (by omega) (fun e => by have := hwb j e; omega), hs_app (by omega)]
          exact hfr j hj
      · have hc' : (L[i].1 == n) = false := by simp [hc]
        rw [if_neg hc, List.append_nil] at ht
        simp -implicitDefEqProofs -dsimp (disch := first | omega | (simp only [wkLen]; omega) | decide +kernel) only [↓wkPre, ↓wkPre2, ↓wkE, wkPost, wkDef, wkF, simprocAttr, e0, e2, e9, e10, e11, e4, hul, gi, hc']
        exact ⟨L.length - (i + 1), by omega, i + 1, w, rfl, by omega, by push_cast; rfl, rfl, by rw [ht]; exact hown.app _, hwb, fun j hj => by rw [hs_app (by omega)]; exact hfr j hj, by omega⟩
    · obtain rfl : i = L.length := by omega
      rw [List.take_length] at hown htl
      simp -implicitDefEqProofs -dsimp (disch := first | omega | (simp only [wkLen]; omega) | decide +kernel) only [↓wkPre, ↓wkPre2, ↓wkE, wkPost, wkDef, wkF, simprocAttr, e0, e2, e9, e10, e11, e4]
      refine imp_call md_28 (wSortO w (tg L n) Hc hown (by omega) _ ?_)
      intro H1 hown1 hfr1 hln1
      obtain ⟨S, hS⟩ : ∃ S, S = (tg L n).mergeSort (fun x y => !ltInt y x) := ⟨_, rfl⟩
      rw [← hS] at hown1
      have hSl : S.length ≤ L.length := by rw [hS, List.length_mergeSort]; omega
      simp -implicitDefEqProofs -dsimp (disch := first | omega | (simp only [wkLen]; omega) | decide +kernel) only [↓wkPre, ↓wkPre2, ↓wkE, wkPost, wkDef, wkF, simprocAttr, e0, e2, e9, e10, e11, e4]
      refine imp_call md_31 (w31 w S H1 hown1 (by omega) _ ?_)
      rw [sorted_nxt hS]
      intro v K hd hvb hfr2 hln2
      have hK0 : ∀ i, i < H.length → K[i]? = H[i]? := fun i hi => by
        have hw : w.blk ≠ some i := fun e => by have := hwb i e; omega
        rw [hfr2 i hw, hfr1 i hw (by omega)]; exact hfr i hi
      have hKl : H.length ≤ K.length := by omega
      have hvb' : ∀ c, v.blk = some c → H.length ≤ c := fun c hc => hwb c (hvb c hc)
      have hj0 := h0 K hK0 hKl
      have hDl : (nxt L n).length ≤ L.length := stepL_len L [n]
      generalize nxt L n = D at *
      have hlv : ∀ (H' : Heap) (m : Nat), lenAV H' (3, m) v = some D.length := fun H' m => by
        rcases hd with ⟨rfl, rfl⟩ | ⟨b1, g1, ex, X, rfl, _⟩ <;> rfl
      unfold lenAV at hlv
      simp -implicitDefEqProofs -dsimp (disch := first | omega | (simp only [wkLen]; omega) | decide +kernel) only [↓wkPre, ↓wkPre2, ↓wkE, wkPost, wkDef, wkF, simprocAttr, e0, e2, e9, e10, e11, e4, hlv]
      refine loop_use extMono (fun m e Hd => ∃ i : Nat, m = D.length - i ∧ i ≤ D.length ∧ e 0 = .yld b ∧ e 28 = v ∧ e 29 = .p (I D.length) ∧ e 30 = .p (I i) ∧ J K (D.drop i) Hd) ?_ D.length _ _ ⟨0, rfl, by omega, ?_⟩
      · rintro m e Hd ⟨i, rfl, hi, e0, e28, e29, e30, hj⟩
        rcases Nat.lt_or_ge i D.length with h | h
        · rcases hd with ⟨_, rfl⟩ | ⟨b1, g1, ex, X, rfl, hb1, hX, hXl⟩
          · simp at h
          have hb1l := (List.getElem?_eq_some_iff.1 hb1).1
          have hb1' := (hJc K _ Hd hj b1 (hvb' b1 rfl) hb1l).trans hb1
          have hXi : i < X.length := by omega
          have gi := usL_get hXi
          have hxd : X[i] = D[i] := by
            have h1 : (X.take D.length)[i]? = D[i]? := by rw [hX]
            rw [List.getElem?_take, if_pos h, List.getElem?_eq_getElem hXi, List.getElem?_eq_getElem h] at h1
            exact Option.some.inj h1
          rw [hxd] at gi
          rw [List.drop_eq_getElem_cons h] at hj
          have hux := usL_len X
          simp -implicitDefEqProofs -dsimp (disch := first | omega | (simp only [wkLen]; omega) | decide +kernel) only [↓wkPre, ↓wkPre2, ↓wkE, wkPost, wkDef, wkF, simprocAttr, e0, e28, e29, e30, hb1', gi, hux]
          refine yield_mono (hstep K _ _ _ hj) ?_
          rintro x H2 ⟨c, rfl, k1, k2⟩
          cases c
          · simp -implicitDefEqProofs -dsimp (disch := first | omega | (simp only [wkLen]; omega) | decide +kernel) only [↓wkPre, ↓wkPre2, ↓wkE, wkPost, wkDef, wkF, simprocAttr, e0, e28, e29, e30]
            exact hF _ (k2 rfl)
          · simp -implicitDefEqProofs -dsimp (disch := first | omega | (simp only [wkLen]; omega) | decide +kernel) only [↓wkPre, ↓wkPre2, ↓wkE, wkPost, wkDef, wkF, simprocAttr, e0, e28, e29, e30]
            exact ⟨D.length - (i + 1), by omega, i + 1, rfl, by omega, by push_cast; rfl, k1 rfl⟩
        · obtain rfl : i = D.length := by omega
          rw [List.drop_length] at hj
          simp -implicitDefEqProofs -dsimp (disch := first | omega | (simp only [wkLen]; omega) | decide +kernel) only [↓wkPre, ↓wkPre2, ↓wkE, wkPost, wkDef, wkF, simprocAttr, e0, e28, e29, e30]
          exact hJ K _ hj
      · simp -implicitDefEqProofs -dsimp (disch := first | omega | (simp only [wkLen]; omega) | decide +kernel) only [↓wkPre, ↓wkPre2, ↓wkE, wkPost, wkDef, wkF, simprocAttr, e0]
        exact hj0
  · simp -implicitDefEqProofs -dsimp (disch := first | omega | (simp only [wkLen]; omega) | decide +kernel) only [↓wkPre, ↓wkPre2, ↓wkE, wkPost, wkDef, wkF, simprocAttr]
    exact ⟨OwnS.nil _ _, (fun c h => by cases h), fun _ _ => trivial, Nat.le_refl _⟩
end Go.Ev.F12
end
