/- A part of the proof: walks of the functions that the law calls. No condition. -/
import Derived.Test.YtjjgepnjkegjhaaSorts
set_option linter.all false
section
namespace Go.Ev.F23
open Go.Proofs Go.Ev Go.Sort
set_option maxRecDepth 100000
set_option linter.all false
theorem ext_call {C : Cfg} {X : Tr} {f : FuncId} {args : List AV} {H : Heap} {k : AV → Heap → Prop} {t : Tag k} {spec : List AV → Heap → (AV → Heap → Prop) → Prop} (hm : C.md f = .ext spec) (h : spec args H k) : evCallT C X f args H k t := by
  unfold evCallT evCall
  rw [hm]
  exact h
def aL (l : List Acc) : List PV := l.map EA
abbrev acs (l : List Acc) : PV := .sl 3 (aL l)
theorem aL_len (l : List Acc) : (aL l).length = l.length := by simp [aL]
theorem aL_get {l : List Acc} {i : Nat} (h : i < l.length) : (aL l)[i]? = some (.agg [.int .i64 l[i].1, .int .u64 l[i].2.1, .bool l[i].2.2]) := by simp [aL, h]
def iL (l : List Int) : List PV := l.map E
abbrev ins (l : List Int) : PV := .sl 0 (iL l)
theorem iL_len (l : List Int) : (iL l).length = l.length := by simp [iL]
theorem iL_get {l : List Int} {i : Nat} (h : i < l.length) : (iL l)[i]? = some (.int .i64 l[i]) := by simp [iL, h]
/-- Does the order of two accesses count? -/
def conf (a b : Acc) : Bool := (a.1 != b.1) && ((a.2.1 == b.2.1) && (a.2.2 || b.2.2))
theorem p22 (a b : Acc) : PS Cf okf 22 [4] [EA a, EA b] (fun r => r = B (conf a b)) := by
  refine PS.mk extMono Try.func22 body22 (by decide) rfl ?_
  simp only [c22, Try.f22, Option.getD_some]
  obtain ⟨a1, a2, a3⟩ := a
  obtain ⟨b1, b2, b3⟩ := b
  cases h1 : (a1 == b1)
  · cases h2 : (a2 == b2)
    · simp -implicitDefEqProofs -dsimp (disch := first | omega | (simp only [wkLen]; omega) | decide +kernel) only [↓wkPre, ↓wkPre2, ↓wkE, wkPost, wkDef, wkF, simprocAttr, h1, h2]
      simp [conf, h2]
    · cases a3
      · simp -implicitDefEqProofs -dsimp (disch := first | omega | (simp only [wkLen]; omega) | decide +kernel) only [↓wkPre, ↓wkPre2, ↓wkE, wkPost, wkDef, wkF, simprocAttr, h1, h2]
        simp only [conf, bne, h1, h2, Bool.not_false, Bool.true_and, Bool.false_or]
      · simp -implicitDefEqProofs -dsimp (disch := first | omega | (simp only [wkLen]; omega) | decide +kernel) only [↓wkPre, ↓wkPre2, ↓wkE, wkPost, wkDef, wkF, simprocAttr, h1, h2]
        simp [conf, bne, h1, h2]
  · simp -implicitDefEqProofs -dsimp (disch := first | omega | (simp only [wkLen]; omega) | decide +kernel) only [↓wkPre, ↓wkPre2, ↓wkE, wkPost, wkDef, wkF, simprocAttr, h1]
    simp [conf, bne, h1]
theorem aL_take {l : List Acc} {i : Nat} (h : i < l.length) : aL (l.take (i + 1)) = aL (l.take i) ++ [.agg [.int .i64 l[i].1, .int .u64 l[i].2.1, .bool l[i].2.2]] := by
  rw [List.take_succ_eq_append_getElem h]; simp only [aL, List.map_append, List.map_cons, List.map_nil]
theorem iL_snoc (l : List Int) (x : Int) : iL (l ++ [x]) = iL l ++ [.int .i64 x] := by simp [iL]
theorem aL_snoc (l : List Acc) (x : Acc) : aL (l ++ [x]) = aL l ++ [.agg [.int .i64 x.1, .int .u64 x.2.1, .bool x.2.2]] := by simp [aL]
theorem p8 (l : List Acc) (hl : l.length ≤ 1000000) : PS Cf okf 8 [24] [acs l] (fun r => r = acs l) := by
  refine PS.mk extMono Try.func8 body8 (by decide) rfl ?_
  simp only [c8, Try.f8, Option.getD_some]
  have hul := aL_len l
  simp -implicitDefEqProofs -dsimp (disch := first | omega | (simp only [wkLen]; omega) | decide +kernel) only [↓wkPre, ↓wkPre2, ↓wkE, wkPost, wkDef, wkF, simprocAttr]
  refine loop_use extMono (fun m e H => ∃ (i : Nat) (v : AV), m = l.length - i ∧ i ≤ l.length ∧ e 0 = .p (acs l) ∧ e 3 = v ∧ e 4 = .p (I i) ∧ OwnS H v 3 (aL (l.take i))) ?_ l.length _ _ ⟨0, .nsl, rfl, by omega, ?_⟩
  · rintro m e H ⟨i, v, rfl, hi, e0, e3, e4, hown⟩
    have hb : (aL (l.take i)).length ≤ l.length := by rw [aL_len, List.length_take]; omega
    rcases Nat.lt_or_ge i l.length with h | h
    · have gi := aL_get h
      simp -implicitDefEqProofs -dsimp (disch := first | omega | (simp only [wkLen]; omega) | decide +kernel) only [↓wkPre, ↓wkPre2, ↓wkE, wkPost, wkDef, wkF, simprocAttr, e0, e3, e4, hul, gi]
      refine append_step telem_24 (elems_new rfl rfl) (by simp) (hown.app _) ?_ ?_
      · rw [byt_45]; simp; omega
      intro w' H' hown' hfr hle hb'
      simp -implicitDefEqProofs -dsimp (disch := first | omega | (simp only [wkLen]; omega) | decide +kernel) only [↓wkPre, ↓wkPre2, ↓wkE, wkPost, wkDef, wkF, simprocAttr, e0, e3, e4]
      refine ⟨l.length - (i + 1), by omega, i + 1, w', rfl, by omega, rfl, by push_cast; rfl, ?_⟩
      rw [aL_take h]; exact hown'
    · obtain rfl : i = l.length := by omega
      rw [List.take_length] at hown
      have hfz := frz_own (P := Try.prog) (n := 4) telem_24 hown
      rcases hown with ⟨rfl, hx0⟩ | ⟨b, g, rfl, hb⟩
      · simp -implicitDefEqProofs -dsimp (disch := first | omega | (simp only [wkLen]; omega) | decide +kernel) only [↓wkPre, ↓wkPre2, ↓wkE, wkPost, wkDef, wkF, simprocAttr, e0, e3, e4, hul]
        show PV.sl 3 [] = .sl 3 (aL l)
        rw [hx0]
      · rw [hul] at hfz
        simp -implicitDefEqProofs -dsimp (disch := first | omega | (simp only [wkLen]; omega) | decide +kernel) only [↓wkPre, ↓wkPre2, ↓wkE, wkPost, wkDef, wkF, simprocAttr, e0, e3, e4, hul, hb]
        rw [hfz]; rfl
  · simp -implicitDefEqProofs -dsimp (disch := first | omega | (simp only [wkLen]; omega) | decide +kernel) only [↓wkPre, ↓wkPre2, ↓wkE, wkPost, wkDef, wkF, simprocAttr]
    exact OwnS.nil _ _
/-- Do two accesses put one ahead of another? -/
def hit (a b : Int) (x y : Acc) : Bool := (x.1 == a) && ((y.1 == b) && ((a != b) && ((x.2.1 == y.2.1) && (x.2.2 || y.2.2))))
def ahB (a b : Int) : List Acc → Bool
  | [] => false
  | x :: t => t.any (hit a b x) || ahB a b t
theorem ahB_drop {a b : Int} {l : List Acc} {i : Nat} (h : i < l.length) : ahB a b (l.drop i) = ((l.drop (i + 1)).any (hit a b l[i]) || ahB a b (l.drop (i + 1))) := by
  rw [List.drop_eq_getElem_cons h]; rfl
theorem any_drop {p : Acc → Bool} {l : List Acc} {i : Nat} (h : i < l.length) : (l.drop i).any p = (p l[i] || (l.drop (i + 1)).any p) := by
  rw [List.drop_eq_getElem_cons h]; rfl
theorem p13 (l : List Acc) (a b : Int) (hl : l.length ≤ 1000000) : PS Cf okf 13 [4] [acs l, I a, I b] (fun r => r = B (ahB a b l)) := by
  refine PS.mk extMono Try.func13 body13 (by decide) rfl ?_
  simp only [c13, Try.f13, Option.getD_some]
  have hul := aL_len l
  simp -implicitDefEqProofs -dsimp (disch := first | omega | (simp only [wkLen]; omega) | decide +kernel) only [↓wkPre, ↓wkPre2, ↓wkE, wkPost, wkDef, wkF, simprocAttr]
  refine loop_use extMono (fun m e H => ∃ i : Nat, m = l.length - i ∧ i ≤ l.length ∧ e 0 = .p (acs l) ∧ e 1 = .p (I a) ∧ e 2 = .p (I b) ∧ e 7 = .p (I i) ∧ ahB a b l = ahB a b (l.drop i)) ?_ l.length _ _ ⟨0, rfl, by omega, ?_⟩
  · rintro m e H ⟨i, rfl, hi, e0, e1, e2, e7, hn⟩
    rcases Nat.lt_or_ge i l.length with h | h
    · have gi := aL_get h
      rw [ahB_drop h] at hn
      simp -implicitDefEqProofs -dsimp (disch := first | omega | (simp only [wkLen]; omega) | decide +kernel) only [↓wkPre, ↓wkPre2, ↓wkE, wkPost, wkDef, wkF, simprocAttr, e0, e1, e2, e7, hul]
      refine loop_use extMono (fun m e H => ∃ k : Nat, m = l.length - k ∧ i < k ∧ k ≤ l.length ∧ e 0 = .p (acs l) ∧ e 1 = .p (I a) ∧ e 2 = .p (I b) ∧ e 7 = .p (I i) ∧ e 8 = .p (I k) ∧ (l.drop (i + 1)).any (hit a b l[i]) = (l.drop k).any (hit a b l[i])) ?_ (l.length - (i + 1)) _ _ ⟨i + 1, rfl, by omega, by omega, ?_⟩
      · rintro m e H ⟨k, rfl, hik, hk, e0, e1, e2, e7, e8, hn2⟩
        rcases Nat.lt_or_ge k l.length with h2 | h2
        · have gk := aL_get h2
          rw [any_drop h2] at hn2
          have next : hit a b l[i] l[k] = false → (l.drop (i + 1)).any (hit a b l[i]) = (l.drop (k + 1)).any (hit a b l[i]) := fun h9 => by rw [hn2, h9, Bool.false_or]
          have yes : hit a b l[i] l[k] = true → ahB a b l = true := fun h9 => by rw [hn, hn2, h9]; rfl
          unfold hit at next yes
          cases h1 : (l[i].1 == a)
          · simp -implicitDefEqProofs -dsimp (disch := first | omega | (simp only [wkLen]; omega) | decide +kernel) only [↓wkPre, ↓wkPre2, ↓wkE, wkPost, wkDef, wkF, simprocAttr, e0, e1, e2, e7, e8, hul, gi, gk, h1]
            exact ⟨l.length - (k + 1), by omega, k + 1, rfl, by omega, by omega, by push_cast; rfl, next (by simp [h1])⟩
          cases h3 : (l[k].1 == b)
          · simp -implicitDefEqProofs -dsimp (disch := first | omega | (simp only [wkLen]; omega) | decide +kernel) only [↓wkPre, ↓wkPre2, ↓wkE, wkPost, wkDef, wkF, simprocAttr, e0, e1, e2, e7, e8, hul, gi, gk, h1, h3]
            exact ⟨l.length - (k + 1), by omega, k + 1, rfl, by omega, by omega, by push_cast; rfl, next (by simp [h3])⟩
          cases h4 : (a == b)
          · cases h5 : (l[i].2.1 == l[k].2.1)
            · simp -implicitDefEqProofs -dsimp (disch := first | omega | (simp only [wkLen]; omega) | decide +kernel) only [↓wkPre, ↓wkPre2, ↓wkE, wkPost, wkDef, wkF, simprocAttr, e0, e1, e2, e7, e8, hul, gi, gk, h1, h3, h4, h5]
              exact ⟨l.length - (k + 1), by omega, k + 1, rfl, by omega, by omega, by push_cast; rfl, next (by simp [h5])⟩
            cases h6 : l[i].2.2
            · cases h7 : l[k].2.2
              · simp -implicitDefEqProofs -dsimp (disch := first | omega | (simp only [wkLen]; omega) | decide +kernel) only [↓wkPre, ↓wkPre2, ↓wkE, wkPost, wkDef, wkF, simprocAttr, e0, e1, e2, e7, e8, hul, gi, gk, h1, h3, h4, h5, h6, h7]
                exact ⟨l.length - (k + 1), by omega, k + 1, rfl, by omega, by omega, by push_cast; rfl, next (by simp [h6, h7])⟩
              · simp -implicitDefEqProofs -dsimp (disch := first | omega | (simp only [wkLen]; omega) | decide +kernel) only [↓wkPre, ↓wkPre2, ↓wkE, wkPost, wkDef, wkF, simprocAttr, e0, e1, e2, e7, e8, hul, gi, gk, h1, h3, h4, h5, h6, h7]
                rw [yes (by simp only [bne, h1, h3, h4, h5, h6, h7]; rfl)]
            · simp -implicitDefEqProofs -dsimp (disch := first | omega | (simp only [wkLen]; omega) | decide +kernel) only [↓wkPre, ↓wkPre2, ↓wkE, wkPost, wkDef, wkF, simprocAttr, e0, e1, e2, e7, e8, hul, gi, gk, h1, h3, h4, h5, h6]
              rw [yes (by simp only [bne, h1, h3, h4, h5, h6]; rfl)]
          · simp -implicitDefEqProofs -dsimp (disch := first | omega | (simp only [wkLen]; omega) | decide +kernel) only [↓wkPre, ↓wkPre2, ↓wkE, wkPost, wkDef, wkF, simprocAttr, e0, e1, e2, e7, e8, hul, gi, gk, h1, h3, h4]
            exact ⟨l.length - (k + 1), by omega, k + 1, rfl, by omega, by omega, by push_cast; rfl, next (by simp [bne, h4])⟩
        · obtain rfl : k = l.length := by omega
          rw [List.drop_length] at hn2
          simp -implicitDefEqProofs -dsimp (disch := first | omega | (simp only [wkLen]; omega) | decide +kernel) only [↓wkPre, ↓wkPre2, ↓wkE, wkPost, wkDef, wkF, simprocAttr, e0, e1, e2, e7, e8, hul]
          refine ⟨l.length - (i + 1), by omega, i + 1, rfl, by omega, by push_cast; rfl, ?_⟩
          rw [hn, hn2]; rfl
      · simp -implicitDefEqProofs -dsimp (disch := first | omega | (simp only [wkLen]; omega) | decide +kernel) only [↓wkPre, ↓wkPre2, ↓wkE, wkPost, wkDef, wkF, simprocAttr]
        exact ⟨e0, e1, e2, e7, by push_cast; rfl⟩
    · obtain rfl : i = l.length := by omega
      rw [List.drop_length] at hn
      simp -implicitDefEqProofs -dsimp (disch := first | omega | (simp only [wkLen]; omega) | decide +kernel) only [↓wkPre, ↓wkPre2, ↓wkE, wkPost, wkDef, wkF, simprocAttr, e0, e1, e2, e7, hul]
      rw [hn]; rfl
  · simp -implicitDefEqProofs -dsimp (disch := first | omega | (simp only [wkLen]; omega) | decide +kernel) only [↓wkPre, ↓wkPre2, ↓wkE, wkPost, wkDef, wkF, simprocAttr]
end Go.Ev.F23
end
section
namespace Go.Ev.F23
open Go.Proofs Go.Ev Go.Sort
set_option maxRecDepth 100000
set_option linter.all false
/-- Where the write of a key stands ahead of a place. -/
def srcA (l : List Acc) (k : Int) : Nat → Int
  | 0 => -1
  | n + 1 => if l[n]!.2.2 && l[n]!.2.1 == k then (n : Int) else srcA l k n
theorem p19 (l : List Acc) (a : Nat) (ha : a < l.length) (hl : l.length ≤ 1000000) : PS Cf okf 19 [3] [acs l, I a] (fun r => r = I (srcA l l[a].2.1 a)) := by
  refine PS.mk extMono Try.func19 body19 (by decide) rfl ?_
  simp only [c19, Try.f19, Option.getD_some]
  have hul := aL_len l
  have ga := aL_get ha
  simp -implicitDefEqProofs -dsimp (disch := first | omega | (simp only [wkLen]; omega) | decide +kernel) only [↓wkPre, ↓wkPre2, ↓wkE, wkPost, wkDef, wkF, simprocAttr]
  refine loop_use extMono (fun m e H => ∃ i : Nat, m = i ∧ i ≤ a ∧ e 0 = .p (acs l) ∧ e 1 = .p (I a) ∧ e 5 = .p (I ((i : Int) - 1)) ∧ srcA l l[a].2.1 a = srcA l l[a].2.1 i) ?_ a _ _ ⟨a, rfl, by omega, ?_⟩
  · rintro m e H ⟨i, rfl, hi, e0, e1, e5, hn⟩
    cases m with
    | zero =>
      simp -implicitDefEqProofs -dsimp (disch := first | omega | (simp only [wkLen]; omega) | decide +kernel) only [↓wkPre, ↓wkPre2, ↓wkE, wkPost, wkDef, wkF, simprocAttr, e0, e1, e5, hul, ga]
      rw [hn]; rfl
    | succ n =>
      have h : n < l.length := by omega
      have gi := aL_get h
      rw [show ((n + 1 : Nat) : Int) - 1 = (n : Int) by omega] at e5
      have hg : l[n]! = l[n] := getElem!_pos l n h
      simp only [srcA, hg] at hn
      cases h1 : l[n].2.2
      · simp -implicitDefEqProofs -dsimp (disch := first | omega | (simp only [wkLen]; omega) | decide +kernel) only [↓wkPre, ↓wkPre2, ↓wkE, wkPost, wkDef, wkF, simprocAttr, e0, e1, e5, hul, ga, gi, h1]
        exact ⟨n, by omega, n, rfl, by omega, rfl, by rw [hn, h1]; rfl⟩
      · cases h2 : (l[n].2.1 == l[a].2.1)
        · simp -implicitDefEqProofs -dsimp (disch := first | omega | (simp only [wkLen]; omega) | decide +kernel) only [↓wkPre, ↓wkPre2, ↓wkE, wkPost, wkDef, wkF, simprocAttr, e0, e1, e5, hul, ga, gi, h1, h2]
          exact ⟨n, by omega, n, rfl, by omega, rfl, by rw [hn, h1, h2]; rfl⟩
        · simp -implicitDefEqProofs -dsimp (disch := first | omega | (simp only [wkLen]; omega) | decide +kernel) only [↓wkPre, ↓wkPre2, ↓wkE, wkPost, wkDef, wkF, simprocAttr, e0, e1, e5, hul, ga, gi, h1, h2]
          rw [hn, h1, h2]; rfl
  · simp -implicitDefEqProofs -dsimp (disch := first | omega | (simp only [wkLen]; omega) | decide +kernel) only [↓wkPre, ↓wkPre2, ↓wkE, wkPost, wkDef, wkF, simprocAttr]
def nthA (l : List Acc) (x : Acc) (n : Nat) : Nat := ((l.take n).filter (· == x)).length
theorem nthA_succ {l : List Acc} {x : Acc} {n : Nat} (h : n < l.length) : nthA l x (n + 1) = nthA l x n + if l[n] = x then 1 else 0 := by
  unfold nthA
  rw [List.take_succ_eq_append_getElem h, List.filter_append, List.length_append]
  by_cases hx : l[n] = x <;> simp [hx]
theorem nthA_le (l : List Acc) (x : Acc) (n : Nat) : nthA l x n ≤ n := Nat.le_trans (List.length_filter_le _ _) (by rw [List.length_take]; omega)
theorem p20 (l : List Acc) (a : Nat) (ha : a < l.length) (hl : l.length ≤ 1000000) : PS Cf okf 20 [3] [acs l, I a] (fun r => r = I (nthA l l[a] (a + 1))) := by
  refine PS.mk extMono Try.func20 body20 (by decide) rfl ?_
  simp only [c20, Try.f20, Option.getD_some]
  have hul := aL_len l
  have ga := aL_get ha
  simp -implicitDefEqProofs -dsimp (disch := first | omega | (simp only [wkLen]; omega) | decide +kernel) only [↓wkPre, ↓wkPre2, ↓wkE, wkPost, wkDef, wkF, simprocAttr]
  refine loop_use extMono (fun m e H => ∃ i : Nat, m = a + 1 - i ∧ i ≤ a + 1 ∧ e 0 = .p (acs l) ∧ e 1 = .p (I a) ∧ e 5 = .p (I (nthA l l[a] i)) ∧ e 6 = .p (I i)) ?_ (a + 1) _ _ ⟨0, rfl, by omega, ?_⟩
  · rintro m e H ⟨i, rfl, hi, e0, e1, e5, e6⟩
    have hb := nthA_le l l[a] i
    rcases Nat.lt_or_ge i (a + 1) with h | h
    · have gi := aL_get (l := l) (i := i) (by omega)
      have hs := nthA_succ (l := l) (x := l[a]) (n := i) (by omega)
      by_cases hc : l[i] = l[a]
      · rw [if_pos hc] at hs
        have c1 : (l[i].1 == l[a].1) = true := by rw [hc]; simp
        have c2 : (l[i].2.1 == l[a].2.1) = true := by rw [hc]; simp
        have c3 : (l[i].2.2 == l[a].2.2) = true := by rw [hc]; simp
        simp -implicitDefEqProofs -dsimp (disch := first | omega | (simp only [wkLen]; omega) | decide +kernel) only [↓wkPre, ↓wkPre2, ↓wkE, wkPost, wkDef, wkF, simprocAttr, e0, e1, e5, e6, hul, ga, gi, c1, c2, c3]
        exact ⟨a + 1 - (i + 1), by omega, i + 1, rfl, by omega, by rw [hs]; push_cast; rfl, by push_cast; rfl⟩
      · rw [if_neg hc] at hs
        have fin : ∃ m, m < a + 1 - i ∧ ∃ i_1, m = a + 1 - i_1 ∧ i_1 ≤ a + 1 ∧ AV.p (PV.int IntKind.i64 (nthA l l[a] i)) = AV.p (I ↑(nthA l l[a] i_1)) ∧ AV.p (PV.int IntKind.i64 (↑i + 1)) = AV.p (I ↑i_1) :=
          ⟨a + 1 - (i + 1), by omega, i + 1, rfl, by omega, by rw [hs]; rfl, by push_cast; rfl⟩
        cases c1 : (l[i].1 == l[a].1)
        · simp -implicitDefEqProofs -dsimp (disch := first | omega | (simp only [wkLen]; omega) | decide +kernel) only [↓wkPre, ↓wkPre2, ↓wkE, wkPost, wkDef, wkF, simprocAttr, e0, e1, e5, e6, hul, ga, gi, c1]
          exact fin
        cases c2 : (l[i].2.1 == l[a].2.1)
        · simp -implicitDefEqProofs -dsimp (disch := first | omega | (simp only [wkLen]; omega) | decide +kernel) only [↓wkPre, ↓wkPre2, ↓wkE, wkPost, wkDef, wkF, simprocAttr, e0, e1, e5, e6, hul, ga, gi, c1, c2]
          exact fin
        cases c3 : (l[i].2.2 == l[a].2.2)
        · simp -implicitDefEqProofs -dsimp (disch := first | omega | (simp only [wkLen]; omega) | decide +kernel) only [↓wkPre, ↓wkPre2, ↓wkE, wkPost, wkDef, wkF, simprocAttr, e0, e1, e5, e6, hul, ga, gi, c1, c2, c3]
          exact fin
        exact absurd (Prod.ext (eq_of_beq c1) (Prod.ext (eq_of_beq c2) (eq_of_beq c3))) hc
    · obtain rfl : i = a + 1 := by omega
      simp -implicitDefEqProofs -dsimp (disch := first | omega | (simp only [wkLen]; omega) | decide +kernel) only [↓wkPre, ↓wkPre2, ↓wkE, wkPost, wkDef, wkF, simprocAttr, e0, e1, e5, e6, hul]
  · simp -implicitDefEqProofs -dsimp (disch := first | omega | (simp only [wkLen]; omega) | decide +kernel) only [↓wkPre, ↓wkPre2, ↓wkE, wkPost, wkDef, wkF, simprocAttr]
    rfl
end Go.Ev.F23
end
section
namespace Go.Ev.F23
open Go.Proofs Go.Ev Go.Sort
set_option maxRecDepth 100000
set_option linter.all false
/-- A slice of numbers that is read: nil, or the beginning of a row. -/
def LF (H : Heap) (v : AV) (l : List Int) : Prop := (v = .nsl ∧ l = []) ∨ ∃ b g ex lv zs, v = .ref b g 0 l.length ex ∧ H[b]? = some (.arr lv g 0 (iL l ++ zs))
/-- A heap that has grown. -/
def GE (H H' : Heap) : Prop := H.length ≤ H'.length ∧ ∀ i, i < H.length → H'[i]? = H[i]?
theorem GE.refl (H : Heap) : GE H H := ⟨Nat.le_refl _, fun _ _ => rfl⟩
theorem GE.trans {A B C : Heap} (h : GE A B) (k : GE B C) : GE A C := ⟨Nat.le_trans h.1 k.1, fun i hi => (k.2 i (by have := h.1; omega)).trans (h.2 i hi)⟩
theorem GE.app (H l : Heap) : GE H (H ++ l) := ⟨by simp, fun i hi => hs_app hi⟩
theorem GE.appr {A B : Heap} (h : GE A B) (l : Heap) : GE A (B ++ l) := h.trans (GE.app B l)
theorem GE.at {H H' : Heap} (h : GE H H') {i : Nat} {x : Blk} (hx : H[i]? = some x) : H'[i]? = some x := (h.2 i (List.getElem?_eq_some_iff.1 hx).1).trans hx
theorem LF.ge {H H' : Heap} {v : AV} {l : List Int} (h : LF H v l) (k : GE H H') : LF H' v l := by
  rcases h with h | ⟨b, g, ex, lv, zs, h1, h2⟩
  · exact .inl h
  · exact .inr ⟨b, g, ex, lv, zs, h1, k.at h2⟩
theorem LF.shape {H : Heap} {v : AV} {l : List Int} (h : LF H v l) : v.shape = 0 ∧ v.isU = false ∧ v.stor = true := by
  rcases h with ⟨rfl, _⟩ | ⟨b, g, ex, lv, zs, rfl, _⟩ <;> exact ⟨rfl, rfl, rfl⟩
theorem pre_get {l : List Int} {zs : List PV} {i : Nat} (h : i < l.length) : (iL l ++ zs)[i]? = some (.int .i64 l[i]) := by
  rw [List.getElem?_append_left (by rw [iL_len]; exact h)]; exact iL_get h
/-- slices.Index. -/
theorem w46 {v : AV} {l : List Int} (x : Int) {H : Heap} (h0 : LF H v l) (hl : l.length ≤ 1000000) (Q : AV → Heap → Prop)
    (hq : ∀ r : Int, decide (0 ≤ r) = decide (x ∈ l) → Q (.p (I r)) H) : (W Cf okf).call 46 [v, .p (I x)] H Q := by
  refine top_mk extMono Try.func46 body46 (by decide) rfl ?_
  simp only [c46, Try.f46, Option.getD_some]
  have hul := iL_len l
  rcases h0 with ⟨rfl, rfl⟩ | ⟨b, g, ex, lv, zs, rfl, hb⟩
  · simp -implicitDefEqProofs -dsimp (disch := first | omega | (simp only [wkLen]; omega) | decide +kernel) only [↓wkPre, ↓wkPre2, ↓wkE, wkPost, wkDef, wkF, simprocAttr]
    refine loop_use extMono (fun m e Hc => Hc = H ∧ e 7 = .p (I 0) ∧ e 8 = .p (I 0)) ?_ 0 _ _ ⟨rfl, ?_⟩
    · rintro m e Hc ⟨rfl, e7, e8⟩
      simp -implicitDefEqProofs -dsimp (disch := first | omega | (simp only [wkLen]; omega) | decide +kernel) only [↓wkPre, ↓wkPre2, ↓wkE, wkPost, wkDef, wkF, simprocAttr, e7, e8]
      exact hq _ rfl
    · simp -implicitDefEqProofs -dsimp (disch := first | omega | (simp only [wkLen]; omega) | decide +kernel) only [↓wkPre, ↓wkPre2, ↓wkE, wkPost, wkDef, wkF, simprocAttr]
  · simp -implicitDefEqProofs -dsimp (disch := first | omega | (simp only [wkLen]; omega) | decide +kernel) only [↓wkPre, ↓wkPre2, ↓wkE, wkPost, wkDef, wkF, simprocAttr]
    refine loop_use extMono (fun m e Hc => ∃ i : Nat, m = l.length - i ∧ i ≤ l.length ∧ Hc = H ∧ e 0 = .ref b g 0 l.length ex ∧ e 1 = .p (I x) ∧ e 7 = .p (I l.length) ∧ e 8 = .p (I i) ∧ x ∉ l.take i) ?_ l.length _ _ ⟨0, rfl, by omega, rfl, ?_⟩
    · rintro m e Hc ⟨i, rfl, hi, rfl, e0, e1, e7, e8, hn⟩
      rcases Nat.lt_or_ge i l.length with h | h
      · have gi := pre_get (zs := zs) h
        have hln : (iL l ++ zs).length = l.length + zs.length := by rw [List.length_append, hul]
        cases hc : (x == l[i])
        · simp -implicitDefEqProofs -dsimp (disch := first | omega | (simp only [wkLen]; omega) | decide +kernel) only [↓wkPre, ↓wkPre2, ↓wkE, wkPost, wkDef, wkF, simprocAttr, e0, e1, e7, e8, hb, gi, hln, hc]
          refine ⟨l.length - (i + 1), by omega, i + 1, rfl, by omega, by push_cast; rfl, ?_⟩
          rw [List.take_succ_eq_append_getElem h]
          simp at hc
          simp only [List.mem_append, List.mem_singleton, not_or]
          exact ⟨hn, hc⟩
        · simp -implicitDefEqProofs -dsimp (disch := first | omega | (simp only [wkLen]; omega) | decide +kernel) only [↓wkPre, ↓wkPre2, ↓wkE, wkPost, wkDef, wkF, simprocAttr, e0, e1, e7, e8, hb, gi, hln, hc]
          refine hq _ ?_
          have hm : x ∈ l := by simp at hc; rw [hc]; simp
          simp [hm]
      · obtain rfl : i = l.length := by omega
        rw [List.take_length] at hn
        simp -implicitDefEqProofs -dsimp (disch := first | omega | (simp only [wkLen]; omega) | decide +kernel) only [↓wkPre, ↓wkPre2, ↓wkE, wkPost, wkDef, wkF, simprocAttr, e0, e1, e7, e8]
        exact hq _ (by simp [hn])
    · simp -implicitDefEqProofs -dsimp (disch := first | omega | (simp only [wkLen]; omega) | decide +kernel) only [↓wkPre, ↓wkPre2, ↓wkE, wkPost, wkDef, wkF, simprocAttr]
      simp
/-- slices.Contains. -/
theorem w29 {v : AV} {l : List Int} (x : Int) {H : Heap} (h0 : LF H v l) (hl : l.length ≤ 1000000) (Q : AV → Heap → Prop)
    (hq : Q (.p (B (decide (x ∈ l)))) H) : (W Cf okf).call 29 [v, .p (I x)] H Q := by
  refine top_mk extMono Try.func29 body29 (by decide) rfl ?_
  simp only [c29, Try.f29, Option.getD_some]
  have fin : ∀ r : Int, decide (0 ≤ r) = decide (x ∈ l) → Q (.p (B (decide (0 ≤ r)))) H := fun r h => by rw [h]; exact hq
  rcases h0 with ⟨rfl, rfl⟩ | ⟨b, g, ex, lv, zs, rfl, hb⟩
  · simp -implicitDefEqProofs -dsimp (disch := first | omega | (simp only [wkLen]; omega) | decide +kernel) only [↓wkPre, ↓wkPre2, ↓wkE, wkPost, wkDef, wkF, simprocAttr]
    refine imp_call md_46 (w46 x (.inl ⟨rfl, rfl⟩) hl _ fun r hr => ?_)
    simp -implicitDefEqProofs -dsimp (disch := first | omega | (simp only [wkLen]; omega) | decide +kernel) only [↓wkPre, ↓wkPre2, ↓wkE, wkPost, wkDef, wkF, simprocAttr]
    exact fin r hr
  · simp -implicitDefEqProofs -dsimp (disch := first | omega | (simp only [wkLen]; omega) | decide +kernel) only [↓wkPre, ↓wkPre2, ↓wkE, wkPost, wkDef, wkF, simprocAttr]
    refine imp_call md_46 (w46 x (.inr ⟨b, g, ex, lv, zs, rfl, hb⟩) hl _ fun r hr => ?_)
    simp -implicitDefEqProofs -dsimp (disch := first | omega | (simp only [wkLen]; omega) | decide +kernel) only [↓wkPre, ↓wkPre2, ↓wkE, wkPost, wkDef, wkF, simprocAttr]
    exact fin r hr
/-- The arcs that are told. -/
def rL (l : List Arc) : List PV := l.map ER
abbrev rcs (l : List Arc) : PV := .sl 2 (rL l)
theorem rL_len (l : List Arc) : (rL l).length = l.length := by simp [rL]
theorem rL_get {l : List Arc} {i : Nat} (h : i < l.length) : (rL l)[i]? = some (.agg [.int .i64 l[i].1, .int .i64 l[i].2]) := by simp [rL, h]
def bar (who : Int) (l : List Int) (a : Arc) : Bool := a.2 == who && decide (a.1 ∈ l)
theorem w28 (a : Arc) (who : Int) {cw cl : Nat} {t1 t2 : Bool} {v : AV} {l : List Int} {H : Heap} (hw : H[cw]? = some (.var t1 (.p (I who)))) (hv : H[cl]? = some (.var t2 v)) (h0 : LF H v l) (hl : l.length ≤ 1000000) (Q : AV → Heap → Prop)
    (hq : ∀ H', GE H H' → Q (.p (B (bar who l a))) H') : (W Cf okf).call 28 [.p (ER a), .vptr cw 0, .vptr cl 0] H Q := by
  refine top_mk extMono Try.func28 body28 (by decide) rfl ?_
  simp only [c28, Try.f28, Option.getD_some]
  have hwl := (List.getElem?_eq_some_iff.1 hw).1
  have hvl := (List.getElem?_eq_some_iff.1 hv).1
  cases hc : (a.2 == who)
  · simp -implicitDefEqProofs -dsimp (disch := first | omega | (simp only [wkLen]; omega) | decide +kernel) only [↓wkPre, ↓wkPre2, ↓wkE, wkPost, wkDef, wkF, simprocAttr, hw, hv, hc]
    have := hq (H ++ [.var true (.p (ER a))]) (GE.app _ _)
    simpa [bar, hc] using this
  · have hsh := h0.shape
    simp -implicitDefEqProofs -dsimp (disch := first | omega | (simp only [wkLen]; omega) | decide +kernel) only [↓wkPre, ↓wkPre2, ↓wkE, wkPost, wkDef, wkF, simprocAttr, hw, hv, hc, hsh.1, hsh.2.1, hsh.2.2]
    refine imp_call md_29 (w29 a.1 (h0.ge (GE.app _ _)) hl _ ?_)
    simp -implicitDefEqProofs -dsimp (disch := first | omega | (simp only [wkLen]; omega) | decide +kernel) only [↓wkPre, ↓wkPre2, ↓wkE, wkPost, wkDef, wkF, simprocAttr]
    have := hq (H ++ [.var true (.p (ER a))]) (GE.app _ _)
    simpa [bar, hc] using this
/-- slices.IndexFunc of arcs. -/
theorem w45 (L : List Arc) (who : Int) {cw cl : Nat} {t1 t2 : Bool} {v : AV} {l : List Int} {H : Heap} (hw : H[cw]? = some (.var t1 (.p (I who)))) (hv : H[cl]? = some (.var t2 v)) (h0 : LF H v l) (hl : l.length ≤ 1000000) (hL : L.length ≤ 1000000) (Q : AV → Heap → Prop)
    (hq : ∀ (r : Int) H', GE H H' → decide (0 ≤ r) = L.any (bar who l) → Q (.p (I r)) H') : (W Cf okf).call 45 [.p (rcs L), .fn 28 [.vptr cw 0, .vptr cl 0]] H Q := by
  refine top_mk extMono Try.func45 body45 (by decide) rfl ?_
  simp only [c45, Try.f45, Option.getD_some]
  have hul := rL_len L
  simp -implicitDefEqProofs -dsimp (disch := first | omega | (simp only [wkLen]; omega) | decide +kernel) only [↓wkPre, ↓wkPre2, ↓wkE, wkPost, wkDef, wkF, simprocAttr]
  refine loop_use extMono (fun m e Hc => ∃ i : Nat, m = L.length - i ∧ i ≤ L.length ∧ GE H Hc ∧ e 0 = .p (rcs L) ∧ e 1 = .fn 28 [.vptr cw 0, .vptr cl 0] ∧ e 7 = .p (I L.length) ∧ e 8 = .p (I i) ∧ L.any (bar who l) = (L.drop i).any (bar who l)) ?_ L.length _ _ ⟨0, rfl, by omega, GE.refl _, ?_⟩
  · rintro m e Hc ⟨i, rfl, hi, hge, e0, e1, e7, e8, hn⟩
    rcases Nat.lt_or_ge i L.length with h | h
    · have gi := rL_get h
      rw [List.drop_eq_getElem_cons h, List.any_cons] at hn
      simp -implicitDefEqProofs -dsimp (disch := first | omega | (simp only [wkLen]; omega) | decide +kernel) only [↓wkPre, ↓wkPre2, ↓wkE, wkPost, wkDef, wkF, simprocAttr, e0, e1, e7, e8, gi, hul]
      refine imp_call md_28 (w28 L[i] who (hge.at hw) (hge.at hv) (h0.ge hge) hl _ fun H' hg' => ?_)
      cases hc : bar who l L[i]
      · simp -implicitDefEqProofs -dsimp (disch := first | omega | (simp only [wkLen]; omega) | decide +kernel) only [↓wkPre, ↓wkPre2, ↓wkE, wkPost, wkDef, wkF, simprocAttr, e0, e1, e7, e8]
        exact ⟨L.length - (i + 1), by omega, i + 1, rfl, by omega, hge.trans hg', by push_cast; rfl, by rw [hn, hc]; rfl⟩
      · simp -implicitDefEqProofs -dsimp (disch := first | omega | (simp only [wkLen]; omega) | decide +kernel) only [↓wkPre, ↓wkPre2, ↓wkE, wkPost, wkDef, wkF, simprocAttr, e0, e1, e7, e8]
        refine hq _ _ (hge.trans hg') ?_
        rw [hn, hc]
        simp
    · obtain rfl : i = L.length := by omega
      rw [List.drop_length] at hn
      simp -implicitDefEqProofs -dsimp (disch := first | omega | (simp only [wkLen]; omega) | decide +kernel) only [↓wkPre, ↓wkPre2, ↓wkE, wkPost, wkDef, wkF, simprocAttr, e0, e1, e7, e8]
      exact hq _ _ hge (by rw [hn]; rfl)
  · simp -implicitDefEqProofs -dsimp (disch := first | omega | (simp only [wkLen]; omega) | decide +kernel) only [↓wkPre, ↓wkPre2, ↓wkE, wkPost, wkDef, wkF, simprocAttr]
    rw [hul]
/-- slices.ContainsFunc of arcs. -/
theorem w27 (L : List Arc) (who : Int) {cw cl : Nat} {t1 t2 : Bool} {v : AV} {l : List Int} {H : Heap} (hw : H[cw]? = some (.var t1 (.p (I who)))) (hv : H[cl]? = some (.var t2 v)) (h0 : LF H v l) (hl : l.length ≤ 1000000) (hL : L.length ≤ 1000000) (Q : AV → Heap → Prop)
    (hq : ∀ H', GE H H' → Q (.p (B (L.any (bar who l)))) H') : (W Cf okf).call 27 [.p (rcs L), .fn 28 [.vptr cw 0, .vptr cl 0]] H Q := by
  refine top_mk extMono Try.func27 body27 (by decide) rfl ?_
  simp only [c27, Try.f27, Option.getD_some]
  simp -implicitDefEqProofs -dsimp (disch := first | omega | (simp only [wkLen]; omega) | decide +kernel) only [↓wkPre, ↓wkPre2, ↓wkE, wkPost, wkDef, wkF, simprocAttr]
  refine imp_call md_45 (w45 L who hw hv h0 hl hL _ fun r H' hg hr => ?_)
  simp -implicitDefEqProofs -dsimp (disch := first | omega | (simp only [wkLen]; omega) | decide +kernel) only [↓wkPre, ↓wkPre2, ↓wkE, wkPost, wkDef, wkF, simprocAttr]
  have := hq H' hg
  rw [← hr] at this
  exact this
/-- free: nobody who is left comes ahead of somebody. -/
theorem w26 (L : List Arc) (who : Int) {ca cl : Nat} {t1 t2 : Bool} {v : AV} {l : List Int} {H : Heap} (ha : H[ca]? = some (.var t1 (.p (rcs L)))) (hv : H[cl]? = some (.var t2 v)) (h0 : LF H v l) (hl : l.length ≤ 1000000) (hL : L.length ≤ 1000000) (Q : AV → Heap → Prop)
    (hq : ∀ H', GE H H' → Q (.p (B (!L.any (bar who l)))) H') : (W Cf okf).call 26 [.p (I who), .vptr ca 0, .vptr cl 0] H Q := by
  refine top_mk extMono Try.func26 body26 (by decide) rfl ?_
  simp only [c26, Try.f26, Option.getD_some]
  have hal := (List.getElem?_eq_some_iff.1 ha).1
  have hvl := (List.getElem?_eq_some_iff.1 hv).1
  simp -implicitDefEqProofs -dsimp (disch := first | omega | (simp only [wkLen]; omega) | decide +kernel) only [↓wkPre, ↓wkPre2, ↓wkE, wkPost, wkDef, wkF, simprocAttr, ha]
  have hg := GE.app H [.var true (.p (I who))]
  refine imp_call md_27 (w27 L who (by simp; rfl) (hg.at hv) (h0.ge hg) hl hL _ fun H' hg' => ?_)
  simp -implicitDefEqProofs -dsimp (disch := first | omega | (simp only [wkLen]; omega) | decide +kernel) only [↓wkPre, ↓wkPre2, ↓wkE, wkPost, wkDef, wkF, simprocAttr]
  exact hq H' (hg.trans hg')
/-- slices.IndexFunc of numbers: the first that is free. -/
def frI (L : List Arc) (l : List Int) : List Int → Int → Int
  | [], _ => -1
  | x :: t, n => if L.any (bar x l) then frI L l t (n + 1) else n
theorem w30 (L : List Arc) {ca cl : Nat} {t1 t2 : Bool} {v : AV} {l : List Int} {H : Heap} (ha : H[ca]? = some (.var t1 (.p (rcs L)))) (hv : H[cl]? = some (.var t2 v)) (h0 : LF H v l) (hl : l.length ≤ 1000000) (hL : L.length ≤ 1000000) (hne : l ≠ []) (Q : AV → Heap → Prop)
    (hq : ∀ H', GE H H' → Q (.p (I (frI L l l 0))) H') : (W Cf okf).call 30 [v, .fn 26 [.vptr ca 0, .vptr cl 0]] H Q := by
  refine top_mk extMono Try.func30 body30 (by decide) rfl ?_
  simp only [c30, Try.f30, Option.getD_some]
  have hul := iL_len l
  rcases id h0 with ⟨_, h⟩ | ⟨b, g, ex, lv, zs, rfl, hb⟩
  · exact absurd h hne
  simp -implicitDefEqProofs -dsimp (disch := first | omega | (simp only [wkLen]; omega) | decide +kernel) only [↓wkPre, ↓wkPre2, ↓wkE, wkPost, wkDef, wkF, simprocAttr]
  refine loop_use extMono (fun m e Hc => ∃ i : Nat, m = l.length - i ∧ i ≤ l.length ∧ GE H Hc ∧ e 0 = .ref b g 0 l.length ex ∧ e 1 = .fn 26 [.vptr ca 0, .vptr cl 0] ∧ e 7 = .p (I l.length) ∧ e 8 = .p (I i) ∧ frI L l l 0 = frI L l (l.drop i) i) ?_ l.length _ _ ⟨0, rfl, by omega, GE.refl _, ?_⟩
  · rintro m e Hc ⟨i, rfl, hi, hge, e0, e1, e7, e8, hn⟩
    rcases Nat.lt_or_ge i l.length with h | h
    · have gi := pre_get (zs := zs) h
      have hln : (iL l ++ zs).length = l.length + zs.length := by rw [List.length_append, hul]
      have hb' := hge.at hb
      rw [List.drop_eq_getElem_cons h] at hn
      simp only [frI] at hn
      simp -implicitDefEqProofs -dsimp (disch := first | omega | (simp only [wkLen]; omega) | decide +kernel) only [↓wkPre, ↓wkPre2, ↓wkE, wkPost, wkDef, wkF, simprocAttr, e0, e1, e7, e8, gi, hln, hb']
      refine imp_call md_26 (w26 L l[i] (hge.at ha) (hge.at hv) (h0.ge hge) hl hL _ fun H' hg' => ?_)
      cases hc : L.any (bar l[i] l)
      · simp -implicitDefEqProofs -dsimp (disch := first | omega | (simp only [wkLen]; omega) | decide +kernel) only [↓wkPre, ↓wkPre2, ↓wkE, wkPost, wkDef, wkF, simprocAttr, e0, e1, e7, e8, hc]
        have := hq H' (hge.trans hg')
        rw [hn, hc] at this
        exact this
      · simp -implicitDefEqProofs -dsimp (disch := first | omega | (simp only [wkLen]; omega) | decide +kernel) only [↓wkPre, ↓wkPre2, ↓wkE, wkPost, wkDef, wkF, simprocAttr, e0, e1, e7, e8, hc]
        exact ⟨l.length - (i + 1), by omega, i + 1, rfl, by omega, hge.trans hg', by push_cast; rfl, by rw [hn, hc]; push_cast; rfl⟩
    · obtain rfl : i = l.length := by omega
      rw [List.drop_length] at hn
      simp -implicitDefEqProofs -dsimp (disch := first | omega | (simp only [wkLen]; omega) | decide +kernel) only [↓wkPre, ↓wkPre2, ↓wkE, wkPost, wkDef, wkF, simprocAttr, e0, e1, e7, e8]
      have := hq _ hge
      rw [hn] at this
      exact this
  · simp -implicitDefEqProofs -dsimp (disch := first | omega | (simp only [wkLen]; omega) | decide +kernel) only [↓wkPre, ↓wkPre2, ↓wkE, wkPost, wkDef, wkF, simprocAttr]
end Go.Ev.F23
end
section
namespace Go.Ev.F23
open Go.Proofs Go.Ev Go.Sort
set_option maxRecDepth 100000
set_option linter.all false
/-- Of equal neighbours the first. -/
def cmpT {α : Type} [DecidableEq α] [Inhabited α] (xs : List α) : Nat → List α
  | 0 => []
  | m + 1 => cmpT xs m ++ (if m ≠ 0 ∧ xs[m]! = xs[m - 1]! then [] else [xs[m]!])
theorem cmpT_new {α : Type} [DecidableEq α] [Inhabited α] {xs : List α} {m : Nat} (h0 : 1 ≤ m) (h : m < xs.length) (hc : ¬ xs[m] = xs[m - 1]'(by omega)) : cmpT xs (m + 1) = cmpT xs m ++ [xs[m]] := by
  rw [cmpT, getElem!_pos xs m h, getElem!_pos xs (m - 1) (by omega), if_neg (fun h => hc h.2)]
theorem cmpT_old {α : Type} [DecidableEq α] [Inhabited α] {xs : List α} {m : Nat} (h0 : 1 ≤ m) (h : m < xs.length) (hc : xs[m] = xs[m - 1]'(by omega)) : cmpT xs (m + 1) = cmpT xs m := by
  rw [cmpT, getElem!_pos xs m h, getElem!_pos xs (m - 1) (by omega), if_pos ⟨by omega, hc⟩, List.append_nil]
theorem cmpT_one {α : Type} [DecidableEq α] [Inhabited α] {xs : List α} (h : 0 < xs.length) : cmpT xs 1 = xs.take 1 := by
  cases xs with
  | nil => simp at h
  | cons x t => simp [cmpT]
theorem cmpT_small {α : Type} [DecidableEq α] [Inhabited α] {xs : List α} (h : xs.length < 2) : cmpT xs xs.length = xs := by
  match xs, h with
  | [], _ => rfl
  | [x], _ => simp [cmpT]
theorem take_set_succ {α : Type} {d : List α} {q : Nat} {x : α} (h : q < d.length) : (d.set q x).take (q + 1) = d.take q ++ [x] := by
  rw [List.take_succ_eq_append_getElem (by simpa using h), List.getElem_set_self, List.take_set_of_le (Nat.le_refl _)]
theorem set_same {H : Heap} {b : Nat} {x : Blk} (h : H[b]? = some x) : H.set b x = H := by
  obtain ⟨h1, h2⟩ := List.getElem?_eq_some_iff.1 h
  rw [← h2]; exact List.set_getElem_self h1
theorem iL_set (d : List Int) (q : Nat) (x : Int) : iL (d.set q x) = (iL d).set q (.int .i64 x) := by simp [iL, List.map_set]
theorem rL_set (d : List Arc) (q : Nat) (x : Arc) : rL (d.set q x) = (rL d).set q (.agg [.int .i64 x.1, .int .i64 x.2]) := by simp [rL, List.map_set]
theorem iL_take (d : List Int) (q : Nat) : iL (d.take q) = (iL d).take q := by simp [iL, List.map_take]
theorem rL_take (d : List Arc) (q : Nat) : rL (d.take q) = (rL d).take q := by simp [rL, List.map_take]
theorem setR_tail {α : Type} {xs ys : List α} {q : Nat} (h : q + ys.length = xs.length) : setR xs q ys = xs.take q ++ ys := by
  apply List.ext_getElem?
  intro i
  rw [setR_get]
  rcases Nat.lt_or_ge i q with h1 | h1
  · rw [if_neg (by omega), List.getElem?_append_left (by rw [List.length_take]; omega), List.getElem?_take, if_pos h1]
  · rw [List.getElem?_append_right (by rw [List.length_take]; omega), List.length_take, Nat.min_eq_left (by omega)]
    split
    · rfl
    · rw [List.getElem?_eq_none (by omega), List.getElem?_eq_none (by omega)]
theorem clr {P : Program} {t e : TypeId} {sh : Nat} {y : PV} (ht : telem P t = some (e, sh)) (hz : tzero P e = some (.p y)) (hy : y.shape = sh) {H : Heap} {b g off len : Nat} {ex : Bool} {xs : List PV} (hb : H[b]? = some (.arr true g sh xs))
    (h1 : off + len ≤ xs.length) (h2 : len ≠ 0) : noRes (evClearS P t (.ref b g off len ex) H) = some (.p (.tup []), H.set b (.arr true g sh (setR xs off (List.replicate len y)))) := by
  unfold evClearS noRes
  simp [ht, hz, frzN_p, ids_p, hy, hb, h1, h2]
theorem w24 {b g : Nat} {ex : Bool} {xs : List Int} {H : Heap} (hb : H[b]? = some (.arr true g 0 (iL xs))) (hl : xs.length ≤ 1000000) (Q : AV → Heap → Prop)
    (hq : ∀ ex' zs, (cmpT xs xs.length).length + List.length zs = xs.length → Q (.ref b g 0 (cmpT xs xs.length).length ex') (H.set b (.arr true g 0 (iL (cmpT xs xs.length) ++ zs)))) : (W Cf okf).call 24 [.ref b g 0 xs.length ex] H Q := by
  refine top_mk extMono Try.func24 body24 (by decide) rfl ?_
  simp only [c24, Try.f24, Option.getD_some]
  have hul := iL_len xs
  have hbl := (List.getElem?_eq_some_iff.1 hb).1
  have same : cmpT xs xs.length = xs → Q (.ref b g 0 xs.length ex) H := fun h => by
    have := hq ex [] (by rw [h]; simp)
    rw [h, List.append_nil, set_same hb] at this
    exact this
  rcases Nat.lt_or_ge xs.length 2 with hs | hs
  · simp -implicitDefEqProofs -dsimp (disch := first | omega | (simp only [wkLen]; omega) | decide +kernel) only [↓wkPre, ↓wkPre2, ↓wkE, wkPost, wkDef, wkF, simprocAttr]
    exact same (cmpT_small hs)
  · simp -implicitDefEqProofs -dsimp (disch := first | omega | (simp only [wkLen]; omega) | decide +kernel) only [↓wkPre, ↓wkPre2, ↓wkE, wkPost, wkDef, wkF, simprocAttr]
    refine loop_use extMono (fun m e Hc => ∃ k : Nat, m = xs.length - k ∧ 1 ≤ k ∧ k ≤ xs.length ∧ H = Hc ∧ e 0 = .ref b g 0 xs.length ex ∧ e 3 = .p (I k) ∧ cmpT xs k = xs.take k) ?_ (xs.length - 1) _ _ ⟨1, rfl, by omega, by omega, rfl, ?_⟩
    · rintro m e Hc ⟨k, rfl, h1, hk, rfl, e0, e3, htk⟩
      rcases Nat.lt_or_ge k xs.length with h | h
      · have gk := iL_get h
        have gk1 := iL_get (l := xs) (i := k - 1) (by omega)
        have hk1 : ((k : Int) - 1) = ((k - 1 : Nat) : Int) := by omega
        by_cases hc : xs[k] = xs[k - 1]
        · have c1 : (xs[k] == xs[k - 1]) = true := by simp [hc]
          simp -implicitDefEqProofs -dsimp (disch := first | omega | (simp only [wkLen]; omega) | decide +kernel) only [↓wkPre, ↓wkPre2, ↓wkE, wkPost, wkDef, wkF, simprocAttr, e0, e3, hb, gk, gk1, hul, hk1, c1]
          refine loop_use extMono (fun m e Hc => ∃ (q n2 : Nat) (d : List Int), m = xs.length - (k + n2) ∧ 1 ≤ n2 ∧ k + n2 ≤ xs.length ∧ q + 1 ≤ k + n2 ∧ d.length = xs.length ∧ Hc = H.set b (.arr true g 0 (iL d)) ∧ e 0 = .ref b g 0 xs.length ex ∧ e 3 = .p (I q) ∧ (∃ ex', e 4 = .ref b g k (xs.length - k) ex') ∧ e 5 = .p (I n2) ∧ d.take q = cmpT xs (k + n2) ∧ (∀ j, k + n2 - 1 ≤ j → d[j]? = xs[j]?)) ?_ (xs.length - (k + 1)) _ _ ⟨k, 1, xs, rfl, by omega, by omega, by omega, rfl, ?_⟩
          · rintro m e Hc ⟨q, n2, d, rfl, hn1, hn2, hq1, hdl, rfl, e0, e3, ⟨ex', e4⟩, e5, htk, hsame⟩
            have kb : (H.set b (.arr true g 0 (iL d)))[b]? = some (.arr true g 0 (iL d)) := hs_set hbl
            have hdu := iL_len d
            rcases Nat.lt_or_ge (k + n2) xs.length with h2 | h2
            · have gd := iL_get (l := d) (i := k + n2) (by omega)
              have gd1 := iL_get (l := d) (i := k + n2 - 1) (by omega)
              have hn21 : ((n2 : Int) - 1) = ((n2 - 1 : Nat) : Int) := by omega
              have hadd : k + (n2 - 1) = k + n2 - 1 := by omega
              have x1 : d[k + n2]'(by omega) = xs[k + n2] := by have := hsame (k + n2) (by omega); rw [List.getElem?_eq_getElem (by omega), List.getElem?_eq_getElem h2] at this; simpa using this
              have x2 : d[k + n2 - 1]'(by omega) = xs[k + n2 - 1] := by have := hsame (k + n2 - 1) (by omega); rw [List.getElem?_eq_getElem (by omega), List.getElem?_eq_getElem (by omega)] at this; simpa using this
              have gq := iL_get (l := d) (i := q) (by omega)
              rw [x1] at gd
              rw [x2] at gd1
              by_cases hc : xs[k + n2] = xs[k + n2 - 1]
              · have c1 : (xs[k + n2] == xs[k + n2 - 1]) = true := by simp [hc]
                simp -implicitDefEqProofs -dsimp (disch := first | omega | (simp only [wkLen]; omega) | decide +kernel) only [↓wkPre, ↓wkPre2, ↓wkE, wkPost, wkDef, wkF, simprocAttr, e0, e3, e4, e5, kb, gd, gd1, hdu, hdl, hn21, hadd, c1]
                exact ⟨xs.length - (k + (n2 + 1)), by omega, q, n2 + 1, d, rfl, by omega, by omega, by omega, hdl, rfl, rfl, ⟨_, rfl⟩, by push_cast; rfl, by rw [htk, show k + (n2 + 1) = k + n2 + 1 by omega, cmpT_old (by omega) h2 hc], fun j hj => hsame j (by omega)⟩
              · have c1 : (xs[k + n2] == xs[k + n2 - 1]) = false := by simp [hc]
                simp -implicitDefEqProofs -dsimp (disch := first | omega | (simp only [wkLen]; omega) | decide +kernel) only [↓wkPre, ↓wkPre2, ↓wkE, wkPost, wkDef, wkF, simprocAttr, e0, e3, e4, e5, kb, gq, gd, gd1, hdu, hdl, hn21, hadd, List.set_set, c1]
                refine ⟨xs.length - (k + (n2 + 1)), by omega, q + 1, n2 + 1, d.set q xs[k + n2], rfl, by omega, by omega, by omega, by simpa using hdl, by rw [iL_set], by push_cast; rfl, ⟨_, rfl⟩, by push_cast; rfl, ?_, fun j hj => ?_⟩
                · rw [show k + (n2 + 1) = k + n2 + 1 by omega, cmpT_new (by omega) h2 hc, ← htk]
                  exact take_set_succ (by omega)
                · rw [List.getElem?_set_ne (by omega)]
                  exact hsame j (by omega)
            · have h3 : k + n2 = xs.length := by omega
              have hkq : q ≤ xs.length := by omega
              rw [h3] at htk
              have hcl : (cmpT xs xs.length).length = q := by rw [← htk, List.length_take]; omega
              have hnk : n2 = xs.length - k := by omega
              subst hnk
              simp -implicitDefEqProofs -dsimp (disch := first | omega | (simp only [wkLen]; omega) | decide +kernel) only [↓wkPre, ↓wkPre2, ↓wkE, wkPost, wkDef, wkF, simprocAttr, e0, e3, e4, e5, kb, hdu, hdl, List.set_set]
              rw [clr telem_26 tzero_3 rfl kb (by rw [hdu]; omega) (by omega), oK2_some]
              simp -implicitDefEqProofs -dsimp (disch := first | omega | (simp only [wkLen]; omega) | decide +kernel) only [↓wkPre, ↓wkPre2, ↓wkE, wkPost, wkDef, wkF, simprocAttr, e0, e3, e4, e5, kb, hdu, hdl, List.set_set]
              have := hq (ex && q == xs.length) (List.replicate (xs.length - q) (.int .i64 0)) (by rw [hcl]; simp; omega)
              rw [hcl] at this
              rw [Nat.sub_zero, setR_tail (by simp [hdu, hdl]; omega), ← iL_take, htk]
              exact this
          · simp -implicitDefEqProofs -dsimp (disch := first | omega | (simp only [wkLen]; omega) | decide +kernel) only [↓wkPre, ↓wkPre2, ↓wkE, wkPost, wkDef, wkF, simprocAttr]
            exact ⟨(set_same hb).symm, e0, e3, ⟨_, rfl⟩, by rw [cmpT_old (by omega) h hc, htk], fun _ _ => trivial⟩
        · have c1 : (xs[k] == xs[k - 1]) = false := by simp [hc]
          simp -implicitDefEqProofs -dsimp (disch := first | omega | (simp only [wkLen]; omega) | decide +kernel) only [↓wkPre, ↓wkPre2, ↓wkE, wkPost, wkDef, wkF, simprocAttr, e0, e3, hb, gk, gk1, hul, hk1, c1]
          exact ⟨xs.length - (k + 1), by omega, k + 1, rfl, by omega, by omega, by push_cast; rfl, by rw [cmpT_new (by omega) h hc, htk, List.take_succ_eq_append_getElem h]⟩
      · obtain rfl : k = xs.length := by omega
        simp -implicitDefEqProofs -dsimp (disch := first | omega | (simp only [wkLen]; omega) | decide +kernel) only [↓wkPre, ↓wkPre2, ↓wkE, wkPost, wkDef, wkF, simprocAttr, e0, e3]
        exact same (by rw [htk, List.take_length])
    · simp -implicitDefEqProofs -dsimp (disch := first | omega | (simp only [wkLen]; omega) | decide +kernel) only [↓wkPre, ↓wkPre2, ↓wkE, wkPost, wkDef, wkF, simprocAttr]
      exact cmpT_one (by omega)

theorem w37 {b g : Nat} {ex : Bool} {xs : List Arc} {H : Heap} (hb : H[b]? = some (.arr true g 2 (rL xs))) (hl : xs.length ≤ 1000000) (Q : AV → Heap → Prop)
    (hq : ∀ ex' zs, (cmpT xs xs.length).length + List.length zs = xs.length → Q (.ref b g 0 (cmpT xs xs.length).length ex') (H.set b (.arr true g 2 (rL (cmpT xs xs.length) ++ zs)))) : (W Cf okf).call 37 [.ref b g 0 xs.length ex] H Q := by
  refine top_mk extMono Try.func37 body37 (by decide) rfl ?_
  simp only [c37, Try.f37, Option.getD_some]
  have hul := rL_len xs
  have hbl := (List.getElem?_eq_some_iff.1 hb).1
  have same : cmpT xs xs.length = xs → Q (.ref b g 0 xs.length ex) H := fun h => by
    have := hq ex [] (by rw [h]; simp)
    rw [h, List.append_nil, set_same hb] at this
    exact this
  rcases Nat.lt_or_ge xs.length 2 with hs | hs
  · simp -implicitDefEqProofs -dsimp (disch := first | omega | (simp only [wkLen]; omega) | decide +kernel) only [↓wkPre, ↓wkPre2, ↓wkE, wkPost, wkDef, wkF, simprocAttr]
    exact same (cmpT_small hs)
  · simp -implicitDefEqProofs -dsimp (disch := first | omega | (simp only [wkLen]; omega) | decide +kernel) only [↓wkPre, ↓wkPre2, ↓wkE, wkPost, wkDef, wkF, simprocAttr]
    refine loop_use extMono (fun m e Hc => ∃ k : Nat, m = xs.length - k ∧ 1 ≤ k ∧ k ≤ xs.length ∧ H = Hc ∧ e 0 = .ref b g 0 xs.length ex ∧ e 3 = .p (I k) ∧ cmpT xs k = xs.take k) ?_ (xs.length - 1) _ _ ⟨1, rfl, by omega, by omega, rfl, ?_⟩
    · rintro m e Hc ⟨k, rfl, h1, hk, rfl, e0, e3, htk⟩
      rcases Nat.lt_or_ge k xs.length with h | h
      · have gk := rL_get h
        have gk1 := rL_get (l := xs) (i := k - 1) (by omega)
        have hk1 : ((k : Int) - 1) = ((k - 1 : Nat) : Int) := by omega
        by_cases hc : xs[k] = xs[k - 1]
        · have c1 : ((xs[k]).1 == (xs[k - 1]).1) = true := by simp [hc]
          have c2 : ((xs[k]).2 == (xs[k - 1]).2) = true := by simp [hc]
          simp -implicitDefEqProofs -dsimp (disch := first | omega | (simp only [wkLen]; omega) | decide +kernel) only [↓wkPre, ↓wkPre2, ↓wkE, wkPost, wkDef, wkF, simprocAttr, e0, e3, hb, gk, gk1, hul, hk1, c1, c2]
          refine loop_use extMono (fun m e Hc => ∃ (q n2 : Nat) (d : List Arc), m = xs.length - (k + n2) ∧ 1 ≤ n2 ∧ k + n2 ≤ xs.length ∧ q + 1 ≤ k + n2 ∧ d.length = xs.length ∧ Hc = H.set b (.arr true g 2 (rL d)) ∧ e 0 = .ref b g 0 xs.length ex ∧ e 3 = .p (I q) ∧ (∃ ex', e 4 = .ref b g k (xs.length - k) ex') ∧ e 5 = .p (I n2) ∧ d.take q = cmpT xs (k + n2) ∧ (∀ j, k + n2 - 1 ≤ j → d[j]? = xs[j]?)) ?_ (xs.length - (k + 1)) _ _ ⟨k, 1, xs, rfl, by omega, by omega, by omega, rfl, ?_⟩
          · rintro m e Hc ⟨q, n2, d, rfl, hn1, hn2, hq1, hdl, rfl, e0, e3, ⟨ex', e4⟩, e5, htk, hsame⟩
            have kb : (H.set b (.arr true g 2 (rL d)))[b]? = some (.arr true g 2 (rL d)) := hs_set hbl
            have hdu := rL_len d
            rcases Nat.lt_or_ge (k + n2) xs.length with h2 | h2
            · have gd := rL_get (l := d) (i := k + n2) (by omega)
              have gd1 := rL_get (l := d) (i := k + n2 - 1) (by omega)
              have hn21 : ((n2 : Int) - 1) = ((n2 - 1 : Nat) : Int) := by omega
              have hadd : k + (n2 - 1) = k + n2 - 1 := by omega
              have x1 : d[k + n2]'(by omega) = xs[k + n2] := by have := hsame (k + n2) (by omega); rw [List.getElem?_eq_getElem (by omega), List.getElem?_eq_getElem h2] at this; simpa using this
              have x2 : d[k + n2 - 1]'(by omega) = xs[k + n2 - 1] := by have := hsame (k + n2 - 1) (by omega); rw [List.getElem?_eq_getElem (by omega), List.getElem?_eq_getElem (by omega)] at this; simpa using this
              have gq := rL_get (l := d) (i := q) (by omega)
              rw [x1] at gd
              rw [x2] at gd1
              by_cases hc : xs[k + n2] = xs[k + n2 - 1]
              · have c1 : ((xs[k + n2]).1 == (xs[k + n2 - 1]).1) = true := by simp [hc]
                have c2 : ((xs[k + n2]).2 == (xs[k + n2 - 1]).2) = true := by simp [hc]
                simp -implicitDefEqProofs -dsimp (disch := first | omega | (simp only [wkLen]; omega) | decide +kernel) only [↓wkPre, ↓wkPre2, ↓wkE, wkPost, wkDef, wkF, simprocAttr, e0, e3, e4, e5, kb, gd, gd1, hdu, hdl, hn21, hadd, c1, c2]
                exact ⟨xs.length - (k + (n2 + 1)), by omega, q, n2 + 1, d, rfl, by omega, by omega, by omega, hdl, rfl, rfl, ⟨_, rfl⟩, by push_cast; rfl, by rw [htk, show k + (n2 + 1) = k + n2 + 1 by omega, cmpT_old (by omega) h2 hc], fun j hj => hsame j (by omega)⟩
              · cases c1 : ((xs[k + n2]).1 == (xs[k + n2 - 1]).1)
                · simp -implicitDefEqProofs -dsimp (disch := first | omega | (simp only [wkLen]; omega) | decide +kernel) only [↓wkPre, ↓wkPre2, ↓wkE, wkPost, wkDef, wkF, simprocAttr, e0, e3, e4, e5, kb, gq, gd, gd1, hdu, hdl, hn21, hadd, List.set_set, c1]
                  refine ⟨xs.length - (k + (n2 + 1)), by omega, q + 1, n2 + 1, d.set q xs[k + n2], rfl, by omega, by omega, by omega, by simpa using hdl, by rw [rL_set], by push_cast; rfl, ⟨_, rfl⟩, by push_cast; rfl, ?_, fun j hj => ?_⟩
                  · rw [show k + (n2 + 1) = k + n2 + 1 by omega, cmpT_new (by omega) h2 hc, ← htk]
                    exact take_set_succ (by omega)
                  · rw [List.getElem?_set_ne (by omega)]
                    exact hsame j (by omega)
                · have c2 : ((xs[k + n2]).2 == (xs[k + n2 - 1]).2) = false := by
                    cases c2 : ((xs[k + n2]).2 == (xs[k + n2 - 1]).2)
                    · rfl
                    · exact absurd (Prod.ext (eq_of_beq c1) (eq_of_beq c2)) hc
                  simp -implicitDefEqProofs -dsimp (disch := first | omega | (simp only [wkLen]; omega) | decide +kernel) only [↓wkPre, ↓wkPre2, ↓wkE, wkPost, wkDef, wkF, simprocAttr, e0, e3, e4, e5, kb, gq, gd, gd1, hdu, hdl, hn21, hadd, List.set_set, c1, c2]
                  refine ⟨xs.length - (k + (n2 + 1)), by omega, q + 1, n2 + 1, d.set q xs[k + n2], rfl, by omega, by omega, by omega, by simpa using hdl, by rw [rL_set], by push_cast; rfl, ⟨_, rfl⟩, by push_cast; rfl, ?_, fun j hj => ?_⟩
                  · rw [show k + (n2 + 1) = k + n2 + 1 by omega, cmpT_new (by omega) h2 hc, ← htk]
                    exact take_set_succ (by omega)
                  · rw [List.getElem?_set_ne (by omega)]
                    exact hsame j (by omega)
            · have h3 : k + n2 = xs.length := by omega
              have hkq : q ≤ xs.length := by omega
              rw [h3] at htk
              have hcl : (cmpT xs xs.length).length = q := by rw [← htk, List.length_take]; omega
              have hnk : n2 = xs.length - k := by omega
              subst hnk
              simp -implicitDefEqProofs -dsimp (disch := first | omega | (simp only [wkLen]; omega) | decide +kernel) only [↓wkPre, ↓wkPre2, ↓wkE, wkPost, wkDef, wkF, simprocAttr, e0, e3, e4, e5, kb, hdu, hdl, List.set_set]
              rw [clr telem_34 tzero_37 rfl kb (by rw [hdu]; omega) (by omega), oK2_some]
              simp -implicitDefEqProofs -dsimp (disch := first | omega | (simp only [wkLen]; omega) | decide +kernel) only [↓wkPre, ↓wkPre2, ↓wkE, wkPost, wkDef, wkF, simprocAttr, e0, e3, e4, e5, kb, hdu, hdl, List.set_set]
              have := hq (ex && q == xs.length) (List.replicate (xs.length - q) (.agg [.int .i64 0, .int .i64 0])) (by rw [hcl]; simp; omega)
              rw [hcl] at this
              rw [Nat.sub_zero, setR_tail (by simp [hdu, hdl]; omega), ← rL_take, htk]
              exact this
          · simp -implicitDefEqProofs -dsimp (disch := first | omega | (simp only [wkLen]; omega) | decide +kernel) only [↓wkPre, ↓wkPre2, ↓wkE, wkPost, wkDef, wkF, simprocAttr]
            exact ⟨(set_same hb).symm, e0, e3, ⟨_, rfl⟩, by rw [cmpT_old (by omega) h hc, htk], fun _ _ => trivial⟩
        · cases c1 : ((xs[k]).1 == (xs[k - 1]).1)
          · simp -implicitDefEqProofs -dsimp (disch := first | omega | (simp only [wkLen]; omega) | decide +kernel) only [↓wkPre, ↓wkPre2, ↓wkE, wkPost, wkDef, wkF, simprocAttr, e0, e3, hb, gk, gk1, hul, hk1, c1]
            exact ⟨xs.length - (k + 1), by omega, k + 1, rfl, by omega, by omega, by push_cast; rfl, by rw [cmpT_new (by omega) h hc, htk, List.take_succ_eq_append_getElem h]⟩
          · have c2 : ((xs[k]).2 == (xs[k - 1]).2) = false := by
              cases c2 : ((xs[k]).2 == (xs[k - 1]).2)
              · rfl
              · exact absurd (Prod.ext (eq_of_beq c1) (eq_of_beq c2)) hc
            simp -implicitDefEqProofs -dsimp (disch := first | omega | (simp only [wkLen]; omega) | decide +kernel) only [↓wkPre, ↓wkPre2, ↓wkE, wkPost, wkDef, wkF, simprocAttr, e0, e3, hb, gk, gk1, hul, hk1, c1, c2]
            exact ⟨xs.length - (k + 1), by omega, k + 1, rfl, by omega, by omega, by push_cast; rfl, by rw [cmpT_new (by omega) h hc, htk, List.take_succ_eq_append_getElem h]⟩
      · obtain rfl : k = xs.length := by omega
        simp -implicitDefEqProofs -dsimp (disch := first | omega | (simp only [wkLen]; omega) | decide +kernel) only [↓wkPre, ↓wkPre2, ↓wkE, wkPost, wkDef, wkF, simprocAttr, e0, e3]
        exact same (by rw [htk, List.take_length])
    · simp -implicitDefEqProofs -dsimp (disch := first | omega | (simp only [wkLen]; omega) | decide +kernel) only [↓wkPre, ↓wkPre2, ↓wkE, wkPost, wkDef, wkF, simprocAttr]
      exact cmpT_one (by omega)

end Go.Ev.F23
end
