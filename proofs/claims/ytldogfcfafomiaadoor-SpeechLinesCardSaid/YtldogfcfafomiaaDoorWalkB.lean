/- A part of the proof: walks of the functions that the law calls. No condition. -/
import Derived.Test.YtldogfcfafomiaaDoorWalkA
set_option linter.all false
section
namespace Go.Ev.F32
open Go.Proofs Go.Ev
set_option maxRecDepth 100000
set_option linter.all false
structure O where
  kind : Int
  key : Nat
  x : Nat
  y : Nat
  val : List UInt8
  w0 : Nat
  w1 : Nat
  w2 : Nat
  w3 : Nat
  n : Int
  deriving DecidableEq
abbrev V (n : Nat) : PV := .int .u32 n
abbrev O.cs (o : O) : List PV := [I o.kind, U o.key, V o.x, V o.y, S o.val, V o.w0, V o.w1, V o.w2, V o.w3, I o.n]
abbrev O.pv (o : O) : PV := .agg o.cs
structure O.ok (o : O) : Prop where
  key : o.key < 18446744073709551616
  x : o.x < 4294967296
  y : o.y < 4294967296
  val : o.val.length ≤ 500
  w0 : o.w0 < 4294967296
  w1 : o.w1 < 4294967296
  w2 : o.w2 < 4294967296
  w3 : o.w3 < 4294967296
  n : -9223372036854775808 ≤ o.n ∧ o.n ≤ 9223372036854775807
/-- A number that may be below 0, as a text. -/
def wh (n : Int) : List UInt8 := if n < 0 then 45 :: dg n.natAbs else dg n.natAbs
theorem wh_le {n : Int} (h : -9223372036854775808 ≤ n ∧ n ≤ 9223372036854775807) : (wh n).length ≤ 21 := by
  have := dg_le (n := n.natAbs) (by omega)
  unfold wh
  split <;> simp <;> omega
theorem qt_le (s : List UInt8) : (qt s).length ≤ 3 * s.length + 2 := by
  have := qs_len s
  simp [qt]; omega
/-- What stands behind the verb. -/
def restF (o : O) : List UInt8 :=
  if o.kind = 1 then 32 :: dg o.key ++ 32 :: dg o.x ++ 32 :: dg o.y ++ 32 :: qt o.val
  else if o.kind = 2 ∨ o.kind = 3 then 32 :: dg o.key
  else if o.kind = 4 ∨ o.kind = 5 then 32 :: dg o.w0 ++ 32 :: dg o.w1 ++ 32 :: dg o.w2 ++ 32 :: dg o.w3
  else if o.kind = 6 ∨ o.kind = 7 then 32 :: wh o.n
  else []
theorem p19 (o : O) (ho : o.ok) : PS Cf okf 19 [9] [o.pv] (fun r => r = S (restF o)) := by
  refine PS.mk extMono Tryd.func19 body19 (by decide) rfl ?_
  simp only [c19, Tryd.f19, Option.getD_some]
  obtain ⟨kind, key, x, y, val, w0, w1, w2, w3, n⟩ := o
  obtain ⟨h1, h2, h3, h4, h5, h6, h7, h8, h9⟩ := ho
  dsimp only at h1 h2 h3 h4 h5 h6 h7 h8 h9
  have l1 := dg_le h1
  have l2 := dg_le (show x < 18446744073709551616 by omega)
  have l3 := dg_le (show y < 18446744073709551616 by omega)
  have l4 := qt_le val
  have l5 := dg_le (show w0 < 18446744073709551616 by omega)
  have l6 := dg_le (show w1 < 18446744073709551616 by omega)
  have l7 := dg_le (show w2 < 18446744073709551616 by omega)
  have l8 := dg_le (show w3 < 18446744073709551616 by omega)
  have l9 := wh_le h9
  simp only [restF]
  simp -implicitDefEqProofs -dsimp (maxSteps := 1000000) (disch := first | omega | (simp only [wkLen]; omega) | decide +kernel) only [↓wkPre, ↓wkPre2, ↓wkE, wkPost, wkDef, wkF, simprocAttr]
  refine PS.app md_26 Tryd.func26 (p26 key h1) rfl ?_
  rintro _ rfl
  by_cases k1 : kind = 1
  · subst k1
    simp -implicitDefEqProofs -dsimp (maxSteps := 1000000) (disch := first | omega | (simp only [wkLen]; omega) | decide +kernel) only [↓wkPre, ↓wkPre2, ↓wkE, wkPost, wkDef, wkF, simprocAttr, str_add]
    refine evC_pl pl_19_4 (by kernel_rfl) (by decide +kernel) ?_
    simp only [pl_19_4]
    simp -implicitDefEqProofs -dsimp (maxSteps := 1000000) (disch := first | omega | (simp only [wkLen]; omega) | decide +kernel) only [↓wkPre, ↓wkPre2, ↓wkE, wkPost, wkDef, wkF, simprocAttr, str_add]
    refine PS.app md_26 Tryd.func26 (p26 x (by omega)) rfl ?_
    rintro _ rfl
    simp -implicitDefEqProofs -dsimp (maxSteps := 1000000) (disch := first | omega | (simp only [wkLen]; omega) | decide +kernel) only [↓wkPre, ↓wkPre2, ↓wkE, wkPost, wkDef, wkF, simprocAttr, str_add]
    refine PS.app md_26 Tryd.func26 (p26 y (by omega)) rfl ?_
    rintro _ rfl
    simp -implicitDefEqProofs -dsimp (maxSteps := 1000000) (disch := first | omega | (simp only [wkLen]; omega) | decide +kernel) only [↓wkPre, ↓wkPre2, ↓wkE, wkPost, wkDef, wkF, simprocAttr, str_add]
    refine PS.app md_27 Tryd.func27 (p27 val (by omega)) rfl ?_
    rintro _ rfl
    simp -implicitDefEqProofs -dsimp (maxSteps := 1000000) (disch := first | omega | (simp only [wkLen]; omega) | decide +kernel) only [↓wkPre, ↓wkPre2, ↓wkE, wkPost, wkDef, wkF, simprocAttr, str_add]
  by_cases k2 : kind = 2
  · subst k2
    simp -implicitDefEqProofs -dsimp (maxSteps := 1000000) (disch := first | omega | (simp only [wkLen]; omega) | decide +kernel) only [↓wkPre, ↓wkPre2, ↓wkE, wkPost, wkDef, wkF, simprocAttr, str_add]
  by_cases k3 : kind = 3
  · subst k3
    simp -implicitDefEqProofs -dsimp (maxSteps := 1000000) (disch := first | omega | (simp only [wkLen]; omega) | decide +kernel) only [↓wkPre, ↓wkPre2, ↓wkE, wkPost, wkDef, wkF, simprocAttr, str_add]
  have four : (kind = 4 ∨ kind = 5) ∨ ¬ (kind = 4 ∨ kind = 5) := by omega
  rcases four with k4 | k4
  · rcases k4 with rfl | rfl
    · simp -implicitDefEqProofs -dsimp (maxSteps := 1000000) (disch := first | omega | (simp only [wkLen]; omega) | decide +kernel) only [↓wkPre, ↓wkPre2, ↓wkE, wkPost, wkDef, wkF, simprocAttr, str_add]
      refine evC_pl pl_19_10 (by kernel_rfl) (by decide +kernel) ?_
      simp only [pl_19_10]
      simp -implicitDefEqProofs -dsimp (maxSteps := 1000000) (disch := first | omega | (simp only [wkLen]; omega) | decide +kernel) only [↓wkPre, ↓wkPre2, ↓wkE, wkPost, wkDef, wkF, simprocAttr, str_add]
      refine PS.app md_26 Tryd.func26 (p26 w0 (by omega)) rfl ?_
      rintro _ rfl
      simp -implicitDefEqProofs -dsimp (maxSteps := 1000000) (disch := first | omega | (simp only [wkLen]; omega) | decide +kernel) only [↓wkPre, ↓wkPre2, ↓wkE, wkPost, wkDef, wkF, simprocAttr, str_add]
      refine PS.app md_26 Tryd.func26 (p26 w1 (by omega)) rfl ?_
      rintro _ rfl
      simp -implicitDefEqProofs -dsimp (maxSteps := 1000000) (disch := first | omega | (simp only [wkLen]; omega) | decide +kernel) only [↓wkPre, ↓wkPre2, ↓wkE, wkPost, wkDef, wkF, simprocAttr, str_add]
      refine PS.app md_26 Tryd.func26 (p26 w2 (by omega)) rfl ?_
      rintro _ rfl
      simp -implicitDefEqProofs -dsimp (maxSteps := 1000000) (disch := first | omega | (simp only [wkLen]; omega) | decide +kernel) only [↓wkPre, ↓wkPre2, ↓wkE, wkPost, wkDef, wkF, simprocAttr, str_add]
      refine PS.app md_26 Tryd.func26 (p26 w3 (by omega)) rfl ?_
      rintro _ rfl
      simp -implicitDefEqProofs -dsimp (maxSteps := 1000000) (disch := first | omega | (simp only [wkLen]; omega) | decide +kernel) only [↓wkPre, ↓wkPre2, ↓wkE, wkPost, wkDef, wkF, simprocAttr, str_add]
    · simp -implicitDefEqProofs -dsimp (maxSteps := 1000000) (disch := first | omega | (simp only [wkLen]; omega) | decide +kernel) only [↓wkPre, ↓wkPre2, ↓wkE, wkPost, wkDef, wkF, simprocAttr, str_add]
      refine evC_pl pl_19_10 (by kernel_rfl) (by decide +kernel) ?_
      simp only [pl_19_10]
      simp -implicitDefEqProofs -dsimp (maxSteps := 1000000) (disch := first | omega | (simp only [wkLen]; omega) | decide +kernel) only [↓wkPre, ↓wkPre2, ↓wkE, wkPost, wkDef, wkF, simprocAttr, str_add]
      refine PS.app md_26 Tryd.func26 (p26 w0 (by omega)) rfl ?_
      rintro _ rfl
      simp -implicitDefEqProofs -dsimp (maxSteps := 1000000) (disch := first | omega | (simp only [wkLen]; omega) | decide +kernel) only [↓wkPre, ↓wkPre2, ↓wkE, wkPost, wkDef, wkF, simprocAttr, str_add]
      refine PS.app md_26 Tryd.func26 (p26 w1 (by omega)) rfl ?_
      rintro _ rfl
      simp -implicitDefEqProofs -dsimp (maxSteps := 1000000) (disch := first | omega | (simp only [wkLen]; omega) | decide +kernel) only [↓wkPre, ↓wkPre2, ↓wkE, wkPost, wkDef, wkF, simprocAttr, str_add]
      refine PS.app md_26 Tryd.func26 (p26 w2 (by omega)) rfl ?_
      rintro _ rfl
      simp -implicitDefEqProofs -dsimp (maxSteps := 1000000) (disch := first | omega | (simp only [wkLen]; omega) | decide +kernel) only [↓wkPre, ↓wkPre2, ↓wkE, wkPost, wkDef, wkF, simprocAttr, str_add]
      refine PS.app md_26 Tryd.func26 (p26 w3 (by omega)) rfl ?_
      rintro _ rfl
      simp -implicitDefEqProofs -dsimp (maxSteps := 1000000) (disch := first | omega | (simp only [wkLen]; omega) | decide +kernel) only [↓wkPre, ↓wkPre2, ↓wkE, wkPost, wkDef, wkF, simprocAttr, str_add]
  by_cases k6 : kind = 6
  · subst k6
    simp -implicitDefEqProofs -dsimp (maxSteps := 1000000) (disch := first | omega | (simp only [wkLen]; omega) | decide +kernel) only [↓wkPre, ↓wkPre2, ↓wkE, wkPost, wkDef, wkF, simprocAttr, str_add]
    refine PS.app md_28 Tryd.func28 (p28 n h9) rfl ?_
    rintro _ rfl
    rw [show (if n < 0 then 45 :: dg n.natAbs else dg n.natAbs) = wh n from rfl]
    simp -implicitDefEqProofs -dsimp (maxSteps := 1000000) (disch := first | omega | (simp only [wkLen]; omega) | decide +kernel) only [↓wkPre, ↓wkPre2, ↓wkE, wkPost, wkDef, wkF, simprocAttr, str_add]
  by_cases k7 : kind = 7
  · subst k7
    simp -implicitDefEqProofs -dsimp (maxSteps := 1000000) (disch := first | omega | (simp only [wkLen]; omega) | decide +kernel) only [↓wkPre, ↓wkPre2, ↓wkE, wkPost, wkDef, wkF, simprocAttr, str_add]
    refine PS.app md_28 Tryd.func28 (p28 n h9) rfl ?_
    rintro _ rfl
    rw [show (if n < 0 then 45 :: dg n.natAbs else dg n.natAbs) = wh n from rfl]
    simp -implicitDefEqProofs -dsimp (maxSteps := 1000000) (disch := first | omega | (simp only [wkLen]; omega) | decide +kernel) only [↓wkPre, ↓wkPre2, ↓wkE, wkPost, wkDef, wkF, simprocAttr, str_add]
  simp -implicitDefEqProofs -dsimp (maxSteps := 1000000) (disch := first | omega | (simp only [wkLen]; omega) | decide +kernel) only [↓wkPre, ↓wkPre2, ↓wkE, wkPost, wkDef, wkF, simprocAttr, str_add]
/-- An op as a line. -/
def lineR (o : O) : List UInt8 := verbsL.getD o.kind.toNat [] ++ restF o
def putF (o : O) : PV := if o.kind < 1 ∨ 9 < o.kind then .tup [S [], I 1] else if 400 < (lineR o).length then .tup [S [], I 9] else .tup [S (lineR o), I 0]
theorem verbs_le (k : Nat) : (verbsL.getD k []).length ≤ 6 := by
  have key : ∀ k : Fin 10, (verbsL.getD k.val []).length ≤ 6 := by decide
  by_cases h : k < 10
  · exact key ⟨k, h⟩
  · rw [List.getD_eq_getElem?_getD, List.getElem?_eq_none (by simp; omega)]; simp
theorem restF_le (o : O) (ho : o.ok) : (restF o).length ≤ 2000 := by
  obtain ⟨h1, h2, h3, h4, h5, h6, h7, h8, h9⟩ := ho
  have l1 := dg_le h1
  have l2 := dg_le (show o.x < 18446744073709551616 by omega)
  have l3 := dg_le (show o.y < 18446744073709551616 by omega)
  have l4 := qt_le o.val
  have l5 := dg_le (show o.w0 < 18446744073709551616 by omega)
  have l6 := dg_le (show o.w1 < 18446744073709551616 by omega)
  have l7 := dg_le (show o.w2 < 18446744073709551616 by omega)
  have l8 := dg_le (show o.w3 < 18446744073709551616 by omega)
  have l9 := wh_le h9
  unfold restF
  split
  · simp; omega
  split
  · simp; omega
  split
  · simp; omega
  split
  · simp; omega
  · simp
theorem oK2_eq {o : Option (AV × Heap)} {a : AV} {h : Heap} {k : AV → Heap → Prop} {t : Tag k} (e : o = some (a, h)) (hk : k a h) : oK2 o k t := by subst e; exact hk
theorem p9 (o : O) (ho : o.ok) : PS Cf okf 9 [9, 29] [o.pv] (fun r => r = putF o) := by
  refine PS.mk extMono Tryd.func9 body9 (by decide) rfl ?_
  simp only [c9, Tryd.f9, Option.getD_some]
  by_cases h1 : o.kind < 1
  · have : putF o = .tup [S [], I 1] := by unfold putF; rw [if_pos (.inl h1)]
    rw [this]
    simp -implicitDefEqProofs -dsimp (maxSteps := 1000000) (disch := first | omega | (simp only [wkLen]; omega) | decide +kernel) only [↓wkPre, ↓wkPre2, ↓wkE, wkPost, wkDef, wkF, simprocAttr]
  by_cases h9 : 9 < o.kind
  · have : putF o = .tup [S [], I 1] := by unfold putF; rw [if_pos (.inr h9)]
    rw [this]
    simp -implicitDefEqProofs -dsimp (maxSteps := 1000000) (disch := first | omega | (simp only [wkLen]; omega) | decide +kernel) only [↓wkPre, ↓wkPre2, ↓wkE, wkPost, wkDef, wkF, simprocAttr]
  have hp : putF o = if 400 < (lineR o).length then .tup [S [], I 9] else .tup [S (lineR o), I 0] := by unfold putF; rw [if_neg (by omega)]
  rw [hp]
  obtain ⟨k, hk⟩ : ∃ k : Nat, o.kind = k := ⟨o.kind.toNat, by omega⟩
  have hl : lineR o = verbsL.getD k [] ++ restF o := by unfold lineR; rw [hk]; rfl
  have gv : (verbsL.map S)[k]? = some (S (verbsL.getD k [])) := by
    have key : ∀ k : Fin 10, verbsL[k.val]? = some (verbsL.getD k.val []) := by decide
    rw [List.getElem?_map, key ⟨k, by omega⟩]; rfl
  have hvl := verbs_le k
  have hrl := restF_le o ho
  obtain ⟨VL, hVL⟩ : ∃ VL, VL = verbsL.map S := ⟨_, rfl⟩
  rw [← hVL] at gv
  have hvl10 : VL.length = 10 := by rw [hVL]; rfl
  simp -implicitDefEqProofs -dsimp (maxSteps := 1000000) (disch := first | omega | (simp only [wkLen]; omega) | decide +kernel) only [↓wkPre, ↓wkPre2, ↓evC_region_st [3], ↓evC_text_st [3], ↓evC_cond, ↓evC_block, ↓evC_stop [3], wkPost, wkDef, wkF, simprocAttr]
  refine stop_cut extMono (fun e H => e 1 = .vptr 0 0 ∧ e 4 = .ref 1 0 0 10 false ∧ H = [.var true (.p o.pv), .arr true 0 0 VL]) ?_ ?_
  · simp only [↓evC_text, ↓evC_region, ↓evOps_cons, ↓evOp_buildSlice2]
    refine oK2_eq (a := .ref 1 0 0 10 false) (h := [.var true (.p o.pv), .arr true 0 0 (verbsL.map S)]) (by kernel_rfl) ?_
    rw [← hVL]
    clear hVL
    simp -implicitDefEqProofs -dsimp (maxSteps := 1000000) (disch := first | omega | (simp only [wkLen]; omega) | decide +kernel) only [↓wkPre, ↓wkPre2, ↓wkE, wkPost, wkDef, wkF, simprocAttr]
  clear hVL
  rintro e H ⟨e1, e4, rfl⟩
  simp -implicitDefEqProofs -dsimp (maxSteps := 1000000) (disch := first | omega | (simp only [wkLen]; omega) | decide +kernel) only [↓wkPre, ↓wkPre2, ↓wkE, wkPost, wkDef, wkF, simprocAttr, e1, e4]
  refine evC_pl pl_9_4 (by kernel_rfl) (by decide +kernel) ?_
  simp only [pl_9_4]
  simp -implicitDefEqProofs -dsimp (maxSteps := 1000000) (disch := first | omega | (simp only [wkLen]; omega) | decide +kernel) only [↓wkPre, ↓wkPre2, ↓wkE, wkPost, wkDef, wkF, simprocAttr, e1, e4, hk, gv, hvl10]
  refine PS.app md_19 Tryd.func19 (p19 o ho) rfl ?_
  rintro _ rfl
  generalize restF o = rf at *
  generalize verbsL.getD k [] = vf at *
  simp -implicitDefEqProofs -dsimp (maxSteps := 1000000) (disch := first | omega | (simp only [wkLen]; omega) | decide +kernel) only [↓wkPre, ↓wkPre2, ↓wkE, wkPost, wkDef, wkF, simprocAttr, e1, e4, hk, gv, hvl10, str_add]
  rw [hl]
  by_cases hs : 400 < (vf ++ rf).length
  · have hs' := hs
    rw [List.length_append] at hs'
    simp -implicitDefEqProofs -dsimp (maxSteps := 1000000) (disch := first | omega | (simp only [wkLen]; omega) | decide +kernel) only [↓wkPre, ↓wkPre2, ↓wkE, wkPost, wkDef, wkF, simprocAttr, e1, e4]
  · have hs' := hs
    rw [List.length_append] at hs'
    simp -implicitDefEqProofs -dsimp (maxSteps := 1000000) (disch := first | omega | (simp only [wkLen]; omega) | decide +kernel) only [↓wkPre, ↓wkPre2, ↓wkE, wkPost, wkDef, wkF, simprocAttr, e1, e4]
/-- With just what the kind has use for. -/
def cleanF (o : O) : O :=
  { kind := o.kind
    key := if 1 ≤ o.kind ∧ o.kind ≤ 3 then o.key else 0
    x := if o.kind = 1 then o.x else 0
    y := if o.kind = 1 then o.y else 0
    val := if o.kind = 1 then o.val else []
    w0 := if o.kind = 4 ∨ o.kind = 5 then o.w0 else 0
    w1 := if o.kind = 4 ∨ o.kind = 5 then o.w1 else 0
    w2 := if o.kind = 4 ∨ o.kind = 5 then o.w2 else 0
    w3 := if o.kind = 4 ∨ o.kind = 5 then o.w3 else 0
    n := if o.kind = 6 ∨ o.kind = 7 then o.n else 0 }
theorem p11 (o : O) (h1 : 1 ≤ o.kind) (h9 : o.kind ≤ 9) : PS Cf okf 11 [27] [o.pv] (fun r => r = (cleanF o).pv) := by
  refine PS.mk extMono Tryd.func11 body11 (by decide) rfl ?_
  simp only [c11, Tryd.f11, Option.getD_some]
  obtain ⟨kind, key, x, y, val, w0, w1, w2, w3, n⟩ := o
  dsimp only at h1 h9
  simp only [cleanF]
  have cs : kind = 1 ∨ kind = 2 ∨ kind = 3 ∨ kind = 4 ∨ kind = 5 ∨ kind = 6 ∨ kind = 7 ∨ kind = 8 ∨ kind = 9 := by omega
  rcases cs with rfl | rfl | rfl | rfl | rfl | rfl | rfl | rfl | rfl
  · simp -implicitDefEqProofs -dsimp (maxSteps := 1000000) (disch := first | omega | (simp only [wkLen]; omega) | decide +kernel) only [↓wkPre, ↓wkPre2, ↓wkE, wkPost, wkDef, wkF, simprocAttr]
    rfl
  · simp -implicitDefEqProofs -dsimp (maxSteps := 1000000) (disch := first | omega | (simp only [wkLen]; omega) | decide +kernel) only [↓wkPre, ↓wkPre2, ↓wkE, wkPost, wkDef, wkF, simprocAttr]
    rfl
  · simp -implicitDefEqProofs -dsimp (maxSteps := 1000000) (disch := first | omega | (simp only [wkLen]; omega) | decide +kernel) only [↓wkPre, ↓wkPre2, ↓wkE, wkPost, wkDef, wkF, simprocAttr]
    rfl
  · simp -implicitDefEqProofs -dsimp (maxSteps := 1000000) (disch := first | omega | (simp only [wkLen]; omega) | decide +kernel) only [↓wkPre, ↓wkPre2, ↓wkE, wkPost, wkDef, wkF, simprocAttr]
    rfl
  · simp -implicitDefEqProofs -dsimp (maxSteps := 1000000) (disch := first | omega | (simp only [wkLen]; omega) | decide +kernel) only [↓wkPre, ↓wkPre2, ↓wkE, wkPost, wkDef, wkF, simprocAttr]
    rfl
  · simp -implicitDefEqProofs -dsimp (maxSteps := 1000000) (disch := first | omega | (simp only [wkLen]; omega) | decide +kernel) only [↓wkPre, ↓wkPre2, ↓wkE, wkPost, wkDef, wkF, simprocAttr]
    rfl
  · simp -implicitDefEqProofs -dsimp (maxSteps := 1000000) (disch := first | omega | (simp only [wkLen]; omega) | decide +kernel) only [↓wkPre, ↓wkPre2, ↓wkE, wkPost, wkDef, wkF, simprocAttr]
    rfl
  · simp -implicitDefEqProofs -dsimp (maxSteps := 1000000) (disch := first | omega | (simp only [wkLen]; omega) | decide +kernel) only [↓wkPre, ↓wkPre2, ↓wkE, wkPost, wkDef, wkF, simprocAttr]
    rfl
  · simp -implicitDefEqProofs -dsimp (maxSteps := 1000000) (disch := first | omega | (simp only [wkLen]; omega) | decide +kernel) only [↓wkPre, ↓wkPre2, ↓wkE, wkPost, wkDef, wkF, simprocAttr]
    rfl
end Go.Ev.F32
end
section
namespace Go.Ev.F32
open Go.Proofs Go.Ev
set_option maxRecDepth 100000
set_option linter.all false
/-- A field's words. -/
def fld (o : O) (c : UInt8) : List (List UInt8) :=
  if c.toNat = 107 then [dg o.key] else if c.toNat = 120 then [dg o.x] else if c.toNat = 121 then [dg o.y] else if c.toNat = 118 then [qt o.val]
  else if c.toNat = 110 then [wh o.n] else if c.toNat = 119 then [dg o.w0, dg o.w1, dg o.w2, dg o.w3] else []
def words (o : O) : List (List UInt8) := verbsL.getD o.kind.toNat [] :: (formsL.getD o.kind.toNat []).flatMap (fld o)
theorem words_line (o : O) (h1 : 1 ≤ o.kind) (h9 : o.kind ≤ 9) : Lib.join (words o) [32] = lineR o := by
  obtain ⟨kind, key, x, y, val, w0, w1, w2, w3, n⟩ := o
  dsimp only at h1 h9
  have cs : kind = 1 ∨ kind = 2 ∨ kind = 3 ∨ kind = 4 ∨ kind = 5 ∨ kind = 6 ∨ kind = 7 ∨ kind = 8 ∨ kind = 9 := by omega
  rcases cs with rfl | rfl | rfl | rfl | rfl | rfl | rfl | rfl | rfl <;> simp [words, lineR, restF, fld, Lib.join, List.intercalate, List.intersperse]
theorem fld_len (o : O) (c : UInt8) : (fld o c).length ≤ 4 := by unfold fld; (repeat' split) <;> simp
theorem fld_le (o : O) (ho : o.ok) (c : UInt8) : ∀ w ∈ fld o c, w.length ≤ 2000 := by
  obtain ⟨h1, h2, h3, h4, h5, h6, h7, h8, h9⟩ := ho
  have l1 := dg_le h1
  have l2 := dg_le (show o.x < 18446744073709551616 by omega)
  have l3 := dg_le (show o.y < 18446744073709551616 by omega)
  have l4 := qt_le o.val
  have l5 := dg_le (show o.w0 < 18446744073709551616 by omega)
  have l6 := dg_le (show o.w1 < 18446744073709551616 by omega)
  have l7 := dg_le (show o.w2 < 18446744073709551616 by omega)
  have l8 := dg_le (show o.w3 < 18446744073709551616 by omega)
  have l9 := wh_le h9
  unfold fld
  (repeat' split) <;> simp <;> omega
theorem flds_len (o : O) : ∀ f : List UInt8, (f.flatMap (fld o)).length ≤ 4 * f.length
  | [] => by simp
  | c :: f => by
    have := flds_len o f
    have := fld_len o c
    simp only [List.flatMap_cons, List.length_append, List.length_cons]; omega
theorem forms_len (k : Nat) : (formsL.getD k []).length ≤ 4 := by
  have key : ∀ k : Fin 10, (formsL.getD k.val []).length ≤ 4 := by decide
  by_cases h : k < 10
  · exact key ⟨k, h⟩
  · rw [List.getD_eq_getElem?_getD, List.getElem?_eq_none (by simp; omega)]; simp
theorem ix_verbs {k : Nat} (h : k < 10) : evIndex Tryd.prog 42 (.p (.agg (verbsL.map S))) (.p (.int .i64 k)) = some (.p (S (verbsL.getD k []))) := by
  have ht : tarr Tryd.prog 42 = some (10, 0) := by decide +kernel
  have hc : k = 0 ∨ k = 1 ∨ k = 2 ∨ k = 3 ∨ k = 4 ∨ k = 5 ∨ k = 6 ∨ k = 7 ∨ k = 8 ∨ k = 9 := by omega
  rcases hc with rfl | rfl | rfl | rfl | rfl | rfl | rfl | rfl | rfl | rfl <;> (simp only [evIndex, ht]; rfl)
theorem ix_forms {k : Nat} (h : k < 10) : evIndex Tryd.prog 42 (.p (.agg (formsL.map S))) (.p (.int .i64 k)) = some (.p (S (formsL.getD k []))) := by
  have ht : tarr Tryd.prog 42 = some (10, 0) := by decide +kernel
  have hc : k = 0 ∨ k = 1 ∨ k = 2 ∨ k = 3 ∨ k = 4 ∨ k = 5 ∨ k = 6 ∨ k = 7 ∨ k = 8 ∨ k = 9 := by omega
  rcases hc with rfl | rfl | rfl | rfl | rfl | rfl | rfl | rfl | rfl | rfl <;> (simp only [evIndex, ht]; rfl)
theorem ix48 {a b c d : Nat} {q : Nat} (h : q < 4) : evIndex Tryd.prog 48 (.p (.agg [V a, V b, V c, V d])) (.p (.int .i64 q)) = some (.p (V ([a, b, c, d].getD q 0))) := by
  have ht : tarr Tryd.prog 48 = some (4, 0) := by decide +kernel
  have hc : q = 0 ∨ q = 1 ∨ q = 2 ∨ q = 3 := by omega
  rcases hc with rfl | rfl | rfl | rfl <;> (simp only [evIndex, ht]; rfl)
theorem join_le (ws : List (List UInt8)) (c : UInt8) (K : Nat) (h : ∀ w ∈ ws, w.length ≤ K) : (Lib.join ws [c]).length ≤ ws.length * (K + 1) := by
  unfold Lib.join List.intercalate
  induction ws with
  | nil => simp
  | cons w r ih =>
    have hw := h w (by simp)
    have ih := ih fun w hw => h w (by simp [hw])
    cases r with
    | nil => simp; omega
    | cons w' r' =>
      simp only [List.intersperse_cons₂, List.flatten_cons, List.length_append, List.length_cons, List.length_nil] at ih ⊢
      rw [Nat.succ_mul]
      omega
def sL (ws : List (List UInt8)) : List PV := ws.map PV.str
theorem sL_len (ws : List (List UInt8)) : (sL ws).length = ws.length := by simp [sL]
theorem sL_app (a b : List (List UInt8)) : sL (a ++ b) = sL a ++ sL b := by simp [sL]
set_option maxHeartbeats 4000000 in
theorem p8 (o : O) (ho : o.ok) : PS Cf okf 8 [9, 29] [o.pv] (fun r => r = putF o) := by
  refine PS.mk extMono Tryd.func8 body8 (by decide) rfl ?_
  simp only [c8, Tryd.f8, Option.getD_some]
  by_cases h1 : o.kind < 1
  · have : putF o = .tup [S [], I 1] := by unfold putF; rw [if_pos (.inl h1)]
    rw [this]
    simp -implicitDefEqProofs -dsimp (maxSteps := 1000000) (disch := first | omega | (simp only [wkLen]; omega) | decide +kernel) only [↓wkPre, ↓wkPre2, ↓wkE, wkPost, wkDef, wkF, simprocAttr]
  by_cases h9 : 9 < o.kind
  · have : putF o = .tup [S [], I 1] := by unfold putF; rw [if_pos (.inr h9)]
    rw [this]
    simp -implicitDefEqProofs -dsimp (maxSteps := 1000000) (disch := first | omega | (simp only [wkLen]; omega) | decide +kernel) only [↓wkPre, ↓wkPre2, ↓wkE, wkPost, wkDef, wkF, simprocAttr]
  have hp : putF o = if 400 < (lineR o).length then .tup [S [], I 9] else .tup [S (lineR o), I 0] := by unfold putF; rw [if_neg (by omega)]
  rw [hp]
  have hwl := words_line o (by omega) (by omega)
  have hlr : (lineR o).length ≤ 2010 := by
    have := restF_le o ho
    have := verbs_le o.kind.toNat
    unfold lineR; rw [List.length_append]; omega
  have hwo : words o = verbsL.getD o.kind.toNat [] :: (formsL.getD o.kind.toNat []).flatMap (fld o) := rfl
  have iv := ix_verbs (k := o.kind.toNat) (by omega)
  have ifo := ix_forms (k := o.kind.toNat) (by omega)
  rw [show ((o.kind.toNat : Nat) : Int) = o.kind by omega] at iv ifo
  have hfl := forms_len o.kind.toNat
  obtain ⟨VL, hVL⟩ : ∃ VL, VL = verbsL.map S := ⟨_, rfl⟩
  obtain ⟨FL, hFL⟩ : ∃ FL, FL = formsL.map S := ⟨_, rfl⟩
  rw [← hVL] at iv
  rw [← hFL] at ifo
  have hvb := verbs_le o.kind.toNat
  generalize verbsL.getD o.kind.toNat [] = vb at *
  generalize formsL.getD o.kind.toNat [] = f at *
  have hp13 := p13
  have hp14 := p14
  rw [← hVL] at hp13
  rw [← hFL] at hp14
  have fV : flatL VL = true := by rw [hVL]; rfl
  have fF : flatL FL = true := by rw [hFL]; rfl
  clear hVL hFL
  simp -implicitDefEqProofs -dsimp (maxSteps := 1000000) (disch := first | omega | (simp only [wkLen]; omega) | decide +kernel) only [↓wkPre, ↓wkPre2, ↓wkE, wkPost, wkDef, wkF, simprocAttr]
  refine evC_pl pl_8_3 (by kernel_rfl) (by decide +kernel) ?_
  simp only [pl_8_3]
  simp -implicitDefEqProofs -dsimp (maxSteps := 1000000) (disch := first | omega | (simp only [wkLen]; omega) | decide +kernel) only [↓wkPre, ↓wkPre2, ↓wkE, wkPost, wkDef, wkF, simprocAttr]
  refine PS.app md_13 Tryd.func13 hp13 rfl ?_
  rintro _ rfl
  simp -implicitDefEqProofs -dsimp (maxSteps := 1000000) (disch := first | omega | (simp only [wkLen]; omega) | decide +kernel) only [↓wkPre, ↓wkPre2, ↓wkE, wkPost, wkDef, wkF, simprocAttr, iv, fV]
  refine evC_pl pl_8_4 (by kernel_rfl) (by decide +kernel) ?_
  simp only [pl_8_4]
  simp -implicitDefEqProofs -dsimp (maxSteps := 1000000) (disch := first | omega | (simp only [wkLen]; omega) | decide +kernel) only [↓wkPre, ↓wkPre2, ↓wkE, wkPost, wkDef, wkF, simprocAttr]
  refine PS.app md_14 Tryd.func14 hp14 rfl ?_
  rintro _ rfl
  simp -implicitDefEqProofs -dsimp (maxSteps := 1000000) (disch := first | omega | (simp only [wkLen]; omega) | decide +kernel) only [↓wkPre, ↓wkPre2, ↓wkE, wkPost, wkDef, wkF, simprocAttr, ifo, fF]
  have hof := ob_len f
  have ox := ho.x
  have oy := ho.y
  have ow0 := ho.w0
  have ow1 := ho.w1
  have ow2 := ho.w2
  have ow3 := ho.w3
  refine loop_use extMono (fun m e H => ∃ (j : Nat) (v : AV), m = f.length - j ∧ j ≤ f.length ∧ e 1 = .vptr 0 0 ∧ e 4 = v ∧ e 27 = .p (.sl 0 (ofBytes f)) ∧ e 28 = .p (I f.length) ∧ e 29 = .p (I j) ∧
      OwnS H v 0 (sL (vb :: (f.take j).flatMap (fld o))) ∧ H[0]? = some (.var true (.p o.pv)) ∧ v.blk ≠ some 0) ?_ f.length _ _ ⟨0, .ref 1 0 0 1 false, rfl, by omega, ?_⟩
  · rintro m e H ⟨j, v, rfl, hj, e1, e4, e27, e28, e29, hown, h0, hvb0⟩
    have h0l : 0 < H.length := (List.getElem?_eq_some_iff.1 h0).1
    rcases Nat.lt_or_ge j f.length with hlt | hge
    · have gj : (ofBytes f)[j]? = some (.int .u8 f[j].toNat) := by simp [ofBytes, hlt]
      have htk : (f.take (j + 1)).flatMap (fld o) = (f.take j).flatMap (fld o) ++ fld o f[j] := by rw [List.take_succ_eq_append_getElem hlt, List.flatMap_append]; simp
      have hwl4 : ((f.take j).flatMap (fld o)).length ≤ 16 := Nat.le_trans (flds_len o _) (by simp; omega)
      generalize hws : (f.take j).flatMap (fld o) = ws at *
      have hwsl : (vb :: ws).length = ws.length + 1 := rfl
      generalize f[j] = c at *
      have hfd : fld o c = if c.toNat = 107 then [dg o.key] else if c.toNat = 120 then [dg o.x] else if c.toNat = 121 then [dg o.y] else if c.toNat = 118 then [qt o.val]
        else if c.toNat = 110 then [wh o.n] else if c.toNat = 119 then [dg o.w0, dg o.w1, dg o.w2, dg o.w3] else [] := rfl
      by_cases c107 : c.toNat = 107
      · rw [if_pos c107] at hfd
        simp -implicitDefEqProofs -dsimp (maxSteps := 1000000) (disch := first | omega | (simp only [wkLen]; omega) | decide +kernel) only [↓wkPre, ↓wkPre2, ↓wkE, wkPost, wkDef, wkF, simprocAttr, e1, e4, e27, e28, e29, h0, gj, hof, c107]
        refine PS.app md_15 Tryd.func15 (p15 o.key ho.key) rfl ?_
        rintro _ rfl
        simp -implicitDefEqProofs -dsimp (maxSteps := 1000000) (disch := first | omega | (simp only [wkLen]; omega) | decide +kernel) only [↓wkPre, ↓wkPre2, ↓wkE, wkPost, wkDef, wkF, simprocAttr, e1, e4, e27, e28, e29, h0]
        refine append_step telem_37 (elems_new rfl rfl) (by simp) (hown.app _) ?_ ?_
        · rw [byt_9, sL_len, hwsl]; simp; omega
        intro w' H' hown' hfr hle hb'
        simp -implicitDefEqProofs -dsimp (maxSteps := 1000000) (disch := first | omega | (simp only [wkLen]; omega) | decide +kernel) only [↓wkPre, ↓wkPre2, ↓wkE, wkPost, wkDef, wkF, simprocAttr, e1, e4, e27, e28, e29]
        refine ⟨f.length - (j + 1), by omega, j + 1, w', rfl, by omega, rfl, by push_cast; rfl, ?_, ?_, ?_⟩
        · rw [htk, hfd, ← List.cons_append, sL_app]; exact hown'
        · rw [hfr 0 (by simp) hvb0, hs_app h0l]; exact h0
        · intro h; exact hvb0 (hb' 0 h (by simp))
      rw [if_neg c107] at hfd
      by_cases c120 : c.toNat = 120
      · rw [if_pos c120] at hfd
        simp -implicitDefEqProofs -dsimp (maxSteps := 1000000) (disch := first | omega | (simp only [wkLen]; omega) | decide +kernel) only [↓wkPre, ↓wkPre2, ↓wkE, wkPost, wkDef, wkF, simprocAttr, e1, e4, e27, e28, e29, h0, gj, hof, c120]
        refine PS.app md_15 Tryd.func15 (p15 o.x (by have := ho.x; omega)) rfl ?_
        rintro _ rfl
        simp -implicitDefEqProofs -dsimp (maxSteps := 1000000) (disch := first | omega | (simp only [wkLen]; omega) | decide +kernel) only [↓wkPre, ↓wkPre2, ↓wkE, wkPost, wkDef, wkF, simprocAttr, e1, e4, e27, e28, e29, h0]
        refine append_step telem_37 (elems_new rfl rfl) (by simp) (hown.app _) ?_ ?_
        · rw [byt_9, sL_len, hwsl]; simp; omega
        intro w' H' hown' hfr hle hb'
        simp -implicitDefEqProofs -dsimp (maxSteps := 1000000) (disch := first | omega | (simp only [wkLen]; omega) | decide +kernel) only [↓wkPre, ↓wkPre2, ↓wkE, wkPost, wkDef, wkF, simprocAttr, e1, e4, e27, e28, e29]
        refine ⟨f.length - (j + 1), by omega, j + 1, w', rfl, by omega, rfl, by push_cast; rfl, ?_, ?_, ?_⟩
        · rw [htk, hfd, ← List.cons_append, sL_app]; exact hown'
        · rw [hfr 0 (by simp) hvb0, hs_app h0l]; exact h0
        · intro h; exact hvb0 (hb' 0 h (by simp))
      rw [if_neg c120] at hfd
      by_cases c121 : c.toNat = 121
      · rw [if_pos c121] at hfd
        simp -implicitDefEqProofs -dsimp (maxSteps := 1000000) (disch := first | omega | (simp only [wkLen]; omega) | decide +kernel) only [↓wkPre, ↓wkPre2, ↓wkE, wkPost, wkDef, wkF, simprocAttr, e1, e4, e27, e28, e29, h0, gj, hof, c121]
        refine PS.app md_15 Tryd.func15 (p15 o.y (by have := ho.y; omega)) rfl ?_
        rintro _ rfl
        simp -implicitDefEqProofs -dsimp (maxSteps := 1000000) (disch := first | omega | (simp only [wkLen]; omega) | decide +kernel) only [↓wkPre, ↓wkPre2, ↓wkE, wkPost, wkDef, wkF, simprocAttr, e1, e4, e27, e28, e29, h0]
        refine append_step telem_37 (elems_new rfl rfl) (by simp) (hown.app _) ?_ ?_
        · rw [byt_9, sL_len, hwsl]; simp; omega
        intro w' H' hown' hfr hle hb'
        simp -implicitDefEqProofs -dsimp (maxSteps := 1000000) (disch := first | omega | (simp only [wkLen]; omega) | decide +kernel) only [↓wkPre, ↓wkPre2, ↓wkE, wkPost, wkDef, wkF, simprocAttr, e1, e4, e27, e28, e29]
        refine ⟨f.length - (j + 1), by omega, j + 1, w', rfl, by omega, rfl, by push_cast; rfl, ?_, ?_, ?_⟩
        · rw [htk, hfd, ← List.cons_append, sL_app]; exact hown'
        · rw [hfr 0 (by simp) hvb0, hs_app h0l]; exact h0
        · intro h; exact hvb0 (hb' 0 h (by simp))
      rw [if_neg c121] at hfd
      by_cases c118 : c.toNat = 118
      · rw [if_pos c118] at hfd
        simp -implicitDefEqProofs -dsimp (maxSteps := 1000000) (disch := first | omega | (simp only [wkLen]; omega) | decide +kernel) only [↓wkPre, ↓wkPre2, ↓wkE, wkPost, wkDef, wkF, simprocAttr, e1, e4, e27, e28, e29, h0, gj, hof, c118]
        refine PS.app md_16 Tryd.func16 (p16 o.val (by have := ho.val; omega)) rfl ?_
        rintro _ rfl
        simp -implicitDefEqProofs -dsimp (maxSteps := 1000000) (disch := first | omega | (simp only [wkLen]; omega) | decide +kernel) only [↓wkPre, ↓wkPre2, ↓wkE, wkPost, wkDef, wkF, simprocAttr, e1, e4, e27, e28, e29, h0]
        refine append_step telem_37 (elems_new rfl rfl) (by simp) (hown.app _) ?_ ?_
        · rw [byt_9, sL_len, hwsl]; simp; omega
        intro w' H' hown' hfr hle hb'
        simp -implicitDefEqProofs -dsimp (maxSteps := 1000000) (disch := first | omega | (simp only [wkLen]; omega) | decide +kernel) only [↓wkPre, ↓wkPre2, ↓wkE, wkPost, wkDef, wkF, simprocAttr, e1, e4, e27, e28, e29]
        refine ⟨f.length - (j + 1), by omega, j + 1, w', rfl, by omega, rfl, by push_cast; rfl, ?_, ?_, ?_⟩
        · rw [htk, hfd, ← List.cons_append, sL_app]; exact hown'
        · rw [hfr 0 (by simp) hvb0, hs_app h0l]; exact h0
        · intro h; exact hvb0 (hb' 0 h (by simp))
      rw [if_neg c118] at hfd
      by_cases c110 : c.toNat = 110
      · rw [if_pos c110] at hfd
        simp -implicitDefEqProofs -dsimp (maxSteps := 1000000) (disch := first | omega | (simp only [wkLen]; omega) | decide +kernel) only [↓wkPre, ↓wkPre2, ↓wkE, wkPost, wkDef, wkF, simprocAttr, e1, e4, e27, e28, e29, h0, gj, hof, c110]
        refine PS.app md_17 Tryd.func17 (p17 o.n ho.n) rfl ?_
        rintro _ rfl
        rw [show (if o.n < 0 then 45 :: dg o.n.natAbs else dg o.n.natAbs) = wh o.n from rfl]
        simp -implicitDefEqProofs -dsimp (maxSteps := 1000000) (disch := first | omega | (simp only [wkLen]; omega) | decide +kernel) only [↓wkPre, ↓wkPre2, ↓wkE, wkPost, wkDef, wkF, simprocAttr, e1, e4, e27, e28, e29, h0]
        refine append_step telem_37 (elems_new rfl rfl) (by simp) (hown.app _) ?_ ?_
        · rw [byt_9, sL_len, hwsl]; simp; omega
        intro w' H' hown' hfr hle hb'
        simp -implicitDefEqProofs -dsimp (maxSteps := 1000000) (disch := first | omega | (simp only [wkLen]; omega) | decide +kernel) only [↓wkPre, ↓wkPre2, ↓wkE, wkPost, wkDef, wkF, simprocAttr, e1, e4, e27, e28, e29]
        refine ⟨f.length - (j + 1), by omega, j + 1, w', rfl, by omega, rfl, by push_cast; rfl, ?_, ?_, ?_⟩
        · rw [htk, hfd, ← List.cons_append, sL_app]; exact hown'
        · rw [hfr 0 (by simp) hvb0, hs_app h0l]; exact h0
        · intro h; exact hvb0 (hb' 0 h (by simp))
      rw [if_neg c110] at hfd
      by_cases c119 : c.toNat = 119
      · rw [if_pos c119] at hfd
        simp -implicitDefEqProofs -dsimp (maxSteps := 1000000) (disch := first | omega | (simp only [wkLen]; omega) | decide +kernel) only [↓wkPre, ↓wkPre2, ↓wkE, wkPost, wkDef, wkF, simprocAttr, e1, e4, e27, e28, e29, h0, gj, hof, c119]
        refine loop_use extMono (fun m e' H' => ∃ (q : Nat) (v' : AV), m = 4 - q ∧ q ≤ 4 ∧ e' 1 = .vptr 0 0 ∧ e' 4 = v' ∧ e' 27 = .p (.sl 0 (ofBytes f)) ∧ e' 28 = .p (I f.length) ∧ e' 29 = .p (I j) ∧ e' 90 = .p (.agg [V o.w0, V o.w1, V o.w2, V o.w3]) ∧ e' 91 = .p (I q) ∧
          OwnS H' v' 0 (sL (vb :: (ws ++ [dg o.w0, dg o.w1, dg o.w2, dg o.w3].take q))) ∧ H'[0]? = some (.var true (.p o.pv)) ∧ v'.blk ≠ some 0) ?_ 4 _ _ ⟨0, v, rfl, by omega, ?_⟩
        · rintro m e' H' ⟨q, v', rfl, hq, e1', e4', e27', e28', e29', e90', e91', hown', h0', hvb0'⟩
          have h0l' : 0 < H'.length := (List.getElem?_eq_some_iff.1 h0').1
          rcases Nat.lt_or_ge q 4 with hq4 | hq4
          · have hix := ix48 (a := o.w0) (b := o.w1) (c := o.w2) (d := o.w3) hq4
            have hqt : [dg o.w0, dg o.w1, dg o.w2, dg o.w3].take (q + 1) = [dg o.w0, dg o.w1, dg o.w2, dg o.w3].take q ++ [dg ([o.w0, o.w1, o.w2, o.w3].getD q 0)] := by
              have hc : q = 0 ∨ q = 1 ∨ q = 2 ∨ q = 3 := by omega
              rcases hc with rfl | rfl | rfl | rfl <;> rfl
            have hqb : [o.w0, o.w1, o.w2, o.w3].getD q 0 < 4294967296 := by
              have hc : q = 0 ∨ q = 1 ∨ q = 2 ∨ q = 3 := by omega
              rcases hc with rfl | rfl | rfl | rfl
              · exact ow0
              · exact ow1
              · exact ow2
              · exact ow3
            generalize [o.w0, o.w1, o.w2, o.w3].getD q 0 = wq at *
            obtain ⟨WV, hWV⟩ : ∃ WV, WV = PV.agg [V o.w0, V o.w1, V o.w2, V o.w3] := ⟨_, rfl⟩
            rw [← hWV] at hix e90'
            have htl : ([dg o.w0, dg o.w1, dg o.w2, dg o.w3].take q).length ≤ 4 := by simp; omega
            generalize [dg o.w0, dg o.w1, dg o.w2, dg o.w3].take q = wt at *
            simp -implicitDefEqProofs -dsimp (maxSteps := 1000000) (disch := first | omega | (simp only [wkLen]; omega) | decide +kernel) only [↓wkPre, ↓wkPre2, ↓wkE, wkPost, wkDef, wkF, simprocAttr, e1', e4', e27', e28', e29', e90', e91', h0', hix]
            refine PS.app md_15 Tryd.func15 (p15 wq (by omega)) rfl ?_
            rintro _ rfl
            simp -implicitDefEqProofs -dsimp (maxSteps := 1000000) (disch := first | omega | (simp only [wkLen]; omega) | decide +kernel) only [↓wkPre, ↓wkPre2, ↓wkE, wkPost, wkDef, wkF, simprocAttr, e1', e4', e27', e28', e29', e90', e91', h0']
            refine append_step telem_37 (elems_new rfl rfl) (by simp) (hown'.app _) ?_ ?_
            · rw [byt_9, sL_len]; simp; omega
            intro w' H'' hown'' hfr hle hb'
            simp -implicitDefEqProofs -dsimp (maxSteps := 1000000) (disch := first | omega | (simp only [wkLen]; omega) | decide +kernel) only [↓wkPre, ↓wkPre2, ↓wkE, wkPost, wkDef, wkF, simprocAttr, e1', e4', e27', e28', e29', e90', e91']
            refine ⟨4 - (q + 1), by omega, q + 1, w', rfl, by omega, rfl, by rw [hWV], by push_cast; rfl, ?_, ?_, ?_⟩
            · rw [hqt, ← List.append_assoc, ← List.cons_append, sL_app]; exact hown''
            · rw [hfr 0 (by simp) hvb0', hs_app h0l']; exact h0'
            · intro h; exact hvb0' (hb' 0 h (by simp))
          · obtain rfl : q = 4 := by omega
            simp -implicitDefEqProofs -dsimp (maxSteps := 1000000) (disch := first | omega | (simp only [wkLen]; omega) | decide +kernel) only [↓wkPre, ↓wkPre2, ↓wkE, wkPost, wkDef, wkF, simprocAttr, e1', e4', e27', e28', e29', e90', e91', h0']
            refine ⟨f.length - (j + 1), by omega, j + 1, v', rfl, by omega, rfl, by push_cast; rfl, ?_, hvb0'⟩
            rw [htk, hfd]; exact hown'
        · simp -implicitDefEqProofs -dsimp (maxSteps := 1000000) (disch := first | omega | (simp only [wkLen]; omega) | decide +kernel) only [↓wkPre, ↓wkPre2, ↓wkE, wkPost, wkDef, wkF, simprocAttr, e1, e4, e27, e28, e29, h0]
          exact ⟨hown, hvb0⟩
      · rw [if_neg c119] at hfd
        simp -implicitDefEqProofs -dsimp (maxSteps := 1000000) (disch := first | omega | (simp only [wkLen]; omega) | decide +kernel) only [↓wkPre, ↓wkPre2, ↓wkE, wkPost, wkDef, wkF, simprocAttr, e1, e4, e27, e28, e29, h0, gj, hof, c107, c120, c121, c118, c110, c119]
        refine ⟨f.length - (j + 1), by omega, j + 1, v, rfl, by omega, rfl, by push_cast; rfl, ?_, hvb0⟩
        rw [htk, hfd, List.append_nil]; exact hown
    · rw [List.take_of_length_le hge] at hown
      have hwn : (words o).length ≤ 17 := by
        have := flds_len o f
        rw [hwo, List.length_cons]; omega
      have hwb : ∀ w ∈ words o, w.length ≤ 2000 := by
        rw [hwo]
        intro w hw
        rcases List.mem_cons.1 hw with rfl | hw
        · omega
        · obtain ⟨c, _, hc⟩ := List.mem_flatMap.1 hw
          exact fld_le o ho c w hc
      have hjl := join_le (words o) 32 2000 hwb
      rw [← hwo] at hown
      have hwne : words o ≠ [] := by rw [hwo]; simp
      rcases hown with ⟨rfl, hx0⟩ | ⟨b, g, rfl, hb⟩
      · exact absurd hx0 (by rw [hwo]; simp [sL])
      · rw [sL_len] at e4
        simp -implicitDefEqProofs -dsimp (maxSteps := 1000000) (disch := first | omega | (simp only [wkLen]; omega) | decide +kernel) only [↓wkPre, ↓wkPre2, ↓wkE, wkPost, wkDef, wkF, simprocAttr, e1, e4, e27, e28, e29, h0]
        refine ext_call md_18 ⟨b, g, false, words o, [32], hb, hwne, by omega, by rw [hwl]; omega, rfl, ?_⟩
        rw [hwl]
        by_cases hs : 400 < (lineR o).length
        · simp -implicitDefEqProofs -dsimp (maxSteps := 1000000) (disch := first | omega | (simp only [wkLen]; omega) | decide +kernel) only [↓wkPre, ↓wkPre2, ↓wkE, wkPost, wkDef, wkF, simprocAttr]
        · simp -implicitDefEqProofs -dsimp (maxSteps := 1000000) (disch := first | omega | (simp only [wkLen]; omega) | decide +kernel) only [↓wkPre, ↓wkPre2, ↓wkE, wkPost, wkDef, wkF, simprocAttr]
  · simp -implicitDefEqProofs -dsimp (maxSteps := 1000000) (disch := first | omega | (simp only [wkLen]; omega) | decide +kernel) only [↓wkPre, ↓wkPre2, ↓wkE, wkPost, wkDef, wkF, simprocAttr, hof]
    exact ⟨.inr ⟨1, 0, rfl, rfl⟩, by simp [AV.blk]⟩
end Go.Ev.F32
end
section
namespace Go.Ev.F32
open Go.Proofs Go.Ev
set_option maxRecDepth 100000
set_option linter.all false
/-- A field read from words, and how many it took. -/
def setF (o : O) (c : UInt8) (l : List (List UInt8)) : Option (O × Nat) :=
  match l with
  | [] => none
  | w :: r =>
    if c.toNat = 107 then (num 18446744073709551615 w).map fun n => ({ o with key := n }, 1)
    else if c.toNat = 120 then (num 4294967295 w).map fun n => ({ o with x := n }, 1)
    else if c.toNat = 121 then (num 4294967295 w).map fun n => ({ o with y := n }, 1)
    else if c.toNat = 118 then (uq w).map fun v => ({ o with val := v }, 1)
    else if c.toNat = 110 then (wnum w).map fun n => ({ o with n := n }, 1)
    else if c.toNat = 119 then match r with
      | w1 :: w2 :: w3 :: _ => (num 4294967295 w).bind fun a0 => (num 4294967295 w1).bind fun a1 => (num 4294967295 w2).bind fun a2 => (num 4294967295 w3).map fun a3 => ({ o with w0 := a0, w1 := a1, w2 := a2, w3 := a3 }, 4)
      | _ => none
    else some (o, 1)
theorem w31s {s : List UInt8} {b off n : Nat} {cs : List PV} {H : Heap} (hn : num 4294967295 s = some n) (hb : H[b]? = some (.var true (.p (.agg cs)))) (ho : off < cs.length) (h2 : 2 ≤ cs.length) (Q : AV → Heap → Prop)
    (hq : Q (.p (B true)) (H.set b (.var true (.p (.agg (cs.set off (V n))))))) : (W Cf okf).call 31 [.p (S s), .vptr b off] H Q := by
  refine w31 s b off cs H hb ho h2 Q ?_
  rw [hn]; exact hq
theorem w31n {s : List UInt8} {b off : Nat} {cs : List PV} {H : Heap} (hn : num 4294967295 s = none) (hb : H[b]? = some (.var true (.p (.agg cs)))) (ho : off < cs.length) (h2 : 2 ≤ cs.length) (Q : AV → Heap → Prop)
    (hq : Q (.p (B false)) (H.set b (.var true (.p (.agg (cs.set off (V 0))))))) : (W Cf okf).call 31 [.p (S s), .vptr b off] H Q := by
  refine w31 s b off cs H hb ho h2 Q ?_
  rw [hn]; exact hq
theorem p32n {s : List UInt8} (h : s.length ≤ 1000000) (hn : uq s = none) : PS Cf okf 32 [9, 4] [S s] (fun r => r = .tup [S [], B false]) := by
  have := p32 s h
  rw [hn] at this
  exact this
theorem p32s {s v : List UInt8} (h : s.length ≤ 1000000) (hn : uq s = some v) : PS Cf okf 32 [9, 4] [S s] (fun r => r = .tup [S v, B true]) := by
  have := p32 s h
  rw [hn] at this
  exact this
theorem p33n {s : List UInt8} (hn : wnum s = none) : PS Cf okf 33 [3, 4] [S s] (fun r => r = .tup [I 0, B false]) := by
  have := p33 s
  rw [hn] at this
  exact this
theorem p33s {s : List UInt8} {v : Int} (hn : wnum s = some v) : PS Cf okf 33 [3, 4] [S s] (fun r => r = .tup [I v, B true]) := by
  have := p33 s
  rw [hn] at this
  exact this
set_option maxHeartbeats 4000000 in
theorem w21 (o : O) (c : UInt8) (l : List (List UInt8)) (b : Nat) (H : Heap) (hb : H[b]? = some (.var true (.p o.pv))) (hl : ∀ w ∈ l, w.length ≤ 1000000) (hll : l.length ≤ 1000000) (Q : AV → Heap → Prop)
    (hq : ∀ (o' : O) (r : Nat), (setF o c l = some (o', r) ∨ (setF o c l = none ∧ r = 0)) → Q (.p (I r)) (H.set b (.var true (.p o'.pv)))) : (W Cf okf).call 21 [.vptr b 0, .p (.int .u8 c.toNat), .p (.sl 0 (sL l))] H Q := by
  refine top_mk extMono Tryd.func21 body21 (by decide) rfl ?_
  simp only [c21, Tryd.f21, Option.getD_some]
  have hbl : b < H.length := (List.getElem?_eq_some_iff.1 hb).1
  have hsame : H.set b (.var true (.p o.pv)) = H := by
    apply List.ext_getElem?
    intro i
    rw [List.getElem?_set]
    split
    · subst_vars; exact hb.symm
    · rfl
  obtain ⟨kind, key, x, y, val, w0, w1, w2, w3, n⟩ := o
  cases l with
  | nil =>
    have := hq ⟨kind, key, x, y, val, w0, w1, w2, w3, n⟩ 0 (.inr ⟨rfl, rfl⟩)
    rw [hsame] at this
    by_cases c119 : c.toNat = 119
    · simp -implicitDefEqProofs -dsimp (maxSteps := 1000000) (disch := first | omega | (simp only [wkLen]; omega) | decide +kernel) only [↓wkPre, ↓wkPre2, ↓wkE, wkPost, wkDef, wkF, simprocAttr, c119, sL]
      exact this
    · simp -implicitDefEqProofs -dsimp (maxSteps := 1000000) (disch := first | omega | (simp only [wkLen]; omega) | decide +kernel) only [↓wkPre, ↓wkPre2, ↓wkE, wkPost, wkDef, wkF, simprocAttr, c119, sL]
      exact this
  | cons w r =>
    have hwl := hl w (by simp)
    have g0 : (sL (w :: r))[0]? = some (S w) := rfl
    have gl : (sL (w :: r)).length = r.length + 1 := by simp [sL]
    simp only [List.length_cons] at hll
    generalize hsl : sL (w :: r) = sl at *
    by_cases c107 : c.toNat = 107
    · cases hn : num 18446744073709551615 w with
      | none =>
        have hs : setF ⟨kind, key, x, y, val, w0, w1, w2, w3, n⟩ c (w :: r) = none := by simp [setF, c107, hn]
        simp -implicitDefEqProofs -dsimp (maxSteps := 1000000) (disch := first | omega | (simp only [wkLen]; omega) | decide +kernel) only [↓wkPre, ↓wkPre2, ↓wkE, wkPost, wkDef, wkF, simprocAttr, c107, gl, g0]
        refine PS.app md_30 Tryd.func30 (p30n (by omega) (by omega) hn) rfl ?_
        rintro _ rfl
        simp -implicitDefEqProofs -dsimp (maxSteps := 1000000) (disch := first | omega | (simp only [wkLen]; omega) | decide +kernel) only [↓wkPre, ↓wkPre2, ↓wkE, wkPost, wkDef, wkF, simprocAttr, c107, gl, g0, nonNil, hb]
        exact hq ⟨kind, 0, x, y, val, w0, w1, w2, w3, n⟩ 0 (.inr ⟨hs, rfl⟩)
      | some m =>
        have hs : setF ⟨kind, key, x, y, val, w0, w1, w2, w3, n⟩ c (w :: r) = some (⟨kind, m, x, y, val, w0, w1, w2, w3, n⟩, 1) := by simp [setF, c107, hn]
        simp -implicitDefEqProofs -dsimp (maxSteps := 1000000) (disch := first | omega | (simp only [wkLen]; omega) | decide +kernel) only [↓wkPre, ↓wkPre2, ↓wkE, wkPost, wkDef, wkF, simprocAttr, c107, gl, g0]
        refine PS.app md_30 Tryd.func30 (p30s (by omega) (by omega) hn) rfl ?_
        rintro _ rfl
        simp -implicitDefEqProofs -dsimp (maxSteps := 1000000) (disch := first | omega | (simp only [wkLen]; omega) | decide +kernel) only [↓wkPre, ↓wkPre2, ↓wkE, wkPost, wkDef, wkF, simprocAttr, c107, gl, g0, nonNil, hb]
        exact hq ⟨kind, m, x, y, val, w0, w1, w2, w3, n⟩ 1 (.inl hs)
    by_cases c120 : c.toNat = 120
    · cases hn : num 4294967295 w with
      | none =>
        have hs : setF ⟨kind, key, x, y, val, w0, w1, w2, w3, n⟩ c (w :: r) = none := by simp [setF, c107, c120, hn]
        simp -implicitDefEqProofs -dsimp (maxSteps := 1000000) (disch := first | omega | (simp only [wkLen]; omega) | decide +kernel) only [↓wkPre, ↓wkPre2, ↓wkE, wkPost, wkDef, wkF, simprocAttr, c107, c120, gl, g0, nonNil, hb]
        refine imp_call md_31 (w31n hn hb (by simp) (by simp) _ ?_)
        simp -implicitDefEqProofs -dsimp (maxSteps := 1000000) (disch := first | omega | (simp only [wkLen]; omega) | decide +kernel) only [↓wkPre, ↓wkPre2, ↓wkE, wkPost, wkDef, wkF, simprocAttr, c107, c120]
        exact hq ⟨kind, key, 0, y, val, w0, w1, w2, w3, n⟩ 0 (.inr ⟨hs, rfl⟩)
      | some m =>
        have hs : setF ⟨kind, key, x, y, val, w0, w1, w2, w3, n⟩ c (w :: r) = some (⟨kind, key, m, y, val, w0, w1, w2, w3, n⟩, 1) := by simp [setF, c107, c120, hn]
        simp -implicitDefEqProofs -dsimp (maxSteps := 1000000) (disch := first | omega | (simp only [wkLen]; omega) | decide +kernel) only [↓wkPre, ↓wkPre2, ↓wkE, wkPost, wkDef, wkF, simprocAttr, c107, c120, gl, g0, nonNil, hb]
        refine imp_call md_31 (w31s hn hb (by simp) (by simp) _ ?_)
        simp -implicitDefEqProofs -dsimp (maxSteps := 1000000) (disch := first | omega | (simp only [wkLen]; omega) | decide +kernel) only [↓wkPre, ↓wkPre2, ↓wkE, wkPost, wkDef, wkF, simprocAttr, c107, c120]
        exact hq ⟨kind, key, m, y, val, w0, w1, w2, w3, n⟩ 1 (.inl hs)
    by_cases c121 : c.toNat = 121
    · cases hn : num 4294967295 w with
      | none =>
        have hs : setF ⟨kind, key, x, y, val, w0, w1, w2, w3, n⟩ c (w :: r) = none := by simp [setF, c107, c120, c121, hn]
        simp -implicitDefEqProofs -dsimp (maxSteps := 1000000) (disch := first | omega | (simp only [wkLen]; omega) | decide +kernel) only [↓wkPre, ↓wkPre2, ↓wkE, wkPost, wkDef, wkF, simprocAttr, c107, c120, c121, gl, g0, nonNil, hb]
        refine imp_call md_31 (w31n hn hb (by simp) (by simp) _ ?_)
        simp -implicitDefEqProofs -dsimp (maxSteps := 1000000) (disch := first | omega | (simp only [wkLen]; omega) | decide +kernel) only [↓wkPre, ↓wkPre2, ↓wkE, wkPost, wkDef, wkF, simprocAttr, c107, c120, c121]
        exact hq ⟨kind, key, x, 0, val, w0, w1, w2, w3, n⟩ 0 (.inr ⟨hs, rfl⟩)
      | some m =>
        have hs : setF ⟨kind, key, x, y, val, w0, w1, w2, w3, n⟩ c (w :: r) = some (⟨kind, key, x, m, val, w0, w1, w2, w3, n⟩, 1) := by simp [setF, c107, c120, c121, hn]
        simp -implicitDefEqProofs -dsimp (maxSteps := 1000000) (disch := first | omega | (simp only [wkLen]; omega) | decide +kernel) only [↓wkPre, ↓wkPre2, ↓wkE, wkPost, wkDef, wkF, simprocAttr, c107, c120, c121, gl, g0, nonNil, hb]
        refine imp_call md_31 (w31s hn hb (by simp) (by simp) _ ?_)
        simp -implicitDefEqProofs -dsimp (maxSteps := 1000000) (disch := first | omega | (simp only [wkLen]; omega) | decide +kernel) only [↓wkPre, ↓wkPre2, ↓wkE, wkPost, wkDef, wkF, simprocAttr, c107, c120, c121]
        exact hq ⟨kind, key, x, m, val, w0, w1, w2, w3, n⟩ 1 (.inl hs)
    by_cases c118 : c.toNat = 118
    · cases hn : uq w with
      | none =>
        have hs : setF ⟨kind, key, x, y, val, w0, w1, w2, w3, n⟩ c (w :: r) = none := by simp [setF, c107, c120, c121, c118, hn]
        simp -implicitDefEqProofs -dsimp (maxSteps := 1000000) (disch := first | omega | (simp only [wkLen]; omega) | decide +kernel) only [↓wkPre, ↓wkPre2, ↓wkE, wkPost, wkDef, wkF, simprocAttr, c107, c120, c121, c118, gl, g0]
        refine PS.app md_32 Tryd.func32 (p32n hwl hn) rfl ?_
        rintro _ rfl
        simp -implicitDefEqProofs -dsimp (maxSteps := 1000000) (disch := first | omega | (simp only [wkLen]; omega) | decide +kernel) only [↓wkPre, ↓wkPre2, ↓wkE, wkPost, wkDef, wkF, simprocAttr, c107, c120, c121, c118, gl, g0, nonNil, hb]
        exact hq ⟨kind, key, x, y, [], w0, w1, w2, w3, n⟩ 0 (.inr ⟨hs, rfl⟩)
      | some m =>
        have hs : setF ⟨kind, key, x, y, val, w0, w1, w2, w3, n⟩ c (w :: r) = some (⟨kind, key, x, y, m, w0, w1, w2, w3, n⟩, 1) := by simp [setF, c107, c120, c121, c118, hn]
        simp -implicitDefEqProofs -dsimp (maxSteps := 1000000) (disch := first | omega | (simp only [wkLen]; omega) | decide +kernel) only [↓wkPre, ↓wkPre2, ↓wkE, wkPost, wkDef, wkF, simprocAttr, c107, c120, c121, c118, gl, g0]
        refine PS.app md_32 Tryd.func32 (p32s hwl hn) rfl ?_
        rintro _ rfl
        simp -implicitDefEqProofs -dsimp (maxSteps := 1000000) (disch := first | omega | (simp only [wkLen]; omega) | decide +kernel) only [↓wkPre, ↓wkPre2, ↓wkE, wkPost, wkDef, wkF, simprocAttr, c107, c120, c121, c118, gl, g0, nonNil, hb]
        exact hq ⟨kind, key, x, y, m, w0, w1, w2, w3, n⟩ 1 (.inl hs)
    by_cases c110 : c.toNat = 110
    · cases hn : wnum w with
      | none =>
        have hs : setF ⟨kind, key, x, y, val, w0, w1, w2, w3, n⟩ c (w :: r) = none := by simp [setF, c107, c120, c121, c118, c110, hn]
        simp -implicitDefEqProofs -dsimp (maxSteps := 1000000) (disch := first | omega | (simp only [wkLen]; omega) | decide +kernel) only [↓wkPre, ↓wkPre2, ↓wkE, wkPost, wkDef, wkF, simprocAttr, c107, c120, c121, c118, c110, gl, g0]
        refine PS.app md_33 Tryd.func33 (p33n hn) rfl ?_
        rintro _ rfl
        simp -implicitDefEqProofs -dsimp (maxSteps := 1000000) (disch := first | omega | (simp only [wkLen]; omega) | decide +kernel) only [↓wkPre, ↓wkPre2, ↓wkE, wkPost, wkDef, wkF, simprocAttr, c107, c120, c121, c118, c110, gl, g0, nonNil, hb]
        exact hq ⟨kind, key, x, y, val, w0, w1, w2, w3, 0⟩ 0 (.inr ⟨hs, rfl⟩)
      | some m =>
        have hs : setF ⟨kind, key, x, y, val, w0, w1, w2, w3, n⟩ c (w :: r) = some (⟨kind, key, x, y, val, w0, w1, w2, w3, m⟩, 1) := by simp [setF, c107, c120, c121, c118, c110, hn]
        simp -implicitDefEqProofs -dsimp (maxSteps := 1000000) (disch := first | omega | (simp only [wkLen]; omega) | decide +kernel) only [↓wkPre, ↓wkPre2, ↓wkE, wkPost, wkDef, wkF, simprocAttr, c107, c120, c121, c118, c110, gl, g0]
        refine PS.app md_33 Tryd.func33 (p33s hn) rfl ?_
        rintro _ rfl
        simp -implicitDefEqProofs -dsimp (maxSteps := 1000000) (disch := first | omega | (simp only [wkLen]; omega) | decide +kernel) only [↓wkPre, ↓wkPre2, ↓wkE, wkPost, wkDef, wkF, simprocAttr, c107, c120, c121, c118, c110, gl, g0, nonNil, hb]
        exact hq ⟨kind, key, x, y, val, w0, w1, w2, w3, m⟩ 1 (.inl hs)
    by_cases c119 : c.toNat = 119
    · have hd : (∃ u1 u2 u3 r3, r = u1 :: u2 :: u3 :: r3) ∨ r.length < 3 := by
        match r with
        | u1 :: u2 :: u3 :: r3 => exact .inl ⟨u1, u2, u3, r3, rfl⟩
        | [] => exact .inr (by simp)
        | [_] => exact .inr (by simp)
        | [_, _] => exact .inr (by simp)
      rcases hd with ⟨u1, u2, u3, r3, rfl⟩ | hshort
      · have g1 : sl[1]? = some (S u1) := by rw [← hsl]; rfl
        have g2 : sl[2]? = some (S u2) := by rw [← hsl]; rfl
        have g3 : sl[3]? = some (S u3) := by rw [← hsl]; rfl
        simp only [List.length_cons] at gl hll
        have kset : ∀ X : Blk, (H.set b X)[b]? = some X := fun X => hs_set hbl
        cases hn0 : num 4294967295 w with
        | none =>
          have hs : setF ⟨kind, key, x, y, val, w0, w1, w2, w3, n⟩ c (w :: u1 :: u2 :: u3 :: r3) = none := by simp [setF, c107, c120, c121, c118, c110, c119, hn0]
          simp -implicitDefEqProofs -dsimp (maxSteps := 1000000) (disch := first | omega | (simp only [wkLen]; omega) | decide +kernel) only [↓wkPre, ↓wkPre2, ↓wkE, wkPost, wkDef, wkF, simprocAttr, c119, gl, g0, g1, g2, g3, nonNil, hb, kset, List.set_set]
          refine imp_call md_31 (w31n hn0 hb (by simp) (by simp) _ ?_)
          simp -implicitDefEqProofs -dsimp (maxSteps := 1000000) (disch := first | omega | (simp only [wkLen]; omega) | decide +kernel) only [↓wkPre, ↓wkPre2, ↓wkE, wkPost, wkDef, wkF, simprocAttr, c119, gl, g0, g1, g2, g3, nonNil, hb, kset, List.set_set]
          exact hq ⟨kind, key, x, y, val, 0, w1, w2, w3, n⟩ 0 (.inr ⟨hs, rfl⟩)
        | some m0 =>
          simp -implicitDefEqProofs -dsimp (maxSteps := 1000000) (disch := first | omega | (simp only [wkLen]; omega) | decide +kernel) only [↓wkPre, ↓wkPre2, ↓wkE, wkPost, wkDef, wkF, simprocAttr, c119, gl, g0, g1, g2, g3, nonNil, hb, kset, List.set_set]
          refine imp_call md_31 (w31s hn0 hb (by simp) (by simp) _ ?_)
          simp -implicitDefEqProofs -dsimp (maxSteps := 1000000) (disch := first | omega | (simp only [wkLen]; omega) | decide +kernel) only [↓wkPre, ↓wkPre2, ↓wkE, wkPost, wkDef, wkF, simprocAttr, c119, gl, g0, g1, g2, g3, nonNil, hb, kset, List.set_set]
          cases hn1 : num 4294967295 u1 with
          | none =>
            have hs : setF ⟨kind, key, x, y, val, w0, w1, w2, w3, n⟩ c (w :: u1 :: u2 :: u3 :: r3) = none := by simp [setF, c107, c120, c121, c118, c110, c119, hn0, hn1]
            refine imp_call md_31 (w31n hn1 (kset _) (by simp) (by simp) _ ?_)
            simp -implicitDefEqProofs -dsimp (maxSteps := 1000000) (disch := first | omega | (simp only [wkLen]; omega) | decide +kernel) only [↓wkPre, ↓wkPre2, ↓wkE, wkPost, wkDef, wkF, simprocAttr, c119, gl, g0, g1, g2, g3, nonNil, hb, kset, List.set_set]
            exact hq ⟨kind, key, x, y, val, m0, 0, w2, w3, n⟩ 0 (.inr ⟨hs, rfl⟩)
          | some m1 =>
            refine imp_call md_31 (w31s hn1 (kset _) (by simp) (by simp) _ ?_)
            simp -implicitDefEqProofs -dsimp (maxSteps := 1000000) (disch := first | omega | (simp only [wkLen]; omega) | decide +kernel) only [↓wkPre, ↓wkPre2, ↓wkE, wkPost, wkDef, wkF, simprocAttr, c119, gl, g0, g1, g2, g3, nonNil, hb, kset, List.set_set]
            cases hn2 : num 4294967295 u2 with
            | none =>
              have hs : setF ⟨kind, key, x, y, val, w0, w1, w2, w3, n⟩ c (w :: u1 :: u2 :: u3 :: r3) = none := by simp [setF, c107, c120, c121, c118, c110, c119, hn0, hn1, hn2]
              refine imp_call md_31 (w31n hn2 (kset _) (by simp) (by simp) _ ?_)
              simp -implicitDefEqProofs -dsimp (maxSteps := 1000000) (disch := first | omega | (simp only [wkLen]; omega) | decide +kernel) only [↓wkPre, ↓wkPre2, ↓wkE, wkPost, wkDef, wkF, simprocAttr, c119, gl, g0, g1, g2, g3, nonNil, hb, kset, List.set_set]
              exact hq ⟨kind, key, x, y, val, m0, m1, 0, w3, n⟩ 0 (.inr ⟨hs, rfl⟩)
            | some m2 =>
              refine imp_call md_31 (w31s hn2 (kset _) (by simp) (by simp) _ ?_)
              simp -implicitDefEqProofs -dsimp (maxSteps := 1000000) (disch := first | omega | (simp only [wkLen]; omega) | decide +kernel) only [↓wkPre, ↓wkPre2, ↓wkE, wkPost, wkDef, wkF, simprocAttr, c119, gl, g0, g1, g2, g3, nonNil, hb, kset, List.set_set]
              cases hn3 : num 4294967295 u3 with
              | none =>
                have hs : setF ⟨kind, key, x, y, val, w0, w1, w2, w3, n⟩ c (w :: u1 :: u2 :: u3 :: r3) = none := by simp [setF, c107, c120, c121, c118, c110, c119, hn0, hn1, hn2, hn3]
                refine imp_call md_31 (w31n hn3 (kset _) (by simp) (by simp) _ ?_)
                simp -implicitDefEqProofs -dsimp (maxSteps := 1000000) (disch := first | omega | (simp only [wkLen]; omega) | decide +kernel) only [↓wkPre, ↓wkPre2, ↓wkE, wkPost, wkDef, wkF, simprocAttr, c119, gl, g0, g1, g2, g3, nonNil, hb, kset, List.set_set]
                exact hq ⟨kind, key, x, y, val, m0, m1, m2, 0, n⟩ 0 (.inr ⟨hs, rfl⟩)
              | some m3 =>
                refine imp_call md_31 (w31s hn3 (kset _) (by simp) (by simp) _ ?_)
                simp -implicitDefEqProofs -dsimp (maxSteps := 1000000) (disch := first | omega | (simp only [wkLen]; omega) | decide +kernel) only [↓wkPre, ↓wkPre2, ↓wkE, wkPost, wkDef, wkF, simprocAttr, c119, gl, g0, g1, g2, g3, nonNil, hb, kset, List.set_set]
                have hs : setF ⟨kind, key, x, y, val, w0, w1, w2, w3, n⟩ c (w :: u1 :: u2 :: u3 :: r3) = some (⟨kind, key, x, y, val, m0, m1, m2, m3, n⟩, 4) := by simp [setF, c107, c120, c121, c118, c110, c119, hn0, hn1, hn2, hn3]
                exact hq ⟨kind, key, x, y, val, m0, m1, m2, m3, n⟩ 4 (.inl hs)
      · have hs : setF ⟨kind, key, x, y, val, w0, w1, w2, w3, n⟩ c (w :: r) = none := by
          match r, hshort with
          | [], _ => simp [setF, c107, c120, c121, c118, c110, c119]
          | [_], _ => simp [setF, c107, c120, c121, c118, c110, c119]
          | [_, _], _ => simp [setF, c107, c120, c121, c118, c110, c119]
        have := hq ⟨kind, key, x, y, val, w0, w1, w2, w3, n⟩ 0 (.inr ⟨hs, rfl⟩)
        rw [hsame] at this
        simp -implicitDefEqProofs -dsimp (maxSteps := 1000000) (disch := first | omega | (simp only [wkLen]; omega) | decide +kernel) only [↓wkPre, ↓wkPre2, ↓wkE, wkPost, wkDef, wkF, simprocAttr, c119, gl, g0]
        exact this
    · have hs : setF ⟨kind, key, x, y, val, w0, w1, w2, w3, n⟩ c (w :: r) = some (⟨kind, key, x, y, val, w0, w1, w2, w3, n⟩, 1) := by simp [setF, c107, c120, c121, c118, c110, c119]
      have := hq ⟨kind, key, x, y, val, w0, w1, w2, w3, n⟩ 1 (.inl hs)
      rw [hsame] at this
      simp -implicitDefEqProofs -dsimp (maxSteps := 1000000) (disch := first | omega | (simp only [wkLen]; omega) | decide +kernel) only [↓wkPre, ↓wkPre2, ↓wkE, wkPost, wkDef, wkF, simprocAttr, c107, c120, c121, c118, c110, c119, gl, g0]
      exact this
end Go.Ev.F32
end
