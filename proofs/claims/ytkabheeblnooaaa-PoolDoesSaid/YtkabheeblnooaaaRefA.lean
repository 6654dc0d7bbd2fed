/- A part of the proof: walks of the functions that the law calls. No condition. -/
import Derived.Test.YtkabheeblnooaaaSorts
import Derived.Test.YtkabheeblnooaaaRun
set_option linter.all false
section
namespace Go.Ev.F28
open Go.Proofs Go.Ev
set_option maxRecDepth 100000
set_option linter.all false
structure Fr where
  n : Int
  b : UInt8
  k : Nat
  d : Bool
structure Md where
  room : Nat
  L : List Fr
  W : List UInt8
  met : Nat
  miss : Nat
abbrev pgP (b : UInt8) : PV := .agg (pgL b)
abbrev fr (f : Fr) : PV := .agg (I f.n :: (pgL f.b ++ [I f.k, B f.d]))
def frs (L : List Fr) : List PV := L.map fr
def pgs (W : List UInt8) : List PV := W.map pgP
abbrev md (m : Md) : PV := .agg [I m.room, .sl 227 (frs m.L), .sl 224 (pgs m.W), I m.met, I m.miss]
theorem frs_len (L : List Fr) : (frs L).length = L.length := by simp [frs]
theorem pgs_len (W : List UInt8) : (pgs W).length = W.length := by simp [pgs]
theorem frs_get {L : List Fr} {i : Nat} (h : i < L.length) : (frs L)[i]? = some (fr L[i]) := by simp [frs, h]
theorem pgs_get {W : List UInt8} {i : Nat} (h : i < W.length) : (pgs W)[i]? = some (pgP W[i]) := by simp [pgs, h]
theorem frs_snoc (L : List Fr) (f : Fr) : frs (L ++ [f]) = frs L ++ [fr f] := by simp [frs]
theorem p12 (b : UInt8) : PS Cf okf 12 [40] [.int .u8 b.toNat] (fun r => r = pgP b) := by
  refine PS.mk extMono Try.func12 body12 (by decide) rfl ?_
  simp only [c12, Try.f12, Option.getD_some]
  simp -implicitDefEqProofs -dsimp (maxSteps := 1000000) (disch := first | omega | (simp only [wkLen]; omega) | decide +kernel) only [↓wkPre, ↓wkPre2, ↓wkE, wkPost, wkDef, wkF, simprocAttr, List.length_map, pgL_len, allP_map, take_pg, take_pgm, get0, get1, get2, getm0, getm1, getm2, get00, getm00, setm0, setm1, setm2, setm00, setR_pg, setR_pg1, flat_pg, flatL_app, eq_pg]
/-- Where a page stands. -/
def findF (L : List Fr) (n : Int) : Option Nat := L.findIdx? (fun f => f.n == n)
def posF (L : List Fr) (n : Int) : Int := match findF L n with | some i => i | none => -1
theorem p32 (m : Md) (n : Int) (hL : m.L.length ≤ 1000000) : PS Cf okf 32 [3] [md m, I n] (fun r => r = I (posF m.L n)) := by
  refine PS.mk extMono Try.func32 body32 (by decide) rfl ?_
  simp only [c32, Try.f32, Option.getD_some]
  obtain ⟨room, L, W, met, miss⟩ := m
  dsimp only at hL ⊢
  have hl := frs_len L
  simp -implicitDefEqProofs -dsimp (maxSteps := 1000000) (disch := first | omega | (simp only [wkLen]; omega) | decide +kernel) only [↓wkPre, ↓wkPre2, ↓wkE, wkPost, wkDef, wkF, simprocAttr]
  refine loop_use extMono (fun m e H => ∃ (i : Nat), m = L.length - i ∧ i ≤ L.length ∧ e 1 = .p (I n) ∧ e 2 = .vptr 0 0 ∧ e 5 = .p (I i) ∧ H = [.var true (.p (md ⟨room, L, W, met, miss⟩))] ∧ ∀ j, j < i → ∀ f, L[j]? = some f → f.n ≠ n) ?_ L.length _ _ ⟨0, rfl, by omega, ?_⟩
  · rintro m e H ⟨i, rfl, hi, e1, e2, e5, rfl, hno⟩
    rcases Nat.lt_or_ge i L.length with hlt | hge
    · have gi := frs_get hlt
      by_cases hn : L[i].n = n
      · simp -implicitDefEqProofs -dsimp (maxSteps := 1000000) (disch := first | omega | (simp only [wkLen]; omega) | decide +kernel) only [↓wkPre, ↓wkPre2, ↓wkE, wkPost, wkDef, wkF, simprocAttr, e1, e2, e5, hl, gi, hn]
        unfold posF findF
        rw [List.findIdx?_eq_some_iff_getElem.2 ⟨hlt, by simpa using hn, fun j hj => by simpa using hno j hj _ (List.getElem?_eq_getElem (by omega))⟩]
      · simp -implicitDefEqProofs -dsimp (maxSteps := 1000000) (disch := first | omega | (simp only [wkLen]; omega) | decide +kernel) only [↓wkPre, ↓wkPre2, ↓wkE, wkPost, wkDef, wkF, simprocAttr, e1, e2, e5, hl, gi, hn]
        refine ⟨L.length - (i + 1), by omega, i + 1, rfl, by omega, by push_cast; rfl, fun j hj f hf => ?_⟩
        by_cases hji : j = i
        · subst hji
          rw [List.getElem?_eq_getElem hlt] at hf
          rw [← Option.some.inj hf]; exact hn
        · exact hno j (by omega) f hf
    · simp -implicitDefEqProofs -dsimp (maxSteps := 1000000) (disch := first | omega | (simp only [wkLen]; omega) | decide +kernel) only [↓wkPre, ↓wkPre2, ↓wkE, wkPost, wkDef, wkF, simprocAttr, e1, e2, e5, hl]
      unfold posF findF
      rw [List.findIdx?_eq_none_iff.2 fun f hf => by
        obtain ⟨j, hj, e⟩ := List.mem_iff_getElem.1 hf
        have := hno j (by omega) f (by rw [List.getElem?_eq_getElem hj, e])
        simpa using this]
  · simp -implicitDefEqProofs -dsimp (maxSteps := 1000000) (disch := first | omega | (simp only [wkLen]; omega) | decide +kernel) only [↓wkPre, ↓wkPre2, ↓wkE, wkPost, wkDef, wkF, simprocAttr]
    intro j hj; omega
/-- Without one; -1: all. -/
def woF (L : List Fr) (at' : Int) : List Fr := if 0 ≤ at' then L.eraseIdx at'.toNat else L
theorem w38 (L : List Fr) (at' : Int) (H : Heap) (hL : L.length ≤ 1000000) (Q : AV → Heap → Prop)
    (hq : ∀ v H', OwnS H' v 227 (frs (woF L at')) → (∀ c, v.blk = some c → H.length ≤ c) → (∀ i, i < H.length → H'[i]? = H[i]?) → H.length ≤ H'.length → Q v H') : (Ev.W Cf okf).call 38 [.p (.sl 227 (frs L)), .p (I at')] H Q := by
  refine top_mk extMono Try.func38 body38 (by decide) rfl ?_
  simp only [c38, Try.f38, Option.getD_some]
  have hl := frs_len L
  simp -implicitDefEqProofs -dsimp (maxSteps := 1000000) (disch := first | omega | (simp only [wkLen]; omega) | decide +kernel) only [↓wkPre, ↓wkPre2, ↓wkE, wkPost, wkDef, wkF, simprocAttr]
  refine loop_use extMono (fun m e H' => ∃ (i : Nat) (v : AV) (K : List Fr), m = L.length - i ∧ i ≤ L.length ∧ e 0 = .p (.sl 227 (frs L)) ∧ e 1 = .p (I at') ∧ e 5 = v ∧ e 6 = .p (I i) ∧ OwnS H' v 227 (frs K) ∧ K.length ≤ i ∧
     woF L at' = K ++ (if 0 ≤ at' ∧ i ≤ at'.toNat then (L.drop i).eraseIdx (at'.toNat - i) else L.drop i) ∧ (∀ c, v.blk = some c → H.length ≤ c) ∧ (∀ i, i < H.length → H'[i]? = H[i]?) ∧ H.length ≤ H'.length) ?_ L.length _ _ ⟨0, .nsl, [], rfl, by omega, ?_⟩
  · rintro m e H' ⟨i, v, K, rfl, hi, e0, e1, e5, e6, hown, hKl, hw, hvb, hfr, hle⟩
    have hfl := frs_len K
    rcases Nat.lt_or_ge i L.length with hlt | hge
    · have gi := frs_get hlt
      rw [List.drop_eq_getElem_cons hlt] at hw
      by_cases hn : (i : Int) = at'
      · simp -implicitDefEqProofs -dsimp (maxSteps := 1000000) (disch := first | omega | (simp only [wkLen]; omega) | decide +kernel) only [↓wkPre, ↓wkPre2, ↓wkE, wkPost, wkDef, wkF, simprocAttr, e0, e1, e5, e6, hl, gi, hn]
        refine ⟨L.length - (i + 1), by omega, i + 1, v, K, rfl, by omega, rfl, by rw [← hn]; push_cast; rfl, hown, by omega, ?_, hvb, hfr, hle⟩
        rw [hw, if_pos ⟨by omega, by omega⟩, if_neg (by omega), show at'.toNat - i = 0 by omega]; rfl
      · simp -implicitDefEqProofs -dsimp (maxSteps := 1000000) (disch := first | omega | (simp only [wkLen]; omega) | decide +kernel) only [↓wkPre, ↓wkPre2, ↓wkE, wkPost, wkDef, wkF, simprocAttr, e0, e1, e5, e6, hl, gi, hn, pgL_len]
        refine append_step telem_28 (elems_new rfl rfl) (by simp) (hown.app _) ?_ ?_
        · rw [byt_66, hfl]; simp; omega
        intro w' H2 hown' hfr' hle' hb'
        simp -implicitDefEqProofs -dsimp (maxSteps := 1000000) (disch := first | omega | (simp only [wkLen]; omega) | decide +kernel) only [↓wkPre, ↓wkPre2, ↓wkE, wkPost, wkDef, wkF, simprocAttr, e0, e1, e5, e6]
        have hxl : (H' ++ [Blk.arr true 0 227 [fr L[i]]]).length = H'.length + 1 := by simp
        refine ⟨L.length - (i + 1), by omega, i + 1, w', K ++ [L[i]], rfl, by omega, rfl, by push_cast; rfl, by rw [frs_snoc]; exact hown', by simp; omega, ?_, ?_, ?_, by omega⟩
        · rw [hw]
          by_cases h1 : 0 ≤ at' ∧ i ≤ at'.toNat
          · rw [if_pos h1, if_pos ⟨h1.1, by omega⟩, show at'.toNat - i = (at'.toNat - (i + 1)) + 1 by omega, List.eraseIdx_cons_succ]
            simp
          · rw [if_neg h1, if_neg (by omega)]
            simp
        · intro c hc
          by_cases hcl : c < (H' ++ [Blk.arr true 0 227 [fr L[i]]]).length
          · exact hvb c (hb' c hc hcl)
          · omega
        · intro j hj
          rw [hfr' j (by omega) (fun h => by have := hvb j h; omega), hs_app (by omega)]
          exact hfr j hj
    · rw [List.drop_of_length_le hge] at hw
      simp -implicitDefEqProofs -dsimp (maxSteps := 1000000) (disch := first | omega | (simp only [wkLen]; omega) | decide +kernel) only [↓wkPre, ↓wkPre2, ↓wkE, wkPost, wkDef, wkF, simprocAttr, e0, e1, e5, e6, hl]
      have hwk : woF L at' = K := by rw [hw]; split <;> simp
      exact hq v H' (by rw [hwk]; exact hown) hvb hfr hle
  · simp -implicitDefEqProofs -dsimp (maxSteps := 1000000) (disch := first | omega | (simp only [wkLen]; omega) | decide +kernel) only [↓wkPre, ↓wkPre2, ↓wkE, wkPost, wkDef, wkF, simprocAttr]
    refine ⟨OwnS.nil _ _, ?_, fun c hc => (by cases hc), fun _ _ => trivial, Nat.le_refl _⟩
    unfold woF
    by_cases h0 : 0 ≤ at'
    · rw [if_pos h0, if_pos ⟨h0, Nat.zero_le _⟩, Nat.sub_zero]
    · rw [if_neg h0, if_neg (fun h => h0 h.1)]
/-- The ops' answers are 0, or why not. -/
def belowF (W : List UInt8) (n : Int) (b : UInt8) : List UInt8 := W.set n.toNat b
theorem p40 (W : List UInt8) (n : Int) (b : UInt8) (h0 : 0 ≤ n) (hn : n < W.length) (hW : W.length ≤ 1000) : PS Cf okf 40 [29] [.sl 224 (pgs W), I n, pgP b] (fun r => r = .sl 224 (pgs (belowF W n b))) := by
  refine PS.mk extMono Try.func40 body40 (by decide) rfl ?_
  simp only [c40, Try.f40, Option.getD_some]
  have hl := pgs_len W
  obtain ⟨i, rfl⟩ : ∃ i : Nat, n = i := ⟨n.toNat, by omega⟩
  have hi : i < W.length := by omega
  have gi := pgs_get hi
  have hset : (pgs W).set i (pgP b) = pgs (belowF W i b) := by simp [pgs, belowF, List.map_set]
  simp -implicitDefEqProofs -dsimp (maxSteps := 1000000) (disch := first | omega | (simp only [wkLen]; omega) | decide +kernel) only [↓wkPre, ↓wkPre2, ↓wkE, wkPost, wkDef, wkF, simprocAttr]
  refine append_any telem_29 (ys := pgs W) (xs := []) rfl (OwnS.nil _ _) (by rw [byt_40, hl]; simp; omega) ?_
  intro v H hown hfr hle hb
  rw [List.nil_append] at hown
  rcases hown with ⟨rfl, hx⟩ | ⟨bb, g, rfl, hbk⟩
  · have := congrArg List.length hx
    rw [hl, List.length_nil] at this; omega
  · have hne : ¬ bb = 0 := by
      intro e
      subst e
      have h2 := hb 0 rfl (by simp)
      cases h2
    have h0' : H[0]? = some (.var true (.p (pgP b))) := by rw [hfr 0 (by simp) (by simp [AV.blk])]; rfl
    have hbl : bb < H.length := (List.getElem?_eq_some_iff.1 hbk).1
    have kb : ∀ X : Blk, (H.set bb X)[bb]? = some X := fun X => hs_set hbl
    rw [hl]
    simp -implicitDefEqProofs -dsimp (maxSteps := 1000000) (disch := first | omega | (simp only [wkLen]; omega) | decide +kernel) only [↓wkPre, ↓wkPre2, ↓wkE, wkPost, wkDef, wkF, simprocAttr, hl, hbk, gi, h0', kb, List.length_map, pgL_len, allP_map, take_pg, take_pgm, get0, get1, get2, getm0, getm1, getm2, get00, getm00, setm0, setm1, setm2, setm00, setR_pg, setR_pg1, flat_pg, flatL_app, eq_pg]
    have hown2 : OwnS (H.set bb (.arr true g 224 ((pgs W).set i (pgP b)))) (.ref bb g 0 W.length false) 224 ((pgs W).set i (pgP b)) := .inr ⟨bb, g, by simp [hl], hs_set hbl⟩
    rw [frz_own (P := Try.prog) (n := 4) telem_29 hown2, hset]
    rfl
end Go.Ev.F28
end
section
namespace Go.Ev.F28
open Go.Proofs Go.Ev
set_option maxRecDepth 100000
set_option linter.all false
structure Md.ok (m : Md) : Prop where
  room : m.room ≤ 1000
  L : m.L.length ≤ 1000
  W : m.W.length ≤ 1000
  met : m.met ≤ 100000
  miss : m.miss ≤ 100000
  k : ∀ f ∈ m.L, f.k ≤ 100000
  n : ∀ f ∈ m.L, 0 ≤ f.n ∧ f.n < m.W.length
theorem posF_some {L : List Fr} {n : Int} {i : Nat} (h : findF L n = some i) : posF L n = i := by unfold posF; rw [h]
theorem posF_none {L : List Fr} {n : Int} (h : findF L n = none) : posF L n = -1 := by unfold posF; rw [h]
theorem findF_some {L : List Fr} {n : Int} {i : Nat} (h : findF L n = some i) : ∃ h : i < L.length, L[i].n = n := by
  obtain ⟨h1, h2, _⟩ := List.findIdx?_eq_some_iff_getElem.1 h
  exact ⟨h1, by simpa using h2⟩
def heldF (m : Md) (n : Int) : Int × Nat := match findF m.L n with
  | none => (-1, 7)
  | some i => if (m.L.getD i ⟨0, 0, 0, false⟩).k = 0 then ((i : Nat), 10) else ((i : Nat), 0)
theorem heldF_none {m : Md} {n : Int} (h : findF m.L n = none) : heldF m n = (-1, 7) := by unfold heldF; rw [h]
theorem heldF_some {m : Md} {n : Int} {i : Nat} (h : findF m.L n = some i) (hi : i < m.L.length) : heldF m n = if m.L[i].k = 0 then ((i : Int), 10) else ((i : Int), 0) := by
  unfold heldF; rw [h]
  have hgd : m.L.getD i ⟨0, 0, 0, false⟩ = m.L[i] := by simp [hi]
  show (if (m.L.getD i ⟨0, 0, 0, false⟩).k = 0 then ((i : Int), 10) else ((i : Int), 0)) = _
  rw [hgd]
theorem p39 (m : Md) (n : Int) (ok : m.ok) : PS Cf okf 39 [3, 41] [md m, I n] (fun r => r = .tup [I (heldF m n).1, I (heldF m n).2]) := by
  refine PS.mk extMono Try.func39 body39 (by decide) rfl ?_
  simp only [c39, Try.f39, Option.getD_some]
  have h32 := p32 m n (by have := ok.L; omega)
  cases hf : findF m.L n with
  | none =>
    rw [posF_none hf] at h32
    rw [heldF_none hf]
    obtain ⟨room, L, W, met, miss⟩ := m
    simp -implicitDefEqProofs -dsimp (maxSteps := 1000000) (disch := first | omega | (simp only [wkLen]; omega) | decide +kernel) only [↓wkPre, ↓wkPre2, ↓wkE, wkPost, wkDef, wkF, simprocAttr]
    refine PS.app md_32 Try.func32 h32 rfl ?_
    rintro _ rfl
    simp -implicitDefEqProofs -dsimp (maxSteps := 1000000) (disch := first | omega | (simp only [wkLen]; omega) | decide +kernel) only [↓wkPre, ↓wkPre2, ↓wkE, wkPost, wkDef, wkF, simprocAttr]
  | some i =>
    rw [posF_some hf] at h32
    obtain ⟨hi, hn⟩ := findF_some hf
    rw [heldF_some hf hi]
    have gi := frs_get hi
    have hl := frs_len m.L
    have hL := ok.L
    clear hf
    generalize hg : m.L[i] = f at *
    obtain ⟨room, L, W, met, miss⟩ := m
    obtain ⟨fn, fb, fk, fd⟩ := f
    dsimp only at *
    simp -implicitDefEqProofs -dsimp (maxSteps := 1000000) (disch := first | omega | (simp only [wkLen]; omega) | decide +kernel) only [↓wkPre, ↓wkPre2, ↓wkE, wkPost, wkDef, wkF, simprocAttr]
    refine PS.app md_32 Try.func32 h32 rfl ?_
    rintro _ rfl
    by_cases hk : fk = 0
    · subst hk
      rw [if_pos rfl]
      simp -implicitDefEqProofs -dsimp (maxSteps := 1000000) (disch := first | omega | (simp only [wkLen]; omega) | decide +kernel) only [↓wkPre, ↓wkPre2, ↓wkE, wkPost, wkDef, wkF, simprocAttr, hl, gi, List.length_map, pgL_len, allP_map, take_pg, take_pgm, get0, get1, get2, getm0, getm1, getm2, get00, getm00, setm0, setm1, setm2, setm00, setR_pg, setR_pg1, flat_pg, flatL_app, eq_pg]
    · rw [if_neg hk]
      simp -implicitDefEqProofs -dsimp (maxSteps := 1000000) (disch := first | omega | (simp only [wkLen]; omega) | decide +kernel) only [↓wkPre, ↓wkPre2, ↓wkE, wkPost, wkDef, wkF, simprocAttr, hl, gi, List.length_map, pgL_len, allP_map, take_pg, take_pgm, get0, get1, get2, getm0, getm1, getm2, get00, getm00, setm0, setm1, setm2, setm00, setR_pg, setR_pg1, flat_pg, flatL_app, eq_pg]
def lastF (m : Md) (at' : Int) (f : Fr) : Md := { m with L := woF m.L at' ++ [f] }
theorem woF_len (L : List Fr) (a : Int) : (woF L a).length ≤ L.length := by
  unfold woF
  split
  · exact List.length_eraseIdx_le _ _
  · exact Nat.le_refl _
theorem hleaf31 : leafTs Try.prog 20 31 = [3, 28, 29, 3, 3] := by kernel_rfl
theorem frzR_md {H : Heap} {b g : Nat} {l : Bool} {K : List Fr} (hb : H[b]? = some (.arr l g 227 (frs K))) (a s c d : PV) (ex : Bool) :
    frzR Try.prog H [31] (.agg [.p a, .ref b g 0 (frs K).length ex, .p s, .p c, .p d]) = some (.agg [a, .sl 227 (frs K), s, c, d]) := by
  simp [frzR, frzN, hleaf31, frzL, hb]
theorem p36 (m : Md) (at' : Int) (f : Fr) (ok : m.ok) : PS Cf okf 36 [31] [md m, I at', fr f] (fun r => r = md (lastF m at' f)) := by
  refine PS.mk extMono Try.func36 body36 (by decide) rfl ?_
  simp only [c36, Try.f36, Option.getD_some]
  have hwl := woF_len m.L at'
  have hL := ok.L
  unfold lastF
  obtain ⟨room, L, W, met, miss⟩ := m
  obtain ⟨fn, fb, fk, fd⟩ := f
  dsimp only at *
  have hl := frs_len L
  have hl2 := frs_len (woF L at')
  simp -implicitDefEqProofs -dsimp (maxSteps := 1000000) (disch := first | omega | (simp only [wkLen]; omega) | decide +kernel) only [↓wkPre, ↓wkPre2, ↓wkE, wkPost, wkDef, wkF, simprocAttr, List.length_map, pgL_len, allP_map, take_pg, take_pgm, get0, get1, get2, getm0, getm1, getm2, get00, getm00, setm0, setm1, setm2, setm00, setR_pg, setR_pg1, flat_pg, flatL_app, eq_pg]
  refine evC_pl pl_36_2 (by kernel_rfl) (by decide +kernel) ?_
  simp only [pl_36_2]
  simp -implicitDefEqProofs -dsimp (maxSteps := 1000000) (disch := first | omega | (simp only [wkLen]; omega) | decide +kernel) only [↓wkPre, ↓wkPre2, ↓wkE, wkPost, wkDef, wkF, simprocAttr, List.length_map, pgL_len, allP_map, take_pg, take_pgm, get0, get1, get2, getm0, getm1, getm2, get00, getm00, setm0, setm1, setm2, setm00, setR_pg, setR_pg1, flat_pg, flatL_app, eq_pg]
  refine ⟨?_, ?_⟩
  · refine imp_call md_38 (w38 L at' _ (by omega) _ ?_)
    intro v H' hown hvb hfr hle
    simp only [List.length_cons, List.length_nil] at hvb hfr hle
    have k0 : H'[0]? = some (.var true (.p (md ⟨room, L, W, met, miss⟩))) := hfr 0 (by omega)
    have k1 : H'[1]? = some (.var true (.p (fr ⟨fn, fb, fk, fd⟩))) := hfr 1 (by omega)
    have k2 := hfr 2 (by omega)
    have k3 : H'[3]? = some (.var true (.p (md ⟨room, L, W, met, miss⟩))) := hfr 3 (by omega)
    simp -implicitDefEqProofs -dsimp (maxSteps := 1000000) (disch := first | omega | (simp only [wkLen]; omega) | decide +kernel) only [↓wkPre, ↓wkPre2, ↓wkE, wkPost, wkDef, wkF, simprocAttr, k0, k1, k2, k3, List.length_map, pgL_len, allP_map, take_pg, take_pgm, get0, get1, get2, getm0, getm1, getm2, get00, getm00, setm0, setm1, setm2, setm00, setR_pg, setR_pg1, flat_pg, flatL_app, eq_pg]
    refine append_step telem_28 (elems_new rfl rfl) (by simp) (hown.app _) ?_ ?_
    · rw [byt_66, hl2]; simp; omega
    intro w' H2 hown2 hfr2 hle2 hb2
    rw [← frs_snoc] at hown2
    try simp only [List.length_append, List.length_cons, List.length_nil] at hfr2 hle2 hb2
    have nb : ∀ c, c < 4 → v.blk ≠ some c := fun c hc h => by have := hvb c h; omega
    have q0 : H2[0]? = some (.var true (.p (md ⟨room, L, W, met, miss⟩))) := by rw [hfr2 0 (by omega) (nb 0 (by omega)), hs_app (by omega)]; exact k0
    have q2 := (hfr2 2 (by omega) (nb 2 (by omega))).trans ((hs_app (by omega)).trans k2)
    have q3 : H2[3]? = some (.var true (.p (md ⟨room, L, W, met, miss⟩))) := by rw [hfr2 3 (by omega) (nb 3 (by omega)), hs_app (by omega)]; exact k3
    have s3 : ∀ X : Blk, (H2.set 3 X)[3]? = some X := fun X => hs_set (by omega)
    have s2 : ∀ X : Blk, (H2.set 3 X)[2]? = H2[2]? := fun X => hs_ne (by omega)
    have t2 : ∀ X Y : Blk, ((H2.set 3 X).set 2 Y)[2]? = some Y := fun X Y => hs_set (by simp; omega)
    rcases hown2 with ⟨_, hx⟩ | ⟨bb, g, rfl, hbk⟩
    · have := congrArg List.length hx
      rw [frs_len] at this; simp at this
    · have hbb : 4 ≤ bb := by
        by_cases h : bb < H'.length + 1
        · have := hvb bb (hb2 bb rfl (by omega)); omega
        · omega
      have kb : ∀ X Y : Blk, ((H2.set 3 X).set 2 Y)[bb]? = H2[bb]? := fun X Y => by rw [hs_ne (by omega), hs_ne (by omega)]
      simp -implicitDefEqProofs -dsimp (maxSteps := 1000000) (disch := first | omega | (simp only [wkLen]; omega) | decide +kernel) only [↓wkPre, ↓wkPre2, ↓wkE, wkPost, wkDef, wkF, simprocAttr, k0, k1, q0, q2, q3, s3, s2, t2, hleaf31, frzN_ref, kb, hbk, List.take_length, List.length_map, pgL_len, allP_map, take_pg, take_pgm, get0, get1, get2, getm0, getm1, getm2, get00, getm00, setm0, setm1, setm2, setm00, setR_pg, setR_pg1, flat_pg, flatL_app, eq_pg]
      rw [frzR_md (by rw [kb]; exact hbk)]
      rfl
  · refine imp_call md_38 (w38 L at' _ (by omega) _ ?_)
    intro v H' hown hvb hfr hle
    simp only [List.length_cons, List.length_nil] at hvb hfr hle
    have k0 : H'[0]? = some (.var true (.p (md ⟨room, L, W, met, miss⟩))) := hfr 0 (by omega)
    have k1 : H'[1]? = some (.var true (.p (fr ⟨fn, fb, fk, fd⟩))) := hfr 1 (by omega)
    have k2 := hfr 2 (by omega)
    have k4 : H'[4]? = some (.arr true 0 227 [fr ⟨fn, fb, fk, fd⟩]) := hfr 4 (by omega)
    have k3 : H'[3]? = some (.var true (.p (md ⟨room, L, W, met, miss⟩))) := hfr 3 (by omega)
    simp -implicitDefEqProofs -dsimp (maxSteps := 1000000) (disch := first | omega | (simp only [wkLen]; omega) | decide +kernel) only [↓wkPre, ↓wkPre2, ↓wkE, wkPost, wkDef, wkF, simprocAttr, k0, k1, k2, k3, List.length_map, pgL_len, allP_map, take_pg, take_pgm, get0, get1, get2, getm0, getm1, getm2, get00, getm00, setm0, setm1, setm2, setm00, setR_pg, setR_pg1, flat_pg, flatL_app, eq_pg]
    refine append_step telem_28 (ys := [fr ⟨fn, fb, fk, fd⟩]) (by simp [elems, k4]) (by simp) hown ?_ ?_
    · rw [byt_66, hl2]; simp; omega
    intro w' H2 hown2 hfr2 hle2 hb2
    rw [← frs_snoc] at hown2
    try simp only [List.length_append, List.length_cons, List.length_nil] at hfr2 hle2 hb2
    have nb : ∀ c, c < 5 → v.blk ≠ some c := fun c hc h => by have := hvb c h; omega
    have q0 : H2[0]? = some (.var true (.p (md ⟨room, L, W, met, miss⟩))) := by rw [hfr2 0 (by omega) (nb 0 (by omega))]; exact k0
    have q2 := (hfr2 2 (by omega) (nb 2 (by omega))).trans k2
    have q3 : H2[3]? = some (.var true (.p (md ⟨room, L, W, met, miss⟩))) := by rw [hfr2 3 (by omega) (nb 3 (by omega))]; exact k3
    have s3 : ∀ X : Blk, (H2.set 3 X)[3]? = some X := fun X => hs_set (by omega)
    have s2 : ∀ X : Blk, (H2.set 3 X)[2]? = H2[2]? := fun X => hs_ne (by omega)
    have t2 : ∀ X Y : Blk, ((H2.set 3 X).set 2 Y)[2]? = some Y := fun X Y => hs_set (by simp; omega)
    rcases hown2 with ⟨_, hx⟩ | ⟨bb, g, rfl, hbk⟩
    · have := congrArg List.length hx
      rw [frs_len] at this; simp at this
    · have hbb : 5 ≤ bb := by
        by_cases h : bb < H'.length
        · have := hvb bb (hb2 bb rfl (by omega)); omega
        · omega
      have kb : ∀ X Y : Blk, ((H2.set 3 X).set 2 Y)[bb]? = H2[bb]? := fun X Y => by rw [hs_ne (by omega), hs_ne (by omega)]
      simp -implicitDefEqProofs -dsimp (maxSteps := 1000000) (disch := first | omega | (simp only [wkLen]; omega) | decide +kernel) only [↓wkPre, ↓wkPre2, ↓wkE, wkPost, wkDef, wkF, simprocAttr, k0, k1, q0, q2, q3, s3, s2, t2, hleaf31, frzN_ref, kb, hbk, List.take_length, List.length_map, pgL_len, allP_map, take_pg, take_pgm, get0, get1, get2, getm0, getm1, getm2, get00, getm00, setm0, setm1, setm2, setm00, setR_pg, setR_pg1, flat_pg, flatL_app, eq_pg]
      rw [frzR_md (by rw [kb]; exact hbk)]
      rfl
end Go.Ev.F28
end
section
namespace Go.Ev.F28
open Go.Proofs Go.Ev
set_option maxRecDepth 100000
set_option linter.all false
/-- A page is written, if it is unlike. -/
def flushF (m : Md) (n : Int) : Md × Nat := match findF m.L n with
  | none => (m, 7)
  | some i => match m.L[i]? with
    | none => (m, 0)
    | some f => if f.d = false then (m, 0) else ({ m with W := belowF m.W n f.b, L := m.L.set i { f with d := false } }, 0)
theorem flushF_none {m : Md} {n : Int} (h : findF m.L n = none) : flushF m n = (m, 7) := by unfold flushF; rw [h]
theorem flushF_some {m : Md} {n : Int} {i : Nat} (h : findF m.L n = some i) (hi : i < m.L.length) : flushF m n = if m.L[i].d = false then (m, 0) else ({ m with W := belowF m.W n m.L[i].b, L := m.L.set i { m.L[i] with d := false } }, 0) := by
  unfold flushF; rw [h]
  show (match m.L[i]? with | none => (m, 0) | some f => if f.d = false then (m, 0) else ({ m with W := belowF m.W n f.b, L := m.L.set i { f with d := false } }, 0)) = _
  rw [List.getElem?_eq_getElem hi]
theorem frzN_md {H : Heap} {b g n : Nat} {l : Bool} {K : List PV} (hb : H[b]? = some (.arr l g 227 K)) (hn : n = K.length) (a s c d : PV) (ex : Bool) :
    frzN Try.prog H 4 31 (.agg [.p a, .ref b g 0 n ex, .p s, .p c, .p d]) = some (.agg [a, .sl 227 K, s, c, d]) := by
  subst hn
  simp [frzN, hleaf31, frzL, hb]
set_option maxHeartbeats 1000000 in
theorem p30 (m : Md) (n : Int) (ok : m.ok) : PS Cf okf 30 [31, 41] [md m, I n] (fun r => r = .tup [md (flushF m n).1, I (flushF m n).2]) := by
  refine PS.mk extMono Try.func30 body30 (by decide) rfl ?_
  simp only [c30, Try.f30, Option.getD_some]
  have h32 := p32 m n (by have := ok.L; omega)
  cases hf : findF m.L n with
  | none =>
    rw [posF_none hf] at h32
    rw [flushF_none hf]
    obtain ⟨room, L, W, met, miss⟩ := m
    simp -implicitDefEqProofs -dsimp (maxSteps := 1000000) (disch := first | omega | (simp only [wkLen]; omega) | decide +kernel) only [↓wkPre, ↓wkPre2, ↓wkE, wkPost, wkDef, wkF, simprocAttr]
    refine PS.app md_32 Try.func32 h32 rfl ?_
    rintro _ rfl
    simp -implicitDefEqProofs -dsimp (maxSteps := 1000000) (disch := first | omega | (simp only [wkLen]; omega) | decide +kernel) only [↓wkPre, ↓wkPre2, ↓wkE, wkPost, wkDef, wkF, simprocAttr]
  | some i =>
    rw [posF_some hf] at h32
    obtain ⟨hi, hn⟩ := findF_some hf
    rw [flushF_some hf hi]
    have gi := frs_get hi
    have hl := frs_len m.L
    have hL := ok.L
    have hW := ok.W
    have hnr := ok.n _ (List.getElem_mem hi)
    rw [hn] at hnr
    have h40 := fun b => p40 m.W n b hnr.1 hnr.2 hW
    have hset : ∀ f, (frs m.L).set i (fr f) = frs (m.L.set i f) := fun f => by simp [frs, List.map_set]
    clear hf
    generalize hg : m.L[i] = f at *
    obtain ⟨room, L, W, met, miss⟩ := m
    obtain ⟨fn, fb, fk, fd⟩ := f
    dsimp only at *
    have hi' : i < L.length := hi
    cases fd
    · rw [if_pos rfl]
      simp -implicitDefEqProofs -dsimp (maxSteps := 1000000) (disch := first | omega | (simp only [wkLen]; omega) | decide +kernel) only [↓wkPre, ↓wkPre2, ↓wkE, wkPost, wkDef, wkF, simprocAttr]
      refine PS.app md_32 Try.func32 h32 rfl ?_
      rintro _ rfl
      simp -implicitDefEqProofs -dsimp (maxSteps := 1000000) (disch := first | omega | (simp only [wkLen]; omega) | decide +kernel) only [↓wkPre, ↓wkPre2, ↓wkE, wkPost, wkDef, wkF, simprocAttr, hl, gi, List.length_map, pgL_len, allP_map, take_pg, take_pgm, get0, get1, get2, getm0, getm1, getm2, get00, getm00, setm0, setm1, setm2, setm00, setR_pg, setR_pg1, flat_pg, flatL_app, eq_pg]
    · rw [if_neg (show ¬ (true = false) by decide)]
      simp -implicitDefEqProofs -dsimp (maxSteps := 1000000) (disch := first | omega | (simp only [wkLen]; omega) | decide +kernel) only [↓wkPre, ↓wkPre2, ↓wkE, wkPost, wkDef, wkF, simprocAttr]
      refine PS.app md_32 Try.func32 h32 rfl ?_
      rintro _ rfl
      simp -implicitDefEqProofs -dsimp (maxSteps := 1000000) (disch := first | omega | (simp only [wkLen]; omega) | decide +kernel) only [↓wkPre, ↓wkPre2, ↓wkE, wkPost, wkDef, wkF, simprocAttr, hl, gi, List.length_map, pgL_len, allP_map, take_pg, take_pgm, get0, get1, get2, getm0, getm1, getm2, get00, getm00, setm0, setm1, setm2, setm00, setR_pg, setR_pg1, flat_pg, flatL_app, eq_pg]
      refine PS.app md_40 Try.func40 (h40 fb) rfl ?_
      rintro _ rfl
      simp -implicitDefEqProofs -dsimp (maxSteps := 1000000) (disch := first | omega | (simp only [wkLen]; omega) | decide +kernel) only [↓wkPre, ↓wkPre2, ↓wkE, wkPost, wkDef, wkF, simprocAttr, hl, gi, List.length_map, pgL_len, allP_map, take_pg, take_pgm, get0, get1, get2, getm0, getm1, getm2, get00, getm00, setm0, setm1, setm2, setm00, setR_pg, setR_pg1, flat_pg, flatL_app, eq_pg]
      refine append_any telem_28 (ys := frs L) (xs := []) rfl (OwnS.nil _ _) (by rw [byt_66, hl]; simp; omega) ?_
      intro v H hown hfr hle hb
      rw [List.nil_append] at hown
      rcases hown with ⟨rfl, hx⟩ | ⟨bb, g, rfl, hbk⟩
      · have := congrArg List.length hx
        rw [hl, List.length_nil] at this; omega
      · have hbb : 4 ≤ bb := by
          rcases Nat.lt_or_ge bb 4 with h | h
          · have := hb bb rfl (by simp; omega); simp [AV.blk] at this
          · exact h
        have hbl : bb < H.length := (List.getElem?_eq_some_iff.1 hbk).1
        simp only [List.length_cons, List.length_nil] at hfr hle
        have q1 := hfr 1 (by omega) (by simp [AV.blk])
        have q2 := hfr 2 (by omega) (by simp [AV.blk])
        have q3 := hfr 3 (by omega) (by simp [AV.blk])
        simp only [List.getElem?_cons_succ, List.getElem?_cons_zero] at q1 q2 q3
        have s3 : ∀ X : Blk, (H.set 3 X)[3]? = some X := fun X => hs_set (by omega)
        have s2 : ∀ X : Blk, (H.set 3 X)[2]? = H[2]? := fun X => hs_ne (by omega)
        have sb : ∀ X : Blk, (H.set 3 X)[bb]? = H[bb]? := fun X => hs_ne (by omega)
        have u3 : ∀ X Y : Blk, ((H.set 3 X).set bb Y)[3]? = some X := fun X Y => by rw [hs_ne (by omega)]; exact s3 X
        have u1 : ∀ X Y : Blk, ((H.set 3 X).set bb Y)[1]? = H[1]? := fun X Y => by rw [hs_ne (by omega), hs_ne (by omega)]
        have ub : ∀ X Y Z : Blk, (((H.set 3 X).set bb Y).set 1 Z)[bb]? = some Y := fun X Y Z => by rw [hs_ne (by omega), hs_set (by simp; omega)]
        simp -implicitDefEqProofs -dsimp (maxSteps := 1000000) (disch := first | omega | (simp only [wkLen]; omega) | decide +kernel) only [↓wkPre, ↓wkPre2, ↓wkE, wkPost, wkDef, wkF, simprocAttr, hl, gi, q1, q2, q3, s3, s2, sb, u3, u1, ub, hbk, hset, List.length_map, pgL_len, allP_map, take_pg, take_pgm, get0, get1, get2, getm0, getm1, getm2, get00, getm00, setm0, setm1, setm2, setm00, setR_pg, setR_pg1, flat_pg, flatL_app, eq_pg]
        rw [frzN_md (ub _ _ _) (by simp [hl])]
        show PV.tup [.agg [I room, .sl 227 ((frs L).set i (fr ⟨fn, fb, fk, false⟩)), .sl 224 (pgs (belowF W n fb)), I met, I miss], I 0] = _
        rw [hset]
        rfl
end Go.Ev.F28
end
section
namespace Go.Ev.F28
open Go.Proofs Go.Ev
set_option maxRecDepth 100000
set_option linter.all false
theorem frzN_own {H : Heap} {v : AV} {K : List PV} (h : OwnS H v 227 K) (a s c d : PV) :
    frzN Try.prog H 4 31 (.agg [.p a, v, .p s, .p c, .p d]) = some (.agg [a, .sl 227 K, s, c, d]) := by
  simp [frzN, hleaf31, frzL, frz_own (n := 3) telem_28 h]
theorem flushF_len (m : Md) (n : Int) : (flushF m n).1.L.length = m.L.length := by
  unfold flushF
  split
  · rfl
  · split
    · rfl
    · split
      · rfl
      · simp
/-- With room for a page more. -/
def roomF (m : Md) : Md × Nat := if m.L.length < m.room then (m, 0) else match m.L.findIdx? (fun f => f.k == 0) with
  | none => (m, 6)
  | some i => match m.L[i]? with
    | none => (m, 6)
    | some f => ({ (flushF m f.n).1 with L := woF (flushF m f.n).1.L i }, (flushF m f.n).2)
theorem roomF_some {m : Md} {i : Nat} (h0 : ¬ m.L.length < m.room) (hi : i < m.L.length) (hk : m.L[i].k = 0) (hno : ∀ j, (h : j < i) → m.L[j].k ≠ 0) :
    roomF m = ({ (flushF m m.L[i].n).1 with L := woF (flushF m m.L[i].n).1.L i }, (flushF m m.L[i].n).2) := by
  unfold roomF
  rw [if_neg h0, List.findIdx?_eq_some_iff_getElem.2 ⟨hi, by simpa using hk, fun j hj => by simpa using hno j hj⟩]
  show (match m.L[i]? with | none => (m, 6) | some f => _) = _
  rw [List.getElem?_eq_getElem hi]
theorem roomF_none {m : Md} (h0 : ¬ m.L.length < m.room) (hno : ∀ j, (h : j < m.L.length) → m.L[j].k ≠ 0) : roomF m = (m, 6) := by
  unfold roomF
  rw [if_neg h0, List.findIdx?_eq_none_iff.2 fun f hf => by
    obtain ⟨j, hj, e⟩ := List.mem_iff_getElem.1 hf
    have := hno j hj
    rw [e] at this
    simpa using this]
theorem p37 (m : Md) (ok : m.ok) : PS Cf okf 37 [31, 41] [md m] (fun r => r = .tup [md (roomF m).1, I (roomF m).2]) := by
  refine PS.mk extMono Try.func37 body37 (by decide) rfl ?_
  simp only [c37, Try.f37, Option.getD_some]
  have hl := frs_len m.L
  have hL := ok.L
  have hR := ok.room
  by_cases h0 : m.L.length < m.room
  · have e : roomF m = (m, 0) := by unfold roomF; rw [if_pos h0]
    rw [e]
    obtain ⟨room, L, W, met, miss⟩ := m
    dsimp only at *
    simp -implicitDefEqProofs -dsimp (maxSteps := 1000000) (disch := first | omega | (simp only [wkLen]; omega) | decide +kernel) only [↓wkPre, ↓wkPre2, ↓wkE, wkPost, wkDef, wkF, simprocAttr, hl, h0]
  · have h30 := fun n => p30 m n ok
    have hrs := fun i hi hk hno => roomF_some (m := m) (i := i) h0 hi hk hno
    have hrn := roomF_none (m := m) h0
    generalize hr : roomF m = R at *
    have hfl := flushF_len m
    obtain ⟨room, L, W, met, miss⟩ := m
    dsimp only at *
    simp -implicitDefEqProofs -dsimp (maxSteps := 1000000) (disch := first | omega | (simp only [wkLen]; omega) | decide +kernel) only [↓wkPre, ↓wkPre2, ↓wkE, wkPost, wkDef, wkF, simprocAttr, hl]
    refine loop_use extMono (fun m e H => ∃ (i : Nat), m = L.length - i ∧ i ≤ L.length ∧ e 1 = .vptr 0 0 ∧ e 2 = .vptr 1 0 ∧ e 3 = .p (I 0) ∧ e 4 = .p (I i) ∧ H = [.var true (.p (md ⟨room, L, W, met, miss⟩)), .var true (.agg [.p (I 0), .nsl, .nsl, .p (I 0), .p (I 0)])] ∧ ∀ j, (h : j < i) → (hj : j < L.length) → L[j].k ≠ 0) ?_ L.length _ _ ⟨0, rfl, by omega, ?_⟩
    · rintro m e H ⟨i, rfl, hi, e1, e2, e3, e4, rfl, hno⟩
      rcases Nat.lt_or_ge i L.length with hlt | hge
      · have gi := frs_get hlt
        have hrs := hrs i hlt
        have hno' : ∀ j, (h : j < i) → L[j].k ≠ 0 := fun j h => hno j h (by omega)
        have h30' := h30 L[i].n
        have hfl := hfl L[i].n
        have hk' := ok.k _ (List.getElem_mem hlt)
        by_cases hk : L[i].k = 0
        · have hrs := hrs hk hno'
          clear h30 hno'
          generalize hg : L[i] = f at *
          generalize hF : flushF ⟨room, L, W, met, miss⟩ f.n = F at *
          obtain ⟨fn, fb, fk, fd⟩ := f
          obtain ⟨⟨room', L', W', met', miss'⟩, c⟩ := F
          dsimp only at *
          subst hk
          simp -implicitDefEqProofs -dsimp (maxSteps := 1000000) (disch := first | omega | (simp only [wkLen]; omega) | decide +kernel) only [↓wkPre, ↓wkPre2, ↓wkE, wkPost, wkDef, wkF, simprocAttr, e1, e2, e3, e4, hl, gi, List.length_map, pgL_len, allP_map, take_pg, take_pgm, get0, get1, get2, getm0, getm1, getm2, get00, getm00, setm0, setm1, setm2, setm00, setR_pg, setR_pg1, flat_pg, flatL_app, eq_pg]
          refine evC_pl pl_37_7 (by kernel_rfl) (by decide +kernel) ?_
          simp only [pl_37_7]
          simp -implicitDefEqProofs -dsimp (maxSteps := 1000000) (disch := first | omega | (simp only [wkLen]; omega) | decide +kernel) only [↓wkPre, ↓wkPre2, ↓wkE, wkPost, wkDef, wkF, simprocAttr, e1, e2, e3, e4, hl, gi, List.length_map, pgL_len, allP_map, take_pg, take_pgm, get0, get1, get2, getm0, getm1, getm2, get00, getm00, setm0, setm1, setm2, setm00, setR_pg, setR_pg1, flat_pg, flatL_app, eq_pg]
          have h38 := w38 L' i
          rw [hrs rfl (fun j h => hno j h (by omega))]
          have hl' := frs_len L'
          have hwl := woF_len L' i
          refine ⟨?_, ?_⟩
          · skip
            refine PS.app md_30 Try.func30 h30' rfl ?_
            rintro _ rfl
            simp -implicitDefEqProofs -dsimp (maxSteps := 1000000) (disch := first | omega | (simp only [wkLen]; omega) | decide +kernel) only [↓wkPre, ↓wkPre2, ↓wkE, wkPost, wkDef, wkF, simprocAttr, e1, e2, e3, e4, hl, gi, List.length_map, pgL_len, allP_map, take_pg, take_pgm, get0, get1, get2, getm0, getm1, getm2, get00, getm00, setm0, setm1, setm2, setm00, setR_pg, setR_pg1, flat_pg, flatL_app, eq_pg]
            refine imp_call md_38 (h38 _ (by omega) _ ?_)
            intro v H' hown hvb hfr hle
            simp only [List.length_cons, List.length_nil] at hvb hfr hle
            have k1 := hfr 1 (by omega)
            have k2 := hfr 2 (by omega)
            simp only [List.getElem?_cons_succ, List.getElem?_cons_zero] at k1 k2
            have s2 : ∀ X : Blk, (H'.set 2 X)[2]? = some X := fun X => hs_set (by omega)
            have s1 : ∀ X : Blk, (H'.set 2 X)[1]? = H'[1]? := fun X => hs_ne (by omega)
            have t1 : ∀ X Y : Blk, ((H'.set 2 X).set 1 Y)[1]? = some Y := fun X Y => hs_set (by simp; omega)
            have hown2 : ∀ X Y : Blk, OwnS ((H'.set 2 X).set 1 Y) v 227 (frs (woF L' i)) := fun X Y => (hown.set (fun h => by have := hvb _ h; omega)).set (fun h => by have := hvb _ h; omega)
            rcases hown with ⟨rfl, hx⟩ | ⟨bb, g, rfl, hbk⟩
            · simp -implicitDefEqProofs -dsimp (maxSteps := 1000000) (disch := first | omega | (simp only [wkLen]; omega) | decide +kernel) only [↓wkPre, ↓wkPre2, ↓wkE, wkPost, wkDef, wkF, simprocAttr, k1, k2, s2, s1, t1, e1, e2, e3, e4, List.length_map, pgL_len, allP_map, take_pg, take_pgm, get0, get1, get2, getm0, getm1, getm2, get00, getm00, setm0, setm1, setm2, setm00, setR_pg, setR_pg1, flat_pg, flatL_app, eq_pg]
              rw [frzN_own (hown2 _ _)]
              rfl
            · simp -implicitDefEqProofs -dsimp (maxSteps := 1000000) (disch := first | omega | (simp only [wkLen]; omega) | decide +kernel) only [↓wkPre, ↓wkPre2, ↓wkE, wkPost, wkDef, wkF, simprocAttr, k1, k2, s2, s1, t1, e1, e2, e3, e4, List.length_map, pgL_len, allP_map, take_pg, take_pgm, get0, get1, get2, getm0, getm1, getm2, get00, getm00, setm0, setm1, setm2, setm00, setR_pg, setR_pg1, flat_pg, flatL_app, eq_pg]
              rw [frzN_own (hown2 _ _)]
              rfl
          · skip
            refine PS.app md_30 Try.func30 h30' rfl ?_
            rintro _ rfl
            simp -implicitDefEqProofs -dsimp (maxSteps := 1000000) (disch := first | omega | (simp only [wkLen]; omega) | decide +kernel) only [↓wkPre, ↓wkPre2, ↓wkE, wkPost, wkDef, wkF, simprocAttr, e1, e2, e3, e4, hl, gi, List.length_map, pgL_len, allP_map, take_pg, take_pgm, get0, get1, get2, getm0, getm1, getm2, get00, getm00, setm0, setm1, setm2, setm00, setR_pg, setR_pg1, flat_pg, flatL_app, eq_pg]
            refine imp_call md_38 (h38 _ (by omega) _ ?_)
            intro v H' hown hvb hfr hle
            simp only [List.length_cons, List.length_nil] at hvb hfr hle
            have k1 := hfr 1 (by omega)
            have k2 := hfr 2 (by omega)
            simp only [List.getElem?_cons_succ, List.getElem?_cons_zero] at k1 k2
            have s2 : ∀ X : Blk, (H'.set 2 X)[2]? = some X := fun X => hs_set (by omega)
            have s1 : ∀ X : Blk, (H'.set 2 X)[1]? = H'[1]? := fun X => hs_ne (by omega)
            have t1 : ∀ X Y : Blk, ((H'.set 2 X).set 1 Y)[1]? = some Y := fun X Y => hs_set (by simp; omega)
            have hown2 : ∀ X Y : Blk, OwnS ((H'.set 2 X).set 1 Y) v 227 (frs (woF L' i)) := fun X Y => (hown.set (fun h => by have := hvb _ h; omega)).set (fun h => by have := hvb _ h; omega)
            rcases hown with ⟨rfl, hx⟩ | ⟨bb, g, rfl, hbk⟩
            · simp -implicitDefEqProofs -dsimp (maxSteps := 1000000) (disch := first | omega | (simp only [wkLen]; omega) | decide +kernel) only [↓wkPre, ↓wkPre2, ↓wkE, wkPost, wkDef, wkF, simprocAttr, k1, k2, s2, s1, t1, e1, e2, e3, e4, List.length_map, pgL_len, allP_map, take_pg, take_pgm, get0, get1, get2, getm0, getm1, getm2, get00, getm00, setm0, setm1, setm2, setm00, setR_pg, setR_pg1, flat_pg, flatL_app, eq_pg]
              rw [frzN_own (hown2 _ _)]
              rfl
            · simp -implicitDefEqProofs -dsimp (maxSteps := 1000000) (disch := first | omega | (simp only [wkLen]; omega) | decide +kernel) only [↓wkPre, ↓wkPre2, ↓wkE, wkPost, wkDef, wkF, simprocAttr, k1, k2, s2, s1, t1, e1, e2, e3, e4, List.length_map, pgL_len, allP_map, take_pg, take_pgm, get0, get1, get2, getm0, getm1, getm2, get00, getm00, setm0, setm1, setm2, setm00, setR_pg, setR_pg1, flat_pg, flatL_app, eq_pg]
              rw [frzN_own (hown2 _ _)]
              rfl
        · simp -implicitDefEqProofs -dsimp (maxSteps := 1000000) (disch := first | omega | (simp only [wkLen]; omega) | decide +kernel) only [↓wkPre, ↓wkPre2, ↓wkE, wkPost, wkDef, wkF, simprocAttr, e1, e2, e3, e4, hl, gi, hk, List.length_map, pgL_len, allP_map, take_pg, take_pgm, get0, get1, get2, getm0, getm1, getm2, get00, getm00, setm0, setm1, setm2, setm00, setR_pg, setR_pg1, flat_pg, flatL_app, eq_pg]
          refine ⟨L.length - (i + 1), by omega, i + 1, rfl, by omega, by push_cast; rfl, fun j hj hjl => ?_⟩
          rcases Nat.lt_or_ge j i with h | h
          · exact hno j h hjl
          · have : j = i := by omega
            subst this; exact hk
      · simp -implicitDefEqProofs -dsimp (maxSteps := 1000000) (disch := first | omega | (simp only [wkLen]; omega) | decide +kernel) only [↓wkPre, ↓wkPre2, ↓wkE, wkPost, wkDef, wkF, simprocAttr, e1, e2, e3, e4, hl]
        rw [hrn fun j hj => hno j (by omega) hj]
        rfl
    · simp -implicitDefEqProofs -dsimp (maxSteps := 1000000) (disch := first | omega | (simp only [wkLen]; omega) | decide +kernel) only [↓wkPre, ↓wkPre2, ↓wkE, wkPost, wkDef, wkF, simprocAttr]
      intro j hj; omega
end Go.Ev.F28
end
