/- A part of the proof: walks of the functions that the law calls. No condition. -/
import Derived.Test.YtkabheeblnooaaaRefA
set_option linter.all false
section
namespace Go.Ev.F28
open Go.Proofs Go.Ev
set_option maxRecDepth 100000
set_option linter.all false
def unpinF (m : Md) (n : Int) : Md × Nat := match findF m.L n with
  | none => (m, 7)
  | some i => match m.L[i]? with
    | none => (m, 0)
    | some f => if f.k = 0 then (m, 10) else ({ m with L := m.L.set i { f with k := f.k - 1 } }, 0)
theorem unpinF_none {m : Md} {n : Int} (h : findF m.L n = none) : unpinF m n = (m, 7) := by unfold unpinF; rw [h]
theorem unpinF_some {m : Md} {n : Int} {i : Nat} (h : findF m.L n = some i) (hi : i < m.L.length) : unpinF m n = if m.L[i].k = 0 then (m, 10) else ({ m with L := m.L.set i { m.L[i] with k := m.L[i].k - 1 } }, 0) := by
  unfold unpinF; rw [h]
  show (match m.L[i]? with | none => (m, 0) | some f => if f.k = 0 then (m, 10) else ({ m with L := m.L.set i { f with k := f.k - 1 } }, 0)) = _
  rw [List.getElem?_eq_getElem hi]
def putF (m : Md) (n : Int) (b : UInt8) : Md × Nat := match findF m.L n with
  | none => (m, 7)
  | some i => match m.L[i]? with
    | none => (m, 0)
    | some f => if f.k = 0 then (m, 10) else (lastF m i { f with b := b, d := f.d || !(decide (f.b = b)) }, 0)
theorem putF_none {m : Md} {n : Int} {b : UInt8} (h : findF m.L n = none) : putF m n b = (m, 7) := by unfold putF; rw [h]
theorem putF_some {m : Md} {n : Int} {b : UInt8} {i : Nat} (h : findF m.L n = some i) (hi : i < m.L.length) : putF m n b = if m.L[i].k = 0 then (m, 10) else (lastF m i { m.L[i] with b := b, d := m.L[i].d || !(decide (m.L[i].b = b)) }, 0) := by
  unfold putF; rw [h]
  show (match m.L[i]? with | none => (m, 0) | some f => if f.k = 0 then (m, 10) else (lastF m i { f with b := b, d := f.d || !(decide (f.b = b)) }, 0)) = _
  rw [List.getElem?_eq_getElem hi]
theorem p28 (m : Md) (n : Int) (ok : m.ok) : PS Cf okf 28 [31, 41] [md m, I n] (fun r => r = .tup [md (unpinF m n).1, I (unpinF m n).2]) := by
  refine PS.mk extMono Try.func28 body28 (by decide) rfl ?_
  simp only [c28, Try.f28, Option.getD_some]
  have h39 := p39 m n ok
  cases hf : findF m.L n with
  | none =>
    rw [heldF_none hf] at h39
    rw [unpinF_none hf]
    obtain ⟨room, L, W, met, miss⟩ := m
    simp -implicitDefEqProofs -dsimp (maxSteps := 1000000) (disch := first | omega | (simp only [wkLen]; omega) | decide +kernel) only [↓wkPre, ↓wkPre2, ↓wkE, wkPost, wkDef, wkF, simprocAttr]
    refine PS.app md_39 Try.func39 h39 rfl ?_
    rintro _ rfl
    simp -implicitDefEqProofs -dsimp (maxSteps := 1000000) (disch := first | omega | (simp only [wkLen]; omega) | decide +kernel) only [↓wkPre, ↓wkPre2, ↓wkE, wkPost, wkDef, wkF, simprocAttr]
  | some i =>
    obtain ⟨hi, hn⟩ := findF_some hf
    rw [heldF_some hf hi] at h39
    rw [unpinF_some hf hi]
    have gi := frs_get hi
    have hl := frs_len m.L
    have hL := ok.L
    have hk := ok.k _ (List.getElem_mem hi)
    have h38 := w38 m.L (-1)
    have e38 : woF m.L (-1) = m.L := rfl
    rw [e38] at h38
    have hset : ∀ f, (frs m.L).set i (fr f) = frs (m.L.set i f) := fun f => by simp [frs, List.map_set]
    clear hf
    generalize hg : m.L[i] = f at *
    obtain ⟨room, L, W, met, miss⟩ := m
    obtain ⟨fn, fb, fk, fd⟩ := f
    dsimp only at *
    have hi' : i < L.length := hi
    by_cases hk0 : fk = 0
    · subst hk0
      rw [if_pos rfl] at h39
      rw [if_pos rfl]
      simp -implicitDefEqProofs -dsimp (maxSteps := 1000000) (disch := first | omega | (simp only [wkLen]; omega) | decide +kernel) only [↓wkPre, ↓wkPre2, ↓wkE, wkPost, wkDef, wkF, simprocAttr]
      refine PS.app md_39 Try.func39 h39 rfl ?_
      rintro _ rfl
      simp -implicitDefEqProofs -dsimp (maxSteps := 1000000) (disch := first | omega | (simp only [wkLen]; omega) | decide +kernel) only [↓wkPre, ↓wkPre2, ↓wkE, wkPost, wkDef, wkF, simprocAttr]
    · rw [if_neg hk0] at h39
      rw [if_neg hk0]
      simp -implicitDefEqProofs -dsimp (maxSteps := 1000000) (disch := first | omega | (simp only [wkLen]; omega) | decide +kernel) only [↓wkPre, ↓wkPre2, ↓wkE, wkPost, wkDef, wkF, simprocAttr]
      refine PS.app md_39 Try.func39 h39 rfl ?_
      rintro _ rfl
      simp -implicitDefEqProofs -dsimp (maxSteps := 1000000) (disch := first | omega | (simp only [wkLen]; omega) | decide +kernel) only [↓wkPre, ↓wkPre2, ↓wkE, wkPost, wkDef, wkF, simprocAttr, List.length_map, pgL_len, allP_map, take_pg, take_pgm, get0, get1, get2, getm0, getm1, getm2, get00, getm00, setm0, setm1, setm2, setm00, setR_pg, setR_pg1, flat_pg, flatL_app, eq_pg]
      refine imp_call md_38 (h38 _ (by omega) _ ?_)
      intro v H' hown hvb hfr hle
      simp only [List.length_cons, List.length_nil] at hvb hfr hle
      have k1 := hfr 1 (by omega)
      have k2 := hfr 2 (by omega)
      simp only [List.getElem?_cons_succ, List.getElem?_cons_zero] at k1 k2
      have s2 : ∀ X : Blk, (H'.set 2 X)[2]? = some X := fun X => hs_set (by omega)
      rcases hown with ⟨rfl, hx⟩ | ⟨bb, g, rfl, hbk⟩
      · have := congrArg List.length hx
        rw [hl, List.length_nil] at this; omega
      · have hbb := hvb bb rfl
        have hbl : bb < H'.length := (List.getElem?_eq_some_iff.1 hbk).1
        have sb : ∀ X : Blk, (H'.set 2 X)[bb]? = H'[bb]? := fun X => hs_ne (by omega)
        have u2 : ∀ X Y : Blk, ((H'.set 2 X).set bb Y)[2]? = some X := fun X Y => by rw [hs_ne (by omega)]; exact s2 X
        have u1 : ∀ X Y : Blk, ((H'.set 2 X).set bb Y)[1]? = H'[1]? := fun X Y => by rw [hs_ne (by omega), hs_ne (by omega)]
        have ub : ∀ X Y Z : Blk, (((H'.set 2 X).set bb Y).set 1 Z)[bb]? = some Y := fun X Y Z => by rw [hs_ne (by omega), hs_set (by simp; omega)]
        rw [hl]
        simp -implicitDefEqProofs -dsimp (maxSteps := 1000000) (disch := first | omega | (simp only [wkLen]; omega) | decide +kernel) only [↓wkPre, ↓wkPre2, ↓wkE, wkPost, wkDef, wkF, simprocAttr, hl, gi, k1, k2, s2, sb, u2, u1, ub, hbk, hset, List.length_map, pgL_len, allP_map, take_pg, take_pgm, get0, get1, get2, getm0, getm1, getm2, get00, getm00, setm0, setm1, setm2, setm00, setR_pg, setR_pg1, flat_pg, flatL_app, eq_pg]
        rw [frzN_md (ub _ _ _) (by simp [hl]), show (fk : Int) - 1 = ((fk - 1 : Nat) : Int) by omega, hset ⟨fn, fb, fk - 1, fd⟩]
        rfl
theorem p29 (m : Md) (n : Int) (b : UInt8) (ok : m.ok) : PS Cf okf 29 [31, 41] [md m, I n, pgP b] (fun r => r = .tup [md (putF m n b).1, I (putF m n b).2]) := by
  refine PS.mk extMono Try.func29 body29 (by decide) rfl ?_
  simp only [c29, Try.f29, Option.getD_some]
  have h39 := p39 m n ok
  cases hf : findF m.L n with
  | none =>
    rw [heldF_none hf] at h39
    rw [putF_none hf]
    obtain ⟨room, L, W, met, miss⟩ := m
    simp -implicitDefEqProofs -dsimp (maxSteps := 1000000) (disch := first | omega | (simp only [wkLen]; omega) | decide +kernel) only [↓wkPre, ↓wkPre2, ↓wkE, wkPost, wkDef, wkF, simprocAttr, List.length_map, pgL_len, allP_map, take_pg, take_pgm, get0, get1, get2, getm0, getm1, getm2, get00, getm00, setm0, setm1, setm2, setm00, setR_pg, setR_pg1, flat_pg, flatL_app, eq_pg]
    refine PS.app md_39 Try.func39 h39 rfl ?_
    rintro _ rfl
    simp -implicitDefEqProofs -dsimp (maxSteps := 1000000) (disch := first | omega | (simp only [wkLen]; omega) | decide +kernel) only [↓wkPre, ↓wkPre2, ↓wkE, wkPost, wkDef, wkF, simprocAttr, List.length_map, pgL_len, allP_map, take_pg, take_pgm, get0, get1, get2, getm0, getm1, getm2, get00, getm00, setm0, setm1, setm2, setm00, setR_pg, setR_pg1, flat_pg, flatL_app, eq_pg]
  | some i =>
    obtain ⟨hi, hn⟩ := findF_some hf
    rw [heldF_some hf hi] at h39
    rw [putF_some hf hi]
    have gi := frs_get hi
    have hl := frs_len m.L
    have hL := ok.L
    have hk := ok.k _ (List.getElem_mem hi)
    have h36 := fun f => p36 m i f ok
    clear hf
    generalize hg : m.L[i] = f at *
    obtain ⟨room, L, W, met, miss⟩ := m
    obtain ⟨fn, fb, fk, fd⟩ := f
    dsimp only at *
    have hi' : i < L.length := hi
    by_cases hk0 : fk = 0
    · subst hk0
      rw [if_pos rfl] at h39
      rw [if_pos rfl]
      simp -implicitDefEqProofs -dsimp (maxSteps := 1000000) (disch := first | omega | (simp only [wkLen]; omega) | decide +kernel) only [↓wkPre, ↓wkPre2, ↓wkE, wkPost, wkDef, wkF, simprocAttr, List.length_map, pgL_len, allP_map, take_pg, take_pgm, get0, get1, get2, getm0, getm1, getm2, get00, getm00, setm0, setm1, setm2, setm00, setR_pg, setR_pg1, flat_pg, flatL_app, eq_pg]
      refine PS.app md_39 Try.func39 h39 rfl ?_
      rintro _ rfl
      simp -implicitDefEqProofs -dsimp (maxSteps := 1000000) (disch := first | omega | (simp only [wkLen]; omega) | decide +kernel) only [↓wkPre, ↓wkPre2, ↓wkE, wkPost, wkDef, wkF, simprocAttr, List.length_map, pgL_len, allP_map, take_pg, take_pgm, get0, get1, get2, getm0, getm1, getm2, get00, getm00, setm0, setm1, setm2, setm00, setR_pg, setR_pg1, flat_pg, flatL_app, eq_pg]
    · rw [if_neg hk0] at h39
      rw [if_neg hk0]
      simp -implicitDefEqProofs -dsimp (maxSteps := 1000000) (disch := first | omega | (simp only [wkLen]; omega) | decide +kernel) only [↓wkPre, ↓wkPre2, ↓wkE, wkPost, wkDef, wkF, simprocAttr, List.length_map, pgL_len, allP_map, take_pg, take_pgm, get0, get1, get2, getm0, getm1, getm2, get00, getm00, setm0, setm1, setm2, setm00, setR_pg, setR_pg1, flat_pg, flatL_app, eq_pg]
      refine PS.app md_39 Try.func39 h39 rfl ?_
      rintro _ rfl
      cases fd
      · simp -implicitDefEqProofs -dsimp (maxSteps := 1000000) (disch := first | omega | (simp only [wkLen]; omega) | decide +kernel) only [↓wkPre, ↓wkPre2, ↓wkE, wkPost, wkDef, wkF, simprocAttr, gi, hl, List.length_map, pgL_len, allP_map, take_pg, take_pgm, get0, get1, get2, getm0, getm1, getm2, get00, getm00, setm0, setm1, setm2, setm00, setR_pg, setR_pg1, flat_pg, flatL_app, eq_pg]
        refine PS.app md_36 Try.func36 (h36 ⟨fn, b, fk, !decide (fb = b)⟩) rfl ?_
        rintro _ rfl
        simp -implicitDefEqProofs -dsimp (maxSteps := 1000000) (disch := first | omega | (simp only [wkLen]; omega) | decide +kernel) only [↓wkPre, ↓wkPre2, ↓wkE, wkPost, wkDef, wkF, simprocAttr, gi, hl, List.length_map, pgL_len, allP_map, take_pg, take_pgm, get0, get1, get2, getm0, getm1, getm2, get00, getm00, setm0, setm1, setm2, setm00, setR_pg, setR_pg1, flat_pg, flatL_app, eq_pg]
        rfl
      · simp -implicitDefEqProofs -dsimp (maxSteps := 1000000) (disch := first | omega | (simp only [wkLen]; omega) | decide +kernel) only [↓wkPre, ↓wkPre2, ↓wkE, wkPost, wkDef, wkF, simprocAttr, gi, hl, List.length_map, pgL_len, allP_map, take_pg, take_pgm, get0, get1, get2, getm0, getm1, getm2, get00, getm00, setm0, setm1, setm2, setm00, setR_pg, setR_pg1, flat_pg, flatL_app, eq_pg]
        refine PS.app md_36 Try.func36 (h36 ⟨fn, b, fk, true⟩) rfl ?_
        rintro _ rfl
        simp -implicitDefEqProofs -dsimp (maxSteps := 1000000) (disch := first | omega | (simp only [wkLen]; omega) | decide +kernel) only [↓wkPre, ↓wkPre2, ↓wkE, wkPost, wkDef, wkF, simprocAttr, gi, hl, List.length_map, pgL_len, allP_map, take_pg, take_pgm, get0, get1, get2, getm0, getm1, getm2, get00, getm00, setm0, setm1, setm2, setm00, setR_pg, setR_pg1, flat_pg, flatL_app, eq_pg]
        rfl
/-- A page is pinned. -/
def pinF (m : Md) (n : Int) : Md × UInt8 × Nat := match findF m.L n with
  | some i => match m.L[i]? with
    | none => (m, 0, 0)
    | some f => (lastF { m with met := m.met + 1 } i { f with k := f.k + 1 }, f.b, 0)
  | none =>
    if (roomF { m with miss := m.miss + 1 }).2 ≠ 0 then ((roomF { m with miss := m.miss + 1 }).1, 0, (roomF { m with miss := m.miss + 1 }).2)
    else if n < 0 ∨ (m.W.length : Int) ≤ n then ((roomF { m with miss := m.miss + 1 }).1, 0, 2)
    else ({ (roomF { m with miss := m.miss + 1 }).1 with L := (roomF { m with miss := m.miss + 1 }).1.L ++ [⟨n, (roomF { m with miss := m.miss + 1 }).1.W.getD n.toNat 0, 1, false⟩] }, (roomF { m with miss := m.miss + 1 }).1.W.getD n.toNat 0, 0)
theorem pinF_some {m : Md} {n : Int} {i : Nat} (h : findF m.L n = some i) (hi : i < m.L.length) : pinF m n = (lastF { m with met := m.met + 1 } i { m.L[i] with k := m.L[i].k + 1 }, m.L[i].b, 0) := by
  unfold pinF; rw [h]
  show (match m.L[i]? with | none => (m, 0, 0) | some f => (lastF { m with met := m.met + 1 } i { f with k := f.k + 1 }, f.b, 0)) = _
  rw [List.getElem?_eq_getElem hi]
theorem pinF_none {m : Md} {n : Int} (h : findF m.L n = none) : pinF m n = if (roomF { m with miss := m.miss + 1 }).2 ≠ 0 then ((roomF { m with miss := m.miss + 1 }).1, 0, (roomF { m with miss := m.miss + 1 }).2)
    else if n < 0 ∨ (m.W.length : Int) ≤ n then ((roomF { m with miss := m.miss + 1 }).1, 0, 2)
    else ({ (roomF { m with miss := m.miss + 1 }).1 with L := (roomF { m with miss := m.miss + 1 }).1.L ++ [⟨n, (roomF { m with miss := m.miss + 1 }).1.W.getD n.toNat 0, 1, false⟩] }, (roomF { m with miss := m.miss + 1 }).1.W.getD n.toNat 0, 0) := by
  unfold pinF; rw [h]
theorem flushF_Wlen (m : Md) (n : Int) : (flushF m n).1.W.length = m.W.length := by
  unfold flushF
  split
  · rfl
  · split
    · rfl
    · split
      · rfl
      · simp [belowF]
theorem roomF_len (m : Md) : (roomF m).1.L.length ≤ m.L.length ∧ (roomF m).1.W.length = m.W.length := by
  unfold roomF
  split
  · exact ⟨Nat.le_refl _, rfl⟩
  · split
    · exact ⟨Nat.le_refl _, rfl⟩
    · split
      · exact ⟨Nat.le_refl _, rfl⟩
      · next f _ =>
        refine ⟨?_, flushF_Wlen _ _⟩
        have := woF_len (flushF m f.n).1.L
        have h2 := flushF_len m f.n
        dsimp only
        rw [← h2]; exact this _
end Go.Ev.F28
end
section
namespace Go.Ev.F28
open Go.Proofs Go.Ev
set_option maxRecDepth 100000
set_option linter.all false
theorem p27 (m : Md) (n : Int) (ok : m.ok) (hm : m.met + 1 ≤ 100000) (hs : m.miss + 1 ≤ 100000) (hk1 : ∀ f ∈ m.L, f.k + 1 ≤ 100000) : PS Cf okf 27 [31, 40, 41] [md m, I n] (fun r => r = .tup [md (pinF m n).1, pgP (pinF m n).2.1, I (pinF m n).2.2]) := by
  refine PS.mk extMono Try.func27 body27 (by decide) rfl ?_
  simp only [c27, Try.f27, Option.getD_some]
  have h32 := p32 m n (by have := ok.L; omega)
  cases hf : findF m.L n with
  | none =>
    rw [posF_none hf] at h32
    rw [pinF_none hf]
    have h37 := p37 { m with miss := m.miss + 1 } ⟨ok.room, ok.L, ok.W, ok.met, hs, ok.k, ok.n⟩
    have hrl := roomF_len { m with miss := m.miss + 1 }
    have hL := ok.L
    have hW := ok.W
    have hl := pgs_len m.W
    have hms := ok.miss
    generalize hF : roomF { m with miss := m.miss + 1 } = F at *
    obtain ⟨room, L, W, met, miss⟩ := m
    obtain ⟨⟨room', L', W', met', miss'⟩, c⟩ := F
    dsimp only at *
    by_cases hc : c = 0
    · subst hc
      rw [if_neg (by simp)]
      by_cases hb : n < 0 ∨ (W.length : Int) ≤ n
      · rw [if_pos hb]
        by_cases h0 : n < 0
        · simp -implicitDefEqProofs -dsimp (maxSteps := 1000000) (disch := first | omega | (simp only [wkLen]; omega) | decide +kernel) only [↓wkPre, ↓wkPre2, ↓wkE, wkPost, wkDef, wkF, simprocAttr, List.length_map, pgL_len, allP_map, take_pg, take_pgm, get0, get1, get2, getm0, getm1, getm2, get00, getm00, setm0, setm1, setm2, setm00, setR_pg, setR_pg1, flat_pg, flatL_app, eq_pg]
          refine PS.app md_32 Try.func32 h32 rfl ?_
          rintro _ rfl
          simp -implicitDefEqProofs -dsimp (maxSteps := 1000000) (disch := first | omega | (simp only [wkLen]; omega) | decide +kernel) only [↓wkPre, ↓wkPre2, ↓wkE, wkPost, wkDef, wkF, simprocAttr, List.length_map, pgL_len, allP_map, take_pg, take_pgm, get0, get1, get2, getm0, getm1, getm2, get00, getm00, setm0, setm1, setm2, setm00, setR_pg, setR_pg1, flat_pg, flatL_app, eq_pg]
          refine PS.app md_37 Try.func37 h37 rfl ?_
          rintro _ rfl
          simp -implicitDefEqProofs -dsimp (maxSteps := 1000000) (disch := first | omega | (simp only [wkLen]; omega) | decide +kernel) only [↓wkPre, ↓wkPre2, ↓wkE, wkPost, wkDef, wkF, simprocAttr, hl, h0, List.length_map, pgL_len, allP_map, take_pg, take_pgm, get0, get1, get2, getm0, getm1, getm2, get00, getm00, setm0, setm1, setm2, setm00, setR_pg, setR_pg1, flat_pg, flatL_app, eq_pg]
        · have h1 : (W.length : Int) ≤ n := by omega
          simp -implicitDefEqProofs -dsimp (maxSteps := 1000000) (disch := first | omega | (simp only [wkLen]; omega) | decide +kernel) only [↓wkPre, ↓wkPre2, ↓wkE, wkPost, wkDef, wkF, simprocAttr, List.length_map, pgL_len, allP_map, take_pg, take_pgm, get0, get1, get2, getm0, getm1, getm2, get00, getm00, setm0, setm1, setm2, setm00, setR_pg, setR_pg1, flat_pg, flatL_app, eq_pg]
          refine PS.app md_32 Try.func32 h32 rfl ?_
          rintro _ rfl
          simp -implicitDefEqProofs -dsimp (maxSteps := 1000000) (disch := first | omega | (simp only [wkLen]; omega) | decide +kernel) only [↓wkPre, ↓wkPre2, ↓wkE, wkPost, wkDef, wkF, simprocAttr, List.length_map, pgL_len, allP_map, take_pg, take_pgm, get0, get1, get2, getm0, getm1, getm2, get00, getm00, setm0, setm1, setm2, setm00, setR_pg, setR_pg1, flat_pg, flatL_app, eq_pg]
          refine PS.app md_37 Try.func37 h37 rfl ?_
          rintro _ rfl
          simp -implicitDefEqProofs -dsimp (maxSteps := 1000000) (disch := first | omega | (simp only [wkLen]; omega) | decide +kernel) only [↓wkPre, ↓wkPre2, ↓wkE, wkPost, wkDef, wkF, simprocAttr, hl, h0, h1, List.length_map, pgL_len, allP_map, take_pg, take_pgm, get0, get1, get2, getm0, getm1, getm2, get00, getm00, setm0, setm1, setm2, setm00, setR_pg, setR_pg1, flat_pg, flatL_app, eq_pg]
      · rw [if_neg hb]
        obtain ⟨i, rfl⟩ : ∃ i : Nat, n = i := ⟨n.toNat, by omega⟩
        have hi : i < W'.length := by omega
        have gi := pgs_get hi
        have hl' := pgs_len W'
        have hl2 := frs_len L'
        have h38 := w38 L' (-1)
        have e38 : woF L' (-1) = L' := rfl
        rw [e38] at h38
        have hgd : W'.getD (i : Int).toNat 0 = W'[i] := by simp [hi]
        rw [hgd]
        simp -implicitDefEqProofs -dsimp (maxSteps := 1000000) (disch := first | omega | (simp only [wkLen]; omega) | decide +kernel) only [↓wkPre, ↓wkPre2, ↓wkE, wkPost, wkDef, wkF, simprocAttr, List.length_map, pgL_len, allP_map, take_pg, take_pgm, get0, get1, get2, getm0, getm1, getm2, get00, getm00, setm0, setm1, setm2, setm00, setR_pg, setR_pg1, flat_pg, flatL_app, eq_pg]
        refine PS.app md_32 Try.func32 h32 rfl ?_
        rintro _ rfl
        simp -implicitDefEqProofs -dsimp (maxSteps := 1000000) (disch := first | omega | (simp only [wkLen]; omega) | decide +kernel) only [↓wkPre, ↓wkPre2, ↓wkE, wkPost, wkDef, wkF, simprocAttr, List.length_map, pgL_len, allP_map, take_pg, take_pgm, get0, get1, get2, getm0, getm1, getm2, get00, getm00, setm0, setm1, setm2, setm00, setR_pg, setR_pg1, flat_pg, flatL_app, eq_pg]
        refine PS.app md_37 Try.func37 h37 rfl ?_
        rintro _ rfl
        simp -implicitDefEqProofs -dsimp (maxSteps := 1000000) (disch := first | omega | (simp only [wkLen]; omega) | decide +kernel) only [↓wkPre, ↓wkPre2, ↓wkE, wkPost, wkDef, wkF, simprocAttr, hl, hl', gi, List.length_map, pgL_len, allP_map, take_pg, take_pgm, get0, get1, get2, getm0, getm1, getm2, get00, getm00, setm0, setm1, setm2, setm00, setR_pg, setR_pg1, flat_pg, flatL_app, eq_pg]
        refine evC_pl pl_27_15 (by kernel_rfl) (by decide +kernel) ?_
        simp only [pl_27_15]
        simp -implicitDefEqProofs -dsimp (maxSteps := 1000000) (disch := first | omega | (simp only [wkLen]; omega) | decide +kernel) only [↓wkPre, ↓wkPre2, ↓wkE, wkPost, wkDef, wkF, simprocAttr, hl, hl', gi, List.length_map, pgL_len, allP_map, take_pg, take_pgm, get0, get1, get2, getm0, getm1, getm2, get00, getm00, setm0, setm1, setm2, setm00, setR_pg, setR_pg1, flat_pg, flatL_app, eq_pg]
        refine ⟨?_, ?_⟩
        · skip
          refine imp_call md_38 (h38 _ (by omega) _ ?_)
          intro v H' hown hvb hfr hle
          simp only [List.length_cons, List.length_nil] at hvb hfr hle
          have k1 := hfr 1 (by omega)
          have k2 := hfr 2 (by omega)
          have k4 := hfr 4 (by omega)
          have k5 := hfr 5 (by omega)
          simp only [List.getElem?_cons_succ, List.getElem?_cons_zero] at k1 k2 k4 k5
          simp -implicitDefEqProofs -dsimp (maxSteps := 1000000) (disch := first | omega | (simp only [wkLen]; omega) | decide +kernel) only [↓wkPre, ↓wkPre2, ↓wkE, wkPost, wkDef, wkF, simprocAttr, k1, k2, k4, k5, hl, hl', gi, List.length_map, pgL_len, allP_map, take_pg, take_pgm, get0, get1, get2, getm0, getm1, getm2, get00, getm00, setm0, setm1, setm2, setm00, setR_pg, setR_pg1, flat_pg, flatL_app, eq_pg]
          refine append_step telem_28 (elems_new rfl rfl) (by simp) (hown.app _) ?_ ?_
          · rw [byt_66, hl2]; simp; omega
          intro w' H2 hown2 hfr2 hle2 hb2
          replace hown2 : OwnS H2 w' 227 (frs (L' ++ [⟨i, W'[i], 1, false⟩])) := by rw [frs_snoc]; exact hown2
          try simp only [List.length_append, List.length_cons, List.length_nil] at hfr2 hle2 hb2
          have nb : ∀ c, c < 6 → v.blk ≠ some c := fun c hc h => by have := hvb c h; omega
          have q1 := (hfr2 1 (by omega) (nb 1 (by omega))).trans ((hs_app (by omega)).trans k1)
          have q2 := (hfr2 2 (by omega) (nb 2 (by omega))).trans ((hs_app (by omega)).trans k2)
          have q4 := (hfr2 4 (by omega) (nb 4 (by omega))).trans ((hs_app (by omega)).trans k4)
          have q5 := (hfr2 5 (by omega) (nb 5 (by omega))).trans ((hs_app (by omega)).trans k5)
          have s4 : ∀ X : Blk, (H2.set 4 X)[4]? = some X := fun X => hs_set (by omega)
          have sn : ∀ (X : Blk) (j : Nat), j ≠ 4 → (H2.set 4 X)[j]? = H2[j]? := fun X j h => hs_ne (by omega)
          have s1 : ∀ X : Blk, (H2.set 4 X)[1]? = H2[1]? := fun X => sn X 1 (by omega)
          have s2 : ∀ X : Blk, (H2.set 4 X)[2]? = H2[2]? := fun X => sn X 2 (by omega)
          have s5 : ∀ X : Blk, (H2.set 4 X)[5]? = H2[5]? := fun X => sn X 5 (by omega)
          have t1 : ∀ X Y : Blk, ((H2.set 4 X).set 1 Y)[1]? = some Y := fun X Y => hs_set (by simp; omega)
          have t2 : ∀ X Y : Blk, ((H2.set 4 X).set 1 Y)[2]? = H2[2]? := fun X Y => by rw [hs_ne (by omega)]; exact s2 X
          have u2 : ∀ X Y Z : Blk, (((H2.set 4 X).set 1 Y).set 2 Z)[2]? = some Z := fun X Y Z => hs_set (by simp; omega)
          have u1 : ∀ X Y Z : Blk, (((H2.set 4 X).set 1 Y).set 2 Z)[1]? = some Y := fun X Y Z => by rw [hs_ne (by omega)]; exact t1 X Y
          rcases hown2 with ⟨_, hx⟩ | ⟨bb, g, rfl, hbk⟩
          · have := congrArg List.length hx
            rw [frs_len] at this; simp at this
          · have hbb : 6 ≤ bb := by
              by_cases h : bb < 6
              · have := hvb bb (hb2 bb rfl (by omega)); omega
              · omega
            have kb : ∀ X Y Z : Blk, (((H2.set 4 X).set 1 Y).set 2 Z)[bb]? = H2[bb]? := fun X Y Z => by rw [hs_ne (by omega), hs_ne (by omega), hs_ne (by omega)]
            simp -implicitDefEqProofs -dsimp (maxSteps := 1000000) (disch := first | omega | (simp only [wkLen]; omega) | decide +kernel) only [↓wkPre, ↓wkPre2, ↓wkE, wkPost, wkDef, wkF, simprocAttr, q1, q2, q4, q5, s4, s1, s2, s5, t1, t2, u2, u1, kb, hbk, List.length_map, pgL_len, allP_map, take_pg, take_pgm, get0, get1, get2, getm0, getm1, getm2, get00, getm00, setm0, setm1, setm2, setm00, setR_pg, setR_pg1, flat_pg, flatL_app, eq_pg]
            refine evC_pl pl_27_16 (by kernel_rfl) (by decide +kernel) ?_
            simp only [pl_27_16]
            simp -implicitDefEqProofs -dsimp (maxSteps := 1000000) (disch := first | omega | (simp only [wkLen]; omega) | decide +kernel) only [↓wkPre, ↓wkPre2, ↓wkE, wkPost, wkDef, wkF, simprocAttr, q1, q2, q4, q5, s4, s1, s2, s5, t1, t2, u2, u1, kb, hbk, List.length_map, pgL_len, allP_map, take_pg, take_pgm, get0, get1, get2, getm0, getm1, getm2, get00, getm00, setm0, setm1, setm2, setm00, setR_pg, setR_pg1, flat_pg, flatL_app, eq_pg]
            rw [frzN_md (by rw [kb]; exact hbk) rfl]
            rfl
        · skip
          refine imp_call md_38 (h38 _ (by omega) _ ?_)
          intro v H' hown hvb hfr hle
          simp only [List.length_cons, List.length_nil] at hvb hfr hle
          have k1 := hfr 1 (by omega)
          have k2 := hfr 2 (by omega)
          have k4 := hfr 4 (by omega)
          have k5 := hfr 5 (by omega)
          have k6 := hfr 6 (by omega)
          simp only [List.getElem?_cons_succ, List.getElem?_cons_zero] at k1 k2 k4 k5 k6
          simp -implicitDefEqProofs -dsimp (maxSteps := 1000000) (disch := first | omega | (simp only [wkLen]; omega) | decide +kernel) only [↓wkPre, ↓wkPre2, ↓wkE, wkPost, wkDef, wkF, simprocAttr, k1, k2, k4, k5, hl, hl', gi, List.length_map, pgL_len, allP_map, take_pg, take_pgm, get0, get1, get2, getm0, getm1, getm2, get00, getm00, setm0, setm1, setm2, setm00, setR_pg, setR_pg1, flat_pg, flatL_app, eq_pg]
          refine append_step telem_28 (ys := [fr ⟨i, W'[i], 1, false⟩]) (by simp [elems, k6]) (by simp) hown ?_ ?_
          · rw [byt_66, hl2]; simp; omega
          intro w' H2 hown2 hfr2 hle2 hb2
          replace hown2 : OwnS H2 w' 227 (frs (L' ++ [⟨i, W'[i], 1, false⟩])) := by rw [frs_snoc]; exact hown2
          try simp only [List.length_append, List.length_cons, List.length_nil] at hfr2 hle2 hb2
          have nb : ∀ c, c < 7 → v.blk ≠ some c := fun c hc h => by have := hvb c h; omega
          have q1 := (hfr2 1 (by omega) (nb 1 (by omega))).trans (k1)
          have q2 := (hfr2 2 (by omega) (nb 2 (by omega))).trans (k2)
          have q4 := (hfr2 4 (by omega) (nb 4 (by omega))).trans (k4)
          have q5 := (hfr2 5 (by omega) (nb 5 (by omega))).trans (k5)
          have s4 : ∀ X : Blk, (H2.set 4 X)[4]? = some X := fun X => hs_set (by omega)
          have sn : ∀ (X : Blk) (j : Nat), j ≠ 4 → (H2.set 4 X)[j]? = H2[j]? := fun X j h => hs_ne (by omega)
          have s1 : ∀ X : Blk, (H2.set 4 X)[1]? = H2[1]? := fun X => sn X 1 (by omega)
          have s2 : ∀ X : Blk, (H2.set 4 X)[2]? = H2[2]? := fun X => sn X 2 (by omega)
          have s5 : ∀ X : Blk, (H2.set 4 X)[5]? = H2[5]? := fun X => sn X 5 (by omega)
          have t1 : ∀ X Y : Blk, ((H2.set 4 X).set 1 Y)[1]? = some Y := fun X Y => hs_set (by simp; omega)
          have t2 : ∀ X Y : Blk, ((H2.set 4 X).set 1 Y)[2]? = H2[2]? := fun X Y => by rw [hs_ne (by omega)]; exact s2 X
          have u2 : ∀ X Y Z : Blk, (((H2.set 4 X).set 1 Y).set 2 Z)[2]? = some Z := fun X Y Z => hs_set (by simp; omega)
          have u1 : ∀ X Y Z : Blk, (((H2.set 4 X).set 1 Y).set 2 Z)[1]? = some Y := fun X Y Z => by rw [hs_ne (by omega)]; exact t1 X Y
          rcases hown2 with ⟨_, hx⟩ | ⟨bb, g, rfl, hbk⟩
          · have := congrArg List.length hx
            rw [frs_len] at this; simp at this
          · have hbb : 6 ≤ bb := by
              by_cases h : bb < 7
              · have := hvb bb (hb2 bb rfl (by omega)); omega
              · omega
            have kb : ∀ X Y Z : Blk, (((H2.set 4 X).set 1 Y).set 2 Z)[bb]? = H2[bb]? := fun X Y Z => by rw [hs_ne (by omega), hs_ne (by omega), hs_ne (by omega)]
            simp -implicitDefEqProofs -dsimp (maxSteps := 1000000) (disch := first | omega | (simp only [wkLen]; omega) | decide +kernel) only [↓wkPre, ↓wkPre2, ↓wkE, wkPost, wkDef, wkF, simprocAttr, q1, q2, q4, q5, s4, s1, s2, s5, t1, t2, u2, u1, kb, hbk, List.length_map, pgL_len, allP_map, take_pg, take_pgm, get0, get1, get2, getm0, getm1, getm2, get00, getm00, setm0, setm1, setm2, setm00, setR_pg, setR_pg1, flat_pg, flatL_app, eq_pg]
            refine evC_pl pl_27_16 (by kernel_rfl) (by decide +kernel) ?_
            simp only [pl_27_16]
            simp -implicitDefEqProofs -dsimp (maxSteps := 1000000) (disch := first | omega | (simp only [wkLen]; omega) | decide +kernel) only [↓wkPre, ↓wkPre2, ↓wkE, wkPost, wkDef, wkF, simprocAttr, q1, q2, q4, q5, s4, s1, s2, s5, t1, t2, u2, u1, kb, hbk, List.length_map, pgL_len, allP_map, take_pg, take_pgm, get0, get1, get2, getm0, getm1, getm2, get00, getm00, setm0, setm1, setm2, setm00, setR_pg, setR_pg1, flat_pg, flatL_app, eq_pg]
            rw [frzN_md (by rw [kb]; exact hbk) rfl]
            rfl
    · rw [if_pos (by simpa using hc)]
      simp -implicitDefEqProofs -dsimp (maxSteps := 1000000) (disch := first | omega | (simp only [wkLen]; omega) | decide +kernel) only [↓wkPre, ↓wkPre2, ↓wkE, wkPost, wkDef, wkF, simprocAttr, List.length_map, pgL_len, allP_map, take_pg, take_pgm, get0, get1, get2, getm0, getm1, getm2, get00, getm00, setm0, setm1, setm2, setm00, setR_pg, setR_pg1, flat_pg, flatL_app, eq_pg]
      refine PS.app md_32 Try.func32 h32 rfl ?_
      rintro _ rfl
      simp -implicitDefEqProofs -dsimp (maxSteps := 1000000) (disch := first | omega | (simp only [wkLen]; omega) | decide +kernel) only [↓wkPre, ↓wkPre2, ↓wkE, wkPost, wkDef, wkF, simprocAttr, List.length_map, pgL_len, allP_map, take_pg, take_pgm, get0, get1, get2, getm0, getm1, getm2, get00, getm00, setm0, setm1, setm2, setm00, setR_pg, setR_pg1, flat_pg, flatL_app, eq_pg]
      refine PS.app md_37 Try.func37 h37 rfl ?_
      rintro _ rfl
      simp -implicitDefEqProofs -dsimp (maxSteps := 1000000) (disch := first | omega | (simp only [wkLen]; omega) | decide +kernel) only [↓wkPre, ↓wkPre2, ↓wkE, wkPost, wkDef, wkF, simprocAttr, hc, List.length_map, pgL_len, allP_map, take_pg, take_pgm, get0, get1, get2, getm0, getm1, getm2, get00, getm00, setm0, setm1, setm2, setm00, setR_pg, setR_pg1, flat_pg, flatL_app, eq_pg]
  | some i =>
    rw [posF_some hf] at h32
    obtain ⟨hi, hn⟩ := findF_some hf
    rw [pinF_some hf hi]
    have gi := frs_get hi
    have hl := frs_len m.L
    have hL := ok.L
    have hk := ok.k _ (List.getElem_mem hi)
    have hk1 := hk1 _ (List.getElem_mem hi)
    have hmt := ok.met
    have h36 := fun f => p36 { m with met := m.met + 1 } i f ⟨ok.room, ok.L, ok.W, hm, ok.miss, ok.k, ok.n⟩
    clear hf
    generalize hg : m.L[i] = f at *
    obtain ⟨room, L, W, met, miss⟩ := m
    obtain ⟨fn, fb, fk, fd⟩ := f
    dsimp only at *
    have hi' : i < L.length := hi
    simp -implicitDefEqProofs -dsimp (maxSteps := 1000000) (disch := first | omega | (simp only [wkLen]; omega) | decide +kernel) only [↓wkPre, ↓wkPre2, ↓wkE, wkPost, wkDef, wkF, simprocAttr, List.length_map, pgL_len, allP_map, take_pg, take_pgm, get0, get1, get2, getm0, getm1, getm2, get00, getm00, setm0, setm1, setm2, setm00, setR_pg, setR_pg1, flat_pg, flatL_app, eq_pg]
    refine PS.app md_32 Try.func32 h32 rfl ?_
    rintro _ rfl
    simp -implicitDefEqProofs -dsimp (maxSteps := 1000000) (disch := first | omega | (simp only [wkLen]; omega) | decide +kernel) only [↓wkPre, ↓wkPre2, ↓wkE, wkPost, wkDef, wkF, simprocAttr, hl, gi, List.length_map, pgL_len, allP_map, take_pg, take_pgm, get0, get1, get2, getm0, getm1, getm2, get00, getm00, setm0, setm1, setm2, setm00, setR_pg, setR_pg1, flat_pg, flatL_app, eq_pg]
    refine evC_pl pl_27_7 (by kernel_rfl) (by decide +kernel) ?_
    simp only [pl_27_7]
    simp -implicitDefEqProofs -dsimp (maxSteps := 1000000) (disch := first | omega | (simp only [wkLen]; omega) | decide +kernel) only [↓wkPre, ↓wkPre2, ↓wkE, wkPost, wkDef, wkF, simprocAttr, hl, gi, List.length_map, pgL_len, allP_map, take_pg, take_pgm, get0, get1, get2, getm0, getm1, getm2, get00, getm00, setm0, setm1, setm2, setm00, setR_pg, setR_pg1, flat_pg, flatL_app, eq_pg]
    refine PS.app md_36 Try.func36 (h36 ⟨fn, fb, fk + 1, fd⟩) rfl ?_
    rintro _ rfl
    simp -implicitDefEqProofs -dsimp (maxSteps := 1000000) (disch := first | omega | (simp only [wkLen]; omega) | decide +kernel) only [↓wkPre, ↓wkPre2, ↓wkE, wkPost, wkDef, wkF, simprocAttr, hl, gi, List.length_map, pgL_len, allP_map, take_pg, take_pgm, get0, get1, get2, getm0, getm1, getm2, get00, getm00, setm0, setm1, setm2, setm00, setR_pg, setR_pg1, flat_pg, flatL_app, eq_pg]
end Go.Ev.F28
end
