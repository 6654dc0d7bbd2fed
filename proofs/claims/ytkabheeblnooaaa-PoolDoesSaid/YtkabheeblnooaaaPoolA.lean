/- A part of the proof: walks of the functions that the law calls. No condition. -/
import Derived.Test.YtkabheeblnooaaaHeap
set_option linter.all false
section
namespace Go.Ev.F28
open Go.Proofs Go.Ev
set_option maxRecDepth 100000
set_option linter.all false
section
variable {H : Heap} {c : Pos} {m : Md} {X : List Fx} {t w : Nat}
theorem w15 (h : Inv H c m X t w) (n : Int) (Q : AV → Heap → Prop) (hq : ∀ H' X', Inv H' c (unpinF m n).1 X' t w → Keep c H H' X X' → Q (.p (I (unpinF m n).2)) H') : (Ev.W Cf okf).call 15 [.vptr c.pp 0, .p (I n)] H Q := by
  refine top_mk extMono Try.func15 body15 (by decide) rfl ?_
  simp only [c15, Try.f15, Option.getD_some]
  have hp := h.pool
  cases hf : findF m.L n with
  | none =>
    rw [unpinF_none hf] at hq
    have hk := look_n h hf
    simp -implicitDefEqProofs -dsimp (maxSteps := 1000000) (disch := first | omega | (simp only [wkLen]; omega) | decide +kernel) only [↓wkPre, ↓wkPre2, ↓wkE, wkPost, wkDef, wkF, simprocAttr, hp, hk, nn_v, nn_fn, List.length_map, pgL_len, allP_map, take_pg, take_pgm, get0, get1, get2, getm0, getm1, getm2, get00, getm00, setm0, setm1, setm2, setm00, setR_pg, setR_pg1, flat_pg, flatL_app, eq_pg]
    exact hq _ _ h .rfl
  | some i =>
    obtain ⟨hi, hn, hL, hk, hx⟩ := look_s h hf
    have hiL : i < m.L.length := by rw [h.L]; simpa using hi
    rw [unpinF_some hf hiL] at hq
    have eL : m.L[i] = X[i].f := by rw [List.getElem?_eq_getElem hiL] at hL; exact Option.some.inj hL
    rw [eL] at hq
    have hkb := h.ok.k _ (List.getElem_mem hiL)
    rw [eL] at hkb
    have hqlt := h.lt _ (memq (List.getElem_mem hi))
    by_cases hk0 : X[i].f.k = 0
    · rw [if_pos hk0] at hq
      simp -implicitDefEqProofs -dsimp (maxSteps := 1000000) (disch := first | omega | (simp only [wkLen]; omega) | decide +kernel) only [↓wkPre, ↓wkPre2, ↓wkE, wkPost, wkDef, wkF, simprocAttr, hp, hk, hx, hk0, nn_v, nn_fn, List.length_map, pgL_len, allP_map, take_pg, take_pgm, get0, get1, get2, getm0, getm1, getm2, get00, getm00, setm0, setm1, setm2, setm00, setR_pg, setR_pg1, flat_pg, flatL_app, eq_pg]
      exact hq _ _ h .rfl
    · rw [if_neg hk0] at hq
      simp -implicitDefEqProofs -dsimp (maxSteps := 1000000) (disch := first | omega | (simp only [wkLen]; omega) | decide +kernel) only [↓wkPre, ↓wkPre2, ↓wkE, wkPost, wkDef, wkF, simprocAttr, hp, hk, hx, hk0, nn_v, nn_fn, List.length_map, pgL_len, allP_map, take_pg, take_pgm, get0, get1, get2, getm0, getm1, getm2, get00, getm00, setm0, setm1, setm2, setm00, setR_pg, setR_pg1, flat_pg, flatL_app, eq_pg]
      have hput := Inv.put (H' := H.set X[i].q (frB { X[i].f with k := X[i].f.k - 1 } X[i].u)) h hi (f' := { X[i].f with k := X[i].f.k - 1 }) rfl (by dsimp only; omega) (hs_set hqlt) (fun j _ hj => hs_ne hj.symm)
      rw [show (X[i].f.k : Int) - 1 = ((X[i].f.k - 1 : Nat) : Int) by omega]
      exact hq _ _ hput (Keep.mk' (by simp) (fun j hj hf => hs_ne (fun e => hf (e ▸ memq (List.getElem_mem hi)))) (set_map _ hi rfl))
theorem touchL {H1 : Heap} (h' : Inv H1 c m X t w) {i : Nat} (hi : i < X.length) (f' : Fr) {H2 : Heap} {a : Nat} (e1 : f'.n = X[i].f.n) (ek : f'.k ≤ 100000) (e3 : H2[X[i].q]? = some (frB f' X[i].u)) (ha : a ≤ 100000) (ht : t + 1 ≤ 100000) (e4 : H2[c.pp]? = some (poolB c m.room t a m.miss)) (e5 : H1.length ≤ H2.length) (e6 : ∀ j, j < H1.length → j ≠ X[i].q → j ≠ c.pp → H2[j]? = H1[j]?) (k : AV → Heap → Prop)
    (hq : ∀ H' X' t', Inv H' c (lastF { m with met := a } i f') X' t' w → t' ≤ t + 1 → Keep c H1 H' X X' → H'[X[i].q]? = some (frB f' t') → (∀ j, j < H2.length → j ≠ X[i].q → j ≠ c.pp → H'[j]? = H2[j]?) → k (.vptr X[i].q 0) H') : (Ev.W Cf okf).call 33 [.vptr c.pp 0, .vptr X[i].q 0] H2 k := by
  have hne := (h'.ne.2.2.2.2.2.2.2.2.2.2 _ (List.getElem_mem hi)).1
  have hqlt := h'.lt _ (memq (List.getElem_mem hi))
  have hplt := h'.lt c.pp (by simp [Foot])
  refine w33 e4 e3 hne (by omega) _ ?_
  have kq : (((H2.set c.pp (poolB c m.room (t + 1) a m.miss)).set X[i].q (frB f' (t + 1))))[X[i].q]? = some (frB f' (t + 1)) := hs_set (by simp; omega)
  have kj : ∀ j, j ≠ X[i].q → j ≠ c.pp → (((H2.set c.pp (poolB c m.room (t + 1) a m.miss)).set X[i].q (frB f' (t + 1))))[j]? = H2[j]? := fun j h1 h2 => by rw [hs_ne h1.symm, hs_ne h2.symm]
  refine hq _ _ _ (Inv.last h' hi e1 ek ha ht ?_ kq ?_) (Nat.le_refl _) ⟨by simp; omega, ?_, ?_⟩ kq (fun j _ h1 h2 => kj j h1 h2)
  · rw [hs_ne hne.symm, hs_set (by omega)]
  · intro j hj h1 h2
    rw [kj j h2 h1]; exact e6 j (h'.lt j hj) h2 h1
  · intro j hj hf
    have h1 : j ≠ X[i].q := fun e => hf (by rw [e]; exact memq (List.getElem_mem hi))
    have h2 : j ≠ c.pp := fun e => hf (by simp [Foot, e])
    rw [kj j h1 h2]; exact e6 j hj h1 h2
  · intro j hj
    have hpm := Foot_perm (c := c) (last_perm (x := (⟨f', X[i].q, t + 1⟩ : Fx)) (·.q) hi rfl)
    exact .inl (hpm.mem_iff.1 hj)
theorem w11 (h : Inv H c m X t w) (n : Int) (b : UInt8) (ht : t + 1 ≤ 100000) (Q : AV → Heap → Prop) (hq : ∀ H' X' t', Inv H' c (putF m n b).1 X' t' w → t' ≤ t + 1 → Keep c H H' X X' → Q (.p (I (putF m n b).2)) H') : (Ev.W Cf okf).call 11 [.vptr c.pp 0, .p (I n), .p (pgP b)] H Q := by
  refine top_mk extMono Try.func11 body11 (by decide) rfl ?_
  simp only [c11, Try.f11, Option.getD_some]
  have h' := h.app [.var true (.p (pgP b))]
  generalize hH1 : H ++ [.var true (.p (pgP b))] = H1 at h'
  have hkp : ∀ {H' X'}, Keep c H1 H' X X' → Keep c H H' X X' := fun k => (hH1 ▸ k).pre
  have hlen : H1.length = H.length + 1 := by rw [← hH1]; simp
  have hbk : H1[H.length]? = some (.var true (.p (pgP b))) := by rw [← hH1]; simp
  have hp := h'.pool
  have hlt := h.lt
  cases hf : findF m.L n with
  | none =>
    rw [putF_none hf] at hq
    have hk := look_n h' hf
    simp -implicitDefEqProofs -dsimp (maxSteps := 1000000) (disch := first | omega | (simp only [wkLen]; omega) | decide +kernel) only [↓wkPre, ↓wkPre2, ↓wkE, wkPost, wkDef, wkF, simprocAttr, hH1, hp, hk, nn_v, nn_fn, List.length_map, pgL_len, allP_map, take_pg, take_pgm, get0, get1, get2, getm0, getm1, getm2, get00, getm00, setm0, setm1, setm2, setm00, setR_pg, setR_pg1, flat_pg, flatL_app, eq_pg]
    exact hq _ _ _ h' (by omega) (hkp .rfl)
  | some i =>
    obtain ⟨hi, hn, hL, hk, hx⟩ := look_s h' hf
    have hiL : i < m.L.length := by rw [h.L]; simpa using hi
    rw [putF_some hf hiL] at hq
    have eL : m.L[i] = X[i].f := by rw [List.getElem?_eq_getElem hiL] at hL; exact Option.some.inj hL
    rw [eL] at hq
    have hkb := h.ok.k _ (List.getElem_mem hiL)
    rw [eL] at hkb
    have hqlt0 := h.lt _ (memq (List.getElem_mem hi))
    have hqlt := h'.lt _ (memq (List.getElem_mem hi))
    have hplt := h'.lt c.pp (by simp [Foot])
    have hne := (h.ne.2.2.2.2.2.2.2.2.2.2 _ (List.getElem_mem hi)).1
    by_cases hk0 : X[i].f.k = 0
    · rw [if_pos hk0] at hq
      simp -implicitDefEqProofs -dsimp (maxSteps := 1000000) (disch := first | omega | (simp only [wkLen]; omega) | decide +kernel) only [↓wkPre, ↓wkPre2, ↓wkE, wkPost, wkDef, wkF, simprocAttr, hH1, hp, hk, hx, hk0, nn_v, nn_fn, List.length_map, pgL_len, allP_map, take_pg, take_pgm, get0, get1, get2, getm0, getm1, getm2, get00, getm00, setm0, setm1, setm2, setm00, setR_pg, setR_pg1, flat_pg, flatL_app, eq_pg]
      exact hq _ _ _ h' (by omega) (hkp .rfl)
    · rw [if_neg hk0] at hq
      have hs1 : ∀ x : Blk, (H1.set X[i].q x)[X[i].q]? = some x := fun x => hs_set hqlt
      have hs2 : ∀ x : Blk, (H1.set X[i].q x)[H.length]? = some (.var true (.p (pgP b))) := fun x => (hs_ne (by omega)).trans hbk
      cases hd : X[i].f.d
      · simp -implicitDefEqProofs -dsimp (maxSteps := 1000000) (disch := first | omega | (simp only [wkLen]; omega) | decide +kernel) only [↓wkPre, ↓wkPre2, ↓wkE, wkPost, wkDef, wkF, simprocAttr, hH1, hp, hk, hx, hk0, hd, hbk, hs1, hs2, nn_v, nn_fn, List.length_map, pgL_len, allP_map, take_pg, take_pgm, get0, get1, get2, getm0, getm1, getm2, get00, getm00, setm0, setm1, setm2, setm00, setR_pg, setR_pg1, flat_pg, flatL_app, eq_pg]
        rw [hd] at hq
        refine imp_call md_33 (touchL h' hi ⟨X[i].f.n, b, X[i].f.k, !decide (X[i].f.b = b)⟩ rfl hkb (hs_set (by simp; omega)) h.ok.met (by omega) ?_ (by simp) ?_ _ ?_)
        · rw [hs_ne hne.symm, hs_ne hne.symm]; exact hp
        · intro j hj h1 h2
          rw [hs_ne h1.symm, hs_ne h1.symm]
        intro H' X' t' hI ht' hK _ _
        simp -implicitDefEqProofs -dsimp (maxSteps := 1000000) (disch := first | omega | (simp only [wkLen]; omega) | decide +kernel) only [↓wkPre, ↓wkPre2, ↓wkE, wkPost, wkDef, wkF, simprocAttr, nn_v, nn_fn, List.length_map, pgL_len, allP_map, take_pg, take_pgm, get0, get1, get2, getm0, getm1, getm2, get00, getm00, setm0, setm1, setm2, setm00, setR_pg, setR_pg1, flat_pg, flatL_app, eq_pg]
        exact hq _ _ _ hI ht' (hkp hK)
      · simp -implicitDefEqProofs -dsimp (maxSteps := 1000000) (disch := first | omega | (simp only [wkLen]; omega) | decide +kernel) only [↓wkPre, ↓wkPre2, ↓wkE, wkPost, wkDef, wkF, simprocAttr, hH1, hp, hk, hx, hk0, hd, hbk, hs1, hs2, nn_v, nn_fn, List.length_map, pgL_len, allP_map, take_pg, take_pgm, get0, get1, get2, getm0, getm1, getm2, get00, getm00, setm0, setm1, setm2, setm00, setR_pg, setR_pg1, flat_pg, flatL_app, eq_pg]
        rw [hd] at hq
        refine imp_call md_33 (touchL h' hi ⟨X[i].f.n, b, X[i].f.k, true⟩ rfl hkb (hs_set (by simp; omega)) h.ok.met (by omega) ?_ (by simp) ?_ _ ?_)
        · rw [hs_ne hne.symm, hs_ne hne.symm]; exact hp
        · intro j hj h1 h2
          rw [hs_ne h1.symm, hs_ne h1.symm]
        intro H' X' t' hI ht' hK _ _
        simp -implicitDefEqProofs -dsimp (maxSteps := 1000000) (disch := first | omega | (simp only [wkLen]; omega) | decide +kernel) only [↓wkPre, ↓wkPre2, ↓wkE, wkPost, wkDef, wkF, simprocAttr, nn_v, nn_fn, List.length_map, pgL_len, allP_map, take_pg, take_pgm, get0, get1, get2, getm0, getm1, getm2, get00, getm00, setm0, setm1, setm2, setm00, setR_pg, setR_pg1, flat_pg, flatL_app, eq_pg]
        exact hq _ _ _ hI ht' (hkp hK)
end
end Go.Ev.F28
end
section
namespace Go.Ev.F28
open Go.Proofs Go.Ev
set_option maxRecDepth 100000
set_option linter.all false
/-- How many pages are written. -/
def flushW (m : Md) (n : Int) : Nat := match findF m.L n with
  | none => 0
  | some i => match m.L[i]? with
    | none => 0
    | some f => if f.d = true then 1 else 0
theorem flushW_le (m : Md) (n : Int) : flushW m n ≤ 1 := by
  unfold flushW
  split
  · omega
  · split
    · omega
    · split <;> omega
def roomW (m : Md) : Nat := if m.L.length < m.room then 0 else match m.L.findIdx? (fun f => f.k == 0) with
  | none => 0
  | some i => match m.L[i]? with
    | none => 0
    | some f => flushW m f.n
theorem roomW_le (m : Md) : roomW m ≤ 1 := by
  unfold roomW
  split
  · omega
  · split
    · omega
    · split
      · omega
      · exact flushW_le _ _
section
variable {H : Heap} {c : Pos} {m : Md} {X : List Fx} {t w : Nat}
theorem w20 (h : Inv H c m X t w) (n : Int) (hw : w + 1 ≤ 100000) (Q : AV → Heap → Prop) (hq : ∀ H' X' w', Inv H' c (flushF m n).1 X' t w' → w' = w + flushW m n → Keep c H H' X X' → X'.map (·.q) = X.map (·.q) → Q (.p (I (flushF m n).2)) H') : (Ev.W Cf okf).call 20 [.vptr c.pp 0, .p (I n)] H Q := by
  refine top_mk extMono Try.func20 body20 (by decide) rfl ?_
  simp only [c20, Try.f20, Option.getD_some]
  have hp := h.pool
  cases hf : findF m.L n with
  | none =>
    rw [flushF_none hf] at hq
    have hk := look_n h hf
    simp -implicitDefEqProofs -dsimp (maxSteps := 1000000) (disch := first | omega | (simp only [wkLen]; omega) | decide +kernel) only [↓wkPre, ↓wkPre2, ↓wkE, wkPost, wkDef, wkF, simprocAttr, hp, hk, nn_v, nn_fn, List.length_map, pgL_len, allP_map, take_pg, take_pgm, get0, get1, get2, getm0, getm1, getm2, get00, getm00, setm0, setm1, setm2, setm00, setR_pg, setR_pg1, flat_pg, flatL_app, eq_pg]
    exact hq _ _ _ h (by simp [flushW, hf]) .rfl rfl
  | some i =>
    obtain ⟨hi, hn, hL, hk, hx⟩ := look_s h hf
    have hiL : i < m.L.length := by rw [h.L]; simpa using hi
    rw [flushF_some hf hiL] at hq
    have eL : m.L[i] = X[i].f := by rw [List.getElem?_eq_getElem hiL] at hL; exact Option.some.inj hL
    rw [eL] at hq
    have hkb := h.ok.k _ (List.getElem_mem hiL)
    rw [eL] at hkb
    have hqlt := h.lt _ (memq (List.getElem_mem hi))
    have hnr := h.nr _ (List.getElem_mem hi)
    rw [hn] at hnr
    cases hd : X[i].f.d
    · rw [if_pos hd] at hq
      simp -implicitDefEqProofs -dsimp (maxSteps := 1000000) (disch := first | omega | (simp only [wkLen]; omega) | decide +kernel) only [↓wkPre, ↓wkPre2, ↓wkE, wkPost, wkDef, wkF, simprocAttr, hp, hk, hx, hd, nn_v, nn_fn, List.length_map, pgL_len, allP_map, take_pg, take_pgm, get0, get1, get2, getm0, getm1, getm2, get00, getm00, setm0, setm1, setm2, setm00, setR_pg, setR_pg1, flat_pg, flatL_app, eq_pg]
      exact hq _ _ _ h (by simp [flushW, hf, hL, hd]) .rfl rfl
    · rw [if_neg (by rw [hd]; decide)] at hq
      simp -implicitDefEqProofs -dsimp (maxSteps := 1000000) (disch := first | omega | (simp only [wkLen]; omega) | decide +kernel) only [↓wkPre, ↓wkPre2, ↓wkE, wkPost, wkDef, wkF, simprocAttr, hp, hk, hx, hd, nn_v, nn_fn, List.length_map, pgL_len, allP_map, take_pg, take_pgm, get0, get1, get2, getm0, getm1, getm2, get00, getm00, setm0, setm1, setm2, setm00, setR_pg, setR_pg1, flat_pg, flatL_app, eq_pg]
      refine imp_call md_26 (w26 h n X[i].f.b hnr.1 hnr.2 hw _ ?_)
      intro H2 hI hK
      have hx2 := hI.frs _ (List.getElem_mem hi)
      simp -implicitDefEqProofs -dsimp (maxSteps := 1000000) (disch := first | omega | (simp only [wkLen]; omega) | decide +kernel) only [↓wkPre, ↓wkPre2, ↓wkE, wkPost, wkDef, wkF, simprocAttr, hx2, nn_v, nn_fn, List.length_map, pgL_len, allP_map, take_pg, take_pgm, get0, get1, get2, getm0, getm1, getm2, get00, getm00, setm0, setm1, setm2, setm00, setR_pg, setR_pg1, flat_pg, flatL_app, eq_pg]
      have hqlt2 := hI.lt _ (memq (List.getElem_mem hi))
      have hput := Inv.put (H' := H2.set X[i].q (frB { X[i].f with d := false } X[i].u)) hI hi (f' := { X[i].f with d := false }) rfl hkb (hs_set hqlt2) (fun j _ hj => hs_ne hj.symm)
      refine hq _ _ _ hput (by simp [flushW, hf, hL, hd]) (hK.trans (Keep.mk' (by simp) (fun j hj hf => hs_ne (fun e => hf (by rw [← e]; exact memq (List.getElem_mem hi)))) (set_map _ hi rfl))) (set_map _ hi rfl)
theorem w41 (h : Inv H c m X t w) (Q : AV → Heap → Prop) (h1 : (∀ x ∈ X, x.f.k ≠ 0) → ∀ l, Q (.p (.tup [I 0, B false])) (H ++ l))
    (h2 : ∀ i (hi : i < X.length), X[i].f.k = 0 → (∀ j (hj : j < i), X[j].f.k ≠ 0) → ∀ l, Q (.p (.tup [I X[i].f.n, B true])) (H ++ l)) : (Ev.W Cf okf).call 41 [.vptr c.pp 0] H Q := by
  refine top_mk extMono Try.func41 body41 (by decide) rfl ?_
  simp only [c41, Try.f41, Option.getD_some]
  have hp := h.pool
  obtain ⟨g, E, h5, hE⟩ := h.map
  have hlt := h.lt
  simp -implicitDefEqProofs -dsimp (maxSteps := 1000000) (disch := first | omega | (simp only [wkLen]; omega) | decide +kernel) only [↓wkPre, ↓wkPre2, ↓wkE, wkPost, wkDef, wkF, simprocAttr, hp, nn_v, nn_fn, List.length_map, pgL_len, allP_map, take_pg, take_pgm, get0, get1, get2, getm0, getm1, getm2, get00, getm00, setm0, setm1, setm2, setm00, setR_pg, setR_pg1, flat_pg, flatL_app, eq_pg]
  rw [show evRange Try.prog 69 (.map c.mb) H = some (.it H.length, H ++ [.mit c.mb g (0 :: List.range E.length)]) by unfold evRange; simp [tmap_69, h5, kI]]
  simp -implicitDefEqProofs -dsimp (maxSteps := 1000000) (disch := first | omega | (simp only [wkLen]; omega) | decide +kernel) only [↓wkPre, ↓wkPre2, ↓wkE, wkPost, wkDef, wkF, simprocAttr]
  refine loop_use extMono (fun m e Hc => ∃ (todo : List Nat) (ld : Nat) (bn : Int) (fd : Bool), m = todo.length ∧ e 0 = .vptr c.pp 0 ∧ e 4 = .p (I bn) ∧ e 5 = .p (B fd) ∧ e 12 = .it H.length ∧ Hc = H ++ [.mit c.mb g (ld :: todo)] ∧ (∀ j ∈ todo, j < E.length) ∧
    (fd = false → bn = 0 ∧ ∀ j (hj : j < E.length), j ∉ todo → ∀ x ∈ X, x.q = E[j].2 → x.f.k ≠ 0) ∧
    (fd = true → ∃ x ∈ X, x.f.k = 0 ∧ x.f.n = bn ∧ ∀ j (hj : j < E.length), j ∉ todo → ∀ y ∈ X, y.q = E[j].2 → y.f.k = 0 → x.u ≤ y.u)) ?_ E.length _ _ ⟨List.range E.length, 0, 0, false, by simp, ?_⟩
  · rintro m' e Hc ⟨todo, ld, bn, fd, rfl, e0, e4, e5, e12, rfl, htd, hf0, hf1⟩
    have a5 : ∀ l : Heap, (H ++ l)[c.mb]? = H[c.mb]? := fun l => hs_app (hlt _ (by simp [Foot]))
    simp -implicitDefEqProofs -dsimp (maxSteps := 1000000) (disch := first | omega | (simp only [wkLen]; omega) | decide +kernel) only [↓wkPre, ↓wkPre2, ↓wkE, wkPost, wkDef, wkF, simprocAttr, e12]
    rw [show iterOf (H ++ [.mit c.mb g (ld :: todo)]) H.length = some (kI .i64 (E.map (·.1)), E.map (fun e => AV.vptr e.2 0), todo, fun l => List.set (H ++ [Blk.mit c.mb g (ld :: todo)]) H.length (Blk.mit c.mb g l)) by unfold iterOf; simp [a5, h5], oK_some]
    refine ⟨fun hn => ?_, fun j hj => ?_⟩
    · simp only at hn
      subst hn
      simp -implicitDefEqProofs -dsimp (maxSteps := 1000000) (disch := first | omega | (simp only [wkLen]; omega) | decide +kernel) only [↓wkPre, ↓wkPre2, ↓wkE, wkPost, wkDef, wkF, simprocAttr, e0, e4, e5]
      have hall : ∀ x ∈ X, ∃ j, ∃ hj : j < E.length, x.q = E[j].2 := fun x hx => by
        have : (x.f.n, x.q) ∈ E := hE.mem_iff.2 (List.mem_map.2 ⟨x, hx, rfl⟩)
        obtain ⟨j, hj, e⟩ := List.mem_iff_getElem.1 this
        exact ⟨j, hj, by rw [e]⟩
      cases fd
      · obtain ⟨hb0, hz⟩ := hf0 rfl
        subst hb0
        refine h1 (fun x hx => ?_) _
        obtain ⟨j, hj, e⟩ := hall x hx
        exact hz j hj (by simp) x hx e
      · obtain ⟨x, hx, hk, rfl, hmin⟩ := hf1 rfl
        obtain ⟨i, hi, rfl⟩ := List.mem_iff_getElem.1 hx
        refine h2 i hi hk (fun k hk2 hk0 => ?_) _
        obtain ⟨j, hj, e⟩ := hall X[k] (List.getElem_mem _)
        have := hmin j hj (by simp) _ (List.getElem_mem _) e hk0
        have h3 := List.pairwise_iff_getElem.1 h.srt k i (by omega) hi hk2
        omega
    · simp only at hj
      have hjE := htd j hj
      have hsx : (E[j].1, E[j].2) ∈ X.map (fun x => (x.f.n, x.q)) := hE.mem_iff.1 (List.getElem_mem hjE)
      obtain ⟨x, hx, hxe⟩ := List.mem_map.1 hsx
      simp only [Prod.mk.injEq] at hxe
      obtain ⟨en, eq⟩ := hxe
      have hg1 : (kI .i64 (E.map (·.1)))[j]? = some (I x.f.n) := by simp [kI, hjE, en]
      have hg2 : (E.map (fun e : Int × Nat => AV.vptr e.2 0))[j]? = some (.vptr x.q 0) := by simp [hjE, eq]
      simp only [hg1, oK_some, hg2]
      generalize hHc : List.set (H ++ [Blk.mit c.mb g (ld :: todo)]) H.length (Blk.mit c.mb g ((j + 1) :: todo.erase j)) = Hc
      have hHc : Hc = H ++ [.mit c.mb g ((j + 1) :: todo.erase j)] := by rw [← hHc]; simp
      have hkey : entOf Hc H.length = some (I x.f.n, .vptr x.q 0) := by
        unfold entOf
        rw [hHc]
        simp [a5, h5, hg1, hg2]
      have hI := h.app [.mit c.mb g ((j + 1) :: todo.erase j)]
      rw [← hHc] at hI
      have hxq := hI.frs x hx
      have hp := hI.pool
      have hxu := h.le x hx
      have htl := h.tl
      have hdone : ∀ {k : Nat} {hk : k < E.length} {y : Fx}, k ∉ todo.erase j → y ∈ X → y.q = E[k].2 → y = x ∨ k ∉ todo := by
        intro k hk y h3 h4 h5
        by_cases hkj : k = j
        · subst hkj
          obtain ⟨a, ha, rfl⟩ := List.mem_iff_getElem.1 h4
          obtain ⟨b, hb, rfl⟩ := List.mem_iff_getElem.1 hx
          have := h.q_inj ha hb (h5.trans eq.symm)
          subst this
          exact .inl rfl
        · exact .inr (fun h6 => h3 ((List.mem_erase_of_ne hkj).2 h6))
      have hlen : (todo.erase j).length < todo.length := by rw [List.length_erase_of_mem hj]; have := List.length_pos_of_mem hj; omega
      by_cases hk0 : x.f.k = 0
      · cases fd
        · obtain ⟨hb0, hz⟩ := hf0 rfl
          simp -implicitDefEqProofs -dsimp (maxSteps := 1000000) (disch := first | omega | (simp only [wkLen]; omega) | decide +kernel) only [↓wkPre, ↓wkPre2, ↓wkE, wkPost, wkDef, wkF, simprocAttr, e0, e4, e5, e12, hkey, hxq, hk0, hp, nn_v, nn_fn, List.length_map, pgL_len, allP_map, take_pg, take_pgm, get0, get1, get2, getm0, getm1, getm2, get00, getm00, setm0, setm1, setm2, setm00, setR_pg, setR_pg1, flat_pg, flatL_app, eq_pg]
          refine ⟨_, hlen, todo.erase j, j + 1, x.f.n, true, rfl, rfl, rfl, hHc, fun k hk => htd k (List.mem_of_mem_erase hk), (fun h => by cases h), fun _ => ⟨x, hx, hk0, rfl, fun k hk h3 y hy h4 h5 => ?_⟩⟩
          rcases hdone h3 hy h4 with rfl | h6
          · exact Nat.le_refl _
          · exact absurd h5 (hz k hk h6 y hy h4)
        · obtain ⟨z, hz1, hz2, hz3, hz4⟩ := hf1 rfl
          obtain ⟨zi, hzi, rfl⟩ := List.mem_iff_getElem.1 hz1
          have hzq := hI.frs _ hz1
          have hlk := map_look hI.map hI.nn hzi
          rw [hz3] at hlk
          have hzu := h.le _ hz1
          by_cases hlt2 : x.u < X[zi].u
          · simp -implicitDefEqProofs -dsimp (maxSteps := 1000000) (disch := first | omega | (simp only [wkLen]; omega) | decide +kernel) only [↓wkPre, ↓wkPre2, ↓wkE, wkPost, wkDef, wkF, simprocAttr, e0, e4, e5, e12, hkey, hxq, hk0, hp, hlk, hzq, nn_v, nn_fn, List.length_map, pgL_len, allP_map, take_pg, take_pgm, get0, get1, get2, getm0, getm1, getm2, get00, getm00, setm0, setm1, setm2, setm00, setR_pg, setR_pg1, flat_pg, flatL_app, eq_pg]
            refine ⟨_, hlen, todo.erase j, j + 1, x.f.n, true, rfl, rfl, rfl, hHc, fun k hk => htd k (List.mem_of_mem_erase hk), (fun h => by cases h), fun _ => ⟨x, hx, hk0, rfl, fun k hk h3 y hy h4 h5 => ?_⟩⟩
            rcases hdone h3 hy h4 with rfl | h6
            · exact Nat.le_refl _
            · have := hz4 k hk h6 y hy h4 h5
              omega
          · simp -implicitDefEqProofs -dsimp (maxSteps := 1000000) (disch := first | omega | (simp only [wkLen]; omega) | decide +kernel) only [↓wkPre, ↓wkPre2, ↓wkE, wkPost, wkDef, wkF, simprocAttr, e0, e4, e5, e12, hkey, hxq, hk0, hp, hlk, hzq, nn_v, nn_fn, List.length_map, pgL_len, allP_map, take_pg, take_pgm, get0, get1, get2, getm0, getm1, getm2, get00, getm00, setm0, setm1, setm2, setm00, setR_pg, setR_pg1, flat_pg, flatL_app, eq_pg]
            refine ⟨_, hlen, todo.erase j, j + 1, bn, true, rfl, rfl, rfl, hHc, fun k hk => htd k (List.mem_of_mem_erase hk), (fun h => by cases h), fun _ => ⟨X[zi], hz1, hz2, hz3, fun k hk h3 y hy h4 h5 => ?_⟩⟩
            rcases hdone h3 hy h4 with rfl | h6
            · omega
            · exact hz4 k hk h6 y hy h4 h5
      · simp -implicitDefEqProofs -dsimp (maxSteps := 1000000) (disch := first | omega | (simp only [wkLen]; omega) | decide +kernel) only [↓wkPre, ↓wkPre2, ↓wkE, wkPost, wkDef, wkF, simprocAttr, e0, e4, e5, e12, hkey, hxq, hk0, hp, nn_v, nn_fn, List.length_map, pgL_len, allP_map, take_pg, take_pgm, get0, get1, get2, getm0, getm1, getm2, get00, getm00, setm0, setm1, setm2, setm00, setR_pg, setR_pg1, flat_pg, flatL_app, eq_pg]
        refine ⟨_, hlen, todo.erase j, j + 1, bn, fd, rfl, rfl, rfl, hHc, fun k hk => htd k (List.mem_of_mem_erase hk), fun h => ⟨(hf0 h).1, fun k hk h3 y hy h4 => ?_⟩, fun h => ?_⟩
        · rcases hdone h3 hy h4 with rfl | h6
          · exact hk0
          · exact (hf0 h).2 k hk h6 y hy h4
        · obtain ⟨z, hz1, hz2, hz3, hz4⟩ := hf1 h
          refine ⟨z, hz1, hz2, hz3, fun k hk h3 y hy h4 h5 => ?_⟩
          rcases hdone h3 hy h4 with rfl | h6
          · exact absurd h5 hk0
          · exact hz4 k hk h6 y hy h4 h5
  · simp -implicitDefEqProofs -dsimp (maxSteps := 1000000) (disch := first | omega | (simp only [wkLen]; omega) | decide +kernel) only [↓wkPre, ↓wkPre2, ↓wkE, wkPost, wkDef, wkF, simprocAttr]
    exact ⟨fun j hj => by simpa using hj, fun _ j hj h3 => absurd (List.mem_range.2 hj) h3, fun h => h.elim⟩
theorem w34 (h : Inv H c m X t w) (hw : w + 1 ≤ 100000) (Q : AV → Heap → Prop) (hq : ∀ H' X' w', Inv H' c (roomF m).1 X' t w' → w' = w + roomW m → Keep c H H' X X' → Q (.p (I (roomF m).2)) H') : (Ev.W Cf okf).call 34 [.vptr c.pp 0] H Q := by
  refine top_mk extMono Try.func34 body34 (by decide) rfl ?_
  simp only [c34, Try.f34, Option.getD_some]
  have hp := h.pool
  obtain ⟨g, E, h5, h6⟩ := h.map
  have hl : E.length = m.L.length := by rw [h6.length_eq, h.L]; simp
  have hkl : (kI .i64 (E.map (·.1))).length = m.L.length := by simp [kI, hl]
  have hL := h.ok.L
  have hR := h.ok.room
  have hXL : X.length = m.L.length := by rw [h.L]; simp
  by_cases h0 : m.L.length < m.room
  · have e : roomF m = (m, 0) := by unfold roomF; rw [if_pos h0]
    rw [e] at hq
    simp -implicitDefEqProofs -dsimp (maxSteps := 1000000) (disch := first | omega | (simp only [wkLen]; omega) | decide +kernel) only [↓wkPre, ↓wkPre2, ↓wkE, wkPost, wkDef, wkF, simprocAttr, hp, h5, hkl, h0, nn_v, nn_fn, List.length_map, pgL_len, allP_map, take_pg, take_pgm, get0, get1, get2, getm0, getm1, getm2, get00, getm00, setm0, setm1, setm2, setm00, setR_pg, setR_pg1, flat_pg, flatL_app, eq_pg]
    exact hq _ _ _ h (by simp [roomW, h0]) .rfl
  · simp -implicitDefEqProofs -dsimp (maxSteps := 1000000) (disch := first | omega | (simp only [wkLen]; omega) | decide +kernel) only [↓wkPre, ↓wkPre2, ↓wkE, wkPost, wkDef, wkF, simprocAttr, hp, h5, hkl, h0, nn_v, nn_fn, List.length_map, pgL_len, allP_map, take_pg, take_pgm, get0, get1, get2, getm0, getm1, getm2, get00, getm00, setm0, setm1, setm2, setm00, setR_pg, setR_pg1, flat_pg, flatL_app, eq_pg]
    refine imp_call md_41 (w41 h _ (fun hno l => ?_) (fun i hi hk hno l => ?_))
    · rw [roomF_none h0 (fun j hj => by
        have := hno X[j] (List.getElem_mem _)
        simpa [h.L] using this)] at hq
      simp -implicitDefEqProofs -dsimp (maxSteps := 1000000) (disch := first | omega | (simp only [wkLen]; omega) | decide +kernel) only [↓wkPre, ↓wkPre2, ↓wkE, wkPost, wkDef, wkF, simprocAttr, nn_v, nn_fn, List.length_map, pgL_len, allP_map, take_pg, take_pgm, get0, get1, get2, getm0, getm1, getm2, get00, getm00, setm0, setm1, setm2, setm00, setR_pg, setR_pg1, flat_pg, flatL_app, eq_pg]
      have hfi : m.L.findIdx? (fun f => f.k == 0) = none := by
        rw [List.findIdx?_eq_none_iff]
        intro f hf
        rw [h.L] at hf
        obtain ⟨x, hx, rfl⟩ := List.mem_map.1 hf
        simpa using hno x hx
      exact hq _ _ _ (h.app l) (by simp [roomW, h0, hfi]) (Keep.rfl.pre)
    · have hiL : i < m.L.length := by omega
      have eL : m.L[i] = X[i].f := by simp [h.L]
      rw [roomF_some h0 hiL (by rw [eL]; exact hk) (fun j hj => by
        have := hno j hj
        simpa [h.L] using this), eL] at hq
      have hI := h.app l
      have hfd : findF m.L X[i].f.n = some i := by rw [h.L]; exact find_at h.nn hi
      have hfc : (flushF m X[i].f.n).2 = 0 := by
        rw [flushF_some hfd hiL]; split <;> rfl
      have hfr : (flushF m X[i].f.n).1.room = m.room := by
        rw [flushF_some hfd hiL]; split <;> rfl
      simp -implicitDefEqProofs -dsimp (maxSteps := 1000000) (disch := first | omega | (simp only [wkLen]; omega) | decide +kernel) only [↓wkPre, ↓wkPre2, ↓wkE, wkPost, wkDef, wkF, simprocAttr, nn_v, nn_fn, List.length_map, pgL_len, allP_map, take_pg, take_pgm, get0, get1, get2, getm0, getm1, getm2, get00, getm00, setm0, setm1, setm2, setm00, setR_pg, setR_pg1, flat_pg, flatL_app, eq_pg]
      refine imp_call md_20 (w20 hI X[i].f.n hw _ ?_)
      intro H2 X2 w2 hI2 hw2 hK2 hq2
      rw [hfc] at hq ⊢
      have hX2 : X2.length = X.length := by have := congrArg List.length hq2; simpa using this
      have hi2 : i < X2.length := by omega
      have hn2 : X2[i].f.n = X[i].f.n := by
        have e1 : (flushF m X[i].f.n).1.L[i]? = some X2[i].f := by rw [hI2.L]; simp [hi2]
        rw [flushF_some hfd hiL] at e1
        split at e1
        · rw [List.getElem?_eq_getElem hiL, eL] at e1
          exact (congrArg Fr.n (Option.some.inj e1)).symm
        · simp only [List.getElem?_set_self hiL, Option.some.injEq] at e1
          rw [← e1, eL]
      obtain ⟨B, hdel, hI3⟩ := hI2.drop hi2
      rw [hn2] at hdel
      have hp2 := hI2.pool
      simp -implicitDefEqProofs -dsimp (maxSteps := 1000000) (disch := first | omega | (simp only [wkLen]; omega) | decide +kernel) only [↓wkPre, ↓wkPre2, ↓wkE, wkPost, wkDef, wkF, simprocAttr, hp2, hdel, nn_v, nn_fn, List.length_map, pgL_len, allP_map, take_pg, take_pgm, get0, get1, get2, getm0, getm1, getm2, get00, getm00, setm0, setm1, setm2, setm00, setR_pg, setR_pg1, flat_pg, flatL_app, eq_pg]
      have hfi : m.L.findIdx? (fun f => f.k == 0) = some i := by
        rw [List.findIdx?_eq_some_iff_getElem]
        refine ⟨hiL, by rw [eL]; simpa using hk, fun j hj => ?_⟩
        have := hno j hj
        simpa [h.L] using this
      refine hq _ _ _ hI3 (by rw [hw2]; simp [roomW, h0, hfi, hiL, eL]) ?_
      refine (Keep.pre hK2).trans ⟨by simp, fun j hj hf => hs_ne (fun e => hf (by simp [Foot, e])), fun j hj => .inl ?_⟩
      have : (Foot c (X2.eraseIdx i)).Sublist (Foot c X2) := (((((List.Sublist.map _ (List.eraseIdx_sublist _ _)).cons₂ _).cons₂ _).cons₂ _).cons₂ _).cons₂ _
      exact this.subset hj
end
end Go.Ev.F28
end
section
namespace Go.Ev.F28
open Go.Proofs Go.Ev
set_option maxRecDepth 100000
set_option linter.all false
theorem find_none {L : List Fr} {n : Int} : findF L n = none ↔ n ∉ L.map (·.n) := by
  unfold findF
  rw [List.findIdx?_eq_none_iff]
  simp only [List.mem_map, not_exists, not_and, beq_eq_false_iff_ne]
theorem flushF_n (m : Md) (n : Int) : (flushF m n).1.L.map (·.n) = m.L.map (·.n) := by
  unfold flushF
  split
  · rfl
  · split
    · rfl
    · rename_i f hf
      split
      · rfl
      · obtain ⟨hi, e⟩ := List.getElem?_eq_some_iff.1 hf
        exact set_map (·.n) (x := { f with d := false }) hi (by rw [e])
theorem flushF_same (m : Md) (n : Int) : (flushF m n).1.room = m.room ∧ (flushF m n).1.met = m.met ∧ (flushF m n).1.miss = m.miss := by
  unfold flushF
  split
  · exact ⟨rfl, rfl, rfl⟩
  · split
    · exact ⟨rfl, rfl, rfl⟩
    · split <;> exact ⟨rfl, rfl, rfl⟩
theorem roomF_same (m : Md) : (roomF m).1.room = m.room ∧ (roomF m).1.met = m.met ∧ (roomF m).1.miss = m.miss := by
  unfold roomF
  split
  · exact ⟨rfl, rfl, rfl⟩
  · split
    · exact ⟨rfl, rfl, rfl⟩
    · split
      · exact ⟨rfl, rfl, rfl⟩
      · exact flushF_same _ _
theorem roomF_n {m : Md} {n : Int} (h : findF m.L n = none) : findF (roomF m).1.L n = none := by
  unfold roomF
  split
  · exact h
  · split
    · exact h
    · split
      · exact h
      · rename_i f hf
        rw [find_none] at h ⊢
        dsimp only
        unfold woF
        rw [if_pos (by omega)]
        intro hm
        obtain ⟨x, hx, rfl⟩ := List.mem_map.1 hm
        refine h ?_
        rw [← flushF_n m f.n]
        exact List.mem_map.2 ⟨x, List.mem_of_mem_eraseIdx hx, rfl⟩
theorem roomF_lt {m : Md} (h : (roomF m).2 = 0) (hf : m.L.length ≤ m.room) : (roomF m).1.L.length < m.room := by
  unfold roomF at h ⊢
  split
  · assumption
  · rename_i h0
    rw [if_neg h0] at h
    split
    · rename_i e; rw [e] at h; cases h
    · rename_i i e
      rw [e] at h
      have hi := (List.findIdx?_eq_some_iff_getElem.1 e).1
      rw [List.getElem?_eq_getElem hi]
      show (woF (flushF m _).1.L i).length < _
      unfold woF
      rw [if_pos (by omega)]
      have := flushF_len m (m.L[i]).n
      rw [List.length_eraseIdx]
      simp only [Int.toNat_natCast]
      rw [if_pos (by omega)]
      omega
section
variable {H H' : Heap} {c : Pos} {m : Md} {X : List Fx} {t w : Nat}
/-- A frame comes. -/
theorem Inv.add (h : Inv H c m X t w) {n : Int} {b : UInt8} {q0 : Nat} (hq0 : q0 ∉ Foot c X) (hfn : findF m.L n = none) (hn : 0 ≤ n ∧ n < m.W.length) (hroom : X.length < m.room) (ht : t + 1 ≤ 100000) (hq1 : q0 < H'.length)
    (kp : H'[c.pp]? = some (poolB c m.room (t + 1) m.met m.miss)) (kq : H'[q0]? = some (frB ⟨n, b, 1, false⟩ (t + 1))) (ks : ∀ j ∈ Foot c X, j ≠ c.pp → H'[j]? = H[j]?) :
    ∃ Bk, evMapUpdate Try.prog 69 (.map c.mb) (.p (I n)) (.vptr q0 0) H' = some (H'.set c.mb Bk) ∧ Inv (H'.set c.mb Bk) c { m with L := m.L ++ [⟨n, b, 1, false⟩] } (X ++ [⟨⟨n, b, 1, false⟩, q0, t + 1⟩]) (t + 1) w := by
  have hne := h.ne
  have hmp : c.mb ≠ c.pp := hne.2.2.2.1.symm
  obtain ⟨g, E, k1, k2⟩ := h.map
  have k1' := (ks c.mb (by simp [Foot]) hmp).trans k1
  have hmb : c.mb < H'.length := (List.getElem?_eq_some_iff.1 k1').1
  have hnK : n ∉ E.map (·.1) := by
    intro hx
    obtain ⟨e, he, rfl⟩ := List.mem_map.1 hx
    obtain ⟨x, hx2, rfl⟩ := List.mem_map.1 (k2.mem_iff.1 he)
    exact find_none.1 hfn (by rw [h.L, List.map_map]; exact List.mem_map.2 ⟨x, hx2, rfl⟩)
  have hup := upd_new (P := Try.prog) tmap_69 k1' hnK (.vptr q0 0)
  have hq0' : ∀ j ∈ Foot c X, j ≠ q0 := fun j hj e => hq0 (e ▸ hj)
  have kss : ∀ j ∈ Foot c X, j ≠ c.pp → j ≠ c.mb → ∀ y : Blk, (H'.set c.mb y)[j]? = H[j]? := fun j hj h1 h2 y => (hs_ne h2.symm).trans (ks j hj h1)
  have eL : { m with L := m.L ++ [(⟨n, b, 1, false⟩ : Fr)] }.L = (X ++ [(⟨⟨n, b, 1, false⟩, q0, t + 1⟩ : Fx)]).map (·.f) := by simp [h.L]
  refine ⟨_, hup, ?_, (kss _ (by simp [Foot]) hne.1.symm hne.2.2.2.2.2.2.1 _).trans h.cell, ?_, ⟨g + 1, E ++ [(n, q0)], by rw [hs_set hmb]; simp, by rw [List.map_append]; exact k2.append_right _⟩, ?_, eL, ?_, ?_, ?_, ?_, ?_, by simp; omega, ⟨h.ok.room, ?_, h.ok.W, h.ok.met, h.ok.miss, ?_, ?_⟩, ht, h.wl⟩
  · rw [hs_ne hmp]; exact kp
  · obtain ⟨g, k3, k4⟩ := h.ben
    exact ⟨g, (kss _ (by simp [Foot]) hne.2.1.symm hne.2.2.2.2.2.2.2.2.1 _).trans k3, (kss _ (by simp [Foot]) hne.2.2.1.symm hne.2.2.2.2.2.2.2.2.2.1 _).trans k4⟩
  · intro x hx
    rw [List.mem_append, List.mem_singleton] at hx
    rcases hx with hx | rfl
    · have := hne.2.2.2.2.2.2.2.2.2.2 _ hx
      exact (kss _ (memq hx) this.1.symm this.2.2.2.2.symm _).trans (h.frs x hx)
    · rw [hs_ne (hq0' c.mb (by simp [Foot]))]; exact kq
  · rw [List.map_append, List.nodup_append]
    refine ⟨h.nn, by simp, fun a ha b hb e => ?_⟩
    simp only [List.map_singleton, List.mem_singleton] at hb
    subst hb; subst e
    obtain ⟨x, hx2, e⟩ := List.mem_map.1 ha
    exact find_none.1 hfn (by rw [h.L, List.map_map]; exact List.mem_map.2 ⟨x, hx2, e⟩)
  · have : Foot c (X ++ [(⟨⟨n, b, 1, false⟩, q0, t + 1⟩ : Fx)]) = Foot c X ++ [q0] := by simp [Foot]
    rw [this, List.nodup_append]
    refine ⟨h.qn, by simp, fun a ha b hb e => ?_⟩
    rw [List.mem_singleton] at hb
    exact hq0' a ha (e.trans hb)
  · rw [List.pairwise_append]
    refine ⟨h.srt, List.pairwise_singleton _ _, fun x hx y hy => ?_⟩
    rw [List.mem_singleton] at hy
    subst hy
    have := h.le x hx
    dsimp only; omega
  · intro x hx
    rw [List.mem_append, List.mem_singleton] at hx
    rcases hx with hx | rfl
    · have := h.le x hx; omega
    · exact Nat.le_refl _
  · intro x hx
    rw [List.mem_append, List.mem_singleton] at hx
    rcases hx with hx | rfl
    · exact h.nr x hx
    · exact hn
  · have := h.ok.room
    have h2 : m.L.length = X.length := by rw [h.L]; simp
    simp; omega
  · intro f hf
    rw [List.mem_append, List.mem_singleton] at hf
    rcases hf with hf | rfl
    · exact h.ok.k f hf
    · show 1 ≤ 100000
      omega
  · intro f hf
    rw [List.mem_append, List.mem_singleton] at hf
    rcases hf with hf | rfl
    · exact h.ok.n f hf
    · exact hn
end
end Go.Ev.F28
end
section
namespace Go.Ev.F28
open Go.Proofs Go.Ev
set_option maxRecDepth 100000
set_option linter.all false
def pinW (m : Md) (n : Int) : Nat := match findF m.L n with
  | some _ => 0
  | none => roomW { m with miss := m.miss + 1 }
theorem pinW_le (m : Md) (n : Int) : pinW m n ≤ 1 := by
  unfold pinW
  split
  · omega
  · exact roomW_le _
section
variable {H : Heap} {c : Pos} {m : Md} {X : List Fx} {t w : Nat}
theorem w10 (h : Inv H c m X t w) (n : Int) (ht : t + 1 ≤ 100000) (hw : w + 1 ≤ 100000) (hm : m.met + 1 ≤ 100000) (hs : m.miss + 1 ≤ 100000) (hk1 : ∀ f ∈ m.L, f.k + 1 ≤ 100000) (Q : AV → Heap → Prop)
    (hq : ∀ H' X' t' w', Inv H' c (pinF m n).1 X' t' w' → t' ≤ t + 1 → w' = w + pinW m n → Keep c H H' X X' → Q (.p (.tup [pgP (pinF m n).2.1, I (pinF m n).2.2])) H') : (Ev.W Cf okf).call 10 [.vptr c.pp 0, .p (I n)] H Q := by
  refine top_mk extMono Try.func10 body10 (by decide) rfl ?_
  simp only [c10, Try.f10, Option.getD_some]
  have h' := h.app [.var true (.p (pgP 0))]
  generalize hH1 : H ++ [.var true (.p (pgP 0))] = H1 at h'
  have hH1' : H ++ [.var true (.p (.agg (pgL 0)))] = H1 := hH1
  have hkp : ∀ {H' X'}, Keep c H1 H' X X' → Keep c H H' X X' := fun k => (hH1 ▸ k).pre
  have hlen : H1.length = H.length + 1 := by rw [← hH1]; simp
  have hbk : H1[H.length]? = some (.var true (.p (pgP 0))) := by rw [← hH1]; simp
  have hp := h'.pool
  have hlt := h.lt
  have hplt := h'.lt c.pp (by simp [Foot])
  have hplt0 := h.lt c.pp (by simp [Foot])
  have hmt := h.ok.met
  have hms := h.ok.miss
  have hfin : ∀ {H' X' m' t' w'}, Inv H' c m' X' t' w' → Keep c H1 H' X X' → ∀ y : Blk, Inv (H'.set H.length y) c m' X' t' w' ∧ Keep c H (H'.set H.length y) X X' := by
    intro H' X' m' t' w' hI hK y
    have hnf : H.length ∉ Foot c X' := fun hf => (hK.q _ hf).elim (fun h2 => by have := hlt _ h2; omega) (by omega)
    exact ⟨hI.set hnf, ⟨by have := hK.len; simp; omega, fun j hj hf => (hs_ne (by omega)).trans ((hkp hK).same j hj hf), (hkp hK).q⟩⟩
  cases hf : findF m.L n with
  | some i =>
    obtain ⟨hi, hn, hL, hk, hx⟩ := look_s h' hf
    have hiL : i < m.L.length := by rw [h.L]; simpa using hi
    rw [pinF_some hf hiL] at hq
    have eL : m.L[i] = X[i].f := by rw [List.getElem?_eq_getElem hiL] at hL; exact Option.some.inj hL
    have hkb := hk1 _ (List.getElem_mem hiL)
    rw [eL] at hq hkb
    have hqlt0 := h.lt _ (memq (List.getElem_mem hi))
    have hqlt := h'.lt _ (memq (List.getElem_mem hi))
    have hne := (h.ne.2.2.2.2.2.2.2.2.2.2 _ (List.getElem_mem hi)).1
    have s1 : ∀ x : Blk, (H1.set c.pp x)[X[i].q]? = some (frB X[i].f X[i].u) := fun x => (hs_ne hne).trans hx
    simp -implicitDefEqProofs -dsimp (maxSteps := 1000000) (disch := first | omega | (simp only [wkLen]; omega) | decide +kernel) only [↓wkPre, ↓wkPre2, ↓wkE, wkPost, wkDef, wkF, simprocAttr, hH1', hp, hk, hx, s1, nn_v, nn_fn, List.length_map, pgL_len, allP_map, take_pg, take_pgm, get0, get1, get2, getm0, getm1, getm2, get00, getm00, setm0, setm1, setm2, setm00, setR_pg, setR_pg1, flat_pg, flatL_app, eq_pg]
    refine imp_call md_33 (touchL h' hi ⟨X[i].f.n, X[i].f.b, X[i].f.k + 1, X[i].f.d⟩ (a := m.met + 1) rfl hkb (hs_set (by simp; omega)) hm ht ?_ (by simp) ?_ _ ?_)
    · rw [hs_ne hne.symm, hs_set hplt]; rfl
    · intro j hj h1 h2
      rw [hs_ne h1.symm, hs_ne h2.symm]
    intro H' X' t' hI ht' hK e1 e2
    have e3 := e2 H.length (by simp; omega) (by omega) (by omega)
    rw [hs_ne (by omega), hs_ne (by omega), hbk] at e3
    have hHl : H.length < H'.length := by have := hK.len; omega
    have s2 : ∀ x : Blk, (H'.set H.length x)[H.length]? = some x := fun x => hs_set hHl
    simp -implicitDefEqProofs -dsimp (maxSteps := 1000000) (disch := first | omega | (simp only [wkLen]; omega) | decide +kernel) only [↓wkPre, ↓wkPre2, ↓wkE, wkPost, wkDef, wkF, simprocAttr, e1, e3, s2, nn_v, nn_fn, List.length_map, pgL_len, allP_map, take_pg, take_pgm, get0, get1, get2, getm0, getm1, getm2, get00, getm00, setm0, setm1, setm2, setm00, setR_pg, setR_pg1, flat_pg, flatL_app, eq_pg]
    exact hq _ _ _ _ (hfin hI hK _).1 ht' (by simp [pinW, hf]) (hfin hI hK _).2
  | none =>
    rw [pinF_none hf] at hq
    have hk := look_n h' hf
    have hI := Inv.count (H' := H1.set c.pp (poolB c m.room t m.met (m.miss + 1))) h' hmt hs (hs_set hplt) (fun j _ hj => hs_ne hj.symm)
    have hK1 : Keep c H1 (H1.set c.pp (poolB c m.room t m.met (m.miss + 1))) X X := Keep.mk' (by simp) (fun j _ hf => hs_ne (fun e => hf (by simp [Foot, e]))) rfl
    have h34 := w34 hI hw
    have r1 := roomF_same { m with miss := m.miss + 1 }
    have r2 := roomF_len { m with miss := m.miss + 1 }
    have r3 := roomF_n (m := { m with miss := m.miss + 1 }) hf
    have r4 := fun h => roomF_lt (m := { m with miss := m.miss + 1 }) h (by have := h'.full; have e := h'.L; simp [e]; exact this)
    generalize hR : roomF { m with miss := m.miss + 1 } = R at *
    obtain ⟨m2, code⟩ := R
    dsimp only at *
    have hnb : ∀ {H2 X2}, Keep c H1 H2 X X2 → H2[H.length]? = some (.var true (.p (pgP 0))) := fun k => (k.same _ (by omega) (fun h2 => by have := hlt _ h2; omega)).trans hbk
    by_cases hc : code = 0
    · subst hc
      rw [if_neg (by simp)] at hq
      by_cases hb : n < 0 ∨ (m.W.length : Int) ≤ n
      · rw [if_pos hb] at hq
        simp -implicitDefEqProofs -dsimp (maxSteps := 1000000) (disch := first | omega | (simp only [wkLen]; omega) | decide +kernel) only [↓wkPre, ↓wkPre2, ↓wkE, wkPost, wkDef, wkF, simprocAttr, hH1', hp, hk, nn_v, nn_fn, List.length_map, pgL_len, allP_map, take_pg, take_pgm, get0, get1, get2, getm0, getm1, getm2, get00, getm00, setm0, setm1, setm2, setm00, setR_pg, setR_pg1, flat_pg, flatL_app, eq_pg]
        refine imp_call md_34 (h34 _ ?_)
        intro H2 X2 w2 hI2 hw2 hK2
        have hp2 := hI2.pool
        simp -implicitDefEqProofs -dsimp (maxSteps := 1000000) (disch := first | omega | (simp only [wkLen]; omega) | decide +kernel) only [↓wkPre, ↓wkPre2, ↓wkE, wkPost, wkDef, wkF, simprocAttr, hp2, nn_v, nn_fn, List.length_map, pgL_len, allP_map, take_pg, take_pgm, get0, get1, get2, getm0, getm1, getm2, get00, getm00, setm0, setm1, setm2, setm00, setR_pg, setR_pg1, flat_pg, flatL_app, eq_pg]
        refine imp_call md_25 (w25 hI2 n _ (fun l => ?_))
        rw [if_neg (by rw [r2.2]; omega)]
        have hI3 := hI2.app l
        have hK3 : Keep c H1 (H2 ++ l) X X2 := (hK1.trans hK2).trans (Keep.rfl.pre (l := l))
        generalize H2 ++ l = H3 at *
        have hH3 : H.length < H3.length := by have := hK3.len; omega
        have n3 : ∀ l : Heap, (H3 ++ l)[H.length]? = some (.var true (.p (pgP 0))) := fun l => (hs_app hH3).trans (hnb hK3)
        simp -implicitDefEqProofs -dsimp (maxSteps := 1000000) (disch := first | omega | (simp only [wkLen]; omega) | decide +kernel) only [↓wkPre, ↓wkPre2, ↓wkE, wkPost, wkDef, wkF, simprocAttr, n3, nn_v, nn_fn, List.length_map, pgL_len, allP_map, take_pg, take_pgm, get0, get1, get2, getm0, getm1, getm2, get00, getm00, setm0, setm1, setm2, setm00, setR_pg, setR_pg1, flat_pg, flatL_app, eq_pg]
        exact hq _ _ _ _ ((hfin hI3 hK3 _).1.app [.var true (.p (pgP 0))]) (by omega) (by rw [hw2]; simp [pinW, hf]) ((hfin hI3 hK3 _).2.trans Keep.rfl.pre)
      · rw [if_neg hb] at hq
        simp -implicitDefEqProofs -dsimp (maxSteps := 1000000) (disch := first | omega | (simp only [wkLen]; omega) | decide +kernel) only [↓wkPre, ↓wkPre2, ↓wkE, wkPost, wkDef, wkF, simprocAttr, hH1', hp, hk, nn_v, nn_fn, List.length_map, pgL_len, allP_map, take_pg, take_pgm, get0, get1, get2, getm0, getm1, getm2, get00, getm00, setm0, setm1, setm2, setm00, setR_pg, setR_pg1, flat_pg, flatL_app, eq_pg]
        refine imp_call md_34 (h34 _ ?_)
        intro H2 X2 w2 hI2 hw2 hK2
        have hp2 := hI2.pool
        simp -implicitDefEqProofs -dsimp (maxSteps := 1000000) (disch := first | omega | (simp only [wkLen]; omega) | decide +kernel) only [↓wkPre, ↓wkPre2, ↓wkE, wkPost, wkDef, wkF, simprocAttr, hp2, nn_v, nn_fn, List.length_map, pgL_len, allP_map, take_pg, take_pgm, get0, get1, get2, getm0, getm1, getm2, get00, getm00, setm0, setm1, setm2, setm00, setR_pg, setR_pg1, flat_pg, flatL_app, eq_pg]
        refine imp_call md_25 (w25 hI2 n _ (fun l => ?_))
        rw [if_pos (by rw [r2.2]; omega)]
        have hI3 := hI2.app l
        have hK3 : Keep c H1 (H2 ++ l) X X2 := (hK1.trans hK2).trans (Keep.rfl.pre (l := l))
        generalize H2 ++ l = H3 at *
        generalize hb0 : m2.W.getD n.toNat 0 = b0 at *
        have hH3 : H.length < H3.length := by have := hK3.len; omega
        simp -implicitDefEqProofs -dsimp (maxSteps := 1000000) (disch := first | omega | (simp only [wkLen]; omega) | decide +kernel) only [↓wkPre, ↓wkPre2, ↓wkE, wkPost, wkDef, wkF, simprocAttr, nn_v, nn_fn, List.length_map, pgL_len, allP_map, take_pg, take_pgm, get0, get1, get2, getm0, getm1, getm2, get00, getm00, setm0, setm1, setm2, setm00, setR_pg, setR_pg1, flat_pg, flatL_app, eq_pg]
        have hp3 := hI3.pool
        have hpl3 := hI3.lt c.pp (by simp [Foot])
        have hml3 := hI3.lt c.mb (by simp [Foot])
        have hq3 : H3.length + 1 ∉ Foot c X2 := fun hf => by have := hI3.lt _ hf; omega
        generalize hH5 : H3 ++ [Blk.var true (AV.p (pgP b0)), Blk.var true (AV.p (PV.agg (pgL b0 ++ [PV.int IntKind.i64 1, PV.bool false, PV.int IntKind.i64 0])))] = H5
        have l5 : H5.length = H3.length + 2 := by rw [← hH5]; simp
        have k5 : ∀ j, j < H3.length → H5[j]? = H3[j]? := fun j hj => by rw [← hH5]; exact hs_app hj
        have f5 : H5[H3.length + 1]? = some (frB ⟨n, b0, 1, false⟩ 0) := by rw [← hH5, List.getElem?_append_right (by omega)]; simp
        have g5 : H5[H3.length]? = some (.var true (.p (pgP b0))) := by rw [← hH5, List.getElem?_append_right (by omega)]; simp
        refine imp_call md_33 (w33 ((k5 _ hpl3).trans hp3) f5 (by omega) (by have := hI3.tl; omega) _ ?_)
        generalize hH6 : (H5.set c.pp (poolB c m2.room (t + 1) m2.met m2.miss)).set (H3.length + 1) (frB ⟨n, b0, 1, false⟩ (t + 1)) = H6
        have l6 : H6.length = H3.length + 2 := by rw [← hH6]; simp [l5]
        have k6 : ∀ j, j < H3.length → j ≠ c.pp → H6[j]? = H3[j]? := fun j hj hjp => by rw [← hH6, hs_ne (by omega), hs_ne hjp.symm, k5 j hj]
        have p6 : H6[c.pp]? = some (poolB c m2.room (t + 1) m2.met m2.miss) := by rw [← hH6, hs_ne (by omega), hs_set (by omega)]
        have f6 : H6[H3.length + 1]? = some (frB ⟨n, b0, 1, false⟩ (t + 1)) := by rw [← hH6, hs_set (by simp; omega)]
        have g6 : H6[H3.length]? = some (.var true (.p (pgP b0))) := by rw [← hH6, hs_ne (by omega), hs_ne (by omega), g5]
        have b6 : H6[H.length]? = some (.var true (.p (pgP 0))) := (k6 _ hH3 (by omega)).trans (hnb hK3)
        obtain ⟨Bk, hup, hI7⟩ := Inv.add (H' := H6) (b := b0) hI3 hq3 r3 (by rw [r2.2]; omega) (by have := r4 rfl; rw [hI3.L] at this; rw [r1.1]; simpa using this) ht (by omega) p6 f6 (fun j hj hjp => k6 j (hI3.lt j hj) hjp)
        have hmne : c.mb ≠ H.length := by have := hlt c.mb (by simp [Foot]); omega
        have b7 : ∀ y : Blk, (H6.set c.mb y)[H.length]? = some (.var true (.p (pgP 0))) := fun y => (hs_ne hmne).trans b6
        have g7 : ∀ y : Blk, (H6.set c.mb y)[H3.length]? = some (.var true (.p (pgP b0))) := fun y => (hs_ne (by omega)).trans g6
        have hK7 : Keep c H1 (H6.set c.mb Bk) X (X2 ++ [⟨⟨n, b0, 1, false⟩, H3.length + 1, t + 1⟩]) := by
          refine hK3.trans ⟨by simp; omega, fun j hj hf => ?_, fun j hj => ?_⟩
          · rw [hs_ne (fun e => hf (by simp [Foot, e])), k6 j hj (fun e => hf (by simp [Foot, e]))]
          · have e : Foot c (X2 ++ [(⟨⟨n, b0, 1, false⟩, H3.length + 1, t + 1⟩ : Fx)]) = Foot c X2 ++ [H3.length + 1] := by simp [Foot]
            rw [e, List.mem_append, List.mem_singleton] at hj
            exact hj.imp_right (by omega)
        simp -implicitDefEqProofs -dsimp (maxSteps := 1000000) (disch := first | omega | (simp only [wkLen]; omega) | decide +kernel) only [↓wkPre, ↓wkPre2, ↓wkE, wkPost, wkDef, wkF, simprocAttr, p6, hup, b7, g7, nn_v, nn_fn, List.length_map, pgL_len, allP_map, take_pg, take_pgm, get0, get1, get2, getm0, getm1, getm2, get00, getm00, setm0, setm1, setm2, setm00, setR_pg, setR_pg1, flat_pg, flatL_app, eq_pg]
        exact hq _ _ _ _ (hfin hI7 hK7 _).1 (by omega) (by rw [hw2]; simp [pinW, hf]) (hfin hI7 hK7 _).2
    · rw [if_pos hc] at hq
      simp -implicitDefEqProofs -dsimp (maxSteps := 1000000) (disch := first | omega | (simp only [wkLen]; omega) | decide +kernel) only [↓wkPre, ↓wkPre2, ↓wkE, wkPost, wkDef, wkF, simprocAttr, hH1', hp, hk, nn_v, nn_fn, List.length_map, pgL_len, allP_map, take_pg, take_pgm, get0, get1, get2, getm0, getm1, getm2, get00, getm00, setm0, setm1, setm2, setm00, setR_pg, setR_pg1, flat_pg, flatL_app, eq_pg]
      refine imp_call md_34 (h34 _ ?_)
      intro H2 X2 w2 hI2 hw2 hK2
      have hK3 := hK1.trans hK2
      have hH3 : H.length < H2.length := by have := hK3.len; omega
      have n3 := hnb hK3
      simp -implicitDefEqProofs -dsimp (maxSteps := 1000000) (disch := first | omega | (simp only [wkLen]; omega) | decide +kernel) only [↓wkPre, ↓wkPre2, ↓wkE, wkPost, wkDef, wkF, simprocAttr, hc, n3, nn_v, nn_fn, List.length_map, pgL_len, allP_map, take_pg, take_pgm, get0, get1, get2, getm0, getm1, getm2, get00, getm00, setm0, setm1, setm2, setm00, setR_pg, setR_pg1, flat_pg, flatL_app, eq_pg]
      exact hq _ _ _ _ (hfin hI2 hK3 _).1 (by omega) (by rw [hw2]; simp [pinW, hf]) (hfin hI2 hK3 _).2
end
end Go.Ev.F28
end
