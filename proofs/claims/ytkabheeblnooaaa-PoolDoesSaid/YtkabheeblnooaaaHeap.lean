/- A part of the proof: walks of the functions that the law calls. No condition. -/
import Derived.Test.YtkabheeblnooaaaRefB
import Derived.Test.YtkabheeblnooaaaRun
set_option linter.all false
section
namespace Go.Ev.F28
open Go.Proofs Go.Ev
set_option maxRecDepth 100000
set_option linter.all false
theorem nn_v (b o : Nat) : nonNil (.vptr b o) = some (.vptr b o) := rfl
theorem nn_fn (f : FuncId) (l : List AV) : nonNil (.fn f l) = some (.fn f l) := rfl
theorem nodup_inj {α : Type} {l : List α} (h : l.Nodup) {i j : Nat} (hi : i < l.length) (hj : j < l.length) (e : l[i] = l[j]) : i = j := by
  rcases Nat.lt_trichotomy i j with k | k | k
  · exact absurd e (List.pairwise_iff_getElem.1 h i j hi hj k)
  · exact k
  · exact absurd e.symm (List.pairwise_iff_getElem.1 h j i hj hi k)
/-- Where a pool lies: it, the cell that leads to what is beneath, that, its pages, and the frames' map. -/
structure Pos where
  pp : Nat
  bc : Nat
  bb : Nat
  ab : Nat
  mb : Nat
/-- A frame, where it lies and when it was used. -/
structure Fx where
  f : Fr
  q : Nat
  u : Nat
abbrev poolB (c : Pos) (r t a b : Nat) : Blk := .var true (.agg [.p (I r), .map c.mb, .fn 25 [.vptr c.bc 0], .fn 26 [.vptr c.bc 0], .p (I t), .p (I a), .p (I b)])
abbrev frB (f : Fr) (u : Nat) : Blk := .var true (.p (.agg (pgL f.b ++ [I f.k, B f.d, I u])))
abbrev benB (c : Pos) (g n w : Nat) : Blk := .var true (.agg [.ref c.ab g 0 n false, .p (I w)])
def Foot (c : Pos) (X : List Fx) : List Nat := c.pp :: c.bc :: c.bb :: c.ab :: c.mb :: X.map (·.q)
def mapOk (H : Heap) (b : Nat) (X : List Fx) : Prop := ∃ (g : Nat) (E : List (Int × Nat)), H[b]? = some (.map true g (kI .i64 (E.map (·.1))) (E.map fun e : Int × Nat => .vptr e.2 0)) ∧ E.Perm (X.map fun x => (x.f.n, x.q))
structure Inv (H : Heap) (c : Pos) (m : Md) (X : List Fx) (t w : Nat) : Prop where
  pool : H[c.pp]? = some (poolB c m.room t m.met m.miss)
  cell : H[c.bc]? = some (.var true (.vptr c.bb 0))
  ben : ∃ g, H[c.bb]? = some (benB c g m.W.length w) ∧ H[c.ab]? = some (.arr true g 224 (pgs m.W))
  map : mapOk H c.mb X
  frs : ∀ x ∈ X, H[x.q]? = some (frB x.f x.u)
  L : m.L = X.map (·.f)
  nn : (X.map (·.f.n)).Nodup
  qn : (Foot c X).Nodup
  srt : X.Pairwise (fun x y => x.u < y.u)
  le : ∀ x ∈ X, x.u ≤ t
  nr : ∀ x ∈ X, 0 ≤ x.f.n ∧ x.f.n < m.W.length
  full : X.length ≤ m.room
  ok : m.ok
  tl : t ≤ 100000
  wl : w ≤ 100000
theorem Inv.keep {H H' : Heap} {c : Pos} {m : Md} {X : List Fx} {t w : Nat} (h : Inv H c m X t w) (k : ∀ i ∈ Foot c X, H'[i]? = H[i]?) : Inv H' c m X t w := by
  obtain ⟨h1, h2, ⟨g, h3, h4⟩, ⟨g2, E, h5, h5'⟩, h6, h7, h8, h9, h10, h11, h12, h13, h14, h15, h16⟩ := h
  exact ⟨(k _ (by simp [Foot])).trans h1, (k _ (by simp [Foot])).trans h2, ⟨g, (k _ (by simp [Foot])).trans h3, (k _ (by simp [Foot])).trans h4⟩,
    ⟨g2, E, (k _ (by simp [Foot])).trans h5, h5'⟩, fun x hx => (k _ (by simp [Foot]; exact .inr (.inr (.inr (.inr (.inr ⟨x, hx, rfl⟩)))))).trans (h6 x hx), h7, h8, h9, h10, h11, h12, h13, h14, h15, h16⟩
theorem Inv.lt {H : Heap} {c : Pos} {m : Md} {X : List Fx} {t w : Nat} (h : Inv H c m X t w) : ∀ i ∈ Foot c X, i < H.length := by
  have key : ∀ {i : Nat} {x : Blk}, H[i]? = some x → i < H.length := fun h => (List.getElem?_eq_some_iff.1 h).1
  obtain ⟨g, h3, h4⟩ := h.ben
  obtain ⟨g2, E, h5, _⟩ := h.map
  intro i hi
  simp only [Foot, List.mem_cons, List.mem_map] at hi
  rcases hi with rfl | rfl | rfl | rfl | rfl | ⟨x, hx, rfl⟩
  · exact key h.pool
  · exact key h.cell
  · exact key h3
  · exact key h4
  · exact key h5
  · exact key (h.frs x hx)
theorem Inv.app {H : Heap} {c : Pos} {m : Md} {X : List Fx} {t w : Nat} (h : Inv H c m X t w) (l : Heap) : Inv (H ++ l) c m X t w :=
  h.keep fun i hi => hs_app (h.lt i hi)
theorem Inv.set {H : Heap} {c : Pos} {m : Md} {X : List Fx} {t w : Nat} (h : Inv H c m X t w) {j : Nat} {y : Blk} (hj : j ∉ Foot c X) : Inv (H.set j y) c m X t w :=
  h.keep fun i hi => hs_ne (fun e => hj (e ▸ hi))
theorem Inv.ne {H : Heap} {c : Pos} {m : Md} {X : List Fx} {t w : Nat} (h : Inv H c m X t w) : c.pp ≠ c.bc ∧ c.pp ≠ c.bb ∧ c.pp ≠ c.ab ∧ c.pp ≠ c.mb ∧ c.bc ≠ c.bb ∧ c.bc ≠ c.ab ∧ c.bc ≠ c.mb ∧ c.bb ≠ c.ab ∧ c.bb ≠ c.mb ∧ c.ab ≠ c.mb ∧
    ∀ x ∈ X, c.pp ≠ x.q ∧ c.bc ≠ x.q ∧ c.bb ≠ x.q ∧ c.ab ≠ x.q ∧ c.mb ≠ x.q := by
  have h := h.qn
  simp only [Foot, List.nodup_cons, List.mem_cons, not_or, List.mem_map, not_exists, not_and] at h
  obtain ⟨⟨a1, a2, a3, a4, a5⟩, ⟨b1, b2, b3, b4⟩, ⟨c1, c2, c3⟩, ⟨d1, d2⟩, e1, _⟩ := h
  exact ⟨a1, a2, a3, a4, b1, b2, b3, c1, c2, d1, fun x hx => ⟨fun e => a5 x hx e.symm, fun e => b4 x hx e.symm, fun e => c3 x hx e.symm, fun e => d2 x hx e.symm, fun e => e1 x hx e.symm⟩⟩
theorem Inv.q_inj {H : Heap} {c : Pos} {m : Md} {X : List Fx} {t w : Nat} (h : Inv H c m X t w) {i j : Nat} (hi : i < X.length) (hj : j < X.length) (e : X[i].q = X[j].q) : i = j := by
  have h := h.qn
  simp only [Foot, List.nodup_cons] at h
  have h := h.2.2.2.2.2
  exact nodup_inj h (i := i) (j := j) (by simpa using hi) (by simpa using hj) (by simpa using e)
theorem Inv.n_inj {H : Heap} {c : Pos} {m : Md} {X : List Fx} {t w : Nat} (h : Inv H c m X t w) {i j : Nat} (hi : i < X.length) (hj : j < X.length) (e : X[i].f.n = X[j].f.n) : i = j :=
  nodup_inj h.nn (i := i) (j := j) (by simpa using hi) (by simpa using hj) (by simpa using e)
theorem Inv.find {H : Heap} {c : Pos} {m : Md} {X : List Fx} {t w : Nat} (h : Inv H c m X t w) {n : Int} {i : Nat} (hf : findF m.L n = some i) : ∃ hi : i < X.length, X[i].f.n = n := by
  obtain ⟨hi, hn⟩ := findF_some hf
  have hX := h.L
  have hi' : i < X.length := by rw [hX] at hi; simpa using hi
  refine ⟨hi', ?_⟩
  rw [← hn]
  simp [hX]
theorem find_at {X : List Fx} (nn : (X.map (·.f.n)).Nodup) {i : Nat} (hi : i < X.length) : findF (X.map (·.f)) X[i].f.n = some i := by
  unfold findF
  rw [List.findIdx?_eq_some_iff_getElem]
  refine ⟨by simpa using hi, by simp, fun j hj => ?_⟩
  have hjl : j < X.length := by omega
  have : ¬ X[j].f.n = X[i].f.n := fun e => by
    have := nodup_inj nn (i := j) (j := i) (by simpa using hjl) (by simpa using hi) (by simpa using e)
    omega
  simpa using this
theorem map_look {H : Heap} {b : Nat} {X : List Fx} (h : mapOk H b X) (nn : (X.map (·.f.n)).Nodup) {i : Nat} (hi : i < X.length) : evLook Try.prog 69 (.map b) (.p (I X[i].f.n)) false H = some (.vptr X[i].q 0) := by
  obtain ⟨g, E, hb, hp⟩ := h
  have hmem : (X[i].f.n, X[i].q) ∈ E := hp.mem_iff.2 (List.mem_map.2 ⟨X[i], List.getElem_mem hi, rfl⟩)
  obtain ⟨j, hj, ej⟩ := List.mem_iff_getElem.1 hmem
  have nE : (E.map (·.1)).Nodup := by
    have := hp.map (·.1)
    rw [List.map_map] at this
    exact (this.nodup_iff).2 nn
  have hfi : (E.map (·.1)).findIdx? (fun y => X[i].f.n == y) = some j := by
    rw [List.findIdx?_eq_some_iff_getElem]
    refine ⟨by simpa using hj, by simp [ej], fun k hk => ?_⟩
    have hkl : k < E.length := by omega
    have : ¬ X[i].f.n = E[k].1 := fun e => by
      have := nodup_inj nE (i := k) (j := j) (by simpa using hkl) (by simpa using hj) (by simp [ej, ← e])
      omega
    simpa using this
  exact look_hit (P := Try.prog) tmap_69 tzero_68 hb hfi (v := .vptr X[i].q 0) (by simp [hj, ej]) false
theorem map_miss {H : Heap} {b : Nat} {X : List Fx} (h : mapOk H b X) {n : Int} (hf : findF (X.map (·.f)) n = none) : evLook Try.prog 69 (.map b) (.p (I n)) false H = some (.p .nptr) := by
  obtain ⟨g, E, hb, hp⟩ := h
  refine look_miss (P := Try.prog) tmap_69 tzero_68 hb (fun hx => ?_) false
  obtain ⟨e, he, rfl⟩ := List.mem_map.1 hx
  obtain ⟨x, hx2, rfl⟩ := List.mem_map.1 (hp.mem_iff.1 he)
  unfold findF at hf
  have := List.findIdx?_eq_none_iff.1 hf x.f (List.mem_map.2 ⟨x, hx2, rfl⟩)
  simp at this
/-- What an act keeps. -/
structure Keep (c : Pos) (H H' : Heap) (X X' : List Fx) : Prop where
  len : H.length ≤ H'.length
  same : ∀ i, i < H.length → i ∉ Foot c X → H'[i]? = H[i]?
  q : ∀ i ∈ Foot c X', i ∈ Foot c X ∨ H.length ≤ i
theorem Keep.rfl {c : Pos} {H : Heap} {X : List Fx} : Keep c H H X X := ⟨Nat.le_refl _, fun _ _ _ => _root_.rfl, fun _ h => .inl h⟩
theorem Keep.trans {c : Pos} {H H1 H2 : Heap} {X X1 X2 : List Fx} (a : Keep c H H1 X X1) (b : Keep c H1 H2 X1 X2) : Keep c H H2 X X2 where
  len := Nat.le_trans a.len b.len
  same i h1 h2 := by
    rw [b.same i (by have := a.len; omega) (fun h => (a.q i h).elim h2 (by omega)), a.same i h1 h2]
  q i h := (b.q i h).elim (fun h => a.q i h) (fun h => .inr (by have := a.len; omega))
theorem Keep.pre {c : Pos} {H l H' : Heap} {X X' : List Fx} (a : Keep c (H ++ l) H' X X') : Keep c H H' X X' where
  len := by have := a.len; simp at this; omega
  same i h1 h2 := by rw [a.same i (by simp; omega) h2, hs_app h1]
  q i h := (a.q i h).imp_right (by simp; omega)
theorem Keep.mk' {c : Pos} {H H' : Heap} {X X' : List Fx} (hl : H.length ≤ H'.length) (hs : ∀ i, i < H.length → i ∉ Foot c X → H'[i]? = H[i]?) (hq : X'.map (·.q) = X.map (·.q)) : Keep c H H' X X' :=
  ⟨hl, hs, fun i h => .inl (by unfold Foot at h ⊢; rw [hq] at h; exact h)⟩
end Go.Ev.F28
end
section
namespace Go.Ev.F28
open Go.Proofs Go.Ev
set_option maxRecDepth 100000
set_option linter.all false
section
variable {H : Heap} {c : Pos} {m : Md} {X : List Fx} {t w : Nat}
/-- What is beneath is read. -/
theorem w25 (h : Inv H c m X t w) (n : Int) (Q : AV → Heap → Prop)
    (hq : ∀ l, Q (if 0 ≤ n ∧ n < m.W.length then .p (.tup [pgP (m.W.getD n.toNat 0), I 0]) else .p (.tup [pgP 0, I 2])) (H ++ l)) : (Ev.W Cf okf).call 25 [.p (I n), .vptr c.bc 0] H Q := by
  refine top_mk extMono Try.func25 body25 (by decide) rfl ?_
  simp only [c25, Try.f25, Option.getD_some]
  have hW := h.ok.W
  have hlt := h.lt
  obtain ⟨g, k3, k4⟩ := h.ben
  have k2 := h.cell
  have a2 : ∀ l : Heap, (H ++ l)[c.bc]? = some (.var true (.vptr c.bb 0)) := fun l => (hs_app (hlt _ (by simp [Foot]))).trans k2
  have a3 : ∀ l : Heap, (H ++ l)[c.bb]? = some (benB c g m.W.length w) := fun l => (hs_app (hlt _ (by simp [Foot]))).trans k3
  have a4 : ∀ l : Heap, (H ++ l)[c.ab]? = some (.arr true g 224 (pgs m.W)) := fun l => (hs_app (hlt _ (by simp [Foot]))).trans k4
  have hl := pgs_len m.W
  by_cases hb : 0 ≤ n ∧ n < m.W.length
  · rw [if_pos hb] at hq
    obtain ⟨i, rfl⟩ : ∃ i : Nat, n = i := ⟨n.toNat, by omega⟩
    have hi : i < m.W.length := by omega
    have gi := pgs_get hi
    have hgd : m.W.getD (i : Int).toNat 0 = m.W[i] := by simp [hi]
    rw [hgd] at hq
    simp -implicitDefEqProofs -dsimp (maxSteps := 1000000) (disch := first | omega | (simp only [wkLen]; omega) | decide +kernel) only [↓wkPre, ↓wkPre2, ↓wkE, wkPost, wkDef, wkF, simprocAttr, a2, a3, a4, hl, gi, nn_v, nn_fn, List.length_map, pgL_len, allP_map, take_pg, take_pgm, get0, get1, get2, getm0, getm1, getm2, get00, getm00, setm0, setm1, setm2, setm00, setR_pg, setR_pg1, flat_pg, flatL_app, eq_pg]
    exact hq _
  · rw [if_neg hb] at hq
    by_cases h0 : n < 0
    · simp -implicitDefEqProofs -dsimp (maxSteps := 1000000) (disch := first | omega | (simp only [wkLen]; omega) | decide +kernel) only [↓wkPre, ↓wkPre2, ↓wkE, wkPost, wkDef, wkF, simprocAttr, a2, a3, a4, hl, nn_v, nn_fn, List.length_map, pgL_len, allP_map, take_pg, take_pgm, get0, get1, get2, getm0, getm1, getm2, get00, getm00, setm0, setm1, setm2, setm00, setR_pg, setR_pg1, flat_pg, flatL_app, eq_pg]
      exact hq _
    · simp -implicitDefEqProofs -dsimp (maxSteps := 1000000) (disch := first | omega | (simp only [wkLen]; omega) | decide +kernel) only [↓wkPre, ↓wkPre2, ↓wkE, wkPost, wkDef, wkF, simprocAttr, a2, a3, a4, hl, nn_v, nn_fn, List.length_map, pgL_len, allP_map, take_pg, take_pgm, get0, get1, get2, getm0, getm1, getm2, get00, getm00, setm0, setm1, setm2, setm00, setR_pg, setR_pg1, flat_pg, flatL_app, eq_pg]
      exact hq _
/-- It is written. -/
theorem w26 (h : Inv H c m X t w) (n : Int) (b : UInt8) (h0 : 0 ≤ n) (hn : n < m.W.length) (hw : w + 1 ≤ 100000) (Q : AV → Heap → Prop)
    (hq : ∀ H', Inv H' c { m with W := belowF m.W n b } X t (w + 1) → Keep c H H' X X → Q (.p (I 0)) H') : (Ev.W Cf okf).call 26 [.p (I n), .p (pgP b), .vptr c.bc 0] H Q := by
  refine top_mk extMono Try.func26 body26 (by decide) rfl ?_
  simp only [c26, Try.f26, Option.getD_some]
  have hW := h.ok.W
  have hlt := h.lt
  have hne := h.ne
  obtain ⟨g, k3, k4⟩ := h.ben
  have k2 := h.cell
  have a2 : ∀ l : Heap, (H ++ l)[c.bc]? = some (.var true (.vptr c.bb 0)) := fun l => (hs_app (hlt _ (by simp [Foot]))).trans k2
  have a3 : ∀ l : Heap, (H ++ l)[c.bb]? = some (benB c g m.W.length w) := fun l => (hs_app (hlt _ (by simp [Foot]))).trans k3
  have a4 : ∀ l : Heap, (H ++ l)[c.ab]? = some (.arr true g 224 (pgs m.W)) := fun l => (hs_app (hlt _ (by simp [Foot]))).trans k4
  have b2 : ∀ (l : Heap) (x : Blk), ((H ++ l).set c.ab x)[c.bc]? = some (.var true (.vptr c.bb 0)) := fun l x => (hs_ne hne.2.2.2.2.2.1.symm).trans (a2 l)
  have b3 : ∀ (l : Heap) (x : Blk), ((H ++ l).set c.ab x)[c.bb]? = some (benB c g m.W.length w) := fun l x => (hs_ne hne.2.2.2.2.2.2.2.1.symm).trans (a3 l)
  have hl := pgs_len m.W
  obtain ⟨i, rfl⟩ : ∃ i : Nat, n = i := ⟨n.toNat, by omega⟩
  have hi : i < m.W.length := by omega
  have gi := pgs_get hi
  have hset : (pgs m.W).set i (pgP b) = pgs (belowF m.W i b) := by simp [pgs, belowF, List.map_set]
  simp -implicitDefEqProofs -dsimp (maxSteps := 1000000) (disch := first | omega | (simp only [wkLen]; omega) | decide +kernel) only [↓wkPre, ↓wkPre2, ↓wkE, wkPost, wkDef, wkF, simprocAttr, a2, a3, a4, b2, b3, hl, gi, hset, nn_v, nn_fn, List.length_map, pgL_len, allP_map, take_pg, take_pgm, get0, get1, get2, getm0, getm1, getm2, get00, getm00, setm0, setm1, setm2, setm00, setR_pg, setR_pg1, flat_pg, flatL_app, eq_pg]
  generalize hl2 : ([Blk.var true (AV.p (pgP b))] : Heap) = l
  have hk : ∀ j, j < H.length → j ≠ c.ab → j ≠ c.bb → (((H ++ l).set c.ab (.arr true g 224 (pgs (belowF m.W i b)))).set c.bb (.var true (.agg [.ref c.ab g 0 m.W.length false, .p (.int .i64 (w + 1))])))[j]? = H[j]? := fun j hj h1 h2 => by
    rw [hs_ne h2.symm, hs_ne h1.symm, hs_app hj]
  have hab : c.ab < H.length := hlt _ (by simp [Foot])
  have hbb : c.bb < H.length := hlt _ (by simp [Foot])
  have hwl : (belowF m.W i b).length = m.W.length := by simp [belowF]
  refine hq _ ⟨?_, ?_, ⟨g, ?_, ?_⟩, ?_, ?_, h.L, h.nn, h.qn, h.srt, h.le, ?_, h.full, ?_, h.tl, hw⟩ (Keep.mk' (by simp) (fun j hj hf => hk j hj (fun e => hf (by simp [Foot, e])) (fun e => hf (by simp [Foot, e]))) _root_.rfl)
  · exact (hk _ (hlt _ (by simp [Foot])) hne.2.2.1 hne.2.1).trans h.pool
  · exact (hk _ (hlt _ (by simp [Foot])) hne.2.2.2.2.2.1 hne.2.2.2.2.1).trans h.cell
  · rw [hs_set (by simp; omega)]; simp [hwl]
  · rw [hs_ne hne.2.2.2.2.2.2.2.1, hs_set (by simp; omega)]
  · obtain ⟨g2, E, h5, h5'⟩ := h.map
    exact ⟨g2, E, (hk _ (hlt _ (by simp [Foot])) hne.2.2.2.2.2.2.2.2.2.1.symm hne.2.2.2.2.2.2.2.2.1.symm).trans h5, h5'⟩
  · intro x hx
    have := hne.2.2.2.2.2.2.2.2.2.2 x hx
    exact (hk _ (hlt _ (by simp [Foot]; exact .inr (.inr (.inr (.inr (.inr ⟨x, hx, rfl⟩)))))) this.2.2.2.1.symm this.2.2.1.symm).trans (h.frs x hx)
  · simpa [hwl] using h.nr
  · exact ⟨h.ok.room, h.ok.L, by simpa [hwl] using h.ok.W, h.ok.met, h.ok.miss, h.ok.k, by simpa [hwl] using h.ok.n⟩
theorem memq {x : Fx} (hx : x ∈ X) : x.q ∈ Foot c X := by simp [Foot]; exact .inr (.inr (.inr (.inr (.inr ⟨x, hx, rfl⟩))))
/-- A frame is used. -/
theorem w33 {r t a b : Nat} {f : Fr} {u q : Nat} (hp : H[c.pp]? = some (poolB c r t a b)) (hf : H[q]? = some (frB f u)) (hne : c.pp ≠ q) (ht : t ≤ 1000000) (Q : AV → Heap → Prop)
    (hq : Q (.vptr q 0) ((H.set c.pp (poolB c r (t + 1) a b)).set q (frB f (t + 1)))) : (Ev.W Cf okf).call 33 [.vptr c.pp 0, .vptr q 0] H Q := by
  refine top_mk extMono Try.func33 body33 (by decide) rfl ?_
  simp only [c33, Try.f33, Option.getD_some]
  have h1 := (List.getElem?_eq_some_iff.1 hp).1
  have h2 := (List.getElem?_eq_some_iff.1 hf).1
  have a1 : ∀ x : Blk, (H.set c.pp x)[c.pp]? = some x := fun x => hs_set h1
  have a2 : ∀ x : Blk, (H.set c.pp x)[q]? = some (frB f u) := fun x => (hs_ne hne).trans hf
  simp -implicitDefEqProofs -dsimp (maxSteps := 1000000) (disch := first | omega | (simp only [wkLen]; omega) | decide +kernel) only [↓wkPre, ↓wkPre2, ↓wkE, wkPost, wkDef, wkF, simprocAttr, hp, hf, a1, a2, nn_v, nn_fn, List.length_map, pgL_len, allP_map, take_pg, take_pgm, get0, get1, get2, getm0, getm1, getm2, get00, getm00, setm0, setm1, setm2, setm00, setR_pg, setR_pg1, flat_pg, flatL_app, eq_pg]
  exact hq
theorem w18 (h : Inv H c m X t w) (Q : AV → Heap → Prop) (hq : Q (.p (I m.L.length)) H) : (Ev.W Cf okf).call 18 [.vptr c.pp 0] H Q := by
  refine top_mk extMono Try.func18 body18 (by decide) rfl ?_
  simp only [c18, Try.f18, Option.getD_some]
  have hp := h.pool
  obtain ⟨g, E, h5, h6⟩ := h.map
  have hl : E.length = m.L.length := by rw [h6.length_eq, h.L]; simp
  have hkl : (kI .i64 (E.map (·.1))).length = m.L.length := by simp [kI, hl]
  simp -implicitDefEqProofs -dsimp (maxSteps := 1000000) (disch := first | omega | (simp only [wkLen]; omega) | decide +kernel) only [↓wkPre, ↓wkPre2, ↓wkE, wkPost, wkDef, wkF, simprocAttr, hp, h5, hkl, nn_v, nn_fn, List.length_map, pgL_len, allP_map, take_pg, take_pgm, get0, get1, get2, getm0, getm1, getm2, get00, getm00, setm0, setm1, setm2, setm00, setR_pg, setR_pg1, flat_pg, flatL_app, eq_pg]
  exact hq
theorem w23 (h : Inv H c m X t w) (Q : AV → Heap → Prop) (hq : Q (.p (.tup [I m.met, I m.miss])) H) : (Ev.W Cf okf).call 23 [.vptr c.pp 0] H Q := by
  refine top_mk extMono Try.func23 body23 (by decide) rfl ?_
  simp only [c23, Try.f23, Option.getD_some]
  have hp := h.pool
  simp -implicitDefEqProofs -dsimp (maxSteps := 1000000) (disch := first | omega | (simp only [wkLen]; omega) | decide +kernel) only [↓wkPre, ↓wkPre2, ↓wkE, wkPost, wkDef, wkF, simprocAttr, hp, nn_v, nn_fn, List.length_map, pgL_len, allP_map, take_pg, take_pgm, get0, get1, get2, getm0, getm1, getm2, get00, getm00, setm0, setm1, setm2, setm00, setR_pg, setR_pg1, flat_pg, flatL_app, eq_pg]
  exact hq
def pinsF (m : Md) (n : Int) : Nat := match findF m.L n with | none => 0 | some i => (m.L.getD i ⟨0, 0, 0, false⟩).k
def dirtyF (m : Md) (n : Int) : Bool := match findF m.L n with | none => false | some i => (m.L.getD i ⟨0, 0, 0, false⟩).d
theorem look_n (h : Inv H c m X t w) {n : Int} (hf : findF m.L n = none) : evLook Try.prog 69 (.map c.mb) (.p (I n)) false H = some (.p .nptr) :=
  map_miss h.map (by rw [← h.L]; exact hf)
theorem look_s (h : Inv H c m X t w) {n : Int} {i : Nat} (hf : findF m.L n = some i) : ∃ hi : i < X.length, X[i].f.n = n ∧ m.L[i]? = some X[i].f ∧ evLook Try.prog 69 (.map c.mb) (.p (I n)) false H = some (.vptr X[i].q 0) ∧ H[X[i].q]? = some (frB X[i].f X[i].u) := by
  obtain ⟨hi, hn⟩ := h.find hf
  refine ⟨hi, hn, by rw [h.L]; simp [hi], ?_, h.frs _ (List.getElem_mem hi)⟩
  have := map_look h.map h.nn hi
  rwa [hn] at this
theorem w21 (h : Inv H c m X t w) (n : Int) (Q : AV → Heap → Prop) (hq : Q (.p (I (pinsF m n))) H) : (Ev.W Cf okf).call 21 [.vptr c.pp 0, .p (I n)] H Q := by
  refine top_mk extMono Try.func21 body21 (by decide) rfl ?_
  simp only [c21, Try.f21, Option.getD_some]
  have hp := h.pool
  unfold pinsF at hq
  cases hf : findF m.L n with
  | none =>
    rw [hf] at hq
    have hk := look_n h hf
    simp -implicitDefEqProofs -dsimp (maxSteps := 1000000) (disch := first | omega | (simp only [wkLen]; omega) | decide +kernel) only [↓wkPre, ↓wkPre2, ↓wkE, wkPost, wkDef, wkF, simprocAttr, hp, hk, nn_v, nn_fn, List.length_map, pgL_len, allP_map, take_pg, take_pgm, get0, get1, get2, getm0, getm1, getm2, get00, getm00, setm0, setm1, setm2, setm00, setR_pg, setR_pg1, flat_pg, flatL_app, eq_pg]
    exact hq
  | some i =>
    rw [hf] at hq
    obtain ⟨hi, hn, hL, hk, hx⟩ := look_s h hf
    dsimp only at hq
    rw [show m.L.getD i ⟨0, 0, 0, false⟩ = X[i].f by rw [List.getD_eq_getElem?_getD, hL]; rfl] at hq
    simp -implicitDefEqProofs -dsimp (maxSteps := 1000000) (disch := first | omega | (simp only [wkLen]; omega) | decide +kernel) only [↓wkPre, ↓wkPre2, ↓wkE, wkPost, wkDef, wkF, simprocAttr, hp, hk, hx, nn_v, nn_fn, List.length_map, pgL_len, allP_map, take_pg, take_pgm, get0, get1, get2, getm0, getm1, getm2, get00, getm00, setm0, setm1, setm2, setm00, setR_pg, setR_pg1, flat_pg, flatL_app, eq_pg]
    exact hq
theorem w17 (h : Inv H c m X t w) (n : Int) (Q : AV → Heap → Prop) (hq : Q (.p (B (dirtyF m n))) H) : (Ev.W Cf okf).call 17 [.vptr c.pp 0, .p (I n)] H Q := by
  refine top_mk extMono Try.func17 body17 (by decide) rfl ?_
  simp only [c17, Try.f17, Option.getD_some]
  have hp := h.pool
  unfold dirtyF at hq
  cases hf : findF m.L n with
  | none =>
    rw [hf] at hq
    have hk := look_n h hf
    simp -implicitDefEqProofs -dsimp (maxSteps := 1000000) (disch := first | omega | (simp only [wkLen]; omega) | decide +kernel) only [↓wkPre, ↓wkPre2, ↓wkE, wkPost, wkDef, wkF, simprocAttr, hp, hk, nn_v, nn_fn, List.length_map, pgL_len, allP_map, take_pg, take_pgm, get0, get1, get2, getm0, getm1, getm2, get00, getm00, setm0, setm1, setm2, setm00, setR_pg, setR_pg1, flat_pg, flatL_app, eq_pg]
    exact hq
  | some i =>
    rw [hf] at hq
    obtain ⟨hi, hn, hL, hk, hx⟩ := look_s h hf
    dsimp only at hq
    rw [show m.L.getD i ⟨0, 0, 0, false⟩ = X[i].f by rw [List.getD_eq_getElem?_getD, hL]; rfl] at hq
    simp -implicitDefEqProofs -dsimp (maxSteps := 1000000) (disch := first | omega | (simp only [wkLen]; omega) | decide +kernel) only [↓wkPre, ↓wkPre2, ↓wkE, wkPost, wkDef, wkF, simprocAttr, hp, hk, hx, nn_v, nn_fn, List.length_map, pgL_len, allP_map, take_pg, take_pgm, get0, get1, get2, getm0, getm1, getm2, get00, getm00, setm0, setm1, setm2, setm00, setR_pg, setR_pg1, flat_pg, flatL_app, eq_pg]
    exact hq
end
end Go.Ev.F28
end
section
namespace Go.Ev.F28
open Go.Proofs Go.Ev
set_option maxRecDepth 100000
set_option linter.all false
section
variable {H H' : Heap} {c : Pos} {m : Md} {X : List Fx} {t w : Nat}
theorem Foot_map {X X' : List Fx} (h : X'.map (·.q) = X.map (·.q)) : Foot c X' = Foot c X := by unfold Foot; rw [h]
theorem set_map {α β : Type} (g : α → β) {l : List α} {i : Nat} (hi : i < l.length) {x : α} (h : g x = g l[i]) : (l.set i x).map g = l.map g := by
  rw [List.map_set, h]
  have : g l[i] = (l.map g)[i]'(by simpa using hi) := by simp
  rw [this, List.set_getElem_self]
theorem erase_map {α β : Type} (f : α → β) : ∀ (l : List α) (i : Nat), (l.map f).eraseIdx i = (l.eraseIdx i).map f
  | [], _ => rfl
  | _ :: _, 0 => rfl
  | x :: l, i + 1 => by simp [List.eraseIdx_cons_succ, erase_map f l i]
theorem erase_pm {α : Type} : ∀ {l : List α} {i : Nat} (h : i < l.length), (l[i] :: l.eraseIdx i).Perm l
  | [], _, h => absurd h (by simp)
  | x :: l, 0, _ => List.Perm.refl _
  | x :: l, i + 1, h => by
    have := erase_pm (l := l) (i := i) (by simpa using h)
    simp only [List.getElem_cons_succ, List.eraseIdx_cons_succ]
    exact (List.Perm.swap _ _ _).trans (this.cons x)
theorem last_perm {α β : Type} (g : α → β) {l : List α} {i : Nat} (hi : i < l.length) {x : α} (h : g x = g l[i]) : ((l.eraseIdx i ++ [x]).map g).Perm (l.map g) := by
  rw [List.map_append, List.map_singleton, h]
  refine (List.perm_append_comm).trans ?_
  have := (erase_pm hi).map g
  simpa using this
theorem Foot_perm {X X' : List Fx} (h : (X'.map (·.q)).Perm (X.map (·.q))) : (Foot c X').Perm (Foot c X) := by
  unfold Foot
  exact ((((h.cons _).cons _).cons _).cons _).cons _
/-- A frame is another one, where it is. -/
theorem Inv.put (h : Inv H c m X t w) {i : Nat} (hi : i < X.length) {f' : Fr} (hn : f'.n = X[i].f.n) (hk : f'.k ≤ 100000)
    (kq : H'[X[i].q]? = some (frB f' X[i].u)) (ks : ∀ j ∈ Foot c X, j ≠ X[i].q → H'[j]? = H[j]?) : Inv H' c { m with L := m.L.set i f' } (X.set i ⟨f', X[i].q, X[i].u⟩) t w := by
  have hne := h.ne
  have hx := hne.2.2.2.2.2.2.2.2.2.2 _ (List.getElem_mem hi)
  have em : (X.set i ⟨f', X[i].q, X[i].u⟩).map (fun x => (x.f.n, x.q)) = X.map (fun x => (x.f.n, x.q)) := set_map _ hi (by simp [hn])
  have eq : (X.set i ⟨f', X[i].q, X[i].u⟩).map (·.q) = X.map (·.q) := set_map _ hi rfl
  have eu : (X.set i ⟨f', X[i].q, X[i].u⟩).map (·.u) = X.map (·.u) := set_map _ hi rfl
  have en : (X.set i ⟨f', X[i].q, X[i].u⟩).map (·.f.n) = X.map (·.f.n) := set_map _ hi hn
  have eL : { m with L := m.L.set i f' }.L = (X.set i ⟨f', X[i].q, X[i].u⟩).map (·.f) := by
    show m.L.set i f' = _
    rw [List.map_set, h.L]
  have mem : ∀ x ∈ X.set i ⟨f', X[i].q, X[i].u⟩, x = ⟨f', X[i].q, X[i].u⟩ ∨ (x ∈ X ∧ x.q ≠ X[i].q) := by
    intro x hx
    obtain ⟨j, hj, e⟩ := List.mem_iff_getElem.1 hx
    rw [List.getElem_set] at e
    split at e
    · exact .inl e.symm
    · rename_i hij
      have hj' : j < X.length := by simpa using hj
      exact .inr ⟨e ▸ List.getElem_mem hj', fun e2 => hij (h.q_inj hi hj' (by rw [e]; exact e2.symm))⟩
  refine ⟨(ks _ (by simp [Foot]) hx.1).trans h.pool, (ks _ (by simp [Foot]) hx.2.1).trans h.cell, ?_, ?_, ?_, eL, by rw [en]; exact h.nn, by rw [Foot_map eq]; exact h.qn, ?_, ?_, ?_, by simpa using h.full, ⟨h.ok.room, by simpa using h.ok.L, h.ok.W, h.ok.met, h.ok.miss, ?_, ?_⟩, h.tl, h.wl⟩
  · obtain ⟨g, k3, k4⟩ := h.ben
    exact ⟨g, (ks _ (by simp [Foot]) hx.2.2.1).trans k3, (ks _ (by simp [Foot]) hx.2.2.2.1).trans k4⟩
  · obtain ⟨g, E, k1, k2⟩ := h.map
    exact ⟨g, E, (ks _ (by simp [Foot]) hx.2.2.2.2).trans k1, by rw [em]; exact k2⟩
  · intro x hx
    rcases mem x hx with rfl | ⟨h1, h2⟩
    · exact kq
    · exact (ks _ (memq h1) h2).trans (h.frs x h1)
  · have h1 : (X.map (·.u)).Pairwise (· < ·) := List.pairwise_map.2 h.srt
    rw [← eu] at h1
    exact List.pairwise_map.1 h1
  · intro x hx
    rcases mem x hx with rfl | ⟨h1, h2⟩
    · exact h.le X[i] (List.getElem_mem hi)
    · exact h.le x h1
  · intro x hx
    rcases mem x hx with rfl | ⟨h1, h2⟩
    · have := h.nr _ (List.getElem_mem hi)
      rw [← hn] at this; exact this
    · exact h.nr x h1
  · intro f hf
    rw [eL] at hf
    obtain ⟨x, hx, rfl⟩ := List.mem_map.1 hf
    rcases mem x hx with rfl | ⟨h1, h2⟩
    · exact hk
    · exact h.ok.k _ (by rw [h.L]; exact List.mem_map.2 ⟨x, h1, rfl⟩)
  · intro f hf
    rw [eL] at hf
    obtain ⟨x, hx, rfl⟩ := List.mem_map.1 hf
    rcases mem x hx with rfl | ⟨h1, h2⟩
    · have := h.nr _ (List.getElem_mem hi)
      rw [← hn] at this; exact this
    · exact h.nr x h1
theorem mem_erase {i : Nat} (h : Inv H c m X t w) (hi : i < X.length) : ∀ x ∈ X.eraseIdx i, x ∈ X ∧ x.q ≠ X[i].q ∧ x.f.n ≠ X[i].f.n := by
  intro x hx
  obtain ⟨j, hj, hij, e⟩ := List.mem_eraseIdx_iff_getElem.1 hx
  exact ⟨e ▸ List.getElem_mem hj, fun e2 => hij (h.q_inj hj hi (by rw [e]; exact e2)), fun e2 => hij (h.n_inj hj hi (by rw [e]; exact e2))⟩
/-- A frame is used, and another one. -/
theorem Inv.last (h : Inv H c m X t w) {i : Nat} (hi : i < X.length) {f' : Fr} (hn : f'.n = X[i].f.n) (hk : f'.k ≤ 100000) {a : Nat} (ha : a ≤ 100000) (ht : t + 1 ≤ 100000)
    (kp : H'[c.pp]? = some (poolB c m.room (t + 1) a m.miss)) (kq : H'[X[i].q]? = some (frB f' (t + 1))) (ks : ∀ j ∈ Foot c X, j ≠ c.pp → j ≠ X[i].q → H'[j]? = H[j]?) :
    Inv H' c (lastF { m with met := a } i f') (X.eraseIdx i ++ [⟨f', X[i].q, t + 1⟩]) (t + 1) w := by
  have hne := h.ne
  have hx := hne.2.2.2.2.2.2.2.2.2.2 _ (List.getElem_mem hi)
  have eL : (lastF { m with met := a } i f').L = (X.eraseIdx i ++ [(⟨f', X[i].q, t + 1⟩ : Fx)]).map (·.f) := by
    show woF m.L i ++ [f'] = _
    unfold woF
    rw [if_pos (by omega), h.L, List.map_append]
    simp [erase_map]
  have mem : ∀ x ∈ X.eraseIdx i ++ [⟨f', X[i].q, t + 1⟩], x = ⟨f', X[i].q, t + 1⟩ ∨ (x ∈ X ∧ x.q ≠ X[i].q) := by
    intro x hx
    rw [List.mem_append, List.mem_singleton] at hx
    rcases hx with hx | rfl
    · have := mem_erase h hi x hx
      exact .inr ⟨this.1, this.2.1⟩
    · exact .inl rfl
  have hlen : (X.eraseIdx i ++ [(⟨f', X[i].q, t + 1⟩ : Fx)]).length = X.length := by simp [List.length_eraseIdx, hi]; omega
  refine ⟨kp, (ks _ (by simp [Foot]) hne.1.symm hx.2.1).trans h.cell, ?_, ?_, ?_, eL, ((last_perm (·.f.n) hi hn).nodup_iff).2 h.nn, ((Foot_perm (last_perm (x := (⟨f', X[i].q, t + 1⟩ : Fx)) (·.q) hi rfl)).nodup_iff).2 h.qn, ?_, ?_, ?_, by rw [hlen]; exact h.full, ⟨h.ok.room, ?_, h.ok.W, ha, h.ok.miss, ?_, ?_⟩, ht, h.wl⟩
  · obtain ⟨g, k3, k4⟩ := h.ben
    exact ⟨g, (ks _ (by simp [Foot]) hne.2.1.symm hx.2.2.1).trans k3, (ks _ (by simp [Foot]) hne.2.2.1.symm hx.2.2.2.1).trans k4⟩
  · obtain ⟨g, E, k1, k2⟩ := h.map
    exact ⟨g, E, (ks _ (by simp [Foot]) hne.2.2.2.1.symm hx.2.2.2.2).trans k1, k2.trans (last_perm (fun x : Fx => (x.f.n, x.q)) hi (by simp [hn])).symm⟩
  · intro x hx
    rcases mem x hx with rfl | ⟨h1, h2⟩
    · exact kq
    · exact (ks _ (memq h1) (hne.2.2.2.2.2.2.2.2.2.2 _ h1).1.symm h2).trans (h.frs x h1)
  · rw [List.pairwise_append]
    refine ⟨h.srt.sublist (List.eraseIdx_sublist _ _), List.pairwise_singleton _ _, fun x hx y hy => ?_⟩
    rw [List.mem_singleton] at hy
    subst hy
    have := h.le x (List.mem_of_mem_eraseIdx hx)
    dsimp only; omega
  · intro x hx
    rcases mem x hx with rfl | ⟨h1, h2⟩
    · exact Nat.le_refl _
    · have := h.le x h1; omega
  · intro x hx
    rcases mem x hx with rfl | ⟨h1, h2⟩
    · have := h.nr _ (List.getElem_mem hi)
      rw [← hn] at this; exact this
    · exact h.nr x h1
  · rw [eL, List.length_map, hlen]
    have := h.ok.L
    rw [h.L, List.length_map] at this; exact this
  · intro f hf
    rw [eL] at hf
    obtain ⟨x, hx, rfl⟩ := List.mem_map.1 hf
    rcases mem x hx with rfl | ⟨h1, h2⟩
    · exact hk
    · exact h.ok.k _ (by rw [h.L]; exact List.mem_map.2 ⟨x, h1, rfl⟩)
  · intro f hf
    rw [eL] at hf
    obtain ⟨x, hx, rfl⟩ := List.mem_map.1 hf
    rcases mem x hx with rfl | ⟨h1, h2⟩
    · have := h.nr _ (List.getElem_mem hi)
      rw [← hn] at this; exact this
    · exact h.nr x h1
/-- How often is counted. -/
theorem Inv.count (h : Inv H c m X t w) {a b : Nat} (ha : a ≤ 100000) (hb : b ≤ 100000) (kp : H'[c.pp]? = some (poolB c m.room t a b)) (ks : ∀ j ∈ Foot c X, j ≠ c.pp → H'[j]? = H[j]?) : Inv H' c { m with met := a, miss := b } X t w := by
  have hne := h.ne
  refine ⟨kp, (ks _ (by simp [Foot]) hne.1.symm).trans h.cell, ?_, ?_, ?_, h.L, h.nn, h.qn, h.srt, h.le, h.nr, h.full, ⟨h.ok.room, h.ok.L, h.ok.W, ha, hb, h.ok.k, h.ok.n⟩, h.tl, h.wl⟩
  · obtain ⟨g, k3, k4⟩ := h.ben
    exact ⟨g, (ks _ (by simp [Foot]) hne.2.1.symm).trans k3, (ks _ (by simp [Foot]) hne.2.2.1.symm).trans k4⟩
  · obtain ⟨g, E, k1, k2⟩ := h.map
    exact ⟨g, E, (ks _ (by simp [Foot]) hne.2.2.2.1.symm).trans k1, k2⟩
  · intro x hx
    exact (ks _ (memq hx) (hne.2.2.2.2.2.2.2.2.2.2 _ hx).1.symm).trans (h.frs x hx)
/-- A frame goes. -/
theorem Inv.drop (h : Inv H c m X t w) {i : Nat} (hi : i < X.length) : ∃ B, evDelete Try.prog 69 (.map c.mb) (.p (I X[i].f.n)) H = some (H.set c.mb B) ∧ Inv (H.set c.mb B) c { m with L := woF m.L i } (X.eraseIdx i) t w := by
  have hne := h.ne
  obtain ⟨g, E, hb, hp⟩ := h.map
  have hmb := h.lt c.mb (by simp [Foot])
  have hmem : (X[i].f.n, X[i].q) ∈ E := hp.mem_iff.2 (List.mem_map.2 ⟨X[i], List.getElem_mem hi, rfl⟩)
  obtain ⟨j, hj, ej⟩ := List.mem_iff_getElem.1 hmem
  have nE : (E.map (·.1)).Nodup := by
    have := hp.map (·.1)
    rw [List.map_map] at this
    exact (this.nodup_iff).2 h.nn
  have hfi : (E.map (·.1)).findIdx? (fun y => X[i].f.n == y) = some j := by
    rw [List.findIdx?_eq_some_iff_getElem]
    refine ⟨by simpa using hj, by simp [ej], fun k hk => ?_⟩
    have hkl : k < E.length := by omega
    have : ¬ X[i].f.n = E[k].1 := fun e => by
      have := nodup_inj nE (i := k) (j := j) (by simpa using hkl) (by simpa using hj) (by simp [ej, ← e])
      omega
    simpa using this
  have eL : { m with L := woF m.L i }.L = (X.eraseIdx i).map (·.f) := by
    show woF m.L i = _
    unfold woF
    rw [if_pos (by omega), h.L]
    simp [erase_map]
  refine ⟨.map true (g + 1) ((kI .i64 (E.map (·.1))).eraseIdx j) ((E.map fun e : Int × Nat => AV.vptr e.2 0).eraseIdx j), ?_, ?_⟩
  · unfold evDelete
    simp only [tmap_69, Option.bind_some, hb, keyOK_kI, if_true, findK_kI, hfi, Option.map_some, Nat.add_zero]
  have ks : ∀ k ∈ Foot c X, k ≠ c.mb → ∀ y : Blk, (H.set c.mb y)[k]? = H[k]? := fun k _ h y => hs_ne h.symm
  refine ⟨(ks _ (by simp [Foot]) hne.2.2.2.1 _).trans h.pool, (ks _ (by simp [Foot]) hne.2.2.2.2.2.2.1 _).trans h.cell, ?_, ?_, ?_, eL, h.nn.sublist ((List.eraseIdx_sublist _ _).map _), h.qn.sublist ?_, h.srt.sublist (List.eraseIdx_sublist _ _), ?_, ?_, ?_, ⟨h.ok.room, ?_, h.ok.W, h.ok.met, h.ok.miss, ?_, ?_⟩, h.tl, h.wl⟩
  · obtain ⟨g, k3, k4⟩ := h.ben
    exact ⟨g, (ks _ (by simp [Foot]) hne.2.2.2.2.2.2.2.2.1 _).trans k3, (ks _ (by simp [Foot]) hne.2.2.2.2.2.2.2.2.2.1 _).trans k4⟩
  · refine ⟨g + 1, E.eraseIdx j, by rw [hs_set hmb]; simp [kI, erase_map], ?_⟩
    have h1 : ((X[i].f.n, X[i].q) :: E.eraseIdx j).Perm E := by rw [← ej]; exact erase_pm hj
    have h2 : ((X[i].f.n, X[i].q) :: (X.eraseIdx i).map (fun x => (x.f.n, x.q))).Perm (X.map fun x => (x.f.n, x.q)) := by
      have := (erase_pm hi).map (fun x : Fx => (x.f.n, x.q))
      simpa using this
    exact (List.perm_cons _).1 ((h1.trans hp).trans h2.symm)
  · intro x hx
    have hx := List.mem_of_mem_eraseIdx hx
    exact (ks _ (memq hx) (hne.2.2.2.2.2.2.2.2.2.2 _ hx).2.2.2.2.symm _).trans (h.frs x hx)
  · unfold Foot
    exact (((((List.Sublist.map _ (List.eraseIdx_sublist _ _)).cons₂ _).cons₂ _).cons₂ _).cons₂ _).cons₂ _
  · intro x hx; exact h.le x (List.mem_of_mem_eraseIdx hx)
  · intro x hx; exact h.nr x (List.mem_of_mem_eraseIdx hx)
  · have := h.full
    have h2 := List.length_eraseIdx_le X i
    dsimp only; omega
  · rw [eL, List.length_map]
    have h2 := List.length_eraseIdx_le X i
    have := h.ok.L
    rw [h.L, List.length_map] at this; omega
  · intro f hf
    rw [eL] at hf
    obtain ⟨x, hx, rfl⟩ := List.mem_map.1 hf
    exact h.ok.k _ (by rw [h.L]; exact List.mem_map.2 ⟨x, List.mem_of_mem_eraseIdx hx, rfl⟩)
  · intro f hf
    rw [eL] at hf
    obtain ⟨x, hx, rfl⟩ := List.mem_map.1 hf
    exact h.ok.n _ (by rw [h.L]; exact List.mem_map.2 ⟨x, List.mem_of_mem_eraseIdx hx, rfl⟩)
end
end Go.Ev.F28
end
