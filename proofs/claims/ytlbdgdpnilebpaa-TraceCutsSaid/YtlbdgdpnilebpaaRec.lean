/- A part of the proof: walks of the functions that the law calls. No condition. -/
import Derived.Test.YtlbdgdpnilebpaaRun
set_option linter.all false
section
namespace Go.Ev.F35
open Go.Ev
set_option linter.all false
/-- A record that flat holds: its key, where it lies, what it says. -/
structure Rc where
  key : Int
  x : Int
  y : Int
  val : List UInt8
instance : Inhabited Rc := ⟨⟨0, 0, 0, []⟩⟩
structure Wr where
  put : Bool
  r : Rc
instance : Inhabited Wr := ⟨⟨false, default⟩⟩
abbrev rcP (r : Rc) : PV := .agg [.int .u64 0, .int .u64 r.key, .int .u32 r.x, .int .u32 r.y, .str r.val, .bool false]
/-- A write as the ref holds it, and as flat does. -/
abbrev wrP (w : Wr) : PV := .agg [.bool w.put, .int .u64 0, .int .u64 w.r.key, .int .u32 w.r.x, .int .u32 w.r.y, .str w.r.val, .bool false]
abbrev wfP (w : Wr) : PV := .agg [.int .u64 w.r.key, .int .u64 0, .int .u64 w.r.key, .int .u32 w.r.x, .int .u32 w.r.y, .str w.r.val, .bool false, .bool w.put]
def rcs (L : List Rc) : List PV := L.map rcP
def wrs (L : List Wr) : List PV := L.map wrP
def wfs (L : List Wr) : List PV := L.map wfP
theorem rcs_len (L : List Rc) : (rcs L).length = L.length := by simp [rcs]
theorem wrs_len (L : List Wr) : (wrs L).length = L.length := by simp [wrs]
theorem wfs_len (L : List Wr) : (wfs L).length = L.length := by simp [wfs]
theorem rcs_get {L : List Rc} {i : Nat} (h : i < L.length) : (rcs L)[i]? = some (rcP L[i]) := by simp [rcs, h]
theorem wrs_get {L : List Wr} {i : Nat} (h : i < L.length) : (wrs L)[i]? = some (wrP L[i]) := by simp [wrs, h]
theorem wfs_get {L : List Wr} {i : Nat} (h : i < L.length) : (wfs L)[i]? = some (wfP L[i]) := by simp [wfs, h]
theorem rcs_snoc (L : List Rc) (r : Rc) : rcs (L ++ [r]) = rcs L ++ [rcP r] := by simp [rcs]
theorem wrs_snoc (L : List Wr) (r : Wr) : wrs (L ++ [r]) = wrs L ++ [wrP r] := by simp [wrs]
theorem wfs_snoc (L : List Wr) (r : Wr) : wfs (L ++ [r]) = wfs L ++ [wfP r] := by simp [wfs]
def Asc (L : List Rc) : Prop := L.Pairwise fun a b => a.key < b.key
def look (L : List Rc) (k : Int) : Option Rc := L.find? fun r => r.key == k
def woutF (L : List Rc) (k : Int) : List Rc := L.filter fun x => !(x.key == k)
def withG (r : Rc) : Bool → List Rc → List Rc
  | put, [] => if put = true then [] else [r]
  | put, x :: L => (if put = false ∧ r.key ≤ x.key then [r] else []) ++ ((if x.key = r.key then [] else [x]) ++ withG r (put || decide (r.key ≤ x.key)) L)
def withF (L : List Rc) (r : Rc) : List Rc := withG r false L
def stepF (L : List Rc) (w : Wr) : List Rc := if w.put = true then withF L w.r else woutF L w.r.key
def viewF (M : List Rc) (ws : List Wr) : List Rc := ws.foldl stepF M
theorem viewF_snoc (M : List Rc) (ws : List Wr) (w : Wr) : viewF M (ws ++ [w]) = stepF (viewF M ws) w := by simp [viewF]
theorem withG_true (r : Rc) : ∀ L, withG r true L = woutF L r.key
  | [] => rfl
  | x :: L => by
    rw [withG, Bool.true_or, withG_true r L]
    unfold woutF
    by_cases h : x.key = r.key
    · simp [h]
    · simp [h]
theorem withG_perm (r : Rc) : ∀ L, (withG r false L).Perm (r :: woutF L r.key)
  | [] => List.Perm.refl _
  | x :: L => by
    rw [withG, Bool.false_or]
    by_cases h : r.key ≤ x.key
    · rw [if_pos ⟨rfl, h⟩, decide_eq_true h, withG_true]
      unfold woutF
      by_cases h2 : x.key = r.key
      · simp [h2]
      · simp [h2]
    · rw [if_neg (fun e => h e.2), decide_eq_false h, if_neg (by omega)]
      have ih := withG_perm r L
      have e : woutF (x :: L) r.key = x :: woutF L r.key := by
        unfold woutF
        rw [List.filter_cons, if_pos (by simp; omega)]
      rw [e]
      exact (ih.cons x).trans (List.Perm.swap _ _ _)
theorem with_perm (L : List Rc) (r : Rc) : (withF L r).Perm (r :: woutF L r.key) := withG_perm r L
theorem with_mem {L : List Rc} {r x : Rc} : x ∈ withF L r ↔ x = r ∨ (x ∈ L ∧ x.key ≠ r.key) := by
  rw [(with_perm L r).mem_iff, List.mem_cons, woutF, List.mem_filter]
  simp
theorem Asc.wout {L : List Rc} (h : Asc L) (k : Int) : Asc (woutF L k) := h.sublist List.filter_sublist
theorem withG_asc (r : Rc) : ∀ {L : List Rc}, Asc L → Asc (withG r false L)
  | [], _ => List.pairwise_singleton _ _
  | x :: L, h => by
    have h1 := (List.pairwise_cons.1 h).1
    have h2 := (List.pairwise_cons.1 h).2
    rw [withG, Bool.false_or]
    by_cases h3 : r.key ≤ x.key
    · rw [if_pos ⟨rfl, h3⟩, decide_eq_true h3, withG_true]
      by_cases h4 : x.key = r.key
      · rw [if_pos h4]
        refine List.pairwise_cons.2 ⟨fun y hy => ?_, Asc.wout h2 _⟩
        have hy : y ∈ woutF L r.key := by simpa using hy
        have := h1 y (List.mem_filter.1 hy).1
        omega
      · rw [if_neg h4]
        refine List.pairwise_cons.2 ⟨fun y hy => ?_, List.pairwise_cons.2 ⟨fun y hy => ?_, Asc.wout h2 _⟩⟩
        · have hy : y = x ∨ y ∈ woutF L r.key := by simpa using hy
          rcases hy with hy | hy
          · subst hy; omega
          · have := h1 y (List.mem_filter.1 hy).1
            omega
        · have hy : y ∈ woutF L r.key := by simpa using hy
          exact h1 y (List.mem_filter.1 hy).1
    · rw [if_neg (fun e => h3 e.2), decide_eq_false h3, if_neg (by omega)]
      refine List.pairwise_cons.2 ⟨fun y hy => ?_, withG_asc r h2⟩
      have hy : y ∈ withF L r := by simpa [withF] using hy
      rcases with_mem.1 hy with rfl | ⟨h5, _⟩
      · omega
      · exact h1 y h5
theorem Asc.with {L : List Rc} (h : Asc L) (r : Rc) : Asc (withF L r) := withG_asc r h
theorem Asc.step {L : List Rc} (h : Asc L) (w : Wr) : Asc (stepF L w) := by
  unfold stepF
  split
  · exact h.with _
  · exact h.wout _
theorem Asc.view {M : List Rc} (h : Asc M) (ws : List Wr) : Asc (viewF M ws) := by
  unfold viewF
  induction ws generalizing M with
  | nil => exact h
  | cons w ws ih => exact ih (h.step w)
theorem Asc.ext : ∀ {A B : List Rc}, Asc A → Asc B → A.Perm B → A = B
  | [], B, _, _, h => (List.nil_perm.1 h).symm
  | x :: A, [], _, _, h => absurd (List.perm_nil.1 h) (by simp)
  | x :: A, y :: B, ha, hb, h => by
    have ha1 := (List.pairwise_cons.1 ha).1
    have hb1 := (List.pairwise_cons.1 hb).1
    have h1 : x ∈ y :: B := h.mem_iff.1 List.mem_cons_self
    have h2 : y ∈ x :: A := h.mem_iff.2 List.mem_cons_self
    have hxy : x = y := by
      rcases List.mem_cons.1 h1 with e | e
      · exact e
      · rcases List.mem_cons.1 h2 with e2 | e2
        · exact e2.symm
        · have := hb1 x e; have := ha1 y e2; omega
    subst hxy
    rw [Asc.ext (List.pairwise_cons.1 ha).2 (List.pairwise_cons.1 hb).2 ((List.perm_cons _).1 h)]
theorem Asc.nodup {L : List Rc} (h : Asc L) : (L.map (·.key)).Nodup := List.pairwise_map.2 (h.imp fun e => by omega)
theorem key_inj {E : List Rc} (nd : (E.map (·.key)).Nodup) {i j : Nat} (hi : i < E.length) (hj : j < E.length) (e : E[i].key = E[j].key) : i = j := by
  rcases Nat.lt_trichotomy i j with k | k | k
  · have := List.pairwise_iff_getElem.1 nd i j (by simpa using hi) (by simpa using hj) k
    rw [List.getElem_map, List.getElem_map] at this
    exact absurd e this
  · exact k
  · have := List.pairwise_iff_getElem.1 nd j i (by simpa using hj) (by simpa using hi) k
    rw [List.getElem_map, List.getElem_map] at this
    exact absurd e.symm this
theorem look_mem {L : List Rc} (nd : (L.map (·.key)).Nodup) {r : Rc} (h : r ∈ L) : look L r.key = some r := by
  unfold look
  obtain ⟨i, hi, rfl⟩ := List.mem_iff_getElem.1 h
  rw [List.find?_eq_some_iff_getElem]
  refine ⟨by simp, i, hi, rfl, fun j hj => ?_⟩
  have : ¬ L[j].key = L[i].key := fun e => by have := key_inj nd (by omega) hi e; omega
  simpa using this
theorem look_some {L : List Rc} {k : Int} {r : Rc} (h : look L k = some r) : r ∈ L ∧ r.key = k := by
  unfold look at h
  exact ⟨List.mem_of_find?_eq_some h, by simpa using List.find?_some h⟩
theorem look_none {L : List Rc} {k : Int} (h : look L k = none) : k ∉ L.map (·.key) := by
  unfold look at h
  rw [List.find?_eq_none] at h
  intro hm
  obtain ⟨r, hr, rfl⟩ := List.mem_map.1 hm
  have := h r hr
  simp at this
theorem erase_eq {E : List Rc} (nd : (E.map (·.key)).Nodup) {i : Nat} (hi : i < E.length) : E.eraseIdx i = woutF E E[i].key := by
  unfold woutF
  induction E generalizing i with
  | nil => simp at hi
  | cons y l ih =>
    rw [List.map_cons, List.nodup_cons] at nd
    cases i with
    | zero =>
      simp only [List.eraseIdx_cons_zero, List.getElem_cons_zero]
      rw [List.filter_cons, if_neg (by simp), List.filter_eq_self.2]
      intro x hx
      have : x.key ≠ y.key := fun e => nd.1 (e ▸ List.mem_map.2 ⟨x, hx, rfl⟩)
      simpa using this
    | succ i =>
      simp only [List.eraseIdx_cons_succ, List.getElem_cons_succ]
      have hi' : i < l.length := by simpa using hi
      rw [List.filter_cons, if_pos, ih nd.2 hi']
      have : y.key ≠ l[i].key := fun e => nd.1 (e ▸ List.mem_map.2 ⟨l[i], List.getElem_mem hi', rfl⟩)
      simpa using this
theorem set_perm {E : List Rc} (nd : (E.map (·.key)).Nodup) {i : Nat} (hi : i < E.length) {r : Rc} (hk : E[i].key = r.key) : (E.set i r).Perm (r :: woutF E r.key) := by
  have h1 : (E.set i r).Perm (r :: E.eraseIdx i) := by
    have gen : ∀ (l : List Rc) (i : Nat), i < l.length → (l.set i r).Perm (r :: l.eraseIdx i) := by
      intro l
      induction l with
      | nil => intro i h; simp at h
      | cons y l ih =>
        intro i h
        cases i with
        | zero => exact List.Perm.refl _
        | succ i =>
          simp only [List.set_cons_succ, List.eraseIdx_cons_succ]
          exact ((ih i (by simpa using h)).cons y).trans (List.Perm.swap _ _ _)
    exact gen E i hi
  refine h1.trans (List.Perm.cons _ ?_)
  rw [← hk]
  exact (erase_eq nd hi) ▸ List.Perm.refl _
theorem wout_perm {E M : List Rc} (h : E.Perm M) (k : Int) : (woutF E k).Perm (woutF M k) := h.filter _
theorem wout_none {E : List Rc} {k : Int} (h : k ∉ E.map (·.key)) : woutF E k = E := by
  unfold woutF
  rw [List.filter_eq_self.2]
  intro x hx
  have : x.key ≠ k := fun e => h (e ▸ List.mem_map.2 ⟨x, hx, rfl⟩)
  simpa using this
end Go.Ev.F35
end
