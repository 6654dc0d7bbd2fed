/- A part of the proof: walks of the functions that the law calls. No condition. -/
import Derived.Test.YtlbdgdpnilebpaaFlA
import Derived.Test.YtlbdgdpnilebpaaRun
set_option linter.all false
section
namespace Go.Ev.F35
open Go.Proofs Go.Ev
set_option maxRecDepth 100000
set_option linter.all false
/-- A slice that may be full: of its own block, or cut with nothing behind. -/
def AS (H : Heap) (v : AV) (xs : List PV) : Prop := OwnS H v 8 xs ∨ ∃ b g n l ys, v = .ref b g 0 n true ∧ H[b]? = some (.arr l g 8 ys) ∧ n ≤ ys.length ∧ xs = ys.take n
theorem AS.ts {H : Heap} {v : AV} {xs : List PV} (h : AS H v xs) : TS H v 8 xs := by
  rcases h with h | ⟨b, g, n, l, ys, rfl, hb, h2, h3⟩
  · exact OwnS.ts h
  · exact .inr ⟨b, g, n, true, l, ys, rfl, hb, h2, h3, fun h => by cases h⟩
theorem AS.keep {H H' : Heap} {v : AV} {xs : List PV} (h : AS H v xs) (k : ∀ b, v.blk = some b → H'[b]? = H[b]?) : AS H' v xs := by
  rcases h with h | ⟨b, g, n, l, ys, rfl, hb, h2⟩
  · exact .inl (h.keep k)
  · exact .inr ⟨b, g, n, l, ys, rfl, (k b rfl).trans hb, h2⟩
theorem AS.lt {H : Heap} {v : AV} {xs : List PV} (h : AS H v xs) {c : Nat} (hc : v.blk = some c) : c < H.length := h.ts.lt hc
theorem AS.app {H : Heap} {v : AV} {xs : List PV} (h : AS H v xs) (l : Heap) : AS (H ++ l) v xs := h.keep fun c hc => hs_app (h.lt hc)
theorem AS.set {H : Heap} {v : AV} {xs : List PV} (h : AS H v xs) {i : Nat} {x : Blk} (hi : v.blk ≠ some i) : AS (H.set i x) v xs := h.keep fun c hc => hs_ne fun e => hi (by rw [e, hc])
theorem AS.append {P : Program} {t e : TypeId} (ht : telem P t = some (e, 8)) {H : Heap} {v x : AV} {xs ys : List PV} {k : AV → Heap → Prop} {tg : Tag k} (hx : elems H 8 x = some ys) (hy : ys ≠ [])
    (h : AS H v xs) (hsz : (xs.length + ys.length) * P.bytesOf e ≤ 2 ^ 46 ∧ xs.length + ys.length ≤ 2 ^ 46)
    (hk : ∀ v' H', OwnS H' v' 8 (xs ++ ys) → (∀ c, c < H.length → v.blk ≠ some c → H'[c]? = H[c]?) → H.length ≤ H'.length → (∀ c, v'.blk = some c → c < H.length → v.blk = some c) → k v' H') :
    oK2 (evAppend P t v x H) k tg := by
  rcases h with h | ⟨b, g, n, l, ws, rfl, hb, h2, rfl⟩
  · exact append_step ht hx hy h hsz hk
  · rw [List.length_take, Nat.min_eq_left h2] at hsz
    unfold evAppend
    rw [ht]
    simp only [Option.bind_some, hx, hb]
    rw [if_pos ⟨trivial, trivial, by omega⟩, if_pos hsz]
    cases ys with
    | nil => exact absurd rfl hy
    | cons y r =>
      dsimp only
      refine hk _ _ (.inr ⟨H.length, 0, ?_, ?_⟩) (fun c hc _ => hs_app hc) (by simp) (fun c hc hlt => by simp [AV.blk] at hc; omega)
      · simp [Nat.min_eq_left h2]
      · simp
theorem bnd_int {n len d : Nat} (h : n ≤ len) : bnd (some (.p (I n))) len d = some n := by
  unfold bnd
  simp
  omega
theorem AS.cut {P : Program} {t e : TypeId} (ht : telem P t = some (e, 8)) {H : Heap} {v : AV} {xs : List PV} (h : AS H v xs) {n : Nat} (hn : n ≤ xs.length) :
    ∃ v', evSlice P t v none (some (.p (I n))) (some (.p (I n))) H = some v' ∧ AS H v' (xs.take n) ∧ (∀ b, v'.blk = some b → v.blk = some b) := by
  rcases h with (⟨rfl, rfl⟩ | ⟨b, g, rfl, hb⟩) | ⟨b, g, m, l, ys, rfl, hb, h2, rfl⟩
  · have : n = 0 := by simpa using hn
    subst this
    refine ⟨.nsl, ?_, .inl (by simpa using OwnS.nil _ _), fun b h => by cases h⟩
    unfold evSlice
    simp [ht, bnd]
  · refine ⟨.ref b g 0 n true, ?_, .inr ⟨b, g, n, true, xs, rfl, hb, hn, rfl⟩, fun c h => h⟩
    unfold evSlice
    simp only [ht, hb]
    rw [if_pos ⟨trivial, trivial⟩]
    simp only [bnd_int hn, Option.bind_some, bnd_int (Nat.le_refl n)]
    simp [bnd]
  · rw [List.length_take, Nat.min_eq_left h2] at hn
    refine ⟨.ref b g 0 n true, ?_, .inr ⟨b, g, n, l, ys, rfl, hb, by omega, by rw [List.take_take, Nat.min_eq_left hn]⟩, fun c h => h⟩
    unfold evSlice
    simp only [ht, hb]
    rw [if_pos ⟨trivial, trivial⟩]
    simp only [bnd_int hn, Option.bind_some, bnd_int (Nat.le_refl n)]
    simp [bnd]
/-- What one did, and where it lies. -/
structure Sd where
  who : Nat
  q : Nat
  qs : Nat
  v : AV
  L : List Wr
  S : List Sv
def Sd.bs (x : Sd) : List Nat := x.q :: x.qs :: x.v.blk.toList
structure SdI (H : Heap) (x : Sd) : Prop where
  hq : H[x.q]? = some (.var true (.agg [x.v, .map x.qs]))
  hv : AS H x.v (wfs x.L)
  hs : ∃ g E, H[x.qs]? = some (.map true g (mdK E) (mdV E)) ∧ E.Perm (x.S.map fun s => (s.1, (s.2 : Int)))
structure Fm where
  pp : Nat
  bs : Nat
  bm : Nat
  X : List Sd
def Fm.foot (c : Fm) : List Nat := c.pp :: c.bs :: c.bm :: c.X.flatMap Sd.bs
abbrev sdK (e : Nat × Nat) : Int := e.1
abbrev sdV (e : Nat × Nat) : AV := .vptr e.2 0
def xsE (X : List Sd) : List (Nat × Nat) := X.map fun x => (x.who, x.q)
structure FI (H : Heap) (c : Fm) (m : Mo) : Prop where
  hp : H[c.pp]? = some (.var true (.agg [.map c.bm, .map c.bs]))
  hm : ∃ l g E, H[c.bm]? = some (.map l g (kU E) ((rcs E).map .p)) ∧ E.Perm m.M
  hs : ∃ g E, H[c.bs]? = some (amB .i64 sdK sdV true g E) ∧ E.Perm (xsE c.X)
  hx : ∀ x ∈ c.X, SdI H x
  nw : (c.X.map (·.who)).Nodup
  nf : c.foot.Nodup
  r1 : ∀ x ∈ c.X, m.S[x.who]? = some ⟨true, x.L, x.S⟩
  r2 : ∀ i t, m.S[i]? = some t → i ∉ c.X.map (·.who) → t = mi0
structure Kp (c c' : Fm) (H H' : Heap) : Prop where
  fr : ∀ i, i < H.length → i ∉ c.foot → H'[i]? = H[i]?
  ft : ∀ i, i ∈ c'.foot → i ∈ c.foot ∨ H.length ≤ i
  ln : H.length ≤ H'.length
  pp : c'.pp = c.pp
theorem Kp.refl (c : Fm) (H : Heap) : Kp c c H H := ⟨fun _ _ _ => rfl, fun _ h => .inl h, Nat.le_refl _, rfl⟩
theorem Kp.trans {a b c : Fm} {H1 H2 H3 : Heap} (h : Kp a b H1 H2) (k : Kp b c H2 H3) : Kp a c H1 H3 where
  fr i hi hn := (k.fr i (by have := h.ln; omega) (fun hb => (h.ft i hb).elim hn (by omega))).trans (h.fr i hi hn)
  ft i hi := (k.ft i hi).elim (fun hb => h.ft i hb) (fun hb => .inr (by have := h.ln; omega))
  ln := Nat.le_trans h.ln k.ln
  pp := k.pp.trans h.pp
theorem lt_of {H : Heap} {i : Nat} {b : Blk} (h : H[i]? = some b) : i < H.length := (List.getElem?_eq_some_iff.1 h).1
theorem SdI.lt {H : Heap} {x : Sd} (h : SdI H x) {i : Nat} (hi : i ∈ x.bs) : i < H.length := by
  unfold Sd.bs at hi
  rcases List.mem_cons.1 hi with rfl | hi
  · exact lt_of h.hq
  rcases List.mem_cons.1 hi with rfl | hi
  · obtain ⟨g, E, h1, _⟩ := h.hs; exact lt_of h1
  · exact h.hv.lt (Option.mem_toList.1 hi)
theorem FI.lt {H : Heap} {c : Fm} {m : Mo} (h : FI H c m) {i : Nat} (hi : i ∈ c.foot) : i < H.length := by
  unfold Fm.foot at hi
  rcases List.mem_cons.1 hi with rfl | hi
  · exact lt_of h.hp
  rcases List.mem_cons.1 hi with rfl | hi
  · obtain ⟨g, E, h1, _⟩ := h.hs; exact lt_of h1
  rcases List.mem_cons.1 hi with rfl | hi
  · obtain ⟨l, g, E, h1, _⟩ := h.hm; exact lt_of h1
  · obtain ⟨x, hx, hi⟩ := List.mem_flatMap.1 hi
    exact (h.hx x hx).lt hi
theorem SdI.keep {H H' : Heap} {x : Sd} (h : SdI H x) (k : ∀ i ∈ x.bs, H'[i]? = H[i]?) : SdI H' x where
  hq := (k _ (by simp [Sd.bs])).trans h.hq
  hv := h.hv.keep fun b hb => k b (by simp [Sd.bs, hb])
  hs := by obtain ⟨g, E, h1, h2⟩ := h.hs; exact ⟨g, E, (k _ (by simp [Sd.bs])).trans h1, h2⟩
theorem foot_cons (pp bs bm : Nat) (x : Sd) (R : List Sd) : (Fm.foot ⟨pp, bs, bm, x :: R⟩).Perm (x.v.blk.toList ++ x.q :: x.qs :: Fm.foot ⟨pp, bs, bm, R⟩) := by
  rw [List.perm_iff_count]
  intro a
  simp only [Fm.foot, Sd.bs, List.flatMap_cons, List.count_cons, List.count_append, List.cons_append]
  omega
theorem mem_foot {c : Fm} {x : Sd} (hx : x ∈ c.X) {i : Nat} (hi : i ∈ x.bs) : i ∈ c.foot := by
  unfold Fm.foot
  exact List.mem_cons_of_mem _ (List.mem_cons_of_mem _ (List.mem_cons_of_mem _ (List.mem_flatMap.2 ⟨x, hx, hi⟩)))
theorem FI.keep {H H' : Heap} {c : Fm} {m : Mo} (h : FI H c m) (k : ∀ i ∈ c.foot, H'[i]? = H[i]?) : FI H' c m where
  hp := (k _ (by simp [Fm.foot])).trans h.hp
  hm := by obtain ⟨l, g, E, h1, h2⟩ := h.hm; exact ⟨l, g, E, (k _ (by simp [Fm.foot])).trans h1, h2⟩
  hs := by obtain ⟨g, E, h1, h2⟩ := h.hs; exact ⟨g, E, (k _ (by simp [Fm.foot])).trans h1, h2⟩
  hx x hx := (h.hx x hx).keep fun i hi => k i (mem_foot hx hi)
  nw := h.nw
  nf := h.nf
  r1 := h.r1
  r2 := h.r2
theorem foot_perm {pp bs bm : Nat} {X Y : List Sd} (hp : X.Perm Y) : (Fm.foot ⟨pp, bs, bm, X⟩).Perm (Fm.foot ⟨pp, bs, bm, Y⟩) := by
  unfold Fm.foot
  exact ((((hp.flatMap_right Sd.bs)).cons _).cons _).cons _
theorem FI.perm {H : Heap} {pp bs bm : Nat} {X Y : List Sd} {m : Mo} (h : FI H ⟨pp, bs, bm, X⟩ m) (hp : X.Perm Y) : FI H ⟨pp, bs, bm, Y⟩ m where
  hp := h.hp
  hm := h.hm
  hs := by obtain ⟨g, E, h1, h2⟩ := h.hs; exact ⟨g, E, h1, h2.trans (hp.map _)⟩
  hx x hx := h.hx x (hp.mem_iff.2 hx)
  nw := ((hp.map _).nodup_iff).1 h.nw
  nf := ((foot_perm hp).nodup_iff).1 h.nf
  r1 x hx := h.r1 x (hp.mem_iff.2 hx)
  r2 i t h1 h2 := h.r2 i t h1 (fun h3 => h2 ((hp.map _).mem_iff.1 h3))
theorem FI.pick {H : Heap} {c : Fm} {m : Mo} (h : FI H c m) (who : Nat) : who ∉ c.X.map (·.who) ∨ ∃ x R, x.who = who ∧ c.X.Perm (x :: R) ∧ FI H ⟨c.pp, c.bs, c.bm, x :: R⟩ m := by
  by_cases hw : who ∈ c.X.map (·.who)
  · right
    obtain ⟨x, hx, rfl⟩ := List.mem_map.1 hw
    obtain ⟨A, C, e⟩ := List.append_of_mem hx
    have hp : c.X.Perm (x :: (A ++ C)) := by rw [e]; exact List.perm_middle
    exact ⟨x, A ++ C, rfl, hp, FI.perm (X := c.X) h hp⟩
  · exact .inl hw
theorem Kp.of_perm {pp bs bm : Nat} {X Y : List Sd} {c' : Fm} {H H' : Heap} (hp : X.Perm Y) (h : Kp ⟨pp, bs, bm, Y⟩ c' H H') : Kp ⟨pp, bs, bm, X⟩ c' H H' where
  fr i hi hn := h.fr i hi (fun hm => hn ((foot_perm hp).mem_iff.2 hm))
  ft i hi := (h.ft i hi).imp (fun hm => (foot_perm hp).mem_iff.2 hm) id
  ln := h.ln
  pp := h.pp
theorem xsE_keys (X : List Sd) : (xsE X).map sdK = (X.map (·.who)).map fun n : Nat => (n : Int) := by
  simp [xsE]
theorem nd_cast {l : List Nat} (h : l.Nodup) : (l.map fun n : Nat => (n : Int)).Nodup := by
  rw [List.Nodup, List.pairwise_map]
  exact h.imp fun hne e => hne (by exact_mod_cast e)
theorem FI.ndE {H : Heap} {c : Fm} {m : Mo} (h : FI H c m) {E : List (Nat × Nat)} (hE : E.Perm (xsE c.X)) : (E.map sdK).Nodup := by
  rw [(hE.map sdK).nodup_iff, xsE_keys]
  exact nd_cast h.nw
theorem FI.memE {H : Heap} {c : Fm} {m : Mo} (h : FI H c m) {E : List (Nat × Nat)} (hE : E.Perm (xsE c.X)) {who : Nat} (hw : who ∉ c.X.map (·.who)) : (who : Int) ∉ E.map sdK := by
  intro hm
  rw [(hE.map sdK).mem_iff, xsE_keys] at hm
  obtain ⟨n, hn, e⟩ := List.mem_map.1 hm
  exact hw ((by exact_mod_cast e : n = who) ▸ hn)
theorem FI.hit {H : Heap} {pp bs bm : Nat} {x : Sd} {R : List Sd} {m : Mo} (h : FI H ⟨pp, bs, bm, x :: R⟩ m) : evLook Try.prog 88 (.map bs) (.p (I x.who)) false H = some (.vptr x.q 0) := by
  obtain ⟨g, E, h1, h2⟩ := h.hs
  have := am_hit (P := Try.prog) tmap_88 tzero_91 h1 (h.ndE h2) (x := (x.who, x.q)) (h2.mem_iff.2 (by simp [xsE])) false
  exact this
theorem FI.miss {H : Heap} {c : Fm} {m : Mo} (h : FI H c m) {who : Nat} (hw : who ∉ c.X.map (·.who)) : evLook Try.prog 88 (.map c.bs) (.p (I who)) false H = some (.p .nptr) := by
  obtain ⟨g, E, h1, h2⟩ := h.hs
  exact am_miss (P := Try.prog) tmap_88 tzero_91 h1 (h.memE h2 hw) false
theorem nd_toList (o : Option Nat) : o.toList.Nodup := by cases o <;> simp
/-- What one did changes: where it lies it stays, its list in its block or a new one. -/
theorem FI.upd {H H' : Heap} {pp bs bm : Nat} {x : Sd} {R : List Sd} {m : Mo} (h : FI H ⟨pp, bs, bm, x :: R⟩ m) {v' : AV} {L' : List Wr} {S' : List Sv}
    (hv : ∀ b, v'.blk = some b → x.v.blk = some b ∨ H.length ≤ b) (hx' : SdI H' ⟨x.who, x.q, x.qs, v', L', S'⟩)
    (k : ∀ i, i < H.length → i ≠ x.q → i ≠ x.qs → x.v.blk ≠ some i → H'[i]? = H[i]?) (hl : H.length ≤ H'.length) :
    FI H' ⟨pp, bs, bm, ⟨x.who, x.q, x.qs, v', L', S'⟩ :: R⟩ ⟨m.M, m.S.set x.who ⟨true, L', S'⟩⟩ ∧ Kp ⟨pp, bs, bm, x :: R⟩ ⟨pp, bs, bm, ⟨x.who, x.q, x.qs, v', L', S'⟩ :: R⟩ H H' := by
  have hf := ((foot_cons pp bs bm x R).nodup_iff).1 h.nf
  have hmem := fun i => (foot_cons pp bs bm x R).mem_iff (a := i)
  have hmem' := fun i => (foot_cons pp bs bm ⟨x.who, x.q, x.qs, v', L', S'⟩ R).mem_iff (a := i)
  obtain ⟨d1, d2, d3⟩ := List.nodup_append.1 hf
  obtain ⟨d4, d5⟩ := List.nodup_cons.1 d2
  obtain ⟨d6, d7⟩ := List.nodup_cons.1 d5
  have kf : ∀ i, i ∈ Fm.foot ⟨pp, bs, bm, R⟩ → H'[i]? = H[i]? := by
    intro i hi
    refine k i (h.lt ((hmem i).2 (by simp [hi]))) (fun e => d4 (by simp [← e, hi])) (fun e => d6 (by rw [← e]; exact hi)) (fun e => d3 i (by simp [e]) i (by simp [hi]) rfl)
  have nw := List.nodup_cons.1 h.nw
  refine ⟨⟨(kf _ (by simp [Fm.foot])).trans h.hp, ?_, ?_, ?_, h.nw, ?_, ?_, ?_⟩, ⟨?_, ?_, hl, rfl⟩⟩
  · obtain ⟨l, g, E, h1, h2⟩ := h.hm; exact ⟨l, g, E, (kf _ (by simp [Fm.foot])).trans h1, h2⟩
  · obtain ⟨g, E, h1, h2⟩ := h.hs; exact ⟨g, E, (kf _ (by simp [Fm.foot])).trans h1, h2⟩
  · intro y hy
    rcases List.mem_cons.1 hy with rfl | hy
    · exact hx'
    · exact (h.hx y (List.mem_cons_of_mem _ hy)).keep fun i hi => kf i (mem_foot (c := ⟨pp, bs, bm, R⟩) hy hi)
  · rw [(foot_cons pp bs bm ⟨x.who, x.q, x.qs, v', L', S'⟩ R).nodup_iff]
    refine List.nodup_append.2 ⟨nd_toList _, d2, fun a ha b hb e => ?_⟩
    subst e
    rcases hv a (by simpa using ha) with h1 | h1
    · exact d3 a (by simp [h1]) a hb rfl
    · have : a < H.length := h.lt ((hmem a).2 (List.mem_append_right _ hb))
      omega
  · intro y hy
    rcases List.mem_cons.1 hy with rfl | hy
    · have := h.r1 x List.mem_cons_self
      dsimp only
      rw [List.getElem?_set_self (List.getElem?_eq_some_iff.1 this).1]
    · have hne : x.who ≠ y.who := fun e => nw.1 (List.mem_map.2 ⟨y, hy, e.symm⟩)
      dsimp only
      rw [List.getElem?_set_ne hne]
      exact h.r1 y (List.mem_cons_of_mem _ hy)
  · intro i t h1 h2
    dsimp only at h1
    have hne : x.who ≠ i := fun e => h2 (by simp [e])
    rw [List.getElem?_set_ne hne] at h1
    exact h.r2 i t h1 h2
  · intro i hi hn
    rw [hmem i] at hn
    simp only [List.mem_append, List.mem_cons, not_or] at hn
    exact k i hi hn.2.1 hn.2.2.1 (fun e => hn.1 (by simp [e]))
  · intro i hi
    rw [hmem' i] at hi
    rw [hmem i]
    rcases List.mem_append.1 hi with h1 | h1
    · rcases hv i (by simpa using h1) with h2 | h2
      · exact .inl (List.mem_append_left _ (by simp [h2]))
      · exact .inr h2
    · exact .inl (List.mem_append_right _ h1)
theorem xsE_out {x : Sd} {R : List Sd} (nd : ((x :: R).map (·.who)).Nodup) : (xsE (x :: R)).filter (fun y => !(sdK y == (x.who : Int))) = xsE R := by
  have hn := (List.nodup_cons.1 nd).1
  unfold xsE
  rw [List.map_cons, List.filter_cons, if_neg (by simp), List.filter_eq_self.2]
  intro y hy
  obtain ⟨z, hz, rfl⟩ := List.mem_map.1 hy
  have : ¬ z.who = x.who := fun e => hn (List.mem_map.2 ⟨z, hz, e⟩)
  have : ¬ (z.who : Int) = (x.who : Int) := fun e => this (by exact_mod_cast e)
  simpa [sdK] using this
/-- What one did goes. -/
theorem FI.del {H : Heap} {pp bs bm : Nat} {x : Sd} {R : List Sd} {m : Mo} (h : FI H ⟨pp, bs, bm, x :: R⟩ m) : ∃ H', evDelete Try.prog 88 (.map bs) (.p (I x.who)) H = some H' ∧
    FI H' ⟨pp, bs, bm, R⟩ ⟨m.M, m.S.set x.who mi0⟩ ∧ Kp ⟨pp, bs, bm, x :: R⟩ ⟨pp, bs, bm, R⟩ H H' := by
  obtain ⟨g, E, h1, h2⟩ := h.hs
  dsimp only at h1
  obtain ⟨g', hd⟩ := am_del (P := Try.prog) tmap_88 h1 (h.ndE h2) (x.who : Int)
  have hf := ((foot_cons pp bs bm x R).nodup_iff).1 h.nf
  have hmem := fun i => (foot_cons pp bs bm x R).mem_iff (a := i)
  obtain ⟨d1, d2, d3⟩ := List.nodup_append.1 hf
  obtain ⟨d4, d5⟩ := List.nodup_cons.1 d2
  obtain ⟨d6, d7⟩ := List.nodup_cons.1 d5
  have d8 := d7
  unfold Fm.foot at d8
  obtain ⟨e1, d9⟩ := List.nodup_cons.1 d8
  obtain ⟨e2, d10⟩ := List.nodup_cons.1 d9
  have blt := lt_of h1
  have nw := List.nodup_cons.1 h.nw
  refine ⟨_, hd, ⟨(hs_ne (fun e => e1 (List.mem_cons.2 (.inl e.symm)))).trans h.hp, ?_, ⟨g', _, hs_set blt, ?_⟩, ?_, nw.2, d7, ?_, ?_⟩, ⟨?_, ?_, by simp, rfl⟩⟩
  · obtain ⟨l, g, E, h1, h2⟩ := h.hm; exact ⟨l, g, E, (hs_ne (fun e => e2 (List.mem_cons.2 (.inl e)))).trans h1, h2⟩
  · rw [← xsE_out h.nw]; exact h2.filter _
  · intro y hy
    refine (h.hx y (List.mem_cons_of_mem _ hy)).keep fun i hi => hs_ne fun e => e2 ?_
    rw [e]
    exact List.mem_cons_of_mem _ (List.mem_flatMap.2 ⟨y, hy, hi⟩)
  · intro y hy
    have hne : x.who ≠ y.who := fun e => nw.1 (List.mem_map.2 ⟨y, hy, e.symm⟩)
    dsimp only
    rw [List.getElem?_set_ne hne]
    exact h.r1 y (List.mem_cons_of_mem _ hy)
  · intro i t h3 h4
    dsimp only at h3
    by_cases hi : x.who = i
    · subst hi
      have := h.r1 x List.mem_cons_self
      rw [List.getElem?_set_self (List.getElem?_eq_some_iff.1 this).1] at h3
      exact (Option.some.inj h3).symm
    · rw [List.getElem?_set_ne hi] at h3
      exact h.r2 i t h3 (by simp only [List.map_cons, List.mem_cons, not_or]; exact ⟨fun e => hi e.symm, h4⟩)
  · intro i hi hn
    exact hs_ne fun e => hn ((hmem i).2 (by rw [← e]; simp [Fm.foot]))
  · intro i hi
    exact .inl ((hmem i).2 (List.mem_append_right _ (List.mem_cons_of_mem _ (List.mem_cons_of_mem _ hi))))
theorem set_same {α : Type} {l : List α} {i : Nat} {a : α} (h : l[i]? = some a) : l.set i a = l := by
  obtain ⟨hi, rfl⟩ := List.getElem?_eq_some_iff.1 h
  exact List.set_getElem_self hi
theorem set_none {α : Type} {l : List α} {i : Nat} {a : α} (h : l[i]? = none) : l.set i a = l := List.set_eq_of_length_le (by simpa using h)
theorem FI.del0 {H : Heap} {c : Fm} {m : Mo} (h : FI H c m) {who : Nat} (hw : who ∉ c.X.map (·.who)) : ∃ H', evDelete Try.prog 88 (.map c.bs) (.p (I who)) H = some H' ∧
    FI H' c ⟨m.M, m.S.set who mi0⟩ ∧ Kp c c H H' := by
  obtain ⟨g, E, h1, h2⟩ := h.hs
  obtain ⟨g', hd⟩ := am_del (P := Try.prog) tmap_88 h1 (h.ndE h2) (who : Int)
  rw [am_none (h.memE h2 hw)] at hd
  have hS : m.S.set who mi0 = m.S := by
    cases e : m.S[who]? with
    | none => exact set_none e
    | some t => have := h.r2 who t e hw; subst this; exact set_same e
  have hn := h.nf
  unfold Fm.foot at hn
  obtain ⟨e1, d9⟩ := List.nodup_cons.1 hn
  obtain ⟨e2, d10⟩ := List.nodup_cons.1 d9
  have blt := lt_of h1
  rw [hS]
  refine ⟨_, hd, ⟨(hs_ne (fun e => e1 (List.mem_cons.2 (.inl e.symm)))).trans h.hp, ?_, ⟨g', _, hs_set blt, h2⟩, ?_, h.nw, h.nf, h.r1, h.r2⟩, ⟨?_, fun i hi => .inl hi, by simp, rfl⟩⟩
  · obtain ⟨l, g, E, h1, h2⟩ := h.hm; exact ⟨l, g, E, (hs_ne (fun e => e2 (List.mem_cons.2 (.inl e)))).trans h1, h2⟩
  · intro y hy
    refine (h.hx y hy).keep fun i hi => hs_ne fun e => e2 ?_
    rw [e]
    exact List.mem_cons_of_mem _ (List.mem_flatMap.2 ⟨y, hy, hi⟩)
  · intro i hi hn
    exact hs_ne fun e => hn (by rw [← e]; simp [Fm.foot])
/-- Somebody comes: a new side, of new blocks. -/
theorem FI.ins {H : Heap} {c : Fm} {m : Mo} (h : FI H c m) {x : Sd} (hw : x.who ∉ c.X.map (·.who)) (hlt : x.who < m.S.length) {H1 : Heap} (h1 : ∀ i, i < H.length → H1[i]? = H[i]?) (hl : H.length ≤ H1.length)
    (hx : SdI H1 x) (hn : ∀ i ∈ x.bs, H.length ≤ i) (hnd : x.bs.Nodup) : ∃ H', evMapUpdate Try.prog 88 (.map c.bs) (.p (I x.who)) (.vptr x.q 0) H1 = some H' ∧
    FI H' ⟨c.pp, c.bs, c.bm, x :: c.X⟩ ⟨m.M, m.S.set x.who ⟨true, x.L, x.S⟩⟩ ∧ Kp c ⟨c.pp, c.bs, c.bm, x :: c.X⟩ H H' := by
  have hH1 : FI H1 c m := h.keep fun i hi => h1 i (h.lt hi)
  obtain ⟨g, E, hb, h2⟩ := hH1.hs
  obtain ⟨g', E', hu, h3⟩ := am_upd (P := Try.prog) tmap_88 hb (hH1.ndE h2) (x.who, x.q)
  rw [show sdK (x.who, x.q) = (x.who : Int) from rfl, am_none (hH1.memE h2 hw)] at h3
  have hnf := h.nf
  unfold Fm.foot at hnf
  obtain ⟨e1, d9⟩ := List.nodup_cons.1 hnf
  obtain ⟨e2, d10⟩ := List.nodup_cons.1 d9
  have blt := lt_of hb
  have hbs : c.bs < H.length := h.lt (by simp [Fm.foot])
  have hmem := fun i => (foot_cons c.pp c.bs c.bm x c.X).mem_iff (a := i)
  refine ⟨_, hu, ⟨(hs_ne (fun e => e1 (List.mem_cons.2 (.inl e.symm)))).trans hH1.hp, ?_, ⟨g', E', hs_set blt, ?_⟩, ?_, List.nodup_cons.2 ⟨hw, h.nw⟩, ?_, ?_, ?_⟩, ⟨?_, ?_, by simpa using hl, rfl⟩⟩
  · obtain ⟨l, g, E, h1, h2⟩ := hH1.hm; exact ⟨l, g, E, (hs_ne (fun e => e2 (List.mem_cons.2 (.inl e)))).trans h1, h2⟩
  · exact h3.trans (h2.cons _)
  · intro y hy
    rcases List.mem_cons.1 hy with rfl | hy
    · exact hx.keep fun i hi => hs_ne fun e => by have := hn i hi; omega
    · refine (hH1.hx y hy).keep fun i hi => hs_ne fun e => e2 ?_
      rw [e]
      exact List.mem_cons_of_mem _ (List.mem_flatMap.2 ⟨y, hy, hi⟩)
  · have hp : (Fm.foot ⟨c.pp, c.bs, c.bm, x :: c.X⟩).Perm (x.bs ++ c.foot) := by
      rw [List.perm_iff_count]
      intro a
      simp only [Fm.foot, List.flatMap_cons, List.count_cons, List.count_append]
      omega
    rw [hp.nodup_iff]
    refine List.nodup_append.2 ⟨hnd, h.nf, fun a ha b hb e => ?_⟩
    subst e
    have := h.lt hb
    have := hn a ha
    omega
  · intro y hy
    rcases List.mem_cons.1 hy with rfl | hy
    · dsimp only
      rw [List.getElem?_set_self hlt]
    · have hne : x.who ≠ y.who := fun e => hw (List.mem_map.2 ⟨y, hy, e.symm⟩)
      dsimp only
      rw [List.getElem?_set_ne hne]
      exact h.r1 y hy
  · intro i t h4 h5
    dsimp only at h4
    simp only [List.map_cons, List.mem_cons, not_or] at h5
    rw [List.getElem?_set_ne (fun e => h5.1 e.symm)] at h4
    exact h.r2 i t h4 h5.2
  · intro i hi hnn
    rw [hs_ne fun e => hnn (by rw [← e]; simp [Fm.foot])]
    exact h1 i hi
  · intro i hi
    rw [hmem i] at hi
    simp only [List.mem_append, List.mem_cons] at hi
    rcases hi with h4 | h4 | h4 | h4
    · exact .inr (hn i (by simp only [Sd.bs, List.mem_cons]; exact .inr (.inr h4)))
    · exact .inr (hn i (by simp [Sd.bs, h4]))
    · exact .inr (hn i (by simp [Sd.bs, h4]))
    · exact .inl h4
/-- What is committed is another map, of a block of its own. -/
theorem FI.com {H H1 H' : Heap} {c : Fm} {m : Mo} (h : FI H c m) (h1 : ∀ i, i < H.length → H1[i]? = H[i]?) (hl : H.length ≤ H1.length) {b : Nat} (hb : H.length ≤ b) {l : Bool} {g : Nat} {E : List Rc} {M' : List Rc} (hB : H1[b]? = some (.map l g (kU E) ((rcs E).map .p)))
    (hE : E.Perm M') (e : H' = H1.set c.pp (.var true (.agg [.map b, .map c.bs]))) : FI H' ⟨c.pp, c.bs, b, c.X⟩ ⟨M', m.S⟩ ∧ Kp c ⟨c.pp, c.bs, b, c.X⟩ H H' := by
  subst e
  have hpp : c.pp < H.length := h.lt (by simp [Fm.foot])
  have hnf := h.nf
  unfold Fm.foot at hnf
  obtain ⟨e1, d9⟩ := List.nodup_cons.1 hnf
  obtain ⟨e2, d10⟩ := List.nodup_cons.1 d9
  obtain ⟨e3, d11⟩ := List.nodup_cons.1 d10
  have k : ∀ i, i < H.length → i ≠ c.pp → (H1.set c.pp (.var true (.agg [.map b, .map c.bs])))[i]? = H[i]? := fun i hi hne => (hs_ne (Ne.symm hne)).trans (h1 i hi)
  refine ⟨⟨hs_set (by omega), ⟨l, g, E, (hs_ne (by dsimp only; omega)).trans hB, hE⟩, ?_, ?_, h.nw, ?_, h.r1, h.r2⟩, ⟨?_, ?_, by simpa using hl, rfl⟩⟩
  · obtain ⟨g, E, h3, h4⟩ := h.hs
    exact ⟨g, E, (k _ (lt_of h3) (fun e => e1 (List.mem_cons.2 (.inl e.symm)))).trans h3, h4⟩
  · intro y hy
    refine (h.hx y hy).keep fun i hi => k i ((h.hx y hy).lt hi) fun e => e1 ?_
    rw [← e]
    exact List.mem_cons_of_mem _ (List.mem_cons_of_mem _ (List.mem_flatMap.2 ⟨y, hy, hi⟩))
  · unfold Fm.foot
    have hne : ∀ i, i ∈ c.foot → i ≠ b := fun i hi e => by have := h.lt hi; omega
    refine List.nodup_cons.2 ⟨?_, List.nodup_cons.2 ⟨?_, List.nodup_cons.2 ⟨?_, d11⟩⟩⟩
    · simp only [List.mem_cons, not_or] at e1 ⊢
      exact ⟨e1.1, by omega, e1.2.2⟩
    · simp only [List.mem_cons, not_or] at e2 ⊢
      exact ⟨hne _ (by simp [Fm.foot]), e2.2⟩
    · exact fun hm => hne b (by unfold Fm.foot; exact List.mem_cons_of_mem _ (List.mem_cons_of_mem _ (List.mem_cons_of_mem _ hm))) rfl
  · intro i hi hn
    exact k i hi fun e => hn (by simp [Fm.foot, e])
  · intro i hi
    unfold Fm.foot at hi ⊢
    simp only [List.mem_cons] at hi ⊢
    rcases hi with h4 | h4 | h4 | h4
    · exact .inl (.inl h4)
    · exact .inl (.inr (.inl h4))
    · exact .inr (by omega)
    · exact .inl (.inr (.inr (.inr h4)))
/-- Nobody is at anything. -/
theorem FI.clr {H : Heap} {c : Fm} {m : Mo} (h : FI H c m) : ∃ H', evClear Try.prog 88 (.map c.bs) H = some H' ∧ FI H' ⟨c.pp, c.bs, c.bm, []⟩ ⟨m.M, List.replicate m.S.length mi0⟩ ∧ Kp c ⟨c.pp, c.bs, c.bm, []⟩ H H' := by
  obtain ⟨g, E, h1, h2⟩ := h.hs
  have hnf := h.nf
  unfold Fm.foot at hnf
  obtain ⟨e1, d9⟩ := List.nodup_cons.1 hnf
  obtain ⟨e2, d10⟩ := List.nodup_cons.1 d9
  have blt := lt_of h1
  have hd : ∃ g', evClear Try.prog 88 (.map c.bs) H = some (H.set c.bs (amB .i64 sdK sdV true g' [])) := by
    unfold amB at h1
    unfold evClear
    simp only [tmap_88, Option.bind_some, h1]
    exact ⟨_, rfl⟩
  obtain ⟨g', hd⟩ := hd
  refine ⟨_, hd, ⟨(hs_ne (fun e => e1 (List.mem_cons.2 (.inl e.symm)))).trans h.hp, ?_, ⟨g', [], hs_set blt, List.Perm.refl _⟩, fun x hx => (by cases hx), List.nodup_nil, ?_, fun x hx => (by cases hx), ?_⟩, ⟨?_, ?_, by simp, rfl⟩⟩
  · obtain ⟨l, g, E, h1, h2⟩ := h.hm; exact ⟨l, g, E, (hs_ne (fun e => e2 (List.mem_cons.2 (.inl e)))).trans h1, h2⟩
  · exact h.nf.sublist (by unfold Fm.foot; simp)
  · intro i t h3 _
    dsimp only at h3
    rw [List.getElem?_replicate] at h3
    split at h3
    · exact (Option.some.inj h3).symm
    · cases h3
  · intro i hi hn
    exact hs_ne fun e => hn (by rw [← e]; simp [Fm.foot])
  · intro i hi
    refine .inl ?_
    unfold Fm.foot at hi ⊢
    simp only [List.flatMap_nil, List.mem_cons, List.not_mem_nil, or_false] at hi
    simp only [List.mem_cons]
    rcases hi with h | h | h
    · exact .inl h
    · exact .inr (.inl h)
    · exact .inr (.inr (.inl h))
end Go.Ev.F35
end
section
namespace Go.Ev.F35
open Go.Proofs Go.Ev
set_option maxRecDepth 100000
set_option linter.all false
theorem w8 (H : Heap) (Q : AV → Heap → Prop)
    (hq : ∀ H' c, (∀ n, FI H' c ⟨[], List.replicate n mi0⟩) → (∀ i ∈ c.foot, H.length ≤ i) → (∀ i, i < H.length → H'[i]? = H[i]?) → H.length ≤ H'.length → Q (.vptr c.pp 0) H') : (W Cf okf).call 30 [] H Q := by
  refine top_mk extMono Try.func30 body30 (by decide) rfl ?_
  simp only [c30, Try.f30, Option.getD_some]
  simp -implicitDefEqProofs -dsimp (maxSteps := 1000000) (disch := first | omega | (simp only [wkLen]; omega) | decide +kernel) only [↓wkPre, ↓wkPre2, ↓wkE, wkPost, wkDef, wkF, simprocAttr]
  refine hq _ ⟨H.length + 1 + 1, H.length + 1, H.length, []⟩ (fun n => ⟨?_, ?_, ?_, ?_, ?_, ?_, ?_, ?_⟩) ?_ ?_ ?_
  · rw [List.getElem?_append_right (by dsimp only; omega)]
    simp [show H.length + 1 + 1 - H.length = 2 by omega]
  · exact ⟨true, 0, [], by simp [rcs], List.Perm.refl _⟩
  · exact ⟨0, [], by simp [amB, kI], List.Perm.refl _⟩
  · intro x hx; cases hx
  · exact List.nodup_nil
  · simp [Fm.foot]; omega
  · intro x hx; cases hx
  · intro i t h _
    dsimp only at h
    rw [List.getElem?_replicate] at h
    split at h
    · exact (Option.some.inj h).symm
    · cases h
  · intro i hi
    simp [Fm.foot] at hi
    omega
  · intro i hi
    exact hs_app hi
  · simp
theorem nn_v (b o : Nat) : nonNil (.vptr b o) = some (.vptr b o) := rfl
theorem wfs_at {L : List Wr} {n : Nat} {ys : List PV} (h : wfs L = ys.take n) (hn : n ≤ ys.length) : n = L.length ∧ ∀ i (hi : i < L.length), ys[i]? = some (wfP L[i]) := by
  have hl : L.length = n := by have := congrArg List.length h; rw [wfs_len, List.length_take] at this; omega
  refine ⟨hl.symm, fun i hi => ?_⟩
  have := wfs_get hi
  rw [h, List.getElem?_take, if_pos (by omega)] at this
  exact this
theorem AS.cases {H : Heap} {v : AV} {L : List Wr} (h : AS H v (wfs L)) : (v = .nsl ∧ L = []) ∨ ∃ b g l ex ys, v = .ref b g 0 L.length ex ∧ H[b]? = some (.arr l g 8 ys) ∧ L.length ≤ ys.length ∧ ∀ i (hi : i < L.length), ys[i]? = some (wfP L[i]) := by
  rcases h with (⟨rfl, hx⟩ | ⟨b, g, rfl, hb⟩) | ⟨b, g, m, l, ys, rfl, hb, h2, hx⟩
  · exact .inl ⟨rfl, by simpa [wfs] using hx⟩
  · exact .inr ⟨b, g, true, false, wfs L, by rw [wfs_len], hb, by rw [wfs_len]; exact Nat.le_refl _, fun i hi => wfs_get hi⟩
  · obtain ⟨rfl, h3⟩ := wfs_at hx h2
    exact .inr ⟨b, g, l, true, ys, rfl, hb, h2, h3⟩
theorem w32 {H : Heap} {x : Sd} (hx : SdI H x) (hl : x.L.length ≤ 1000) (Q : AV → Heap → Prop)
    (hq : ∀ H', (∀ i, i < H.length → H'[i]? = H[i]?) → H.length ≤ H'.length → Q (.p (I (delsF x.L))) H') : (W Cf okf).call 43 [.vptr x.q 0] H Q := by
  refine top_mk extMono Try.func43 body43 (by decide) rfl ?_
  simp only [c43, Try.f43, Option.getD_some]
  have h1 := hx.hq
  obtain ⟨who, q, qs, v, L, S⟩ := x
  dsimp only at h1 hl hq ⊢
  have hd := delsF_le L
  rcases (show AS H v (wfs L) from hx.hv).cases with ⟨rfl, rfl⟩ | ⟨b, g, l, ex, ys, rfl, hb, hle, hat⟩
  · simp -implicitDefEqProofs -dsimp (maxSteps := 1000000) (disch := first | omega | (simp only [wkLen]; omega) | decide +kernel) only [↓wkPre, ↓wkPre2, ↓wkE, wkPost, wkDef, wkF, simprocAttr, nn_v, h1]
    refine loop_use extMono (fun m' e Hc => m' = 0 ∧ e 3 = .p (I 0) ∧ e 10 = .p (I 0) ∧ e 11 = .p (I 0) ∧ Hc = H) ?_ 0 _ _ ⟨rfl, ?_⟩
    · rintro m' e Hc ⟨rfl, e3, e10, e11, rfl⟩
      simp -implicitDefEqProofs -dsimp (maxSteps := 1000000) (disch := first | omega | (simp only [wkLen]; omega) | decide +kernel) only [↓wkPre, ↓wkPre2, ↓wkE, wkPost, wkDef, wkF, simprocAttr, e3, e10, e11]
      exact hq _ (fun _ _ => rfl) (Nat.le_refl _)
    · simp -implicitDefEqProofs -dsimp (maxSteps := 1000000) (disch := first | omega | (simp only [wkLen]; omega) | decide +kernel) only [↓wkPre, ↓wkPre2, ↓wkE, wkPost, wkDef, wkF, simprocAttr]
      done
  · have hblt := lt_of hb
    simp -implicitDefEqProofs -dsimp (maxSteps := 1000000) (disch := first | omega | (simp only [wkLen]; omega) | decide +kernel) only [↓wkPre, ↓wkPre2, ↓wkE, wkPost, wkDef, wkF, simprocAttr, nn_v, h1]
    refine loop_use extMono (fun m' e Hc => ∃ i, m' = L.length - i ∧ i ≤ L.length ∧ e 3 = .p (I (delsF (L.take i))) ∧ e 9 = .ref b g 0 L.length ex ∧ e 10 = .p (I L.length) ∧ e 11 = .p (I i) ∧ (∀ j, j < H.length → Hc[j]? = H[j]?) ∧ H.length ≤ Hc.length) ?_ L.length _ _ ⟨0, rfl, by omega, ?_⟩
    · rintro m' e Hc ⟨i, rfl, hi, e3, e9, e10, e11, hfr, hln⟩
      rcases Nat.lt_or_ge i L.length with hlt | hge
      · have gi := hat i hlt
        have kb := (hfr b hblt).trans hb
        have hs := dels_snoc (L.take i) L[i]
        rw [← List.take_succ_eq_append_getElem hlt] at hs
        have hdi := delsF_le (L.take i)
        rw [List.length_take] at hdi
        generalize L[i] = w at *
        obtain ⟨put, r⟩ := w
        cases put with
        | true =>
          simp -implicitDefEqProofs -dsimp (maxSteps := 1000000) (disch := first | omega | (simp only [wkLen]; omega) | decide +kernel) only [↓wkPre, ↓wkPre2, ↓wkE, wkPost, wkDef, wkF, simprocAttr, e3, e9, e10, e11, kb, gi]
          rw [if_pos rfl] at hs
          exact ⟨L.length - (i + 1), by omega, i + 1, rfl, by omega, by rw [hs]; rfl, by push_cast; rfl, fun j hj => (hs_app (by omega)).trans (hfr j hj), by first | omega | (simp; omega)⟩
        | false =>
          simp -implicitDefEqProofs -dsimp (maxSteps := 1000000) (disch := first | omega | (simp only [wkLen]; omega) | decide +kernel) only [↓wkPre, ↓wkPre2, ↓wkE, wkPost, wkDef, wkF, simprocAttr, e3, e9, e10, e11, kb, gi]
          rw [if_neg (by simp)] at hs
          exact ⟨L.length - (i + 1), by omega, i + 1, rfl, by omega, by rw [hs]; push_cast; rfl, by push_cast; rfl, fun j hj => (hs_app (by omega)).trans (hfr j hj), by first | omega | (simp; omega)⟩
      · obtain rfl : i = L.length := by omega
        rw [List.take_length] at e3
        simp -implicitDefEqProofs -dsimp (maxSteps := 1000000) (disch := first | omega | (simp only [wkLen]; omega) | decide +kernel) only [↓wkPre, ↓wkPre2, ↓wkE, wkPost, wkDef, wkF, simprocAttr, e3, e9, e10, e11]
        exact hq _ hfr hln
    · simp -implicitDefEqProofs -dsimp (maxSteps := 1000000) (disch := first | omega | (simp only [wkLen]; omega) | decide +kernel) only [↓wkPre, ↓wkPre2, ↓wkE, wkPost, wkDef, wkF, simprocAttr]
      exact ⟨rfl, fun _ _ => trivial, Nat.le_refl _⟩
end Go.Ev.F35
end
section
namespace Go.Ev.F35
open Go.Proofs Go.Ev
set_option maxRecDepth 100000
set_option linter.all false
/-- The block of a map of records. -/
abbrev rcB (l : Bool) (g : Nat) (E : List Rc) : Blk := .map l g (kU E) ((rcs E).map .p)
abbrev rcV (r : Rc) : AV := .p (rcP r)
theorem rcB_am (l : Bool) (g : Nat) (E : List Rc) : amB .u64 (·.key) rcV l g E = rcB l g E := by
  simp [amB, kI, rcs]
theorem kU_nd {E M : List Rc} (hE : E.Perm M) (ha : Asc M) : (E.map (·.key)).Nodup := ((hE.map (·.key)).nodup_iff).2 ha.nodup
theorem rc_upd {H : Heap} {b g : Nat} {E V : List Rc} (hb : H[b]? = some (rcB true g E)) (hE : E.Perm V) (ha : Asc V) (r : Rc) :
    ∃ g' E', evMapUpdate Try.prog 87 (.map b) (.p (U r.key)) (.p (rcP r)) H = some (H.set b (rcB true g' E')) ∧ E'.Perm (withF V r) := by
  rw [← rcB_am] at hb
  obtain ⟨g', E', h1, h2⟩ := am_upd (P := Try.prog) tmap_87 hb (kU_nd hE ha) r
  rw [rcB_am] at h1
  exact ⟨g', E', h1, (h2.trans ((wout_perm hE r.key).cons r)).trans (with_perm V r).symm⟩
theorem rc_del {H : Heap} {b g : Nat} {E V : List Rc} (hb : H[b]? = some (rcB true g E)) (hE : E.Perm V) (ha : Asc V) (k : Int) :
    ∃ g' E', evDelete Try.prog 87 (.map b) (.p (U k)) H = some (H.set b (rcB true g' E')) ∧ E'.Perm (woutF V k) := by
  rw [← rcB_am] at hb
  obtain ⟨g', h1⟩ := am_del (P := Try.prog) tmap_87 hb (kU_nd hE ha) k
  rw [rcB_am] at h1
  exact ⟨g', _, h1, wout_perm hE k⟩
theorem nrS (H : Heap) : noRes (some H) = some (.p (.tup []), H) := rfl
theorem viewF_succ (M : List Rc) (L : List Wr) {i : Nat} (h : i < L.length) : viewF M (L.take (i + 1)) = stepF (viewF M (L.take i)) L[i] := by
  rw [List.take_succ_eq_append_getElem h, viewF_snoc]
/-- What one sees, as a map of its own. -/
theorem w31 {H : Heap} {c : Fm} {m : Mo} (h : FI H c m) (ha : Asc m.M) (who : Nat) {t : Mi} (ht : m.S[who]? = some t) (hl : t.L.length ≤ 1000) (Q : AV → Heap → Prop)
    (hq : ∀ H' g E, H'[H.length]? = some (rcB true g E) → E.Perm (viewF m.M t.L) → (∀ i, i < H.length → H'[i]? = H[i]?) → H.length < H'.length → Q (.map H.length) H') : (W Cf okf).call 42 [.vptr c.pp 0, .p (I who)] H Q := by
  refine top_mk extMono Try.func42 body42 (by decide) rfl ?_
  simp only [c42, Try.f42, Option.getD_some]
  have hp := h.hp
  obtain ⟨lm, gm, E0, hbm, hE0⟩ := h.hm
  simp -implicitDefEqProofs -dsimp (maxSteps := 1000000) (disch := first | omega | (simp only [wkLen]; omega) | decide +kernel) only [↓wkPre, ↓wkPre2, ↓wkE, wkPost, wkDef, wkF, simprocAttr, nn_v, hp]
  refine ext_call md_63 ⟨c.bm, lm, gm, _, _, rfl, hbm, ?_⟩
  have hplt := lt_of hp
  have hp2 : ∀ x : Blk, (H ++ [x])[c.pp]? = some (.var true (.agg [.map c.bm, .map c.bs])) := fun x => (hs_app hplt).trans hp
  have hnew : ∀ x : Blk, (H ++ [x])[H.length]? = some x := fun x => by simp
  have h2 : FI (H ++ [rcB true 0 E0]) c m := h.keep fun i hi => hs_app (h.lt hi)
  rcases h2.pick who with hw | ⟨x, R, rfl, hpm, h3⟩
  · have hm := h2.miss hw
    have := h.r2 who t ht hw
    subst this
    simp -implicitDefEqProofs -dsimp (maxSteps := 1000000) (disch := first | omega | (simp only [wkLen]; omega) | decide +kernel) only [↓wkPre, ↓wkPre2, ↓wkE, wkPost, wkDef, wkF, simprocAttr, nn_v, hp2, hm]
    exact hq _ 0 E0 (hnew _) hE0 (fun i hi => hs_app hi) (by simp)
  · have hm := h3.hit
    have := h3.r1 x List.mem_cons_self
    rw [ht] at this
    cases this
    have hx := h3.hx x List.mem_cons_self
    have hxq := hx.hq
    have hxv := hx.hv
    obtain ⟨who, q, qs, v, L, S⟩ := x
    dsimp only at hm hxq hxv hl hq ⊢
    rcases hxv.cases with ⟨rfl, rfl⟩ | ⟨b, g, l, ex, ys, rfl, hb, hle, hat⟩
    · simp -implicitDefEqProofs -dsimp (maxSteps := 1000000) (disch := first | omega | (simp only [wkLen]; omega) | decide +kernel) only [↓wkPre, ↓wkPre2, ↓wkE, wkPost, wkDef, wkF, simprocAttr, nn_v, hp2, hm, hxq]
      refine loop_use extMono (fun m' e Hc => m' = 0 ∧ e 5 = .map H.length ∧ e 26 = .p (I 0) ∧ e 27 = .p (I 0) ∧ Hc = H ++ [rcB true 0 E0]) ?_ 0 _ _ ⟨rfl, ?_⟩
      · rintro m' e Hc ⟨rfl, e5, e26, e27, rfl⟩
        simp -implicitDefEqProofs -dsimp (maxSteps := 1000000) (disch := first | omega | (simp only [wkLen]; omega) | decide +kernel) only [↓wkPre, ↓wkPre2, ↓wkE, wkPost, wkDef, wkF, simprocAttr, e5, e26, e27]
        exact hq _ 0 E0 (hnew _) hE0 (fun i hi => hs_app hi) (by simp)
      · simp -implicitDefEqProofs -dsimp (maxSteps := 1000000) (disch := first | omega | (simp only [wkLen]; omega) | decide +kernel) only [↓wkPre, ↓wkPre2, ↓wkE, wkPost, wkDef, wkF, simprocAttr]
        done
    · have hblt : b < H.length := by
        have : b ∈ Fm.foot c := (foot_perm (pp := c.pp) (bs := c.bs) (bm := c.bm) hpm).mem_iff.2 (mem_foot (c := ⟨c.pp, c.bs, c.bm, _⟩) List.mem_cons_self (by simp [Sd.bs, AV.blk]))
        exact h.lt this
      have hbH : H[b]? = some (.arr l g 8 ys) := by rw [← hs_app (l := [rcB true 0 E0]) hblt]; exact hb
      simp -implicitDefEqProofs -dsimp (maxSteps := 1000000) (disch := first | omega | (simp only [wkLen]; omega) | decide +kernel) only [↓wkPre, ↓wkPre2, ↓wkE, wkPost, wkDef, wkF, simprocAttr, nn_v, hp2, hm, hxq]
      refine loop_use extMono (fun m' e Hc => ∃ i g1 E1, m' = L.length - i ∧ i ≤ L.length ∧ e 5 = .map H.length ∧ e 25 = .ref b g 0 L.length ex ∧ e 26 = .p (I L.length) ∧ e 27 = .p (I i) ∧ Hc[H.length]? = some (rcB true g1 E1) ∧ E1.Perm (viewF m.M (L.take i)) ∧ (∀ j, j < H.length → Hc[j]? = H[j]?) ∧ H.length < Hc.length) ?_ L.length _ _ ⟨0, 0, E0, rfl, by omega, ?_⟩
      · rintro m' e Hc ⟨i, g1, E1, rfl, hi, e5, e25, e26, e27, kn, hE1, hfr, hln⟩
        rcases Nat.lt_or_ge i L.length with hlt | hge
        · have gi := hat i hlt
          have kb := (hfr b hblt).trans hbH
          have hs := viewF_succ m.M L hlt
          have hA : Asc (viewF m.M (L.take i)) := ha.view _
          generalize L[i] = w at *
          obtain ⟨put, r⟩ := w
          have kn2 : ∀ x : Blk, (Hc ++ [x])[H.length]? = some (rcB true g1 E1) := fun x => (hs_app hln).trans kn
          cases put with
          | true =>
            obtain ⟨g2, E2, hu, hE2⟩ := rc_upd (kn2 (.var true (.p (wfP ⟨true, r⟩)))) hE1 hA r
            have hs : viewF m.M (L.take (i + 1)) = withF (viewF m.M (L.take i)) r := hs
            simp -implicitDefEqProofs -dsimp (maxSteps := 1000000) (disch := first | omega | (simp only [wkLen]; omega) | decide +kernel) only [↓wkPre, ↓wkPre2, ↓wkE, wkPost, wkDef, wkF, simprocAttr, e5, e25, e26, e27, kb, gi, hu]
            exact ⟨L.length - (i + 1), by omega, i + 1, g2, E2, rfl, by omega, by push_cast; rfl, rfl, by rw [hs]; exact hE2, fun j hj => (hs_app (by simp; omega)).trans ((hs_ne (by omega)).trans (hfr j hj)), by first | omega | (simp; omega)⟩
          | false =>
            obtain ⟨g2, E2, hu, hE2⟩ := rc_del (kn2 (.var true (.p (wfP ⟨false, r⟩)))) hE1 hA r.key
            have hs : viewF m.M (L.take (i + 1)) = woutF (viewF m.M (L.take i)) r.key := hs
            replace hu := congrArg noRes hu
            rw [nrS] at hu
            simp -implicitDefEqProofs -dsimp (maxSteps := 1000000) (disch := first | omega | (simp only [wkLen]; omega) | decide +kernel) only [↓wkPre, ↓wkPre2, ↓wkE, wkPost, wkDef, wkF, simprocAttr, e5, e25, e26, e27, kb, gi, hu]
            exact ⟨L.length - (i + 1), by omega, i + 1, g2, E2, rfl, by omega, by push_cast; rfl, rfl, by rw [hs]; exact hE2, fun j hj => (hs_app (by simp; omega)).trans ((hs_ne (by omega)).trans (hfr j hj)), by first | omega | (simp; omega)⟩
        · obtain rfl : i = L.length := by omega
          rw [List.take_length] at hE1
          simp -implicitDefEqProofs -dsimp (maxSteps := 1000000) (disch := first | omega | (simp only [wkLen]; omega) | decide +kernel) only [↓wkPre, ↓wkPre2, ↓wkE, wkPost, wkDef, wkF, simprocAttr, e5, e25, e26, e27]
          exact hq _ g1 E1 kn hE1 hfr hln
      · simp -implicitDefEqProofs -dsimp (maxSteps := 1000000) (disch := first | omega | (simp only [wkLen]; omega) | decide +kernel) only [↓wkPre, ↓wkPre2, ↓wkE, wkPost, wkDef, wkF, simprocAttr]
        exact ⟨hE0, fun i hi => hs_app hi, by omega⟩
end Go.Ev.F35
end
section
namespace Go.Ev.F35
open Go.Proofs Go.Ev
set_option maxRecDepth 100000
set_option linter.all false
theorem allP_mapp : ∀ xs : List PV, allP (xs.map AV.p) = some xs
  | [] => rfl
  | x :: xs => by rw [List.map_cons, allP_p, allP_mapp xs]; rfl
theorem frz_rcB {H : Heap} {b g : Nat} {l : Bool} {E : List Rc} (hb : H[b]? = some (rcB l g E)) (n : Nat) (t : TypeId) : frzN Try.prog H n t (.map b) = some (.fmap (kU E) (rcs E)) := by
  cases n <;> simp [frzN, hb, allP_mapp]
theorem own34 {H : Heap} {b g : Nat} {l : Bool} {E M : List Rc} (hb : H[b]? = some (rcB l g E)) (hE : E.Perm M) (hl : M.length ≤ 1000) (ha : Asc M) {k : AV → Heap → Prop} {tg : Tag k}
    (hk : ∀ v H2, OwnS H2 v 6 (rcs M) → (∀ i, i < H.length → i ≠ b → H2[i]? = H[i]?) → H2[b]? = some (rcB false g E) → (∀ c, v.blk = some c → H.length ≤ c) → H.length ≤ H2.length → k v H2) :
    evCallT Cf (W Cf okf) 45 [.map b] H k tg := by
  refine own_call md_45 Try.func45 (pa := [.fmap (kU E) (rcs E)]) ?_ ?_
  · show frzL (frzN Try.prog H 4) [.map b] [87] = _
    simp only [frzL, List.headD_cons, List.tail_cons, frz_rcB hb]
    rfl
  · show (W Cf okf).call 45 [.p (.fmap (kU E) (rcs E))] [] _
    refine w34 E M (by rw [hE.length_eq]; exact hl) hE ha _ ?_
    intro v H' hv
    have hf : freezeIds ([AV.map b].flatMap (ids 4)) H = H.set b (rcB false g E) := by
      show freezeIds [b] H = _
      simp only [freezeIds, hb]
      rfl
    rw [hf]
    obtain ⟨v1, H2, h1, h2, h3, h4, h5⟩ := takeOwn_own (H1 := H.set b (rcB false g E)) hv
    rw [h1]
    simp only [List.length_set] at h3 h4 h5
    have blt := lt_of hb
    refine hk v1 H2 h2 (fun i hi hne => (h4 i hi).trans (hs_ne (Ne.symm hne))) ((h4 b blt).trans (hs_set blt)) (fun c hc => by rw [h3 c hc]; exact Nat.le_refl _) h5
theorem FI.frz {H H' : Heap} {c : Fm} {m : Mo} (h : FI H c m) {l : Bool} {g : Nat} {E : List Rc} (hb : H'[c.bm]? = some (rcB l g E)) (hE : E.Perm m.M) (k : ∀ i, i < H.length → i ≠ c.bm → H'[i]? = H[i]?) : FI H' c m := by
  have hnf := h.nf
  unfold Fm.foot at hnf
  obtain ⟨e1, d9⟩ := List.nodup_cons.1 hnf
  obtain ⟨e2, d10⟩ := List.nodup_cons.1 d9
  obtain ⟨e3, d11⟩ := List.nodup_cons.1 d10
  refine ⟨(k _ (lt_of h.hp) (fun e => e1 (by simp [e]))).trans h.hp, ⟨l, g, E, hb, hE⟩, ?_, ?_, h.nw, h.nf, h.r1, h.r2⟩
  · obtain ⟨g, E, h3, h4⟩ := h.hs
    exact ⟨g, E, (k _ (lt_of h3) (fun e => e2 (by simp [e]))).trans h3, h4⟩
  · intro y hy
    refine (h.hx y hy).keep fun i hi => k i ((h.hx y hy).lt hi) fun e => e3 ?_
    rw [← e]
    exact List.mem_flatMap.2 ⟨y, hy, hi⟩
theorem w15 {H : Heap} {c : Fm} {m : Mo} (h : FI H c m) (ha : Asc m.M) (hl : m.M.length ≤ 1000) (Q : AV → Heap → Prop)
    (hq : ∀ v H', OwnS H' v 6 (rcs m.M) → FI H' c m → Kp c c H H' → (∀ c, v.blk = some c → H.length ≤ c) → Q v H') : (W Cf okf).call 36 [.vptr c.pp 0] H Q := by
  refine top_mk extMono Try.func36 body36 (by decide) rfl ?_
  simp only [c36, Try.f36, Option.getD_some]
  have hp := h.hp
  obtain ⟨lm, gm, E, hbm, hE⟩ := h.hm
  simp -implicitDefEqProofs -dsimp (maxSteps := 1000000) (disch := first | omega | (simp only [wkLen]; omega) | decide +kernel) only [↓wkPre, ↓wkPre2, ↓wkE, wkPost, wkDef, wkF, simprocAttr, nn_v, hp]
  refine own34 hbm hE hl ha ?_
  intro v H2 h1 h2 h3 h4 h5
  simp -implicitDefEqProofs -dsimp (maxSteps := 1000000) (disch := first | omega | (simp only [wkLen]; omega) | decide +kernel) only [↓wkPre, ↓wkPre2, ↓wkE, wkPost, wkDef, wkF, simprocAttr]
  exact hq v H2 h1 (h.frz h3 hE h2) ⟨fun i hi hn => h2 i hi (fun e => hn (by simp [e, Fm.foot])), fun i hi => .inl hi, h5, rfl⟩ h4
theorem FI.leave {H : Heap} {c : Fm} {m : Mo} (h : FI H c m) (who : Nat) : ∃ H' c', evDelete Try.prog 88 (.map c.bs) (.p (I who)) H = some H' ∧ FI H' c' ⟨m.M, m.S.set who mi0⟩ ∧ Kp c c' H H' := by
  rcases h.pick who with hw | ⟨x, R, rfl, hpm, h2⟩
  · obtain ⟨H', h3, h4, h5⟩ := h.del0 hw
    exact ⟨H', c, h3, h4, h5⟩
  · obtain ⟨H', h3, h4, h5⟩ := h2.del
    exact ⟨H', _, h3, h4, Kp.of_perm hpm h5⟩
theorem w18 {H : Heap} {c : Fm} {m : Mo} (h : FI H c m) (who : Nat) (Q : AV → Heap → Prop) (hq : ∀ H' c', FI H' c' ⟨m.M, m.S.set who mi0⟩ → Kp c c' H H' → Q (.p (.tup [])) H') : (W Cf okf).call 33 [.vptr c.pp 0, .p (I who)] H Q := by
  refine top_mk extMono Try.func33 body33 (by decide) rfl ?_
  simp only [c33, Try.f33, Option.getD_some]
  have hp := h.hp
  obtain ⟨H', c', hd, h1, h2⟩ := h.leave who
  replace hd := congrArg noRes hd
  rw [nrS] at hd
  simp -implicitDefEqProofs -dsimp (maxSteps := 1000000) (disch := first | omega | (simp only [wkLen]; omega) | decide +kernel) only [↓wkPre, ↓wkPre2, ↓wkE, wkPost, wkDef, wkF, simprocAttr, nn_v, hp, hd]
  exact hq H' c' h1 h2
/-- A new side, of two new blocks. -/
theorem FI.come {H : Heap} {c : Fm} {m : Mo} (h : FI H c m) {who : Nat} (hw : who ∉ c.X.map (·.who)) (hlt : who < m.S.length) :
    ∃ H', evMapUpdate Try.prog 88 (.map c.bs) (.p (I who)) (.vptr (H.length + 1) 0) (H ++ [.map true 0 [] [], .var true (.agg [.nsl, .map H.length])]) = some H' ∧
    FI H' ⟨c.pp, c.bs, c.bm, ⟨who, H.length + 1, H.length, .nsl, [], []⟩ :: c.X⟩ ⟨m.M, m.S.set who ⟨true, [], []⟩⟩ ∧ Kp c ⟨c.pp, c.bs, c.bm, ⟨who, H.length + 1, H.length, .nsl, [], []⟩ :: c.X⟩ H H' := by
  have := h.ins (x := ⟨who, H.length + 1, H.length, .nsl, [], []⟩) hw hlt (H1 := H ++ [.map true 0 [] [], .var true (.agg [.nsl, .map H.length])]) (fun i hi => hs_app hi) (by simp)
    ⟨by rw [List.getElem?_append_right (by dsimp only; omega)]; simp [show H.length + 1 - H.length = 1 by omega], .inl (OwnS.nil _ _), 0, [], by simp [mdK, mdV, kI], List.Perm.refl _⟩ (fun i hi => by simp [Sd.bs, AV.blk] at hi; omega) (by simp [Sd.bs, AV.blk])
  exact this
theorem FI.on {H : Heap} {pp bs bm : Nat} {x : Sd} {R : List Sd} {m : Mo} (h : FI H ⟨pp, bs, bm, x :: R⟩ m) : m.S.set x.who (onMi ⟨true, x.L, x.S⟩) = m.S := set_same (h.r1 x List.mem_cons_self)
theorem w19 {H : Heap} {c : Fm} {m : Mo} (h : FI H c m) (who : Nat) {t : Mi} (ht : m.S[who]? = some t) (Q : AV → Heap → Prop) (hq : ∀ H' c', FI H' c' ⟨m.M, m.S.set who (onMi t)⟩ → Kp c c' H H' → Q (.p (.tup [])) H') : (W Cf okf).call 31 [.vptr c.pp 0, .p (I who)] H Q := by
  refine top_mk extMono Try.func31 body31 (by decide) rfl ?_
  simp only [c31, Try.f31, Option.getD_some]
  have hp := h.hp
  rcases h.pick who with hw | ⟨x, R, rfl, hpm, h2⟩
  · have hm := h.miss hw
    have := h.r2 who t ht hw
    subst this
    obtain ⟨H', hu, h3, h4⟩ := h.come hw (List.getElem?_eq_some_iff.1 ht).1
    simp -implicitDefEqProofs -dsimp (maxSteps := 1000000) (disch := first | omega | (simp only [wkLen]; omega) | decide +kernel) only [↓wkPre, ↓wkPre2, ↓wkE, wkPost, wkDef, wkF, simprocAttr, nn_v, hp, hm, hu]
    exact hq H' _ h3 h4
  · have hm := h2.hit
    have h3 := h2.r1 x List.mem_cons_self
    rw [ht] at h3
    cases h3
    simp -implicitDefEqProofs -dsimp (maxSteps := 1000000) (disch := first | omega | (simp only [wkLen]; omega) | decide +kernel) only [↓wkPre, ↓wkPre2, ↓wkE, wkPost, wkDef, wkF, simprocAttr, nn_v, hp, hm]
    have hon := h2.on
    refine hq H c ?_ (Kp.refl _ _)
    rw [hon]
    exact h
end Go.Ev.F35
end
