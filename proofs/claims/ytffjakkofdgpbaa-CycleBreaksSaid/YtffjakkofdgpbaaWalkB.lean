/- A part of the proof: walks of the functions that the law calls. No condition. -/
import Derived.Test.YtffjakkofdgpbaaWalkA
set_option linter.all false
section
namespace Go.Ev.F12
open Go.Proofs Go.Ev Go.Sort
set_option maxRecDepth 100000
set_option linter.all false
/-- Somebody waits for somebody, by whatever way. -/
def Rch (L : Arcs) (a b : Int) : Prop := ∃ k, 1 ≤ k ∧ Wk L k a b
theorem Wk.trans {L : Arcs} {a b : Int} {j : Nat} (h : Wk L j a b) : ∀ {k : Nat} {c : Int}, Wk L k b c → Wk L (j + k) a c
  | 0, c, h2 => by cases h2; exact h
  | k + 1, c, ⟨m, h2, h3⟩ => ⟨m, h.trans h2, h3⟩
theorem Rch.arc {L : Arcs} {a b : Int} (h : (a, b) ∈ L) : Rch L a b := ⟨1, Nat.le_refl _, a, rfl, h⟩
theorem Rch.trans {L : Arcs} {a b c : Int} (h : Rch L a b) (k : Rch L b c) : Rch L a c := by
  obtain ⟨j, h1, h2⟩ := h
  obtain ⟨l, k1, k2⟩ := k
  exact ⟨j + l, by omega, h2.trans k2⟩
/-- The map of those who are met. -/
def Met (H : Heap) (mb : Nat) (M : List Int) : Prop := ∃ g, H[mb]? = some (.map true g (kI .u64 M) (M.map fun _ => AV.p (I 1)))
structure WSt (L : Arcs) (H : Heap) (c1 c2 c3 mb : Nat) (M : List Int) : Prop where
  a1 : H[c1]? = some (.var true (.p (arcs L)))
  a2 : H[c2]? = some (.var true (.map mb))
  a3 : H[c3]? = some (.var true (.fn 27 [.vptr c1 0, .vptr c2 0, .vptr c3 0]))
  mt : Met H mb M
  nd : M.Nodup
  sb : ∀ x ∈ M, x ∈ L.map (·.2)
theorem WSt.len {L : Arcs} {H : Heap} {c1 c2 c3 mb : Nat} {M : List Int} (h : WSt L H c1 c2 c3 mb M) : M.length ≤ L.length := by
  have := h.nd.length_le_of_subset h.sb
  simpa using this
theorem WSt.keep {L : Arcs} {H H' : Heap} {c1 c2 c3 mb : Nat} {M : List Int} (h : WSt L H c1 c2 c3 mb M) (k1 : H'[c1]? = H[c1]?) (k2 : H'[c2]? = H[c2]?) (k3 : H'[c3]? = H[c3]?) (k4 : H'[mb]? = H[mb]?) : WSt L H' c1 c2 c3 mb M :=
  ⟨k1.trans h.a1, k2.trans h.a2, k3.trans h.a3, (by obtain ⟨g, hg⟩ := h.mt; exact ⟨g, k4.trans hg⟩), h.nd, h.sb⟩
set_option maxHeartbeats 1000000 in
theorem w27 (L : Arcs) (hL : L.length ≤ 40) (c1 c2 c3 mb : Nat) (hc : c1 ≠ mb ∧ c2 ≠ mb ∧ c3 ≠ mb) : ∀ (f : Nat) (n : Int) (M : List Int) (H : Heap) (Q : AV → Heap → Prop), L.length ≤ M.length + f → WSt L H c1 c2 c3 mb M → c1 < H.length → c2 < H.length → c3 < H.length →
    (∀ M' H', WSt L H' c1 c2 c3 mb M' → (∀ x ∈ M, x ∈ M') → (∀ t ∈ nxt L n, t ∈ M') → (∀ x ∈ M', x ∈ M ∨ ((∀ t ∈ nxt L x, t ∈ M') ∧ Rch L n x)) → (∀ i, i < H.length → i ≠ mb → H'[i]? = H[i]?) → H.length ≤ H'.length → Q (.p (.tup [])) H') →
    (W Cf okf).call 27 [.p (U n), .vptr c1 0, .vptr c2 0, .vptr c3 0] H Q := by
  intro f
  induction f using Nat.strongRecOn with
  | ind f ih =>
  intro n M H Q hf hw l1 l2 l3 hq
  obtain ⟨a1, a2, a3, mt, nd, sb⟩ := id hw
  obtain ⟨g, mt⟩ := mt
  have hmb : mb < H.length := (List.getElem?_eq_some_iff.1 mt).1
  refine top_mk extMono Try.func27 body27 (by decide) rfl ?_
  simp only [c27, Try.f27, Option.getD_some]
  simp -implicitDefEqProofs -dsimp (disch := first | omega | (simp only [wkLen]; omega) | decide +kernel) only [↓wkPre, ↓wkPre2, ↓wkE, wkPost, wkDef, wkF, simprocAttr, a1]
  refine PS.app md_22 Try.func22 (p22 L n) rfl ?_
  rintro _ rfl
  simp -implicitDefEqProofs -dsimp (disch := first | omega | (simp only [wkLen]; omega) | decide +kernel) only [↓wkPre, ↓wkPre2, ↓wkE, wkPost, wkDef, wkF, simprocAttr]
  refine stop_st (fun e H' => H' = H ∧ e 1 = .vptr c1 0 ∧ e 2 = .vptr c2 0 ∧ e 3 = .vptr c3 0 ∧ e 8 = .p (.fn 30 [.fp (arcs L) 0 0, .fp (U n) 0 0])) ?_ ?_
  · simp -implicitDefEqProofs -dsimp (disch := first | omega | (simp only [wkLen]; omega) | decide +kernel) only [↓wkPre, ↓wkPre2, ↓wkE, wkPost, wkDef, wkF, simprocAttr]
  rintro e H ⟨rfl, e1, e2, e3, e8⟩
  refine stop_range (g := 30) (caps := [.fp (arcs L) 0 0, .fp (U n) 0 0]) (by rw [oper_tmp, e8]) md_30 ?_
  generalize hLB : Blk.loop LoopState.ready none e #[9] _ _ = LB
  have hHl : (H ++ [LB]).length = H.length + 1 := by simp
  refine w30 H.length L n hL (H ++ [LB]) (fun K rest Hx => ∃ M', WSt L Hx c1 c2 c3 mb M' ∧ (∀ x ∈ M, x ∈ M') ∧ (∀ t ∈ nxt L n, t ∈ M' ∨ t ∈ rest) ∧ (∀ t ∈ rest, (n, t) ∈ L) ∧ (∀ x ∈ M', x ∈ M ∨ ((∀ t ∈ nxt L x, t ∈ M') ∧ Rch L n x)) ∧
      Hx[H.length]? = some LB ∧ (∀ i, i < H.length → i ≠ mb → Hx[i]? = H[i]?) ∧ (∀ i, H.length + 1 ≤ i → i < K.length → Hx[i]? = K[i]?) ∧ H.length + 1 ≤ Hx.length ∧ K.length ≤ Hx.length)
    (fun _ => False) _ ?_ ?_ ?_ ?_ (fun _ h => h.elim)
  · intro K hK hKl
    have hk : ∀ i, i < H.length → K[i]? = H[i]? := fun i hi => by rw [hK i (by omega), hs_app hi]
    refine ⟨M, hw.keep (hk _ l1) (hk _ l2) (hk _ l3) (hk _ hmb), fun x h => h, fun t h => .inr h, fun t h => mem_nxt.1 h, fun x h => .inl h, ?_, fun i hi _ => hk i hi, fun i _ _ => rfl, by omega, Nat.le_refl _⟩
    rw [hK _ (by omega)]; exact hs_at
  · rintro K l Hx ⟨M', _, _, _, _, _, _, _, h, _⟩ i hi1 hi2
    exact h i (by omega) hi2
  · rintro K k rest Hx ⟨M', hw', hsub, hnx, har, hcl, hlb, hfr, hfk, hxl, hxk⟩
    obtain ⟨b1, b2, b3, bt, bnd, bsb⟩ := id hw'
    obtain ⟨g', bt⟩ := bt
    refine yield_use extMono (by rw [hlb, ← hLB]) (by rfl) ?_
    show evC _ _ _ (parE [9] [_] _) _ _
    rw [parE_one]
    simp -implicitDefEqProofs -dsimp (disch := first | omega | (simp only [wkLen]; omega) | decide +kernel) only [↓wkPre, ↓wkPre2, ↓wkE, wkPost, wkDef, wkF, simprocAttr]
    refine yA_normal (by rw [hlb, ← hLB]) ?_
    generalize hLB2 : Blk.loop LoopState.busy none e #[9] _ _ = LB2
    have k2 : (Hx.set H.length LB2)[c2]? = some (.var true (.map mb)) := by rw [hs_ne (by omega)]; exact b2
    have kt : (Hx.set H.length LB2)[mb]? = some (.map true g' (kI .u64 M') (M'.map fun _ => AV.p (I 1))) := by rw [hs_ne (by omega)]; exact bt
    by_cases hm : k ∈ M'
    · obtain ⟨j, hj⟩ : ∃ j, M'.findIdx? (fun y => k == y) = some j := by
        cases h : M'.findIdx? (fun y => k == y) with
        | some j => exact ⟨j, rfl⟩
        | none =>
          rw [List.findIdx?_eq_none_iff] at h
          have := h k hm
          simp at this
      have hjl := (List.findIdx?_eq_some_iff_getElem.1 hj).1
      have hlk := look_hit (P := Try.prog) tmap_49 tzero_3 kt hj (v := .p (I 1)) (by simp [hjl]) false
      simp -implicitDefEqProofs -dsimp (disch := first | omega | (simp only [wkLen]; omega) | decide +kernel) only [↓wkPre, ↓wkPre2, ↓wkE, wkPost, wkDef, wkF, simprocAttr, e2, k2, hlk]
      refine yB_normal (by rw [hs_set (by omega), ← hLB2]) ?_
      rw [hLB]
      refine ⟨true, rfl, fun _ => ⟨M', ?_, hsub, fun t ht => ?_, fun t ht => har t (by simp [ht]), hcl, ?_, fun i hi hne => ?_, fun i hi1 hi2 => ?_, by simpa using hxl, by simpa using hxk⟩, fun h => by cases h⟩
      · refine hw'.keep ?_ ?_ ?_ ?_ <;> rw [hs_ne (by omega), hs_ne (by omega)]
      · rcases hnx t ht with h | h
        · exact .inl h
        · rcases List.mem_cons.1 h with rfl | h
          · exact .inl hm
          · exact .inr h
      · exact hs_set (by simp; omega)
      · rw [hs_ne (by omega), hs_ne (by omega)]; exact hfr i hi hne
      · rw [hs_ne (by omega), hs_ne (by omega)]; exact hfk i hi1 hi2
    · have hlk := look_miss (P := Try.prog) (e := 3) tmap_49 tzero_3 kt hm false
      have hup := upd_new (P := Try.prog) tmap_49 kt hm (.p (I 1))
      have k3 : ((Hx.set H.length LB2).set mb (.map true (g' + 1) (kI .u64 (M' ++ [k])) ((M'.map fun _ => AV.p (I 1)) ++ [.p (I 1)])))[c3]? = some (.var true (.fn 27 [.vptr c1 0, .vptr c2 0, .vptr c3 0])) := by
        rw [hs_ne (by omega), hs_ne (by omega)]; exact b3
      simp -implicitDefEqProofs -dsimp (disch := first | omega | (simp only [wkLen]; omega) | decide +kernel) only [↓wkPre, ↓wkPre2, ↓wkE, wkPost, wkDef, wkF, simprocAttr, e2, e3, k2, hlk, hup, k3]
      have hkT : k ∈ L.map (·.2) := by
        have := har k (by simp)
        exact List.mem_map.2 ⟨(n, k), this, rfl⟩
      have hwn : WSt L ((Hx.set H.length LB2).set mb (.map true (g' + 1) (kI .u64 (M' ++ [k])) ((M'.map fun _ => AV.p (I 1)) ++ [.p (I 1)]))) c1 c2 c3 mb (M' ++ [k]) := by
        refine ⟨?_, ?_, k3, ⟨g' + 1, ?_⟩, ?_, ?_⟩
        · rw [hs_ne (by omega), hs_ne (by omega)]; exact b1
        · rw [hs_ne (by omega), hs_ne (by omega)]; exact b2
        · rw [hs_set (by simp; omega)]; simp
        · rw [List.nodup_append]
          exact ⟨bnd, by simp, fun a ha b hb => by simp at hb; subst hb; exact fun e => hm (e ▸ ha)⟩
        · intro x hx
          rcases List.mem_append.1 hx with h | h
          · exact bsb x h
          · simp at h; subst h; exact hkT
      have hlen := hwn.len
      have hlen0 := hw'.len
      have hML : M.length ≤ M'.length := nd.length_le_of_subset hsub
      simp only [List.length_append, List.length_cons, List.length_nil] at hlen
      refine imp_call md_27 (ih (f - 1) (by omega) k (M' ++ [k]) _ _ (by simp; omega) hwn (by simp; omega) (by simp; omega) (by simp; omega) ?_)
      intro M2 H2 hw2 hs2 hn2 hc2 hf2 hl2
      simp only [List.length_set] at hf2 hl2
      simp -implicitDefEqProofs -dsimp (disch := first | omega | (simp only [wkLen]; omega) | decide +kernel) only [↓wkPre, ↓wkPre2, ↓wkE, wkPost, wkDef, wkF, simprocAttr]
      refine yB_normal (by rw [hf2 H.length (by omega) (by omega), hs_ne (by omega), hs_set (by omega), ← hLB2]) ?_
      rw [hLB]
      have hxl' : H.length + 1 ≤ H2.length := by omega
      refine ⟨true, rfl, fun _ => ⟨M2, ?_, fun x hx => hs2 x (by simp [hsub x hx]), fun t ht => ?_, fun t ht => har t (by simp [ht]), fun x hx => ?_, ?_, fun i hi hne => ?_, fun i hi1 hi2 => ?_, by simpa using hxl', by simp; omega⟩, fun h => by cases h⟩
      · refine hw2.keep ?_ ?_ ?_ ?_ <;> rw [hs_ne (by omega)]
      · rcases hnx t ht with h | h
        · exact .inl (hs2 t (by simp [h]))
        · rcases List.mem_cons.1 h with rfl | h
          · exact .inl (hs2 t (by simp))
          · exact .inr h
      · have hnk : Rch L n k := Rch.arc (har k (by simp))
        rcases hc2 x hx with h | ⟨h, hr⟩
        · rcases List.mem_append.1 h with h | h
          · rcases hcl x h with h3 | ⟨h3, h4⟩
            · exact .inl h3
            · exact .inr ⟨fun t ht => hs2 t (by simp [h3 t ht]), h4⟩
          · simp at h; subst h
            exact .inr ⟨hn2, hnk⟩
        · exact .inr ⟨h, hnk.trans hr⟩
      · exact hs_set (by omega)
      · rw [hs_ne (by omega), hf2 i (by omega) hne, hs_ne (by omega), hs_ne (by omega)]; exact hfr i hi hne
      · rw [hs_ne (by omega), hf2 i (by omega) (by omega), hs_ne (by omega), hs_ne (by omega)]; exact hfk i hi1 hi2
  · rintro K Hx ⟨M', hw', hsub, hnx, har, hcl, hlb, hfr, hfk, hxl, hxk⟩
    refine rfin_normal (by show Hx[H.length]? = _; rw [hlb, ← hLB]) ?_
    simp -implicitDefEqProofs -dsimp (disch := first | omega | (simp only [wkLen]; omega) | decide +kernel) only [↓wkPre, ↓wkPre2, ↓wkE, wkPost, wkDef, wkF, simprocAttr]
    refine hq M' _ ?_ hsub (fun t ht => (hnx t ht).resolve_right (by simp)) hcl (fun i hi hne => ?_) (by simp; omega)
    · refine hw'.keep ?_ ?_ ?_ ?_ <;> rw [hs_ne (by omega)]
    · rw [hs_ne (by omega)]; exact hfr i hi hne
end Go.Ev.F12
end
section
namespace Go.Ev.F12
open Go.Proofs Go.Ev Go.Sort
set_option maxRecDepth 100000
set_option linter.all false
theorem closed_reach {L : Arcs} {n : Int} {M : List Int} (h1 : ∀ t ∈ nxt L n, t ∈ M) (h2 : ∀ x ∈ M, (∀ t ∈ nxt L x, t ∈ M) ∧ Rch L n x) : ∀ x, x ∈ M ↔ Rch L n x := by
  have key : ∀ (k : Nat) (x : Int), Wk L (k + 1) n x → x ∈ M := by
    intro k
    induction k with
    | zero =>
      rintro x ⟨m, hm, hx⟩
      cases hm
      exact h1 x (mem_nxt.2 hx)
    | succ k ih =>
      rintro x ⟨m, hm, hx⟩
      exact (h2 m (ih m hm)).1 x (mem_nxt.2 hx)
  intro x
  refine ⟨fun h => (h2 x h).2, ?_⟩
  rintro ⟨k, hk, hw⟩
  obtain ⟨j, rfl⟩ : ∃ j, k = j + 1 := ⟨k - 1, by omega⟩
  exact key j x hw
/-- The answer of Reach. -/
def RchS (L : Arcs) (n : Int) (R : List Int) : Prop := Rise R ∧ ∀ x, x ∈ R ↔ Rch L n x
theorem sorted_rise {O M : List Int} (hp : O.Perm M) (hn : M.Nodup) : Rise (O.mergeSort (fun x y => !ltInt y x)) ∧ ∀ x, x ∈ O.mergeSort (fun x y => !ltInt y x) ↔ x ∈ M := by
  have h1 := List.pairwise_mergeSort (le := fun x y : Int => !ltInt y x) (fun a b c h1 h2 => by simp [ltInt] at *; omega) (fun a b => by simp [ltInt]; omega) O
  have h2 : (O.mergeSort (fun x y => !ltInt y x)).Nodup := ((List.mergeSort_perm O _).trans hp).nodup_iff.2 hn
  refine ⟨?_, fun x => by rw [List.mem_mergeSort]; exact hp.mem_iff⟩
  unfold Rise
  have h3 := h1.and h2
  exact h3.imp (fun ⟨a, b⟩ => by simp [ltInt] at a; omega)
theorem erase_perm {α : Type} [DecidableEq α] {l : List α} {a : α} (h : a ∈ l) : (a :: l.erase a).Perm l := (List.perm_cons_erase h).symm
set_option maxHeartbeats 1000000 in
theorem p15 (L : Arcs) (hL : L.length ≤ 40) (n : Int) : PS Cf okf 15 [25] [arcs L, U n] (fun r => ∃ R, r = us R ∧ RchS L n R) := by
  refine PS.mk extMono Try.func15 body15 (by decide) rfl ?_
  simp only [c15, Try.f15, Option.getD_some]
  simp -implicitDefEqProofs -dsimp (disch := first | omega | (simp only [wkLen]; omega) | decide +kernel) only [↓wkPre, ↓wkPre2, ↓wkE, wkPost, wkDef, wkF, simprocAttr]
  refine imp_call md_27 (w27 L hL 0 2 3 1 (by decide) L.length n [] _ _ (by simp) ⟨by simp, by simp, by simp, ⟨0, by simp [kI]⟩, List.nodup_nil, fun x h => by cases h⟩ (by simp) (by simp) (by simp) ?_)
  intro M H hw _ hnx hcl hfr hln
  simp only [List.length_cons, List.length_nil] at hln
  have hreach := closed_reach hnx (fun x hx => (hcl x hx).resolve_left (by simp))
  obtain ⟨a1, a2, a3, mt, nd, sb⟩ := id hw
  obtain ⟨g, mt⟩ := mt
  have hML := hw.len
  clear hfr hcl hnx hw a1 a3
  simp -implicitDefEqProofs -dsimp (disch := first | omega | (simp only [wkLen]; omega) | decide +kernel) only [↓wkPre, ↓wkPre2, ↓wkE, wkPost, wkDef, wkF, simprocAttr, a2]
  rw [show evRange Try.prog 49 (.map 1) H = some (.it H.length, H ++ [.mit 1 g (0 :: List.range M.length)]) by unfold evRange; simp [tmap_49, mt, kI]]
  simp -implicitDefEqProofs -dsimp (disch := first | omega | (simp only [wkLen]; omega) | decide +kernel) only [↓wkPre, ↓wkPre2, ↓wkE, wkPost, wkDef, wkF, simprocAttr]
  have hgi : ∀ j, j < M.length → (kI .u64 M)[j]? = some (.int .u64 M[j]!) := fun j hj => by simp [kI, hj]
  refine loop_use extMono (fun m e Hc => ∃ (todo : List Nat) (ld : Nat) (O : List Int) (w : AV), m = todo.length ∧ e 7 = w ∧ e 15 = .it H.length ∧ H.length < Hc.length ∧ Hc[1]? = some (.map true g (kI .u64 M) (M.map fun _ => AV.p (I 1))) ∧ Hc[H.length]? = some (.mit 1 g (ld :: todo)) ∧
    (∀ c, w.blk = some c → H.length < c) ∧ OwnS Hc w 0 (usL O) ∧ (∀ j ∈ todo, j < M.length) ∧ (O ++ todo.map (fun j => M[j]!)).Perm M) ?_ M.length _ _ ⟨List.range M.length, 0, [], .nsl, by simp, ?_⟩
  · rintro m e Hc ⟨todo, ld, O, w, rfl, e7, e15, hcl, hm1, hit, hwb, hown, htd, hperm⟩
    have hOl : O.length ≤ M.length := by have := hperm.length_eq; simp at this; omega
    simp -implicitDefEqProofs -dsimp (disch := first | omega | (simp only [wkLen]; omega) | decide +kernel) only [↓wkPre, ↓wkPre2, ↓wkE, wkPost, wkDef, wkF, simprocAttr, e15]
    rw [show iterOf Hc H.length = some (kI .u64 M, M.map (fun _ => AV.p (I 1)), todo, fun l => Hc.set H.length (.mit 1 g l)) by unfold iterOf; simp [hit, hm1], oK_some]
    refine ⟨fun h => ?_, fun j hj => ?_⟩
    · simp only at h
      subst h
      simp only [List.map_nil, List.append_nil] at hperm
      obtain ⟨r1, r2⟩ := sorted_rise hperm nd
      simp -implicitDefEqProofs -dsimp (disch := first | omega | (simp only [wkLen]; omega) | decide +kernel) only [↓wkPre, ↓wkPre2, ↓wkE, wkPost, wkDef, wkF, simprocAttr, e7]
      refine imp_call md_28 (wSortO w O Hc hown (by omega) _ ?_)
      intro H1 hown1 _ _
      have := us_frz hown1
      simp -implicitDefEqProofs -dsimp (disch := first | omega | (simp only [wkLen]; omega) | decide +kernel) only [↓wkPre, ↓wkPre2, ↓wkE, wkPost, wkDef, wkF, simprocAttr, e7]
      revert this
      cases frzR Try.prog H1 [25] w with
      | none => exact fun h => h.elim
      | some r => exact fun h => ⟨_, h, r1, fun x => by rw [r2, hreach]⟩
    · simp only at hj
      have hjM := htd j hj
      have hv : (M.map (fun _ => AV.p (I 1)))[j]? = some (.p (I 1)) := by simp [hjM]
      simp only [hgi j hjM, oK_some, hv]
      have hkey : entOf (Hc.set H.length (.mit 1 g ((j + 1) :: todo.erase j))) H.length = some (.int .u64 M[j]!, .p (I 1)) := by
        unfold entOf
        rw [hs_set hcl]
        simp only [hs_ne (show H.length ≠ 1 by omega), hm1, hgi j hjM, hv, if_true, Option.bind_some, Option.map_some]
      simp -implicitDefEqProofs -dsimp (disch := first | omega | (simp only [wkLen]; omega) | decide +kernel) only [↓wkPre, ↓wkPre2, ↓wkE, wkPost, wkDef, wkF, simprocAttr, e7, e15, hkey]
      refine append_step telem_25 (elems_new (by simp) rfl) (by simp) ((hown.set (fun h => by have := hwb _ h; omega)).app _) ?_ ?_
      · rw [byt_23, usL_len]; simp; omega
      intro w' H' hown' hfr' hle hb'
      simp only [List.length_append, List.length_set, List.length_cons, List.length_nil] at hfr' hle hb'
      simp -implicitDefEqProofs -dsimp (disch := first | omega | (simp only [wkLen]; omega) | decide +kernel) only [↓wkPre, ↓wkPre2, ↓wkE, wkPost, wkDef, wkF, simprocAttr, e7, e15]
      have hp := erase_perm hj
      refine ⟨(todo.erase j).length, by rw [List.length_erase_of_mem hj]; have := List.length_pos_of_mem hj; omega, todo.erase j, j + 1, O ++ [M[j]!], w', rfl, rfl, by omega, ?_, ?_, fun c hc => ?_, ?_, fun i hi => htd i (List.mem_of_mem_erase hi), ?_⟩
      · rw [hfr' 1 (by omega) (fun e => by have := hwb 1 e; omega), hs_app (by simp; omega), hs_ne (by omega)]; exact hm1
      · rw [hfr' H.length (by omega) (fun e => by have := hwb _ e; omega), hs_app (by simp; omega), hs_set hcl]
      · by_cases hcl2 : c < Hc.length + (0 + 1)
        · exact hwb c (hb' c hc hcl2)
        · omega
      · rw [usL_snoc]; exact hown'
      · refine List.Perm.trans ?_ hperm
        rw [List.append_assoc]
        refine List.Perm.append_left O ?_
        have := hp.map (fun j => M[j]!)
        simpa using this
  · simp -implicitDefEqProofs -dsimp (disch := first | omega | (simp only [wkLen]; omega) | decide +kernel) only [↓wkPre, ↓wkPre2, ↓wkE, wkPost, wkDef, wkF, simprocAttr]
    refine ⟨by omega, mt, (fun c h => by cases h), OwnS.nil _ _, fun j hj => by simpa using hj, ?_⟩
    have : (List.range M.length).map (fun j => M[j]!) = M := by
      apply List.ext_getElem (by simp)
      intro i h1 h2
      simp at h1
      simp [h1]
    rw [this]
/-- Whether somebody waits for themselves. -/
theorem p12 (L : Arcs) (hL : L.length ≤ 40) (n : Int) : PS Cf okf 12 [4] [arcs L, U n] (fun r => ∃ b : Bool, r = B b ∧ (b = true ↔ Rch L n n)) := by
  refine PS.mk extMono Try.func12 body12 (by decide) rfl ?_
  simp only [c12, Try.f12, Option.getD_some]
  simp -implicitDefEqProofs -dsimp (disch := first | omega | (simp only [wkLen]; omega) | decide +kernel) only [↓wkPre, ↓wkPre2, ↓wkE, wkPost, wkDef, wkF, simprocAttr]
  refine PS.app md_15 Try.func15 (p15 L hL n) rfl ?_
  rintro _ ⟨R, rfl, hr1, hr2⟩
  have hRl : R.length ≤ 1000000 := by
    have h1 : R.Nodup := hr1.imp (fun h => by omega)
    have h2 : ∀ x ∈ R, x ∈ L.map (·.2) := fun x hx => by
      obtain ⟨k, hk, hw⟩ := (hr2 x).1 hx
      obtain ⟨j, rfl⟩ : ∃ j, k = j + 1 := ⟨k - 1, by omega⟩
      obtain ⟨m, _, hm⟩ := hw
      exact List.mem_map.2 ⟨(m, x), hm, rfl⟩
    have := h1.length_le_of_subset h2
    simp at this; omega
  simp -implicitDefEqProofs -dsimp (disch := first | omega | (simp only [wkLen]; omega) | decide +kernel) only [↓wkPre, ↓wkPre2, ↓wkE, wkPost, wkDef, wkF, simprocAttr]
  refine PS.app md_26 Try.func26 (p26 R n hRl) rfl ?_
  rintro _ rfl
  simp -implicitDefEqProofs -dsimp (disch := first | omega | (simp only [wkLen]; omega) | decide +kernel) only [↓wkPre, ↓wkPre2, ↓wkE, wkPost, wkDef, wkF, simprocAttr]
  exact ⟨_, rfl, by rw [decide_eq_true_eq, hr2]⟩
theorem p17 (L : Arcs) (hL : L.length ≤ 40) : PS Cf okf 17 [4] [arcs L] (fun r => ∃ b : Bool, r = B b ∧ (b = true ↔ ∀ a ∈ L, ¬ Rch L a.1 a.1)) := by
  refine PS.mk extMono Try.func17 body17 (by decide) rfl ?_
  simp only [c17, Try.f17, Option.getD_some]
  have hul := arcL_len L
  simp -implicitDefEqProofs -dsimp (disch := first | omega | (simp only [wkLen]; omega) | decide +kernel) only [↓wkPre, ↓wkPre2, ↓wkE, wkPost, wkDef, wkF, simprocAttr, hul]
  refine loop_use extMono (fun m e H => ∃ i : Nat, m = L.length - i ∧ i ≤ L.length ∧ e 0 = .p (arcs L) ∧ e 5 = .p (arcs L) ∧ e 6 = .p (I L.length) ∧ e 7 = .p (I i) ∧ ∀ a ∈ L.take i, ¬ Rch L a.1 a.1) ?_ L.length _ _ ⟨0, rfl, by omega, ?_⟩
  · rintro m e H ⟨i, rfl, hi, e0, e5, e6, e7, hn⟩
    rcases Nat.lt_or_ge i L.length with h | h
    · have gi := arcL_get h
      simp -implicitDefEqProofs -dsimp (disch := first | omega | (simp only [wkLen]; omega) | decide +kernel) only [↓wkPre, ↓wkPre2, ↓wkE, wkPost, wkDef, wkF, simprocAttr, e0, e5, e6, e7, hul, gi]
      refine PS.app md_12 Try.func12 (p12 L hL L[i].1) rfl ?_
      rintro _ ⟨b, rfl, hb⟩
      cases b
      · simp -implicitDefEqProofs -dsimp (disch := first | omega | (simp only [wkLen]; omega) | decide +kernel) only [↓wkPre, ↓wkPre2, ↓wkE, wkPost, wkDef, wkF, simprocAttr, e0, e5, e6, e7]
        refine ⟨L.length - (i + 1), by omega, i + 1, rfl, by omega, by push_cast; rfl, fun a ha => ?_⟩
        rw [List.take_succ_eq_append_getElem h, List.mem_append, List.mem_singleton] at ha
        rcases ha with ha | rfl
        · exact hn a ha
        · exact fun hr => by have := hb.2 hr; cases this
      · simp -implicitDefEqProofs -dsimp (disch := first | omega | (simp only [wkLen]; omega) | decide +kernel) only [↓wkPre, ↓wkPre2, ↓wkE, wkPost, wkDef, wkF, simprocAttr, e0, e5, e6, e7]
        exact ⟨false, rfl, by
          constructor
          · intro h; cases h
          · intro h2; exact absurd (hb.1 rfl) (h2 L[i] (List.getElem_mem h))⟩
    · obtain rfl : i = L.length := by omega
      rw [List.take_length] at hn
      simp -implicitDefEqProofs -dsimp (disch := first | omega | (simp only [wkLen]; omega) | decide +kernel) only [↓wkPre, ↓wkPre2, ↓wkE, wkPost, wkDef, wkF, simprocAttr, e0, e5, e6, e7]
      exact ⟨true, rfl, by simpa using hn⟩
  · simp -implicitDefEqProofs -dsimp (disch := first | omega | (simp only [wkLen]; omega) | decide +kernel) only [↓wkPre, ↓wkPre2, ↓wkE, wkPost, wkDef, wkF, simprocAttr]
    simp
end Go.Ev.F12
end
section
namespace Go.Ev.F12
open Go.Proofs Go.Ev Go.Sort
set_option linter.all false
/-! Shorter, or as long and smaller. -/
def LX : List Int → List Int → Prop
  | a :: xs, b :: ys => a < b ∨ (a = b ∧ LX xs ys)
  | _, _ => False
theorem LX.irr : ∀ a : List Int, ¬ LX a a
  | [] => fun h => h
  | a :: xs => fun h => by
    rcases h with h | ⟨_, h⟩
    · omega
    · exact LX.irr xs h
theorem LX.trans : ∀ {a b c : List Int}, LX a b → LX b c → LX a c
  | [], _, _, h, _ => h.elim
  | _ :: _, [], _, h, _ => h.elim
  | _ :: _, _ :: _, [], _, h => h.elim
  | a :: xs, b :: ys, c :: zs, h, k => by
    rcases h with h | ⟨rfl, h⟩
    · rcases k with k | ⟨rfl, k⟩
      · exact .inl (by omega)
      · exact .inl h
    · rcases k with k | ⟨rfl, k⟩
      · exact .inl k
      · exact .inr ⟨rfl, h.trans k⟩
theorem LX.app : ∀ {a b : List Int} (x y : List Int), LX a b → LX (a ++ x) (b ++ y)
  | [], _, _, _, h => h.elim
  | _ :: _, [], _, _, h => h.elim
  | a :: xs, b :: ys, x, y, h => by
    rcases h with h | ⟨rfl, h⟩
    · exact .inl h
    · exact .inr ⟨rfl, h.app x y⟩
theorem LX.pre : ∀ (a : List Int) {x y : List Int}, LX x y → LX (a ++ x) (a ++ y)
  | [], _, _, h => h
  | a :: xs, _, _, h => .inr ⟨rfl, LX.pre xs h⟩
def SLt (a b : List Int) : Prop := a.length < b.length ∨ (a.length = b.length ∧ LX a b)
def SLe (a b : List Int) : Prop := a = b ∨ SLt a b
theorem SLt.irr (a : List Int) : ¬ SLt a a := by
  rintro (h | ⟨_, h⟩)
  · omega
  · exact LX.irr a h
theorem SLt.trans {a b c : List Int} (h : SLt a b) (k : SLt b c) : SLt a c := by
  rcases h with h | ⟨h, h'⟩ <;> rcases k with k | ⟨k, k'⟩
  · exact .inl (by omega)
  · exact .inl (by omega)
  · exact .inl (by omega)
  · exact .inr ⟨by omega, h'.trans k'⟩
theorem SLe.trans {a b c : List Int} (h : SLe a b) (k : SLe b c) : SLe a c := by
  rcases h with rfl | h
  · exact k
  · rcases k with rfl | k
    · exact .inr h
    · exact .inr (h.trans k)
theorem SLe.lt {a b c : List Int} (h : SLe a b) (k : SLt b c) : SLt a c := by
  rcases h with rfl | h
  · exact k
  · exact h.trans k
theorem SLt.anti {a b : List Int} (h : SLt a b) (k : SLe b a) : False := by
  rcases k with rfl | k
  · exact SLt.irr _ h
  · exact SLt.irr _ (h.trans k)
theorem SLt.snoc {a b : List Int} (x y : Int) (h : SLt a b) : SLt (a ++ [x]) (b ++ [y]) := by
  rcases h with h | ⟨h, h'⟩
  · exact .inl (by simpa using h)
  · exact .inr ⟨by simpa using h, h'.app _ _⟩
theorem SLe.snoc {a b : List Int} (x : Int) (h : SLe a b) : SLe (a ++ [x]) (b ++ [x]) := by
  rcases h with rfl | h
  · exact .inl rfl
  · exact .inr (h.snoc x x)
theorem SLt.last {a : List Int} {x y : Int} (h : x < y) : SLt (a ++ [x]) (a ++ [y]) := .inr ⟨by simp, LX.pre a (.inl h)⟩
theorem SLt.more (a : List Int) (x : Int) : SLt a (a ++ [x]) := .inl (by simp)
theorem SLe.app {a : List Int} (b : List Int) : SLe a (a ++ b) := by
  cases b with
  | nil => exact .inl (by simp)
  | cons => exact .inr (.inl (by simp))
theorem SLe.len {a b : List Int} (h : SLe a b) : a.length ≤ b.length := by
  rcases h with rfl | h | ⟨h, _⟩ <;> omega
/-! Ways from somebody. -/
def lastN (p : List Int) : Int := p.getLast?.getD 0
theorem lastN_snoc (p : List Int) (t : Int) : lastN (p ++ [t]) = t := by simp [lastN]
inductive Pth (L : Arcs) (fr : Int) : List Int → Prop
  | one : Pth L fr [fr]
  | more {p : List Int} {t : Int} : Pth L fr p → (lastN p, t) ∈ L → Pth L fr (p ++ [t])
theorem Pth.wk {L : Arcs} {fr : Int} {p : List Int} (h : Pth L fr p) : ∃ k, p.length = k + 1 ∧ Wk L k fr (lastN p) := by
  induction h with
  | one => exact ⟨0, rfl, rfl⟩
  | @more p t _ ha ih =>
    obtain ⟨k, h1, h2⟩ := ih
    exact ⟨k + 1, by simp [h1], _, h2, by rw [lastN_snoc]; exact ha⟩
theorem Wk.pth {L : Arcs} {fr : Int} : ∀ {k : Nat} {b : Int}, Wk L k fr b → ∃ p, Pth L fr p ∧ p.length = k + 1 ∧ lastN p = b
  | 0, b, h => by cases h; exact ⟨[fr], .one, rfl, rfl⟩
  | k + 1, b, ⟨m, h1, h2⟩ => by
    obtain ⟨p, p1, p2, p3⟩ := h1.pth
    exact ⟨p ++ [b], .more p1 (by rw [p3]; exact h2), by simp [p2], lastN_snoc _ _⟩
/-- The search, as far as it has come: all ways found, in order; whose nexts are gone through, and which of them are left. -/
structure Bfs (L : Arcs) (fr : Int) (ps : List (List Int)) (i : Nat) (rest : List Int) : Prop where
  hd : ps[0]? = some [fr]
  pth : ∀ p ∈ ps, Pth L fr p
  nd : (ps.map lastN).Nodup
  par : ∀ (j : Nat) q, ps[j]? = some q → (j = 0 ∧ q = [fr]) ∨ ∃ k t p, k ≤ i ∧ k < j ∧ ps[k]? = some p ∧ q = p ++ [t] ∧ (k = i → ∀ u ∈ rest, t < u)
  srt : ps.Pairwise SLt
  don : ∀ k p t, ps[k]? = some p → k ≤ i → (lastN p, t) ∈ L → (k = i ∧ t ∈ rest) ∨ (t ≠ fr ∧ ∃ q ∈ ps, lastN q = t ∧ SLe q (p ++ [t]))
  rst : ∀ p, ps[i]? = some p → ∀ t ∈ rest, (lastN p, t) ∈ L
  inc : Rise rest
theorem Bfs.init (L : Arcs) (fr : Int) : Bfs L fr [[fr]] 0 (nxt L fr) where
  hd := rfl
  pth := fun p hp => by rw [List.mem_singleton.1 hp]; exact .one
  nd := by simp
  par := fun j q hq => by
    left
    cases j with
    | zero => simpa using hq.symm
    | succ j => simp at hq
  srt := by simp
  don := fun k p t hp hk ht => by
    obtain rfl : k = 0 := by omega
    simp at hp
    subst hp
    exact .inl ⟨rfl, mem_nxt.2 ht⟩
  rst := fun p hp t ht => by
    simp at hp
    subst hp
    exact mem_nxt.1 ht
  inc := stepL_rise _ _
theorem Bfs.srt' {L : Arcs} {fr : Int} {ps : List (List Int)} {i : Nat} {rest : List Int} (h : Bfs L fr ps i rest) {j k : Nat} {p q : List Int} (hp : ps[j]? = some p) (hq : ps[k]? = some q) (hjk : j < k) : SLt p q := by
  obtain ⟨h1, rfl⟩ := List.getElem?_eq_some_iff.1 hp
  obtain ⟨h2, rfl⟩ := List.getElem?_eq_some_iff.1 hq
  exact List.pairwise_iff_getElem.1 h.srt j k h1 h2 hjk
theorem Bfs.last0 {L : Arcs} {fr : Int} {ps : List (List Int)} {i : Nat} {rest : List Int} (h : Bfs L fr ps i rest) : ∃ tl, ps.map lastN = fr :: tl := by
  cases ps with
  | nil => have := h.hd; simp at this
  | cons p ps => have := h.hd; simp at this; subst this; exact ⟨_, rfl⟩
theorem Bfs.skip {L : Arcs} {fr : Int} {ps : List (List Int)} {i : Nat} {t : Int} {rest : List Int} (h : Bfs L fr ps i (t :: rest)) {p : List Int} (hp : ps[i]? = some p) (hne : t ≠ fr) (hm : t ∈ (ps.map lastN).tail) : Bfs L fr ps i rest where
  hd := h.hd
  pth := h.pth
  nd := h.nd
  par := fun j q hq => (h.par j q hq).imp id fun ⟨k, u, p, h1, h2, h3, h4, h5⟩ => ⟨k, u, p, h1, h2, h3, h4, fun e v hv => h5 e v (by simp [hv])⟩
  srt := h.srt
  don := fun k q u hq hk hu => by
    rcases h.don k q u hq hk hu with ⟨h1, h2⟩ | h1
    · rcases List.mem_cons.1 h2 with rfl | h2
      · subst h1
        rw [hp] at hq; cases hq
        right
        refine ⟨hne, ?_⟩
        obtain ⟨q, hq, hl⟩ := List.mem_map.1 (List.mem_of_mem_tail hm)
        refine ⟨q, hq, hl, .inr ?_⟩
        obtain ⟨j, hj⟩ := List.getElem?_of_mem hq
        rcases h.par j q hj with ⟨_, rfl⟩ | ⟨k', v, p', h1, h2, h3, rfl, h5⟩
        · exact absurd hl (fun e => hne e.symm)
        · rw [lastN_snoc] at hl
          subst hl
          rcases Nat.lt_or_eq_of_le h1 with h6 | h6
          · exact (h.srt' h3 hp h6).snoc _ _
          · have := h5 h6 v (by simp); omega
      · exact .inl ⟨h1, h2⟩
    · exact .inr h1
  rst := fun p hp t ht => h.rst p hp t (by simp [ht])
  inc := h.inc.of_cons
theorem Bfs.add {L : Arcs} {fr : Int} {ps : List (List Int)} {i : Nat} {t : Int} {rest : List Int} (h : Bfs L fr ps i (t :: rest)) {p : List Int} (hp : ps[i]? = some p) (hne : t ≠ fr) (hm : t ∉ (ps.map lastN).tail) : Bfs L fr (ps ++ [p ++ [t]]) i rest := by
  have hil := (List.getElem?_eq_some_iff.1 hp).1
  have hap : ∀ {j : Nat} {q}, ps[j]? = some q → (ps ++ [p ++ [t]])[j]? = some q := fun {j q} hq => by
    rw [List.getElem?_append_left (List.getElem?_eq_some_iff.1 hq).1]; exact hq
  have hsp : ∀ {j : Nat} {q}, (ps ++ [p ++ [t]])[j]? = some q → (j < ps.length ∧ ps[j]? = some q) ∨ (j = ps.length ∧ q = p ++ [t]) := fun {j q} hq => by
    by_cases hj : j < ps.length
    · rw [List.getElem?_append_left hj] at hq; exact .inl ⟨hj, hq⟩
    · rw [List.getElem?_append_right (by omega)] at hq
      have : j - ps.length = 0 := by
        by_cases h0 : j - ps.length = 0
        · exact h0
        · rw [List.getElem?_eq_none (by simp; omega)] at hq; cases hq
      rw [this] at hq
      right
      exact ⟨by omega, by simpa using hq.symm⟩
  have hrise := List.pairwise_cons.1 h.inc
  obtain ⟨tl, htl⟩ := h.last0
  refine ⟨hap h.hd, fun q hq => ?_, ?_, fun j q hq => ?_, ?_, fun k q u hq hk hu => ?_, fun q hq u hu => ?_, hrise.2⟩
  · rcases List.mem_append.1 hq with h1 | h1
    · exact h.pth q h1
    · rw [List.mem_singleton.1 h1]
      exact .more (h.pth p (List.mem_of_getElem? hp)) (h.rst p hp t (by simp))
  · rw [List.map_append, List.nodup_append]
    refine ⟨h.nd, by simp, fun a ha b hb => ?_⟩
    simp only [List.map_cons, List.map_nil, List.mem_singleton, lastN_snoc] at hb
    subst hb
    rintro rfl
    rw [htl] at ha hm
    rcases List.mem_cons.1 ha with h1 | h1
    · exact hne h1
    · exact hm h1
  · rcases hsp hq with ⟨hj, hq⟩ | ⟨rfl, rfl⟩
    · rcases h.par j q hq with h1 | ⟨k, u, p', h1, h2, h3, h4, h5⟩
      · exact .inl h1
      · exact .inr ⟨k, u, p', h1, h2, hap h3, h4, fun e v hv => h5 e v (by simp [hv])⟩
    · exact .inr ⟨i, t, p, Nat.le_refl _, hil, hap hp, rfl, fun _ u hu => hrise.1 u hu⟩
  · rw [List.pairwise_append]
    refine ⟨h.srt, by simp, fun a ha b hb => ?_⟩
    rw [List.mem_singleton] at hb
    subst hb
    obtain ⟨j, hj⟩ := List.getElem?_of_mem ha
    rcases h.par j a hj with ⟨_, rfl⟩ | ⟨k, u, p', h1, h2, h3, rfl, h5⟩
    · left
      have : p.length ≠ 0 := by
        intro h0
        have := h.pth p (List.mem_of_getElem? hp)
        have := this.wk
        omega
      simp; omega
    · rcases Nat.lt_or_eq_of_le h1 with h6 | h6
      · exact (h.srt' h3 hp h6).snoc _ _
      · subst h6
        rw [hp] at h3; cases h3
        exact SLt.last (h5 rfl t (by simp))
  · have hkl : k < ps.length := by omega
    rcases hsp hq with ⟨_, hq0⟩ | ⟨h1, _⟩
    · rcases h.don k q u hq0 hk hu with ⟨h1, h2⟩ | ⟨h1, q', h2, h3, h4⟩
      · rcases List.mem_cons.1 h2 with rfl | h2
        · subst h1
          rw [hp] at hq0; cases hq0
          exact .inr ⟨hne, _, by simp, lastN_snoc _ _, .inl rfl⟩
        · exact .inl ⟨h1, h2⟩
      · exact .inr ⟨h1, q', by simp [h2], h3, h4⟩
    · omega
  · rcases hsp hq with ⟨_, hq⟩ | ⟨h1, _⟩
    · exact h.rst q hq u (by simp [hu])
    · omega
theorem Bfs.next {L : Arcs} {fr : Int} {ps : List (List Int)} {i : Nat} (h : Bfs L fr ps i []) {p : List Int} (hp : ps[i + 1]? = some p) : Bfs L fr ps (i + 1) (nxt L (lastN p)) where
  hd := h.hd
  pth := h.pth
  nd := h.nd
  par := fun j q hq => (h.par j q hq).imp id fun ⟨k, u, p, h1, h2, h3, h4, h5⟩ => ⟨k, u, p, by omega, h2, h3, h4, fun e => by omega⟩
  srt := h.srt
  don := fun k q u hq hk hu => by
    by_cases hki : k = i + 1
    · subst hki
      rw [hp] at hq; cases hq
      exact .inl ⟨rfl, mem_nxt.2 hu⟩
    · rcases h.don k q u hq (by omega) hu with ⟨_, h2⟩ | h2
      · cases h2
      · exact .inr h2
  rst := fun q hq u hu => by rw [hp] at hq; cases hq; exact mem_nxt.1 hu
  inc := stepL_rise _ _
/-- A way is found for each way that is not longer, nor greater: unless somebody waits for the first one ahead of that. -/
theorem Bfs.le {L : Arcs} {fr : Int} {ps : List (List Int)} {i : Nat} {rest : List Int} (h : Bfs L fr ps i rest) (hfr : ∀ (k : Nat) p, ps[k]? = some p → k < i → (lastN p, fr) ∉ L) {c : List Int} (hc : ps[i]? = some c) {w : List Int} (hw : Pth L fr w) :
    SLe c w ∨ ∃ (k : Nat) (q : List Int), k < i ∧ ps[k]? = some q ∧ lastN q = lastN w ∧ SLe q w := by
  induction hw with
  | one =>
    rcases Nat.eq_zero_or_pos i with rfl | h0
    · have h1 := h.hd
      rw [hc] at h1
      cases h1
      exact .inl (.inl rfl)
    · exact .inr ⟨0, [fr], h0, h.hd, rfl, .inl rfl⟩
  | @more p t hp ha ih =>
    rcases ih with h1 | ⟨k, q, h1, h2, h3, h4⟩
    · exact .inl (h1.trans (SLe.app _))
    · rw [← h3] at ha
      rcases h.don k q t h2 (by omega) ha with ⟨h5, _⟩ | ⟨h5, q', h6, h7, h8⟩
      · omega
      · obtain ⟨j, hj⟩ := List.getElem?_of_mem h6
        have h9 : SLe q' (p ++ [t]) := h8.trans (h4.snoc t)
        rcases Nat.lt_or_ge j i with hji | hji
        · exact .inr ⟨j, q', hji, hj, by rw [h7, lastN_snoc], h9⟩
        · left
          rcases Nat.lt_or_eq_of_le hji with h10 | h10
          · exact (SLe.trans (.inr (h.srt' hc hj h10)) h9)
          · subst h10
            rw [hc] at hj; cases hj
            exact h9
/-- A way round. -/
def Cyc (L : Arcs) (fr : Int) (c : List Int) : Prop := Pth L fr c ∧ (lastN c, fr) ∈ L
/-- What Find tells: the least way round, if there is one. -/
def FindS (L : Arcs) (fr : Int) (c : List Int) : Prop := (c = [] ∧ ∀ w, ¬ Cyc L fr w) ∨ (Cyc L fr c ∧ c.Nodup ∧ ∀ w, Cyc L fr w → SLe c w)
theorem Bfs.found {L : Arcs} {fr : Int} {ps : List (List Int)} {i : Nat} {rest : List Int} (h : Bfs L fr ps i rest) {c : List Int} (hc : ps[i]? = some c) (ha : (lastN c, fr) ∈ L) : FindS L fr c := by
  have hfr : ∀ (k : Nat) p, ps[k]? = some p → k < i → (lastN p, fr) ∉ L := fun k p hp hk hL => by
    rcases h.don k p fr hp (by omega) hL with ⟨h1, _⟩ | ⟨h1, _⟩
    · omega
    · exact h1 rfl
  refine .inr ⟨⟨h.pth c (List.mem_of_getElem? hc), ha⟩, ?_, fun w ⟨hw1, hw2⟩ => ?_⟩
  · -- its nodes: the last ones of its beginnings
    have key : ∀ (n j : Nat) (q : List Int), j ≤ n → ps[j]? = some q → q.Nodup ∧ ∀ x ∈ q, ∃ (k : Nat) (p : List Int), k ≤ j ∧ ps[k]? = some p ∧ lastN p = x := by
      intro n
      induction n with
      | zero =>
        intro j q hj hq
        obtain rfl : j = 0 := by omega
        rw [h.hd] at hq; cases hq
        exact ⟨by simp, fun x hx => ⟨0, [fr], Nat.le_refl _, h.hd, by rw [List.mem_singleton.1 hx]; rfl⟩⟩
      | succ n ih =>
        intro j q hj hq
        rcases h.par j q hq with ⟨rfl, rfl⟩ | ⟨k, t, p, h1, h2, h3, rfl, _⟩
        · exact ⟨by simp, fun x hx => ⟨0, [fr], Nat.le_refl _, h.hd, by rw [List.mem_singleton.1 hx]; rfl⟩⟩
        · obtain ⟨g1, g2⟩ := ih k p (by omega) h3
          have hnd := List.pairwise_iff_getElem.1 h.nd
          refine ⟨?_, fun x hx => ?_⟩
          · rw [List.nodup_append]
            refine ⟨g1, by simp, fun a ha b hb => ?_⟩
            rw [List.mem_singleton] at hb
            subst hb
            rintro rfl
            obtain ⟨k', p', h4, h5, h6⟩ := g2 a ha
            obtain ⟨e1, e2⟩ := List.getElem?_eq_some_iff.1 h5
            obtain ⟨e3, e4⟩ := List.getElem?_eq_some_iff.1 hq
            have := hnd k' j (by simpa using e1) (by simpa using e3) (by omega)
            simp only [List.getElem_map, e2, e4, lastN_snoc] at this
            exact this h6
          · rcases List.mem_append.1 hx with hx | hx
            · obtain ⟨k', p', h4, h5, h6⟩ := g2 x hx
              exact ⟨k', p', by omega, h5, h6⟩
            · rw [List.mem_singleton] at hx
              subst hx
              exact ⟨j, _, Nat.le_refl _, hq, lastN_snoc _ _⟩
    exact (key i i c (Nat.le_refl _) hc).1
  · rcases h.le hfr hc hw1 with h1 | ⟨k, q, h1, h2, h3, _⟩
    · exact h1
    · rw [← h3] at hw2
      exact absurd hw2 (hfr k q h2 h1)
theorem Bfs.none {L : Arcs} {fr : Int} {ps : List (List Int)} {i : Nat} (h : Bfs L fr ps i []) (hl : ps.length ≤ i + 1) : FindS L fr [] := by
  refine .inl ⟨rfl, fun w ⟨hw1, hw2⟩ => ?_⟩
  have key : ∀ w, Pth L fr w → ∃ (k : Nat) (q : List Int), k ≤ i ∧ ps[k]? = some q ∧ lastN q = lastN w := by
    intro w hw
    induction hw with
    | one => exact ⟨0, [fr], Nat.zero_le _, h.hd, rfl⟩
    | @more p t hp ha ih =>
      obtain ⟨k, q, h1, h2, h3⟩ := ih
      rw [← h3] at ha
      rcases h.don k q t h2 h1 ha with ⟨_, h5⟩ | ⟨h5, q', h6, h7, _⟩
      · cases h5
      · obtain ⟨j, hj⟩ := List.getElem?_of_mem h6
        have := (List.getElem?_eq_some_iff.1 hj).1
        exact ⟨j, q', by omega, hj, by rw [h7, lastN_snoc]⟩
  obtain ⟨k, q, h1, h2, h3⟩ := key w hw1
  rw [← h3] at hw2
  rcases h.don k q fr h2 h1 hw2 with ⟨_, h5⟩ | ⟨h5, _⟩
  · cases h5
  · exact h5 rfl
end Go.Ev.F12
end
section
namespace Go.Ev.F12
open Go.Proofs Go.Ev Go.Sort
set_option maxRecDepth 100000
set_option linter.all false
theorem own_ne {H : Heap} {w : AV} {sh c : Nat} {xs : List PV} {x : Blk} (ho : OwnS H w sh xs) (h : H[c]? = some x) (hx : ∀ l g s ys, x ≠ .arr l g s ys) : w.blk ≠ some c := by
  rcases ho with ⟨rfl, _⟩ | ⟨b, g, rfl, hb⟩
  · intro e; cases e
  · intro e
    simp [AV.blk] at e
    subst e
    rw [hb] at h
    exact hx _ _ _ _ (Option.some.inj h).symm
theorem ids_map (n b : Nat) : ids n (.map b) = [b] := by cases n <;> rfl
theorem frz1 (H : Heap) (b : Nat) (x : Blk) (h : H[b]? = some x) : freezeIds [b] H = H.set b x.frozen := by
  simp [freezeIds, h]
def rowOf (ps : List (List Int)) : List Int := ps.map lastN
def parOf (ps : List (List Int)) : List Int := ps.tail.map fun p => lastN p.dropLast
def uAV (V : List Int) : List AV := V.map fun x => AV.p (U x)
theorem allP_u (V : List Int) : allP (uAV V) = some (usL V) := by
  induction V with
  | nil => rfl
  | cons x V ih => show allP (.p (U x) :: uAV V) = _; rw [allP, ih]; rfl
theorem Bfs.len {L : Arcs} {fr : Int} {ps : List (List Int)} {i : Nat} {rest : List Int} (h : Bfs L fr ps i rest) : ps.length ≤ L.length + 1 := by
  obtain ⟨tl, htl⟩ := h.last0
  have h1 : tl.Nodup := by have := h.nd; rw [htl] at this; exact (List.nodup_cons.1 this).2
  have h2 : ∀ x ∈ tl, x ∈ L.map (·.2) := by
    intro x hx
    have h3 : x ∈ ps.map lastN := by rw [htl]; simp [hx]
    have hne : x ≠ fr := by
      rintro rfl
      have := h.nd; rw [htl] at this
      exact (List.nodup_cons.1 this).1 hx
    obtain ⟨q, hq, hl⟩ := List.mem_map.1 h3
    have hp := h.pth q hq
    cases hp with
    | one => exact absurd hl (fun e => hne e.symm)
    | @more p t _ ha =>
      rw [lastN_snoc] at hl
      subst hl
      exact List.mem_map.2 ⟨_, ha, rfl⟩
  have h4 := h1.length_le_of_subset h2
  have h5 := congrArg List.length htl
  simp at h4 h5
  omega
theorem Bfs.chn {L : Arcs} {fr : Int} {ps : List (List Int)} {i : Nat} {rest : List Int} (h : Bfs L fr ps i rest) : ∀ (n j : Nat) (p : List Int), j ≤ n → ps[j]? = some p → Chn (rowOf ps).tail (parOf ps) fr (lastN p) p := by
  obtain ⟨tl, htl⟩ := h.last0
  intro n
  induction n with
  | zero =>
    intro j p hj hp
    obtain rfl : j = 0 := by omega
    rw [h.hd] at hp; cases hp
    exact .one
  | succ n ih =>
    intro j p hj hp
    rcases h.par j p hp with ⟨rfl, rfl⟩ | ⟨k, t, q, h1, h2, h3, rfl, _⟩
    · exact .one
    · have hjl := (List.getElem?_eq_some_iff.1 hp).1
      have htlj : tl[j - 1]? = some t := by
        have : (ps.map lastN)[j]? = some t := by simp [hp, lastN_snoc]
        rw [htl] at this
        obtain ⟨j', rfl⟩ : ∃ j', j = j' + 1 := ⟨j - 1, by omega⟩
        simpa using this
      have hnd := h.nd
      rw [htl] at hnd
      have hne : t ≠ fr := by
        rintro rfl
        exact (List.nodup_cons.1 hnd).1 (List.mem_of_getElem? htlj)
      rw [lastN_snoc]
      refine Chn.more (i := j - 1) (y := lastN q) hne ?_ ?_ (ih k q (by omega) h3)
      · rw [rowOf, htl, List.tail_cons, List.findIdx?_eq_some_iff_getElem]
        obtain ⟨e1, e2⟩ := List.getElem?_eq_some_iff.1 htlj
        refine ⟨e1, by simp [e2], fun m hm => ?_⟩
        have := List.pairwise_iff_getElem.1 (List.nodup_cons.1 hnd).2 m (j - 1) (by omega) e1 hm
        rw [e2] at this
        simp
        exact fun e => this e.symm
      · unfold parOf
        obtain ⟨j', rfl⟩ : ∃ j', j = j' + 1 := ⟨j - 1, by omega⟩
        simp [hp]
/-- The search's heap. -/
structure FSt (fr : Int) (H : Heap) (ps : List (List Int)) (w : AV) (q i : Nat) : Prop where
  h0 : H[0]? = some (.var true (.p (U fr)))
  h1 : H[1]? = some (.var true .nsl)
  h2 : ∃ g, H[2]? = some (.map true g (kI .u64 (rowOf ps).tail) (uAV (parOf ps)))
  h3 : H[3]? = some (.var true (.map 2))
  h5 : H[5]? = some (.var true w)
  ow : OwnS H w 0 (usL (rowOf ps))
  hq : H[q]? = some (.var true (.p (I i)))
  q5 : 5 < q
theorem FSt.keep {fr : Int} {H H' : Heap} {ps : List (List Int)} {w : AV} {q i : Nat} (h : FSt fr H ps w q i) (k : ∀ (c : Nat) (x : Blk), H[c]? = some x → (∀ st p e a b d, x ≠ Blk.loop st p e a b d) → H'[c]? = some x) : FSt fr H' ps w q i :=
  ⟨k 0 _ h.h0 (by intros; simp), k 1 _ h.h1 (by intros; simp), (by obtain ⟨g, hg⟩ := h.h2; exact ⟨g, k 2 _ hg (by intros; simp)⟩), k 3 _ h.h3 (by intros; simp), k 5 _ h.h5 (by intros; simp),
    (by rcases h.ow with h | ⟨b, g, rfl, hb⟩
        · exact .inl h
        · exact .inr ⟨b, g, rfl, k b _ hb (by intros; simp)⟩), k q _ h.hq (by intros; simp), h.q5⟩
theorem FSt.setL {fr : Int} {H : Heap} {ps : List (List Int)} {w : AV} {q i n : Nat} {x : Blk} (h : FSt fr H ps w q i) {st p e a b d} (hn : H[n]? = some (.loop st p e a b d)) : FSt fr (H.set n x) ps w q i :=
  h.keep fun c y hy hne => by
    rw [List.getElem?_set_ne]
    · exact hy
    · rintro rfl
      rw [hn] at hy
      cases hy
      exact hne _ _ _ _ _ _ rfl
theorem row_add (ps : List (List Int)) (p : List Int) (h : ps ≠ []) : rowOf (ps ++ [p]) = rowOf ps ++ [lastN p] ∧ (rowOf (ps ++ [p])).tail = (rowOf ps).tail ++ [lastN p] ∧ parOf (ps ++ [p]) = parOf ps ++ [lastN p.dropLast] := by
  cases ps with
  | nil => exact absurd rfl h
  | cons a ps => simp [rowOf, parOf]
set_option maxHeartbeats 2000000 in
theorem p9 (L : Arcs) (hL : L.length ≤ 40) (fr : Int) : PS Cf okf 9 [25] [arcs L, U fr] (fun r => ∃ c, r = us c ∧ FindS L fr c) := by
  refine PS.mk extMono Try.func9 body9 (by decide) rfl ?_
  simp only [c9, Try.f9, Option.getD_some]
  simp -implicitDefEqProofs -dsimp (disch := first | omega | (simp only [wkLen]; omega) | decide +kernel) only [↓wkPre, ↓wkPre2, ↓wkE, wkPost, wkDef, wkF, simprocAttr]
  refine loop_use extMono (fun m e Hc => ∃ (ps : List (List Int)) (i : Nat) (w : AV) (q : Nat), m = L.length + 1 - i ∧ i ≤ ps.length ∧ e 0 = .p (arcs L) ∧ e 3 = .vptr 0 0 ∧ e 4 = .vptr 1 0 ∧ e 5 = .vptr 3 0 ∧ e 6 = .vptr 5 0 ∧ e 7 = .vptr q 0 ∧ FSt fr Hc ps w q i ∧ ps.length ≤ L.length + 1 ∧
    ((∃ p, ps[i]? = some p ∧ Bfs L fr ps i (nxt L (lastN p))) ∨ (i = ps.length ∧ 1 ≤ i ∧ Bfs L fr ps (i - 1) []))) ?_ (L.length + 1) _ _ ⟨[[fr]], 0, .ref 4 0 0 1 false, 6, rfl, by simp, ?_⟩
  · rintro m e Hc ⟨ps, i, w, q, rfl, hi, e0, e3, e4, e5, e6, e7, hst, hpl, hbf⟩
    obtain ⟨k0, k1, ⟨g, k2⟩, k3, k5, hown, kq, hq5⟩ := id hst
    obtain ⟨s1, s2, s3⟩ := own_shape hown
    have hlw : lenAV Hc (3, 0) w = some ps.length := by
      rcases hown with ⟨rfl, h0⟩ | ⟨b, g, rfl, hb⟩
      · have : ps = [] := by simpa [usL, rowOf] using h0
        subst this; rfl
      · simp [lenAV, usL, rowOf]
    unfold lenAV at hlw
    rcases hbf with ⟨p, hp, hbf⟩ | ⟨rfl, hi1, hbf⟩
    · have hil := (List.getElem?_eq_some_iff.1 hp).1
      have gi : (usL (rowOf ps))[i]? = some (.int .u64 (lastN p)) := by simp [usL, rowOf, hp]
      obtain ⟨bw, gw, rfl, hbw⟩ : ∃ bw gw, w = .ref bw gw 0 ps.length false ∧ Hc[bw]? = some (.arr true gw 0 (usL (rowOf ps))) := by
        rcases hown with ⟨rfl, h0⟩ | ⟨b, g, rfl, hb⟩
        · have : ps = [] := by simpa [usL, rowOf] using h0
          subst this; simp at hp
        · exact ⟨b, g, by simp [usL, rowOf], hb⟩
      simp -implicitDefEqProofs -dsimp (disch := first | omega | (simp only [wkLen]; omega) | decide +kernel) only [↓wkPre, ↓wkPre2, ↓wkE, wkPost, wkDef, wkF, simprocAttr, e0, e3, e4, e5, e6, e7, k5, kq, hbw, gi]
      refine PS.app md_22 Try.func22 (p22 L (lastN p)) rfl ?_
      rintro _ rfl
      simp -implicitDefEqProofs -dsimp (disch := first | omega | (simp only [wkLen]; omega) | decide +kernel) only [↓wkPre, ↓wkPre2, ↓wkE, wkPost, wkDef, wkF, simprocAttr]
      refine stop_st (fun e H' => H' = Hc ∧ e 0 = .p (arcs L) ∧ e 3 = .vptr 0 0 ∧ e 4 = .vptr 1 0 ∧ e 5 = .vptr 3 0 ∧ e 6 = .vptr 5 0 ∧ e 7 = .vptr q 0 ∧ e 25 = .p (.fn 30 [.fp (arcs L) 0 0, .fp (U (lastN p)) 0 0])) ?_ ?_
      · simp -implicitDefEqProofs -dsimp (disch := first | omega | (simp only [wkLen]; omega) | decide +kernel) only [↓wkPre, ↓wkPre2, ↓wkE, wkPost, wkDef, wkF, simprocAttr, e0, e3, e4, e5, e6, e7]
      clear e0 e3 e4 e5 e6 e7
      rintro e Hc ⟨rfl, e0, e3, e4, e5, e6, e7, e25⟩
      refine stop_range (g := 30) (caps := [.fp (arcs L) 0 0, .fp (U (lastN p)) 0 0]) (by rw [oper_tmp, e25]) md_30 ?_
      generalize hLB : Blk.loop LoopState.ready none e #[26] _ _ = LB
      have hq : q < Hc.length := (List.getElem?_eq_some_iff.1 kq).1
      refine w30 Hc.length L (lastN p) hL (Hc ++ [LB]) (fun K rest Hx => ∃ ps' w', Bfs L fr ps' i rest ∧ ps'[i]? = some p ∧ FSt fr Hx ps' w' q i ∧ Hx[Hc.length]? = some LB ∧ (∀ c, w'.blk = some c → c < Hc.length ∨ K.length ≤ c) ∧
          (∀ j, Hc.length + 1 ≤ j → j < K.length → Hx[j]? = K[j]?) ∧ Hc.length + 1 ≤ Hx.length ∧ K.length ≤ Hx.length)
        (fun Hx => ∃ c, FindS L fr c ∧ (∃ l, Hx[1]? = some (.var l (.p (us c)))) ∧ (∃ a c p, Hx[Hc.length]? = some (.loop .done (some .ret) e p a c))) _ ?_ ?_ ?_ ?_ ?_
      · intro K hK hKl
        simp only [List.length_append, List.length_cons, List.length_nil] at hK hKl
        have hk : ∀ c, c < Hc.length → K[c]? = Hc[c]? := fun c hc => by rw [hK c (by omega), hs_app hc]
        refine ⟨ps, _, hbf, hp, hst.keep fun c x hx _ => by rw [hk c (List.getElem?_eq_some_iff.1 hx).1]; exact hx, ?_, fun c hc => .inl (hown.lt c hc), fun j _ _ => rfl, by omega, Nat.le_refl _⟩
        rw [hK _ (by omega)]; exact hs_at
      · rintro K l Hx ⟨ps', w', _, _, _, _, _, h, _⟩ j hj1 hj2
        simp only [List.length_append, List.length_cons, List.length_nil] at hj1
        exact h j (by omega) hj2
      · rintro K k rest Hx ⟨ps', w', hbf', hp', hst', hlb, hwb, hfk, hxl, hxk⟩
        have hpl' := hbf'.len
        have hil' := (List.getElem?_eq_some_iff.1 hp').1
        refine yield_use extMono (by rw [hlb, ← hLB]) (by rfl) ?_
        show evC _ _ _ (parE [26] [_] _) _ _
        rw [parE_one]
        simp -implicitDefEqProofs -dsimp (disch := first | omega | (simp only [wkLen]; omega) | decide +kernel) only [↓wkPre, ↓wkPre2, ↓wkE, wkPost, wkDef, wkF, simprocAttr]
        refine yA_normal (by rw [hlb, ← hLB]) ?_
        generalize hLB2 : Blk.loop LoopState.busy none e #[26] _ _ = LB2
        have hst2 : FSt fr (Hx.set Hc.length LB2) ps' w' q i := hst'.setL (by rw [hlb, ← hLB])
        have hlb2 : (Hx.set Hc.length LB2)[Hc.length]? = some LB2 := hs_set (by omega)
        have hfk2 : ∀ j, Hc.length + 1 ≤ j → j < K.length → (Hx.set Hc.length LB2)[j]? = K[j]? := fun j h1 h2 => by rw [hs_ne (by omega)]; exact hfk j h1 h2
        have hxl2 : Hc.length + 1 ≤ (Hx.set Hc.length LB2).length := by simpa using hxl
        have hxk2 : K.length ≤ (Hx.set Hc.length LB2).length := by simpa using hxk
        clear hst' hlb hfk hxl hxk
        generalize Hx.set Hc.length LB2 = Hy at *
        obtain ⟨y0, y1, ⟨g', y2⟩, y3, y5, yown, yq, _⟩ := id hst2
        obtain ⟨bw', gw', rfl, ybw⟩ : ∃ bw gw, w' = .ref bw gw 0 ps'.length false ∧ Hy[bw]? = some (.arr true gw 0 (usL (rowOf ps'))) := by
          rcases yown with ⟨rfl, h0⟩ | ⟨b, g, rfl, hb⟩
          · have : ps' = [] := by simpa [usL, rowOf] using h0
            subst this; simp at hp'
          · exact ⟨b, g, by simp [usL, rowOf], hb⟩
        have hux : (usL (rowOf ps')).length = ps'.length := by simp [usL, rowOf]
        have gi' : (usL (rowOf ps'))[i]? = some (.int .u64 (lastN p)) := by simp [usL, rowOf, hp']
        by_cases hk : k = fr
        · have hkb : (k == fr) = true := by simp [hk]
          have ha : (lastN p, fr) ∈ L := by rw [← hk]; exact hbf'.rst p hp' k (by simp)
          have hfs := hbf'.found hp' ha
          have hch := hbf'.chn i i p (Nat.le_refl _) hp'
          have hpl2 : p.length ≤ 1000 := by
            rcases hfs with ⟨rfl, _⟩ | ⟨_, hnd, _⟩
            · simp
            · have h2 : ∀ x ∈ p, x ∈ fr :: L.map (·.2) := by
                have : ∀ p, Pth L fr p → ∀ x ∈ p, x ∈ fr :: L.map (·.2) := by
                  intro p hp
                  induction hp with
                  | one => intro x hx; simp at hx; simp [hx]
                  | @more p t _ ha ih =>
                    intro x hx
                    rcases List.mem_append.1 hx with h | h
                    · exact ih x h
                    · rw [List.mem_singleton] at h
                      subst h
                      exact List.mem_cons_of_mem _ (List.mem_map.2 ⟨_, ha, rfl⟩)
                exact this p (hbf'.pth p (List.mem_of_getElem? hp'))
              have := hnd.length_le_of_subset h2
              simp at this; omega
          simp -implicitDefEqProofs -dsimp (disch := first | omega | (simp only [wkLen]; omega) | decide +kernel) only [↓wkPre, ↓wkPre2, ↓wkE, wkPost, wkDef, wkF, simprocAttr, e0, e3, e4, e5, e6, e7, y0, y1, y3, y5, yq, ybw, hux, gi', hkb]
          refine PS.app md_23 Try.func23 (p23 (rowOf ps').tail (parOf ps') fr (lastN p) p hpl2 hch) (by show frzL (frzN Try.prog Hy 4) [.map 2, .p (U fr), .p (U (lastN p))] [41, 23, 23] = _; simp [frzL, frzN_p, frzN, y2, allP_u]) ?_
          rintro _ rfl
          have hf2 := frz1 Hy 2 _ y2
          have y2l := (List.getElem?_eq_some_iff.1 y2).1
          have y1' : (Hy.set 2 (Blk.frozen (.map true g' (kI .u64 (rowOf ps').tail) (uAV (parOf ps')))))[1]? = some (.var true .nsl) := by rw [hs_ne (by omega)]; exact y1
          simp -implicitDefEqProofs -dsimp (disch := first | omega | (simp only [wkLen]; omega) | decide +kernel) only [↓wkPre, ↓wkPre2, ↓wkE, wkPost, wkDef, wkF, simprocAttr, e0, e3, e4, e5, e6, e7, ids_map, hf2, y1']
          refine yB_ret (by rw [hs_ne (by omega), hs_ne (by omega), hlb2, ← hLB2]) ?_
          refine ⟨false, rfl, (fun h => by cases h), fun _ => ⟨p, hfs, ⟨true, ?_⟩, ⟨_, _, _, hs_set (by simp; omega)⟩⟩⟩
          rw [hs_ne (by omega), hs_set (by simp; omega)]
        · have hkb : (k == fr) = false := by simp [hk]
          by_cases hm : k ∈ (rowOf ps').tail
          · obtain ⟨j, hj⟩ : ∃ j, (rowOf ps').tail.findIdx? (fun y => k == y) = some j := by
              cases h : (rowOf ps').tail.findIdx? (fun y => k == y) with
              | some j => exact ⟨j, rfl⟩
              | none =>
                rw [List.findIdx?_eq_none_iff] at h
                have := h k hm
                simp at this
            have hjl := (List.findIdx?_eq_some_iff_getElem.1 hj).1
            have hvl : j < (parOf ps').length := by simp [parOf, rowOf] at hjl ⊢; exact hjl
            have hlk := look_hit (P := Try.prog) tmap_41 tzero_23 y2 hj (v := .p (U (parOf ps')[j])) (by simp [uAV, hvl]) true
            simp -implicitDefEqProofs -dsimp (disch := first | omega | (simp only [wkLen]; omega) | decide +kernel) only [↓wkPre, ↓wkPre2, ↓wkE, wkPost, wkDef, wkF, simprocAttr, e0, e3, e4, e5, e6, e7, y0, y3, hkb, hlk]
            refine yB_normal (by rw [hlb2, ← hLB2]) ?_
            rw [hLB]
            refine ⟨true, rfl, fun _ => ⟨ps', _, hbf'.skip hp' hk hm, hp', hst2.setL (by rw [hlb2, ← hLB2]), hs_set (by omega), hwb, fun j h1 h2 => by rw [hs_ne (by omega)]; exact hfk2 j h1 h2, by simpa using hxl2, by simpa using hxk2⟩, fun h => by cases h⟩
          · have hlk := look_miss (P := Try.prog) (e := 23) tmap_41 tzero_23 y2 hm true
            have hup := upd_new (P := Try.prog) tmap_41 y2 hm (.p (U (lastN p)))
            have hps : ps' ≠ [] := by rintro rfl; simp at hp'
            obtain ⟨r1, r2, r3⟩ := row_add ps' (p ++ [k]) hps
            rw [lastN_snoc] at r1 r2
            rw [List.dropLast_concat] at r3
            have hbn : bw' ≠ 2 := by rintro rfl; rw [ybw] at y2; cases y2
            have y5' : (Hy.set 2 (.map true (g' + 1) (kI .u64 ((rowOf ps').tail ++ [k])) (uAV (parOf ps') ++ [.p (U (lastN p))])))[5]? = some (.var true (.ref bw' gw' 0 ps'.length false)) := by rw [hs_ne (by omega)]; exact y5
            simp -implicitDefEqProofs -dsimp (disch := first | omega | (simp only [wkLen]; omega) | decide +kernel) only [↓wkPre, ↓wkPre2, ↓wkE, wkPost, wkDef, wkF, simprocAttr, e0, e3, e4, e5, e6, e7, y0, y3, y5, yq, ybw, hux, gi', hkb, hlk, hup, y5']
            have yown2 : OwnS (Hy.set 2 (.map true (g' + 1) (kI .u64 ((rowOf ps').tail ++ [k])) (uAV (parOf ps') ++ [.p (U (lastN p))]))) (.ref bw' gw' 0 ps'.length false) 0 (usL (rowOf ps')) := .inr ⟨bw', gw', by rw [hux], by rw [hs_ne (by omega)]; exact ybw⟩
            refine append_step telem_25 (elems_new (by simp) rfl) (by simp) (yown2.app _) ?_ ?_
            · rw [byt_23, hux]; simp; omega
            intro w2 H2 hown2 hfr2 hle2 hb2
            simp only [List.length_append, List.length_set, List.length_cons, List.length_nil] at hfr2 hle2 hb2
            obtain ⟨o1, o2, o3⟩ := own_shape hown2
            have hz : ∀ c, c < Hy.length → c ≠ bw' → c ≠ 2 → H2[c]? = Hy[c]? := fun c h1 h2 h3 => by
              rw [hfr2 c (by omega) (fun e => h2 (by simp [AV.blk] at e; exact e.symm)), hs_app (by simpa using h1), hs_ne (fun e => h3 e.symm)]
            have n0 : bw' ≠ 0 := by rintro rfl; rw [ybw] at y0; cases y0
            have n1 : bw' ≠ 1 := by rintro rfl; rw [ybw] at y1; cases y1
            have n3 : bw' ≠ 3 := by rintro rfl; rw [ybw] at y3; cases y3
            have n5 : bw' ≠ 5 := by rintro rfl; rw [ybw] at y5; cases y5
            have nq : bw' ≠ q := by rintro rfl; rw [ybw] at yq; cases yq
            have nL : bw' ≠ Hc.length := by rintro rfl; rw [ybw, ← hLB2] at hlb2; cases hlb2
            have z5 := (hz 5 (by omega) (fun e => n5 e.symm) (by omega)).trans y5
            have z2 : H2[2]? = some (.map true (g' + 1) (kI .u64 ((rowOf ps').tail ++ [k])) (uAV (parOf ps') ++ [.p (U (lastN p))])) := by
              rw [hfr2 2 (by omega) (fun e => hbn (by simp [AV.blk] at e; exact e)), hs_app (by simp; omega), hs_set (by omega)]
            have w2ne : ∀ c x, H2[c]? = some x → (∀ l g s ys, x ≠ Blk.arr l g s ys) → w2.blk ≠ some c := fun c x hx hne => own_ne hown2 hx hne
            simp -implicitDefEqProofs -dsimp (disch := first | omega | (simp only [wkLen]; omega) | decide +kernel) only [↓wkPre, ↓wkPre2, ↓wkE, wkPost, wkDef, wkF, simprocAttr, e0, e3, e4, e5, e6, e7, z5, o1, o2, o3]
            refine yB_normal (by rw [hs_ne (by omega), hz _ (by omega) (fun e => nL e.symm) (by omega), hlb2, ← hLB2]) ?_
            rw [hLB]
            have hst3 : FSt fr ((H2.set 5 (.var true w2)).set Hc.length LB) (ps' ++ [p ++ [k]]) w2 q i := by
              refine ⟨?_, ?_, ⟨g' + 1, ?_⟩, ?_, ?_, ?_, ?_, hq5⟩
              · rw [hs_ne (by omega), hs_ne (by omega), hz 0 (by omega) (fun e => n0 e.symm) (by omega)]; exact y0
              · rw [hs_ne (by omega), hs_ne (by omega), hz 1 (by omega) (fun e => n1 e.symm) (by omega)]; exact y1
              · rw [hs_ne (by omega), hs_ne (by omega), z2, r2, r3]; simp [uAV]
              · rw [hs_ne (by omega), hs_ne (by omega), hz 3 (by omega) (fun e => n3 e.symm) (by omega)]; exact y3
              · rw [hs_ne (by omega), hs_set (by omega)]
              · rw [r1, usL_snoc]
                refine (hown2.set (w2ne 5 _ z5 (by intros; simp))).set ?_
                have hz1 := (hz Hc.length (by omega) (fun e => nL e.symm) (by omega)).trans hlb2
                rw [← hLB2] at hz1
                exact w2ne _ _ hz1 (by intros; simp)
              · rw [hs_ne (by omega), hs_ne (by omega), hz q (by omega) (fun e => nq e.symm) (by omega)]; exact yq
            refine ⟨true, rfl, fun _ => ⟨ps' ++ [p ++ [k]], w2, hbf'.add hp' hk hm, ?_, hst3, hs_set (by simp; omega), fun c hc => ?_, fun j h1 h2 => ?_, by simp; omega, by simp; omega⟩, fun h => by cases h⟩
            · rw [List.getElem?_append_left hil']; exact hp'
            · by_cases hcl : c < Hy.length + (0 + 1)
              · exact hwb c (hb2 c hc hcl)
              · right; omega
            · have hjw : j ≠ bw' := by
                rintro rfl
                rcases hwb j rfl with h | h <;> omega
              rw [hs_ne (by omega), hs_ne (by omega), hz j (by omega) hjw (by omega)]
              exact hfk2 j h1 h2
      · rintro K Hx ⟨ps', w', hbf', hp', hst', hlb, hwb, hfk, hxl, hxk⟩
        have hpl' := hbf'.len
        have hil' := (List.getElem?_eq_some_iff.1 hp').1
        have hst2 : ∀ x, FSt fr (Hx.set Hc.length x) ps' w' q i := fun x => hst'.setL (by rw [hlb, ← hLB])
        refine rfin_normal (by show Hx[Hc.length]? = _; rw [hlb, ← hLB]) ?_
        obtain ⟨_, _, _, _, _, _, yq, _⟩ := id hst'
        have hyq := (List.getElem?_eq_some_iff.1 yq).1
        have hnq : Hc.length ≠ q := by omega
        simp -implicitDefEqProofs -dsimp (disch := first | omega | (simp only [wkLen]; omega) | decide +kernel) only [↓wkPre, ↓wkPre2, ↓wkE, wkPost, wkDef, wkF, simprocAttr, e0, e3, e4, e5, e6, e7, yq]
        refine ⟨L.length + 1 - (i + 1), by omega, ps', i + 1, w', Hx.length, rfl, by omega, by simp, ?_, hpl', ?_⟩
        · refine ⟨?_, ?_, ?_, ?_, ?_, (hst2 _).ow.app _, ?_, by omega⟩
          · rw [hs_app (by simp; omega)]; exact (hst2 _).h0
          · rw [hs_app (by simp; omega)]; exact (hst2 _).h1
          · rw [hs_app (by simp; omega)]; exact (hst2 _).h2
          · rw [hs_app (by simp; omega)]; exact (hst2 _).h3
          · rw [hs_app (by simp; omega)]; exact (hst2 _).h5
          · rw [List.getElem?_append_right (by simp)]; simp
        · rcases Nat.lt_or_ge (i + 1) ps'.length with h | h
          · have hp2 : ps'[i + 1]? = some ps'[i + 1] := by simp [h]
            exact .inl ⟨_, hp2, hbf'.next hp2⟩
          · exact .inr ⟨by omega, by omega, by rw [Nat.add_sub_cancel]; exact hbf'⟩
      · rintro Hx ⟨c, hfs, ⟨l, h1⟩, ⟨a, c', p', h2⟩⟩
        refine rfin_ex h2 ?_
        simp -implicitDefEqProofs -dsimp (disch := first | omega | (simp only [wkLen]; omega) | decide +kernel) only [↓wkPre, ↓wkPre2, ↓wkE, wkPost, wkDef, wkF, simprocAttr, e4, h1]
        exact ⟨c, rfl, hfs⟩
    · have hno := hbf.none (by omega)
      have h1l := (List.getElem?_eq_some_iff.1 k1).1
      simp -implicitDefEqProofs -dsimp (disch := first | omega | (simp only [wkLen]; omega) | decide +kernel) only [↓wkPre, ↓wkPre2, ↓wkE, wkPost, wkDef, wkF, simprocAttr, e0, e3, e4, e5, e6, e7, k5, kq, s1, s2, s3, hlw, k1]
      exact ⟨[], rfl, hno⟩
  · simp -implicitDefEqProofs -dsimp (disch := first | omega | (simp only [wkLen]; omega) | decide +kernel) only [↓wkPre, ↓wkPre2, ↓wkE, wkPost, wkDef, wkF, simprocAttr]
    exact ⟨⟨rfl, rfl, ⟨0, rfl⟩, rfl, rfl, .inr ⟨4, 0, rfl, rfl⟩, rfl, by omega⟩, .inl ⟨[fr], rfl, Bfs.init L fr⟩⟩
end Go.Ev.F12
end
section
namespace Go.Ev.F12
open Go.Proofs Go.Ev Go.Sort
set_option maxRecDepth 100000
set_option linter.all false
def addL (out : List Int) (x : Int) : List Int := if x ∈ out then out else insL x out
theorem addL_ok : ∀ (N out : List Int), Rise out → Rise (N.foldl addL out) ∧ (∀ t, t ∈ N.foldl addL out ↔ t ∈ out ∨ t ∈ N) ∧ (N.foldl addL out).length ≤ out.length + N.length
  | [], out, h => ⟨h, by simp, by simp⟩
  | a :: N, out, h => by
    have hr : Rise (addL out a) ∧ (∀ t, t ∈ addL out a ↔ t ∈ out ∨ t = a) ∧ (addL out a).length ≤ out.length + 1 := by
      unfold addL
      split
      · rename_i hm
        refine ⟨h, fun t => ?_, by omega⟩
        constructor
        · exact .inl
        · rintro (h | rfl)
          · exact h
          · exact hm
      · rename_i hm
        refine ⟨h.ins, fun t => ?_, insL_len⟩
        rw [mem_insL hm]
        exact or_comm
    obtain ⟨h1, h2, h3⟩ := addL_ok N _ hr.1
    refine ⟨h1, fun t => ?_, by simp only [List.foldl_cons, List.length_cons]; omega⟩
    rw [List.foldl_cons, h2, hr.2.1, List.mem_cons, or_assoc]
/-- How a set of those who are reached grows. -/
def rnd2 (L : Arcs) (n : Int) : Nat → List Int
  | 0 => stepL L [n]
  | k + 1 => (stepL L (rnd2 L n k)).foldl addL (rnd2 L n k)
theorem rnd2_ok (L : Arcs) (n : Int) : ∀ k, Rise (rnd2 L n k) ∧ (∀ x ∈ rnd2 L n k, Rch L n x) ∧ (∀ t ∈ nxt L n, t ∈ rnd2 L n k) ∧ ((∀ x ∈ rnd2 L n k, ∀ t ∈ nxt L x, t ∈ rnd2 L n k) ∨ k + 1 ≤ (rnd2 L n k).length)
  | 0 => by
    refine ⟨stepL_rise _ _, fun x hx => Rch.arc (mem_nxt.1 hx), fun t h => h, ?_⟩
    simp only [rnd2]
    cases h : stepL L [n] with
    | nil => left; intro x hx; cases hx
    | cons a l => right; simp
  | k + 1 => by
    obtain ⟨h1, h2, h3, h4⟩ := rnd2_ok L n k
    obtain ⟨g1, g2, _⟩ := addL_ok (stepL L (rnd2 L n k)) _ h1
    refine ⟨g1, fun x hx => ?_, fun t ht => (g2 t).2 (.inl (h3 t ht)), ?_⟩
    · rcases (g2 x).1 hx with h | h
      · exact h2 x h
      · obtain ⟨f, hf, ha⟩ := mem_stepL.1 h
        exact (h2 f hf).trans (Rch.arc ha)
    · by_cases hcl : ∀ x ∈ rnd2 L n k, ∀ t ∈ nxt L x, t ∈ rnd2 L n k
      · left
        have hsame : ∀ x, x ∈ rnd2 L n (k + 1) ↔ x ∈ rnd2 L n k := fun x => by
          rw [rnd2, g2]
          constructor
          · rintro (h | h)
            · exact h
            · obtain ⟨f, hf, ha⟩ := mem_stepL.1 h
              exact hcl f hf x (mem_nxt.2 ha)
          · exact .inl
        intro x hx t ht
        exact (hsame t).2 (hcl x ((hsame x).1 hx) t ht)
      · right
        have h5 := h4.resolve_left hcl
        simp only [Classical.not_forall] at hcl
        obtain ⟨x, hx, t, ht, hno⟩ := hcl
        have hnd : (rnd2 L n k).Nodup := h1.imp (fun h => by omega)
        have h6 : (t :: rnd2 L n k).Nodup := List.nodup_cons.2 ⟨hno, hnd⟩
        have h7 : ∀ y ∈ t :: rnd2 L n k, y ∈ rnd2 L n (k + 1) := fun y hy => by
          rw [rnd2, g2]
          rcases List.mem_cons.1 hy with rfl | hy
          · exact .inr (mem_stepL.2 ⟨x, hx, mem_nxt.1 ht⟩)
          · exact .inl hy
        have := h6.length_le_of_subset h7
        simp at this
        omega
theorem Rch.tgt {L : Arcs} {n x : Int} (h : Rch L n x) : x ∈ L.map (·.2) := by
  obtain ⟨k, hk, hw⟩ := h
  obtain ⟨j, rfl⟩ : ∃ j, k = j + 1 := ⟨k - 1, by omega⟩
  obtain ⟨m, _, hm⟩ := hw
  exact List.mem_map.2 ⟨(m, x), hm, rfl⟩
theorem rnd2_len (L : Arcs) (n : Int) (k : Nat) : (rnd2 L n k).length ≤ L.length := by
  obtain ⟨h1, h2, _⟩ := rnd2_ok L n k
  have hnd : (rnd2 L n k).Nodup := h1.imp (fun h => by omega)
  have := hnd.length_le_of_subset (fun x hx => (h2 x hx).tgt)
  simpa using this
theorem rnd2_end (L : Arcs) (n : Int) : RchS L n (rnd2 L n L.length) := by
  obtain ⟨h1, h2, h3, h4⟩ := rnd2_ok L n L.length
  have h5 := rnd2_len L n L.length
  refine ⟨h1, closed_reach h3 fun x hx => ⟨?_, h2 x hx⟩⟩
  exact (h4.resolve_right (by omega)) x hx
set_option maxHeartbeats 1000000 in
theorem p16 (L : Arcs) (hL : L.length ≤ 1000) (n : Int) : PS Cf okf 16 [25] [arcs L, U n] (fun r => r = us (rnd2 L n L.length)) := by
  refine PS.mk extMono Try.func16 body16 (by decide) rfl ?_
  simp only [c16, Try.f16, Option.getD_some]
  have hul := arcL_len L
  simp -implicitDefEqProofs -dsimp (disch := first | omega | (simp only [wkLen]; omega) | decide +kernel) only [↓wkPre, ↓wkPre2, ↓wkE, wkPost, wkDef, wkF, simprocAttr]
  refine PS.appR md_24 Try.func24 (p24 L [n] hL (by simp)) (by show frzL (frzN Try.prog _ 4) [.p (arcs L), .ref 0 0 0 1 false] [22, 25] = _; simp [frzL, frzN, usL]) ?_ ?_
  · intro b hb
    simp only [List.flatMap_cons, ids_p, List.nil_append, List.flatMap_nil, List.append_nil, ids_ref, List.mem_singleton] at hb
    subst hb
    exact ⟨_, _, _, _, rfl⟩
  · rintro _ H rfl _ _ _
    simp -implicitDefEqProofs -dsimp (disch := first | omega | (simp only [wkLen]; omega) | decide +kernel) only [↓wkPre, ↓wkPre2, ↓wkE, wkPost, wkDef, wkF, simprocAttr]
    refine loop_use extMono (fun m e Hc => ∃ k : Nat, m = L.length - k ∧ k ≤ L.length ∧ e 0 = .p (arcs L) ∧ e 5 = .p (us (rnd2 L n k)) ∧ e 6 = .p (I k) ∧ Hc = H) ?_ L.length _ _ ⟨0, rfl, by omega, ?_⟩
    · rintro m e Hc ⟨k, rfl, hk, e0, e5, e6, rfl⟩
      have hrl := rnd2_len L n k
      rcases Nat.lt_or_ge k L.length with h | h
      · simp -implicitDefEqProofs -dsimp (disch := first | omega | (simp only [wkLen]; omega) | decide +kernel) only [↓wkPre, ↓wkPre2, ↓wkE, wkPost, wkDef, wkF, simprocAttr, e0, e5, e6, hul]
        refine PS.app md_24 Try.func24 (p24 L (rnd2 L n k) hL (by omega)) rfl ?_
        rintro _ rfl
        obtain ⟨h1, _, _, _⟩ := rnd2_ok L n k
        have hsl := stepL_len L (rnd2 L n k)
        have hsu := usL_len (stepL L (rnd2 L n k))
        simp -implicitDefEqProofs -dsimp (disch := first | omega | (simp only [wkLen]; omega) | decide +kernel) only [↓wkPre, ↓wkPre2, ↓wkE, wkPost, wkDef, wkF, simprocAttr, e0, e5, e6]
        have hr1 : rnd2 L n (k + 1) = (stepL L (rnd2 L n k)).foldl addL (rnd2 L n k) := rfl
        generalize hN : stepL L (rnd2 L n k) = N at *
        generalize hO : rnd2 L n k = O at *
        refine loop_use extMono (fun m e Hd => ∃ i : Nat, m = N.length - i ∧ i ≤ N.length ∧ e 0 = .p (arcs L) ∧ e 5 = .p (us ((N.take i).foldl addL O)) ∧ e 6 = .p (I k) ∧ e 7 = .p (us N) ∧ e 8 = .p (I i) ∧ Hd = Hc) ?_ N.length _ _ ⟨0, rfl, by omega, ?_⟩
        · rintro m e Hd ⟨i, rfl, hi, e0, e5, e6, e7, e8, rfl⟩
          obtain ⟨g1, g2, g3⟩ := addL_ok (N.take i) O h1
          have hti : (N.take i).length ≤ N.length := by rw [List.length_take]; omega
          rcases Nat.lt_or_ge i N.length with h | h
          · have gi := usL_get h
            have hs : (N.take (i + 1)).foldl addL O = addL ((N.take i).foldl addL O) N[i] := by rw [List.take_succ_eq_append_getElem h, List.foldl_append]; rfl
            simp -implicitDefEqProofs -dsimp (disch := first | omega | (simp only [wkLen]; omega) | decide +kernel) only [↓wkPre, ↓wkPre2, ↓wkE, wkPost, wkDef, wkF, simprocAttr, e0, e5, e6, e7, e8, hsu, gi]
            refine PS.app md_25 Try.func25 (p25 _ N[i] (by omega)) rfl ?_
            rintro _ rfl
            unfold addL at hs
            by_cases hm : N[i] ∈ (N.take i).foldl addL O
            · rw [if_pos (by exact hm)] at hs
              simp -implicitDefEqProofs -dsimp (disch := first | omega | (simp only [wkLen]; omega) | decide +kernel) only [↓wkPre, ↓wkPre2, ↓wkE, wkPost, wkDef, wkF, simprocAttr, e0, e5, e6, e7, e8, hsu, gi, decide_eq_true hm]
              refine ⟨N.length - (i + 1), by omega, i + 1, rfl, by omega, ?_, by push_cast; rfl⟩
              rw [show (List.foldl addL O (List.take (i + 1) N)) = _ from hs]; rfl
            · rw [if_neg (by exact hm)] at hs
              simp -implicitDefEqProofs -dsimp (disch := first | omega | (simp only [wkLen]; omega) | decide +kernel) only [↓wkPre, ↓wkPre2, ↓wkE, wkPost, wkDef, wkF, simprocAttr, e0, e5, e6, e7, e8, hsu, gi, decide_eq_false hm]
              refine PS.app md_29 Try.func29 (p29 _ N[i] g1 hm (by omega)) rfl ?_
              rintro _ rfl
              simp -implicitDefEqProofs -dsimp (disch := first | omega | (simp only [wkLen]; omega) | decide +kernel) only [↓wkPre, ↓wkPre2, ↓wkE, wkPost, wkDef, wkF, simprocAttr, e0, e5, e6, e7, e8]
              refine ⟨N.length - (i + 1), by omega, i + 1, rfl, by omega, ?_, by push_cast; rfl⟩
              rw [show (List.foldl addL O (List.take (i + 1) N)) = _ from hs]; rfl
          · obtain rfl : i = N.length := by omega
            rw [List.take_length] at e5
            simp -implicitDefEqProofs -dsimp (disch := first | omega | (simp only [wkLen]; omega) | decide +kernel) only [↓wkPre, ↓wkPre2, ↓wkE, wkPost, wkDef, wkF, simprocAttr, e0, e5, e6, e7, e8, hsu]
            exact ⟨L.length - (k + 1), by omega, k + 1, rfl, by omega, by rw [hr1], by push_cast; rfl⟩
        · simp -implicitDefEqProofs -dsimp (disch := first | omega | (simp only [wkLen]; omega) | decide +kernel) only [↓wkPre, ↓wkPre2, ↓wkE, wkPost, wkDef, wkF, simprocAttr, e0, e5, e6]
          simp
      · obtain rfl : k = L.length := by omega
        simp -implicitDefEqProofs -dsimp (disch := first | omega | (simp only [wkLen]; omega) | decide +kernel) only [↓wkPre, ↓wkPre2, ↓wkE, wkPost, wkDef, wkF, simprocAttr, e0, e5, e6, hul]
    · simp -implicitDefEqProofs -dsimp (disch := first | omega | (simp only [wkLen]; omega) | decide +kernel) only [↓wkPre, ↓wkPre2, ↓wkE, wkPost, wkDef, wkF, simprocAttr]
      rfl
end Go.Ev.F12
end
