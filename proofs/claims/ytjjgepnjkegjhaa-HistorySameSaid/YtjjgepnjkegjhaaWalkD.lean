/- A part of the proof: walks of the functions that the law calls. No condition. -/
import Derived.Test.YtjjgepnjkegjhaaWalkC
set_option linter.all false
section
namespace Go.Ev.F23
open Go.Proofs Go.Ev Go.Sort
set_option maxRecDepth 100000
set_option linter.all false
def RiseR (l : List Arc) : Prop := l.Pairwise (fun a b => ltR a b = true)
theorem RiseR.ext {a b : List Arc} (ha : RiseR a) (hb : RiseR b) (h : ∀ x, x ∈ a ↔ x ∈ b) : a = b := by
  have hp : a.Perm b := by
    have nd : ∀ {l : List Arc}, RiseR l → l.Nodup := fun hl => hl.imp (fun {x y} h e => by subst e; simp [ltR] at h)
    rw [List.perm_ext_iff_of_nodup (nd ha) (nd hb)]
    exact h
  exact hp.eq_of_pairwise (fun x y _ _ h1 h2 => by simp only [ltR, decide_eq_true_eq] at h1 h2; exact Prod.ext (by omega) (by omega)) ha hb
def L4 : List Acc := [(1, 5, true), (2, 5, false), (2, 6, true), (3, 6, true)]
def L5 : List Acc := [(1, 5, true), (2, 5, false), (2, 6, true), (3, 6, true), (1, 6, false)]
def L3 : List Acc := [(1, 1, true), (2, 1, false), (1, 2, false)]
theorem ppl4 : ppl L4 = [1, 2, 3] := (ppl_ok L4).1.ext (by unfold Rise; decide) fun x => by rw [(ppl_ok L4).2]; simp [L4]
theorem ppl5 : ppl L5 = [1, 2, 3] := (ppl_ok L5).1.ext (by unfold Rise; decide) fun x => by rw [(ppl_ok L5).2]; simp [L5]; omega
theorem ord4 : ordS L4 (ppl L4).length (ppl L4) [] = ([1, 2, 3], true) := by rw [ppl4]; decide +kernel
theorem ord5 : ordS L5 (ppl L5).length (ppl L5) [] = ([], false) := by rw [ppl5]; decide +kernel
theorem arcs4 {A : List Arc} (h : RiseR A) (hA : ∀ a, a ∈ A ↔ ahB a.1 a.2 L4 = true) : A = [(1, 2), (2, 3)] := by
  refine h.ext (by unfold RiseR; decide) fun a => ?_
  obtain ⟨x, y⟩ := a
  rw [hA]
  simp only [L4, ahB, hit, List.any_cons, List.any_nil, Bool.or_false, Bool.or_eq_true, Bool.and_eq_true, beq_iff_eq, bne_iff_ne, List.mem_cons, List.not_mem_nil, or_false, Prod.mk.injEq]
  simp
  omega
theorem lst4 {ys : List Acc} (hp : ys.Perm (lstR L4 L4.length [])) (hs : ∀ i j, i < j → j < ys.length → ltA ys[j]! ys[i]! = false) : ys = [(1, 5, true), (3, 6, true)] := by
  have e : lstR L4 L4.length [] = [(3, 6, true), (1, 5, true)] := by decide +kernel
  rw [e] at hp
  match ys, hp.length_eq with
  | [a, b], _ =>
    have h1 := hs 0 1 (by decide) (by simp)
    have ha : a ∈ [((3, 6, true) : Acc), (1, 5, true)] := hp.mem_iff.1 (by simp)
    have hb : b ∈ [((3, 6, true) : Acc), (1, 5, true)] := hp.mem_iff.1 (by simp)
    simp at ha hb
    rcases ha with rfl | rfl <;> rcases hb with rfl | rfl
    · have := hp.count_eq (3, 6, true); simp at this
    · simp [ltA] at h1
    · rfl
    · have := hp.count_eq (3, 6, true); simp at this
theorem frm4 : frmL L4 L4.length = [EF (0, 0), EF (1, 1), EF (0, 0), EF (2, 1)] := by
  have : (List.range L4.length).map (frm L4) = [(0, 0), (1, 1), (0, 0), (2, 1)] := by decide +kernel
  unfold frmL
  rw [show (fun i => EF (frm L4 i)) = EF ∘ frm L4 from rfl, ← List.map_map, this]
  rfl
theorem PS.appC {C : Cfg} {ok : FuncId → Bool} {f : FuncId} {fn : Func} {args : List AV} {pa : List PV} {R : PV → Prop} {H : Heap} {k : AV → Heap → Prop} {t : Tag k} (H2 : Heap) (hm : C.md f = .pure)
    (hf : C.P.funcs[f]? = some fn) (h : PS C ok f fn.resultTypes.toList pa R) (hpa : frzL (frzN C.P H 4) args fn.params.toList = some pa)
    (hH : ∀ r, R r → (if r.flat then H else freezeIds (args.flatMap (ids 4)) H) = H2) (hk : ∀ r, R r → k (.p r) H2) : evCallT C (W C ok) f args H k t :=
  PS.app hm hf h hpa fun r hr => by rw [hH r hr]; exact hk r hr
theorem PS.eqv {C : Cfg} {ok : FuncId → Bool} {f : FuncId} {rts : List TypeId} {args : List PV} {a b : PV} (h : PS C ok f rts args (fun r => r = a)) (e : a = b) : PS C ok f rts args (fun r => r = b) := e ▸ h
theorem p7 : PS Cf okf 7 [4] [] (fun r => r = B true) := by
  refine PS.mk extMono Try.func7 body7 (by decide) rfl ?_
  simp only [c7, Try.f7, Option.getD_some, List.append_eq, List.cons_append, List.nil_append]
  have q11 := PS.eqv (p11 L4 (by decide)) (b := .tup [ins [1, 2, 3], B true]) (by rw [ord4])
  have q11b := PS.eqv (p11 L5 (by decide)) (b := .tup [ins [], B false]) (by rw [ord5])
  have q17 := PS.eqv (p17 L4 (by decide)) (b := .sl 2 [EF (0, 0), EF (1, 1), EF (0, 0), EF (2, 1)]) (by rw [frm4])
  have q16 := PS.eqv (p16 L4 [3, 1] (by decide) (by decide)) (b := acs [(3, 6, true), (1, 5, true)]) (by rw [show serial L4 [3, 1] = [(3, 6, true), (1, 5, true)] by decide +kernel])
  have q21 := PS.eqv (p21 L4 (by decide)) (b := B true) (by rw [show stB L4 = true by decide +kernel])
  have q21b := PS.eqv (p21 L3 (by decide)) (b := B false) (by rw [show stB L3 = false by decide +kernel])
  have q22 := PS.eqv (p22 (1, 5, true) (2, 5, false)) (b := B true) (by rw [show conf (1, 5, true) (2, 5, false) = true by decide +kernel])
  simp -implicitDefEqProofs -dsimp (disch := first | omega | (simp only [wkLen]; omega) | decide +kernel) only [↓wkPre, ↓wkPre2, ↓evC_region_st [9], ↓evC_text_st [9], ↓evC_cond, ↓evC_block, ↓evC_stop [9], wkPost, wkDef, wkF, simprocAttr]
  refine PS.appC [.arr false 0 3 (aL L4)] md_11 Try.func11 q11 rfl (fun r hr => by subst hr; rfl) ?_
  rintro _ rfl
  simp -implicitDefEqProofs -dsimp (disch := first | omega | (simp only [wkLen]; omega) | decide +kernel) only [↓wkPre, ↓wkPre2, ↓evC_region_st [9], ↓evC_text_st [9], ↓evC_cond, ↓evC_block, ↓evC_stop [9], wkPost, wkDef, wkF, simprocAttr]
  have ha : evAppend Try.prog 24 (.ref 0 0 0 4 true) (.ref 1 0 0 1 false) [Blk.arr false 0 3 (aL L4), Blk.arr true 0 3 [PV.agg [PV.int IntKind.i64 1, PV.int IntKind.u64 6, PV.bool false]]] =
      some (.ref 2 0 0 5 false, [Blk.arr false 0 3 (aL L4), Blk.arr true 0 3 [PV.agg [PV.int IntKind.i64 1, PV.int IntKind.u64 6, PV.bool false]], .arr true 0 3 (aL L5)]) := by kernel_rfl
  rw [ha, oK2_some]
  simp -implicitDefEqProofs -dsimp (disch := first | omega | (simp only [wkLen]; omega) | decide +kernel) only [↓wkPre, ↓wkPre2, ↓evC_region_st [9], ↓evC_text_st [9], ↓evC_cond, ↓evC_block, ↓evC_stop [9], wkPost, wkDef, wkF, simprocAttr]
  refine PS.appC [Blk.arr false 0 3 (aL L4), Blk.arr true 0 3 [PV.agg [PV.int IntKind.i64 1, PV.int IntKind.u64 6, PV.bool false]], .arr false 0 3 (aL L5)] md_11 Try.func11 q11b rfl (fun r hr => by subst hr; rfl) ?_
  rintro _ rfl
  simp -implicitDefEqProofs -dsimp (disch := first | omega | (simp only [wkLen]; omega) | decide +kernel) only [↓wkPre, ↓wkPre2, ↓evC_region_st [9], ↓evC_text_st [9], ↓evC_cond, ↓evC_block, ↓evC_stop [9], wkPost, wkDef, wkF, simprocAttr]
  refine PS.appC [Blk.arr false 0 3 (aL L4), Blk.arr true 0 3 [PV.agg [PV.int IntKind.i64 1, PV.int IntKind.u64 6, PV.bool false]], .arr false 0 3 (aL L5)] md_14 Try.func14 (p14 L4 (by decide)) rfl (fun r hr => by obtain ⟨A, rfl, _⟩ := hr; rfl) ?_
  rintro _ ⟨A, rfl, hA1, _, hA2⟩
  obtain rfl := arcs4 hA1 hA2
  simp -implicitDefEqProofs -dsimp (disch := first | omega | (simp only [wkLen]; omega) | decide +kernel) only [↓wkPre, ↓wkPre2, ↓evC_region_st [9], ↓evC_text_st [9], ↓evC_cond, ↓evC_block, ↓evC_stop [9], wkPost, wkDef, wkF, simprocAttr]
  refine PS.appC [Blk.arr false 0 3 (aL L4), Blk.arr true 0 3 [PV.agg [PV.int IntKind.i64 1, PV.int IntKind.u64 6, PV.bool false]], .arr false 0 3 (aL L5)] md_17 Try.func17 q17 rfl (fun r hr => by subst hr; rfl) ?_
  rintro _ rfl
  simp -implicitDefEqProofs -dsimp (disch := first | omega | (simp only [wkLen]; omega) | decide +kernel) only [↓wkPre, ↓wkPre2, ↓evC_region_st [9], ↓evC_text_st [9], ↓evC_cond, ↓evC_block, ↓evC_stop [9], wkPost, wkDef, wkF, simprocAttr]
  refine PS.appC [Blk.arr false 0 3 (aL L4), Blk.arr true 0 3 [PV.agg [PV.int IntKind.i64 1, PV.int IntKind.u64 6, PV.bool false]], .arr false 0 3 (aL L5)] md_18 Try.func18 (p18 L4 (by decide)) rfl (fun r hr => by obtain ⟨ys, rfl, _⟩ := hr; rfl) ?_
  rintro _ ⟨ys, rfl, hp, hs⟩
  obtain rfl := lst4 hp hs
  simp -implicitDefEqProofs -dsimp (disch := first | omega | (simp only [wkLen]; omega) | decide +kernel) only [↓wkPre, ↓wkPre2, ↓evC_region_st [9], ↓evC_text_st [9], ↓evC_cond, ↓evC_block, ↓evC_stop [9], wkPost, wkDef, wkF, simprocAttr]
  refine PS.appC [Blk.arr false 0 3 (aL L4), Blk.arr true 0 3 [PV.agg [PV.int IntKind.i64 1, PV.int IntKind.u64 6, PV.bool false]], .arr false 0 3 (aL L5), .arr false 0 0 (iL [3, 1])] md_16 Try.func16 q16 rfl (fun r hr => by subst hr; rfl) ?_
  rintro _ rfl
  simp -implicitDefEqProofs -dsimp (disch := first | omega | (simp only [wkLen]; omega) | decide +kernel) only [↓wkPre, ↓wkPre2, ↓evC_region_st [9], ↓evC_text_st [9], ↓evC_cond, ↓evC_block, ↓evC_stop [9], wkPost, wkDef, wkF, simprocAttr]
  refine imp_call md_9 (w9r L4 _ (b := 0) (g := 0) (lv := false) rfl (by decide) _ fun v H1 hlf hge => ?_)
  have hb0 := hge.at (i := 0) rfl
  rw [ppl4] at hlf
  rcases hlf with ⟨_, h9⟩ | ⟨b, g, ex, lv, zs, rfl, hbv⟩
  · cases h9
  have e1 : (iL [1, 2, 3]).length = 3 := rfl
  have e2 : (iL [1, 2, 3])[0]? = some (.int .i64 1) := rfl
  have e3 : (iL [1, 2, 3])[2]? = some (.int .i64 3) := rfl
  have e4 : (rL [(1, 2), (2, 3)]).length = 2 := rfl
  have e5 : (rL [(1, 2), (2, 3)])[0]? = some (.agg [.int .i64 1, .int .i64 2]) := rfl
  have e6 : (aL [(1, 5, true), (3, 6, true)]).length = 2 := rfl
  have e7 : (aL [(1, 5, true), (3, 6, true)])[1]? = some (.agg [.int .i64 3, .int .u64 6, .bool true]) := rfl
  have f1 : (aL [(3, 6, true), (1, 5, true)]).length = 2 := rfl
  have f2 : (aL [(3, 6, true), (1, 5, true)])[0]? = some (.agg [.int .i64 3, .int .u64 6, .bool true]) := rfl
  have f3 : (aL L4).length = 4 := rfl
  have f4 : (aL L4)[0]? = some (.agg [.int .i64 1, .int .u64 5, .bool true]) := rfl
  have f5 : (aL L4)[1]? = some (.agg [.int .i64 2, .int .u64 5, .bool false]) := rfl
  simp -implicitDefEqProofs -dsimp (disch := first | omega | (simp only [wkLen]; omega) | decide +kernel) only [↓wkPre, ↓wkPre2, ↓wkE, wkPost, wkDef, wkF, simprocAttr, e1, e2, e3, e4, e5, e6, e7, f1, f2, f3, f4, f5, hb0]
  refine PS.app md_22 Try.func22 q22 rfl ?_
  rintro _ rfl
  simp -implicitDefEqProofs -dsimp (disch := first | omega | (simp only [wkLen]; omega) | decide +kernel) only [↓wkPre, ↓wkPre2, ↓wkE, wkPost, wkDef, wkF, simprocAttr, e1, e2, e3, e4, e5, e6, e7, f1, f2, f3, f4, f5, hb0]
  have hz : ∀ (H : Heap), H[0]? = some (Blk.arr false 0 3 (aL L4)) → frzL (frzN Try.prog H 4) [.ref 0 0 0 4 false] [24] = some [acs L4] := fun H h => by
    simp [frzL_cons, frzL_nil, frzN_ref, h, f3]
    rfl
  refine PS.app md_21 Try.func21 q21 (hz H1 hb0) ?_
  rintro _ rfl
  simp -implicitDefEqProofs -dsimp (disch := first | omega | (simp only [wkLen]; omega) | decide +kernel) only [↓wkPre, ↓wkPre2, ↓wkE, wkPost, wkDef, wkF, simprocAttr, e1, e2, e3, e4, e5, e6, e7, f1, f2, f3, f4, f5, hb0]
  have hz3 : ∀ (H : Heap) (xs : List PV), xs = aL L3 → frzL (frzN Try.prog (H ++ [Blk.arr true 0 3 xs]) 4) [.ref H.length 0 0 3 false] [24] = some [acs L3] := fun H xs h => by
    subst h
    simp [frzL_cons, frzL_nil, frzN_ref, aL_len]
    rfl
  refine PS.app md_21 Try.func21 q21b (hz3 _ _ rfl) ?_
  rintro _ rfl
  simp -implicitDefEqProofs -dsimp (disch := first | omega | (simp only [wkLen]; omega) | decide +kernel) only [↓wkPre, ↓wkPre2, ↓wkE, wkPost, wkDef, wkF, simprocAttr, e1, e2, e3, e4, e5, e6, e7, f1, f2, f3, f4, f5, hb0]
end Go.Ev.F23
end
section
namespace Go.Ev.F23
open Go.Proofs Go.Ev Go.Sort
set_option maxRecDepth 100000
set_option linter.all false
/-- Nobody touches at i what somebody wrote who is not yet at their last access. -/
def SJ (l : List Acc) (i j : Nat) : Prop := l[j]!.2.2 = true → l[j]!.2.1 = l[i]!.2.1 → l[j]!.1 ≠ l[i]!.1 → ∀ q, i < q → q < l.length → l[q]!.1 ≠ l[j]!.1
def SS (l : List Acc) (i : Nat) : Prop := ∀ j, j < i → SJ l i j
theorem get_cons_succ {α : Type} [Inhabited α] (a : α) (t : List α) (k : Nat) : (a :: t)[k + 1]! = t[k]! := by simp
theorem get_cons_zero {α : Type} [Inhabited α] (a : α) (t : List α) : (a :: t)[0]! = a := by simp
theorem any_iff (p : Acc → Bool) : ∀ t : List Acc, t.any p = true ↔ ∃ q, q < t.length ∧ p t[q]! = true
  | [] => by simp
  | b :: t => by
    rw [List.any_cons, Bool.or_eq_true, any_iff p t]
    constructor
    · rintro (h | ⟨q, h1, h2⟩)
      · exact ⟨0, by simp, by rw [get_cons_zero]; exact h⟩
      · exact ⟨q + 1, by simp; omega, by rw [get_cons_succ]; exact h2⟩
    · rintro ⟨q, h1, h2⟩
      cases q with
      | zero => rw [get_cons_zero] at h2; exact .inl h2
      | succ q => rw [get_cons_succ] at h2; exact .inr ⟨q, by simp at h1; omega, h2⟩
theorem st1_iff (a : Acc) : ∀ t : List Acc, st1 a t = true ↔ ∀ k, k < t.length → t[k]!.1 ≠ a.1 → t[k]!.2.1 = a.2.1 → ∀ q, k < q → q < t.length → t[q]!.1 ≠ a.1
  | [] => by simp [st1]
  | b :: t => by
    rw [st1, Bool.and_eq_true, st1_iff a t]
    constructor
    · rintro ⟨h1, h2⟩ k hk ha hb q hq hql
      cases k with
      | zero =>
        rw [get_cons_zero] at ha hb
        obtain ⟨q, rfl⟩ : ∃ q', q = q' + 1 := ⟨q - 1, by omega⟩
        rw [get_cons_succ]
        intro he
        rw [Bool.or_eq_true, Bool.or_eq_true] at h1
        rcases h1 with (h1 | h1) | h1
        · exact ha (beq_iff_eq.1 h1)
        · exact (bne_iff_ne.1 h1) hb
        · have h3 : t.any (fun x => x.1 == a.1) = true := (any_iff _ t).2 ⟨q, by simp at hql; omega, by simpa using he⟩
          rw [h3] at h1; cases h1
      | succ k =>
        rw [get_cons_succ] at ha hb
        obtain ⟨q, rfl⟩ : ∃ q', q = q' + 1 := ⟨q - 1, by omega⟩
        rw [get_cons_succ]
        exact h2 k (by simp at hk; omega) ha hb q (by omega) (by simp at hql; omega)
    · intro h
      refine ⟨?_, fun k hk ha hb q hq hql => ?_⟩
      · rw [Bool.or_eq_true, Bool.or_eq_true]
        by_cases ha : b.1 = a.1
        · exact .inl (.inl (by simpa using ha))
        · by_cases hb : b.2.1 = a.2.1
          · refine .inr ?_
            cases h3 : t.any (fun x => x.1 == a.1) with
            | false => rfl
            | true =>
              obtain ⟨q, hq, he⟩ := (any_iff _ t).1 h3
              have := h 0 (by simp) (by rw [get_cons_zero]; exact ha) (by rw [get_cons_zero]; exact hb) (q + 1) (by omega) (by simp; omega)
              rw [get_cons_succ] at this
              exact absurd (beq_iff_eq.1 he) this
          · exact .inl (.inr (by simpa [bne_iff_ne] using hb))
      · have := h (k + 1) (by simp; omega) (by rw [get_cons_succ]; exact ha) (by rw [get_cons_succ]; exact hb) (q + 1) (by omega) (by simp; omega)
        rwa [get_cons_succ] at this
theorem stB_iff : ∀ l : List Acc, stB l = true ↔ ∀ i, i < l.length → SS l i
  | [] => by simp [stB]
  | a :: t => by
    rw [stB, Bool.and_eq_true, stB_iff t, Bool.or_eq_true, st1_iff]
    constructor
    · rintro ⟨h1, h2⟩ i hi j hj hw hk hn q hq hql
      obtain ⟨i, rfl⟩ : ∃ i', i = i' + 1 := ⟨i - 1, by omega⟩
      obtain ⟨q, rfl⟩ : ∃ q', q = q' + 1 := ⟨q - 1, by omega⟩
      rw [get_cons_succ] at hk hn ⊢
      cases j with
      | zero =>
        rw [get_cons_zero] at hw hk hn ⊢
        rcases h1 with h1 | h1
        · rw [hw] at h1; cases h1
        · exact h1 i (by simp at hi; omega) (fun e => hn e.symm) hk.symm q (by omega) (by simp at hql; omega)
      | succ j =>
        rw [get_cons_succ] at hw hk hn ⊢
        exact h2 i (by simp at hi; omega) j (by omega) hw hk hn q (by omega) (by simp at hql; omega)
    · intro h
      refine ⟨?_, fun i hi j hj hw hk hn q hq hql => ?_⟩
      · cases hw : a.2.2 with
        | false => exact .inl rfl
        | true =>
          refine .inr fun k hk hn hb q hq hql => ?_
          have := h (k + 1) (by simp; omega) 0 (by omega) (by rw [get_cons_zero]; exact hw) (by rw [get_cons_zero, get_cons_succ]; exact hb.symm) (by rw [get_cons_zero, get_cons_succ]; exact fun e => hn e.symm) (q + 1) (by omega) (by simp; omega)
          rwa [get_cons_succ, get_cons_zero] at this
      · have := h (i + 1) (by simp; omega) (j + 1) (by omega) (by rw [get_cons_succ]; exact hw) (by rw [get_cons_succ, get_cons_succ]; exact hk) (by rw [get_cons_succ, get_cons_succ]; exact hn) (q + 1) (by omega) (by simp; omega)
        rwa [get_cons_succ, get_cons_succ] at this
/-- What Last tells: only writes, each key once. -/
theorem lstR_ok (l : List Acc) : ∀ (n : Nat) (out : List Acc), ((∀ x ∈ out, x.2.2 = true) ∧ (out.map (·.2.1)).Nodup) → ((∀ x ∈ lstR l n out, x.2.2 = true) ∧ ((lstR l n out).map (·.2.1)).Nodup)
  | 0, out, h => h
  | n + 1, out, h => by
    refine lstR_ok l n _ ?_
    unfold lstS
    split
    · rename_i hc
      rw [Bool.and_eq_true, Bool.not_eq_true'] at hc
      refine ⟨fun x hx => ?_, ?_⟩
      · rcases List.mem_append.1 hx with h1 | h1
        · exact h.1 x h1
        · rw [List.mem_singleton.1 h1]; exact hc.1
      · rw [List.map_append, List.nodup_append]
        refine ⟨h.2, by simp, fun x hx y hy => ?_⟩
        obtain ⟨z, hz, rfl⟩ := List.mem_map.1 hx
        simp at hy
        subst hy
        have := List.any_eq_false.1 hc.2 z hz
        simpa using this
    · exact h
theorem last_rise {l ys : List Acc} (hp : ys.Perm (lstR l l.length [])) (hs : ∀ i j, i < j → j < ys.length → ltA ys[j]! ys[i]! = false) :
    (∀ i, i < ys.length → ys[i]!.2.2 = true) ∧ ∀ i j, i < j → j < ys.length → ys[i]!.2.1 < ys[j]!.2.1 := by
  obtain ⟨h1, h2⟩ := lstR_ok l l.length [] ⟨fun x h => (by cases h), by simp⟩
  refine ⟨fun i hi => h1 _ (hp.mem_iff.1 (by rw [getElem!_pos ys i hi]; exact List.getElem_mem hi)), fun i j hij hj => ?_⟩
  have h3 : (ys.map (·.2.1)).Nodup := (hp.map _).nodup_iff.2 h2
  have h4 := hs i j hij hj
  rw [getElem!_pos ys j hj, getElem!_pos ys i (by omega)] at h4 ⊢
  have h5 := List.pairwise_iff_getElem.1 h3 i j (by simp; omega) (by simpa using hj) hij
  simp only [List.getElem_map] at h5
  simp only [ltA, decide_eq_false_iff_not] at h4
  omega
theorem frm_src (l : List Acc) (i : Nat) (h : i < l.length) : (srcA l l[i].2.1 i < 0 ∧ frm l i = (0, 0)) ∨ ∃ k, ∃ hk : k < i, srcA l l[i].2.1 i = (k : Nat) ∧ frm l i = (l[k].1, ((nthA l l[k] (k + 1) : Nat) : Int)) := by
  have hg : l[i]! = l[i] := getElem!_pos l i h
  have hlt : ∀ n, srcA l l[i].2.1 n < n ∧ -1 ≤ srcA l l[i].2.1 n := by
    intro n
    induction n with
    | zero => simp [srcA]
    | succ n ih =>
      rw [srcA]
      split <;> omega
  unfold frm lastF
  rw [hg]
  by_cases h0 : srcA l l[i].2.1 i < 0
  · exact .inl ⟨h0, by rw [if_pos h0]; rfl⟩
  · obtain ⟨k, hk⟩ : ∃ k : Nat, srcA l l[i].2.1 i = k := ⟨(srcA l l[i].2.1 i).toNat, by omega⟩
    have := (hlt i).1
    refine .inr ⟨k, by omega, hk, ?_⟩
    rw [hk, if_neg (by omega), Int.toNat_natCast, getElem!_pos l k (by omega)]
    rfl
end Go.Ev.F23
end
