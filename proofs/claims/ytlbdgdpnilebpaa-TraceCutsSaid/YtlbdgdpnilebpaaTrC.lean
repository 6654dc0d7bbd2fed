/- A part of the proof: walks of the functions that the law calls. No condition. -/
import Derived.Test.YtlbdgdpnilebpaaTrB
set_option linter.all false
section
namespace Go.Ev.F35
open Go.Proofs Go.Ev
set_option maxRecDepth 100000
set_option linter.all false
theorem nn_v' (b o : Nat) : nonNil (.vptr b o) = some (.vptr b o) := rfl
theorem elT25 : elT Try.prog 25 = 44 := by kernel_rfl
theorem hleaf40 : leafTs Try.prog 20 40 = [3, 3, 3, 3, 29, 30, 30, 9, 30, 30, 30, 30, 3, 35, 36, 3] := by kernel_rfl
theorem z40 (H : Heap) : frzN Try.prog H 4 40 (.agg [.p (.int .i64 0), .p (.int .i64 0), .p (.int .i64 0), .p (.int .i64 0), .p (.int .u64 0), .p (.int .u32 0), .p (.int .u32 0), .p (.str []), .p (.int .u32 0), .p (.int .u32 0), .p (.int .u32 0), .p (.int .u32 0), .p (.int .i64 0), .p (.int .i64 0), .nsl, .p (.int .i64 0)]) = some (.agg [.int .i64 0, .int .i64 0, .int .i64 0, .int .i64 0, .int .u64 0, .int .u32 0, .int .u32 0, .str [], .int .u32 0, .int .u32 0, .int .u32 0, .int .u32 0, .int .i64 0, .int .i64 0, .sl 6 [], .int .i64 0]) := by
  simp [frzN, hleaf40, frzL, frzN_p, frzN_nsl, telem_36]
theorem i40 : ids 4 (.agg [.p (.int .i64 0), .p (.int .i64 0), .p (.int .i64 0), .p (.int .i64 0), .p (.int .u64 0), .p (.int .u32 0), .p (.int .u32 0), .p (.str []), .p (.int .u32 0), .p (.int .u32 0), .p (.int .u32 0), .p (.int .u32 0), .p (.int .i64 0), .p (.int .i64 0), .nsl, .p (.int .i64 0)]) = [] := rfl
theorem z44 (H : Heap) : frzN Try.prog H 4 44 (.agg [.p (.int .i64 0), .nsl, .p (.bool false), .p (.int .i64 0)]) = some (.agg [.int .i64 0, .sl 16 [], .bool false, .int .i64 0]) := frz44 (OwnS.nil _ _) _ _ _
theorem i44 : ids 4 (.agg [.p (.int .i64 0), .nsl, .p (.bool false), .p (.int .i64 0)]) = [] := rfl
/-- What the loop of Cut keeps. -/
structure CL (H : Heap) (l : List Vt) (i : Nat) (X : List Od) (w : AV) : Prop where
  ci : CI H 0 X
  tl : Tel X (cutA (l.take i)).1
  ow : OwnS H w 4 (txs (cutA (l.take i)).2)
  nw : ∀ b, w.blk = some b → b ∉ cft 0 X
/-- .. behind the look for whose it is. -/
structure C11 (G : Heap) (l : List Vt) (i : Nat) (v : Vt) (c : Nat) (x : Od) (R : List Od) (w : AV) : Prop where
  ci : CI G 0 (x :: R)
  xw : x.t.who = v.who
  xe : x.t.evs = opn (cutA (l.take i)).1 v.who
  xd : x.t.done = false
  rp : (R.map (·.t)).Perm (outO (cutA (l.take i)).1 v.who)
  ow : OwnS G w 4 (txs (cutA (l.take i)).2)
  nw : ∀ b, w.blk = some b → b ∉ cft 0 (x :: R)
  gc : G[c]? = some (.var true (.p (vtP v)))
  nc : c ∉ cft 0 (x :: R)
  wc : w.blk ≠ some c
theorem cut_ne (l : List Vt) : ∀ i, i ≤ l.length → ∀ t ∈ (cutA (l.take i)).1, t.evs ≠ []
  | 0, _, t, ht => by cases ht
  | i + 1, hi, t, ht => by
    have ih := cut_ne l i (by omega)
    rw [List.take_succ_eq_append_getElem (by omega), cutA_snoc] at ht
    unfold stpC at ht
    split at ht
    · exact ih t ht
    split at ht
    · exact ih t (List.mem_filter.1 ht).1
    · rcases List.mem_cons.1 ht with rfl | h1
      · simp
      · exact ih t (List.mem_filter.1 h1).1
def sortT (O : List Tx) : List Tx := O.mergeSort fun a b => decide (a.who ≤ b.who)
def cutF (l : List Vt) : List Tx := (cutA l).2 ++ sortT (cutA l).1
def tOf (O : List Tx) (w : Int) : Tx := (O.find? (·.who == w)).getD default
theorem tOf_mem {O : List Tx} (nd : (O.map (·.who)).Nodup) {t : Tx} (h : t ∈ O) : tOf O t.who = t := by
  unfold tOf
  cases hf : O.find? (·.who == t.who) with
  | none =>
    have := List.find?_eq_none.1 hf t h
    simp at this
  | some t' =>
    have h2 := List.find?_some hf
    have h3 := List.mem_of_find?_eq_some hf
    have h2 : t'.who = t.who := by simpa using h2
    obtain ⟨i, hi, rfl⟩ := List.mem_iff_getElem.1 h3
    obtain ⟨j, hj, rfl⟩ := List.mem_iff_getElem.1 h
    have := am_inj (κ := (·.who)) nd hi hj h2
    subst this
    rfl
def AscT (L : List Tx) : Prop := L.Pairwise fun a b => a.who < b.who
theorem AscT.ext : ∀ {A C : List Tx}, AscT A → AscT C → A.Perm C → A = C
  | [], C, _, _, h => (List.nil_perm.1 h).symm
  | x :: A, [], _, _, h => absurd (List.perm_nil.1 h) (by simp)
  | x :: A, y :: C, ha, hb, h => by
    have ha1 := (List.pairwise_cons.1 ha).1
    have hb1 := (List.pairwise_cons.1 hb).1
    have h1 : x ∈ y :: C := h.mem_iff.1 List.mem_cons_self
    have h2 : y ∈ x :: A := h.mem_iff.2 List.mem_cons_self
    have hxy : x = y := by
      rcases List.mem_cons.1 h1 with e | e
      · exact e
      · rcases List.mem_cons.1 h2 with e2 | e2
        · exact e2.symm
        · have := hb1 x e; have := ha1 y e2; omega
    subst hxy
    rw [AscT.ext (List.pairwise_cons.1 ha).2 (List.pairwise_cons.1 hb).2 ((List.perm_cons _).1 h)]
theorem sortT_asc {O : List Tx} (nd : (O.map (·.who)).Nodup) : AscT (sortT O) ∧ (sortT O).Perm O := by
  have hp : (sortT O).Perm O := List.mergeSort_perm O _
  have h1 : (sortT O).Pairwise fun a b => decide (a.who ≤ b.who) = true := List.pairwise_mergeSort (fun a b c h1 h2 => by simp at *; omega) (fun a b => by simp; omega) O
  have h2 : ((sortT O).map (·.who)).Nodup := ((hp.map (·.who)).nodup_iff).2 nd
  have h3 : (sortT O).Pairwise fun a b => a.who ≠ b.who := List.pairwise_map.1 h2
  refine ⟨(h1.and h3).imp fun ⟨a, b⟩ => ?_, hp⟩
  simp only [decide_eq_true_eq] at a
  omega
theorem sorted_tOf {O : List Tx} (nd : (O.map (·.who)).Nodup) {T : List Int} (hT : T.Perm (O.map (·.who))) : (sortI T).map (tOf O) = sortT O := by
  obtain ⟨q1, q2⟩ := sortT_asc nd
  have hp : (sortI T).Perm (O.map (·.who)) := (List.mergeSort_perm T _).trans hT
  have h1 : (sortI T).Pairwise fun a b => decide (a ≤ b) = true := List.pairwise_mergeSort (fun a b c h1 h2 => by simp at *; omega) (fun a b => by simp; omega) T
  have h2 : (sortI T).Nodup := hp.nodup_iff.2 nd
  have hw : ∀ w ∈ sortI T, (tOf O w).who = w := fun w hw => by
    obtain ⟨t, ht, rfl⟩ := List.mem_map.1 (hp.mem_iff.1 hw)
    rw [tOf_mem nd ht]
  refine AscT.ext ?_ q1 (List.Perm.trans ?_ q2.symm)
  · refine List.pairwise_map.2 ?_
    have h3 := (h1.and h2).imp (S := fun a b => a < b) fun ⟨a, b⟩ => by
      simp only [decide_eq_true_eq] at a
      omega
    refine List.Pairwise.imp_of_mem ?_ h3
    intro a b ha hb hab
    rw [hw a ha, hw b hb]
    exact hab
  · have := hp.map (tOf O)
    rw [List.map_map] at this
    refine this.trans (List.Perm.of_eq ?_)
    exact (List.map_congr_left fun t ht => tOf_mem nd ht).trans (List.map_id O)
def E0 (l : List Vt) (i c : Nat) (w : AV) (e : Env) : Prop := e 3 = .map 0 ∧ e 4 = w ∧ e 5 = .p (I i) ∧ e 6 = .vptr c 0 ∧ e 13 = .p (.sl 16 (vts l)) ∧ e 14 = .p (I l.length) ∧ e 15 = .p (I i)
theorem frzL44 {H : Heap} {v : AV} {K : List PV} (h : OwnS H v 16 K) (a b c : PV) : orV ((frzL (frzN Try.prog H 3) [.p a, v, .p b, .p c] (leafTs Try.prog 20 44)).map PV.agg) (.agg [.p a, v, .p b, .p c]) = .p (.agg [a, .sl 16 K, b, c]) := by
  have := frz44 (n := 3) h a b c
  show orV (frzN Try.prog H 4 44 (.agg [.p a, v, .p b, .p c])) _ = _
  rw [this]
  rfl
set_option maxHeartbeats 1000000 in
theorem q8 (l : List Vt) (hL : l.length ≤ 500) : PS Cf okf 8 [25] [.sl 16 (vts l)] (fun v => v = .sl 4 (txs (cutF l))) := by
  refine PS.mk extMono Try.func8 body8 (by decide) rfl ?_
  simp only [c8, Try.f8, Option.getD_some]
  have hl := vts_len l
  simp -implicitDefEqProofs -dsimp (maxSteps := 1000000) (disch := first | omega | (simp only [wkLen]; omega) | decide +kernel) only [↓wkPre, ↓wkPre2, ↓wkE, wkPost, wkDef, wkF, simprocAttr, hl]
  refine loop_use extMono (fun m' e H => ∃ (i : Nat) (X : List Od) (w : AV), m' = l.length - i ∧ i ≤ l.length ∧ e 3 = .map 0 ∧ e 4 = w ∧ e 13 = .p (.sl 16 (vts l)) ∧ e 14 = .p (I l.length) ∧ e 15 = .p (I i) ∧ CL H l i X w) ?_ l.length _ _ ⟨0, [], .nsl, rfl, by omega, ?_⟩
  · rintro m' e Hc ⟨i, X, w, rfl, hi, e3, e4, e13, e14, e15, hC⟩
    rcases Nat.lt_or_ge i l.length with hlt | hge
    · have gi := vts_get hlt
      have hsn : cutA (l.take (i + 1)) = stpC (cutA (l.take i)) i l[i] := by
        rw [List.take_succ_eq_append_getElem hlt, cutA_snoc, List.length_take, Nat.min_eq_left (by omega)]
      have hok := cut_ok l i hi
      have hok1 := opn_ok hok l[i].who
      rw [List.length_take] at hok1
      have hln := hok.ln
      rw [List.length_take] at hln
      generalize l[i] = v at gi hsn hok1
      simp -implicitDefEqProofs -dsimp (maxSteps := 1000000) (disch := first | omega | (simp only [wkLen]; omega) | decide +kernel) only [↓wkPre, ↓wkPre2, ↓wkE, wkPost, wkDef, wkF, simprocAttr, e3, e4, e13, e14, e15, hl, gi]
      refine PS.app md_24 Try.func24 (q24 v) rfl ?_
      rintro _ rfl
      cases hb : bsdF v with
      | true =>
        simp -implicitDefEqProofs -dsimp (maxSteps := 1000000) (disch := first | omega | (simp only [wkLen]; omega) | decide +kernel) only [↓wkPre, ↓wkPre2, ↓wkE, wkPost, wkDef, wkF, simprocAttr, e3, e4, e13, e14, e15, hl]
        have hst : stpC (cutA (l.take i)) i v = cutA (l.take i) := by unfold stpC; rw [if_pos hb]
        have hci : CI (Hc ++ [.var true (.p (vtP v))]) 0 X := hC.ci.keep fun j hj => hs_app (hC.ci.lt hj)
        exact ⟨l.length - (i + 1), by omega, i + 1, X, w, rfl, by omega, rfl, by push_cast; rfl, hci, by rw [hsn, hst]; exact hC.tl, by rw [hsn, hst]; exact hC.ow.app _, hC.nw⟩
      | false =>
        simp -implicitDefEqProofs -dsimp (maxSteps := 1000000) (disch := first | omega | (simp only [wkLen]; omega) | decide +kernel) only [↓wkPre, ↓wkPre2, ↓evC_region_st [7], ↓evC_text_st [7], ↓evC_cond, ↓evC_block, ↓evC_stop [7], wkPost, wkDef, wkF, simprocAttr, e3, e4, e13, e14, e15, hl, gi]
        refine stop_st (fun e' G => ∃ c, E0 l i c w e' ∧ CL G l i X w ∧ G[c]? = some (.var true (.p (vtP v))) ∧ c ∉ cft 0 X ∧ w.blk ≠ some c) ⟨Hc.length, ⟨e3, e4, rfl, rfl, e13, e14, e15⟩, ⟨hC.ci.keep fun j hj => hs_app (hC.ci.lt hj), hC.tl, hC.ow.app _, hC.nw⟩, by simp, fun hm => by have := hC.ci.lt hm; omega, fun e => by have := hC.ow.lt _ e; omega⟩ ?_
        clear e3 e4 e13 e14 e15 hC e Hc
        rintro e G ⟨c, ⟨e3, e4, e5, e6, e13, e14, e15⟩, hC, gc, nc, wc⟩
        obtain ⟨z, bz, hlk, hz, hzi⟩ : ∃ (z : AV) (bz : Bool), evLook Try.prog 67 (.map 0) (.p (I v.who)) false G = some z ∧
            ((bz = true ∧ z = .p .nptr ∧ v.who ∉ X.map (·.t.who)) ∨ (bz = false ∧ ∃ x R, z = .vptr x.q 0 ∧ x.t.who = v.who ∧ X.Perm (x :: R) ∧ CI G 0 (x :: R))) ∧ z.isU = false := by
          rcases hC.ci.pick v.who with hwX | ⟨x, R, hxw, hpm, h2⟩
          · exact ⟨_, true, hC.ci.miss hwX, .inl ⟨rfl, rfl, hwX⟩, rfl⟩
          · have := h2.hit
            rw [hxw] at this
            exact ⟨_, false, this, .inr ⟨rfl, x, R, rfl, hxw, hpm, h2⟩, rfl⟩
        refine stop_go ?_
        simp -implicitDefEqProofs -dsimp (maxSteps := 1000000) (disch := first | omega | (simp only [wkLen]; omega) | decide +kernel) only [↓wkPre, ↓wkPre2, ↓evC_region_st [8], ↓evC_text_st [8], ↓evC_cond, ↓evC_block, ↓evC_stop [8], wkPost, wkDef, wkF, simprocAttr, e3, e4, e5, e6, e13, e14, e15, gc, hlk, hzi]
        refine stop_cutK extMono (fun e' G' => G = G' ∧ E0 l i c w e' ∧ e' 7 = z ∧ e' 27 = .p (B bz)) ?_ ?_
        · rcases hz with ⟨rfl, rfl, _⟩ | ⟨rfl, x, R, rfl, _⟩
          · simp -implicitDefEqProofs -dsimp (maxSteps := 1000000) (disch := first | omega | (simp only [wkLen]; omega) | decide +kernel) only [↓wkPre, ↓wkPre2, ↓wkE, wkPost, wkDef, wkF, simprocAttr, e3, e4, e5, e6, e13, e14, e15, onNK_normal]
            exact ⟨e3, e4, e5, e6, e13, e14, e15⟩
          · simp -implicitDefEqProofs -dsimp (maxSteps := 1000000) (disch := first | omega | (simp only [wkLen]; omega) | decide +kernel) only [↓wkPre, ↓wkPre2, ↓wkE, wkPost, wkDef, wkF, simprocAttr, e3, e4, e5, e6, e13, e14, e15, onNK_normal]
            exact ⟨e3, e4, e5, e6, e13, e14, e15⟩
        clear e3 e4 e5 e6 e13 e14 e15 e
        rintro e _ ⟨rfl, ⟨e3, e4, e5, e6, e13, e14, e15⟩, e7, e27⟩
        simp -implicitDefEqProofs -dsimp (maxSteps := 1000000) (disch := first | omega | (simp only [wkLen]; omega) | decide +kernel) only [↓wkPre, ↓wkPre2, ↓evC_region, ↓evC_text, ↓evC_cond_stop, ↓evC_block, wkPost, wkDef, wkF, simprocAttr]
        refine stop_cutK extMono (fun e' G' => E0 l i c w e' ∧ ∃ x R, e' 7 = .vptr x.q 0 ∧ C11 G' l i v c x R w) ?_ ?_
        · rcases hz with ⟨rfl, rfl, hwX⟩ | ⟨rfl, x, R, rfl, hxw, hpm, h2⟩
          · obtain ⟨G1, hu, h3, h4, h5⟩ := hC.ci.ins hwX
            obtain ⟨o1, o2⟩ := opn_none hC.tl hwX
            have gc2 : ∀ y : Blk, (G ++ [y])[c]? = some (.var true (.p (vtP v))) := fun y => (hs_app (lt_of gc)).trans gc
            have hmem : ∀ j, j ∈ cft 0 (⟨G.length, .nsl, ⟨v.who, [], false, 0⟩⟩ :: X) → j = G.length ∨ j ∈ cft 0 X := fun j hj => by
              have := (cft_cons 0 ⟨G.length, .nsl, ⟨v.who, [], false, 0⟩⟩ X).mem_iff.1 hj
              simpa [AV.blk] using this
            have hc0 : c ≠ 0 := fun e => nc (by simp [cft, e])
            have hw0 : ∀ b, w.blk = some b → b ≠ 0 := fun b hb e => hC.nw b hb (by simp [cft, e])
            simp -implicitDefEqProofs -dsimp (maxSteps := 1000000) (disch := first | omega | (simp only [wkLen]; omega) | decide +kernel) only [↓wkPre, ↓wkPre2, ↓wkE, wkPost, wkDef, wkF, simprocAttr, e3, e4, e5, e6, e7, e13, e14, e15, e27, gc, gc2, hu, onNK_normal]
            refine ⟨⟨e3, e4, e5, e6, e13, e14, e15⟩, ⟨G.length, .nsl, ⟨v.who, [], false, 0⟩⟩, X, rfl, h3, rfl, o1.symm, rfl, by rw [o2]; exact hC.tl.hp, hC.ow.keep fun b hb => h4 b (hC.ow.lt b hb) (hw0 b hb), ?_, (h4 c (lt_of gc) hc0).trans gc, ?_, wc⟩
            · intro b hb hm
              rcases hmem b hm with h6 | h6
              · have := hC.ow.lt b hb; omega
              · exact hC.nw b hb h6
            · intro hm
              rcases hmem c hm with h6 | h6
              · have := lt_of gc; omega
              · exact nc h6
          · obtain ⟨o1, o2⟩ := opn_perm hC.tl hpm
            rw [hxw] at o1 o2
            have hxd : x.t.done = false := by
              have hx1 : x.t ∈ (cutA (l.take i)).1 := hC.tl.hp.mem_iff.1 (List.mem_map.2 ⟨x, hpm.mem_iff.2 List.mem_cons_self, rfl⟩)
              exact (hok.o1 _ hx1).1
            simp -implicitDefEqProofs -dsimp (maxSteps := 1000000) (disch := first | omega | (simp only [wkLen]; omega) | decide +kernel) only [↓wkPre, ↓wkPre2, ↓wkE, wkPost, wkDef, wkF, simprocAttr, e3, e4, e5, e6, e7, e13, e14, e15, e27, onNK_normal]
            exact ⟨⟨e3, e4, e5, e6, e13, e14, e15⟩, x, R, rfl, h2, hxw, o1.symm, hxd, o2, hC.ow, fun b hb hm => hC.nw b hb ((cft_perm hpm).mem_iff.2 hm), gc, fun hm => nc ((cft_perm hpm).mem_iff.2 hm), wc⟩
        have htlO := hC.tl.nd
        clear e3 e4 e5 e6 e7 e13 e14 e15 e27 e hC gc nc wc hlk hz hzi z bz G
        rintro e G ⟨⟨e3, e4, e5, e6, e13, e14, e15⟩, x, R, e7, hD⟩
        obtain ⟨hD0, hxw, hxe, hxd, hrp, how, hnw, gc, nc, wc⟩ := hD
        have hx := hD0.hx x List.mem_cons_self
        have gq := hx.hq
        unfold odB at gq
        rw [hxw, hxd] at gq
        have hxl : x.t.evs.length ≤ i := by rw [hxe]; omega
        have hqf : ∀ j ∈ x.bs, j < G.length := fun j hj => hx.lt hj
        have hqc : x.q ≠ c := fun e => nc (mem_cft (X := x :: R) List.mem_cons_self (by simp [Od.bs, e]))
        have hvc : x.v.blk ≠ some c := fun e => nc (mem_cft (X := x :: R) List.mem_cons_self (by simp [Od.bs, e]))
        have hqw : w.blk ≠ some x.q := fun e => hnw _ e (mem_cft (X := x :: R) List.mem_cons_self (by simp [Od.bs]))
        have hvw : ∀ b, x.v.blk = some b → w.blk ≠ some b := fun b hb e => hnw _ e (mem_cft (X := x :: R) List.mem_cons_self (by simp [Od.bs, hb]))
        have hnf := ((cft_cons 0 x R).nodup_iff).1 hD0.nf
        have hqv : ∀ b, x.v.blk = some b → x.q ≠ b := fun b hb e => (List.nodup_append.1 hnf).2.2 b (by simp [hb]) b (by simp [e]) rfl
        simp -implicitDefEqProofs -dsimp (maxSteps := 1000000) (disch := first | omega | (simp only [wkLen]; omega) | decide +kernel) only [↓wkPre, ↓wkPre2, ↓evC_region_st [11], ↓evC_text_st [11], ↓evC_cond, ↓evC_block, ↓evC_stop [11], wkPost, wkDef, wkF, simprocAttr]
        refine stop_pl pl_8_11 (by kernel_rfl) (by decide +kernel) ?_
        simp only [pl_8_11]
        have gq2 : ∀ y : Blk, (G ++ [y])[x.q]? = some (.var true (.agg [.p (I v.who), x.v, .p (B false), .p (I x.t.pos)])) := fun y => (hs_app (lt_of gq)).trans gq
        simp -implicitDefEqProofs -dsimp (maxSteps := 1000000) (disch := first | omega | (simp only [wkLen]; omega) | decide +kernel) only [↓wkPre, ↓wkPre2, ↓wkE, wkPost, wkDef, wkF, simprocAttr, nn_v', e3, e4, e5, e6, e7, e13, e14, e15, gc, gq, gq2, z40, i40]
        refine append_step telem_22 (ys := [vtP v]) (elems_new rfl rfl) (by simp) (hx.hv.app _) ?_ ?_
        · rw [byt_40, vts_len]; simp; omega
        intro v' H4 q1 q2 q3 q4
        simp only [List.length_append, List.length_cons, List.length_nil] at q2 q3 q4
        rcases id q1 with ⟨rfl, hnil⟩ | ⟨vb, vg, rfl, hvb⟩
        · simp at hnil
        have h4q : H4[x.q]? = some (.var true (.agg [.p (I v.who), x.v, .p (B false), .p (I x.t.pos)])) := (q2 _ (by have := hqf x.q (by simp [Od.bs]); omega) (fun e => hqv _ e rfl)).trans ((hs_app (hqf x.q (by simp [Od.bs]))).trans gq)
        rw [show ∀ z : PV, (vts x.t.evs ++ [z]).length = (vts x.t.evs).length + 1 from fun z => by simp] at q1
        have hqG := hqf x.q (by simp [Od.bs])
        have h4s : ∀ y : Blk, (H4.set x.q y)[x.q]? = some y := fun y => hs_set (by omega)
        simp -implicitDefEqProofs -dsimp (maxSteps := 1000000) (disch := first | omega | (simp only [wkLen]; omega) | decide +kernel) only [↓wkPre, ↓wkPre2, ↓evC_region_st [13], ↓evC_text_st [13], ↓evC_cond, ↓evC_block, ↓evC_stop [13], wkPost, wkDef, wkF, simprocAttr, nn_v', e3, e4, e5, e6, e7, e13, e14, e15, h4q, h4s]
        generalize hn1 : (vts x.t.evs).length + 1 = n1 at q1
        have hup := hD0.upd (H' := (H4.set x.q (.var true (.agg [.p (I v.who), .ref vb vg 0 n1 false, .p (B false), .p (I x.t.pos)]))).set x.q (odB (.ref vb vg 0 n1 false) ⟨v.who, x.t.evs ++ [v], false, i⟩)) (v' := .ref vb vg 0 n1 false) (t' := ⟨v.who, x.t.evs ++ [v], false, i⟩) hxw.symm
          (fun b hb => by
            rcases Nat.lt_or_ge b G.length with h1 | h1
            · exact .inl (q4 b hb (by omega))
            · exact .inr h1)
          ⟨hs_set (by simp; omega), by
            have hne : (AV.ref vb vg 0 n1 false).blk ≠ some x.q := fun e => by
              have := q4 _ e (by omega)
              exact hqv _ this rfl
            rw [vts_snoc]
            exact (q1.set hne).set hne⟩
          (fun j hj h1 h2 => (hs_ne (Ne.symm h1)).trans ((hs_ne (Ne.symm h1)).trans ((q2 j (by omega) h2).trans (hs_app hj))))
        have hcl := lt_of gc
        have kf : ∀ j, j < G.length → j ≠ x.q → x.v.blk ≠ some j → ((H4.set x.q (.var true (.agg [.p (I v.who), .ref vb vg 0 n1 false, .p (B false), .p (I x.t.pos)]))).set x.q (odB (.ref vb vg 0 n1 false) ⟨v.who, x.t.evs ++ [v], false, i⟩))[j]? = G[j]? :=
          fun j hj h1 h2 => (hs_ne (Ne.symm h1)).trans ((hs_ne (Ne.symm h1)).trans ((q2 j (by omega) h2).trans (hs_app hj)))
        have hmem2 : ∀ j, j ∈ cft 0 (⟨x.q, .ref vb vg 0 n1 false, ⟨v.who, x.t.evs ++ [v], false, i⟩⟩ :: R) → j ∈ cft 0 (x :: R) ∨ G.length ≤ j := fun j hj => by
          rcases List.mem_append.1 ((cft_cons 0 ⟨x.q, .ref vb vg 0 n1 false, ⟨v.who, x.t.evs ++ [v], false, i⟩⟩ R).mem_iff.1 hj) with h1 | h1
          · have h2 : j = vb := by simpa [AV.blk] using h1
            subst h2
            rcases Nat.lt_or_ge j G.length with h3 | h3
            · have := q4 j rfl (by omega)
              exact .inl ((cft_cons 0 x R).mem_iff.2 (List.mem_append_left _ (by simp [this])))
            · exact .inr h3
          · exact .inl ((cft_cons 0 x R).mem_iff.2 (List.mem_append_right _ h1))
        refine stop_st (fun e' G3 => E0 l i c w e' ∧ e' 7 = .vptr x.q 0 ∧ CI G3 0 (⟨x.q, .ref vb vg 0 n1 false, ⟨v.who, x.t.evs ++ [v], false, i⟩⟩ :: R) ∧ OwnS G3 w 4 (txs (cutA (l.take i)).2) ∧ (∀ b, w.blk = some b → b ∉ cft 0 (⟨x.q, .ref vb vg 0 n1 false, ⟨v.who, x.t.evs ++ [v], false, i⟩⟩ :: R)) ∧ G3[c]? = some (.var true (.p (vtP v))) ∧ c ∉ cft 0 (⟨x.q, .ref vb vg 0 n1 false, ⟨v.who, x.t.evs ++ [v], false, i⟩⟩ :: R))
          ⟨⟨e3, e4, e5, e6, e13, e14, e15⟩, e7, hup, how.keep fun b hb => kf b (how.lt b hb) (fun e => hqw (by rw [← e]; exact hb)) (fun e => hvw b e hb), fun b hb hm => (hmem2 b hm).elim (hnw b hb) (fun h => by have := how.lt b hb; omega), (kf c hcl (Ne.symm hqc) hvc).trans gc, fun hm => (hmem2 c hm).elim nc (fun h => by omega)⟩ ?_
        have hxe' : x.t.evs ++ [v] = opn (cutA (l.take i)).1 v.who ++ [v] := by rw [hxe]
        rw [hxe']
        obtain ⟨xq, xv, xt⟩ := x
        clear hup kf hmem2 hcl h4s h4q hvb q1 q2 q3 q4 gq2 gq hqG hqf hqc hvc hqw hvw hnf hqv hx hD0 how hnw gc nc e3 e4 e5 e6 e7 e13 e14 e15 hn1 hxe' e H4
        dsimp only at hxw hxe hxd hxl
        dsimp only
        clear hxe hxd hxl hxw xt xv G
        rintro e G ⟨⟨e3, e4, e5, e6, e13, e14, e15⟩, e7, hci, how, hnw, gc, nc⟩
        refine stop_go ?_
        simp -implicitDefEqProofs -dsimp (maxSteps := 1000000) (disch := first | omega | (simp only [wkLen]; omega) | decide +kernel) only [↓wkPre, ↓wkPre2, ↓wkE, wkPost, wkDef, wkF, simprocAttr, nn_v', e3, e4, e5, e6, e7, e13, e14, e15, gc]
        refine PS.app md_25 Try.func25 (q25 v) rfl ?_
        rintro _ rfl
        obtain ⟨n1', n2'⟩ := outO_nd htlO v.who
        cases hends : endsF v with
        | false =>
          have hst : stpC (cutA (l.take i)) i v = (⟨v.who, opn (cutA (l.take i)).1 v.who ++ [v], false, i⟩ :: outO (cutA (l.take i)).1 v.who, (cutA (l.take i)).2) := by
            unfold stpC; rw [hb, hends]; rfl
          simp -implicitDefEqProofs -dsimp (maxSteps := 1000000) (disch := first | omega | (simp only [wkLen]; omega) | decide +kernel) only [↓wkPre, ↓wkPre2, ↓wkE, wkPost, wkDef, wkF, simprocAttr, nn_v', e3, e4, e5, e6, e7, e13, e14, e15, gc]
          exact ⟨l.length - (i + 1), by omega, i + 1, _, w, rfl, by omega, rfl, by push_cast; rfl, hci, by rw [hsn, hst]; exact ⟨hrp.cons _, List.nodup_cons.2 ⟨n2', n1'⟩⟩, by rw [hsn, hst]; exact how, hnw⟩
        | true =>
          have hst : stpC (cutA (l.take i)) i v = (outO (cutA (l.take i)).1 v.who, (cutA (l.take i)).2 ++ [⟨v.who, opn (cutA (l.take i)).1 v.who ++ [v], decide (v.o.kind = 8) && decide (v.a.code = 0), i⟩]) := by
            unfold stpC; rw [hb, hends]; rfl
          have hq0 := (hci.hx _ List.mem_cons_self).hq
          have hv0 := (hci.hx _ List.mem_cons_self).hv
          dsimp only at hq0 hv0
          have hqlt := lt_of hq0
          have hnf := ((cft_cons 0 _ R).nodup_iff).1 hci.nf
          have hqvb : xq ≠ vb := fun e => (List.nodup_append.1 hnf).2.2 vb (by simp [AV.blk]) vb (by simp [e]) rfl
          have hcq : c ≠ xq := fun e => nc (mem_cft List.mem_cons_self (by simp [Od.bs, e]))
          have hcv : c ≠ vb := fun e => nc (mem_cft List.mem_cons_self (by simp [Od.bs, AV.blk, e]))
          have hwq : w.blk ≠ some xq := fun e => hnw _ e (mem_cft List.mem_cons_self (by simp [Od.bs]))
          have hwv : w.blk ≠ some vb := fun e => hnw _ e (mem_cft List.mem_cons_self (by simp [Od.bs, AV.blk]))
          have hrf : ∀ j ∈ cft 0 R, j ≠ xq ∧ j ≠ vb := fun j hj => ⟨fun e => (List.nodup_cons.1 (List.nodup_append.1 hnf).2.1).1 (by dsimp only; rw [← e]; exact hj), fun e => (List.nodup_append.1 hnf).2.2 vb (by simp [AV.blk]) vb (by rw [← e]; exact List.mem_cons_of_mem _ hj) rfl⟩
          have hrl : ∀ j ∈ cft 0 R, j < G.length := fun j hj => hci.lt ((cft_cons 0 _ R).mem_iff.2 (List.mem_append_right _ (List.mem_cons_of_mem _ hj)))
          generalize hev : opn (cutA (l.take i)).1 v.who ++ [v] = ev2 at hci hq0 hv0 hst hnf
          obtain ⟨hn1, hb1⟩ : n1 = (vts ev2).length ∧ G[vb]? = some (.arr true vg 16 (vts ev2)) := by
            rcases hv0 with ⟨h1, _⟩ | ⟨b', g', h1, h2⟩
            · cases h1
            · cases h1; exact ⟨rfl, h2⟩
          simp -implicitDefEqProofs -dsimp (maxSteps := 1000000) (disch := first | omega | (simp only [wkLen]; omega) | decide +kernel) only [↓wkPre, ↓wkPre2, ↓evC_region_st [14], ↓evC_text_st [14], ↓evC_cond, ↓evC_block, ↓evC_stop [14], wkPost, wkDef, wkF, simprocAttr, nn_v', e3, e4, e5, e6, e7, e13, e14, e15, gc]
          refine stop_cutK extMono (fun e' G' => E0 l i c w e' ∧ e' 7 = .vptr xq 0 ∧ G.set xq (odB (.ref vb vg 0 n1 false) ⟨v.who, ev2, decide (v.o.kind = 8) && decide (v.a.code = 0), i⟩) = G') ?_ ?_
          · by_cases h8 : v.o.kind = 8
            · by_cases h0 : v.a.code = 0
              · simp -implicitDefEqProofs -dsimp (maxSteps := 1000000) (disch := first | omega | (simp only [wkLen]; omega) | decide +kernel) only [↓wkPre, ↓wkPre2, ↓wkE, wkPost, wkDef, wkF, simprocAttr, nn_v', e3, e4, e5, e6, e7, e13, e14, e15, gc, hq0, h8, h0, onNK_normal]
                exact ⟨e3, e4, e5, e6, e13, e14, e15⟩
              · simp -implicitDefEqProofs -dsimp (maxSteps := 1000000) (disch := first | omega | (simp only [wkLen]; omega) | decide +kernel) only [↓wkPre, ↓wkPre2, ↓wkE, wkPost, wkDef, wkF, simprocAttr, nn_v', e3, e4, e5, e6, e7, e13, e14, e15, gc, hq0, h8, h0, onNK_normal]
                refine ⟨⟨e3, e4, e5, e6, e13, e14, e15⟩, ?_⟩
                rw [show (v.a.code == 0) = false by simpa using h0]
            · simp -implicitDefEqProofs -dsimp (maxSteps := 1000000) (disch := first | omega | (simp only [wkLen]; omega) | decide +kernel) only [↓wkPre, ↓wkPre2, ↓wkE, wkPost, wkDef, wkF, simprocAttr, nn_v', e3, e4, e5, e6, e7, e13, e14, e15, gc, hq0, h8, onNK_normal]
              exact ⟨e3, e4, e5, e6, e13, e14, e15⟩
          generalize (decide (v.o.kind = 8) && decide (v.a.code = 0)) = dn at hst ⊢
          clear e3 e4 e5 e6 e7 e13 e14 e15 e
          rintro e _ ⟨⟨e3, e4, e5, e6, e13, e14, e15⟩, e7, rfl⟩
          have g1 : (G.set xq (odB (.ref vb vg 0 n1 false) ⟨v.who, ev2, dn, i⟩))[xq]? = some (odB (.ref vb vg 0 n1 false) ⟨v.who, ev2, dn, i⟩) := hs_set hqlt
          have g2 : OwnS (G.set xq (odB (.ref vb vg 0 n1 false) ⟨v.who, ev2, dn, i⟩)) (.ref vb vg 0 n1 false) 16 (vts ev2) := hv0.set (fun e => hqvb (Option.some.inj e).symm)
          have hvlt := lt_of hb1
          have g1v : (G.set xq (odB (.ref vb vg 0 n1 false) ⟨v.who, ev2, dn, i⟩))[vb]? = some (.arr true vg 16 (vts ev2)) := (hs_ne hqvb).trans hb1
          have g1c : (G.set xq (odB (.ref vb vg 0 n1 false) ⟨v.who, ev2, dn, i⟩))[c]? = some (.var true (.p (vtP v))) := (hs_ne (Ne.symm hcq)).trans gc
          have how1 : OwnS (G.set xq (odB (.ref vb vg 0 n1 false) ⟨v.who, ev2, dn, i⟩)) w 4 (txs (cutA (l.take i)).2) := how.set hwq
          have hcir : ∀ j ∈ cft 0 R, (G.set xq (odB (.ref vb vg 0 n1 false) ⟨v.who, ev2, dn, i⟩))[j]? = G[j]? := fun j hj => hs_ne (Ne.symm (hrf j hj).1)
          have hGl : (G.set xq (odB (.ref vb vg 0 n1 false) ⟨v.who, ev2, dn, i⟩)).length = G.length := by simp
          generalize (G.set xq (odB (.ref vb vg 0 n1 false) ⟨v.who, ev2, dn, i⟩)) = G1 at g1 g2 g1v g1c how1 hcir hGl ⊢
          have hfrP : frPs Try.prog (elT Try.prog 25) [(0, .agg [.p (I v.who), .ref vb vg 0 n1 false, .p (B dn), .p (I i)])] G1 = [(0, .p (txP ⟨v.who, ev2, dn, i⟩))] := by
            rw [elT25, frPs_a, frzL44 g2]
          have hfrH : frH [(0, .agg [.p (I v.who), .ref vb vg 0 n1 false, .p (B dn), .p (I i)])] G1 = G1.set vb (.arr false vg 16 (vts ev2)) := by
            rw [frH_a]
            show freezeIds [vb] G1 = _
            simp only [freezeIds, g1v]
            rfl
          simp -implicitDefEqProofs -dsimp (maxSteps := 1000000) (disch := first | omega | (simp only [wkLen]; omega) | decide +kernel) only [↓wkPre, ↓wkPre2, ↓wkE, wkPost, wkDef, wkF, simprocAttr, nn_v', e3, e4, e5, e6, e7, e13, e14, e15, g1, hfrP, hfrH, z44, i44]
          refine append_step telem_25 (ys := [txP ⟨v.who, ev2, dn, i⟩]) (elems_new (H := G1.set vb (.arr false vg 16 (vts ev2))) (by simp) rfl) (by simp) ((how1.set hwv).app _) ?_ ?_
          · rw [byt_44, txs_len]; simp; omega
          intro w' H5 q1 q2 q3 q4
          simp only [List.length_append, List.length_cons, List.length_nil, List.length_set] at q2 q3 q4
          have kf : ∀ j, j < G.length → j ≠ vb → w.blk ≠ some j → H5[j]? = G1[j]? := fun j hj h1 h2 => (q2 j (by omega) h2).trans ((hs_app (by simp; omega)).trans (hs_ne (Ne.symm h1)))
          have g5c : H5[c]? = some (.var true (.p (vtP v))) := (kf c (lt_of gc) hcv wc).trans g1c
          obtain ⟨H6, hd, c1, c2, c3⟩ := hci.del (H1 := H5) (fun j hj => by
            have h1 := hrf j hj
            have h2 := hrl j hj
            exact (kf j h2 h1.2 (fun e => hnw j e ((cft_cons 0 _ R).mem_iff.2 (List.mem_append_right _ (List.mem_cons_of_mem _ hj))))).trans (hcir j hj))
          replace hd := congrArg noRes hd
          rw [nrS] at hd
          dsimp only at hd
          obtain ⟨ws1, ws2, ws3⟩ := own_shape q1
          simp -implicitDefEqProofs -dsimp (maxSteps := 1000000) (disch := first | omega | (simp only [wkLen]; omega) | decide +kernel) only [↓wkPre, ↓wkPre2, ↓wkE, wkPost, wkDef, wkF, simprocAttr, nn_v', e3, e4, e5, e6, e7, e13, e14, e15, g5c, hd, ws1, ws2, ws3]
          have hw0 : ∀ b, w'.blk = some b → b ∉ cft 0 R := fun b hb hm => by
            have h2 := hrl b hm
            have := q4 b hb (by omega)
            exact hnw b this ((cft_cons 0 _ R).mem_iff.2 (List.mem_append_right _ (List.mem_cons_of_mem _ hm)))
          refine ⟨l.length - (i + 1), by omega, i + 1, R, w', rfl, by omega, rfl, by push_cast; rfl, c1, ?_, ?_, hw0⟩
          · rw [hsn, hst]; exact ⟨hrp, n1'⟩
          · rw [hsn, hst, txs_snoc]
            exact q1.keep fun b hb => c2 b (fun e => hw0 b hb (by simp [cft, e]))
    · obtain rfl : i = l.length := by omega
      obtain ⟨hci, htl, how, hnw⟩ := hC
      have hok := cut_ok l l.length (Nat.le_refl _)
      have hne := cut_ne l l.length (Nat.le_refl _)
      rw [List.take_length] at htl how hok hne
      unfold cutF
      have hln := hok.ln
      obtain ⟨g, E, hE1, hE⟩ := hci.hm
      have hEw : (E.map (·.1)).Perm ((cutA l).1.map (·.who)) := by
        have h1 := (hE.map (·.1)).trans (show ((odE X).map (·.1)).Perm ((cutA l).1.map (·.who)) from by
          have := htl.hp.map (·.who)
          rw [List.map_map] at this
          unfold odE
          rw [List.map_map]
          exact this)
        exact h1
      have h0l : 0 < Hc.length := hci.lt (by simp [cft])
      simp -implicitDefEqProofs -dsimp (maxSteps := 1000000) (disch := first | omega | (simp only [wkLen]; omega) | decide +kernel) only [↓wkPre, ↓wkPre2, ↓wkE, wkPost, wkDef, wkF, simprocAttr, e3, e4, e13, e14, e15]
      rw [show evRange Try.prog 67 (.map 0) Hc = some (.it Hc.length, Hc ++ [.mit 0 g (0 :: List.range E.length)]) by unfold evRange; simp [tmap_67, hE1, amB, kI]]
      simp -implicitDefEqProofs -dsimp (maxSteps := 1000000) (disch := first | omega | (simp only [wkLen]; omega) | decide +kernel) only [↓wkPre, ↓wkPre2, ↓wkE, wkPost, wkDef, wkF, simprocAttr]
      refine loop_use extMono (fun m' e G => ∃ (todo : List Nat) (ld : Nat) (T : List Int) (u : AV), m' = todo.length ∧ e 3 = .map 0 ∧ e 4 = w ∧ e 8 = u ∧ e 76 = .it Hc.length ∧ Hc.length < G.length ∧ (∀ j, j < Hc.length → G[j]? = Hc[j]?) ∧ G[Hc.length]? = some (.mit 0 g (ld :: todo)) ∧
        (∀ b, u.blk = some b → Hc.length < b) ∧ OwnS G u 0 (T.map iE) ∧ (∀ j ∈ todo, j < E.length) ∧ (T ++ todo.map (fun j => E[j]!.1)).Perm (E.map (·.1))) ?_ E.length _ _ ⟨List.range E.length, 0, [], .nsl, by simp, ?_⟩
      · clear e3 e4 e13 e14 e15 e
        rintro m' e G ⟨todo, ld, T, u, rfl, e3, e4, e8, e76, hGl, hfr, hit, hub, hown, htd, hperm⟩
        have hTl : T.length ≤ E.length := by have := hperm.length_eq; simp at this; omega
        have hElen : E.length ≤ 500 := by
          have h1 := hEw.length_eq
          simp at h1
          omega
        have hm1 : G[0]? = some (.map true g (kI .i64 (E.map odK)) (E.map odV)) := (hfr 0 h0l).trans hE1
        simp -implicitDefEqProofs -dsimp (maxSteps := 1000000) (disch := first | omega | (simp only [wkLen]; omega) | decide +kernel) only [↓wkPre, ↓wkPre2, ↓wkE, wkPost, wkDef, wkF, simprocAttr, e76]
        rw [show iterOf G Hc.length = some (kI .i64 (E.map odK), E.map odV, todo, fun l => G.set Hc.length (.mit 0 g l)) by unfold iterOf; simp [hit, hm1], oK_some]
        refine ⟨fun hn => ?_, fun j hj => ?_⟩
        · simp only at hn
          subst hn
          simp only [List.map_nil, List.append_nil] at hperm
          have hTO : T.Perm ((cutA l).1.map (·.who)) := hperm.trans hEw
          have hfin := sorted_tOf hok.nd hTO
          have hTlen := hTO.length_eq
          rw [List.length_map] at hTlen
          have hsl : (sortI T).length = T.length := by simp
          have hSp : (sortI T).Perm ((cutA l).1.map (·.who)) := (List.mergeSort_perm T _).trans hTO
          obtain ⟨us1, us2, us3⟩ := own_shape hown
          simp -implicitDefEqProofs -dsimp (maxSteps := 1000000) (disch := first | omega | (simp only [wkLen]; omega) | decide +kernel) only [↓wkPre, ↓wkPre2, ↓evC_region_st [23], ↓evC_text_st [23], ↓evC_cond, ↓evC_block, ↓evC_stop [23], wkPost, wkDef, wkF, simprocAttr, e3, e4, e8, e76, us1, us2, us3]
          refine stop_cutK extMono (fun e' G' => e' 3 = .map 0 ∧ e' 4 = w ∧ e' 8 = u ∧ OwnS G' u 0 ((sortI T).map iE) ∧ (∀ j, j < Hc.length → G'[j]? = Hc[j]?)) ?_ ?_
          · rcases id hown with ⟨rfl, hnil⟩ | ⟨ub, ug, rfl, hub2⟩
            · have hT0 : T = [] := by simpa using hnil
              subst hT0
              simp -implicitDefEqProofs -dsimp (maxSteps := 1000000) (disch := first | omega | (simp only [wkLen]; omega) | decide +kernel) only [↓wkPre, ↓wkPre2, ↓wkE, wkPost, wkDef, wkF, simprocAttr, e3, e4, e8, onNK_normal]
              refine ext_call md_26 (.inl ⟨rfl, ?_⟩)
              simp -implicitDefEqProofs -dsimp (maxSteps := 1000000) (disch := first | omega | (simp only [wkLen]; omega) | decide +kernel) only [↓wkPre, ↓wkPre2, ↓wkE, wkPost, wkDef, wkF, simprocAttr, e3, e4, e8, onNK_normal]
              exact ⟨by simpa using hown, hfr⟩
            · simp -implicitDefEqProofs -dsimp (maxSteps := 1000000) (disch := first | omega | (simp only [wkLen]; omega) | decide +kernel) only [↓wkPre, ↓wkPre2, ↓wkE, wkPost, wkDef, wkF, simprocAttr, e3, e4, e8, onNK_normal]
              rw [List.length_map] at e8 ⊢
              refine ext_call md_26 (.inr ⟨ub, ug, false, T, hub2, by omega, rfl, ?_⟩)
              simp -implicitDefEqProofs -dsimp (maxSteps := 1000000) (disch := first | omega | (simp only [wkLen]; omega) | decide +kernel) only [↓wkPre, ↓wkPre2, ↓wkE, wkPost, wkDef, wkF, simprocAttr, e3, e4, e8, onNK_normal]
              have h5 := hub ub rfl
              refine ⟨.inr ⟨ub, ug, by simp, hs_set (lt_of hub2)⟩, fun j hj => (hs_ne (by omega)).trans (hfr j hj)⟩
          clear e3 e4 e8 e76 hit hown hfr us1 us2 us3 hGl hm1 e G
          rintro e G ⟨e3, e4, e8, hown, hfr⟩
          rw [← hfin]
          have hmb : G[0]? = some (amB .i64 odK odV true g E) := (hfr 0 h0l).trans hE1
          have hX0 : ∀ x ∈ X, OdI G x := fun x hx => (hci.hx x hx).keep fun j hj => hfr j (hci.lt (mem_cft hx hj))
          have hXO : ∀ x ∈ X, x.t ∈ (cutA l).1 := fun x hx => htl.hp.mem_iff.1 (List.mem_map.2 ⟨x, hx, rfl⟩)
          have howG : OwnS G w 4 (txs (cutA l).2) := how.keep fun b hb => hfr b (how.lt b hb)
          rcases id hown with ⟨rfl, hnil⟩ | ⟨ub, ug, rfl, hub2⟩
          · have hS0 : sortI T = [] := by simpa using hnil
            rw [hS0]
            obtain ⟨vs1, vs2, vs3⟩ := own_shape howG
            simp -implicitDefEqProofs -dsimp (maxSteps := 1000000) (disch := first | omega | (simp only [wkLen]; omega) | decide +kernel) only [↓wkPre, ↓wkPre2, ↓wkE, wkPost, wkDef, wkF, simprocAttr, e3, e4, e8]
            refine loop_use extMono (fun m' e Hc => m' = 0 ∧ e 4 = w ∧ e 88 = .p (I 0) ∧ e 89 = .p (I 0) ∧ Hc = G) ?_ 0 _ _ ⟨rfl, ?_⟩
            · rintro m' e Hc ⟨rfl, e4, e88, e89, rfl⟩
              simp -implicitDefEqProofs -dsimp (maxSteps := 1000000) (disch := first | omega | (simp only [wkLen]; omega) | decide +kernel) only [↓wkPre, ↓wkPre2, ↓wkE, wkPost, wkDef, wkF, simprocAttr, e4, e88, e89, vs1, vs2, vs3]
              rw [frzR_o telem_25 howG, List.map_nil, List.append_nil]
              rfl
            · simp -implicitDefEqProofs -dsimp (maxSteps := 1000000) (disch := first | omega | (simp only [wkLen]; omega) | decide +kernel) only [↓wkPre, ↓wkPre2, ↓wkE, wkPost, wkDef, wkF, simprocAttr]
              exact e4
          · have h5 := hub ub rfl
            have hSl : ((sortI T).map iE).length = T.length := by rw [List.length_map, hsl]
            rw [hSl] at e8 hub
            simp -implicitDefEqProofs -dsimp (maxSteps := 1000000) (disch := first | omega | (simp only [wkLen]; omega) | decide +kernel) only [↓wkPre, ↓wkPre2, ↓wkE, wkPost, wkDef, wkF, simprocAttr, e3, e4, e8]
            have hub0 : ub ∉ cft 0 X := fun hm => by have := hci.lt hm; omega
            refine loop_use extMono (fun m' e G => ∃ (k : Nat) (Y : List Od) (w' : AV), m' = T.length - k ∧ k ≤ T.length ∧ e 3 = .map 0 ∧ e 4 = w' ∧ e 87 = .ref ub ug 0 T.length false ∧ e 88 = .p (I T.length) ∧ e 89 = .p (I k) ∧ G[ub]? = some (.arr true ug 0 ((sortI T).map iE)) ∧ G[0]? = some (amB .i64 odK odV true g E) ∧
              (∀ y ∈ Y, OdI G y ∧ y ∈ X) ∧ (Y.map (·.t.who)).Perm ((sortI T).drop k) ∧ (cft 0 Y).Nodup ∧ ub ∉ cft 0 Y ∧ OwnS G w' 4 (txs ((cutA l).2 ++ ((sortI T).take k).map (tOf (cutA l).1))) ∧ (∀ c, w'.blk = some c → c ∉ cft 0 Y ∧ c ≠ ub)) ?_ T.length _ _ ⟨0, X, w, rfl, by omega, ?_⟩
            · clear e3 e4 e8 hown hfr hmb hX0 howG hub2 e G
              rintro m' e G ⟨k, Y, w', rfl, hk, e3, e4, e87, e88, e89, gub, gm, hY, hYp, hYn, hYu, how', hwY⟩
              rcases Nat.lt_or_ge k T.length with hlk | hgk
              · have hlS : k < (sortI T).length := by omega
                have gk : ((sortI T).map iE)[k]? = some (I (sortI T)[k]) := by simp [hlS]
                rw [List.drop_eq_getElem_cons hlS] at hYp
                have htk : (cutA l).2 ++ ((sortI T).take (k + 1)).map (tOf (cutA l).1) = ((cutA l).2 ++ ((sortI T).take k).map (tOf (cutA l).1)) ++ [tOf (cutA l).1 (sortI T)[k]] := by
                  rw [List.take_succ_eq_append_getElem hlS, List.map_append, List.append_assoc]; rfl
                generalize (sortI T)[k] = wk at gk hYp htk
                obtain ⟨x, hx, hxw⟩ := List.mem_map.1 (hYp.mem_iff.2 List.mem_cons_self)
                obtain ⟨A, C, hAC⟩ := List.append_of_mem hx
                have hYx : Y.Perm (x :: (A ++ C)) := by rw [hAC]; exact List.perm_middle
                generalize A ++ C = Y2 at hYx
                obtain ⟨hxI, hxX⟩ := hY x hx
                have hxt : tOf (cutA l).1 wk = x.t := by rw [← hxw]; exact tOf_mem hok.nd (hXO x hxX)
                rw [hxt] at htk
                have hlk2 : evLook Try.prog 67 (.map 0) (.p (I wk)) false G = some (.vptr x.q 0) := by
                  have := am_hit (P := Try.prog) tmap_67 tzero_68 gm (hci.ndE hE) (x := (x.t.who, x.q)) (hE.mem_iff.2 (List.mem_map.2 ⟨x, hxX, rfl⟩)) false
                  rw [hxw] at this
                  exact this
                have hY2p : (Y2.map (·.t.who)).Perm ((sortI T).drop (k + 1)) := by
                  have h1 := (hYx.map (·.t.who)).symm.trans hYp
                  rw [List.map_cons, hxw] at h1
                  exact (List.perm_cons _).1 h1
                have hnf := ((cft_cons 0 x Y2).nodup_iff).1 (((cft_perm hYx).nodup_iff).1 hYn)
                have hmem := fun j => ((cft_perm hYx).mem_iff (a := j)).trans ((cft_cons 0 x Y2).mem_iff (a := j))
                have hxne : x.t.evs ≠ [] := hne _ (hXO x hxX)
                have hlen2 : ((cutA l).2 ++ ((sortI T).take k).map (tOf (cutA l).1)).length ≤ 1000 := by
                  rw [List.length_append, List.length_map, List.length_take]; omega
                obtain ⟨xq, xv, xt⟩ := x
                dsimp only at hxt htk hlk2 hnf hmem hxne hxw
                have gq := hxI.hq
                have gv := hxI.hv
                dsimp only at gq gv
                rcases id gv with ⟨_, hnil⟩ | ⟨vb, vg, rfl, hvb⟩
                · exact absurd (by simpa [vts] using hnil) hxne
                generalize hm : (vts xt.evs).length = mm at gv gq hnf hmem hxI
                obtain ⟨d1, d2, d3⟩ := List.nodup_append.1 hnf
                have hvbY : vb ∉ cft 0 Y2 := fun hmm => d3 vb (by simp [AV.blk]) vb (List.mem_cons_of_mem _ hmm) rfl
                have hvin : vb ∈ cft 0 Y := (hmem vb).2 (List.mem_append_left _ (by simp [AV.blk]))
                have hv0 : vb ≠ 0 := fun e => hvbY (by simp [cft, e])
                have hvu : vb ≠ ub := fun e => hYu (e ▸ hvin)
                have hwv : w'.blk ≠ some vb := fun e => (hwY vb e).1 hvin
                have hfrP : frPs Try.prog (elT Try.prog 25) [(0, .agg [.p (I xt.who), .ref vb vg 0 mm false, .p (B xt.done), .p (I xt.pos)])] G = [(0, .p (txP xt))] := by
                  rw [elT25, frPs_a, frzL44 gv]
                have hfrH : frH [(0, .agg [.p (I xt.who), .ref vb vg 0 mm false, .p (B xt.done), .p (I xt.pos)])] G = G.set vb (.arr false vg 16 (vts xt.evs)) := by
                  rw [frH_a]
                  show freezeIds [vb] G = _
                  simp only [freezeIds, hvb]
                  rfl
                simp -implicitDefEqProofs -dsimp (maxSteps := 1000000) (disch := first | omega | (simp only [wkLen]; omega) | decide +kernel) only [↓wkPre, ↓wkPre2, ↓wkE, wkPost, wkDef, wkF, simprocAttr, nn_v', e3, e4, e87, e88, e89, gub, gk, hSl, hlk2, gq, hfrP, hfrH, z44, i44]
                refine append_step telem_25 (ys := [txP xt]) (elems_new (H := G.set vb (.arr false vg 16 (vts xt.evs))) (by simp) rfl) (by simp) ((how'.set hwv).app _) ?_ ?_
                · rw [byt_44, txs_len]; simp only [List.length_cons, List.length_nil]; omega
                intro w2 H5 q1 q2 q3 q4
                simp only [List.length_append, List.length_cons, List.length_nil, List.length_set] at q2 q3 q4
                have kf : ∀ j, j < G.length → j ≠ vb → w'.blk ≠ some j → H5[j]? = G[j]? := fun j hj h1 h2 => (q2 j (by omega) h2).trans ((hs_app (by simp; omega)).trans (hs_ne (Ne.symm h1)))
                simp -implicitDefEqProofs -dsimp (maxSteps := 1000000) (disch := first | omega | (simp only [wkLen]; omega) | decide +kernel) only [↓wkPre, ↓wkPre2, ↓wkE, wkPost, wkDef, wkF, simprocAttr, nn_v', e3, e4, e87, e88, e89]
                have hY2Y : ∀ j, j ∈ cft 0 Y2 → j ∈ cft 0 Y := fun j hj => (hmem j).2 (List.mem_append_right _ (List.mem_cons_of_mem _ hj))
                have hY2v : ∀ j, j ∈ cft 0 Y2 → j ≠ vb := fun j hj e => hvbY (e ▸ hj)
                have hwY2 : ∀ c, w2.blk = some c → c ∉ cft 0 Y ∧ c ≠ ub := fun c hc => by
                  rcases Nat.lt_or_ge c G.length with h1 | h1
                  · exact hwY c (q4 c hc (by omega))
                  · refine ⟨fun hmm => ?_, fun e => by have := lt_of gub; omega⟩
                    rcases List.mem_cons.1 hmm with rfl | hmm
                    · have := lt_of gm; omega
                    · obtain ⟨y, hy, hyb⟩ := List.mem_flatMap.1 hmm
                      have := (hY y hy).1.lt hyb
                      omega
                refine ⟨T.length - (k + 1), by omega, k + 1, Y2, w2, rfl, by omega, rfl, by push_cast; rfl, ?_, ?_, ?_, hY2p, (List.nodup_cons.1 d2).2, fun hmm => hYu (hY2Y ub hmm), by rw [htk, txs_snoc]; exact q1, fun c hc => ⟨fun hmm => (hwY2 c hc).1 (hY2Y c hmm), (hwY2 c hc).2⟩⟩
                · exact (kf ub (lt_of gub) (Ne.symm hvu) (fun e => (hwY ub e).2 rfl)).trans gub
                · exact (kf 0 (lt_of gm) (Ne.symm hv0) (fun e => (hwY 0 e).1 (by simp [cft]))).trans gm
                · intro y hy
                  have hyY : y ∈ Y := hYx.mem_iff.2 (List.mem_cons_of_mem _ hy)
                  obtain ⟨y1, y2⟩ := hY y hyY
                  refine ⟨y1.keep fun j hj => ?_, y2⟩
                  have hj2 : j ∈ cft 0 Y2 := mem_cft hy hj
                  exact kf j (y1.lt hj) (hY2v j hj2) (fun e => (hwY j e).1 (hY2Y j hj2))
              · obtain rfl : k = T.length := by omega
                rw [List.take_of_length_le (by omega)] at how'
                obtain ⟨vs1, vs2, vs3⟩ := own_shape how'
                simp -implicitDefEqProofs -dsimp (maxSteps := 1000000) (disch := first | omega | (simp only [wkLen]; omega) | decide +kernel) only [↓wkPre, ↓wkPre2, ↓wkE, wkPost, wkDef, wkF, simprocAttr, e4, e87, e88, e89, vs1, vs2, vs3]
                rw [frzR_o telem_25 how']
                rfl
            · simp -implicitDefEqProofs -dsimp (maxSteps := 1000000) (disch := first | omega | (simp only [wkLen]; omega) | decide +kernel) only [↓wkPre, ↓wkPre2, ↓wkE, wkPost, wkDef, wkF, simprocAttr]
              exact ⟨e3, e4, hub2, hmb, fun y hy => ⟨hX0 y hy, hy⟩, (by
                have h1 := htl.hp.map (·.who)
                rw [List.map_map] at h1
                exact h1.trans hSp.symm), hci.nf, hub0, by simpa using howG, fun c hc => ⟨hnw c hc, fun e => by have := how.lt c hc; omega⟩⟩
        · simp only at hj
          have hjM := htd j hj
          have hg1 : (kI .i64 (E.map odK))[j]? = some (I E[j]!.1) := by simp [kI, hjM, odK]
          have hg2 : (E.map odV)[j]? = some (.vptr E[j]!.2 0) := by simp [hjM, odV]
          simp only [hg1, oK_some, hg2]
          have hkey : entOf (G.set Hc.length (.mit 0 g ((j + 1) :: todo.erase j))) Hc.length = some (I E[j]!.1, .vptr E[j]!.2 0) := by
            unfold entOf
            rw [hs_set hGl]
            simp only [hs_ne (show Hc.length ≠ 0 by omega), hm1, hg1, hg2, if_true, Option.bind_some, Option.map_some]
          simp -implicitDefEqProofs -dsimp (maxSteps := 1000000) (disch := first | omega | (simp only [wkLen]; omega) | decide +kernel) only [↓wkPre, ↓wkPre2, ↓wkE, wkPost, wkDef, wkF, simprocAttr, e3, e4, e8, e76, hkey]
          refine append_step telem_41 (ys := [iE E[j]!.1]) (elems_new (H := G.set Hc.length (.mit 0 g ((j + 1) :: todo.erase j))) (by simp) rfl) (by simp) ((hown.set (fun h => by have := hub _ h; omega)).app _) ?_ ?_
          · rw [byt_3]; simp; omega
          intro u' G' hown' hfr' hle hb'
          simp only [List.length_append, List.length_set, List.length_cons, List.length_nil] at hfr' hle hb'
          simp -implicitDefEqProofs -dsimp (maxSteps := 1000000) (disch := first | omega | (simp only [wkLen]; omega) | decide +kernel) only [↓wkPre, ↓wkPre2, ↓wkE, wkPost, wkDef, wkF, simprocAttr, e3, e4, e8, e76]
          have hp := (List.perm_cons_erase hj).symm
          refine ⟨(todo.erase j).length, by rw [List.length_erase_of_mem hj]; have := List.length_pos_of_mem hj; omega, todo.erase j, j + 1, T ++ [E[j]!.1], u', rfl, rfl, by omega, ?_, ?_, fun c hc => ?_, ?_, fun i hi => htd i (List.mem_of_mem_erase hi), ?_⟩
          · intro i hi
            rw [hfr' i (by omega) (fun e => by have := hub _ e; omega), hs_app (by simp; omega), hs_ne (by omega)]; exact hfr i hi
          · rw [hfr' Hc.length (by omega) (fun e => by have := hub _ e; omega), hs_app (by simp; omega), hs_set hGl]
          · by_cases hcl2 : c < G.length + (0 + 1)
            · exact hub c (hb' c hc hcl2)
            · omega
          · rw [List.map_append]; exact hown'
          · refine List.Perm.trans ?_ hperm
            rw [List.append_assoc]
            refine List.Perm.append_left T ?_
            have := hp.map (fun j => E[j]!.1)
            simpa using this
      · simp -implicitDefEqProofs -dsimp (maxSteps := 1000000) (disch := first | omega | (simp only [wkLen]; omega) | decide +kernel) only [↓wkPre, ↓wkPre2, ↓wkE, wkPost, wkDef, wkF, simprocAttr]
        refine ⟨e3, e4, by omega, fun i hi => hs_app hi, fun b hb => (by cases hb), OwnS.nil _ _, fun j hj => by simpa using hj, ?_⟩
        have : (List.range E.length).map (fun j => E[j]!.1) = E.map (·.1) := by
          apply List.ext_getElem (by simp)
          intro i h1 h2
          simp at h1
          simp [h1]
        rw [this]
  · simp -implicitDefEqProofs -dsimp (maxSteps := 1000000) (disch := first | omega | (simp only [wkLen]; omega) | decide +kernel) only [↓wkPre, ↓wkPre2, ↓wkE, wkPost, wkDef, wkF, simprocAttr]
    exact ⟨⟨⟨0, [], rfl, List.Perm.refl _⟩, fun x hx => (by cases hx), List.nodup_nil, by simp [cft]⟩, ⟨List.Perm.refl _, List.nodup_nil⟩, OwnS.nil _ _, fun b hb => (by cases hb)⟩
end Go.Ev.F35
end
