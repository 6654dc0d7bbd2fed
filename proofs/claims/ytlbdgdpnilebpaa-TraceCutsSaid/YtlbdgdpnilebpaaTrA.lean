/- A part of the proof: walks of the functions that the law calls. No condition. -/
import Derived.Test.YtlbdgdpnilebpaaFlD
set_option linter.all false
section
namespace Go.Ev.F35
open Go.Proofs Go.Ev
set_option maxRecDepth 100000
set_option linter.all false
structure MiW (t : Mi) (k : Nat) : Prop where
  sv : ∀ s ∈ t.S, inI s.1 ∧ s.2 ≤ t.L.length
  nd : (t.S.map (·.1)).Nodup
  ls : t.S.length ≤ k
  off : t.on = false → t = mi0
theorem MiW.mi0 (k : Nat) : MiW mi0 k := ⟨fun s h => (by cases h), List.nodup_nil, Nat.zero_le _, fun _ => rfl⟩
theorem MiW.on {t : Mi} {k : Nat} (h : MiW t k) : MiW (onMi t) k := ⟨h.sv, h.nd, h.ls, fun h => by cases h⟩
theorem MiW.le {t : Mi} {k k' : Nat} (h : MiW t k) (hk : k ≤ k') : MiW t k' := ⟨h.sv, h.nd, Nat.le_trans h.ls hk, h.off⟩
def sumL (S : List Mi) : Nat := (S.map fun t => t.L.length).sum
structure Wfm (m : Mo) (k : Nat) : Prop where
  asc : Asc m.M
  n5 : m.S.length = 1
  sz : m.M.length + sumL m.S ≤ k
  si : ∀ t ∈ m.S, MiW t k
theorem sumL_set {S : List Mi} {i : Nat} {t : Mi} (h : S[i]? = some t) (t' : Mi) : sumL (S.set i t') + t.L.length = sumL S + t'.L.length := by
  unfold sumL
  induction S generalizing i with
  | nil => simp at h
  | cons x S ih =>
    cases i with
    | zero =>
      simp only [List.getElem?_cons_zero, Option.some.injEq] at h
      subst h
      simp only [List.set_cons_zero, List.map_cons, List.sum_cons]
      omega
    | succ i =>
      simp only [List.getElem?_cons_succ] at h
      have := ih h
      simp only [List.set_cons_succ, List.map_cons, List.sum_cons]
      omega
theorem sumL_get {S : List Mi} {i : Nat} {t : Mi} (h : S[i]? = some t) : t.L.length ≤ sumL S := by
  have := sumL_set h mi0
  simp only [mi0, List.length_nil] at this
  omega
theorem sumL_rep (n : Nat) : sumL (List.replicate n mi0) = 0 := by
  unfold sumL
  induction n with
  | zero => rfl
  | succ n ih => rw [List.replicate_succ, List.map_cons, List.sum_cons, ih]; rfl
theorem Wfm.le {m : Mo} {k k' : Nat} (h : Wfm m k) (hk : k ≤ k') : Wfm m k' := ⟨h.asc, h.n5, Nat.le_trans h.sz hk, fun t ht => (h.si t ht).le hk⟩
theorem Wfm.put {m : Mo} {k who : Nat} {t t' : Mi} {M' : List Rc} (h : Wfm m k) (ht : m.S[who]? = some t) (ha : Asc M') (hl : M'.length + t'.L.length ≤ m.M.length + t.L.length + 1) (hw : MiW t' (k + 1)) : Wfm ⟨M', m.S.set who t'⟩ (k + 1) where
  asc := ha
  n5 := by simpa using h.n5
  sz := by
    have h1 := sumL_set ht t'
    have h2 := h.sz
    show M'.length + sumL (m.S.set who t') ≤ k + 1
    omega
  si x hx := by
    rcases List.mem_or_eq_of_mem_set hx with h1 | rfl
    · exact (h.si x h1).le (by omega)
    · exact hw
theorem Wfm.put0 {m : Mo} {k who : Nat} {t t' : Mi} (h : Wfm m k) (ht : m.S[who]? = some t) (hl : t'.L.length ≤ t.L.length) (hw : MiW t' k) : Wfm ⟨m.M, m.S.set who t'⟩ k where
  asc := h.asc
  n5 := by simpa using h.n5
  sz := by
    have h1 := sumL_set ht t'
    have h2 := h.sz
    show m.M.length + sumL (m.S.set who t') ≤ k
    omega
  si x hx := by
    rcases List.mem_or_eq_of_mem_set hx with h1 | rfl
    · exact h.si x h1
    · exact hw
theorem Wfm.new : Wfm ⟨[], List.replicate 1 mi0⟩ 0 := ⟨List.Pairwise.nil, rfl, Nat.le_refl _, fun t ht => by rw [List.eq_of_mem_replicate ht]; exact MiW.mi0 _⟩
theorem Wfm.leave {m : Mo} {k who : Nat} (h : Wfm m k) (hw : who < 1) : Wfm ⟨m.M, m.S.set who mi0⟩ k :=
  h.put0 (List.getElem?_eq_getElem (by rw [h.n5]; exact hw)) (Nat.zero_le _) (MiW.mi0 _)
theorem Wfm.mem {m : Mo} {k who : Nat} {t : Mi} (h : Wfm m k) (ht : m.S[who]? = some t) : MiW t k := h.si t (List.mem_of_getElem? ht)
theorem Wfm.enter {m : Mo} {k who : Nat} {t : Mi} (h : Wfm m k) (ht : m.S[who]? = some t) : Wfm ⟨m.M, m.S.set who (onMi t)⟩ k := h.put0 ht (Nat.le_refl _) (h.mem ht).on
theorem Wfm.crash {m : Mo} {k : Nat} (h : Wfm m k) : Wfm ⟨m.M, List.replicate m.S.length mi0⟩ k where
  asc := h.asc
  n5 := by simpa using h.n5
  sz := by
    have := h.sz
    show m.M.length + sumL (List.replicate _ mi0) ≤ k
    rw [sumL_rep]; omega
  si t ht := by rw [List.eq_of_mem_replicate ht]; exact MiW.mi0 _
theorem putS_w {S : List Sv} {n : Int} {L : Nat} {k : Nat} (h1 : ∀ s ∈ S, inI s.1 ∧ s.2 ≤ L) (h2 : (S.map (·.1)).Nodup) (h3 : S.length ≤ k) (hn : inI n) :
    (∀ s ∈ putS S n L, inI s.1 ∧ s.2 ≤ L) ∧ ((putS S n L).map (·.1)).Nodup ∧ (putS S n L).length ≤ k + 1 := by
  unfold putS
  refine ⟨fun s hs => ?_, ?_, ?_⟩
  · rcases List.mem_append.1 hs with h | h
    · exact h1 s (List.mem_filter.1 h).1
    · rw [List.mem_singleton.1 h]; exact ⟨hn, Nat.le_refl _⟩
  · rw [List.map_append]
    refine List.nodup_append.2 ⟨h2.sublist (List.filter_sublist.map _), by simp, fun a ha b hb e => ?_⟩
    obtain ⟨s, hs, rfl⟩ := List.mem_map.1 ha
    have := (List.mem_filter.1 hs).2
    simp at hb
    subst hb
    simp [e] at this
  · rw [List.length_append]
    have := List.length_filter_le (fun s : Sv => !(s.1 == n)) S
    simp only [List.length_cons, List.length_nil]
    omega
theorem turnF_w {m : Mo} {k : Nat} {t : Mi} {o : Ao} (ha : Asc m.M) (h : MiW t k) (hon : t.on = true) (hn : inI o.n) :
    Asc (turnF m.M t o).1 ∧ (turnF m.M t o).1.length + (turnF m.M t o).2.1.L.length ≤ m.M.length + t.L.length + 1 ∧ MiW (turnF m.M t o).2.1 (k + 1) := by
  unfold turnF
  split
  · obtain ⟨h1, h2, h3⟩ := putS_w (L := t.L.length) (n := o.n) h.sv h.nd h.ls hn
    exact ⟨ha, by dsimp only; omega, h1, h2, h3, fun h => by rw [hon] at h; cases h⟩
  split
  · cases hg : getS t.S o.n with
    | none => exact ⟨ha, by dsimp only; omega, h.le (by omega)⟩
    | some j =>
      have hj := (h.sv _ (getS_mem hg)).2
      dsimp only at hj
      refine ⟨ha, by simp only [List.length_take]; omega, fun s hs => ?_, ?_, ?_, fun h => by rw [hon] at h; cases h⟩
      · have h1 := List.mem_filter.1 hs
        have h2 : s.2 ≤ j := by simpa using h1.2
        refine ⟨(h.sv s h1.1).1, ?_⟩
        dsimp only
        rw [List.length_take]; omega
      · exact h.nd.sublist (List.filter_sublist.map _)
      · have := List.length_filter_le (fun s : Sv => decide (s.2 ≤ j)) t.S
        have := h.ls
        show (List.filter _ _).length ≤ _
        omega
  split
  · have := viewF_len m.M t.L
    exact ⟨ha.view _, by dsimp only [mi0, List.length_nil]; omega, MiW.mi0 _⟩
  split
  · exact ⟨ha, by dsimp only [mi0, List.length_nil]; omega, MiW.mi0 _⟩
  · exact ⟨ha, by dsimp only; omega, h.le (by omega)⟩
theorem writeF_w {k : Nat} {t : Mi} (h : MiW t k) (w : Wr) : MiW (writeF t w) (k + 1) ∧ (writeF t w).L.length = t.L.length + 1 := by
  refine ⟨⟨fun s hs => ?_, h.nd, by have := h.ls; show t.S.length ≤ _; omega, fun h => by cases h⟩, by simp [writeF]⟩
  have := h.sv s hs
  refine ⟨this.1, ?_⟩
  show s.2 ≤ (t.L ++ [w]).length
  rw [List.length_append]; omega
theorem changeF_w {k : Nat} {t : Mi} (h : MiW t k) (V : List Rc) (o : Ao) : MiW (changeF t V o).1 (k + 1) ∧ (changeF t V o).1.L.length ≤ t.L.length + 1 := by
  have h0 : MiW t (k + 1) ∧ t.L.length ≤ t.L.length + 1 := ⟨h.le (by omega), by omega⟩
  have hw := fun w => writeF_w h w
  unfold changeF
  split
  · cases look V o.key with
    | some r => exact h0
    | none =>
      dsimp only
      split
      · exact h0
      · exact ⟨(hw _).1, Nat.le_of_eq (hw _).2⟩
  · cases look V o.key with
    | none => exact h0
    | some r =>
      dsimp only
      split
      · exact h0
      · exact ⟨(hw _).1, Nat.le_of_eq (hw _).2⟩
theorem doF_wf {m : Mo} {k who : Nat} {t : Mi} {o : Ao} (h : Wfm m k) (ht : m.S[who]? = some t) (hn : inI o.n) : Wfm (doF m t who o).1 (k + 1) := by
  have hmi := (h.mem ht).on
  unfold doF
  split
  · exact h.le (by omega)
  split
  · exact h.le (by omega)
  split
  · obtain ⟨h1, h2, h3⟩ := turnF_w (o := o) h.asc hmi rfl hn
    exact h.put ht h1 h2 h3
  split
  · obtain ⟨h1, h2⟩ := changeF_w hmi (viewF m.M t.L) o
    exact h.put ht h.asc (by have : (onMi t).L.length = t.L.length := rfl; omega) h1
  · exact h.put ht h.asc (by show _ + t.L.length ≤ _; omega) (hmi.le (by omega))
theorem inF_len' (L : List Rc) (w : Re) : (inF L w).length ≤ L.length := List.length_filter_le _ _
theorem doF_an {m : Mo} {who : Nat} {t : Mi} {o : Ao} (hl : m.M.length + t.L.length ≤ 900) : (doF m t who o).2.recs.length ≤ 1000 := by
  have hv := viewF_len m.M t.L
  unfold doF
  split
  · exact Nat.zero_le _
  split
  · exact Nat.zero_le _
  split
  · dsimp only; rw [(turnF_ans m.M (onMi t) o).1]; exact Nat.zero_le _
  split
  · dsimp only
    unfold changeF
    split
    · cases look (viewF m.M t.L) o.key with
      | some r => exact Nat.zero_le _
      | none => dsimp only; split <;> exact Nat.zero_le _
    · cases look (viewF m.M t.L) o.key with
      | none => exact Nat.zero_le _
      | some r => dsimp only; split <;> simp
  · dsimp only
    unfold asksF
    split
    · cases look (viewF m.M t.L) o.key <;> simp
    split
    · have := inF_len' (viewF m.M t.L) o.w
      dsimp only; omega
    · exact Nat.zero_le _
theorem Wfm.bd {m : Mo} {k who : Nat} {t : Mi} (h : Wfm m k) (ht : m.S[who]? = some t) : m.M.length + t.L.length ≤ k := by
  have := sumL_get ht
  have := h.sz
  omega
end Go.Ev.F35
end
section
namespace Go.Ev.F35
open Go.Proofs Go.Ev
set_option maxRecDepth 100000
set_option linter.all false
/-- Any record. -/
structure Rg where
  id : Int
  key : Int
  x : Int
  y : Int
  val : List UInt8
  gh : Bool
deriving DecidableEq
abbrev rgP (r : Rg) : PV := .agg [.int .u64 r.id, .int .u64 r.key, .int .u32 r.x, .int .u32 r.y, .str r.val, .bool r.gh]
def rgs (L : List Rg) : List PV := L.map rgP
theorem rgs_len (L : List Rg) : (rgs L).length = L.length := by simp [rgs]
theorem rgs_get {L : List Rg} {i : Nat} (h : i < L.length) : (rgs L)[i]? = some (rgP L[i]) := by simp [rgs, h]
def toRg (r : Rc) : Rg := ⟨0, r.key, r.x, r.y, r.val, false⟩
theorem rcs_rgs (L : List Rc) : rcs L = rgs (L.map toRg) := by simp [rcs, rgs, toRg]
/-- Any answer. -/
structure Ag where
  code : Int
  recs : List Rg
  n : Int
deriving DecidableEq
abbrev agP (a : Ag) : PV := .agg [I a.code, .sl 6 (rgs a.recs), I a.n]
def toAg (a : An) : Ag := ⟨a.code, a.recs.map toRg, a.n⟩
theorem an_ag (a : An) : anP a = agP (toAg a) := by simp [anP, agP, toAg, rcs_rgs]
structure Vt where
  who : Int
  at' : Int
  tr : Int
  o : Ao
  a : Ag
instance : Inhabited Vt := ⟨⟨0, 0, 0, ⟨0, 0, 0, 0, [], ⟨0, 0, 0, 0⟩, 0⟩, ⟨0, [], 0⟩⟩⟩
abbrev vtP (v : Vt) : PV := .agg [I v.who, I v.at', I v.tr, I v.o.kind, U v.o.key, u32 v.o.x, u32 v.o.y, .str v.o.val, u32 v.o.w.x0, u32 v.o.w.y0, u32 v.o.w.x1, u32 v.o.w.y1, I v.o.n, I v.a.code, .sl 6 (rgs v.a.recs), I v.a.n]
def vts (L : List Vt) : List PV := L.map vtP
theorem vts_len (L : List Vt) : (vts L).length = L.length := by simp [vts]
theorem vts_get {L : List Vt} {i : Nat} (h : i < L.length) : (vts L)[i]? = some (vtP L[i]) := by simp [vts, h]
theorem vts_snoc (L : List Vt) (r : Vt) : vts (L ++ [r]) = vts L ++ [vtP r] := by simp [vts]
structure Tx where
  who : Int
  evs : List Vt
  done : Bool
  pos : Int
instance : Inhabited Tx := ⟨⟨0, [], false, 0⟩⟩
abbrev txP (t : Tx) : PV := .agg [I t.who, .sl 16 (vts t.evs), B t.done, I t.pos]
def txs (L : List Tx) : List PV := L.map txP
theorem txs_len (L : List Tx) : (txs L).length = L.length := by simp [txs]
theorem txs_get {L : List Tx} {i : Nat} (h : i < L.length) : (txs L)[i]? = some (txP L[i]) := by simp [txs, h]
theorem txs_snoc (L : List Tx) (r : Tx) : txs (L ++ [r]) = txs L ++ [txP r] := by simp [txs]
theorem rg_ne {a b : Rg} (h : a ≠ b) : (a.id == b.id && (a.key == b.key && (a.x == b.x && (a.y == b.y && (a.val == b.val && a.gh == b.gh))))) = false := by
  rw [Bool.eq_false_iff]
  intro hc
  simp only [Bool.and_eq_true, beq_iff_eq] at hc
  apply h
  cases a; cases b
  simp_all
def endsF (v : Vt) : Bool := if v.a.code = 11 then true else if v.o.kind = 8 ∨ v.o.kind = 9 then !decide (v.a.code = 10) else false
def bsdF (v : Vt) : Bool := decide (v.a.code = 10) || decide (v.a.code = 1)
theorem q24 (v : Vt) : PS Cf okf 24 [4] [vtP v] (fun r => r = B (bsdF v)) := by
  refine PS.mk extMono Try.func24 body24 (by decide) rfl ?_
  simp only [c24, Try.f24, Option.getD_some]
  unfold bsdF
  by_cases h1 : v.a.code = 10
  · simp -implicitDefEqProofs -dsimp (maxSteps := 1000000) (disch := first | omega | (simp only [wkLen]; omega) | decide +kernel) only [↓wkPre, ↓wkPre2, ↓wkE, wkPost, wkDef, wkF, simprocAttr, h1]
    rfl
  · by_cases h2 : v.a.code = 1
    · simp -implicitDefEqProofs -dsimp (maxSteps := 1000000) (disch := first | omega | (simp only [wkLen]; omega) | decide +kernel) only [↓wkPre, ↓wkPre2, ↓wkE, wkPost, wkDef, wkF, simprocAttr, h1, h2]
      simp [h2]
    · simp -implicitDefEqProofs -dsimp (maxSteps := 1000000) (disch := first | omega | (simp only [wkLen]; omega) | decide +kernel) only [↓wkPre, ↓wkPre2, ↓wkE, wkPost, wkDef, wkF, simprocAttr, h1, h2]
      simp [h2]
theorem q12 (v : Vt) : PS Cf okf 12 [4] [vtP v] (fun r => r = B (bsdF v)) := by
  refine PS.mk extMono Try.func12 body12 (by decide) rfl ?_
  simp only [c12, Try.f12, Option.getD_some]
  unfold bsdF
  by_cases h1 : v.a.code = 10
  · simp -implicitDefEqProofs -dsimp (maxSteps := 1000000) (disch := first | omega | (simp only [wkLen]; omega) | decide +kernel) only [↓wkPre, ↓wkPre2, ↓wkE, wkPost, wkDef, wkF, simprocAttr, h1]
    rfl
  · by_cases h2 : v.a.code = 1
    · simp -implicitDefEqProofs -dsimp (maxSteps := 1000000) (disch := first | omega | (simp only [wkLen]; omega) | decide +kernel) only [↓wkPre, ↓wkPre2, ↓wkE, wkPost, wkDef, wkF, simprocAttr, h1, h2]
      simp [h2]
    · simp -implicitDefEqProofs -dsimp (maxSteps := 1000000) (disch := first | omega | (simp only [wkLen]; omega) | decide +kernel) only [↓wkPre, ↓wkPre2, ↓wkE, wkPost, wkDef, wkF, simprocAttr, h1, h2]
      simp [h2]
theorem q25 (v : Vt) : PS Cf okf 25 [4] [vtP v] (fun r => r = B (endsF v)) := by
  refine PS.mk extMono Try.func25 body25 (by decide) rfl ?_
  simp only [c25, Try.f25, Option.getD_some]
  unfold endsF
  by_cases h1 : v.a.code = 11
  · simp -implicitDefEqProofs -dsimp (maxSteps := 1000000) (disch := first | omega | (simp only [wkLen]; omega) | decide +kernel) only [↓wkPre, ↓wkPre2, ↓wkE, wkPost, wkDef, wkF, simprocAttr, h1]
    done
  · by_cases h2 : v.o.kind = 8
    · by_cases h4 : v.a.code = 10
      · simp -implicitDefEqProofs -dsimp (maxSteps := 1000000) (disch := first | omega | (simp only [wkLen]; omega) | decide +kernel) only [↓wkPre, ↓wkPre2, ↓wkE, wkPost, wkDef, wkF, simprocAttr, h1, h2, h4]
      · simp -implicitDefEqProofs -dsimp (maxSteps := 1000000) (disch := first | omega | (simp only [wkLen]; omega) | decide +kernel) only [↓wkPre, ↓wkPre2, ↓wkE, wkPost, wkDef, wkF, simprocAttr, h1, h2, h4]
        simp [h4]
    · by_cases h3 : v.o.kind = 9
      · by_cases h4 : v.a.code = 10
        · simp -implicitDefEqProofs -dsimp (maxSteps := 1000000) (disch := first | omega | (simp only [wkLen]; omega) | decide +kernel) only [↓wkPre, ↓wkPre2, ↓wkE, wkPost, wkDef, wkF, simprocAttr, h1, h2, h3, h4]
        · simp -implicitDefEqProofs -dsimp (maxSteps := 1000000) (disch := first | omega | (simp only [wkLen]; omega) | decide +kernel) only [↓wkPre, ↓wkPre2, ↓wkE, wkPost, wkDef, wkF, simprocAttr, h1, h2, h3, h4]
          simp [h4]
      · simp -implicitDefEqProofs -dsimp (maxSteps := 1000000) (disch := first | omega | (simp only [wkLen]; omega) | decide +kernel) only [↓wkPre, ↓wkPre2, ↓wkE, wkPost, wkDef, wkF, simprocAttr, h1, h2, h3]
        done
theorem q10 (v : Vt) : PS Cf okf 10 [4] [vtP v] (fun r => r = B (endsF v)) := by
  refine PS.mk extMono Try.func10 body10 (by decide) rfl ?_
  simp only [c10, Try.f10, Option.getD_some]
  unfold endsF
  by_cases h1 : v.a.code = 11
  · simp -implicitDefEqProofs -dsimp (maxSteps := 1000000) (disch := first | omega | (simp only [wkLen]; omega) | decide +kernel) only [↓wkPre, ↓wkPre2, ↓wkE, wkPost, wkDef, wkF, simprocAttr, h1]
    done
  · by_cases h2 : v.o.kind = 8
    · by_cases h4 : v.a.code = 10
      · simp -implicitDefEqProofs -dsimp (maxSteps := 1000000) (disch := first | omega | (simp only [wkLen]; omega) | decide +kernel) only [↓wkPre, ↓wkPre2, ↓wkE, wkPost, wkDef, wkF, simprocAttr, h1, h2, h4]
      · simp -implicitDefEqProofs -dsimp (maxSteps := 1000000) (disch := first | omega | (simp only [wkLen]; omega) | decide +kernel) only [↓wkPre, ↓wkPre2, ↓wkE, wkPost, wkDef, wkF, simprocAttr, h1, h2, h4]
        simp [h4]
    · by_cases h3 : v.o.kind = 9
      · by_cases h4 : v.a.code = 10
        · simp -implicitDefEqProofs -dsimp (maxSteps := 1000000) (disch := first | omega | (simp only [wkLen]; omega) | decide +kernel) only [↓wkPre, ↓wkPre2, ↓wkE, wkPost, wkDef, wkF, simprocAttr, h1, h2, h3, h4]
        · simp -implicitDefEqProofs -dsimp (maxSteps := 1000000) (disch := first | omega | (simp only [wkLen]; omega) | decide +kernel) only [↓wkPre, ↓wkPre2, ↓wkE, wkPost, wkDef, wkF, simprocAttr, h1, h2, h3, h4]
          simp [h4]
      · simp -implicitDefEqProofs -dsimp (maxSteps := 1000000) (disch := first | omega | (simp only [wkLen]; omega) | decide +kernel) only [↓wkPre, ↓wkPre2, ↓wkE, wkPost, wkDef, wkF, simprocAttr, h1, h2, h3]
        done
theorem q37 (A C : List Rg) (hA : A.length ≤ 1000) : PS Cf okf 37 [4] [.sl 6 (rgs A), .sl 6 (rgs C)] (fun v => v = B (decide (A = C))) := by
  refine PS.mk extMono Try.func37 body37 (by decide) rfl ?_
  simp only [c37, Try.f37, Option.getD_some]
  have hl := rgs_len A
  have hm := rgs_len C
  by_cases hlen : A.length = C.length
  · have hlen' : (A.length : Int) = C.length := by omega
    simp -implicitDefEqProofs -dsimp (maxSteps := 1000000) (disch := first | omega | (simp only [wkLen]; omega) | decide +kernel) only [↓wkPre, ↓wkPre2, ↓wkE, wkPost, wkDef, wkF, simprocAttr, hl, hm, hlen']
    refine loop_use extMono (fun m' e H => ∃ (i : Nat), m' = A.length - i ∧ i ≤ A.length ∧ e 0 = .p (.sl 6 (rgs A)) ∧ e 1 = .p (.sl 6 (rgs C)) ∧ e 12 = .p (I A.length) ∧ e 13 = .p (I i) ∧ ∀ j (h : j < A.length), j < i → A[j] = C[j]) ?_ A.length _ _ ⟨0, rfl, by omega, ?_⟩
    · rintro m' e H ⟨i, rfl, hi, e0, e1, e12, e13, hall⟩
      rcases Nat.lt_or_ge i A.length with hlt | hge
      · have gi := rgs_get hlt
        have gj := rgs_get (L := C) (i := i) (by omega)
        by_cases heq : A[i] = C[i]
        · rw [← heq] at gj
          simp -implicitDefEqProofs -dsimp (maxSteps := 1000000) (disch := first | omega | (simp only [wkLen]; omega) | decide +kernel) only [↓wkPre, ↓wkPre2, ↓wkE, wkPost, wkDef, wkF, simprocAttr, e0, e1, e12, e13, hl, hm, gi, gj]
          refine ⟨A.length - (i + 1), by omega, i + 1, rfl, by omega, by push_cast; rfl, fun j h hj => ?_⟩
          by_cases hji : j = i
          · subst hji; exact heq
          · exact hall j h (by omega)
        · have hne := rg_ne heq
          simp -implicitDefEqProofs -dsimp (maxSteps := 1000000) (disch := first | omega | (simp only [wkLen]; omega) | decide +kernel) only [↓wkPre, ↓wkPre2, ↓wkE, wkPost, wkDef, wkF, simprocAttr, e0, e1, e12, e13, hl, hm, gi, gj, hne]
          have : ¬ A = C := fun h => heq (by simp [h])
          simp [this]
      · simp -implicitDefEqProofs -dsimp (maxSteps := 1000000) (disch := first | omega | (simp only [wkLen]; omega) | decide +kernel) only [↓wkPre, ↓wkPre2, ↓wkE, wkPost, wkDef, wkF, simprocAttr, e0, e1, e12, e13, hl, hm]
        have : A = C := List.ext_getElem hlen fun j h1 h2 => hall j h1 (by omega)
        simp [this]
    · simp -implicitDefEqProofs -dsimp (maxSteps := 1000000) (disch := first | omega | (simp only [wkLen]; omega) | decide +kernel) only [↓wkPre, ↓wkPre2, ↓wkE, wkPost, wkDef, wkF, simprocAttr]
      exact ⟨by rw [hlen], fun j h hj => by omega⟩
  · have hlen' : ¬ (A.length : Int) = C.length := by omega
    simp -implicitDefEqProofs -dsimp (maxSteps := 1000000) (disch := first | omega | (simp only [wkLen]; omega) | decide +kernel) only [↓wkPre, ↓wkPre2, ↓wkE, wkPost, wkDef, wkF, simprocAttr, hl, hm, hlen']
    have : ¬ A = C := fun h => hlen (by rw [h])
    simp [this]
theorem q18 (A C : List Rg) (hA : A.length ≤ 1000) : PS Cf okf 18 [4] [.sl 6 (rgs A), .sl 6 (rgs C)] (fun v => v = B (decide (A = C))) := by
  refine PS.mk extMono Try.func18 body18 (by decide) rfl ?_
  simp only [c18, Try.f18, Option.getD_some]
  have hl := rgs_len A
  have hm := rgs_len C
  by_cases hlen : A.length = C.length
  · have hlen' : (A.length : Int) = C.length := by omega
    simp -implicitDefEqProofs -dsimp (maxSteps := 1000000) (disch := first | omega | (simp only [wkLen]; omega) | decide +kernel) only [↓wkPre, ↓wkPre2, ↓wkE, wkPost, wkDef, wkF, simprocAttr, hl, hm, hlen']
    refine loop_use extMono (fun m' e H => ∃ (i : Nat), m' = A.length - i ∧ i ≤ A.length ∧ e 0 = .p (.sl 6 (rgs A)) ∧ e 1 = .p (.sl 6 (rgs C)) ∧ e 5 = .p (I i) ∧ ∀ j (h : j < A.length), j < i → A[j] = C[j]) ?_ A.length _ _ ⟨0, rfl, by omega, ?_⟩
    · rintro m' e H ⟨i, rfl, hi, e0, e1, e5, hall⟩
      rcases Nat.lt_or_ge i A.length with hlt | hge
      · have gi := rgs_get hlt
        have gj := rgs_get (L := C) (i := i) (by omega)
        by_cases heq : A[i] = C[i]
        · rw [← heq] at gj
          simp -implicitDefEqProofs -dsimp (maxSteps := 1000000) (disch := first | omega | (simp only [wkLen]; omega) | decide +kernel) only [↓wkPre, ↓wkPre2, ↓wkE, wkPost, wkDef, wkF, simprocAttr, e0, e1, e5, hl, hm, gi, gj]
          refine ⟨A.length - (i + 1), by omega, i + 1, rfl, by omega, by push_cast; rfl, fun j h hj => ?_⟩
          by_cases hji : j = i
          · subst hji; exact heq
          · exact hall j h (by omega)
        · have hne := rg_ne heq
          simp -implicitDefEqProofs -dsimp (maxSteps := 1000000) (disch := first | omega | (simp only [wkLen]; omega) | decide +kernel) only [↓wkPre, ↓wkPre2, ↓wkE, wkPost, wkDef, wkF, simprocAttr, e0, e1, e5, hl, hm, gi, gj, hne]
          have : ¬ A = C := fun h => heq (by simp [h])
          simp [this]
      · simp -implicitDefEqProofs -dsimp (maxSteps := 1000000) (disch := first | omega | (simp only [wkLen]; omega) | decide +kernel) only [↓wkPre, ↓wkPre2, ↓wkE, wkPost, wkDef, wkF, simprocAttr, e0, e1, e5, hl, hm]
        have : A = C := List.ext_getElem hlen fun j h1 h2 => hall j h1 (by omega)
        simp [this]
    · simp -implicitDefEqProofs -dsimp (maxSteps := 1000000) (disch := first | omega | (simp only [wkLen]; omega) | decide +kernel) only [↓wkPre, ↓wkPre2, ↓wkE, wkPost, wkDef, wkF, simprocAttr]
      exact fun j h hj => by omega
  · have hlen' : ¬ (A.length : Int) = C.length := by omega
    simp -implicitDefEqProofs -dsimp (maxSteps := 1000000) (disch := first | omega | (simp only [wkLen]; omega) | decide +kernel) only [↓wkPre, ↓wkPre2, ↓wkE, wkPost, wkDef, wkF, simprocAttr, hl, hm, hlen']
    have : ¬ A = C := fun h => hlen (by rw [h])
    simp [this]
theorem q23 (a b : Ag) (hA : a.recs.length ≤ 1000) : PS Cf okf 23 [4] [agP a, agP b] (fun v => v = B (decide (a = b))) := by
  refine PS.mk extMono Try.func23 body23 (by decide) rfl ?_
  simp only [c23, Try.f23, Option.getD_some]
  obtain ⟨ca, ra, na⟩ := a
  obtain ⟨cb, rb, nb⟩ := b
  dsimp only at hA ⊢
  by_cases h1 : ca = cb
  · by_cases h2 : na = nb
    · simp -implicitDefEqProofs -dsimp (maxSteps := 1000000) (disch := first | omega | (simp only [wkLen]; omega) | decide +kernel) only [↓wkPre, ↓wkPre2, ↓wkE, wkPost, wkDef, wkF, simprocAttr, h1, h2]
      refine PS.app md_37 Try.func37 (q37 ra rb hA) rfl ?_
      rintro _ rfl
      simp -implicitDefEqProofs -dsimp (maxSteps := 1000000) (disch := first | omega | (simp only [wkLen]; omega) | decide +kernel) only [↓wkPre, ↓wkPre2, ↓wkE, wkPost, wkDef, wkF, simprocAttr, h1, h2]
      by_cases h3 : ra = rb <;> simp [h1, h2, h3]
    · simp -implicitDefEqProofs -dsimp (maxSteps := 1000000) (disch := first | omega | (simp only [wkLen]; omega) | decide +kernel) only [↓wkPre, ↓wkPre2, ↓wkE, wkPost, wkDef, wkF, simprocAttr, h1, h2]
      have : ¬ (⟨ca, ra, na⟩ : Ag) = ⟨cb, rb, nb⟩ := fun h => h2 (by injection h)
      simp [h2]
  · simp -implicitDefEqProofs -dsimp (maxSteps := 1000000) (disch := first | omega | (simp only [wkLen]; omega) | decide +kernel) only [↓wkPre, ↓wkPre2, ↓wkE, wkPost, wkDef, wkF, simprocAttr, h1]
    have : ¬ (⟨ca, ra, na⟩ : Ag) = ⟨cb, rb, nb⟩ := fun h => h1 (by injection h)
    simp [this]
theorem q35 (a b : Ag) (hA : a.recs.length ≤ 1000) : PS Cf okf 35 [4] [agP a, agP b] (fun v => v = B (decide (a = b))) := by
  refine PS.mk extMono Try.func35 body35 (by decide) rfl ?_
  simp only [c35, Try.f35, Option.getD_some]
  obtain ⟨ca, A, na⟩ := a
  obtain ⟨cb, C, nb⟩ := b
  dsimp only at hA ⊢
  have hl := rgs_len A
  have hm := rgs_len C
  by_cases h1 : ca = cb
  · by_cases h2 : na = nb
    · subst h1 h2
      by_cases hlen : A.length = C.length
      · have hlen' : (A.length : Int) = C.length := by omega
        simp -implicitDefEqProofs -dsimp (maxSteps := 1000000) (disch := first | omega | (simp only [wkLen]; omega) | decide +kernel) only [↓wkPre, ↓wkPre2, ↓wkE, wkPost, wkDef, wkF, simprocAttr, hl, hm, hlen']
        refine loop_use extMono (fun m' e H => ∃ (i : Nat), m' = A.length - i ∧ i ≤ A.length ∧ e 2 = .vptr 0 0 ∧ e 3 = .vptr 1 0 ∧ e 5 = .p (I i) ∧ H[0]? = some (.var true (.p (agP ⟨ca, A, na⟩))) ∧ H[1]? = some (.var true (.p (agP ⟨ca, C, na⟩))) ∧ ∀ j (h : j < A.length), j < i → A[j] = C[j]) ?_ A.length _ _ ⟨0, rfl, by omega, ?_⟩
        · rintro m' e H ⟨i, rfl, hi, e2, e3, e5, g0, g1, hall⟩
          rcases Nat.lt_or_ge i A.length with hlt | hge
          · have gi := rgs_get hlt
            have gj := rgs_get (L := C) (i := i) (by omega)
            by_cases heq : A[i] = C[i]
            · rw [← heq] at gj
              simp -implicitDefEqProofs -dsimp (maxSteps := 1000000) (disch := first | omega | (simp only [wkLen]; omega) | decide +kernel) only [↓wkPre, ↓wkPre2, ↓wkE, wkPost, wkDef, wkF, simprocAttr, e2, e3, e5, g0, g1, hl, hm, gi, gj]
              refine ⟨A.length - (i + 1), by omega, i + 1, rfl, by omega, by push_cast; rfl, fun j h hj => ?_⟩
              by_cases hji : j = i
              · subst hji; exact heq
              · exact hall j h (by omega)
            · have hne := rg_ne heq
              simp -implicitDefEqProofs -dsimp (maxSteps := 1000000) (disch := first | omega | (simp only [wkLen]; omega) | decide +kernel) only [↓wkPre, ↓wkPre2, ↓wkE, wkPost, wkDef, wkF, simprocAttr, e2, e3, e5, g0, g1, hl, hm, gi, gj, hne]
              have : ¬ A = C := fun h => heq (by simp [h])
              simp [this]
          · simp -implicitDefEqProofs -dsimp (maxSteps := 1000000) (disch := first | omega | (simp only [wkLen]; omega) | decide +kernel) only [↓wkPre, ↓wkPre2, ↓wkE, wkPost, wkDef, wkF, simprocAttr, e2, e3, e5, g0, g1, hl, hm]
            have : A = C := List.ext_getElem hlen fun j h1 h2 => hall j h1 (by omega)
            simp [this]
        · simp -implicitDefEqProofs -dsimp (maxSteps := 1000000) (disch := first | omega | (simp only [wkLen]; omega) | decide +kernel) only [↓wkPre, ↓wkPre2, ↓wkE, wkPost, wkDef, wkF, simprocAttr]
          exact fun j h hj => by omega
      · have hlen' : ¬ (A.length : Int) = C.length := by omega
        simp -implicitDefEqProofs -dsimp (maxSteps := 1000000) (disch := first | omega | (simp only [wkLen]; omega) | decide +kernel) only [↓wkPre, ↓wkPre2, ↓wkE, wkPost, wkDef, wkF, simprocAttr, hl, hm, hlen']
        have : ¬ A = C := fun h => hlen (by rw [h])
        simp [this]
    · simp -implicitDefEqProofs -dsimp (maxSteps := 1000000) (disch := first | omega | (simp only [wkLen]; omega) | decide +kernel) only [↓wkPre, ↓wkPre2, ↓wkE, wkPost, wkDef, wkF, simprocAttr, h1, h2]
      have : ¬ (⟨ca, A, na⟩ : Ag) = ⟨cb, C, nb⟩ := fun h => h2 (by injection h)
      simp [h2]
  · simp -implicitDefEqProofs -dsimp (maxSteps := 1000000) (disch := first | omega | (simp only [wkLen]; omega) | decide +kernel) only [↓wkPre, ↓wkPre2, ↓wkE, wkPost, wkDef, wkF, simprocAttr, h1]
    have : ¬ (⟨ca, A, na⟩ : Ag) = ⟨cb, C, nb⟩ := fun h => h1 (by injection h)
    simp [this]
def lightV (l : List Vt) : Bool := decide (l.length ≤ 60) && l.all fun v => decide (v.o.val.length ≤ 100) && decide (v.a.recs.length ≤ 60)
theorem q6 (l : List Vt) : PS Cf okf 6 [4] [.sl 16 (vts l)] (fun v => v = B (lightV l)) := by
  refine PS.mk extMono Try.func6 body6 (by decide) rfl ?_
  simp only [c6, Try.f6, Option.getD_some]
  have hl := vts_len l
  unfold lightV
  by_cases h80 : 60 < l.length
  · rw [show decide (l.length ≤ 60) = false by simpa using h80, Bool.false_and]
    have h80' : (60 : Int) < (l.length : Int) := by omega
    simp -implicitDefEqProofs -dsimp (maxSteps := 1000000) (disch := first | omega | (simp only [wkLen]; omega) | decide +kernel) only [↓wkPre, ↓wkPre2, ↓wkE, wkPost, wkDef, wkF, simprocAttr, hl, h80']
    done
  · rw [show decide (l.length ≤ 60) = true by simp; omega, Bool.true_and]
    have h80' : ¬ (60 : Int) < (l.length : Int) := by omega
    simp -implicitDefEqProofs -dsimp (maxSteps := 1000000) (disch := first | omega | (simp only [wkLen]; omega) | decide +kernel) only [↓wkPre, ↓wkPre2, ↓wkE, wkPost, wkDef, wkF, simprocAttr, hl, h80']
    refine loop_use extMono (fun m' e H => ∃ (i : Nat), m' = l.length - i ∧ i ≤ l.length ∧ e 0 = .p (.sl 16 (vts l)) ∧ e 3 = .p (I i) ∧ ∀ j (h : j < l.length), j < i → l[j].o.val.length ≤ 100 ∧ l[j].a.recs.length ≤ 60) ?_ l.length _ _ ⟨0, rfl, by omega, ?_⟩
    · rintro m' e H ⟨i, rfl, hi, e0, e3, hall⟩
      rcases Nat.lt_or_ge i l.length with hlt | hge
      · have gi := vts_get hlt
        have hrl := rgs_len l[i].a.recs
        have bad : ¬ (l[i].o.val.length ≤ 100 ∧ l[i].a.recs.length ≤ 60) → (l.all fun v => decide (v.o.val.length ≤ 100) && decide (v.a.recs.length ≤ 60)) = false := fun h => by
          rw [List.all_eq_false]
          exact ⟨l[i], List.getElem_mem hlt, by simpa using h⟩
        by_cases h100 : 100 < l[i].o.val.length
        · have h100' : (100 : Int) < (l[i].o.val.length : Int) := by omega
          simp -implicitDefEqProofs -dsimp (maxSteps := 1000000) (disch := first | omega | (simp only [wkLen]; omega) | decide +kernel) only [↓wkPre, ↓wkPre2, ↓wkE, wkPost, wkDef, wkF, simprocAttr, e0, e3, hl, gi, h100']
          rw [bad (by omega)]
        · have h100' : ¬ (100 : Int) < (l[i].o.val.length : Int) := by omega
          by_cases h60 : 60 < l[i].a.recs.length
          · have h60' : (60 : Int) < (l[i].a.recs.length : Int) := by omega
            simp -implicitDefEqProofs -dsimp (maxSteps := 1000000) (disch := first | omega | (simp only [wkLen]; omega) | decide +kernel) only [↓wkPre, ↓wkPre2, ↓wkE, wkPost, wkDef, wkF, simprocAttr, e0, e3, hl, gi, h100', hrl, h60']
            rw [bad (by omega)]
          · have h60' : ¬ (60 : Int) < (l[i].a.recs.length : Int) := by omega
            simp -implicitDefEqProofs -dsimp (maxSteps := 1000000) (disch := first | omega | (simp only [wkLen]; omega) | decide +kernel) only [↓wkPre, ↓wkPre2, ↓wkE, wkPost, wkDef, wkF, simprocAttr, e0, e3, hl, gi, h100', hrl, h60']
            refine ⟨l.length - (i + 1), by omega, i + 1, rfl, by omega, by push_cast; rfl, fun j h hj => ?_⟩
            by_cases hji : j = i
            · subst hji; omega
            · exact hall j h (by omega)
      · simp -implicitDefEqProofs -dsimp (maxSteps := 1000000) (disch := first | omega | (simp only [wkLen]; omega) | decide +kernel) only [↓wkPre, ↓wkPre2, ↓wkE, wkPost, wkDef, wkF, simprocAttr, e0, e3, hl]
        have : (l.all fun v => decide (v.o.val.length ≤ 100) && decide (v.a.recs.length ≤ 60)) = true := by
          rw [List.all_eq_true]
          intro s hs
          obtain ⟨j, hj, rfl⟩ := List.mem_iff_getElem.1 hs
          have := hall j hj (by omega)
          simpa using this
        rw [this]
    · simp -implicitDefEqProofs -dsimp (maxSteps := 1000000) (disch := first | omega | (simp only [wkLen]; omega) | decide +kernel) only [↓wkPre, ↓wkPre2, ↓wkE, wkPost, wkDef, wkF, simprocAttr]
      intro j h hj
      omega
end Go.Ev.F35
end
section
namespace Go.Ev.F35
open Go.Proofs Go.Ev
set_option maxRecDepth 100000
set_option linter.all false
theorem mxm (H : Heap) (k : IntKind) (n : Int) : Option.map (fun r : IntKind × Int => (AV.p (.int r.1 r.2), H)) (some (k, n)) = some (AV.p (.int k n), H) := rfl
def triesF (l : List Vt) : Int := l.foldl (fun n v => max n v.tr) 0
theorem q22 (l : List Vt) (hL : l.length ≤ 1000) : PS Cf okf 22 [3] [.sl 16 (vts l)] (fun v => v = I (triesF l)) := by
  refine PS.mk extMono Try.func22 body22 (by decide) rfl ?_
  simp only [c22, Try.f22, Option.getD_some]
  have hl := vts_len l
  simp -implicitDefEqProofs -dsimp (maxSteps := 1000000) (disch := first | omega | (simp only [wkLen]; omega) | decide +kernel) only [↓wkPre, ↓wkPre2, ↓wkE, wkPost, wkDef, wkF, simprocAttr, hl]
  refine loop_use extMono (fun m' e H => ∃ (i : Nat), m' = l.length - i ∧ i ≤ l.length ∧ e 3 = .p (I (triesF (l.take i))) ∧ e 6 = .p (.sl 16 (vts l)) ∧ e 7 = .p (I l.length) ∧ e 8 = .p (I i)) ?_ l.length _ _ ⟨0, rfl, by omega, ?_⟩
  · rintro m' e H ⟨i, rfl, hi, e3, e6, e7, e8⟩
    rcases Nat.lt_or_ge i l.length with hlt | hge
    · have gi := vts_get hlt
      have hs : triesF (l.take (i + 1)) = max (triesF (l.take i)) l[i].tr := by
        rw [List.take_succ_eq_append_getElem hlt]; unfold triesF; rw [List.foldl_append]; rfl
      simp -implicitDefEqProofs -dsimp (maxSteps := 1000000) (disch := first | omega | (simp only [wkLen]; omega) | decide +kernel) only [↓wkPre, ↓wkPre2, ↓wkE, wkPost, wkDef, wkF, simprocAttr, e3, e6, e7, e8, hl, gi]
      rw [show intsMax [AV.p (I (triesF (l.take i))), AV.p (I l[i].tr)] = some (IntKind.i64, max (triesF (l.take i)) l[i].tr) by rfl, mxm]
      simp -implicitDefEqProofs -dsimp (maxSteps := 1000000) (disch := first | omega | (simp only [wkLen]; omega) | decide +kernel) only [↓wkPre, ↓wkPre2, ↓wkE, wkPost, wkDef, wkF, simprocAttr, e3, e6, e7, e8, hl, gi]
      exact ⟨l.length - (i + 1), by omega, i + 1, rfl, by omega, by rw [hs], by push_cast; rfl⟩
    · obtain rfl : i = l.length := by omega
      rw [List.take_length] at e3
      simp -implicitDefEqProofs -dsimp (maxSteps := 1000000) (disch := first | omega | (simp only [wkLen]; omega) | decide +kernel) only [↓wkPre, ↓wkPre2, ↓wkE, wkPost, wkDef, wkF, simprocAttr, e3, e6, e7, e8]
      done
  · simp -implicitDefEqProofs -dsimp (maxSteps := 1000000) (disch := first | omega | (simp only [wkLen]; omega) | decide +kernel) only [↓wkPre, ↓wkPre2, ↓wkE, wkPost, wkDef, wkF, simprocAttr]
    rfl
def cntF (l : List Vt) (c : Int) : Nat := (l.filter fun v => decide (v.a.code = c)).length
theorem cnt_snoc (l : List Vt) (v : Vt) (c : Int) : cntF (l ++ [v]) c = cntF l c + (if v.a.code = c then 1 else 0) := by
  unfold cntF
  rw [List.filter_append, List.length_append]
  by_cases h : v.a.code = c <;> simp [h]
def cntsF (l : List Vt) : List PV := (List.range 15).map fun c : Nat => I (cntF l (c : Int))
theorem cnts_set (l : List Vt) (v : Vt) {k : Nat} (h : v.a.code = k) (hk : k < 15) : (cntsF l).set k (I (cntF l k + 1 : Nat)) = cntsF (l ++ [v]) := by
  apply List.ext_getElem?
  intro i
  unfold cntsF
  rw [List.getElem?_set, List.getElem?_map, List.getElem?_map]
  rcases Nat.lt_or_ge i 15 with hi | hi
  · rw [List.getElem?_range hi]
    by_cases hki : k = i
    · subst hki
      rw [if_pos rfl, if_pos (by simp; omega)]
      simp only [Option.map_some]
      rw [cnt_snoc, if_pos h]
    · rw [if_neg hki]
      simp only [Option.map_some]
      rw [cnt_snoc, if_neg (by omega)]
      rfl
  · rw [if_neg (by omega), List.getElem?_eq_none (by simpa using hi)]
    rfl
theorem cnts_out (l : List Vt) (v : Vt) (h : ¬ (0 ≤ v.a.code ∧ v.a.code ≤ 14)) : cntsF (l ++ [v]) = cntsF l := by
  unfold cntsF
  refine List.map_congr_left fun c hc => ?_
  have := List.mem_range.1 hc
  rw [cnt_snoc, if_neg (by omega)]
  rfl
theorem cnts_get (l : List Vt) {k : Nat} (hk : k < 15) : (cntsF l)[k]? = some (I (cntF l k)) := by
  unfold cntsF
  rw [List.getElem?_map, List.getElem?_range hk]
  rfl
theorem cnts_len (l : List Vt) : (cntsF l).length = 15 := by simp [cntsF]
theorem q20 (l : List Vt) (hL : l.length ≤ 1000) : PS Cf okf 20 [57] [.sl 16 (vts l)] (fun v => v = .agg (cntsF l)) := by
  refine PS.mk extMono Try.func20 body20 (by decide) rfl ?_
  simp only [c20, Try.f20, Option.getD_some]
  have hl := vts_len l
  simp -implicitDefEqProofs -dsimp (maxSteps := 1000000) (disch := first | omega | (simp only [wkLen]; omega) | decide +kernel) only [↓wkPre, ↓wkPre2, ↓wkE, wkPost, wkDef, wkF, simprocAttr, hl]
  refine loop_use extMono (fun m' e H => ∃ (i : Nat), m' = l.length - i ∧ i ≤ l.length ∧ e 2 = .vptr 0 0 ∧ e 3 = .vptr 1 0 ∧ e 6 = .p (.sl 16 (vts l)) ∧ e 7 = .p (I l.length) ∧ e 8 = .p (I i) ∧ H[0]? = some (.var true (.p (.agg (cntsF [])))) ∧ H[1]? = some (.var true (.p (.agg (cntsF (l.take i)))))) ?_ l.length _ _ ⟨0, rfl, by omega, ?_⟩
  · rintro m' e H ⟨i, rfl, hi, e2, e3, e6, e7, e8, g0, g1⟩
    have hlt1 := lt_of g1
    rcases Nat.lt_or_ge i l.length with hlt | hge
    · have gi := vts_get hlt
      have ht := List.take_succ_eq_append_getElem hlt
      by_cases h0 : 0 ≤ l[i].a.code
      · by_cases h14 : l[i].a.code ≤ 14
        · obtain ⟨k, hk⟩ : ∃ k : Nat, l[i].a.code = k := ⟨l[i].a.code.toNat, by omega⟩
          have hk15 : k < 15 := by omega
          have hg := cnts_get (l.take i) hk15
          have hst := cnts_set (l.take i) l[i] hk hk15
          rw [← ht] at hst
          have gi : (vts l)[i]? = some (.agg [I l[i].who, I l[i].at', I l[i].tr, I l[i].o.kind, U l[i].o.key, u32 l[i].o.x, u32 l[i].o.y, .str l[i].o.val, u32 l[i].o.w.x0, u32 l[i].o.w.y0, u32 l[i].o.w.x1, u32 l[i].o.w.y1, I l[i].o.n, I l[i].a.code, .sl 6 (rgs l[i].a.recs), I l[i].a.n]) := gi
          rw [hk] at gi
          have g1n : ∀ x : Blk, (H ++ [x])[1]? = some (.var true (.p (.agg (cntsF (l.take i))))) := fun x => (hs_app hlt1).trans g1
          have hcl := cnts_len (l.take i)
          have hg' : ((cntsF (l.take i)).map AV.p)[k]? = some (.p (I (cntF (l.take i) k))) := by rw [List.getElem?_map, hg]; rfl
          simp -implicitDefEqProofs -dsimp (maxSteps := 1000000) (disch := first | omega | (simp only [wkLen]; omega) | decide +kernel) only [↓wkPre, ↓wkPre2, ↓wkE, wkPost, wkDef, wkF, simprocAttr, e2, e3, e6, e7, e8, hl, gi, g0, g1, g1n, hcl, h0, h14, hk, hg, hg', hst, and_false, if_false]
          have hwr : IntKind.i64.wrap ((cntF (l.take i) k : Int) + 1) = ((cntF (l.take i) k + 1 : Nat) : Int) := by
            have : cntF (l.take i) k ≤ 1000 := by
              have h1 := List.length_filter_le (fun v : Vt => decide (v.a.code = (k : Int))) (l.take i)
              rw [List.length_take] at h1
              show (List.filter _ _).length ≤ _
              omega
            rw [wrap_i64 (by omega) (by omega)]; push_cast; rfl
          refine ⟨l.length - (i + 1), by omega, i + 1, rfl, by omega, by push_cast; rfl, ?_⟩
          rw [hwr, ← List.map_set, allP_mapp, hst]
        · simp -implicitDefEqProofs -dsimp (maxSteps := 1000000) (disch := first | omega | (simp only [wkLen]; omega) | decide +kernel) only [↓wkPre, ↓wkPre2, ↓wkE, wkPost, wkDef, wkF, simprocAttr, e2, e3, e6, e7, e8, hl, gi, g0, g1, h0, h14]
          have ho := cnts_out (l.take i) l[i] (by omega)
          rw [← ht] at ho
          exact ⟨l.length - (i + 1), by omega, i + 1, rfl, by omega, by push_cast; rfl, by rw [ho]⟩
      · simp -implicitDefEqProofs -dsimp (maxSteps := 1000000) (disch := first | omega | (simp only [wkLen]; omega) | decide +kernel) only [↓wkPre, ↓wkPre2, ↓wkE, wkPost, wkDef, wkF, simprocAttr, e2, e3, e6, e7, e8, hl, gi, g0, g1, h0]
        have ho := cnts_out (l.take i) l[i] (by omega)
        rw [← ht] at ho
        exact ⟨l.length - (i + 1), by omega, i + 1, rfl, by omega, by push_cast; rfl, by rw [ho]⟩
    · obtain rfl : i = l.length := by omega
      rw [List.take_length] at g1
      have g1s : ∀ x : Blk, (H.set 0 x)[0]? = some x := fun x => hs_set (by have := lt_of g0; omega)
      simp -implicitDefEqProofs -dsimp (maxSteps := 1000000) (disch := first | omega | (simp only [wkLen]; omega) | decide +kernel) only [↓wkPre, ↓wkPre2, ↓wkE, wkPost, wkDef, wkF, simprocAttr, e2, e3, e6, e7, e8, g0, g1, g1s, cnts_len]
      done
  · simp -implicitDefEqProofs -dsimp (maxSteps := 1000000) (disch := first | omega | (simp only [wkLen]; omega) | decide +kernel) only [↓wkPre, ↓wkPre2, ↓wkE, wkPost, wkDef, wkF, simprocAttr]
    rfl
end Go.Ev.F35
end
section
namespace Go.Ev.F35
open Go.Proofs Go.Ev
set_option maxRecDepth 100000
set_option linter.all false
theorem frzR_o {P : Program} {H : Heap} {t e : TypeId} {sh : Nat} {v : AV} {xs : List PV} (ht : telem P t = some (e, sh)) (h : OwnS H v sh xs) : frzR P H [t] v = some (.sl sh xs) := by
  rcases h with ⟨rfl, rfl⟩ | ⟨b, g, rfl, hb⟩
  · rw [frzR_nsl]; exact frz_own ht (OwnS.nil _ _)
  · rw [frzR_ref]; exact frz_own ht (.inr ⟨b, g, rfl, hb⟩)
theorem elems_new2 {H : Heap} {x : Blk} {g sh n : Nat} {xs : List PV} (hn : n = xs.length) {l : Bool} {ex : Bool} : elems (H ++ [x, .arr l g sh xs]) sh (.ref (H.length + 1) g 0 n ex) = some xs := by
  subst hn
  have h : (H ++ [x, .arr l g sh xs])[H.length + 1]? = some (.arr l g sh xs) := by
    rw [List.getElem?_append_right (by omega), show H.length + 1 - H.length = 1 by omega]; rfl
  simp [elems, h]
structure Ac where
  who : Int
  key : Int
  wr : Bool
deriving DecidableEq
instance : Inhabited Ac := ⟨⟨0, 0, false⟩⟩
abbrev acP (a : Ac) : PV := .agg [I a.who, U a.key, B a.wr]
def acs (L : List Ac) : List PV := L.map acP
theorem acs_len (L : List Ac) : (acs L).length = L.length := by simp [acs]
theorem acs_get {L : List Ac} {i : Nat} (h : i < L.length) : (acs L)[i]? = some (acP L[i]) := by simp [acs, h]
theorem acs_snoc (L : List Ac) (r : Ac) : acs (L ++ [r]) = acs L ++ [acP r] := by simp [acs]
def accV (i : Int) (v : Vt) : List Ac :=
  if v.a.code = 6 ∨ v.a.code = 11 then []
  else if v.o.kind = 2 then [⟨i, v.o.key, false⟩]
  else if v.o.kind = 1 ∨ v.o.kind = 3 then [⟨i, v.o.key, decide (v.a.code = 0)⟩]
  else if v.o.kind = 4 then v.a.recs.map fun r => ⟨i, r.key, false⟩
  else []
def accT (i : Int) (L : List Vt) : List Ac := L.flatMap (accV i)
def accN : Int → List Tx → List Ac
  | _, [] => []
  | i, t :: T => accT i t.evs ++ accN (i + 1) T
def accF (T : List Tx) : List Ac := accN 0 T
theorem accN_snoc (t : Tx) : ∀ (T : List Tx) (i : Int), accN i (T ++ [t]) = accN i T ++ accT (i + T.length) t.evs
  | [], i => by simp [accN]
  | x :: T, i => by
    rw [List.cons_append, accN, accN, accN_snoc t T (i + 1), List.append_assoc, List.length_cons]
    congr 3
    push_cast
    omega
theorem accF_snoc (T : List Tx) (t : Tx) : accF (T ++ [t]) = accF T ++ accT T.length t.evs := by
  unfold accF
  rw [accN_snoc, Int.zero_add]
theorem accT_snoc (i : Int) (L : List Vt) (v : Vt) : accT i (L ++ [v]) = accT i L ++ accV i v := by simp [accT]
theorem accV_len (i : Int) (v : Vt) (h : v.a.recs.length ≤ 1000) : (accV i v).length ≤ 1000 := by
  unfold accV
  split
  · exact Nat.zero_le _
  split
  · simp
  split
  · simp
  split
  · simpa using h
  · exact Nat.zero_le _
theorem accT_len (i : Int) : ∀ (L : List Vt), (∀ v ∈ L, v.a.recs.length ≤ 1000) → (accT i L).length ≤ 1000 * L.length
  | [], _ => Nat.zero_le _
  | v :: L, h => by
    have h1 := accV_len i v (h v List.mem_cons_self)
    have h2 := accT_len i L fun x hx => h x (List.mem_cons_of_mem _ hx)
    show (accV i v ++ accT i L).length ≤ _
    rw [List.length_append, List.length_cons]
    omega
theorem accN_len : ∀ (T : List Tx) (i : Int), (∀ t ∈ T, t.evs.length ≤ 1000 ∧ ∀ v ∈ t.evs, v.a.recs.length ≤ 1000) → (accN i T).length ≤ 1000000 * T.length
  | [], _, _ => Nat.zero_le _
  | t :: T, i, h => by
    have h1 := accT_len i t.evs (h t List.mem_cons_self).2
    have h2 := (h t List.mem_cons_self).1
    have h3 := accN_len T (i + 1) fun x hx => h x (List.mem_cons_of_mem _ hx)
    rw [accN, List.length_append, List.length_cons]
    omega
set_option maxHeartbeats 2000000 in
theorem q21 (T : List Tx) (hT : T.length ≤ 1000) (hv : ∀ t ∈ T, t.evs.length ≤ 1000 ∧ ∀ v ∈ t.evs, v.a.recs.length ≤ 1000) : PS Cf okf 21 [59] [.sl 4 (txs T)] (fun v => v = .sl 3 (acs (accF T))) := by
  refine PS.mk extMono Try.func21 body21 (by decide) rfl ?_
  simp only [c21, Try.f21, Option.getD_some]
  have hl := txs_len T
  simp -implicitDefEqProofs -dsimp (maxSteps := 1000000) (disch := first | omega | (simp only [wkLen]; omega) | decide +kernel) only [↓wkPre, ↓wkPre2, ↓wkE, wkPost, wkDef, wkF, simprocAttr, hl]
  refine loop_use extMono (fun m' e H => ∃ (i : Nat) (w : AV), m' = T.length - i ∧ i ≤ T.length ∧ e 3 = w ∧ e 10 = .p (.sl 4 (txs T)) ∧ e 11 = .p (I T.length) ∧ e 12 = .p (I i) ∧ OwnS H w 3 (acs (accF (T.take i)))) ?_ T.length _ _ ⟨0, .nsl, rfl, by omega, ?_⟩
  · rintro m' e H ⟨i, w, rfl, hi, e3, e10, e11, e12, hown⟩
    rcases Nat.lt_or_ge i T.length with hlt | hge
    · have gi := txs_get hlt
      have hti := hv _ (List.getElem_mem hlt)
      have hsn : accF (T.take (i + 1)) = accF (T.take i) ++ accT i T[i].evs := by
        rw [List.take_succ_eq_append_getElem hlt, accF_snoc, List.length_take, Nat.min_eq_left (by omega)]
      have hNl := accN_len (T.take i) 0 fun t ht => hv t (List.mem_of_mem_take ht)
      rw [List.length_take] at hNl
      have hNl : (accF (T.take i)).length ≤ 1000000 * min i T.length := hNl
      generalize accF (T.take i) = K0 at hown hsn hNl
      generalize T[i] = t at gi hti hsn
      obtain ⟨twho, L, tdone, tpos⟩ := t
      dsimp only at hti hsn
      have hLl := vts_len L
      simp -implicitDefEqProofs -dsimp (maxSteps := 1000000) (disch := first | omega | (simp only [wkLen]; omega) | decide +kernel) only [↓wkPre, ↓wkPre2, ↓wkE, wkPost, wkDef, wkF, simprocAttr, e3, e10, e11, e12, gi, hl, hLl]
      refine loop_use extMono (fun m' e H => ∃ (j : Nat) (w : AV), m' = L.length - j ∧ j ≤ L.length ∧ e 3 = w ∧ e 4 = .p (I i) ∧ e 10 = .p (.sl 4 (txs T)) ∧ e 11 = .p (I T.length) ∧ e 12 = .p (I i) ∧ e 18 = .p (.sl 16 (vts L)) ∧ e 19 = .p (I L.length) ∧ e 20 = .p (I j) ∧ OwnS H w 3 (acs (K0 ++ accT i (L.take j)))) ?_ L.length _ _ ⟨0, w, rfl, by omega, ?_⟩
      · clear e3 e10 e11 e12 hown e w H
        rintro m' e H ⟨j, w, rfl, hj, e3, e4, e10, e11, e12, e18, e19, e20, hown⟩
        rcases Nat.lt_or_ge j L.length with hlj | hgj
        · have gj := vts_get hlj
          have hvj := hti.2 _ (List.getElem_mem hlj)
          have hsj : accT i (L.take (j + 1)) = accT i (L.take j) ++ accV i L[j] := by rw [List.take_succ_eq_append_getElem hlj, accT_snoc]
          have hTl := accT_len i (L.take j) fun v hv => hti.2 v (List.mem_of_mem_take hv)
          rw [List.length_take] at hTl
          have hKl : (K0 ++ accT i (L.take j)).length ≤ 2000000000 := by rw [List.length_append]; omega
          rw [hsj.symm.trans hsj] at hsj
          have hsj2 : K0 ++ accT i (L.take (j + 1)) = (K0 ++ accT i (L.take j)) ++ accV i L[j] := by rw [hsj, List.append_assoc]
          generalize K0 ++ accT i (L.take j) = K at hown hKl hsj2
          generalize L[j] = v at gj hvj hsj2
          obtain ⟨vw, va, vt, ⟨ok, key, ox, oy, val, rc, on⟩, ⟨code, recs, an⟩⟩ := v
          dsimp only at hvj
          unfold accV at hsj2
          dsimp only at hsj2
          have nxt : ∀ (w' : AV) (H' : Heap), OwnS H' w' 3 (acs (K0 ++ accT i (L.take (j + 1)))) → ∃ m', m' < L.length - j ∧ ∃ (j' : Nat) (w'' : AV), m' = L.length - j' ∧ j' ≤ L.length ∧ w' = w'' ∧ AV.p (PV.int IntKind.i64 (↑j + 1)) = AV.p (I j') ∧ OwnS H' w'' 3 (acs (K0 ++ accT i (L.take j'))) :=
            fun w' H' h => ⟨L.length - (j + 1), by omega, j + 1, w', rfl, by omega, rfl, by push_cast; rfl, h⟩
          by_cases c6 : code = 6
          · rw [if_pos (.inl c6), List.append_nil] at hsj2
            simp -implicitDefEqProofs -dsimp (maxSteps := 1000000) (disch := first | omega | (simp only [wkLen]; omega) | decide +kernel) only [↓wkPre, ↓wkPre2, ↓wkE, wkPost, wkDef, wkF, simprocAttr, e3, e4, e10, e11, e12, e18, e19, e20, gj, hLl, c6]
            exact nxt w _ (by rw [hsj2]; exact hown.app _)
          by_cases c11 : code = 11
          · rw [if_pos (.inr c11), List.append_nil] at hsj2
            simp -implicitDefEqProofs -dsimp (maxSteps := 1000000) (disch := first | omega | (simp only [wkLen]; omega) | decide +kernel) only [↓wkPre, ↓wkPre2, ↓wkE, wkPost, wkDef, wkF, simprocAttr, e3, e4, e10, e11, e12, e18, e19, e20, gj, hLl, c6, c11]
            exact nxt w _ (by rw [hsj2]; exact hown.app _)
          rw [if_neg (fun h => h.elim c6 c11)] at hsj2
          by_cases k2 : ok = 2
          · rw [if_pos k2] at hsj2
            simp -implicitDefEqProofs -dsimp (maxSteps := 1000000) (disch := first | omega | (simp only [wkLen]; omega) | decide +kernel) only [↓wkPre, ↓wkPre2, ↓wkE, wkPost, wkDef, wkF, simprocAttr, e3, e4, e10, e11, e12, e18, e19, e20, gj, hLl, c6, c11, k2]
            refine append_step telem_59 (ys := [acP ⟨i, key, false⟩]) (elems_new2 rfl) (by simp) (hown.app _) ?_ ?_
            · rw [byt_62, acs_len]; simp; omega
            intro w' H' hown' hfr' hle hb'
            simp -implicitDefEqProofs -dsimp (maxSteps := 1000000) (disch := first | omega | (simp only [wkLen]; omega) | decide +kernel) only [↓wkPre, ↓wkPre2, ↓wkE, wkPost, wkDef, wkF, simprocAttr, e4, e10, e11, e12, e18, e19, e20]
            exact nxt w' H' (by rw [hsj2, acs_snoc]; exact hown')
          rw [if_neg k2] at hsj2
          by_cases k1 : ok = 1
          · rw [if_pos (.inl k1)] at hsj2
            by_cases c0 : code = 0
            · rw [decide_eq_true c0] at hsj2
              simp -implicitDefEqProofs -dsimp (maxSteps := 1000000) (disch := first | omega | (simp only [wkLen]; omega) | decide +kernel) only [↓wkPre, ↓wkPre2, ↓wkE, wkPost, wkDef, wkF, simprocAttr, e3, e4, e10, e11, e12, e18, e19, e20, gj, hLl, c6, c11, k1, k2, c0]
              refine append_step telem_59 (ys := [acP ⟨i, key, true⟩]) (elems_new2 rfl) (by simp) (hown.app _) ?_ ?_
              · rw [byt_62, acs_len]; simp; omega
              intro w' H' hown' hfr' hle hb'
              simp -implicitDefEqProofs -dsimp (maxSteps := 1000000) (disch := first | omega | (simp only [wkLen]; omega) | decide +kernel) only [↓wkPre, ↓wkPre2, ↓wkE, wkPost, wkDef, wkF, simprocAttr, e4, e10, e11, e12, e18, e19, e20]
              exact nxt w' H' (by rw [hsj2, acs_snoc]; exact hown')
            · rw [decide_eq_false c0] at hsj2
              have c0' : (code == 0) = false := by simpa using c0
              simp -implicitDefEqProofs -dsimp (maxSteps := 1000000) (disch := first | omega | (simp only [wkLen]; omega) | decide +kernel) only [↓wkPre, ↓wkPre2, ↓wkE, wkPost, wkDef, wkF, simprocAttr, e3, e4, e10, e11, e12, e18, e19, e20, gj, hLl, c6, c11, k1, k2, c0, c0']
              refine append_step telem_59 (ys := [acP ⟨i, key, false⟩]) (elems_new2 rfl) (by simp) (hown.app _) ?_ ?_
              · rw [byt_62, acs_len]; simp; omega
              intro w' H' hown' hfr' hle hb'
              simp -implicitDefEqProofs -dsimp (maxSteps := 1000000) (disch := first | omega | (simp only [wkLen]; omega) | decide +kernel) only [↓wkPre, ↓wkPre2, ↓wkE, wkPost, wkDef, wkF, simprocAttr, e4, e10, e11, e12, e18, e19, e20]
              exact nxt w' H' (by rw [hsj2, acs_snoc]; exact hown')
          by_cases k3 : ok = 3
          · rw [if_pos (.inr k3)] at hsj2
            by_cases c0 : code = 0
            · rw [decide_eq_true c0] at hsj2
              simp -implicitDefEqProofs -dsimp (maxSteps := 1000000) (disch := first | omega | (simp only [wkLen]; omega) | decide +kernel) only [↓wkPre, ↓wkPre2, ↓wkE, wkPost, wkDef, wkF, simprocAttr, e3, e4, e10, e11, e12, e18, e19, e20, gj, hLl, c6, c11, k1, k2, k3, c0]
              refine append_step telem_59 (ys := [acP ⟨i, key, true⟩]) (elems_new2 rfl) (by simp) (hown.app _) ?_ ?_
              · rw [byt_62, acs_len]; simp; omega
              intro w' H' hown' hfr' hle hb'
              simp -implicitDefEqProofs -dsimp (maxSteps := 1000000) (disch := first | omega | (simp only [wkLen]; omega) | decide +kernel) only [↓wkPre, ↓wkPre2, ↓wkE, wkPost, wkDef, wkF, simprocAttr, e4, e10, e11, e12, e18, e19, e20]
              exact nxt w' H' (by rw [hsj2, acs_snoc]; exact hown')
            · rw [decide_eq_false c0] at hsj2
              have c0' : (code == 0) = false := by simpa using c0
              simp -implicitDefEqProofs -dsimp (maxSteps := 1000000) (disch := first | omega | (simp only [wkLen]; omega) | decide +kernel) only [↓wkPre, ↓wkPre2, ↓wkE, wkPost, wkDef, wkF, simprocAttr, e3, e4, e10, e11, e12, e18, e19, e20, gj, hLl, c6, c11, k1, k2, k3, c0, c0']
              refine append_step telem_59 (ys := [acP ⟨i, key, false⟩]) (elems_new2 rfl) (by simp) (hown.app _) ?_ ?_
              · rw [byt_62, acs_len]; simp; omega
              intro w' H' hown' hfr' hle hb'
              simp -implicitDefEqProofs -dsimp (maxSteps := 1000000) (disch := first | omega | (simp only [wkLen]; omega) | decide +kernel) only [↓wkPre, ↓wkPre2, ↓wkE, wkPost, wkDef, wkF, simprocAttr, e4, e10, e11, e12, e18, e19, e20]
              exact nxt w' H' (by rw [hsj2, acs_snoc]; exact hown')
          rw [if_neg (fun h => h.elim k1 k3)] at hsj2
          by_cases k4 : ok = 4
          · rw [if_pos k4] at hsj2
            have hrl := rgs_len recs
            simp -implicitDefEqProofs -dsimp (maxSteps := 1000000) (disch := first | omega | (simp only [wkLen]; omega) | decide +kernel) only [↓wkPre, ↓wkPre2, ↓wkE, wkPost, wkDef, wkF, simprocAttr, e3, e4, e10, e11, e12, e18, e19, e20, gj, hLl, c6, c11, k1, k2, k3, k4, hrl]
            refine loop_use extMono (fun m' e H => ∃ (q : Nat) (w : AV), m' = recs.length - q ∧ q ≤ recs.length ∧ e 3 = w ∧ e 4 = .p (I i) ∧ e 10 = .p (.sl 4 (txs T)) ∧ e 11 = .p (I T.length) ∧ e 12 = .p (I i) ∧ e 18 = .p (.sl 16 (vts L)) ∧ e 19 = .p (I L.length) ∧ e 20 = .p (I j) ∧ e 78 = .p (.sl 6 (rgs recs)) ∧ e 79 = .p (I recs.length) ∧ e 80 = .p (I q) ∧ OwnS H w 3 (acs (K ++ (recs.take q).map fun r => ⟨i, r.key, false⟩))) ?_ recs.length _ _ ⟨0, w, rfl, by omega, ?_⟩
            · clear e3 e4 e10 e11 e12 e18 e19 e20 hown e w H
              rintro m' e H ⟨q, w, rfl, hq, e3, e4, e10, e11, e12, e18, e19, e20, e78, e79, e80, hown⟩
              rcases Nat.lt_or_ge q recs.length with hlq | hgq
              · have gq := rgs_get hlq
                have hsq : K ++ (recs.take (q + 1)).map (fun r => (⟨i, r.key, false⟩ : Ac)) = (K ++ (recs.take q).map fun r => ⟨i, r.key, false⟩) ++ [⟨i, recs[q].key, false⟩] := by
                  rw [List.take_succ_eq_append_getElem hlq, List.map_append, List.append_assoc]; rfl
                have hql : (K ++ (recs.take q).map fun r => (⟨i, r.key, false⟩ : Ac)).length ≤ 2000001000 := by
                  rw [List.length_append, List.length_map, List.length_take]; omega
                simp -implicitDefEqProofs -dsimp (maxSteps := 1000000) (disch := first | omega | (simp only [wkLen]; omega) | decide +kernel) only [↓wkPre, ↓wkPre2, ↓wkE, wkPost, wkDef, wkF, simprocAttr, e3, e4, e10, e11, e12, e18, e19, e20, e78, e79, e80, gq, hrl]
                refine append_step telem_59 (ys := [acP ⟨i, recs[q].key, false⟩]) (elems_new2 rfl) (by simp) (hown.app _) ?_ ?_
                · rw [byt_62, acs_len]; simp only [List.length_cons, List.length_nil]; omega
                intro w' H' hown' hfr' hle hb'
                simp -implicitDefEqProofs -dsimp (maxSteps := 1000000) (disch := first | omega | (simp only [wkLen]; omega) | decide +kernel) only [↓wkPre, ↓wkPre2, ↓wkE, wkPost, wkDef, wkF, simprocAttr, e4, e10, e11, e12, e18, e19, e20, e78, e79, e80]
                exact ⟨recs.length - (q + 1), by omega, q + 1, w', rfl, by omega, rfl, by push_cast; rfl, by rw [hsq, acs_snoc]; exact hown'⟩
              · obtain rfl : q = recs.length := by omega
                rw [List.take_length] at hown
                simp -implicitDefEqProofs -dsimp (maxSteps := 1000000) (disch := first | omega | (simp only [wkLen]; omega) | decide +kernel) only [↓wkPre, ↓wkPre2, ↓wkE, wkPost, wkDef, wkF, simprocAttr, e3, e4, e10, e11, e12, e18, e19, e20, e78, e79, e80]
                exact nxt w H (by rw [hsj2]; exact hown)
            · simp -implicitDefEqProofs -dsimp (maxSteps := 1000000) (disch := first | omega | (simp only [wkLen]; omega) | decide +kernel) only [↓wkPre, ↓wkPre2, ↓wkE, wkPost, wkDef, wkF, simprocAttr]
              exact ⟨e3, e4, e10, e11, e12, e18, e19, e20, by simpa using hown.app _⟩
          · rw [if_neg k4, List.append_nil] at hsj2
            simp -implicitDefEqProofs -dsimp (maxSteps := 1000000) (disch := first | omega | (simp only [wkLen]; omega) | decide +kernel) only [↓wkPre, ↓wkPre2, ↓wkE, wkPost, wkDef, wkF, simprocAttr, e3, e4, e10, e11, e12, e18, e19, e20, gj, hLl, c6, c11, k1, k2, k3, k4]
            exact nxt w _ (by rw [hsj2]; exact hown.app _)
        · obtain rfl : j = L.length := by omega
          rw [List.take_length] at hown
          simp -implicitDefEqProofs -dsimp (maxSteps := 1000000) (disch := first | omega | (simp only [wkLen]; omega) | decide +kernel) only [↓wkPre, ↓wkPre2, ↓wkE, wkPost, wkDef, wkF, simprocAttr, e3, e4, e10, e11, e12, e18, e19, e20]
          exact ⟨T.length - (i + 1), by omega, i + 1, w, rfl, by omega, rfl, by push_cast; rfl, by rw [hsn]; exact hown⟩
      · simp -implicitDefEqProofs -dsimp (maxSteps := 1000000) (disch := first | omega | (simp only [wkLen]; omega) | decide +kernel) only [↓wkPre, ↓wkPre2, ↓wkE, wkPost, wkDef, wkF, simprocAttr]
        exact ⟨e3, e10, e11, e12, by rw [show accT (i : Int) [] = [] from rfl, List.append_nil]; exact hown.app _⟩
    · obtain rfl : i = T.length := by omega
      rw [List.take_length] at hown
      obtain ⟨vs1, vs2, vs3⟩ := own_shape hown
      simp -implicitDefEqProofs -dsimp (maxSteps := 1000000) (disch := first | omega | (simp only [wkLen]; omega) | decide +kernel) only [↓wkPre, ↓wkPre2, ↓wkE, wkPost, wkDef, wkF, simprocAttr, e3, e10, e11, e12, vs1, vs2, vs3]
      rw [frzR_o telem_59 hown]
      rfl
  · simp -implicitDefEqProofs -dsimp (maxSteps := 1000000) (disch := first | omega | (simp only [wkLen]; omega) | decide +kernel) only [↓wkPre, ↓wkPre2, ↓wkE, wkPost, wkDef, wkF, simprocAttr]
    exact OwnS.nil _ _
end Go.Ev.F35
end
