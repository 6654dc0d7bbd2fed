/- A part of the proof: walks of the functions that the law calls. No condition. -/
import Derived.Test.YtkabheeblnooaaaPoolA
import Derived.Test.YtkabheeblnooaaaSorts
set_option linter.all false
section
namespace Go.Ev.F28
open Go.Proofs Go.Ev Go.Sort
set_option maxRecDepth 100000
set_option linter.all false
def isL (l : List Int) : List PV := l.map I
theorem isL_len (l : List Int) : (isL l).length = l.length := by simp [isL]
theorem isL_get {l : List Int} {i : Nat} (h : i < l.length) : (isL l)[i]? = some (I l[i]) := by simp [isL, h]
theorem isL_snoc (l : List Int) (x : Int) : isL (l ++ [x]) = isL l ++ [I x] := by simp [isL]
theorem isL_encA (l : List Int) : isL l = encA E l.toArray := by simp [isL, encA]
theorem wSortO (w : AV) (T : List Int) (H : Heap) (ho : OwnS H w 0 (isL T)) (hT : T.length < 50) (Q : AV → Heap → Prop)
    (hq : ∀ H', OwnS H' w 0 (isL (T.mergeSort (fun x y => !ltInt y x))) → (∀ i, w.blk ≠ some i → i < H.length → H'[i]? = H[i]?) → H.length ≤ H'.length → Q (.p (.tup [])) H') : (W Cf okf).call 35 [w] H Q := by
  rcases ho with ⟨rfl, h0⟩ | ⟨b, g, rfl, hb⟩
  · have : T = [] := by simpa [isL] using h0
    subst this
    exact wSort0 H Q (hq H (by simpa [isL] using OwnS.nil H 0) (fun _ _ _ => rfl) (Nat.le_refl _))
  · have hsz : (isL T).length = T.toArray.size := by rw [isL_len]; rfl
    rw [hsz]
    rw [isL_encA] at hb
    refine wSort b g false T.toArray H hb (by simpa using hT) Q fun H' d' hr hs hf => ?_
    have hl : d'.toList.length = T.length := by rw [hs]; simp
    rw [show T.toArray.toList = T from rfl] at hs
    rw [hsz] at hq
    refine hq H' (.inr ⟨b, g, ?_, ?_⟩) (fun i hi hl => hf.1 i (fun e => hi (by rw [e]; rfl)) hl) hf.2
    · rw [isL_len, ← hs, hl]; rfl
    · rw [← hs]
      have : isL d'.toList = encA E d' := by simp [isL, encA]
      rw [this]; exact hr
theorem sorted_rise {O M : List Int} (hp : O.Perm M) (hn : M.Nodup) : (O.mergeSort (fun x y => !ltInt y x)).Pairwise (· < ·) ∧ (O.mergeSort (fun x y => !ltInt y x)).Perm M := by
  have h1 := List.pairwise_mergeSort (le := fun x y : Int => !ltInt y x) (fun a b c h1 h2 => by simp [ltInt] at *; omega) (fun a b => by simp [ltInt]; omega) O
  have hpm := (List.mergeSort_perm O (fun x y => !ltInt y x)).trans hp
  have h2 : (O.mergeSort (fun x y => !ltInt y x)).Nodup := hpm.nodup_iff.2 hn
  refine ⟨?_, hpm⟩
  have h3 := h1.and h2
  exact h3.imp (fun ⟨a, b⟩ => by simp [ltInt] at a; omega)
section
variable {H : Heap} {c : Pos} {m : Md} {X : List Fx} {t w : Nat}
set_option maxHeartbeats 1000000 in
theorem w19 (h : Inv H c m X t w) (hr : m.room < 50) (Q : AV → Heap → Prop)
    (hq : ∀ R v H', R.Pairwise (· < ·) → R.Perm (m.L.map (·.n)) → OwnS H' v 0 (isL R) → (∀ b, v.blk = some b → H.length ≤ b) → (∀ i, i < H.length → H'[i]? = H[i]?) → H.length ≤ H'.length → Q v H') : (Ev.W Cf okf).call 19 [.vptr c.pp 0] H Q := by
  refine top_mk extMono Try.func19 body19 (by decide) rfl ?_
  simp only [c19, Try.f19, Option.getD_some]
  have hp := h.pool
  obtain ⟨g, E, h5, hE⟩ := h.map
  have hlt := h.lt
  have hmb := hlt c.mb (by simp [Foot])
  have hfull := h.full
  have hEl : E.length = X.length := by rw [hE.length_eq]; simp
  have hEn : (E.map (·.1)).Perm (m.L.map (·.n)) := by
    have := hE.map (·.1)
    rw [List.map_map] at this
    rw [h.L, List.map_map]; exact this
  have hEd : (m.L.map (·.n)).Nodup := by rw [h.L, List.map_map]; exact h.nn
  simp -implicitDefEqProofs -dsimp (maxSteps := 1000000) (disch := first | omega | (simp only [wkLen]; omega) | decide +kernel) only [↓wkPre, ↓wkPre2, ↓wkE, wkPost, wkDef, wkF, simprocAttr, hp, nn_v, nn_fn, List.length_map, pgL_len, allP_map, take_pg, take_pgm, get0, get1, get2, getm0, getm1, getm2, get00, getm00, setm0, setm1, setm2, setm00, setR_pg, setR_pg1, flat_pg, flatL_app, eq_pg]
  rw [show evRange Try.prog 69 (.map c.mb) H = some (.it H.length, H ++ [.mit c.mb g (0 :: List.range E.length)]) by unfold evRange; simp [tmap_69, h5, kI]]
  simp -implicitDefEqProofs -dsimp (maxSteps := 1000000) (disch := first | omega | (simp only [wkLen]; omega) | decide +kernel) only [↓wkPre, ↓wkPre2, ↓wkE, wkPost, wkDef, wkF, simprocAttr]
  refine loop_use extMono (fun m' e Hc => ∃ (todo : List Nat) (ld : Nat) (O : List Int) (w : AV), m' = todo.length ∧ e 3 = w ∧ e 9 = .it H.length ∧ H.length < Hc.length ∧ (∀ i, i < H.length → Hc[i]? = H[i]?) ∧ Hc[H.length]? = some (.mit c.mb g (ld :: todo)) ∧
    (∀ b, w.blk = some b → H.length < b) ∧ OwnS Hc w 0 (isL O) ∧ (∀ j ∈ todo, j < E.length) ∧ (O ++ todo.map (fun j => E[j]!.1)).Perm (E.map (·.1))) ?_ E.length _ _ ⟨List.range E.length, 0, [], .nsl, by simp, ?_⟩
  · rintro m' e Hc ⟨todo, ld, O, w, rfl, e3, e9, hcl, hfr, hit, hwb, hown, htd, hperm⟩
    have hOl : O.length ≤ E.length := by have := hperm.length_eq; simp at this; omega
    have hm1 := (hfr _ hmb).trans h5
    simp -implicitDefEqProofs -dsimp (maxSteps := 1000000) (disch := first | omega | (simp only [wkLen]; omega) | decide +kernel) only [↓wkPre, ↓wkPre2, ↓wkE, wkPost, wkDef, wkF, simprocAttr, e9]
    rw [show iterOf Hc H.length = some (kI .i64 (E.map (·.1)), E.map (fun e => AV.vptr e.2 0), todo, fun l => Hc.set H.length (.mit c.mb g l)) by unfold iterOf; simp [hit, hm1], oK_some]
    refine ⟨fun hn => ?_, fun j hj => ?_⟩
    · simp only at hn
      subst hn
      simp only [List.map_nil, List.append_nil] at hperm
      obtain ⟨r1, r2⟩ := sorted_rise (hperm.trans hEn) hEd
      simp -implicitDefEqProofs -dsimp (maxSteps := 1000000) (disch := first | omega | (simp only [wkLen]; omega) | decide +kernel) only [↓wkPre, ↓wkPre2, ↓wkE, wkPost, wkDef, wkF, simprocAttr, e3]
      refine imp_call md_35 (wSortO w O Hc hown (by omega) _ ?_)
      intro H1 hown1 hfr1 hl1
      simp -implicitDefEqProofs -dsimp (maxSteps := 1000000) (disch := first | omega | (simp only [wkLen]; omega) | decide +kernel) only [↓wkPre, ↓wkPre2, ↓wkE, wkPost, wkDef, wkF, simprocAttr, e3]
      exact hq _ _ _ r1 r2 hown1 (fun b hb => by have := hwb b hb; omega) (fun i hi => (hfr1 i (fun e => by have := hwb _ e; omega) (by omega)).trans (hfr i hi)) (by omega)
    · simp only at hj
      have hjM := htd j hj
      have hg1 : (kI .i64 (E.map (·.1)))[j]? = some (I E[j]!.1) := by simp [kI, hjM]
      have hg2 : (E.map (fun e : Int × Nat => AV.vptr e.2 0))[j]? = some (.vptr E[j]!.2 0) := by simp [hjM]
      simp only [hg1, oK_some, hg2]
      have hkey : entOf (Hc.set H.length (.mit c.mb g ((j + 1) :: todo.erase j))) H.length = some (I E[j]!.1, .vptr E[j]!.2 0) := by
        unfold entOf
        rw [hs_set hcl]
        simp only [hs_ne (show H.length ≠ c.mb by omega), hm1, hg1, hg2, if_true, Option.bind_some, Option.map_some]
      simp -implicitDefEqProofs -dsimp (maxSteps := 1000000) (disch := first | omega | (simp only [wkLen]; omega) | decide +kernel) only [↓wkPre, ↓wkPre2, ↓wkE, wkPost, wkDef, wkF, simprocAttr, e3, e9, hkey]
      refine append_step telem_52 (elems_new (by simp) rfl) (by simp) ((hown.set (fun h => by have := hwb _ h; omega)).app _) ?_ ?_
      · rw [byt_3, isL_len]; simp; omega
      intro w' H' hown' hfr' hle hb'
      simp only [List.length_append, List.length_set, List.length_cons, List.length_nil] at hfr' hle hb'
      simp -implicitDefEqProofs -dsimp (maxSteps := 1000000) (disch := first | omega | (simp only [wkLen]; omega) | decide +kernel) only [↓wkPre, ↓wkPre2, ↓wkE, wkPost, wkDef, wkF, simprocAttr, e3, e9]
      have hp := (List.perm_cons_erase hj).symm
      refine ⟨(todo.erase j).length, by rw [List.length_erase_of_mem hj]; have := List.length_pos_of_mem hj; omega, todo.erase j, j + 1, O ++ [E[j]!.1], w', rfl, rfl, by omega, ?_, ?_, fun c hc => ?_, ?_, fun i hi => htd i (List.mem_of_mem_erase hi), ?_⟩
      · intro i hi
        rw [hfr' i (by omega) (fun e => by have := hwb _ e; omega), hs_app (by simp; omega), hs_ne (by omega)]; exact hfr i hi
      · rw [hfr' H.length (by omega) (fun e => by have := hwb _ e; omega), hs_app (by simp; omega), hs_set hcl]
      · by_cases hcl2 : c < Hc.length + (0 + 1)
        · exact hwb c (hb' c hc hcl2)
        · omega
      · rw [isL_snoc]; exact hown'
      · refine List.Perm.trans ?_ hperm
        rw [List.append_assoc]
        refine List.Perm.append_left O ?_
        have := hp.map (fun j => E[j]!.1)
        simpa using this
  · simp -implicitDefEqProofs -dsimp (maxSteps := 1000000) (disch := first | omega | (simp only [wkLen]; omega) | decide +kernel) only [↓wkPre, ↓wkPre2, ↓wkE, wkPost, wkDef, wkF, simprocAttr]
    refine ⟨by omega, fun i hi => hs_app hi, (fun c h => by cases h), OwnS.nil _ _, fun j hj => by simpa using hj, ?_⟩
    have : (List.range E.length).map (fun j => E[j]!.1) = E.map (·.1) := by
      apply List.ext_getElem (by simp)
      intro i h1 h2
      simp at h1
      simp [h1]
    rw [this]
def allF (m : Md) (ns : List Int) : Md := ns.foldl (fun m n => (flushF m n).1) m
theorem allF_snoc (m : Md) (ns : List Int) (n : Int) : allF m (ns ++ [n]) = (flushF (allF m ns) n).1 := by simp [allF]
theorem allF_n (m : Md) (ns : List Int) : (allF m ns).L.map (·.n) = m.L.map (·.n) := by
  unfold allF
  induction ns generalizing m with
  | nil => rfl
  | cons n ns ih => rw [List.foldl_cons, ih, flushF_n]
def allW (m : Md) : List Int → Nat
  | [] => 0
  | n :: ns => flushW m n + allW (flushF m n).1 ns
theorem allW_snoc (n : Int) : ∀ (ns : List Int) (m : Md), allW m (ns ++ [n]) = allW m ns + flushW (allF m ns) n
  | [], m => by simp [allW, allF]
  | k :: ns, m => by
    rw [List.cons_append, allW, allW, allW_snoc n ns]
    show _ = _ + flushW (allF (flushF m k).1 ns) n
    omega
theorem allW_le : ∀ (ns : List Int) (m : Md), allW m ns ≤ ns.length
  | [], m => by simp [allW]
  | k :: ns, m => by
    have h1 := allW_le ns (flushF m k).1
    have h2 := flushW_le m k
    rw [allW, List.length_cons]; omega
theorem flushF_code {m : Md} {n : Int} (h : n ∈ m.L.map (·.n)) : (flushF m n).2 = 0 := by
  cases hf : findF m.L n with
  | none => exact absurd h (find_none.1 hf)
  | some i =>
    obtain ⟨hi, _⟩ := findF_some hf
    rw [flushF_some hf hi]; split <;> rfl
theorem w16 (h : Inv H c m X t w) (hr : m.room < 50) (hw : w + 60 ≤ 100000) (Q : AV → Heap → Prop)
    (hq : ∀ H' R X' w', R.Pairwise (· < ·) → R.Perm (m.L.map (·.n)) → Inv H' c (allF m R) X' t w' → w' = w + allW m R → Keep c H H' X X' → Q (.p (I 0)) H') : (Ev.W Cf okf).call 16 [.vptr c.pp 0] H Q := by
  refine top_mk extMono Try.func16 body16 (by decide) rfl ?_
  simp only [c16, Try.f16, Option.getD_some]
  simp -implicitDefEqProofs -dsimp (maxSteps := 1000000) (disch := first | omega | (simp only [wkLen]; omega) | decide +kernel) only [↓wkPre, ↓wkPre2, ↓wkE, wkPost, wkDef, wkF, simprocAttr]
  refine imp_call md_19 (w19 h hr _ ?_)
  intro R v H1 hR1 hR2 hown hvb hfr hle
  have hl := isL_len R
  have hRl : R.length ≤ m.room := by
    rw [hR2.length_eq, List.length_map, h.L, List.length_map]; exact h.full
  have hI1 : Inv H1 c m X t w := h.keep fun i hi => hfr i (h.lt i hi)
  have hK1 : Keep c H H1 X X := Keep.mk' hle (fun i hi _ => hfr i hi) rfl
  have hvf : ∀ b, v.blk = some b → b ∉ Foot c X := fun b hb hf => by have := h.lt b hf; have := hvb b hb; omega
  have hvlt : ∀ b, v.blk = some b → b < H1.length := fun b hb => hown.lt b hb
  rcases hown with ⟨rfl, hx⟩ | ⟨bb, g, rfl, hbk⟩
  · have : R = [] := by simpa [isL] using hx
    subst this
    simp -implicitDefEqProofs -dsimp (maxSteps := 1000000) (disch := first | omega | (simp only [wkLen]; omega) | decide +kernel) only [↓wkPre, ↓wkPre2, ↓wkE, wkPost, wkDef, wkF, simprocAttr]
    refine loop_use extMono (fun m' e Hc => m' = 0 ∧ e 8 = .p (I 0) ∧ e 9 = .p (I 0) ∧ Hc = H1) ?_ 0 _ _ ⟨rfl, ?_⟩
    · rintro m' e Hc ⟨rfl, e8, e9, rfl⟩
      simp -implicitDefEqProofs -dsimp (maxSteps := 1000000) (disch := first | omega | (simp only [wkLen]; omega) | decide +kernel) only [↓wkPre, ↓wkPre2, ↓wkE, wkPost, wkDef, wkF, simprocAttr, e8, e9]
      exact hq _ _ _ _ hR1 hR2 hI1 rfl hK1
    · simp -implicitDefEqProofs -dsimp (maxSteps := 1000000) (disch := first | omega | (simp only [wkLen]; omega) | decide +kernel) only [↓wkPre, ↓wkPre2, ↓wkE, wkPost, wkDef, wkF, simprocAttr]
  · have hbf := hvf bb rfl
    simp -implicitDefEqProofs -dsimp (maxSteps := 1000000) (disch := first | omega | (simp only [wkLen]; omega) | decide +kernel) only [↓wkPre, ↓wkPre2, ↓wkE, wkPost, wkDef, wkF, simprocAttr, hl]
    refine loop_use extMono (fun m' e Hc => ∃ (i : Nat) (X' : List Fx) (w' : Nat), m' = R.length - i ∧ i ≤ R.length ∧ e 0 = .vptr c.pp 0 ∧ e 7 = .ref bb g 0 R.length false ∧ e 8 = .p (I R.length) ∧ e 9 = .p (I i) ∧ Inv Hc c (allF m (R.take i)) X' t w' ∧ w' = w + allW m (R.take i) ∧ Keep c H Hc X X' ∧ Hc[bb]? = some (.arr true g 0 (isL R)) ∧ bb ∉ Foot c X' ∧ bb < Hc.length) ?_ R.length _ _ ⟨0, X, w, rfl, by omega, ?_⟩
    · rintro m' e Hc ⟨i, X', w', rfl, hi, e0, e7, e8, e9, hI, hw', hK, hb, hbX, hbl⟩
      rcases Nat.lt_or_ge i R.length with hlt | hge
      · have gi := isL_get hlt
        simp -implicitDefEqProofs -dsimp (maxSteps := 1000000) (disch := first | omega | (simp only [wkLen]; omega) | decide +kernel) only [↓wkPre, ↓wkPre2, ↓wkE, wkPost, wkDef, wkF, simprocAttr, e0, e7, e8, e9, hl, gi, hb]
        have hle1 := allW_le (R.take i) m
        rw [List.length_take] at hle1
        refine imp_call md_20 (w20 hI R[i] (by omega) _ ?_)
        intro H2 X2 w2 hI2 hw2 hK2 _
        have hcode : (flushF (allF m (R.take i)) R[i]).2 = 0 := flushF_code (by rw [allF_n]; exact hR2.mem_iff.1 (List.getElem_mem hlt))
        rw [hcode]
        rw [← allF_snoc, ← List.take_succ_eq_append_getElem hlt] at hI2
        have hK' := hK.trans hK2
        have hb2 := (hK2.same bb hbl hbX).trans hb
        simp -implicitDefEqProofs -dsimp (maxSteps := 1000000) (disch := first | omega | (simp only [wkLen]; omega) | decide +kernel) only [↓wkPre, ↓wkPre2, ↓wkE, wkPost, wkDef, wkF, simprocAttr, e0, e7, e8, e9]
        exact ⟨R.length - (i + 1), by omega, i + 1, X2, w2, rfl, by omega, by push_cast; rfl, hI2, by rw [hw2, hw', List.take_succ_eq_append_getElem hlt, allW_snoc]; omega, hK', hb2, fun hf => (hK2.q bb hf).elim hbX (by omega), (List.getElem?_eq_some_iff.1 hb2).1⟩
      · have hie : i = R.length := by omega
        subst hie
        rw [List.take_length] at hI hw'
        simp -implicitDefEqProofs -dsimp (maxSteps := 1000000) (disch := first | omega | (simp only [wkLen]; omega) | decide +kernel) only [↓wkPre, ↓wkPre2, ↓wkE, wkPost, wkDef, wkF, simprocAttr, e0, e7, e8, e9]
        exact hq _ _ _ _ hR1 hR2 hI hw' hK
    · simp -implicitDefEqProofs -dsimp (maxSteps := 1000000) (disch := first | omega | (simp only [wkLen]; omega) | decide +kernel) only [↓wkPre, ↓wkPre2, ↓wkE, wkPost, wkDef, wkF, simprocAttr]
      exact ⟨hI1, rfl, hK1, hbk, hbf, hvlt bb rfl⟩
end
end Go.Ev.F28
end
section
namespace Go.Ev.F28
open Go.Proofs Go.Ev
set_option maxRecDepth 100000
set_option linter.all false
def withF (m : Md) (n : Int) (g : UInt8 → UInt8) : Md × Nat :=
  if (pinF m n).2.2 ≠ 0 then ((pinF m n).1, (pinF m n).2.2) else unpinF (putF (pinF m n).1 n (g (pinF m n).2.1)).1 n
abbrev opP (k n : Int) (b : UInt8) : PV := .agg [I k, I n, .int .u8 b.toNat]
theorem addb (a b : UInt8) : ((a + b).toNat : Int) = ((a.toNat : Int) + b.toNat) % 256 := by
  rw [UInt8.toNat_add]; push_cast; rfl
theorem wrb (a b : UInt8) : IntKind.u8.wrap ((a.toNat : Int) + b.toNat) = ((a + b).toNat : Int) := by
  rw [addb]; rfl
theorem wrb1 (a : UInt8) : IntKind.u8.wrap ((a.toNat : Int) + 1) = ((a + 1).toNat : Int) := wrb a 1
section
variable {H : Heap} {c : Pos} {m : Md} {X : List Fx} {t w : Nat}
theorem w31 (H : Heap) (b : UInt8) (bo : Nat) (k n : Int) (ob : UInt8) (ho : H[bo]? = some (.var true (.p (opP k n ob)))) (Q : AV → Heap → Prop) (hq : ∀ l, Q (.p (pgP (b + ob))) (H ++ l)) : (Ev.W Cf okf).call 31 [.p (pgP b), .vptr bo 0] H Q := by
  refine top_mk extMono Try.func31 body31 (by decide) rfl ?_
  simp only [c31, Try.f31, Option.getD_some]
  have hlt := (List.getElem?_eq_some_iff.1 ho).1
  have a1 : ∀ l : Heap, (H ++ l)[bo]? = some (.var true (.p (opP k n ob))) := fun l => (hs_app hlt).trans ho
  simp -implicitDefEqProofs -dsimp (maxSteps := 1000000) (disch := first | omega | (simp only [wkLen]; omega) | decide +kernel) only [↓wkPre, ↓wkPre2, ↓wkE, wkPost, wkDef, wkF, simprocAttr, a1, nn_v, nn_fn, List.length_map, pgL_len, allP_map, take_pg, take_pgm, get0, get1, get2, getm0, getm1, getm2, get00, getm00, setm0, setm1, setm2, setm00, setR_pg, setR_pg1, flat_pg, flatL_app, eq_pg]
  rw [wrb]
  refine PS.app md_12 Try.func12 (p12 (b + ob)) rfl ?_
  rintro _ rfl
  simp -implicitDefEqProofs -dsimp (maxSteps := 1000000) (disch := first | omega | (simp only [wkLen]; omega) | decide +kernel) only [↓wkPre, ↓wkPre2, ↓wkE, wkPost, wkDef, wkF, simprocAttr, nn_v, nn_fn, List.length_map, pgL_len, allP_map, take_pg, take_pgm, get0, get1, get2, getm0, getm1, getm2, get00, getm00, setm0, setm1, setm2, setm00, setR_pg, setR_pg1, flat_pg, flatL_app, eq_pg]
  exact hq _
theorem w14 (H : Heap) (b : UInt8) (bo : Nat) (k n : Int) (ob : UInt8) (ho : H[bo]? = some (.var true (.p (opP k n ob)))) (Q : AV → Heap → Prop) (hq : ∀ l, Q (.p (pgP (b + ob))) (H ++ l)) : (Ev.W Cf okf).call 14 [.p (pgP b), .vptr bo 0] H Q := by
  refine top_mk extMono Try.func14 body14 (by decide) rfl ?_
  simp only [c14, Try.f14, Option.getD_some]
  have hlt := (List.getElem?_eq_some_iff.1 ho).1
  have a1 : ∀ l : Heap, (H ++ l)[bo]? = some (.var true (.p (opP k n ob))) := fun l => (hs_app hlt).trans ho
  simp -implicitDefEqProofs -dsimp (maxSteps := 1000000) (disch := first | omega | (simp only [wkLen]; omega) | decide +kernel) only [↓wkPre, ↓wkPre2, ↓wkE, wkPost, wkDef, wkF, simprocAttr, a1, nn_v, nn_fn, List.length_map, pgL_len, allP_map, take_pg, take_pgm, get0, get1, get2, getm0, getm1, getm2, get00, getm00, setm0, setm1, setm2, setm00, setR_pg, setR_pg1, flat_pg, flatL_app, eq_pg]
  rw [wrb]
  refine PS.app md_12 Try.func12 (p12 (b + ob)) rfl ?_
  rintro _ rfl
  simp -implicitDefEqProofs -dsimp (maxSteps := 1000000) (disch := first | omega | (simp only [wkLen]; omega) | decide +kernel) only [↓wkPre, ↓wkPre2, ↓wkE, wkPost, wkDef, wkF, simprocAttr, nn_v, nn_fn, List.length_map, pgL_len, allP_map, take_pg, take_pgm, get0, get1, get2, getm0, getm1, getm2, get00, getm00, setm0, setm1, setm2, setm00, setR_pg, setR_pg1, flat_pg, flatL_app, eq_pg]
  exact hq _
theorem w22 (H : Heap) (b : UInt8) (Q : AV → Heap → Prop) (hq : ∀ l, Q (.p (pgP (b + 1))) (H ++ l)) : (Ev.W Cf okf).call 22 [.p (pgP b)] H Q := by
  refine top_mk extMono Try.func22 body22 (by decide) rfl ?_
  simp only [c22, Try.f22, Option.getD_some]
  simp -implicitDefEqProofs -dsimp (maxSteps := 1000000) (disch := first | omega | (simp only [wkLen]; omega) | decide +kernel) only [↓wkPre, ↓wkPre2, ↓wkE, wkPost, wkDef, wkF, simprocAttr, nn_v, nn_fn, List.length_map, pgL_len, allP_map, take_pg, take_pgm, get0, get1, get2, getm0, getm1, getm2, get00, getm00, setm0, setm1, setm2, setm00, setR_pg, setR_pg1, flat_pg, flatL_app, eq_pg]
  rw [wrb1]
  refine PS.app md_12 Try.func12 (p12 (b + 1)) rfl ?_
  rintro _ rfl
  simp -implicitDefEqProofs -dsimp (maxSteps := 1000000) (disch := first | omega | (simp only [wkLen]; omega) | decide +kernel) only [↓wkPre, ↓wkPre2, ↓wkE, wkPost, wkDef, wkF, simprocAttr, nn_v, nn_fn, List.length_map, pgL_len, allP_map, take_pg, take_pgm, get0, get1, get2, getm0, getm1, getm2, get00, getm00, setm0, setm1, setm2, setm00, setR_pg, setR_pg1, flat_pg, flatL_app, eq_pg]
  exact hq _
theorem lastF_find {m : Md} {i : Nat} {f' : Fr} : True := trivial
theorem w13 (h : Inv H c m X t w) (n : Int) (g : FuncId) (caps : List AV) (gb : UInt8 → UInt8) (hm : Cf.md g = .imp)
    (hg : ∀ (b : UInt8) (H2 : Heap) (k : AV → Heap → Prop), H.length ≤ H2.length → (∀ i, i < H.length → i ∉ Foot c X → H2[i]? = H[i]?) → (∀ l, k (.p (pgP (gb b))) (H2 ++ l)) → (Ev.W Cf okf).call g (.p (pgP b) :: caps) H2 k)
    (ht : t + 2 ≤ 100000) (hw : w + 1 ≤ 100000) (hmt : m.met + 1 ≤ 100000) (hms : m.miss + 1 ≤ 100000) (hk1 : ∀ f ∈ m.L, f.k + 1 ≤ 100000) (Q : AV → Heap → Prop)
    (hq : ∀ H' X' t' w', Inv H' c (withF m n gb).1 X' t' w' → t' ≤ t + 2 → w' = w + pinW m n → Keep c H H' X X' → Q (.p (I (withF m n gb).2)) H') : (Ev.W Cf okf).call 13 [.vptr c.pp 0, .p (I n), .fn g caps] H Q := by
  refine top_mk extMono Try.func13 body13 (by decide) rfl ?_
  simp only [c13, Try.f13, Option.getD_some]
  have h10 := w10 h n (by omega) hw hmt hms hk1
  unfold withF at hq
  generalize hP : pinF m n = P at *
  obtain ⟨m2, b, code⟩ := P
  dsimp only at *
  by_cases hc : code = 0
  · subst hc
    rw [if_neg (by simp)] at hq
    simp -implicitDefEqProofs -dsimp (maxSteps := 1000000) (disch := first | omega | (simp only [wkLen]; omega) | decide +kernel) only [↓wkPre, ↓wkPre2, ↓wkE, wkPost, wkDef, wkF, simprocAttr]
    refine imp_call md_10 (h10 _ ?_)
    intro H2 X2 t2 w2 hI2 ht2 hw2 hK2
    simp -implicitDefEqProofs -dsimp (maxSteps := 1000000) (disch := first | omega | (simp only [wkLen]; omega) | decide +kernel) only [↓wkPre, ↓wkPre2, ↓wkE, wkPost, wkDef, wkF, simprocAttr, nn_v, nn_fn, List.length_map, pgL_len, allP_map, take_pg, take_pgm, get0, get1, get2, getm0, getm1, getm2, get00, getm00, setm0, setm1, setm2, setm00, setR_pg, setR_pg1, flat_pg, flatL_app, eq_pg]
    refine imp_call hm (hg b _ _ (by have := hK2.len; simp; omega) (fun i hi hf => ?_) (fun l => ?_))
    · rw [hs_app (by have := hK2.len; omega)]; exact hK2.same i hi hf
    have hI3 := (hI2.app [.var true (.p (pgP b))]).app l
    have hK3 : Keep c H ((H2 ++ [.var true (.p (pgP b))]) ++ l) X X2 := (hK2.trans Keep.rfl.pre).trans Keep.rfl.pre
    generalize (H2 ++ [.var true (.p (pgP b))]) ++ l = H3 at *
    simp -implicitDefEqProofs -dsimp (maxSteps := 1000000) (disch := first | omega | (simp only [wkLen]; omega) | decide +kernel) only [↓wkPre, ↓wkPre2, ↓wkE, wkPost, wkDef, wkF, simprocAttr, nn_v, nn_fn, List.length_map, pgL_len, allP_map, take_pg, take_pgm, get0, get1, get2, getm0, getm1, getm2, get00, getm00, setm0, setm1, setm2, setm00, setR_pg, setR_pg1, flat_pg, flatL_app, eq_pg]
    refine imp_call md_11 (w11 hI3 n (gb b) (by omega) _ ?_)
    intro H4 X4 t4 hI4 ht4 hK4
    simp -implicitDefEqProofs -dsimp (maxSteps := 1000000) (disch := first | omega | (simp only [wkLen]; omega) | decide +kernel) only [↓wkPre, ↓wkPre2, ↓wkE, wkPost, wkDef, wkF, simprocAttr, nn_v, nn_fn, List.length_map, pgL_len, allP_map, take_pg, take_pgm, get0, get1, get2, getm0, getm1, getm2, get00, getm00, setm0, setm1, setm2, setm00, setR_pg, setR_pg1, flat_pg, flatL_app, eq_pg]
    refine imp_call md_15 (w15 hI4 n _ ?_)
    intro H5 X5 hI5 hK5
    simp -implicitDefEqProofs -dsimp (maxSteps := 1000000) (disch := first | omega | (simp only [wkLen]; omega) | decide +kernel) only [↓wkPre, ↓wkPre2, ↓wkE, wkPost, wkDef, wkF, simprocAttr, nn_v, nn_fn, List.length_map, pgL_len, allP_map, take_pg, take_pgm, get0, get1, get2, getm0, getm1, getm2, get00, getm00, setm0, setm1, setm2, setm00, setR_pg, setR_pg1, flat_pg, flatL_app, eq_pg]
    exact hq _ _ _ _ hI5 (by omega) hw2 ((hK3.trans hK4).trans hK5)
  · rw [if_pos hc] at hq
    simp -implicitDefEqProofs -dsimp (maxSteps := 1000000) (disch := first | omega | (simp only [wkLen]; omega) | decide +kernel) only [↓wkPre, ↓wkPre2, ↓wkE, wkPost, wkDef, wkF, simprocAttr]
    refine imp_call md_10 (h10 _ ?_)
    intro H2 X2 t2 w2 hI2 ht2 hw2 hK2
    simp -implicitDefEqProofs -dsimp (maxSteps := 1000000) (disch := first | omega | (simp only [wkLen]; omega) | decide +kernel) only [↓wkPre, ↓wkPre2, ↓wkE, wkPost, wkDef, wkF, simprocAttr, hc, nn_v, nn_fn, List.length_map, pgL_len, allP_map, take_pg, take_pgm, get0, get1, get2, getm0, getm1, getm2, get00, getm00, setm0, setm1, setm2, setm00, setR_pg, setR_pg1, flat_pg, flatL_app, eq_pg]
    exact hq _ _ _ _ (hI2.app _) (by omega) hw2 (hK2.trans Keep.rfl.pre)
theorem w13p (h : Inv H c m X t w) (n : Int) (g : FuncId) (gb : UInt8 → UInt8) (hm : Cf.md g = .imp)
    (hg : ∀ (b : UInt8) (H2 : Heap) (k : AV → Heap → Prop), H.length ≤ H2.length → (∀ i, i < H.length → i ∉ Foot c X → H2[i]? = H[i]?) → (∀ l, k (.p (pgP (gb b))) (H2 ++ l)) → (Ev.W Cf okf).call g (.p (pgP b) :: []) H2 k)
    (ht : t + 2 ≤ 100000) (hw : w + 1 ≤ 100000) (hmt : m.met + 1 ≤ 100000) (hms : m.miss + 1 ≤ 100000) (hk1 : ∀ f ∈ m.L, f.k + 1 ≤ 100000) (Q : AV → Heap → Prop)
    (hq : ∀ H' X' t' w', Inv H' c (withF m n gb).1 X' t' w' → t' ≤ t + 2 → w' = w + pinW m n → Keep c H H' X X' → Q (.p (I (withF m n gb).2)) H') : (Ev.W Cf okf).call 13 [.vptr c.pp 0, .p (I n), .p (.fn g [])] H Q := by
  refine top_mk extMono Try.func13 body13 (by decide) rfl ?_
  simp only [c13, Try.f13, Option.getD_some]
  have h10 := w10 h n (by omega) hw hmt hms hk1
  unfold withF at hq
  generalize hP : pinF m n = P at *
  obtain ⟨m2, b, code⟩ := P
  dsimp only at *
  by_cases hc : code = 0
  · subst hc
    rw [if_neg (by simp)] at hq
    simp -implicitDefEqProofs -dsimp (maxSteps := 1000000) (disch := first | omega | (simp only [wkLen]; omega) | decide +kernel) only [↓wkPre, ↓wkPre2, ↓wkE, wkPost, wkDef, wkF, simprocAttr]
    refine imp_call md_10 (h10 _ ?_)
    intro H2 X2 t2 w2 hI2 ht2 hw2 hK2
    simp -implicitDefEqProofs -dsimp (maxSteps := 1000000) (disch := first | omega | (simp only [wkLen]; omega) | decide +kernel) only [↓wkPre, ↓wkPre2, ↓wkE, wkPost, wkDef, wkF, simprocAttr, nn_v, nn_fn, List.length_map, pgL_len, allP_map, take_pg, take_pgm, get0, get1, get2, getm0, getm1, getm2, get00, getm00, setm0, setm1, setm2, setm00, setR_pg, setR_pg1, flat_pg, flatL_app, eq_pg]
    refine imp_call hm (hg b _ _ (by have := hK2.len; simp; omega) (fun i hi hf => ?_) (fun l => ?_))
    · rw [hs_app (by have := hK2.len; omega)]; exact hK2.same i hi hf
    have hI3 := (hI2.app [.var true (.p (pgP b))]).app l
    have hK3 : Keep c H ((H2 ++ [.var true (.p (pgP b))]) ++ l) X X2 := (hK2.trans Keep.rfl.pre).trans Keep.rfl.pre
    generalize (H2 ++ [.var true (.p (pgP b))]) ++ l = H3 at *
    simp -implicitDefEqProofs -dsimp (maxSteps := 1000000) (disch := first | omega | (simp only [wkLen]; omega) | decide +kernel) only [↓wkPre, ↓wkPre2, ↓wkE, wkPost, wkDef, wkF, simprocAttr, nn_v, nn_fn, List.length_map, pgL_len, allP_map, take_pg, take_pgm, get0, get1, get2, getm0, getm1, getm2, get00, getm00, setm0, setm1, setm2, setm00, setR_pg, setR_pg1, flat_pg, flatL_app, eq_pg]
    refine imp_call md_11 (w11 hI3 n (gb b) (by omega) _ ?_)
    intro H4 X4 t4 hI4 ht4 hK4
    simp -implicitDefEqProofs -dsimp (maxSteps := 1000000) (disch := first | omega | (simp only [wkLen]; omega) | decide +kernel) only [↓wkPre, ↓wkPre2, ↓wkE, wkPost, wkDef, wkF, simprocAttr, nn_v, nn_fn, List.length_map, pgL_len, allP_map, take_pg, take_pgm, get0, get1, get2, getm0, getm1, getm2, get00, getm00, setm0, setm1, setm2, setm00, setR_pg, setR_pg1, flat_pg, flatL_app, eq_pg]
    refine imp_call md_15 (w15 hI4 n _ ?_)
    intro H5 X5 hI5 hK5
    simp -implicitDefEqProofs -dsimp (maxSteps := 1000000) (disch := first | omega | (simp only [wkLen]; omega) | decide +kernel) only [↓wkPre, ↓wkPre2, ↓wkE, wkPost, wkDef, wkF, simprocAttr, nn_v, nn_fn, List.length_map, pgL_len, allP_map, take_pg, take_pgm, get0, get1, get2, getm0, getm1, getm2, get00, getm00, setm0, setm1, setm2, setm00, setR_pg, setR_pg1, flat_pg, flatL_app, eq_pg]
    exact hq _ _ _ _ hI5 (by omega) hw2 ((hK3.trans hK4).trans hK5)
  · rw [if_pos hc] at hq
    simp -implicitDefEqProofs -dsimp (maxSteps := 1000000) (disch := first | omega | (simp only [wkLen]; omega) | decide +kernel) only [↓wkPre, ↓wkPre2, ↓wkE, wkPost, wkDef, wkF, simprocAttr]
    refine imp_call md_10 (h10 _ ?_)
    intro H2 X2 t2 w2 hI2 ht2 hw2 hK2
    simp -implicitDefEqProofs -dsimp (maxSteps := 1000000) (disch := first | omega | (simp only [wkLen]; omega) | decide +kernel) only [↓wkPre, ↓wkPre2, ↓wkE, wkPost, wkDef, wkF, simprocAttr, hc, nn_v, nn_fn, List.length_map, pgL_len, allP_map, take_pg, take_pgm, get0, get1, get2, getm0, getm1, getm2, get00, getm00, setm0, setm1, setm2, setm00, setR_pg, setR_pg1, flat_pg, flatL_app, eq_pg]
    exact hq _ _ _ _ (hI2.app _) (by omega) hw2 (hK2.trans Keep.rfl.pre)
end
end Go.Ev.F28
end
section
namespace Go.Ev.F28
open Go.Proofs Go.Ev
set_option maxRecDepth 100000
set_option linter.all false
def W0 (k : Nat) : List UInt8 := (List.range k).map fun i => UInt8.ofNat (100 + i)
theorem W0_len (k : Nat) : (W0 k).length = k := by simp [W0]
theorem W0_succ (k : Nat) : W0 (k + 1) = W0 k ++ [UInt8.ofNat (100 + k)] := by simp [W0, List.range_succ]
theorem w24 (room : Nat) (h1 : 1 ≤ room) (h2 : room ≤ 128) (bc : Nat) (H : Heap) (Q : AV → Heap → Prop)
    (hq : Q (.tup [.vptr (H.length + 1) 0, .p (I 0)]) (H ++ [.map true 0 [] [], .var true (.agg [.p (I room), .map H.length, .fn 25 [.vptr bc 0], .fn 26 [.vptr bc 0], .p (I 0), .p (I 0), .p (I 0)])])) :
    (Ev.W Cf okf).call 24 [.p (I room), .fn 25 [.vptr bc 0], .fn 26 [.vptr bc 0]] H Q := by
  refine top_mk extMono Try.func24 body24 (by decide) rfl ?_
  simp only [c24, Try.f24, Option.getD_some]
  simp -implicitDefEqProofs -dsimp (maxSteps := 1000000) (disch := first | omega | (simp only [wkLen]; omega) | decide +kernel) only [↓wkPre, ↓wkPre2, ↓wkE, wkPost, wkDef, wkF, simprocAttr, nn_v, nn_fn, List.length_map, pgL_len, allP_map, take_pg, take_pgm, get0, get1, get2, getm0, getm1, getm2, get00, getm00, setm0, setm1, setm2, setm00, setR_pg, setR_pg1, flat_pg, flatL_app, eq_pg]
  exact hq
theorem wr100 (i : Nat) : IntKind.u8.wrap (100 + (i : Int)) = ((UInt8.ofNat (100 + i)).toNat : Int) := by
  rw [UInt8.toNat_ofNat']
  show (100 + (i : Int)) % 256 = _
  push_cast; rfl
theorem w7 (room k : Nat) (h1 : 1 ≤ room) (h2 : room ≤ 128) (hk : 1 ≤ k) (hk2 : k ≤ 100) (Q : AV → Heap → Prop)
    (hq : ∀ H c, Inv H c ⟨room, [], W0 k, 0, 0⟩ [] 0 0 → Q (.tup [.vptr c.pp 0, .vptr c.bb 0]) H) : (Ev.W Cf okf).call 7 [.p (I room), .p (I k)] [] Q := by
  refine top_mk extMono Try.func7 body7 (by decide) rfl ?_
  simp only [c7, Try.f7, Option.getD_some]
  simp -implicitDefEqProofs -dsimp (maxSteps := 1000000) (disch := first | omega | (simp only [wkLen]; omega) | decide +kernel) only [↓wkPre, ↓wkPre2, ↓wkE, wkPost, wkDef, wkF, simprocAttr, nn_v, nn_fn, List.length_map, pgL_len, allP_map, take_pg, take_pgm, get0, get1, get2, getm0, getm1, getm2, get00, getm00, setm0, setm1, setm2, setm00, setR_pg, setR_pg1, flat_pg, flatL_app, eq_pg]
  refine loop_use extMono (fun m' e Hc => ∃ (i : Nat) (v : AV), m' = k - i ∧ i ≤ k ∧ e 0 = .p (I room) ∧ e 1 = .p (I k) ∧ e 6 = .vptr 1 0 ∧ e 7 = .p (I i) ∧ 2 ≤ Hc.length ∧ Hc[0]? = some (.var true (.agg [v, .p (I 0)])) ∧ Hc[1]? = some (.var true (.vptr 0 0)) ∧ OwnS Hc v 224 (pgs (W0 i)) ∧ (∀ b, v.blk = some b → 2 ≤ b)) ?_ k _ _ ⟨0, .nsl, rfl, by omega, ?_⟩
  · rintro m' e Hc ⟨i, v, rfl, hi, e0, e1, e6, e7, hHl, k0, k1, hown, hvb⟩
    rcases Nat.lt_or_ge i k with hlt | hge
    · have hl := pgs_len (W0 i)
      rw [W0_len] at hl
      simp -implicitDefEqProofs -dsimp (maxSteps := 1000000) (disch := first | omega | (simp only [wkLen]; omega) | decide +kernel) only [↓wkPre, ↓wkPre2, ↓wkE, wkPost, wkDef, wkF, simprocAttr, e0, e1, e6, e7, k0, k1, nn_v, nn_fn, List.length_map, pgL_len, allP_map, take_pg, take_pgm, get0, get1, get2, getm0, getm1, getm2, get00, getm00, setm0, setm1, setm2, setm00, setR_pg, setR_pg1, flat_pg, flatL_app, eq_pg]
      refine evC_pl pl_7_5 (by kernel_rfl) (by decide +kernel) ?_
      simp only [pl_7_5]
      simp -implicitDefEqProofs -dsimp (maxSteps := 1000000) (disch := first | omega | (simp only [wkLen]; omega) | decide +kernel) only [↓wkPre, ↓wkPre2, ↓wkE, wkPost, wkDef, wkF, simprocAttr, e0, e1, e6, e7, k0, k1, nn_v, nn_fn, List.length_map, pgL_len, allP_map, take_pg, take_pgm, get0, get1, get2, getm0, getm1, getm2, get00, getm00, setm0, setm1, setm2, setm00, setR_pg, setR_pg1, flat_pg, flatL_app, eq_pg]
      rw [wr100]
      refine PS.app md_12 Try.func12 (p12 (UInt8.ofNat (100 + i))) rfl ?_
      rintro _ rfl
      simp -implicitDefEqProofs -dsimp (maxSteps := 1000000) (disch := first | omega | (simp only [wkLen]; omega) | decide +kernel) only [↓wkPre, ↓wkPre2, ↓wkE, wkPost, wkDef, wkF, simprocAttr, e0, e1, e6, e7, k0, k1, nn_v, nn_fn, List.length_map, pgL_len, allP_map, take_pg, take_pgm, get0, get1, get2, getm0, getm1, getm2, get00, getm00, setm0, setm1, setm2, setm00, setR_pg, setR_pg1, flat_pg, flatL_app, eq_pg]
      refine append_step telem_29 (elems_new rfl rfl) (by simp) (hown.app _) ?_ ?_
      · rw [byt_40, hl]; simp; omega
      intro v' H2 hown2 hfr2 hle2 hb2
      rw [show pgs (W0 i) ++ [PV.agg (pgL (UInt8.ofNat (100 + i)))] = pgs (W0 (i + 1)) by rw [W0_succ]; simp [pgs]] at hown2
      simp only [List.length_append, List.length_cons, List.length_nil] at hfr2 hle2 hb2
      have q0 := (hfr2 0 (by omega) (fun e => by have := hvb 0 e; omega)).trans ((hs_app (by omega)).trans k0)
      have q1 := (hfr2 1 (by omega) (fun e => by have := hvb 1 e; omega)).trans ((hs_app (by omega)).trans k1)
      have hvb2 : ∀ b, v'.blk = some b → 2 ≤ b := fun b hb => by
        by_cases h : b < Hc.length + (0 + 1)
        · exact hvb b (hb2 b hb h)
        · omega
      rcases id hown2 with ⟨_, hx⟩ | ⟨bb, g, rfl, hbk⟩
      · have := congrArg List.length hx
        rw [pgs_len, W0_len] at this; simp at this
      simp -implicitDefEqProofs -dsimp (maxSteps := 1000000) (disch := first | omega | (simp only [wkLen]; omega) | decide +kernel) only [↓wkPre, ↓wkPre2, ↓wkE, wkPost, wkDef, wkF, simprocAttr, e0, e1, e6, e7, q0, q1, nn_v, nn_fn, List.length_map, pgL_len, allP_map, take_pg, take_pgm, get0, get1, get2, getm0, getm1, getm2, get00, getm00, setm0, setm1, setm2, setm00, setR_pg, setR_pg1, flat_pg, flatL_app, eq_pg]
      have hbb := hvb2 bb rfl
      refine ⟨k - (i + 1), by omega, i + 1, _, rfl, by omega, by push_cast; rfl, by omega, ?_, hown2.set (fun h => by have := hvb2 0 h; omega), hvb2⟩
      rfl
    · have hik : i = k := by omega
      subst hik
      rcases id hown with ⟨_, hx⟩ | ⟨bb, g, rfl, hbk⟩
      · have := congrArg List.length hx
        rw [pgs_len, W0_len] at this; simp at this; omega
      have hbb := hvb bb rfl
      have hbl := hown.lt bb rfl
      simp -implicitDefEqProofs -dsimp (maxSteps := 1000000) (disch := first | omega | (simp only [wkLen]; omega) | decide +kernel) only [↓wkPre, ↓wkPre2, ↓wkE, wkPost, wkDef, wkF, simprocAttr, e0, e1, e6, e7, k0, k1, nn_v, nn_fn, List.length_map, pgL_len, allP_map, take_pg, take_pgm, get0, get1, get2, getm0, getm1, getm2, get00, getm00, setm0, setm1, setm2, setm00, setR_pg, setR_pg1, flat_pg, flatL_app, eq_pg]
      refine imp_call md_24 (w24 room h1 h2 1 Hc _ ?_)
      have a1 : ∀ l : Heap, (Hc ++ l)[1]? = some (.var true (.vptr 0 0)) := fun l => (hs_app (by omega)).trans k1
      simp -implicitDefEqProofs -dsimp (maxSteps := 1000000) (disch := first | omega | (simp only [wkLen]; omega) | decide +kernel) only [↓wkPre, ↓wkPre2, ↓wkE, wkPost, wkDef, wkF, simprocAttr, e6, a1, nn_v, nn_fn, List.length_map, pgL_len, allP_map, take_pg, take_pgm, get0, get1, get2, getm0, getm1, getm2, get00, getm00, setm0, setm1, setm2, setm00, setR_pg, setR_pg1, flat_pg, flatL_app, eq_pg]
      rw [pgs_len, W0_len] at k0
      refine hq _ ⟨Hc.length + 1, 1, 0, bb, Hc.length⟩ ⟨?_, a1 _, ⟨g, (hs_app (show 0 < Hc.length by omega)).trans (by rw [k0]; simp [W0_len]), (hs_app hbl).trans hbk⟩, ⟨0, [], ?_, List.Perm.refl _⟩, (fun x hx => by cases hx), rfl, List.nodup_nil, ?_, List.Pairwise.nil, (fun x hx => by cases hx), (fun x hx => by cases hx), by simp, ⟨by dsimp only; omega, by simp, by simp [W0_len]; omega, by simp, by simp, (fun x hx => by cases hx), (fun x hx => by cases hx)⟩, by omega, by omega⟩
      · dsimp only
        rw [List.getElem?_append_right (by omega)]; simp
      · simp [kI]
      · simp only [Foot, List.map_nil, List.nodup_cons, List.mem_cons, List.not_mem_nil, or_false, not_false_eq_true, List.nodup_nil, and_true]
        omega
  · simp -implicitDefEqProofs -dsimp (maxSteps := 1000000) (disch := first | omega | (simp only [wkLen]; omega) | decide +kernel) only [↓wkPre, ↓wkPre2, ↓wkE, wkPost, wkDef, wkF, simprocAttr]
    exact ⟨OwnS.nil _ _, fun b h => by cases h⟩
end Go.Ev.F28
end
