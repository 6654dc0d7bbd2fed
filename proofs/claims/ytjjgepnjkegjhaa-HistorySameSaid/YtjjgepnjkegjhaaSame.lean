/- The law HistorySame answers true for every input, and its arguments read as before. No condition: the whole of the given statement. -/
import Derived.Test.YtjjgepnjkegjhaaRows
import Derived.Test.YtjjgepnjkegjhaaOrdW
set_option linter.all false
section
namespace Go.Ev.F23
open Go.Proofs Go.Ev Go.Sort
set_option maxRecDepth 100000
set_option linter.all false
/-- A write of a key at a place. -/
def WA (l : List Acc) (k : Int) (q : Nat) : Prop := l[q]!.2.2 = true ∧ l[q]!.2.1 = k
/-- The places of accesses, in the order in which they are done one by one. -/
structure Ser (l : List Acc) (ys : List Nat) : Prop where
  perm : ys.Perm (List.range l.length)
  agr : ∀ q q', q < q' → q' < l.length → (l[ys[q]!]!.1 = l[ys[q']!]!.1 ∨ (l[ys[q]!]!.2.1 = l[ys[q']!]!.2.1 ∧ (l[ys[q]!]!.2.2 = true ∨ l[ys[q']!]!.2.2 = true))) → ys[q]! < ys[q']!
theorem Ser.len {l : List Acc} {ys : List Nat} (h : Ser l ys) : ys.length = l.length := by simpa using h.perm.length_eq
theorem Ser.lt {l : List Acc} {ys : List Nat} (h : Ser l ys) {q : Nat} (hq : q < l.length) : ys[q]! < l.length := by
  have hl := h.len
  rw [getElem!_pos ys q (by omega)]
  simpa using h.perm.mem_iff.1 (List.getElem_mem (show q < ys.length by omega))
theorem Ser.at {l : List Acc} {ys : List Nat} (h : Ser l ys) {j : Nat} (hj : j < l.length) : ∃ q, q < l.length ∧ ys[q]! = j := by
  have hl := h.len
  obtain ⟨q, hq, he⟩ := List.mem_iff_getElem.1 (h.perm.mem_iff.2 (List.mem_range.2 hj))
  exact ⟨q, by omega, by rw [getElem!_pos ys q hq]; exact he⟩
theorem Ser.inj {l : List Acc} {ys : List Nat} (h : Ser l ys) {q q' : Nat} (hq : q < l.length) (hq' : q' < l.length) (he : ys[q]! = ys[q']!) : q = q' := by
  have hl := h.len
  have hnd : ys.Nodup := h.perm.nodup_iff.2 List.nodup_range
  rw [getElem!_pos ys q (by omega), getElem!_pos ys q' (by omega)] at he
  rcases Nat.lt_trichotomy q q' with h1 | h1 | h1
  · exact absurd he (List.pairwise_iff_getElem.1 hnd q q' (by omega) (by omega) h1)
  · exact h1
  · exact absurd he.symm (List.pairwise_iff_getElem.1 hnd q' q (by omega) (by omega) h1)
abbrev serY (l : List Acc) (ys : List Nat) : List Acc := ys.map (fun q => l[q]!)
theorem serY_get {l : List Acc} {ys : List Nat} (h : Ser l ys) {q : Nat} (hq : q < l.length) : (serY l ys)[q]! = l[ys[q]!]! := by
  have hl := h.len
  rw [getElem!_pos _ q (by simp; omega), getElem!_pos ys q (by omega)]
  simp
theorem serY_len {l : List Acc} {ys : List Nat} (h : Ser l ys) : (serY l ys).length = l.length := by simp [h.len]
theorem srcA_spec (l : List Acc) (k : Int) : ∀ m, (srcA l k m = -1 ∧ ∀ q, q < m → ¬ WA l k q) ∨ ∃ j : Nat, j < m ∧ srcA l k m = j ∧ WA l k j ∧ ∀ q, j < q → q < m → ¬ WA l k q
  | 0 => .inl ⟨rfl, fun q h => absurd h (by omega)⟩
  | m + 1 => by
    rw [srcA]
    by_cases hw : l[m]!.2.2 = true ∧ l[m]!.2.1 = k
    · rw [if_pos (by simpa using hw)]
      exact .inr ⟨m, by omega, rfl, hw, fun q h1 h2 => absurd h2 (by omega)⟩
    · rw [if_neg (by simpa using hw)]
      have last : ∀ q, q < m + 1 → q = m ∨ q < m := fun q h => by omega
      rcases srcA_spec l k m with ⟨h1, h2⟩ | ⟨j, h1, h2, h3, h4⟩
      · refine .inl ⟨h1, fun q hq => ?_⟩
        rcases last q hq with rfl | h
        · exact hw
        · exact h2 q h
      · refine .inr ⟨j, by omega, h2, h3, fun q hq hq2 => ?_⟩
        rcases last q hq2 with rfl | h
        · exact hw
        · exact h4 q hq h
theorem nthA_range (l : List Acc) (a : Acc) : ∀ m, m ≤ l.length → nthA l a m = ((List.range m).filter (fun q => l[q]! == a)).length
  | 0, _ => rfl
  | m + 1, h => by
    rw [nthA_succ (by omega), nthA_range l a m (by omega), List.range_succ, List.filter_append, List.length_append]
    congr 1
    have hg : l[m]! = l[m] := getElem!_pos l m (by omega)
    by_cases hx : l[m] = a
    · rw [if_pos hx, List.filter_cons, if_pos (by rw [hg]; simpa using hx)]; rfl
    · rw [if_neg hx, List.filter_cons, if_neg (by rw [hg]; simpa using hx)]; rfl
theorem nth_same {l : List Acc} {ys : List Nat} (h : Ser l ys) {k : Nat} (hk : k < l.length) : nthA (serY l ys) (serY l ys)[k]! (k + 1) = nthA l l[ys[k]!]! (ys[k]! + 1) := by
  have hj := h.lt hk
  rw [nthA_range _ _ _ (by rw [serY_len h]; omega), nthA_range _ _ _ (by omega), serY_get h hk]
  have e1 : (List.range (k + 1)).filter (fun q => (serY l ys)[q]! == l[ys[k]!]!) = (List.range (k + 1)).filter (fun q => l[ys[q]!]! == l[ys[k]!]!) := by
    apply List.filter_congr
    intro q hq
    rw [serY_get h (by simp at hq; omega)]
  rw [e1]
  have e2 : ((List.range (k + 1)).filter (fun q => l[ys[q]!]! == l[ys[k]!]!)).length = (((List.range (k + 1)).filter (fun q => l[ys[q]!]! == l[ys[k]!]!)).map (fun q => ys[q]!)).length := by simp
  rw [e2]
  refine List.Perm.length_eq ((List.perm_ext_iff_of_nodup ?_ (List.nodup_range.filter _)).2 fun x => ?_)
  · rw [List.Nodup, List.pairwise_map]
    refine (List.pairwise_lt_range.filter _).imp_of_mem fun {a b} ha hb hlt he => ?_
    have h1 := List.mem_range.1 (List.mem_filter.1 ha).1
    have h2 := List.mem_range.1 (List.mem_filter.1 hb).1
    have := h.inj (by omega) (by omega) he
    omega
  · simp only [List.mem_map, List.mem_filter, List.mem_range, beq_iff_eq]
    constructor
    · rintro ⟨q, ⟨hq, he⟩, rfl⟩
      refine ⟨?_, he⟩
      rcases Nat.lt_or_eq_of_le (Nat.le_of_lt_succ hq) with h1 | rfl
      · have := h.agr q k h1 hk (.inl (by rw [he])); omega
      · omega
    · rintro ⟨hx, he⟩
      obtain ⟨q, hq, rfl⟩ := h.at (show x < l.length by omega)
      refine ⟨q, ⟨?_, he⟩, rfl⟩
      rcases Nat.lt_or_ge k q with h1 | h1
      · have := h.agr k q h1 hq (.inl (by rw [he])); omega
      · omega
theorem WA_ser {l : List Acc} {ys : List Nat} (h : Ser l ys) {k : Int} {q : Nat} (hq : q < l.length) : WA (serY l ys) k q ↔ WA l k ys[q]! := by
  unfold WA; rw [serY_get h hq]
theorem frm_same {l : List Acc} {ys : List Nat} (h : Ser l ys) {k : Nat} (hk : k < l.length) : frm (serY l ys) k = frm l ys[k]! := by
  have hj := h.lt hk
  have hy := serY_get h hk
  unfold frm lastF
  rw [hy]
  -- what comes ahead of one another
  have fwd : ∀ q, q < k → WA l l[ys[k]!]!.2.1 ys[q]! → ys[q]! < ys[k]! := fun q hq hw => h.agr q k hq hk (.inr ⟨hw.2, .inl hw.1⟩)
  have bwd : ∀ q, k < q → q < l.length → WA l l[ys[k]!]!.2.1 ys[q]! → ys[k]! < ys[q]! := fun q hq hql hw => h.agr k q hq hql (.inr ⟨hw.2.symm, .inr hw.1⟩)
  have both : ∀ q q', q < l.length → q' < l.length → WA l l[ys[k]!]!.2.1 ys[q]! → WA l l[ys[k]!]!.2.1 ys[q']! → ys[q]! < ys[q']! → q < q' := fun q q' hq hq' hw hw' hlt => by
    rcases Nat.lt_trichotomy q q' with h1 | h1 | h1
    · exact h1
    · subst h1; omega
    · have := h.agr q' q h1 hq (.inr ⟨by rw [hw.2, hw'.2], .inl hw'.1⟩); omega
  rcases srcA_spec l l[ys[k]!]!.2.1 ys[k]! with ⟨a1, a2⟩ | ⟨j, a1, a2, a3, a4⟩
  · rcases srcA_spec (serY l ys) l[ys[k]!]!.2.1 k with ⟨b1, b2⟩ | ⟨q, b1, b2, b3, b4⟩
    · rw [a1, b1]; rfl
    · have hw := (WA_ser h (by omega)).1 b3
      exact absurd hw (a2 _ (fwd q b1 hw))
  · obtain ⟨qj, hqj, rfl⟩ := h.at (show j < l.length by omega)
    have hqk : qj < k := by
      rcases Nat.lt_trichotomy qj k with h1 | h1 | h1
      · exact h1
      · subst h1; omega
      · have := bwd qj h1 hqj a3; omega
    rcases srcA_spec (serY l ys) l[ys[k]!]!.2.1 k with ⟨b1, b2⟩ | ⟨q, b1, b2, b3, b4⟩
    · exact absurd ((WA_ser h hqj).2 a3) (b2 qj hqk)
    · have hw := (WA_ser h (by omega)).1 b3
      have he : q = qj := by
        rcases Nat.lt_trichotomy q qj with h1 | h1 | h1
        · exact absurd ((WA_ser h hqj).2 a3) (b4 qj h1 hqk)
        · exact h1
        · have h2 := h.agr qj q h1 (by omega) (.inr ⟨by rw [a3.2, hw.2], .inl a3.1⟩)
          exact absurd hw (a4 _ h2 (fwd q b1 hw))
      subst he
      rw [a2, b2, if_neg (by omega), if_neg (by omega), Int.toNat_natCast, Int.toNat_natCast, nth_same h hqj, serY_get h hqj]
/-- Who wrote each key last. -/
theorem mem_lstR (l : List Acc) (a : Acc) : ∀ (m : Nat) (out : List Acc), a ∈ lstR l m out ↔ a ∈ out ∨ ((∃ j, j < m ∧ l[j]! = a ∧ a.2.2 = true ∧ ∀ q, j < q → q < m → ¬ WA l a.2.1 q) ∧ ∀ x ∈ out, x.2.1 ≠ a.2.1)
  | 0, out => by
    rw [lstR]
    constructor
    · exact .inl
    · rintro (h | ⟨⟨j, hj, _⟩, _⟩)
      · exact h
      · omega
  | m + 1, out => by
    rw [lstR, mem_lstR l a m]
    unfold lstS
    by_cases hw : l[m]!.2.2 = true
    · by_cases hk : out.any (fun x => x.2.1 == l[m]!.2.1) = true
      · rw [hw, hk]
        simp only [Bool.not_true, Bool.and_false, Bool.false_eq_true, if_false]
        obtain ⟨z, hz, hzk⟩ := List.any_eq_true.1 hk
        have hzk := beq_iff_eq.1 hzk
        refine or_congr Iff.rfl (and_congr_left fun hno => ?_)
        have hne : l[m]!.2.1 ≠ a.2.1 := fun e => hno z hz (hzk.trans e)
        constructor
        · rintro ⟨j, h1, h2, h3, h4⟩
          refine ⟨j, by omega, h2, h3, fun q hq hq2 => ?_⟩
          rcases Nat.lt_or_eq_of_le (Nat.le_of_lt_succ hq2) with h9 | rfl
          · exact h4 q hq h9
          · exact fun h9 => hne h9.2
        · rintro ⟨j, h1, h2, h3, h4⟩
          rcases Nat.lt_or_eq_of_le (Nat.le_of_lt_succ h1) with h9 | rfl
          · exact ⟨j, h9, h2, h3, fun q hq hq2 => h4 q hq (by omega)⟩
          · rw [h2] at hne; exact absurd rfl hne
      · have hk' : out.any (fun x => x.2.1 == l[m]!.2.1) = false := by
          cases hb : out.any (fun x => x.2.1 == l[m]!.2.1) with
          | true => exact absurd hb hk
          | false => rfl
        have hkn : ∀ x ∈ out, x.2.1 ≠ l[m]!.2.1 := fun x hx e => by
          have := List.any_eq_false.1 hk' x hx
          simp [e] at this
        rw [hw, hk']
        simp only [Bool.not_false, Bool.and_true, if_true, List.mem_append, List.mem_singleton]
        constructor
        · rintro ((h | rfl) | ⟨⟨j, h1, h2, h3, h4⟩, h5⟩)
          · exact .inl h
          · exact .inr ⟨⟨m, by omega, rfl, hw, fun q h1 h2 => absurd h2 (by omega)⟩, hkn⟩
          · refine .inr ⟨⟨j, by omega, h2, h3, fun q hq hq2 => ?_⟩, fun x hx => h5 x (.inl hx)⟩
            rcases Nat.lt_or_eq_of_le (Nat.le_of_lt_succ hq2) with h9 | rfl
            · exact h4 q hq h9
            · exact fun h9 => h5 _ (.inr rfl) h9.2
        · rintro (h | ⟨⟨j, h1, h2, h3, h4⟩, h5⟩)
          · exact .inl (.inl h)
          · rcases Nat.lt_or_eq_of_le (Nat.le_of_lt_succ h1) with h9 | rfl
            · refine .inr ⟨⟨j, h9, h2, h3, fun q hq hq2 => h4 q hq (by omega)⟩, fun x hx => ?_⟩
              rcases hx with hx | rfl
              · exact h5 x hx
              · exact fun e => h4 m h9 (by omega) ⟨hw, e⟩
            · exact .inl (.inr h2.symm)
    · have hw' : l[m]!.2.2 = false := by simpa using hw
      rw [hw']
      simp only [Bool.false_and, Bool.false_eq_true, if_false]
      refine or_congr Iff.rfl (and_congr_left fun _ => ?_)
      constructor
      · rintro ⟨j, h1, h2, h3, h4⟩
        refine ⟨j, by omega, h2, h3, fun q hq hq2 => ?_⟩
        rcases Nat.lt_or_eq_of_le (Nat.le_of_lt_succ hq2) with h9 | rfl
        · exact h4 q hq h9
        · exact fun h9 => hw h9.1
      · rintro ⟨j, h1, h2, h3, h4⟩
        rcases Nat.lt_or_eq_of_le (Nat.le_of_lt_succ h1) with h9 | rfl
        · exact ⟨j, h9, h2, h3, fun q hq hq2 => h4 q hq (by omega)⟩
        · rw [h2] at hw; exact absurd h3 hw
theorem last_same {l : List Acc} {ys : List Nat} (h : Ser l ys) (a : Acc) : a ∈ lstR l l.length [] ↔ a ∈ lstR (serY l ys) (serY l ys).length [] := by
  rw [mem_lstR, mem_lstR, serY_len h]
  simp only [List.not_mem_nil, false_or, false_implies, implies_true, and_true]
  constructor
  · rintro ⟨j, h1, rfl, h3, h4⟩
    obtain ⟨k, hk, rfl⟩ := h.at h1
    refine ⟨k, hk, serY_get h hk, h3, fun q hq hql hw => ?_⟩
    have hw := (WA_ser h hql).1 hw
    exact h4 _ (h.agr k q hq hql (.inr ⟨hw.2.symm, .inl h3⟩)) (h.lt hql) hw
  · rintro ⟨k, h1, rfl, h3, h4⟩
    rw [serY_get h h1] at h3 h4 ⊢
    refine ⟨ys[k]!, h.lt h1, rfl, h3, fun q hq hql hw => ?_⟩
    obtain ⟨q, hq2, rfl⟩ := h.at hql
    rcases Nat.lt_trichotomy k q with h5 | h5 | h5
    · exact h4 q h5 hq2 ((WA_ser h hq2).2 hw)
    · subst h5; omega
    · have := h.agr q k h5 h1 (.inr ⟨hw.2, .inl hw.1⟩); omega
theorem ahB_intro (a b : Int) : ∀ (l : List Acc) (p p' : Nat), p < p' → p' < l.length → hit a b l[p]! l[p']! = true → ahB a b l = true
  | [], p, p', _, h, _ => by simp at h
  | x :: t, p, p', hp, hl, hh => by
    obtain ⟨p', rfl⟩ : ∃ q, p' = q + 1 := ⟨p' - 1, by omega⟩
    rw [get_cons_succ] at hh
    rw [ahB, Bool.or_eq_true]
    cases p with
    | zero =>
      rw [get_cons_zero] at hh
      exact .inl ((any_iff _ t).2 ⟨p', by simp at hl; omega, hh⟩)
    | succ p =>
      rw [get_cons_succ] at hh
      exact .inr (ahB_intro a b t p p' (by omega) (by simp at hl; omega) hh)
theorem ser_mk {l : List Acc} {O : List Int} (ha : After l O) (hp : O.Perm (ppl l)) : ∃ ys, Ser l ys ∧ serial l O = serY l ys := by
  obtain ⟨hr, hmem⟩ := ppl_ok l
  have hl : l = (List.range l.length).map (fun q => l[q]!) := by
    apply List.ext_getElem
    · simp
    · intro i h1 h2
      simp [h1]
  refine ⟨O.flatMap (fun w => (List.range l.length).filter (fun q => l[q]!.1 == w)), ?_, ?_⟩
  · have hpw : (O.flatMap (fun w => (List.range l.length).filter (fun q => l[q]!.1 == w))).Pairwise (fun a b => (l[a]!.1 = l[b]!.1 ∧ a < b) ∨ (l[a]!.1 ≠ l[b]!.1 ∧ ahB l[b]!.1 l[a]!.1 l = false)) := by
      rw [List.pairwise_flatMap]
      refine ⟨fun w hw => ?_, ha.imp fun {x y} h a hma b hmb => ?_⟩
      · refine (List.pairwise_lt_range.filter _).imp_of_mem fun {a b} h1 h2 h3 => .inl ⟨?_, h3⟩
        have e1 := beq_iff_eq.1 (List.mem_filter.1 h1).2
        have e2 := beq_iff_eq.1 (List.mem_filter.1 h2).2
        rw [e1, e2]
      · have e1 := beq_iff_eq.1 (List.mem_filter.1 hma).2
        have e2 := beq_iff_eq.1 (List.mem_filter.1 hmb).2
        rw [e1, e2]
        exact .inr ⟨fun e => h.2 e.symm, h.1⟩
    have hperm : (O.flatMap (fun w => (List.range l.length).filter (fun q => l[q]!.1 == w))).Perm (List.range l.length) := by
      refine (List.perm_ext_iff_of_nodup (hpw.imp fun h e => ?_) List.nodup_range).2 fun x => ?_
      · subst e
        rcases h with h | h
        · omega
        · exact h.1 rfl
      · simp only [List.mem_flatMap, List.mem_filter, List.mem_range, beq_iff_eq]
        constructor
        · rintro ⟨_, _, h, _⟩; exact h
        · intro h
          refine ⟨l[x]!.1, hp.mem_iff.2 ((hmem _).2 (List.mem_map.2 ⟨l[x]!, ?_, rfl⟩)), h, rfl⟩
          rw [getElem!_pos l x h]; exact List.getElem_mem h
    have hlen := hperm.length_eq
    simp only [List.length_range] at hlen
    refine ⟨hperm, fun q q' hq hq' hc => ?_⟩
    generalize O.flatMap (fun w => (List.range l.length).filter (fun q => l[q]!.1 == w)) = ys at hpw hperm hlen hc ⊢
    have hR := List.pairwise_iff_getElem.1 hpw q q' (by omega) (by omega) hq
    rw [← getElem!_pos ys q (by omega), ← getElem!_pos ys q' (by omega)] at hR
    have hb1 : ys[q]! < l.length := by rw [getElem!_pos ys q (by omega)]; simpa using hperm.mem_iff.1 (List.getElem_mem (show q < ys.length by omega))
    rcases hR with ⟨_, h⟩ | ⟨h1, h2⟩
    · exact h
    · rcases hc with hc | ⟨hk, hw⟩
      · exact absurd hc h1
      · rcases Nat.lt_trichotomy ys[q]! ys[q']! with h3 | h3 | h3
        · exact h3
        · rw [h3] at h1; exact absurd rfl h1
        · have hww : (l[ys[q']!]!.2.2 || l[ys[q]!]!.2.2) = true := by
            rcases hw with hw | hw
            · rw [hw, Bool.or_true]
            · rw [hw, Bool.true_or]
          have hne : (l[ys[q']!]!.1 != l[ys[q]!]!.1) = true := bne_iff_ne.2 fun e => h1 e.symm
          have hh : hit l[ys[q']!]!.1 l[ys[q]!]!.1 l[ys[q']!]! l[ys[q]!]! = true := by
            unfold hit
            rw [hk, hww, hne]
            simp only [beq_self_eq_true, Bool.and_self]
          have h9 := ahB_intro l[ys[q']!]!.1 l[ys[q]!]!.1 l _ _ h3 hb1 hh
          rw [h2] at h9; cases h9
  · unfold serial serY
    rw [List.map_flatMap]
    congr 1
    funext w
    conv => lhs; rw [hl]
    rw [List.filter_map]
    rfl
theorem last_uniq {l l' ys zs : List Acc} (hm : ∀ a, a ∈ lstR l l.length [] ↔ a ∈ lstR l' l'.length []) (hp : ys.Perm (lstR l l.length [])) (hs : ∀ i j, i < j → j < ys.length → ltA ys[j]! ys[i]! = false)
    (hp' : zs.Perm (lstR l' l'.length [])) (hs' : ∀ i j, i < j → j < zs.length → ltA zs[j]! zs[i]! = false) : ys = zs := by
  have rise : ∀ {l ys : List Acc}, ys.Perm (lstR l l.length []) → (∀ i j, i < j → j < ys.length → ltA ys[j]! ys[i]! = false) → ys.Pairwise (fun a b => a.2.1 < b.2.1) := fun {l ys} h1 h2 => by
    obtain ⟨_, h3⟩ := last_rise h1 h2
    refine List.pairwise_iff_getElem.2 fun i j hi hj hij => ?_
    have := h3 i j hij hj
    rwa [getElem!_pos ys i hi, getElem!_pos ys j hj] at this
  have r1 := rise hp hs
  have r2 := rise hp' hs'
  have nd : ∀ {ys : List Acc}, ys.Pairwise (fun a b => a.2.1 < b.2.1) → ys.Nodup := fun h => h.imp fun {a b} h e => by subst e; omega
  have hperm : ys.Perm zs := (List.perm_ext_iff_of_nodup (nd r1) (nd r2)).2 fun a => by rw [hp.mem_iff, hp'.mem_iff, hm]
  exact hperm.eq_of_pairwise (fun a b _ _ h1 h2 => by omega) r1 r2
end Go.Ev.F23
end
section
namespace Go.Ev.F23
open Go.Proofs Go.Ev Go.Sort
set_option maxRecDepth 100000
set_option linter.all false
theorem law5 (l : List Acc) : (Ev.W Cf okf).call 5 [.p (acs l)] [] fun v _ => v = .p (.bool true) := by
  refine top_mk extMono Try.func5 body5 (by decide) rfl ?_
  simp only [c5, Try.f5, Option.getD_some]
  have hul := aL_len l
  rcases Nat.lt_or_ge 40 l.length with hbig | hl
  · simp -implicitDefEqProofs -dsimp (disch := first | omega | (simp only [wkLen]; omega) | decide +kernel) only [↓wkPre, ↓wkPre2, ↓wkE, wkPost, wkDef, wkF, simprocAttr, hul]
    refine PS.app md_7 Try.func7 p7 rfl ?_
    rintro _ rfl
    simp -implicitDefEqProofs -dsimp (disch := first | omega | (simp only [wkLen]; omega) | decide +kernel) only [↓wkPre, ↓wkPre2, ↓wkE, wkPost, wkDef, wkF, simprocAttr]
  have hr := (ppl_ok l).1
  have hpl := ppl_len l
  have q11 := p11 l (by omega)
  obtain ⟨hO1, hO2, _⟩ := ordS_ok l (ppl l).length (ppl l) [] rfl (Rise.nodup hr) List.Pairwise.nil (fun x h => by cases h)
  generalize ordS l (ppl l).length (ppl l) [] = R at q11 hO1 hO2
  obtain ⟨O, ok⟩ := R
  dsimp only at q11 hO1 hO2
  have huO := iL_len O
  simp -implicitDefEqProofs -dsimp (disch := first | omega | (simp only [wkLen]; omega) | decide +kernel) only [↓wkPre, ↓wkPre2, ↓wkE, wkPost, wkDef, wkF, simprocAttr, hul]
  refine PS.app md_8 Try.func8 (p8 l (by omega)) rfl ?_
  rintro _ rfl
  simp -implicitDefEqProofs -dsimp (disch := first | omega | (simp only [wkLen]; omega) | decide +kernel) only [↓wkPre, ↓wkPre2, ↓wkE, wkPost, wkDef, wkF, simprocAttr, hul]
  refine PS.app md_11 Try.func11 q11 rfl ?_
  rintro _ rfl
  cases ok with
  | false =>
    simp -implicitDefEqProofs -dsimp (disch := first | omega | (simp only [wkLen]; omega) | decide +kernel) only [↓wkPre, ↓wkPre2, ↓wkE, wkPost, wkDef, wkF, simprocAttr, hul]
    refine PS.app md_7 Try.func7 p7 rfl ?_
    rintro _ rfl
    simp -implicitDefEqProofs -dsimp (disch := first | omega | (simp only [wkLen]; omega) | decide +kernel) only [↓wkPre, ↓wkPre2, ↓wkE, wkPost, wkDef, wkF, simprocAttr]
  | true =>
  have hperm : O.Perm (ppl l) := by simpa using hO2 rfl
  have hOl : O.length ≤ 40 := by rw [hperm.length_eq]; omega
  obtain ⟨ys, hS, hser⟩ := ser_mk hO1 hperm
  have hYl := serY_len hS
  have q16 := p16 l O (by omega) (by omega)
  rw [hser] at q16
  have hYg := fun {q : Nat} (h : q < l.length) => serY_get hS h
  have hfs := fun {k : Nat} (h : k < l.length) => frm_same hS h
  have hls := last_same hS
  generalize serY l ys = Y at q16 hYl hYg hfs hls
  have huY := aL_len Y
  have q17 := p17 Y (by omega)
  rw [hYl] at q17
  have hfl := frmL_len l l.length
  have hfY := frmL_len Y l.length
  simp -implicitDefEqProofs -dsimp (disch := first | omega | (simp only [wkLen]; omega) | decide +kernel) only [↓wkPre, ↓wkPre2, ↓wkE, wkPost, wkDef, wkF, simprocAttr, hul]
  refine PS.app md_16 Try.func16 q16 rfl ?_
  rintro _ rfl
  simp -implicitDefEqProofs -dsimp (disch := first | omega | (simp only [wkLen]; omega) | decide +kernel) only [↓wkPre, ↓wkPre2, ↓wkE, wkPost, wkDef, wkF, simprocAttr, hul]
  refine PS.app md_17 Try.func17 (p17 l (by omega)) rfl ?_
  rintro _ rfl
  simp -implicitDefEqProofs -dsimp (disch := first | omega | (simp only [wkLen]; omega) | decide +kernel) only [↓wkPre, ↓wkPre2, ↓wkE, wkPost, wkDef, wkF, simprocAttr, hul]
  refine PS.app md_17 Try.func17 q17 rfl ?_
  rintro _ rfl
  simp -implicitDefEqProofs -dsimp (disch := first | omega | (simp only [wkLen]; omega) | decide +kernel) only [↓wkPre, ↓wkPre2, ↓wkE, wkPost, wkDef, wkF, simprocAttr, hul]
  refine PS.app md_18 Try.func18 (p18 l (by omega)) rfl ?_
  rintro _ ⟨u, rfl, hu1, hu2⟩
  simp -implicitDefEqProofs -dsimp (disch := first | omega | (simp only [wkLen]; omega) | decide +kernel) only [↓wkPre, ↓wkPre2, ↓wkE, wkPost, wkDef, wkF, simprocAttr, hul]
  refine PS.app md_18 Try.func18 (p18 Y (by omega)) rfl ?_
  rintro _ ⟨v, rfl, hv1, hv2⟩
  obtain rfl := last_uniq hls hu1 hu2 hv1 hv2
  have huu := aL_len u
  have hulen : u.length ≤ 1000000 := by have := hu1.length_eq; have := lstR_len l l.length []; simp at this; omega
  simp -implicitDefEqProofs -dsimp (disch := first | omega | (simp only [wkLen]; omega) | decide +kernel) only [↓wkPre, ↓wkPre2, ↓wkE, wkPost, wkDef, wkF, simprocAttr, hul, huY, hYl, hfl, hfY, huu]
  refine loop_use extMono (fun m e Hc => ∃ i : Nat, m = u.length - i ∧ i ≤ u.length ∧ e 3 = .p (acs l) ∧ e 4 = .p (ins O) ∧ e 6 = .p (acs Y) ∧ e 7 = .p (.sl 2 (frmL l l.length)) ∧ e 8 = .p (.sl 2 (frmL Y l.length)) ∧ e 9 = .p (acs u) ∧ e 10 = .p (acs u) ∧ e 11 = .p (I i)) ?_ u.length _ _ ⟨0, rfl, by omega, ?_⟩
  · rintro m e Hc ⟨i, rfl, hi, e3, e4, e6, e7, e8, e9, e10, e11⟩
    rcases Nat.lt_or_ge i u.length with h | h
    · have gi := aL_get h
      simp -implicitDefEqProofs -dsimp (disch := first | omega | (simp only [wkLen]; omega) | decide +kernel) only [↓wkPre, ↓wkPre2, ↓wkE, wkPost, wkDef, wkF, simprocAttr, e3, e4, e6, e7, e8, e9, e10, e11, huu, gi]
      exact ⟨u.length - (i + 1), by omega, i + 1, rfl, by omega, by push_cast; rfl⟩
    · obtain rfl : i = u.length := by omega
      simp -implicitDefEqProofs -dsimp (disch := first | omega | (simp only [wkLen]; omega) | decide +kernel) only [↓wkPre, ↓wkPre2, ↓wkE, wkPost, wkDef, wkF, simprocAttr, e3, e4, e6, e7, e8, e9, e10, e11, huu]
      refine loop_use extMono (fun m e Hc => ∃ i : Nat, m = O.length - i ∧ i ≤ O.length ∧ e 3 = .p (acs l) ∧ e 4 = .p (ins O) ∧ e 6 = .p (acs Y) ∧ e 7 = .p (.sl 2 (frmL l l.length)) ∧ e 8 = .p (.sl 2 (frmL Y l.length)) ∧ e 12 = .p (I i)) ?_ O.length _ _ ⟨0, rfl, by omega, ?_⟩
      · rintro m e Hc ⟨i, rfl, hi, e3, e4, e6, e7, e8, e12⟩
        rcases Nat.lt_or_ge i O.length with h | h
        · have gO := iL_get h
          simp -implicitDefEqProofs -dsimp (disch := first | omega | (simp only [wkLen]; omega) | decide +kernel) only [↓wkPre, ↓wkPre2, ↓wkE, wkPost, wkDef, wkF, simprocAttr, e3, e4, e6, e7, e8, e12, huO]
          refine loop_use extMono (fun m e Hc => ∃ j k : Nat, m = l.length - j ∧ j ≤ l.length ∧ k ≤ l.length ∧ e 3 = .p (acs l) ∧ e 4 = .p (ins O) ∧ e 6 = .p (acs Y) ∧ e 7 = .p (.sl 2 (frmL l l.length)) ∧ e 8 = .p (.sl 2 (frmL Y l.length)) ∧ e 12 = .p (I i) ∧ e 13 = .p (I k) ∧ e 14 = .p (I j) ∧
            (∀ q, q < l.length → l[ys[q]!]!.1 = O[i] → j ≤ ys[q]! → k ≤ q) ∧ ∀ q, k ≤ q → q < l.length → l[ys[q]!]!.1 = O[i] → j ≤ ys[q]!) ?_ l.length _ _ ⟨0, 0, rfl, by omega, by omega, ?_⟩
          · rintro m e Hc ⟨j, k, rfl, hj, hk, e3, e4, e6, e7, e8, e12, e13, e14, hA, hB⟩
            rcases Nat.lt_or_ge j l.length with h2 | h2
            · have gj := aL_get h2
              have hgj : l[j]! = l[j] := getElem!_pos l j h2
              cases hc : (l[j].1 == O[i])
              · simp -implicitDefEqProofs -dsimp (disch := first | omega | (simp only [wkLen]; omega) | decide +kernel) only [↓wkPre, ↓wkPre2, ↓wkE, wkPost, wkDef, wkF, simprocAttr, e3, e4, e6, e7, e8, e12, e13, e14, hul, gO, gj, hc]
                refine ⟨l.length - (j + 1), by omega, j + 1, k, rfl, by omega, hk, rfl, by push_cast; rfl, fun q hq hw hle => hA q hq hw (by omega), fun q hq hql hw => ?_⟩
                have h3 := hB q hq hql hw
                rcases Nat.lt_or_eq_of_le h3 with h4 | h4
                · exact h4
                · rw [← h4, hgj] at hw
                  simp [hw] at hc
              · have hw := beq_iff_eq.1 hc
                obtain ⟨qj, hqj, hyj⟩ := hS.at h2
                have hYj : Y[qj]! = l[j] := by rw [hYg hqj, hyj, hgj]
                have hkq : k ≤ qj := hA qj hqj (by rw [hyj, hgj]; exact hw) (by omega)
                have hF : frm Y qj = frm l j := by rw [hfs hqj, hyj]
                have gf := frmL_get (l := l) h2
                have gF := frmL_get (l := Y) (n := l.length) (i := qj) hqj
                rw [hF] at gF
                have gY := aL_get (l := Y) (i := qj) (by omega)
                rw [← getElem!_pos Y qj (by omega), hYj] at gY
                simp -implicitDefEqProofs -dsimp (disch := first | omega | (simp only [wkLen]; omega) | decide +kernel) only [↓wkPre, ↓wkPre2, ↓wkE, wkPost, wkDef, wkF, simprocAttr, e3, e4, e6, e7, e8, e12, e13, e14, hul, gO, gj, hc]
                refine loop_use extMono (fun m e Hc => ∃ k' : Nat, m = qj - k' ∧ k ≤ k' ∧ k' ≤ qj ∧ e 3 = .p (acs l) ∧ e 4 = .p (ins O) ∧ e 6 = .p (acs Y) ∧ e 7 = .p (.sl 2 (frmL l l.length)) ∧ e 8 = .p (.sl 2 (frmL Y l.length)) ∧ e 12 = .p (I i) ∧ e 13 = .p (I k') ∧ e 14 = .p (I j)) ?_ (qj - k) _ _ ⟨k, rfl, by omega, hkq, ?_⟩
                · rintro m e Hc ⟨k', rfl, hk1, hk2, e3, e4, e6, e7, e8, e12, e13, e14⟩
                  rcases Nat.lt_or_ge k' qj with h3 | h3
                  · have gk := aL_get (l := Y) (i := k') (by omega)
                    have hkk : Y[k']! = Y[k'] := getElem!_pos Y k' (by omega)
                    have hne : (Y[k'].1 == O[i]) = false := by
                      cases hb : (Y[k'].1 == O[i]) with
                      | false => rfl
                      | true =>
                        have h4 : l[ys[k']!]!.1 = O[i] := by rw [← hYg (show k' < l.length by omega), hkk]; exact beq_iff_eq.1 hb
                        have h5 := hB k' hk1 (by omega) h4
                        have h6 := hS.agr k' qj h3 hqj (.inl (by rw [h4, hyj, hgj]; exact hw.symm))
                        omega
                    simp -implicitDefEqProofs -dsimp (disch := first | omega | (simp only [wkLen]; omega) | decide +kernel) only [↓wkPre, ↓wkPre2, ↓wkE, wkPost, wkDef, wkF, simprocAttr, e3, e4, e6, e7, e8, e12, e13, e14, huY, hYl, gO, gk, hne]
                    exact ⟨qj - (k' + 1), by omega, k' + 1, rfl, by omega, by omega, by push_cast; rfl⟩
                  · obtain rfl : k' = qj := by omega
                    simp -implicitDefEqProofs -dsimp (disch := first | omega | (simp only [wkLen]; omega) | decide +kernel) only [↓wkPre, ↓wkPre2, ↓wkE, wkPost, wkDef, wkF, simprocAttr, e3, e4, e6, e7, e8, e12, e13, e14, huY, hYl, gO, gY, gj, gf, gF, hc, hul, hfl, hfY]
                    refine ⟨l.length - (j + 1), by omega, j + 1, k' + 1, rfl, by omega, by omega, by push_cast; rfl, by push_cast; rfl, fun q hq hwq hle => ?_, fun q hq hql hwq => ?_⟩
                    · rcases Nat.lt_trichotomy q k' with h4 | h4 | h4
                      · have := hS.agr q k' h4 hqj (.inl (by rw [hwq, hyj, hgj]; exact hw.symm)); omega
                      · subst h4; omega
                      · omega
                    · have := hS.agr k' q (by omega) hql (.inl (by rw [hwq, hyj, hgj]; exact hw)); omega
                · simp -implicitDefEqProofs -dsimp (disch := first | omega | (simp only [wkLen]; omega) | decide +kernel) only [↓wkPre, ↓wkPre2, ↓wkE, wkPost, wkDef, wkF, simprocAttr]
                  exact ⟨e3, e4, e6, e7, e8, e12, e13, e14⟩
            · obtain rfl : j = l.length := by omega
              simp -implicitDefEqProofs -dsimp (disch := first | omega | (simp only [wkLen]; omega) | decide +kernel) only [↓wkPre, ↓wkPre2, ↓wkE, wkPost, wkDef, wkF, simprocAttr, e3, e4, e6, e7, e8, e12, e13, e14, hul]
              exact ⟨O.length - (i + 1), by omega, i + 1, rfl, by omega, by push_cast; rfl⟩
          · simp -implicitDefEqProofs -dsimp (disch := first | omega | (simp only [wkLen]; omega) | decide +kernel) only [↓wkPre, ↓wkPre2, ↓wkE, wkPost, wkDef, wkF, simprocAttr]
            exact ⟨e3, e4, e6, e7, e8, e12, fun q _ _ _ => by omega, fun q _ _ _ => by omega⟩
        · obtain rfl : i = O.length := by omega
          simp -implicitDefEqProofs -dsimp (disch := first | omega | (simp only [wkLen]; omega) | decide +kernel) only [↓wkPre, ↓wkPre2, ↓wkE, wkPost, wkDef, wkF, simprocAttr, e3, e4, e6, e7, e8, e12, huO]
          refine PS.app md_7 Try.func7 p7 rfl ?_
          rintro _ rfl
          simp -implicitDefEqProofs -dsimp (disch := first | omega | (simp only [wkLen]; omega) | decide +kernel) only [↓wkPre, ↓wkPre2, ↓wkE, wkPost, wkDef, wkF, simprocAttr]
      · simp -implicitDefEqProofs -dsimp (disch := first | omega | (simp only [wkLen]; omega) | decide +kernel) only [↓wkPre, ↓wkPre2, ↓wkE, wkPost, wkDef, wkF, simprocAttr]
        exact ⟨e3, e4, e6, e7, e8⟩
  · simp -implicitDefEqProofs -dsimp (disch := first | omega | (simp only [wkLen]; omega) | decide +kernel) only [↓wkPre, ↓wkPre2, ↓wkE, wkPost, wkDef, wkF, simprocAttr]
theorem lawHistorySame : ∀ xs, Tyas [(0, [Ty.sl 3 [Ty.int .i64, Ty.int .u64, Ty.bool]])] xs → (Ev.W Cf okf).call 5 (xs.map AV.p) [] fun v _ => v = .p (.bool true) := by
  intro xs h
  obtain ⟨L, rfl⟩ := law_args h
  exact law5 L
end Go.Ev.F23
end
section
namespace Go.Proofs.Ytjjgepnjkegjhaa
open Go.Ev Go.Ev.F23
set_option maxRecDepth 100000
theorem own : ownKnob Try.prog.godebug = Option.none := by kernel_rfl
theorem laidOut : laidOutB Try.prog = true := by kernel_rfl
theorem tyHistorySame : Try.f5.params.toList.mapM (tyA Try.prog 8) = some [(0, [Ty.sl 3 [Ty.int .i64, Ty.int .u64, Ty.bool]])] := by kernel_rfl
theorem historySame_lifted (os : Os) (started : os.Started) (H : Type) (enc : TypeId × Value → H) :
    ReturnsInHanded {} Try.checked os 5 .any (Rows.historySameSpec.pre6 enc Try.prog Try.f5 Rows.historySameRow.domain false) (Rows.historySameSpec.post enc Try.prog Try.f5 false true false false) := by
  refine returnsInHanded_of_change (C := Try.checked) own started (by kernel_rfl) Try.func5
    (ChangeSpec.witness6 (enc := enc) (C := Try.checked) false ⟨#[], #[.slice Option.none 0 0], []⟩ 8 (by kernel_rfl) (by kernel_rfl) (by kernel_rfl) (by kernel_rfl)) ?_
  intro W base args ds gs before hval hW _ _
  refine law_calls (C := Cf) extOK extMono okfOK (fn := Try.f5) laidOut (by decide +kernel) (s := Rows.historySameSpec) rfl ?_ tyHistorySame (bt := 4) (by kernel_rfl) und_4 lawHistorySame hval hW
  intro H ds h
  match ds, h with
  | [_], _ => rfl
theorem historySame_holds : Rows.HistorySameSaid :=
  OpenClaim.holds_of_wide 5 Try.f5 rfl rfl rfl rfl rfl rfl rfl ⟨rfl, rfl, rfl, rfl, rfl⟩ rfl rfl rfl rfl rfl (by kernel_rfl) Try.func5 (by kernel_rfl)
    (of_decide_eq_true (by kernel_rfl)) (by unfold Func.isWrapper; rw [if_neg (by decide +kernel)]; exact ⟨rfl, rfl⟩)
    (fun os started H enc _ => historySame_lifted os started H enc)
end Go.Proofs.Ytjjgepnjkegjhaa
#print axioms Go.Proofs.Ytjjgepnjkegjhaa.historySame_holds
end
