/- A part of the proof: walks of the functions that the law calls. No condition. -/
import Derived.Test.YtldogfcfafomiaaDoorWalkC
set_option linter.all false
section
namespace Go.Ev.F32
open Go.Proofs Go.Ev
set_option linter.all false
/-! numbers -/
theorem head_app {a b : List UInt8} (h : a ≠ []) : (a ++ b).head? = a.head? := by cases a with | nil => exact absurd rfl h | cons c r => rfl
theorem numF_app (most : Nat) : ∀ (a b : List UInt8) (n : Nat), numF most n (a ++ b) = (numF most n a).bind fun m => numF most m b
  | [], b, n => rfl
  | c :: a, b, n => by
    simp only [List.cons_append, numF]
    split
    · exact numF_app most a b _
    · rfl
theorem d1_toNat {n : Nat} (h : n < 10) : (d1 n).toNat = 48 + n := by
  unfold d1; simp; omega
theorem numF_dg {most : Nat} : ∀ n, n ≤ most → numF most 0 (dg n) = some n := by
  intro n
  induction n using Nat.strongRecOn with
  | _ n ih =>
    intro h
    by_cases hn : n < 10
    · rw [dg_lt hn, numF_cons, if_pos (by rw [d1_toNat hn]; omega), d1_toNat hn]
      simp [numF]
    · rw [dg_ge hn, numF_app, ih (n / 10) (by omega) (by omega), Option.bind_some, numF_cons, if_pos (by rw [d1_toNat (by omega)]; omega), d1_toNat (by omega)]
      simp only [numF]
      congr 1; omega
theorem dg_ne (n : Nat) : dg n ≠ [] := by
  by_cases hn : n < 10
  · rw [dg_lt hn]; simp
  · rw [dg_ge hn]; simp
theorem dg_head : ∀ n, 0 < n → (dg n).head? ≠ some 48 := by
  intro n
  induction n using Nat.strongRecOn with
  | _ n ih =>
    intro h
    by_cases hn : n < 10
    · rw [dg_lt hn]
      simp only [List.head?_cons, ne_eq, Option.some.injEq]
      intro e
      have := congrArg UInt8.toNat e
      rw [d1_toNat hn] at this
      simp at this; omega
    · rw [dg_ge hn, head_app (dg_ne _)]
      exact ih (n / 10) (by omega) (by omega)
theorem num_dg {most n : Nat} (hm : most < 18446744073709551616) (h : n ≤ most) : num most (dg n) = some n := by
  unfold num
  rw [if_neg, numF_dg n h]
  rintro (h1 | h1 | ⟨h1, h2⟩)
  · exact dg_ne n h1
  · have := dg_le (n := n) (by omega); omega
  · by_cases h0 : n = 0
    · subst h0; rw [dg_lt (by omega)] at h2; simp at h2
    · exact dg_head n (by omega) h1
theorem numF_inv {most : Nat} : ∀ (k : Nat) (s : List UInt8) (n : Nat), s.length = k → s ≠ [] → ¬ (s.head? = some 48 ∧ 1 < s.length) → numF most 0 s = some n → s = dg n
  | 0, s, n, hk, h0, _, _ => absurd (List.length_eq_zero_iff.1 hk) h0
  | k + 1, s, n, hk, h0, hh, h => by
    obtain ⟨t, c, rfl⟩ : ∃ t c, s = t ++ [c] := ⟨s.dropLast, s.getLast h0, (List.dropLast_concat_getLast h0).symm⟩
    rw [numF_app] at h
    simp only [Option.bind_eq_some_iff] at h
    obtain ⟨m, hm, hc⟩ := h
    rw [numF_cons] at hc
    split at hc
    · rename_i hcc
      simp only [numF, Option.some.injEq] at hc
      have hd : d1 (c.toNat - 48) = c := by
        unfold d1
        apply UInt8.toNat_inj.1
        simp
        have := c.toNat_lt
        omega
      by_cases ht : t = []
      · subst ht
        simp only [numF, Option.some.injEq] at hm
        subst hm
        have hn : n = c.toNat - 48 := by omega
        rw [dg_lt (by omega), hn, hd]; rfl
      · have htl : 0 < t.length := List.length_pos_iff.2 ht
        have hh' : t.head? ≠ some 48 := by
          intro e
          exact hh ⟨by rw [head_app ht]; exact e, by simp; omega⟩
        have ih := numF_inv k t m (by simp at hk; exact hk) ht (fun h => hh' h.1) hm
        have hm0 : 0 < m := by
          rcases Nat.eq_zero_or_pos m with e | e
          · subst e
            rw [ih, dg_lt (by omega)] at hh'
            exact absurd rfl hh'
          · exact e
        rw [dg_ge (n := n) (by omega), show n / 10 = m by omega, show n % 10 = c.toNat - 48 by omega, hd, ← ih]
    · cases hc
theorem num_inv {most n : Nat} {s : List UInt8} (h : num most s = some n) : s = dg n := by
  unfold num at h
  split at h
  · cases h
  · rename_i hc
    exact numF_inv _ s n rfl (fun e => hc (.inl e)) (fun e => hc (.inr (.inr e))) h
theorem wnum_wh {n : Int} (h : -9223372036854775808 ≤ n ∧ n ≤ 9223372036854775807) : wnum (wh n) = some n := by
  unfold wh
  split
  · rename_i hn
    simp only [wnum, num_dg (most := 9223372036854775808) (n := n.natAbs) (by omega) (by omega), Option.bind_some]
    rw [if_pos (by omega)]
    congr 1; omega
  · rename_i hn
    have : wnum (dg n.natAbs) = (num 9223372036854775807 (dg n.natAbs)).map Int.ofNat := by
      unfold wnum
      split
      · rename_i r hr
        exfalso
        have hd := num_dg (most := 18446744073709551615) (n := n.natAbs) (by omega) (by omega)
        rw [hr] at hd
        unfold num at hd
        split at hd
        · cases hd
        · rw [numF_cons, if_neg (by simp)] at hd; cases hd
      · rfl
    rw [this, num_dg (by omega) (by omega)]
    simp only [Option.map_some]
    congr 1; simp; omega
theorem wnum_inv {n : Int} {s : List UInt8} (h : wnum s = some n) : s = wh n ∧ -9223372036854775808 ≤ n ∧ n ≤ 9223372036854775807 := by
  unfold wnum at h
  split at h
  · rename_i r
    simp only [Option.bind_eq_some_iff] at h
    obtain ⟨m, hm, h⟩ := h
    have hle := num_le hm
    split at h
    · cases h
      refine ⟨?_, by omega, by omega⟩
      unfold wh
      rw [if_pos (by omega), Int.natAbs_neg, Int.natAbs_natCast, ← num_inv hm]
    · cases h
  · simp only [Option.map_eq_some_iff] at h
    obtain ⟨m, hm, rfl⟩ := h
    have hle := num_le hm
    refine ⟨?_, by simp; try omega, by simp; try omega⟩
    unfold wh
    rw [if_neg (by simp)]
    simpa using num_inv hm
/-! quotes -/
theorem hx_hxv : ∀ c : UInt8, ∀ i, hxv c = some i → hx i = c ∧ i < 16 := by
  have key : ∀ n : Fin 256, ∀ i : Fin 16, hxv (UInt8.ofNat n.val) = some i.val → hx i.val = UInt8.ofNat n.val := by decide +kernel
  intro c i h
  have hi : i < 16 := by
    have := hex_lt c
    unfold hxv at h
    split at h
    · cases h
    · simp at h; omega
  have := key ⟨c.toNat, c.toNat_lt⟩ ⟨i, hi⟩
  simp only [UInt8.ofNat_toNat] at this
  exact ⟨this h, hi⟩
theorem hxv_hx {i : Nat} (h : i < 16) : hxv (hx i) = some i := by
  have key : ∀ i : Fin 16, hxv (hx i.val) = some i.val := by decide +kernel
  exact key ⟨i, h⟩
theorem pln_ne {c : UInt8} (h : pln c = true) : c.toNat ≠ 37 ∧ c.toNat ≠ 34 ∧ c.toNat ≠ 32 := by
  unfold pln at h
  simp at h
  omega
theorem qs_cons (c : UInt8) (s : List UInt8) : qs (c :: s) = qb c ++ qs s := by simp [qs]
theorem uqF_qs : ∀ v : List UInt8, uqF (qs v) = some v
  | [] => rfl
  | c :: v => by
    have ih := uqF_qs v
    rw [qs_cons, qb]
    cases hp : pln c
    · rw [if_neg (by decide)]
      simp only [List.cons_append, List.nil_append]
      have hc := c.toNat_lt
      rw [uqF_e _ (by decide), hxv_hx (by omega), hxv_hx (by omega)]
      simp only [Option.bind_some]
      have hcc : UInt8.ofNat (16 * (c.toNat / 16) + c.toNat % 16) = c := by
        rw [Nat.div_add_mod, UInt8.ofNat_toNat]
      rw [hcc, hp, if_neg (by decide), ih]; rfl
    · rw [if_pos rfl]
      simp only [List.cons_append, List.nil_append]
      rw [uqF_p _ (pln_ne hp).1, hp, if_pos rfl, ih]; rfl
theorem uqF_inv : ∀ (k : Nat) (t v : List UInt8), t.length ≤ k → uqF t = some v → t = qs v
  | _, [], v, _, h => by simp [uqF] at h; subst h; rfl
  | 0, c :: r, v, hk, h => by simp at hk
  | k + 1, c :: r, v, hk, h => by
    simp only [List.length_cons] at hk
    by_cases hc : c.toNat = 37
    · match r, h with
      | [], h => rw [uqF_s _ hc (by simp)] at h; cases h
      | [_], h => rw [uqF_s _ hc (by simp)] at h; cases h
      | a :: b :: r, h =>
        rw [uqF_e _ hc] at h
        simp only [Option.bind_eq_some_iff] at h
        obtain ⟨i, hi, j, hj, h⟩ := h
        split at h
        · cases h
        · rename_i hp
          simp only [Option.map_eq_some_iff] at h
          obtain ⟨w, hw, rfl⟩ := h
          have ih := uqF_inv k r w (by simp at hk; omega) hw
          obtain ⟨e1, l1⟩ := hx_hxv a i hi
          obtain ⟨e2, l2⟩ := hx_hxv b j hj
          have hn : (UInt8.ofNat (16 * i + j)).toNat = 16 * i + j := by simp; omega
          rw [qs_cons, qb, if_neg hp, hn, show (16 * i + j) / 16 = i by omega, show (16 * i + j) % 16 = j by omega, e1, e2, ← ih]
          simp only [List.cons_append, List.nil_append]
          congr 1
          exact UInt8.toNat_inj.1 hc
    · rw [uqF_p _ hc] at h
      split at h
      · rename_i hp
        simp only [Option.map_eq_some_iff] at h
        obtain ⟨w, hw, rfl⟩ := h
        have ih := uqF_inv k r w (by omega) hw
        rw [qs_cons, qb, if_pos hp, ← ih]; rfl
      · cases h
theorem uq_qt (v : List UInt8) : uq (qt v) = some v := by
  have hl : (qt v).length = (qs v).length + 2 := by simp [qt]
  unfold uq
  rw [if_neg]
  · have : ((qt v).take ((qt v).length - 1)).drop 1 = qs v := by
      rw [hl]
      simp [qt]
    rw [this, uqF_qs]
  · rintro (h | h | h)
    · omega
    · exact h rfl
    · apply h
      rw [hl]
      simp [qt]
theorem uq_inv {s v : List UInt8} (h : uq s = some v) : s = qt v := by
  unfold uq at h
  split at h
  · cases h
  · rename_i hc
    have hl : ¬ s.length < 2 := fun e => hc (.inl e)
    have h0 : s[0]? = some 34 := Classical.byContradiction fun e => hc (.inr (.inl e))
    have h1 : s[s.length - 1]? = some 34 := Classical.byContradiction fun e => hc (.inr (.inr e))
    have hi := uqF_inv _ _ v (Nat.le_refl _) h
    cases s with
    | nil => simp at hl
    | cons a r =>
      simp at h0
      subst h0
      have hr : r ≠ [] := by rintro rfl; simp at hl
      have hlast : r.getLast hr = 34 := by
        have : (34 :: r)[(34 :: r).length - 1]? = some (r.getLast hr) := by
          rw [← List.getLast?_eq_getElem?, List.getLast?_cons]
          simp [List.getLastD_eq_getLast?, List.getLast?_eq_some_getLast hr]
        rw [this] at h1
        exact Option.some.inj h1
      have ht : ((34 :: r).take ((34 :: r).length - 1)).drop 1 = r.dropLast := by
        obtain ⟨t, c, rfl⟩ : ∃ t c, r = t ++ [c] := ⟨r.dropLast, r.getLast hr, (List.dropLast_concat_getLast hr).symm⟩
        simp
      rw [ht] at hi
      unfold qt
      rw [← hi, ← hlast, List.dropLast_concat_getLast hr]
end Go.Ev.F32
end
section
namespace Go.Ev.F32
open Go.Proofs Go.Ev
set_option linter.all false
/-! cut and join -/
theorem cut_cons_ne {c b : UInt8} {l x : List UInt8} {r : List (List UInt8)} (h : b ≠ c) (hc : cut c l = x :: r) : cut c (b :: l) = (b :: x) :: r := by
  unfold cut; rw [if_neg h, hc]
theorem cut_app (c : UInt8) : ∀ (w l : List UInt8), (∀ b ∈ w, b ≠ c) → cut c (w ++ c :: l) = w :: cut c l
  | [], l, _ => by simp [cut]
  | b :: w, l, h => by
    rw [List.cons_append, cut_cons_ne (h b (by simp)) (cut_app c w l fun b hb => h b (by simp [hb]))]
theorem cut_one (c : UInt8) : ∀ (w : List UInt8), (∀ b ∈ w, b ≠ c) → cut c w = [w]
  | [], _ => rfl
  | b :: w, h => by rw [cut_cons_ne (h b (by simp)) (cut_one c w fun b hb => h b (by simp [hb]))]
theorem cut_join (c : UInt8) : ∀ (ws : List (List UInt8)), ws ≠ [] → (∀ w ∈ ws, ∀ b ∈ w, b ≠ c) → cut c (Lib.join ws [c]) = ws
  | [], h, _ => absurd rfl h
  | [w], _, h => by rw [Lib.join_one, cut_one c w (h w (by simp))]
  | w :: w' :: ws, _, h => by
    have ih := cut_join c (w' :: ws) (by simp) fun w hw => h w (by simp [hw])
    have e : Lib.join (w :: w' :: ws) [c] = w ++ c :: Lib.join (w' :: ws) [c] := by simp [Lib.join, List.intercalate]
    rw [e, cut_app c w _ (h w (by simp)), ih]
theorem join_cons (x : List UInt8) (c : UInt8) {r : List (List UInt8)} (h : r ≠ []) : Lib.join (x :: r) [c] = x ++ c :: Lib.join r [c] := by
  cases r with
  | nil => exact absurd rfl h
  | cons y r => simp [Lib.join, List.intercalate]
theorem join_cut (c : UInt8) : ∀ s : List UInt8, Lib.join (cut c s) [c] = s
  | [] => rfl
  | b :: l => by
    have ih := join_cut c l
    unfold cut
    split
    · rename_i h
      subst h
      rw [join_cons _ _ (cut_ne b l), ih]; rfl
    · split
      · rename_i hc; exact absurd hc (cut_ne c l)
      · rename_i x r hc
        rw [hc] at ih
        cases r with
        | nil => rw [Lib.join_one] at ih ⊢; rw [ih]
        | cons y r => rw [join_cons _ _ (by simp)] at ih ⊢; rw [← ih]; rfl
theorem cut_no (c : UInt8) : ∀ s : List UInt8, ∀ w ∈ cut c s, ∀ b ∈ w, b ≠ c
  | [], w, hw, b, hb => by simp [cut] at hw; subst hw; cases hb
  | a :: l, w, hw, b, hb => by
    have ih := cut_no c l
    unfold cut at hw
    split at hw
    · rcases List.mem_cons.1 hw with rfl | hw
      · cases hb
      · exact ih w hw b hb
    · rename_i ha
      split at hw
      · rename_i hc; exact absurd hc (cut_ne c l)
      · rename_i x r hc
        rcases List.mem_cons.1 hw with rfl | hw
        · rcases List.mem_cons.1 hb with rfl | hb
          · exact ha
          · exact ih x (by rw [hc]; simp) b hb
        · exact ih w (by rw [hc]; simp [hw]) b hb
/-! no space in a word -/
theorem dg_dig : ∀ n, ∀ b ∈ dg n, 48 ≤ b.toNat := by
  intro n
  induction n using Nat.strongRecOn with
  | _ n ih =>
    intro b hb
    by_cases hn : n < 10
    · rw [dg_lt hn] at hb; simp at hb; subst hb; rw [d1_toNat hn]; omega
    · rw [dg_ge hn] at hb
      rcases List.mem_append.1 hb with hb | hb
      · exact ih (n / 10) (by omega) b hb
      · simp at hb; subst hb; rw [d1_toNat (by omega)]; omega
theorem wh_dig (n : Int) : ∀ b ∈ wh n, 45 ≤ b.toNat := by
  intro b hb
  unfold wh at hb
  split at hb
  · rcases List.mem_cons.1 hb with rfl | hb
    · decide
    · have := dg_dig _ b hb; omega
  · have := dg_dig _ b hb; omega
theorem hx_ge {i : Nat} (h : i < 16) : 48 ≤ (hx i).toNat := by
  have key : ∀ i : Fin 16, 48 ≤ (hx i.val).toNat := by decide
  exact key ⟨i, h⟩
theorem qb_ge (c : UInt8) : ∀ b ∈ qb c, 32 < b.toNat := by
  intro b hb
  unfold qb at hb
  have hc := c.toNat_lt
  split at hb
  · rename_i hp
    simp at hb; subst hb
    unfold pln at hp; simp at hp; omega
  · simp only [List.mem_cons, List.mem_nil_iff, or_false] at hb
    rcases hb with rfl | rfl | rfl
    · decide
    · have := hx_ge (i := c.toNat / 16) (by omega); omega
    · have := hx_ge (i := c.toNat % 16) (by omega); omega
theorem qt_ge (s : List UInt8) : ∀ b ∈ qt s, 32 < b.toNat := by
  intro b hb
  unfold qt at hb
  rcases List.mem_cons.1 hb with rfl | hb
  · decide
  rcases List.mem_append.1 hb with hb | hb
  · obtain ⟨c, _, hc⟩ := List.mem_flatMap.1 hb
    exact qb_ge c b hc
  · simp at hb; subst hb; decide
theorem fld_ge (o : O) (c : UInt8) : ∀ w ∈ fld o c, ∀ b ∈ w, 32 < b.toNat := by
  intro w hw b hb
  have d : ∀ n, b ∈ dg n → 32 < b.toNat := fun n h => by have := dg_dig n b h; omega
  unfold fld at hw
  split at hw
  · simp at hw; subst hw; exact d _ hb
  split at hw
  · simp at hw; subst hw; exact d _ hb
  split at hw
  · simp at hw; subst hw; exact d _ hb
  split at hw
  · simp at hw; subst hw; exact qt_ge _ b hb
  split at hw
  · simp at hw; subst hw; have := wh_dig _ b hb; omega
  split at hw
  · simp only [List.mem_cons, List.mem_nil_iff, or_false] at hw
    rcases hw with rfl | rfl | rfl | rfl <;> exact d _ hb
  · cases hw
theorem verbs_ge (k : Nat) : ∀ b ∈ verbsL.getD k [], 32 < b.toNat := by
  have key : ∀ k : Fin 10, ∀ b ∈ verbsL.getD k.val [], 32 < b.toNat := by decide
  by_cases h : k < 10
  · exact key ⟨k, h⟩
  · rw [List.getD_eq_getElem?_getD, List.getElem?_eq_none (by simp; omega)]; intro b hb; cases hb
theorem words_no (o : O) : ∀ w ∈ words o, ∀ b ∈ w, b ≠ 32 := by
  intro w hw b hb e
  subst e
  unfold words at hw
  rcases List.mem_cons.1 hw with rfl | hw
  · exact absurd (verbs_ge _ 32 hb) (by decide)
  · obtain ⟨c, _, hc⟩ := List.mem_flatMap.1 hw
    exact absurd (fld_ge o c w hc 32 hb) (by decide)
theorem kindU_verb {k : Nat} (h0 : 0 < k) (h : k < 10) : kindU (verbsL.getD k []) 10 = k := by
  have key : ∀ k : Fin 10, 0 < k.val → kindU (verbsL.getD k.val []) 10 = k.val := by decide
  exact key ⟨k, h⟩ h0
theorem kindU_inv (w : List UInt8) : ∀ i, kindU w i ≠ 0 → verbsL.getD (kindU w i) [] = w
  | 0, h => absurd rfl h
  | i + 1, h => by
    unfold kindU at h ⊢
    split
    · rename_i hc; exact hc.2
    · rename_i hc
      rw [if_neg hc] at h
      exact kindU_inv w i h
/-! there and back -/
theorem back (o : O) (ho : o.ok) (h1 : 1 ≤ o.kind) (h9 : o.kind ≤ 9) : runF { zeroO with kind := (o.kind.toNat : Nat) } (formsL.getD o.kind.toNat []) ((formsL.getD o.kind.toNat []).flatMap (fld o)) = some (cleanF o, []) := by
  obtain ⟨o1, o2, o3, o4, o5, o6, o7, o8, o9⟩ := ho
  obtain ⟨kind, key, x, y, val, w0, w1, w2, w3, n⟩ := o
  dsimp only at h1 h9 o1 o2 o3 o4 o5 o6 o7 o8 o9
  have n1 := num_dg (most := 18446744073709551615) (n := key) (by omega) (by omega)
  have n2 := num_dg (most := 4294967295) (n := x) (by omega) (by omega)
  have n3 := num_dg (most := 4294967295) (n := y) (by omega) (by omega)
  have n4 := num_dg (most := 4294967295) (n := w0) (by omega) (by omega)
  have n5 := num_dg (most := 4294967295) (n := w1) (by omega) (by omega)
  have n6 := num_dg (most := 4294967295) (n := w2) (by omega) (by omega)
  have n7 := num_dg (most := 4294967295) (n := w3) (by omega) (by omega)
  have n8 := wnum_wh o9
  have n9 := uq_qt val
  have cs : kind = 1 ∨ kind = 2 ∨ kind = 3 ∨ kind = 4 ∨ kind = 5 ∨ kind = 6 ∨ kind = 7 ∨ kind = 8 ∨ kind = 9 := by omega
  rcases cs with rfl | rfl | rfl | rfl | rfl | rfl | rfl | rfl | rfl <;> simp [runF, setF, fld, cleanF, zeroO, n1, n2, n3, n4, n5, n6, n7, n8, n9]
theorem getF_line (o : O) (ho : o.ok) (h1 : 1 ≤ o.kind) (h9 : o.kind ≤ 9) (hl : (lineR o).length ≤ 400) : getF (lineR o) = (cleanF o, 0) := by
  have hcut : cut 32 (lineR o) = words o := by
    rw [← words_line o h1 h9]
    exact cut_join 32 (words o) (by simp [words]) (words_no o)
  have hk := kindU_verb (k := o.kind.toNat) (by omega) (by omega)
  unfold getF
  rw [if_neg (by omega), hcut]
  simp only [words, List.headD_cons, List.drop_succ_cons, List.drop_zero]
  rw [hk, if_neg (by omega), back o ho h1 h9]
end Go.Ev.F32
end
section
namespace Go.Ev.F32
open Go.Proofs Go.Ev
set_option linter.all false
theorem set107 {o o' : O} {l : List (List UInt8)} {r : Nat} (h : setF o 107 l = some (o', r)) : ∃ t n, l = dg n :: t ∧ n < 18446744073709551616 ∧ o' = { o with key := n } ∧ r = 1 := by
  cases l with
  | nil => cases h
  | cons w t =>
    simp [setF] at h
    obtain ⟨n, hn, rfl, rfl⟩ := h
    have := num_le hn
    exact ⟨t, n, by rw [num_inv hn], by omega, rfl, rfl⟩
theorem set120 {o o' : O} {l : List (List UInt8)} {r : Nat} (h : setF o 120 l = some (o', r)) : ∃ t n, l = dg n :: t ∧ n < 4294967296 ∧ o' = { o with x := n } ∧ r = 1 := by
  cases l with
  | nil => cases h
  | cons w t =>
    simp [setF] at h
    obtain ⟨n, hn, rfl, rfl⟩ := h
    have := num_le hn
    exact ⟨t, n, by rw [num_inv hn], by omega, rfl, rfl⟩
theorem set121 {o o' : O} {l : List (List UInt8)} {r : Nat} (h : setF o 121 l = some (o', r)) : ∃ t n, l = dg n :: t ∧ n < 4294967296 ∧ o' = { o with y := n } ∧ r = 1 := by
  cases l with
  | nil => cases h
  | cons w t =>
    simp [setF] at h
    obtain ⟨n, hn, rfl, rfl⟩ := h
    have := num_le hn
    exact ⟨t, n, by rw [num_inv hn], by omega, rfl, rfl⟩
theorem set118 {o o' : O} {l : List (List UInt8)} {r : Nat} (h : setF o 118 l = some (o', r)) : ∃ t v, l = qt v :: t ∧ o' = { o with val := v } ∧ r = 1 := by
  cases l with
  | nil => cases h
  | cons w t =>
    simp [setF] at h
    obtain ⟨n, hn, rfl, rfl⟩ := h
    exact ⟨t, n, by rw [uq_inv hn], rfl, rfl⟩
theorem set110 {o o' : O} {l : List (List UInt8)} {r : Nat} (h : setF o 110 l = some (o', r)) : ∃ t n, l = wh n :: t ∧ (-9223372036854775808 ≤ n ∧ n ≤ 9223372036854775807) ∧ o' = { o with n := n } ∧ r = 1 := by
  cases l with
  | nil => cases h
  | cons w t =>
    simp [setF] at h
    obtain ⟨n, hn, rfl, rfl⟩ := h
    have := wnum_inv hn
    exact ⟨t, n, by rw [this.1], this.2, rfl, rfl⟩
theorem set119 {o o' : O} {l : List (List UInt8)} {r : Nat} (h : setF o 119 l = some (o', r)) : ∃ t a b c d, l = dg a :: dg b :: dg c :: dg d :: t ∧ (a < 4294967296 ∧ b < 4294967296 ∧ c < 4294967296 ∧ d < 4294967296) ∧ o' = { o with w0 := a, w1 := b, w2 := c, w3 := d } ∧ r = 4 := by
  match l, h with
  | w :: w1 :: w2 :: w3 :: t, h =>
    simp [setF, Option.bind_eq_some_iff] at h
    obtain ⟨a, ha, b, hb, c, hc, d, hd, rfl, rfl⟩ := h
    have := num_le ha
    have := num_le hb
    have := num_le hc
    have := num_le hd
    exact ⟨t, a, b, c, d, by rw [num_inv ha, num_inv hb, num_inv hc, num_inv hd], ⟨by omega, by omega, by omega, by omega⟩, rfl, rfl⟩
  | [_, _, _], h => simp [setF] at h
  | [_, _], h => simp [setF] at h
  | [_], h => simp [setF] at h
  | [], h => cases h
theorem run_inv {k : Nat} {l : List (List UInt8)} {o : O} (h0 : 0 < k) (h9 : k < 10) (h : runF { zeroO with kind := (k : Nat) } (formsL.getD k []) l = some (o, [])) :
    o.kind = k ∧ l = (formsL.getD k []).flatMap (fld o) ∧ (o.val.length ≤ 500 → o.ok) ∧ (o.val = [] ∨ qt o.val ∈ l) := by
  have cs : k = 1 ∨ k = 2 ∨ k = 3 ∨ k = 4 ∨ k = 5 ∨ k = 6 ∨ k = 7 ∨ k = 8 ∨ k = 9 := by omega
  have z : zeroO = ⟨0, 0, 0, 0, [], 0, 0, 0, 0, 0⟩ := rfl
  rcases cs with rfl | rfl | rfl | rfl | rfl | rfl | rfl | rfl | rfl
  · have hf : formsL.getD 1 [] = [107, 120, 121, 118] := rfl
    rw [hf] at h ⊢
    simp only [runF, Option.bind_eq_some_iff] at h
    obtain ⟨⟨o1, r1⟩, e1, ⟨o2, r2⟩, e2, ⟨o3, r3⟩, e3, ⟨o4, r4⟩, e4, h⟩ := h
    obtain ⟨t, n1, rfl, b1, rfl, rfl⟩ := set107 e1
    obtain ⟨t, n2, ht, b2, rfl, rfl⟩ := set120 e2
    simp only [List.drop_succ_cons, List.drop_zero] at ht
    subst ht
    obtain ⟨t, n3, ht, b3, rfl, rfl⟩ := set121 e3
    simp only [List.drop_succ_cons, List.drop_zero] at ht
    subst ht
    obtain ⟨t, v, ht, rfl, rfl⟩ := set118 e4
    simp only [List.drop_succ_cons, List.drop_zero] at ht
    subst ht
    simp at h
    obtain ⟨rfl, rfl⟩ := h
    refine ⟨rfl, by simp [fld], fun hv => ⟨b1, b2, b3, hv, ?_, ?_, ?_, ?_, ?_⟩, .inr (by simp)⟩ <;> simp [zeroO]
  · have hf : formsL.getD 2 [] = [107] := rfl
    rw [hf] at h ⊢
    simp only [runF, Option.bind_eq_some_iff] at h
    obtain ⟨⟨o1, r1⟩, e1, h⟩ := h
    obtain ⟨t, n1, rfl, b1, rfl, rfl⟩ := set107 e1
    simp at h
    obtain ⟨rfl, rfl⟩ := h
    refine ⟨rfl, by simp [fld], fun hv => ⟨b1, ?_, ?_, hv, ?_, ?_, ?_, ?_, ?_⟩, .inl rfl⟩ <;> simp [zeroO]
  · have hf : formsL.getD 3 [] = [107] := rfl
    rw [hf] at h ⊢
    simp only [runF, Option.bind_eq_some_iff] at h
    obtain ⟨⟨o1, r1⟩, e1, h⟩ := h
    obtain ⟨t, n1, rfl, b1, rfl, rfl⟩ := set107 e1
    simp at h
    obtain ⟨rfl, rfl⟩ := h
    refine ⟨rfl, by simp [fld], fun hv => ⟨b1, ?_, ?_, hv, ?_, ?_, ?_, ?_, ?_⟩, .inl rfl⟩ <;> simp [zeroO]
  · have hf : formsL.getD 4 [] = [119] := rfl
    rw [hf] at h ⊢
    simp only [runF, Option.bind_eq_some_iff] at h
    obtain ⟨⟨o1, r1⟩, e1, h⟩ := h
    obtain ⟨t, a, b, c, d, rfl, ⟨b1, b2, b3, b4⟩, rfl, rfl⟩ := set119 e1
    simp at h
    obtain ⟨rfl, rfl⟩ := h
    refine ⟨rfl, by simp [fld], fun hv => ⟨?_, ?_, ?_, hv, b1, b2, b3, b4, ?_⟩, .inl rfl⟩ <;> simp [zeroO]
  · have hf : formsL.getD 5 [] = [119] := rfl
    rw [hf] at h ⊢
    simp only [runF, Option.bind_eq_some_iff] at h
    obtain ⟨⟨o1, r1⟩, e1, h⟩ := h
    obtain ⟨t, a, b, c, d, rfl, ⟨b1, b2, b3, b4⟩, rfl, rfl⟩ := set119 e1
    simp at h
    obtain ⟨rfl, rfl⟩ := h
    refine ⟨rfl, by simp [fld], fun hv => ⟨?_, ?_, ?_, hv, b1, b2, b3, b4, ?_⟩, .inl rfl⟩ <;> simp [zeroO]
  · have hf : formsL.getD 6 [] = [110] := rfl
    rw [hf] at h ⊢
    simp only [runF, Option.bind_eq_some_iff] at h
    obtain ⟨⟨o1, r1⟩, e1, h⟩ := h
    obtain ⟨t, n1, rfl, b1, rfl, rfl⟩ := set110 e1
    simp at h
    obtain ⟨rfl, rfl⟩ := h
    refine ⟨rfl, by simp [fld], fun hv => ⟨?_, ?_, ?_, hv, ?_, ?_, ?_, ?_, b1⟩, .inl rfl⟩ <;> simp [zeroO]
  · have hf : formsL.getD 7 [] = [110] := rfl
    rw [hf] at h ⊢
    simp only [runF, Option.bind_eq_some_iff] at h
    obtain ⟨⟨o1, r1⟩, e1, h⟩ := h
    obtain ⟨t, n1, rfl, b1, rfl, rfl⟩ := set110 e1
    simp at h
    obtain ⟨rfl, rfl⟩ := h
    refine ⟨rfl, by simp [fld], fun hv => ⟨?_, ?_, ?_, hv, ?_, ?_, ?_, ?_, b1⟩, .inl rfl⟩ <;> simp [zeroO]
  · have hf : formsL.getD 8 [] = [] := rfl
    rw [hf] at h ⊢
    simp [runF] at h
    obtain ⟨rfl, rfl⟩ := h
    refine ⟨rfl, by simp, fun hv => ⟨?_, ?_, ?_, hv, ?_, ?_, ?_, ?_, ?_⟩, .inl rfl⟩ <;> simp [zeroO]
  · have hf : formsL.getD 9 [] = [] := rfl
    rw [hf] at h ⊢
    simp [runF] at h
    obtain ⟨rfl, rfl⟩ := h
    refine ⟨rfl, by simp, fun hv => ⟨?_, ?_, ?_, hv, ?_, ?_, ?_, ?_, ?_⟩, .inl rfl⟩ <;> simp [zeroO]
theorem qs_ge_len : ∀ s : List UInt8, s.length ≤ (qs s).length
  | [] => by simp
  | c :: s => by
    have := qs_ge_len s
    rw [qs_cons]
    have h1 : 1 ≤ (qb c).length := by unfold qb; split <;> simp
    simp only [List.length_append, List.length_cons]; omega
/-- A line that is read is its op's line. -/
theorem getF_inv {s : List UInt8} {o : O} (h : getF s = (o, 0)) : 1 ≤ o.kind ∧ o.kind ≤ 9 ∧ o.ok ∧ lineR o = s ∧ s.length ≤ 400 := by
  unfold getF at h
  split at h
  · simp at h
  rename_i h4
  split at h
  · simp at h
  rename_i hk0
  split at h
  · rename_i o' hrun
    simp at h
    subst h
    have hk := kindU_lt ((cut 32 s).headD []) 10 (by omega)
    have hki := kindU_inv ((cut 32 s).headD []) 10 hk0
    generalize hku : kindU ((cut 32 s).headD []) 10 = k at *
    obtain ⟨r1, r2, r3, r4⟩ := run_inv (by omega) hk hrun
    have hv : o'.val.length ≤ 500 := by
      rcases r4 with r4 | r4
      · rw [r4]; simp
      · have := cut_mem_len 32 s _ (List.mem_of_mem_drop r4)
        have := qs_ge_len o'.val
        simp only [qt, List.length_cons, List.length_append] at *
        omega
    have hw : words o' = cut 32 s := by
      unfold words
      rw [r1, show ((k : Nat) : Int).toNat = k by omega, ← r2, hki]
      cases hc : cut 32 s with
      | nil => exact absurd hc (cut_ne 32 s)
      | cons w t => rfl
    refine ⟨by omega, by omega, r3 hv, ?_, by omega⟩
    rw [← words_line o' (by omega) (by omega), hw, join_cut]
  · simp at h
end Go.Ev.F32
end
