/- A part of the proof: walks of the functions that the law calls. No condition. -/
import Derived.Shelf.SlSortCmp.WholeK
import Derived.Test.YtlbdgdpnilebpaaRun
set_option linter.all false
section
/- slices.SortFunc at structs: the kit's contract in the evaluator's words. -/
namespace Go.Ev
open Go.Proofs Go.Shelf Go.RowKit Go.Lib Go.Sort
set_option linter.all false
variable {P : Program} {α : Type} [Inhabited α] {E : α → PV} {enc : α → List Value} {k : Nat}

/-- How an element is written, in both words. -/
structure EncK (E : α → PV) (enc : α → List Value) (k : Nat) : Prop where
  pos : 0 < k
  len : ∀ x, (enc x).length = k
  one : ∀ x, ∀ v ∈ enc x, v.oneCell' = true
  stor : ∀ x, (E x).stor = true
  to : ∀ {w Z} (x : α) {v : Value}, RP w Z (E x) v → v = .agg (enc x).toArray
  of : ∀ w Z (x : α), RP w Z (E x) (.agg (enc x).toArray)

theorem EncK.strd (h : EncK E enc k) : stride k = k := by
  have := h.pos
  unfold stride; rw [if_neg (by omega)]

theorem holdsK_of (hE : EncK E enc k) {w : World} {Z : Nat → Prop} {d : Array α} {b o : Nat} {c : Array Value} {e : TypeId} {lo hi : Nat} (hc : w.heap[b]? = some (.cells c e (lo, hi))) (hf : ∀ j, ¬ (lo ≤ j ∧ j < hi))
    (h : RM w Z k (d.toList.map E) b o) : HoldsK enc k w b o d := by
  intro t ht
  rw [size_flatK] at ht
  have hk := hE.pos
  have hd : t / k < d.size := (Nat.div_lt_iff_lt_mul hk).2 ht
  have hm : t % k < k := Nat.mod_lt _ hk
  obtain ⟨_, u, h1, h2, h3⟩ := RM_iff.1 h (t / k) (E d[t / k]!) (by simp [hd])
  obtain rfl := hE.to _ h1
  have := h3 (t % k) (enc d[t / k]!)[t % k]! (by
    simp only [Value.cells]
    have : t % k < (enc d[t / k]!).length := by rw [hE.len]; exact hm
    simp [List.getElem?_eq_getElem this])
  rw [hE.strd, Nat.add_assoc, Nat.div_add_mod' t k] at this
  refine ⟨?_, ?_⟩
  · rw [this, get_flatK _ _ _ _ ht]; rfl
  · simp only [World.frozen?, hc]
    have := hf (o + t)
    simp only [Bool.and_eq_false_imp, decide_eq_true_eq, decide_eq_false_iff_not]
    exact fun q q2 => this ⟨q, q2⟩

theorem heap_putRowK {w : World} {b o : Nat} {c : Array Value} {e : TypeId} {fr : Nat × Nat} (d : Array α) (hc : w.heap[b]? = some (.cells c e fr)) :
    (putRowK enc k w b o d).heap[b]? = some (.cells (putCells id o (flatK enc k d) c) e fr) := by
  simp [putRowK, putRow, mapBlock, Array.getElem?_modify, hc, onCells]
theorem heap_putRowK_ne {w : World} {b o j : Nat} (d : Array α) (hj : j ≠ b) : (putRowK enc k w b o d).heap[j]? = w.heap[j]? := by
  simp [putRowK, putRow, mapBlock, Array.getElem?_modify, Ne.symm hj]

theorem rm_putRowK (hE : EncK E enc k) {w : World} {Z : Nat → Prop} {d : Array α} {b o : Nat} {c : Array Value} {e : TypeId} {fr : Nat × Nat}
    (hc : w.heap[b]? = some (.cells (putCells id o (flatK enc k d) c) e fr)) (hs : o + d.size * k ≤ c.size) : RM w Z k (d.toList.map E) b o := by
  refine RM_iff.2 fun i x hx => ?_
  rw [List.getElem?_map] at hx
  cases hi : d.toList[i]? with
  | none => rw [hi] at hx; cases hx
  | some y =>
    rw [hi] at hx
    simp only [Option.map_some, Option.some.injEq] at hx
    subst hx
    have hil := (List.getElem?_eq_some_iff.1 hi).1
    rw [Array.length_toList] at hil
    have hy : d[i]! = y := by
      rw [Array.getElem?_toList] at hi
      rw [getElem!_def, hi]
    refine ⟨hE.stor y, _, hE.of _ _ y, ?_, ?_⟩
    · show (enc y).toArray.size = k
      simp [hE.len]
    · intro j v hv
      simp only [Value.cells] at hv
      have hj := (List.getElem?_eq_some_iff.1 hv).1
      rw [hE.len] at hj
      have hlt : i * k + j < d.size * k := by
        have := Nat.mul_le_mul_right k hil
        rw [Nat.succ_mul] at this
        omega
      rw [hE.strd]
      simp only [World.cell?, hc]
      have e1 : (i * k + j) / k = i := by
        rw [Nat.mul_comm, Nat.mul_add_div hE.pos, Nat.div_eq_of_lt hj, Nat.add_zero]
      have e2 : (i * k + j) % k = j := by
        rw [Nat.mul_comm, Nat.mul_add_mod, Nat.mod_eq_of_lt hj]
      have h0 : o + i * k + j < c.size := by omega
      have : (putCells id o (flatK enc k d) c)[o + i * k + j]? = some v := by
        unfold putCells
        rw [Array.getElem?_mapIdx, Array.getElem?_eq_getElem h0]
        simp only [Option.map_some, size_flatK]
        rw [if_pos (by omega), show o + i * k + j - o = i * k + j by omega, get_flatK _ _ _ _ hlt, e1, e2, hy]
        simp only [id]
        rw [List.getElem!_eq_getElem?_getD, hv]
        rfl
      simpa using this

/-- **The sort's contract, in the evaluator's words.** -/
theorem sortf_ok (hE : EncK E enc k) {f g : FuncId} {lt : α → α → Bool} {s : St} (hs : WF s) {b gg : Nat} {ex : Bool} {xs : List α} (hb : s.H[b]? = some (.arr true gg k (xs.map E)))
    {v0 v1 : Value} (h0 : RA s (.ref b gg 0 xs.length ex) v0) (h1 : RA s (.p (.fn g [])) v1)
    (hc : ∀ (blk off cap : Nat) (d : Array α) (w : World), HoldsK enc k w blk off d → blk < w.heap.size → d.size = xs.length →
      Calls P f #[.slice (some ⟨blk, off, none⟩) d.size cap, .func (.func g) #[] #[]] w fun e w' =>
        e = .returned (.tuple #[]) ∧ ∃ d' n os, PermIn 0 d.size d d' ∧ SortedIn lt 0 d.size d' ∧ w' = sortWorldK enc k w blk off n d' os) :
    Calls P f #[v0, v1] s.w (PostC s fun v H' => v = .p (.tup []) ∧ ∃ ys : List α, ys.Perm xs ∧ (∀ i j, i < j → j < ys.length → lt ys[j]! ys[i]! = false) ∧ H' = s.H.set b (.arr true gg k (ys.map E))) := by
  simp only [RA] at h0
  obtain ⟨a, cap, g0, sh0, rfl, hk, hle, h0⟩ := h0
  have hkb := kd_of_arr hb
  rw [hkb] at hk
  simp only [Option.some.injEq, Kd.arr.injEq] at hk
  obtain ⟨rfl, rfl⟩ := hk
  simp only [RA, RP] at h1
  obtain ⟨cs, rfl, rfl⟩ := h1
  obtain ⟨⟨o, rfl, ho⟩, hcap, hsz, _⟩ := h0 rfl
  have hB := hs.blk b _ hb
  simp only [RB] at hB
  obtain ⟨c, et, lo, hi', hcell, hfr, hm, hxl, hlv⟩ := hB
  have hbl := kd_lt hkb
  have hbs := hs.bnd b hbl
  simp only [List.length_map, hE.strd] at hxl
  by_cases hcap0 : cap = 0
  · -- no element
    have hx0 : xs = [] := List.eq_nil_of_length_eq_zero (by omega)
    subst hx0
    have hH : HoldsK enc k s.w (s.ι b) o (#[] : Array α) := fun t ht => by simp at ht
    refine (hc (s.ι b) o cap #[] s.w hH hbs rfl).mono ?_
    rintro e w' ⟨rfl, d', n, os, hp, hso, rfl⟩
    have hd' : d' = #[] := by have := hp.1; exact Array.eq_empty_of_size_eq_zero (by simpa using this)
    subst hd'
    have hH9 : HoldsK enc k (Sort.ahead s.w n) (s.ι b) o (#[] : Array α) := fun t ht => by simp at ht
    have hself : putRowK enc k (Sort.ahead s.w n) (s.ι b) o (#[] : Array α) = Sort.ahead s.w n := putRowK_self _ _ _ _ _ _ hH9
    have hap : Apart s [] (sortWorldK enc k s.w (s.ι b) o n #[] os) s.Z := by
      unfold sortWorldK
      rw [hself]
      refine ⟨fun b hb => (by cases hb), ?_, ?_, rfl, rfl, rfl, ?_, ?_, ?_⟩
      · rw [size_grow]; exact Nat.le_add_right _ _
      · intro j hj; exact heap_grow_old _ _ hj
      · rintro j (h | ⟨b, hb, _⟩)
        · exact h
        · cases hb
      · exact fun j h _ => .inl h
      · intro j h; rw [size_grow]; exact Nat.lt_of_lt_of_le (hs.zb j h) (Nat.le_add_right _ _)
    refine ⟨_, s.apart [] _ s.Z, .p (.tup []), rfl, rfl, Evo.apart hs hap, WF.apart hs hap, ?_, rfl, [], List.Perm.refl _, ?_, ?_⟩
    · simp [RA, RP, RPs]
    · intro i j _ hj; simp at hj
    · show freezeIds [] s.H = _
      rw [freezeIds_nil]
      obtain ⟨h9, h8⟩ := List.getElem?_eq_some_iff.1 hb
      rw [List.map_nil] at h8
      rw [List.map_nil, ← h8]
      exact (List.set_getElem_self h9).symm
  · obtain rfl : o = s.β b := by
      rcases ho with h | h
      · simpa using h
      · exact absurd h hcap0
    have hH : HoldsK enc k s.w (s.ι b) (s.β b) xs.toArray := holdsK_of hE hcell hfr (by simpa using hm)
    have hc' := hc (s.ι b) (s.β b) cap xs.toArray s.w hH hbs (by simp)
    simp only [List.size_toArray] at hc'
    refine hc'.mono ?_
    rintro e w' ⟨rfl, d', n, os, hp, hso, rfl⟩
    have hds : d'.size = xs.length := by simpa using hp.1
    have hxl2 : s.β b + d'.size * k ≤ c.size := by rw [hds]; exact hxl
    have hcA : (Sort.ahead s.w n).heap[s.ι b]? = some (.cells c et (lo, hi')) := hcell
    have hw1 := heap_putRowK (enc := enc) (k := k) (o := s.β b) d' hcA
    have hrw : Rewrites s b (.arr true gg k (d'.toList.map E)) (putRowK enc k (Sort.ahead s.w n) (s.ι b) (s.β b) d') := by
      refine ⟨hbl, by simp [live, hb], size_putRowK _ _ _ _ _ _, fun j hj => heap_putRowK_ne d' hj, rfl, rfl, rfl⟩
    have hcs0 : (putCells id (s.β b) (flatK enc k d') c).size = c.size := by simp [putCells]
    have hkf : KdFits s b (.arr true gg k (d'.toList.map E)) (putRowK enc k (Sort.ahead s.w n) (s.ι b) (s.β b) d') := by
      unfold KdFits
      rw [hkb]
      refine ⟨Nat.le_refl _, rfl, fun _ => ?_⟩
      simp only [csize, hw1, hcell, hcs0]
    have hRB : RB (s.put b (.arr true gg k (d'.toList.map E)) (putRowK enc k (Sort.ahead s.w n) (s.ι b) (s.β b) d')) b (.arr true gg k (d'.toList.map E)) := by
      simp only [RB, St.put]
      refine ⟨_, et, lo, hi', hw1, hfr, rm_putRowK hE hw1 hxl2, ?_, fun h => by cases h⟩
      simp only [hcs0, List.length_map, Array.length_toList, hE.strd]
      exact hxl2
    have ev1 := Evo.put hs hrw hkf
    have wf1 := WF.put hs hrw hkf hRB
    generalize hs1 : s.put b (.arr true gg k (d'.toList.map E)) (putRowK enc k (Sort.ahead s.w n) (s.ι b) (s.β b) d') = s1 at ev1 wf1
    have hw : s1.w = putRowK enc k (Sort.ahead s.w n) (s.ι b) (s.β b) d' := by rw [← hs1]; rfl
    have hH1 : s1.H = s.H.set b (.arr true gg k (d'.toList.map E)) := by rw [← hs1]; rfl
    have hsw : sortWorldK enc k s.w (s.ι b) (s.β b) n d' os = grow s1.w os := by rw [hw]; rfl
    have hap : Apart s1 [] (grow s1.w os) s1.Z := by
      refine ⟨fun b hb => (by cases hb), ?_, ?_, rfl, rfl, rfl, ?_, ?_, ?_⟩
      · rw [size_grow]; exact Nat.le_add_right _ _
      · intro j hj; exact heap_grow_old _ _ hj
      · rintro j (h | ⟨b, hb, _⟩)
        · exact h
        · cases hb
      · exact fun j h _ => .inl h
      · intro j h; rw [size_grow]; exact Nat.lt_of_lt_of_le (wf1.zb j h) (Nat.le_add_right _ _)
    refine ⟨_, s1.apart [] (grow s1.w os) s1.Z, .p (.tup []), rfl, hsw.symm, Evo.trans ev1 (Evo.apart wf1 hap), WF.apart wf1 hap, ?_, rfl, d'.toList, ?_, ?_, ?_⟩
    · simp [RA, RP, RPs]
    · have := hp.2.2
      have e1 : d'.extract 0 xs.length = d' := by rw [← hds]; simp
      rw [e1] at this
      simpa using this
    · intro i j hij hj
      rw [Array.length_toList] at hj
      have := hso i j (Nat.zero_le _) hij (by simpa [hds] using hj)
      have e2 : ∀ i : Nat, d'.toList[i]! = d'[i]! := fun i => by rw [getElem!_def, getElem!_def, Array.getElem?_toList]
      rw [e2, e2]; exact this
    · show freezeIds [] s1.H = _
      rw [freezeIds_nil, hH1]
end Go.Ev
end
