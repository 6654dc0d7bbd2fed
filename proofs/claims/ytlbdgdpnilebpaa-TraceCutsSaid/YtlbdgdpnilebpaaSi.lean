/- A part of the proof: walks of the functions that the law calls. No condition. -/
import Derived.Shelf.Sort.Plain
import Derived.Test.YtlbdgdpnilebpaaSf
set_option linter.all false
section
/- slices.Sort at ints: the kit's contract in the evaluator's words. -/
namespace Go.Ev
open Go.Proofs Go.Shelf Go.RowKit Go.Lib Go.Sort
set_option linter.all false
variable {P : Program}
abbrev iE (n : Int) : PV := .int .i64 n
theorem stride0 : stride 0 = 1 := by unfold stride; rw [if_pos rfl]
theorem holdsI_of {w : World} {Z : Nat → Prop} {d : Array Int} {b o : Nat} {c : Array Value} {e : TypeId} {lo hi : Nat} (hc : w.heap[b]? = some (.cells c e (lo, hi))) (hf : ∀ j, ¬ (lo ≤ j ∧ j < hi))
    (h : RM w Z 0 (d.toList.map iE) b o) : Holds (Value.int .i64) w b o d := by
  intro t ht
  obtain ⟨_, u, h1, h2, h3⟩ := RM_iff.1 h t (iE d[t]!) (by simp [ht])
  simp only [RP] at h1
  obtain rfl := h1
  have := h3 0 (Value.int .i64 d[t]!) (by simp [Value.cells])
  rw [stride0, Nat.mul_one, Nat.add_zero] at this
  refine ⟨this, ?_⟩
  simp only [World.frozen?, hc]
  have := hf (o + t)
  simp only [Bool.and_eq_false_imp, decide_eq_true_eq, decide_eq_false_iff_not]
  exact fun q q2 => this ⟨q, q2⟩
theorem heap_putRowI {w : World} {b o : Nat} {c : Array Value} {e : TypeId} {fr : Nat × Nat} (d : Array Int) (hc : w.heap[b]? = some (.cells c e fr)) :
    (putRow (Value.int .i64) w b o d).heap[b]? = some (.cells (putCells (Value.int .i64) o d c) e fr) := by
  simp [putRow, mapBlock, Array.getElem?_modify, hc, onCells]
theorem heap_putRowI_ne {w : World} {b o j : Nat} (d : Array Int) (hj : j ≠ b) : (putRow (Value.int .i64) w b o d).heap[j]? = w.heap[j]? := by
  simp [putRow, mapBlock, Array.getElem?_modify, Ne.symm hj]
theorem rm_putRowI {w : World} {Z : Nat → Prop} {d : Array Int} {b o : Nat} {c : Array Value} {e : TypeId} {fr : Nat × Nat}
    (hc : w.heap[b]? = some (.cells (putCells (Value.int .i64) o d c) e fr)) (hs : o + d.size ≤ c.size) : RM w Z 0 (d.toList.map iE) b o := by
  refine RM_iff.2 fun i x hx => ?_
  rw [List.getElem?_map] at hx
  cases hi : d.toList[i]? with
  | none => rw [hi] at hx; cases hx
  | some y =>
    rw [hi] at hx
    simp only [Option.map_some, Option.some.injEq] at hx
    subst hx
    have hil := (List.getElem?_eq_some_iff.1 hi).1
    rw [Array.length_toList] at hil
    have hy : d[i]! = y := by
      rw [Array.getElem?_toList] at hi
      rw [getElem!_def, hi]
    refine ⟨rfl, Value.int .i64 y, by simp [RP], by rfl, ?_⟩
    intro j v hv
    have hj : j = 0 ∧ v = Value.int .i64 y := by
      simp [Value.cells] at hv
      cases j with
      | zero => simpa using hv.symm
      | succ j => simp at hv
    obtain ⟨rfl, rfl⟩ := hj
    rw [stride0, Nat.mul_one, Nat.add_zero]
    simp only [World.cell?, hc]
    have h0 : o + i < c.size := by omega
    have : (putCells (Value.int .i64) o d c)[o + i]? = some (Value.int .i64 y) := by
      unfold putCells
      rw [Array.getElem?_mapIdx, Array.getElem?_eq_getElem h0]
      simp only [Option.map_some]
      rw [if_pos (by omega), show o + i - o = i by omega, hy]
    simpa using this
abbrev sortI (xs : List Int) : List Int := xs.mergeSort fun x y => decide (x ≤ y)
/-- **The sort's contract, in the evaluator's words.** -/
theorem sorti_ok {f : FuncId} {s : St} (hs : WF s) {b gg : Nat} {ex : Bool} {xs : List Int} (hb : s.H[b]? = some (.arr true gg 0 (xs.map iE)))
    {v0 : Value} (h0 : RA s (.ref b gg 0 xs.length ex) v0)
    (hc : ∀ (blk off cap : Nat) (w : World), Holds (Value.int .i64) w blk off xs.toArray → blk < w.heap.size →
      Calls P f #[.slice (some ⟨blk, off, none⟩) xs.length cap] w fun e w' =>
        e = .returned (.tuple #[]) ∧ ∃ n os, w' = grow (putRow (Value.int .i64) (Sort.ahead w n) blk off (sortI xs).toArray) os) :
    Calls P f #[v0] s.w (PostC s fun v H' => v = .p (.tup []) ∧ H' = s.H.set b (.arr true gg 0 ((sortI xs).map iE))) := by
  simp only [RA] at h0
  obtain ⟨a, cap, g0, sh0, rfl, hk, hle, h0⟩ := h0
  have hkb := kd_of_arr hb
  rw [hkb] at hk
  simp only [Option.some.injEq, Kd.arr.injEq] at hk
  obtain ⟨rfl, rfl⟩ := hk
  obtain ⟨⟨o, rfl, ho⟩, hcap, hsz, _⟩ := h0 rfl
  have hB := hs.blk b _ hb
  simp only [RB] at hB
  obtain ⟨c, et, lo, hi', hcell, hfr, hm, hxl, hlv⟩ := hB
  have hbl := kd_lt hkb
  have hbs := hs.bnd b hbl
  simp only [List.length_map, stride0, Nat.mul_one] at hxl
  have hsl : (sortI xs).length = xs.length := by simp
  by_cases hcap0 : cap = 0
  · have hx0 : xs = [] := List.eq_nil_of_length_eq_zero (by omega)
    subst hx0
    have hs0 : sortI [] = [] := by simp
    rw [hs0]
    rw [hs0] at hc
    have hH : Holds (Value.int .i64) s.w (s.ι b) o (#[] : Array Int) := fun t ht => by simp at ht
    refine (hc (s.ι b) o cap s.w hH hbs).mono ?_
    rintro e w' ⟨rfl, n, os, rfl⟩
    have hself : putRow (Value.int .i64) (Sort.ahead s.w n) (s.ι b) o (#[] : Array Int) = Sort.ahead s.w n := by
      have hH9 : Holds (Value.int .i64) (Sort.ahead s.w n) (s.ι b) o (#[] : Array Int) := fun t ht => by simp at ht
      exact putRow_self _ _ _ _ _ hH9
    have hap : Apart s [] (grow (putRow (Value.int .i64) (Sort.ahead s.w n) (s.ι b) o (#[] : Array Int)) os) s.Z := by
      rw [hself]
      refine ⟨fun b hb => (by cases hb), ?_, ?_, rfl, rfl, rfl, ?_, ?_, ?_⟩
      · rw [size_grow]; exact Nat.le_add_right _ _
      · intro j hj; exact heap_grow_old _ _ hj
      · rintro j (h | ⟨b, hb, _⟩)
        · exact h
        · cases hb
      · exact fun j h _ => .inl h
      · intro j h; rw [size_grow]; exact Nat.lt_of_lt_of_le (hs.zb j h) (Nat.le_add_right _ _)
    refine ⟨_, s.apart [] _ s.Z, .p (.tup []), rfl, rfl, Evo.apart hs hap, WF.apart hs hap, ?_, rfl, ?_⟩
    · simp [RA, RP, RPs]
    · show freezeIds [] s.H = _
      rw [freezeIds_nil]
      obtain ⟨h9, h8⟩ := List.getElem?_eq_some_iff.1 hb
      rw [List.map_nil] at h8
      rw [List.map_nil, ← h8]
      exact (List.set_getElem_self h9).symm
  · obtain rfl : o = s.β b := by
      rcases ho with h | h
      · simpa [stride0] using h
      · exact absurd h hcap0
    have hH : Holds (Value.int .i64) s.w (s.ι b) (s.β b) xs.toArray := holdsI_of hcell hfr (by simpa using hm)
    refine (hc (s.ι b) (s.β b) cap s.w hH hbs).mono ?_
    rintro e w' ⟨rfl, n, os, rfl⟩
    generalize hd : (sortI xs).toArray = d'
    have hdl : d'.toList = sortI xs := by rw [← hd]
    have hds : d'.size = xs.length := by rw [← hsl, ← hdl, Array.length_toList]
    have hxl2 : s.β b + d'.size ≤ c.size := by rw [hds]; exact hxl
    have hcA : (Sort.ahead s.w n).heap[s.ι b]? = some (.cells c et (lo, hi')) := hcell
    have hw1 := heap_putRowI (o := s.β b) d' hcA
    have hrw : Rewrites s b (.arr true gg 0 (d'.toList.map iE)) (putRow (Value.int .i64) (Sort.ahead s.w n) (s.ι b) (s.β b) d') := by
      refine ⟨hbl, by simp [live, hb], Go.Proofs.size_putRow _ _ _ _ _, fun j hj => heap_putRowI_ne d' hj, rfl, rfl, rfl⟩
    have hcs0 : (putCells (Value.int .i64) (s.β b) d' c).size = c.size := by simp [putCells]
    have hkf : KdFits s b (.arr true gg 0 (d'.toList.map iE)) (putRow (Value.int .i64) (Sort.ahead s.w n) (s.ι b) (s.β b) d') := by
      unfold KdFits
      rw [hkb]
      refine ⟨Nat.le_refl _, rfl, fun _ => ?_⟩
      simp only [csize, hw1, hcell, hcs0]
    have hRB : RB (s.put b (.arr true gg 0 (d'.toList.map iE)) (putRow (Value.int .i64) (Sort.ahead s.w n) (s.ι b) (s.β b) d')) b (.arr true gg 0 (d'.toList.map iE)) := by
      simp only [RB, St.put]
      refine ⟨_, et, lo, hi', hw1, hfr, rm_putRowI hw1 hxl2, ?_, fun h => by cases h⟩
      simp only [hcs0, List.length_map, Array.length_toList, stride0, Nat.mul_one]
      exact hxl2
    have ev1 := Evo.put hs hrw hkf
    have wf1 := WF.put hs hrw hkf hRB
    generalize hs1 : s.put b (.arr true gg 0 (d'.toList.map iE)) (putRow (Value.int .i64) (Sort.ahead s.w n) (s.ι b) (s.β b) d') = s1 at ev1 wf1
    have hw : s1.w = putRow (Value.int .i64) (Sort.ahead s.w n) (s.ι b) (s.β b) d' := by rw [← hs1]; rfl
    have hH1 : s1.H = s.H.set b (.arr true gg 0 (d'.toList.map iE)) := by rw [← hs1]; rfl
    have hsw : grow (putRow (Value.int .i64) (Sort.ahead s.w n) (s.ι b) (s.β b) d') os = grow s1.w os := by rw [hw]
    have hap : Apart s1 [] (grow s1.w os) s1.Z := by
      refine ⟨fun b hb => (by cases hb), ?_, ?_, rfl, rfl, rfl, ?_, ?_, ?_⟩
      · rw [size_grow]; exact Nat.le_add_right _ _
      · intro j hj; exact heap_grow_old _ _ hj
      · rintro j (h | ⟨b, hb, _⟩)
        · exact h
        · cases hb
      · exact fun j h _ => .inl h
      · intro j h; rw [size_grow]; exact Nat.lt_of_lt_of_le (wf1.zb j h) (Nat.le_add_right _ _)
    refine ⟨_, s1.apart [] (grow s1.w os) s1.Z, .p (.tup []), rfl, hsw.symm, Evo.trans ev1 (Evo.apart wf1 hap), WF.apart wf1 hap, ?_, rfl, ?_⟩
    · simp [RA, RP, RPs]
    · show freezeIds [] s1.H = _
      rw [freezeIds_nil, hH1, hdl]
end Go.Ev
end
