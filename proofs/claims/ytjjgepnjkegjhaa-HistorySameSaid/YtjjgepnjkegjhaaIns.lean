/- A part of the proof: walks of the functions that the law calls. No condition. -/
import Derived.Test.YtjjgepnjkegjhaaProg
import Derived.Lib.SliceRun
import Derived.Lib.SlicesDelete
import Derived.Shelf.RegionOpenPlain
import Derived.Deep.RegionLaw
import Derived.Deep.LoopGhost
import Derived.Shelf.SlicesE.Kit
import Derived.Lib.ReflectliteSwap
import Derived.WalkKit
import Derived.Lib.Walk
import Derived.KernelRfl
import Derived.Shelf.SlSortCmp.NoneTotal
import Derived.Shelf.SlGeneric
import Derived.Test.YtjjgepnjkegjhaaChecked
import Derived.Test.YtjjgepnjkegjhaaEvB
import Derived.Test.YtjjgepnjkegjhaaSf
set_option linter.all false
section
namespace Go.Ev.F23
open Go.Proofs Go.RowKit Go.Lib Go
set_option linter.all false
theorem du : Try.prog.underlying 26 = some (.slice 3) := by kernel_rfl
theorem dz : (Try.prog.info? 3).map (·.size) = some 1 := by kernel_rfl
theorem dzv (w : World) : (zeroValue 3).run Try.prog w = .ok (.int .i64 0) w := Try.zeroValue3 w
set_option maxHeartbeats 4000000 in
set_option maxRecDepth 100000 in
theorem del_calls (b off n c i : Nat) (cs : List Value) (w : World) (hi : i < n) (hnc : n ≤ c) (hbig : n ≤ 1000000) (hlen : cs.length = n)
    (hcs : ∀ j v, cs[j]? = some v → w.cell? ⟨b, off + j, none⟩ = some v) (hfz : ∀ j, w.frozen? ⟨b, j, none⟩ = false) (h1c : ∀ v ∈ cs, v.oneCell' = true) :
    Calls Try.prog 31 #[.slice (some ⟨b, off, none⟩) n c, .int .i64 i, .int .i64 ((i : Int) + 1)] w fun e w' =>
      e = .returned (.slice (some ⟨b, off, none⟩) (n - 1) c) ∧ w' = (w.drew.setCells b (off + i * 1) (cs.drop (i + 1))).setCells b (off + (i + (n - (i + 1)))) (List.replicate (n - (i + (n - (i + 1)))) (.int .i64 0)) := by
  obtain ⟨i0, hi0, hz1⟩ := Option.map_eq_some_iff.1 dz
  have hsome : ∀ j, j < n → (w.cell? ⟨b, off + j, none⟩).isSome = true := fun j hj => by
    rw [hcs j _ (List.getElem?_eq_getElem (by omega))]; rfl
  obtain ⟨news, hnews⟩ : ∃ news, news = cs.drop (i + 1) := ⟨_, rfl⟩
  have hnl : news.length = n - (i + 1) := by rw [hnews, List.length_drop, hlen]
  obtain ⟨A, hA, hsrc⟩ : ∃ A : Addr, (if c = i + 1 then some (⟨b, off, none⟩ : Addr) else some ⟨b, off + (i + 1), none⟩) = some A ∧ ∀ t u, news[t]? = some u → w.drew.cell? (A.add t) = some u := by
    by_cases h : c = i + 1
    · refine ⟨⟨b, off, none⟩, by simp [h], fun t u hu => ?_⟩
      have h0 : news.length = 0 := by omega
      rw [List.length_eq_zero_iff.1 h0] at hu
      simp at hu
    · refine ⟨⟨b, off + (i + 1), none⟩, by simp [h], fun t u hu => ?_⟩
      rw [hnews, List.getElem?_drop] at hu
      rw [Addr.add_lit, show off + (i + 1) + t = off + (i + 1 + t) by omega]
      exact hcs _ u hu
  have s1 : news.length = (n - (i + 1)) * 1 := by rw [Nat.mul_one]; exact hnl
  have s2 : ∀ u ∈ news, u.oneCell' = true := fun u hu => h1c u (by rw [hnews] at hu; exact List.mem_of_mem_drop hu)
  have s3 : ∀ t, t < news.length → (w.drew.cell? ⟨b, off + i * 1 + t, none⟩).isSome = true ∧ w.drew.frozen? ⟨b, off + i * 1 + t, none⟩ = false := by
    intro t ht
    rw [Nat.mul_one, Nat.add_assoc]
    exact ⟨hsome _ (by omega), hfz _⟩
  obtain ⟨W1, hW1⟩ : ∃ W1, W1 = w.drew.setCells b (off + i * 1) news := ⟨_, rfl⟩
  have hsp1 : ∀ k, k < n → (W1.cell? ⟨b, off + k, none⟩).isSome = true := fun k hk => by
    rw [hW1]
    exact Go.Lib.isSome_setCells b _ _ _ _ (hsome k hk)
  have hcl : ∀ ty, (Builtin.clear_ #[26] ty #[.slice (some ⟨b, off + (i + (n - (i + 1))), none⟩) (n - (i + (n - (i + 1)))) (c - (i + (n - (i + 1))))]).run Try.prog W1 = .ok (.tuple #[]) (W1.setCells b (off + (i + (n - (i + 1)))) (List.replicate (n - (i + (n - (i + 1)))) (.int .i64 0))) :=
    fun ty => Lib.run_clear_slice W1 26 3 ty _ du dzv rfl rfl b (off + (i + (n - (i + 1)))) _ _ (by omega) (fun t ht => by rw [Nat.add_assoc]; exact hsp1 _ (by omega)) (fun t ht => by rw [hW1, World.frozen?_setCells]; exact hfz _)
  rw [← hnews]
  have hic : i ≤ c := by omega
  have hjc : i + 1 ≤ c := by omega
  have hin : i ≤ n := by omega
  have hjn : i + 1 ≤ n := by omega
  have htn : ((i : Int) + 1).toNat = i + 1 := by omega
  have hb1 : (0 : Int) ≤ (i : Int) + 1 := by omega
  have hb2 : (i : Int) ≤ (i : Int) + 1 := by omega
  have hb3 : (i : Int) + 1 ≤ (n : Int) := by omega
  have hb4 : (i : Int) + 1 ≤ (c : Int) := by omega
  have hne : ¬ ((i : Int) = (i : Int) + 1) := by omega
  have mixed : Try.prog.follows .mixedOrders = true := by kernel_rfl
  have u26 := fun w => run_underlying (P := Try.prog) (w := w) du
  rw [← hW1]
  have hW : Hid (W1 = w.drew.setCells b (off + i * 1) news) := hW1
  clear hnews hcs hsome hsp1 hfz hW1
  go_enter Try.func31, Try.ntmps31
  go_wp2_with fail
  go_region_law_o (refine step_append_room rfl (.tmp 22) (.tmp 25) 26 rfl 3 i0 1 du hi0 hz1 b off i c (by simp [Act.eval, Act.put]) A (n - (i + 1)) (c - (i + 1)) news (by simp [Act.eval, Act.put, hA]) s1 hsrc s2 (by omega) s3 ?_; rw [← hW.out])
  go_wp2
  go_ret
  exact ⟨by rw [show n - 1 = i + (n - (i + 1)) by omega]; rfl, rfl⟩
theorem Row_take {w : World} {Z : Nat → Prop} {xs : List PV} {c : List Value} (h : Row w Z 0 xs c) (i : Nat) : Row w Z 0 (xs.take i) (c.take i) := by
  intro k x hx
  rw [List.getElem?_take] at hx
  split at hx
  · obtain ⟨h0, u, h1, h2, h3⟩ := h k x hx
    have hus := cells_stride h1 h2
    refine ⟨h0, u, h1, h2, fun j v hv => ?_⟩
    have hj := (List.getElem?_eq_some_iff.1 hv).1
    simp [hus, stride] at hj
    subst hj
    have := h3 0 v hv
    simp only [stride, if_true, Nat.mul_one, Nat.add_zero] at this ⊢
    rw [List.getElem?_take, if_pos (by assumption)]
    exact this
  · cases hx
theorem Row_drop {w : World} {Z : Nat → Prop} {xs : List PV} {c : List Value} (h : Row w Z 0 xs c) (i : Nat) : Row w Z 0 (xs.drop i) (c.drop i) := by
  intro k x hx
  rw [List.getElem?_drop] at hx
  obtain ⟨h0, u, h1, h2, h3⟩ := h _ x hx
  refine ⟨h0, u, h1, h2, fun j v hv => ?_⟩
  have := h3 j v hv
  simp only [stride, if_true, Nat.mul_one] at this ⊢
  rw [List.getElem?_drop, ← Nat.add_assoc]
  exact this
theorem del_ok {s : St} (hs : WF s) {b g i : Nat} {ex : Bool} {xs : List PV} (hb : s.H[b]? = some (.arr true g 0 xs)) (hi : i < xs.length) (hbig : xs.length < 1000000) {v0 : Value}
    (h0 : RA s (.ref b g 0 xs.length ex) v0) :
    Calls Try.prog 31 #[v0, .int .i64 i, .int .i64 ((i : Int) + 1)] s.w (PostC s fun v H' => v = .ref b (g + 1) 0 (xs.length - 1) false ∧ H' = s.H.set b (.arr true (g + 1) 0 (xs.take i ++ xs.drop (i + 1)))) := by
  simp only [RA] at h0
  obtain ⟨a, cap, g0, sh0, rfl, hk, hle, h0⟩ := h0
  have hkb := kd_of_arr hb
  rw [hkb] at hk
  simp only [Option.some.injEq, Kd.arr.injEq] at hk
  obtain ⟨rfl, rfl⟩ := hk
  obtain ⟨⟨o, rfl, ho⟩, hcap, hsz, _⟩ := h0 rfl
  obtain rfl : o = s.β b := by
    rcases ho with h | h
    · simpa using h
    · omega
  have hB := hs.blk b _ hb
  simp only [RB] at hB
  obtain ⟨c, et, lo, hi', hcell, hfr, hm, hxl, hlv⟩ := hB
  obtain ⟨olds, k1, k2, k3, k4, _⟩ := RM_src (P := Try.prog) hm xs.length cap 0 rfl
  simp only [stride, if_true, Nat.mul_one] at k2 hsz hxl
  have hcs0 : csize s.w (s.ι b) = c.size := by simp [csize, hcell]
  rw [hcs0] at hsz
  have hcs : ∀ j v, olds[j]? = some v → s.w.cell? ⟨s.ι b, s.β b + j, none⟩ = some v := fun j v hj => k1 j v hj
  have hrow : Row s.w s.Z 0 (xs.take i ++ xs.drop (i + 1)) (olds.take i ++ olds.drop (i + 1)) := Row_append (Row_take k3 i) (Row_drop k3 (i + 1)) (by simp [stride, k2])
  have hfz : ∀ j, s.w.frozen? ⟨s.ι b, j, none⟩ = false := fun j => by
    simp only [World.frozen?, hcell]
    have := hfr j
    simp only [Bool.and_eq_false_imp, decide_eq_true_eq, decide_eq_false_iff_not]
    exact fun q q2 => this ⟨q, q2⟩
  refine (del_calls (s.ι b) (s.β b) xs.length cap i olds s.w hi hcap (by omega) k2 hcs hfz k4).mono ?_
  rintro e w' ⟨rfl, rfl⟩
  rw [Nat.mul_one, show i + (xs.length - (i + 1)) = xs.length - 1 by omega, show xs.length - (xs.length - 1) = 1 by omega]
  have hrest1 := setCells_rest (s.ι b) (olds.drop (i + 1)) (s.β b + i) s.w.drew
  have hrest := setCells_rest (s.ι b) (List.replicate 1 (.int .i64 0)) (s.β b + (xs.length - 1)) (s.w.drew.setCells (s.ι b) (s.β b + i) (olds.drop (i + 1)))
  have hat1 := heap_setCells_at (s.ι b) et (lo, hi') (olds.drop (i + 1)) (s.β b + i) s.w.drew _ hcell
  have hat := heap_setCells_at (s.ι b) et (lo, hi') (List.replicate 1 (.int .i64 0)) (s.β b + (xs.length - 1)) (s.w.drew.setCells (s.ι b) (s.β b + i) (olds.drop (i + 1))) _ hat1
  have hsh : Shifts s b ((s.w.drew.setCells (s.ι b) (s.β b + i) (olds.drop (i + 1))).setCells (s.ι b) (s.β b + (xs.length - 1)) (List.replicate 1 (.int .i64 0))) (s.ι b) :=
    ⟨by simp [live, hb], ⟨g, 0, hkb⟩, by rw [hrest.1, hrest1.1]; exact Nat.le_refl _, fun j _ hj => (heap_setCells_ne (s.ι b) j hj _ _ _).trans (heap_setCells_ne (s.ι b) j hj _ _ s.w.drew), .inl rfl, by rw [hrest.1, hrest1.1]; exact hs.bnd b (kd_lt hkb), hrest.2.1.trans hrest1.2.1, hrest.2.2.1.trans hrest1.2.2.1, hrest.2.2.2.trans hrest1.2.2.2⟩
  have ev := Evo.shift (xs := xs.take i ++ xs.drop (i + 1)) (o := s.β b) hs hsh hkb
  refine ⟨_, s.shift b (.arr true (g + 1) 0 (xs.take i ++ xs.drop (i + 1))) _ (s.ι b) (s.β b), .ref b (g + 1) 0 (xs.length - 1) false, rfl, rfl, ev, WF.shift hs hsh hkb ?_, ?_, rfl, rfl⟩
  · simp only [RB, St.shift, if_true]
    refine ⟨_, et, lo, hi', hat, hfr, ?_, ?_, fun h => by cases h⟩
    · refine RM_of_row (L := olds.take i ++ olds.drop (i + 1)) hat ?_ (Row_mono ev.Zm (hs.zkeep ev) hrow)
      intro j v hv
      have hjl := (List.getElem?_eq_some_iff.1 hv).1
      simp only [List.length_append, List.length_take, List.length_drop, k2] at hjl
      rw [List.getElem?_toArray, setR_get]
      simp only [setR_length, List.length_replicate, Array.length_toList]
      rw [if_neg (by omega), setR_get]
      simp only [Array.length_toList, List.length_drop, k2]
      rcases Nat.lt_or_ge j i with hlt | hge
      · rw [if_neg (by omega)]
        rw [List.getElem?_append_left (by simp [k2]; omega), List.getElem?_take, if_pos hlt] at hv
        have := cellsAt_cells hcell k1 j v hv
        rw [Array.getElem?_toList]; exact this
      · rw [if_pos (by omega)]
        rw [List.getElem?_append_right (by simp; omega)] at hv
        rw [show s.β b + j - (s.β b + i) = j - i by omega]
        have e9 : j - (olds.take i).length = j - i := by simp [k2]; omega
        rw [e9] at hv
        exact hv
    · simp only [setR_length, List.size_toArray, Array.length_toList, List.length_append, List.length_take, List.length_drop, stride, if_true, Nat.mul_one]
      omega
  · simp only [RA]
    refine ⟨_, cap, g + 1, 0, rfl, kd_set_eq _ (kd_lt hkb), Nat.le_refl _, fun _ => ⟨⟨s.β b, by simp [St.shift], by simp [St.shift]⟩, by omega, ?_, fun h => by cases h⟩⟩
    have hcs1 : csize ((s.w.drew.setCells (s.ι b) (s.β b + i) (olds.drop (i + 1))).setCells (s.ι b) (s.β b + (xs.length - 1)) (List.replicate 1 (.int .i64 0))) (s.ι b) = c.size := by simp only [csize, hat]; simp [setR_length]
    show (if b = b then _ else _) + (0 + cap) * stride 0 ≤ csize _ (if b = b then _ else _)
    rw [if_pos rfl, if_pos rfl]
    refine Nat.le_trans (m := c.size) ?_ (Nat.le_of_eq hcs1.symm)
    simp only [stride, if_true, Nat.mul_one, Nat.zero_add]
    omega
/-- slices.Delete of one number. -/
def sDSpec (args : List AV) (H : Heap) (Q : AV → Heap → Prop) : Prop :=
  ∃ (b g i : Nat) (l : List Int), H[b]? = some (.arr true g 0 (l.map (PV.int .i64))) ∧ i < l.length ∧ l.length < 1000000 ∧ args = [.ref b g 0 l.length false, .p (.int .i64 i), .p (.int .i64 (i + 1))] ∧
    Q (.ref b (g + 1) 0 (l.length - 1) false) (H.set b (.arr true (g + 1) 0 ((l.eraseIdx i).map (PV.int .i64))))
theorem sDSpec_mono {args : List AV} {H : Heap} {Q Q' : AV → Heap → Prop} (hq : ∀ v H', Q v H' → Q' v H') (h : sDSpec args H Q) : sDSpec args H Q' := by
  obtain ⟨b, g, i, l, h1, h2, h3, h4, h5⟩ := h
  exact ⟨b, g, i, l, h1, h2, h3, h4, hq _ _ h5⟩
theorem sD_ext {args : List AV} {H : Heap} {Q : AV → Heap → Prop} (h : sDSpec args H Q) : CallOK Try.prog 31 args H Q := by
  obtain ⟨b, g, i, l, hb, hi, hbig, rfl, hq⟩ := h
  refine ⟨fun vs w => ?_, fun s vs hH hs hr => callsIn_wide.2 ?_⟩
  · have hb : ∃ c, Try.f31.body = some c := Option.isSome_iff_exists.1 (by kernel_rfl)
    obtain ⟨c, hb⟩ := hb
    have hname : Try.f31.name ≠ "runtime.NumGoroutine" := by decide +kernel
    simp [callFunc, Try.func31, hb, hname]
  · subst hH
    simp only [RAs] at hr
    obtain ⟨v0, r0, rfl, h0, v1, r1, rfl, h1, v2, r2, rfl, h2, rfl⟩ := hr
    simp only [RA, RP] at h1 h2
    subst h1; subst h2
    have hl : (l.map (PV.int .i64)).length = l.length := by simp
    rw [← hl] at h0
    refine (del_ok hs hb (by rw [hl]; exact hi) (by rw [hl]; exact hbig) h0).mono ?_
    rintro e w' ⟨v, s', av, k1, k2, k3, k4, k5, rfl, k6⟩
    refine ⟨v, s', _, k1, k2, k3, k4, k5, ?_⟩
    rw [k6, hl]
    rw [← List.map_take, ← List.map_drop, ← List.map_append, ← List.eraseIdx_eq_take_drop_succ]
    exact hq
end Go.Ev.F23
end
section
namespace Go.Proofs
open Go.Shelf Go.RowKit Go.Lib Go.Sort
def Try.sortArc_ren : Go.Shelf.Ren := ⟨fun | 6 => 34 | 15 => 44 | 14 => 47 | 28 => 59 | 29 => 60 | 20 => 61 | 21 => 62 | 22 => 63 | 23 => 64 | 24 => 65 | 25 => 66 | 26 => 67 | 27 => 68 | 46 => 83 | 47 => 78 | 48 => 79 | 49 => 84 | 50 => 85 | 57 => 90 | n => n, fun | 22 => 34 | 24 => 37 | 25 => 63 | 3 => 3 | 39 => 73 | 0 => 0 | 53 => 89 | 55 => 43 | 4 => 4 | 46 => 81 | 45 => 80 | 50 => 86 | 5 => 5 | 9 => 9 | 66 => 101 | 70 => 105 | 76 => 111 | 77 => 112 | n => n, fun | n => n⟩
theorem Try.sortArc : Go.Proofs.SlLaysF0.n6 Try.prog Try.sortArc_ren where
  mixed := by kernel_rfl
  f6 := ⟨ "slices.SortFunc[[]counterpane/history.Arc,counterpane/history.Arc]", by decide, Try.func34.trans (congrArg some (by kernel_rfl))⟩
  f14 := ⟨ "slices.pdqsortCmpFunc[counterpane/history.Arc]", by decide, Try.func47.trans (congrArg some (by kernel_rfl))⟩
  f15 := Try.func44.trans (congrArg some (by kernel_rfl))
  f20 := ⟨ "slices.insertionSortCmpFunc[counterpane/history.Arc]", by decide, Try.func61.trans (congrArg some (by kernel_rfl))⟩
  f21 := ⟨ "slices.heapSortCmpFunc[counterpane/history.Arc]", by decide, Try.func62.trans (congrArg some (by kernel_rfl))⟩
  f22 := ⟨ "slices.breakPatternsCmpFunc[counterpane/history.Arc]", by decide, Try.func63.trans (congrArg some (by kernel_rfl))⟩
  f23 := ⟨ "slices.choosePivotCmpFunc[counterpane/history.Arc]", by decide, Try.func64.trans (congrArg some (by kernel_rfl))⟩
  f24 := ⟨ "slices.reverseRangeCmpFunc[counterpane/history.Arc]", by decide, Try.func65.trans (congrArg some (by kernel_rfl))⟩
  f25 := ⟨ "slices.partialInsertionSortCmpFunc[counterpane/history.Arc]", by decide, Try.func66.trans (congrArg some (by kernel_rfl))⟩
  f26 := ⟨ "slices.partitionEqualCmpFunc[counterpane/history.Arc]", by decide, Try.func67.trans (congrArg some (by kernel_rfl))⟩
  f27 := ⟨ "slices.partitionCmpFunc[counterpane/history.Arc]", by decide, Try.func68.trans (congrArg some (by kernel_rfl))⟩
  f28 := Try.func59.trans (congrArg some (by kernel_rfl))
  f29 := Try.func60.trans (congrArg some (by kernel_rfl))
  f46 := ⟨ "slices.siftDownCmpFunc[counterpane/history.Arc]", by decide, Try.func83.trans (congrArg some (by kernel_rfl))⟩
  f47 := Try.func78.trans (congrArg some (by kernel_rfl))
  f48 := Try.func79.trans (congrArg some (by kernel_rfl))
  f49 := ⟨ "slices.medianAdjacentCmpFunc[counterpane/history.Arc]", by decide, Try.func84.trans (congrArg some (by kernel_rfl))⟩
  f50 := ⟨ "slices.medianCmpFunc[counterpane/history.Arc]", by decide, Try.func85.trans (congrArg some (by kernel_rfl))⟩
  f57 := ⟨ "slices.order2CmpFunc[counterpane/history.Arc]", by decide, Try.func90.trans (congrArg some (by kernel_rfl))⟩
  t0 := Try.underlying0
  a0 := Try.isAgg0
  z0 := Try.sizeOf0
  v0 := Try.zeroValue0
  t3 := Try.underlying3
  a3 := Try.isAgg3
  z3 := Try.sizeOf3
  v3 := Try.zeroValue3
  t4 := Try.underlying4
  a4 := Try.isAgg4
  z4 := Try.sizeOf4
  v4 := Try.zeroValue4
  t5 := Try.underlying5
  a5 := Try.isAgg5
  z5 := Try.sizeOf5
  v5 := Try.zeroValue5
  t9 := Try.underlying9
  a9 := Try.isAgg9
  z9 := Try.sizeOf9
  v9 := Try.zeroValue9
  t22 := Try.underlying34
  a22 := Try.isAgg34
  z22 := Try.sizeOf34
  v22 := Try.zeroValue34
  t25 := Try.underlying63
  a25 := Try.isAgg63
  z25 := Try.sizeOf63
  v25 := Try.zeroValue63
  t39 := Try.underlying73
  a39 := Try.isAgg73
  z39 := Try.sizeOf73
  v39 := Try.zeroValue73
  t45 := Try.underlying80
  a45 := Try.isAgg80
  z45 := Try.sizeOf80
  v45 := Try.zeroValue80
  t46 := Try.underlying81
  a46 := Try.isAgg81
  z46 := Try.sizeOf81
  v46 := Try.zeroValue81
  t50 := Try.underlying86
  a50 := Try.isAgg86
  z50 := Try.sizeOf86
  v50 := Try.zeroValue86
  t53 := Try.underlying89
  a53 := Try.isAgg89
  z53 := Try.sizeOf89
  v53 := Try.zeroValue89
  t55 := Try.underlying43
  a55 := Try.isAgg43
  z55 := Try.sizeOf43
  v55 := Try.zeroValue43
  t66 := Try.underlying101
  a66 := Try.isAgg101
  z66 := Try.sizeOf101
  v66 := Try.zeroValue101
  t70 := Try.underlying105
  a70 := Try.isAgg105
  z70 := Try.sizeOf105
  v70 := Try.zeroValue105
  t76 := Try.underlying111
  a76 := Try.isAgg111
  z76 := Try.sizeOf111
  v76 := Try.zeroValue111
  t77 := Try.underlying112
  a77 := Try.isAgg112
  z77 := Try.sizeOf112
  v77 := Try.zeroValue112
def Try.sortAcc_ren : Go.Shelf.Ren := ⟨fun | 6 => 40 | 15 => 44 | 14 => 49 | 28 => 59 | 29 => 60 | 20 => 69 | 21 => 70 | 22 => 71 | 23 => 72 | 24 => 73 | 25 => 74 | 26 => 75 | 27 => 76 | 46 => 86 | 47 => 78 | 48 => 79 | 49 => 87 | 50 => 88 | 57 => 91 | n => n, fun | 22 => 24 | 24 => 45 | 25 => 70 | 3 => 3 | 39 => 73 | 0 => 0 | 53 => 89 | 55 => 43 | 4 => 4 | 46 => 81 | 45 => 80 | 50 => 86 | 5 => 5 | 9 => 9 | 66 => 101 | 70 => 105 | 76 => 111 | 77 => 112 | n => n, fun | n => n⟩
theorem Try.sortAcc : Go.Proofs.SlLaysF0.n6 Try.prog Try.sortAcc_ren where
  mixed := by kernel_rfl
  f6 := ⟨ "slices.SortFunc[[]counterpane/history.Access,counterpane/history.Access]", by decide, Try.func40.trans (congrArg some (by kernel_rfl))⟩
  f14 := ⟨ "slices.pdqsortCmpFunc[counterpane/history.Access]", by decide, Try.func49.trans (congrArg some (by kernel_rfl))⟩
  f15 := Try.func44.trans (congrArg some (by kernel_rfl))
  f20 := ⟨ "slices.insertionSortCmpFunc[counterpane/history.Access]", by decide, Try.func69.trans (congrArg some (by kernel_rfl))⟩
  f21 := ⟨ "slices.heapSortCmpFunc[counterpane/history.Access]", by decide, Try.func70.trans (congrArg some (by kernel_rfl))⟩
  f22 := ⟨ "slices.breakPatternsCmpFunc[counterpane/history.Access]", by decide, Try.func71.trans (congrArg some (by kernel_rfl))⟩
  f23 := ⟨ "slices.choosePivotCmpFunc[counterpane/history.Access]", by decide, Try.func72.trans (congrArg some (by kernel_rfl))⟩
  f24 := ⟨ "slices.reverseRangeCmpFunc[counterpane/history.Access]", by decide, Try.func73.trans (congrArg some (by kernel_rfl))⟩
  f25 := ⟨ "slices.partialInsertionSortCmpFunc[counterpane/history.Access]", by decide, Try.func74.trans (congrArg some (by kernel_rfl))⟩
  f26 := ⟨ "slices.partitionEqualCmpFunc[counterpane/history.Access]", by decide, Try.func75.trans (congrArg some (by kernel_rfl))⟩
  f27 := ⟨ "slices.partitionCmpFunc[counterpane/history.Access]", by decide, Try.func76.trans (congrArg some (by kernel_rfl))⟩
  f28 := Try.func59.trans (congrArg some (by kernel_rfl))
  f29 := Try.func60.trans (congrArg some (by kernel_rfl))
  f46 := ⟨ "slices.siftDownCmpFunc[counterpane/history.Access]", by decide, Try.func86.trans (congrArg some (by kernel_rfl))⟩
  f47 := Try.func78.trans (congrArg some (by kernel_rfl))
  f48 := Try.func79.trans (congrArg some (by kernel_rfl))
  f49 := ⟨ "slices.medianAdjacentCmpFunc[counterpane/history.Access]", by decide, Try.func87.trans (congrArg some (by kernel_rfl))⟩
  f50 := ⟨ "slices.medianCmpFunc[counterpane/history.Access]", by decide, Try.func88.trans (congrArg some (by kernel_rfl))⟩
  f57 := ⟨ "slices.order2CmpFunc[counterpane/history.Access]", by decide, Try.func91.trans (congrArg some (by kernel_rfl))⟩
  t0 := Try.underlying0
  a0 := Try.isAgg0
  z0 := Try.sizeOf0
  v0 := Try.zeroValue0
  t3 := Try.underlying3
  a3 := Try.isAgg3
  z3 := Try.sizeOf3
  v3 := Try.zeroValue3
  t4 := Try.underlying4
  a4 := Try.isAgg4
  z4 := Try.sizeOf4
  v4 := Try.zeroValue4
  t5 := Try.underlying5
  a5 := Try.isAgg5
  z5 := Try.sizeOf5
  v5 := Try.zeroValue5
  t9 := Try.underlying9
  a9 := Try.isAgg9
  z9 := Try.sizeOf9
  v9 := Try.zeroValue9
  t22 := Try.underlying24
  a22 := Try.isAgg24
  z22 := Try.sizeOf24
  v22 := Try.zeroValue24
  t25 := Try.underlying70
  a25 := Try.isAgg70
  z25 := Try.sizeOf70
  v25 := Try.zeroValue70
  t39 := Try.underlying73
  a39 := Try.isAgg73
  z39 := Try.sizeOf73
  v39 := Try.zeroValue73
  t45 := Try.underlying80
  a45 := Try.isAgg80
  z45 := Try.sizeOf80
  v45 := Try.zeroValue80
  t46 := Try.underlying81
  a46 := Try.isAgg81
  z46 := Try.sizeOf81
  v46 := Try.zeroValue81
  t50 := Try.underlying86
  a50 := Try.isAgg86
  z50 := Try.sizeOf86
  v50 := Try.zeroValue86
  t53 := Try.underlying89
  a53 := Try.isAgg89
  z53 := Try.sizeOf89
  v53 := Try.zeroValue89
  t55 := Try.underlying43
  a55 := Try.isAgg43
  z55 := Try.sizeOf43
  v55 := Try.zeroValue43
  t66 := Try.underlying101
  a66 := Try.isAgg101
  z66 := Try.sizeOf101
  v66 := Try.zeroValue101
  t70 := Try.underlying105
  a70 := Try.isAgg105
  z70 := Try.sizeOf105
  v70 := Try.zeroValue105
  t76 := Try.underlying111
  a76 := Try.isAgg111
  z76 := Try.sizeOf111
  v76 := Try.zeroValue111
  t77 := Try.underlying112
  a77 := Try.isAgg112
  z77 := Try.sizeOf112
  v77 := Try.zeroValue112
end Go.Proofs
namespace Go.Ev.F23
open Go.Proofs Go.Shelf Go.RowKit Go.Lib Go.Sort Go
set_option linter.all false
abbrev Arc := Int × Int
abbrev Acc := Int × Int × Bool
abbrev ER (x : Arc) : PV := .agg [.int .i64 x.1, .int .i64 x.2]
abbrev EA (x : Acc) : PV := .agg [.int .i64 x.1, .int .u64 x.2.1, .bool x.2.2]
def encR (x : Arc) : List Value := [.int .i64 x.1, .int .i64 x.2]
def encAc (x : Acc) : List Value := [.int .i64 x.1, .int .u64 x.2.1, .bool x.2.2]
theorem hER : EncK ER encR 2 where
  pos := by decide
  len := fun _ => rfl
  one := fun x v hv => by simp [encR] at hv; rcases hv with rfl | rfl <;> rfl
  stor := fun x => rfl
  to := fun x v h => by
    simp only [ER, RP, RPs] at h
    obtain ⟨_, cs, rfl, ⟨a, r, rfl, rfl, b, r2, rfl, rfl, rfl⟩, _⟩ := h
    rfl
  of := fun w Z x => by
    simp only [ER, RP, RPs, encR]
    exact ⟨by simp, _, rfl, ⟨_, _, rfl, rfl, _, _, rfl, rfl, rfl⟩, fun c hc => by simp at hc; rcases hc with rfl | rfl <;> rfl⟩
theorem hEA : EncK EA encAc 3 where
  pos := by decide
  len := fun _ => rfl
  one := fun x v hv => by simp [encAc] at hv; rcases hv with rfl | rfl | rfl <;> rfl
  stor := fun x => rfl
  to := fun x v h => by
    simp only [EA, RP, RPs] at h
    obtain ⟨_, cs, rfl, ⟨a, r, rfl, rfl, b, r2, rfl, rfl, c, r3, rfl, rfl, rfl⟩, _⟩ := h
    rfl
  of := fun w Z x => by
    simp only [EA, RP, RPs, encAc]
    exact ⟨by simp, _, rfl, ⟨_, _, rfl, rfl, _, _, rfl, rfl, _, _, rfl, rfl, rfl⟩, fun c hc => by simp at hc; rcases hc with rfl | rfl | rfl <;> rfl⟩
/-- The orders. -/
def cmpI (a b : Int) : Int := if a < b then -1 else if b < a then 1 else 0
def cmpR (a b : Arc) : Int := if a.1 ≠ b.1 then cmpI a.1 b.1 else cmpI a.2 b.2
def cmpA (a b : Acc) : Int := cmpI a.2.1 b.2.1
def ltR (a b : Arc) : Bool := decide (a.1 < b.1 ∨ (a.1 = b.1 ∧ a.2 < b.2))
def ltA (a b : Acc) : Bool := decide (a.2.1 < b.2.1)
theorem ltOf_R : ltOf cmpR = ltR := by
  funext a b
  unfold ltOf cmpR cmpI ltR
  rw [decide_eq_decide]
  split <;> split <;> (try split) <;> omega
theorem ltOf_A : ltOf cmpA = ltA := by
  funext a b
  unfold ltOf cmpA cmpI ltA
  rw [decide_eq_decide]
  split <;> (try split) <;> omega
theorem swoR : SWO ltR where
  irrefl x := by simp [ltR]
  trans x y z h1 h2 := by simp only [ltR, decide_eq_true_eq] at *; omega
  ntrans x y z h1 h2 := by simp only [ltR, decide_eq_false_iff_not] at *; omega
theorem swoA : SWO ltA where
  irrefl x := by simp [ltA]
  trans x y z h1 h2 := by simp only [ltA, decide_eq_true_eq] at *; omega
  ntrans x y z h1 h2 := by simp only [ltA, decide_eq_false_iff_not] at *; omega
set_option maxHeartbeats 1000000 in
theorem compare_calls (x y : Int) (W : World) : Calls Try.prog 36 #[.int .i64 x, .int .i64 y] W fun e w' => e = .returned (.int .i64 (cmpI x y)) ∧ w' = W := by
  by_cases h1 : x < y
  · have hc : cmpI x y = -1 := by simp [cmpI, h1]
    rw [hc]
    go_enter Try.func36, Try.ntmps36
    go_wp2
    all_goals first | contradiction | (go_ret; exact ⟨rfl, rfl⟩) | skip
  · by_cases h2 : y < x
    · have hc : cmpI x y = 1 := by simp [cmpI, h1, h2]
      rw [hc]
      go_enter Try.func36, Try.ntmps36
      go_wp2
      all_goals first | contradiction | (go_ret; exact ⟨rfl, rfl⟩) | skip
    · have hc : cmpI x y = 0 := by simp [cmpI, h1, h2]
      rw [hc]
      go_enter Try.func36, Try.ntmps36
      go_wp2
      all_goals first | contradiction | (go_ret; exact ⟨rfl, rfl⟩) | skip
set_option maxHeartbeats 1000000 in
theorem cmpR_calls (x y : Arc) (W : World) : Calls Try.prog 35 #[.agg #[.int .i64 x.1, .int .i64 x.2], .agg #[.int .i64 y.1, .int .i64 y.2]] W fun e w' => e = .returned (.int .i64 (cmpR x y)) ∧ ∃ q os', w' = grow (W.drewN q) os' := by
  obtain ⟨x1, x2⟩ := x
  obtain ⟨y1, y2⟩ := y
  by_cases h : x1 = y1
  · subst h
    have hcon := fun W => compare_calls x2 y2 W
    have hc : cmpR (x1, x2) (x1, y2) = cmpI x2 y2 := by simp [cmpR]
    rw [hc]
    generalize cmpI x2 y2 = r at hcon ⊢
    go_enter Try.func35, Try.ntmps35
    go_wp2_with (go_at_call 36; refine (hcon _).mono ?_; rintro e w' ⟨rfl, rfl⟩)
    all_goals first | contradiction | (go_ret; exact ⟨rfl, 0, _, by rw [alloc_eq_grow, alloc_eq_grow, grow_grow]; rfl⟩) | skip
  · have hcon := fun W => compare_calls x1 y1 W
    have hc : cmpR (x1, x2) (y1, y2) = cmpI x1 y1 := by simp [cmpR, h]
    rw [hc]
    generalize cmpI x1 y1 = r at hcon ⊢
    go_enter Try.func35, Try.ntmps35
    go_wp2_with (go_at_call 36; refine (hcon _).mono ?_; rintro e w' ⟨rfl, rfl⟩)
    all_goals first | contradiction | (go_ret; exact ⟨rfl, 0, _, by rw [alloc_eq_grow, alloc_eq_grow, grow_grow]; rfl⟩) | skip
set_option maxHeartbeats 1000000 in
theorem cmpA_calls (x y : Acc) (W : World) : Calls Try.prog 41 #[.agg #[.int .i64 x.1, .int .u64 x.2.1, .bool x.2.2], .agg #[.int .i64 y.1, .int .u64 y.2.1, .bool y.2.2]] W fun e w' => e = .returned (.int .i64 (cmpA x y)) ∧ ∃ q os', w' = grow (W.drewN q) os' := by
  obtain ⟨x0, x, x3⟩ := x
  obtain ⟨y0, y, y3⟩ := y
  by_cases h1 : x < y
  · have hc : cmpA (x0, x, x3) (y0, y, y3) = -1 := by simp [cmpA, cmpI, h1]
    rw [hc]
    go_enter Try.func41, Try.ntmps41
    go_wp2
    all_goals first | contradiction | (go_ret; exact ⟨rfl, 0, _, by rw [alloc_eq_grow, alloc_eq_grow, grow_grow]; rfl⟩) | skip
  · by_cases h2 : y < x
    · have hc : cmpA (x0, x, x3) (y0, y, y3) = 1 := by simp [cmpA, cmpI, h1, h2]
      rw [hc]
      go_enter Try.func41, Try.ntmps41
      go_wp2
      all_goals first | contradiction | (go_ret; exact ⟨rfl, 0, _, by rw [alloc_eq_grow, alloc_eq_grow, grow_grow]; rfl⟩) | skip
    · have hc : cmpA (x0, x, x3) (y0, y, y3) = 0 := by simp [cmpA, cmpI, h1, h2]
      rw [hc]
      go_enter Try.func41, Try.ntmps41
      go_wp2
      all_goals first | contradiction | (go_ret; exact ⟨rfl, 0, _, by rw [alloc_eq_grow, alloc_eq_grow, grow_grow]; rfl⟩) | skip
/-- slices.SortFunc of arcs. -/
def sASpec (args : List AV) (H : Heap) (Q : AV → Heap → Prop) : Prop :=
  (args = [.nsl, .p (.fn 35 [])] ∧ Q (.p (.tup [])) H) ∨
  ∃ (b g : Nat) (ex : Bool) (xs : List Arc), H[b]? = some (.arr true g 2 (xs.map ER)) ∧ xs.length < 1000000 ∧ args = [.ref b g 0 xs.length ex, .p (.fn 35 [])] ∧
    ∀ ys : List Arc, ys.Perm xs → (∀ i j, i < j → j < ys.length → ltR ys[j]! ys[i]! = false) → Q (.p (.tup [])) (H.set b (.arr true g 2 (ys.map ER)))
theorem sASpec_mono {args : List AV} {H : Heap} {Q Q' : AV → Heap → Prop} (hq : ∀ v H', Q v H' → Q' v H') (h : sASpec args H Q) : sASpec args H Q' := by
  rcases h with ⟨h1, h2⟩ | ⟨b, g, ex, xs, h1, h2, h3, h4⟩
  · exact .inl ⟨h1, hq _ _ h2⟩
  · exact .inr ⟨b, g, ex, xs, h1, h2, h3, fun ys h5 h6 => hq _ _ (h4 ys h5 h6)⟩
/-- slices.SortFunc of accesses. -/
def sBSpec (args : List AV) (H : Heap) (Q : AV → Heap → Prop) : Prop :=
  (args = [.nsl, .p (.fn 41 [])] ∧ Q (.p (.tup [])) H) ∨
  ∃ (b g : Nat) (ex : Bool) (xs : List Acc), H[b]? = some (.arr true g 3 (xs.map EA)) ∧ xs.length < 1000000 ∧ args = [.ref b g 0 xs.length ex, .p (.fn 41 [])] ∧
    ∀ ys : List Acc, ys.Perm xs → (∀ i j, i < j → j < ys.length → ltA ys[j]! ys[i]! = false) → Q (.p (.tup [])) (H.set b (.arr true g 3 (ys.map EA)))
theorem sBSpec_mono {args : List AV} {H : Heap} {Q Q' : AV → Heap → Prop} (hq : ∀ v H', Q v H' → Q' v H') (h : sBSpec args H Q) : sBSpec args H Q' := by
  rcases h with ⟨h1, h2⟩ | ⟨b, g, ex, xs, h1, h2, h3, h4⟩
  · exact .inl ⟨h1, hq _ _ h2⟩
  · exact .inr ⟨b, g, ex, xs, h1, h2, h3, fun ys h5 h6 => hq _ _ (h4 ys h5 h6)⟩
theorem callee {f : FuncId} {fn : Func} (hf : Try.prog.funcs[f]? = some fn) (hb : fn.body.isSome = true) (hn : fn.name ≠ "runtime.NumGoroutine") (vs : Array Value) (w : World) : (callFunc f vs).run Try.prog w = .ok (.enter f vs) w := by
  obtain ⟨c, hb⟩ := Option.isSome_iff_exists.1 hb
  simp [callFunc, hf, hb, hn]
theorem sA_ext {args : List AV} {H : Heap} {Q : AV → Heap → Prop} (h : sASpec args H Q) : CallOK Try.prog 34 args H Q := by
  refine ⟨fun vs w => callee Try.func34 (by kernel_rfl) (by decide +kernel) vs w, fun s vs hH hs hr => callsIn_wide.2 ?_⟩
  subst hH
  rcases h with ⟨rfl, hq⟩ | ⟨b, g, ex, xs, hb, hn, rfl, hq⟩
  · simp only [RAs] at hr
    obtain ⟨v0, r0, rfl, h0, v1, r1, rfl, h1, rfl⟩ := hr
    simp only [RA] at h0
    subst h0
    have hc := AnyF.slices_SortFunc_none Try.sortArc none 0 v1 s.w
    change Calls Try.prog 34 _ _ _ at hc
    refine hc.mono ?_
    rintro e w' ⟨rfl, rfl⟩
    exact ⟨_, s, .p (.tup []), rfl, rfl, Evo.refl s, hs, by simp [RA, RP, RPs], hq⟩
  · simp only [RAs] at hr
    obtain ⟨v0, r0, rfl, h0, v1, r1, rfl, h1, rfl⟩ := hr
    have eg : ∀ args w, (callFunc 35 args).run Try.prog w = .ok (.enter 35 args) w := fun vs w => callee Try.func35 (by kernel_rfl) (by decide +kernel) vs w
    refine (sortf_ok hER (f := 34) (lt := ltR) hs hb h0 h1 ?_).mono ?_
    · intro blk off cap d w hH hblk hsz
      have hcmp : CmpLays Try.prog 35 #[] encR 2 cmpR blk off d.size w := fun _ _ _ _ x y => cmpR_calls x y _
      have hc := AnyQ.slices_SortFunc Try.sortArc 2 Try.isAgg37 Try.sizeOf37 encR hER.len hER.one cmpR (ltOf_R ▸ swoR) 35 #[] blk off cap d w eg hcmp hH hblk (by omega)
      rw [ltOf_R] at hc
      exact hc
    · rintro e w' ⟨v, s', av, k1, k2, k3, k4, k5, rfl, ys, k6, k7, k8⟩
      exact ⟨v, s', _, k1, k2, k3, k4, k5, by rw [k8]; exact hq ys k6 k7⟩
theorem sB_ext {args : List AV} {H : Heap} {Q : AV → Heap → Prop} (h : sBSpec args H Q) : CallOK Try.prog 40 args H Q := by
  refine ⟨fun vs w => callee Try.func40 (by kernel_rfl) (by decide +kernel) vs w, fun s vs hH hs hr => callsIn_wide.2 ?_⟩
  subst hH
  rcases h with ⟨rfl, hq⟩ | ⟨b, g, ex, xs, hb, hn, rfl, hq⟩
  · simp only [RAs] at hr
    obtain ⟨v0, r0, rfl, h0, v1, r1, rfl, h1, rfl⟩ := hr
    simp only [RA] at h0
    subst h0
    have hc := AnyF.slices_SortFunc_none Try.sortAcc none 0 v1 s.w
    change Calls Try.prog 40 _ _ _ at hc
    refine hc.mono ?_
    rintro e w' ⟨rfl, rfl⟩
    exact ⟨_, s, .p (.tup []), rfl, rfl, Evo.refl s, hs, by simp [RA, RP, RPs], hq⟩
  · simp only [RAs] at hr
    obtain ⟨v0, r0, rfl, h0, v1, r1, rfl, h1, rfl⟩ := hr
    have eg : ∀ args w, (callFunc 41 args).run Try.prog w = .ok (.enter 41 args) w := fun vs w => callee Try.func41 (by kernel_rfl) (by decide +kernel) vs w
    refine (sortf_ok hEA (f := 40) (lt := ltA) hs hb h0 h1 ?_).mono ?_
    · intro blk off cap d w hH hblk hsz
      have hcmp : CmpLays Try.prog 41 #[] encAc 3 cmpA blk off d.size w := fun _ _ _ _ x y => cmpA_calls x y _
      have hc := AnyQ.slices_SortFunc Try.sortAcc 3 Try.isAgg45 Try.sizeOf45 encAc hEA.len hEA.one cmpA (ltOf_A ▸ swoA) 41 #[] blk off cap d w eg hcmp hH hblk (by omega)
      rw [ltOf_A] at hc
      exact hc
    · rintro e w' ⟨v, s', av, k1, k2, k3, k4, k5, rfl, ys, k6, k7, k8⟩
      exact ⟨v, s', _, k1, k2, k3, k4, k5, by rw [k8]; exact hq ys k6 k7⟩
end Go.Ev.F23
end
