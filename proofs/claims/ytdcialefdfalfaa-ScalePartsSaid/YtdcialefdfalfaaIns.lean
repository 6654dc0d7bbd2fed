/- A part of the proof: walks of the functions that the law calls. No condition. -/
import Derived.Test.YtdcialefdfalfaaProg
import Derived.Shelf.Spec.SlicesInsertGrow
import Derived.KernelRfl
import Derived.Test.YtdcialefdfalfaaEvB
set_option linter.all false
section
namespace Go.Ev.F15
open Go.Proofs Go.RowKit Go.Lib Go
set_option linter.all false
theorem iu : Try.prog.underlying 22 = some (.slice 23) := by kernel_rfl
theorem iz : (Try.prog.info? 23).map (·.size) = some 1 := by kernel_rfl
theorem izs (w : World) : (Go.sizeOf 23).run Try.prog w = .ok 1 w := by
  obtain ⟨i, hi, h⟩ := Option.map_eq_some_iff.1 iz
  rw [run_sizeOf hi, h]
theorem iov {w : World} (vb voff vc b o lb cb : Nat) (hvb : vb ≠ b) (tA tB : TypeId) (kA kB : Nat) (hsa : w.shape? vb = some (tA, kA)) (hsb : w.shape? b = some (tB, kB)) (hkB : kB ≠ 0) (hfa : w.frozen? ⟨vb, voff, none⟩ = false) (hfe : w.frozen? ⟨vb, kA, none⟩ = false) :
    (callFunc 29 #[.slice (some ⟨vb, voff, none⟩) 1 vc, .slice (some ⟨b, o, none⟩) lb cb]).run Try.prog w = .ok (.value (.bool false)) w := by
  rw [run_callFunc_extern Try.func29 (by kernel_rfl) (by kernel_rfl) (by kernel_rfl) (e := Extern.SlicesOverlaps.overlaps #[22, 22] #[4]) (by kernel_rfl),
    Lib.run_overlaps_apart w 22 4 23 iu 1 izs ⟨vb, voff, none⟩ ⟨b, o, none⟩ 1 vc lb cb hvb tA tB kA kB hsa hsb hkB hfa hfe]
  rfl
set_option maxHeartbeats 4000000 in
set_option maxRecDepth 100000 in
theorem ins_shift (b off n c i vb voff vc : Nat) (cs : List Value) (x : Value) (w : World) (hi : i < n) (hroom : n + 1 ≤ c) (hc63 : n + 1 ≤ 1000000000000) (hvb : vb ≠ b) (hcl : cs.length = n)
    (hcs : ∀ j v, cs[j]? = some v → w.cell? ⟨b, off + j, none⟩ = some v) (hsp : ∀ j, j < n + 1 → (w.cell? ⟨b, off + j, none⟩).isSome = true) (hfz : ∀ j, j < n + 1 → w.frozen? ⟨b, off + j, none⟩ = false)
    (hx : w.cell? ⟨vb, voff, none⟩ = some x) (h1c : ∀ v ∈ cs, v.oneCell' = true) (h1x : x.oneCell' = true)
    (tA tB : TypeId) (kA kB : Nat) (hsa : w.shape? vb = some (tA, kA)) (hsb : w.shape? b = some (tB, kB)) (hkB : kB ≠ 0) (hfa : w.frozen? ⟨vb, voff, none⟩ = false) (hfe : w.frozen? ⟨vb, kA, none⟩ = false) :
    Calls Try.prog 22 #[.slice (some ⟨b, off, none⟩) n c, .int .i64 i, .slice (some ⟨vb, voff, none⟩) 1 vc] w fun e w' =>
      e = .returned (.slice (some ⟨b, off, none⟩) (n + 1) c) ∧ w' = (w.drew.setCells b (off + (i + 1)) (cs.drop i)).setCells b (off + i) [x] := by
  have hz2 : ¬ ((i : Int) = (n : Int)) := by omega
  have hdl : (cs.drop i).length = n - i := by rw [List.length_drop, hcl]
  have hw1 : IntKind.i64.wrap ((i : Int) + 1) = (i : Int) + 1 := by rw [IntKind.wrap_i64]; omega
  have hw2 : IntKind.i64.wrap ((n : Int) + 1) = (n : Int) + 1 := by rw [IntKind.wrap_i64]; omega
  have hb1 : (0 : Int) ≤ (i : Int) + 1 := by omega
  have hin : i ≤ n := by omega
  have htn : ((i : Int) + 1).toNat = i + 1 := by omega
  have hb2 : ¬ (c = i + 1) := by omega
  have hb3 : (i : Int) ≤ (n : Int) + 1 := by omega
  have hb4 : ¬ (c = i) := by omega
  have hov := fun lb cb => iov (w := w) vb voff vc b (off + (i + 1)) lb cb hvb tA tB kA kB hsa hsb hkB hfa hfe
  have hcp1 : ∀ ty dc sc, (Builtin.copy_ #[22, 22] ty #[.slice (some ⟨b, off + (i + 1), none⟩) (n - i) dc, .slice (some ⟨b, off + i, none⟩) (n + 1 - i) sc]).run Try.prog w.drew = .ok (goInt (cs.drop i).length) (w.drew.setCells b (off + (i + 1)) (cs.drop i)) := fun ty dc sc =>
    run_copy_cells w.drew _ _ ty 23 b (off + (i + 1)) (n - i) dc ⟨b, off + i, none⟩ (n + 1 - i) sc (cs.drop i) iu iz (by rw [hdl]; simp only [Nat.min_def]; split <;> omega)
      (fun j v hj => by rw [Addr.add_lit, Nat.add_assoc]; exact hcs (i + j) v (by rwa [List.getElem?_drop] at hj))
      (fun j hj => by rw [Nat.add_assoc]; exact hsp _ (by omega)) (fun j hj => by rw [Nat.add_assoc]; exact hfz _ (by omega)) (fun v hv => h1c v (List.mem_of_mem_drop hv))
  obtain ⟨W1, hW1⟩ : ∃ W1, W1 = w.drew.setCells b (off + (i + 1)) (cs.drop i) := ⟨_, rfl⟩
  have hsp1 : ∀ k, k < n + 1 → (W1.cell? ⟨b, off + k, none⟩).isSome = true := fun k hk => by
    rw [hW1]
    exact isSome_setCells b _ _ _ (fun j hj => by rw [Nat.add_assoc]; exact hsp _ (by omega)) _ (hsp k hk)
  have hcp2 : ∀ (W : World), (∀ x, W.cell? x = W1.cell? x) → (∀ x, W.frozen? x = W1.frozen? x) → ∀ ty dc, (Builtin.copy_ #[22, 22] ty #[.slice (some ⟨b, off + i, none⟩) (n + 1 - i) dc, .slice (some ⟨vb, voff, none⟩) 1 vc]).run Try.prog W = .ok (goInt 1) (W.setCells b (off + i) [x]) := fun W hWc hWf ty dc =>
    run_copy_cells W _ _ ty 23 b (off + i) (n + 1 - i) dc ⟨vb, voff, none⟩ 1 vc [x] iu iz (by simp only [Nat.min_def, List.length_singleton]; split <;> omega)
      (fun j v hj => by
        obtain rfl : j = 0 := by have := (List.getElem?_eq_some_iff.1 hj).1; simp at this; exact this
        cases hj
        rw [Addr.add_lit, hWc, hW1, World.cell?_setCells_out b _ _ _ _ (fun h _ => absurd h hvb)]
        exact hx)
      (fun j hj => by rw [hWc, Nat.add_assoc]; exact hsp1 _ (by simp at hj; omega)) (fun j hj => by rw [hWf, hW1, World.frozen?_setCells, Nat.add_assoc]; exact hfz _ (by simp at hj; omega)) (fun v hv => by rw [List.mem_singleton.1 hv]; exact h1x)
  rw [← hW1] at hcp1
  have mixed : Try.prog.follows .mixedOrders = true := by kernel_rfl
  have u22 := fun w => run_underlying (P := Try.prog) (w := w) iu
  have z23 := izs
  go_enter Try.func22, Try.ntmps22
  go_wp2_with (simp only [hov])
  go_region_law_o (refine step_copy_runI rfl _ _ 22 22 rfl _ _ (by simp [Act.eval, Act.put]) (by simp [Act.eval, Act.put]) (hcp1 _ _ _) ?_)
  go_wp2_with (at_builtin; refine wpList_copy_runI _ rfl _ _ 22 22 rfl _ _ rfl rfl (hcp2 _ (fun _ => rfl) (fun _ => rfl) _ _) ?_)
  go_ret
  first | exact ⟨rfl, rfl⟩ | exact ⟨rfl, by rw [hW1]⟩
set_option maxHeartbeats 4000000 in
set_option maxRecDepth 100000 in
theorem ins_grow (b off n c i vb voff vc : Nat) (cs : List Value) (x : Value) (w : World) (hi : i < n) (hnc : n ≤ c) (hroom : c < n + 1) (hbig : (n + 1) * 4 ≤ 140737488355328) (hcl : cs.length = n)
    (hcs : ∀ j v, cs[j]? = some v → w.cell? ⟨b, off + j, none⟩ = some v) (hx : w.cell? ⟨vb, voff, none⟩ = some x) (h1c : ∀ v ∈ cs, v.oneCell' = true) (h1x : x.oneCell' = true) :
    ∃ (ROW : Array Value) (G : Nat), n + 1 ≤ G ∧ G ≤ ROW.size ∧ Calls Try.prog 22 #[.slice (some ⟨b, off, none⟩) n c, .int .i64 i, .slice (some ⟨vb, voff, none⟩) 1 vc] w fun e w' =>
      e = .returned (.slice (some ⟨w.heap.size, 0, none⟩) (n + 1) G) ∧
      w' = (((w.alloc (.cells ROW 23)).drew.setCells w.heap.size i [x]).drew).setCells w.heap.size (i + 1) (cs.drop i) ∧ ∀ (j : Nat) (v : Value), (cs.take i)[j]? = some v → ROW[j]? = some v := by
  obtain ⟨i0, hi0, hzs⟩ := Option.map_eq_some_iff.1 iz
  have hz2 : ¬ ((i : Int) = (n : Int)) := by omega
  have hz3 : (c : Int) < (n : Int) + 1 := by omega
  have hbw : b < w.heap.size := block_lt_of_cell (hcs 0 _ (List.getElem?_eq_getElem (by omega)))
  have hvw : vb < w.heap.size := block_lt_of_cell hx
  have hkk : (n : Int) + 1 - (i : Int) = ((n + 1 - i : Nat) : Int) := by omega
  have hik : i + (n + 1 - i) = n + 1 := by omega
  have hold : (Builtin.firstCells i0.size i (.slice (some ⟨b, off, none⟩) i c)).run Try.prog w.drew = .ok (cs.take i).toArray w.drew := by
    rw [hzs]
    exact run_firstCells_some w.drew 1 i ⟨b, off, none⟩ i c (cs.take i) (by rw [List.length_take]; omega) (fun j v hj => by
      rw [Addr.add_lit]
      rw [List.getElem?_take] at hj
      split at hj
      · exact hcs j v hj
      · cases hj)
  obtain ⟨z, hz⟩ : ∃ z, i0.zero = some z := by
    have h : ((Try.prog.info? 23).bind (·.zero)).isSome = true := by kernel_rfl
    rw [hi0] at h
    exact Option.isSome_iff_exists.1 h
  have hzc : z.cells.size = 1 := by
    have h : (((Try.prog.info? 23).bind (·.zero)).map fun z => z.cells.size) = some 1 := by kernel_rfl
    rw [hi0] at h
    simpa [hz] using h
  have hzb : i0.bytes = 4 := by
    have h : (Try.prog.info? 23).map (·.bytes) = some 4 := by kernel_rfl
    rw [hi0] at h
    simpa using h
  have hrz : ∀ ty, (Builtin.append_ #[22, 3] ty #[.slice (some ⟨b, off, none⟩) i c, .int .i64 ((n : Int) + 1 - (i : Int))]).run Try.prog w =
      .ok (.slice (some ⟨w.heap.size, 0, none⟩) (n + 1) (grownCap w (n + 1) c 23)) (w.drew.alloc (.cells ((cs.take i).toArray ++ Builtin.zeroCells z.cells (n + 1 - i) ++ Builtin.zeroCells z.cells (grownCap w (n + 1) c 23 - (n + 1))) 23)) := fun ty => by
    have h := Lib.run_append_grow_zeros w 22 3 ty 23 i0 z .i64 .i64 iu (by kernel_rfl) hi0 hz (some ⟨b, off, none⟩) i c (cs.take i) hold (n + 1 - i) (by omega) (by omega) (by omega) (by omega) (by rw [hzb]; omega) (by rw [hzb, hik]; exact growslice_fits hroom hbig)
    rw [hik] at h
    rw [hkk]
    exact h
  obtain ⟨G, hG⟩ : ∃ G, G = grownCap w (n + 1) c 23 := ⟨_, rfl⟩
  obtain ⟨ROW, hROW⟩ : ∃ ROW : Array Value, ROW = (cs.take i).toArray ++ Builtin.zeroCells z.cells (n + 1 - i) ++ Builtin.zeroCells z.cells (G - (n + 1)) := ⟨_, rfl⟩
  rw [← hG] at hrz
  rw [← hROW] at hrz
  have hGn : n + 1 ≤ G := by rw [hG]; exact grownCap_ge w _ _ _
  have hRl : ROW.size = G := by
    rw [hROW]
    simp only [Array.size_append, zeroCells_size, hzc, List.size_toArray, List.length_take, hcl]
    omega
  have hG63 : G ≤ 9223372036854775807 := by
    have := grownCap_le_maxLen w (n + 1) c 23 (by unfold maxLen; omega)
    rw [← hG] at this
    unfold maxLen at this
    omega
  refine ⟨ROW, G, hGn, by omega, ?_⟩
  have hfst : ∀ (j : Nat) (v : Value), (cs.take i)[j]? = some v → ROW[j]? = some v := fun j v hj => by
    have hjl := (List.getElem?_eq_some_iff.1 hj).1
    rw [hROW, Array.append_assoc, Array.getElem?_append_left (by simpa using hjl)]
    simpa using hj
  obtain ⟨W1, hW1⟩ : ∃ W1, W1 = w.drew.alloc (.cells ROW 23) := ⟨_, rfl⟩
  rw [← hW1] at hrz
  have hN : ∀ j, j < n + 1 → (W1.cell? ⟨w.heap.size, j, none⟩).isSome = true := fun j hj => by
    rw [hW1, World.cell?_alloc_at (w := w.drew) ROW _ w.heap.size j rfl, Array.getElem?_eq_getElem (by omega)]; rfl
  have hNf : ∀ j, W1.frozen? ⟨w.heap.size, j, none⟩ = false := fun j => by rw [hW1]; exact World.frozen?_alloc_at (w := w.drew) ROW _ w.heap.size j rfl
  have hOb : ∀ j v, w.cell? ⟨b, j, none⟩ = some v → W1.cell? ⟨b, j, none⟩ = some v := fun j v h => by rw [hW1, World.cell?_alloc_past (w := w.drew) _ b j hbw]; exact h
  have hOv : ∀ j v, w.cell? ⟨vb, j, none⟩ = some v → W1.cell? ⟨vb, j, none⟩ = some v := fun j v h => by rw [hW1, World.cell?_alloc_past (w := w.drew) _ vb j hvw]; exact h
  have hcpA : ∀ (W : World), (∀ x, W.cell? x = W1.cell? x) → (∀ x, W.frozen? x = W1.frozen? x) → ∀ ty dc, (Builtin.copy_ #[22, 22] ty #[.slice (some ⟨w.heap.size, i, none⟩) (n + 1 - i) dc, .slice (some ⟨vb, voff, none⟩) 1 vc]).run Try.prog W = .ok (goInt 1) (W.setCells w.heap.size i [x]) := fun W hWc hWf ty dc =>
    run_copy_cells W _ _ ty 23 w.heap.size i (n + 1 - i) dc ⟨vb, voff, none⟩ 1 vc [x] iu iz (by simp only [Nat.min_def, List.length_singleton]; split <;> omega)
      (fun j v hj => by
        obtain rfl : j = 0 := by have := (List.getElem?_eq_some_iff.1 hj).1; simp at this; exact this
        cases hj
        rw [Addr.add_lit, hWc]; exact hOv _ _ hx)
      (fun j hj => by rw [hWc]; exact hN _ (by simp at hj; omega)) (fun j hj => by rw [hWf]; exact hNf _) (fun v hv => by rw [List.mem_singleton.1 hv]; exact h1x)
  have hGi : ¬ (G = i) := by omega
  have hGim : ¬ (G = i + 1) := by omega
  have hci : ¬ (c = i) := by omega
  have hbN : b ≠ w.heap.size := by omega
  have hdl : (cs.drop i).length = n - i := by rw [List.length_drop, hcl]
  have hcpB : ∀ (W : World), (∀ y, W.cell? y = (W1.setCells w.heap.size i [x]).cell? y) → (∀ y, W.frozen? y = (W1.setCells w.heap.size i [x]).frozen? y) → ∀ ty dc sc, (Builtin.copy_ #[22, 22] ty #[.slice (some ⟨w.heap.size, i + 1, none⟩) (n - i) dc, .slice (some ⟨b, off + i, none⟩) (n - i) sc]).run Try.prog W = .ok (goInt (cs.drop i).length) (W.setCells w.heap.size (i + 1) (cs.drop i)) := fun W hWc hWf ty dc sc =>
    run_copy_cells W _ _ ty 23 w.heap.size (i + 1) (n - i) dc ⟨b, off + i, none⟩ (n - i) sc (cs.drop i) iu iz (by rw [hdl]; simp only [Nat.min_def]; split <;> omega)
      (fun j v hj => by
        rw [Addr.add_lit, hWc, World.cell?_setCells_out _ _ _ _ _ (fun h _ => absurd h hbN), Nat.add_assoc]
        exact hOb _ v (hcs (i + j) v (by rwa [List.getElem?_drop] at hj)))
      (fun j hj => by rw [hWc]; exact isSome_setCells _ _ _ _ (fun t ht => hN _ (by simp at ht; omega)) _ (hN _ (by omega)))
      (fun j hj => by rw [hWf, World.frozen?_setCells]; exact hNf _) (fun v hv => h1c v (List.mem_of_mem_drop hv))
  subst hW1
  have hE1 : ∀ x, ((w.alloc (.cells ROW 23)).drew).cell? x = (w.drew.alloc (.cells ROW 23)).cell? x := fun x => rfl
  have hE2 : ∀ x, ((w.alloc (.cells ROW 23)).drew).frozen? x = (w.drew.alloc (.cells ROW 23)).frozen? x := fun x => rfl
  have hF1 : ∀ y, (((w.alloc (.cells ROW 23)).drew.setCells w.heap.size i [x]).drew).cell? y = ((w.drew.alloc (.cells ROW 23)).setCells w.heap.size i [x]).cell? y := fun y => rfl
  have hF2 : ∀ y, (((w.alloc (.cells ROW 23)).drew.setCells w.heap.size i [x]).drew).frozen? y = ((w.drew.alloc (.cells ROW 23)).setCells w.heap.size i [x]).frozen? y := fun y => rfl
  have hw1 : IntKind.i64.wrap ((i : Int) + 1) = (i : Int) + 1 := by rw [IntKind.wrap_i64]; omega
  have hw2 : IntKind.i64.wrap ((n : Int) + 1) = (n : Int) + 1 := by rw [IntKind.wrap_i64]; omega
  have hb1 : (0 : Int) ≤ (i : Int) + 1 := by omega
  have hin : i ≤ n := by omega
  have htn : ((i : Int) + 1).toNat = i + 1 := by omega
  have hb3 : (i : Int) ≤ (n : Int) := by omega
  have mixed : Try.prog.follows .mixedOrders = true := by kernel_rfl
  clear hkk hik hold hROW hG hRl
  go_enter Try.func22, Try.ntmps22
  go_wp2_with (first
    | (at_builtin; refine Lib.wpList_append_run _ rfl _ _ _ _ rfl _ _ rfl rfl _ _ (hrz _) ?_)
    | (at_builtin; refine wpList_copy_runI _ rfl _ _ 22 22 rfl _ _ rfl rfl (hcpA _ hE1 hE2 _ _) ?_)
    | (at_builtin; refine wpList_copy_runI _ rfl _ _ 22 22 rfl _ _ rfl rfl (hcpB _ (fun _ => rfl) (fun _ => rfl) _ _ _) ?_))
  go_region_law_o (refine step_copy_runI rfl _ _ 22 22 rfl (.slice (some ⟨w.heap.size, i + 1, none⟩) (n - i) (G - (i + 1))) (.slice (some ⟨b, off + i, none⟩) (n - i) (c - i)) (by simp [Act.eval, Act.put]) (by simp [Act.eval, Act.put]) (hcpB _ hF1 hF2 3 (G - (i + 1)) (c - i)) ?_)
  go_wp2
  go_ret
  exact ⟨rfl, rfl, hfst⟩
end Go.Ev.F15
end
section
namespace Go.Ev.F15
open Go.Proofs Go.RowKit Go.Lib Go
set_option linter.all false
theorem Row_take {w : World} {Z : Nat → Prop} {xs : List PV} {c : List Value} (h : Row w Z 0 xs c) (i : Nat) : Row w Z 0 (xs.take i) (c.take i) := by
  intro k x hx
  rw [List.getElem?_take] at hx
  split at hx
  · obtain ⟨h0, u, h1, h2, h3⟩ := h k x hx
    have hus := cells_stride h1 h2
    refine ⟨h0, u, h1, h2, fun j v hv => ?_⟩
    have hj := (List.getElem?_eq_some_iff.1 hv).1
    simp [hus, stride] at hj
    subst hj
    have := h3 0 v hv
    simp only [stride, if_true, Nat.mul_one, Nat.add_zero] at this ⊢
    rw [List.getElem?_take, if_pos (by assumption)]
    exact this
  · cases hx
theorem Row_drop {w : World} {Z : Nat → Prop} {xs : List PV} {c : List Value} (h : Row w Z 0 xs c) (i : Nat) : Row w Z 0 (xs.drop i) (c.drop i) := by
  intro k x hx
  rw [List.getElem?_drop] at hx
  obtain ⟨h0, u, h1, h2, h3⟩ := h _ x hx
  refine ⟨h0, u, h1, h2, fun j v hv => ?_⟩
  have := h3 j v hv
  simp only [stride, if_true, Nat.mul_one] at this ⊢
  rw [List.getElem?_drop, ← Nat.add_assoc]
  exact this
theorem ins_ok {s : St} (hs : WF s) {b g vb gv i : Nat} {ex lv : Bool} {xs : List PV} {y : PV} (hb : s.H[b]? = some (.arr true g 0 xs)) (hv : s.H[vb]? = some (.arr lv gv 0 [y])) (hne : vb ≠ b) (hi : i < xs.length) (hbig : xs.length < 1000000000) {v0 v2 : Value}
    (h0 : RA s (.ref b g 0 xs.length false) v0) (h2 : RA s (.ref vb gv 0 1 ex) v2) :
    Calls Try.prog 22 #[v0, .int .i64 i, v2] s.w (PostC s fun v H' => v = .ref b (g + 1) 0 (xs.length + 1) false ∧ H' = s.H.set b (.arr true (g + 1) 0 (xs.take i ++ y :: xs.drop i))) := by
  simp only [RA] at h0 h2
  obtain ⟨a, cap, g0, sh0, rfl, hk, hle, h0⟩ := h0
  obtain ⟨a2, vc, g2, sh2, rfl, hk2, hle2, h2⟩ := h2
  have hkb := kd_of_arr hb
  have hkv := kd_of_arr hv
  rw [hkb] at hk; rw [hkv] at hk2
  simp only [Option.some.injEq, Kd.arr.injEq] at hk hk2
  obtain ⟨rfl, rfl⟩ := hk
  obtain ⟨rfl, rfl⟩ := hk2
  obtain ⟨⟨o, rfl, ho⟩, hcap, hsz, _⟩ := h0 rfl
  obtain ⟨⟨o2, rfl, ho2⟩, hcap2, hsz2, _⟩ := h2 rfl
  obtain rfl : o = s.β b := by
    rcases ho with h | h
    · simpa using h
    · omega
  obtain rfl : o2 = s.β vb := by
    rcases ho2 with h | h
    · simpa using h
    · omega
  have hB := hs.blk b _ hb
  have hV := hs.blk vb _ hv
  simp only [RB] at hB hV
  obtain ⟨c, et, lo, hi', hcell, hfr, hm, hxl, hlv⟩ := hB
  obtain ⟨c2, et2, lo2, hi2, hcell2, hfr2, hm2, hxl2, _⟩ := hV
  obtain ⟨olds, k1, k2, k3, k4, _⟩ := RM_src (P := Try.prog) hm xs.length cap 0 rfl
  obtain ⟨news, n1, n2, n3, n4, _⟩ := RM_src (P := Try.prog) hm2 1 vc 0 rfl
  simp only [stride, if_true, Nat.mul_one, List.length_singleton] at k2 n2 hsz hsz2 hxl hxl2
  obtain ⟨x, rfl⟩ : ∃ x, news = [x] := List.length_eq_one_iff.1 n2
  have hιne : s.ι vb ≠ s.ι b := fun e => hne (hs.inj vb b (kd_lt hkv) (kd_lt hkb) e)
  have hcs0 : csize s.w (s.ι b) = c.size := by simp [csize, hcell]
  rw [hcs0] at hsz
  have hcs : ∀ j v, olds[j]? = some v → s.w.cell? ⟨s.ι b, s.β b + j, none⟩ = some v := fun j v hj => k1 j v hj
  have hx : s.w.cell? ⟨s.ι vb, s.β vb, none⟩ = some x := n1 0 x rfl
  have hrow : Row s.w s.Z 0 (xs.take i ++ y :: xs.drop i) (olds.take i ++ x :: olds.drop i) := by
    have r1 := Row_append (Row_take k3 i) (Row_append (xs := [y]) (c := [x]) n3 (Row_drop k3 i) (by simp [stride])) (by simp [stride, k2])
    simpa using r1
  by_cases hroom : xs.length + 1 ≤ cap
  · have hfz : ∀ j, s.w.frozen? ⟨s.ι b, j, none⟩ = false := fun j => by
      simp only [World.frozen?, hcell]
      have := hfr j
      simp only [Bool.and_eq_false_imp, decide_eq_true_eq, decide_eq_false_iff_not]
      exact fun q q2 => this ⟨q, q2⟩
    have hfz2 : ∀ j, s.w.frozen? ⟨s.ι vb, j, none⟩ = false := fun j => by
      simp only [World.frozen?, hcell2]
      have := hfr2 j
      simp only [Bool.and_eq_false_imp, decide_eq_true_eq, decide_eq_false_iff_not]
      exact fun q q2 => this ⟨q, q2⟩
    refine (ins_shift (s.ι b) (s.β b) xs.length cap i (s.ι vb) (s.β vb) vc olds x s.w hi hroom (by omega) hιne k2 hcs (fun j hj => ?_) (fun j _ => hfz _) hx k4 (n4 x (by simp)) et2 et c2.size c.size (by simp [World.shape?, hcell2]) (by simp [World.shape?, hcell]) (by omega) (hfz2 _) (hfz2 _)).mono ?_
    · simp only [World.cell?, hcell]
      have : s.β b + j < c.size := by omega
      simpa using this
    · rintro e w' ⟨rfl, rfl⟩
      have hrest1 := setCells_rest (s.ι b) (olds.drop i) (s.β b + (i + 1)) s.w.drew
      have hrest := setCells_rest (s.ι b) [x] (s.β b + i) (s.w.drew.setCells (s.ι b) (s.β b + (i + 1)) (olds.drop i))
      have hat1 := heap_setCells_at (s.ι b) et (lo, hi') (olds.drop i) (s.β b + (i + 1)) s.w.drew _ hcell
      have hat := heap_setCells_at (s.ι b) et (lo, hi') [x] (s.β b + i) (s.w.drew.setCells (s.ι b) (s.β b + (i + 1)) (olds.drop i)) _ hat1
      have hsh : Shifts s b ((s.w.drew.setCells (s.ι b) (s.β b + (i + 1)) (olds.drop i)).setCells (s.ι b) (s.β b + i) [x]) (s.ι b) :=
        ⟨by simp [live, hb], ⟨g, 0, hkb⟩, by rw [hrest.1, hrest1.1]; exact Nat.le_refl _, fun j _ hj => (heap_setCells_ne (s.ι b) j hj _ _ _).trans (heap_setCells_ne (s.ι b) j hj _ _ s.w.drew), .inl rfl, by rw [hrest.1, hrest1.1]; exact hs.bnd b (kd_lt hkb), hrest.2.1.trans hrest1.2.1, hrest.2.2.1.trans hrest1.2.2.1, hrest.2.2.2.trans hrest1.2.2.2⟩
      have ev := Evo.shift (xs := xs.take i ++ y :: xs.drop i) (o := s.β b) hs hsh hkb
      refine ⟨_, s.shift b (.arr true (g + 1) 0 (xs.take i ++ y :: xs.drop i)) _ (s.ι b) (s.β b), .ref b (g + 1) 0 (xs.length + 1) false, rfl, rfl, ev, WF.shift hs hsh hkb ?_, ?_, rfl, rfl⟩
      · simp only [RB, St.shift, if_true]
        refine ⟨_, et, lo, hi', hat, hfr, ?_, ?_, fun h => by cases h⟩
        · refine RM_of_row (L := olds.take i ++ x :: olds.drop i) hat ?_ (Row_mono ev.Zm (hs.zkeep ev) hrow)
          intro j v hv
          have hjl := (List.getElem?_eq_some_iff.1 hv).1
          simp only [List.length_append, List.length_take, List.length_cons, List.length_drop, k2] at hjl
          rw [List.getElem?_toArray, setR_get]
          simp only [setR_length, List.length_singleton, Array.length_toList]
          by_cases hji : j = i
          · subst hji
            rw [if_pos (by omega)]
            rw [List.getElem?_append_right (by simp [Nat.min_le_left])] at hv
            simpa [k2, Nat.min_eq_left (Nat.le_of_lt hi)] using hv
          · rw [if_neg (by omega), setR_get]
            simp only [Array.length_toList, List.length_drop, k2]
            rcases Nat.lt_or_ge j i with hlt | hge
            · rw [if_neg (by omega)]
              rw [List.getElem?_append_left (by simp [k2]; omega), List.getElem?_take, if_pos hlt] at hv
              have := cellsAt_cells hcell k1 j v hv
              rw [Array.getElem?_toList]; exact this
            · rw [if_pos (by omega)]
              rw [List.getElem?_append_right (by simp; omega)] at hv
              have e9 : j - (olds.take i).length = (j - i - 1) + 1 := by simp [k2]; omega
              rw [e9, List.getElem?_cons_succ] at hv
              rw [show s.β b + j - (s.β b + (i + 1)) = j - i - 1 by omega]
              exact hv
        · simp only [setR_length, List.size_toArray, Array.length_toList, List.length_append, List.length_take, List.length_cons, List.length_drop, stride, if_true, Nat.mul_one]
          omega
      · simp only [RA]
        refine ⟨_, cap, g + 1, 0, rfl, kd_set_eq _ (kd_lt hkb), Nat.le_refl _, fun _ => ⟨⟨s.β b, by simp [St.shift], by simp [St.shift]⟩, hroom, ?_, fun h => by cases h⟩⟩
        have hcs1 : csize ((s.w.drew.setCells (s.ι b) (s.β b + (i + 1)) (olds.drop i)).setCells (s.ι b) (s.β b + i) [x]) (s.ι b) = c.size := by simp only [csize, hat]; simp [setR_length]
        show (if b = b then _ else _) + (0 + cap) * stride 0 ≤ csize _ (if b = b then _ else _)
        rw [if_pos rfl, if_pos rfl]
        refine Nat.le_trans (m := c.size) ?_ (Nat.le_of_eq hcs1.symm)
        simp only [stride, if_true, Nat.mul_one, Nat.zero_add]
        omega
  · obtain ⟨ROW, G, hG1, hG2, hc⟩ := ins_grow (s.ι b) (s.β b) xs.length cap i (s.ι vb) (s.β vb) vc olds x s.w hi hcap (by omega) (by omega) k2 hcs hx k4 (n4 x (by simp))
    refine hc.mono ?_
    rintro e w' ⟨rfl, rfl, hfst⟩
    have hat0 : (s.w.alloc (.cells ROW 23)).drew.heap[s.w.heap.size]? = some (.cells ROW 23 (0, 0)) := heap_alloc_at s.w _
    have hrest1 := setCells_rest s.w.heap.size [x] i (s.w.alloc (.cells ROW 23)).drew
    have hrest := setCells_rest s.w.heap.size (olds.drop i) (i + 1) (((s.w.alloc (.cells ROW 23)).drew.setCells s.w.heap.size i [x]).drew)
    have hat1 := heap_setCells_at s.w.heap.size 23 (0, 0) [x] i (s.w.alloc (.cells ROW 23)).drew _ hat0
    have hat := heap_setCells_at s.w.heap.size 23 (0, 0) (olds.drop i) (i + 1) (((s.w.alloc (.cells ROW 23)).drew.setCells s.w.heap.size i [x]).drew) _ hat1
    have hsize : ((((s.w.alloc (.cells ROW 23)).drew.setCells s.w.heap.size i [x]).drew).setCells s.w.heap.size (i + 1) (olds.drop i)).heap.size = s.w.heap.size + 1 := by
      rw [hrest.1]
      show ((s.w.alloc (.cells ROW 23)).drew.setCells s.w.heap.size i [x]).heap.size = _
      rw [hrest1.1]
      exact size_alloc _ _
    have hsh : Shifts s b ((((s.w.alloc (.cells ROW 23)).drew.setCells s.w.heap.size i [x]).drew).setCells s.w.heap.size (i + 1) (olds.drop i)) s.w.heap.size :=
      ⟨by simp [live, hb], ⟨g, 0, hkb⟩, by rw [hsize]; exact Nat.le_succ _, fun j hj _ => ((heap_setCells_ne s.w.heap.size j (by omega) (olds.drop i) (i + 1) (((s.w.alloc (.cells ROW 23)).drew.setCells s.w.heap.size i [x]).drew)).trans (heap_setCells_ne s.w.heap.size j (by omega) [x] i (s.w.alloc (.cells ROW 23)).drew)).trans (heap_alloc_lt s.w _ hj), .inr (Nat.le_refl _), by rw [hsize]; exact Nat.lt_succ_self _, hrest.2.1.trans hrest1.2.1, hrest.2.2.1.trans hrest1.2.2.1, hrest.2.2.2.trans hrest1.2.2.2⟩
    have ev := Evo.shift (xs := xs.take i ++ y :: xs.drop i) (o := 0) hs hsh hkb
    refine ⟨_, s.shift b (.arr true (g + 1) 0 (xs.take i ++ y :: xs.drop i)) _ s.w.heap.size 0, .ref b (g + 1) 0 (xs.length + 1) false, rfl, rfl, ev, WF.shift hs hsh hkb ?_, ?_, rfl, rfl⟩
    · simp only [RB, St.shift, if_true]
      refine ⟨_, 23, 0, 0, hat, fun j => by omega, ?_, ?_, fun h => by cases h⟩
      · refine RM_of_row (L := olds.take i ++ x :: olds.drop i) hat ?_ (Row_mono ev.Zm (hs.zkeep ev) hrow)
        intro j v hv
        have hjl := (List.getElem?_eq_some_iff.1 hv).1
        simp only [List.length_append, List.length_take, List.length_cons, List.length_drop, k2] at hjl
        rw [Nat.zero_add, List.getElem?_toArray, setR_get]
        simp only [setR_length, List.length_singleton, Array.length_toList, List.length_drop, k2, List.size_toArray]
        rcases Nat.lt_or_ge i j with hlt | hge
        · rw [if_pos (by omega)]
          rw [List.getElem?_append_right (by simp; omega)] at hv
          have e9 : j - (olds.take i).length = (j - i - 1) + 1 := by simp [k2]; omega
          rw [e9, List.getElem?_cons_succ] at hv
          rw [show j - (i + 1) = j - i - 1 by omega]
          exact hv
        · rw [if_neg (by omega), setR_get]
          simp only [Array.length_toList, List.length_singleton]
          by_cases hji : j = i
          · subst hji
            rw [if_pos (by omega)]
            rw [List.getElem?_append_right (by simp [Nat.min_le_left])] at hv
            simpa [k2, Nat.min_eq_left (Nat.le_of_lt hi)] using hv
          · rw [if_neg (by omega)]
            rw [List.getElem?_append_left (by simp [k2]; omega)] at hv
            rw [Array.getElem?_toList]
            exact hfst j v hv
      · simp only [setR_length, List.size_toArray, Array.length_toList, List.length_append, List.length_take, List.length_cons, List.length_drop, stride, if_true, Nat.mul_one]
        omega
    · simp only [RA]
      refine ⟨_, G, g + 1, 0, rfl, kd_set_eq _ (kd_lt hkb), Nat.le_refl _, fun _ => ⟨⟨0, by simp [St.shift], by simp [St.shift]⟩, hG1, ?_, fun h => by cases h⟩⟩
      have hcs1 : csize ((((s.w.alloc (.cells ROW 23)).drew.setCells s.w.heap.size i [x]).drew).setCells s.w.heap.size (i + 1) (olds.drop i)) s.w.heap.size = ROW.size := by simp only [csize, hat]; simp [setR_length]
      show (if b = b then _ else _) + (0 + G) * stride 0 ≤ csize _ (if b = b then _ else _)
      rw [if_pos rfl, if_pos rfl]
      refine Nat.le_trans (m := ROW.size) ?_ (Nat.le_of_eq hcs1.symm)
      simp only [stride, if_true, Nat.mul_one, Nat.zero_add]
      exact hG2
end Go.Ev.F15
end
section
namespace Go.Ev.F15
open Go.Proofs Go.RowKit Go.Lib Go
set_option linter.all false
set_option maxHeartbeats 4000000 in
set_option maxRecDepth 100000 in
theorem ins_end (base : Option Addr) (n c : Nat) (a2 : Addr) (vc : Nat) (w : World) (r : Value) (w' : World) (hn : base = none → n = 0) (hnc : n ≤ c) (hbig : n < 1000000000000)
    (hrun : (Builtin.append_ #[22, 22] 22 #[.slice base n c, .slice (some a2) 1 vc]).run Try.prog w = .ok r w') :
    Calls Try.prog 22 #[.slice base n c, .int .i64 n, .slice (some a2) 1 vc] w fun e w2 => e = .returned r ∧ w2 = w' := by
  have mixed : Try.prog.follows .mixedOrders = true := by kernel_rfl
  go_enter Try.func22, Try.ntmps22
  cases base with
  | none =>
    obtain rfl := hn rfl
    go_wp2_with (at_builtin; refine Lib.wpList_append_run _ rfl _ _ _ _ rfl _ _ rfl rfl _ _ hrun ?_)
    go_ret
    exact ⟨rfl, rfl⟩
  | some a =>
    obtain ⟨ab, ao, asp⟩ := a
    go_wp2_with (at_builtin; refine Lib.wpList_append_run _ rfl _ _ _ _ rfl _ _ rfl rfl _ _ hrun ?_)
    all_goals (go_ret; exact ⟨rfl, rfl⟩)
/-- 'slices.Insert' of one element. -/
def insSpec (args : List AV) (H : Heap) (Q : AV → Heap → Prop) : Prop := ∃ (i vb gv : Nat) (ex lv : Bool) (y : PV), H[vb]? = some (.arr lv gv 0 [y]) ∧
  ((args = [.nsl, .p (.int .i64 0), .ref vb gv 0 1 ex] ∧ Q (.ref H.length 0 0 1 false) (H ++ [.arr true 0 0 [y]])) ∨
  ∃ (b g : Nat) (xs : List PV), H[b]? = some (.arr true g 0 xs) ∧ vb ≠ b ∧ i ≤ xs.length ∧ xs.length < 1000000000 ∧ args = [.ref b g 0 xs.length false, .p (.int .i64 i), .ref vb gv 0 1 ex] ∧
    Q (.ref b (g + 1) 0 (xs.length + 1) false) (H.set b (.arr true (g + 1) 0 (xs.take i ++ y :: xs.drop i))))
theorem insSpec_mono {args : List AV} {H : Heap} {Q Q' : AV → Heap → Prop} (hq : ∀ v H', Q v H' → Q' v H') (h : insSpec args H Q) : insSpec args H Q' := by
  obtain ⟨i, vb, gv, ex, lv, y, h1, h2⟩ := h
  refine ⟨i, vb, gv, ex, lv, y, h1, ?_⟩
  rcases h2 with ⟨h3, h4⟩ | ⟨b, g, xs, h3, h4, h5, h6, h7, h8⟩
  · exact .inl ⟨h3, hq _ _ h4⟩
  · exact .inr ⟨b, g, xs, h3, h4, h5, h6, h7, hq _ _ h8⟩
theorem itel : telem Try.prog 22 = some (23, 0) := by kernel_rfl
theorem ins_ext {args : List AV} {H : Heap} {Q : AV → Heap → Prop} (h : insSpec args H Q) : CallOK Try.prog 22 args H Q := by
  obtain ⟨i, vb, gv, ex, lv, y, hv, h⟩ := h
  refine ⟨fun vs w => ?_, fun s vs hH hs hr => callsIn_wide.2 ?_⟩
  · have hb : ∃ c, Try.f22.body = some c := Option.isSome_iff_exists.1 (by kernel_rfl)
    obtain ⟨c, hb⟩ := hb
    have hname : Try.f22.name ≠ "runtime.NumGoroutine" := by decide +kernel
    simp [callFunc, Try.func22, hb, hname]
  · subst hH
    have hel : elems s.H 0 (.ref vb gv 0 1 ex) = some [y] := by simp [elems, hv]
    rcases h with ⟨rfl, hq⟩ | ⟨b, g, xs, hb, hne, hi, hbig, rfl, hq⟩
    · simp only [RAs] at hr
      obtain ⟨v0, r0, rfl, h0, v1, r1, rfl, h1, v2, r2, rfl, h2, rfl⟩ := hr
      have hsim := append_ok (P := Try.prog) (t := 22) (u := 22) (ty := 22) (sv := .nsl) (x := .ref vb gv 0 1 ex) (r := (.ref s.H.length 0 0 1 false, s.H ++ [.arr true 0 0 [y]])) hs h0 h2 (by kernel_rfl) (by
        simp only [evAppend, itel, Option.bind_some, hel, List.length_singleton]
        rw [if_pos (by decide +kernel)]
        rfl)
      obtain ⟨v, s', k1, k2, k3, k4, k5⟩ := hsim
      simp only [RA, RP] at h0 h1
      subst h0; subst h1
      simp only [RA] at h2
      obtain ⟨a2, vc, _, _, rfl, _⟩ := h2
      refine (ins_end none 0 0 a2 vc s.w v s'.w (fun _ => rfl) (Nat.le_refl _) (by omega) k1).mono ?_
      rintro e w' ⟨rfl, rfl⟩
      exact ⟨v, s', _, rfl, rfl, k3, k4, k5, by rw [k2]; exact hq⟩
    · simp only [RAs] at hr
      obtain ⟨v0, r0, rfl, h0, v1, r1, rfl, h1, v2, r2, rfl, h2, rfl⟩ := hr
      simp only [RA, RP] at h1
      subst h1
      rcases Nat.lt_or_eq_of_le hi with hlt | rfl
      · refine (ins_ok hs hb hv hne hlt hbig h0 h2).mono ?_
        rintro e w' ⟨v, s', av, k1, k2, k3, k4, k5, rfl, k6⟩
        exact ⟨v, s', _, k1, k2, k3, k4, k5, by rw [k6]; exact hq⟩
      · have hsim := append_ok (P := Try.prog) (t := 22) (u := 22) (ty := 22) (sv := .ref b g 0 xs.length false) (x := .ref vb gv 0 1 ex) (r := (.ref b (g + 1) 0 (xs.length + 1) false, s.H.set b (.arr true (g + 1) 0 (xs ++ [y])))) hs h0 h2 (by kernel_rfl) (by
          have hby : Try.prog.bytesOf 23 = 4 := by decide +kernel
          simp only [evAppend, itel, Option.bind_some, hel, List.length_singleton, hb, hby]
          rw [if_pos (by simp), if_pos (by omega)]
          simp)
        obtain ⟨v, s', k1, k2, k3, k4, k5⟩ := hsim
        simp only [RA] at h0 h2
        obtain ⟨a, cap, g0, sh0, rfl, hk, hle, h0⟩ := h0
        have hkb := kd_of_arr hb
        rw [hkb] at hk
        simp only [Option.some.injEq, Kd.arr.injEq] at hk
        obtain ⟨rfl, rfl⟩ := hk
        obtain ⟨_, hcap, _⟩ := h0 rfl
        obtain ⟨a2, vc, _, _, rfl, _⟩ := h2
        refine (ins_end (some a) xs.length cap a2 vc s.w v s'.w (fun h => by cases h) hcap (by omega) k1).mono ?_
        rintro e w' ⟨rfl, rfl⟩
        refine ⟨v, s', _, rfl, rfl, k3, k4, k5, ?_⟩
        rw [k2]
        simpa using hq
end Go.Ev.F15
end
