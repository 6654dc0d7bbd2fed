/- A part of the proof: walks of the functions that the law calls. No condition. -/
import Derived.Test.YtkabheeblnooaaaPoolB
set_option linter.all false
section
namespace Go.Ev.F28
open Go.Proofs Go.Ev
set_option maxRecDepth 100000
set_option linter.all false
structure Md.wf (m : Md) : Prop where
  nd : (m.L.map (·.n)).Nodup
  rg : ∀ f ∈ m.L, 0 ≤ f.n ∧ f.n < m.W.length
  cl : ∀ f ∈ m.L, f.d = false → m.W[f.n.toNat]? = some f.b
/-- What a page is to those who use it. -/
def see (m : Md) (j : Int) : Option UInt8 := match findF m.L j with
  | some i => (m.L[i]?).map (·.b)
  | none => m.W[j.toNat]?
theorem find_mem {L : List Fr} (nd : (L.map (·.n)).Nodup) {i : Nat} (hi : i < L.length) : findF L L[i].n = some i := by
  unfold findF
  rw [List.findIdx?_eq_some_iff_getElem]
  refine ⟨hi, by simp, fun j hj => ?_⟩
  have hjl : j < L.length := by omega
  have : ¬ L[j].n = L[i].n := fun e => by
    have := nodup_inj nd (i := j) (j := i) (by simpa using hjl) (by simpa using hi) (by simpa using e)
    omega
  simpa using this
theorem see_mem {m : Md} (nd : (m.L.map (·.n)).Nodup) {f : Fr} (hf : f ∈ m.L) : see m f.n = some f.b := by
  obtain ⟨i, hi, rfl⟩ := List.mem_iff_getElem.1 hf
  unfold see
  rw [find_mem nd hi]
  simp [hi]
theorem see_not {m : Md} {j : Int} (h : j ∉ m.L.map (·.n)) : see m j = m.W[j.toNat]? := by
  unfold see; rw [find_none.2 h]
theorem see_of {m : Md} (nd : (m.L.map (·.n)).Nodup) (S : Int → Option UInt8) (h1 : ∀ f ∈ m.L, S f.n = some f.b) (h2 : ∀ j, 0 ≤ j → j ∉ m.L.map (·.n) → m.W[j.toNat]? = S j) : ∀ j, 0 ≤ j → see m j = S j := by
  intro j hj
  by_cases h : j ∈ m.L.map (·.n)
  · obtain ⟨f, hf, rfl⟩ := List.mem_map.1 h
    rw [see_mem nd hf, h1 f hf]
  · rw [see_not h, h2 j hj h]
theorem mem_set {L : List Fr} (nd : (L.map (·.n)).Nodup) {i : Nat} (hi : i < L.length) {x : Fr} {f : Fr} (hf : f ∈ L.set i x) : f = x ∨ (f ∈ L ∧ f.n ≠ L[i].n) := by
  obtain ⟨k, hk, e⟩ := List.mem_iff_getElem.1 hf
  rw [List.getElem_set] at e
  split at e
  · exact .inl e.symm
  · rename_i hik
    have hk' : k < L.length := by simpa using hk
    refine .inr ⟨e ▸ List.getElem_mem hk', fun e2 => hik ?_⟩
    rw [← e] at e2
    exact (nodup_inj nd (i := k) (j := i) (by simpa using hk') (by simpa using hi) (by simpa using e2)).symm
theorem mem_er {L : List Fr} (nd : (L.map (·.n)).Nodup) {i : Nat} (hi : i < L.length) {f : Fr} (hf : f ∈ L.eraseIdx i) : f ∈ L ∧ f.n ≠ L[i].n := by
  obtain ⟨k, hk, hik, e⟩ := List.mem_eraseIdx_iff_getElem.1 hf
  refine ⟨e ▸ List.getElem_mem hk, fun e2 => hik ?_⟩
  rw [← e] at e2
  exact nodup_inj nd (i := k) (j := i) (by simpa using hk) (by simpa using hi) (by simpa using e2)
theorem flushF_ok {m : Md} (h : m.wf) (n : Int) : (flushF m n).1.wf ∧ (∀ j, 0 ≤ j → see (flushF m n).1 j = see m j) ∧ (∀ f ∈ (flushF m n).1.L, f.n = n → f.d = false) ∧
    (∀ f ∈ (flushF m n).1.L, f.d = true → f ∈ m.L) := by
  cases hf : findF m.L n with
  | none =>
    rw [flushF_none hf]
    exact ⟨h, fun _ _ => rfl, fun f hf2 e => absurd (List.mem_map.2 ⟨f, hf2, e⟩) (find_none.1 hf), fun _ h _ => h⟩
  | some i =>
    obtain ⟨hi, hn⟩ := findF_some hf
    have hnn := flushF_n m n
    rw [flushF_some hf hi] at hnn ⊢
    cases hd : m.L[i].d
    · rw [if_pos rfl]
      refine ⟨h, fun _ _ => rfl, fun f hf2 e => ?_, fun _ h _ => h⟩
      obtain ⟨k, hk, rfl⟩ := List.mem_iff_getElem.1 hf2
      have := nodup_inj h.nd (i := k) (j := i) (by simpa using hk) (by simpa using hi) (by simpa using e.trans hn.symm)
      subst this; exact hd
    · rw [hd, if_neg (by decide)] at hnn
      rw [if_neg (by decide)]
      have hr := h.rg _ (List.getElem_mem hi)
      rw [hn] at hr
      have hnd : ({ m with W := belowF m.W n m.L[i].b, L := m.L.set i { m.L[i] with d := false } } : Md).L.map (·.n) = m.L.map (·.n) := hnn
      have hwf : ({ m with W := belowF m.W n m.L[i].b, L := m.L.set i { m.L[i] with d := false } } : Md).wf := by
        refine ⟨by rw [hnd]; exact h.nd, fun f hf => ?_, fun f hf hfd => ?_⟩
        · rcases mem_set h.nd hi hf with rfl | ⟨h1, _⟩
          · simpa [belowF] using h.rg _ (List.getElem_mem hi)
          · simpa [belowF] using h.rg f h1
        · rcases mem_set h.nd hi hf with rfl | ⟨h1, h2⟩
          · show (m.W.set n.toNat m.L[i].b)[m.L[i].n.toNat]? = _
            rw [hn, List.getElem?_set_self (by omega)]
          · have h3 := h.rg f h1
            show (m.W.set n.toNat m.L[i].b)[f.n.toNat]? = _
            rw [List.getElem?_set_ne (by rw [hn] at h2; omega)]
            exact h.cl f h1 hfd
      refine ⟨hwf, see_of hwf.nd (see m) (fun f hf => ?_) (fun j hj hj2 => ?_), fun f hf e => ?_, fun f hf e => ?_⟩
      · rcases mem_set h.nd hi hf with rfl | ⟨h1, _⟩
        · exact see_mem (f := m.L[i]) h.nd (List.getElem_mem hi)
        · exact see_mem h.nd h1
      · rw [hnd] at hj2
        rw [see_not hj2]
        show (m.W.set n.toNat m.L[i].b)[j.toNat]? = _
        rw [List.getElem?_set_ne (fun e => hj2 (List.mem_map.2 ⟨_, List.getElem_mem hi, by rw [hn]; omega⟩))]
      · rcases mem_set h.nd hi hf with rfl | ⟨_, h2⟩
        · rfl
        · exact absurd (e.trans hn.symm) h2
      · rcases mem_set h.nd hi hf with rfl | ⟨h1, _⟩
        · cases e
        · exact h1
theorem allF_ok (ns : List Int) : ∀ {m : Md}, m.wf → (allF m ns).wf ∧ (∀ j, 0 ≤ j → see (allF m ns) j = see m j) ∧ (∀ f ∈ (allF m ns).L, f.n ∈ ns → f.d = false) ∧ (∀ f ∈ (allF m ns).L, f.d = true → f ∈ m.L) := by
  induction ns with
  | nil => intro m h; exact ⟨h, fun _ _ => rfl, (fun f _ h => by cases h), fun _ h _ => h⟩
  | cons n ns ih =>
    intro m h
    obtain ⟨a1, a2, a3, a4⟩ := flushF_ok h n
    obtain ⟨b1, b2, b3, b4⟩ := ih a1
    refine ⟨b1, fun j hj => (b2 j hj).trans (a2 j hj), fun f hf hn => ?_, fun f hf e => a4 f (b4 f hf e) e⟩
    rcases List.mem_cons.1 hn with e | e
    · cases hd : f.d
      · rfl
      · have h1 := b4 f hf hd
        have := a3 f h1 e
        rw [hd] at this; exact this
    · exact b3 f hf e
/-- After all are written, what lies beneath is what all are. -/
theorem allF_W {ns : List Int} {m : Md} (h : m.wf) (hns : ∀ f ∈ m.L, f.n ∈ ns) : (∀ f ∈ (allF m ns).L, f.d = false) ∧ ∀ j, 0 ≤ j → (allF m ns).W[j.toNat]? = see m j := by
  obtain ⟨b1, b2, b3, b4⟩ := allF_ok ns h
  have hd : ∀ f ∈ (allF m ns).L, f.d = false := fun f hf => b3 f hf (by
    have : f.n ∈ (allF m ns).L.map (·.n) := List.mem_map.2 ⟨f, hf, rfl⟩
    rw [allF_n] at this
    obtain ⟨g, hg, e⟩ := List.mem_map.1 this
    rw [← e]; exact hns g hg)
  refine ⟨hd, fun j hj => ?_⟩
  rw [← b2 j hj]
  by_cases hm : j ∈ (allF m ns).L.map (·.n)
  · obtain ⟨f, hf, rfl⟩ := List.mem_map.1 hm
    rw [see_mem b1.nd hf, b1.cl f hf (hd f hf)]
  · rw [see_not hm]
theorem roomF_ok {m : Md} (h : m.wf) : (roomF m).1.wf ∧ (∀ j, 0 ≤ j → see (roomF m).1 j = see m j) ∧ ((roomF m).2 = 0 ∨ (roomF m).2 = 6) ∧ ((roomF m).2 = 6 → (roomF m).1 = m) := by
  by_cases h0 : m.L.length < m.room
  · have e : roomF m = (m, 0) := by unfold roomF; rw [if_pos h0]
    rw [e]; exact ⟨h, fun _ _ => rfl, .inl rfl, fun _ => rfl⟩
  · cases hi : m.L.findIdx? (fun f => f.k == 0) with
    | none =>
      have e : roomF m = (m, 6) := by unfold roomF; rw [if_neg h0, hi]
      rw [e]; exact ⟨h, fun _ _ => rfl, .inr rfl, fun _ => rfl⟩
    | some i =>
      obtain ⟨h1, h2, h3⟩ := List.findIdx?_eq_some_iff_getElem.1 hi
      rw [roomF_some h0 h1 (by simpa using h2) (fun j hj => by simpa using h3 j hj)]
      obtain ⟨a1, a2, a3, a4⟩ := flushF_ok h m.L[i].n
      have hc : (flushF m m.L[i].n).2 = 0 := flushF_code (List.mem_map.2 ⟨_, List.getElem_mem h1, rfl⟩)
      have hl := flushF_len m m.L[i].n
      have hnn := flushF_n m m.L[i].n
      generalize hM : flushF m m.L[i].n = M at *
      obtain ⟨m', c⟩ := M
      dsimp only at *
      have hi' : i < m'.L.length := by omega
      have hni : m'.L[i].n = m.L[i].n := by
        have e1 : (m'.L.map (·.n))[i]? = (m.L.map (·.n))[i]? := by rw [hnn]
        simpa [hi', h1] using e1
      have ew : woF m'.L (i : Int) = m'.L.eraseIdx i := by unfold woF; rw [if_pos (by omega)]; simp
      rw [ew]
      have hwf : ({ m' with L := m'.L.eraseIdx i } : Md).wf := ⟨a1.nd.sublist ((List.eraseIdx_sublist _ _).map _), fun f hf => a1.rg f (List.mem_of_mem_eraseIdx hf), fun f hf => a1.cl f (List.mem_of_mem_eraseIdx hf)⟩
      refine ⟨hwf, fun j hj => ?_, .inl hc, fun e => by rw [hc] at e; cases e⟩
      rw [← a2 j hj]
      refine see_of hwf.nd (see m') (fun f hf => see_mem a1.nd (List.mem_of_mem_eraseIdx hf)) (fun j hj hj2 => ?_) j hj
      by_cases hji : j = m'.L[i].n
      · subst hji
        rw [see_mem a1.nd (List.getElem_mem hi')]
        exact a1.cl _ (List.getElem_mem hi') (a3 _ (List.getElem_mem hi') hni)
      · rw [see_not (fun hm => ?_)]
        obtain ⟨f, hf, e⟩ := List.mem_map.1 hm
        obtain ⟨k, hk, rfl⟩ := List.mem_iff_getElem.1 hf
        refine hj2 (List.mem_map.2 ⟨m'.L[k], List.mem_eraseIdx_iff_getElem.2 ⟨k, hk, fun e2 => hji ?_, rfl⟩, e⟩)
        subst e2; exact e.symm
theorem last_ok {m : Md} (h : m.wf) {i : Nat} (hi : i < m.L.length) (f' : Fr) (hn : f'.n = m.L[i].n) (hc : f'.d = false → m.W[f'.n.toNat]? = some f'.b) : (lastF m i f').wf ∧ ∀ j, 0 ≤ j → see (lastF m i f') j = if j = f'.n then some f'.b else see m j := by
  have eL : (lastF m i f').L = m.L.eraseIdx i ++ [f'] := by
    show woF m.L i ++ [f'] = _
    unfold woF; rw [if_pos (by omega)]; simp
  have hperm := last_perm (·.n) (x := f') hi hn
  have hmem : ∀ f ∈ (lastF m i f').L, f = f' ∨ (f ∈ m.L ∧ f.n ≠ m.L[i].n) := fun f hf => by
    rw [eL, List.mem_append, List.mem_singleton] at hf
    exact hf.symm.imp_right (mem_er h.nd hi)
  have hwf : (lastF m i f').wf := by
    refine ⟨by rw [eL]; exact hperm.nodup_iff.2 h.nd, fun f hf => ?_, fun f hf hd => ?_⟩
    · rcases hmem f hf with rfl | ⟨h1, _⟩
      · rw [hn]; exact h.rg _ (List.getElem_mem hi)
      · exact h.rg f h1
    · rcases hmem f hf with rfl | ⟨h1, _⟩
      · exact hc hd
      · exact h.cl f h1 hd
  refine ⟨hwf, see_of hwf.nd _ (fun f hf => ?_) (fun j hj hj2 => ?_)⟩
  · rcases hmem f hf with rfl | ⟨h1, h2⟩
    · rw [if_pos rfl]
    · rw [if_neg (by rw [hn]; exact h2)]; exact see_mem h.nd h1
  · rw [eL] at hj2
    have h3 : j ∉ m.L.map (·.n) := fun e => hj2 (hperm.mem_iff.2 e)
    rw [if_neg (fun e => hj2 (by rw [e]; simp)), see_not h3]; rfl
theorem putF_ok {m : Md} (h : m.wf) (n : Int) (b : UInt8) : (putF m n b).1.wf ∧ ((putF m n b).2 = 0 → ∀ j, 0 ≤ j → see (putF m n b).1 j = if j = n then some b else see m j) ∧ ((putF m n b).2 ≠ 0 → (putF m n b).1 = m) := by
  cases hf : findF m.L n with
  | none => rw [putF_none hf]; exact ⟨h, (fun e => by cases e), fun _ => rfl⟩
  | some i =>
    obtain ⟨hi, hn⟩ := findF_some hf
    rw [putF_some hf hi]
    by_cases hk : m.L[i].k = 0
    · rw [if_pos hk]; exact ⟨h, (fun e => by cases e), fun _ => rfl⟩
    · rw [if_neg hk]
      obtain ⟨a1, a2⟩ := last_ok h hi { m.L[i] with b := b, d := m.L[i].d || !(decide (m.L[i].b = b)) } rfl (fun hd => by
        dsimp only at hd ⊢
        have h1 : m.L[i].d = false := by cases hx : m.L[i].d <;> simp [hx] at hd ⊢
        have h2 : m.L[i].b = b := by simpa [h1] using hd
        rw [← h2]
        exact h.cl _ (List.getElem_mem hi) h1)
      refine ⟨a1, fun _ j hj => ?_, fun e => absurd rfl e⟩
      rw [a2 j hj]
      dsimp only
      rw [hn]
theorem unpinF_ok {m : Md} (h : m.wf) (n : Int) : (unpinF m n).1.wf ∧ ∀ j, 0 ≤ j → see (unpinF m n).1 j = see m j := by
  cases hf : findF m.L n with
  | none => rw [unpinF_none hf]; exact ⟨h, fun _ _ => rfl⟩
  | some i =>
    obtain ⟨hi, hn⟩ := findF_some hf
    rw [unpinF_some hf hi]
    by_cases hk : m.L[i].k = 0
    · rw [if_pos hk]; exact ⟨h, fun _ _ => rfl⟩
    · rw [if_neg hk]
      have hnd : ({ m with L := m.L.set i { m.L[i] with k := m.L[i].k - 1 } } : Md).L.map (·.n) = m.L.map (·.n) := set_map (x := { m.L[i] with k := m.L[i].k - 1 }) (·.n) hi rfl
      have hwf : ({ m with L := m.L.set i { m.L[i] with k := m.L[i].k - 1 } } : Md).wf := by
        refine ⟨by rw [hnd]; exact h.nd, fun f hf => ?_, fun f hf hd => ?_⟩
        · rcases mem_set h.nd hi hf with rfl | ⟨h1, _⟩
          · exact h.rg m.L[i] (List.getElem_mem hi)
          · exact h.rg f h1
        · rcases mem_set h.nd hi hf with rfl | ⟨h1, _⟩
          · exact h.cl m.L[i] (List.getElem_mem hi) hd
          · exact h.cl f h1 hd
      refine ⟨hwf, see_of hwf.nd (see m) (fun f hf => ?_) (fun j hj hj2 => ?_)⟩
      · rcases mem_set h.nd hi hf with rfl | ⟨h1, _⟩
        · exact see_mem (f := m.L[i]) h.nd (List.getElem_mem hi)
        · exact see_mem h.nd h1
      · rw [hnd] at hj2; rw [see_not hj2]
theorem pinF_ok {m : Md} (h : m.wf) (n : Int) : (pinF m n).1.wf ∧ (∀ j, 0 ≤ j → see (pinF m n).1 j = see m j) ∧ ((pinF m n).2.2 = 0 → see m n = some (pinF m n).2.1 ∧ ∃ f ∈ (pinF m n).1.L, f.n = n ∧ 1 ≤ f.k) := by
  cases hf : findF m.L n with
  | some i =>
    obtain ⟨hi, hn⟩ := findF_some hf
    rw [pinF_some hf hi]
    obtain ⟨a1, a2⟩ := last_ok (m := { m with met := m.met + 1 }) ⟨h.nd, h.rg, h.cl⟩ hi { m.L[i] with k := m.L[i].k + 1 } rfl (fun hd => h.cl m.L[i] (List.getElem_mem hi) hd)
    refine ⟨a1, fun j hj => ?_, fun _ => ⟨by rw [← hn]; exact see_mem h.nd (List.getElem_mem hi), _, List.mem_append_right _ (List.mem_singleton.2 rfl), hn, by dsimp only; omega⟩⟩
    rw [a2 j hj]
    split
    · rename_i e
      subst e; exact (see_mem h.nd (List.getElem_mem hi)).symm
    · rfl
  | none =>
    rw [pinF_none hf]
    obtain ⟨a1, a2, a3, a4⟩ := roomF_ok (m := { m with miss := m.miss + 1 }) ⟨h.nd, h.rg, h.cl⟩
    have r2 := roomF_len { m with miss := m.miss + 1 }
    have r3 := roomF_n (m := { m with miss := m.miss + 1 }) hf
    generalize roomF { m with miss := m.miss + 1 } = R at *
    obtain ⟨m', c⟩ := R
    dsimp only at *
    by_cases hc : c = 0
    · subst hc
      rw [if_neg (by simp)]
      by_cases hb : n < 0 ∨ (m.W.length : Int) ≤ n
      · rw [if_pos hb]
        exact ⟨a1, a2, (fun e => by cases e)⟩
      · rw [if_neg hb]
        have hnW : n.toNat < m'.W.length := by omega
        have hgd : m'.W[n.toNat]? = some (m'.W.getD n.toNat 0) := by simp [hnW]
        generalize m'.W.getD n.toNat 0 = b at *
        have hnot : n ∉ m'.L.map (·.n) := find_none.1 r3
        have hwf : ({ m' with L := m'.L ++ [⟨n, b, 1, false⟩] } : Md).wf := by
          refine ⟨?_, fun f hf => ?_, fun f hf hd => ?_⟩
          · rw [List.map_append, List.nodup_append]
            refine ⟨a1.nd, by simp, fun x hx y hy e => ?_⟩
            simp only [List.map_singleton, List.mem_singleton] at hy
            subst hy; subst e; exact hnot hx
          · rw [List.mem_append, List.mem_singleton] at hf
            rcases hf with hf | rfl
            · exact a1.rg f hf
            · dsimp only; omega
          · rw [List.mem_append, List.mem_singleton] at hf
            rcases hf with hf | rfl
            · exact a1.cl f hf hd
            · exact hgd
        have hsn : see m' n = some b := by rw [see_not hnot]; exact hgd
        refine ⟨hwf, fun j hj => ?_, fun _ => ⟨?_, _, List.mem_append_right _ (List.mem_singleton.2 rfl), rfl, Nat.le_refl _⟩⟩
        · rw [show see m j = see m' j from (a2 j hj).symm]
          refine see_of hwf.nd (see m') (fun f hf => ?_) (fun j hj hj2 => ?_) j hj
          · rw [List.mem_append, List.mem_singleton] at hf
            rcases hf with hf | rfl
            · exact see_mem a1.nd hf
            · exact hsn
          · rw [see_not (fun hm => hj2 (by rw [List.map_append]; exact List.mem_append_left _ hm))]
        · have := a2 n (by omega)
          rw [hsn] at this
          exact this.symm
    · rw [if_pos hc]
      exact ⟨a1, a2, (fun e => absurd e hc)⟩
end Go.Ev.F28
end
section
namespace Go.Ev.F28
open Go.Proofs Go.Ev
set_option maxRecDepth 100000
set_option linter.all false
theorem Keep.track {c : Pos} {H H' : Heap} {X X' : List Fx} {i : Nat} {x : Blk} (k : Keep c H H' X X') (hb : H[i]? = some x) (hf : i ∉ Foot c X) : H'[i]? = some x ∧ i ∉ Foot c X' := by
  have hl := (List.getElem?_eq_some_iff.1 hb).1
  exact ⟨(k.same i hl hf).trans hb, fun h => (k.q i h).elim hf (by omega)⟩
theorem sort_eq : ∀ {a b : List Int}, a.Pairwise (· < ·) → b.Pairwise (· < ·) → a.Perm b → a = b
  | [], b, _, _, h => (List.nil_perm.1 h).symm
  | x :: a, [], _, _, h => absurd (List.perm_nil.1 h) (by simp)
  | x :: a, y :: b, ha, hb, h => by
    rw [List.pairwise_cons] at ha hb
    have h1 : x ∈ y :: b := h.mem_iff.1 (List.mem_cons_self)
    have h2 : y ∈ x :: a := h.mem_iff.2 (List.mem_cons_self)
    have hxy : x = y := by
      rcases List.mem_cons.1 h1 with e | e
      · exact e
      · rcases List.mem_cons.1 h2 with e2 | e2
        · exact e2.symm
        · have := hb.1 x e; have := ha.1 y e2; omega
    subst hxy
    rw [sort_eq ha.2 hb.2 ((List.perm_cons _).1 h)]
def m0 : Md := ⟨2, [], [100, 101, 102, 103], 0, 0⟩
def m1 : Md := ⟨2, [⟨1, 101, 1, false⟩], [100, 101, 102, 103], 0, 1⟩
def m2 : Md := ⟨2, [⟨1, 101, 1, false⟩, ⟨2, 102, 1, false⟩], [100, 101, 102, 103], 0, 2⟩
def m3 : Md := ⟨2, [⟨1, 101, 1, false⟩, ⟨2, 102, 1, false⟩], [100, 101, 102, 103], 0, 3⟩
def m4 : Md := ⟨2, [⟨2, 102, 1, false⟩, ⟨1, 7, 1, true⟩], [100, 101, 102, 103], 0, 3⟩
def m5 : Md := ⟨2, [⟨2, 102, 1, false⟩, ⟨1, 7, 0, true⟩], [100, 101, 102, 103], 0, 3⟩
def m6 : Md := ⟨2, [⟨2, 102, 1, false⟩, ⟨3, 103, 1, false⟩], [100, 7, 102, 103], 0, 4⟩
def m7 : Md := ⟨2, [⟨3, 103, 1, false⟩, ⟨2, 103, 1, true⟩], [100, 7, 102, 103], 1, 4⟩
def m8 : Md := ⟨2, [⟨3, 103, 1, false⟩, ⟨2, 103, 1, false⟩], [100, 7, 103, 103], 1, 4⟩
theorem e0 : W0 4 = [100, 101, 102, 103] := rfl
theorem e1 : pinF m0 1 = (m1, 101, 0) := rfl
theorem e2 : pinF m1 2 = (m2, 102, 0) := rfl
theorem e3 : pinF m2 3 = (m3, 0, 6) := rfl
theorem e4 : putF m3 1 7 = (m4, 0) := rfl
theorem e5 : dirtyF m4 1 = true := rfl
theorem e6 : unpinF m4 1 = (m5, 0) := rfl
theorem e7 : unpinF m5 1 = (m5, 10) := rfl
theorem e8 : pinF m5 3 = (m6, 103, 0) := rfl
theorem e9 : unpinF m6 1 = (m6, 7) := rfl
theorem e10 : withF m6 2 (fun b => b + 1) = (m7, 0) := rfl
theorem e11 : allF m7 [2, 3] = m8 := rfl
theorem e12 : pinsF m8 2 = 1 := rfl
theorem e13 : flushF m8 9 = (m8, 7) := rfl
theorem x1 : pinW m0 1 = 0 := rfl
theorem x2 : pinW m1 2 = 0 := rfl
theorem x3 : pinW m2 3 = 0 := rfl
theorem x8 : pinW m5 3 = 1 := rfl
theorem x10 : pinW m6 2 = 0 := rfl
theorem x11 : allW m7 [2, 3] = 1 := rfl
theorem w24z (H : Heap) (Q : AV → Heap → Prop) (hq : Q (.p (.tup [.nptr, I 2])) H) : (Ev.W Cf okf).call 24 [.p (I 0), .p .nfn, .p .nfn] H Q := by
  refine top_mk extMono Try.func24 body24 (by decide) rfl ?_
  simp only [c24, Try.f24, Option.getD_some]
  simp -implicitDefEqProofs -dsimp (maxSteps := 1000000) (disch := first | omega | (simp only [wkLen]; omega) | decide +kernel) only [↓wkPre, ↓wkPre2, ↓wkE, wkPost, wkDef, wkF, simprocAttr]
  exact hq
theorem pg1 : (pgs [100, 7, 103, 103])[1]? = some (pgP 7) := rfl
theorem pg2 : (pgs [100, 7, 103, 103])[2]? = some (pgP 103) := rfl
theorem pgl : (pgs [100, 7, 103, 103]).length = 4 := rfl
theorem is1 : (isL [2, 3])[1]? = some (I 3) := rfl
theorem isl : (isL [2, 3]).length = 2 := rfl
theorem tn7 : ((7 : UInt8).toNat : Int) = 7 := rfl
theorem tn101 : ((101 : UInt8).toNat : Int) = 101 := rfl
theorem tn103 : ((103 : UInt8).toNat : Int) = 103 := rfl
set_option maxHeartbeats 2000000 in
theorem p6 : PS Cf okf 6 [4] [] (fun r => r = B true) := by
  refine PS.mk extMono Try.func6 body6 (by decide) rfl ?_
  simp only [c6, Try.f6, Option.getD_some, List.append_eq, List.cons_append, List.nil_append]
  simp -implicitDefEqProofs -dsimp (maxSteps := 1000000) (disch := first | omega | (simp only [wkLen]; omega) | decide +kernel) only [↓wkPre, ↓wkPre2, ↓wkE, wkPost, wkDef, wkF, simprocAttr]
  refine imp_call md_7 (w7 2 4 (by omega) (by omega) (by omega) (by omega) _ (fun H0 c hI0 => ?_))
  rw [e0] at hI0
  obtain ⟨g0, b0, b0'⟩ := hI0.ben
  simp -implicitDefEqProofs -dsimp (maxSteps := 1000000) (disch := first | omega | (simp only [wkLen]; omega) | decide +kernel) only [↓wkPre, ↓wkPre2, ↓wkE, wkPost, wkDef, wkF, simprocAttr, b0, nn_v, nn_fn, List.length_map, pgL_len, allP_map, take_pg, take_pgm, get0, get1, get2, getm0, getm1, getm2, get00, getm00, setm0, setm1, setm2, setm00, setR_pg, setR_pg1, flat_pg, flatL_app, eq_pg]
  refine imp_call md_10 (w10 (m := m0) hI0 1 (by omega) (by omega) (by decide) (by decide) (by decide) _ ?_)
  intro H1 X1 t1 w1 hI1 ht1 hw1 hK1
  rw [e1] at hI1 ⊢
  rw [x1] at hw1
  simp -implicitDefEqProofs -dsimp (maxSteps := 1000000) (disch := first | omega | (simp only [wkLen]; omega) | decide +kernel) only [↓wkPre, ↓wkPre2, ↓wkE, wkPost, wkDef, wkF, simprocAttr, nn_v, nn_fn, List.length_map, pgL_len, allP_map, take_pg, take_pgm, get0, get1, get2, getm0, getm1, getm2, get00, getm00, setm0, setm1, setm2, setm00, setR_pg, setR_pg1, flat_pg, flatL_app, eq_pg]
  have hf1 : H1.length ∉ Foot c X1 := fun h => by have := hI1.lt _ h; omega
  have hG1 := hI1.app [.var true (.p (pgP 101))]
  have kx1 : (H1 ++ [Blk.var true (AV.p (pgP 101))])[H1.length]? = some (.var true (.p (pgP 101))) := by simp
  generalize H1 ++ [Blk.var true (AV.p (pgP 101))] = G1 at hG1 kx1
  refine imp_call md_10 (w10 (m := m1) hG1 2 (by omega) (by omega) (by decide) (by decide) (by decide) _ ?_)
  intro H2 X2 t2 w2 hI2 ht2 hw2 hK2
  rw [e2] at hI2 ⊢
  rw [x2] at hw2
  obtain ⟨kx2, hf2⟩ := hK2.track kx1 hf1
  simp -implicitDefEqProofs -dsimp (maxSteps := 1000000) (disch := first | omega | (simp only [wkLen]; omega) | decide +kernel) only [↓wkPre, ↓wkPre2, ↓wkE, wkPost, wkDef, wkF, simprocAttr, nn_v, nn_fn, List.length_map, pgL_len, allP_map, take_pg, take_pgm, get0, get1, get2, getm0, getm1, getm2, get00, getm00, setm0, setm1, setm2, setm00, setR_pg, setR_pg1, flat_pg, flatL_app, eq_pg]
  refine imp_call md_10 (w10 (m := m2) hI2 3 (by omega) (by omega) (by decide) (by decide) (by decide) _ ?_)
  intro H3 X3 t3 w3 hI3 ht3 hw3 hK3
  rw [e3] at hI3 ⊢
  rw [x3] at hw3
  obtain ⟨kx3, hf3⟩ := hK3.track kx2 hf2
  simp -implicitDefEqProofs -dsimp (maxSteps := 1000000) (disch := first | omega | (simp only [wkLen]; omega) | decide +kernel) only [↓wkPre, ↓wkPre2, ↓wkE, wkPost, wkDef, wkF, simprocAttr, nn_v, nn_fn, List.length_map, pgL_len, allP_map, take_pg, take_pgm, get0, get1, get2, getm0, getm1, getm2, get00, getm00, setm0, setm1, setm2, setm00, setR_pg, setR_pg1, flat_pg, flatL_app, eq_pg]
  have hG3 := hI3.app [.var true (.p (pgP 0))]
  replace kx3 : (H3 ++ [Blk.var true (AV.p (pgP 0))])[H1.length]? = some (.var true (.p (pgP 101))) := by rw [hs_app (List.getElem?_eq_some_iff.1 kx3).1]; exact kx3
  generalize H3 ++ [Blk.var true (AV.p (pgP 0))] = G3 at hG3 kx3
  refine PS.app md_12 Try.func12 (p12 7) rfl ?_
  rintro _ rfl
  simp -implicitDefEqProofs -dsimp (maxSteps := 1000000) (disch := first | omega | (simp only [wkLen]; omega) | decide +kernel) only [↓wkPre, ↓wkPre2, ↓wkE, wkPost, wkDef, wkF, simprocAttr, nn_v, nn_fn, List.length_map, pgL_len, allP_map, take_pg, take_pgm, get0, get1, get2, getm0, getm1, getm2, get00, getm00, setm0, setm1, setm2, setm00, setR_pg, setR_pg1, flat_pg, flatL_app, eq_pg]
  refine imp_call md_11 (w11 (m := m3) hG3 1 7 (by omega) _ ?_)
  intro H4 X4 t4 hI4 ht4 hK4
  rw [e4] at hI4 ⊢
  obtain ⟨kx4, hf4⟩ := hK4.track kx3 hf3
  simp -implicitDefEqProofs -dsimp (maxSteps := 1000000) (disch := first | omega | (simp only [wkLen]; omega) | decide +kernel) only [↓wkPre, ↓wkPre2, ↓wkE, wkPost, wkDef, wkF, simprocAttr, nn_v, nn_fn, List.length_map, pgL_len, allP_map, take_pg, take_pgm, get0, get1, get2, getm0, getm1, getm2, get00, getm00, setm0, setm1, setm2, setm00, setR_pg, setR_pg1, flat_pg, flatL_app, eq_pg]
  refine imp_call md_17 (w17 (m := m4) hI4 1 _ ?_)
  rw [e5]
  simp -implicitDefEqProofs -dsimp (maxSteps := 1000000) (disch := first | omega | (simp only [wkLen]; omega) | decide +kernel) only [↓wkPre, ↓wkPre2, ↓wkE, wkPost, wkDef, wkF, simprocAttr, nn_v, nn_fn, List.length_map, pgL_len, allP_map, take_pg, take_pgm, get0, get1, get2, getm0, getm1, getm2, get00, getm00, setm0, setm1, setm2, setm00, setR_pg, setR_pg1, flat_pg, flatL_app, eq_pg]
  refine imp_call md_15 (w15 (m := m4) hI4 1 _ ?_)
  intro H5 X5 hI5 hK5
  rw [e6] at hI5 ⊢
  obtain ⟨kx5, hf5⟩ := hK5.track kx4 hf4
  simp -implicitDefEqProofs -dsimp (maxSteps := 1000000) (disch := first | omega | (simp only [wkLen]; omega) | decide +kernel) only [↓wkPre, ↓wkPre2, ↓wkE, wkPost, wkDef, wkF, simprocAttr, nn_v, nn_fn, List.length_map, pgL_len, allP_map, take_pg, take_pgm, get0, get1, get2, getm0, getm1, getm2, get00, getm00, setm0, setm1, setm2, setm00, setR_pg, setR_pg1, flat_pg, flatL_app, eq_pg]
  refine imp_call md_15 (w15 (m := m5) hI5 1 _ ?_)
  intro H6 X6 hI6 hK6
  rw [e7] at hI6 ⊢
  obtain ⟨kx6, hf6⟩ := hK6.track kx5 hf5
  simp -implicitDefEqProofs -dsimp (maxSteps := 1000000) (disch := first | omega | (simp only [wkLen]; omega) | decide +kernel) only [↓wkPre, ↓wkPre2, ↓wkE, wkPost, wkDef, wkF, simprocAttr, nn_v, nn_fn, List.length_map, pgL_len, allP_map, take_pg, take_pgm, get0, get1, get2, getm0, getm1, getm2, get00, getm00, setm0, setm1, setm2, setm00, setR_pg, setR_pg1, flat_pg, flatL_app, eq_pg]
  refine imp_call md_10 (w10 (m := m5) hI6 3 (by omega) (by omega) (by decide) (by decide) (by decide) _ ?_)
  intro H7 X7 t7 w7 hI7 ht7 hw7 hK7
  rw [e8] at hI7 ⊢
  rw [x8] at hw7
  obtain ⟨kx7, hf7⟩ := hK7.track kx6 hf6
  simp -implicitDefEqProofs -dsimp (maxSteps := 1000000) (disch := first | omega | (simp only [wkLen]; omega) | decide +kernel) only [↓wkPre, ↓wkPre2, ↓wkE, wkPost, wkDef, wkF, simprocAttr, nn_v, nn_fn, List.length_map, pgL_len, allP_map, take_pg, take_pgm, get0, get1, get2, getm0, getm1, getm2, get00, getm00, setm0, setm1, setm2, setm00, setR_pg, setR_pg1, flat_pg, flatL_app, eq_pg]
  have hG7 := hI7.app [.var true (.p (pgP 103))]
  replace kx7 : (H7 ++ [Blk.var true (AV.p (pgP 103))])[H1.length]? = some (.var true (.p (pgP 101))) := by rw [hs_app (List.getElem?_eq_some_iff.1 kx7).1]; exact kx7
  generalize H7 ++ [Blk.var true (AV.p (pgP 103))] = G7 at hG7 kx7
  refine imp_call md_15 (w15 (m := m6) hG7 1 _ ?_)
  intro H8 X8 hI8 hK8
  rw [e9] at hI8 ⊢
  obtain ⟨kx8, hf8⟩ := hK8.track kx7 hf7
  simp -implicitDefEqProofs -dsimp (maxSteps := 1000000) (disch := first | omega | (simp only [wkLen]; omega) | decide +kernel) only [↓wkPre, ↓wkPre2, ↓wkE, wkPost, wkDef, wkF, simprocAttr, nn_v, nn_fn, List.length_map, pgL_len, allP_map, take_pg, take_pgm, get0, get1, get2, getm0, getm1, getm2, get00, getm00, setm0, setm1, setm2, setm00, setR_pg, setR_pg1, flat_pg, flatL_app, eq_pg]
  refine imp_call md_13 (w13p (m := m6) hI8 2 22 (fun b => b + 1) md_22 (fun b H2 k _ _ hk => w22 H2 b k hk) (by omega) (by omega) (by decide) (by decide) (by decide) _ ?_)
  intro H9 X9 t9 w9 hI9 ht9 hw9 hK9
  rw [e10] at hI9 ⊢
  rw [x10] at hw9
  obtain ⟨kx9, hf9⟩ := hK9.track kx8 hf8
  simp -implicitDefEqProofs -dsimp (maxSteps := 1000000) (disch := first | omega | (simp only [wkLen]; omega) | decide +kernel) only [↓wkPre, ↓wkPre2, ↓wkE, wkPost, wkDef, wkF, simprocAttr, nn_v, nn_fn, List.length_map, pgL_len, allP_map, take_pg, take_pgm, get0, get1, get2, getm0, getm1, getm2, get00, getm00, setm0, setm1, setm2, setm00, setR_pg, setR_pg1, flat_pg, flatL_app, eq_pg]
  refine imp_call md_23 (w23 (m := m7) hI9 _ ?_)
  simp -implicitDefEqProofs -dsimp (maxSteps := 1000000) (disch := first | omega | (simp only [wkLen]; omega) | decide +kernel) only [↓wkPre, ↓wkPre2, ↓wkE, wkPost, wkDef, wkF, simprocAttr, nn_v, nn_fn, List.length_map, pgL_len, allP_map, take_pg, take_pgm, get0, get1, get2, getm0, getm1, getm2, get00, getm00, setm0, setm1, setm2, setm00, setR_pg, setR_pg1, flat_pg, flatL_app, eq_pg]
  refine imp_call md_19 (w19 (m := m7) hI9 (by decide) _ ?_)
  intro R v HA hR1 hR2 hown hvb hfr hle
  have hR : R = [2, 3] := sort_eq hR1 (by decide) (hR2.trans (by decide))
  subst hR
  have hIA := hI9.keep (fun i hi => hfr i (hI9.lt i hi))
  have kxA : HA[H1.length]? = some (.var true (.p (pgP 101))) := (hfr _ (List.getElem?_eq_some_iff.1 kx9).1).trans kx9
  rcases hown with ⟨_, hx⟩ | ⟨bv, gv, rfl, hbv⟩
  · cases hx
  have hbv2 := hvb bv rfl
  have hfv : bv ∉ Foot c X9 := fun h => by have := hI9.lt _ h; omega
  simp -implicitDefEqProofs -dsimp (maxSteps := 1000000) (disch := first | omega | (simp only [wkLen]; omega) | decide +kernel) only [↓wkPre, ↓wkPre2, ↓wkE, wkPost, wkDef, wkF, simprocAttr, nn_v, nn_fn, List.length_map, pgL_len, allP_map, take_pg, take_pgm, get0, get1, get2, getm0, getm1, getm2, get00, getm00, setm0, setm1, setm2, setm00, setR_pg, setR_pg1, flat_pg, flatL_app, eq_pg]
  refine imp_call md_16 (w16 (m := m7) hIA (by decide) (by omega) _ ?_)
  intro HB R XB wB hR1 hR2 hIB hwB hKB
  have hR : R = [2, 3] := sort_eq hR1 (by decide) (hR2.trans (by decide))
  subst hR
  rw [e11] at hIB
  rw [x11] at hwB
  obtain ⟨kxB, hfB⟩ := hKB.track kxA hf9
  obtain ⟨kvB, hfvB⟩ := hKB.track hbv hfv
  simp -implicitDefEqProofs -dsimp (maxSteps := 1000000) (disch := first | omega | (simp only [wkLen]; omega) | decide +kernel) only [↓wkPre, ↓wkPre2, ↓wkE, wkPost, wkDef, wkF, simprocAttr, nn_v, nn_fn, List.length_map, pgL_len, allP_map, take_pg, take_pgm, get0, get1, get2, getm0, getm1, getm2, get00, getm00, setm0, setm1, setm2, setm00, setR_pg, setR_pg1, flat_pg, flatL_app, eq_pg]
  refine imp_call md_24 (w24z HB _ ?_)
  have hwB : wB = 2 := by omega
  subst hwB
  obtain ⟨gB, bB, bB'⟩ := hIB.ben
  have bB2 : HB[c.bb]? = some (benB c gB 4 2) := bB
  have bB2' : HB[c.ab]? = some (.arr true gB 224 (pgs [100, 7, 103, 103])) := bB'
  simp -implicitDefEqProofs -dsimp (maxSteps := 1000000) (disch := first | omega | (simp only [wkLen]; omega) | decide +kernel) only [↓wkPre, ↓wkPre2, ↓wkE, wkPost, wkDef, wkF, simprocAttr, kxB, bB2, bB2', kvB, isl, is1, pg1, pg2, pgl, tn7, tn101, tn103, nn_v, nn_fn, List.length_map, pgL_len, allP_map, take_pg, take_pgm, get0, get1, get2, getm0, getm1, getm2, get00, getm00, setm0, setm1, setm2, setm00, setR_pg, setR_pg1, flat_pg, flatL_app, eq_pg]
  refine imp_call md_18 (w18 hIB _ ?_)
  rw [show m8.L.length = 2 from rfl]
  simp -implicitDefEqProofs -dsimp (maxSteps := 1000000) (disch := first | omega | (simp only [wkLen]; omega) | decide +kernel) only [↓wkPre, ↓wkPre2, ↓wkE, wkPost, wkDef, wkF, simprocAttr, nn_v, nn_fn, List.length_map, pgL_len, allP_map, take_pg, take_pgm, get0, get1, get2, getm0, getm1, getm2, get00, getm00, setm0, setm1, setm2, setm00, setR_pg, setR_pg1, flat_pg, flatL_app, eq_pg]
  refine imp_call md_21 (w21 hIB 2 _ ?_)
  rw [e12]
  simp -implicitDefEqProofs -dsimp (maxSteps := 1000000) (disch := first | omega | (simp only [wkLen]; omega) | decide +kernel) only [↓wkPre, ↓wkPre2, ↓wkE, wkPost, wkDef, wkF, simprocAttr, nn_v, nn_fn, List.length_map, pgL_len, allP_map, take_pg, take_pgm, get0, get1, get2, getm0, getm1, getm2, get00, getm00, setm0, setm1, setm2, setm00, setR_pg, setR_pg1, flat_pg, flatL_app, eq_pg]
  refine imp_call md_20 (w20 hIB 9 (by omega) _ ?_)
  intro HC XC wC hIC hwC hKC _
  rw [e13]
  simp -implicitDefEqProofs -dsimp (maxSteps := 1000000) (disch := first | omega | (simp only [wkLen]; omega) | decide +kernel) only [↓wkPre, ↓wkPre2, ↓wkE, wkPost, wkDef, wkF, simprocAttr, nn_v, nn_fn, List.length_map, pgL_len, allP_map, take_pg, take_pgm, get0, get1, get2, getm0, getm1, getm2, get00, getm00, setm0, setm1, setm2, setm00, setR_pg, setR_pg1, flat_pg, flatL_app, eq_pg]
end Go.Ev.F28
end
section
namespace Go.Ev.F28
open Go.Proofs Go.Ev
set_option maxRecDepth 100000
set_option linter.all false
/-- Nothing is counted further than that. -/
structure Bd (m : Md) (T : Nat) : Prop where
  met : m.met ≤ T
  miss : m.miss ≤ T
  k : ∀ f ∈ m.L, f.k ≤ T
theorem Bd.mono {m : Md} {T T' : Nat} (h : Bd m T) (hT : T ≤ T') : Bd m T' := ⟨by have := h.met; omega, by have := h.miss; omega, fun f hf => by have := h.k f hf; omega⟩
theorem set_mem {L : List Fr} {i : Nat} {x f : Fr} (hi : i < L.length) (hf : f ∈ L.set i x) : f = x ∨ f ∈ L := by
  obtain ⟨k, hk, e⟩ := List.mem_iff_getElem.1 hf
  rw [List.getElem_set] at e
  split at e
  · exact .inl e.symm
  · exact .inr (e ▸ List.getElem_mem (by simpa using hk))
theorem mem_set' {L : List Fr} {i : Nat} {x f : Fr} (hi : i < L.length) (hf : f ∈ L) : f = L[i] ∨ f ∈ L.set i x := by
  obtain ⟨k, hk, e⟩ := List.mem_iff_getElem.1 hf
  by_cases hik : i = k
  · subst hik; exact .inl e.symm
  · refine .inr (List.mem_iff_getElem.2 ⟨k, by simpa using hk, ?_⟩)
    rw [List.getElem_set, if_neg hik]; exact e
theorem mem_er' {L : List Fr} {i : Nat} {f : Fr} (hi : i < L.length) (hf : f ∈ L) : f = L[i] ∨ f ∈ L.eraseIdx i := by
  obtain ⟨k, hk, e⟩ := List.mem_iff_getElem.1 hf
  by_cases hik : k = i
  · subst hik; exact .inl e.symm
  · exact .inr (List.mem_eraseIdx_iff_getElem.2 ⟨k, hk, hik, e⟩)
theorem self_set {L : List Fr} {i : Nat} {x : Fr} (hi : i < L.length) : x ∈ L.set i x :=
  List.mem_iff_getElem.2 ⟨i, by simpa using hi, by simp⟩
theorem lastL {m : Md} {i : Nat} {f' : Fr} : (lastF m i f').L = m.L.eraseIdx i ++ [f'] := by
  show woF m.L i ++ [f'] = _
  unfold woF; rw [if_pos (by omega)]; simp
theorem flushF_k (m : Md) (n : Int) : (∀ f ∈ (flushF m n).1.L, ∃ g ∈ m.L, f.n = g.n ∧ f.k = g.k) ∧ ∀ f ∈ m.L, ∃ g ∈ (flushF m n).1.L, g.n = f.n ∧ g.k = f.k := by
  cases hf : findF m.L n with
  | none => rw [flushF_none hf]; exact ⟨fun f hf => ⟨f, hf, rfl, rfl⟩, fun f hf => ⟨f, hf, rfl, rfl⟩⟩
  | some i =>
    obtain ⟨hi, hn⟩ := findF_some hf
    rw [flushF_some hf hi]
    split
    · exact ⟨fun f hf => ⟨f, hf, rfl, rfl⟩, fun f hf => ⟨f, hf, rfl, rfl⟩⟩
    · refine ⟨fun f hf => ?_, fun f hf => ?_⟩
      · rcases set_mem hi hf with rfl | h
        · exact ⟨m.L[i], List.getElem_mem hi, rfl, rfl⟩
        · exact ⟨f, h, rfl, rfl⟩
      · rcases mem_set' (x := { m.L[i] with d := false }) hi hf with rfl | h
        · exact ⟨_, self_set hi, rfl, rfl⟩
        · exact ⟨f, h, rfl, rfl⟩
theorem flushF_bd {m : Md} {T : Nat} (h : Bd m T) (n : Int) : Bd (flushF m n).1 T := by
  obtain ⟨_, h2, h3⟩ := flushF_same m n
  refine ⟨by rw [h2]; exact h.met, by rw [h3]; exact h.miss, fun f hf => ?_⟩
  obtain ⟨g, hg, _, e⟩ := (flushF_k m n).1 f hf
  rw [e]; exact h.k g hg
theorem allF_bd (ns : List Int) : ∀ {m : Md} {T : Nat}, Bd m T → Bd (allF m ns) T := by
  induction ns with
  | nil => intro m T h; exact h
  | cons n ns ih => intro m T h; exact ih (flushF_bd h n)
theorem roomF_k (m : Md) : (∀ f ∈ (roomF m).1.L, ∃ g ∈ m.L, f.n = g.n ∧ f.k = g.k) ∧ ∀ f ∈ m.L, 1 ≤ f.k → ∃ g ∈ (roomF m).1.L, g.n = f.n ∧ g.k = f.k := by
  by_cases h0 : m.L.length < m.room
  · have e : roomF m = (m, 0) := by unfold roomF; rw [if_pos h0]
    rw [e]; exact ⟨fun f hf => ⟨f, hf, rfl, rfl⟩, fun f hf _ => ⟨f, hf, rfl, rfl⟩⟩
  · cases hi : m.L.findIdx? (fun f => f.k == 0) with
    | none =>
      have e : roomF m = (m, 6) := by unfold roomF; rw [if_neg h0, hi]
      rw [e]; exact ⟨fun f hf => ⟨f, hf, rfl, rfl⟩, fun f hf _ => ⟨f, hf, rfl, rfl⟩⟩
    | some i =>
      obtain ⟨h1, h2, h3⟩ := List.findIdx?_eq_some_iff_getElem.1 hi
      have hk0 : m.L[i].k = 0 := by simpa using h2
      rw [roomF_some h0 h1 hk0 (fun j hj => by simpa using h3 j hj)]
      have hl := flushF_len m m.L[i].n
      have hnn := flushF_n m m.L[i].n
      obtain ⟨a1, a2⟩ := flushF_k m m.L[i].n
      have ew : ∀ l : List Fr, woF l (i : Int) = l.eraseIdx i := fun l => by unfold woF; rw [if_pos (by omega)]; simp
      dsimp only
      rw [ew]
      refine ⟨fun f hf => a1 f (List.mem_of_mem_eraseIdx hf), fun f hf hk => ?_⟩
      obtain ⟨g, hg, e1, e2⟩ := a2 f hf
      have hi' : i < (flushF m m.L[i].n).1.L.length := by omega
      rcases mem_er' hi' hg with rfl | h
      · have hkk : (flushF m m.L[i].n).1.L[i].k = m.L[i].k := by
          cases hfd : findF m.L m.L[i].n with
          | none => exact absurd (List.mem_map.2 ⟨_, List.getElem_mem h1, rfl⟩) (find_none.1 hfd)
          | some j =>
            obtain ⟨hj, _⟩ := findF_some hfd
            have e : ∀ (l : List Fr) (hl : i < l.length), l = (flushF m m.L[i].n).1.L → (flushF m m.L[i].n).1.L[i].k = l[i].k := fun l hl e => by subst e; rfl
            have hfs := flushF_some hfd hj
            by_cases hd : m.L[j].d = false
            · rw [if_pos hd] at hfs
              rw [e m.L h1 (by rw [hfs])]
            · rw [if_neg hd] at hfs
              rw [e (m.L.set j { m.L[j] with d := false }) (by simpa using h1) (by rw [hfs])]
              rw [List.getElem_set]
              split
              · rename_i hji; subst hji; rfl
              · rfl
        omega
      · exact ⟨g, h, e1, e2⟩
theorem pinF_k (m : Md) (n : Int) : (∀ f ∈ (pinF m n).1.L, f.k ≤ 1 ∨ ∃ g ∈ m.L, f.k ≤ g.k + 1) ∧ ∀ f ∈ m.L, 1 ≤ f.k → ∃ g ∈ (pinF m n).1.L, g.n = f.n ∧ f.k ≤ g.k := by
  cases hf : findF m.L n with
  | some i =>
    obtain ⟨hi, hn⟩ := findF_some hf
    rw [pinF_some hf hi]
    dsimp only
    rw [lastL]
    dsimp only
    refine ⟨fun f hf => ?_, fun f hf _ => ?_⟩
    · rw [List.mem_append, List.mem_singleton] at hf
      rcases hf with hf | rfl
      · exact .inr ⟨f, List.mem_of_mem_eraseIdx hf, by omega⟩
      · exact .inr ⟨m.L[i], List.getElem_mem hi, Nat.le_refl _⟩
    · rcases mem_er' hi hf with rfl | h
      · exact ⟨_, List.mem_append_right _ (List.mem_singleton.2 rfl), rfl, by dsimp only; omega⟩
      · exact ⟨f, List.mem_append_left _ h, rfl, Nat.le_refl _⟩
  | none =>
    rw [pinF_none hf]
    obtain ⟨a1, a2⟩ := roomF_k { m with miss := m.miss + 1 }
    generalize roomF { m with miss := m.miss + 1 } = R at *
    obtain ⟨m', c⟩ := R
    dsimp only at *
    have b1 : ∀ f ∈ m'.L, f.k ≤ 1 ∨ ∃ g ∈ m.L, f.k ≤ g.k + 1 := fun f hf => by
      obtain ⟨g, hg, _, e⟩ := a1 f hf
      exact .inr ⟨g, hg, by omega⟩
    have b2 : ∀ f ∈ m.L, 1 ≤ f.k → ∃ g ∈ m'.L, g.n = f.n ∧ f.k ≤ g.k := fun f hf hk => by
      obtain ⟨g, hg, e1, e2⟩ := a2 f hf hk
      exact ⟨g, hg, e1, by omega⟩
    split
    · exact ⟨b1, b2⟩
    · split
      · exact ⟨b1, b2⟩
      · refine ⟨fun f hf => ?_, fun f hf hk => ?_⟩
        · rw [List.mem_append, List.mem_singleton] at hf
          rcases hf with hf | rfl
          · exact b1 f hf
          · exact .inl (Nat.le_refl _)
        · obtain ⟨g, hg, e⟩ := b2 f hf hk
          exact ⟨g, List.mem_append_left _ hg, e⟩
theorem pinF_bd {m : Md} {T : Nat} (h : Bd m T) (n : Int) : Bd (pinF m n).1 (T + 1) := by
  have hk : ∀ f ∈ (pinF m n).1.L, f.k ≤ T + 1 := fun f hf => by
    rcases (pinF_k m n).1 f hf with h1 | ⟨g, hg, h1⟩
    · omega
    · have := h.k g hg; omega
  have hm := h.met
  have hs := h.miss
  cases hf : findF m.L n with
  | some i =>
    obtain ⟨hi, hn⟩ := findF_some hf
    rw [pinF_some hf hi] at hk ⊢
    exact ⟨by show m.met + 1 ≤ T + 1; omega, by show m.miss ≤ T + 1; omega, hk⟩
  | none =>
    obtain ⟨_, r2, r3⟩ := roomF_same { m with miss := m.miss + 1 }
    rw [pinF_none hf] at hk ⊢
    generalize roomF { m with miss := m.miss + 1 } = R at *
    obtain ⟨m', c⟩ := R
    dsimp only at *
    refine ⟨?_, ?_, hk⟩
    · split
      · dsimp only; omega
      · split <;> (dsimp only; omega)
    · split
      · dsimp only; omega
      · split <;> (dsimp only; omega)
theorem unpinF_bd {m : Md} {T : Nat} (h : Bd m T) (n : Int) : Bd (unpinF m n).1 T := by
  cases hf : findF m.L n with
  | none => rw [unpinF_none hf]; exact h
  | some i =>
    obtain ⟨hi, hn⟩ := findF_some hf
    rw [unpinF_some hf hi]
    split
    · exact h
    · refine ⟨h.met, h.miss, fun f hf => ?_⟩
      rcases set_mem hi hf with rfl | h1
      · have := h.k _ (List.getElem_mem hi)
        dsimp only; omega
      · exact h.k f h1
theorem unpinF_ne {m : Md} {n : Int} {f : Fr} (hf : f ∈ m.L) (hn : f.n ≠ n) : f ∈ (unpinF m n).1.L := by
  cases hfd : findF m.L n with
  | none => rw [unpinF_none hfd]; exact hf
  | some i =>
    obtain ⟨hi, hn2⟩ := findF_some hfd
    rw [unpinF_some hfd hi]
    split
    · exact hf
    · rcases mem_set' (x := { m.L[i] with k := m.L[i].k - 1 }) hi hf with rfl | h1
      · exact absurd hn2 hn
      · exact h1
theorem putF_bd {m : Md} {T : Nat} (h : Bd m T) (n : Int) (b : UInt8) : Bd (putF m n b).1 T := by
  cases hf : findF m.L n with
  | none => rw [putF_none hf]; exact h
  | some i =>
    obtain ⟨hi, hn⟩ := findF_some hf
    rw [putF_some hf hi]
    split
    · exact h
    · refine ⟨h.met, h.miss, fun f hf => ?_⟩
      dsimp only at hf
      rw [lastL, List.mem_append, List.mem_singleton] at hf
      rcases hf with hf | rfl
      · exact h.k f (List.mem_of_mem_eraseIdx hf)
      · exact h.k m.L[i] (List.getElem_mem hi)
theorem pins_mem {m : Md} (nd : (m.L.map (·.n)).Nodup) {f : Fr} (hf : f ∈ m.L) : pinsF m f.n = f.k := by
  obtain ⟨i, hi, rfl⟩ := List.mem_iff_getElem.1 hf
  unfold pinsF
  rw [find_mem nd hi]
  simp [hi]
theorem dirty_mem {m : Md} (nd : (m.L.map (·.n)).Nodup) {f : Fr} (hf : f ∈ m.L) : dirtyF m f.n = f.d := by
  obtain ⟨i, hi, rfl⟩ := List.mem_iff_getElem.1 hf
  unfold dirtyF
  rw [find_mem nd hi]
  simp [hi]
/-- No frame is free: it stays as it is, but for the count. -/
theorem pinF_full {m : Md} (hw : m.wf) {n : Int} (h : (pinF m n).2.2 = 6) : (pinF m n).1.L = m.L ∧ ¬ m.L.length < m.room := by
  cases hf : findF m.L n with
  | some i =>
    obtain ⟨hi, hn⟩ := findF_some hf
    rw [pinF_some hf hi] at h; cases h
  | none =>
    rw [pinF_none hf] at h ⊢
    obtain ⟨_, _, a3, a4⟩ := roomF_ok (m := { m with miss := m.miss + 1 }) ⟨hw.nd, hw.rg, hw.cl⟩
    by_cases hc : (roomF { m with miss := m.miss + 1 }).2 = 0
    · rw [if_neg (by simpa using hc)] at h
      split at h <;> cases h
    · have h6 := a3.resolve_left hc
      rw [if_pos hc, a4 h6]
      refine ⟨rfl, fun hl => ?_⟩
      have e : roomF { m with miss := m.miss + 1 } = ({ m with miss := m.miss + 1 }, 0) := by unfold roomF; rw [if_pos hl]
      rw [e] at hc; exact hc rfl
/-- What never changes: how many frames there are at most, how many pages lie beneath. -/
def Sh (m m' : Md) : Prop := m'.room = m.room ∧ m'.W.length = m.W.length
theorem Sh.trans {a b c : Md} (h : Sh a b) (k : Sh b c) : Sh a c := ⟨k.1.trans h.1, k.2.trans h.2⟩
theorem flushF_sh (m : Md) (n : Int) : Sh m (flushF m n).1 := ⟨(flushF_same m n).1, flushF_Wlen m n⟩
theorem allF_sh (ns : List Int) : ∀ (m : Md), Sh m (allF m ns) := by
  induction ns with
  | nil => intro m; exact ⟨rfl, rfl⟩
  | cons n ns ih => intro m; exact (flushF_sh m n).trans (ih _)
theorem roomF_sh (m : Md) : Sh m (roomF m).1 := ⟨(roomF_same m).1, (roomF_len m).2⟩
theorem pinF_sh (m : Md) (n : Int) : Sh m (pinF m n).1 := by
  cases hf : findF m.L n with
  | some i =>
    obtain ⟨hi, hn⟩ := findF_some hf
    rw [pinF_some hf hi]; exact ⟨rfl, rfl⟩
  | none =>
    rw [pinF_none hf]
    have h := roomF_sh { m with miss := m.miss + 1 }
    split
    · exact h
    · split <;> exact h
theorem unpinF_sh (m : Md) (n : Int) : Sh m (unpinF m n).1 := by
  cases hf : findF m.L n with
  | none => rw [unpinF_none hf]; exact ⟨rfl, rfl⟩
  | some i =>
    obtain ⟨hi, hn⟩ := findF_some hf
    rw [unpinF_some hf hi]
    split <;> exact ⟨rfl, rfl⟩
theorem putF_sh (m : Md) (n : Int) (b : UInt8) : Sh m (putF m n b).1 := by
  cases hf : findF m.L n with
  | none => rw [putF_none hf]; exact ⟨rfl, rfl⟩
  | some i =>
    obtain ⟨hi, hn⟩ := findF_some hf
    rw [putF_some hf hi]
    split <;> exact ⟨rfl, rfl⟩
theorem withF_sh (m : Md) (n : Int) (g : UInt8 → UInt8) : Sh m (withF m n g).1 := by
  unfold withF
  split
  · exact pinF_sh m n
  · exact ((pinF_sh m n).trans (putF_sh _ _ _)).trans (unpinF_sh _ _)
theorem withF_bd {m : Md} {T : Nat} (h : Bd m T) (n : Int) (g : UInt8 → UInt8) : Bd (withF m n g).1 (T + 1) := by
  unfold withF
  split
  · exact pinF_bd h n
  · exact unpinF_bd (putF_bd (pinF_bd h n) _ _) _
theorem pinF_new {k : Nat} {room : Nat} (h1 : 1 ≤ room) {n : Int} (h0 : 0 ≤ n) (hn : n < k) : (pinF ⟨room, [], W0 k, 0, 0⟩ n).2.2 = 0 := by
  have hf : findF ([] : List Fr) n = none := rfl
  have hr : roomF ⟨room, [], W0 k, 0, 0 + 1⟩ = (⟨room, [], W0 k, 0, 0 + 1⟩, 0) := by unfold roomF; rw [if_pos (by simp; omega)]
  rw [pinF_none hf, hr]
  rw [if_neg (by simp), if_neg (by simp [W0_len]; omega)]
end Go.Ev.F28
end
