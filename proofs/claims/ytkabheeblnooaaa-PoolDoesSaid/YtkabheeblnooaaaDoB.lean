/- A part of the proof: walks of the functions that the law calls. No condition. -/
import Derived.Test.YtkabheeblnooaaaDoA
import Derived.Test.YtkabheeblnooaaaLawD
set_option linter.all false
section
namespace Go.Ev.F28
open Go.Proofs Go.Ev
set_option maxRecDepth 100000
set_option linter.all false
/-- What an act keeps, but for rows that are no longer written. -/
structure KeepV (c : Pos) (H H' : Heap) (X X' : List Fx) : Prop where
  len : H.length ≤ H'.length
  var : ∀ (i : Nat) x, H[i]? = some (.var true x) → i ∉ Foot c X → H'[i]? = some (.var true x)
  q : ∀ i ∈ Foot c X', i ∈ Foot c X ∨ H.length ≤ i
theorem Keep.toV {c : Pos} {H H' : Heap} {X X' : List Fx} (k : Keep c H H' X X') : KeepV c H H' X X' :=
  ⟨k.len, fun i x h hf => (k.same i (List.getElem?_eq_some_iff.1 h).1 hf).trans h, k.q⟩
theorem KeepV.trans {c : Pos} {H H1 H2 : Heap} {X X1 X2 : List Fx} (a : KeepV c H H1 X X1) (b : KeepV c H1 H2 X1 X2) : KeepV c H H2 X X2 where
  len := Nat.le_trans a.len b.len
  var i x h hf := b.var i x (a.var i x h hf) (fun h2 => (a.q i h2).elim hf (fun h3 => by have := (List.getElem?_eq_some_iff.1 h).1; omega))
  q i h := (b.q i h).elim (fun h => a.q i h) (fun h => .inr (by have := a.len; omega))
theorem KeepV.track {c : Pos} {H H' : Heap} {X X' : List Fx} {i : Nat} {x : AV} (k : KeepV c H H' X X') (hb : H[i]? = some (.var true x)) (hf : i ∉ Foot c X) : H'[i]? = some (.var true x) ∧ i ∉ Foot c X' :=
  ⟨k.var i x hb hf, fun h => (k.q i h).elim hf (fun h2 => by have := (List.getElem?_eq_some_iff.1 hb).1; omega)⟩
theorem KeepV.app {c : Pos} {H l : Heap} {X : List Fx} : KeepV c H (H ++ l) X X :=
  ⟨by simp, fun i x h _ => (hs_app (List.getElem?_eq_some_iff.1 h).1).trans h, fun i h => .inl h⟩
/-- A block ahead of the heap's old end is not of the old heap. -/
theorem KeepV.set {c : Pos} {H H1 : Heap} {X X1 : List Fx} (k : KeepV c H H1 X X1) {i : Nat} {y : Blk} (hi : H.length ≤ i) : KeepV c H (H1.set i y) X X1 :=
  ⟨by have := k.len; simpa using this, fun j x h hf => (hs_ne (by have := (List.getElem?_eq_some_iff.1 h).1; omega)).trans (k.var j x h hf), k.q⟩
theorem MV.app {H : Heap} {F : List Nat} {v : AV} {m : Md} (h : MV H F v m) (l : Heap) : MV (H ++ l) F v m :=
  h.keep (fun i hi => .inl hi) (fun i l' g s xs _ hb => ⟨l', (hs_app (List.getElem?_eq_some_iff.1 hb).1).trans hb⟩)
def doF (m : Md) (o : Op3) : Md :=
  if o.k = 0 ∨ o.k = 1 ∨ o.k = 2 then (pinF m o.n).1
  else if o.k = 3 then (unpinF m o.n).1
  else if o.k = 4 then (putF m o.n o.b).1
  else if o.k = 5 then (flushF m o.n).1
  else if o.k = 6 then allF m (m.L.map (·.n))
  else (withF m o.n (fun b => b + o.b)).1
theorem allF_clr (ns : List Int) : ∀ (m : Md), (allF m ns).L.map (fun f => { f with d := false }) = m.L.map (fun f => { f with d := false }) := by
  induction ns with
  | nil => intro m; rfl
  | cons n ns ih =>
    intro m
    show (allF (flushF m n).1 ns).L.map _ = _
    rw [ih]
    cases hf : findF m.L n with
    | none => rw [flushF_none hf]
    | some i =>
      obtain ⟨hi, _⟩ := findF_some hf
      rw [flushF_some hf hi]
      split
      · rfl
      · exact set_map (fun f : Fr => ({ f with d := false } : Fr)) (x := { m.L[i] with d := false }) hi rfl
theorem allF_same (ns : List Int) : ∀ (m : Md), (allF m ns).room = m.room ∧ (allF m ns).met = m.met ∧ (allF m ns).miss = m.miss := by
  induction ns with
  | nil => intro m; exact ⟨rfl, rfl, rfl⟩
  | cons n ns ih =>
    intro m
    obtain ⟨a1, a2, a3⟩ := ih (flushF m n).1
    obtain ⟨b1, b2, b3⟩ := flushF_same m n
    exact ⟨a1.trans b1, a2.trans b2, a3.trans b3⟩
/-- In whatever order all are written. -/
theorem allF_eq {m : Md} (hw : m.wf) {ns ks : List Int} (h1 : ∀ f ∈ m.L, f.n ∈ ns) (h2 : ∀ f ∈ m.L, f.n ∈ ks) : allF m ns = allF m ks := by
  have hL : ∀ ns, (∀ f ∈ m.L, f.n ∈ ns) → (allF m ns).L = m.L.map (fun f => { f with d := false }) := fun ns h => by
    rw [← allF_clr ns m]
    have hd := (allF_W hw h).1
    rw [List.map_congr_left (g := id)]
    · simp
    · intro f hf
      have := hd f hf
      cases f; simp at this ⊢; exact this
  have hW : ∀ ns, (∀ f ∈ m.L, f.n ∈ ns) → ∀ j : Nat, (allF m ns).W[j]? = see m j := fun ns h j => (allF_W hw h).2 j (by omega)
  obtain ⟨a1, a2, a3⟩ := allF_same ns m
  obtain ⟨b1, b2, b3⟩ := allF_same ks m
  have e1 : (allF m ns).L = (allF m ks).L := (hL ns h1).trans (hL ks h2).symm
  have e2 : (allF m ns).W = (allF m ks).W := List.ext_getElem? (fun j => (hW ns h1 j).trans (hW ks h2 j).symm)
  have e3 := a1.trans b1.symm
  have e4 := a2.trans b2.symm
  have e5 := a3.trans b3.symm
  generalize allF m ns = A at *
  generalize allF m ks = B at *
  obtain ⟨_, _, _, _, _⟩ := A
  obtain ⟨_, _, _, _, _⟩ := B
  dsimp only at *
  subst e1; subst e2; subst e3; subst e4; subst e5; rfl
theorem flushF_mok {m : Md} (h : m.ok) (n : Int) : (flushF m n).1.ok := by
  obtain ⟨a1, a2, a3⟩ := flushF_same m n
  refine ⟨by rw [a1]; exact h.room, by rw [flushF_len]; exact h.L, by rw [flushF_Wlen]; exact h.W, by rw [a2]; exact h.met, by rw [a3]; exact h.miss, fun f hf => ?_, fun f hf => ?_⟩
  · obtain ⟨g, hg, _, e⟩ := (flushF_k m n).1 f hf
    rw [e]; exact h.k g hg
  · obtain ⟨g, hg, e, _⟩ := (flushF_k m n).1 f hf
    rw [e, flushF_Wlen]; exact h.n g hg
theorem allF_mok (ns : List Int) : ∀ {m : Md}, m.ok → (allF m ns).ok := by
  induction ns with
  | nil => intro m h; exact h
  | cons n ns ih => intro m h; exact ih (flushF_mok h n)
theorem stepsF {m : Md} (hok : m.ok) : ∃ A : Nat → Md, A 0 = m ∧ A m.L.length = allF m (m.L.map (·.n)) ∧ (∀ i (h : i < m.L.length), (flushF (A i) m.L[i].n).1 = A (i + 1)) ∧ ∀ i, (A i).ok := by
  have hnl : (m.L.map (·.n)).length = m.L.length := by simp
  refine ⟨fun i => allF m ((m.L.map (·.n)).take i), rfl, by dsimp only; rw [List.take_of_length_le (by omega)], fun i h => ?_, fun i => allF_mok _ hok⟩
  dsimp only
  rw [List.take_succ_eq_append_getElem (by omega), allF_snoc]
  simp
theorem roomF_mok {m : Md} (h : m.ok) : (roomF m).1.ok := by
  obtain ⟨a1, a2, a3⟩ := roomF_same m
  obtain ⟨b1, b2⟩ := roomF_len m
  refine ⟨by rw [a1]; exact h.room, by have := h.L; omega, by rw [b2]; exact h.W, by rw [a2]; exact h.met, by rw [a3]; exact h.miss, fun f hf => ?_, fun f hf => ?_⟩
  · obtain ⟨g, hg, _, e⟩ := (roomF_k m).1 f hf
    rw [e]; exact h.k g hg
  · obtain ⟨g, hg, e, _⟩ := (roomF_k m).1 f hf
    rw [e, b2]; exact h.n g hg
theorem lastF_mok {m : Md} (h : m.ok) {i : Nat} (hi : i < m.L.length) {f' : Fr} (hn : f'.n = m.L[i].n) (hk : f'.k ≤ 100000) : (lastF m i f').ok := by
  refine ⟨h.room, ?_, h.W, h.met, h.miss, fun f hf => ?_, fun f hf => ?_⟩
  · rw [lastL, List.length_append, List.length_eraseIdx, if_pos hi, List.length_singleton]
    have := h.L
    omega
  · rw [lastL, List.mem_append, List.mem_singleton] at hf
    rcases hf with hf | rfl
    · exact h.k f (List.mem_of_mem_eraseIdx hf)
    · exact hk
  · rw [lastL, List.mem_append, List.mem_singleton] at hf
    rcases hf with hf | rfl
    · exact h.n f (List.mem_of_mem_eraseIdx hf)
    · rw [hn]; exact h.n _ (List.getElem_mem hi)
theorem pinF_mok {m : Md} (h : m.ok) (hfull : m.L.length ≤ m.room) (hm : m.met + 1 ≤ 100000) (hs : m.miss + 1 ≤ 100000) (hk1 : ∀ f ∈ m.L, f.k + 1 ≤ 100000) (n : Int) : (pinF m n).1.ok := by
  cases hf : findF m.L n with
  | some i =>
    obtain ⟨hi, hn⟩ := findF_some hf
    rw [pinF_some hf hi]
    exact lastF_mok (m := { m with met := m.met + 1 }) ⟨h.room, h.L, h.W, hm, h.miss, h.k, h.n⟩ hi rfl (hk1 _ (List.getElem_mem hi))
  | none =>
    rw [pinF_none hf]
    have h' : Md.ok { m with miss := m.miss + 1 } := ⟨h.room, h.L, h.W, h.met, hs, h.k, h.n⟩
    have a1 := roomF_mok h'
    have a2 := fun e => roomF_lt (m := { m with miss := m.miss + 1 }) e hfull
    have a3 := roomF_sh { m with miss := m.miss + 1 }
    have hr := h.room
    generalize roomF { m with miss := m.miss + 1 } = R at *
    obtain ⟨m', c⟩ := R
    dsimp only at *
    obtain ⟨a4, a5⟩ := a3
    dsimp only at a4 a5
    split
    · exact a1
    · rename_i hc
      have hc : c = 0 := by simpa using hc
      have := a2 hc
      split
      · exact a1
      · rename_i hb
        refine ⟨a1.room, by simp; omega, a1.W, a1.met, a1.miss, fun f hf => ?_, fun f hf => ?_⟩
        · rw [List.mem_append, List.mem_singleton] at hf
          rcases hf with hf | rfl
          · exact a1.k f hf
          · show 1 ≤ 100000
            omega
        · rw [List.mem_append, List.mem_singleton] at hf
          rcases hf with hf | rfl
          · exact a1.n f hf
          · dsimp only; omega
theorem putF_mok {m : Md} (h : m.ok) (n : Int) (b : UInt8) : (putF m n b).1.ok := by
  cases hf : findF m.L n with
  | none => rw [putF_none hf]; exact h
  | some i =>
    obtain ⟨hi, hn⟩ := findF_some hf
    rw [putF_some hf hi]
    split
    · exact h
    · exact lastF_mok h hi rfl (h.k m.L[i] (List.getElem_mem hi))
section
variable {H : Heap} {c : Pos} {m : Md} {X : List Fx} {t w : Nat}
set_option maxHeartbeats 4000000 in
theorem w8 (hI : Inv H c m X t w) (hwf : m.wf) (hr : m.room < 50) (T : Nat) (hT : T ≤ 10000) (hbd : Bd m T) (ht : t ≤ 10000) (hw : w ≤ 10000) (v : AV) (hv : MV H (Foot c X) v m) (o : Op3) (Q : AV → Heap → Prop)
    (hq : ∀ v' H' X' t' w', Inv H' c (doF m o) X' t' w' → MV H' (Foot c X') v' (doF m o) → t' ≤ t + 2 → w' ≤ w + 50 → KeepV c H H' X X' → Q (mkTup [v', .p (B true)]) H') : (Ev.W Cf okf).call 8 [.vptr c.pp 0, v, .p (opV o)] H Q := by
  refine top_mk extMono Try.func8 body8 (by decide) rfl ?_
  simp only [c8, Try.f8, Option.getD_some]
  obtain ⟨s5, sU, sS, _⟩ := hv.facts
  obtain ⟨ok, on, ob⟩ := o
  have hok := hI.ok
  have hG := hI.app [.var true v, .var true (.p (opP ok on ob)), .var true (.agg [.p (I 0), .nsl, .nsl, .p (I 0), .p (I 0)])]
  have hvG := hv.app [.var true v, .var true (.p (opP ok on ob)), .var true (.agg [.p (I 0), .nsl, .nsl, .p (I 0), .p (I 0)])]
  have kV : KeepV c H (H ++ [.var true v, .var true (.p (opP ok on ob)), .var true (.agg [.p (I 0), .nsl, .nsl, .p (I 0), .p (I 0)])]) X X := KeepV.app
  have g0 : (H ++ [.var true v, .var true (.p (opP ok on ob)), .var true (.agg [.p (I 0), .nsl, .nsl, .p (I 0), .p (I 0)])])[H.length]? = some (.var true v) := by simp
  have g1 : (H ++ [.var true v, .var true (.p (opP ok on ob)), .var true (.agg [.p (I 0), .nsl, .nsl, .p (I 0), .p (I 0)])])[H.length + 1]? = some (.var true (.p (opP ok on ob))) := by rw [List.getElem?_append_right (by omega)]; simp
  have g2 : (H ++ [.var true v, .var true (.p (opP ok on ob)), .var true (.agg [.p (I 0), .nsl, .nsl, .p (I 0), .p (I 0)])])[H.length + 2]? = some (.var true (.agg [.p (I 0), .nsl, .nsl, .p (I 0), .p (I 0)])) := by rw [List.getElem?_append_right (by omega)]; simp
  have f0 : H.length ∉ Foot c X := fun h => by have := hI.lt _ h; omega
  have f1 : H.length + 1 ∉ Foot c X := fun h => by have := hI.lt _ h; omega
  have f2 : H.length + 2 ∉ Foot c X := fun h => by have := hI.lt _ h; omega
  generalize hG2 : H ++ [Blk.var true v, Blk.var true (.p (opP ok on ob)), Blk.var true (.agg [.p (I 0), .nsl, .nsl, .p (I 0), .p (I 0)])] = G at hG hvG kV g0 g1 g2
  have hG3 : H ++ [Blk.var true v, Blk.var true (.p (.agg [I ok, I on, .int .u8 ob.toNat])), Blk.var true (.agg [.p (I 0), .nsl, .nsl, .p (I 0), .p (I 0)])] = G := hG2
  by_cases hk0 : ok = 0
  · subst hk0
    have hdo : doF m ⟨0, on, ob⟩ = (pinF m on).1 := by unfold doF; rw [if_pos (by simp)]
    rw [hdo] at hq
    simp -implicitDefEqProofs -dsimp (maxSteps := 1000000) (disch := first | omega | (simp only [wkLen]; omega) | decide +kernel) only [↓wkPre, ↓wkPre2, ↓wkE, wkPost, wkDef, wkF, simprocAttr, hG3, s5, sU, sS, g0, g1, g2, nn_v, nn_fn, List.length_map, pgL_len, allP_map, take_pg, take_pgm, get0, get1, get2, getm0, getm1, getm2, get00, getm00, setm0, setm1, setm2, setm00, setR_pg, setR_pg1, flat_pg, flatL_app, eq_pg]
    refine imp_call md_10 (w10 hG on (by omega) (by omega) (by have := hbd.met; omega) (by have := hbd.miss; omega) (fun f hf => by have := hbd.k f hf; omega) _ ?_)
    intro H1 X1 t1 w1 hI1 ht1 hw1 hK1
    have p27' := p27 m on hok (by have := hbd.met; omega) (by have := hbd.miss; omega) (fun f hf => by have := hbd.k f hf; omega)
    have hpw := pinW_le m on
    generalize pinF m on = P at *
    obtain ⟨m3, b3, c3⟩ := P
    dsimp only at *
    have hv1 := (hvG.keep' hK1).app [.var true (.p (pgP b3))]
    have kV1 := kV.trans (hK1.toV.trans (KeepV.app (l := [.var true (.p (pgP b3))])))
    have hI1' := hI1.app [.var true (.p (pgP b3))]
    have kA := hK1.toV.trans (KeepV.app (l := [.var true (.p (pgP b3))]))
    obtain ⟨g0', f0'⟩ := kA.track g0 f0
    obtain ⟨g1', f1'⟩ := kA.track g1 f1
    obtain ⟨g2', f2'⟩ := kA.track g2 f2
    have gp : (H1 ++ [Blk.var true (.p (pgP b3))])[H1.length]? = some (.var true (.p (pgP b3))) := by simp
    simp -implicitDefEqProofs -dsimp (maxSteps := 1000000) (disch := first | omega | (simp only [wkLen]; omega) | decide +kernel) only [↓wkPre, ↓wkPre2, ↓wkE, wkPost, wkDef, wkF, simprocAttr, s5, sU, sS, g0', g1', g2', gp, nn_v, nn_fn, List.length_map, pgL_len, allP_map, take_pg, take_pgm, get0, get1, get2, getm0, getm1, getm2, get00, getm00, setm0, setm1, setm2, setm00, setR_pg, setR_pg1, flat_pg, flatL_app, eq_pg]
    refine MV.call (pr := [I on]) hv1 md_27 Try.func27 p27' rfl rfl ?_
    rintro _ H2 rfl hl2 hF2 hV2 hv2
    have hI2 := hI1'.keep hF2
    have g02 := hV2 _ _ g0'
    have g12 := hV2 _ _ g1'
    have g22 := hV2 _ _ g2'
    have gp2 := hV2 _ _ gp
    have a2 : ∀ l : Heap, (H2 ++ l)[H.length + 2]? = some (.var true (.agg [.p (I 0), .nsl, .nsl, .p (I 0), .p (I 0)])) := fun l => (hs_app (List.getElem?_eq_some_iff.1 g22).1).trans g22
    have ap : ∀ l : Heap, (H2 ++ l)[H1.length]? = some (.var true (.p (pgP b3))) := fun l => (hs_app (List.getElem?_eq_some_iff.1 gp2).1).trans gp2
    simp -implicitDefEqProofs -dsimp (maxSteps := 1000000) (disch := first | omega | (simp only [wkLen]; omega) | decide +kernel) only [↓wkPre, ↓wkPre2, ↓wkE, wkPost, wkDef, wkF, simprocAttr, s5, sU, sS, g02, g12, g22, gp2, nn_v, nn_fn, List.length_map, pgL_len, allP_map, take_pg, take_pgm, get0, get1, get2, getm0, getm1, getm2, get00, getm00, setm0, setm1, setm2, setm00, setR_pg, setR_pg1, flat_pg, flatL_app, eq_pg]
    refine evC_pl pl_8_7 (by kernel_rfl) (by decide +kernel) ?_
    simp only [pl_8_7]
    have hlen1 := hK1.len
    have hlG : G.length = H.length + 3 := by rw [← hG2]; simp
    have hlH2 : H2.length = H1.length + 1 := by rw [hl2]; simp
    have z1 : ∀ (l : Heap) (x : Blk), ((H2 ++ l).set (H.length + 2) x)[H2.length + 1]? = (H2 ++ l)[H2.length + 1]? := fun l x => hs_ne (by omega)
    have z2 : ∀ (l : Heap) (x : Blk), ((H2 ++ l).set (H.length + 2) x)[H1.length]? = (H2 ++ l)[H1.length]? := fun l x => hs_ne (by omega)
    have z3 : ∀ (l : Heap) (x : Blk), ((H2 ++ l).set (H.length + 2) x)[H.length + 2]? = some x := fun l x => hs_set (by simp; omega)
    have z4 : ∀ (x y : Blk), (H2 ++ [x, y])[H2.length + 1]? = some y := fun x y => by rw [List.getElem?_append_right (by omega)]; simp
    simp -implicitDefEqProofs -dsimp (maxSteps := 1000000) (disch := first | omega | (simp only [wkLen]; omega) | decide +kernel) only [↓wkPre, ↓wkPre2, ↓wkE, wkPost, wkDef, wkF, simprocAttr, s5, sU, sS, a2, ap, z1, z2, z3, z4, gp2, nn_v, nn_fn, List.length_map, pgL_len, allP_map, take_pg, take_pgm, get0, get1, get2, getm0, getm1, getm2, get00, getm00, setm0, setm1, setm2, setm00, setR_pg, setR_pg1, flat_pg, flatL_app, eq_pg]
    have kC : KeepV c (H1 ++ [Blk.var true (.p (pgP b3))]) H2 X1 X1 := ⟨by omega, fun i x h _ => hV2 i x h, fun i h => .inl h⟩
    exact hq (.p (md m3)) _ X1 t1 w1 ((hI2.set f2').app _) (.inl rfl) (by omega) (by omega) (((kV1.trans kC).set (by omega)).trans KeepV.app)
  · by_cases hk1 : ok = 1
    · subst hk1
      have hdo : doF m ⟨1, on, ob⟩ = (pinF m on).1 := by unfold doF; rw [if_pos (by simp)]
      rw [hdo] at hq
      simp -implicitDefEqProofs -dsimp (maxSteps := 1000000) (disch := first | omega | (simp only [wkLen]; omega) | decide +kernel) only [↓wkPre, ↓wkPre2, ↓wkE, wkPost, wkDef, wkF, simprocAttr, hG3, s5, sU, sS, g0, g1, g2, nn_v, nn_fn, List.length_map, pgL_len, allP_map, take_pg, take_pgm, get0, get1, get2, getm0, getm1, getm2, get00, getm00, setm0, setm1, setm2, setm00, setR_pg, setR_pg1, flat_pg, flatL_app, eq_pg]
      refine imp_call md_10 (w10 hG on (by omega) (by omega) (by have := hbd.met; omega) (by have := hbd.miss; omega) (fun f hf => by have := hbd.k f hf; omega) _ ?_)
      intro H1 X1 t1 w1 hI1 ht1 hw1 hK1
      have p27' := p27 m on hok (by have := hbd.met; omega) (by have := hbd.miss; omega) (fun f hf => by have := hbd.k f hf; omega)
      have hpw := pinW_le m on
      generalize pinF m on = P at *
      obtain ⟨m3, b3, c3⟩ := P
      dsimp only at *
      have hv1 := (hvG.keep' hK1).app [.var true (.p (pgP b3))]
      have kV1 := kV.trans (hK1.toV.trans (KeepV.app (l := [.var true (.p (pgP b3))])))
      have hI1' := hI1.app [.var true (.p (pgP b3))]
      have kA := hK1.toV.trans (KeepV.app (l := [.var true (.p (pgP b3))]))
      obtain ⟨g0', f0'⟩ := kA.track g0 f0
      obtain ⟨g1', f1'⟩ := kA.track g1 f1
      obtain ⟨g2', f2'⟩ := kA.track g2 f2
      have gp : (H1 ++ [Blk.var true (.p (pgP b3))])[H1.length]? = some (.var true (.p (pgP b3))) := by simp
      simp -implicitDefEqProofs -dsimp (maxSteps := 1000000) (disch := first | omega | (simp only [wkLen]; omega) | decide +kernel) only [↓wkPre, ↓wkPre2, ↓wkE, wkPost, wkDef, wkF, simprocAttr, s5, sU, sS, g0', g1', g2', gp, nn_v, nn_fn, List.length_map, pgL_len, allP_map, take_pg, take_pgm, get0, get1, get2, getm0, getm1, getm2, get00, getm00, setm0, setm1, setm2, setm00, setR_pg, setR_pg1, flat_pg, flatL_app, eq_pg]
      refine MV.call (pr := [I on]) hv1 md_27 Try.func27 p27' rfl rfl ?_
      rintro _ H2 rfl hl2 hF2 hV2 hv2
      have hI2 := hI1'.keep hF2
      have g02 := hV2 _ _ g0'
      have g12 := hV2 _ _ g1'
      have g22 := hV2 _ _ g2'
      have gp2 := hV2 _ _ gp
      have a2 : ∀ l : Heap, (H2 ++ l)[H.length + 2]? = some (.var true (.agg [.p (I 0), .nsl, .nsl, .p (I 0), .p (I 0)])) := fun l => (hs_app (List.getElem?_eq_some_iff.1 g22).1).trans g22
      have ap : ∀ l : Heap, (H2 ++ l)[H1.length]? = some (.var true (.p (pgP b3))) := fun l => (hs_app (List.getElem?_eq_some_iff.1 gp2).1).trans gp2
      simp -implicitDefEqProofs -dsimp (maxSteps := 1000000) (disch := first | omega | (simp only [wkLen]; omega) | decide +kernel) only [↓wkPre, ↓wkPre2, ↓wkE, wkPost, wkDef, wkF, simprocAttr, s5, sU, sS, g02, g12, g22, gp2, nn_v, nn_fn, List.length_map, pgL_len, allP_map, take_pg, take_pgm, get0, get1, get2, getm0, getm1, getm2, get00, getm00, setm0, setm1, setm2, setm00, setR_pg, setR_pg1, flat_pg, flatL_app, eq_pg]
      refine evC_pl pl_8_7 (by kernel_rfl) (by decide +kernel) ?_
      simp only [pl_8_7]
      have hlen1 := hK1.len
      have hlG : G.length = H.length + 3 := by rw [← hG2]; simp
      have hlH2 : H2.length = H1.length + 1 := by rw [hl2]; simp
      have z1 : ∀ (l : Heap) (x : Blk), ((H2 ++ l).set (H.length + 2) x)[H2.length + 1]? = (H2 ++ l)[H2.length + 1]? := fun l x => hs_ne (by omega)
      have z2 : ∀ (l : Heap) (x : Blk), ((H2 ++ l).set (H.length + 2) x)[H1.length]? = (H2 ++ l)[H1.length]? := fun l x => hs_ne (by omega)
      have z3 : ∀ (l : Heap) (x : Blk), ((H2 ++ l).set (H.length + 2) x)[H.length + 2]? = some x := fun l x => hs_set (by simp; omega)
      have z4 : ∀ (x y : Blk), (H2 ++ [x, y])[H2.length + 1]? = some y := fun x y => by rw [List.getElem?_append_right (by omega)]; simp
      simp -implicitDefEqProofs -dsimp (maxSteps := 1000000) (disch := first | omega | (simp only [wkLen]; omega) | decide +kernel) only [↓wkPre, ↓wkPre2, ↓wkE, wkPost, wkDef, wkF, simprocAttr, s5, sU, sS, a2, ap, z1, z2, z3, z4, gp2, nn_v, nn_fn, List.length_map, pgL_len, allP_map, take_pg, take_pgm, get0, get1, get2, getm0, getm1, getm2, get00, getm00, setm0, setm1, setm2, setm00, setR_pg, setR_pg1, flat_pg, flatL_app, eq_pg]
      have kC : KeepV c (H1 ++ [Blk.var true (.p (pgP b3))]) H2 X1 X1 := ⟨by omega, fun i x h _ => hV2 i x h, fun i h => .inl h⟩
      exact hq (.p (md m3)) _ X1 t1 w1 ((hI2.set f2').app _) (.inl rfl) (by omega) (by omega) (((kV1.trans kC).set (by omega)).trans KeepV.app)
    · by_cases hk2 : ok = 2
      · subst hk2
        have hdo : doF m ⟨2, on, ob⟩ = (pinF m on).1 := by unfold doF; rw [if_pos (by simp)]
        rw [hdo] at hq
        simp -implicitDefEqProofs -dsimp (maxSteps := 1000000) (disch := first | omega | (simp only [wkLen]; omega) | decide +kernel) only [↓wkPre, ↓wkPre2, ↓wkE, wkPost, wkDef, wkF, simprocAttr, hG3, s5, sU, sS, g0, g1, g2, nn_v, nn_fn, List.length_map, pgL_len, allP_map, take_pg, take_pgm, get0, get1, get2, getm0, getm1, getm2, get00, getm00, setm0, setm1, setm2, setm00, setR_pg, setR_pg1, flat_pg, flatL_app, eq_pg]
        refine imp_call md_10 (w10 hG on (by omega) (by omega) (by have := hbd.met; omega) (by have := hbd.miss; omega) (fun f hf => by have := hbd.k f hf; omega) _ ?_)
        intro H1 X1 t1 w1 hI1 ht1 hw1 hK1
        have p27' := p27 m on hok (by have := hbd.met; omega) (by have := hbd.miss; omega) (fun f hf => by have := hbd.k f hf; omega)
        have hpw := pinW_le m on
        generalize pinF m on = P at *
        obtain ⟨m3, b3, c3⟩ := P
        dsimp only at *
        have hv1 := (hvG.keep' hK1).app [.var true (.p (pgP b3))]
        have kV1 := kV.trans (hK1.toV.trans (KeepV.app (l := [.var true (.p (pgP b3))])))
        have hI1' := hI1.app [.var true (.p (pgP b3))]
        have kA := hK1.toV.trans (KeepV.app (l := [.var true (.p (pgP b3))]))
        obtain ⟨g0', f0'⟩ := kA.track g0 f0
        obtain ⟨g1', f1'⟩ := kA.track g1 f1
        obtain ⟨g2', f2'⟩ := kA.track g2 f2
        have gp : (H1 ++ [Blk.var true (.p (pgP b3))])[H1.length]? = some (.var true (.p (pgP b3))) := by simp
        simp -implicitDefEqProofs -dsimp (maxSteps := 1000000) (disch := first | omega | (simp only [wkLen]; omega) | decide +kernel) only [↓wkPre, ↓wkPre2, ↓wkE, wkPost, wkDef, wkF, simprocAttr, s5, sU, sS, g0', g1', g2', gp, nn_v, nn_fn, List.length_map, pgL_len, allP_map, take_pg, take_pgm, get0, get1, get2, getm0, getm1, getm2, get00, getm00, setm0, setm1, setm2, setm00, setR_pg, setR_pg1, flat_pg, flatL_app, eq_pg]
        refine MV.call (pr := [I on]) hv1 md_27 Try.func27 p27' rfl rfl ?_
        rintro _ H2 rfl hl2 hF2 hV2 hv2
        have hI2 := hI1'.keep hF2
        have g02 := hV2 _ _ g0'
        have g12 := hV2 _ _ g1'
        have g22 := hV2 _ _ g2'
        have gp2 := hV2 _ _ gp
        have a2 : ∀ l : Heap, (H2 ++ l)[H.length + 2]? = some (.var true (.agg [.p (I 0), .nsl, .nsl, .p (I 0), .p (I 0)])) := fun l => (hs_app (List.getElem?_eq_some_iff.1 g22).1).trans g22
        have ap : ∀ l : Heap, (H2 ++ l)[H1.length]? = some (.var true (.p (pgP b3))) := fun l => (hs_app (List.getElem?_eq_some_iff.1 gp2).1).trans gp2
        simp -implicitDefEqProofs -dsimp (maxSteps := 1000000) (disch := first | omega | (simp only [wkLen]; omega) | decide +kernel) only [↓wkPre, ↓wkPre2, ↓wkE, wkPost, wkDef, wkF, simprocAttr, s5, sU, sS, g02, g12, g22, gp2, nn_v, nn_fn, List.length_map, pgL_len, allP_map, take_pg, take_pgm, get0, get1, get2, getm0, getm1, getm2, get00, getm00, setm0, setm1, setm2, setm00, setR_pg, setR_pg1, flat_pg, flatL_app, eq_pg]
        refine evC_pl pl_8_7 (by kernel_rfl) (by decide +kernel) ?_
        simp only [pl_8_7]
        have hlen1 := hK1.len
        have hlG : G.length = H.length + 3 := by rw [← hG2]; simp
        have hlH2 : H2.length = H1.length + 1 := by rw [hl2]; simp
        have z1 : ∀ (l : Heap) (x : Blk), ((H2 ++ l).set (H.length + 2) x)[H2.length + 1]? = (H2 ++ l)[H2.length + 1]? := fun l x => hs_ne (by omega)
        have z2 : ∀ (l : Heap) (x : Blk), ((H2 ++ l).set (H.length + 2) x)[H1.length]? = (H2 ++ l)[H1.length]? := fun l x => hs_ne (by omega)
        have z3 : ∀ (l : Heap) (x : Blk), ((H2 ++ l).set (H.length + 2) x)[H.length + 2]? = some x := fun l x => hs_set (by simp; omega)
        have z4 : ∀ (x y : Blk), (H2 ++ [x, y])[H2.length + 1]? = some y := fun x y => by rw [List.getElem?_append_right (by omega)]; simp
        simp -implicitDefEqProofs -dsimp (maxSteps := 1000000) (disch := first | omega | (simp only [wkLen]; omega) | decide +kernel) only [↓wkPre, ↓wkPre2, ↓wkE, wkPost, wkDef, wkF, simprocAttr, s5, sU, sS, a2, ap, z1, z2, z3, z4, gp2, nn_v, nn_fn, List.length_map, pgL_len, allP_map, take_pg, take_pgm, get0, get1, get2, getm0, getm1, getm2, get00, getm00, setm0, setm1, setm2, setm00, setR_pg, setR_pg1, flat_pg, flatL_app, eq_pg]
        have kC : KeepV c (H1 ++ [Blk.var true (.p (pgP b3))]) H2 X1 X1 := ⟨by omega, fun i x h _ => hV2 i x h, fun i h => .inl h⟩
        exact hq (.p (md m3)) _ X1 t1 w1 ((hI2.set f2').app _) (.inl rfl) (by omega) (by omega) (((kV1.trans kC).set (by omega)).trans KeepV.app)
      · by_cases hk3 : ok = 3
        · subst hk3
          have hdo : doF m ⟨3, on, ob⟩ = (unpinF m on).1 := rfl
          rw [hdo] at hq
          have p28' := p28 m on hok
          have h15 := fun (G3 : Heap) (hI3 : Inv G3 c m X t w) => w15 hI3 on
          generalize unpinF m on = P at *
          obtain ⟨m3, c3⟩ := P
          dsimp only at *
          simp -implicitDefEqProofs -dsimp (maxSteps := 1000000) (disch := first | omega | (simp only [wkLen]; omega) | decide +kernel) only [↓wkPre, ↓wkPre2, ↓wkE, wkPost, wkDef, wkF, simprocAttr, hG3, s5, sU, sS, g0, g1, g2, nn_v, nn_fn, List.length_map, pgL_len, allP_map, take_pg, take_pgm, get0, get1, get2, getm0, getm1, getm2, get00, getm00, setm0, setm1, setm2, setm00, setR_pg, setR_pg1, flat_pg, flatL_app, eq_pg]
          refine MV.call (pr := [I on]) hvG md_28 Try.func28 p28' rfl rfl ?_
          rintro _ H2 rfl hl2 hF2 hV2 hv2
          have hI2 := (hG.keep hF2).app [.var true (.p (md m3))]
          have hv3 := hv2.app [.var true (.p (md m3))]
          have kC : KeepV c G (H2 ++ [.var true (.p (md m3))]) X X := KeepV.trans (H1 := H2) ⟨by omega, fun i x h _ => hV2 i x h, fun i h => .inl h⟩ KeepV.app
          obtain ⟨g12, f12⟩ := kC.track g1 f1
          obtain ⟨g22, f22⟩ := kC.track g2 f2
          have g02 := hV2 _ _ g0
          have g12' := hV2 _ _ g1
          have gt : (H2 ++ [Blk.var true (.p (md m3))])[H2.length]? = some (.var true (.p (md m3))) := by simp
          have hlG : G.length = H.length + 3 := by rw [← hG2]; simp
          have ft : H2.length ∉ Foot c X := fun h => by have := hI.lt _ h; omega
          simp -implicitDefEqProofs -dsimp (maxSteps := 1000000) (disch := first | omega | (simp only [wkLen]; omega) | decide +kernel) only [↓wkPre, ↓wkPre2, ↓wkE, wkPost, wkDef, wkF, simprocAttr, s5, sU, sS, g02, g12', nn_v, nn_fn, List.length_map, pgL_len, allP_map, take_pg, take_pgm, get0, get1, get2, getm0, getm1, getm2, get00, getm00, setm0, setm1, setm2, setm00, setR_pg, setR_pg1, flat_pg, flatL_app, eq_pg]
          generalize hG4 : H2 ++ [Blk.var true (.p (md m3))] = G4 at hI2 hv3 kC g12 g22 gt
          refine evC_pl pl_8_10 (by kernel_rfl) (by decide +kernel) ?_
          simp only [pl_8_10]
          simp -implicitDefEqProofs -dsimp (maxSteps := 1000000) (disch := first | omega | (simp only [wkLen]; omega) | decide +kernel) only [↓wkPre, ↓wkPre2, ↓wkE, wkPost, wkDef, wkF, simprocAttr, s5, sU, sS, hG4, gt, g12, g22, nn_v, nn_fn, List.length_map, pgL_len, allP_map, take_pg, take_pgm, get0, get1, get2, getm0, getm1, getm2, get00, getm00, setm0, setm1, setm2, setm00, setR_pg, setR_pg1, flat_pg, flatL_app, eq_pg]
          refine imp_call md_15 (h15 _ hI2 _ ?_)
          intro H4 X4 hI4 hK4
          obtain ⟨g14, f14⟩ := hK4.toV.track g12 f12
          obtain ⟨g24, f24⟩ := hK4.toV.track g22 f22
          obtain ⟨gt4, ft4⟩ := hK4.toV.track gt ft
          have z1 : ∀ x : Blk, (H4.set (H.length + 2) x)[H2.length]? = H4[H2.length]? := fun x => hs_ne (by omega)
          have z3 : ∀ x : Blk, (H4.set (H.length + 2) x)[H.length + 2]? = some x := fun x => hs_set (List.getElem?_eq_some_iff.1 g24).1
          simp -implicitDefEqProofs -dsimp (maxSteps := 1000000) (disch := first | omega | (simp only [wkLen]; omega) | decide +kernel) only [↓wkPre, ↓wkPre2, ↓wkE, wkPost, wkDef, wkF, simprocAttr, s5, sU, sS, gt4, g14, g24, z1, z3, nn_v, nn_fn, List.length_map, pgL_len, allP_map, take_pg, take_pgm, get0, get1, get2, getm0, getm1, getm2, get00, getm00, setm0, setm1, setm2, setm00, setR_pg, setR_pg1, flat_pg, flatL_app, eq_pg]
          exact hq (.p (md m3)) _ X4 t w (hI4.set f24) (.inl rfl) (by omega) (by omega) ((kV.trans (kC.trans hK4.toV)).set (by omega))
        · by_cases hk4 : ok = 4
          · subst hk4
            have hdo : doF m ⟨4, on, ob⟩ = (putF m on ob).1 := rfl
            rw [hdo] at hq
            have p29' := p29 m on ob hok
            have h11 := fun (G3 : Heap) (hI3 : Inv G3 c m X t w) => w11 hI3 on ob (by omega)
            generalize putF m on ob = P at *
            obtain ⟨m3, c3⟩ := P
            dsimp only at *
            have hlG : G.length = H.length + 3 := by rw [← hG2]; simp
            have ft : G.length ∉ Foot c X := fun h => by have := hI.lt _ h; omega
            simp -implicitDefEqProofs -dsimp (maxSteps := 1000000) (disch := first | omega | (simp only [wkLen]; omega) | decide +kernel) only [↓wkPre, ↓wkPre2, ↓wkE, wkPost, wkDef, wkF, simprocAttr, hG3, s5, sU, sS, g0, g1, g2, nn_v, nn_fn, List.length_map, pgL_len, allP_map, take_pg, take_pgm, get0, get1, get2, getm0, getm1, getm2, get00, getm00, setm0, setm1, setm2, setm00, setR_pg, setR_pg1, flat_pg, flatL_app, eq_pg]
            refine evC_pl pl_8_12 (by kernel_rfl) (by decide +kernel) ?_
            simp only [pl_8_12]
            simp -implicitDefEqProofs -dsimp (maxSteps := 1000000) (disch := first | omega | (simp only [wkLen]; omega) | decide +kernel) only [↓wkPre, ↓wkPre2, ↓wkE, wkPost, wkDef, wkF, simprocAttr, hG3, s5, sU, sS, g0, g1, g2, nn_v, nn_fn, List.length_map, pgL_len, allP_map, take_pg, take_pgm, get0, get1, get2, getm0, getm1, getm2, get00, getm00, setm0, setm1, setm2, setm00, setR_pg, setR_pg1, flat_pg, flatL_app, eq_pg]
            refine ⟨?_, ?_⟩
            · refine PS.app md_12 Try.func12 (p12 ob) rfl ?_
              rintro _ rfl
              simp -implicitDefEqProofs -dsimp (maxSteps := 1000000) (disch := first | omega | (simp only [wkLen]; omega) | decide +kernel) only [↓wkPre, ↓wkPre2, ↓wkE, wkPost, wkDef, wkF, simprocAttr, hG3, s5, sU, sS, g0, g1, g2, nn_v, nn_fn, List.length_map, pgL_len, allP_map, take_pg, take_pgm, get0, get1, get2, getm0, getm1, getm2, get00, getm00, setm0, setm1, setm2, setm00, setR_pg, setR_pg1, flat_pg, flatL_app, eq_pg]
              refine ⟨?_, ?_⟩
              · skip
                refine MV.call (pr := [I on, pgP ob]) hvG md_29 Try.func29 p29' rfl rfl ?_
                rintro _ H2 rfl hl2 hF2 hV2 hv2
                have hI2 := (hG.keep hF2).app [.var true (.p (md m3))]
                have kC : KeepV c G (H2 ++ [.var true (.p (md m3))]) X X := KeepV.trans (H1 := H2) ⟨by omega, fun i x h _ => hV2 i x h, fun i h => .inl h⟩ KeepV.app
                have g02 := hV2 _ _ g0
                have g12' := hV2 _ _ g1
                have g22' := hV2 _ _ g2
                have gt : (H2 ++ [Blk.var true (.p (md m3))])[G.length]? = some (.var true (.p (md m3))) := by rw [← hl2]; simp
                have wz : H2.length = G.length := hl2
                obtain ⟨g12, f12⟩ := kC.track g1 f1
                obtain ⟨g22, f22⟩ := kC.track g2 f2
                simp -implicitDefEqProofs -dsimp (maxSteps := 1000000) (disch := first | omega | (simp only [wkLen]; omega) | decide +kernel) only [↓wkPre, ↓wkPre2, ↓wkE, wkPost, wkDef, wkF, simprocAttr, s5, sU, sS, g02, g12', g22', wz, nn_v, nn_fn, List.length_map, pgL_len, allP_map, take_pg, take_pgm, get0, get1, get2, getm0, getm1, getm2, get00, getm00, setm0, setm1, setm2, setm00, setR_pg, setR_pg1, flat_pg, flatL_app, eq_pg]
                generalize hG4 : H2 ++ [Blk.var true (.p (md m3))] = G4 at hI2 kC g12 g22 gt
                refine evC_pl pl_8_13 (by kernel_rfl) (by decide +kernel) ?_
                simp only [pl_8_13]
                simp -implicitDefEqProofs -dsimp (maxSteps := 1000000) (disch := first | omega | (simp only [wkLen]; omega) | decide +kernel) only [↓wkPre, ↓wkPre2, ↓wkE, wkPost, wkDef, wkF, simprocAttr, s5, sU, sS, hG4, gt, g12, g22, nn_v, nn_fn, List.length_map, pgL_len, allP_map, take_pg, take_pgm, get0, get1, get2, getm0, getm1, getm2, get00, getm00, setm0, setm1, setm2, setm00, setR_pg, setR_pg1, flat_pg, flatL_app, eq_pg]
                refine PS.app md_12 Try.func12 (p12 ob) rfl ?_
                rintro _ rfl
                simp -implicitDefEqProofs -dsimp (maxSteps := 1000000) (disch := first | omega | (simp only [wkLen]; omega) | decide +kernel) only [↓wkPre, ↓wkPre2, ↓wkE, wkPost, wkDef, wkF, simprocAttr, s5, sU, sS, gt, g12, g22, nn_v, nn_fn, List.length_map, pgL_len, allP_map, take_pg, take_pgm, get0, get1, get2, getm0, getm1, getm2, get00, getm00, setm0, setm1, setm2, setm00, setR_pg, setR_pg1, flat_pg, flatL_app, eq_pg]
                refine imp_call md_11 (h11 _ hI2 _ ?_)
                intro H4 X4 t4 hI4 ht4 hK4
                obtain ⟨g14, f14⟩ := hK4.toV.track g12 f12
                obtain ⟨g24, f24⟩ := hK4.toV.track g22 f22
                obtain ⟨gt4, ft4⟩ := hK4.toV.track gt ft
                have z1 : ∀ x : Blk, (H4.set (H.length + 2) x)[G.length]? = H4[G.length]? := fun x => hs_ne (by omega)
                have z3 : ∀ x : Blk, (H4.set (H.length + 2) x)[H.length + 2]? = some x := fun x => hs_set (List.getElem?_eq_some_iff.1 g24).1
                simp -implicitDefEqProofs -dsimp (maxSteps := 1000000) (disch := first | omega | (simp only [wkLen]; omega) | decide +kernel) only [↓wkPre, ↓wkPre2, ↓wkE, wkPost, wkDef, wkF, simprocAttr, s5, sU, sS, gt4, g14, g24, z1, z3, nn_v, nn_fn, List.length_map, pgL_len, allP_map, take_pg, take_pgm, get0, get1, get2, getm0, getm1, getm2, get00, getm00, setm0, setm1, setm2, setm00, setR_pg, setR_pg1, flat_pg, flatL_app, eq_pg]
                exact hq (.p (md m3)) _ X4 t4 w (hI4.set f24) (.inl rfl) (by omega) (by omega) ((kV.trans (kC.trans hK4.toV)).set (by omega))
              · skip
                have hvZ := hvG.app [.var true (.agg [.p (I 0), .nsl, .nsl, .p (I 0), .p (I 0)])]
                have hGZ := hG.app [.var true (.agg [.p (I 0), .nsl, .nsl, .p (I 0), .p (I 0)])]
                have kZ : KeepV c G (G ++ [.var true (.agg [.p (I 0), .nsl, .nsl, .p (I 0), .p (I 0)])]) X X := KeepV.app
                have gtZ : (G ++ [Blk.var true (.agg [.p (I 0), .nsl, .nsl, .p (I 0), .p (I 0)])])[G.length]? = some (.var true (.agg [.p (I 0), .nsl, .nsl, .p (I 0), .p (I 0)])) := by simp
                have hlZ : (G ++ [Blk.var true (.agg [.p (I 0), .nsl, .nsl, .p (I 0), .p (I 0)])]).length = G.length + 1 := by simp
                refine MV.call (pr := [I on, pgP ob]) hvZ md_29 Try.func29 p29' rfl rfl ?_
                rintro _ H2 rfl hl2 hF2 hV2 hv2
                have hl2' : H2.length = G.length + 1 := hl2.trans hlZ
                have kH2 : KeepV c G H2 X X := kZ.trans ⟨Nat.le_of_eq hl2.symm, fun i x h _ => hV2 i x h, fun i h => .inl h⟩
                have g02 := (kH2.track g0 f0).1
                have g12' := (kH2.track g1 f1).1
                have g22' := (kH2.track g2 f2).1
                have gtz2 := hV2 _ _ gtZ
                have hI2 := (hGZ.keep hF2).set (j := G.length) (y := .var true (.p (md m3))) ft
                have kC : KeepV c G (H2.set G.length (.var true (.p (md m3)))) X X := kH2.set (Nat.le_refl _)
                have gt : (H2.set G.length (Blk.var true (.p (md m3))))[G.length]? = some (.var true (.p (md m3))) := hs_set (by omega)
                have wz := gtz2
                obtain ⟨g12, f12⟩ := kC.track g1 f1
                obtain ⟨g22, f22⟩ := kC.track g2 f2
                simp -implicitDefEqProofs -dsimp (maxSteps := 1000000) (disch := first | omega | (simp only [wkLen]; omega) | decide +kernel) only [↓wkPre, ↓wkPre2, ↓wkE, wkPost, wkDef, wkF, simprocAttr, s5, sU, sS, g02, g12', g22', wz, nn_v, nn_fn, List.length_map, pgL_len, allP_map, take_pg, take_pgm, get0, get1, get2, getm0, getm1, getm2, get00, getm00, setm0, setm1, setm2, setm00, setR_pg, setR_pg1, flat_pg, flatL_app, eq_pg]
                generalize hG4 : H2.set G.length (Blk.var true (.p (md m3))) = G4 at hI2 kC g12 g22 gt
                refine evC_pl pl_8_13 (by kernel_rfl) (by decide +kernel) ?_
                simp only [pl_8_13]
                simp -implicitDefEqProofs -dsimp (maxSteps := 1000000) (disch := first | omega | (simp only [wkLen]; omega) | decide +kernel) only [↓wkPre, ↓wkPre2, ↓wkE, wkPost, wkDef, wkF, simprocAttr, s5, sU, sS, hG4, gt, g12, g22, nn_v, nn_fn, List.length_map, pgL_len, allP_map, take_pg, take_pgm, get0, get1, get2, getm0, getm1, getm2, get00, getm00, setm0, setm1, setm2, setm00, setR_pg, setR_pg1, flat_pg, flatL_app, eq_pg]
                refine PS.app md_12 Try.func12 (p12 ob) rfl ?_
                rintro _ rfl
                simp -implicitDefEqProofs -dsimp (maxSteps := 1000000) (disch := first | omega | (simp only [wkLen]; omega) | decide +kernel) only [↓wkPre, ↓wkPre2, ↓wkE, wkPost, wkDef, wkF, simprocAttr, s5, sU, sS, gt, g12, g22, nn_v, nn_fn, List.length_map, pgL_len, allP_map, take_pg, take_pgm, get0, get1, get2, getm0, getm1, getm2, get00, getm00, setm0, setm1, setm2, setm00, setR_pg, setR_pg1, flat_pg, flatL_app, eq_pg]
                refine imp_call md_11 (h11 _ hI2 _ ?_)
                intro H4 X4 t4 hI4 ht4 hK4
                obtain ⟨g14, f14⟩ := hK4.toV.track g12 f12
                obtain ⟨g24, f24⟩ := hK4.toV.track g22 f22
                obtain ⟨gt4, ft4⟩ := hK4.toV.track gt ft
                have z1 : ∀ x : Blk, (H4.set (H.length + 2) x)[G.length]? = H4[G.length]? := fun x => hs_ne (by omega)
                have z3 : ∀ x : Blk, (H4.set (H.length + 2) x)[H.length + 2]? = some x := fun x => hs_set (List.getElem?_eq_some_iff.1 g24).1
                simp -implicitDefEqProofs -dsimp (maxSteps := 1000000) (disch := first | omega | (simp only [wkLen]; omega) | decide +kernel) only [↓wkPre, ↓wkPre2, ↓wkE, wkPost, wkDef, wkF, simprocAttr, s5, sU, sS, gt4, g14, g24, z1, z3, nn_v, nn_fn, List.length_map, pgL_len, allP_map, take_pg, take_pgm, get0, get1, get2, getm0, getm1, getm2, get00, getm00, setm0, setm1, setm2, setm00, setR_pg, setR_pg1, flat_pg, flatL_app, eq_pg]
                exact hq (.p (md m3)) _ X4 t4 w (hI4.set f24) (.inl rfl) (by omega) (by omega) ((kV.trans (kC.trans hK4.toV)).set (by omega))
            · skip
              refine PS.app md_12 Try.func12 (p12 ob) rfl ?_
              rintro _ rfl
              simp -implicitDefEqProofs -dsimp (maxSteps := 1000000) (disch := first | omega | (simp only [wkLen]; omega) | decide +kernel) only [↓wkPre, ↓wkPre2, ↓wkE, wkPost, wkDef, wkF, simprocAttr, hG3, s5, sU, sS, g0, g1, g2, nn_v, nn_fn, List.length_map, pgL_len, allP_map, take_pg, take_pgm, get0, get1, get2, getm0, getm1, getm2, get00, getm00, setm0, setm1, setm2, setm00, setR_pg, setR_pg1, flat_pg, flatL_app, eq_pg]
              have hvZ := hvG.app [.var true (.agg [.p (I 0), .nsl, .nsl, .p (I 0), .p (I 0)])]
              have hGZ := hG.app [.var true (.agg [.p (I 0), .nsl, .nsl, .p (I 0), .p (I 0)])]
              have kZ : KeepV c G (G ++ [.var true (.agg [.p (I 0), .nsl, .nsl, .p (I 0), .p (I 0)])]) X X := KeepV.app
              have gtZ : (G ++ [Blk.var true (.agg [.p (I 0), .nsl, .nsl, .p (I 0), .p (I 0)])])[G.length]? = some (.var true (.agg [.p (I 0), .nsl, .nsl, .p (I 0), .p (I 0)])) := by simp
              have hlZ : (G ++ [Blk.var true (.agg [.p (I 0), .nsl, .nsl, .p (I 0), .p (I 0)])]).length = G.length + 1 := by simp
              refine MV.call (pr := [I on, pgP ob]) hvZ md_29 Try.func29 p29' rfl rfl ?_
              rintro _ H2 rfl hl2 hF2 hV2 hv2
              have hl2' : H2.length = G.length + 1 := hl2.trans hlZ
              have kH2 : KeepV c G H2 X X := kZ.trans ⟨Nat.le_of_eq hl2.symm, fun i x h _ => hV2 i x h, fun i h => .inl h⟩
              have g02 := (kH2.track g0 f0).1
              have g12' := (kH2.track g1 f1).1
              have g22' := (kH2.track g2 f2).1
              have gtz2 := hV2 _ _ gtZ
              have hI2 := (hGZ.keep hF2).set (j := G.length) (y := .var true (.p (md m3))) ft
              have kC : KeepV c G (H2.set G.length (.var true (.p (md m3)))) X X := kH2.set (Nat.le_refl _)
              have gt : (H2.set G.length (Blk.var true (.p (md m3))))[G.length]? = some (.var true (.p (md m3))) := hs_set (by omega)
              have wz := gtz2
              obtain ⟨g12, f12⟩ := kC.track g1 f1
              obtain ⟨g22, f22⟩ := kC.track g2 f2
              simp -implicitDefEqProofs -dsimp (maxSteps := 1000000) (disch := first | omega | (simp only [wkLen]; omega) | decide +kernel) only [↓wkPre, ↓wkPre2, ↓wkE, wkPost, wkDef, wkF, simprocAttr, s5, sU, sS, g02, g12', g22', wz, nn_v, nn_fn, List.length_map, pgL_len, allP_map, take_pg, take_pgm, get0, get1, get2, getm0, getm1, getm2, get00, getm00, setm0, setm1, setm2, setm00, setR_pg, setR_pg1, flat_pg, flatL_app, eq_pg]
              generalize hG4 : H2.set G.length (Blk.var true (.p (md m3))) = G4 at hI2 kC g12 g22 gt
              refine evC_pl pl_8_13 (by kernel_rfl) (by decide +kernel) ?_
              simp only [pl_8_13]
              simp -implicitDefEqProofs -dsimp (maxSteps := 1000000) (disch := first | omega | (simp only [wkLen]; omega) | decide +kernel) only [↓wkPre, ↓wkPre2, ↓wkE, wkPost, wkDef, wkF, simprocAttr, s5, sU, sS, hG4, gt, g12, g22, nn_v, nn_fn, List.length_map, pgL_len, allP_map, take_pg, take_pgm, get0, get1, get2, getm0, getm1, getm2, get00, getm00, setm0, setm1, setm2, setm00, setR_pg, setR_pg1, flat_pg, flatL_app, eq_pg]
              refine PS.app md_12 Try.func12 (p12 ob) rfl ?_
              rintro _ rfl
              simp -implicitDefEqProofs -dsimp (maxSteps := 1000000) (disch := first | omega | (simp only [wkLen]; omega) | decide +kernel) only [↓wkPre, ↓wkPre2, ↓wkE, wkPost, wkDef, wkF, simprocAttr, s5, sU, sS, gt, g12, g22, nn_v, nn_fn, List.length_map, pgL_len, allP_map, take_pg, take_pgm, get0, get1, get2, getm0, getm1, getm2, get00, getm00, setm0, setm1, setm2, setm00, setR_pg, setR_pg1, flat_pg, flatL_app, eq_pg]
              refine imp_call md_11 (h11 _ hI2 _ ?_)
              intro H4 X4 t4 hI4 ht4 hK4
              obtain ⟨g14, f14⟩ := hK4.toV.track g12 f12
              obtain ⟨g24, f24⟩ := hK4.toV.track g22 f22
              obtain ⟨gt4, ft4⟩ := hK4.toV.track gt ft
              have z1 : ∀ x : Blk, (H4.set (H.length + 2) x)[G.length]? = H4[G.length]? := fun x => hs_ne (by omega)
              have z3 : ∀ x : Blk, (H4.set (H.length + 2) x)[H.length + 2]? = some x := fun x => hs_set (List.getElem?_eq_some_iff.1 g24).1
              simp -implicitDefEqProofs -dsimp (maxSteps := 1000000) (disch := first | omega | (simp only [wkLen]; omega) | decide +kernel) only [↓wkPre, ↓wkPre2, ↓wkE, wkPost, wkDef, wkF, simprocAttr, s5, sU, sS, gt4, g14, g24, z1, z3, nn_v, nn_fn, List.length_map, pgL_len, allP_map, take_pg, take_pgm, get0, get1, get2, getm0, getm1, getm2, get00, getm00, setm0, setm1, setm2, setm00, setR_pg, setR_pg1, flat_pg, flatL_app, eq_pg]
              exact hq (.p (md m3)) _ X4 t4 w (hI4.set f24) (.inl rfl) (by omega) (by omega) ((kV.trans (kC.trans hK4.toV)).set (by omega))
          · by_cases hk5 : ok = 5
            · subst hk5
              have hdo : doF m ⟨5, on, ob⟩ = (flushF m on).1 := rfl
              rw [hdo] at hq
              have p30' := p30 m on hok
              have h20 := fun (G3 : Heap) (hI3 : Inv G3 c m X t w) => w20 hI3 on (by omega)
              generalize flushF m on = P at *
              obtain ⟨m3, c3⟩ := P
              dsimp only at *
              simp -implicitDefEqProofs -dsimp (maxSteps := 1000000) (disch := first | omega | (simp only [wkLen]; omega) | decide +kernel) only [↓wkPre, ↓wkPre2, ↓wkE, wkPost, wkDef, wkF, simprocAttr, hG3, s5, sU, sS, g0, g1, g2, nn_v, nn_fn, List.length_map, pgL_len, allP_map, take_pg, take_pgm, get0, get1, get2, getm0, getm1, getm2, get00, getm00, setm0, setm1, setm2, setm00, setR_pg, setR_pg1, flat_pg, flatL_app, eq_pg]
              refine MV.call (pr := [I on]) hvG md_30 Try.func30 p30' rfl rfl ?_
              rintro _ H2 rfl hl2 hF2 hV2 hv2
              have hI2 := (hG.keep hF2).app [.var true (.p (md m3))]
              have hv3 := hv2.app [.var true (.p (md m3))]
              have kC : KeepV c G (H2 ++ [.var true (.p (md m3))]) X X := KeepV.trans (H1 := H2) ⟨by omega, fun i x h _ => hV2 i x h, fun i h => .inl h⟩ KeepV.app
              obtain ⟨g12, f12⟩ := kC.track g1 f1
              obtain ⟨g22, f22⟩ := kC.track g2 f2
              have g02 := hV2 _ _ g0
              have g12' := hV2 _ _ g1
              have gt : (H2 ++ [Blk.var true (.p (md m3))])[H2.length]? = some (.var true (.p (md m3))) := by simp
              have hlG : G.length = H.length + 3 := by rw [← hG2]; simp
              have ft : H2.length ∉ Foot c X := fun h => by have := hI.lt _ h; omega
              simp -implicitDefEqProofs -dsimp (maxSteps := 1000000) (disch := first | omega | (simp only [wkLen]; omega) | decide +kernel) only [↓wkPre, ↓wkPre2, ↓wkE, wkPost, wkDef, wkF, simprocAttr, s5, sU, sS, g02, g12', nn_v, nn_fn, List.length_map, pgL_len, allP_map, take_pg, take_pgm, get0, get1, get2, getm0, getm1, getm2, get00, getm00, setm0, setm1, setm2, setm00, setR_pg, setR_pg1, flat_pg, flatL_app, eq_pg]
              generalize hG4 : H2 ++ [Blk.var true (.p (md m3))] = G4 at hI2 hv3 kC g12 g22 gt
              refine evC_pl pl_8_16 (by kernel_rfl) (by decide +kernel) ?_
              simp only [pl_8_16]
              simp -implicitDefEqProofs -dsimp (maxSteps := 1000000) (disch := first | omega | (simp only [wkLen]; omega) | decide +kernel) only [↓wkPre, ↓wkPre2, ↓wkE, wkPost, wkDef, wkF, simprocAttr, s5, sU, sS, hG4, gt, g12, g22, nn_v, nn_fn, List.length_map, pgL_len, allP_map, take_pg, take_pgm, get0, get1, get2, getm0, getm1, getm2, get00, getm00, setm0, setm1, setm2, setm00, setR_pg, setR_pg1, flat_pg, flatL_app, eq_pg]
              refine imp_call md_20 (h20 _ hI2 _ ?_)
              intro H4 X4 w4 hI4 hw4 hK4 _
              have hfw := flushW_le m on
              obtain ⟨g14, f14⟩ := hK4.toV.track g12 f12
              obtain ⟨g24, f24⟩ := hK4.toV.track g22 f22
              obtain ⟨gt4, ft4⟩ := hK4.toV.track gt ft
              have z1 : ∀ x : Blk, (H4.set (H.length + 2) x)[H2.length]? = H4[H2.length]? := fun x => hs_ne (by omega)
              have z3 : ∀ x : Blk, (H4.set (H.length + 2) x)[H.length + 2]? = some x := fun x => hs_set (List.getElem?_eq_some_iff.1 g24).1
              simp -implicitDefEqProofs -dsimp (maxSteps := 1000000) (disch := first | omega | (simp only [wkLen]; omega) | decide +kernel) only [↓wkPre, ↓wkPre2, ↓wkE, wkPost, wkDef, wkF, simprocAttr, s5, sU, sS, gt4, g14, g24, z1, z3, nn_v, nn_fn, List.length_map, pgL_len, allP_map, take_pg, take_pgm, get0, get1, get2, getm0, getm1, getm2, get00, getm00, setm0, setm1, setm2, setm00, setR_pg, setR_pg1, flat_pg, flatL_app, eq_pg]
              exact hq (.p (md m3)) _ X4 t w4 (hI4.set f24) (.inl rfl) (by omega) (by omega) ((kV.trans (kC.trans hK4.toV)).set (by omega))
            · by_cases hk6 : ok = 6
              · subst hk6
                have hdo : doF m ⟨6, on, ob⟩ = allF m (m.L.map (·.n)) := rfl
                rw [hdo] at hq
                have hlG : G.length = H.length + 3 := by rw [← hG2]; simp
                have ft : G.length ∉ Foot c X := fun h => by have := hI.lt _ h; omega
                have h16 := fun (G3 : Heap) (v' : AV) (hI3 : Inv G3 c m X t w) (g12 : G3[H.length + 2]? = some (.var true (.agg [.p (I 0), .nsl, .nsl, .p (I 0), .p (I 0)]))) => w16 hI3 hr (by omega)
                rcases hv with rfl | ⟨h0, ba, l, g, hb, rfl, hH⟩
                · have hl := frs_len m.L
                  have hL1000 := hok.L
                  have heq := fun R (h : ∀ f ∈ m.L, f.n ∈ R) => allF_eq hwf (ns := R) (ks := m.L.map (·.n)) h (fun f hf => List.mem_map.2 ⟨f, hf, rfl⟩)
                  obtain ⟨A, a0, aN, aS, aok⟩ := stepsF hok
                  have q0 : ∀ l : Heap, (G ++ l)[H.length]? = some (.var true (.p (md m))) := fun l => (hs_app (by omega)).trans g0
                  simp -implicitDefEqProofs -dsimp (maxSteps := 1000000) (disch := first | omega | (simp only [wkLen]; omega) | decide +kernel) only [↓wkPre, ↓wkPre2, ↓wkE, wkPost, wkDef, wkF, simprocAttr, hG3, s5, sU, sS, g0, g1, g2, nn_v, nn_fn, List.length_map, pgL_len, allP_map, take_pg, take_pgm, get0, get1, get2, getm0, getm1, getm2, get00, getm00, setm0, setm1, setm2, setm00, setR_pg, setR_pg1, flat_pg, flatL_app, eq_pg]
                  refine loop_use extMono (fun m' e Hc => ∃ (i : Nat), m' = m.L.length - i ∧ i ≤ m.L.length ∧ e 0 = .vptr c.pp 0 ∧ e 4 = .vptr H.length 0 ∧ e 6 = .vptr (H.length + 2) 0 ∧ e 19 = .vptr G.length 0 ∧ e 20 = .p (I i) ∧ Hc = G ++ [Blk.var true (.p (md (A i)))]) ?_ m.L.length _ _ ⟨0, rfl, by omega, ?_⟩
                  · rintro m' e Hc ⟨i, rfl, hi, e0, e4, e6, e19, e20, rfl⟩
                    rcases Nat.lt_or_ge i m.L.length with hlt | hge
                    · have gi := frs_get hlt
                      have h30 := p30 (A i) m.L[i].n (aok i)
                      have hs := aS i hlt
                      generalize flushF (A i) m.L[i].n = P at *
                      obtain ⟨m3, c3⟩ := P
                      dsimp only at *
                      generalize m.L[i] = f at *
                      obtain ⟨fn, fb, fk, fd⟩ := f
                      dsimp only at *
                      subst hs
                      simp -implicitDefEqProofs -dsimp (maxSteps := 1000000) (disch := first | omega | (simp only [wkLen]; omega) | decide +kernel) only [↓wkPre, ↓wkPre2, ↓wkE, wkPost, wkDef, wkF, simprocAttr, e0, e4, e6, e19, e20, q0, hl, gi, nn_v, nn_fn, List.length_map, pgL_len, allP_map, take_pg, take_pgm, get0, get1, get2, getm0, getm1, getm2, get00, getm00, setm0, setm1, setm2, setm00, setR_pg, setR_pg1, flat_pg, flatL_app, eq_pg]
                      refine PS.app md_30 Try.func30 h30 rfl ?_
                      rintro _ rfl
                      simp -implicitDefEqProofs -dsimp (maxSteps := 1000000) (disch := first | omega | (simp only [wkLen]; omega) | decide +kernel) only [↓wkPre, ↓wkPre2, ↓wkE, wkPost, wkDef, wkF, simprocAttr, e0, e4, e6, e19, e20, q0, hl, gi, nn_v, nn_fn, List.length_map, pgL_len, allP_map, take_pg, take_pgm, get0, get1, get2, getm0, getm1, getm2, get00, getm00, setm0, setm1, setm2, setm00, setR_pg, setR_pg1, flat_pg, flatL_app, eq_pg]
                      exact ⟨m.L.length - (i + 1), by omega, i + 1, rfl, by omega, by push_cast; rfl, rfl⟩
                    · have hie : i = m.L.length := by omega
                      subst hie
                      rw [aN]
                      have gt : (G ++ [Blk.var true (.p (md (allF m (m.L.map (·.n)))))])[G.length]? = some (.var true (.p (md (allF m (m.L.map (·.n)))))) := by simp
                      have hI2 := hG.app [.var true (.p (md (allF m (m.L.map (·.n)))))]
                      have kC : KeepV c G (G ++ [.var true (.p (md (allF m (m.L.map (·.n)))))]) X X := KeepV.app
                      obtain ⟨g22, f22⟩ := kC.track g2 f2
                      simp -implicitDefEqProofs -dsimp (maxSteps := 1000000) (disch := first | omega | (simp only [wkLen]; omega) | decide +kernel) only [↓wkPre, ↓wkPre2, ↓wkE, wkPost, wkDef, wkF, simprocAttr, e0, e4, e6, e19, e20, q0, hl, nn_v, nn_fn, List.length_map, pgL_len, allP_map, take_pg, take_pgm, get0, get1, get2, getm0, getm1, getm2, get00, getm00, setm0, setm1, setm2, setm00, setR_pg, setR_pg1, flat_pg, flatL_app, eq_pg]
                      refine evC_pl pl_8_23 (by kernel_rfl) (by decide +kernel) ?_
                      simp only [pl_8_23]
                      generalize hmN : allF m (m.L.map (·.n)) = mN at *
                      generalize G ++ [Blk.var true (.p (md mN))] = G4 at *
                      simp -implicitDefEqProofs -dsimp (maxSteps := 1000000) (disch := first | omega | (simp only [wkLen]; omega) | decide +kernel) only [↓wkPre, ↓wkPre2, ↓wkE, wkPost, wkDef, wkF, simprocAttr, e0, e4, e6, e19, e20, gt, nn_v, nn_fn, List.length_map, pgL_len, allP_map, take_pg, take_pgm, get0, get1, get2, getm0, getm1, getm2, get00, getm00, setm0, setm1, setm2, setm00, setR_pg, setR_pg1, flat_pg, flatL_app, eq_pg]
                      refine imp_call md_16 (w16 hI2 hr (by omega) _ ?_)
                      intro H4 R X4 w4 hR1 hR2 hI4 hw4 hK4
                      have hle := allW_le R m
                      have hRl : R.length ≤ 49 := by
                        have := hR2.length_eq
                        have h2 := hI.full
                        have h3 := hI.L
                        rw [List.length_map, h3, List.length_map] at this
                        omega
                      rw [heq R (fun f hf => hR2.mem_iff.2 (List.mem_map.2 ⟨f, hf, rfl⟩))] at hI4
                      obtain ⟨gt4, _⟩ := hK4.toV.track gt ft
                      obtain ⟨g24, f24⟩ := hK4.toV.track g22 f22
                      have z1 : ∀ x : Blk, (H4.set (H.length + 2) x)[G.length]? = H4[G.length]? := fun x => hs_ne (by omega)
                      have z3 : ∀ x : Blk, (H4.set (H.length + 2) x)[H.length + 2]? = some x := fun x => hs_set (List.getElem?_eq_some_iff.1 g24).1
                      simp -implicitDefEqProofs -dsimp (maxSteps := 1000000) (disch := first | omega | (simp only [wkLen]; omega) | decide +kernel) only [↓wkPre, ↓wkPre2, ↓wkE, wkPost, wkDef, wkF, simprocAttr, e0, e4, e6, e19, e20, gt4, g24, z1, z3, nn_v, nn_fn, List.length_map, pgL_len, allP_map, take_pg, take_pgm, get0, get1, get2, getm0, getm1, getm2, get00, getm00, setm0, setm1, setm2, setm00, setR_pg, setR_pg1, flat_pg, flatL_app, eq_pg]
                      exact hq (.p (md mN)) _ X4 t w4 (hI4.set f24) (.inl rfl) (by omega) (by omega) ((kV.trans (kC.trans hK4.toV)).set (by omega))
                  · simp -implicitDefEqProofs -dsimp (maxSteps := 1000000) (disch := first | omega | (simp only [wkLen]; omega) | decide +kernel) only [↓wkPre, ↓wkPre2, ↓wkE, wkPost, wkDef, wkF, simprocAttr, hlG]
                    rw [a0]
                · have hv0 := hvG
                  have q0 : ∀ l : Heap, (G ++ l)[H.length]? = some (.var true (.agg [.p (I m.room), .nsl, .ref ba g 0 m.W.length false, .p (I m.met), .p (I m.miss)])) := fun l => (hs_app (by omega)).trans g0
                  have gt : (G ++ [Blk.var true (.agg [.p (I m.room), .nsl, .ref ba g 0 m.W.length false, .p (I m.met), .p (I m.miss)])])[G.length]? = some (.var true (.agg [.p (I m.room), .nsl, .ref ba g 0 m.W.length false, .p (I m.met), .p (I m.miss)])) := by simp
                  have hI2 := hG.app [.var true (.agg [.p (I m.room), .nsl, .ref ba g 0 m.W.length false, .p (I m.met), .p (I m.miss)])]
                  have hv2 := hvG.app [.var true (.agg [.p (I m.room), .nsl, .ref ba g 0 m.W.length false, .p (I m.met), .p (I m.miss)])]
                  have kC : KeepV c G (G ++ [.var true (.agg [.p (I m.room), .nsl, .ref ba g 0 m.W.length false, .p (I m.met), .p (I m.miss)])]) X X := KeepV.app
                  obtain ⟨g22, f22⟩ := kC.track g2 f2
                  simp -implicitDefEqProofs -dsimp (maxSteps := 1000000) (disch := first | omega | (simp only [wkLen]; omega) | decide +kernel) only [↓wkPre, ↓wkPre2, ↓wkE, wkPost, wkDef, wkF, simprocAttr, hG3, s5, sU, sS, g0, g1, g2, q0, nn_v, nn_fn, List.length_map, pgL_len, allP_map, take_pg, take_pgm, get0, get1, get2, getm0, getm1, getm2, get00, getm00, setm0, setm1, setm2, setm00, setR_pg, setR_pg1, flat_pg, flatL_app, eq_pg]
                  generalize hG5 : G ++ [Blk.var true (.agg [.p (I m.room), .nsl, .ref ba g 0 m.W.length false, .p (I m.met), .p (I m.miss)])] = G4 at *
                  refine loop_use extMono (fun m' e Hc => m' = 0 ∧ e 0 = .vptr c.pp 0 ∧ e 4 = .vptr H.length 0 ∧ e 6 = .vptr (H.length + 2) 0 ∧ e 19 = .vptr G.length 0 ∧ e 20 = .p (I 0) ∧ G4 = Hc) ?_ 0 _ _ ⟨rfl, ?_⟩
                  · rintro m' e Hc ⟨rfl, e0, e4, e6, e19, e20, rfl⟩
                    have q0' := (kC.track g0 f0).1
                    simp -implicitDefEqProofs -dsimp (maxSteps := 1000000) (disch := first | omega | (simp only [wkLen]; omega) | decide +kernel) only [↓wkPre, ↓wkPre2, ↓wkE, wkPost, wkDef, wkF, simprocAttr, e0, e4, e6, e19, e20, q0', nn_v, nn_fn, List.length_map, pgL_len, allP_map, take_pg, take_pgm, get0, get1, get2, getm0, getm1, getm2, get00, getm00, setm0, setm1, setm2, setm00, setR_pg, setR_pg1, flat_pg, flatL_app, eq_pg]
                    refine evC_pl pl_8_23 (by kernel_rfl) (by decide +kernel) ?_
                    simp only [pl_8_23]
                    simp -implicitDefEqProofs -dsimp (maxSteps := 1000000) (disch := first | omega | (simp only [wkLen]; omega) | decide +kernel) only [↓wkPre, ↓wkPre2, ↓wkE, wkPost, wkDef, wkF, simprocAttr, e0, e4, e6, e19, e20, gt, nn_v, nn_fn, List.length_map, pgL_len, allP_map, take_pg, take_pgm, get0, get1, get2, getm0, getm1, getm2, get00, getm00, setm0, setm1, setm2, setm00, setR_pg, setR_pg1, flat_pg, flatL_app, eq_pg]
                    refine imp_call md_16 (w16 hI2 hr (by omega) _ ?_)
                    intro H4 R X4 w4 hR1 hR2 hI4 hw4 hK4
                    have hR0 : R = [] := by
                      rw [h0] at hR2
                      simpa using hR2.length_eq
                    subst hR0
                    obtain ⟨gt4, _⟩ := hK4.toV.track gt ft
                    obtain ⟨g24, f24⟩ := hK4.toV.track g22 f22
                    have hv4 := hv2.keep' hK4
                    have z1 : ∀ x : Blk, (H4.set (H.length + 2) x)[G.length]? = H4[G.length]? := fun x => hs_ne (by omega)
                    have z3 : ∀ x : Blk, (H4.set (H.length + 2) x)[H.length + 2]? = some x := fun x => hs_set (List.getElem?_eq_some_iff.1 g24).1
                    simp -implicitDefEqProofs -dsimp (maxSteps := 1000000) (disch := first | omega | (simp only [wkLen]; omega) | decide +kernel) only [↓wkPre, ↓wkPre2, ↓wkE, wkPost, wkDef, wkF, simprocAttr, e0, e4, e6, e19, e20, gt4, g24, z1, z3, nn_v, nn_fn, List.length_map, pgL_len, allP_map, take_pg, take_pgm, get0, get1, get2, getm0, getm1, getm2, get00, getm00, setm0, setm1, setm2, setm00, setR_pg, setR_pg1, flat_pg, flatL_app, eq_pg]
                    rw [h0] at hq
                    have hv5 : MV (H4.set (H.length + 2) (.var true (.agg [.p (I m.room), .nsl, .ref ba g 0 m.W.length false, .p (I m.met), .p (I m.miss)]))) (Foot c X4) (.agg [.p (I m.room), .nsl, .ref ba g 0 m.W.length false, .p (I m.met), .p (I m.miss)]) m :=
                      hv4.keep (fun i hi => .inl hi) (fun i l' g' s xs _ hb => ⟨l', (hs_ne (fun e => by rw [← e, g24] at hb; cases hb)).trans hb⟩)
                    exact hq _ _ X4 t w4 (hI4.set f24) hv5 (by omega) (by rw [hw4]; simp [allW]) ((kV.trans (kC.trans hK4.toV)).set (by omega))
                  · simp -implicitDefEqProofs -dsimp (maxSteps := 1000000) (disch := first | omega | (simp only [wkLen]; omega) | decide +kernel) only [↓wkPre, ↓wkPre2, ↓wkE, wkPost, wkDef, wkF, simprocAttr, hlG]
              · skip
                have hdo : doF m ⟨ok, on, ob⟩ = (withF m on (fun b => b + ob)).1 := by unfold doF; simp [hk0, hk1, hk2, hk3, hk4, hk5, hk6]
                rw [hdo] at hq
                have hcode := withF_code hwf on (fun b => b + ob)
                have p27' := p27 m on hok (by have := hbd.met; omega) (by have := hbd.miss; omega) (fun f hf => by have := hbd.k f hf; omega)
                have hpw := pinW_le m on
                have h13 := w13 hG on 31 [.vptr (H.length + 1) 0] (fun b => b + ob) md_31 (fun b H2 k hle hsm hk => w31 H2 b (H.length + 1) ok on ob ((hsm _ (List.getElem?_eq_some_iff.1 g1).1 f1).trans g1) k hk) (by omega) (by omega) (by have := hbd.met; omega) (by have := hbd.miss; omega) (fun f hf => by have := hbd.k f hf; omega)
                simp -implicitDefEqProofs -dsimp (maxSteps := 1000000) (disch := first | omega | (simp only [wkLen]; omega) | decide +kernel) only [↓wkPre, ↓wkPre2, ↓wkE, wkPost, wkDef, wkF, simprocAttr, hG3, s5, sU, sS, g0, g1, g2, hk0, hk1, hk2, hk3, hk4, hk5, hk6, nn_v, nn_fn, List.length_map, pgL_len, allP_map, take_pg, take_pgm, get0, get1, get2, getm0, getm1, getm2, get00, getm00, setm0, setm1, setm2, setm00, setR_pg, setR_pg1, flat_pg, flatL_app, eq_pg]
                refine imp_call md_13 (h13 _ ?_)
                intro H1 X1 t1 w1 hI1 ht1 hw1 hK1
                have hv1 := hvG.keep' hK1
                obtain ⟨g0', f0'⟩ := hK1.toV.track g0 f0
                obtain ⟨g1', f1'⟩ := hK1.toV.track g1 f1
                obtain ⟨g2', f2'⟩ := hK1.toV.track g2 f2
                simp -implicitDefEqProofs -dsimp (maxSteps := 1000000) (disch := first | omega | (simp only [wkLen]; omega) | decide +kernel) only [↓wkPre, ↓wkPre2, ↓wkE, wkPost, wkDef, wkF, simprocAttr, s5, sU, sS, g0', g1', g2', nn_v, nn_fn, List.length_map, pgL_len, allP_map, take_pg, take_pgm, get0, get1, get2, getm0, getm1, getm2, get00, getm00, setm0, setm1, setm2, setm00, setR_pg, setR_pg1, flat_pg, flatL_app, eq_pg]
                have hmk := pinF_mok hok (by have := hI.full; have e := hI.L; rw [e, List.length_map]; exact this) (by have := hbd.met; omega) (by have := hbd.miss; omega) (fun f hf => by have := hbd.k f hf; omega) on
                have hwd : withF m on (fun b => b + ob) = if (pinF m on).2.2 ≠ 0 then ((pinF m on).1, (pinF m on).2.2) else unpinF (putF (pinF m on).1 on ((pinF m on).2.1 + ob)).1 on := rfl
                generalize hWF : withF m on (fun b => b + ob) = WF at *
                generalize pinF m on = P at *
                obtain ⟨m3, b3, c3⟩ := P
                dsimp only at *
                refine MV.call (pr := [I on]) hv1 md_27 Try.func27 p27' rfl rfl ?_
                rintro _ H2 rfl hl2 hF2 hV2 hv2
                have hI2 := hI1.keep hF2
                have kC : KeepV c H1 H2 X1 X1 := ⟨by omega, fun i x h _ => hV2 i x h, fun i h => .inl h⟩
                have g02 := hV2 _ _ g0'
                have g12 := hV2 _ _ g1'
                have g22 := hV2 _ _ g2'
                have hlG : G.length = H.length + 3 := by rw [← hG2]; simp
                have hlen1 := hK1.len
                have a1 : ∀ l : Heap, (H2 ++ l)[H.length + 1]? = some (.var true (.p (opP ok on ob))) := fun l => (hs_app (List.getElem?_eq_some_iff.1 g12).1).trans g12
                have a2 : ∀ l : Heap, (H2 ++ l)[H.length + 2]? = some (.var true (.agg [.p (I 0), .nsl, .nsl, .p (I 0), .p (I 0)])) := fun l => (hs_app (List.getElem?_eq_some_iff.1 g22).1).trans g22
                have y0 : (H2 ++ [Blk.var true (.p (md m3)), Blk.var true (.p (pgP b3))])[H2.length]? = some (Blk.var true (.p (md m3))) := by simp
                have y1 : (H2 ++ [Blk.var true (.p (md m3)), Blk.var true (.p (pgP b3))])[H2.length + 1]? = some (Blk.var true (.p (pgP b3))) := by rw [List.getElem?_append_right (by omega)]; simp
                have kD : KeepV c H (H2 ++ [Blk.var true (.p (md m3)), Blk.var true (.p (pgP b3))]) X X1 := (kV.trans (hK1.toV.trans kC)).trans KeepV.app
                have hI3 := hI2.app [Blk.var true (.p (md m3)), Blk.var true (.p (pgP b3))]
                have hl3 : H2.length + 1 < (H2 ++ [Blk.var true (.p (md m3)), Blk.var true (.p (pgP b3))]).length := by simp
                have ft1 : H2.length ∉ Foot c X1 := fun h => by have := hI2.lt _ h; omega
                by_cases hc : c3 = 0
                · subst hc
                  rw [if_neg (by simp)] at hwd
                  subst hwd
                  have p29' := p29 m3 on (b3 + ob) hmk
                  have hm4 := putF_mok hmk on (b3 + ob)
                  generalize putF m3 on (b3 + ob) = P4 at *
                  obtain ⟨m4, c4⟩ := P4
                  dsimp only at *
                  have p28' := p28 m4 on hm4
                  generalize unpinF m4 on = P5 at *
                  obtain ⟨m5, c5⟩ := P5
                  dsimp only at *
                  have hcode : c5 = 0 := hcode
                  subst hcode
                  simp -implicitDefEqProofs -dsimp (maxSteps := 1000000) (disch := first | omega | (simp only [wkLen]; omega) | decide +kernel) only [↓wkPre, ↓wkPre2, ↓wkE, wkPost, wkDef, wkF, simprocAttr, s5, sU, sS, g02, g12, g22, a1, a2, nn_v, nn_fn, List.length_map, pgL_len, allP_map, take_pg, take_pgm, get0, get1, get2, getm0, getm1, getm2, get00, getm00, setm0, setm1, setm2, setm00, setR_pg, setR_pg1, flat_pg, flatL_app, eq_pg]
                  generalize hG6 : H2 ++ [Blk.var true (.p (md m3)), Blk.var true (.p (pgP b3))] = G6 at *
                  have a16 : G6[H.length + 1]? = some (.var true (.p (opP ok on ob))) := by rw [← hG6]; exact a1 _
                  have a26 : G6[H.length + 2]? = some (.var true (.agg [.p (I 0), .nsl, .nsl, .p (I 0), .p (I 0)])) := by rw [← hG6]; exact a2 _
                  refine evC_pl pl_8_28 (by kernel_rfl) (by decide +kernel) ?_
                  simp only [pl_8_28]
                  simp -implicitDefEqProofs -dsimp (maxSteps := 1000000) (disch := first | omega | (simp only [wkLen]; omega) | decide +kernel) only [↓wkPre, ↓wkPre2, ↓wkE, wkPost, wkDef, wkF, simprocAttr, s5, sU, sS, y0, y1, a16, a26, nn_v, nn_fn, List.length_map, pgL_len, allP_map, take_pg, take_pgm, get0, get1, get2, getm0, getm1, getm2, get00, getm00, setm0, setm1, setm2, setm00, setR_pg, setR_pg1, flat_pg, flatL_app, eq_pg]
                  rw [wrb]
                  refine PS.app md_12 Try.func12 (p12 (b3 + ob)) rfl ?_
                  rintro _ rfl
                  simp -implicitDefEqProofs -dsimp (maxSteps := 1000000) (disch := first | omega | (simp only [wkLen]; omega) | decide +kernel) only [↓wkPre, ↓wkPre2, ↓wkE, wkPost, wkDef, wkF, simprocAttr, s5, sU, sS, y0, y1, a16, a26, nn_v, nn_fn, List.length_map, pgL_len, allP_map, take_pg, take_pgm, get0, get1, get2, getm0, getm1, getm2, get00, getm00, setm0, setm1, setm2, setm00, setR_pg, setR_pg1, flat_pg, flatL_app, eq_pg]
                  refine PS.app md_29 Try.func29 p29' rfl ?_
                  rintro _ rfl
                  have u0 : ∀ x : Blk, (G6.set H2.length x)[H2.length]? = some x := fun x => hs_set (by omega)
                  have u1 : ∀ x : Blk, (G6.set H2.length x)[H.length + 1]? = G6[H.length + 1]? := fun x => hs_ne (by omega)
                  have u2 : ∀ x : Blk, (G6.set H2.length x)[H.length + 2]? = G6[H.length + 2]? := fun x => hs_ne (by omega)
                  have v0 : ∀ x y : Blk, ((G6.set H2.length x).set H2.length y)[H2.length]? = some y := fun x y => hs_set (by simp; omega)
                  have v2 : ∀ x y : Blk, ((G6.set H2.length x).set H2.length y)[H.length + 2]? = G6[H.length + 2]? := fun x y => (hs_ne (by omega)).trans (u2 x)
                  have x2 : ∀ x y z : Blk, (((G6.set H2.length x).set H2.length y).set (H.length + 2) z)[H.length + 2]? = some z := fun x y z => hs_set (by simp; omega)
                  simp -implicitDefEqProofs -dsimp (maxSteps := 1000000) (disch := first | omega | (simp only [wkLen]; omega) | decide +kernel) only [↓wkPre, ↓wkPre2, ↓wkE, wkPost, wkDef, wkF, simprocAttr, s5, sU, sS, y0, y1, a16, a26, u0, u1, u2, nn_v, nn_fn, List.length_map, pgL_len, allP_map, take_pg, take_pgm, get0, get1, get2, getm0, getm1, getm2, get00, getm00, setm0, setm1, setm2, setm00, setR_pg, setR_pg1, flat_pg, flatL_app, eq_pg]
                  refine PS.app md_28 Try.func28 p28' rfl ?_
                  rintro _ rfl
                  simp -implicitDefEqProofs -dsimp (maxSteps := 1000000) (disch := first | omega | (simp only [wkLen]; omega) | decide +kernel) only [↓wkPre, ↓wkPre2, ↓wkE, wkPost, wkDef, wkF, simprocAttr, s5, sU, sS, y0, y1, a16, a26, u0, u1, u2, v0, v2, x2, nn_v, nn_fn, List.length_map, pgL_len, allP_map, take_pg, take_pgm, get0, get1, get2, getm0, getm1, getm2, get00, getm00, setm0, setm1, setm2, setm00, setR_pg, setR_pg1, flat_pg, flatL_app, eq_pg]
                  exact hq (.p (md m5)) _ X1 t1 w1 (((hI3.set ft1).set ft1).set f2') (.inl rfl) (by omega) (by omega) (((kD.set (by omega)).set (by omega)).set (by omega))
                · rw [if_pos hc] at hwd
                  subst hwd
                  simp -implicitDefEqProofs -dsimp (maxSteps := 1000000) (disch := first | omega | (simp only [wkLen]; omega) | decide +kernel) only [↓wkPre, ↓wkPre2, ↓wkE, wkPost, wkDef, wkF, simprocAttr, s5, sU, sS, g02, g12, g22, a1, a2, hc, nn_v, nn_fn, List.length_map, pgL_len, allP_map, take_pg, take_pgm, get0, get1, get2, getm0, getm1, getm2, get00, getm00, setm0, setm1, setm2, setm00, setR_pg, setR_pg1, flat_pg, flatL_app, eq_pg]
                  exact hq (.p (md m3)) _ X1 t1 w1 ((hI2.set f2').app _) (.inl rfl) (by omega) (by omega) (((kV.trans (hK1.toV.trans kC)).set (by omega)).trans KeepV.app)
end
end Go.Ev.F28
end
