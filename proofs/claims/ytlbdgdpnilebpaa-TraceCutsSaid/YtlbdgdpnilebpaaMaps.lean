/- A part of the proof: walks of the functions that the law calls. No condition. -/
import Derived.Shelf.SlMaps.Clone
import Derived.Shelf.SlMaps.DeleteFunc
import Derived.Test.YtlbdgdpnilebpaaRun
import Derived.Test.YtlbdgdpnilebpaaEvB
set_option linter.all false
section
/- MAPS BY THE KIT's CONTRACTS: maps.Clone. -/
namespace Go.Ev
open Go.Proofs Go.Shelf Go
set_option linter.all false
theorem clone_ok {P : Program} {ρ : Ren} (L : SlLaysW.n5 P ρ) {s : St} (hs : WF s) {b g : Nat} {l : Bool} {ks : List PV} {vs : List AV} (hb : s.H[b]? = some (.map l g ks vs)) :
    Calls P (ρ.f 5) #[.map (some (s.ι b))] s.w (PostC s fun v H' => v = .map s.H.length ∧ H' = s.H ++ [.map true 0 ks vs]) := by
  have hB := hs.blk b _ hb
  simp only [RB] at hB
  obtain ⟨es, clock, he, hk, hv, hbi, _⟩ := hB
  refine (AnyW.maps_Clone L (s.ι b) es clock s.w he).mono ?_
  rintro e w' ⟨rfl, rfl⟩
  have ev := Evo.add s hs (.map es clock) (.map true 0 ks vs)
  have hi : (s.add (.map es clock) (.map true 0 ks vs)).ι s.H.length = s.w.heap.size := by simp [St.add]
  refine ⟨_, s.add (.map es clock) (.map true 0 ks vs), .map s.H.length, rfl, rfl, ev, hs.add _ _ ?_, ?_, rfl, rfl⟩
  · simp only [RB]
    refine ⟨es, clock, ?_, ?_, RAs_mono hs ev _ _ hv, hbi, by simp⟩
    · rw [hi]; exact (MapKept.heap_alloc s.w _).1
    · rw [← RAs_map_p] at hk ⊢
      exact RAs_mono hs ev _ _ hk
  · simp only [RA]
    refine ⟨⟨0, ?_⟩, by rw [hi]⟩
    simp [kd, St.add]
/-- maps.Clone of a map that is not nil. -/
def cloneSpec (args : List AV) (H : Heap) (Q : AV → Heap → Prop) : Prop :=
  ∃ b l g ks vs, args = [.map b] ∧ H[b]? = some (.map l g ks vs) ∧ Q (.map H.length) (H ++ [.map true 0 ks vs])
theorem cloneSpec_mono {args : List AV} {H : Heap} {Q Q' : AV → Heap → Prop} (hq : ∀ v H', Q v H' → Q' v H') (h : cloneSpec args H Q) : cloneSpec args H Q' := by
  obtain ⟨b, l, g, ks, vs, h1, h2, h3⟩ := h
  exact ⟨b, l, g, ks, vs, h1, h2, hq _ _ h3⟩
theorem clone_ext {P : Program} {ρ : Ren} (L : SlLaysW.n5 P ρ) {f : FuncId} (hf : ρ.f 5 = f) (he : ∀ (vs : Array Value) (w : World), (callFunc f vs).run P w = .ok (.enter f vs) w) {args : List AV} {H : Heap} {Q : AV → Heap → Prop} (h : cloneSpec args H Q) : CallOK P f args H Q := by
  obtain ⟨b, l, g, ks, vs, rfl, hb, hq⟩ := h
  subst hf
  refine ⟨he, fun s vs' hH hs hr => callsIn_wide.2 ?_⟩
  subst hH
  simp only [RAs] at hr
  obtain ⟨v0, r0, rfl, h0, rfl⟩ := hr
  simp only [RA] at h0
  obtain ⟨_, rfl⟩ := h0
  refine (clone_ok L hs hb).mono ?_
  rintro e w' ⟨v, s', av, h1, h2, h3, h4, h5, rfl, h6⟩
  exact ⟨v, s', _, h1, h2, h3, h4, h5, by rw [h6]; exact hq⟩
end Go.Ev
end
section
/- MAPS BY THE KIT's CONTRACTS: maps.DeleteFunc at integers. -/
namespace Go.Ev
open Go.Proofs Go.Shelf Go Go.Maps Go.MapKept Go.WideElems
set_option linter.all false
def mdK (E : List (Int × Int)) : List PV := kI .i64 (E.map (·.1))
def mdV (E : List (Int × Int)) : List AV := E.map fun e => .p (.int .i64 e.2)
def mdE (e : Int × Int) : Lit × DataW Unit := (.int .i64 e.1, .lit (.int .i64 e.2))
def mdD : Lit × DataW Unit → Int × Int
  | (.int _ a, .lit (.int _ b)) => (a, b)
  | _ => (0, 0)
def mdP (pd : Int → Int → Bool) : Lit → DataW Unit → Bool
  | .int _ a, .lit (.int _ b) => pd a b
  | _, _ => false
def vI : Value → Int
  | .int _ a => a
  | _ => 0
def inI (a : Int) : Prop := -9223372036854775808 ≤ a ∧ a ≤ 9223372036854775807
theorem wf_inI {a : Int} (h : inI a) : (Lit.int .i64 a).wf = true := by
  obtain ⟨h1, h2⟩ := h
  have e1 : IntKind.i64.min = -9223372036854775808 := by decide
  have e2 : IntKind.i64.max = 9223372036854775807 := by decide
  simp only [Lit.wf, e1, e2, Bool.and_eq_true, decide_eq_true_eq]
  exact ⟨h1, h2⟩
theorem RPs_kI {w : World} {Z : Nat → Prop} : ∀ {K : List Int} {vs : List Value}, RPs w Z (kI .i64 K) vs → vs = K.map (.int .i64 ·)
  | [], vs, h => by simpa [kI, RPs] using h
  | a :: K, vs, h => by
    simp only [kI, List.map_cons, RPs, RP] at h
    obtain ⟨v, r, rfl, rfl, h⟩ := h
    rw [RPs_kI (K := K) h]; rfl
theorem RPs_kI' {w : World} {Z : Nat → Prop} : ∀ (K : List Int), RPs w Z (kI .i64 K) (K.map (.int .i64 ·))
  | [] => by simp [kI, RPs]
  | a :: K => by
    simp only [kI, List.map_cons, RPs, RP]
    exact ⟨_, _, rfl, rfl, RPs_kI' K⟩
theorem key_inv {P : Program} {k : TypeId} (hk : P.underlying k = some (.int .i64)) {v : Value} {l : Lit} (h : keyOf P k v = some l) : ∃ a, v = .int .i64 a ∧ l = .int .i64 a := by
  cases v <;> simp [keyOf, hk, mapKey] at h
  obtain ⟨⟨rfl, _⟩, rfl⟩ := h
  exact ⟨_, rfl, rfl⟩
theorem elem_inv {P : Program} {e : TypeId} (he : P.underlying e = some (.int .i64)) {v : Value} {y : DataW Unit × List MemPlace} (h : plainElem P e v = some y) : ∃ a, v = .int .i64 a ∧ y = (.lit (.int .i64 a), []) := by
  unfold plainElem at h
  rw [he] at h
  cases v <;> simp at h
  obtain ⟨⟨rfl, _⟩, rfl⟩ := h
  exact ⟨_, rfl, rfl⟩
set_option maxHeartbeats 1000000 in
theorem dfunc_ok {P : Program} {ρ : Ren} (L : SlLaysDf.n5 P ρ) (hk : P.underlying (ρ.t 26) = some (.int .i64)) (hv : P.underlying (ρ.t 24) = some (.int .i64)) {s : St} (hs : WF s) {b g : Nat} {E : List (Int × Int)}
    (hb : s.H[b]? = some (.map true g (mdK E) (mdV E))) (hr : ∀ e ∈ E, inI e.1 ∧ inI e.2) (hsz : E.length ≤ 1000) (nd : (E.map (·.1)).Nodup) {f : FuncId} {cb : Array Value} {pd : Int → Int → Bool} (eg : ∀ args w, (callFunc f args).run P w = .ok (.enter f args) w)
    (hdel : ∀ (W : World) (k v : Int), s.w.grownBy W (some (s.ι b)) → Calls P f (#[.int .i64 k, .int .i64 v] ++ cb) W fun e w' => e = .returned (.bool (pd k v)) ∧ w' = W) :
    Calls P (ρ.f 5) #[.map (some (s.ι b)), .func (.func f) #[] cb] s.w (PostC s fun v H' => v = .p (.tup []) ∧ ∃ E' : List (Int × Int), E'.Perm (E.filter fun e => !pd e.1 e.2) ∧ H' = s.H.set b (.map true (g + 1) (mdK E') (mdV E'))) := by
  have hbl := (List.getElem?_eq_some_iff.1 hb).1
  have hB := hs.blk b _ hb
  simp only [RB] at hB
  obtain ⟨es, clock, he, hK, hV, hbi, _⟩ := hB
  have eK := RPs_kI hK
  have hV' : RPs s.w s.Z (kI .i64 (E.map (·.2))) (es.toList.map (·.val)) := by
    rw [← RAs_map_p]
    have : (kI .i64 (E.map (·.2))).map AV.p = mdV E := by simp [kI, mdV]
    rw [this]; exact hV
  have eV := RPs_kI hV'
  have hlen : es.toList.length = E.length := by have := congrArg List.length eK; simpa using this
  have hat : ∀ i (h : i < E.length), ∃ x, es.toList[i]? = some x ∧ x.key = .int .i64 E[i].1 ∧ x.val = .int .i64 E[i].2 := fun i h => by
    refine ⟨es.toList[i], List.getElem?_eq_getElem (by omega), ?_, ?_⟩
    · have := congrArg (fun l => l[i]?) eK
      simpa [h, show i < es.size by simpa using (by omega : i < es.toList.length)] using this
    · have := congrArg (fun l => l[i]?) eV
      simpa [h, show i < es.size by simpa using (by omega : i < es.toList.length)] using this
  have hrd : ∀ x ∈ es.toList, ∃ e ∈ E, x.key = .int .i64 e.1 ∧ x.val = .int .i64 e.2 ∧ rd P (ρ.t 26) (plainElem (H := Unit) P (ρ.t 24)) x = some (mdE e) := fun x hx => by
    obtain ⟨i, hi, rfl⟩ := List.mem_iff_getElem.1 hx
    obtain ⟨y, h1, h2, h3⟩ := hat i (by omega)
    rw [List.getElem?_eq_getElem hi] at h1
    cases h1
    have hE := List.getElem_mem (show i < E.length by omega)
    refine ⟨_, hE, h2, h3, ?_⟩
    unfold rd
    rw [h2, h3, keyOf_int_mk hk (wf_inI (hr _ hE).1), plainElem_int hv (wf_inI (hr _ hE).2)]
    rfl
  have hrg : es.toList.map (rg P (ρ.t 26) (plainElem (H := Unit) P (ρ.t 24))) = E.map mdE := by
    refine List.ext_getElem (by simpa using hlen) fun i h1 h2 => ?_
    simp only [List.length_map] at h1 h2
    obtain ⟨y, k1, k2, k3⟩ := hat i h2
    rw [List.getElem?_eq_getElem h1] at k1
    cases k1
    rw [List.getElem_map, List.getElem_map]
    unfold rg rd
    have hE := List.getElem_mem h2
    rw [k2, k3, keyOf_int_mk hk (wf_inI (hr _ hE).1), plainElem_int hv (wf_inI (hr _ hE).2)]
    rfl
  have hfit : Fit P (ρ.t 26) (plainElem (H := Unit) P (ρ.t 24)) es clock := by
    refine ⟨?_, ⟨?_, ?_, ?_⟩, fun x hx => ?_⟩
    · have : es.size = E.length := by simpa using hlen
      have h2 : 1000 ≤ maxLen := by decide
      omega
    · intro x hx
      obtain ⟨i, hi, rfl⟩ := List.mem_iff_getElem.1 hx
      exact hbi.1 i _ (by rw [← Array.getElem?_toList, List.getElem?_eq_getElem hi])
    · refine List.pairwise_iff_getElem.2 fun i j hi hj hij e => ?_
      simp only [List.length_map] at hi hj
      rw [List.getElem_map, List.getElem_map] at e
      have := hbi.2 i j _ _ (by rw [← Array.getElem?_toList, List.getElem?_eq_getElem hi]) (by rw [← Array.getElem?_toList, List.getElem?_eq_getElem hj]) e
      omega
    · rw [eK, List.map_map]
      have : E.map (fun e => Value.int .i64 e.1) = (E.map (·.1)).map (Value.int .i64 ·) := by simp
      rw [show (List.map ((fun x => Value.int IntKind.i64 x) ∘ fun x => x.1) E) = (E.map (·.1)).map (Value.int .i64 ·) by simp]
      exact List.Pairwise.map _ (fun a b (h : a ≠ b) => by simpa using h) nd
    · obtain ⟨e, _, _, _, h⟩ := hrd x hx
      exact ⟨_, h⟩
  have hown : s.w.ownsMap P (ρ.t 26) (plainElem (H := Unit) P (ρ.t 24)) (s.ι b) 1000 (.map ((es.toList.map (rg P (ρ.t 26) (plainElem (H := Unit) P (ρ.t 24)))).foldr DataW.insert [])) :=
    ⟨es, clock, he, hfit, by have : es.size = E.length := by simpa using hlen
                             omega, rfl⟩
  refine (AnyDf.maps_DeleteFunc L (int_keyed hk) (plainElem (H := Unit) P (ρ.t 24)) (mdP pd) f cb (s.ι b) 1000 _ s.w eg hown (fun W key val kl yd yp hg h1 h2 => ?_)).mono ?_
  · obtain ⟨a, rfl, rfl⟩ := key_inv hk h1
    obtain ⟨c, rfl, hy⟩ := elem_inv hv h2
    simp only [Prod.mk.injEq] at hy
    obtain ⟨rfl, rfl⟩ := hy
    exact (hdel W a c hg).mono fun e w' ⟨h3, h4⟩ => ⟨h3, h4 ▸ World.grownBy.refl _ _⟩
  · rintro e w' ⟨rfl, ⟨es', clock', hb', F', hs', hD'⟩, hg⟩
    have hperm : ((es'.toList.map (rg P (ρ.t 26) (plainElem (H := Unit) P (ρ.t 24))))).Perm ((E.map mdE).filter fun p => !mdP pd p.1 p.2) := by
      rw [hrg] at hD'
      simp only [Lib.deleteFuncD, DataW.map.injEq] at hD'
      refine (WideShapes.sorted_perm _).symm.trans ?_
      rw [← hD']
      exact (WideShapes.sorted_perm _).filter _
    have hrd' : ∀ x ∈ es'.toList, ∃ e : Int × Int, x.key = .int .i64 e.1 ∧ x.val = .int .i64 e.2 ∧ rg P (ρ.t 26) (plainElem (H := Unit) P (ρ.t 24)) x = mdE e := fun x hx => by
      obtain ⟨y, hy⟩ := F'.reads x hx
      have hy0 := hy
      unfold rd at hy
      simp only [Option.bind_eq_some_iff, Option.map_eq_some_iff] at hy
      obtain ⟨kl, h1, d, h2, rfl⟩ := hy
      obtain ⟨a, h3, rfl⟩ := key_inv hk h1
      obtain ⟨c, h4, rfl⟩ := elem_inv hv h2
      refine ⟨(a, c), h3, h4, ?_⟩
      unfold rg
      rw [hy0]; rfl
    generalize hE' : es'.toList.map (fun x => (vI x.key, vI x.val)) = E'
    have k1 : es'.toList.map (·.key) = (E'.map (·.1)).map (Value.int .i64 ·) := by
      rw [← hE', List.map_map, List.map_map]
      refine List.map_congr_left fun x hx => ?_
      obtain ⟨e, h1, h2, _⟩ := hrd' x hx
      simp [h1, vI]
    have k2 : es'.toList.map (·.val) = (E'.map (·.2)).map (Value.int .i64 ·) := by
      rw [← hE', List.map_map, List.map_map]
      refine List.map_congr_left fun x hx => ?_
      obtain ⟨e, h1, h2, _⟩ := hrd' x hx
      simp [h2, vI]
    have k3 : es'.toList.map (rg P (ρ.t 26) (plainElem (H := Unit) P (ρ.t 24))) = E'.map mdE := by
      rw [← hE', List.map_map]
      refine List.map_congr_left fun x hx => ?_
      obtain ⟨e, h1, h2, h3⟩ := hrd' x hx
      simp [h3, h1, h2, vI]
    have hEp : E'.Perm (E.filter fun e => !pd e.1 e.2) := by
      rw [k3] at hperm
      have := hperm.map mdD
      rw [List.map_map, List.filter_map, List.map_map] at this
      have hid : mdD ∘ mdE = id := by funext e; rfl
      rw [hid, List.map_id, List.map_id] at this
      exact this
    have hib := hs.bnd b hbl
    generalize hw1 : ({ s.w with heap := s.w.heap.setIfInBounds (s.ι b) (.map es' clock') } : World) = w1
    have h1h : w1.heap[s.ι b]? = some (.map es' clock') := by rw [← hw1]; simp [hib]
    have h1o : ∀ k, k ≠ s.ι b → w1.heap[k]? = s.w.heap[k]? := fun k h => by rw [← hw1]; simp [Array.getElem?_setIfInBounds, Ne.symm h]
    have hrw : Rewrites s b (.map true (g + 1) (mdK E') (mdV E')) w1 := ⟨hbl, by simp [live, hb], by rw [← hw1]; simp, h1o, by rw [← hw1], by rw [← hw1], by rw [← hw1]⟩
    have hkf : KdFits s b (.map true (g + 1) (mdK E') (mdV E')) w1 := by
      unfold KdFits
      have : kd s.H b = some (.map g) := by simp [kd, hb]
      rw [this]
      exact ⟨Nat.le_succ _, fun h => by omega⟩
    have hRB : RB (s.put b (.map true (g + 1) (mdK E') (mdV E')) w1) b (.map true (g + 1) (mdK E') (mdV E')) := by
      simp only [RB, St.put]
      refine ⟨es', clock', h1h, ?_, ?_, ?_, fun h => by cases h⟩
      · rw [k1]; exact RPs_kI' _
      · have e3 : mdV E' = (kI .i64 (E'.map (·.2))).map AV.p := by simp [kI, mdV]
        rw [e3, RAs_map_p, k2]; exact RPs_kI' _
      · obtain ⟨st1, st2, _⟩ := F'.stamped
        refine ⟨fun i e hi => st1 e ?_, fun i j e e' hi hj h => ?_⟩
        · rw [← Array.getElem?_toList] at hi
          exact List.mem_iff_getElem?.2 ⟨i, hi⟩
        · rw [← Array.getElem?_toList] at hi hj
          obtain ⟨hi1, hi2⟩ := List.getElem?_eq_some_iff.1 hi
          obtain ⟨hj1, hj2⟩ := List.getElem?_eq_some_iff.1 hj
          rcases Nat.lt_trichotomy i j with h3 | h3 | h3
          · have hne := List.pairwise_iff_getElem.1 st2 i j (by simpa using hi1) (by simpa using hj1) h3
            rw [List.getElem_map, List.getElem_map, hi2, hj2] at hne
            exact absurd h hne
          · exact h3
          · have hne := List.pairwise_iff_getElem.1 st2 j i (by simpa using hj1) (by simpa using hi1) h3
            rw [List.getElem_map, List.getElem_map, hi2, hj2] at hne
            exact absurd h.symm hne
    have ev1 := Evo.put hs hrw hkf
    have wf1 := WF.put hs hrw hkf hRB
    have hap : Apart (s.put b (.map true (g + 1) (mdK E') (mdV E')) w1) [] w' s.Z := by
      refine ⟨fun b hb => (by cases hb), ?_, ?_, ?_, ?_, ?_, ?_, ?_, ?_⟩
      · show w1.heap.size ≤ _
        rw [hrw.size]; exact hg.size
      · intro k hk
        show _ = w1.heap[k]?
        by_cases e : k = s.ι b
        · rw [e, h1h, hb']
        · rw [h1o k e]
          exact hg.block k (by rw [← hrw.size]; exact hk) (fun h => e (Option.some.inj h))
      · exact hg.os.trans hrw.os.symm
      · exact hg.tape.trans hrw.tape.symm
      · exact hg.output.trans hrw.output.symm
      · rintro j (h | ⟨b, hb, _⟩)
        · exact h
        · cases hb
      · exact fun j h _ => .inl h
      · intro j h
        exact Nat.lt_of_lt_of_le (hs.zb j h) hg.size
    refine ⟨_, (s.put b (.map true (g + 1) (mdK E') (mdV E')) w1).apart [] w' s.Z, .p (.tup []), rfl, rfl, Evo.trans ev1 (Evo.apart wf1 hap), WF.apart wf1 hap, ?_, rfl, E', hEp, ?_⟩
    · simp [RA, RP, RPs]
    · show freezeIds [] _ = _
      rw [freezeIds_nil]; rfl
end Go.Ev
end
