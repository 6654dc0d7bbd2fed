/- The evaluator's operations against the model; calls. No condition. -/
import Derived.Laws.StructEq
import Derived.ChangeKeysEq
import Derived.Deep.AppendSrc
import Derived.Laws.BytesString
import Derived.Laws.IdiomStrings
import Derived.MapKept
import Derived.WideKeyRuns
import Derived.RangeFuncRecord
import Derived.Test.YtlbdgdpnilebpaaEvA
set_option linter.all false
section
/- VALUES COMPARED CELL BY CELL. -/
namespace Go.Ev
variable {P : Program}

theorem cellsEq_append : ∀ {k1 k2 : List Nat} {xs ys : List PV} {r : Bool}, cellsEq (k1 ++ k2) xs ys = some r →
    ∃ a b, cellsEq k1 (xs.take k1.length) (ys.take k1.length) = some a ∧ cellsEq k2 (xs.drop k1.length) (ys.drop k1.length) = some b ∧ r = (a && b)
  | [], k2, xs, ys, r, h => ⟨true, r, by simp [cellsEq], by simpa using h, by simp⟩
  | k :: k1, k2, xs, ys, r, h => by
    cases xs with
    | nil => simp [cellsEq] at h
    | cons x xs =>
      cases ys with
      | nil => simp [cellsEq] at h
      | cons y ys =>
        simp only [List.cons_append, cellsEq] at h
        split at h
        · rename_i a0 b0 h1 h2
          simp only [Option.some.injEq] at h
          obtain ⟨a, b, h3, h4, h5⟩ := cellsEq_append h2
          refine ⟨a0 && a, b, ?_, by simpa using h4, by rw [← h, h5, Bool.and_assoc]⟩
          simp only [List.length_cons, List.take_succ_cons, cellsEq, h1, h3]
        · cases h
theorem cellsEq_length : ∀ {ks : List Nat} {xs ys : List PV} {r : Bool}, cellsEq ks xs ys = some r → xs.length = ks.length ∧ ys.length = ks.length
  | [], xs, ys, r, h => by
    cases xs <;> cases ys <;> simp_all [cellsEq]
  | k :: ks, xs, ys, r, h => by
    cases xs with
    | nil => simp [cellsEq] at h
    | cons x xs =>
      cases ys with
      | nil => simp [cellsEq] at h
      | cons y ys =>
        simp only [cellsEq] at h
        split at h
        · rename_i h1 h2
          have := cellsEq_length h2
          simp [this.1, this.2]
        · cases h

/-- A type's value out of its cells. -/
def mkV (P : Program) (t : TypeId) (cs : List Value) : Value := if isAggT P t = true then .agg cs.toArray else cs.headD undef

theorem flatKs_size : ∀ {d : Nat} {t : TypeId} {ks : List Nat}, flatKs P d t = some ks → (∃ i, P.info? t = some i ∧ i.size = ks.length) ∧ ks ≠ [] ∧ (isAggT P t = false → ks.length = 1)
  | 0, t, ks, h => by simp [flatKs] at h
  | d + 1, t, ks, h => by
    unfold flatKs at h
    split at h
    · rename_i i hu hi
      split at h
      · cases h; exact ⟨⟨i, hi, by simpa⟩, by simp, fun _ => rfl⟩
      · cases h
    · rename_i i hu hi
      split at h
      · cases h; exact ⟨⟨i, hi, by simpa⟩, by simp, fun _ => rfl⟩
      · cases h
    · rename_i i hu hi
      split at h
      · cases h; exact ⟨⟨i, hi, by simpa⟩, by simp, fun _ => rfl⟩
      · cases h
    · rename_i fs i hu hi
      split at h
      · cases h
      · simp only [Option.bind_eq_some_iff] at h
        obtain ⟨ks', _, h⟩ := h
        split at h
        · rename_i hc
          cases h
          exact ⟨⟨i, hi, hc.1.symm⟩, hc.2, fun hf => by simp [isAggT, hu] at hf⟩
        · cases h
    · rename_i n e i hu hi
      simp only [Option.bind_eq_some_iff] at h
      obtain ⟨ks', _, h⟩ := h
      split at h
      · rename_i hc
        cases h
        refine ⟨⟨i, hi, by simp [← hc.1]⟩, ?_, fun hf => by simp [isAggT, hu] at hf⟩
        intro he
        have h7 := congrArg List.length he
        simp only [List.length_flatten, List.map_replicate, List.sum_replicate_nat, List.length_nil] at h7
        have h8 := Nat.mul_eq_zero.1 h7
        exact h8.elim hc.2.1 (fun h1 => hc.2.2 (List.eq_nil_of_length_eq_zero h1))
      · cases h
    · cases h

theorem isAgg_run {t : TypeId} {i : TypeInfo} (hi : P.info? t = some i) (hu : (P.underlying t).isSome = true) (w : World) : (isAgg t).run P w = .ok (isAggT P t) w := by
  obtain ⟨d, hd⟩ := Option.isSome_iff_exists.1 hu
  simp only [isAgg, Sem.run_bind, run_underlying' hd, Result.andThen_ok, isAggT, hd]
  cases d <;> rfl

theorem flatKs_und {d : Nat} {t : TypeId} {ks : List Nat} (h : flatKs P d t = some ks) : (P.underlying t).isSome = true := by
  cases d with
  | zero => simp [flatKs] at h
  | succ d =>
    unfold flatKs at h
    split at h <;> first | (rename_i hu _; simp [hu]; done) | (rename_i hu hi; simp [hu]; done) | simp_all

theorem part_flat {d : Nat} {t : TypeId} {ks : List Nat} (h : flatKs P d t = some ks) {cs : List Value} {off : Nat} (hl : off + ks.length ≤ cs.length) (w : World) :
    (part t cs.toArray off).run P w = .ok (mkV P t ((cs.drop off).take ks.length)) w := by
  obtain ⟨⟨i, hi, hs⟩, hn, h1⟩ := flatKs_size h
  simp only [part, Sem.run_bind, isAgg_run hi (flatKs_und h), Result.andThen_ok, mkV]
  have hpos : 0 < ks.length := List.length_pos_iff.2 hn
  cases ha : isAggT P t with
  | true =>
    simp only [if_true, Sem.run_bind, run_sizeOf hi, Result.andThen_ok, Sem.run_pure, hs]
    congr 2
    apply Array.ext'
    simp [List.drop_take]
  | false =>
    have hlen := h1 ha
    simp only [Bool.false_eq_true, if_false]
    rw [hlen] at hl ⊢
    rw [List.getElem?_toArray, List.getElem?_eq_getElem (by omega)]
    simp only [Sem.run_pure]
    congr 1
    rw [List.headD_eq_head?_getD, List.head?_take, if_neg (by omega), List.head?_drop, List.getElem?_eq_getElem (by omega)]
    rfl

theorem leafEq_run {k : Nat} {x y : PV} {r : Bool} (h : leafEq k x y = some r) {w : World} {Z : Nat → Prop} {c e : Value} (hc : RP w Z x c) (he : RP w Z y e) :
    (k = 1 ∧ ∃ a b, c = .bool a ∧ e = .bool b ∧ r = (a == b)) ∨ (k = 2 ∧ ∃ j a b, c = .int j a ∧ e = .int j b ∧ r = (a == b)) ∨
      (k = 3 ∧ ∃ a b : List UInt8, c = .string ⟨a.toArray⟩ ∧ e = .string ⟨b.toArray⟩ ∧ r = (a == b)) := by
  unfold leafEq at h
  split at h
  · simp only [RP] at hc he
    subst hc; subst he
    simp only [Option.some.injEq] at h
    exact .inl ⟨rfl, _, _, rfl, rfl, h.symm⟩
  · split at h
    · rename_i hk
      subst hk
      simp only [RP] at hc he
      subst hc; subst he
      simp only [Option.some.injEq] at h
      exact .inr (.inl ⟨rfl, _, _, _, rfl, rfl, h.symm⟩)
    · cases h
  · simp only [RP] at hc he
    subst hc; subst he
    simp only [Option.some.injEq] at h
    exact .inr (.inr ⟨rfl, _, _, rfl, rfl, h.symm⟩)
  · cases h

theorem one_of_length {α : Type} {l : List α} (h : l.length = 1) : ∃ a, l = [a] := by
  match l, h with
  | [a], _ => exact ⟨a, rfl⟩

theorem flatEq_run {w : World} {Z : Nat → Prop} : ∀ (d : Nat) {t : TypeId} {ks : List Nat}, flatKs P d t = some ks → ∀ (m : Nat) {xs ys : List PV} {cs ds : List Value} {r : Bool},
    RPs w Z xs cs → RPs w Z ys ds → cellsEq ks xs ys = some r → (Op.equalIn (d + m) t (mkV P t cs) (mkV P t ds)).run P w = .ok r w
  | 0, t, ks, h => by simp [flatKs] at h
  | d + 1, t, ks, h => by
    intro m xs ys cs ds r hcs hds he
    have hks := h
    have hl := cellsEq_length he
    have hcl := RPs_length hcs
    have hdl := RPs_length hds
    unfold flatKs at h
    rw [show d + 1 + m = (d + m) + 1 by omega]
    have leaf : ∀ k, ks = [k] → isAggT P t = false → ∃ x y c e, leafEq k x y = some r ∧ RP w Z x c ∧ RP w Z y e ∧ mkV P t cs = c ∧ mkV P t ds = e := by
      intro k hk hag
      subst hk
      obtain ⟨x, rfl⟩ := one_of_length hl.1
      obtain ⟨y, rfl⟩ := one_of_length hl.2
      obtain ⟨c, rfl⟩ := one_of_length hcl
      obtain ⟨e, rfl⟩ := one_of_length hdl
      simp only [RPs] at hcs hds
      obtain ⟨_, _, h1, h2, _⟩ := hcs
      obtain ⟨_, _, h3, h4, _⟩ := hds
      simp only [List.cons.injEq] at h1 h3
      rw [← h1.1] at h2
      rw [← h3.1] at h4
      refine ⟨x, y, c, e, ?_, h2, h4, by simp [mkV, hag], by simp [mkV, hag]⟩
      simp only [cellsEq] at he
      split at he
      · rename_i a b h5 h6
        simp only [Option.some.injEq] at h6 he
        rw [h5, ← he, ← h6]; simp
      · cases he
    split at h
    · rename_i i hu hi
      split at h
      · cases h
        obtain ⟨x, y, c, e, h1, h2, h3, h4, h5⟩ := leaf 1 rfl (by simp [isAggT, hu])
        rw [h4, h5]
        rcases leafEq_run h1 h2 h3 with ⟨_, a, b, rfl, rfl, rfl⟩ | ⟨h6, _⟩ | ⟨h6, _⟩
        · exact run_equalIn_bool w _ t a b hu
        · cases h6
        · cases h6
      · cases h
    · rename_i k i hu hi
      split at h
      · cases h
        obtain ⟨x, y, c, e, h1, h2, h3, h4, h5⟩ := leaf 2 rfl (by simp [isAggT, hu])
        rw [h4, h5]
        rcases leafEq_run h1 h2 h3 with ⟨h6, _⟩ | ⟨_, j, a, b, rfl, rfl, rfl⟩ | ⟨h6, _⟩
        · cases h6
        · exact run_equalIn_int w _ t j k a b hu
        · cases h6
      · cases h
    · rename_i i hu hi
      split at h
      · cases h
        obtain ⟨x, y, c, e, h1, h2, h3, h4, h5⟩ := leaf 3 rfl (by simp [isAggT, hu])
        rw [h4, h5]
        rcases leafEq_run h1 h2 h3 with ⟨h6, _⟩ | ⟨h6, _⟩ | ⟨_, a, b, rfl, rfl, rfl⟩
        · cases h6
        · cases h6
        · rw [run_equalIn_string w _ t _ _ hu]; simp
      · cases h
    · rename_i fs i hu hi
      split at h
      · cases h
      · rename_i hp
        simp only [Option.bind_eq_some_iff] at h
        obtain ⟨ks', hfs, h⟩ := h
        split at h
        · cases h
          have hag : isAggT P t = true := by simp [isAggT, hu]
          have hff : P.fieldsOf t = fs := by simp [Program.fieldsOf, hu]
          simp only [mkV, hag, if_true]
          rw [run_equalIn_struct w (d + m) t _ _ (by rw [hff]; exact hu) (by simpa using hp), hff]
          have key : ∀ (fl : List Field) (o : Nat) (kf : List Nat) (r : Bool), flatFs (flatKs P d) fl o = some kf → cellsEq kf ((xs.drop o).take kf.length) ((ys.drop o).take kf.length) = some r →
              o + kf.length ≤ xs.length → o + kf.length ≤ ys.length → (Op.eqFields (d + m) cs.toArray ds.toArray fl).run P w = .ok r w := by
            intro fl
            induction fl with
            | nil =>
              intro o kf r h1 h2 _ _
              simp only [flatFs, Option.some.injEq] at h1
              subst h1
              simp [cellsEq] at h2
              subst h2
              simp [Op.eqFields]
            | cons f fl ih =>
              intro o kf r h1 h2 hx hy
              simp only [flatFs] at h1
              split at h1
              · rename_i hc
                obtain ⟨ho, hn⟩ := hc
                simp only [Option.bind_eq_some_iff, Option.map_eq_some_iff] at h1
                obtain ⟨k1, hk1, k2, hk2, rfl⟩ := h1
                obtain ⟨a, b, h3, h4, rfl⟩ := cellsEq_append h2
                simp only [List.length_append] at hx hy h3 h4
                have hp1 := part_flat hk1 (cs := cs) (off := o) (by omega) w
                have hp2 := part_flat hk1 (cs := ds) (off := o) (by omega) w
                have h5 := flatEq_run d hk1 m (xs := (xs.drop o).take k1.length) (ys := (ys.drop o).take k1.length) (RPs_take (RPs_drop hcs o) _) (RPs_take (RPs_drop hds o) _)
                  (by rw [List.take_take, List.take_take, Nat.min_eq_left (by omega)] at h3; exact h3)
                have h6 := ih (o + k1.length) k2 b hk2 (by
                  rw [List.drop_take, List.drop_take, List.drop_drop, List.drop_drop, show k1.length + k2.length - k1.length = k2.length by omega] at h4
                  exact h4) (by omega) (by omega)
                simp only [Op.eqFields, if_pos hn, Sem.run_bind, ho, hp1, hp2, h5, Result.andThen_ok]
                cases a
                · simp
                · simpa using h6
              · cases h1
          exact key fs.toList 0 ks r hfs (by
            rw [List.drop_zero, List.drop_zero, List.take_of_length_le (by omega), List.take_of_length_le (by omega)]; exact he) (by omega) (by omega)
        · cases h
    · rename_i n e i hu hi
      simp only [Option.bind_eq_some_iff] at h
      obtain ⟨k1, hk1, h⟩ := h
      split at h
      · rename_i hc
        cases h
        obtain ⟨⟨ie, hie, hsz⟩, _, _⟩ := flatKs_size hk1
        have hag : isAggT P t = true := by simp [isAggT, hu]
        have hcells : P.cellsOf e = k1.length := by simp [Program.cellsOf, hie, hsz]
        simp only [mkV, hag, if_true]
        rw [run_equalIn_array w (d + m) _ _ hu hie, hcells, List.range_eq_range']
        have hlen : n * k1.length = xs.length := by rw [hl.1]; simp
        have hlen' : n * k1.length = ys.length := by rw [hl.2]; simp
        have key : ∀ (q j : Nat) (r : Bool), j + q = n → cellsEq (List.replicate q k1).flatten (xs.drop (j * k1.length)) (ys.drop (j * k1.length)) = some r →
            (Op.eqItems (d + m) e k1.length cs.toArray ds.toArray (List.range' j q)).run P w = .ok r w := by
          intro q
          induction q with
          | zero =>
            intro j r hj h2
            have h3 := cellsEq_length h2
            simp at h3
            have : xs.drop (j * k1.length) = [] := List.drop_eq_nil_of_le (by omega)
            have h4 : ys.drop (j * k1.length) = [] := List.drop_eq_nil_of_le (by omega)
            rw [this, h4] at h2
            simp [cellsEq] at h2
            subst h2
            simp [Op.eqItems]
          | succ q ih =>
            intro j r hj h2
            rw [List.replicate_succ, List.flatten_cons] at h2
            obtain ⟨a, b, h3, h4, rfl⟩ := cellsEq_append h2
            have hb : j * k1.length + k1.length ≤ n * k1.length := by
              have := Nat.mul_le_mul_right k1.length (show j + 1 ≤ n by omega)
              rwa [Nat.succ_mul] at this
            have hp1 := part_flat hk1 (cs := cs) (off := j * k1.length) (by omega) w
            have hp2 := part_flat hk1 (cs := ds) (off := j * k1.length) (by omega) w
            have h5 := flatEq_run d hk1 m (RPs_take (RPs_drop hcs (j * k1.length)) k1.length) (RPs_take (RPs_drop hds (j * k1.length)) k1.length) h3
            have h6 := ih (j + 1) b (by omega) (by
              rw [List.drop_drop, List.drop_drop] at h4
              rw [Nat.succ_mul]; exact h4)
            simp only [List.range'_succ, Op.eqItems, Sem.run_bind, hp1, hp2, h5, Result.andThen_ok]
            cases a
            · simp
            · simpa using h6
        exact key n 0 r (by omega) (by simpa using he)
      · cases h
    · cases h

end Go.Ev
end
section
/- OPERATORS, CONVERSIONS, SMALL OPERATIONS. -/
namespace Go.Ev
variable {P : Program}

/-! operators -/
theorem intBin_ok {op : BinOp} {k : IntKind} {a b : Int} {r : PV} {s : St} (h : intBin op k a b = some r) (t : TypeId) :
    ∃ v, (binOp op t (.int k a) (.int k b)).run P s.w = .ok v s.w ∧ RP s.w s.Z r v := by
  unfold intBin at h
  split at h
  all_goals first
    | (simp only [Option.some.injEq] at h; subst h; exact ⟨_, by simp only [binOp, Op.intArith, Op.intBits, Op.intCmp, ne_eq, not_true_eq_false, if_false]; rfl, by simp only [RP]⟩)
    | (split at h
       · cases h
       · rename_i hb
         simp only [Option.some.injEq] at h; subst h
         exact ⟨_, by simp [binOp, Op.intDiv, hb]; rfl, by simp only [RP]⟩)
    | (cases h; done)

theorem strBin_ok {op : BinOp} {a b : List UInt8} {r : PV} {s : St} (h : strBin op a b = some r) (t : TypeId) :
    ∃ v, (binOp op t (.string ⟨a.toArray⟩) (.string ⟨b.toArray⟩)).run P s.w = .ok v s.w ∧ RP s.w s.Z r v := by
  have hsz : ∀ l : List UInt8, (⟨l.toArray⟩ : ByteArray).size = l.length := fun l => by simp [ByteArray.size]
  unfold strBin at h
  split at h
  · split at h
    · rename_i hb
      simp only [Option.some.injEq] at h; subst h
      refine ⟨.string (⟨a.toArray⟩ ++ ⟨b.toArray⟩), ?_, by simp only [RP]; rw [ByteArray.mk_append_mk]⟩
      simp only [binOp, Op.stringOp, hsz]
      rw [if_neg (by omega)]
      rfl
    · cases h
  all_goals first
    | (simp only [Option.some.injEq] at h; subst h; exact ⟨_, by simp only [binOp, Op.stringOp, ByteArray.toList_mk]; rfl, by simp only [RP]⟩)
    | (cases h; done)

theorem binPV_ok {op : BinOp} {x y r : PV} {s : St} {vx vy : Value} (hx : RP s.w s.Z x vx) (hy : RP s.w s.Z y vy) (h : binPV op x y = some r) (t : TypeId) :
    ∃ v, (binOp op t vx vy).run P s.w = .ok v s.w ∧ RP s.w s.Z r v := by
  unfold binPV at h
  split at h
  · simp only [RP] at hx hy
    subst hx; subst hy
    split at h
    · split at h
      · cases h
      · rename_i hb
        simp only [Option.some.injEq] at h; subst h
        exact ⟨_, by simp [binOp, Op.shift, hb]; rfl, by simp only [RP]⟩
    · split at h
      · cases h
      · rename_i hb
        simp only [Option.some.injEq] at h; subst h
        exact ⟨_, by simp [binOp, Op.shift, hb]; rfl, by simp only [RP]⟩
    · split at h
      · rename_i hk
        subst hk
        exact intBin_ok h t
      · cases h
  · simp only [RP] at hx hy
    subst hx; subst hy
    exact strBin_ok h t
  · cases h

theorem eqGuard_plain {op : BinOp} {t : TypeId} {ox oy : Operand} {a b : Value} {w : World} (h : (∀ cs ds, a = .agg cs → b = .agg ds → P.eqGuardType P.depth t = false) ∧ ¬ (a = .nilIface ∧ b = .nilIface)) :
    (eqGuard op t ox oy a b).run P w = .ok () w := by
  unfold eqGuard
  cases op
  case eql | neq =>
    all_goals
      cases a <;> cases b <;> first
        | (simp; done)
        | exact absurd ⟨rfl, rfl⟩ h.2
        | (rename_i cs ds; simp [h.1 cs ds rfl rfl])
  all_goals simp

/-- What an answer of '==' says of two values. -/
def Concl (P : Program) (s : St) (t : TypeId) (vx vy : Value) (o : Option Bool) : Prop :=
  (∃ b : Bool, (Op.equal t vx vy).run P s.w = .ok b s.w ∧ (∀ c, o = some c → b = c)) ∧ (∀ op ox oy, (eqGuard op t ox oy vx vy).run P s.w = .ok () s.w) ∧
      (binOp .eql t vx vy = do pure (.bool (← Op.equal t vx vy))) ∧ (binOp .neq t vx vy = do pure (.bool (!(← Op.equal t vx vy))))
theorem Concl.none {s : St} {t : TypeId} {vx vy : Value} {o : Option Bool} (h : Concl P s t vx vy o) : Concl P s t vx vy none :=
  ⟨let ⟨b, h1, _⟩ := h.1; ⟨b, h1, fun _ h => by cases h⟩, h.2⟩
theorem c_of {s : St} {t : TypeId} {vx vy : Value} {b : Bool} (h : ∀ d, (Op.equalIn (d + 1) t vx vy).run P s.w = .ok b s.w) (h1 : ¬ (vx = .nilIface ∧ vy = .nilIface)) (h2 : ∀ cs, vx ≠ .agg cs)
    (h3 : binOp .eql t vx vy = do pure (.bool (← Op.equal t vx vy))) (h4 : binOp .neq t vx vy = do pure (.bool (!(← Op.equal t vx vy)))) : Concl P s t vx vy (some b) :=
  ⟨⟨b, h 9999, fun c hc => by simpa using hc⟩, fun op ox oy => eqGuard_plain ⟨fun cs ds e _ => absurd e (h2 cs), h1⟩, h3, h4⟩
theorem c_ptr {s : St} {t e : TypeId} (hu : P.underlying t = some (.pointer e)) {a b : Option Addr} (hn : a = none ∨ b = none) :
    Concl P s t (.pointer a) (.pointer b) (some (a.isNone && b.isNone)) := by
  refine c_of (fun d => ?_) (by simp) (by simp) rfl rfl
  cases a <;> cases b <;> simp_all [Op.equalIn, run_underlying' hu]
theorem c_map {s : St} {t k e : TypeId} (hu : P.underlying t = some (.map k e)) {a b : Option Nat} (hn : a = none ∨ b = none) :
    Concl P s t (.map a) (.map b) (some (a.isNone && b.isNone)) := by
  refine c_of (fun d => ?_) (by simp) (by simp) rfl rfl
  cases a <;> cases b <;> simp_all [Op.equalIn, run_underlying' hu]
theorem c_slice {s : St} {t e : TypeId} (hu : P.underlying t = some (.slice e)) {a b : Option Addr} {l c l' c' : Nat} (hn : a = none ∨ b = none) :
    Concl P s t (.slice a l c) (.slice b l' c') (some (a.isNone && b.isNone)) := by
  refine c_of (fun d => ?_) (by simp) (by simp) rfl rfl
  cases a <;> cases b <;> simp_all [Op.equalIn, run_underlying' hu]
theorem c_fn0 {s : St} {t : TypeId} {a b : Array TypeId} {c : Bool} (hu : P.underlying t = some (.func a b c)) : Concl P s t .nilFunc .nilFunc (some true) :=
  c_of (fun d => by simp [Op.equalIn, run_underlying' hu]) (by simp) (by simp) rfl rfl
theorem c_fn1 {s : St} {t : TypeId} {a b : Array TypeId} {c : Bool} (hu : P.underlying t = some (.func a b c)) (f : Fn) (x y : Array Value) : Concl P s t .nilFunc (.func f x y) (some false) :=
  c_of (fun d => by simp [Op.equalIn, run_underlying' hu]) (by simp) (by simp) rfl rfl
theorem c_fn2 {s : St} {t : TypeId} {a b : Array TypeId} {c : Bool} (hu : P.underlying t = some (.func a b c)) (f : Fn) (x y : Array Value) : Concl P s t (.func f x y) .nilFunc (some false) :=
  c_of (fun d => by simp [Op.equalIn, run_underlying' hu]) (by simp) (by simp) rfl rfl

theorem sl_form {w : World} {Z : Nat → Prop} {sh : Nat} {xs : List PV} {v : Value} (h : RP w Z (.sl sh xs) v) : ∃ a l c, v = .slice a l c ∧ (xs.isEmpty = false → a ≠ none) := by
  simp only [RP] at h
  obtain ⟨a, l, c, rfl, h1, h2, h3⟩ := h
  refine ⟨a, l, c, rfl, fun he => ?_⟩
  rcases h3 with ⟨h4, _⟩ | ⟨b, o, h4, _⟩
  · rw [h4] at h1
    have : xs = [] := List.eq_nil_of_length_eq_zero h1.symm
    subst this; simp at he
  · rw [h4]; simp

theorem eqNil_ok {s : St} {t : TypeId} {x y : AV} {o : Option Bool} {vx vy : Value} (hx : RA s x vx) (hy : RA s y vy) (h : eqNil (nilK P t) x y = some o) :
    Concl P s t vx vy o := by
  have hk : ∀ k, nilK P t = k → (k = 1 → ∃ e, P.underlying t = some (.pointer e)) ∧ (k = 2 → ∃ a b c, P.underlying t = some (.func a b c)) ∧ (k = 3 → ∃ a b, P.underlying t = some (.map a b)) ∧
      (k = 4 → ∃ e, P.underlying t = some (.slice e)) ∧ (k = 5 → P.underlying t = some .bool) := by
    intro k hk
    unfold nilK at hk
    split at hk <;> subst hk <;> simp_all
  generalize hkk : nilK P t = k at h
  obtain ⟨k1, k2, k3, k4, k5⟩ := hk k hkk
  unfold eqNil at h
  split at h
  all_goals first | (cases h; done) | skip
  all_goals (simp only [Option.some.injEq] at h)
  case h_1 a b =>
    simp only [RA, RP] at hx hy
    subst hx; subst hy; subst h
    have hu := k5 rfl
    exact c_of (fun d => run_equalIn_bool s.w d t a b hu) (by simp) (by simp) rfl rfl
  all_goals first
    | (obtain ⟨e, hu⟩ := k1 rfl; subst h
       simp only [RA, RP] at hx hy
       first
         | (subst hx; subst hy; exact c_ptr hu (by simp))
         | (subst hx; obtain ⟨b, o, rfl, _⟩ := hy; exact c_ptr hu (by simp))
         | (subst hx; obtain ⟨_, rfl⟩ := hy; exact c_ptr hu (by simp))
         | (subst hy; obtain ⟨b, o, rfl, _⟩ := hx; exact c_ptr hu (by simp))
         | (subst hy; obtain ⟨_, rfl⟩ := hx; exact c_ptr hu (by simp))
         | (subst hx; obtain ⟨a, g, sh, rfl, _⟩ := hy; exact c_ptr hu (by simp))
         | (subst hy; obtain ⟨a, g, sh, rfl, _⟩ := hx; exact c_ptr hu (by simp)))
    | (obtain ⟨p, q, r, hu⟩ := k2 rfl; subst h
       simp only [RA, RP] at hx hy
       first
         | (subst hx; subst hy; exact c_fn0 hu)
         | (subst hx; obtain ⟨cs, rfl, _⟩ := hy; exact c_fn1 hu _ _ _)
         | (subst hx; obtain ⟨_, rfl⟩ := hy; exact c_fn1 hu _ _ _)
         | (subst hy; obtain ⟨cs, rfl, _⟩ := hx; exact c_fn2 hu _ _ _)
         | (subst hy; obtain ⟨_, rfl⟩ := hx; exact c_fn2 hu _ _ _))
    | (obtain ⟨p, q, hu⟩ := k3 rfl; subst h
       simp only [RA, RP] at hx hy
       first
         | (subst hx; subst hy; exact c_map hu (by simp))
         | (subst hx; obtain ⟨r, es, ck, rfl, _⟩ := hy; exact c_map hu (by simp))
         | (subst hx; obtain ⟨_, rfl⟩ := hy; exact c_map hu (by simp))
         | (subst hy; obtain ⟨r, es, ck, rfl, _⟩ := hx; exact c_map hu (by simp))
         | (subst hy; obtain ⟨_, rfl⟩ := hx; exact c_map hu (by simp)))
    | (obtain ⟨e, hu⟩ := k4 rfl
       simp only [RA] at hx hy
       first
         | (subst hx; subst hy; subst h; exact c_slice hu (by simp))
         | (subst hx; obtain ⟨a, c, g, sh, rfl, _⟩ := hy; subst h; exact c_slice hu (by simp))
         | (subst hy; obtain ⟨a, c, g, sh, rfl, _⟩ := hx; subst h; exact c_slice hu (by simp))
         | (subst hx; obtain ⟨a, l, c, rfl, hne⟩ := sl_form hy
            split at h
            · subst h; exact (c_slice (l := 0) (c := 0) hu (by simp)).none
            · rename_i he
              have := hne (by simpa using he)
              subst h
              cases a with
              | none => exact absurd rfl this
              | some a => exact c_slice hu (by simp))
         | (subst hy; obtain ⟨a, l, c, rfl, hne⟩ := sl_form hx
            split at h
            · subst h; exact (c_slice (l' := 0) (c' := 0) hu (by simp)).none
            · rename_i he
              have := hne (by simpa using he)
              subst h
              cases a with
              | none => exact absurd rfl this
              | some a => exact c_slice hu (by simp)))

end Go.Ev
end
section
/- OPERATORS WHOLE; CONVERSIONS; SMALL OPERATIONS. -/
namespace Go.Ev
variable {P : Program}

theorem eqAV_ok {s : St} {t : TypeId} {x y : AV} {o : Option Bool} {vx vy : Value} (hx : RA s x vx) (hy : RA s y vy) (h : eqAV P t x y = some o) : Concl P s t vx vy o := by
  unfold eqAV at h
  split at h
  · simp only [Option.bind_eq_some_iff, Option.map_eq_some_iff] at h
    obtain ⟨ks, hks, b, hb, rfl⟩ := h
    unfold eqKs at hks
    split at hks
    · rename_i hg
      obtain ⟨hg, hag⟩ := hg
      simp only [RA, RP] at hx hy
      obtain ⟨hn, cs, rfl, h1, _⟩ := hx
      obtain ⟨_, ds, rfl, h2, _⟩ := hy
      have hr := flatEq_run 40 hks 9960 h1 h2 hb
      simp only [mkV, hag, if_true] at hr
      refine ⟨⟨b, hr, fun c hc => by simpa using hc⟩, fun op ox oy => eqGuard_plain ⟨fun _ _ _ _ => hg, by simp⟩, rfl, rfl⟩
    · cases hks
  · exact eqNil_ok hx hy h

theorem binOp_ok {s : St} (hs : WF s) {op : BinOp} {t : TypeId} {x y : AV} {o : Option AV} {vx vy : Value} (hx : RA s x vx) (hy : RA s y vy) (h : binAV P op t x y = some o) (ox oy : Operand) :
    ∃ av, Sim P s (do eqGuard op t ox oy vx vy; binOp op t vx vy) av s.H ∧ (o = some av ∨ (o = none ∧ ∃ b, av = .p (.bool b))) := by
  have fin : ∀ av v, (eqGuard op t ox oy vx vy).run P s.w = .ok () s.w → (binOp op t vx vy).run P s.w = .ok v s.w → RA s av v → Sim P s (do eqGuard op t ox oy vx vy; binOp op t vx vy) av s.H := by
    intro av v h1 h2 h3
    refine Sim.same hs (v := v) ?_ h3
    simp only [Sem.run_bind, h1, h2, Result.andThen_ok]
  unfold binAV at h
  split at h
  · simp only [Option.map_eq_some_iff] at h
    obtain ⟨r, hr, rfl⟩ := h
    simp only [RA] at hx hy
    obtain ⟨v, h1, h2⟩ := binPV_ok hx hy hr t
    refine ⟨.p r, fin _ v ?_ h1 (by simpa only [RA] using h2), .inl rfl⟩
    simp only [RP] at hx hy
    subst hx; subst hy
    exact eqGuard_plain ⟨by simp, by simp⟩
  · simp only [Option.map_eq_some_iff] at h
    obtain ⟨r, hr, rfl⟩ := h
    simp only [RA] at hx hy
    obtain ⟨v, h1, h2⟩ := binPV_ok hx hy hr t
    refine ⟨.p r, fin _ v ?_ h1 (by simpa only [RA] using h2), .inl rfl⟩
    simp only [RP] at hx hy
    subst hx; subst hy
    exact eqGuard_plain ⟨by simp, by simp⟩
  · split at h
    · simp only [Option.map_eq_some_iff] at h
      obtain ⟨q, hq, rfl⟩ := h
      obtain ⟨⟨b, h1, h2⟩, h3, h4, _⟩ := eqAV_ok hx hy hq
      refine ⟨.p (.bool b), fin _ (.bool b) (h3 _ _ _) ?_ (by simp only [RA, RP]), ?_⟩
      · rw [h4]; simp only [Sem.run_bind, h1, Result.andThen_ok, Sem.run_pure]
      · cases q with
        | none => exact .inr ⟨rfl, b, rfl⟩
        | some c => left; simp [h2 c rfl]
    · simp only [Option.map_eq_some_iff] at h
      obtain ⟨q, hq, rfl⟩ := h
      obtain ⟨⟨b, h1, h2⟩, h3, _, h4⟩ := eqAV_ok hx hy hq
      refine ⟨.p (.bool (!b)), fin _ (.bool (!b)) (h3 _ _ _) ?_ (by simp only [RA, RP]), ?_⟩
      · rw [h4]; simp only [Sem.run_bind, h1, Result.andThen_ok, Sem.run_pure]
      · cases q with
        | none => exact .inr ⟨rfl, !b, rfl⟩
        | some c => left; simp [h2 c rfl]
    · cases h

theorem unOp_ok {s : St} (hs : WF s) {op : UnOp} {x : AV} {r : PV} {v : Value} (hx : RA s x v) (h : (unP x).bind (unPV op) = some r) : Sim P s (Op.unary op v) (.p r) s.H := by
  cases x with
  | p y =>
    simp only [unP, Option.bind_some] at h
    simp only [RA] at hx
    unfold unPV at h
    split at h
    · simp only [RP] at hx
      subst hx
      split at h
      · simp only [Option.some.injEq] at h; subst h
        exact Sim.same hs (v := .bool _) rfl (by simp only [RA, RP])
      · cases h
    · simp only [RP] at hx
      subst hx
      split at h
      · simp only [Option.some.injEq] at h; subst h
        exact Sim.same hs (v := .int _ _) rfl (by simp only [RA, RP])
      · simp only [Option.some.injEq] at h; subst h
        exact Sim.same hs (v := .int _ _) rfl (by simp only [RA, RP])
      · cases h
    · cases h
  | _ => simp [unP] at h

theorem extract_ok {s : St} (hs : WF s) {x av : AV} {i : Nat} {v : Value} (hx : RA s x v) (h : evExtract x i = some av) : Sim P s (Instr.extract v i) av s.H := by
  unfold evExtract at h
  split at h
  · simp only [Option.map_eq_some_iff] at h
    obtain ⟨y, hy, rfl⟩ := h
    simp only [RA, RP] at hx
    obtain ⟨cs, rfl, h1⟩ := hx
    obtain ⟨c, hc, hr⟩ := RPs_get h1 hy
    refine Sim.same hs (v := c) ?_ (by simpa only [RA] using hr)
    simp [Instr.extract, hc]
  · simp only [RA] at hx
    obtain ⟨cs, rfl, h1⟩ := hx
    obtain ⟨c, hc, hr⟩ := RAs_get h1 h
    refine Sim.same hs (v := c) ?_ hr
    simp [Instr.extract, hc]
  · cases h

theorem pick_ok {s : St} {c a b av : AV} {vc va vb : Value} (hc : RA s c vc) (ha : RA s a va) (hb : RA s b vb) (h : evPick c a b = some av) : ∃ t v, vc = .bool t ∧ v = (if t = true then va else vb) ∧ RA s av v := by
  unfold evPick at h
  split at h
  · cases h; simp only [RA, RP] at hc; exact ⟨true, _, hc, rfl, ha⟩
  · cases h; simp only [RA, RP] at hc; exact ⟨false, _, hc, rfl, hb⟩
  · cases h

theorem nonNil_ok {s : St} {x av : AV} {v : Value} (hx : RA s x v) (h : nonNil x = some av) : av = x ∧ ((∃ a, v = .pointer (some a)) ∨ (∃ f cs, v = .func (.func f) #[] cs) ∨ ∃ l, v = .func (.yield l) #[] #[]) := by
  unfold nonNil at h
  split at h <;> first | (cases h; done) | skip
  all_goals
    simp only [Option.some.injEq] at h
    subst h
    simp only [RA, RP] at hx
  · obtain ⟨b, o, rfl, _⟩ := hx; exact ⟨rfl, .inl ⟨_, rfl⟩⟩
  · obtain ⟨cs, rfl, _⟩ := hx; exact ⟨rfl, .inr (.inl ⟨_, _, rfl⟩)⟩
  · obtain ⟨_, rfl⟩ := hx; exact ⟨rfl, .inl ⟨_, rfl⟩⟩
  · obtain ⟨a, g, sh, rfl, _⟩ := hx; exact ⟨rfl, .inl ⟨_, rfl⟩⟩
  · obtain ⟨cs, rfl, _⟩ := hx; exact ⟨rfl, .inr (.inl ⟨_, _, rfl⟩)⟩
  · obtain ⟨_, rfl⟩ := hx; exact ⟨rfl, .inr (.inr ⟨_, rfl⟩)⟩

/-! elements that a slice tells of -/
/-- The cells of a list of elements, one after another, as they lie in memory. -/
theorem RM_cells {w : World} {Z : Nat → Prop} {sh : Nat} : ∀ {xs : List PV} {b o : Nat}, RM w Z sh xs b o →
    ∃ cs : List Value, cs.length = xs.length * stride sh ∧ cellsAt w b o cs ∧ Row w Z sh xs cs ∧ (∀ c ∈ cs, ∃ x ∈ xs, x.stor = true ∧ ∃ u, RP w Z x u ∧ c ∈ u.cells.toList)
  | [], b, o, _ => ⟨[], by simp, fun j v h => by simp at h, fun i x h => by simp at h, fun c h => by cases h⟩
  | x :: xs, b, o, h => by
    simp only [RM] at h
    obtain ⟨⟨h0, u, h1, h2, h3⟩, h4⟩ := h
    obtain ⟨cs, h5, h6, h7, h8⟩ := RM_cells h4
    have hu := cells_stride h1 h2
    refine ⟨u.cells.toList ++ cs, by simp [h5, hu, Nat.succ_mul]; omega, ?_, ?_, ?_⟩
    · intro j v hv
      rcases Nat.lt_or_ge j (stride sh) with hj | hj
      · rw [List.getElem?_append_left (by simp [hu, hj])] at hv
        exact h3 j v hv
      · rw [List.getElem?_append_right (by simp [hu, hj])] at hv
        have := h6 _ v hv
        simp only [Array.length_toList, hu] at this
        rw [show o + stride sh + (j - stride sh) = o + j by omega] at this
        exact this
    · intro i y hy
      cases i with
      | zero =>
        simp at hy; subst hy
        refine ⟨h0, u, h1, h2, fun j v hv => ?_⟩
        have hj := (List.getElem?_eq_some_iff.1 hv).1
        rw [Nat.zero_mul, Nat.zero_add, List.getElem?_append_left hj]; exact hv
      | succ i =>
        simp at hy
        obtain ⟨k0, u', k1, k2, k3⟩ := h7 i y hy
        refine ⟨k0, u', k1, k2, fun j v hv => ?_⟩
        rw [List.getElem?_append_right (by simp [hu, Nat.succ_mul]; omega)]
        simp only [Array.length_toList, hu]
        rw [show (i + 1) * stride sh + j - stride sh = i * stride sh + j by rw [Nat.succ_mul]; omega]
        exact k3 j v hv
    · intro c hc
      rcases List.mem_append.1 hc with hc | hc
      · exact ⟨x, by simp, h0, u, h1, hc⟩
      · obtain ⟨y, hy, u', k⟩ := h8 c hc
        exact ⟨y, by simp [hy], u', k⟩

end Go.Ev
end
section
/- ELEMENTS THAT A SLICE TELLS OF; append; copy; conversions. -/
namespace Go.Ev
variable {P : Program}

theorem Row_nil {w : World} {Z : Nat → Prop} {sh : Nat} : Row w Z sh [] [] := fun i x h => by simp at h
/-- Cells of elements that lie in memory. -/
theorem RM_src {s : St} {sh : Nat} {ys : List PV} {b o : Nat} (h : RM s.w s.Z sh ys b o) (len cap k : Nat) (hk : len = ys.length) :
    ∃ news : List Value, cellsAt s.w b o news ∧ news.length = ys.length * stride sh ∧ Row s.w s.Z sh ys news ∧ (∀ u ∈ news, u.oneCell' = true) ∧
      ∀ (k : Nat) (w' : World), k ≤ ys.length → w'.heap = s.w.heap → (Builtin.firstCells (stride sh) k (.slice (some ⟨b, o, none⟩) len cap)).run P w' = .ok (news.take (k * stride sh)).toArray w' := by
  obtain ⟨cs, h1, h2, h3, h4⟩ := RM_cells h
  refine ⟨cs, h2, h1, h3, fun u hu => ?_, fun k w' hk hw => ?_⟩
  · obtain ⟨x, _, hx0, v, hv, hu⟩ := h4 u hu
    exact stor_oneCell (s := s) (x := .p x) (by simpa only [RA] using hv) (by simpa [AV.stor] using hx0) u hu
  · refine run_firstCells_some w' _ _ _ _ _ _ ?_ fun j v hv => ?_
    · rw [List.length_take, h1]
      have := Nat.mul_le_mul_right (stride sh) hk
      omega
    · rw [List.getElem?_take] at hv
      split at hv
      · rw [addr_add0]
        have := h2 j v hv
        simpa only [World.cell?, hw] using this
      · cases hv

theorem elems_src {s : St} (hs : WF s) {sh : Nat} {x : AV} {vx : Value} {ys : List PV} (hx : RA s x vx) (h : elems s.H sh x = some ys) :
    ∃ news : List Value, news.length = ys.length * stride sh ∧ Row s.w s.Z sh ys news ∧ (∀ u ∈ news, u.oneCell' = true) ∧
      (∀ w' : World, (Builtin.lenOf vx).run P w' = .ok ys.length w') ∧
      ∀ (k : Nat) (w' : World), k ≤ ys.length → w'.heap = s.w.heap → (Builtin.firstCells (stride sh) k vx).run P w' = .ok (news.take (k * stride sh)).toArray w' := by
  unfold elems at h
  split at h
  · cases h
    simp only [RA] at hx
    subst hx
    exact ⟨[], by simp, Row_nil, (fun u h => by cases h), fun _ => rfl, fun k w' _ _ => by simp [Builtin.firstCells]⟩
  · rename_i s' xs
    split at h
    · cases h
      rename_i e
      subst e
      simp only [RA, RP] at hx
      obtain ⟨a, len, cap, rfl, hl, hc, hx⟩ := hx
      rcases hx with ⟨h0, _⟩ | ⟨b, o, rfl, _, hm⟩
      · have : ys = [] := List.length_eq_zero_iff.1 (by omega)
        subst this
        refine ⟨[], by simp, Row_nil, (fun u h => by cases h), fun _ => by simp [Builtin.lenOf, hl], fun k w' hk _ => ?_⟩
        have hk0 : k = 0 := by simpa using hk
        subst hk0
        cases a with
        | none => simp [Builtin.firstCells]
        | some a =>
          have := run_firstCells_some (P := P) w' (stride s') 0 a len cap [] (by simp) (fun j v hv => by simp at hv)
          simpa using this
      · obtain ⟨news, _, h1, h2, h3, h4⟩ := RM_src (P := P) hm len cap 0 hl
        exact ⟨news, h1, h2, h3, fun _ => by simp [Builtin.lenOf, hl], h4⟩
    · cases h
  · rename_i b g off len ex
    split at h
    · rename_i l g' s' xs hb
      split at h
      · rename_i hc
        obtain ⟨rfl, rfl, hlen⟩ := hc
        cases h
        simp only [RA] at hx
        obtain ⟨a, cap, g0, sh0, rfl, hk, hle, hx⟩ := hx
        rw [kd_of_arr hb] at hk
        simp only [Option.some.injEq, Kd.arr.injEq] at hk
        obtain ⟨rfl, rfl⟩ := hk
        obtain ⟨⟨o, rfl, ho⟩, h2, h3, _⟩ := hx rfl
        have hyl : ((xs.drop off).take len).length = len := by simp; omega
        have hB := hs.blk b _ hb
        simp only [RB] at hB
        obtain ⟨c, e, lo, hi, _, _, h4, _, _⟩ := hB
        have h5 := RM_sub h4 off (off + len)
        have h6 : (xs.take (off + len)).drop off = (xs.drop off).take len := by rw [List.drop_take]; congr 1; omega
        rw [h6] at h5
        have h7 : RM s.w s.Z s' ((xs.drop off).take len) (s.ι b) o := by
          rcases ho with ho | ho
          · rw [ho]; simpa using h5
          · have : (xs.drop off).take len = [] := List.length_eq_zero_iff.1 (by omega)
            rw [this]; simp [RM]
        obtain ⟨news, _, k1, k2, k3, k4⟩ := RM_src (P := P) h7 len cap 0 hyl.symm
        exact ⟨news, k1, k2, k3, fun _ => by simp [Builtin.lenOf]; omega, k4⟩
      · cases h
    · cases h
  · rename_i bs
    split at h
    · rename_i e
      subst e
      cases h
      simp only [RA, RP] at hx
      subst hx
      refine ⟨bs.map fun c => .int .u8 c.toNat, by simp [stride], ?_, ?_, ?_, ?_⟩
      · intro i x hi
        rw [List.getElem?_map, Option.map_eq_some_iff] at hi
        obtain ⟨c, hc, rfl⟩ := hi
        refine ⟨rfl, .int .u8 c.toNat, by simp only [RP], rfl, fun j v hv => ?_⟩
        simp only [Value.cells] at hv
        cases j with
        | zero => simp at hv; subst hv; simp [stride, hc]
        | succ j => simp at hv
      · intro u hu
        obtain ⟨c, _, rfl⟩ := List.mem_map.1 hu
        rfl
      · intro w'; simp [Builtin.lenOf, ByteArray.size]
      · intro k w' hk _
        simp only [stride, if_true, Nat.mul_one]
        simp only [Builtin.firstCells, Sem.run_pure]
        congr 1
        rw [extract_bytes]
        apply Array.ext'
        simp
    · cases h
  · cases h

end Go.Ev
end
section
/- append. -/
namespace Go.Ev
variable {P : Program}

theorem Row_append {w : World} {Z : Nat → Prop} {sh : Nat} {xs ys : List PV} {c d : List Value} (h : Row w Z sh xs c) (k : Row w Z sh ys d) (hl : c.length = xs.length * stride sh) : Row w Z sh (xs ++ ys) (c ++ d) := by
  intro i x hx
  rcases Nat.lt_or_ge i xs.length with hi | hi
  · rw [List.getElem?_append_left hi] at hx
    obtain ⟨h0, u, h1, h2, h3⟩ := h i x hx
    exact ⟨h0, u, h1, h2, fun j v hv => by
      have := h3 j v hv
      have hlt := (List.getElem?_eq_some_iff.1 this).1
      rw [List.getElem?_append_left hlt]; exact this⟩
  · rw [List.getElem?_append_right hi] at hx
    obtain ⟨h0, u, h1, h2, h3⟩ := k _ x hx
    refine ⟨h0, u, h1, h2, fun j v hv => ?_⟩
    have := h3 j v hv
    have hm : i * stride sh = xs.length * stride sh + (i - xs.length) * stride sh := by rw [← Nat.add_mul]; congr 1; omega
    rw [List.getElem?_append_right (by omega)]
    rw [show i * stride sh + j - c.length = (i - xs.length) * stride sh + j by omega]
    exact this

theorem Row_mono {w w' : World} {Z Z' : Nat → Prop} (hZ : ∀ k, Z k → Z' k) (hw : ∀ k, Z k → w'.heap[k]? = w.heap[k]?) {sh : Nat} {xs : List PV} {c : List Value} (h : Row w Z sh xs c) : Row w' Z' sh xs c := fun i x hx => by
  obtain ⟨h0, u, h1, h2, h3⟩ := h i x hx
  exact ⟨h0, u, RP_mono hZ hw x u h1, h2, h3⟩

theorem RM_of_row {w : World} {Z : Nat → Prop} {sh : Nat} {ys : List PV} {L : List Value} {b o : Nat} {C : Array Value} {e : TypeId} {fr : Nat × Nat} (h : w.heap[b]? = some (.cells C e fr))
    (hc : ∀ j v, L[j]? = some v → C[o + j]? = some v) (hr : Row w Z sh ys L) : RM w Z sh ys b o := by
  refine RM_iff.2 fun i x hx => ?_
  obtain ⟨h0, u, h1, h2, h3⟩ := hr i x hx
  refine ⟨h0, u, h1, h2, fun j v hv => ?_⟩
  have := hc _ _ (h3 j v hv)
  simp only [World.cell?, h]
  rw [show o + i * stride sh + j = o + (i * stride sh + j) by omega]
  simpa using this

theorem cellsAt_cells {w : World} {b o : Nat} {L : List Value} {C : Array Value} {e : TypeId} {fr : Nat × Nat} (h : w.heap[b]? = some (.cells C e fr)) (hc : cellsAt w b o L) : ∀ j v, L[j]? = some v → C[o + j]? = some v := fun j v hv => by
  have := hc j v hv
  simp only [World.cell?, h] at this
  simpa using this

theorem src_of {s : St} (hs : WF s) {sh : Nat} {x : AV} {vx : Value} {ys : List PV} {u : TypeId} (hu : isSrcT P u = true) (hx : RA s x vx) (h : elems s.H sh x = some ys) :
    ∃ news : List Value, Src P (stride sh) u vx ys.length news s.w ∧ Row s.w s.Z sh ys news := by
  obtain ⟨news, h1, h2, h3, h4, h5⟩ := elems_src (P := P) hs hx h
  refine ⟨news, ⟨?_, h4, ?_, ?_, h1, h3⟩, h2⟩
  · unfold isSrcT at hu
    split at hu
    · rename_i e he; exact .inl ⟨e, he⟩
    · rename_i he; exact .inr he
    · cases hu
  · have := h5 ys.length s.w (Nat.le_refl _) rfl
    rwa [List.take_of_length_le (by omega)] at this
  · have := h5 ys.length s.w.drew (Nat.le_refl _) rfl
    rwa [List.take_of_length_le (by omega)] at this

theorem zeroCells_size (z : Array Value) (n : Nat) : (Builtin.zeroCells z n).size = n * z.size := by simp [Builtin.zeroCells]

/-- A new row for an append. -/
theorem append_new {s : St} (hs : WF s) {t u ty e : TypeId} {sh : Nat} {base : Option Addr} {len cap : Nat} {os ys : List PV} {olds news : List Value} {vx : Value} (he : telem P t = some (e, sh))
    (hsrc : Src P (stride sh) u vx ys.length news s.w) (hnews : Row s.w s.Z sh ys news) (holds : Row s.w s.Z sh os olds) (hol : os.length = len) (holl : olds.length = len * stride sh)
    (hrun : (Builtin.firstCells (stride sh) len (.slice base len cap)).run P s.w.drew = .ok olds.toArray s.w.drew)
    (hg : cap < len + ys.length) (hb1 : (len + ys.length) * P.bytesOf e ≤ 2 ^ 46) (hb2 : len + ys.length ≤ 2 ^ 46) :
    ∃ (C : Array Value) (cap' : Nat), (Builtin.append_ #[t, u] ty #[.slice base len cap, vx]).run P s.w = .ok (.slice (some ⟨s.w.heap.size, 0, none⟩) (len + ys.length) cap') (s.w.drew.alloc (.cells C e)) ∧
      len + ys.length ≤ cap' ∧ cap' * stride sh ≤ C.size ∧ (os ++ ys).length * stride sh ≤ C.size ∧ ∃ L, Row s.w s.Z sh (os ++ ys) L ∧ ∀ (j : Nat) (v : Value), L[j]? = some v → C[j]? = some v := by
  obtain ⟨hu, hsh⟩ := telem_run he
  obtain ⟨i, z, hi, hz, hzs⟩ := telem_zero he
  have hsz : i.size = stride sh := by
    have := tsh_tsz hsh
    simpa [tsz, hi] using this
  have hbo : P.bytesOf e = i.bytes := by simp [Program.bytesOf, hi]
  rw [hbo] at hb1
  have hge := grownCap_ge s.w (len + ys.length) cap e
  have hnl := hsrc.newsLen
  refine ⟨(olds ++ news).toArray ++ Builtin.zeroCells z.cells (grownCap s.w (len + ys.length) cap e - (len + ys.length)), _, ?_, hge, ?_, ?_, olds ++ news, Row_append holds hnews (by rw [hol]; exact holl), ?_⟩
  · exact run_append_grow_src s.w t u ty e i z hu hi hz base len cap olds (by rw [hsz]; exact hrun) vx ys.length news (by rw [hsz]; exact hsrc) hg (by omega) (growslice_fits hg (by omega))
  · rw [Array.size_append, zeroCells_size, hzs]
    simp only [List.size_toArray, List.length_append, hnl, holl]
    rw [← Nat.add_mul, ← Nat.add_mul]
    exact Nat.mul_le_mul_right _ (by omega)
  · rw [Array.size_append]
    simp only [List.size_toArray, List.length_append, hnl, holl, hol]
    rw [← Nat.add_mul]
    omega
  · intro j v hv
    have hlt := (List.getElem?_eq_some_iff.1 hv).1
    rw [Array.getElem?_append_left (by simpa using hlt)]
    simpa using hv

theorem append_ok {s : St} (hs : WF s) {t u ty : TypeId} {sv x : AV} {vs vx : Value} {r : AV × Heap} (hv : RA s sv vs) (hx : RA s x vx) (hu : isSrcT P u = true) (h : evAppend P t sv x s.H = some r) :
    Sim P s (Builtin.append_ #[t, u] ty #[vs, vx]) r.1 r.2 := by
  unfold evAppend at h
  simp only [Option.bind_eq_some_iff] at h
  obtain ⟨⟨e, sh⟩, he, ys, hys, h⟩ := h
  dsimp only at hys h
  obtain ⟨hut, hsh⟩ := telem_run he
  obtain ⟨news, hsrc, hnews⟩ := src_of hs hu hx hys
  have hdr : Evo s (s.withW s.w.drew) := Evo.withW s _ rfl rfl rfl rfl
  have hwd : WF (s.withW s.w.drew) := hs.withW _ rfl rfl rfl rfl
  obtain ⟨i, z, hi, hz, hzs⟩ := telem_zero he
  have hsz : i.size = stride sh := by
    have := tsh_tsz hsh
    simpa [tsz, hi] using this
  have hnl := hsrc.newsLen
  have fresh : ∀ (base : Option Addr) (len cap : Nat) (os : List PV) (olds : List Value), Row s.w s.Z sh os olds → os.length = len → olds.length = len * stride sh →
      (Builtin.firstCells (stride sh) len (.slice base len cap)).run P s.w.drew = .ok olds.toArray s.w.drew → cap < len + ys.length → (len + ys.length) * P.bytesOf e ≤ 2 ^ 46 → len + ys.length ≤ 2 ^ 46 →
      Sim P s (Builtin.append_ #[t, u] ty #[.slice base len cap, vx]) (.ref s.H.length 0 0 (len + ys.length) false) (s.H ++ [.arr true 0 sh (os ++ ys)]) := by
    intro base len cap os olds h1 h2 h3 h4 h5 h6 h7
    obtain ⟨C, cap', k1, k2, k3, k4, L, k5, k6⟩ := append_new (ty := ty) hs he hsrc hnews h1 h2 h3 h4 h5 h6 h7
    have hrow : Row (s.withW s.w.drew).w (s.withW s.w.drew).Z sh (os ++ ys) L := Row_mono (w := s.w) (w' := s.w.drew) (Z := s.Z) (Z' := s.Z) (fun _ h => h) (fun _ _ => rfl) k5
    obtain ⟨m1, m2, m3⟩ := alloc_arr hwd C e sh (os ++ ys) (by
      intro i x hx
      obtain ⟨q0, q, q1, q2, q3⟩ := hrow i x hx
      exact ⟨q0, q, q1, q2, fun j v hv => k6 _ _ (q3 j v hv)⟩) k4
    exact ⟨_, (s.withW s.w.drew).add (.cells C e) (.arr true 0 sh (os ++ ys)), k1, rfl, hdr.trans m1, m2, m3 (len + ys.length) cap' k2 k3⟩
  split at h
  · simp only [RA] at hv
    subst hv
    split at h
    · rename_i hb
      split at h
      · cases h
        refine Sim.same hs (v := .slice none 0 0) ?_ (by simp only [RA])
        have hn : (Builtin.firstCells i.size 0 vx).run P s.w = .ok news.toArray s.w := by rw [hsz]; exact hsrc.cells
        rcases hsrc.kind with ⟨e', hk⟩ | hk <;> simp [Builtin.append_, run_underlying hut, run_underlying hk, sizeOf, typeInfo, hi, hsrc.len, hn]
      · rename_i y r
        cases h
        have := fresh none 0 0 [] [] Row_nil rfl (by simp) (by simp [Builtin.firstCells]) (by simp) (by simpa using hb.1) (by simpa using hb.2)
        simpa using this
    · cases h
  · rename_i b g off len ex
    split at h
    · rename_i lv g' sh' xs hb
      split at h
      · rename_i hc
        obtain ⟨rfl, rfl, hlen⟩ := hc
        split at h
        · rename_i hbd
          simp only [RA] at hv
          obtain ⟨a, cap, g0, sh0, rfl, hk, hle, hv⟩ := hv
          have hk0 := kd_of_arr hb
          rw [hk0] at hk
          simp only [Option.some.injEq, Kd.arr.injEq] at hk
          obtain ⟨rfl, rfl⟩ := hk
          obtain ⟨⟨o, rfl, ho⟩, h2, h3, hex⟩ := hv rfl
          have hyl : ((xs.drop off).take len).length = len := by simp; omega
          have hB := hs.blk b _ hb
          simp only [RB] at hB
          obtain ⟨c, et, lo, hi', hcell, hfr, h4, hxl, hlv⟩ := hB
          have h5 := RM_sub h4 off (off + len)
          have h6 : (xs.take (off + len)).drop off = (xs.drop off).take len := by rw [List.drop_take]; congr 1; omega
          rw [h6] at h5
          have h7 : RM s.w s.Z sh' ((xs.drop off).take len) (s.ι b) o := by
            rcases ho with ho | ho
            · rw [ho]; exact h5
            · have : (xs.drop off).take len = [] := List.length_eq_zero_iff.1 (by omega)
              rw [this]; simp [RM]
          obtain ⟨olds, k0, k1, k2, k3, k4⟩ := RM_src (P := P) h7 len cap 0 hyl.symm
          rw [hyl] at k1 k4
          have hold : (Builtin.firstCells (stride sh') len (.slice (some ⟨s.ι b, o, none⟩) len cap)).run P s.w.drew = .ok olds.toArray s.w.drew := by
            have := k4 len s.w.drew (Nat.le_refl _) rfl
            rwa [List.take_of_length_le (by omega)] at this
          split at h
          · split at h
            · rename_i hl
              obtain ⟨rfl, hxe⟩ := hl
              cases h
              have hdt : (xs.drop off).take len = xs.drop off := List.take_of_length_le (by simp; omega)
              rw [hdt] at k2
              have hdl : (xs.drop off).length = len := by simp; omega
              by_cases hroom : len + ys.length ≤ cap
              · have hsp : (len + ys.length) * stride sh' ≤ cap * stride sh' := Nat.mul_le_mul_right _ hroom
                rw [Nat.add_mul] at hsp
                have hcs0 : csize s.w (s.ι b) = c.size := by simp [csize, hcell]
                rw [hcs0, Nat.add_mul] at h3
                have hpos : news ≠ [] → cap ≠ 0 := by
                  intro hn hc0
                  have : ys.length = 0 := by omega
                  rw [this] at hnl
                  simp at hnl
                  exact hn hnl
                have hw1 : ∀ j, j < news.length → o + len * stride sh' + j < c.size := by
                  intro j hj
                  have : cap ≠ 0 := hpos (by rintro rfl; simp at hj)
                  have hoe := ho.resolve_right this
                  rw [hoe]
                  rw [hnl] at hj
                  omega
                have hrun := run_append_room_src s.w t u ty e i hut hi (s.ι b) o len cap vx ys.length news (by rw [hsz]; exact hsrc) hroom
                  (by
                    intro j hj
                    rw [hsz]
                    simp only [World.cell?, hcell]
                    simpa using hw1 j hj)
                  (by
                    intro j hj
                    rw [hsz]
                    simp only [World.frozen?, hcell]
                    have := hfr (o + len * stride sh' + j)
                    simp only [Bool.and_eq_false_imp, decide_eq_true_eq, decide_eq_false_iff_not]
                    intro q q2
                    exact this ⟨q, q2⟩)
                rw [hsz] at hrun
                have hrest := setCells_rest (s.ι b) news (o + len * stride sh') s.w
                have hat := heap_setCells_at (s.ι b) et (lo, hi') news (o + len * stride sh') s.w _ hcell
                have hne := fun k hk => heap_setCells_ne (s.ι b) k hk news (o + len * stride sh') s.w
                have hsh : Shifts s b (s.w.setCells (s.ι b) (o + len * stride sh') news) (s.ι b) :=
                  ⟨by simp [live, hb], ⟨g', sh', hk0⟩, by rw [hrest.1]; exact Nat.le_refl _, fun j _ hj => hne j hj, .inl rfl, by rw [hrest.1]; exact hs.bnd b (kd_lt hk0), hrest.2.1, hrest.2.2.1, hrest.2.2.2⟩
                have ev := Evo.shift (xs := xs.drop off ++ ys) (o := s.β b + off * stride sh') hs hsh hk0
                refine ⟨_, s.shift b (.arr true (g' + 1) sh' (xs.drop off ++ ys)) (s.w.setCells (s.ι b) (o + len * stride sh') news) (s.ι b) (s.β b + off * stride sh'), hrun, rfl, ev, WF.shift hs hsh hk0 ?_, ?_⟩
                · simp only [RB, St.shift, if_true]
                  refine ⟨_, et, lo, hi', hat, ?_, ?_, ?_, fun h => by cases h⟩
                  · exact hfr
                  · refine RM_of_row (L := olds ++ news) hat ?_ (Row_mono ev.Zm (hs.zkeep ev) (Row_append k2 hnews (by rw [hdl]; exact k1)))
                    intro j v hv
                    have hjl := (List.getElem?_eq_some_iff.1 hv).1
                    rw [List.length_append] at hjl
                    have hcap0 : cap ≠ 0 := by
                      intro hc0
                      have h1 : len = 0 := by omega
                      have h2 : ys.length = 0 := by omega
                      rw [h1] at k1
                      rw [h2] at hnl
                      omega
                    have hoe := ho.resolve_right hcap0
                    rw [List.getElem?_toArray, setR_get]
                    rcases Nat.lt_or_ge j olds.length with hj | hj
                    · rw [List.getElem?_append_left hj] at hv
                      rw [if_neg (by omega)]
                      have := cellsAt_cells hcell k0 j v hv
                      rw [hoe] at this
                      rw [Array.getElem?_toList]; exact this
                    · rw [List.getElem?_append_right hj] at hv
                      have h9 := hw1 (j - olds.length) (by omega)
                      rw [if_pos (by simp; omega)]
                      rw [show s.β b + off * stride sh' + j - (o + len * stride sh') = j - olds.length by omega]
                      exact hv
                  · simp only [setR_length, List.size_toArray, Array.length_toList, List.length_append, hdl]
                    rw [Nat.add_mul]
                    omega
                · simp only [RA, St.shift]
                  refine ⟨_, cap, g' + 1, sh', rfl, kd_set_eq _ (kd_lt hk0), Nat.le_refl _, fun _ => ⟨⟨o, by simp, ?_⟩, hroom, ?_, fun h => by cases h⟩⟩
                  · simpa using ho
                  · have hcs1 : csize (s.w.setCells (s.ι b) (o + len * stride sh') news) (s.ι b) = c.size := by simp only [csize, hat]; simp [setR_length]
                    simp only [if_true, hcs1, Nat.zero_add]
                    omega
              · obtain ⟨C, cap', m1, m2, m3, m4, L, m5, m6⟩ := append_new (ty := ty) hs he hsrc hnews k2 hdl k1 hold (by omega) hbd.1 hbd.2
                have hsh : Shifts s b (s.w.drew.alloc (.cells C e)) s.w.heap.size :=
                  ⟨by simp [live, hb], ⟨g', sh', hk0⟩, by rw [size_alloc]; exact Nat.le_succ _, fun j hj _ => heap_alloc_lt s.w.drew _ hj, .inr (Nat.le_refl _), by rw [size_alloc]; exact Nat.lt_succ_self _, rfl, rfl, rfl⟩
                have hat : (s.w.drew.alloc (.cells C e)).heap[s.w.heap.size]? = some (.cells C e (0, 0)) := heap_alloc_at s.w.drew _
                have ev := Evo.shift (xs := xs.drop off ++ ys) (o := 0) hs hsh hk0
                refine ⟨_, s.shift b (.arr true (g' + 1) sh' (xs.drop off ++ ys)) (s.w.drew.alloc (.cells C e)) s.w.heap.size 0, m1, rfl, ev, WF.shift hs hsh hk0 ?_, ?_⟩
                · simp only [RB, St.shift, if_true]
                  refine ⟨C, e, 0, 0, hat, fun j => by omega, ?_, by omega, fun h => by cases h⟩
                  exact RM_of_row (L := L) hat (by simpa using m6) (Row_mono ev.Zm (hs.zkeep ev) m5)
                · simp only [RA, St.shift]
                  refine ⟨_, cap', g' + 1, sh', rfl, kd_set_eq _ (kd_lt hk0), Nat.le_refl _, fun _ => ⟨⟨0, by simp, by simp⟩, m2, ?_, fun h => by cases h⟩⟩
                  simp only [if_true, csize, hat]
                  rw [Nat.zero_add, Nat.zero_add]; exact m3
            · cases h
          · have hcl := hex rfl
            split at h
            · cases h
              refine Sim.same hs (v := .slice (some ⟨s.ι b, o, none⟩) len cap) ?_ ?_
              · have hn0 : news = [] := by simpa using hnl
                have hrun := run_append_room_src s.w t u ty e i hut hi (s.ι b) o len cap vx 0 news (by rw [hsz]; exact hsrc) (by omega) (by intro j hj; rw [hn0] at hj; simp at hj) (by intro j hj; rw [hn0] at hj; simp at hj)
                rw [hn0] at hrun
                exact hrun
              · simp only [RA]
                exact ⟨_, cap, g', sh', rfl, hk0, Nat.le_refl _, fun _ => ⟨⟨o, rfl, ho⟩, h2, h3, fun _ => hcl⟩⟩
            · rename_i y r
              cases h
              have := fresh (some ⟨s.ι b, o, none⟩) len cap _ olds k2 hyl k1 hold (by simp; omega) hbd.1 hbd.2
              simpa using this
        · cases h
      · cases h
    · cases h
  · cases h

end Go.Ev
end
section
/- LENGTHS, CONVERSIONS, copy. -/
namespace Go.Ev
variable {P : Program}

theorem run_getMap {w : World} {r : Nat} {es : Array MapEntry} {clock : Nat} (h : w.heap[r]? = some (.map es clock)) : (getObj r).run P w = .ok (.map es clock) w := by simp [getObj, Sem.run, h]
theorem bsize (l : List UInt8) : (⟨l.toArray⟩ : ByteArray).size = l.length := by simp [ByteArray.size]

theorem len_ok {s : St} (hs : WF s) {t ty : TypeId} {ts : Array TypeId} (hts : ts[0]? = some t) {x : AV} {v : Value} {n : Nat} (hx : RA s x v) (h : evLen P t x s.H = some n) :
    Sim P s (Builtin.len_ ts ty #[v]) (.p (.int .i64 n)) s.H := by
  refine Sim.same hs (v := .int .i64 n) ?_ (by simp only [RA, RP])
  unfold evLen lenKind at h
  split at h
  · rename_i m e hu
    simp only [lenAV, Option.some.injEq] at h
    subst h
    simp [Builtin.len_, hts, run_underlying' hu, goInt]
  · rename_i hu
    unfold lenAV at h
    split at h <;> first | (rename_i heq; cases heq; done) | (rename_i heq _; cases heq; done) | skip
    · simp only [Option.some.injEq] at h
      subst h
      simp only [RA, RP] at hx
      subst hx
      simp only [Builtin.len_, hts, Sem.run_bind, run_underlying' hu, Result.andThen_ok, List.getElem?_toArray, List.getElem?_cons_zero, Sem.run_pure, goInt, bsize]
    · cases h
  · rename_i e hu
    unfold lenAV at h
    split at h <;> first | (rename_i heq; cases heq; done) | (rename_i heq _; cases heq; done) | skip
    · simp only [Option.some.injEq] at h
      subst h
      simp only [RA] at hx
      subst hx
      simp [Builtin.len_, hts, run_underlying' hu, goInt]
    · simp only [Option.some.injEq] at h
      subst h
      simp only [RA, RP] at hx
      obtain ⟨a, len, cap, rfl, rfl, _⟩ := hx
      simp [Builtin.len_, hts, run_underlying' hu, goInt]
    · simp only [Option.some.injEq] at h
      subst h
      simp only [RA] at hx
      obtain ⟨a, cap, g0, sh, rfl, _⟩ := hx
      simp [Builtin.len_, hts, run_underlying' hu, goInt]
    · cases h
  · rename_i k e hu
    unfold lenAV at h
    split at h <;> first | (rename_i heq; cases heq; done) | (rename_i heq _; cases heq; done) | skip
    · simp only [Option.some.injEq] at h
      subst h
      simp only [RA, RP] at hx
      subst hx
      simp [Builtin.len_, hts, run_underlying' hu, goInt]
    · simp only [Option.some.injEq] at h
      subst h
      simp only [RA, RP] at hx
      obtain ⟨r, es, clock, rfl, _, hh, h1, h2, _⟩ := hx
      have := RPs_length h1
      simp at this
      simp only [Builtin.len_, hts, Sem.run_bind, run_underlying' hu, Result.andThen_ok, List.getElem?_toArray, List.getElem?_cons_zero, run_getMap hh, Sem.run_pure, goInt, this]
    · rename_i b _
      split at h
      · rename_i l g ks vs hb
        simp only [Option.some.injEq] at h
        subst h
        simp only [RA] at hx
        obtain ⟨_, rfl⟩ := hx
        have hB := hs.blk b _ hb
        simp only [RB] at hB
        obtain ⟨es, clock, hh, h1, _⟩ := hB
        have := RPs_length h1
        simp at this
        simp only [Builtin.len_, hts, Sem.run_bind, run_underlying' hu, Result.andThen_ok, List.getElem?_toArray, List.getElem?_cons_zero, run_getMap hh, Sem.run_pure, goInt, this]
      · cases h
    · cases h
  · unfold lenAV at h
    split at h <;> first | (rename_i heq; cases heq; done) | (rename_i heq _; cases heq; done) | cases h

theorem makeMap_ok {s : St} (hs : WF s) (t : TypeId) : Sim P s (Instr.makeMap t none) (.map s.H.length) (s.H ++ [.map true 0 [] []]) := by
  have ev := Evo.add s hs (.map #[] 0) (.map true 0 [] [])
  have hι : (s.add (.map #[] 0) (.map true 0 [] [])).ι s.H.length = s.w.heap.size := by simp [St.add]
  refine ⟨.map (some s.w.heap.size), s.add (.map #[] 0) (.map true 0 [] []), ?_, rfl, ev, WF.add hs _ _ ?_, ?_⟩
  · simp [Instr.makeMap, St.add]
  · simp only [RB]
    rw [hι]
    exact ⟨#[], 0, heap_alloc_at s.w _, by simp [RPs], by simp [RAs], ⟨by intro i e h; simp at h, by intro i j e e' h; simp at h⟩, fun h => by cases h⟩
  · simp only [RA]
    exact ⟨⟨0, by simp [kd, St.add]⟩, by rw [hι]⟩

theorem bytes_nums {w : World} {Z : Nat → Prop} : ∀ {ys : List PV} {bs : List UInt8}, bytesOf ys = some bs → ∃ ns : List Int, ys = ns.map (PV.int .u8) ∧ bs = ns.map fun n => UInt8.ofNat n.toNat
  | [], bs, h => by simp [bytesOf] at h; exact ⟨[], by simp, by simp [← h]⟩
  | y :: ys, bs, h => by
    simp only [bytesOf, Option.bind_eq_some_iff, Option.map_eq_some_iff] at h
    obtain ⟨b, hb, r, hr, rfl⟩ := h
    obtain ⟨ns, rfl, rfl⟩ := bytes_nums (w := w) (Z := Z) hr
    unfold byteOf at hb
    split at hb
    · rename_i n
      cases hb
      exact ⟨n :: ns, rfl, rfl⟩
    · cases hb

theorem foldl_push_nums : ∀ (ns : List Int) (r : ByteArray), ns.foldl (fun r n => r.push (UInt8.ofNat n.toNat)) r = ⟨r.data ++ (ns.map fun n => UInt8.ofNat n.toNat).toArray⟩
  | [], r => by simp
  | n :: ns, r => by
    simp only [List.foldl_cons, List.map_cons]
    rw [foldl_push_nums ns]
    simp [ByteArray.push]

theorem elems_slice {s : St} {sh : Nat} {x : AV} {vx : Value} {ys : List PV} (hx : RA s x vx) (h : elems s.H sh x = some ys) (hn : ∀ b, x ≠ .p (.str b)) : ∃ a c, vx = .slice a ys.length c := by
  unfold elems at h
  split at h
  · cases h
    simp only [RA] at hx
    exact ⟨none, 0, hx⟩
  · split at h
    · cases h
      simp only [RA, RP] at hx
      obtain ⟨a, len, cap, rfl, rfl, _⟩ := hx
      exact ⟨_, _, rfl⟩
    · cases h
  · split at h
    · split at h
      · rename_i hc
        cases h
        simp only [RA] at hx
        obtain ⟨a, cap, g0, sh, rfl, _⟩ := hx
        refine ⟨some a, cap, ?_⟩
        congr 1
        simp; omega
      · cases h
    · cases h
  · exact absurd rfl (hn _)
  · cases h

theorem cv_kinds {a b : TypeId} : (cvKind P a b = .toStr → ∃ e, P.underlying a = some (.slice e) ∧ P.underlying b = some .string ∧ P.underlying e = some (.int .u8)) ∧
    (cvKind P a b = .toBytes → ∃ e, P.underlying a = some .string ∧ P.underlying b = some (.slice e) ∧ P.underlying e = some (.int .u8)) := by
  unfold cvKind
  constructor <;> intro h
  · split at h
    · rename_i e h1 h2
      split at h
      · rename_i h3; exact ⟨e, h1, h2, h3⟩
      · cases h
    · split at h <;> cases h
    · cases h
  · split at h
    · split at h <;> cases h
    · rename_i e h1 h2
      split at h
      · rename_i h3; exact ⟨e, h1, h2, h3⟩
      · cases h
    · cases h

/-- The world grows; some of the new blocks never change. -/
def St.grow (s : St) (w : World) (Zn : Nat → Prop) : St := { s with w := w, Z := fun k => s.Z k ∨ Zn k }
theorem Evo.grow {s : St} (hs : WF s) {w : World} {Zn : Nat → Prop} (hsz : s.w.heap.size ≤ w.heap.size) (hh : ∀ k, k < s.w.heap.size → w.heap[k]? = s.w.heap[k]?)
    (h1 : w.os = s.w.os) (h2 : w.tape = s.w.tape) (h3 : w.output = s.w.output) (hz : ∀ k, Zn k → s.w.heap.size ≤ k) : Evo s (s.grow w Zn) where
  len := Nat.le_refl _
  size := hsz
  arr := fun b g sh h => ⟨g, h, Nat.le_refl _, fun _ => ⟨rfl, by simp only [St.grow, csize]; rw [hh _ (hs.bnd b (kd_lt h))], rfl⟩⟩
  var := fun b h => ⟨h, rfl⟩
  map := fun b g h => ⟨g, h, Nat.le_refl _, rfl, fun _ => Born.same (by simp only [St.grow]; rw [hh _ (hs.bnd b (kd_lt h))])⟩
  oth := fun b _ h => ⟨h, rfl⟩
  new := fun b h _ => ⟨h, rfl, id⟩
  fr := fun k hk _ => hh k hk
  Zm := fun _ h => .inl h
  zn := fun k h hk => by
    rcases h with h | h
    · exact .inl h
    · exact absurd hk (by have := hz k h; omega)
  os := h1
  tape := h2
  output := h3
theorem WF.grow {s : St} (hs : WF s) {w : World} {Zn : Nat → Prop} (hsz : s.w.heap.size ≤ w.heap.size) (hh : ∀ k, k < s.w.heap.size → w.heap[k]? = s.w.heap[k]?)
    (h1 : w.os = s.w.os) (h2 : w.tape = s.w.tape) (h3 : w.output = s.w.output) (hz : ∀ k, Zn k → s.w.heap.size ≤ k ∧ k < w.heap.size) : WF (s.grow w Zn) where
  inj := hs.inj
  bnd := fun b hb => Nat.lt_of_lt_of_le (hs.bnd b hb) hsz
  zb := fun k hk => by
    rcases hk with h | h
    · exact Nat.lt_of_lt_of_le (hs.zb k h) hsz
    · exact (hz k h).2
  zl := fun b hb hk => by
    rcases hk with h | h
    · exact hs.zl b hb h
    · exact absurd (hs.bnd b (live_lt hb)) (Nat.not_lt_of_le (hz _ h).1)
  blk := fun b x hb => RB_keep hs (Evo.grow hs hsz hh h1 h2 h3 fun k h => (hz k h).1) hb rfl rfl (hh _ (hs.bnd b (List.getElem?_eq_some_iff.1 hb).1))
    (MapsKept.of_heap (fun _ => rfl) fun m _ hm _ => hh _ (hs.bnd m (kd_lt hm)))

theorem convert_ok {s : St} (hs : WF s) {a b : TypeId} {x : AV} {v : Value} {r : AV × Heap} (hx : RA s x v) (h : evConvert P a b x s.H = some r) :
    Sim P s (convert a b v) r.1 r.2 := by
  unfold evConvert at h
  split at h
  · rename_i hk
    obtain ⟨e, h1, h2, h3⟩ := cv_kinds.1 hk
    split at h
    · cases h
    · rename_i hns
      simp only [Option.bind_eq_some_iff, Option.map_eq_some_iff] at h
      obtain ⟨ys, hys, bs, hbs, rfl⟩ := h
      obtain ⟨ns, rfl, rfl⟩ := bytes_nums (w := s.w) (Z := s.Z) hbs
      obtain ⟨ad, c, rfl⟩ := elems_slice hx hys hns
      obtain ⟨news, k1, k2, k3, k4, k5⟩ := elems_src (P := P) hs hx hys
      refine Sim.same hs (v := .string ⟨(ns.map fun n => UInt8.ofNat n.toNat).toArray⟩) ?_ (by simp only [RA, RP])
      rw [run_convert_bytes_string s.w a b e ad _ c h1 h3 h2]
      have hnews : news = ns.map (Value.int .u8) := by
        apply List.ext_getElem?
        intro i
        rcases Nat.lt_or_ge i ns.length with hi | hi
        · have hy : (ns.map (PV.int .u8))[i]? = some (.int .u8 ns[i]) := by simp [hi]
          obtain ⟨_, u, q1, q2, q3⟩ := k2 i _ hy
          simp only [RP] at q1
          subst q1
          have := q3 0 (.int .u8 ns[i]) rfl
          simp only [stride, if_true, Nat.mul_one, Nat.add_zero] at this
          rw [this]; simp [hi]
        · rw [List.getElem?_eq_none (by simp [k1, stride]; exact hi), List.getElem?_eq_none (by simpa using hi)]
      cases ad with
      | none =>
        have := k5 (ns.map (PV.int .u8)).length s.w (Nat.le_refl _) rfl
        simp only [Builtin.firstCells, Sem.run_pure, Result.ok.injEq, and_true] at this
        rw [hnews] at this
        have hn0 : ns = [] := by
          have h9 := congrArg Array.size this
          simp [stride] at h9
          exact List.length_eq_zero_iff.1 h9.symm
        subst hn0
        rfl
      | some ad =>
        have := k5 (ns.map (PV.int .u8)).length s.w (Nat.le_refl _) rfl
        simp only [Builtin.firstCells, stride, if_true, Nat.mul_one] at this
        rw [List.take_of_length_le (by simp [k1, stride])] at this
        rw [hnews] at this
        rw [run_bytesToString s.w ad _ c ns this, foldl_push_nums]
        simp [show ByteArray.empty.data = #[] from rfl]
  · rename_i hk
    obtain ⟨e, h1, h2, h3⟩ := cv_kinds.2 hk
    split at h
    · rename_i bs
      cases h
      simp only [RA, RP] at hx
      subst hx
      have hrun := run_bytes_of_string s.w a b e ⟨bs.toArray⟩ h1 h2 h3
      have hge := grownCap_ge s.w (⟨bs.toArray⟩ : ByteArray).size 0 e
      generalize hcap : grownCap s.w (⟨bs.toArray⟩ : ByteArray).size 0 e = cap at hrun hge
      have hsz : (⟨bs.toArray⟩ : ByteArray).size = bs.length := by simp [ByteArray.size]
      have hold : ∀ k, k < s.w.heap.size → (s.w.drew.alloc (.cells (bytesRow ⟨bs.toArray⟩ cap) e ((bytesRow ⟨bs.toArray⟩ cap).size, (bytesRow ⟨bs.toArray⟩ cap).size + 1))).heap[k]? = s.w.heap[k]? := fun k hk => heap_alloc_lt s.w.drew _ hk
      have hat : (s.w.drew.alloc (.cells (bytesRow ⟨bs.toArray⟩ cap) e ((bytesRow ⟨bs.toArray⟩ cap).size, (bytesRow ⟨bs.toArray⟩ cap).size + 1))).heap[s.w.heap.size]? = _ := heap_alloc_at s.w.drew _
      have hgr : s.w.heap.size < (s.w.drew.alloc (.cells (bytesRow ⟨bs.toArray⟩ cap) e ((bytesRow ⟨bs.toArray⟩ cap).size, (bytesRow ⟨bs.toArray⟩ cap).size + 1))).heap.size := (Array.getElem?_eq_some_iff.1 hat).1
      refine ⟨_, s.grow (s.w.drew.alloc (.cells (bytesRow ⟨bs.toArray⟩ cap) e ((bytesRow ⟨bs.toArray⟩ cap).size, (bytesRow ⟨bs.toArray⟩ cap).size + 1))) (· = s.w.heap.size), hrun, rfl,
        Evo.grow hs (Nat.le_of_lt hgr) hold rfl rfl rfl (fun k hk => Nat.le_of_eq hk.symm), WF.grow hs (Nat.le_of_lt hgr) hold rfl rfl rfl (fun k hk => ⟨Nat.le_of_eq hk.symm, hk ▸ hgr⟩), ?_⟩
      rw [hsz] at hge ⊢
      simp only [RA, RP]
      refine ⟨_, _, _, rfl, by simp [ofBytes], by omega, .inr ⟨s.w.heap.size, 0, rfl, .inr rfl, RM_iff.2 fun i x hx => ?_⟩⟩
      simp only [ofBytes, List.getElem?_map, Option.map_eq_some_iff] at hx
      obtain ⟨c, hc, rfl⟩ := hx
      refine ⟨rfl, .int .u8 c.toNat, by simp only [RP], rfl, fun j v hv => ?_⟩
      simp only [Value.cells] at hv
      cases j with
      | zero =>
        simp at hv; subst hv
        have hi := (List.getElem?_eq_some_iff.1 hc).1
        rw [show 0 + i * stride 0 + 0 = i by simp [stride]]
        simp only [St.grow, World.cell?, hat]
        rw [bytesRow_at _ _ _ (by simpa using hi)]
        have := (List.getElem?_eq_some_iff.1 hc).2
        simp [this]
      | succ j => simp at hv
    · cases h
  · simp only [Option.map_eq_some_iff, Option.bind_eq_some_iff] at h
    obtain ⟨y, ⟨z, hz, hy⟩, rfl⟩ := h
    cases x with
    | p x =>
      simp only [unP, Option.some.injEq] at hz
      subst hz
      simp only [RA] at hx
      unfold convPV at hy
      split at hy
      · rename_i k n
        simp only [RP] at hx
        subst hx
        split at hy
        · rename_i k0 k' h1 h2
          split at hy
          · cases hy
            refine Sim.same hs (v := .int k' (k'.wrap n)) ?_ (by simp only [RA, RP])
            simp [convert, run_underlying' h1, run_underlying' h2, Conv.intToInt]
          · cases hy
        · cases hy
      · simp only [RP] at hx
        subst hx
        split at hy
        · rename_i h1 h2
          cases hy
          refine Sim.same hs (v := .string ⟨(_ : List UInt8).toArray⟩) ?_ (by simp only [RA, RP]; rfl)
          simp [convert, run_underlying' h1, run_underlying' h2]
        · cases hy
      · cases hy
    | _ => simp [unP] at hz
  · cases h

end Go.Ev
end
section
/- MAPS: keys. -/
namespace Go.Ev
variable {P : Program}

theorem leafEq_true {k : Nat} {x y : PV} (h : leafEq k x y = some true) {w : World} {Z : Nat → Prop} {c e : Value} (hc : RP w Z x c) (he : RP w Z y e) : c = e := by
  rcases leafEq_run h hc he with ⟨_, a, b, rfl, rfl, h⟩ | ⟨_, j, a, b, rfl, rfl, h⟩ | ⟨_, a, b, rfl, rfl, h⟩
  · simp at h; rw [h]
  · simp at h; rw [h]
  · simp at h; rw [h]

theorem cellsEq_true {w : World} {Z : Nat → Prop} : ∀ {ks : List Nat} {xs ys : List PV} {cs ds : List Value}, cellsEq ks xs ys = some true → RPs w Z xs cs → RPs w Z ys ds → cs = ds
  | [], xs, ys, cs, ds, h, h1, h2 => by
    have := cellsEq_length h
    have h3 := RPs_length h1
    have h4 := RPs_length h2
    have e1 : cs = [] := List.length_eq_zero_iff.1 (by simpa [this.1] using h3)
    have e2 : ds = [] := List.length_eq_zero_iff.1 (by simpa [this.2] using h4)
    rw [e1, e2]
  | k :: ks, xs, ys, cs, ds, h, h1, h2 => by
    cases xs with
    | nil => simp [cellsEq] at h
    | cons x xs =>
      cases ys with
      | nil => simp [cellsEq] at h
      | cons y ys =>
        simp only [cellsEq] at h
        split at h
        · rename_i a b h3 h4
          simp only [Option.some.injEq, Bool.and_eq_true] at h
          obtain ⟨rfl, rfl⟩ := h
          simp only [RPs] at h1 h2
          obtain ⟨c, r, rfl, h5, h6⟩ := h1
          obtain ⟨d, q, rfl, h7, h8⟩ := h2
          rw [leafEq_true h3 h5 h7, cellsEq_true h4 h6 h8]
        · cases h

theorem keyEq_true {kk : KeyK} {x y : PV} (h : keyEq kk x y = some true) {w : World} {Z : Nat → Prop} {c e : Value} (hc : RP w Z x c) (he : RP w Z y e) : c = e := by
  unfold keyEq at h
  split at h
  · exact leafEq_true h hc he
  · simp only [RP] at hc he
    obtain ⟨_, cs, rfl, h1, _⟩ := hc
    obtain ⟨_, ds, rfl, h2, _⟩ := he
    rw [cellsEq_true h h1 h2]
  · cases h

theorem sameBits_leaf {k : Nat} {x y : PV} {r : Bool} (h : leafEq k x y = some r) {w : World} {Z : Nat → Prop} {c : Value} (hc : RP w Z x c) (n : Nat) : Instr.sameBits n c c = true := by
  unfold leafEq at h
  split at h <;> first | (cases h; done) | (simp only [RP] at hc; subst hc; simp [Instr.sameBits]; done) | (simp only [RP] at hc; subst hc; simp only [Instr.sameBits]; exact (MapKept.bytes_beq _ _).2 rfl)

theorem sameBits_cells {w : World} {Z : Nat → Prop} {n : Nat} : ∀ {ks : List Nat} {xs ys : List PV} {cs : List Value} {r : Bool}, cellsEq ks xs ys = some r → RPs w Z xs cs → (cs.zip cs).all (fun q => Instr.sameBits n q.1 q.2) = true
  | [], xs, ys, cs, r, h, h1 => by
    have := cellsEq_length h
    have h3 := RPs_length h1
    have e1 : cs = [] := List.length_eq_zero_iff.1 (by simpa [this.1] using h3)
    rw [e1]; simp
  | k :: ks, xs, ys, cs, r, h, h1 => by
    cases xs with
    | nil => simp [cellsEq] at h
    | cons x xs =>
      cases ys with
      | nil => simp [cellsEq] at h
      | cons y ys =>
        simp only [cellsEq] at h
        split at h
        · rename_i a b h3 h4
          simp only [RPs] at h1
          obtain ⟨c, r, rfl, h5, h6⟩ := h1
          simp only [List.zip_cons_cons, List.all_cons, Bool.and_eq_true]
          exact ⟨sameBits_leaf h3 h5 n, sameBits_cells h4 h6⟩
        · cases h

theorem keyStays {kk : KeyK} {x y : PV} {r : Bool} (h : keyEq kk x y = some r) {w : World} {Z : Nat → Prop} {c : Value} (hc : RP w Z x c) (w' : World) : (Instr.keyThatStays c c).run P w' = .ok c w' := by
  have hs : Instr.sameBits 10000 c c = true := by
    unfold keyEq at h
    split at h
    · exact sameBits_leaf h hc _
    · simp only [RP] at hc
      obtain ⟨_, cs, rfl, h1, _⟩ := hc
      have := sameBits_cells (n := 9999) h h1
      simp only [Instr.sameBits, beq_self_eq_true, Bool.true_and, List.toList_toArray]
      exact this
    · cases h
  simp [Instr.keyThatStays, hs]

theorem checkKey_leaf {kt : TypeId} {c : Value} (hu : (∃ k, P.underlying kt = some (.int k)) ∨ P.underlying kt = some .bool ∨ P.underlying kt = some .string) (em : Bool) (n : Nat) (w : World) : (Instr.checkKey em (n + 1) kt c).run P w = .ok () w := by
  unfold Instr.checkKey
  rcases hu with ⟨k, hu⟩ | hu | hu <;> simp only [Sem.run_bind, run_underlying' hu, Result.andThen_ok, Sem.run_pure]

theorem checkKey_flat (em : Bool) (w : World) : ∀ (d : Nat) {t : TypeId} {ks : List Nat}, flatKs P d t = some ks → ∀ (m : Nat) {cs : List Value}, cs.length = ks.length → (Instr.checkKey em (d + m) t (mkV P t cs)).run P w = .ok () w
  | 0, t, ks, h => by simp [flatKs] at h
  | d + 1, t, ks, h => by
    intro m cs hl
    have hks := h
    unfold flatKs at h
    rw [show d + 1 + m = (d + m) + 1 by omega]
    split at h
    · rename_i i hu hi; exact checkKey_leaf (.inr (.inl hu)) em _ w
    · rename_i k i hu hi; exact checkKey_leaf (.inl ⟨k, hu⟩) em _ w
    · rename_i i hu hi; exact checkKey_leaf (.inr (.inr hu)) em _ w
    · rename_i fs i hu hi
      split at h
      · cases h
      · simp only [Option.bind_eq_some_iff] at h
        obtain ⟨ks', hfs, h⟩ := h
        split at h
        · cases h
          have hag : isAggT P t = true := by simp [isAggT, hu]
          simp only [mkV, hag, if_true]
          rw [Instr.checkKey]
          simp only [Sem.run_bind, run_underlying' hu, Result.andThen_ok]
          rw [← Array.forIn_toList]
          have key : ∀ (fl : List Field) (o : Nat) (kf : List Nat), flatFs (flatKs P d) fl o = some kf → o + kf.length ≤ cs.length →
              (forIn fl PUnit.unit fun f r => (if f.name ≠ "_" then do
                let __do_lift ← part f.type cs.toArray f.offset
                Instr.checkKey em (d + m) f.type __do_lift
                pure (ForInStep.yield PUnit.unit)
              else pure (ForInStep.yield PUnit.unit) : Sem (ForInStep PUnit))).run P w = .ok () w := by
            intro fl
            induction fl with
            | nil => intro o kf _ _; simp
            | cons f fl ih =>
              intro o kf h1 hx
              simp only [flatFs] at h1
              split at h1
              · rename_i hc
                obtain ⟨ho, hn⟩ := hc
                simp only [Option.bind_eq_some_iff, Option.map_eq_some_iff] at h1
                obtain ⟨k1, hk1, k2, hk2, rfl⟩ := h1
                simp only [List.length_append] at hx
                have hp1 := part_flat hk1 (cs := cs) (off := o) (by omega) w
                have h5 := checkKey_flat em w d hk1 m (cs := (cs.drop o).take k1.length) (by simp; omega)
                have h6 := ih (o + k1.length) k2 hk2 (by omega)
                simp only [List.forIn_cons, if_pos hn, Sem.run_bind, ho, hp1, h5, Result.andThen_ok, Sem.run_pure]
                exact h6
              · cases h1
          rw [key fs.toList 0 ks hfs (by omega)]; rfl
        · cases h
    · rename_i n e i hu hi
      simp only [Option.bind_eq_some_iff] at h
      obtain ⟨k1, hk1, h⟩ := h
      split at h
      · rename_i hc
        cases h
        obtain ⟨⟨ie, hie, hsz⟩, _, _⟩ := flatKs_size hk1
        have hag : isAggT P t = true := by simp [isAggT, hu]
        simp only [mkV, hag, if_true]
        rw [Instr.checkKey]
        simp only [Sem.run_bind, run_underlying' hu, Result.andThen_ok]
        simp only [Std.Legacy.Range.forIn_eq_forIn_range', Std.Legacy.Range.size, Nat.sub_zero, Nat.add_one_sub_one, Nat.div_one]
        have hlen : cs.length = n * k1.length := by rw [hl]; simp
        have key : ∀ (q j : Nat), j + q = n → (forIn (List.range' j q) PUnit.unit fun i r => (do
                let __do_lift ← sizeOf e
                let __do_lift ← part e cs.toArray (i * __do_lift)
                Instr.checkKey em (d + m) e __do_lift
                pure (ForInStep.yield PUnit.unit) : Sem (ForInStep PUnit))).run P w = .ok () w := by
          intro q
          induction q with
          | zero => intro j _; simp
          | succ q ih =>
            intro j hj
            have hb : j * k1.length + k1.length ≤ n * k1.length := by
              have := Nat.mul_le_mul_right k1.length (show j + 1 ≤ n by omega)
              rwa [Nat.succ_mul] at this
            have hp1 := part_flat hk1 (cs := cs) (off := j * k1.length) (by omega) w
            have h5 := checkKey_flat em w d hk1 m (cs := (cs.drop (j * k1.length)).take k1.length) (by simp; omega)
            rw [List.range'_succ]
            simp only [List.forIn_cons, Sem.run_bind, run_sizeOf hie, hsz, hp1, h5, Result.andThen_ok, Sem.run_pure]
            exact ih (j + 1) (by omega)
        rw [key n 0 (by omega)]; rfl
      · cases h
    · cases h

theorem checkKey_ok {kt : TypeId} {kk : KeyK} {key : PV} {v w : World} {kv : Value} {Z : Nat → Prop} (hk : keyK P kt = some kk) (ho : keyOK kk key = true) (hr : RP v Z key kv) (em : Bool) : (Instr.checkKey em 10000 kt kv).run P w = .ok () w := by
  unfold keyK at hk
  split at hk
  · rename_i hu; exact checkKey_leaf (.inr (.inl hu)) em _ w
  · rename_i k hu; exact checkKey_leaf (.inl ⟨k, hu⟩) em _ w
  · rename_i hu; exact checkKey_leaf (.inr (.inr hu)) em _ w
  · rename_i fs hu
    simp only [Option.map_eq_some_iff] at hk
    obtain ⟨ks, hks, rfl⟩ := hk
    cases key with
    | agg xs =>
      simp only [keyOK, keyEq] at ho
      rw [Option.isSome_iff_exists] at ho
      obtain ⟨r, hr'⟩ := ho
      have hl := cellsEq_length hr'
      simp only [RP] at hr
      obtain ⟨_, cs, rfl, h1, _⟩ := hr
      have := checkKey_flat em w 40 hks 9960 (cs := cs) (by rw [RPs_length h1, hl.1])
      simp only [mkV, isAggT, hu, if_true] at this
      exact this
    | _ => simp [keyOK, keyEq] at ho
  · cases hk

end Go.Ev
end
section
/- MAPS: finding, reading, writing. -/
namespace Go.Ev
variable {P : Program}

theorem sameNow_leaf {k : Nat} {kt : TypeId} {d : TypeDesc} {x y : PV} {r : Bool} (hd : P.underlying kt = some d) (hk : keyK P kt = some (.plain k)) (h : leafEq k x y = some r) {w : World} {Z : Nat → Prop} {c e : Value}
    (hc : RP w Z x c) (he : RP w Z y e) : Instr.sameNow d c e = some r := by
  unfold keyK at hk
  rw [hd] at hk
  rcases leafEq_run h hc he with ⟨rfl, a, b, rfl, rfl, rfl⟩ | ⟨rfl, j, a, b, rfl, rfl, rfl⟩ | ⟨rfl, a, b, rfl, rfl, rfl⟩
  · split at hk <;> simp_all [Instr.sameNow]
  · split at hk <;> simp_all [Instr.sameNow]
  · split at hk <;> simp_all [Instr.sameNow]
    have := MapKept.bytes_beq ⟨a.toArray⟩ ⟨b.toArray⟩
    by_cases hab : a = b
    · subst hab; simp; exact this.2 rfl
    · have h1 : ¬ (⟨a.toArray⟩ : ByteArray) = ⟨b.toArray⟩ := by simpa using hab
      have h2 : ¬ ((⟨a.toArray⟩ : ByteArray) == ⟨b.toArray⟩) = true := fun h => h1 (this.1 h)
      rw [show (a == b) = false by simpa using hab]
      simpa using h2

theorem findNow_ok {k : Nat} {kt : TypeId} {d : TypeDesc} (hd : P.underlying kt = some d) (hk : keyK P kt = some (.plain k)) {w : World} {Z : Nat → Prop} {key : PV} {kv : Value} (hr : RP w Z key kv) :
    ∀ (ks : List PV) (es : List MapEntry) (i : Nat) (res : Option Nat), RPs w Z ks (es.map (·.key)) → findK (.plain k) key ks i = some res →
      (res = none ∧ Instr.findNow d kv es i = some none) ∨ ∃ j e, res = some (i + j) ∧ es[j]? = some e ∧ Instr.findNow d kv es i = some (some (i + j, e.val)) ∧ ∃ x, ks[j]? = some x ∧ keyEq (.plain k) key x = some true
  | [], es, i, res, h1, h2 => by
    simp only [RPs, List.map_eq_nil_iff] at h1
    subst h1
    simp only [findK, Option.some.injEq] at h2
    exact .inl ⟨h2.symm, rfl⟩
  | x :: ks, es, i, res, h1, h2 => by
    cases es with
    | nil => simp [RPs] at h1
    | cons e es =>
      simp only [List.map_cons, RPs, List.cons.injEq] at h1
      obtain ⟨v, r, ⟨rfl, rfl⟩, h3, h4⟩ := h1
      simp only [findK] at h2
      split at h2
      · rename_i he
        simp only [Option.some.injEq] at h2
        have := sameNow_leaf hd hk he hr h3
        exact .inr ⟨0, e, h2.symm, rfl, by simp [Instr.findNow, this], x, rfl, he⟩
      · rename_i he
        have := sameNow_leaf hd hk he hr h3
        rcases findNow_ok hd hk hr ks es (i + 1) res h4 h2 with ⟨h5, h6⟩ | ⟨j, e', h5, h6, h7, h8⟩
        · exact .inl ⟨h5, by simp [Instr.findNow, this, h6]⟩
        · exact .inr ⟨j + 1, e', by rw [h5]; congr 1; omega, by simpa using h6, by simp [Instr.findNow, this, h7]; omega, by simpa using h8⟩
      · cases h2

theorem findAsking_ok {kl : List Nat} {kt : TypeId} (hk : flatKs P 40 kt = some kl) (hs : isAggT P kt = true) {w : World} {Z : Nat → Prop} {key : PV} {kv : Value} (hr : RP w Z key kv) :
    ∀ (ks : List PV) (es : List MapEntry) (i : Nat) (res : Option Nat), RPs w Z ks (es.map (·.key)) → findK (.wide kl) key ks i = some res →
      (res = none ∧ (Instr.findAsking kt kv es i).run P w = .ok none w) ∨ ∃ j e, res = some (i + j) ∧ es[j]? = some e ∧ (Instr.findAsking kt kv es i).run P w = .ok (some (i + j, e.val)) w ∧ ∃ x, ks[j]? = some x ∧ keyEq (.wide kl) key x = some true
  | [], es, i, res, h1, h2 => by
    simp only [RPs, List.map_eq_nil_iff] at h1
    subst h1
    simp only [findK, Option.some.injEq] at h2
    exact .inl ⟨h2.symm, by simp [Instr.findAsking]⟩
  | x :: ks, es, i, res, h1, h2 => by
    cases es with
    | nil => simp [RPs] at h1
    | cons e es =>
      simp only [List.map_cons, RPs, List.cons.injEq] at h1
      obtain ⟨v, r, ⟨rfl, rfl⟩, h3, h4⟩ := h1
      have heq : ∀ b, keyEq (.wide kl) key x = some b → (Op.equal kt kv e.key).run P w = .ok b w := by
        intro b hb
        unfold keyEq at hb
        split at hb
        · rename_i heq; cases heq
        · rename_i ks' xs ys heq
          cases heq
          simp only [RP] at hr h3
          obtain ⟨_, cs, rfl, q1, _⟩ := hr
          obtain ⟨_, ds, q3, q2, _⟩ := h3
          have := flatEq_run 40 hk 9960 q1 q2 hb
          simp only [mkV, hs, if_true] at this
          rw [q3]; exact this
        · cases hb
      simp only [findK] at h2
      split at h2
      · rename_i he
        simp only [Option.some.injEq] at h2
        exact .inr ⟨0, e, h2.symm, rfl, by simp [Instr.findAsking, heq _ he], x, rfl, he⟩
      · rename_i he
        rcases findAsking_ok hk hs hr ks es (i + 1) res h4 h2 with ⟨h5, h6⟩ | ⟨j, e', h5, h6, h7, h8⟩
        · exact .inl ⟨h5, by simp [Instr.findAsking, heq _ he, h6]⟩
        · exact .inr ⟨j + 1, e', by rw [h5]; congr 1; omega, by simpa using h6, by simp [Instr.findAsking, heq _ he, h7]; omega, by simpa using h8⟩
      · cases h2

theorem findKey_ok {kt : TypeId} {kk : KeyK} (hk : keyK P kt = some kk) {w : World} {Z : Nat → Prop} {key : PV} {kv : Value} (hr : RP w Z key kv) {ks : List PV} {es : List MapEntry} {res : Option Nat}
    (h1 : RPs w Z ks (es.map (·.key))) (h2 : findK kk key ks 0 = some res) :
    (res = none ∧ (Instr.findKey kt kv es).run P w = .ok none w) ∨ ∃ j e, res = some j ∧ es[j]? = some e ∧ (Instr.findKey kt kv es).run P w = .ok (some (j, e.val)) w ∧ ∃ x, ks[j]? = some x ∧ keyEq kk key x = some true := by
  have hk' := hk
  unfold keyK at hk
  cases kk with
  | plain k =>
    have hd : ∃ d, P.underlying kt = some d := by
      split at hk <;> first | (cases hk; done) | exact ⟨_, by assumption⟩
    obtain ⟨d, hd⟩ := hd
    rcases findNow_ok hd hk' hr ks es 0 res h1 h2 with ⟨h5, h6⟩ | ⟨j, e, h5, h6, h7, h8⟩
    · exact .inl ⟨h5, MapKept.run_findKey hd h6⟩
    · refine .inr ⟨j, e, by simpa using h5, h6, ?_, h8⟩
      have := MapKept.run_findKey (w := w) hd h7
      simpa using this
  | wide kl =>
    split at hk <;> first | (cases hk; done) | skip
    rename_i fs hu
    simp only [Option.map_eq_some_iff, KeyK.wide.injEq] at hk
    obtain ⟨_, hk, rfl⟩ := hk
    have he : (Instr.findKey kt kv es).run P w = (Instr.findAsking kt kv es).run P w := run_findKey_eq w (by rw [hu]) kv es
    rw [he]
    rcases findAsking_ok hk (by simp [isAggT, hu]) hr ks es 0 res h1 h2 with ⟨h5, h6⟩ | ⟨j, e, h5, h6, h7, h8⟩
    · exact .inl ⟨h5, h6⟩
    · exact .inr ⟨j, e, by simpa using h5, h6, by simpa using h7, h8⟩

theorem tmap_run {t k e : TypeId} {kk : KeyK} (h : tmap P t = some (k, e, kk)) : P.underlying t = some (.map k e) ∧ keyK P k = some kk := by
  unfold tmap at h
  split at h
  · rename_i k' e' hu
    simp only [Option.map_eq_some_iff, Prod.mk.injEq] at h
    obtain ⟨q, h1, rfl, rfl, rfl⟩ := h
    exact ⟨hu, h1⟩
  · cases h

theorem run_lookup {t k e : TypeId} (hu : P.underlying t = some (.map k e)) {w : World} {kv z : Value} {es : Array MapEntry} {mv : Value} (ok : Bool)
    (hes : (mv = .map none ∧ es = #[]) ∨ ∃ r clock, mv = .map (some r) ∧ w.heap[r]? = some (.map es clock)) (hc : ∀ em, (Instr.checkKey em 10000 k kv).run P w = .ok () w)
    (hz : (P.info? e).bind (·.zero) = some z) {res : Option (Nat × Value)} (hf : (Instr.findKey k kv es.toList).run P w = .ok res w) :
    (Instr.lookup t mv kv ok).run P w = .ok (if ok then .tuple #[match res with | some (_, v) => v | none => z, .bool res.isSome] else (match res with | some (_, v) => v | none => z)) w := by
  rcases hes with ⟨rfl, rfl⟩ | ⟨r, clock, rfl, hh⟩
  · simp only [Instr.lookup, Sem.run_bind, run_underlying' hu, Result.andThen_ok, Sem.run_pure, hc, hf]
    cases res with
    | none => simp only [Sem.run_bind, run_zeroValue hz, Result.andThen_ok, Sem.run_pure]; rfl
    | some q => rfl
  · simp only [Instr.lookup, Sem.run_bind, run_underlying' hu, Result.andThen_ok, Sem.run_pure, run_getMap hh, hc, hf]
    cases res with
    | none => simp only [Sem.run_bind, run_zeroValue hz, Result.andThen_ok, Sem.run_pure]; rfl
    | some q => rfl

theorem evLookup_ok {s : St} {t k e : TypeId} {kk : KeyK} (hu : P.underlying t = some (.map k e)) (hkk : keyK P k = some kk) {key : PV} {kv mv z : Value} {za : AV} (hko : keyOK kk key = true) (hr : RP s.w s.Z key kv)
    {ks : List PV} {vs : List AV} {es : Array MapEntry} (hes : (mv = .map none ∧ es = #[]) ∨ ∃ r clock, mv = .map (some r) ∧ s.w.heap[r]? = some (.map es clock))
    (h1 : RPs s.w s.Z ks (es.toList.map (·.key))) (h2 : RAs s vs (es.toList.map (·.val))) (hz : (P.info? e).bind (·.zero) = some z) (hza : RA s za z) {r : AV × Bool} (h : evLookup kk key ks vs za = some r) (ok : Bool) (hs : WF s) :
    Sim P s (Instr.lookup t mv kv ok) (if ok then mkTup [r.1, .p (.bool r.2)] else r.1) s.H := by
  unfold evLookup at h
  have hc := fun em => checkKey_ok (P := P) (w := s.w) hkk hko hr em
  have fin : ∀ (v : Value) (b : Bool), RA s r.1 v → r.2 = b → (Instr.lookup t mv kv ok).run P s.w = .ok (if ok then .tuple #[v, .bool b] else v) s.w → Sim P s (Instr.lookup t mv kv ok) (if ok then mkTup [r.1, .p (.bool r.2)] else r.1) s.H := by
    intro v b hv hb hrun
    refine Sim.same hs hrun ?_
    cases ok
    · exact hv
    · refine RA_mkTup ?_
      simp only [RA, RAs]
      exact ⟨[v, .bool b], rfl, v, _, rfl, hv, _, _, rfl, by simp only [RP]; rw [hb], rfl⟩
  split at h
  · rename_i i hf
    rcases findKey_ok hkk hr h1 hf with ⟨h3, _⟩ | ⟨j, en, h3, h4, h5, _⟩
    · cases h3
    · cases h3
      simp only [Option.map_eq_some_iff] at h
      obtain ⟨x, hx, rfl⟩ := h
      obtain ⟨c, hc', hR⟩ := RAs_get h2 hx
      simp only [List.getElem?_map, h4, Option.map_some, Option.some.injEq] at hc'
      subst hc'
      have := run_lookup hu ok hes hc hz h5
      exact fin en.val true hR rfl this
  · rename_i hf
    cases h
    rcases findKey_ok hkk hr h1 hf with ⟨_, h4⟩ | ⟨j, en, h3, _⟩
    · have := run_lookup hu ok hes hc hz h4
      exact fin z false hza rfl this
    · cases h3
  · cases h

theorem look_ok {s : St} (hs : WF s) {t : TypeId} {m key av : AV} {vm vk : Value} {ok : Bool} (hm : RA s m vm) (hk : RA s key vk) (h : evLook P t m key ok s.H = some av) : Sim P s (Instr.lookup t vm vk ok) av s.H := by
  unfold evLook at h
  simp only [Option.bind_eq_some_iff, Option.map_eq_some_iff] at h
  obtain ⟨⟨k, e, kk⟩, ht, za, hza, r, h, rfl⟩ := h
  obtain ⟨hu, hkk⟩ := tmap_run ht
  obtain ⟨z, hz, hzv⟩ := tzero_run hza
  have hzR : RA s za z := RA_zero hzv
  dsimp only at h hz
  split at h
  · rename_i key
    split at h
    · rename_i ho
      cases h
      simp only [RA, RP] at hm hk
      refine evLookup_ok (ks := []) (vs := []) (es := #[]) hu hkk ho hk (.inl ⟨hm, rfl⟩) (by simp [RPs]) (by simp [RAs]) hz hzR ?_ ok hs
      simp [evLookup, findK]
    · cases h
  · rename_i ks vs key
    split at h
    · rename_i ho
      simp only [RA, RP] at hm hk
      obtain ⟨r', es, clock, rfl, _, hh, h1, h2, _⟩ := hm
      exact evLookup_ok hu hkk ho hk (.inr ⟨r', clock, rfl, hh⟩) h1 (RAs_map_p.2 h2) hz hzR h ok hs
    · cases h
  · rename_i b key
    split at h
    · rename_i l g ks vs hb
      split at h
      · rename_i ho
        simp only [RA] at hm hk
        obtain ⟨_, rfl⟩ := hm
        have hB := hs.blk b _ hb
        simp only [RB] at hB
        obtain ⟨es, clock, hh, h1, h2, _⟩ := hB
        exact evLookup_ok hu hkk ho hk (.inr ⟨s.ι b, clock, rfl, hh⟩) h1 h2 hz hzR h ok hs
      · cases h
    · cases h
  · cases h

end Go.Ev
end
section
/- MAPS: writing, deleting, clearing. -/
namespace Go.Ev
variable {P : Program}

def World.putMap (w : World) (r : Nat) (o : Obj) : World := { w with heap := w.heap.setIfInBounds r o }
theorem run_setMap {w : World} {r : Nat} {es : Array MapEntry} {clock : Nat} (o : Obj) (h : w.heap[r]? = some (.map es clock)) : (setObj r o).run P w = .ok () (World.putMap w r o) := by simp [setObj, Sem.run, h, World.putMap]
theorem putMap_at {w : World} {r : Nat} {o o' : Obj} (h : w.heap[r]? = some o') : (World.putMap w r o).heap[r]? = some o := by
  have := (Array.getElem?_eq_some_iff.1 h).1
  simp [World.putMap, this]
theorem putMap_ne {w : World} {r k : Nat} {o : Obj} (h : k ≠ r) : (World.putMap w r o).heap[k]? = w.heap[k]? := by simp [World.putMap, Array.getElem?_setIfInBounds_ne (Ne.symm h)]
theorem putMap_size {w : World} {r : Nat} {o : Obj} : (World.putMap w r o).heap.size = w.heap.size := by simp [World.putMap]

theorem putMap_rw {s : St} {b : Nat} {x : Blk} {o : Obj} (hb : live s.H b) : Rewrites s b x (World.putMap s.w (s.ι b) o) :=
  ⟨live_lt hb, hb, putMap_size, fun _ h => putMap_ne h, rfl, rfl, rfl⟩

theorem RPs_set {w : World} {Z : Nat → Prop} {xs : List PV} {cs : List Value} (h : RPs w Z xs cs) {i : Nat} {x : PV} {c : Value} (hx : RP w Z x c) : RPs w Z (xs.set i x) (cs.set i c) := by
  rw [RPs_iff] at h ⊢
  refine ⟨by simp [h.1], fun j y d hy hd => ?_⟩
  rw [List.getElem?_set] at hy hd
  split at hy
  · rename_i e
    rw [if_pos e] at hd
    split at hy
    · rw [if_pos (by omega)] at hd
      cases hy; cases hd; exact hx
    · cases hy
  · rename_i e
    rw [if_neg e] at hd
    exact h.2 j y d hy hd

theorem RPs_eraseIdx {w : World} {Z : Nat → Prop} : ∀ {xs : List PV} {cs : List Value} (i : Nat), RPs w Z xs cs → RPs w Z (xs.eraseIdx i) (cs.eraseIdx i)
  | [], cs, i, h => by simp only [RPs] at h; subst h; simp [RPs]
  | x :: xs, cs, i, h => by
    simp only [RPs] at h
    obtain ⟨v, r, rfl, h1, h2⟩ := h
    cases i with
    | zero => simpa using h2
    | succ i => simp only [List.eraseIdx_cons_succ, RPs]; exact ⟨v, _, rfl, h1, RPs_eraseIdx i h2⟩
theorem RAs_eraseIdx {s : St} : ∀ {xs : List AV} {cs : List Value} (i : Nat), RAs s xs cs → RAs s (xs.eraseIdx i) (cs.eraseIdx i)
  | [], cs, i, h => by simp only [RAs] at h; subst h; simp [RAs]
  | x :: xs, cs, i, h => by
    simp only [RAs] at h
    obtain ⟨v, r, rfl, h1, h2⟩ := h
    cases i with
    | zero => simpa using h2
    | succ i => simp only [List.eraseIdx_cons_succ, RAs]; exact ⟨v, _, rfl, h1, RAs_eraseIdx i h2⟩

theorem modify_key {es : Array MapEntry} {i : Nat} {e : MapEntry} (he : es[i]? = some e) (v : Value) :
    (es.modify i fun e => { e with key := e.key, val := v }).toList.map (·.key) = es.toList.map (·.key) := by
  apply List.ext_getElem?
  intro j
  simp only [List.getElem?_map, Array.getElem?_toList, Array.getElem?_modify]
  split
  · rename_i h; subst h; cases es[i]? <;> rfl
  · rfl
theorem modify_val {es : Array MapEntry} {i : Nat} {e : MapEntry} (he : es[i]? = some e) (k v : Value) :
    (es.modify i fun e => { e with key := k, val := v }).toList.map (·.val) = (es.toList.map (·.val)).set i v := by
  have hi := (Array.getElem?_eq_some_iff.1 he).1
  apply List.ext_getElem?
  intro j
  simp only [List.getElem?_map, Array.getElem?_toList, Array.getElem?_modify, List.getElem?_set, List.length_map, Array.length_toList]
  split
  · rename_i h; subst h; simp [he, hi]
  · rfl
theorem modify_keys {es : Array MapEntry} {i : Nat} {e : MapEntry} (he : es[i]? = some e) (k v : Value) :
    (es.modify i fun e => { e with key := k, val := v }).toList.map (·.key) = (es.toList.map (·.key)).set i k := by
  have hi := (Array.getElem?_eq_some_iff.1 he).1
  apply List.ext_getElem?
  intro j
  simp only [List.getElem?_map, Array.getElem?_toList, Array.getElem?_modify, List.getElem?_set, List.length_map, Array.length_toList]
  split
  · rename_i h; subst h; simp [he, hi]
  · rfl
theorem modify_born {es : Array MapEntry} {i : Nat} (k v : Value) (j : Nat) (e : MapEntry) (h : (es.modify i fun e => { e with key := k, val := v })[j]? = some e) : ∃ e0, es[j]? = some e0 ∧ e0.born = e.born := by
  rw [Array.getElem?_modify] at h
  split at h
  · rename_i hj
    subst hj
    cases h1 : es[i]? with
    | none => rw [h1] at h; cases h
    | some e0 => rw [h1] at h; simp at h; subst h; exact ⟨e0, rfl, rfl⟩
  · exact ⟨e, h, rfl⟩

theorem Births.of_same {es es' : Array MapEntry} {clock : Nat} (h : Births es clock) (k : ∀ (j : Nat) (e : MapEntry), es'[j]? = some e → ∃ e0 : MapEntry, es[j]? = some e0 ∧ e0.born = e.born) : Births es' clock := by
  refine ⟨fun i e he => ?_, fun i j e e' he he' hb => ?_⟩
  · obtain ⟨e0, h1, h2⟩ := k i e he
    rw [← h2]; exact h.1 i e0 h1
  · obtain ⟨e0, h1, h2⟩ := k i e he
    obtain ⟨e1, h3, h4⟩ := k j e' he'
    exact h.2 i j e0 e1 h1 h3 (by rw [h2, h4, hb])

theorem Births.push {es : Array MapEntry} {clock : Nat} (h : Births es clock) (k v : Value) : Births (es.push { key := k, val := v, born := clock }) (clock + 1) := by
  refine ⟨fun i e he => ?_, fun i j e e' he he' hb => ?_⟩
  · rw [Array.getElem?_push] at he
    split at he
    · cases he; exact Nat.lt_succ_self _
    · exact Nat.lt_succ_of_lt (h.1 i e he)
  · rw [Array.getElem?_push] at he he'
    split at he
    · split at he'
      · omega
      · cases he
        have := h.1 j e' he'
        dsimp only at hb
        omega
    · split at he'
      · cases he'
        have := h.1 i e he
        dsimp only at hb
        omega
      · exact h.2 i j e e' he he' hb

theorem Births.erase {es : Array MapEntry} {clock : Nat} (h : Births es clock) (n : Nat) : Births (es.eraseIdxIfInBounds n) clock := by
  unfold Array.eraseIdxIfInBounds
  split
  · rename_i hn
    have key : ∀ (j : Nat) (e : MapEntry), (es.eraseIdx n hn)[j]? = some e → es[if j < n then j else j + 1]? = some e := by
      intro j e he
      rw [Array.getElem?_eraseIdx] at he
      split at he
      · rename_i h1; rw [if_pos h1]; exact he
      · rename_i h1; rw [if_neg h1]; exact he
    refine ⟨fun i e he => h.1 _ e (key i e he), fun i j e e' he he' hb => ?_⟩
    have := h.2 _ _ e e' (key i e he) (key j e' he') hb
    split at this <;> split at this <;> omega
  · exact h

theorem mapUpdate_ok {s : St} (hs : WF s) {t : TypeId} {m key v : AV} {vm vk vv : Value} {H' : Heap} (hm : RA s m vm) (hk : RA s key vk) (hv : RA s v vv) (h : evMapUpdate P t m key v s.H = some H') : SimU P s (Instr.mapUpdate t vm vk vv) H' := by
  unfold evMapUpdate at h
  simp only [Option.bind_eq_some_iff] at h
  obtain ⟨⟨k, e, kk⟩, ht, h⟩ := h
  obtain ⟨hu, hkk⟩ := tmap_run ht
  dsimp only at h
  split at h
  · rename_i b key
    split at h
    · rename_i g ks vs hb
      split at h
      · rename_i ho
        simp only [Option.map_eq_some_iff] at h
        obtain ⟨res, hf, h⟩ := h
        simp only [RA] at hm hk
        obtain ⟨_, rfl⟩ := hm
        have hB := hs.blk b _ hb
        simp only [RB] at hB
        obtain ⟨es, clock, hh, h1, h2, h3, _⟩ := hB
        have hk0 := kd_of_map hb
        have hlv : live s.H b := by simp [live, hb]
        have hc := checkKey_ok (P := P) (w := s.w) hkk ho hk false
        rcases findKey_ok (P := P) hkk hk h1 hf with ⟨rfl, h4⟩ | ⟨j, en, rfl, h4, h5, x, hx, heq⟩
        · subst h
          have r : Rewrites s b (.map true (g + 1) (ks ++ [key]) (vs ++ [v])) (World.putMap s.w (s.ι b) (.map (es.push { key := vk, val := vv, born := clock }) (clock + 1))) := putMap_rw hlv
          have hkf : KdFits s b (.map true (g + 1) (ks ++ [key]) (vs ++ [v])) (World.putMap s.w (s.ι b) (.map (es.push { key := vk, val := vv, born := clock }) (clock + 1))) := by
            unfold KdFits; rw [hk0]; exact ⟨Nat.le_succ _, fun e => by omega⟩
          have ev := Evo.put hs r hkf
          refine ⟨s.put b _ _, ?_, rfl, ev, WF.put hs r hkf ?_⟩
          · simp only [Instr.mapUpdate, Sem.run_bind, run_underlying' hu, Result.andThen_ok, run_getMap hh, hc, h4]
            exact run_setMap _ hh
          · simp only [RB]
            refine ⟨_, _, putMap_at hh, ?_, ?_, h3.push _ _, fun h => by cases h⟩
            · simp only [Array.toList_push, List.map_append, List.map_cons, List.map_nil]
              exact RPs_append (RPs_mono ev.Zm (hs.zkeep ev) _ _ h1) (by simp only [RPs]; exact ⟨_, _, rfl, RP_mono ev.Zm (hs.zkeep ev) _ _ hk, rfl⟩)
            · simp only [Array.toList_push, List.map_append, List.map_cons, List.map_nil]
              exact RAs_append (RAs_mono hs ev _ _ h2) (by simp only [RAs]; exact ⟨_, _, rfl, RA_mono hs ev _ _ hv, rfl⟩)
        · subst h
          have hold : RP s.w s.Z x en.key := by
            obtain ⟨c, hc1, hc2⟩ := RPs_get h1 hx
            simp only [List.getElem?_map, h4, Option.map_some, Option.some.injEq] at hc1
            rw [hc1]; exact hc2
          have hke : vk = en.key := keyEq_true heq hk hold
          have he4 : es[j]? = some en := by rw [← Array.getElem?_toList]; exact h4
          have hcl : ∀ (j' : Nat) (e : MapEntry), (es.modify j fun e => { e with key := vk, val := vv })[j']? = some e → ∃ e0 : MapEntry, es[j']? = some e0 ∧ e0.born = e.born := fun j' e => modify_born vk vv j' e
          have r : Rewrites s b (.map true g (ks.set j key) (vs.set j v)) (World.putMap s.w (s.ι b) (.map (es.modify j fun e => { e with key := vk, val := vv }) clock)) := putMap_rw hlv
          have hkf : KdFits s b (.map true g (ks.set j key) (vs.set j v)) (World.putMap s.w (s.ι b) (.map (es.modify j fun e => { e with key := vk, val := vv }) clock)) := by
            unfold KdFits; rw [hk0]
            refine ⟨Nat.le_refl _, fun _ es0 c0 he0 => ?_⟩
            rw [hh] at he0
            simp only [Option.some.injEq, Obj.map.injEq] at he0
            obtain ⟨rfl, rfl⟩ := he0
            exact ⟨_, putMap_at hh, by simp, hcl⟩
          have ev := Evo.put hs r hkf
          refine ⟨s.put b _ _, ?_, rfl, ev, WF.put hs r hkf ?_⟩
          · have hks := keyStays (P := P) heq hk s.w
            rw [hke] at hks hc h5
            simp only [Instr.mapUpdate, Sem.run_bind, run_underlying' hu, Result.andThen_ok, run_getMap hh, hc, h5, he4, Option.map_some, Option.getD_some, hke, hks]
            exact run_setMap _ hh
          · simp only [RB]
            refine ⟨_, _, putMap_at hh, ?_, ?_, h3.of_same hcl, fun h => by cases h⟩
            · rw [modify_keys he4]
              exact RPs_set (RPs_mono ev.Zm (hs.zkeep ev) _ _ h1) (RP_mono ev.Zm (hs.zkeep ev) _ _ hk)
            · rw [modify_val he4]
              exact RAs_set (RAs_mono hs ev _ _ h2) (RA_mono hs ev _ _ hv)
      · cases h
    · cases h
  · cases h

theorem modify_congr {es : Array MapEntry} {i : Nat} {e : MapEntry} (he : es[i]? = some e) (f g : MapEntry → MapEntry) (h : f e = g e) : es.modify i f = es.modify i g := by
  apply Array.ext_getElem?
  intro j
  rw [Array.getElem?_modify, Array.getElem?_modify]
  split
  · rename_i hj; subst hj; simp [he, h]
  · rfl
theorem mapEntry_ok {s : St} (hs : WF s) {t : TypeId} {m key : AV} {vm vk : Value} {r : AV × Heap} (hm : RA s m vm) (hk : RA s key vk) (h : evMapEntry P t m key s.H = some r) : Sim P s (Instr.mapEntry t vm vk) r.1 r.2 := by
  unfold evMapEntry at h
  simp only [Option.bind_eq_some_iff] at h
  obtain ⟨⟨k, e, kk⟩, ht, h⟩ := h
  obtain ⟨hu, hkk⟩ := tmap_run ht
  dsimp only at h
  split at h
  · rename_i b key
    split at h
    · rename_i g ks vs hb
      split at h
      · rename_i ho
        simp only [Option.bind_eq_some_iff] at h
        obtain ⟨res, hf, h⟩ := h
        simp only [RA] at hm hk
        obtain ⟨_, rfl⟩ := hm
        have hB := hs.blk b _ hb
        simp only [RB] at hB
        obtain ⟨es, clock, hh, h1, h2, h3, _⟩ := hB
        have hk0 := kd_of_map hb
        have hlv : live s.H b := by simp [live, hb]
        have hbl := kd_lt hk0
        have hc := checkKey_ok (P := P) (w := s.w) hkk ho hk false
        rcases findKey_ok (P := P) hkk hk h1 hf with ⟨rfl, h4⟩ | ⟨j, en, rfl, h4, h5, x, hx, heq⟩
        · simp only [Option.map_eq_some_iff] at h
          obtain ⟨za, hza, rfl⟩ := h
          obtain ⟨z, hz, hzv⟩ := tzero_run hza
          have hzR : RA s za z := RA_zero hzv
          have r : Rewrites s b (.map true (g + 1) (ks ++ [key]) (vs ++ [za])) (World.putMap s.w (s.ι b) (.map (es.push { key := vk, val := z, born := clock }) (clock + 1))) := putMap_rw hlv
          have hkf : KdFits s b (.map true (g + 1) (ks ++ [key]) (vs ++ [za])) (World.putMap s.w (s.ι b) (.map (es.push { key := vk, val := z, born := clock }) (clock + 1))) := by
            unfold KdFits; rw [hk0]; exact ⟨Nat.le_succ _, fun e => by omega⟩
          have ev := Evo.put hs r hkf
          refine ⟨.tuple #[z, goInt clock], s.put b _ _, ?_, rfl, ev, WF.put hs r hkf ?_, ?_⟩
          · simp only [Instr.mapEntry, Sem.run_bind, run_underlying' hu, Result.andThen_ok, run_getMap hh, hc, h4, run_zeroValue hz, run_setMap _ hh, Sem.run_pure]
            rfl
          · simp only [RB]
            refine ⟨_, _, putMap_at hh, ?_, ?_, h3.push _ _, fun h => by cases h⟩
            · simp only [Array.toList_push, List.map_append, List.map_cons, List.map_nil]
              exact RPs_append (RPs_mono ev.Zm (hs.zkeep ev) _ _ h1) (by simp only [RPs]; exact ⟨_, _, rfl, RP_mono ev.Zm (hs.zkeep ev) _ _ hk, rfl⟩)
            · simp only [Array.toList_push, List.map_append, List.map_cons, List.map_nil]
              exact RAs_append (RAs_mono hs ev _ _ h2) (by simp only [RAs]; exact ⟨_, _, rfl, RA_mono hs ev _ _ hzR, rfl⟩)
          · simp only [RA, RAs]
            refine ⟨[z, goInt clock], rfl, _, _, rfl, RA_mono hs ev _ _ hzR, _, _, rfl, ⟨g + 1, clock, ?_, Nat.le_refl _, rfl, fun _ => ⟨_, _, { key := vk, val := z, born := clock }, putMap_at hh, ?_, rfl⟩⟩, rfl⟩
            · exact kd_set_eq _ hbl
            · have hl : ks.length = es.size := by have := RPs_length h1; simpa using this.symm
              rw [hl]; simp
        · simp only [Option.map_eq_some_iff] at h
          obtain ⟨v, hv, rfl⟩ := h
          have hold : RP s.w s.Z x en.key := by
            obtain ⟨c, hc1, hc2⟩ := RPs_get h1 hx
            simp only [List.getElem?_map, h4, Option.map_some, Option.some.injEq] at hc1
            rw [hc1]; exact hc2
          have hke : vk = en.key := keyEq_true heq hk hold
          have he4 : es[j]? = some en := by rw [← Array.getElem?_toList]; exact h4
          have hvR : RA s v en.val := by
            obtain ⟨c, hc1, hc2⟩ := RAs_get h2 hv
            simp only [List.getElem?_map, h4, Option.map_some, Option.some.injEq] at hc1
            rw [hc1]; exact hc2
          have hmd : (es.modify j fun e => { e with key := vk }) = es.modify j fun e => { e with key := vk, val := en.val } := modify_congr he4 _ _ rfl
          have hcl : ∀ (j' : Nat) (e : MapEntry), (es.modify j fun e => { e with key := vk, val := en.val })[j']? = some e → ∃ e0 : MapEntry, es[j']? = some e0 ∧ e0.born = e.born := fun j' e => modify_born vk en.val j' e
          have r : Rewrites s b (.map true g (ks.set j key) vs) (World.putMap s.w (s.ι b) (.map (es.modify j fun e => { e with key := vk, val := en.val }) clock)) := putMap_rw hlv
          have hkf : KdFits s b (.map true g (ks.set j key) vs) (World.putMap s.w (s.ι b) (.map (es.modify j fun e => { e with key := vk, val := en.val }) clock)) := by
            unfold KdFits; rw [hk0]
            refine ⟨Nat.le_refl _, fun _ es0 c0 he0 => ?_⟩
            rw [hh] at he0
            simp only [Option.some.injEq, Obj.map.injEq] at he0
            obtain ⟨rfl, rfl⟩ := he0
            exact ⟨_, putMap_at hh, by simp, hcl⟩
          have ev := Evo.put hs r hkf
          refine ⟨.tuple #[en.val, goInt en.born], s.put b _ _, ?_, rfl, ev, WF.put hs r hkf ?_, ?_⟩
          · have hks := keyStays (P := P) heq hk s.w
            rw [← hmd]
            rw [hke] at hks hc h5
            simp only [Instr.mapEntry, Sem.run_bind, run_underlying' hu, Result.andThen_ok, run_getMap hh, hc, h5, he4, Option.map_some, Option.getD_some, hke, hks, run_setMap _ hh, Sem.run_pure]
            rfl
          · simp only [RB]
            refine ⟨_, _, putMap_at hh, ?_, ?_, h3.of_same hcl, fun h => by cases h⟩
            · rw [modify_keys he4]
              exact RPs_set (RPs_mono ev.Zm (hs.zkeep ev) _ _ h1) (RP_mono ev.Zm (hs.zkeep ev) _ _ hk)
            · rw [modify_val he4]
              have := RAs_mono hs ev _ _ h2
              have hsame : (es.toList.map (·.val)).set j en.val = es.toList.map (·.val) := by
                apply List.ext_getElem?
                intro q
                rw [List.getElem?_set]
                split
                · rename_i hq; subst hq
                  have hjl := (List.getElem?_eq_some_iff.1 h4).1
                  simp only [List.length_map, hjl, if_true, List.getElem?_map, h4, Option.map_some]
                · rfl
              rw [hsame]; exact this
          · simp only [RA, RAs]
            refine ⟨[en.val, goInt en.born], rfl, _, _, rfl, RA_mono hs ev _ _ hvR, _, _, rfl, ⟨g, en.born, ?_, Nat.le_refl _, rfl, fun _ => ⟨_, _, { en with key := vk }, putMap_at hh, ?_, rfl⟩⟩, rfl⟩
            · exact kd_set_eq _ hbl
            · rw [Array.getElem?_modify, if_pos rfl, he4]; rfl
      · cases h
    · cases h
  · cases h
theorem entryStore_ok {s : St} (hs : WF s) {t : TypeId} {m e v : AV} {vm ve vv : Value} {H' : Heap} (hm : RA s m vm) (he : RA s e ve) (hv : RA s v vv) (h : evEntryStore m e v s.H = some H') : SimU P s (Instr.entryStore t vm ve vv) H' := by
  unfold evEntryStore at h
  split at h
  · rename_i b b' g' j
    split at h
    · rename_i hbb
      subst hbb
      split at h
      · rename_i g ks vs hb
        split at h
        · rename_i hg
          obtain ⟨rfl, hj⟩ := hg
          cases h
          simp only [RA] at hm he
          obtain ⟨_, rfl⟩ := hm
          have hk0 := kd_of_map hb
          obtain ⟨g0, n, hk1, _, rfl, hst⟩ := he
          rw [hk0] at hk1
          simp only [Option.some.injEq, Kd.map.injEq] at hk1
          subst hk1
          obtain ⟨es, clock, en, hh, hej, rfl⟩ := hst rfl
          have hB := hs.blk b _ hb
          simp only [RB] at hB
          obtain ⟨es0, c0, hh0, h1, h2, h3, _⟩ := hB
          rw [hh] at hh0
          simp only [Option.some.injEq, Obj.map.injEq] at hh0
          obtain ⟨rfl, rfl⟩ := hh0
          have hlv : live s.H b := by simp [live, hb]
          have hfi : es.findIdx? (fun e => ((e.born : Nat) : Int) == ((en.born : Nat) : Int)) = some j := by
            rw [Array.findIdx?_eq_some_iff_getElem]
            have hjl := (Array.getElem?_eq_some_iff.1 hej).1
            have hje : es[j] = en := (Array.getElem?_eq_some_iff.1 hej).2
            refine ⟨hjl, by rw [hje]; simp, fun q hq => ?_⟩
            have : ((es[q].born : Nat) : Int) ≠ ((en.born : Nat) : Int) := fun e9 => by
              have := h3.2 q j es[q] en (Array.getElem?_eq_getElem (by omega)) hej (by omega)
              omega
            simpa using this
          have hmd : (es.modify j fun e => { e with val := vv }) = es.modify j fun e => { e with key := en.key, val := vv } := modify_congr hej _ _ rfl
          have hcl : ∀ (j' : Nat) (e : MapEntry), (es.modify j fun e => { e with key := en.key, val := vv })[j']? = some e → ∃ e0 : MapEntry, es[j']? = some e0 ∧ e0.born = e.born := fun j' e => modify_born en.key vv j' e
          have r : Rewrites s b (.map true g ks (vs.set j v)) (World.putMap s.w (s.ι b) (.map (es.modify j fun e => { e with key := en.key, val := vv }) clock)) := putMap_rw hlv
          have hkf : KdFits s b (.map true g ks (vs.set j v)) (World.putMap s.w (s.ι b) (.map (es.modify j fun e => { e with key := en.key, val := vv }) clock)) := by
            unfold KdFits; rw [hk0]
            refine ⟨Nat.le_refl _, fun _ es0 c0 he0 => ?_⟩
            rw [hh] at he0
            simp only [Option.some.injEq, Obj.map.injEq] at he0
            obtain ⟨rfl, rfl⟩ := he0
            exact ⟨_, putMap_at hh, by simp, hcl⟩
          have ev := Evo.put hs r hkf
          refine ⟨s.put b _ _, ?_, rfl, ev, WF.put hs r hkf ?_⟩
          · rw [← hmd]
            simp only [Instr.entryStore, Sem.run_bind, Result.andThen_ok, run_getMap hh, asInt, asIntOf, Sem.run_pure, hfi]
            exact run_setMap _ hh
          · simp only [RB]
            refine ⟨_, _, putMap_at hh, ?_, ?_, h3.of_same hcl, fun h => by cases h⟩
            · rw [modify_keys hej]
              have hsame : (es.toList.map (·.key)).set j en.key = es.toList.map (·.key) := by
                have h4 : es.toList[j]? = some en := by rw [Array.getElem?_toList]; exact hej
                apply List.ext_getElem?
                intro q
                rw [List.getElem?_set]
                split
                · rename_i hq; subst hq
                  have hjl := (List.getElem?_eq_some_iff.1 h4).1
                  simp only [List.length_map, hjl, if_true, List.getElem?_map, h4, Option.map_some]
                · rfl
              rw [hsame]
              exact RPs_mono ev.Zm (hs.zkeep ev) _ _ h1
            · rw [modify_val hej]
              exact RAs_set (RAs_mono hs ev _ _ h2) (RA_mono hs ev _ _ hv)
        · cases h
      · cases h
    · cases h
  · cases h

theorem eraseIdx_map {α β : Type} (f : α → β) : ∀ (l : List α) (i : Nat), (l.eraseIdx i).map f = (l.map f).eraseIdx i
  | [], _ => rfl
  | x :: l, 0 => rfl
  | x :: l, i + 1 => by simp [eraseIdx_map f l i]

theorem erase_list (es : Array MapEntry) (i : Nat) : (es.eraseIdxIfInBounds i).toList = es.toList.eraseIdx i := by
  unfold Array.eraseIdxIfInBounds
  split
  · simp
  · rename_i h; rw [List.eraseIdx_of_length_le (by simpa using h)]

theorem delete_ok {s : St} (hs : WF s) {t ty : TypeId} {ts : Array TypeId} (hts : ts[0]? = some t) {m key : AV} {vm vk : Value} {H' : Heap} (hm : RA s m vm) (hk : RA s key vk) (h : evDelete P t m key s.H = some H') :
    Sim P s (Builtin.delete_ ts ty #[vm, vk]) (.p (.tup [])) H' := by
  unfold evDelete at h
  simp only [Option.bind_eq_some_iff] at h
  obtain ⟨⟨k, e, kk⟩, ht, h⟩ := h
  obtain ⟨hu, hkk⟩ := tmap_run ht
  dsimp only at h
  have hres : ∀ s' : St, RA s' (.p (.tup [])) (.tuple #[]) := fun s' => by simp only [RA, RP]; exact ⟨[], rfl, by simp [RPs]⟩
  split at h
  · rename_i key
    split at h
    · rename_i ho
      cases h
      simp only [RA, RP] at hm hk
      subst hm
      have hc := checkKey_ok (P := P) (w := s.w) hkk ho hk true
      refine Sim.same hs (v := .tuple #[]) ?_ (hres s)
      simp only [Builtin.delete_, hts, List.getElem?_toArray, List.getElem?_cons_zero, List.getElem?_cons_succ, Sem.run_bind, run_underlying' hu, Result.andThen_ok, hc, Sem.run_pure]
    · cases h
  · rename_i b key
    split at h
    · rename_i g ks vs hb
      split at h
      · rename_i ho
        simp only [Option.map_eq_some_iff] at h
        obtain ⟨res, hf, h⟩ := h
        simp only [RA] at hm hk
        obtain ⟨_, rfl⟩ := hm
        have hB := hs.blk b _ hb
        simp only [RB] at hB
        obtain ⟨es, clock, hh, h1, h2, h3, _⟩ := hB
        have hk0 := kd_of_map hb
        have hlv : live s.H b := by simp [live, hb]
        have hc := fun em => checkKey_ok (P := P) (w := s.w) hkk ho hk em
        rcases findKey_ok (P := P) hkk hk h1 hf with ⟨rfl, h4⟩ | ⟨j, en, rfl, h4, h5, x, hx, heq⟩
        · subst h
          have hsame : (World.putMap s.w (s.ι b) (.map es clock)).heap = s.w.heap := by
            simp only [World.putMap]
            apply Array.ext_getElem?
            intro i
            by_cases hi : i = s.ι b
            · subst hi
              have := (Array.getElem?_eq_some_iff.1 hh).1
              rw [hh]; simp [this]
            · rw [Array.getElem?_setIfInBounds_ne (Ne.symm hi)]
          refine ⟨.tuple #[], s.withW (World.putMap s.w (s.ι b) (.map es clock)), ?_, rfl, Evo.withW s _ hsame rfl rfl rfl, hs.withW _ hsame rfl rfl rfl, hres _⟩
          simp only [Builtin.delete_, hts, List.getElem?_toArray, List.getElem?_cons_zero, List.getElem?_cons_succ, Sem.run_bind, run_underlying' hu, Result.andThen_ok, run_getMap hh, hc, h4, run_setMap _ hh, Sem.run_pure]
          rfl
        · subst h
          have r : Rewrites s b (.map true (g + 1) (ks.eraseIdx j) (vs.eraseIdx j)) (World.putMap s.w (s.ι b) (.map (es.eraseIdxIfInBounds j) clock)) := putMap_rw hlv
          have hkf : KdFits s b (.map true (g + 1) (ks.eraseIdx j) (vs.eraseIdx j)) (World.putMap s.w (s.ι b) (.map (es.eraseIdxIfInBounds j) clock)) := by
            unfold KdFits; rw [hk0]; exact ⟨Nat.le_succ _, fun e => by omega⟩
          have ev := Evo.put hs r hkf
          refine ⟨.tuple #[], s.put b _ _, ?_, rfl, ev, WF.put hs r hkf ?_, hres _⟩
          · simp only [Builtin.delete_, hts, List.getElem?_toArray, List.getElem?_cons_zero, List.getElem?_cons_succ, Sem.run_bind, run_underlying' hu, Result.andThen_ok, run_getMap hh, hc, h5, run_setMap _ hh, Sem.run_pure]
            rfl
          · simp only [RB]
            refine ⟨_, _, putMap_at hh, ?_, ?_, h3.erase _, fun h => by cases h⟩
            · rw [erase_list, eraseIdx_map]
              exact RPs_eraseIdx _ (RPs_mono ev.Zm (hs.zkeep ev) _ _ h1)
            · rw [erase_list, eraseIdx_map]
              exact RAs_eraseIdx _ (RAs_mono hs ev _ _ h2)
      · cases h
    · cases h
  · cases h

theorem clear_ok {s : St} (hs : WF s) {t ty : TypeId} {ts : Array TypeId} (hts : ts[0]? = some t) {m : AV} {vm : Value} {H' : Heap} (hm : RA s m vm) (h : evClear P t m s.H = some H') :
    Sim P s (Builtin.clear_ ts ty #[vm]) (.p (.tup [])) H' := by
  unfold evClear at h
  simp only [Option.bind_eq_some_iff] at h
  obtain ⟨⟨k, e, kk⟩, ht, h⟩ := h
  obtain ⟨hu, hkk⟩ := tmap_run ht
  have hres : ∀ s' : St, RA s' (.p (.tup [])) (.tuple #[]) := fun s' => by simp only [RA, RP]; exact ⟨[], rfl, by simp [RPs]⟩
  split at h
  · cases h
    simp only [RA, RP] at hm
    subst hm
    refine Sim.same hs (v := .tuple #[]) ?_ (hres s)
    simp only [Builtin.clear_, hts, List.getElem?_toArray, List.getElem?_cons_zero, Sem.run_bind, run_underlying' hu, Result.andThen_ok, Sem.run_pure]
  · rename_i b
    split at h
    · rename_i g ks vs hb
      cases h
      simp only [RA] at hm
      obtain ⟨_, rfl⟩ := hm
      have hB := hs.blk b _ hb
      simp only [RB] at hB
      obtain ⟨es, clock, hh, h1, h2, h3, _⟩ := hB
      have hk0 := kd_of_map hb
      have hlv : live s.H b := by simp [live, hb]
      have r : Rewrites s b (.map true (g + 1) [] []) (World.putMap s.w (s.ι b) (.map #[] clock)) := putMap_rw hlv
      have hkf : KdFits s b (.map true (g + 1) [] []) (World.putMap s.w (s.ι b) (.map #[] clock)) := by
        unfold KdFits; rw [hk0]; exact ⟨Nat.le_succ _, fun e => by omega⟩
      have ev := Evo.put hs r hkf
      refine ⟨.tuple #[], s.put b _ _, ?_, rfl, ev, WF.put hs r hkf ?_, hres _⟩
      · simp only [Builtin.clear_, hts, List.getElem?_toArray, List.getElem?_cons_zero, Sem.run_bind, run_underlying' hu, Result.andThen_ok, run_getMap hh, run_setMap _ hh, Sem.run_pure]
        rfl
      · simp only [RB]
        exact ⟨_, _, putMap_at hh, by simp [RPs], by simp [RAs], ⟨by intro i e h; simp at h, by intro i j e e' h; simp at h⟩, fun h => by cases h⟩
    · cases h
  · cases h

end Go.Ev
end
section
/- MAPS: walking them; copy; max, min. -/
namespace Go.Ev
variable {P : Program}

/-- A new block that is neither row, variable nor map. -/
theorem add_other {s : St} (hs : WF s) (o : Obj) (x : Blk) (hx : RB (s.add o x) s.H.length x) : Evo s (s.add o x) ∧ WF (s.add o x) := ⟨Evo.add s hs o x, WF.add hs o x hx⟩

theorem iter_start {es : Array MapEntry} {clock n : Nat} (hn : n = es.size) : IterInv es clock (0 :: List.range n) clock #[] clock := by
  refine ⟨rfl, rfl, List.nodup_range, fun j hj => by simpa [hn] using hj, fun j e he => ?_, fun j h => by simp at h⟩
  have := (Array.getElem?_eq_some_iff.1 he).1
  simp [hn, this]

theorem range_ok {s : St} (hs : WF s) {t : TypeId} {x : AV} {v : Value} {r : AV × Heap} (hx : RA s x v) (h : evRange P t x s.H = some r) : Sim P s (Instr.range t v) r.1 r.2 := by
  unfold evRange at h
  simp only [Option.bind_eq_some_iff] at h
  obtain ⟨⟨k, e, kk⟩, ht, h⟩ := h
  obtain ⟨hu, hkk⟩ := tmap_run ht
  have fin : ∀ (b : Blk) (o : Obj), kd (s.H ++ [b]) s.H.length = some (.oth false) → RB (s.add o b) s.H.length b → (Instr.range t v).run P s.w = .ok (.pointer (some ⟨s.w.heap.size, 0, none⟩)) (s.w.alloc o) → Sim P s (Instr.range t v) (.it s.H.length) (s.H ++ [b]) := by
    intro b o h1 h2 h3
    obtain ⟨k1, k2⟩ := add_other hs o b h2
    refine ⟨_, s.add o b, h3, rfl, k1, k2, ?_⟩
    simp only [RA]
    exact ⟨h1, by simp [St.add]⟩
  split at h
  · cases h
    simp only [RA, RP] at hx
    subst hx
    refine fin _ (.mapIter none 0 #[] 0) (by simp [kd]) ?_ ?_
    · simp only [RB]
      exact ⟨none, 0, #[], 0, by simp only [St.add, if_true]; exact heap_alloc_at s.w _, .inl (by simp)⟩
    · simp [Instr.range, run_underlying' hu]
  · rename_i ks vs
    cases h
    simp only [RA, RP] at hx
    obtain ⟨m, es, clock, rfl, hz, hh, h1, h2, h3⟩ := hx
    have hl := RPs_length h1
    simp at hl
    refine fin _ (.mapIter (some m) clock #[] clock) (by simp [kd]) ?_ ?_
    · simp only [RB]
      refine ⟨some m, clock, #[], clock, by simp only [St.add, if_true]; exact heap_alloc_at s.w _, .inr ⟨m, es, clock, rfl, hz, ?_, h3, ?_, ?_, iter_start hl.symm⟩⟩
      · exact (heap_alloc_lt s.w _ (hs.zb m hz)).trans hh
      · exact RPs_mono (Evo.add s hs _ _).Zm (hs.zkeep (Evo.add s hs _ _)) _ _ h1
      · exact RPs_mono (Evo.add s hs _ _).Zm (hs.zkeep (Evo.add s hs _ _)) _ _ h2
    · simp [Instr.range, run_underlying' hu, run_getMap hh, -run_newObj]
  · rename_i b
    split at h
    · rename_i l g ks vs hb
      cases h
      simp only [RA] at hx
      obtain ⟨_, rfl⟩ := hx
      have hB := hs.blk b _ hb
      simp only [RB] at hB
      obtain ⟨es, clock, hh, h1, h2, h3, _⟩ := hB
      have hl := RPs_length h1
      simp at hl
      have hlt := kd_lt (kd_of_map hb)
      have hne : b ≠ s.H.length := by omega
      refine fin _ (.mapIter (some (s.ι b)) clock #[] clock) (by simp [kd]) ?_ ?_
      · simp only [RB]
        refine ⟨clock, #[], clock, g, by simp only [St.add, if_true, if_neg hne]; exact heap_alloc_at s.w _, kd_append (kd_of_map hb), Nat.le_refl _, fun _ => ⟨es, clock, ?_, iter_start hl.symm⟩⟩
        simp only [St.add, if_neg hne]
        exact (heap_alloc_lt s.w _ (hs.bnd b hlt)).trans hh
      · simp [Instr.range, run_underlying' hu, run_getMap hh, -run_newObj]
    · cases h
  · cases h

/-- What 'next' does of a map's iterator. -/
theorem run_next {w : World} {r m : Nat} {es : Array MapEntry} {clock : Nat} {since : Nat} {seen : Array Nat} {stepped : Nat} {todo : List Nat} (ty : TypeId) (hr : w.heap[r]? = some (.mapIter (some m) since seen stepped)) (hm : w.heap[m]? = some (.map es clock))
    (hb : Births es clock) (hi : IterInv es clock todo since seen stepped) :
    (todo.tail = [] ∧ ∃ w', (w' = w ∨ w' = w.drew) ∧ (Instr.next (.pointer (some ⟨r, 0, none⟩)) false ty).run P w = .ok (.tuple #[.bool false]) w') ∨
    ∃ j e w', (w' = w ∨ w' = w.drew) ∧ j ∈ todo.tail ∧ es[j]? = some e ∧ (Instr.next (.pointer (some ⟨r, 0, none⟩)) false ty).run P w = .ok (.tuple #[.bool true, e.key, e.val]) (World.putMap w' r (.mapIter (some m) since (seen.push e.born) clock)) ∧
      IterInv es clock ((j + 1) :: todo.tail.erase j) since (seen.push e.born) clock := by
  obtain ⟨rfl, rfl, hn, hlt, hiff, _⟩ := hi
  generalize todo.tail = todo at *
  have hg1 : (getObj r).run P w = .ok (.mapIter (some m) stepped seen stepped) w := by simp [getObj, Sem.run, hr]
  have hg2 := run_getMap (P := P) hm
  have hold : ∀ e ∈ es.filter (fun e => !seen.contains e.born), e.born < stepped := by
    intro e he
    obtain ⟨j, hj⟩ := Array.mem_iff_getElem?.1 (Array.mem_filter.1 he).1
    exact hb.1 j e hj
  have hold' : (es.filter (fun e => !seen.contains e.born)).filter (fun e => decide (e.born < stepped)) = es.filter (fun e => !seen.contains e.born) := by
    rw [Array.filter_eq_self]; intro e he; simpa using hold e he
  have hnew : (es.filter (fun e => !seen.contains e.born)).filter (fun e => decide (e.born ≥ stepped)) = #[] := by
    rw [Array.filter_eq_empty_iff]; intro e he; have := hold e he; simp; omega
  have hguard : (!seen.isEmpty && !es.isEmpty && es.all (fun x => decide (x.born ≥ stepped))) = false := by
    cases he : es.isEmpty with
    | true => simp
    | false =>
      have h0 : 0 < es.size := by
        rcases Nat.eq_zero_or_pos es.size with h | h
        · have : es = #[] := Array.eq_empty_of_size_eq_zero h
          subst this; simp at he
        · exact h
      have hb0 := hb.1 0 es[0] (by simp [h0])
      have : es.all (fun x => decide (x.born ≥ stepped)) = false := by
        rw [Bool.eq_false_iff]
        intro hall
        rw [Array.all_eq_true] at hall
        have := hall 0 h0
        simp at this
        omega
      simp [this]
  generalize hL : es.filter (fun e => !seen.contains e.born) = L at hold hold' hnew
  have hLm : ∀ e ∈ L, ∃ j, es[j]? = some e ∧ j ∈ todo := by
    intro e he
    rw [← hL] at he
    obtain ⟨h1, h2⟩ := Array.mem_filter.1 he
    obtain ⟨j, hj⟩ := Array.mem_iff_getElem?.1 h1
    exact ⟨j, hj, (hiff j e hj).2 (by simpa using h2)⟩
  by_cases hemp : L = #[]
  · left
    have htodo : todo = [] := by
      rw [List.eq_nil_iff_forall_not_mem]
      intro j hj
      have hj' := hlt j hj
      have h1 : es[j]? = some es[j] := by simp [hj']
      have h2 := (hiff j _ h1).1 hj
      have h3 : es[j] ∈ L := by rw [← hL, Array.mem_filter]; exact ⟨by simp, by simpa using h2⟩
      rw [hemp] at h3
      simp at h3
    refine ⟨htodo, w, .inl rfl, ?_⟩
    simp only [Instr.next, Sem.run_bind, hg1, Result.andThen_ok, hg2, hguard, Bool.false_eq_true, if_false, hL, hold', hnew]
    subst hemp
    simp [Question.forced]
  · right
    have hne : L.isEmpty = false := by
      cases h : L.isEmpty with
      | true => exact absurd (Array.isEmpty_iff.1 h) hemp
      | false => rfl
    have hsz : 0 < L.size := by
      rcases Nat.eq_zero_or_pos L.size with h | h
      · exact absurd (Array.eq_empty_of_size_eq_zero h) hemp
      · exact h
    have hch : ∃ i w', (w' = w ∨ w' = w.drew) ∧ i < L.size ∧ (choose (.mapNext L.size)).run P w = .ok i w' := by
      rw [run_choose_drew]
      split
      · exact ⟨0, w, .inl rfl, hsz, rfl⟩
      · exact ⟨_, w.drew, .inr rfl, Nat.mod_lt _ hsz, rfl⟩
    obtain ⟨i, w', hw', hi, hrun⟩ := hch
    obtain ⟨j, hj, hjt⟩ := hLm L[i] (by simp)
    refine ⟨j, L[i], w', hw', hjt, hj, ?_, rfl, rfl, hn.erase j, fun j' h => hlt j' (List.mem_of_mem_erase h), fun j' e' he' => ?_, fun j' h => ?_⟩
    · have hset : ∀ o, (setObj r o).run P w' = .ok () (World.putMap w' r o) := by
        intro o
        have : w'.heap[r]? = some (.mapIter (some m) stepped seen stepped) := by rcases hw' with rfl | rfl <;> exact hr
        simp [setObj, Sem.run, this, World.putMap]
      simp only [Instr.next, Sem.run_bind, hg1, Result.andThen_ok, hg2, hguard, Bool.false_eq_true, if_false, hL, hold', hnew, hne]
      simp only [Array.append_empty, Array.empty_append, Array.size_map, hrun, Result.andThen_ok]
      have h5 : (L.map some)[i]? = some (some L[i]) := by simp [hi]
      simp only [h5, Sem.run_bind, hset, Result.andThen_ok, Sem.run_pure]
    · rw [List.tail_cons, hn.mem_erase_iff, hiff j' e' he']
      simp only [Array.contains_push, Bool.or_eq_false_iff, beq_eq_false_iff_ne, ne_eq]
      constructor
      · rintro ⟨h1, h2⟩
        exact ⟨h2, fun h3 => h1 (hb.2 j' j e' L[i] he' hj h3)⟩
      · rintro ⟨h2, h3⟩
        refine ⟨?_, h2⟩
        rintro rfl
        rw [hj] at he'
        cases he'
        exact h3 rfl
    · simp only [List.head?_cons, Option.some.injEq, Nat.add_right_cancel_iff] at h
      subst h
      exact ⟨L[i], hj, by simp⟩

end Go.Ev
end
section
/- THE NEXT OF A MAP; copy; max, min. -/
namespace Go.Ev
variable {P : Program}

/-- An operation that ends in one of the ways that the evaluator goes on with. -/
def Ends (P : Program) (s : St) (m : Sem Value) (k : AV → Heap → Prop) : Prop := ∃ av H', Sim P s m av H' ∧ k av H'

theorem Sim.ends {s : St} {m : Sem Value} {av : AV} {H' : Heap} {k : AV → Heap → Prop} (h : Sim P s m av H') (hk : k av H') : Ends P s m k := ⟨av, H', h, hk⟩

theorem drewOr {s : St} (hs : WF s) {w' : World} (h : w' = s.w ∨ w' = s.w.drew) : Evo s (s.withW w') ∧ WF (s.withW w') := by
  rcases h with rfl | rfl
  · exact ⟨Evo.withW s _ rfl rfl rfl rfl, hs.withW _ rfl rfl rfl rfl⟩
  · exact ⟨Evo.withW s _ rfl rfl rfl rfl, hs.withW _ rfl rfl rfl rfl⟩

theorem tup_false (s : St) : RA s (.p (.tup [.bool false])) (.tuple #[.bool false]) := by
  simp only [RA, RP]; exact ⟨[.bool false], rfl, by simp only [RPs]; exact ⟨_, _, rfl, by simp only [RP], rfl⟩⟩
theorem tup_three {s : St} {a : PV} {x : AV} {k v : Value} (hk : RP s.w s.Z a k) (hv : RA s x v) : RA s (mkTup [.p (.bool true), .p a, x]) (.tuple #[.bool true, k, v]) := by
  refine RA_mkTup ?_
  simp only [RA]
  refine ⟨[.bool true, k, v], rfl, ?_⟩
  simp only [RAs]
  exact ⟨_, _, rfl, by simp only [RA, RP], _, _, rfl, by simpa only [RA] using hk, _, _, rfl, hv, rfl⟩

theorem next_ok {s : St} (hs : WF s) {c : Nat} {r : List PV × List AV × List Nat × (List Nat → Heap)} {v : Value} {ty : TypeId} (hx : RA s (.it c) v) (hr : iterOf s.H c = some r) {k : AV → Heap → Prop} (hk : nextK s.H r k) :
    Ends P s (Instr.next v false ty) k := by
  simp only [RA] at hx
  obtain ⟨hkd, rfl⟩ := hx
  unfold iterOf at hr
  split at hr
  · rename_i ks vs todo hc
    cases hr
    obtain ⟨hk1, hk2⟩ := hk
    have hB := hs.blk c _ hc
    simp only [RB] at hB
    obtain ⟨mo, since, seen, stepped, h1, h2⟩ := hB
    rcases h2 with ⟨rfl, rfl, rfl, rfl⟩ | ⟨m, es, clock, rfl, hz, hm, hb, hks, hvs, hit⟩
    · refine Sim.ends (Sim.same hs (v := .tuple #[.bool false]) ?_ (tup_false s)) (hk1 rfl)
      simp [Instr.next, getObj, Sem.run, h1]
    · rcases run_next (P := P) ty h1 hm hb hit with ⟨ht, w', hw', hrun⟩ | ⟨j, e, w', hw', hj, he, hrun, hinv⟩
      · obtain ⟨e1, e2⟩ := drewOr hs hw'
        exact Sim.ends ⟨_, s.withW w', hrun, rfl, e1, e2, tup_false _⟩ (hk1 ht)
      · obtain ⟨e1, e2⟩ := drewOr hs hw'
        have hk3 := hk2 j hj
        have he' : e.key = e.key := rfl
        cases hkj : ks[j]? with
        | none => rw [hkj] at hk3; exact hk3.elim
        | some a =>
          rw [hkj, oK_some] at hk3
          cases hvj : (vs.map AV.p)[j]? with
          | none => rw [hvj] at hk3; exact hk3.elim
          | some x =>
            rw [hvj, oK_some] at hk3
            have hlv : live (s.withW w').H c := by simp only [St.withW, live, hc]
            have hcm : m ≠ s.ι c := by rintro rfl; exact hs.zl c (by simp only [live, hc]) hz
            have rw0 : Rewrites (s.withW w') c (.fit ks vs ((j + 1) :: todo.tail.erase j)) (World.putMap (s.withW w').w ((s.withW w').ι c) (.mapIter (some m) since (seen.push e.born) clock)) := putMap_rw hlv
            have hkf : KdFits (s.withW w') c (.fit ks vs ((j + 1) :: todo.tail.erase j)) (World.putMap (s.withW w').w ((s.withW w').ι c) (.mapIter (some m) since (seen.push e.born) clock)) := by
              unfold KdFits; simp only [St.withW, hkd]
            have ev := Evo.put e2 rw0 hkf
            have hww : ∀ k : Nat, w'.heap[k]? = s.w.heap[k]? := by rcases hw' with rfl | rfl <;> exact fun _ => rfl
            have evt := e1.trans ev
            refine Sim.ends ⟨_, (s.withW w').put c (.fit ks vs ((j + 1) :: todo.tail.erase j)) _, hrun, rfl, evt, WF.put e2 rw0 hkf ?_, ?_⟩ hk3
            · simp only [RB]
              refine ⟨some m, since, _, clock, putMap_at ((hww _).trans h1), .inr ⟨m, es, clock, rfl, hz, ?_, hb, RPs_mono evt.Zm (hs.zkeep evt) _ _ hks, RPs_mono evt.Zm (hs.zkeep evt) _ _ hvs, hinv⟩⟩
              exact (putMap_ne hcm).trans ((hww m).trans hm)
            · obtain ⟨c1, q1, q2⟩ := RPs_get hks hkj
              obtain ⟨c2, q3, q4⟩ := RAs_get (RAs_map_p.2 hvs : RAs s _ _) hvj
              simp only [List.getElem?_map, Array.getElem?_toList, he, Option.map_some, Option.some.injEq] at q1 q3
              subst q1; subst q3
              exact tup_three (RP_mono evt.Zm (hs.zkeep evt) _ _ q2) (RA_mono hs evt _ _ q4)
  · rename_i b g todo hc
    split at hr
    · rename_i l g' ks vs hbm
      split at hr
      · rename_i hg
        cases hr
        obtain ⟨hk1, hk2⟩ := hk
        have hB := hs.blk c _ hc
        simp only [RB] at hB
        obtain ⟨since, seen, stepped, g0, h1, h2, h3, h4⟩ := hB
        rw [kd_of_map hbm] at h2
        simp only [Option.some.injEq, Kd.map.injEq] at h2
        obtain ⟨es, clock, hm, hit⟩ := h4 (by omega)
        have hB2 := hs.blk b _ hbm
        simp only [RB] at hB2
        obtain ⟨es', clock', hm', hks, hvs, hb, _⟩ := hB2
        rw [hm] at hm'
        simp only [Option.some.injEq, Obj.map.injEq] at hm'
        obtain ⟨rfl, rfl⟩ := hm'
        rcases run_next (P := P) ty h1 hm hb hit with ⟨ht, w', hw', hrun⟩ | ⟨j, e, w', hw', hj, he, hrun, hinv⟩
        · obtain ⟨e1, e2⟩ := drewOr hs hw'
          exact Sim.ends ⟨_, s.withW w', hrun, rfl, e1, e2, tup_false _⟩ (hk1 ht)
        · obtain ⟨e1, e2⟩ := drewOr hs hw'
          have hk3 := hk2 j hj
          cases hkj : ks[j]? with
          | none => rw [hkj] at hk3; exact hk3.elim
          | some a =>
            rw [hkj, oK_some] at hk3
            cases hvj : vs[j]? with
            | none => rw [hvj] at hk3; exact hk3.elim
            | some x =>
              rw [hvj, oK_some] at hk3
              have hlv : live (s.withW w').H c := by simp only [St.withW, live, hc]
              have hbc : b ≠ c := by rintro rfl; rw [hbm] at hc; cases hc
              have hcm : s.ι b ≠ s.ι c := fun e' => hbc (hs.inj b c (kd_lt (kd_of_map hbm)) (kd_lt hkd) e')
              have rw0 : Rewrites (s.withW w') c (.mit b g ((j + 1) :: todo.tail.erase j)) (World.putMap (s.withW w').w ((s.withW w').ι c) (.mapIter (some (s.ι b)) since (seen.push e.born) clock)) := putMap_rw hlv
              have hkf : KdFits (s.withW w') c (.mit b g ((j + 1) :: todo.tail.erase j)) (World.putMap (s.withW w').w ((s.withW w').ι c) (.mapIter (some (s.ι b)) since (seen.push e.born) clock)) := by
                unfold KdFits; simp only [St.withW, hkd]
              have ev := Evo.put e2 rw0 hkf
              have hww : ∀ k : Nat, w'.heap[k]? = s.w.heap[k]? := by rcases hw' with rfl | rfl <;> exact fun _ => rfl
              have evt := e1.trans ev
              refine Sim.ends ⟨_, (s.withW w').put c (.mit b g ((j + 1) :: todo.tail.erase j)) _, hrun, rfl, evt, WF.put e2 rw0 hkf ?_, ?_⟩ hk3
              · simp only [RB]
                refine ⟨since, _, clock, g', putMap_at ((hww _).trans h1), ?_, by omega, fun _ => ⟨es, clock, ?_, hinv⟩⟩
                · exact (kd_set_ne _ hbc).trans (kd_of_map hbm)
                · exact (putMap_ne hcm).trans ((hww (s.ι b)).trans hm)
              · obtain ⟨c1, q1, q2⟩ := RPs_get hks hkj
                obtain ⟨c2, q3, q4⟩ := RAs_get hvs hvj
                simp only [List.getElem?_map, Array.getElem?_toList, he, Option.map_some, Option.some.injEq] at q1 q3
                subst q1; subst q3
                exact tup_three (RP_mono evt.Zm (hs.zkeep evt) _ _ q2) (RA_mono hs evt _ _ q4)
      · cases hr
    · cases hr
  · cases hr

/-- What 'entry' reads of a map's iterator. -/
theorem run_entry {w : World} {r m : Nat} {es : Array MapEntry} {clock : Nat} {since : Nat} {seen : Array Nat} {stepped : Nat} {todo : List Nat} (hr : w.heap[r]? = some (.mapIter (some m) since seen stepped)) (hm : w.heap[m]? = some (.map es clock))
    (hb : Births es clock) (hi : IterInv es clock todo since seen stepped) {j : Nat} (hj : todo.head? = some (j + 1)) :
    ∃ e, es[j]? = some e ∧ (Instr.entry (.pointer (some ⟨r, 0, none⟩))).run P w = .ok (.tuple #[e.key, e.val]) w := by
  obtain ⟨rfl, rfl, _, _, _, hl⟩ := hi
  obtain ⟨e, he, hback⟩ := hl j hj
  refine ⟨e, he, ?_⟩
  have hg1 : (getObj r).run P w = .ok (.mapIter (some m) stepped seen stepped) w := by simp [getObj, Sem.run, hr]
  have hg2 := run_getMap (P := P) hm
  have hf : es.find? (fun x => x.born == e.born) = some e := by
    have hjl := (Array.getElem?_eq_some_iff.1 he).1
    rw [Array.find?_eq_some_iff_getElem]
    refine ⟨by simp, j, hjl, (Array.getElem?_eq_some_iff.1 he).2, fun k hk => ?_⟩
    have hkl : k < es.size := by omega
    have h1 : es[k]? = some es[k] := by simp [hkl]
    by_cases hbb : es[k].born = e.born
    · have := hb.2 k j es[k] e h1 he hbb
      omega
    · simpa using hbb
  simp only [Instr.entry, Sem.run_bind, hg1, Result.andThen_ok, hback, hg2, bne_self_eq_false, Bool.false_eq_true, if_false, hf, Sem.run_pure]
theorem tup_two {s : St} {a : PV} {x : AV} {k v : Value} (hk : RP s.w s.Z a k) (hv : RA s x v) : RA s (mkTup [.p a, x]) (.tuple #[k, v]) := by
  refine RA_mkTup ?_
  simp only [RA]
  refine ⟨[k, v], rfl, ?_⟩
  simp only [RAs]
  exact ⟨_, _, rfl, by simpa only [RA] using hk, _, _, rfl, hv, rfl⟩
theorem entry_ok {s : St} (hs : WF s) {c : Nat} {r : PV × AV} {v : Value} (hx : RA s (.it c) v) (hr : entOf s.H c = some r) :
    Sim P s (Instr.entry v) (mkTup [.p r.1, r.2]) s.H := by
  simp only [RA] at hx
  obtain ⟨hkd, rfl⟩ := hx
  unfold entOf at hr
  split at hr
  · rename_i ks vs j rest hc
    have hB := hs.blk c _ hc
    simp only [RB] at hB
    obtain ⟨mo, since, seen, stepped, h1, h2⟩ := hB
    rcases h2 with ⟨_, _, _, h⟩ | ⟨m, es, clock, rfl, hz, hm, hb, hks, hvs, hit⟩
    · cases h
    · obtain ⟨e, he, hrun⟩ := run_entry (P := P) h1 hm hb hit rfl
      simp only [Option.bind_eq_some_iff, Option.map_eq_some_iff] at hr
      obtain ⟨a, hkj, x, hvj, rfl⟩ := hr
      obtain ⟨c1, q1, q2⟩ := RPs_get hks hkj
      obtain ⟨c2, q3, q4⟩ := RPs_get hvs hvj
      simp only [List.getElem?_map, Array.getElem?_toList, he, Option.map_some, Option.some.injEq] at q1 q3
      subst q1; subst q3
      exact Sim.same hs hrun (tup_two q2 (by simpa only [RA] using q4))
  · rename_i b g j rest hc
    split at hr
    · rename_i l g' ks vs hbm
      split at hr
      · rename_i hg
        have hB := hs.blk c _ hc
        simp only [RB] at hB
        obtain ⟨since, seen, stepped, g0, h1, h2, h3, h4⟩ := hB
        rw [kd_of_map hbm] at h2
        simp only [Option.some.injEq, Kd.map.injEq] at h2
        obtain ⟨es, clock, hm, hit⟩ := h4 (by omega)
        have hB2 := hs.blk b _ hbm
        simp only [RB] at hB2
        obtain ⟨es', clock', hm', hks, hvs, hb, _⟩ := hB2
        rw [hm] at hm'
        simp only [Option.some.injEq, Obj.map.injEq] at hm'
        obtain ⟨rfl, rfl⟩ := hm'
        obtain ⟨e, he, hrun⟩ := run_entry (P := P) h1 hm hb hit rfl
        simp only [Option.bind_eq_some_iff, Option.map_eq_some_iff] at hr
        obtain ⟨a, hkj, x, hvj, rfl⟩ := hr
        obtain ⟨c1, q1, q2⟩ := RPs_get hks hkj
        obtain ⟨c2, q3, q4⟩ := RAs_get hvs hvj
        simp only [List.getElem?_map, Array.getElem?_toList, he, Option.map_some, Option.some.injEq] at q1 q3
        subst q1; subst q3
        exact Sim.same hs hrun (tup_two q2 q4)
      · cases hr
    · cases hr
  · cases hr

/-! copy -/
theorem copy_ok {s : St} (hs : WF s) {t u ty : TypeId} {d x : AV} {vd vx : Value} {r : AV × Heap} (hd : RA s d vd) (hx : RA s x vx) (h : evCopy P t d x s.H = some r) : Sim P s (Builtin.copy_ #[t, u] ty #[vd, vx]) r.1 r.2 := by
  unfold evCopy at h
  simp only [Option.bind_eq_some_iff] at h
  obtain ⟨⟨e, sh⟩, he, ys, hys, h⟩ := h
  dsimp only at hys h
  obtain ⟨hut, hsh⟩ := telem_run he
  obtain ⟨news, h1, h2, h3, h4, h5⟩ := elems_src (P := P) hs hx hys
  split at h
  · rename_i b g off len ex
    split at h
    · rename_i g' sh' xs hb
      split at h
      · rename_i hc
        obtain ⟨rfl, rfl, hlen⟩ := hc
        cases h
        simp only [RA] at hd
        obtain ⟨a, cap, g0, sh0, rfl, hk, hle, hd⟩ := hd
        have hk0 := kd_of_arr hb
        rw [hk0] at hk
        simp only [Option.some.injEq, Kd.arr.injEq] at hk
        obtain ⟨rfl, rfl⟩ := hk
        obtain ⟨⟨o, rfl, ho⟩, q2, q3, _⟩ := hd rfl
        have hB := hs.blk b _ hb
        simp only [RB] at hB
        obtain ⟨c, et, lo, hi, hcell, hfr, hm, hxl, _⟩ := hB
        have hn : Nat.min ys.length len = min ys.length len := rfl
        generalize hq : min ys.length len = n at hn
        have hn1 : n ≤ ys.length := by omega
        have hn2 : n ≤ len := by omega
        have hcs := h5 n s.w hn1 rfl
        have hLl : (news.take (n * stride sh')).length = n * stride sh' := by
          rw [List.length_take, h1]
          have := Nat.mul_le_mul_right (stride sh') hn1
          omega
        generalize hL : news.take (n * stride sh') = L at hcs hLl
        have hpos : L ≠ [] → cap ≠ 0 := by
          rintro hn0 hc0
          have : n = 0 := by omega
          rw [this] at hLl
          simp at hLl
          exact hn0 hLl
        have hbnd : off * stride sh' + n * stride sh' ≤ xs.length * stride sh' := by rw [← Nat.add_mul]; exact Nat.mul_le_mul_right _ (by omega)
        have hw1 : ∀ j, j < L.length → o + j < c.size := by
          intro j hj
          have hoe := ho.resolve_right (hpos (by rintro rfl; simp at hj))
          omega
        have hone : ∀ v ∈ L, v.oneCell' = true := fun v hv => h3 v (by rw [← hL] at hv; exact List.mem_of_mem_take hv)
        have hst := run_storeCells_cells (P := P) (s.ι b) o L 0 s.w
          (by
            intro j hj
            simp only [World.cell?, hcell]
            simpa using hw1 j hj)
          (by
            intro j hj
            simp only [World.frozen?, hcell]
            have := hfr (o + j)
            simp only [Bool.and_eq_false_imp, decide_eq_true_eq, decide_eq_false_iff_not]
            intro q q2
            exact this ⟨by omega, by omega⟩) hone
        rw [Nat.add_zero] at hst
        have hrest := setCells_rest (s.ι b) L o s.w
        have hat := heap_setCells_at (s.ι b) et (lo, hi) L o s.w _ hcell
        have hcsz : csize (s.w.setCells (s.ι b) o L) (s.ι b) = csize s.w (s.ι b) := by
          simp only [csize, hat, hcell]; simp [setR_length]
        have hlv : live s.H b := by simp [live, hb]
        have r : Rewrites s b (.arr true g' sh' (setR xs off (ys.take len))) (s.w.setCells (s.ι b) o L) :=
          ⟨live_lt hlv, hlv, hrest.1, fun k hk => heap_setCells_ne _ k hk _ _ _, hrest.2.1, hrest.2.2.1, hrest.2.2.2⟩
        have hkf : KdFits s b (.arr true g' sh' (setR xs off (ys.take len))) (s.w.setCells (s.ι b) o L) := by
          unfold KdFits; rw [hk0]; exact ⟨Nat.le_refl _, rfl, fun _ => hcsz⟩
        have ev := Evo.put hs r hkf
        refine ⟨.int .i64 n, s.put b _ _, ?_, rfl, ev, WF.put hs r hkf ?_, by simp only [RA, RP, hq]⟩
        · simp only [Builtin.copy_, List.getElem?_toArray, List.getElem?_cons_zero, List.getElem?_cons_succ, Sem.run_bind, run_underlying' hut, Result.andThen_ok, h4, tsh_size hsh, Sem.run_pure, hn, hq, hcs, hst, goInt]
          rfl
        · simp only [RB]
          refine ⟨_, et, lo, hi, hat, ?_, ?_, ?_, fun h => by cases h⟩
          · exact hfr
          · have hRm := RM_iff.1 hm
            refine RM_iff.2 fun i x hxi => ?_
            rw [setR_get] at hxi
            have hcell' : ∀ k v, (setR c.toList o L)[k]? = some v → (s.w.setCells (s.ι b) o L).cell? ⟨s.ι b, k, none⟩ = some v := by
              intro k v hv
              simp only [World.cell?, hat]
              simpa using hv
            have htk : (ys.take len).length = n := by simp; omega
            rw [htk] at hxi
            split at hxi
            · rename_i hio
              have hxi' : ys[i - off]? = some x := by rw [List.getElem?_take] at hxi; rw [if_pos (by omega)] at hxi; exact hxi
              obtain ⟨z0, u, z1, z2, z3⟩ := h2 _ _ hxi'
              have hus := cells_stride z1 z2
              refine ⟨z0, u, RP_mono ev.Zm (hs.zkeep ev) _ _ z1, z2, fun j v hv => ?_⟩
              have hj := (List.getElem?_eq_some_iff.1 hv).1
              simp [hus] at hj
              have hoe := ho.resolve_right (by omega)
              show (s.w.setCells (s.ι b) o L).cell? ⟨s.ι b, s.β b + i * stride sh' + j, none⟩ = some v
              refine hcell' _ _ ?_
              have hmul : i * stride sh' = off * stride sh' + (i - off) * stride sh' := by rw [← Nat.add_mul]; congr 1; omega
              have hlt2 : (i - off) * stride sh' + stride sh' ≤ n * stride sh' := by
                have := Nat.mul_le_mul_right (stride sh') (show i - off + 1 ≤ n by omega)
                rwa [Nat.succ_mul] at this
              rw [setR_get, if_pos (by simp only [Array.length_toList]; omega)]
              rw [show s.β b + i * stride sh' + j - o = (i - off) * stride sh' + j by omega]
              rw [← hL, List.getElem?_take, if_pos (by omega)]
              exact z3 j v hv
            · rename_i hio
              obtain ⟨z0, u, z1, z2, z3⟩ := hRm i x hxi
              have hus := cells_stride z1 z2
              refine ⟨z0, u, RP_mono ev.Zm (hs.zkeep ev) _ _ z1, z2, fun j v hv => ?_⟩
              have hj := (List.getElem?_eq_some_iff.1 hv).1
              simp [hus] at hj
              have hil := (List.getElem?_eq_some_iff.1 hxi).1
              show (s.w.setCells (s.ι b) o L).cell? ⟨s.ι b, s.β b + i * stride sh' + j, none⟩ = some v
              refine hcell' _ _ ?_
              have hold := cellsAt_cells hcell z3 j v hv
              rw [setR_get, if_neg, Array.getElem?_toList]
              · exact hold
              · rintro ⟨p1, p2, _⟩
                have hoe := ho.resolve_right (hpos (by rintro rfl; simp at p2; omega))
                have hsep : i < off ∨ off + n ≤ i := by omega
                rcases hsep with h9 | h9
                · have := Nat.mul_le_mul_right (stride sh') (show i + 1 ≤ off by omega)
                  rw [Nat.succ_mul] at this
                  omega
                · have := Nat.mul_le_mul_right (stride sh') h9
                  rw [Nat.add_mul] at this
                  omega
          · simpa [setR_length, St.put] using hxl
      · cases h
    · cases h
  · cases h
    simp only [RA] at hd
    subst hd
    refine Sim.same hs (v := .int .i64 0) ?_ (by simp only [RA, RP])
    have := h5 0 s.w (Nat.zero_le _) rfl
    simp only [Builtin.copy_, List.getElem?_toArray, List.getElem?_cons_zero, List.getElem?_cons_succ, Sem.run_bind, run_underlying' hut, Result.andThen_ok, h4, tsh_size hsh, Sem.run_pure, show Nat.min ys.length 0 = 0 from Nat.min_zero _, this, goInt]
    rfl
  · cases h

/-! max, min -/
theorem max_fold {s : St} : ∀ {xs : List AV} {vs : List Value} {k j : IntKind} {a b : Int}, intsMax xs = some (k, b) → RAs s xs vs → j = k →
    (vs.foldlM Builtin.max2 (.int j a)).run P s.w = .ok (.int j (max a b)) s.w
  | [], vs, k, j, a, b, h, _, _ => by simp [intsMax] at h
  | x :: xs, vs, k, j, a, b, h, hr, hj => by
    simp only [RAs] at hr
    obtain ⟨v, r, rfl, h1, h2⟩ := hr
    have step : ∀ (k' : IntKind) (c : Int), v = .int k' c → (Builtin.max2 (.int j a) v).run P s.w = .ok (.int j (max a c)) s.w := by
      rintro k' c rfl
      simp only [Builtin.max2, Sem.run_pure]
      congr 2
      rw [Int.max_def]
      split <;> split <;> omega
    cases xs with
    | nil =>
      simp only [RAs] at h2
      subst h2
      unfold intsMax at h
      split at h
      · rename_i k0 a0 heq
        cases heq; cases h
        simp only [RA, RP] at h1
        simp only [List.foldlM_cons, List.foldlM_nil, Sem.run_bind, step _ _ h1, Result.andThen_ok, Sem.run_pure]
      · rename_i k0 a0 r0 hne heq
        cases heq
        simp [intsMax] at h
      · cases h
    | cons y ys =>
      unfold intsMax at h
      split at h
      · rename_i heq; cases heq
      · rename_i k0 a0 r0 _ heq
        cases heq
        split at h
        · rename_i k' b' hb
          split at h
          · rename_i hkk
            cases h
            simp only [RA, RP] at h1
            have := max_fold (j := j) (a := max a a0) hb h2 (by rw [hj, hkk])
            simp only [List.foldlM_cons, Sem.run_bind, step _ _ h1, Result.andThen_ok, this]
            congr 2
            omega
          · cases h
        · cases h
      · cases h

theorem clearS_ok {s : St} (hs : WF s) {t ty : TypeId} {ts : Array TypeId} (hts : ts[0]? = some t) {m : AV} {vm : Value} {H' : Heap} (hm0 : RA s m vm) (h : evClearS P t m s.H = some H') :
    Sim P s (Builtin.clear_ ts ty #[vm]) (.p (.tup [])) H' := by
  unfold evClearS at h
  simp only [Option.bind_eq_some_iff] at h
  obtain ⟨⟨e, sh⟩, he, z, hz, y, hy, h⟩ := h
  dsimp only at hz hy h
  obtain ⟨hut, hsh⟩ := telem_run he
  split at h
  · rename_i hys
    split at h
    · rename_i b g off n ex
      split at h
      · rename_i g' sh' xs hb
        split at h
        · rename_i hc
          obtain ⟨rfl, hsh2, hlen, hl0⟩ := hc
          obtain ⟨hys, hids⟩ := hys
          subst hsh2
          cases h
          obtain ⟨v, hv, hR, hst0⟩ := zero_elem hs hz hy hids
          have hvs : vshape v = sh' := by rw [RP_shape hR, hys]
          have h2 := Row_zeros (n := n) hR hst0 hvs (n * stride sh') (Nat.le_refl _)
          have hvc := cells_stride hR hvs
          have hone0 : ∀ u ∈ (((Array.range (n * stride sh')).map (v.cells[· % v.cells.size]!)).toList), u.oneCell' = true := by
            intro u hu
            have hRA : RA s (.p y) v := by simpa only [RA] using hR
            have h1 := stor_oneCell hRA hst0
            simp only [Array.toList_map, List.mem_map] at hu
            obtain ⟨i, _, rfl⟩ := hu
            have hpos := stride_pos sh'
            have hlt : i % v.cells.size < v.cells.size := Nat.mod_lt _ (by rw [hvc]; exact hpos)
            rw [getElem!_pos v.cells _ hlt]
            exact h1 _ (by simp)
          have hzc : (((Array.range (n * v.cells.size)).map (v.cells[· % v.cells.size]!)).toList) = (((Array.range (n * stride sh')).map (v.cells[· % v.cells.size]!)).toList) := by rw [hvc]
          have hLl : (((Array.range (n * stride sh')).map (v.cells[· % v.cells.size]!)).toList).length = n * stride sh' := by simp
          generalize (((Array.range (n * stride sh')).map (v.cells[· % v.cells.size]!)).toList) = L at hzc hLl hone0 h2
          simp only [RA] at hm0
          obtain ⟨a, cap, g0, sh0, rfl, hk, hle, hd⟩ := hm0
          have hk0 := kd_of_arr hb
          rw [hk0] at hk
          simp only [Option.some.injEq, Kd.arr.injEq] at hk
          obtain ⟨rfl, rfl⟩ := hk
          obtain ⟨⟨o, rfl, ho⟩, q2, q3, _⟩ := hd rfl
          have hB := hs.blk b _ hb
          simp only [RB] at hB
          obtain ⟨c, et, lo, hi, hcell, hfr, hm, hxl, _⟩ := hB
          have hpos : L ≠ [] → cap ≠ 0 := by
            rintro hn0 hc0
            have : n = 0 := by omega
            rw [this] at hLl
            simp at hLl
            exact hn0 hLl
          have hbnd : off * stride sh' + n * stride sh' ≤ xs.length * stride sh' := by rw [← Nat.add_mul]; exact Nat.mul_le_mul_right _ (by omega)
          have hw1 : ∀ j, j < L.length → o + j < c.size := by
            intro j hj
            have hoe := ho.resolve_right (hpos (by rintro rfl; simp at hj))
            omega
          have hone : ∀ v ∈ L, v.oneCell' = true := hone0
          have hst := run_storeCells_cells (P := P) (s.ι b) o L 0 s.w
            (by
              intro j hj
              simp only [World.cell?, hcell]
              simpa using hw1 j hj)
            (by
              intro j hj
              simp only [World.frozen?, hcell]
              have := hfr (o + j)
              simp only [Bool.and_eq_false_imp, decide_eq_true_eq, decide_eq_false_iff_not]
              intro q q2
              exact this ⟨by omega, by omega⟩) hone
          rw [Nat.add_zero] at hst
          have hrest := setCells_rest (s.ι b) L o s.w
          have hat := heap_setCells_at (s.ι b) et (lo, hi) L o s.w _ hcell
          have hcsz : csize (s.w.setCells (s.ι b) o L) (s.ι b) = csize s.w (s.ι b) := by
            simp only [csize, hat, hcell]; simp [setR_length]
          have hlv : live s.H b := by simp [live, hb]
          have r : Rewrites s b (.arr true g' sh' (setR xs off (List.replicate n y))) (s.w.setCells (s.ι b) o L) :=
            ⟨live_lt hlv, hlv, hrest.1, fun k hk => heap_setCells_ne _ k hk _ _ _, hrest.2.1, hrest.2.2.1, hrest.2.2.2⟩
          have hkf : KdFits s b (.arr true g' sh' (setR xs off (List.replicate n y))) (s.w.setCells (s.ι b) o L) := by
            unfold KdFits; rw [hk0]; exact ⟨Nat.le_refl _, rfl, fun _ => hcsz⟩
          have ev := Evo.put hs r hkf
          refine ⟨.tuple #[], s.put b _ _, ?_, rfl, ev, WF.put hs r hkf ?_, by simp only [RA, RP]; exact ⟨[], rfl, by simp [RPs]⟩⟩
          · have hn0 : n ≠ 0 := hl0
            simp only [Builtin.clear_, hts, List.getElem?_toArray, List.getElem?_cons_zero, Sem.run_bind, run_underlying' hut, Result.andThen_ok]
            cases n with
            | zero => exact absurd rfl hn0
            | succ n' =>
              simp only [Sem.run_bind, run_zeroValue hv, Result.andThen_ok, Builtin.zeroCells, hzc, Sem.run_pure]
              have hst' := hst
              rw [hst']
              rfl
          · simp only [RB]
            refine ⟨_, et, lo, hi, hat, ?_, ?_, ?_, fun h => by cases h⟩
            · exact hfr
            · have hRm := RM_iff.1 hm
              refine RM_iff.2 fun i x hxi => ?_
              rw [setR_get] at hxi
              have hcell' : ∀ k v, (setR c.toList o L)[k]? = some v → (s.w.setCells (s.ι b) o L).cell? ⟨s.ι b, k, none⟩ = some v := by
                intro k v hv
                simp only [World.cell?, hat]
                simpa using hv
              rw [List.length_replicate] at hxi
              split at hxi
              · rename_i hio
                obtain ⟨z0, u, z1, z2, z3⟩ := h2 _ _ hxi
                have hus := cells_stride z1 z2
                refine ⟨z0, u, RP_mono ev.Zm (hs.zkeep ev) _ _ z1, z2, fun j v hv => ?_⟩
                have hj := (List.getElem?_eq_some_iff.1 hv).1
                simp [hus] at hj
                have hoe := ho.resolve_right (by omega)
                show (s.w.setCells (s.ι b) o L).cell? ⟨s.ι b, s.β b + i * stride sh' + j, none⟩ = some v
                refine hcell' _ _ ?_
                have hmul : i * stride sh' = off * stride sh' + (i - off) * stride sh' := by rw [← Nat.add_mul]; congr 1; omega
                have hlt2 : (i - off) * stride sh' + stride sh' ≤ n * stride sh' := by
                  have := Nat.mul_le_mul_right (stride sh') (show i - off + 1 ≤ n by omega)
                  rwa [Nat.succ_mul] at this
                rw [setR_get, if_pos (by simp only [Array.length_toList]; omega)]
                rw [show s.β b + i * stride sh' + j - o = (i - off) * stride sh' + j by omega]
                exact z3 j v hv
              · rename_i hio
                obtain ⟨z0, u, z1, z2, z3⟩ := hRm i x hxi
                have hus := cells_stride z1 z2
                refine ⟨z0, u, RP_mono ev.Zm (hs.zkeep ev) _ _ z1, z2, fun j v hv => ?_⟩
                have hj := (List.getElem?_eq_some_iff.1 hv).1
                simp [hus] at hj
                have hil := (List.getElem?_eq_some_iff.1 hxi).1
                show (s.w.setCells (s.ι b) o L).cell? ⟨s.ι b, s.β b + i * stride sh' + j, none⟩ = some v
                refine hcell' _ _ ?_
                have hold := cellsAt_cells hcell z3 j v hv
                rw [setR_get, if_neg, Array.getElem?_toList]
                · exact hold
                · rintro ⟨p1, p2, _⟩
                  have hoe := ho.resolve_right (hpos (by rintro rfl; simp at p2; omega))
                  have hsep : i < off ∨ off + n ≤ i := by omega
                  rcases hsep with h9 | h9
                  · have := Nat.mul_le_mul_right (stride sh') (show i + 1 ≤ off by omega)
                    rw [Nat.succ_mul] at this
                    omega
                  · have := Nat.mul_le_mul_right (stride sh') h9
                    rw [Nat.add_mul] at this
                    omega
            · simpa [setR_length, St.put] using hxl
        · cases h
      · cases h
    · cases h
  · cases h

end Go.Ev
end
section
/- ONE OPERATION, WITHOUT CALLS OF FUNCTIONS. -/
namespace Go.Ev
variable {P : Program}

theorem min_fold {s : St} : ∀ {xs : List AV} {vs : List Value} {k j : IntKind} {a b : Int}, intsMin xs = some (k, b) → RAs s xs vs → j = k →
    (vs.foldlM Builtin.min2 (.int j a)).run P s.w = .ok (.int j (min a b)) s.w
  | [], vs, k, j, a, b, h, _, _ => by simp [intsMin] at h
  | x :: xs, vs, k, j, a, b, h, hr, hj => by
    simp only [RAs] at hr
    obtain ⟨v, r, rfl, h1, h2⟩ := hr
    have step : ∀ (k' : IntKind) (c : Int), v = .int k' c → (Builtin.min2 (.int j a) v).run P s.w = .ok (.int j (min a c)) s.w := by
      rintro k' c rfl
      simp only [Builtin.min2, Sem.run_pure]
      congr 2
      rw [Int.min_def]
      split <;> split <;> omega
    cases xs with
    | nil =>
      simp only [RAs] at h2
      subst h2
      unfold intsMin at h
      split at h
      · rename_i k0 a0 heq
        cases heq; cases h
        simp only [RA, RP] at h1
        simp only [List.foldlM_cons, List.foldlM_nil, Sem.run_bind, step _ _ h1, Result.andThen_ok, Sem.run_pure]
      · rename_i k0 a0 r0 hne heq
        cases heq
        simp [intsMin] at h
      · cases h
    | cons y ys =>
      unfold intsMin at h
      split at h
      · rename_i heq; cases heq
      · rename_i k0 a0 r0 _ heq
        cases heq
        split at h
        · rename_i k' b' hb
          split at h
          · rename_i hkk
            cases h
            simp only [RA, RP] at h1
            have := min_fold (j := j) (a := min a a0) hb h2 (by rw [hj, hkk])
            simp only [List.foldlM_cons, Sem.run_bind, step _ _ h1, Result.andThen_ok, this]
            congr 2
            omega
          · cases h
        · cases h
      · cases h

theorem max_ok {s : St} (hs : WF s) {ts : Array TypeId} {ty : TypeId} {xs : List AV} {vs : List Value} {k : IntKind} {b : Int} (h : intsMax xs = some (k, b)) (hr : RAs s xs vs) : Sim P s (Builtin.max_ ts ty vs.toArray) (.p (.int k b)) s.H := by
  refine Sim.same hs (v := .int k b) ?_ (by simp only [RA, RP])
  cases xs with
  | nil => simp [intsMax] at h
  | cons x xs =>
    simp only [RAs] at hr
    obtain ⟨v, r, rfl, h1, h2⟩ := hr
    simp only [Builtin.max_, List.toList_toArray]
    cases xs with
    | nil =>
      simp only [RAs] at h2
      subst h2
      unfold intsMax at h
      split at h
      · rename_i heq; cases heq; cases h
        simp only [RA, RP] at h1
        subst h1
        simp
      · rename_i heq; cases heq; simp [intsMax] at h
      · cases h
    | cons y ys =>
      unfold intsMax at h
      split at h
      · rename_i heq; cases heq
      · rename_i heq; cases heq
        split at h
        · rename_i hb
          split at h
          · rename_i hkk
            cases h
            simp only [RA, RP] at h1
            subst h1
            exact max_fold hb h2 hkk
          · cases h
        · cases h
      · cases h
theorem min_ok {s : St} (hs : WF s) {ts : Array TypeId} {ty : TypeId} {xs : List AV} {vs : List Value} {k : IntKind} {b : Int} (h : intsMin xs = some (k, b)) (hr : RAs s xs vs) : Sim P s (Builtin.min_ ts ty vs.toArray) (.p (.int k b)) s.H := by
  refine Sim.same hs (v := .int k b) ?_ (by simp only [RA, RP])
  cases xs with
  | nil => simp [intsMin] at h
  | cons x xs =>
    simp only [RAs] at hr
    obtain ⟨v, r, rfl, h1, h2⟩ := hr
    simp only [Builtin.min_, List.toList_toArray]
    cases xs with
    | nil =>
      simp only [RAs] at h2
      subst h2
      unfold intsMin at h
      split at h
      · rename_i heq; cases heq; cases h
        simp only [RA, RP] at h1
        subst h1
        simp
      · rename_i heq; cases heq; simp [intsMin] at h
      · cases h
    | cons y ys =>
      unfold intsMin at h
      split at h
      · rename_i heq; cases heq
      · rename_i heq; cases heq
        split at h
        · rename_i hb
          split at h
          · rename_i hkk
            cases h
            simp only [RA, RP] at h1
            subst h1
            exact min_fold hb h2 hkk
          · cases h
        · cases h
      · cases h

/-- A builtin's own run. -/
def SimN (P : Program) (s : St) (m : Sem Next) (av : AV) (H' : Heap) : Prop := ∃ v s', m.run P s.w = .ok (.value v) s'.w ∧ s'.H = H' ∧ Evo s s' ∧ WF s' ∧ RA s' av v
theorem Sim.n {s : St} {m : Sem Value} {av : AV} {H' : Heap} (h : Sim P s m av H') : SimN P s (do pure (.value (← m))) av H' := by
  obtain ⟨v, s', h1, h2⟩ := h
  exact ⟨v, s', by simp only [Sem.run_bind, h1, Result.andThen_ok, Sem.run_pure], h2⟩

theorem list_one {s : St} {x : AV} {vs : List Value} (h : RAs s [x] vs) : ∃ v, vs = [v] ∧ RA s x v := by
  simp only [RAs] at h
  obtain ⟨v, r, rfl, h1, rfl⟩ := h
  exact ⟨v, rfl, h1⟩
theorem list_two {s : St} {x y : AV} {vs : List Value} (h : RAs s [x, y] vs) : ∃ v u, vs = [v, u] ∧ RA s x v ∧ RA s y u := by
  simp only [RAs] at h
  obtain ⟨v, r, rfl, h1, u, r', rfl, h2, rfl⟩ := h
  exact ⟨v, u, rfl, h1, h2⟩

theorem builtin_ok {s : St} (hs : WF s) {b : Builtin} {ts : Array TypeId} {ty : TypeId} {cs : Array Bool} {args : List AV} {vs : List Value} {r : AV × Heap} (hr : RAs s args vs) (h : evBuiltin P b ts.toList args s.H = some r) :
    SimN P s (builtin b ts ty cs vs.toArray) r.1 r.2 := by
  unfold evBuiltin at h
  split at h
  · rename_i t u x y heq
    split at h
    · rename_i hu
      obtain ⟨v1, v2, rfl, h1, h2⟩ := list_two hr
      have : ts = #[t, u] := by apply Array.ext'; simpa using heq
      subst this
      exact (append_ok (ty := ty) hs h1 h2 hu h).n
    · cases h
  · rename_i t u x y heq
    obtain ⟨v1, v2, rfl, h1, h2⟩ := list_two hr
    have : ts = #[t, u] := by apply Array.ext'; simpa using heq
    subst this
    exact (copy_ok (ty := ty) hs h1 h2 h).n
  · rename_i t l x heq
    obtain ⟨v1, rfl, h1⟩ := list_one hr
    simp only [Option.map_eq_some_iff] at h
    obtain ⟨n, hn, rfl⟩ := h
    have ht : ts[0]? = some t := by rw [← Array.getElem?_toList, heq]; rfl
    exact (len_ok (ty := ty) hs ht h1 hn).n
  · rename_i t l x y heq
    obtain ⟨v1, v2, rfl, h1, h2⟩ := list_two hr
    unfold noRes at h
    simp only [Option.map_eq_some_iff] at h
    obtain ⟨H', hH, rfl⟩ := h
    have ht : ts[0]? = some t := by rw [← Array.getElem?_toList, heq]; rfl
    exact (delete_ok (ty := ty) hs ht h1 h2 hH).n
  · rename_i t l x heq
    obtain ⟨v1, rfl, h1⟩ := list_one hr
    unfold noRes at h
    have ht : ts[0]? = some t := by rw [← Array.getElem?_toList, heq]; rfl
    split at h
    · simp only [Option.map_eq_some_iff] at h
      obtain ⟨H', hH, rfl⟩ := h
      exact (clearS_ok (ty := ty) hs ht h1 hH).n
    · simp only [Option.map_eq_some_iff] at h
      obtain ⟨H', hH, rfl⟩ := h
      exact (clear_ok (ty := ty) hs ht h1 hH).n
  · simp only [Option.map_eq_some_iff] at h
    obtain ⟨⟨k, c⟩, hq, rfl⟩ := h
    exact (max_ok (ts := ts) (ty := ty) hs hq hr).n
  · simp only [Option.map_eq_some_iff] at h
    obtain ⟨⟨k, c⟩, hq, rfl⟩ := h
    exact (min_ok (ts := ts) (ty := ty) hs hq hr).n
  · cases h

end Go.Ev
end
section
/- CALLS OF FUNCTIONS, in their modes. -/
namespace Go.Ev
variable {P : Program}

/-- How a call ends. -/
def PostC (s0 : St) (Q : AV → Heap → Prop) : Ending → World → Prop := fun e w' => ∃ v s' av, e = .returned v ∧ s'.w = w' ∧ Evo s0 s' ∧ WF s' ∧ RA s' av v ∧ Q av s'.H

def CallOK (P : Program) (f : FuncId) (args : List AV) (H : Heap) (Q : AV → Heap → Prop) : Prop :=
  (∀ (vs : Array Value) (w : World), (callFunc f vs).run P w = .ok (.enter f vs) w) ∧
    ∀ (s : St) (vs : List Value), s.H = H → WF s → RAs s args vs → CallsIn Fence.wide 0 P f vs.toArray s.w (PostC s Q)

theorem CallOK.mono {f : FuncId} {args : List AV} {H : Heap} {Q Q' : AV → Heap → Prop} (h : CallOK P f args H Q) (hq : ∀ v H', Q v H' → Q' v H') : CallOK P f args H Q' :=
  ⟨h.1, fun s vs hH hs hr => (h.2 s vs hH hs hr).mono fun _ _ ⟨v, s', av, h1, h2, h3, h4, h5, h6⟩ => ⟨v, s', av, h1, h2, h3, h4, h5, hq _ _ h6⟩⟩

/-! data without memory -/
mutual
theorem RP_flat {w w' : World} {Z Z' : Nat → Prop} : ∀ (x : PV) (v : Value), x.flat = true → RP w Z x v → RP w' Z' x v
  | .bool _, _, _, h | .int _ _, _, _, h | .str _, _, _, h | .nptr, _, _, h | .nfn, _, _, h | .nmap, _, _, h | .nif, _, _, h => by simpa only [RP] using h
  | .agg xs, v, hf, h => by
    simp only [RP, PV.flat] at h hf ⊢
    obtain ⟨hn, cs, e, h, hc⟩ := h
    exact ⟨hn, cs, e, RPs_flat xs cs hf h, hc⟩
  | .tup xs, v, hf, h => by
    simp only [RP, PV.flat] at h hf ⊢
    obtain ⟨cs, e, h⟩ := h
    exact ⟨cs, e, RPs_flat xs cs hf h⟩
  | .sl _ _, _, hf, _ | .fp _ _ _, _, hf, _ | .fn _ _, _, hf, _ | .fmap _ _, _, hf, _ | .iface _ _, _, hf, _ => by simp [PV.flat] at hf
theorem RPs_flat {w w' : World} {Z Z' : Nat → Prop} : ∀ (xs : List PV) (cs : List Value), flatL xs = true → RPs w Z xs cs → RPs w' Z' xs cs
  | [], _, _, h => by simpa only [RPs] using h
  | x :: xs, cs, hf, h => by
    simp only [RPs, flatL, Bool.and_eq_true] at h hf ⊢
    obtain ⟨v, r, e, h1, h2⟩ := h
    exact ⟨v, r, e, RP_flat x v hf.1 h1, RPs_flat xs r hf.2 h2⟩
end

/-! what is frozen -/
def Frz (s : St) (b : Nat) : Prop := (∃ l g sh xs, s.H[b]? = some (.arr l g sh xs)) ∨ (∃ l x, s.H[b]? = some (.var l x)) ∨ ∃ l g ks vs, s.H[b]? = some (.map l g ks vs)

theorem kd_arr_inv {H : Heap} {b g sh : Nat} (h : kd H b = some (.arr g sh)) : ∃ l xs, H[b]? = some (.arr l g sh xs) := by
  unfold kd at h
  split at h <;> first | (cases h; done) | skip
  · rename_i l g' sh' xs hb
    simp only [Option.some.injEq, Kd.arr.injEq] at h
    obtain ⟨rfl, rfl⟩ := h
    exact ⟨l, xs, hb⟩
theorem kd_var_inv {H : Heap} {b : Nat} (h : kd H b = some .var) : ∃ l x, H[b]? = some (.var l x) := by
  unfold kd at h
  split at h <;> first | (cases h; done) | skip
  · rename_i l x hb; exact ⟨l, x, hb⟩
theorem kd_map_inv {H : Heap} {b g : Nat} (h : kd H b = some (.map g)) : ∃ l ks vs, H[b]? = some (.map l g ks vs) := by
  unfold kd at h
  split at h <;> first | (cases h; done) | skip
  · rename_i l g' ks vs hb
    simp only [Option.some.injEq, Kd.map.injEq] at h
    subst h
    exact ⟨l, ks, vs, hb⟩

theorem ids_frz {s : St} : ∀ (n : Nat) (x : AV) (v : Value), RA s x v → ∀ b ∈ ids n x, Frz s b := by
  intro n
  induction n with
  | zero =>
    intro x v h b hb
    cases x with
    | ref b' g off len ex =>
      simp only [RA] at h
      obtain ⟨_, _, g0, sh, _, hk, _⟩ := h
      simp [ids] at hb; subst hb
      obtain ⟨l, xs, hx⟩ := kd_arr_inv hk
      exact .inl ⟨_, _, _, _, hx⟩
    | vptr b' off =>
      simp only [RA] at h
      simp [ids] at hb; subst hb
      obtain ⟨l, x, hx⟩ := kd_var_inv h.1
      exact .inr (.inl ⟨_, _, hx⟩)
    | eptr b' g i off =>
      simp only [RA] at h
      obtain ⟨_, g0, sh, _, hk, _⟩ := h
      simp [ids] at hb; subst hb
      obtain ⟨l, xs, hx⟩ := kd_arr_inv hk
      exact .inl ⟨_, _, _, _, hx⟩
    | map b' =>
      simp only [RA] at h
      obtain ⟨⟨g, hk⟩, _⟩ := h
      simp [ids] at hb; subst hb
      obtain ⟨l, ks, vs, hx⟩ := kd_map_inv hk
      exact .inr (.inr ⟨_, _, _, _, hx⟩)
    | _ => simp [ids] at hb
  | succ n ih =>
    intro x v h b hb
    have many : ∀ (xs : List AV) (cs : List Value), RAs s xs cs → ∀ b ∈ xs.flatMap (ids n), Frz s b := by
      intro xs
      induction xs with
      | nil => intro cs _ b hb; simp at hb
      | cons y ys ih2 =>
        intro cs h b hb
        simp only [RAs] at h
        obtain ⟨u, r, _, h1, h2⟩ := h
        simp only [List.flatMap_cons, List.mem_append] at hb
        rcases hb with hb | hb
        · exact ih y u h1 b hb
        · exact ih2 r h2 b hb
    cases x with
    | ref b' g off len ex =>
      simp only [RA] at h
      obtain ⟨_, _, g0, sh, _, hk, _⟩ := h
      simp [ids] at hb; subst hb
      obtain ⟨l, xs, hx⟩ := kd_arr_inv hk
      exact .inl ⟨_, _, _, _, hx⟩
    | vptr b' off =>
      simp only [RA] at h
      simp [ids] at hb; subst hb
      obtain ⟨l, x, hx⟩ := kd_var_inv h.1
      exact .inr (.inl ⟨_, _, hx⟩)
    | eptr b' g i off =>
      simp only [RA] at h
      obtain ⟨_, g0, sh, _, hk, _⟩ := h
      simp [ids] at hb; subst hb
      obtain ⟨l, xs, hx⟩ := kd_arr_inv hk
      exact .inl ⟨_, _, _, _, hx⟩
    | map b' =>
      simp only [RA] at h
      obtain ⟨⟨g, hk⟩, _⟩ := h
      simp [ids] at hb; subst hb
      obtain ⟨l, ks, vs, hx⟩ := kd_map_inv hk
      exact .inr (.inr ⟨_, _, _, _, hx⟩)
    | agg xs =>
      simp only [RA] at h
      obtain ⟨_, cs, _, h, _⟩ := h
      exact many xs cs h b (by simpa [ids] using hb)
    | fn f xs =>
      simp only [RA] at h
      obtain ⟨cs, _, h⟩ := h
      exact many xs cs h b (by simpa [ids] using hb)
    | _ => simp [ids] at hb

theorem ids_frzs {s : St} (n : Nat) : ∀ (xs : List AV) (cs : List Value), RAs s xs cs → ∀ b ∈ xs.flatMap (ids n), Frz s b
  | [], _, _, b, hb => by simp at hb
  | y :: ys, cs, h, b, hb => by
    simp only [RAs] at h
    obtain ⟨u, r, _, h1, h2⟩ := h
    simp only [List.flatMap_cons, List.mem_append] at hb
    rcases hb with hb | hb
    · exact ids_frz n y u h1 b hb
    · exact ids_frzs n ys r h2 b hb

theorem Frz.lt {s : St} {b : Nat} (h : Frz s b) : b < s.H.length := by
  rcases h with ⟨_, _, _, _, h⟩ | ⟨_, _, h⟩ | ⟨_, _, _, _, h⟩ <;> exact (List.getElem?_eq_some_iff.1 h).1
theorem Frz.live_or {s : St} (hs : WF s) {b : Nat} (h : Frz s b) : live s.H b ∨ s.Z (s.ι b) := by
  rcases h with ⟨l, g, sh, xs, h⟩ | ⟨l, x, h⟩ | ⟨l, g, ks, vs, h⟩
  · cases l
    · have := hs.blk b _ h
      simp only [RB] at this
      obtain ⟨_, _, _, _, _, _, _, _, hz⟩ := this
      exact .inr (hz trivial)
    · exact .inl (by simp [live, h])
  · cases l
    · have := hs.blk b _ h
      simp only [RB] at this
      obtain ⟨_, _, _, _, _, _, _, hz⟩ := this
      exact .inr (hz trivial)
    · exact .inl (by simp [live, h])
  · cases l
    · have := hs.blk b _ h
      simp only [RB] at this
      obtain ⟨_, _, _, _, _, _, hz⟩ := this
      exact .inr (hz trivial)
    · exact .inl (by simp [live, h])

theorem freezeIds_get : ∀ (L : List Nat) (H : Heap) (b : Nat), (freezeIds L H)[b]? = if b ∈ L then (H[b]?).map Blk.frozen else H[b]?
  | [], H, b => by simp [freezeIds]
  | c :: L, H, b => by
    have fz : ∀ x : Blk, x.frozen.frozen = x.frozen := fun x => by cases x <;> rfl
    unfold freezeIds
    rw [freezeIds_get L]
    cases hc : H[c]? with
    | none =>
      simp only [List.mem_cons]
      by_cases e : b = c
      · subst e; simp [hc]
      · simp [e]
    | some x =>
      have hlt := (List.getElem?_eq_some_iff.1 hc).1
      simp only [List.mem_cons]
      by_cases e : b = c
      · subst e
        simp [List.getElem?_set_self hlt, hc, fz]
      · simp [e, List.getElem?_set_ne (Ne.symm e)]
theorem freezeIds_length : ∀ (L : List Nat) (H : Heap), (freezeIds L H).length = H.length
  | [], H => rfl
  | c :: L, H => by
    unfold freezeIds
    rw [freezeIds_length L]
    split <;> simp
theorem freezeIds_kd (L : List Nat) (H : Heap) (b : Nat) : kd (freezeIds L H) b = kd H b := by
  unfold kd
  rw [freezeIds_get]
  by_cases hL : b ∈ L
  · rw [if_pos hL]
    cases H[b]? with
    | none => rfl
    | some x => cases x <;> rfl
  · rw [if_neg hL]
theorem freezeIds_live {L : List Nat} {H : Heap} {b : Nat} (h : live (freezeIds L H) b) : live H b := by
  unfold live at h ⊢
  rw [freezeIds_get] at h
  by_cases hL : b ∈ L
  · rw [if_pos hL] at h
    cases hb : H[b]? with
    | none => rw [hb] at h; exact h
    | some x => rw [hb] at h; cases x <;> simp_all [Blk.frozen]
  · rw [if_neg hL] at h
    exact h

theorem frozen_dead {s : St} {L : List Nat} {b : Nat} (hb : b ∈ L) (hf : Frz s b) : ¬ live (freezeIds L s.H) b := by
  intro h
  unfold live at h
  rw [freezeIds_get, if_pos hb] at h
  rcases hf with ⟨l, g, sh, xs, hx⟩ | ⟨l, x, hx⟩ | ⟨l, g, ks, vs, hx⟩ <;> (rw [hx] at h; simp [Blk.frozen] at h)

/-- The caller's state when a call that ran apart has ended: what it read is frozen. -/
def St.apart (s : St) (L : List Nat) (w : World) (Z : Nat → Prop) : St := { H := freezeIds L s.H, w := w, ι := s.ι, Z := Z, β := s.β }

structure Apart (s : St) (L : List Nat) (w : World) (Z : Nat → Prop) : Prop where
  frz : ∀ b ∈ L, Frz s b
  size : s.w.heap.size ≤ w.heap.size
  same : ∀ k, k < s.w.heap.size → w.heap[k]? = s.w.heap[k]?
  os : w.os = s.w.os
  tape : w.tape = s.w.tape
  output : w.output = s.w.output
  Zm : ∀ k, Zf s L k → Z k
  zn : ∀ k, Z k → k < s.w.heap.size → Zf s L k
  zb : ∀ k, Z k → k < w.heap.size

theorem Evo.apart {s : St} (hs : WF s) {L : List Nat} {w : World} {Z : Nat → Prop} (h : Apart s L w Z) : Evo s (s.apart L w Z) where
  len := by simp [St.apart, freezeIds_length]
  size := h.size
  arr := fun b g sh hk => ⟨g, (freezeIds_kd L s.H b).trans hk, Nat.le_refl _, fun _ => ⟨rfl, by simp only [csize, St.apart]; rw [h.same _ (hs.bnd b (kd_lt hk))], rfl⟩⟩
  var := fun b hk => ⟨(freezeIds_kd L s.H b).trans hk, rfl⟩
  map := fun b g hk => ⟨g, (freezeIds_kd L s.H b).trans hk, Nat.le_refl _, rfl, fun _ => Born.same (h.same _ (hs.bnd b (kd_lt hk)))⟩
  oth := fun b l hk => ⟨(freezeIds_kd L s.H b).trans hk, rfl⟩
  new := fun b hb _ => ⟨by simpa [St.apart, freezeIds_length] using hb, rfl, freezeIds_live⟩
  fr := fun k hk _ => h.same k hk
  Zm := fun k hk => h.Zm k (.inl hk)
  zn := fun k hk hlt => by
    rcases h.zn k hk hlt with h1 | ⟨b, hb, he⟩
    · exact .inl h1
    · rcases (h.frz b hb).live_or hs with h2 | h2
      · exact .inr ⟨b, h2, he⟩
      · exact .inl (he ▸ h2)
  os := h.os
  tape := h.tape
  output := h.output

theorem RB_frozen {s : St} {b : Nat} {x : Blk} (h : RB s b x) (hz : Frz s b → s.Z (s.ι b)) (hx : ∀ l g sh xs, x = .arr l g sh xs → s.Z (s.ι b)) (hv : ∀ l y, x = .var l y → s.Z (s.ι b)) (hm : ∀ l g ks vs, x = .map l g ks vs → s.Z (s.ι b)) : RB s b x.frozen := by
  cases x with
  | arr l g sh xs =>
    simp only [RB, Blk.frozen] at h ⊢
    obtain ⟨c, e, lo, hi, h1, h2, h3, h4, _⟩ := h
    exact ⟨c, e, lo, hi, h1, h2, h3, h4, fun _ => hx _ _ _ _ rfl⟩
  | var l y =>
    simp only [RB, Blk.frozen] at h ⊢
    obtain ⟨v, e, lo, hi, h1, h2, h3, _⟩ := h
    exact ⟨v, e, lo, hi, h1, h2, h3, fun _ => hv _ _ rfl⟩
  | map l g ks vs =>
    simp only [RB, Blk.frozen] at h ⊢
    obtain ⟨es, clock, h1, h2, h3, h4, _⟩ := h
    exact ⟨es, clock, h1, h2, h3, h4, fun _ => hm _ _ _ _ rfl⟩
  | mit => exact h
  | fit => exact h
  | loop => exact h

theorem WF.apart {s : St} (hs : WF s) {L : List Nat} {w : World} {Z : Nat → Prop} (h : Apart s L w Z) : WF (s.apart L w Z) where
  inj := fun b b' hb hb' he => by
    simp only [St.apart, freezeIds_length] at hb hb' he
    exact hs.inj b b' hb hb' he
  bnd := fun b hb => by
    simp only [St.apart, freezeIds_length] at hb
    exact Nat.lt_of_lt_of_le (hs.bnd b hb) h.size
  zb := h.zb
  zl := fun b hb hz => by
    have hl := freezeIds_live hb
    have hlt := live_lt hl
    rcases h.zn _ hz (hs.bnd b hlt) with h1 | ⟨c, hc, he⟩
    · exact hs.zl b hl h1
    · have := hs.inj c b (h.frz c hc).lt hlt he
      subst this
      exact frozen_dead hc (h.frz c hc) hb
  blk := fun b x hb => by
    simp only [St.apart] at hb
    rw [freezeIds_get] at hb
    have ev := Evo.apart hs h
    have keep : ∀ y, s.H[b]? = some y → RB (s.apart L w Z) b y := fun y hy => by
      have hlt := (List.getElem?_eq_some_iff.1 hy).1
      exact RB_keep hs ev hy rfl rfl (h.same _ (hs.bnd b hlt)) (MapsKept.of_heap (fun _ => rfl) fun m g hm _ => h.same _ (hs.bnd m (kd_lt hm)))
    split at hb
    · rename_i hL
      simp only [Option.map_eq_some_iff] at hb
      obtain ⟨y, hy, rfl⟩ := hb
      have hZ : (s.apart L w Z).Z ((s.apart L w Z).ι b) := h.Zm _ (.inr ⟨b, hL, rfl⟩)
      exact RB_frozen (keep y hy) (fun _ => hZ) (fun _ _ _ _ _ => hZ) (fun _ _ _ => hZ) (fun _ _ _ _ _ => hZ)
    · exact keep x hb

/-- A row that the callee made, as the caller's own. -/
def St.adopt (s : St) (k o : Nat) (x : Blk) : St := { H := s.H ++ [x], w := s.w, ι := fun c => if c = s.H.length then k else s.ι c, Z := s.Z, β := fun c => if c = s.H.length then o else s.β c }

theorem Evo.adopt {s0 s : St} (hs0 : WF s0) (e : Evo s0 s) {k o : Nat} {x : Blk} (hk : s0.w.heap.size ≤ k) : Evo s0 (s.adopt k o x) where
  len := by simp [St.adopt]; have := e.len; omega
  size := e.size
  arr := fun b g sh h => by
    obtain ⟨g', h1, h2, h3⟩ := e.arr b g sh h
    have := kd_lt h1
    refine ⟨g', kd_append h1, h2, fun eg => ?_⟩
    obtain ⟨i1, i2, i3⟩ := h3 eg
    exact ⟨by simp only [St.adopt, if_neg (Nat.ne_of_lt this)]; exact i1, i2, by simp only [St.adopt, if_neg (Nat.ne_of_lt this)]; exact i3⟩
  var := fun b h => by
    obtain ⟨h1, h2⟩ := e.var b h
    exact ⟨kd_append h1, by simp only [St.adopt, if_neg (Nat.ne_of_lt (kd_lt h1))]; exact h2⟩
  map := fun b g h => by
    obtain ⟨g', h1, h2, h3, h4⟩ := e.map b g h
    exact ⟨g', kd_append h1, h2, by simp only [St.adopt, if_neg (Nat.ne_of_lt (kd_lt h1))]; exact h3, h4⟩
  oth := fun b l h => by
    obtain ⟨h1, h2⟩ := e.oth b l h
    exact ⟨kd_append h1, by simp only [St.adopt, if_neg (Nat.ne_of_lt (kd_lt h1))]; exact h2⟩
  new := fun b hb hlt => by
    simp only [St.adopt] at hb hlt ⊢
    by_cases eb : b = s.H.length
    · rw [if_pos eb] at hlt; omega
    · rw [if_neg eb] at hlt ⊢
      have hb' : b < s.H.length := by simp at hb; omega
      obtain ⟨h1, h2, h3⟩ := e.new b hb' hlt
      exact ⟨h1, h2, fun hl => h3 ((live_append hb').1 hl)⟩
  fr := e.fr
  Zm := e.Zm
  zn := e.zn
  os := e.os
  tape := e.tape
  output := e.output

end Go.Ev
end
section
/- CALLS OF FUNCTIONS, in their modes: the calls. -/
namespace Go.Ev
variable {P : Program}

theorem Ext.adopt {s : St} (hs : WF s) (k o : Nat) (x : Blk) : Ext s (s.adopt k o x) where
  arr := fun b g sh h => ⟨g, kd_append h, Nat.le_refl _, fun _ => ⟨by simp only [St.adopt, if_neg (Nat.ne_of_lt (kd_lt h))], rfl, by simp only [St.adopt, if_neg (Nat.ne_of_lt (kd_lt h))]⟩⟩
  var := fun b h => ⟨kd_append h, by simp only [St.adopt, if_neg (Nat.ne_of_lt (kd_lt h))]⟩
  map := fun b g h => ⟨g, kd_append h, Nat.le_refl _, by simp only [St.adopt, if_neg (Nat.ne_of_lt (kd_lt h))], fun _ => Born.same rfl⟩
  oth := fun b l h => ⟨kd_append h, by simp only [St.adopt, if_neg (Nat.ne_of_lt (kd_lt h))]⟩
  Zm := fun _ h => h
  zk := fun _ _ => rfl

theorem WF.adopt {s : St} (hs : WF s) {k o : Nat} {x : Blk} (hk : k < s.w.heap.size) (hn : ∀ c, c < s.H.length → s.ι c ≠ k) (hz : ¬ s.Z k) (hx : RB (s.adopt k o x) s.H.length x) : WF (s.adopt k o x) where
  inj := fun b b' hb hb' h => by
    simp only [St.adopt] at hb hb' h
    simp at hb hb'
    by_cases e : b = s.H.length
    · by_cases e' : b' = s.H.length
      · omega
      · rw [if_pos e, if_neg e'] at h
        exact absurd h.symm (hn b' (by omega))
    · by_cases e' : b' = s.H.length
      · rw [if_neg e, if_pos e'] at h
        exact absurd h (hn b (by omega))
      · rw [if_neg e, if_neg e'] at h
        exact hs.inj b b' (by omega) (by omega) h
  bnd := fun b hb => by
    simp only [St.adopt] at hb ⊢
    simp at hb
    by_cases e : b = s.H.length
    · rw [if_pos e]; exact hk
    · rw [if_neg e]; exact hs.bnd b (by omega)
  zb := hs.zb
  zl := fun b hb => by
    have hlt := live_lt hb
    simp only [St.adopt] at hb hlt ⊢
    simp at hlt
    by_cases e : b = s.H.length
    · rw [if_pos e]; exact hz
    · rw [if_neg e]
      exact hs.zl b ((live_append (by omega)).1 hb)
  blk := fun b y hb => by
    rcases getElem?_append_cases hb with h | ⟨h, h'⟩
    · have hlt := (List.getElem?_eq_some_iff.1 h).1
      refine RB_ext (Ext.adopt hs k o x) (hs.blk b y h) (by simp only [St.adopt, if_neg (Nat.ne_of_lt hlt)]) (by simp only [St.adopt, if_neg (Nat.ne_of_lt hlt)]) rfl ?_
      exact fun m g hm _ es clock he => ⟨es, he, rfl, fun _ e he => ⟨e, he, rfl⟩⟩
    · subst h; subst h'; exact hx

/-- The world has grown; nothing that was there has changed. -/
theorem grown_ok {s : St} (hs : WF s) {w : World} (h1 : s.w.heap.size ≤ w.heap.size) (h2 : ∀ k, k < s.w.heap.size → w.heap[k]? = s.w.heap[k]?) (h3 : w.os = s.w.os) (h4 : w.tape = s.w.tape) (h5 : w.output = s.w.output) :
    Evo s (s.withW w) ∧ WF (s.withW w) := by
  have ev : Evo s (s.withW w) :=
    { len := Nat.le_refl _, size := h1
      arr := fun b g sh h => ⟨g, h, Nat.le_refl _, fun _ => ⟨rfl, by simp only [St.withW, csize]; rw [h2 _ (hs.bnd b (kd_lt h))], rfl⟩⟩
      var := fun b h => ⟨h, rfl⟩
      map := fun b g h => ⟨g, h, Nat.le_refl _, rfl, fun _ => Born.same (h2 _ (hs.bnd b (kd_lt h)))⟩
      oth := fun b _ h => ⟨h, rfl⟩
      new := fun b h _ => ⟨h, rfl, id⟩
      fr := fun k hk _ => h2 k hk
      Zm := fun _ h => h
      zn := fun _ h _ => .inl h
      os := h3, tape := h4, output := h5 }
  exact ⟨ev,
    { inj := hs.inj
      bnd := fun b hb => Nat.lt_of_lt_of_le (hs.bnd b hb) h1
      zb := fun k hk => Nat.lt_of_lt_of_le (hs.zb k hk) h1
      zl := hs.zl
      blk := fun b x hb => RB_keep hs ev hb rfl rfl (h2 _ (hs.bnd b (List.getElem?_eq_some_iff.1 hb).1)) (MapsKept.of_heap (fun _ => rfl) fun m g hm _ => h2 _ (hs.bnd m (kd_lt hm))) }⟩

def idsR : AV → List Nat
  | .tup xs => xs.flatMap (ids 4)
  | x => ids 4 x

theorem frzR_ok {s : St} (hs : WF s) {ts : List TypeId} {x : AV} {y : PV} {v : Value} (h : frzR P s.H ts x = some y) (hr : RA s x v) : RP s.w (Zf s (idsR x)) y v := by
  unfold frzR at h
  split at h
  · cases h
    simp only [RA] at hr
    exact RP_Zf0 _ hr
  · rename_i xs
    simp only [Option.map_eq_some_iff] at h
    obtain ⟨ys, hys, rfl⟩ := h
    simp only [RA] at hr
    obtain ⟨cs, rfl, h1⟩ := hr
    simp only [RP]
    exact ⟨cs, rfl, frzL_ok (fun t x y v => frz_ok hs 4 t x y v) hys h1⟩
  · rename_i hnp hnt
    have : idsR x = ids 4 x := by
      cases x with
      | tup xs => exact absurd rfl (hnt xs)
      | _ => rfl
    rw [this]
    exact frz_ok hs 4 _ x y v h hr

theorem idsR_frz {s : St} {x : AV} {v : Value} (hr : RA s x v) : ∀ b ∈ idsR x, Frz s b := by
  cases x with
  | tup xs =>
    simp only [RA] at hr
    obtain ⟨cs, _, h⟩ := hr
    exact ids_frzs 4 xs cs h
  | _ => exact ids_frz 4 _ v hr

/-- The state in which a callee that runs apart begins. -/
def St.begin (s : St) (L : List Nat) : St := { H := [], w := s.w, ι := s.ι, Z := Zf s L, β := s.β }
theorem begin_wf {s : St} (hs : WF s) {L : List Nat} (hL : ∀ b ∈ L, Frz s b) : WF (s.begin L) where
  inj := fun b b' hb => by simp [St.begin] at hb
  bnd := fun b hb => by simp [St.begin] at hb
  zb := fun k hk => by
    rcases hk with h | ⟨b, hb, he⟩
    · exact hs.zb k h
    · rw [← he]; exact hs.bnd b (hL b hb).lt
  zl := fun b hb => by simp [St.begin, live] at hb
  blk := fun b x hb => by simp [St.begin] at hb

theorem apart_of {s s1 : St} (hs : WF s) {L : List Nat} (hL : ∀ b ∈ L, Frz s b) (e : Evo (s.begin L) s1) (h1 : WF s1) {M : List Nat} (hM : ∀ b ∈ M, Frz s1 b) : Apart s L s1.w (Zf s1 M) where
  frz := hL
  size := e.size
  same := fun k hk => e.fr k hk (fun b hb => by simp [St.begin, live] at hb)
  os := e.os
  tape := e.tape
  output := e.output
  Zm := fun k hk => .inl (e.Zm k hk)
  zn := fun k hk hlt => by
    rcases hk with h | ⟨b, hb, he⟩
    · rcases e.zn k h hlt with h2 | ⟨c, hc, _⟩
      · exact h2
      · simp [St.begin, live] at hc
    · have hb' := (hM b hb).lt
      have := (e.new b hb' (by rw [he]; exact hlt)).1
      simp [St.begin] at this
  zb := fun k hk => by
    rcases hk with h | ⟨b, hb, he⟩
    · exact h1.zb k h
    · rw [← he]; exact h1.bnd b (hM b hb).lt

end Go.Ev
end
section
/- WHAT THE EVALUATOR's TRANSFORMERS STAND FOR; calls in their modes. -/
namespace Go.Ev

/-- The fence of a frame: of a round of a loop, or of none. -/
def Fr : Option Nat → Fence
  | none => Fence.wide
  | some l => Fence.wide.inRound l
theorem Fr_round (ρ : Option Nat) : (Fr ρ).round = ρ := by cases ρ <;> rfl
theorem Fr_fn (ρ : Option Nat) (f : FuncId) : (Fr ρ).fn f := by cases ρ <;> exact trivial
theorem Fr_depth (ρ : Option Nat) : (Fr ρ).depth = none := by cases ρ <;> rfl
theorem Fr_calls {ρ : Option Nat} {n : Nat} {P : Program} {f : FuncId} {args : Array Value} {w : World} {R : Ending → World → Prop} (h : CallsIn Fence.wide n P f args w R) : CallsIn (Fr ρ) n P f args w R := by
  cases ρ with
  | none => exact h
  | some l => exact h
theorem Fr_round_in {ρ : Option Nat} {n : Nat} {P : Program} {l : Nat} {f : FuncId} {tmps : Array Value} {a b : Code} {w : World} {R : Ending → World → Prop} (h : RoundIn Fence.wide n P l f tmps a b w R) : RoundIn (Fr ρ) n P l f tmps a b w R := by
  cases ρ with
  | none => exact h
  | some l => exact h

/-- Marks of a function's loops among its deferred calls. -/
def Marks (s : St) (sz : Nat) (ds : List Deferred) : Prop :=
  ∃ rs : List Nat, ds = rs.map (fun r => { target := .collected r, args := #[] }) ∧ rs.Nodup ∧ ∀ r ∈ rs, sz ≤ r ∧ s.w.heap[r]? = some (.deferred (some [])) ∧ ¬ s.Z r ∧ ∀ b, b < s.H.length → s.ι b ≠ r

theorem Marks.nil (s : St) (sz : Nat) : Marks s sz [] := ⟨[], rfl, List.nodup_nil, fun r h => by cases h⟩
theorem Marks.mono {s s' : St} {sz : Nat} {ds : List Deferred} (e : Evo s s') (h : Marks s sz ds) : Marks s' sz ds := by
  obtain ⟨rs, h1, h2, h3⟩ := h
  refine ⟨rs, h1, h2, fun r hr => ?_⟩
  obtain ⟨k1, k2, k3, k4⟩ := h3 r hr
  have hlt : r < s.w.heap.size := (Array.getElem?_eq_some_iff.1 k2).1
  refine ⟨k1, (e.fr r hlt (fun b hb => k4 b (live_lt hb))).trans k2, fun hz => ?_, fun b hb he => ?_⟩
  · rcases e.zn r hz hlt with h4 | ⟨b, hb, he⟩
    · exact k3 h4
    · exact k4 b (live_lt hb) he
  · obtain ⟨h4, h5, _⟩ := e.new b hb (by rw [he]; exact hlt)
    exact k4 b h4 (h5 ▸ he)

/-- Where a code begins: the state and the activation fit. -/
structure Pre (ρ : Option Nat) (sz : Nat) (s : St) (a : Act) (env : Env) : Prop where
  wf : WF s
  env : REnv s env a.tmps
  marks : Marks s sz a.defers
  size : sz ≤ s.w.heap.size
  round : ∀ l, ρ = some l → ∃ b, kd s.H b = some (.oth true) ∧ l = s.ι b

def exEq : Exit → Ex → Prop
  | .normal, .normal => True
  | .exit i, .exit j => i = j
  | .goto i, .goto j => i = j
  | .ret, .ret => True
  | _, _ => False

/-- How a code ends. -/
def PostK (ρ : Option Nat) (sz n : Nat) (s0 : St) (K : Ex → Env → Heap → Prop) : Exit → Act → World → Prop := fun e a' w' =>
  ∃ ex s' env', exEq e ex ∧ s'.w = w' ∧ Evo s0 s' ∧ a'.tmps.size = n ∧ Pre ρ sz s' a' env' ∧ K ex env' s'.H

def CodeOK (P : Program) (c : Code) (env : Env) (H : Heap) (K : Ex → Env → Heap → Prop) : Prop :=
  ∀ (ρ : Option Nat) (sz : Nat) (s : St) (a : Act), s.H = H → Pre ρ sz s a env → slots a.tmps.size c = true → c.wpIn (Fr ρ) 0 P (PostK ρ sz a.tmps.size s K) a s.w

/-- A loop, where its body is about to run. -/
def loopIn (F : Fence) (n : Nat) (P : Program) (c : Code) (Q : Exit → Act → World → Prop) (a : Act) (w : World) : Prop :=
  ∀ (b : Frame) (k : List Item) (cs : List Frame), b.roundOf = F.round → F.fn b.fn → F.room (cs.length + 1 + n) →
    ∃ e a' w', Q e a' w' ∧ ArrivesIn (Machine.fenced P F) P (lone (b.atR a (.code c :: .inLoop c :: k)) cs w) b k cs e a' w'

def LoopOK (P : Program) (c : Code) (env : Env) (H : Heap) (K : Ex → Env → Heap → Prop) : Prop :=
  ∀ (ρ : Option Nat) (sz : Nat) (s : St) (a : Act), s.H = H → Pre ρ sz s a env → slots a.tmps.size c = true → loopIn (Fr ρ) 0 P c (PostK ρ sz a.tmps.size s K) a s.w

def YieldOK (P : Program) (b : Nat) (args : List AV) (H : Heap) (Q : AV → Heap → Prop) : Prop :=
  ∀ (s : St) (vs : List Value), s.H = H → WF s → RAs s args vs → ∃ (f : FuncId) (tmps : Array Value) (assign body : Code),
    (Instr.yield (s.ι b) vs.toArray).run P s.w = .ok (.round (s.ι b) f tmps assign body) s.w ∧ RoundIn Fence.wide 0 P (s.ι b) f tmps assign body s.w (PostC s Q)

/-- The transformers' meaning. -/
def Sm (P : Program) : Tr where
  call := CallOK P
  yield := YieldOK P
  loop := LoopOK P

/-- A shelf's contract means what it says. -/
def ExtOK (C : Cfg) : Prop := ∀ f spec, C.md f = .ext spec → ∀ args H Q, spec args H Q → CallOK C.P f args H Q

theorem PostC.trans {s0 s1 : St} {Q : AV → Heap → Prop} (e : Evo s0 s1) {en : Ending} {w : World} (h : PostC s1 Q en w) : PostC s0 Q en w := by
  obtain ⟨v, s', av, h1, h2, h3, h4⟩ := h
  exact ⟨v, s', av, h1, h2, e.trans h3, h4⟩

theorem evCall_ok {C : Cfg} (hx : ExtOK C) {f : FuncId} {args : List AV} {H : Heap} {k : AV → Heap → Prop} (h : evCall C (Sm C.P) f args H k) : CallOK C.P f args H k := by
  unfold evCall at h
  split at h
  · exact h.elim
  · exact h
  · rename_i spec hm
    exact hx f spec hm args H k h
  · cases hfn : C.P.funcs[f]? with
    | none => rw [hfn] at h; exact h.elim
    | some fn =>
      rw [hfn, oK_some] at h
      cases hpa : frzL (frzN C.P H 4) args fn.params.toList with
      | none => rw [hpa] at h; exact h.elim
      | some pa =>
        rw [hpa, oK_some] at h
        refine ⟨h.1, fun s vs hH hs hr => ?_⟩
        subst hH
        have hL := ids_frzs 4 args vs hr
        have hpr : RPs s.w (Zf s (args.flatMap (ids 4))) pa vs := frzL_ok (fun t x y v => frz_ok hs 4 t x y v) hpa hr
        have hw0 := begin_wf hs hL
        refine (h.2 (s.begin (args.flatMap (ids 4))) vs rfl hw0 (RAs_map_p.2 hpr)).mono ?_
        rintro e w' ⟨v, s1, av, rfl, rfl, h3, h4, h5, h6⟩
        cases hfz : frzR C.P s1.H fn.resultTypes.toList av with
        | none => rw [hfz] at h6; exact h6.elim
        | some r =>
          rw [hfz, oK_some] at h6
          have hR := frzR_ok h4 hfz h5
          have hM := idsR_frz h5
          have hA := apart_of hs hL h3 h4 hM
          cases hfl : r.flat with
          | true =>
            rw [hfl] at h6
            obtain ⟨g1, g2⟩ := grown_ok hs hA.size hA.same hA.os hA.tape hA.output
            exact ⟨v, s.withW s1.w, .p r, rfl, rfl, g1, g2, by simp only [RA]; exact RP_flat r v hfl hR, h6⟩
          | false =>
            rw [hfl] at h6
            exact ⟨v, s.apart _ s1.w (Zf s1 (idsR av)), .p r, rfl, rfl, Evo.apart hs hA, WF.apart hs hA, by simp only [RA]; exact hR, h6⟩
  · cases hfn : C.P.funcs[f]? with
    | none => rw [hfn] at h; exact h.elim
    | some fn =>
      rw [hfn, oK_some] at h
      cases hpa : frzL (frzN C.P H 4) args fn.params.toList with
      | none => rw [hpa] at h; exact h.elim
      | some pa =>
        rw [hpa, oK_some] at h
        refine ⟨h.1, fun s vs hH hs hr => ?_⟩
        subst hH
        have hL := ids_frzs 4 args vs hr
        have hpr : RPs s.w (Zf s (args.flatMap (ids 4))) pa vs := frzL_ok (fun t x y v => frz_ok hs 4 t x y v) hpa hr
        have hw0 := begin_wf hs hL
        refine (h.2 (s.begin (args.flatMap (ids 4))) vs rfl hw0 (RAs_map_p.2 hpr)).mono ?_
        rintro e w' ⟨v, s1, av, rfl, rfl, h3, h4, h5, h6⟩
        have hA : Apart s (args.flatMap (ids 4)) s1.w s1.Z := by
          have := apart_of (M := []) hs hL h3 h4 (fun b hb => by cases hb)
          exact ⟨this.frz, this.size, this.same, this.os, this.tape, this.output, fun k hk => (this.Zm k hk).resolve_right (by rintro ⟨b, hb, _⟩; cases hb), fun k hk => this.zn k (.inl hk), h4.zb⟩
        unfold takeOwn at h6
        split at h6
        · simp only [oK] at h6
          simp only [RA] at h5
          exact ⟨v, s.apart _ s1.w s1.Z, .nsl, rfl, rfl, Evo.apart hs hA, WF.apart hs hA, by simp only [RA]; exact h5, h6⟩
        · rename_i b g len
          split at h6
          · rename_i g' sh xs hb
            split at h6
            · rename_i hc
              obtain ⟨rfl, rfl⟩ := hc
              simp only [oK] at h6
              simp only [RA] at h5
              obtain ⟨a, cap, g0, sh0, rfl, hk, _, h5⟩ := h5
              have hk0 := kd_of_arr hb
              rw [hk0] at hk
              simp only [Option.some.injEq, Kd.arr.injEq] at hk
              obtain ⟨rfl, rfl⟩ := hk
              obtain ⟨⟨o, rfl, ho⟩, q1, q2, _⟩ := h5 rfl
              have hblt := kd_lt hk0
              have hge : s.w.heap.size ≤ s1.ι b := by
                rcases Nat.lt_or_ge (s1.ι b) s.w.heap.size with hlt | hge
                · have := (h3.new b hblt hlt).1
                  simp [St.begin] at this
                · exact hge
              have hwa := WF.apart hs hA
              have eva := Evo.apart hs hA
              have hlen : (s.apart (args.flatMap (ids 4)) s1.w s1.Z).H.length = (freezeIds (args.flatMap (ids 4)) s.H).length := rfl
              have ev2 : Evo s ((s.apart (args.flatMap (ids 4)) s1.w s1.Z).adopt (s1.ι b) (s1.β b) (.arr true 0 sh xs)) := Evo.adopt hs eva hge
              have hB := h4.blk b _ hb
              simp only [RB] at hB
              obtain ⟨c, e, lo, hi, z1, z2, z3, z4, _⟩ := hB
              refine ⟨_, (s.apart (args.flatMap (ids 4)) s1.w s1.Z).adopt (s1.ι b) (s1.β b) (.arr true 0 sh xs), _, rfl, rfl, ev2, WF.adopt hwa (h4.bnd b hblt) ?_ ?_ ?_, ?_, h6⟩
              · intro c hc he
                have : s.ι c < s.w.heap.size := hs.bnd c (by rw [hlen, freezeIds_length] at hc; exact hc)
                have he' : s.ι c = s1.ι b := he
                omega
              · exact h4.zl b (by simp [live, hb])
              · simp only [RB, St.adopt, if_true]
                exact ⟨c, e, lo, hi, z1, z2, z3, z4, fun h => by cases h⟩
              · simp only [RA]
                refine ⟨_, cap, 0, sh, rfl, by simp [kd, St.adopt, hlen], Nat.le_refl _, fun _ => ⟨⟨o, by simp [St.adopt, hlen], by simpa [St.adopt, hlen] using ho⟩, q1, by simpa [St.adopt, hlen, St.apart] using q2, fun h => by cases h⟩⟩
            · exact h6.elim
          · exact h6.elim
        · exact h6.elim

end Go.Ev
end
section
/- ONE OPERATION. -/
namespace Go.Ev
variable {P : Program}

theorem opers_of {s : St} {env : Env} {a : Act} (he : REnv s env a.tmps) (xs : Array Operand) : RAs s (xs.toList.map (oper env)) (xs.map a.eval).toList := by
  rw [Array.toList_map]; exact opers_ok he xs.toList

theorem parts_of {s : St} {env : Env} {a : Act} (he : REnv s env a.tmps) (ps : Array (Nat × Operand)) :
    (ps.map fun q => (q.1, a.eval q.2)).toList.map (·.1) = (ps.toList.map fun q => (q.1, oper env q.2)).map (·.1) ∧
      RAs s ((ps.toList.map fun q => (q.1, oper env q.2)).map (·.2)) ((ps.map fun q => (q.1, a.eval q.2)).toList.map (·.2)) := by
  simp only [Array.toList_map, List.map_map]
  refine ⟨rfl, ?_⟩
  have := opers_ok he (ps.toList.map (·.2))
  simpa [List.map_map, Function.comp_def] using this

theorem ORel_of {s : St} {env : Env} {a : Act} (he : REnv s env a.tmps) (o : Option Operand) : ORel s (o.map (oper env)) (o.map a.eval) := by
  cases o with
  | none => exact trivial
  | some x => exact oper_ok he x

/-- What is read as data now: frozen. -/
theorem frz_st {s : St} (hs : WF s) {L : List Nat} (hL : ∀ b ∈ L, Frz s b) :
    ∃ s1 : St, s1.H = freezeIds L s.H ∧ s1.w = s.w ∧ Evo s s1 ∧ WF s1 ∧
      ∀ (t : TypeId) (v : AV) (vv : Value), (∀ b ∈ ids 4 v, b ∈ L) → RA s v vv → RA s1 (frV P t s.H v) vv := by
  have hA : Apart s L s.w (Zf s L) :=
    { frz := hL, size := Nat.le_refl _, same := fun _ _ => rfl, os := rfl, tape := rfl, output := rfl
      Zm := fun _ h => h, zn := fun _ h _ => h
      zb := fun k hk => by
        rcases hk with h | ⟨b, hb, rfl⟩
        · exact hs.zb k h
        · exact hs.bnd b (hL b hb).lt }
  refine ⟨s.apart L s.w (Zf s L), rfl, rfl, Evo.apart hs hA, WF.apart hs hA, fun t v vv hi hr => ?_⟩
  unfold frV
  cases hf : frzN P s.H 4 t v with
  | none => exact RA_mono hs (Evo.apart hs hA) _ _ hr
  | some y =>
    simp only [orV, RA]
    refine RP_mono (fun k hk => ?_) (fun _ _ => rfl) y vv (frz_ok hs 4 t v y vv hf hr)
    rcases hk with h | ⟨b, hb, he⟩
    · exact .inl h
    · exact .inr ⟨b, hi b hb, he⟩

theorem stF_ok {s : St} (hs : WF s) {t : TypeId} {a v : AV} {va vv : Value} (ha : RA s a va) (hv : RA s v vv) :
    ∃ s1 : St, s1.H = stH a v s.H ∧ s1.w = s.w ∧ Evo s s1 ∧ WF s1 ∧ RA s1 a va ∧ RA s1 (stV P t a v s.H) vv := by
  unfold stH stV
  split
  · obtain ⟨s1, h1, h2, h3, h4, h5⟩ := frz_st (P := P) hs (ids_frz 4 v vv hv)
    exact ⟨s1, h1, h2, h3, h4, RA_mono hs h3 _ _ ha, h5 t v vv (fun _ h => h) hv⟩
  · exact ⟨s, rfl, rfl, Evo.refl s, hs, ha, hv⟩

theorem frPs_RAs {s s1 : St} {t : TypeId} {L : List Nat} (h5 : ∀ (t : TypeId) (v : AV) (vv : Value), (∀ b ∈ ids 4 v, b ∈ L) → RA s v vv → RA s1 (frV P t s.H v) vv) :
    ∀ (ps : List (Nat × AV)) (vs : List Value), (∀ b ∈ ps.flatMap fun q => ids 4 q.2, b ∈ L) → RAs s (ps.map (·.2)) vs → RAs s1 ((frPs P t ps s.H).map (·.2)) vs
  | [], vs, _, h => by simpa [frPs, RAs] using h
  | q :: ps, vs, hi, h => by
    simp only [List.map_cons, RAs] at h
    obtain ⟨v, r, rfl, h1, h2⟩ := h
    simp only [List.flatMap_cons, List.mem_append] at hi
    simp only [frPs, List.map_cons, RAs]
    exact ⟨v, r, rfl, h5 _ _ _ (fun b hb => hi b (.inl hb)) h1, frPs_RAs h5 ps r (fun b hb => hi b (.inr hb)) h2⟩

theorem frF_ok {s : St} (hs : WF s) {t : TypeId} {ps : List (Nat × AV)} {vs : List Value} (hv : RAs s (ps.map (·.2)) vs) :
    ∃ s1 : St, s1.H = frH ps s.H ∧ s1.w = s.w ∧ Evo s s1 ∧ WF s1 ∧ RAs s1 ((frPs P t ps s.H).map (·.2)) vs := by
  have e : (ps.flatMap fun q => ids 4 q.2) = (ps.map (·.2)).flatMap (ids 4) := by
    rw [List.flatMap_map]
  obtain ⟨s1, h1, h2, h3, h4, h5⟩ := frz_st (P := P) hs (L := ps.flatMap fun q => ids 4 q.2) (e ▸ ids_frzs 4 _ vs hv)
  exact ⟨s1, h1, h2, h3, h4, frPs_RAs h5 ps vs (fun _ h => h) hv⟩
theorem frPs_fst {t : TypeId} (ps : List (Nat × AV)) (H : Heap) : (frPs P t ps H).map (·.1) = ps.map (·.1) := by
  simp [frPs, List.map_map, Function.comp_def]

theorem Sim.of {s s1 : St} {m : Sem Value} {av : AV} {H' : Heap} (hw : s1.w = s.w) (ev : Evo s s1) (h : Sim P s1 m av H') : Sim P s m av H' := by
  obtain ⟨v, s', h1, h2, h3, h4, h5⟩ := h
  exact ⟨v, s', hw ▸ h1, h2, ev.trans h3, h4, h5⟩
theorem SimU.of {s s1 : St} {m : Sem Unit} {H' : Heap} (hw : s1.w = s.w) (ev : Evo s s1) (h : SimU P s1 m H') : SimU P s m H' := by
  obtain ⟨s', h1, h2, h3, h4⟩ := h
  exact ⟨s', hw ▸ h1, h2, ev.trans h3, h4⟩

section
variable {C : Cfg} {ρ : Option Nat} {s : St} {a : Act} {o : Oper} {k : AV → Heap → Prop} {next : Act → World → Prop} {Q : Exit → Act → World → Prop}

theorem fin_v (hn : ∀ s' v av, Evo s s' → WF s' → RA s' av v → k av s'.H → next (a.put o.dst v) s'.w) {m : Sem Value} {av : AV} {H' : Heap} (h : Sim P s m av H') (hk : k av H') :
    o.uponIn (Fr ρ) 0 P a next Q ((do pure (.value (← m)) : Sem Next).run P s.w) := by
  obtain ⟨v, s', h1, h2, h3, h4, h5⟩ := h
  simp only [Sem.run_bind, h1, Result.andThen_ok, Sem.run_pure]
  exact hn s' v av h3 h4 h5 (h2 ▸ hk)
theorem fin_n (hn : ∀ s' v av, Evo s s' → WF s' → RA s' av v → k av s'.H → next (a.put o.dst v) s'.w) {m : Sem Next} {av : AV} {H' : Heap} (h : SimN P s m av H') (hk : k av H') :
    o.uponIn (Fr ρ) 0 P a next Q (m.run P s.w) := by
  obtain ⟨v, s', h1, h2, h3, h4, h5⟩ := h
  rw [h1]
  exact hn s' v av h3 h4 h5 (h2 ▸ hk)
theorem fin_u (hn : ∀ s' v av, Evo s s' → WF s' → RA s' av v → k av s'.H → next (a.put o.dst v) s'.w) {m : Sem Unit} {H' : Heap} (h : SimU P s m H') (hk : k .undef H') :
    o.uponIn (Fr ρ) 0 P a next Q ((do m; pure .skip : Sem Next).run P s.w) := by
  obtain ⟨s', h1, h2, h3, h4⟩ := h
  simp only [Sem.run_bind, h1, Result.andThen_ok, Sem.run_pure]
  exact hn s' undef .undef h3 h4 (by simp only [RA]) (h2 ▸ hk)
theorem fin_p (hn : ∀ s' v av, Evo s s' → WF s' → RA s' av v → k av s'.H → next (a.put o.dst v) s'.w) (hs : WF s) {v : Value} {av : AV} (h : RA s av v) (hk : k av s.H) :
    o.uponIn (Fr ρ) 0 P a next Q ((pure (.value v) : Sem Next).run P s.w) := by
  simp only [Sem.run_pure]
  exact hn s v av (Evo.refl s) hs h hk

theorem oK_inv {α : Type} {x : Option α} {k : α → Prop} {t : Tag k} (h : oK x k t) : ∃ y, x = some y ∧ k y := by
  cases x with
  | none => exact h.elim
  | some y => exact ⟨y, rfl, h⟩

theorem fin_call (hn : ∀ s' v av, Evo s s' → WF s' → RA s' av v → k av s'.H → next (a.put o.dst v) s'.w) (hs : WF s) {f : FuncId} {args : List AV} {vs : List Value} (h : CallOK P f args s.H k) (hr : RAs s args vs) :
    o.uponIn (Fr ρ) 0 P a next Q (.ok (.enter f vs.toArray) s.w) := by
  rw [Oper.uponIn_enter]
  refine ⟨by simp [Fr_depth], (Fr_calls (h.2 s vs rfl hs hr)).mono ?_⟩
  rintro e w' ⟨v, s', av, rfl, rfl, h3, h4, h5, h6⟩
  exact hn s' v av h3 h4 h5 h6

theorem RAs_app {args caps : List AV} {vs cs : List Value} (h : RAs s args vs) (k : RAs s caps cs) : RAs s (args ++ caps) (vs ++ cs) := RAs_append h k

theorem callV_ok (hx : ExtOK C) (hn : ∀ s' v av, Evo s s' → WF s' → RA s' av v → k av s'.H → next (a.put o.dst v) s'.w) (hs : WF s) {fv : AV} {fval : Value} {args : List AV} {vs : Array Value} (h : evCallV C (Sm C.P) fv args s.H k) (hf : RA s fv fval) (hr : RAs s args vs.toList) :
    o.uponIn (Fr ρ) 0 C.P a next Q ((do let d ← Deferred.ofValue fval vs; invoke d.target d.args : Sem Next).run C.P s.w) := by
  have go : ∀ (f : FuncId) (caps : List AV) (cs : List Value), evCall C (Sm C.P) f (args ++ caps) s.H k → fval = .func (.func f) #[] cs.toArray → RAs s caps cs →
      o.uponIn (Fr ρ) 0 C.P a next Q ((do let d ← Deferred.ofValue fval vs; invoke d.target d.args : Sem Next).run C.P s.w) := by
    rintro f caps cs h1 rfl h2
    have hc := evCall_ok hx h1
    have hrun : (do let d ← Deferred.ofValue (.func (.func f) #[] cs.toArray) vs; invoke d.target d.args : Sem Next).run C.P s.w = .ok (.enter f (vs.toList ++ cs).toArray) s.w := by
      have := hc.1 (vs.toList ++ cs).toArray s.w
      have e : vs ++ cs.toArray = (vs.toList ++ cs).toArray := by apply Array.ext'; simp
      simp only [Deferred.ofValue, Sem.run_bind, Sem.run_pure, Result.andThen_ok, invoke]
      simp only [Array.empty_append, e, this]
    rw [hrun]
    exact fin_call hn hs hc (RAs_append hr h2)
  unfold evCallV at h
  split at h
  · rename_i f caps
    simp only [RA, RP] at hf
    obtain ⟨cs, rfl, h1⟩ := hf
    exact go f (caps.map AV.p) cs h rfl (RAs_map_p.2 h1)
  · rename_i f caps
    simp only [RA] at hf
    obtain ⟨cs, rfl, h1⟩ := hf
    exact go f caps cs h rfl h1
  · rename_i b
    simp only [RA] at hf
    obtain ⟨_, rfl⟩ := hf
    obtain ⟨f, tmps, as, bd, h1, h2⟩ := h s vs.toList rfl hs hr
    have hrun : (do let d ← Deferred.ofValue (.func (.yield (s.ι b)) #[] #[]) vs; invoke d.target d.args : Sem Next).run C.P s.w = .ok (.round (s.ι b) f tmps as bd) s.w := by
      simp only [Deferred.ofValue, Sem.run_bind, Sem.run_pure, Result.andThen_ok, invoke]
      simpa using h1
    rw [hrun, Oper.uponIn_round]
    refine ⟨by simp [Fr_depth], (Fr_round_in h2).mono ?_⟩
    rintro e w' ⟨v, s', av, rfl, rfl, h3, h4, h5, h6⟩
    exact hn s' v av h3 h4 h5 h6
  · exact h.elim

theorem evOp_ok (hx : ExtOK C) {op : Op} {env : Env} (h : evOp C (Sm C.P) op env s.H k) (ho : o.op = op) (hs : WF s) (he : REnv s env a.tmps)
    (hn : ∀ s' v av, Evo s s' → WF s' → RA s' av v → k av s'.H → next (a.put o.dst v) s'.w) : o.uponIn (Fr ρ) 0 C.P a next Q ((o.semAt ρ a.eval).run C.P s.w) := by
  have hnd : ∀ c, o.op ≠ .defer c := by
    intro c hc
    rw [← ho, hc] at h
    exact h
  rw [Oper.semAt_eq ρ a.eval o hnd]
  unfold execOp
  rw [ho]
  unfold evOp at h
  split at h
  · exact fin_p hn hs (oper_ok he _) h
  · exact fin_p hn hs (oper_ok he _) h
  · obtain ⟨v, hv, h⟩ := oK_inv h
    obtain ⟨t, u, h1, h2, h3⟩ := pick_ok (oper_ok he _) (oper_ok he _) (oper_ok he _) hv
    simp only [h1, asBool, Sem.run_bind, Sem.run_pure, Result.andThen_ok]
    rw [h2] at h3
    exact hn s _ v (Evo.refl s) hs h3 h
  · obtain ⟨r, hr, h⟩ := oK_inv h
    exact fin_v hn (alloc_ok hs hr) h
  · exact fin_v hn (box_ok hs (oper_ok he _) _) h
  · obtain ⟨v, hv, h⟩ := oK_inv h
    obtain ⟨h1, h2⟩ := parts_of he _
    exact fin_v hn (evBuild_ok hs h1 h2 hv) h
  · obtain ⟨r, hr, h⟩ := oK_inv h
    obtain ⟨h1, h2⟩ := parts_of he _
    obtain ⟨s1, e1, e2, e3, e4, e5⟩ := frF_ok (P := C.P) (t := elT C.P _) hs h2
    exact fin_v hn (Sim.of e2 e3 (buildSlice_ok e4 (h1.trans (frPs_fst _ _).symm) e5 (e1 ▸ hr))) h
  · obtain ⟨v, hv, h⟩ := oK_inv h
    exact fin_v hn (evLoad_ok hs (oper_ok he _) hv) h
  · obtain ⟨H', hH, h⟩ := oK_inv h
    rename_i t x y _
    obtain ⟨s1, e1, e2, e3, e4, e5, e6⟩ := stF_ok (P := C.P) (t := t) hs (oper_ok he x) (oper_ok he y)
    exact fin_u hn (SimU.of e2 e3 (evStore_ok e4 e5 e6 (e1 ▸ hH))) h
  · rename_i x
    obtain ⟨v, hv, h⟩ := oK_inv h
    have hR := oper_ok he x
    obtain ⟨rfl, h1⟩ := nonNil_ok hR hv
    rcases h1 with ⟨ad, h1⟩ | ⟨f, cs, h1⟩ | ⟨l, h1⟩ <;> (dsimp only; rw [h1] at hR ⊢; exact fin_p hn hs hR h)
  · obtain ⟨r, hr, h⟩ := oK_inv h
    obtain ⟨av, h1, h2⟩ := binOp_ok hs (oper_ok he _) (oper_ok he _) hr _ _
    refine fin_v hn h1 ?_
    rcases h2 with rfl | ⟨rfl, b, rfl⟩
    · exact h
    · exact h b
  · obtain ⟨v, hv, h⟩ := oK_inv h
    exact fin_v hn (unOp_ok hs (oper_ok he _) hv) h
  · obtain ⟨r, hr, h⟩ := oK_inv h
    exact fin_v hn (convert_ok hs (oper_ok he _) hr) h
  · rename_i f caps
    have hR := opers_of he caps
    refine fin_v hn (Sim.same hs (v := .func (.func f) #[] (caps.map a.eval)) (by simp [Instr.makeFunc]) ?_) h
    refine RA_mkFn ?_
    simp only [RA]
    exact ⟨_, by rw [Array.toArray_toList], hR⟩
  · obtain ⟨_, _, h⟩ := oK_inv h
    exact fin_v hn (makeMap_ok hs _) h
  · obtain ⟨r, hr, h⟩ := oK_inv h
    exact fin_v hn (makeSlice_ok hs (oper_ok he _) (oper_ok he _) hr) h
  · obtain ⟨v, hv, h⟩ := oK_inv h
    exact fin_v hn (evSlice_ok hs (oper_ok he _) (ORel_of he _) (ORel_of he _) (ORel_of he _) hv) h
  · obtain ⟨v, hv, h⟩ := oK_inv h
    exact fin_v hn (evFieldAddr_ok hs (oper_ok he _) hv) h
  · obtain ⟨v, hv, h⟩ := oK_inv h
    exact fin_v hn (evField_ok hs (oper_ok he _) hv) h
  · obtain ⟨v, hv, h⟩ := oK_inv h
    exact fin_v hn (evIndexAddr_ok hs (oper_ok he _) (oper_ok he _) hv) h
  · obtain ⟨v, hv, h⟩ := oK_inv h
    exact fin_v hn (evIndex_ok hs (oper_ok he _) (oper_ok he _) hv) h
  · obtain ⟨v, hv, h⟩ := oK_inv h
    exact fin_v hn (look_ok hs (oper_ok he _) (oper_ok he _) hv) h
  · obtain ⟨H', hH, h⟩ := oK_inv h
    exact fin_u hn (mapUpdate_ok hs (oper_ok he _) (oper_ok he _) (oper_ok he _) hH) h
  · obtain ⟨r, hr, h⟩ := oK_inv h
    exact fin_v hn (mapEntry_ok hs (oper_ok he _) (oper_ok he _) hr) h
  · obtain ⟨H', hH, h⟩ := oK_inv h
    exact fin_u hn (entryStore_ok hs (oper_ok he _) (oper_ok he _) (oper_ok he _) hH) h
  · obtain ⟨r, hr, h⟩ := oK_inv h
    exact fin_v hn (range_ok hs (oper_ok he _) hr) h
  · split at h
    · rename_i it x c hc
      obtain ⟨r, hr, h⟩ := oK_inv h
      have hR := oper_ok he it
      rw [hc] at hR
      obtain ⟨av, H', h1, h2⟩ := next_ok (ty := o.type) hs hR hr h
      exact fin_v hn h1 h2
    · exact h.elim
  · split at h
    · rename_i it x c hc
      obtain ⟨r, hr, h⟩ := oK_inv h
      have hR := oper_ok he it
      rw [hc] at hR
      exact fin_v hn (entry_ok hs hR hr) h
    · exact h.elim
  · obtain ⟨v, hv, h⟩ := oK_inv h
    exact fin_v hn (extract_ok hs (oper_ok he _) hv) h
  · rename_i c
    split at h
    · rename_i f hc
      have hR := opers_of he c.args
      have := callV_ok (ρ := ρ) (Q := Q) hx hn hs h (oper_ok he f) hR
      simpa only [resolve, hc] using this
    · rename_i b hc
      obtain ⟨r, hr, h⟩ := oK_inv h
      have hR := opers_of he c.args
      have hb := builtin_ok (ty := o.type) (cs := c.args.map fun | .const _ => true | _ => false) hs hR hr
      rw [Array.toArray_toList] at hb
      have := fin_n (ρ := ρ) (Q := Q) hn hb h
      simp only [resolve, hc, Sem.run_bind, Sem.run_pure, Result.andThen_ok, invoke]
      exact this
    · exact h.elim
  · exact h.elim

end
end Go.Ev
end
section
/- A REGION's OPERATIONS, one after another. -/
namespace Go.Ev
variable {C : Cfg}

theorem size_put (a : Act) (d : Option Tmp) (v : Value) : (a.put d v).tmps.size = a.tmps.size := by
  cases d with
  | none => rfl
  | some t => simp [Act.put]
theorem defers_put (a : Act) (d : Option Tmp) (v : Value) : (a.put d v).defers = a.defers := by cases d <;> rfl

theorem Pre.put {ρ : Option Nat} {sz : Nat} {s s' : St} {a : Act} {env : Env} (h : Pre ρ sz s a env) (e : Evo s s') (hs : WF s') {d : Option Tmp} {x : AV} {v : Value} (hx : RA s' x v) (hd : ∀ t, d = some t → t < a.tmps.size) : Pre ρ sz s' (a.put d v) (env.put d x) where
  wf := hs
  env := put_ok (h.env.mono h.wf e) hx hd
  marks := by rw [defers_put]; exact h.marks.mono e
  size := Nat.le_trans h.size e.size
  round := fun l hl => by
    obtain ⟨b, h1, h2⟩ := h.round l hl
    obtain ⟨h3, h4⟩ := e.oth b true h1
    exact ⟨b, h3, by rw [h4]; exact h2⟩

theorem Pre.same {ρ : Option Nat} {sz : Nat} {s : St} {a : Act} {env env' : Env} (h : Pre ρ sz s a env) (he : REnv s env' a.tmps) : Pre ρ sz s a env' := ⟨h.wf, he, h.marks, h.size, h.round⟩

theorem asB_some {x : AV} {b : Bool} (h : asB x = some b) : x = .p (.bool b) := by
  unfold asB at h
  split at h
  · cases h; rfl
  · cases h

theorem gN_true' {want : Bool} {v : AV} {r : Bool × AV} (h : gN want v = some r) (hr : r.1 = true) : v = .p (.bool want) := by
  unfold gN at h
  split at h
  · rename_i b
    simp only [Option.some.injEq] at h; subst h
    have : b = want := by simpa using hr
    rw [this]
  · simp only [Option.some.injEq] at h; subst h; cases hr
  · cases h
theorem gN_false' {want : Bool} {v : AV} {r : Bool × AV} (h : gN want v = some r) (hr : r.1 = false) : v = r.2 := by
  unfold gN at h
  split at h
  · rename_i b
    simp only [Option.some.injEq] at h; subst h
    cases b <;> cases want <;> simp_all
  · simp only [Option.some.injEq] at h; subst h; rfl
  · cases h
theorem getD_bool {tmps : Array Value} {g : Nat} {b : Bool} (h : tmps.getD g undef = .bool b) : tmps[g]? = some (.bool b) := by
  rw [Array.getD_eq_getD_getElem?] at h
  cases hg : tmps[g]? with
  | none => rw [hg] at h; simp [undef] at h
  | some v => rw [hg] at h; simp at h; rw [h]

theorem REnv_upd {s : St} {env : Env} {tmps : Array Value} (h : REnv s env tmps) {g : Nat} {x : AV} (hx : RA s x (tmps.getD g undef)) : REnv s (env.upd g x) tmps := fun t => by
  unfold Env.upd
  split
  · rename_i e; subst e; exact hx
  · exact h t

theorem gN_yield {s : St} {want : Bool} {v : AV} {r : Bool × AV} {tmps : Array Value} {g j : Nat} {ops : Array Oper} (h : gN want v = some r) (hr : r.1 = false) (hR : RA s v (tmps.getD g undef)) (hd : (ops[j]?).bind (·.dst) = some g) :
    (yielded ops tmps j == some want) = false := by
  unfold gN at h
  split at h
  · rename_i b
    simp only [Option.some.injEq] at h; subst h
    simp only [RA, RP] at hR
    have hgt := getD_bool hR
    simp only [yielded, hd, Option.bind_some, hgt]
    cases b <;> cases want <;> simp_all
  · simp only [RA, RP] at hR
    obtain ⟨cs, h1, h2⟩ := hR
    simp only [RPs] at h2
    subst h2
    simp only [yielded, hd, Option.bind_some]
    rw [Array.getD_eq_getD_getElem?] at h1
    cases hg : tmps[g]? with
    | none => simp
    | some w => rw [hg] at h1; simp at h1; subst h1; simp
  · cases h
theorem evOps_ok (hx : ExtOK C) {ρ : Option Nat} {sz : Nat} {ops : Array Oper} {K : Env → Heap → Prop} {Q : Exit → Act → World → Prop} {n : Nat} (hsl : ∀ o ∈ ops.toList, ∀ t, o.dst = some t → t < n) :
    ∀ (l : List Nat) (L : List Oper) (env : Env) (s : St) (a : Act), l.map (ops[·]?) = L.map some → evOps C (Sm C.P) (ops.toList.map (·.dst)) L env s.H K → Pre ρ sz s a env → a.tmps.size = n →
      (∀ s' a' env', Evo s s' → Pre ρ sz s' a' env' → a'.tmps.size = n → K env' s'.H → Q .normal a' s'.w) → wpOpsIn (Fr ρ) 0 C.P ops Q l a s.w
  | [], L, env, s, a, hl, h, hp, hn, hq => by
    cases L with
    | nil => exact hq s a env (Evo.refl s) hp hn h
    | cons o L => simp at hl
  | i :: l, L, env, s, a, hl, h, hp, hn, hq => by
    cases L with
    | nil => simp at hl
    | cons o L =>
      simp only [List.map_cons, List.cons.injEq] at hl
      obtain ⟨hi, hl⟩ := hl
      have hmem : o ∈ ops.toList := by
        rw [← Array.getElem?_toList] at hi
        exact List.mem_of_getElem? hi
      have hd : ∀ t, o.dst = some t → t < a.tmps.size := fun t ht => by rw [hn]; exact hsl o hmem t ht
      simp only [wpOpsIn, hi]
      obtain ⟨dst, op, ty, af, po, gd⟩ := o
      cases gd with
      | none =>
        simp only [evOps] at h
        simp only [Region.wanted, if_true, Oper.wpIn, Fr_round]
        refine ⟨fun f _ => Fr_fn ρ f, ?_⟩
        refine evOp_ok (o := ⟨dst, op, ty, af, po, none⟩) (k := fun v H' => evOps C (Sm C.P) (ops.toList.map (·.dst)) L (env.put dst v) H' K) hx h rfl hp.wf hp.env ?_
        intro s' v av ev hs' hR hk
        exact evOps_ok hx hsl l L (env.put dst av) s' (a.put dst v) hl hk (hp.put ev hs' hR hd) (by rw [size_put]; exact hn) fun s2 a2 env2 e2 => hq s2 a2 env2 (ev.trans e2)
      | some gw =>
        obtain ⟨j, want⟩ := gw
        simp only [evOps] at h
        obtain ⟨g, hg, h⟩ := oK_inv h
        obtain ⟨r, hb, h⟩ := oK_inv h
        have hdj : (ops[j]?).bind (·.dst) = some g := by
          rw [List.getElem?_map, Array.getElem?_toList] at hg
          cases ho : ops[j]? with
          | none => rw [ho] at hg; simp at hg
          | some oo => rw [ho] at hg; simpa using hg
        simp only [Region.wanted]
        cases hbw : r.1 with
        | true =>
          rw [hbw, cK_true] at h
          obtain ⟨b, rfl⟩ : ∃ b, b = want := ⟨want, rfl⟩
          have hRg := hp.env g
          rw [gN_true' hb hbw] at hRg
          simp only [RA, RP] at hRg
          have hgt := getD_bool hRg
          have hy : yielded ops a.tmps j = some b := by simp only [yielded, hdj, Option.bind_some, hgt]
          simp only [hy]
          have hp2 : Pre ρ sz s a (env.upd g (.p (.bool b))) := hp.same (REnv_upd hp.env (by simp only [RA, RP]; exact hRg))
          have hse : (some b == some b) = true := by simp
          rw [if_pos hse, Oper.wpIn, Fr_round]
          refine ⟨fun f _ => Fr_fn ρ f, ?_⟩
          refine evOp_ok (o := ⟨dst, op, ty, af, po, some (j, b)⟩) (k := fun v H' => evOps C (Sm C.P) (ops.toList.map (·.dst)) L ((env.upd g (.p (.bool b))).put dst v) H' K) hx h rfl hp.wf hp2.env ?_
          intro s' v av ev hs' hR hk
          exact evOps_ok hx hsl l L ((env.upd g (.p (.bool b))).put dst av) s' (a.put dst v) hl hk (hp2.put ev hs' hR hd) (by rw [size_put]; exact hn) fun s2 a2 env2 e2 => hq s2 a2 env2 (ev.trans e2)
        | false =>
          rw [hbw, cK_false] at h
          have hRg := hp.env g
          have hp2 : Pre ρ sz s a (env.upd g r.2) := hp.same (REnv_upd hp.env (by rw [← gN_false' hb hbw]; exact hRg))
          have hse : (yielded ops a.tmps j == some want) = false := gN_yield hb hbw hRg hdj
          simp only [hse, Bool.false_eq_true, if_false]
          refine ⟨fun f _ => Fr_fn ρ f, ?_⟩
          exact evOps_ok hx hsl l L _ s (a.put dst undef) hl h (hp2.put (Evo.refl s) hp.wf (by simp only [skp, RA, RP]; exact ⟨[], rfl, rfl⟩) hd) (by rw [size_put]; exact hn) hq

end Go.Ev
end
