/- A part of the proof: walks of the functions that the law calls. No condition. -/
import Derived.Sort.AssemblyPlain
import Derived.Test.YtlbdgdpnilebpaaEvC
set_option linter.all false
section
/- RUNNING THE EVALUATOR on closed inputs: what it reckons is so. -/
namespace Go.Ev

/-- places, as a tree over what they were -/
inductive Tr2 where
  | nil
  | node (v : Option AV) (l r : Tr2)
def Tr2.get : Tr2 → Nat → Option AV
  | .nil, _ => none
  | .node v l r, t => match t with
    | 0 => v
    | t + 1 => match (t % 2) with
      | 0 => l.get (t / 2)
      | _ => r.get (t / 2)
def Tr2.set : Tr2 → Nat → AV → Option Tr2
  | .nil, _, _ => none
  | .node v l r, t, x => match t with
    | 0 => some (.node (some x) l r)
    | t + 1 => match (t % 2) with
      | 0 => match l.set (t / 2) x with | some l' => some (.node v l' r) | none => none
      | _ => match r.set (t / 2) x with | some r' => some (.node v l r') | none => none
theorem Tr2.get_set : ∀ (e e' : Tr2) (t : Nat) (x : AV), e.set t x = some e' → ∀ u, e'.get u = if u = t then some x else e.get u
  | .nil, e', t, x, h, u => by simp [Tr2.set] at h
  | .node v l r, e', 0, x, h, u => by
    simp [Tr2.set] at h
    subst h
    cases u <;> simp [Tr2.get]
  | .node v l r, e', t + 1, x, h, u => by
    rcases Nat.mod_two_eq_zero_or_one t with h0 | h0
    · simp only [Tr2.set, h0] at h
      split at h
      · rename_i l' hl
        simp only [Option.some.injEq] at h; subst h
        have ih := Tr2.get_set l l' (t / 2) x hl
        cases u with
        | zero => simp [Tr2.get]
        | succ u =>
          rcases Nat.mod_two_eq_zero_or_one u with h1 | h1
          · simp only [Tr2.get, h1]
            rw [ih]
            by_cases hu : u = t
            · subst hu; simp
            · have : ¬ u / 2 = t / 2 := by omega
              simp [hu, this]
          · have : ¬ u = t := by omega
            simp [Tr2.get, h1, this]
      · cases h
    · simp only [Tr2.set, h0] at h
      split at h
      · rename_i r' hr
        simp only [Option.some.injEq] at h; subst h
        have ih := Tr2.get_set r r' (t / 2) x hr
        cases u with
        | zero => simp [Tr2.get]
        | succ u =>
          rcases Nat.mod_two_eq_zero_or_one u with h1 | h1
          · have : ¬ u = t := by omega
            simp [Tr2.get, h1, this]
          · simp only [Tr2.get, h1]
            rw [ih]
            by_cases hu : u = t
            · subst hu; simp
            · have : ¬ u / 2 = t / 2 := by omega
              simp [hu, this]
      · cases h
def Tr2.full : Nat → Tr2
  | 0 => .nil
  | d + 1 => .node none (Tr2.full d) (Tr2.full d)
theorem Tr2.get_full : ∀ d t, (Tr2.full d).get t = none
  | 0, t => rfl
  | d + 1, 0 => rfl
  | d + 1, t + 1 => by
    simp only [Tr2.full, Tr2.get]
    split <;> exact Tr2.get_full d _

structure EV where
  base : Env
  t : Tr2
def EV.lk (e : EV) : Env := fun u => (e.t.get u).getD (e.base u)
def EV.upd (e : EV) (u : Nat) (x : AV) : Option EV := match e.t.set u x with | some t => some ⟨e.base, t⟩ | none => none
def EV.put (e : EV) (d : Option Tmp) (x : AV) : Option EV := match d with | some u => e.upd u x | none => some e
def EV.of (base : Env) : EV := ⟨base, Tr2.full 9⟩
theorem EV.lk_of (b : Env) : (EV.of b).lk = b := by funext u; simp [EV.lk, EV.of, Tr2.get_full]
theorem EV.lk_upd {e e' : EV} {u : Nat} {x : AV} (h : e.upd u x = some e') : e'.lk = e.lk.upd u x := by
  unfold EV.upd at h
  split at h
  · rename_i t ht
    simp only [Option.some.injEq] at h; subst h
    funext w
    simp only [EV.lk, Env.upd, Tr2.get_set _ _ _ _ ht]
    split <;> rfl
  · cases h
theorem EV.lk_put {e e' : EV} {d : Option Tmp} {x : AV} (h : e.put d x = some e') : e'.lk = e.lk.put d x := by
  cases d with
  | none => simp only [EV.put, Option.some.injEq] at h; subst h; rfl
  | some u => exact EV.lk_upd h

/-! values held against each other -/
mutual
def PV.same : PV → PV → Bool
  | .bool a, .bool b => a == b
  | .int k a, .int k' b => decide (k = k') && a == b
  | .str a, .str b => a == b
  | .agg a, .agg b => PV.sames a b
  | .tup a, .tup b => PV.sames a b
  | .sl s a, .sl s' b => s == s' && PV.sames a b
  | .nptr, .nptr => true
  | .fp a s o, .fp b s' o' => s == s' && o == o' && PV.same a b
  | .nfn, .nfn => true
  | .fn f a, .fn f' b => decide (f = f') && PV.sames a b
  | .nmap, .nmap => true
  | .nif, .nif => true
  | _, _ => false
def PV.sames : List PV → List PV → Bool
  | [], [] => true
  | a :: r, b :: s => PV.same a b && PV.sames r s
  | _, _ => false
end
mutual
theorem PV.same_eq : ∀ (a b : PV), PV.same a b = true → a = b := by
  intro a b h
  cases a <;> cases b <;> simp only [PV.same, Bool.and_eq_true, beq_iff_eq, decide_eq_true_eq, Bool.false_eq_true] at h
  · rw [h]
  · rw [h.1, h.2]
  · rw [h]
  · rw [PV.sames_eq _ _ h]
  · rw [PV.sames_eq _ _ h]
  · rw [h.1, PV.sames_eq _ _ h.2]
  · rfl
  · rw [h.1.1, h.1.2, PV.same_eq _ _ h.2]
  · rfl
  · rw [h.1, PV.sames_eq _ _ h.2]
  · rfl
  · rfl
theorem PV.sames_eq : ∀ (a b : List PV), PV.sames a b = true → a = b
  | [], [], _ => rfl
  | a :: r, b :: s, h => by
    simp only [PV.sames, Bool.and_eq_true] at h
    rw [PV.same_eq _ _ h.1, PV.sames_eq _ _ h.2]
  | [], _ :: _, h => by simp [PV.sames] at h
  | _ :: _, [], h => by simp [PV.sames] at h
end
def AV.same : AV → AV → Bool
  | .p a, .p b => PV.same a b
  | .undef, .undef => true
  | .nsl, .nsl => true
  | .ref b g o l e, .ref b' g' o' l' e' => b == b' && g == g' && o == o' && l == l' && e == e'
  | .vptr b o, .vptr b' o' => b == b' && o == o'
  | .eptr b g i o, .eptr b' g' i' o' => b == b' && g == g' && i == i' && o == o'
  | .yld b, .yld b' => b == b'
  | .map b, .map b' => b == b'
  | .it b, .it b' => b == b'
  | .fn f [], .fn f' [] => decide (f = f')
  | .fn f [.vptr a b], .fn f' [.vptr a' b'] => decide (f = f') && a == a' && b == b'
  | _, _ => false
theorem AV.same_eq (a b : AV) (h : AV.same a b = true) : a = b := by
  unfold AV.same at h
  split at h <;> (try simp only [Bool.and_eq_true, beq_iff_eq, decide_eq_true_eq, Bool.false_eq_true] at h) <;> first
    | exact h.elim
    | (rw [PV.same_eq _ _ h]) | rfl | (obtain ⟨⟨⟨⟨rfl, rfl⟩, rfl⟩, rfl⟩, rfl⟩ := h; rfl) | (obtain ⟨⟨⟨rfl, rfl⟩, rfl⟩, rfl⟩ := h; rfl) | (obtain ⟨⟨rfl, rfl⟩, rfl⟩ := h; rfl) | (obtain ⟨rfl, rfl⟩ := h; rfl) | (subst h; rfl)

/-- What a run knows of calls, yields, loops. -/
structure XT where
  call : FuncId → List AV → Heap → Option (AV × Heap)
  yield : Nat → List AV → Heap → Option (AV × Heap)
  loop : Code → EV → Heap → Option (Ex × EV × Heap)

def xCall (C : Cfg) (X : XT) (f : FuncId) (args : List AV) (H : Heap) : Option (AV × Heap) :=
  match C.md f with
  | .imp => X.call f args H
  | .pure => match C.P.funcs[f]? with
    | none => none
    | some fn => match frzL (frzN C.P H 4) args fn.params.toList with
      | none => none
      | some pa => match X.call f (pa.map AV.p) [] with
        | none => none
        | some (av, H') => match frzR C.P H' fn.resultTypes.toList av with
          | none => none
          | some r => some (.p r, if r.flat then H else freezeIds (args.flatMap (ids 4)) H)
  | .own => match C.P.funcs[f]? with
    | none => none
    | some fn => match frzL (frzN C.P H 4) args fn.params.toList with
      | none => none
      | some pa => match X.call f (pa.map AV.p) [] with
        | none => none
        | some (av, H') => takeOwn av H' (freezeIds (args.flatMap (ids 4)) H)
  | _ => none

def xOp (C : Cfg) (X : XT) (op : Op) (env : Env) (H : Heap) : Option (AV × Heap) :=
  match op with
  | .move x | .assign x => some (oper env x, H)
  | .pick c a b => (evPick (oper env c) (oper env a) (oper env b)).map fun v => (v, H)
  | .alloc t => evAlloc C.P t H
  | .box _ x => some (.vptr H.length 0, H ++ [.var true (oper env x)])
  | .build t ps => (evBuild C.P t (ps.toList.map fun q => (q.1, oper env q.2))).map fun v => (v, H)
  | .buildSlice t n ps => evBuildSlice C.P t n (frPs C.P (elT C.P t) (ps.toList.map fun q => (q.1, oper env q.2)) H) (frH (ps.toList.map fun q => (q.1, oper env q.2)) H)
  | .load t a => (evLoad C.P t (oper env a) H).map fun v => (v, H)
  | .store t a v => (evStore C.P t (oper env a) (stV C.P t (oper env a) (oper env v) H) (stH (oper env a) (oper env v) H)).map fun H' => (.undef, H')
  | .nilCheck x => (nonNil (oper env x)).map fun v => (v, H)
  | .binOp op t x y _ => (binAV C.P op t (oper env x) (oper env y)).join.map fun v => (v, H)
  | .unOp op _ x => ((unP (oper env x)).bind (unPV op)).map fun v => (.p v, H)
  | .convert a b x => evConvert C.P a b (oper env x) H
  | .makeFunc (.func f) ⟨[]⟩ caps => some (mkFn f (caps.toList.map (oper env)), H)
  | .makeMap t none => (tmap C.P t).map fun _ => (.map H.length, H ++ [.map true 0 [] []])
  | .makeSlice t l c => evMakeSlice C.P t (oper env l) (oper env c) H
  | .slice t x lo hi mx => (evSlice C.P t (oper env x) (lo.map (oper env)) (hi.map (oper env)) (mx.map (oper env)) H).map fun v => (v, H)
  | .fieldAddr t x f => (evFieldAddr C.P t (oper env x) f).map fun v => (v, H)
  | .field t x f => (evField C.P t (oper env x) f).map fun v => (v, H)
  | .indexAddr t x i => (evIndexAddr C.P t (oper env x) (oper env i) H).map fun v => (v, H)
  | .index t x i => (evIndex C.P t (oper env x) (oper env i)).map fun v => (v, H)
  | .lookup t m key ok => (evLook C.P t (oper env m) (oper env key) ok H).map fun v => (v, H)
  | .mapUpdate t m key v => (evMapUpdate C.P t (oper env m) (oper env key) (oper env v) H).map fun H' => (.undef, H')
  | .extract x i => (evExtract (oper env x) i).map fun v => (v, H)
  | .call c => match c.callee with
    | .value f => (match oper env f with
      | .p (.fn g caps) => xCall C X g (c.args.toList.map (oper env) ++ caps.map AV.p) H
      | .fn g caps => xCall C X g (c.args.toList.map (oper env) ++ caps) H
      | .yld b => X.yield b (c.args.toList.map (oper env)) H
      | _ => none)
    | .builtin b => evBuiltin C.P b c.argTypes.toList (c.args.toList.map (oper env)) H
    | .invoke _ _ => none
  | _ => none

def xOps (C : Cfg) (X : XT) (D : List (Option Tmp)) : List Oper → EV → Heap → Option (EV × Heap)
  | [], e, H => some (e, H)
  | o :: rest, e, H => match o.guard with
    | none => (match xOp C X o.op e.lk H with
      | none => none
      | some (v, H') => match e.put o.dst v with
        | none => none
        | some e' => xOps C X D rest e' H')
    | some (j, want) => (match (D[j]?).join with
      | none => none
      | some g => match gN want (e.lk g) with
        | none => none
        | some r => match r.1 with
          | true => (match e.upd g (.p (.bool want)) with
            | none => none
            | some e1 => match xOp C X o.op e1.lk H with
              | none => none
              | some (v, H') => match e1.put o.dst v with
                | none => none
                | some e' => xOps C X D rest e' H')
          | false => (match e.upd g r.2 with
            | none => none
            | some e1 => match e1.put o.dst skp with
              | none => none
              | some e' => xOps C X D rest e' H))

def xStill (P : Program) (D : List (Option Tmp)) (ops : Array Oper) (env : Env) (H : Heap) : List Nat → Bool
  | [] => true
  | i :: r => (match ops[i]? with
    | some o => (match o.dst with
      | some d => (match rdO P D o env H with | some v => AV.same v (env d) | none => false)
      | none => (rdO P D o env H).isSome)
    | none => false) && xStill P D ops env H r

def xP (C : Cfg) (X : XT) (D : List (Option Tmp)) (ops : Array Oper) : Pl → EV → Heap → Option (EV × Heap)
  | .done, e, H => some (e, H)
  | .r i t, e, H => match ops[i]? with
    | none => none
    | some o => match rdO C.P D o e.lk H with
      | none => none
      | some v => match e.put o.dst v with
        | none => none
        | some e' => xP C X D ops t e' H
  | .o j chk t .stop, e, H => (match ops[j]? with
    | none => none
    | some o => match xOps C X D [o] e H with
      | none => none
      | some (e', H') => match xStill C.P D ops e'.lk H' chk with
        | true => xP C X D ops t e' H'
        | false => none)
  | _, _, _ => none

def xC (C : Cfg) (X : XT) : Code → EV → Heap → Option (Ex × EV × Heap)
  | .skip, e, H => some (.normal, e, H)
  | .region _ ops false, e, H => (match xOps C X (ops.toList.map (·.dst)) ops.toList e H with | some (e', H') => some (.normal, e', H') | none => none)
  | .region _ ops true, e, H => (match okPlan C.P ops (mkPlan C.P ops) with
    | false => none
    | true => match (mkPlan C.P ops).pl with
      | none => (match xOps C X (ops.toList.map (·.dst)) ops.toList e H with | some (e', H') => some (.normal, e', H') | none => none)
      | some pl => (match xP C X (ops.toList.map (·.dst)) ops pl e H with | some (e', H') => some (.normal, e', H') | none => none))
  | .seq a b, e, H => (match xC C X a e H with
    | some (.normal, e', H') => xC C X b e' H'
    | r => r)
  | .cond c a b, e, H => (match asB (oper e.lk c) with
    | some true => xC C X a e H
    | some false => xC C X b e H
    | none => none)
  | .block id a, e, H => (match xC C X a e H with
    | some (.exit i, e', H') => if i = id then some (.normal, e', H') else some (.exit i, e', H')
    | r => r)
  | .loop a, e, H => X.loop a e H
  | .rangeFunc f ps assign body, e, H => (match oper e.lk f with
    | .p (.fn g caps) => (match C.md g with
      | .imp => (match X.call g (.yld H.length :: caps.map AV.p) (H ++ [.loop .ready none e.lk ps assign body]) with
        | none => none
        | some (_, H2) => match H2[H.length]? with
          | some (.loop st pend env' ps' a' b') => (match st with
            | .busy => none
            | _ => some ((match pend with | none => .normal | some ex => ex), e, H2.set H.length (.loop .exhausted pend env' ps' a' b')))
          | _ => none)
      | _ => none)
    | .fn g caps => (match C.md g with
      | .imp => (match X.call g (.yld H.length :: caps) (H ++ [.loop .ready none e.lk ps assign body]) with
        | none => none
        | some (_, H2) => match H2[H.length]? with
          | some (.loop st pend env' ps' a' b') => (match st with
            | .busy => none
            | _ => some ((match pend with | none => .normal | some ex => ex), e, H2.set H.length (.loop .exhausted pend env' ps' a' b')))
          | _ => none)
      | _ => none)
    | _ => none)
  | .exit id, e, H => some (.exit id, e, H)
  | .ret, e, H => some (.ret, e, H)
  | .label _, e, H => some (.normal, e, H)
  | .goto l, e, H => some (.goto l, e, H)
  | .scope _, _, _ => none
  | .refuse _, _, _ => none

def xRes (P : Program) (rs : List ResultVar) (r : Option (Ex × EV × Heap)) : Option (AV × Heap) :=
  match r with
  | some (.normal, e, H) | some (.ret, e, H) => (match results P e.lk H rs with | some vs => some (oneOrTup vs, H) | none => none)
  | _ => none

/-- The run, so many calls and rounds deep. -/
def xrun (C : Cfg) (ok : FuncId → Bool) : Nat → XT
  | 0 => ⟨fun _ _ _ => none, fun _ _ _ => none, fun _ _ _ => none⟩
  | n + 1 => {
    call := fun f args H => match C.P.funcs[f]? with
      | none => none
      | some fn => match fn.body with
        | none => none
        | some c => match ok f && (args.length == fn.params.size + fn.nfree) with
          | true => xRes C.P fn.results.toList (xC C (xrun C ok n) c (EV.of (env0 args)) H)
          | false => none
    yield := fun b args H => match H[b]? with
      | some (.loop .ready none env ps assign body) => (match args.length == ps.size with
        | false => none
        | true => match xC C (xrun C ok n) assign (EV.of fun t => ((ps.toList.zip args).find? (fun q => q.1 == t)).elim (env t) (·.2)) H with
          | some (.normal, e1, H1) => (match H1[b]? with
            | some (.loop .ready none env' p1 a1 b1) => (match xC C (xrun C ok n) body e1 (H1.set b (.loop .busy none env' p1 a1 b1)) with
              | none => none
              | some (ex, _, H2) => match H2[b]? with
                | some (.loop .busy none env2 p2 a2 b2) => (match ex with
                  | .normal => some (.p (.bool true), H2.set b (.loop .ready none env2 p2 a2 b2))
                  | x => some (.p (.bool false), H2.set b (.loop .done (some x) env2 p2 a2 b2)))
                | _ => none)
            | _ => none)
          | _ => none)
      | _ => none
    loop := fun c e H => match xC C (xrun C ok n) c e H with
      | some (.normal, e', H') => (xrun C ok n).loop c e' H'
      | r => r }
end Go.Ev
end
section
/- what the run reckons is so -/
namespace Go.Ev
variable {C : Cfg}
structure XS (C : Cfg) (x : XT) (X : Tr) : Prop where
  call : ∀ f args H v H' (Q : AV → Heap → Prop), x.call f args H = some (v, H') → Q v H' → X.call f args H Q
  yield : ∀ b args H v H' (Q : AV → Heap → Prop), x.yield b args H = some (v, H') → Q v H' → X.yield b args H Q
  loop : ∀ c e H ex e' H' (K : Ex → Env → Heap → Prop), x.loop c e H = some (ex, e', H') → K ex e'.lk H' → X.loop c e.lk H K

variable {x : XT} {X : Tr}
theorem ok1 {o : Option AV} {v : AV} {H H' : Heap} {k : AV → Heap → Prop} (h : o.map (fun v => (v, H)) = some (v, H')) (hk : k v H') : oK o fun v => k v H := by
  cases o with
  | none => cases h
  | some a => simp at h; obtain ⟨rfl, rfl⟩ := h; exact hk
theorem ok2 {o : Option (AV × Heap)} {v : AV} {H' : Heap} {k : AV → Heap → Prop} (h : o = some (v, H')) (hk : k v H') : oK o fun r => k r.1 r.2 := by
  subst h; exact hk
theorem ok3 {o : Option Heap} {v : AV} {H' : Heap} {k : AV → Heap → Prop} (h : o.map (fun H' => (AV.undef, H')) = some (v, H')) (hk : k v H') : oK o fun H' => k .undef H' := by
  cases o with
  | none => cases h
  | some a => simp at h; obtain ⟨rfl, rfl⟩ := h; exact hk

theorem xCall_ok (hs : XS C x X) {f : FuncId} {args : List AV} {H H' : Heap} {v : AV} {k : AV → Heap → Prop} (h : xCall C x f args H = some (v, H')) (hk : k v H') : evCall C X f args H k := by
  unfold xCall at h
  split at h
  · rename_i hm; rw [evCall_imp args hm]; exact hs.call _ _ _ _ _ _ h hk
  · rename_i hm
    split at h
    · cases h
    · rename_i fn hfn
      rw [evCall_pure args hm hfn]
      split at h
      · cases h
      · rename_i pa hpa
        rw [hpa, oK_some]
        split at h
        · cases h
        · rename_i av H1 hc
          refine hs.call _ _ _ _ _ _ hc ?_
          split at h
          · cases h
          · rename_i r hr
            simp only [Option.some.injEq, Prod.mk.injEq] at h
            obtain ⟨rfl, rfl⟩ := h
            rw [hr]; exact hk
  · rename_i hm
    split at h
    · cases h
    · rename_i fn hfn
      rw [evCall_own args hm hfn]
      split at h
      · cases h
      · rename_i pa hpa
        rw [hpa, oK_some]
        split at h
        · cases h
        · rename_i av H1 hc
          refine hs.call _ _ _ _ _ _ hc ?_
          rw [h]; exact hk
  · cases h

theorem xOp_ok (hs : XS C x X) {op : Op} {env : Env} {H H' : Heap} {v : AV} {k : AV → Heap → Prop} (h : xOp C x op env H = some (v, H')) (hk : k v H') : evOp C X op env H k := by
  unfold xOp at h
  split at h
  case h_1 => simp only [Option.some.injEq, Prod.mk.injEq] at h; obtain ⟨rfl, rfl⟩ := h; exact hk
  case h_2 => simp only [Option.some.injEq, Prod.mk.injEq] at h; obtain ⟨rfl, rfl⟩ := h; exact hk
  case h_3 => exact ok1 h hk
  case h_4 => exact ok2 h hk
  case h_5 => simp only [Option.some.injEq, Prod.mk.injEq] at h; obtain ⟨rfl, rfl⟩ := h; exact hk
  case h_6 => exact ok1 h hk
  case h_7 => exact ok2 h hk
  case h_8 => exact ok1 h hk
  case h_9 => exact ok3 h hk
  case h_10 => exact ok1 h hk
  case h_11 op t a b u =>
    rw [evOp_binOp]
    cases hb : binAV C.P op t (oper env a) (oper env b) with
    | none => rw [hb] at h; cases h
    | some o =>
      cases o with
      | none => rw [hb] at h; cases h
      | some w =>
        rw [hb] at h
        simp only [Option.join_some, Option.map_some, Option.some.injEq, Prod.mk.injEq] at h
        obtain ⟨rfl, rfl⟩ := h; exact hk
  case h_12 op t a =>
    show oK _ _
    cases hb : (unP (oper env a)).bind (unPV op) with
    | none => rw [hb] at h; cases h
    | some w => rw [hb] at h; simp only [Option.map_some, Option.some.injEq, Prod.mk.injEq] at h; obtain ⟨rfl, rfl⟩ := h; exact hk
  case h_13 => exact ok2 h hk
  case h_14 => simp only [Option.some.injEq, Prod.mk.injEq] at h; obtain ⟨rfl, rfl⟩ := h; exact hk
  case h_15 t =>
    show oK _ _
    cases hb : tmap C.P t with
    | none => rw [hb] at h; cases h
    | some w => rw [hb] at h; simp only [Option.map_some, Option.some.injEq, Prod.mk.injEq] at h; obtain ⟨rfl, rfl⟩ := h; exact hk
  case h_16 => exact ok2 h hk
  case h_17 => exact ok1 h hk
  case h_18 => exact ok1 h hk
  case h_19 => exact ok1 h hk
  case h_20 => exact ok1 h hk
  case h_21 => exact ok1 h hk
  case h_22 => exact ok1 h hk
  case h_23 => exact ok3 h hk
  case h_24 => exact ok1 h hk
  case h_25 c =>
    obtain ⟨callee, args, ts⟩ := c
    dsimp only at h
    split at h
    · rename_i _ f
      show evCallV C X (oper env f) _ H k
      split at h
      · rename_i g caps hg; rw [hg]; exact xCall_ok hs h hk
      · rename_i g caps hg; rw [hg]; exact xCall_ok hs h hk
      · rename_i b hg; rw [hg]; exact hs.yield _ _ _ _ _ _ h hk
      · cases h
    · exact ok2 h hk
    · cases h
  case h_26 => cases h

theorem xOps_ok (hs : XS C x X) (D : List (Option Tmp)) : ∀ (l : List Oper) (e e' : EV) (H H' : Heap) (K : Env → Heap → Prop), xOps C x D l e H = some (e', H') → K e'.lk H' → evOps C X D l e.lk H K
  | [], e, e', H, H', K, h, hk => by
    simp only [xOps, Option.some.injEq, Prod.mk.injEq] at h
    obtain ⟨rfl, rfl⟩ := h
    unfold evOps; exact hk
  | ⟨dst, op, ty, pos, af, none⟩ :: rest, e, e', H, H', K, h, hk => by
    rw [evOps_cons]
    simp only [xOps] at h
    split at h
    · cases h
    · rename_i v H1 hx
      split at h
      · cases h
      · rename_i e1 hp
        refine xOp_ok hs hx ?_
        rw [← EV.lk_put hp]
        exact xOps_ok hs D rest e1 e' H1 H' K h hk
  | ⟨dst, op, ty, pos, af, some (j, want)⟩ :: rest, e, e', H, H', K, h, hk => by
    rw [evOps_guard]
    simp only [xOps] at h
    split at h
    · cases h
    · rename_i g hg
      rw [gd, hg, oK_some]
      split at h
      · cases h
      · rename_i b hb
        rw [hb, oK_some]
        split at h
        · rename_i hbw
          rw [hbw, cK_true]
          split at h
          · cases h
          · rename_i e1 hu
            split at h
            · cases h
            · rename_i v H1 hx
              split at h
              · cases h
              · rename_i e2 hp
                rw [← EV.lk_upd hu]
                refine xOp_ok hs hx ?_
                rw [← EV.lk_put hp]
                exact xOps_ok hs D rest e2 e' H1 H' K h hk
        · rename_i hbw
          rw [hbw, cK_false]
          split at h
          · cases h
          · rename_i e1 hu
            split at h
            · cases h
            · rename_i e2 hp
              rw [← EV.lk_upd hu, ← EV.lk_put hp]
              exact xOps_ok hs D rest e2 e' H H' K h hk

theorem xStill_ok (P : Program) (D : List (Option Tmp)) (ops : Array Oper) (env : Env) (H : Heap) : ∀ l, xStill P D ops env H l = true → still P D ops env H l
  | [], _ => trivial
  | i :: r, h => by
    simp only [xStill, Bool.and_eq_true] at h
    refine ⟨?_, xStill_ok P D ops env H r h.2⟩
    have h1 := h.1
    cases ho : ops[i]? with
    | none => rw [ho] at h1; cases h1
    | some o =>
      rw [ho] at h1
      dsimp only at h1 ⊢
      cases hd : o.dst with
      | none => rw [hd] at h1; exact h1
      | some d =>
        rw [hd] at h1
        dsimp only at h1 ⊢
        cases hr : rdO P D o env H with
        | none => rw [hr] at h1; cases h1
        | some v => rw [hr] at h1; rw [AV.same_eq _ _ h1]

theorem xP_ok (hs : XS C x X) (D : List (Option Tmp)) (ops : Array Oper) : ∀ (pl : Pl) (e e' : EV) (H H' : Heap) (K : Env → Heap → Prop), xP C x D ops pl e H = some (e', H') → K e'.lk H' → evP C X D ops pl e.lk H K
  | .done, e, e', H, H', K, h, hk => by
    simp only [xP, Option.some.injEq, Prod.mk.injEq] at h
    obtain ⟨rfl, rfl⟩ := h
    exact hk
  | .r i t, e, e', H, H', K, h, hk => by
    simp only [xP] at h
    show (match ops[i]? with | some o => _ | none => False)
    split at h
    · cases h
    · rename_i o ho
      rw [ho]
      split at h
      · cases h
      · rename_i v hv
        dsimp only
        rw [hv, oK_some]
        split at h
        · cases h
        · rename_i e1 hp
          rw [← EV.lk_put hp]
          exact xP_ok hs D ops t e1 e' H H' K h hk
  | .o j chk t .stop, e, e', H, H', K, h, hk => by
    simp only [xP] at h
    refine ⟨?_, trivial⟩
    split at h
    · cases h
    · rename_i o ho
      rw [ho]
      split at h
      · cases h
      · rename_i e1 H1 hx
        refine xOps_ok hs D [o] e e1 H H1 _ hx ?_
        split at h
        · rename_i hst
          exact ⟨xStill_ok _ _ _ _ _ _ hst, xP_ok hs D ops t e1 e' H1 H' K h hk⟩
        · cases h
  | .o j chk t .done, e, e', H, H', K, h, hk => by simp [xP] at h
  | .o j chk t (.r _ _), e, e', H, H', K, h, hk => by simp [xP] at h
  | .o j chk t (.o _ _ _ _), e, e', H, H', K, h, hk => by simp [xP] at h
  | .stop, e, e', H, H', K, h, hk => trivial

theorem xC_ok (hs : XS C x X) : ∀ (c : Code) (e e' : EV) (H H' : Heap) (ex : Ex) (K : Ex → Env → Heap → Prop), xC C x c e H = some (ex, e', H') → K ex e'.lk H' → evC C X c e.lk H K := by
  intro c
  induction c with
  | skip => intro e e' H H' ex K h hk; simp only [xC, Option.some.injEq, Prod.mk.injEq] at h; obtain ⟨rfl, rfl, rfl⟩ := h; exact hk
  | region id ops d =>
    intro e e' H H' ex K h hk
    cases d with
    | false =>
      simp only [xC] at h
      split at h
      · rename_i e1 H1 hx
        simp only [Option.some.injEq, Prod.mk.injEq] at h
        obtain ⟨rfl, rfl, rfl⟩ := h
        exact xOps_ok hs _ _ _ _ _ _ _ hx hk
      · cases h
    | true =>
      simp only [xC] at h
      split at h
      · cases h
      · rename_i hpl
        show evD C X ops e.lk H (K .normal)
        refine ⟨hpl, ?_⟩
        split at h
        · rename_i hn
          rw [hn]
          split at h
          · rename_i e1 H1 hx
            simp only [Option.some.injEq, Prod.mk.injEq] at h
            obtain ⟨rfl, rfl, rfl⟩ := h
            exact xOps_ok hs _ _ _ _ _ _ _ hx hk
          · cases h
        · rename_i pl hn
          rw [hn]
          split at h
          · rename_i e1 H1 hx
            simp only [Option.some.injEq, Prod.mk.injEq] at h
            obtain ⟨rfl, rfl, rfl⟩ := h
            exact xP_ok hs _ _ _ _ _ _ _ _ hx hk
          · cases h
  | seq a b iha ihb =>
    intro e e' H H' ex K h hk
    rw [evC_seq]
    simp only [xC] at h
    cases ha : xC C x a e H with
    | none => rw [ha] at h; cases h
    | some r =>
      obtain ⟨ex1, e1, H1⟩ := r
      rw [ha] at h
      refine iha e e1 H H1 ex1 _ ha ?_
      cases ex1 with
      | normal => exact ihb e1 e' H1 H' ex K h hk
      | _ => simp only [Option.some.injEq, Prod.mk.injEq] at h; obtain ⟨rfl, rfl, rfl⟩ := h; exact hk
  | cond c a b iha ihb =>
    intro e e' H H' ex K h hk
    rw [evC_cond]
    simp only [xC] at h
    split at h
    · rename_i hb; rw [hb, oK_some]; exact iha e e' H H' ex K h hk
    · rename_i hb; rw [hb, oK_some]; exact ihb e e' H H' ex K h hk
    · cases h
  | block id a iha =>
    intro e e' H H' ex K h hk
    rw [evC_block]
    simp only [xC] at h
    cases ha : xC C x a e H with
    | none => rw [ha] at h; cases h
    | some r =>
      obtain ⟨ex1, e1, H1⟩ := r
      rw [ha] at h
      refine iha e e1 H H1 ex1 _ ha ?_
      cases ex1 with
      | exit i =>
        dsimp only at h
        show (if i = id then _ else _)
        split at h
        · rename_i hi
          simp only [Option.some.injEq, Prod.mk.injEq] at h; obtain ⟨rfl, rfl, rfl⟩ := h
          rw [if_pos hi]; exact hk
        · rename_i hi
          simp only [Option.some.injEq, Prod.mk.injEq] at h; obtain ⟨rfl, rfl, rfl⟩ := h
          rw [if_neg hi]; exact hk
      | _ => simp only [Option.some.injEq, Prod.mk.injEq] at h; obtain ⟨rfl, rfl, rfl⟩ := h; exact hk
  | loop a iha => intro e e' H H' ex K h hk; exact hs.loop _ _ _ _ _ _ _ h hk
  | rangeFunc f ps as bd _ _ =>
    intro e e' H H' ex K h hk
    simp only [xC] at h
    unfold evC
    split at h
    · rename_i g caps hf
      simp only [hf]
      split at h
      · rename_i hm
        simp only [hm]
        split at h
        · cases h
        · rename_i v H2 hc
          refine hs.call _ _ _ _ _ _ hc ?_
          split at h
          · rename_i st pend env' ps' a' b' hb
            rw [hb]
            split at h
            · cases h
            · rename_i hst
              simp only [Option.some.injEq, Prod.mk.injEq] at h
              obtain ⟨rfl, rfl, rfl⟩ := h
              refine ⟨fun he => hst he, ?_⟩
              cases pend <;> exact hk
          · cases h
      · cases h
    · rename_i g caps hf
      simp only [hf]
      split at h
      · rename_i hm
        simp only [hm]
        split at h
        · cases h
        · rename_i v H2 hc
          refine hs.call _ _ _ _ _ _ hc ?_
          split at h
          · rename_i st pend env' ps' a' b' hb
            rw [hb]
            split at h
            · cases h
            · rename_i hst
              simp only [Option.some.injEq, Prod.mk.injEq] at h
              obtain ⟨rfl, rfl, rfl⟩ := h
              refine ⟨fun he => hst he, ?_⟩
              cases pend <;> exact hk
          · cases h
      · cases h
    · cases h
  | exit i => intro e e' H H' ex K h hk; simp only [xC, Option.some.injEq, Prod.mk.injEq] at h; obtain ⟨rfl, rfl, rfl⟩ := h; exact hk
  | ret => intro e e' H H' ex K h hk; simp only [xC, Option.some.injEq, Prod.mk.injEq] at h; obtain ⟨rfl, rfl, rfl⟩ := h; exact hk
  | label l => intro e e' H H' ex K h hk; simp only [xC, Option.some.injEq, Prod.mk.injEq] at h; obtain ⟨rfl, rfl, rfl⟩ := h; exact hk
  | goto l => intro e e' H H' ex K h hk; simp only [xC, Option.some.injEq, Prod.mk.injEq] at h; obtain ⟨rfl, rfl, rfl⟩ := h; exact hk
  | scope a _ => intro e e' H H' ex K h hk; cases h
  | refuse w => intro e e' H H' ex K h hk; cases h

/-- **THE RUN IS SOUND.** -/
theorem xrun_ok (he : ExtMono C) (ok : FuncId → Bool) : ∀ n, XS C (xrun C ok n) (W C ok)
  | 0 => ⟨(fun _ _ _ _ _ _ h => nomatch h), (fun _ _ _ _ _ _ h => nomatch h), (fun _ _ _ _ _ _ _ h => nomatch h)⟩
  | n + 1 => by
    have ih := xrun_ok he ok n
    refine ⟨fun f args H v H' Q h hq => ?_, fun b args H v H' Q h hq => ?_, fun c e H ex e' H' K h hk => ?_⟩
    · refine (W_fold he ok).call f _ _ _ _ (fun _ _ h => h) ?_
      simp only [xrun] at h
      simp only [Tr.step]
      split at h
      · cases h
      · rename_i fn hfn
        split at h
        · cases h
        · rename_i c hc
          split at h
          · rename_i hok
            simp only [Bool.and_eq_true, beq_iff_eq] at hok
            simp only [hfn, hc]
            refine ⟨hok.1, hok.2, ?_⟩
            unfold xRes at h
            cases hx : xC C (xrun C ok n) c (EV.of (env0 args)) H with
            | none => rw [hx] at h; cases h
            | some r =>
              obtain ⟨ex, e1, H1⟩ := r
              have := fun K => xC_ok ih c (EV.of (env0 args)) e1 H H1 ex K hx
              rw [EV.lk_of] at this
              refine this _ ?_
              rw [hx] at h
              cases ex <;> simp only at h <;> try cases h
              · cases hr : results C.P e1.lk H1 fn.results.toList with
                | none => rw [hr] at h; cases h
                | some vs => rw [hr] at h; simp only [Option.some.injEq, Prod.mk.injEq] at h; obtain ⟨rfl, rfl⟩ := h; rw [oK_some]; exact hq
              · cases hr : results C.P e1.lk H1 fn.results.toList with
                | none => rw [hr] at h; cases h
                | some vs => rw [hr] at h; simp only [Option.some.injEq, Prod.mk.injEq] at h; obtain ⟨rfl, rfl⟩ := h; rw [oK_some]; exact hq
          · cases h
    · refine (W_fold he ok).yield b _ _ _ _ (fun _ _ h => h) ?_
      simp only [xrun] at h
      simp only [Tr.step]
      split at h
      · rename_i env ps as bd hb
        split at h
        · cases h
        · rename_i hl
          simp only [hb]
          refine ⟨by simpa using hl, ?_⟩
          split at h
          · rename_i e1 H1 hx
            have := fun K => xC_ok ih as (EV.of fun t => ((ps.toList.zip args).find? (fun q => q.1 == t)).elim (env t) (·.2)) e1 H H1 .normal K hx
            rw [EV.lk_of] at this
            refine this _ ?_
            split at h
            · rename_i env' p1 a1 b1 hb1
              dsimp only
              split at h
              · cases h
              · rename_i ex e2 H2 hx2
                simp only [hb1]
                refine xC_ok ih bd e1 e2 _ H2 ex _ hx2 ?_
                split at h
                · rename_i env2 p2 a2 b2 hb2
                  simp only [hb2]
                  cases ex <;> simp only [Option.some.injEq, Prod.mk.injEq] at h <;> obtain ⟨rfl, rfl⟩ := h <;> exact hq
                · cases h
            · cases h
          · cases h
      · cases h
    · refine (W_fold he ok).loop c _ _ _ _ (fun _ _ _ h => h) ?_
      simp only [xrun] at h
      simp only [Tr.step]
      cases hx : xC C (xrun C ok n) c e H with
      | none => rw [hx] at h; cases h
      | some r =>
        obtain ⟨ex1, e1, H1⟩ := r
        rw [hx] at h
        refine xC_ok ih c e e1 H H1 ex1 _ hx ?_
        cases ex1 with
        | normal => exact ih.loop _ _ _ _ _ _ _ h hk
        | _ => simp only [Option.some.injEq, Prod.mk.injEq] at h; obtain ⟨rfl, rfl, rfl⟩ := h; exact hk

/-- A closed call that answers true. -/
def isT (r : Option (AV × Heap)) : Bool := match r with | some (v, _) => AV.same v (.p (.bool true)) | none => false
theorem run_true (he : ExtMono C) {ok : FuncId → Bool} (n : Nat) {f : FuncId} {rts : List TypeId} (h : isT ((xrun C ok n).call f [] []) = true) : PS C ok f rts [] (fun r => r = .bool true) := by
  unfold isT at h
  split at h
  · rename_i v H' hc
    refine (xrun_ok he ok n).call f [] [] v H' _ hc ?_
    rw [AV.same_eq _ _ h]
    rfl
  · cases h
end Go.Ev
end
section
/- the walking lemmas: the definitions, put together; lengths -/
set_option linter.all false
namespace Go.Ev
theorem flat_bool (b : Bool) : (PV.bool b).flat = true := rfl
theorem flat_int (k : IntKind) (n : Int) : (PV.int k n).flat = true := rfl
theorem flat_str (s : List UInt8) : (PV.str s).flat = true := rfl
theorem flat_nptr : PV.nptr.flat = true := rfl
theorem flat_nfn : PV.nfn.flat = true := rfl
theorem flat_nmap : PV.nmap.flat = true := rfl
theorem flat_nif : PV.nif.flat = true := rfl
theorem flat_sl (sh : Nat) (xs : List PV) : (PV.sl sh xs).flat = false := rfl
theorem flat_fp (x : PV) (a b : Nat) : (PV.fp x a b).flat = false := rfl
theorem flat_fn (f : FuncId) (c : List PV) : (PV.fn f c).flat = false := rfl
theorem flat_fmap (a b : List PV) : (PV.fmap a b).flat = false := rfl
def wkLen := (And.intro (And.intro @List.length_append.{0} (And.intro @List.length_set.{0} @List.length_cons.{0})) (And.intro @List.length_nil.{0} (And.intro @List.length_map.{0,0} @Array.size_setIfInBounds.{0})))
def wkDef := (And.intro (And.intro (And.intro (And.intro (And.intro (And.intro @skp.eq_def @mkFn.eq_def) (And.intro @evBuildSlice.eq_def @mkTup.eq_def)) (And.intro (And.intro @mkAgg.eq_def @evFieldAddr.eq_def) (And.intro @evLoad.eq_def (And.intro @evStore.eq_def @evIndexAddr.eq_def)))) (And.intro (And.intro (And.intro @evAlloc.eq_def @evBuild.eq_def) (And.intro @evBuiltin.eq_def @evLen.eq_def)) (And.intro (And.intro @lenAV.eq_def @ldVar.eq_def) (And.intro @ldArr.eq_def (And.intro @stVar.eq_def @partA.eq_def))))) (And.intro (And.intro (And.intro (And.intro @partP.eq_def @partC.eq_def) (And.intro @withA.eq_def @stride.eq_def)) (And.intro (And.intro @evConvert.eq_def @convPV.eq_def) (And.intro @evMakeSlice.eq_def (And.intro @evSlice.eq_def @bnd.eq_def)))) (And.intro (And.intro (And.intro @atI.eq_def @binAV.eq_def) (And.intro @eqAV.eq_def @eqNil.eq_def)) (And.intro (And.intro @leafEq.eq_def @fillS.eq_1) (And.intro @fillS.eq_2 (And.intro @flatL.eq_1 @flatL.eq_2)))))) (And.intro (And.intro (And.intro (And.intro (And.intro @setR.eq_1 @setR.eq_2) (And.intro @fillA.eq_1 @fillA.eq_2)) (And.intro (And.intro @cellsEq.eq_1 @cellsEq.eq_2) (And.intro @results_tmp (And.intro @ite_pos'.{1} @ite_neg'.{1})))) (And.intro (And.intro (And.intro @if_true.{1} @if_false.{1}) (And.intro @ite_true.{1} @ite_false.{1})) (And.intro (And.intro @ne_eq.{1} @eq_self.{1}) (And.intro @PV.flat.eq_1 (And.intro @PV.flat.eq_2 @flat_bool))))) (And.intro (And.intro (And.intro (And.intro @flat_int @flat_str) (And.intro @flat_nptr @flat_nfn)) (And.intro (And.intro @flat_nmap @flat_nif) (And.intro @flat_sl (And.intro @flat_fp @flat_fn)))) (And.intro (And.intro (And.intro @flat_fmap @stV_v) (And.intro @stH_v (And.intro @stV_ep @stH_ep))) (And.intro (And.intro @orV_some @frPs_nil) (And.intro @frPs_p (And.intro @frH_nil @frH_p)))))))
def entK (x : AV) (H : Heap) (k : AV → Heap → Prop) (_ : Tag k := {}) : Prop := match x with
    | .it c => oK (entOf H c) fun r => k (mkTup [.p r.1, r.2]) H
    | _ => False
theorem evOp_entry {C : Cfg} {X : Tr} {env : Env} {H : Heap} {k : AV → Heap → Prop} (it : Operand) : evOp C X (.entry it) env H k = entK (oper env it) H k := rfl
theorem entK_it {H : Heap} {k : AV → Heap → Prop} (c : Nat) (t : Tag k) : entK (.it c) H k t = oK (entOf H c) fun r => k (mkTup [.p r.1, r.2]) H := rfl
def wkPre2 := (And.intro @evOp_entry @entK_it)
def wkE := (And.intro (And.intro @evC_region @evC_text) (And.intro @evC_cond @evC_block))
end Go.Ev
end
section
/- ROWS OF A HEAP AS ARRAYS: what a sort writes. -/
namespace Go.Ev
open Go.Sort
set_option linter.all false
section
variable {α : Type} [Inhabited α]
def encA (enc : α → PV) (d : Array α) : List PV := d.toList.map enc
theorem encA_len (enc : α → PV) (d : Array α) : (encA enc d).length = d.size := by simp [encA]
theorem encA_get {enc : α → PV} {d : Array α} {i : Nat} (h : i < d.size) : (encA enc d)[i]? = some (enc d[i]!) := by
  simp [encA, h]
theorem encA_set (enc : α → PV) (d : Array α) (i : Nat) (x : α) : (encA enc d).set i (enc x) = encA enc (d.setIfInBounds i x) := by
  simp [encA]
theorem swp_fold (d : Array α) (i j : Nat) : (d.setIfInBounds i d[j]!).setIfInBounds j d[i]! = swp d i j := rfl
/-- An array in a heap's row. -/
def RowA (enc : α → PV) (sh : Nat) (H : Heap) (b g : Nat) (d : Array α) : Prop := H[b]? = some (.arr true g sh (encA enc d))
/-- Nothing but a row has turned; there may be more. -/
def Frm (b : Nat) (H H' : Heap) : Prop := (∀ i, i ≠ b → i < H.length → H'[i]? = H[i]?) ∧ H.length ≤ H'.length
theorem Frm.refl (b : Nat) (H : Heap) : Frm b H H := ⟨fun _ _ _ => rfl, Nat.le_refl _⟩
theorem Frm.trans {b : Nat} {H H' H'' : Heap} (h : Frm b H H') (k : Frm b H' H'') : Frm b H H'' :=
  ⟨fun i hi hl => (k.1 i hi (by have := h.2; omega)).trans (h.1 i hi hl), Nat.le_trans h.2 k.2⟩
theorem Frm.set {b : Nat} {H H' : Heap} (h : Frm b H H') (x : Blk) : Frm b H (H'.set b x) :=
  ⟨fun i hi hl => by rw [List.getElem?_set_ne (fun e => hi e.symm)]; exact h.1 i hi hl, by simpa using h.2⟩
theorem Frm.app {b : Nat} {H H' : Heap} (h : Frm b H H') (x : Heap) : Frm b H (H' ++ x) :=
  ⟨fun i hi hl => by rw [List.getElem?_append_left (by have := h.2; omega)]; exact h.1 i hi hl, by have := h.2; simp; omega⟩
theorem RowA.lt {enc : α → PV} {sh : Nat} {H : Heap} {b g : Nat} {d : Array α} (h : RowA enc sh H b g d) : b < H.length := (List.getElem?_eq_some_iff.1 h).1
theorem RowA.put {enc : α → PV} {sh : Nat} {H : Heap} {b g : Nat} {d : Array α} (h : b < H.length) : RowA enc sh (H.set b (.arr true g sh (encA enc d))) b g d := by
  unfold RowA; simp [h]
theorem RowA.put2 {enc : α → PV} {sh : Nat} {H : Heap} {x : Blk} {b g : Nat} {d : Array α} (h : b < H.length) : RowA enc sh ((H.set b x).set b (.arr true g sh (encA enc d))) b g d := RowA.put (by simpa using h)
theorem RowA.keep {enc : α → PV} {sh : Nat} {H H' : Heap} {b g : Nat} {d : Array α} (h : RowA enc sh H b g d) (k : H'[b]? = H[b]?) : RowA enc sh H' b g d := k.trans h
end
theorem insInner_succ {α : Type} [Inhabited α] (lt : α → α → Bool) (a j : Nat) (d : Array α) : insInner lt a (j + 1) d = if j + 1 > a && lt d[j + 1]! d[j]! then insInner lt a j (swp d (j + 1) j) else d := rfl
theorem stop_st {C : Cfg} {X : Go.Ev.Tr} {env : Env} {H : Heap} {K : Ex → Env → Heap → Prop} {c : Code} {t : Tag c} {u : Tag K} (Φ : Env → Heap → Prop) (h0 : Φ env H) (h : ∀ e H, Φ e H → stopK C X c e H K) : stopK C X c env H K t u := h env H h0
theorem append_any {P : Program} {t e : TypeId} {sh : Nat} (ht : telem P t = some (e, sh)) {H : Heap} {v x : AV} {xs ys : List PV} {k : AV → Heap → Prop} {tg : Tag k} (hx : elems H sh x = some ys)
    (h : OwnS H v sh xs) (hsz : (xs.length + ys.length) * P.bytesOf e ≤ 2 ^ 46 ∧ xs.length + ys.length ≤ 2 ^ 46)
    (hk : ∀ v' H', OwnS H' v' sh (xs ++ ys) → (∀ c, c < H.length → v.blk ≠ some c → H'[c]? = H[c]?) → H.length ≤ H'.length → (∀ c, v'.blk = some c → c < H.length → v.blk = some c) → k v' H') :
    oK2 (evAppend P t v x H) k tg := by
  by_cases hy : ys = []
  · subst hy
    unfold evAppend
    rw [ht]
    simp only [Option.bind_some, hx]
    rcases h with ⟨rfl, rfl⟩ | ⟨b, g, rfl, hb⟩
    · simp only [List.length_nil, Nat.zero_add] at hsz ⊢
      rw [if_pos hsz]
      exact hk _ _ (OwnS.nil _ _) (fun c _ _ => rfl) (Nat.le_refl _) (fun c hc => by cases hc)
    · have hlt := (List.getElem?_eq_some_iff.1 hb).1
      simp only [hb]
      rw [if_pos ⟨trivial, trivial, by omega⟩, if_pos hsz, if_pos ⟨trivial, by omega⟩]
      refine hk _ _ (.inr ⟨b, g + 1, by simp, by simp [hlt]⟩) (fun c hc hne => ?_) (by simp) (fun c hc _ => hc)
      have : b ≠ c := fun e => hne (by rw [e]; rfl)
      rw [List.getElem?_set_ne this]
  · exact append_step ht hx hy h hsz hk
theorem own_shape {H : Heap} {v : AV} {sh : Nat} {xs : List PV} (h : OwnS H v sh xs) : v.shape = 0 ∧ v.isU = false ∧ v.stor = true := by
  rcases h with ⟨rfl, _⟩ | ⟨b, g, rfl, _⟩ <;> exact ⟨rfl, rfl, rfl⟩
/-- Behind a piece of code: what is known where it goes on; all else as it was asked. -/
def onNK (Φ : Env → Heap → Prop) (K : Ex → Env → Heap → Prop) (_ : Tag Φ := {}) (_ : Tag K := {}) : Ex → Env → Heap → Prop
  | .normal, e, H => Φ e H
  | x, e, H => K x e H
theorem onNK_normal (Φ : Env → Heap → Prop) (K : Ex → Env → Heap → Prop) (t : Tag Φ) (u : Tag K) (e : Env) (H : Heap) : onNK Φ K t u .normal e H = Φ e H := rfl
theorem onNK_ret (Φ : Env → Heap → Prop) (K : Ex → Env → Heap → Prop) (t : Tag Φ) (u : Tag K) (e : Env) (H : Heap) : onNK Φ K t u .ret e H = K .ret e H := rfl
theorem onNK_exit (Φ : Env → Heap → Prop) (K : Ex → Env → Heap → Prop) (t : Tag Φ) (u : Tag K) (i : Nat) (e : Env) (H : Heap) : onNK Φ K t u (.exit i) e H = K (.exit i) e H := rfl
theorem stop_cutK {C : Cfg} {ok : FuncId → Bool} (he : ExtMono C) (Φ : Env → Heap → Prop) {c : Code} {env : Env} {H : Heap} {K : Ex → Env → Heap → Prop} {t : Tag c} {u : Tag K}
    (h1 : evC C (W C ok) c env H (onNK Φ K)) (h2 : ∀ e H, Φ e H → K .normal e H) : stopK C (W C ok) c env H K t u := by
  refine evC_mono he W_self c env H _ _ ?_ h1
  intro x e H h
  cases x with
  | normal => exact h2 e H h
  | _ => exact h
/-- A closed call's answer. -/
def isAns (r : Option (AV × Heap)) (w : PV) : Bool := match r with | some (v, _) => AV.same v (.p w) | none => false
theorem run_eq {C : Cfg} (he : ExtMono C) {ok : FuncId → Bool} (n : Nat) {f : FuncId} {rts : List TypeId} {args : List PV} {w : PV} (h : isAns ((xrun C ok n).call f (args.map AV.p) []) w = true) : PS C ok f rts args (fun r => r = w) := by
  unfold isAns at h
  split at h
  · rename_i v H' hc
    refine (xrun_ok he ok n).call f _ [] v H' _ hc ?_
    rw [AV.same_eq _ _ h]
    rfl
  · cases h
theorem and_mask (r : Int) {m : Int} (h0 : 0 ≤ m) (h1 : m < 18446744073709551616) : ∃ k : Nat, IntKind.u64.wrap ((BitVec.ofInt IntKind.u64.bits r &&& BitVec.ofInt IntKind.u64.bits m).toNat : Int) = (k : Int) ∧ (k : Int) ≤ m := by
  refine ⟨(BitVec.ofInt IntKind.u64.bits r &&& BitVec.ofInt IntKind.u64.bits m).toNat, ?_, ?_⟩
  · have hb := (BitVec.ofInt IntKind.u64.bits r &&& BitVec.ofInt IntKind.u64.bits m).isLt
    have : (2 : Nat) ^ IntKind.u64.bits = 18446744073709551616 := by decide
    exact wrap_u64 (by omega) (by omega)
  · rw [BitVec.toNat_and]
    have h2 := Nat.and_le_right (n := (BitVec.ofInt IntKind.u64.bits r).toNat) (m := (BitVec.ofInt IntKind.u64.bits m).toNat)
    have h3 : (BitVec.ofInt IntKind.u64.bits m).toNat = m.toNat := by
      obtain ⟨k, rfl⟩ := Int.eq_ofNat_of_zero_le h0
      exact (bv_toNat k (by omega)).trans (by simp)
    omega
theorem elems_new2 {H : Heap} {x : Blk} {b g sh n : Nat} {xs : List PV} (hb : b = H.length + 1) (hn : n = xs.length) {l : Bool} {ex : Bool} : elems (H ++ [x, .arr l g sh xs]) sh (.ref b g 0 n ex) = some xs := by
  subst hb hn; simp [elems]
end Go.Ev
end
section
/- MAPS WITH INTEGER KEYS: looking up, writing. -/
namespace Go.Ev
set_option linter.all false
def kI (kd : IntKind) (K : List Int) : List PV := K.map (PV.int kd)
theorem findK_kI (kd : IntKind) (x : Int) : ∀ (K : List Int) (off : Nat), findK (.plain 2) (.int kd x) (kI kd K) off = some ((K.findIdx? (fun y => x == y)).map (· + off))
  | [], off => rfl
  | y :: K, off => by
    show (match keyEq (.plain 2) (.int kd x) (.int kd y) with | some true => some (some off) | some false => findK (.plain 2) (.int kd x) (kI kd K) (off + 1) | none => none) = _
    have : keyEq (.plain 2) (.int kd x) (.int kd y) = some (x == y) := by simp [keyEq, leafEq]
    rw [this, List.findIdx?_cons]
    cases h : (x == y)
    · simp only [findK_kI kd x K (off + 1)]
      cases List.findIdx? (fun y => x == y) K
      · rfl
      · simp; omega
    · simp
theorem keyOK_kI (kd : IntKind) (x : Int) : keyOK (.plain 2) (.int kd x) = true := by simp [keyOK, keyEq, leafEq]
section
variable {P : Program} {t k e : TypeId} {z : AV} {kd : IntKind} {H : Heap} {b g : Nat} {l : Bool} {K : List Int} {vs : List AV} {x : Int}
theorem look_hit (ht : tmap P t = some (k, e, .plain 2)) (hz : tzero P e = some z) (hb : H[b]? = some (.map l g (kI kd K) vs)) {i : Nat} {v : AV} (hi : K.findIdx? (fun y => x == y) = some i) (hv : vs[i]? = some v) (ok : Bool) :
    evLook P t (.map b) (.p (.int kd x)) ok H = some (if ok then mkTup [v, .p (.bool true)] else v) := by
  unfold evLook
  simp only [ht, Option.bind_some, hz, hb, keyOK_kI, if_true, evLookup, findK_kI, hi, Option.map_some, Nat.add_zero, hv]
theorem look_miss (ht : tmap P t = some (k, e, .plain 2)) (hz : tzero P e = some z) (hb : H[b]? = some (.map l g (kI kd K) vs)) (hx : x ∉ K) (ok : Bool) :
    evLook P t (.map b) (.p (.int kd x)) ok H = some (if ok then mkTup [z, .p (.bool false)] else z) := by
  have hi : K.findIdx? (fun y => x == y) = none := by
    rw [List.findIdx?_eq_none_iff]; intro y hy
    simp; exact fun e => hx (e ▸ hy)
  unfold evLook
  simp only [ht, Option.bind_some, hz, hb, keyOK_kI, if_true, evLookup, findK_kI, hi, Option.map_none]
  rfl
theorem look_fhit (ht : tmap P t = some (k, e, .plain 2)) (hz : tzero P e = some z) {ws : List PV} {i : Nat} {v : PV} (hi : K.findIdx? (fun y => x == y) = some i) (hv : ws[i]? = some v) (ok : Bool) :
    evLook P t (.p (.fmap (kI kd K) ws)) (.p (.int kd x)) ok H = some (if ok then mkTup [.p v, .p (.bool true)] else .p v) := by
  unfold evLook
  simp only [ht, Option.bind_some, hz, keyOK_kI, if_true, evLookup, findK_kI, hi, Option.map_some, Nat.add_zero, List.getElem?_map, hv]
theorem upd_new (ht : tmap P t = some (k, e, .plain 2)) (hb : H[b]? = some (.map true g (kI kd K) vs)) (hx : x ∉ K) (v : AV) :
    evMapUpdate P t (.map b) (.p (.int kd x)) v H = some (H.set b (.map true (g + 1) (kI kd (K ++ [x])) (vs ++ [v]))) := by
  have hi : K.findIdx? (fun y => x == y) = none := by
    rw [List.findIdx?_eq_none_iff]; intro y hy
    simp; exact fun e => hx (e ▸ hy)
  unfold evMapUpdate
  simp only [ht, Option.bind_some, hb, keyOK_kI, if_true, findK_kI, hi, Option.map_none, Option.map_some]
  simp [kI]
theorem upd_old (ht : tmap P t = some (k, e, .plain 2)) (hb : H[b]? = some (.map true g (kI kd K) vs)) {i : Nat} (hi : K.findIdx? (fun y => x == y) = some i) (v : AV) :
    evMapUpdate P t (.map b) (.p (.int kd x)) v H = some (H.set b (.map true g (kI kd K) (vs.set i v))) := by
  have hK : (kI kd K).set i (.int kd x) = kI kd K := by
    obtain ⟨h1, h2, _⟩ := List.findIdx?_eq_some_iff_getElem.1 hi
    have : K[i] = x := by simpa using (beq_iff_eq.1 h2).symm
    have h3 : (kI kd K)[i]'(by simpa [kI] using h1) = .int kd x := by simp [kI, this]
    rw [← h3, List.set_getElem_self]
  unfold evMapUpdate
  simp only [ht, Option.bind_some, hb, keyOK_kI, if_true, findK_kI, hi, Option.map_some, Nat.add_zero, hK]
end
end Go.Ev
end
section
/- maps as lists of entries, in whatever order -/
set_option linter.all false
namespace Go.Ev
section
variable {α : Type} {P : Program} {t k e : TypeId} {z : AV} {kd : IntKind} {H : Heap} {b g : Nat} {l : Bool} {κ : α → Int} {val : α → AV} {E : List α}
/-- The block of a map that has these entries. -/
def amB (kd : IntKind) (κ : α → Int) (val : α → AV) (l : Bool) (g : Nat) (E : List α) : Blk := .map l g (kI kd (E.map κ)) (E.map val)
theorem am_inj (nd : (E.map κ).Nodup) {i j : Nat} (hi : i < E.length) (hj : j < E.length) (h : κ E[i] = κ E[j]) : i = j := by
  rcases Nat.lt_trichotomy i j with h1 | h1 | h1
  · have := List.pairwise_iff_getElem.1 nd i j (by simpa using hi) (by simpa using hj) h1
    rw [List.getElem_map, List.getElem_map] at this
    exact absurd h this
  · exact h1
  · have := List.pairwise_iff_getElem.1 nd j i (by simpa using hj) (by simpa using hi) h1
    rw [List.getElem_map, List.getElem_map] at this
    exact absurd h.symm this
theorem am_find (nd : (E.map κ).Nodup) {i : Nat} (hi : i < E.length) : (E.map κ).findIdx? (fun y => κ E[i] == y) = some i := by
  rw [List.findIdx?_eq_some_iff_getElem]
  refine ⟨by simpa using hi, by simp, fun j hj => ?_⟩
  have : ¬ κ E[i] = κ E[j] := fun h => by have := am_inj nd hi (by omega) h; omega
  simpa using this
theorem am_hit (ht : tmap P t = some (k, e, .plain 2)) (hz : tzero P e = some z) (h : H[b]? = some (amB kd κ val l g E)) (nd : (E.map κ).Nodup) {x : α} (hx : x ∈ E) (ok : Bool) :
    evLook P t (.map b) (.p (.int kd (κ x))) ok H = some (if ok then mkTup [val x, .p (.bool true)] else val x) := by
  obtain ⟨i, hi, rfl⟩ := List.mem_iff_getElem.1 hx
  exact look_hit ht hz h (am_find nd hi) (by simp [hi]) ok
theorem am_miss (ht : tmap P t = some (k, e, .plain 2)) (hz : tzero P e = some z) (h : H[b]? = some (amB kd κ val l g E)) {n : Int} (hx : n ∉ E.map κ) (ok : Bool) :
    evLook P t (.map b) (.p (.int kd n)) ok H = some (if ok then mkTup [z, .p (.bool false)] else z) := look_miss ht hz h hx ok
theorem am_erase (nd : (E.map κ).Nodup) {i : Nat} (hi : i < E.length) : E.eraseIdx i = E.filter fun y => !(κ y == κ E[i]) := by
  induction E generalizing i with
  | nil => simp at hi
  | cons y l ih =>
    rw [List.map_cons, List.nodup_cons] at nd
    cases i with
    | zero =>
      simp only [List.eraseIdx_cons_zero, List.getElem_cons_zero]
      rw [List.filter_cons, if_neg (by simp), List.filter_eq_self.2]
      intro x hx
      have : κ x ≠ κ y := fun e => nd.1 (e ▸ List.mem_map.2 ⟨x, hx, rfl⟩)
      simpa using this
    | succ i =>
      simp only [List.eraseIdx_cons_succ, List.getElem_cons_succ]
      have hi' : i < l.length := by simpa using hi
      rw [List.filter_cons, if_pos, ih nd.2 hi']
      have : κ y ≠ κ l[i] := fun e => nd.1 (e ▸ List.mem_map.2 ⟨l[i], List.getElem_mem hi', rfl⟩)
      simpa using this
theorem am_none {n : Int} (hx : n ∉ E.map κ) : (E.filter fun y => !(κ y == n)) = E := by
  rw [List.filter_eq_self.2]
  intro x hx'
  have : κ x ≠ n := fun e => hx (e ▸ List.mem_map.2 ⟨x, hx', rfl⟩)
  simpa using this
theorem am_set_perm {x : α} : ∀ (l : List α) (i : Nat), i < l.length → (l.set i x).Perm (x :: l.eraseIdx i)
  | [], i, h => by simp at h
  | y :: l, 0, _ => List.Perm.refl _
  | y :: l, i + 1, h => by
    simp only [List.set_cons_succ, List.eraseIdx_cons_succ]
    exact ((am_set_perm l i (by simpa using h)).cons y).trans (List.Perm.swap _ _ _)
theorem am_upd (ht : tmap P t = some (k, e, .plain 2)) (h : H[b]? = some (amB kd κ val true g E)) (nd : (E.map κ).Nodup) (x : α) :
    ∃ g' E', evMapUpdate P t (.map b) (.p (.int kd (κ x))) (val x) H = some (H.set b (amB kd κ val true g' E')) ∧ E'.Perm (x :: E.filter fun y => !(κ y == κ x)) := by
  by_cases hx : κ x ∈ E.map κ
  · obtain ⟨y, hy, hk⟩ := List.mem_map.1 hx
    obtain ⟨i, hi, rfl⟩ := List.mem_iff_getElem.1 hy
    have hf := am_find nd hi
    rw [hk] at hf
    refine ⟨g, E.set i x, ?_, ?_⟩
    · rw [upd_old ht h hf]
      have : (E.set i x).map κ = E.map κ := by
        rw [List.map_set, ← hk]
        have h3 : (E.map κ)[i]'(by simpa using hi) = κ E[i] := by simp
        rw [← h3, List.set_getElem_self]
      simp [amB, this, List.map_set]
    · refine (am_set_perm E i hi).trans (List.Perm.cons _ ?_)
      rw [am_erase nd hi, hk]
  · refine ⟨g + 1, E ++ [x], ?_, ?_⟩
    · rw [upd_new ht h hx]
      simp [amB]
    · rw [am_none hx]
      exact List.perm_append_singleton x E
theorem eraseIdx_map' {β : Type} (f : α → β) : ∀ (l : List α) (i : Nat), (l.map f).eraseIdx i = (l.eraseIdx i).map f
  | [], i => by simp
  | y :: l, 0 => by simp
  | y :: l, i + 1 => by simp [eraseIdx_map' f l i]
theorem am_del (ht : tmap P t = some (k, e, .plain 2)) (h : H[b]? = some (amB kd κ val true g E)) (nd : (E.map κ).Nodup) (n : Int) :
    ∃ g', evDelete P t (.map b) (.p (.int kd n)) H = some (H.set b (amB kd κ val true g' (E.filter fun y => !(κ y == n)))) := by
  have hlt := (List.getElem?_eq_some_iff.1 h).1
  by_cases hx : n ∈ E.map κ
  · obtain ⟨y, hy, hk⟩ := List.mem_map.1 hx
    obtain ⟨i, hi, rfl⟩ := List.mem_iff_getElem.1 hy
    have hf := am_find nd hi
    rw [hk] at hf
    refine ⟨g + 1, ?_⟩
    unfold evDelete
    unfold amB at h
    simp only [ht, Option.bind_some, h, keyOK_kI, if_true, findK_kI, hf, Option.map_some, Nat.add_zero]
    rw [← hk, ← am_erase nd hi]
    simp [amB, kI, eraseIdx_map']
  · refine ⟨g, ?_⟩
    rw [am_none hx]
    have hi : (E.map κ).findIdx? (fun y => n == y) = none := by
      rw [List.findIdx?_eq_none_iff]; intro y hy
      simp; exact fun e => hx (e ▸ hy)
    have hs : H.set b (amB kd κ val true g E) = H := by
      apply List.ext_getElem?
      intro j
      by_cases hj : b = j
      · subst hj; rw [List.getElem?_set_self hlt, h]
      · rw [List.getElem?_set_ne hj]
    rw [hs]
    unfold evDelete
    unfold amB at h
    simp only [ht, Option.bind_some, h, keyOK_kI, if_true, findK_kI, hi, Option.map_none, Option.map_some]
end
end Go.Ev
end
section
/- MAPS, whatever their keys: what they tell, as a function. -/
namespace Go.Ev
set_option linter.all false
variable {κ β : Type} [DecidableEq κ]
/-- How keys are written. -/
def KeyEnc (kk : KeyK) (enc : κ → PV) : Prop := ∀ x y, keyEq kk (enc x) (enc y) = some (decide (x = y))
theorem findK_enc {kk : KeyK} {enc : κ → PV} (h : KeyEnc kk enc) (x : κ) : ∀ (K : List κ) (off : Nat), findK kk (enc x) (K.map enc) off = some ((K.findIdx? (fun y => decide (x = y))).map (· + off))
  | [], off => rfl
  | y :: K, off => by
    rw [List.map_cons, findK, h x y, List.findIdx?_cons]
    cases hd : decide (x = y)
    · simp only [findK_enc h x K (off + 1)]
      cases List.findIdx? (fun y => decide (x = y)) K
      · rfl
      · simp; omega
    · simp
theorem keyOK_enc {kk : KeyK} {enc : κ → PV} (h : KeyEnc kk enc) (x : κ) : keyOK kk (enc x) = true := by simp [keyOK, h x x]
/-- The first entry with that key. -/
def atKy (K : List κ) (V : List β) (x : κ) : Option β := (K.findIdx? (fun y => decide (x = y))).bind fun i => V[i]?
/-- A map that tells f. -/
def MF (H : Heap) (b : Nat) (enc : κ → PV) (val : β → AV) (f : κ → Option β) : Prop :=
  ∃ g K V, H[b]? = some (.map true g (K.map enc) (V.map val)) ∧ K.length = V.length ∧ ∀ x, f x = atKy K V x
theorem MF.lt {H : Heap} {b : Nat} {enc : κ → PV} {val : β → AV} {f : κ → Option β} (h : MF H b enc val f) : b < H.length := by
  obtain ⟨g, K, V, h1, _⟩ := h
  exact (List.getElem?_eq_some_iff.1 h1).1
theorem MF.keep {H H' : Heap} {b : Nat} {enc : κ → PV} {val : β → AV} {f : κ → Option β} (h : MF H b enc val f) (k : H'[b]? = H[b]?) : MF H' b enc val f := by
  obtain ⟨g, K, V, h1, h2, h3⟩ := h
  exact ⟨g, K, V, k.trans h1, h2, h3⟩
theorem MF.congr {H : Heap} {b : Nat} {enc : κ → PV} {val : β → AV} {f f' : κ → Option β} (h : MF H b enc val f) (k : ∀ x, f' x = f x) : MF H b enc val f' := by
  obtain ⟨g, K, V, h1, h2, h3⟩ := h
  exact ⟨g, K, V, h1, h2, fun x => (k x).trans (h3 x)⟩
theorem MF.new (H : Heap) (enc : κ → PV) (val : β → AV) : MF (H ++ [.map true 0 [] []]) H.length enc val (fun _ => none) :=
  ⟨0, [], [], by simp, rfl, fun x => rfl⟩
theorem atKy_set {K : List κ} {V : List β} {x : κ} {i : Nat} (hl : K.length = V.length) (hi : K.findIdx? (fun y => decide (x = y)) = some i) (y : β) (z : κ) : atKy K (V.set i y) z = if z = x then some y else atKy K V z := by
  obtain ⟨h1, h2, h3⟩ := List.findIdx?_eq_some_iff_getElem.1 hi
  by_cases hz : z = x
  · subst hz
    rw [if_pos rfl, atKy, hi, Option.bind_some, List.getElem?_set_self (by omega)]
  · rw [if_neg hz, atKy, atKy]
    cases hf : K.findIdx? (fun y => decide (z = y)) with
    | none => rfl
    | some j =>
      obtain ⟨j1, j2, _⟩ := List.findIdx?_eq_some_iff_getElem.1 hf
      have : i ≠ j := fun e => by
        subst e
        simp only [decide_eq_true_eq] at h2 j2
        exact hz (j2.trans h2.symm)
      rw [Option.bind_some, Option.bind_some, List.getElem?_set_ne this]
theorem atKy_push {K : List κ} {V : List β} {x : κ} (hl : K.length = V.length) (hi : K.findIdx? (fun y => decide (x = y)) = none) (y : β) (z : κ) : atKy (K ++ [x]) (V ++ [y]) z = if z = x then some y else atKy K V z := by
  by_cases hz : z = x
  · subst hz
    rw [if_pos rfl, atKy, List.findIdx?_append, hi]
    simp [List.findIdx?_cons, hl]
  · rw [if_neg hz, atKy, atKy, List.findIdx?_append]
    cases hf : K.findIdx? (fun y => decide (z = y)) with
    | none => simp [List.findIdx?_cons, hz]
    | some j =>
      obtain ⟨j1, _⟩ := List.findIdx?_eq_some_iff_getElem.1 hf
      simp only [Option.some_or, Option.bind_some]
      rw [List.getElem?_append_left (by omega)]
section
variable {P : Program} {t k e : TypeId} {kk : KeyK} {z : AV} {H : Heap} {b : Nat} {enc : κ → PV} {val : β → AV} {f : κ → Option β} {x : κ}
theorem MF.look (h : MF H b enc val f) (ht : tmap P t = some (k, e, kk)) (hk : KeyEnc kk enc) (hz : tzero P e = some z) (x : κ) (ok : Bool) :
    evLook P t (.map b) (.p (enc x)) ok H = some (if ok then mkTup [(f x).elim z val, .p (.bool (f x).isSome)] else (f x).elim z val) := by
  obtain ⟨g, K, V, h1, h2, h3⟩ := h
  unfold evLook
  simp only [ht, Option.bind_some, hz, h1, keyOK_enc hk, if_true, evLookup, findK_enc hk, h3 x, atKy]
  cases hf : K.findIdx? (fun y => decide (x = y)) with
  | none => rfl
  | some i =>
    have hi := (List.findIdx?_eq_some_iff_getElem.1 hf).1
    have hv : V[i]? = some V[i] := List.getElem?_eq_getElem (by omega)
    simp only [Option.map_some, Nat.add_zero, List.getElem?_map, hv, Option.bind_some, Option.elim_some, Option.isSome_some]
theorem MF.upd (h : MF H b enc val f) (ht : tmap P t = some (k, e, kk)) (hk : KeyEnc kk enc) (x : κ) (y : β) :
    ∃ B, evMapUpdate P t (.map b) (.p (enc x)) (val y) H = some (H.set b B) ∧ MF (H.set b B) b enc val (fun z => if z = x then some y else f z) := by
  have hlt := h.lt
  obtain ⟨g, K, V, h1, h2, h3⟩ := h
  unfold evMapUpdate
  simp only [ht, Option.bind_some, h1, keyOK_enc hk, if_true, findK_enc hk]
  cases hf : K.findIdx? (fun y => decide (x = y)) with
  | none =>
    refine ⟨.map true (g + 1) ((K ++ [x]).map enc) ((V ++ [y]).map val), by simp, g + 1, K ++ [x], V ++ [y], hs_set hlt, by simp [h2], fun w => ?_⟩
    dsimp only
    rw [atKy_push h2 hf, h3]
  | some i =>
    obtain ⟨i1, i2, _⟩ := List.findIdx?_eq_some_iff_getElem.1 hf
    have hK : (K.map enc).set i (enc x) = K.map enc := by
      have : K[i] = x := by simpa using (of_decide_eq_true i2).symm
      rw [← List.map_set, ← this, List.set_getElem_self]
    refine ⟨.map true g (K.map enc) ((V.set i y).map val), by simp [hK, List.map_set], g, K, V.set i y, hs_set hlt, by simp [h2], fun w => ?_⟩
    dsimp only
    rw [atKy_set h2 hf, h3]
/-- 'm[k] op= v', both halves. -/
theorem MF.entry (h : MF H b enc val f) (ht : tmap P t = some (k, e, kk)) (hk : KeyEnc kk enc) {y0 : β} (hz : tzero P e = some (val y0)) (x : κ) :
    ∃ B g i, evMapEntry P t (.map b) (.p (enc x)) H = some (.tup [(f x).elim (val y0) val, .stm b g i], H.set b B) ∧ MF (H.set b B) b enc val (fun z => if z = x then some ((f x).getD y0) else f z) ∧
      ∀ (H2 : Heap) (y : β), H2[b]? = some B → ∃ B', evEntryStore (.map b) (.stm b g i) (val y) H2 = some (H2.set b B') ∧ MF (H2.set b B') b enc val (fun z => if z = x then some y else f z) := by
  have hlt := h.lt
  obtain ⟨g, K, V, h1, h2, h3⟩ := h
  unfold evMapEntry
  simp only [ht, Option.bind_some, h1, keyOK_enc hk, if_true, findK_enc hk]
  have st : ∀ (g : Nat) (K : List κ) (V : List β) (i : Nat) (f' : κ → Option β), K.length = V.length → K.findIdx? (fun y => decide (x = y)) = some i → (∀ w, w ≠ x → f' w = f w) → (∀ w, f' w = atKy K V w) → ∀ (H2 : Heap) (y : β), H2[b]? = some (.map true g (K.map enc) (V.map val)) →
      ∃ B', evEntryStore (.map b) (.stm b g i) (val y) H2 = some (H2.set b B') ∧ MF (H2.set b B') b enc val (fun z => if z = x then some y else f z) := by
    intro g K V i f' hl hi hf1 hf2 H2 y hb
    obtain ⟨i1, _⟩ := List.findIdx?_eq_some_iff_getElem.1 hi
    have hlt2 := (List.getElem?_eq_some_iff.1 hb).1
    refine ⟨.map true g (K.map enc) ((V.set i y).map val), ?_, g, K, V.set i y, hs_set hlt2, by simp [hl], fun w => ?_⟩
    · unfold evEntryStore
      simp only [if_true, hb]
      rw [if_pos ⟨trivial, by simp; omega⟩, List.map_set]
    · dsimp only
      rw [atKy_set hl hi]
      by_cases hw : w = x
      · rw [if_pos hw, if_pos hw]
      · rw [if_neg hw, if_neg hw, ← hf1 w hw, hf2]
  cases hf : K.findIdx? (fun y => decide (x = y)) with
  | none =>
    have hfx : f x = none := by rw [h3, atKy, hf]; rfl
    refine ⟨.map true (g + 1) ((K ++ [x]).map enc) ((V ++ [y0]).map val), g + 1, K.length, by simp [hz, hfx], ⟨g + 1, K ++ [x], V ++ [y0], hs_set hlt, by simp [h2], fun w => ?_⟩, ?_⟩
    · dsimp only
      rw [atKy_push h2 hf, ← h3 w, hfx]; rfl
    · refine st _ _ _ _ (fun w => if w = x then some y0 else f w) (by simp [h2]) ?_ (fun w hw => if_neg hw) (fun w => ?_)
      · rw [List.findIdx?_append, hf]; simp [List.findIdx?_cons]
      · rw [atKy_push h2 hf, h3]
  | some i =>
    obtain ⟨i1, i2, _⟩ := List.findIdx?_eq_some_iff_getElem.1 hf
    have hK : (K.map enc).set i (enc x) = K.map enc := by
      have : K[i] = x := by simpa using (of_decide_eq_true i2).symm
      rw [← List.map_set, ← this, List.set_getElem_self]
    have hv : V[i]? = some V[i] := List.getElem?_eq_getElem (by omega)
    have hfx : f x = some V[i] := by rw [h3, atKy, hf, Option.bind_some, hv]
    refine ⟨.map true g (K.map enc) (V.map val), g, i, by simp [hfx, hv, hK], ⟨g, K, V, hs_set hlt, h2, fun w => ?_⟩, ?_⟩
    · dsimp only
      by_cases hw : w = x
      · subst hw; rw [if_pos rfl, hfx, atKy, hf, Option.bind_some, hv]; rfl
      · rw [if_neg hw, h3]
    · exact st _ _ _ _ f h2 hf (fun _ _ => rfl) h3
end
theorem keyEnc_int (kd : IntKind) : KeyEnc (.plain 2) (fun x : Int => PV.int kd x) := fun x y => by
  simp [keyEq, leafEq]
  rw [Bool.eq_iff_iff]; simp
end Go.Ev
end
