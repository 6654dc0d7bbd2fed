/- A part of the proof: walks of the functions that the law calls. No condition. -/
import Derived.Shelf.Slices.In.SortNone
import Derived.Shelf.SlSortCmp.NoneTotal
import Derived.Shelf.SlGeneric
import Derived.Test.YtlbdgdpnilebpaaChecked
import Derived.Test.YtlbdgdpnilebpaaSf
import Derived.Test.YtlbdgdpnilebpaaRec
import Derived.Test.YtlbdgdpnilebpaaMaps
import Derived.Test.YtlbdgdpnilebpaaSi
set_option linter.all false
section
namespace Go.Proofs
open Go.Shelf Go.RowKit Go.Lib Go.Sort
def Try.clRec_ren : Go.Shelf.Ren := ⟨fun | 5 => 63 | 7 => 85 | n => n, fun | 23 => 87 | 25 => 29 | 3 => 64 | 4 => 4 | 20 => 20 | n => n, fun n => n⟩
theorem Try.clRec : Go.Proofs.SlLaysW.n5 Try.prog Try.clRec_ren where
  mixed := by kernel_rfl
  f5 := ⟨ "maps.Clone[map[uint64]counterpane/api.Rec,uint64,counterpane/api.Rec]", by decide, Try.func63.trans (congrArg some (by kernel_rfl))⟩
  f7 := Try.func85.trans (congrArg some (by kernel_rfl))
  t4 := Try.underlying4
  a4 := Try.isAgg4
  z4 := Try.sizeOf4
  v4 := Try.zeroValue4
  t20 := Try.underlying20
  a20 := Try.isAgg20
  z20 := Try.sizeOf20
  v20 := Try.zeroValue20
  t23 := Try.underlying87
  a23 := Try.isAgg87
  z23 := Try.sizeOf87
  v23 := Try.zeroValue87
def Try.dfInt_ren : Go.Shelf.Ren := ⟨fun | 5 => 61 | n => n, fun | 23 => 92 | 26 => 3 | 24 => 3 | 27 => 115 | 0 => 0 | 4 => 4 | n => n, fun n => n⟩
theorem Try.dfInt : Go.Proofs.SlLaysDf.n5 Try.prog Try.dfInt_ren where
  mixed := by kernel_rfl
  f5 := ⟨ "maps.DeleteFunc[map[int]int,int,int]", by decide, Try.func61.trans (congrArg some (by kernel_rfl))⟩
  t0 := Try.underlying0
  a0 := Try.isAgg0
  z0 := Try.sizeOf0
  v0 := Try.zeroValue0
  t4 := Try.underlying4
  a4 := Try.isAgg4
  z4 := Try.sizeOf4
  v4 := Try.zeroValue4
  t23 := Try.underlying92
  a23 := Try.isAgg92
  z23 := Try.sizeOf92
  v23 := Try.zeroValue92
  a24 := Try.isAgg3
  z24 := Try.sizeOf3
  a26 := Try.isAgg3
  z26 := Try.sizeOf3
  t27 := Try.underlying115
  a27 := Try.isAgg115
  z27 := Try.sizeOf115
  v27 := Try.zeroValue115
def Try.soRec_ren : Go.Shelf.Ren := ⟨fun | 6 => 69 | 15 => 39 | 14 => 89 | 28 => 59 | 29 => 60 | 20 => 92 | 21 => 93 | 22 => 94 | 23 => 95 | 24 => 96 | 25 => 97 | 26 => 98 | 27 => 99 | 46 => 100 | 47 => 80 | 48 => 81 | 49 => 101 | 50 => 102 | 57 => 103 | n => n, fun | 22 => 36 | 24 => 64 | 25 => 132 | 3 => 3 | 39 => 85 | 0 => 0 | 53 => 30 | 55 => 29 | 4 => 4 | 46 => 112 | 45 => 111 | 50 => 117 | 5 => 5 | 9 => 9 | 66 => 143 | 70 => 147 | 76 => 155 | 77 => 50 | n => n, fun n => n⟩
theorem Try.soRec : Go.Proofs.SlLaysF0.n6 Try.prog Try.soRec_ren where
  mixed := by kernel_rfl
  f6 := ⟨ "slices.SortFunc[[]counterpane/api.Rec,counterpane/api.Rec]", by decide, Try.func69.trans (congrArg some (by kernel_rfl))⟩
  f14 := ⟨ "slices.pdqsortCmpFunc[counterpane/api.Rec]", by decide, Try.func89.trans (congrArg some (by kernel_rfl))⟩
  f15 := Try.func39.trans (congrArg some (by kernel_rfl))
  f20 := ⟨ "slices.insertionSortCmpFunc[counterpane/api.Rec]", by decide, Try.func92.trans (congrArg some (by kernel_rfl))⟩
  f21 := ⟨ "slices.heapSortCmpFunc[counterpane/api.Rec]", by decide, Try.func93.trans (congrArg some (by kernel_rfl))⟩
  f22 := ⟨ "slices.breakPatternsCmpFunc[counterpane/api.Rec]", by decide, Try.func94.trans (congrArg some (by kernel_rfl))⟩
  f23 := ⟨ "slices.choosePivotCmpFunc[counterpane/api.Rec]", by decide, Try.func95.trans (congrArg some (by kernel_rfl))⟩
  f24 := ⟨ "slices.reverseRangeCmpFunc[counterpane/api.Rec]", by decide, Try.func96.trans (congrArg some (by kernel_rfl))⟩
  f25 := ⟨ "slices.partialInsertionSortCmpFunc[counterpane/api.Rec]", by decide, Try.func97.trans (congrArg some (by kernel_rfl))⟩
  f26 := ⟨ "slices.partitionEqualCmpFunc[counterpane/api.Rec]", by decide, Try.func98.trans (congrArg some (by kernel_rfl))⟩
  f27 := ⟨ "slices.partitionCmpFunc[counterpane/api.Rec]", by decide, Try.func99.trans (congrArg some (by kernel_rfl))⟩
  f28 := Try.func59.trans (congrArg some (by kernel_rfl))
  f29 := Try.func60.trans (congrArg some (by kernel_rfl))
  f46 := ⟨ "slices.siftDownCmpFunc[counterpane/api.Rec]", by decide, Try.func100.trans (congrArg some (by kernel_rfl))⟩
  f47 := Try.func80.trans (congrArg some (by kernel_rfl))
  f48 := Try.func81.trans (congrArg some (by kernel_rfl))
  f49 := ⟨ "slices.medianAdjacentCmpFunc[counterpane/api.Rec]", by decide, Try.func101.trans (congrArg some (by kernel_rfl))⟩
  f50 := ⟨ "slices.medianCmpFunc[counterpane/api.Rec]", by decide, Try.func102.trans (congrArg some (by kernel_rfl))⟩
  f57 := ⟨ "slices.order2CmpFunc[counterpane/api.Rec]", by decide, Try.func103.trans (congrArg some (by kernel_rfl))⟩
  t0 := Try.underlying0
  a0 := Try.isAgg0
  z0 := Try.sizeOf0
  v0 := Try.zeroValue0
  t3 := Try.underlying3
  a3 := Try.isAgg3
  z3 := Try.sizeOf3
  v3 := Try.zeroValue3
  t4 := Try.underlying4
  a4 := Try.isAgg4
  z4 := Try.sizeOf4
  v4 := Try.zeroValue4
  t5 := Try.underlying5
  a5 := Try.isAgg5
  z5 := Try.sizeOf5
  v5 := Try.zeroValue5
  t9 := Try.underlying9
  a9 := Try.isAgg9
  z9 := Try.sizeOf9
  v9 := Try.zeroValue9
  t22 := Try.underlying36
  a22 := Try.isAgg36
  z22 := Try.sizeOf36
  v22 := Try.zeroValue36
  t25 := Try.underlying132
  a25 := Try.isAgg132
  z25 := Try.sizeOf132
  v25 := Try.zeroValue132
  t39 := Try.underlying85
  a39 := Try.isAgg85
  z39 := Try.sizeOf85
  v39 := Try.zeroValue85
  t45 := Try.underlying111
  a45 := Try.isAgg111
  z45 := Try.sizeOf111
  v45 := Try.zeroValue111
  t46 := Try.underlying112
  a46 := Try.isAgg112
  z46 := Try.sizeOf112
  v46 := Try.zeroValue112
  t50 := Try.underlying117
  a50 := Try.isAgg117
  z50 := Try.sizeOf117
  v50 := Try.zeroValue117
  t53 := Try.underlying30
  a53 := Try.isAgg30
  z53 := Try.sizeOf30
  v53 := Try.zeroValue30
  t55 := Try.underlying29
  a55 := Try.isAgg29
  z55 := Try.sizeOf29
  v55 := Try.zeroValue29
  t66 := Try.underlying143
  a66 := Try.isAgg143
  z66 := Try.sizeOf143
  v66 := Try.zeroValue143
  t70 := Try.underlying147
  a70 := Try.isAgg147
  z70 := Try.sizeOf147
  v70 := Try.zeroValue147
  t76 := Try.underlying155
  a76 := Try.isAgg155
  z76 := Try.sizeOf155
  v76 := Try.zeroValue155
  t77 := Try.underlying50
  a77 := Try.isAgg50
  z77 := Try.sizeOf50
  v77 := Try.zeroValue50
def Try.srt_ren : Go.Shelf.Ren := ⟨fun | 189 => 26 | 125 => 39 | 257 => 38 | 128 => 59 | 129 => 60 | 294 => 50 | 295 => 51 | 296 => 52 | 297 => 53 | 298 => 54 | 299 => 55 | 216 => 56 | 300 => 57 | 301 => 58 | 328 => 79 | 329 => 80 | 330 => 81 | 331 => 82 | 332 => 83 | 215 => 84 | 343 => 91 | n => n, fun | 28 => 41 | 3 => 3 | 46 => 85 | 0 => 0 | 51 => 30 | 53 => 29 | 4 => 4 | 183 => 112 | 182 => 111 | 131 => 117 | 5 => 5 | 9 => 9 | 218 => 143 | 222 => 147 | 228 => 155 | 229 => 50 | n => n, fun n => n⟩
theorem Try.srt : Go.Proofs.Lays.n189 Try.prog Try.srt_ren where
  mixed := by kernel_rfl
  f125 := Try.func39.trans (congrArg some (by kernel_rfl))
  f128 := Try.func59.trans (congrArg some (by kernel_rfl))
  f129 := Try.func60.trans (congrArg some (by kernel_rfl))
  f189 := Try.func26.trans (congrArg some (by kernel_rfl))
  f215 := Try.func84.trans (congrArg some (by kernel_rfl))
  f216 := Try.func56.trans (congrArg some (by kernel_rfl))
  f257 := Try.func38.trans (congrArg some (by kernel_rfl))
  f294 := Try.func50.trans (congrArg some (by kernel_rfl))
  f295 := Try.func51.trans (congrArg some (by kernel_rfl))
  f296 := Try.func52.trans (congrArg some (by kernel_rfl))
  f297 := Try.func53.trans (congrArg some (by kernel_rfl))
  f298 := Try.func54.trans (congrArg some (by kernel_rfl))
  f299 := Try.func55.trans (congrArg some (by kernel_rfl))
  f300 := Try.func57.trans (congrArg some (by kernel_rfl))
  f301 := Try.func58.trans (congrArg some (by kernel_rfl))
  f328 := Try.func79.trans (congrArg some (by kernel_rfl))
  f329 := Try.func80.trans (congrArg some (by kernel_rfl))
  f330 := Try.func81.trans (congrArg some (by kernel_rfl))
  f331 := Try.func82.trans (congrArg some (by kernel_rfl))
  f332 := Try.func83.trans (congrArg some (by kernel_rfl))
  f343 := Try.func91.trans (congrArg some (by kernel_rfl))
  t0 := Try.underlying0
  a0 := Try.isAgg0
  z0 := Try.sizeOf0
  v0 := Try.zeroValue0
  t3 := Try.underlying3
  a3 := Try.isAgg3
  z3 := Try.sizeOf3
  v3 := Try.zeroValue3
  t4 := Try.underlying4
  a4 := Try.isAgg4
  z4 := Try.sizeOf4
  v4 := Try.zeroValue4
  t5 := Try.underlying5
  a5 := Try.isAgg5
  z5 := Try.sizeOf5
  v5 := Try.zeroValue5
  t9 := Try.underlying9
  a9 := Try.isAgg9
  z9 := Try.sizeOf9
  v9 := Try.zeroValue9
  t28 := Try.underlying41
  a28 := Try.isAgg41
  z28 := Try.sizeOf41
  v28 := Try.zeroValue41
  t46 := Try.underlying85
  a46 := Try.isAgg85
  z46 := Try.sizeOf85
  v46 := Try.zeroValue85
  t51 := Try.underlying30
  a51 := Try.isAgg30
  z51 := Try.sizeOf30
  v51 := Try.zeroValue30
  t53 := Try.underlying29
  a53 := Try.isAgg29
  z53 := Try.sizeOf29
  v53 := Try.zeroValue29
  t131 := Try.underlying117
  a131 := Try.isAgg117
  z131 := Try.sizeOf117
  v131 := Try.zeroValue117
  t182 := Try.underlying111
  a182 := Try.isAgg111
  z182 := Try.sizeOf111
  v182 := Try.zeroValue111
  t183 := Try.underlying112
  a183 := Try.isAgg112
  z183 := Try.sizeOf112
  v183 := Try.zeroValue112
  t218 := Try.underlying143
  a218 := Try.isAgg143
  z218 := Try.sizeOf143
  v218 := Try.zeroValue143
  t222 := Try.underlying147
  a222 := Try.isAgg147
  z222 := Try.sizeOf147
  v222 := Try.zeroValue147
  t228 := Try.underlying155
  a228 := Try.isAgg155
  z228 := Try.sizeOf155
  v228 := Try.zeroValue155
  t229 := Try.underlying50
  a229 := Try.isAgg50
  z229 := Try.sizeOf50
  v229 := Try.zeroValue50
end Go.Proofs
namespace Go.Ev.F35
open Go.Proofs Go.Shelf Go.RowKit Go.Lib Go.Sort Go
set_option linter.all false
set_option maxRecDepth 100000
def encC (r : Rc) : List Value := [.int .u64 0, .int .u64 r.key, .int .u32 r.x, .int .u32 r.y, .string ⟨r.val.toArray⟩, .bool false]
def eC (r : Rc) : PV := rcP r
theorem hEC : EncK eC encC 6 where
  pos := by decide
  len := fun _ => rfl
  one := fun x v hv => by simp [encC] at hv; rcases hv with rfl | rfl | rfl | rfl | rfl | rfl <;> rfl
  stor := fun x => rfl
  to := fun x v h => by
    simp only [eC, RP, RPs] at h
    obtain ⟨_, cs, rfl, ⟨a, r, rfl, rfl, b, r2, rfl, rfl, c, r3, rfl, rfl, d, r4, rfl, rfl, e, r5, rfl, rfl, f, r6, rfl, rfl, rfl⟩, _⟩ := h
    rfl
  of := fun w Z x => by
    simp only [eC, RP, RPs, encC]
    exact ⟨by simp, _, rfl, ⟨_, _, rfl, rfl, _, _, rfl, rfl, _, _, rfl, rfl, _, _, rfl, rfl, _, _, rfl, rfl, _, _, rfl, rfl, rfl⟩, fun c hc => by simp at hc; rcases hc with rfl | rfl | rfl | rfl | rfl | rfl <;> rfl⟩
def cmpI (a b : Int) : Int := if a < b then -1 else if b < a then 1 else 0
def cmpC (a b : Rc) : Int := cmpI a.key b.key
def ltC (a b : Rc) : Bool := decide (a.key < b.key)
theorem ltOf_C : ltOf cmpC = ltC := by
  funext a b
  unfold ltOf cmpC cmpI ltC
  rw [decide_eq_decide]
  split <;> (try split) <;> omega
theorem swoC : SWO ltC where
  irrefl x := by simp [ltC]
  trans x y z h1 h2 := by simp only [ltC, decide_eq_true_eq] at *; omega
  ntrans x y z h1 h2 := by simp only [ltC, decide_eq_false_iff_not] at *; omega
set_option maxHeartbeats 1000000 in
theorem isNaN_calls (x : Int) (W : World) : Calls Try.prog 90 #[.int .u64 x] W fun e w' => e = .returned (.bool false) ∧ w' = W := by
  go_enter Try.func90, Try.ntmps90
  go_wp2
  all_goals first | contradiction | (go_ret; exact ⟨rfl, rfl⟩) | skip
set_option maxHeartbeats 1000000 in
theorem compare_calls (x y : Int) (W : World) : Calls Try.prog 71 #[.int .u64 x, .int .u64 y] W fun e w' => e = .returned (.int .i64 (cmpI x y)) ∧ w' = W := by
  have hn := fun x W => isNaN_calls x W
  by_cases h1 : x < y
  · have hc : cmpI x y = -1 := by simp [cmpI, h1]
    rw [hc]
    go_enter Try.func71, Try.ntmps71
    go_wp2_with (go_at_call 90; refine (hn _ _).mono ?_; rintro e w' ⟨rfl, rfl⟩)
    all_goals first | contradiction | (go_ret; exact ⟨rfl, rfl⟩) | skip
  · by_cases h2 : y < x
    · have hc : cmpI x y = 1 := by simp [cmpI, h1, h2]
      rw [hc]
      go_enter Try.func71, Try.ntmps71
      go_wp2_with (go_at_call 90; refine (hn _ _).mono ?_; rintro e w' ⟨rfl, rfl⟩)
      all_goals first | contradiction | (go_ret; exact ⟨rfl, rfl⟩) | skip
    · have hc : cmpI x y = 0 := by simp [cmpI, h1, h2]
      rw [hc]
      go_enter Try.func71, Try.ntmps71
      go_wp2_with (go_at_call 90; refine (hn _ _).mono ?_; rintro e w' ⟨rfl, rfl⟩)
      all_goals first | contradiction | (go_ret; exact ⟨rfl, rfl⟩) | skip
set_option maxHeartbeats 1000000 in
theorem cmpC_calls (a b : Rc) (W : World) : Calls Try.prog 70 #[.agg (encC a).toArray, .agg (encC b).toArray] W fun e w' => e = .returned (.int .i64 (cmpC a b)) ∧ ∃ q os', w' = grow (W.drewN q) os' := by
  have hcon := fun W => compare_calls a.key b.key W
  unfold cmpC
  generalize cmpI a.key b.key = r at hcon ⊢
  obtain ⟨ak, ax, ay, av⟩ := a
  obtain ⟨bk, bx, bY, bv⟩ := b
  unfold encC
  go_enter Try.func70, Try.ntmps70
  go_wp2_with (go_at_call 71; refine (hcon _).mono ?_; rintro e w' ⟨rfl, rfl⟩)
  all_goals first | contradiction | (go_ret; exact ⟨rfl, 0, _, by rw [alloc_eq_grow, alloc_eq_grow, grow_grow]; rfl⟩) | skip
/-- slices.SortFunc of records. -/
def soRSpec (args : List AV) (H : Heap) (Q : AV → Heap → Prop) : Prop :=
  (args = [.nsl, .p (.fn 70 [])] ∧ Q (.p (.tup [])) H) ∨
  ∃ (b g : Nat) (ex : Bool) (xs : List Rc), H[b]? = some (.arr true g 6 (xs.map eC)) ∧ xs.length < 1000000 ∧ args = [.ref b g 0 xs.length ex, .p (.fn 70 [])] ∧
    ∀ ys : List Rc, ys.Perm xs → (∀ i j, i < j → j < ys.length → ltC ys[j]! ys[i]! = false) → Q (.p (.tup [])) (H.set b (.arr true g 6 (ys.map eC)))
theorem soRSpec_mono {args : List AV} {H : Heap} {Q Q' : AV → Heap → Prop} (hq : ∀ v H', Q v H' → Q' v H') (h : soRSpec args H Q) : soRSpec args H Q' := by
  rcases h with ⟨h1, h2⟩ | ⟨b, g, ex, xs, h1, h2, h3, h4⟩
  · exact .inl ⟨h1, hq _ _ h2⟩
  · exact .inr ⟨b, g, ex, xs, h1, h2, h3, fun ys h5 h6 => hq _ _ (h4 ys h5 h6)⟩
theorem callee {f : FuncId} {fn : Func} (hf : Try.prog.funcs[f]? = some fn) (hb : fn.body.isSome = true) (hn : fn.name ≠ "runtime.NumGoroutine") (vs : Array Value) (w : World) : (callFunc f vs).run Try.prog w = .ok (.enter f vs) w := by
  obtain ⟨c, hb⟩ := Option.isSome_iff_exists.1 hb
  simp [callFunc, hf, hb, hn]
theorem soR_ext {args : List AV} {H : Heap} {Q : AV → Heap → Prop} (h : soRSpec args H Q) : CallOK Try.prog 69 args H Q := by
  refine ⟨fun vs w => callee Try.func69 (by kernel_rfl) (by decide +kernel) vs w, fun s vs hH hs hr => callsIn_wide.2 ?_⟩
  subst hH
  rcases h with ⟨rfl, hq⟩ | ⟨b, g, ex, xs, hb, hn, rfl, hq⟩
  · simp only [RAs] at hr
    obtain ⟨v0, r0, rfl, h0, v1, r1, rfl, h1, rfl⟩ := hr
    simp only [RA] at h0
    subst h0
    have hc := AnyF.slices_SortFunc_none Try.soRec none 0 v1 s.w
    change Calls Try.prog 69 _ _ _ at hc
    refine hc.mono ?_
    rintro e w' ⟨rfl, rfl⟩
    exact ⟨_, s, .p (.tup []), rfl, rfl, Evo.refl s, hs, by simp [RA, RP, RPs], hq⟩
  · simp only [RAs] at hr
    obtain ⟨v0, r0, rfl, h0, v1, r1, rfl, h1, rfl⟩ := hr
    have eg : ∀ args w, (callFunc 70 args).run Try.prog w = .ok (.enter 70 args) w := fun vs w => callee Try.func70 (by kernel_rfl) (by decide +kernel) vs w
    refine (sortf_ok hEC (f := 69) (lt := ltC) hs hb h0 h1 ?_).mono ?_
    · intro blk off cap d w hH hblk hsz
      have hcmp : CmpLays Try.prog 70 #[] encC 6 cmpC blk off d.size w := fun _ _ _ _ x y => cmpC_calls x y _
      have hc := AnyQ.slices_SortFunc Try.soRec 6 Try.isAgg64 Try.sizeOf64 encC hEC.len hEC.one cmpC (ltOf_C ▸ swoC) 70 #[] blk off cap d w eg hcmp hH hblk (by omega)
      rw [ltOf_C] at hc
      exact hc
    · rintro e w' ⟨v, s', av, k1, k2, k3, k4, k5, rfl, ys, k6, k7, k8⟩
      exact ⟨v, s', _, k1, k2, k3, k4, k5, by rw [k8]; exact hq ys k6 k7⟩
/-- slices.Sort at ints. -/
def srtSpec (args : List AV) (H : Heap) (Q : AV → Heap → Prop) : Prop :=
  (args = [.nsl] ∧ Q (.p (.tup [])) H) ∨
  ∃ (b g : Nat) (ex : Bool) (xs : List Int), H[b]? = some (.arr true g 0 (xs.map iE)) ∧ xs.length < 1000000 ∧ args = [.ref b g 0 xs.length ex] ∧ Q (.p (.tup [])) (H.set b (.arr true g 0 ((sortI xs).map iE)))
theorem srtSpec_mono {args : List AV} {H : Heap} {Q Q' : AV → Heap → Prop} (hq : ∀ v H', Q v H' → Q' v H') (h : srtSpec args H Q) : srtSpec args H Q' := by
  rcases h with ⟨h1, h2⟩ | ⟨b, g, ex, xs, h1, h2, h3, h4⟩
  · exact .inl ⟨h1, hq _ _ h2⟩
  · exact .inr ⟨b, g, ex, xs, h1, h2, h3, hq _ _ h4⟩
theorem srt_ext {args : List AV} {H : Heap} {Q : AV → Heap → Prop} (h : srtSpec args H Q) : CallOK Try.prog 26 args H Q := by
  refine ⟨fun vs w => callee Try.func26 (by kernel_rfl) (by decide +kernel) vs w, fun s vs hH hs hr => callsIn_wide.2 ?_⟩
  subst hH
  rcases h with ⟨rfl, hq⟩ | ⟨b, g, ex, xs, hb, hn, rfl, hq⟩
  · simp only [RAs] at hr
    obtain ⟨v0, r0, rfl, h0, rfl⟩ := hr
    simp only [RA] at h0
    subst h0
    have hc := Any.slices_Sort_int_none Try.srt none 0 s.w
    change Calls Try.prog 26 _ _ _ at hc
    refine hc.mono ?_
    rintro e w' ⟨rfl, rfl⟩
    exact ⟨_, s, .p (.tup []), rfl, rfl, Evo.refl s, hs, by simp [RA, RP, RPs], hq⟩
  · simp only [RAs] at hr
    obtain ⟨v0, r0, rfl, h0, rfl⟩ := hr
    refine (sorti_ok (f := 26) hs hb h0 ?_).mono ?_
    · intro blk off cap w hH hblk
      exact Any.slices_Sort_int Try.srt blk off cap xs w hH hblk (by omega)
    · rintro e w' ⟨v, s', av, k1, k2, k3, k4, k5, rfl, k8⟩
      exact ⟨v, s', _, k1, k2, k3, k4, k5, by rw [k8]; exact hq⟩
/-- maps.Clone. -/
def clRSpec (args : List AV) (H : Heap) (Q : AV → Heap → Prop) : Prop := cloneSpec args H Q
theorem clRSpec_mono {args : List AV} {H : Heap} {Q Q' : AV → Heap → Prop} (hq : ∀ v H', Q v H' → Q' v H') (h : clRSpec args H Q) : clRSpec args H Q' := cloneSpec_mono hq h
theorem clR_ext {args : List AV} {H : Heap} {Q : AV → Heap → Prop} (h : clRSpec args H Q) : CallOK Try.prog 63 args H Q :=
  clone_ext Try.clRec rfl (callee Try.func63 (by kernel_rfl) (by decide +kernel)) h
/-- maps.DeleteFunc of the places that were noted behind n. -/
def dfSSpec (args : List AV) (H : Heap) (Q : AV → Heap → Prop) : Prop :=
  ∃ (b g bn : Nat) (l : Bool) (n : Int) (E : List (Int × Int)), args = [.map b, .fn 62 [.vptr bn 0]] ∧ H[b]? = some (.map true g (mdK E) (mdV E)) ∧ H[bn]? = some (.var l (.p (.int .i64 n))) ∧
    (∀ e ∈ E, inI e.1 ∧ inI e.2) ∧ E.length ≤ 1000 ∧ (E.map (·.1)).Nodup ∧
    ∀ E' : List (Int × Int), E'.Perm (E.filter fun e => !decide (n < e.2)) → Q (.p (.tup [])) (H.set b (.map true (g + 1) (mdK E') (mdV E')))
theorem dfSSpec_mono {args : List AV} {H : Heap} {Q Q' : AV → Heap → Prop} (hq : ∀ v H', Q v H' → Q' v H') (h : dfSSpec args H Q) : dfSSpec args H Q' := by
  obtain ⟨b, g, bn, l, n, E, h1, h2, h3, h4, h5, h6, h7⟩ := h
  exact ⟨b, g, bn, l, n, E, h1, h2, h3, h4, h5, h6, fun E' h => hq _ _ (h7 E' h)⟩
set_option maxHeartbeats 1000000 in
theorem closure41 (k v n : Int) (bx : Nat) (W : World) (hx : W.cell? ⟨bx, 0, none⟩ = some (.int .i64 n)) :
    Calls Try.prog 62 (#[.int .i64 k, .int .i64 v] ++ #[.pointer (some ⟨bx, 0, none⟩)]) W fun e w' => e = .returned (.bool (decide (n < v))) ∧ w' = W := by
  go_enter Try.func62, Try.ntmps62
  go_wp2
  go_ret
  exact ⟨rfl, rfl⟩
theorem dfS_ext {args : List AV} {H : Heap} {Q : AV → Heap → Prop} (h : dfSSpec args H Q) : CallOK Try.prog 61 args H Q := by
  obtain ⟨b, g, bn, l, n, E, rfl, h2, h3, h4, h5, h6, h7⟩ := h
  refine ⟨callee Try.func61 (by kernel_rfl) (by decide +kernel), fun s vs hH hs hr => callsIn_wide.2 ?_⟩
  subst hH
  simp only [RAs] at hr
  obtain ⟨v0, r0, rfl, h0, v1, r1, rfl, hf, rfl⟩ := hr
  simp only [RA] at h0 hf
  obtain ⟨_, rfl⟩ := h0
  obtain ⟨cs, rfl, hcs⟩ := hf
  simp only [RAs, RA] at hcs
  obtain ⟨p, r, rfl, ⟨_, rfl⟩, rfl⟩ := hcs
  have hB := hs.blk bn _ h3
  simp only [RB, RA, RP] at hB
  obtain ⟨v, e, lo, hi, rfl, hc, _, _⟩ := hB
  have hne : s.ι bn ≠ s.ι b := fun e => by
    have := hs.inj bn b (List.getElem?_eq_some_iff.1 h3).1 (List.getElem?_eq_some_iff.1 h2).1 e
    subst this
    rw [h2] at h3; cases h3
  refine (dfunc_ok (f := 62) (cb := [Value.pointer (some ⟨s.ι bn, 0, none⟩)].toArray) (pd := fun _ v => decide (n < v)) Try.dfInt (by kernel_rfl) (by kernel_rfl) hs h2 h4 h5 h6 (callee Try.func62 (by kernel_rfl) (by decide +kernel)) (fun W k v hg => ?_)).mono ?_
  · refine closure41 k v n (s.ι bn) W ?_
    have := hg.block (s.ι bn) (hs.bnd bn (List.getElem?_eq_some_iff.1 h3).1) (fun e => hne (Option.some.inj e))
    simp only [World.cell?, this, hc]
    rfl
  · rintro e w' ⟨v, s', av, h1, h2, h3, h4, h5, rfl, E', h8, h6⟩
    exact ⟨v, s', _, h1, h2, h3, h4, h5, by rw [h6]; exact h7 E' h8⟩
end Go.Ev.F35
end
