/- A part of the proof: walks of the functions that the law calls. No condition. -/
import Derived.Test.YtldogfcfafomiaaDoorChecked
import Derived.Shelf.Strings.Split
import Derived.Shelf.Strings.OnBuilder
import Derived.Shelf.Small.Strs
import Derived.Shelf.Small.Wraps
import Derived.Test.YtldogfcfafomiaaDoorEvB
set_option linter.all false
section
namespace Go.Ev.F32
open Go.Proofs Go.RowKit Go.Lib Go.Shelf Go
set_option linter.all false
set_option maxRecDepth 100000
/-! the library's functions, by the kit's contracts -/
def tlSplit_ren : Go.Shelf.Ren := ⟨fun | 146 => 20 | 221 => 29 | 268 => 36 | 138 => 37 | 143 => 38 | 195 => 43 | 197 => 44 | 218 => 45 | 219 => 46 | 260 => 49 | 217 => 47 | 225 => 50 | 224 => 51 | 267 => 52 | 266 => 53 | 314 => 55 | n => n, fun | 9 => 9 | 31 => 37 | 3 => 3 | 4 => 4 | 0 => 0 | 105 => 83 | 21 => 21 | 5 => 5 | 46 => 55 | 119 => 87 | 139 => 90 | 138 => 89 | 146 => 91 | 51 => 23 | n => n, fun | 1 => 0 | 3 => 1 | 4 => 2 | n => n⟩
theorem tlSplit : Lays.n146 Tryd.prog tlSplit_ren where
  mixed := by kernel_rfl
  f138 := Tryd.func37.trans (congrArg some (by kernel_rfl))
  f143 := Tryd.func38.trans (congrArg some (by kernel_rfl))
  f146 := Tryd.func20.trans (congrArg some (by kernel_rfl))
  f195 := Tryd.func43.trans (congrArg some (by kernel_rfl))
  f197 := Tryd.func44.trans (congrArg some (by kernel_rfl))
  f217 := Tryd.func47.trans (congrArg some (by kernel_rfl))
  f218 := Tryd.func45.trans (congrArg some (by kernel_rfl))
  f219 := Tryd.func46.trans (congrArg some (by kernel_rfl))
  f221 := Tryd.func29.trans (congrArg some (by kernel_rfl))
  f224 := Tryd.func51.trans (congrArg some (by kernel_rfl))
  f225 := Tryd.func50.trans (congrArg some (by kernel_rfl))
  f260 := Tryd.func49.trans (congrArg some (by kernel_rfl))
  f266 := Tryd.func53.trans (congrArg some (by kernel_rfl))
  f267 := Tryd.func52.trans (congrArg some (by kernel_rfl))
  f268 := Tryd.func36.trans (congrArg some (by kernel_rfl))
  f314 := Tryd.func55.trans (congrArg some (by kernel_rfl))
  t0 := Tryd.underlying0
  a0 := Tryd.isAgg0
  z0 := Tryd.sizeOf0
  v0 := Tryd.zeroValue0
  t3 := Tryd.underlying3
  a3 := Tryd.isAgg3
  z3 := Tryd.sizeOf3
  v3 := Tryd.zeroValue3
  t4 := Tryd.underlying4
  a4 := Tryd.isAgg4
  z4 := Tryd.sizeOf4
  v4 := Tryd.zeroValue4
  t5 := Tryd.underlying5
  a5 := Tryd.isAgg5
  z5 := Tryd.sizeOf5
  v5 := Tryd.zeroValue5
  t9 := Tryd.underlying9
  a9 := Tryd.isAgg9
  z9 := Tryd.sizeOf9
  v9 := Tryd.zeroValue9
  t21 := Tryd.underlying21
  a21 := Tryd.isAgg21
  z21 := Tryd.sizeOf21
  v21 := Tryd.zeroValue21
  t31 := Tryd.underlying37
  a31 := Tryd.isAgg37
  z31 := Tryd.sizeOf37
  v31 := Tryd.zeroValue37
  t46 := Tryd.underlying55
  a46 := Tryd.isAgg55
  z46 := Tryd.sizeOf55
  v46 := Tryd.zeroValue55
  t51 := Tryd.underlying23
  a51 := Tryd.isAgg23
  z51 := Tryd.sizeOf23
  v51 := Tryd.zeroValue23
  t105 := Tryd.underlying83
  a105 := Tryd.isAgg83
  z105 := Tryd.sizeOf83
  v105 := Tryd.zeroValue83
  t119 := Tryd.underlying87
  a119 := Tryd.isAgg87
  z119 := Tryd.sizeOf87
  t138 := Tryd.underlying89
  a138 := Tryd.isAgg89
  z138 := Tryd.sizeOf89
  v138 := Tryd.zeroValue89
  t139 := Tryd.underlying90
  a139 := Tryd.isAgg90
  z139 := Tryd.sizeOf90
  v139 := Tryd.zeroValue90
  t146 := Tryd.underlying91
  a146 := Tryd.isAgg91
  z146 := Tryd.sizeOf91
  v146 := Tryd.zeroValue91
  g1 := by kernel_rfl
  g3 := by kernel_rfl
  g4 := by kernel_rfl
def tlJoin_ren : Go.Shelf.Ren := ⟨fun | 156 => 18 | 165 => 23 | 166 => 24 | 169 => 25 | 240 => 34 | 241 => 35 | 276 => 41 | 277 => 42 | n => n, fun | 31 => 37 | 9 => 9 | 3 => 3 | 4 => 4 | 0 => 0 | 20 => 20 | 72 => 58 | 76 => 62 | 70 => 56 | 37 => 44 | 75 => 61 | 127 => 74 | 164 => 79 | 5 => 5 | 80 => 64 | n => n, fun | n => n⟩
theorem tlJoin : Lays.n156 Tryd.prog tlJoin_ren where
  mixed := by kernel_rfl
  f156 := Tryd.func18.trans (congrArg some (by kernel_rfl))
  f165 := Tryd.func23.trans (congrArg some (by kernel_rfl))
  f166 := Tryd.func24.trans (congrArg some (by kernel_rfl))
  f169 := Tryd.func25.trans (congrArg some (by kernel_rfl))
  f240 := Tryd.func34.trans (congrArg some (by kernel_rfl))
  f241 := Tryd.func35.trans (congrArg some (by kernel_rfl))
  f276 := Tryd.func41.trans (congrArg some (by kernel_rfl))
  f277 := Tryd.func42.trans (congrArg some (by kernel_rfl))
  t0 := Tryd.underlying0
  a0 := Tryd.isAgg0
  z0 := Tryd.sizeOf0
  v0 := Tryd.zeroValue0
  t3 := Tryd.underlying3
  a3 := Tryd.isAgg3
  z3 := Tryd.sizeOf3
  v3 := Tryd.zeroValue3
  t4 := Tryd.underlying4
  a4 := Tryd.isAgg4
  z4 := Tryd.sizeOf4
  v4 := Tryd.zeroValue4
  t9 := Tryd.underlying9
  a9 := Tryd.isAgg9
  z9 := Tryd.sizeOf9
  v9 := Tryd.zeroValue9
  t20 := Tryd.underlying20
  a20 := Tryd.isAgg20
  z20 := Tryd.sizeOf20
  v20 := Tryd.zeroValue20
  t31 := Tryd.underlying37
  a31 := Tryd.isAgg37
  z31 := Tryd.sizeOf37
  v31 := Tryd.zeroValue37
  t37 := Tryd.underlying44
  a37 := Tryd.isAgg44
  z37 := Tryd.sizeOf44
  v37 := Tryd.zeroValue44
  t70 := Tryd.underlying56
  a70 := Tryd.isAgg56
  z70 := Tryd.sizeOf56
  v70 := Tryd.zeroValue56
  t72 := Tryd.underlying58
  a72 := Tryd.isAgg58
  z72 := Tryd.sizeOf58
  v72 := Tryd.zeroValue58
  t75 := Tryd.underlying61
  a75 := Tryd.isAgg61
  z75 := Tryd.sizeOf61
  v75 := Tryd.zeroValue61
  t76 := Tryd.underlying62
  a76 := Tryd.isAgg62
  z76 := Tryd.sizeOf62
  v76 := Tryd.zeroValue62
  t127 := Tryd.underlying74
  a127 := Tryd.isAgg74
  z127 := Tryd.sizeOf74
  v127 := Tryd.zeroValue74
  t164 := Tryd.underlying79
  a164 := Tryd.isAgg79
  z164 := Tryd.sizeOf79
  v164 := Tryd.zeroValue79
def tlIndexByte_ren : Go.Shelf.Ren := ⟨fun | 137 => 39 | 217 => 47 | 266 => 53 | n => n, fun | 9 => 9 | 5 => 5 | 3 => 3 | n => n, fun | n => n⟩
theorem tlIndexByte : Lays.n137 Tryd.prog tlIndexByte_ren where
  mixed := by kernel_rfl
  f137 := Tryd.func39.trans (congrArg some (by kernel_rfl))
  f217 := Tryd.func47.trans (congrArg some (by kernel_rfl))
  f266 := Tryd.func53.trans (congrArg some (by kernel_rfl))
  t3 := Tryd.underlying3
  a3 := Tryd.isAgg3
  z3 := Tryd.sizeOf3
  v3 := Tryd.zeroValue3
  t5 := Tryd.underlying5
  a5 := Tryd.isAgg5
  z5 := Tryd.sizeOf5
  v5 := Tryd.zeroValue5
  t9 := Tryd.underlying9
  a9 := Tryd.isAgg9
  z9 := Tryd.sizeOf9
  v9 := Tryd.zeroValue9
def tlCutPrefix_ren : Go.Shelf.Ren := ⟨fun | 103 => 40 | 210 => 48 | 206 => 54 | n => n, fun | 9 => 9 | 4 => 4 | 24 => 70 | 3 => 3 | n => n, fun | n => n⟩
theorem tlCutPrefix : Lays.n103 Tryd.prog tlCutPrefix_ren where
  mixed := by kernel_rfl
  f103 := Tryd.func40.trans (congrArg some (by kernel_rfl))
  f206 := Tryd.func54.trans (congrArg some (by kernel_rfl))
  f210 := Tryd.func48.trans (congrArg some (by kernel_rfl))
  t3 := Tryd.underlying3
  a3 := Tryd.isAgg3
  z3 := Tryd.sizeOf3
  v3 := Tryd.zeroValue3
  t4 := Tryd.underlying4
  a4 := Tryd.isAgg4
  z4 := Tryd.sizeOf4
  v4 := Tryd.zeroValue4
  t9 := Tryd.underlying9
  a9 := Tryd.isAgg9
  z9 := Tryd.sizeOf9
  v9 := Tryd.zeroValue9
  t24 := Tryd.underlying70
  a24 := Tryd.isAgg70
  z24 := Tryd.sizeOf70
  v24 := Tryd.zeroValue70

theorem tExtra : Builder.Extra Tryd.prog tlJoin_ren where
  sizeBuilder := by kernel_rfl
  liesBuilder := by kernel_rfl
  t5 := Tryd.underlying5
  a5 := Tryd.isAgg5
  z5 := Tryd.sizeOf5
  v5 := Tryd.zeroValue5
  infoByte := by kernel_rfl
  cellsByte := by kernel_rfl
  sizeByte := by kernel_rfl
  neB5 := by decide
/-- A text cut at each c. -/
def cut (c : UInt8) : List UInt8 → List (List UInt8)
  | [] => [[]]
  | b :: l => if b = c then [] :: cut c l else match cut c l with | [] => [[b]] | x :: r => (b :: x) :: r
theorem cut_ne (c : UInt8) : ∀ l, cut c l ≠ []
  | [] => by simp [cut]
  | b :: l => by
    unfold cut
    split
    · simp
    · split <;> simp
theorem index_one_ne {b c : UInt8} (l : List UInt8) (h : b ≠ c) : index (b :: l) [c] = if index l [c] == -1 then -1 else index l [c] + 1 := by
  have hp : ([c] : List UInt8).isPrefixOf (b :: l) = false := by simp [List.isPrefixOf, Ne.symm h]
  rw [index, hp]; simp
theorem index_one_eq (c : UInt8) (l : List UInt8) : index (c :: l) [c] = 0 := by rw [index]; simp [List.isPrefixOf]
theorem index_one_cases (c : UInt8) : ∀ l : List UInt8, index l [c] = -1 ∨ 0 ≤ index l [c]
  | [] => by simp [index]
  | b :: l => by
    by_cases h : b = c
    · subst h; rw [index_one_eq]; simp
    · rw [index_one_ne l h]
      rcases index_one_cases c l with h1 | h1
      · rw [h1]; simp
      · have : ¬ (index l [c] == -1) = true := fun e => by have := beq_iff_eq.1 e; omega
        rw [if_neg this]; omega
theorem count_zero_index (c : UInt8) : ∀ l : List UInt8, l.count c = 0 → index l [c] = -1
  | [], _ => by simp [index]
  | b :: l, h => by
    by_cases hb : b = c
    · subst hb; simp at h
    · rw [index_one_ne l hb, count_zero_index c l (by rw [List.count_cons] at h; omega)]; rfl
theorem splitK_cut (c : UInt8) : ∀ s : List UInt8, splitK [c] 0 (s.count c) s = cut c s
  | [] => by simp [splitK, cut]
  | b :: l => by
    by_cases h : b = c
    · subst h
      rw [List.count_cons_self, splitK, index_one_eq]
      simp only [cut, if_pos]
      rw [if_neg (by decide)]
      simp [splitK_cut b l]
    · have ih := splitK_cut c l
      have hc : (b :: l).count c = l.count c := by rw [List.count_cons]; simp [h]
      rw [hc, cut, if_neg h]
      cases hk : l.count c with
      | zero =>
        rw [hk] at ih
        simp only [splitK] at ih ⊢
        rw [← ih]
      | succ k =>
        rw [hk] at ih
        rw [splitK] at ih ⊢
        rw [index_one_ne l h]
        rcases index_one_cases c l with h1 | h1
        · rw [h1] at ih ⊢
          simp only [beq_self_eq_true, if_true] at ih ⊢
          rw [← ih]
        · have hn : ¬ (index l [c] == -1) = true := fun e => by have := beq_iff_eq.1 e; omega
          have hn1 : ¬ (index l [c] + 1 == -1) = true := fun e => by have := beq_iff_eq.1 e; omega
          rw [if_neg hn] at ih ⊢
          rw [if_neg hn1, ← ih]
          obtain ⟨i, hi⟩ : ∃ i : Nat, index l [c] = i := ⟨(index l [c]).toNat, by omega⟩
          rw [hi]
          simp only [Int.toNat_natCast, show ((i : Int) + 1).toNat = i + 1 by omega, Nat.add_zero, List.length_singleton, List.take_succ_cons, List.drop_succ_cons]
/-- strings.IndexByte. -/
def sISpec (args : List AV) (H : Heap) (Q : AV → Heap → Prop) : Prop :=
  ∃ (s : List UInt8) (c : Int), args = [.p (.str s), .p (.int .u8 c)] ∧ Q (.p (.int .i64 (indexByte s c.toNat.toUInt8))) H
theorem sISpec_mono {args : List AV} {H : Heap} {Q Q' : AV → Heap → Prop} (hq : ∀ v H', Q v H' → Q' v H') (h : sISpec args H Q) : sISpec args H Q' := by
  obtain ⟨s, c, h1, h2⟩ := h
  exact ⟨s, c, h1, hq _ _ h2⟩
theorem enter_of {n : Nat} {f : Func} (hf : Tryd.prog.funcs[n]? = some f) (hb : f.body.isSome = true) (hname : f.name ≠ "runtime.NumGoroutine") (vs : Array Value) (w : World) : (callFunc n vs).run Tryd.prog w = .ok (.enter n vs) w := by
  obtain ⟨c, hb⟩ := Option.isSome_iff_exists.1 hb
  simp [callFunc, hf, hb, hname]
theorem sI_ext {args : List AV} {H : Heap} {Q : AV → Heap → Prop} (h : sISpec args H Q) : CallOK Tryd.prog 39 args H Q := by
  obtain ⟨t, c, rfl, hq⟩ := h
  refine ⟨fun vs w => enter_of Tryd.func39 (by kernel_rfl) (by decide +kernel) vs w, fun s vs hH hs hr => callsIn_wide.2 ?_⟩
  subst hH
  simp only [RAs] at hr
  obtain ⟨v0, r0, rfl, h0, v1, r1, rfl, h1, rfl⟩ := hr
  simp only [RA, RP] at h0 h1
  subst h0; subst h1
  refine (Any.strings_IndexByte tlIndexByte ⟨t.toArray⟩ c s.w).mono ?_
  rintro e w' ⟨rfl, rfl⟩
  exact ⟨_, s, _, rfl, rfl, Evo.refl s, hs, by simp only [RA, RP], hq⟩
/-- strings.CutPrefix. -/
def sCSpec (args : List AV) (H : Heap) (Q : AV → Heap → Prop) : Prop :=
  ∃ (s p : List UInt8), args = [.p (.str s), .p (.str p)] ∧ Q (.p (.tup [.str (trimPrefix s p), .bool (hasPrefix s p)])) H
theorem sCSpec_mono {args : List AV} {H : Heap} {Q Q' : AV → Heap → Prop} (hq : ∀ v H', Q v H' → Q' v H') (h : sCSpec args H Q) : sCSpec args H Q' := by
  obtain ⟨s, c, h1, h2⟩ := h
  exact ⟨s, c, h1, hq _ _ h2⟩
theorem sC_ext {args : List AV} {H : Heap} {Q : AV → Heap → Prop} (h : sCSpec args H Q) : CallOK Tryd.prog 40 args H Q := by
  obtain ⟨t, c, rfl, hq⟩ := h
  refine ⟨fun vs w => enter_of Tryd.func40 (by kernel_rfl) (by decide +kernel) vs w, fun s vs hH hs hr => callsIn_wide.2 ?_⟩
  subst hH
  simp only [RAs] at hr
  obtain ⟨v0, r0, rfl, h0, v1, r1, rfl, h1, rfl⟩ := hr
  simp only [RA, RP] at h0 h1
  subst h0; subst h1
  refine (Any.strings_CutPrefix tlCutPrefix ⟨t.toArray⟩ ⟨c.toArray⟩ s.w).mono ?_
  rintro e w' ⟨rfl, rfl⟩
  refine ⟨_, s, _, rfl, rfl, Evo.refl s, hs, ?_, hq⟩
  simp only [RA, RP, RPs]
  exact ⟨_, rfl, _, _, rfl, rfl, _, _, rfl, rfl, rfl⟩
/-- strings.Split at one byte. -/
def sSSpec (args : List AV) (H : Heap) (Q : AV → Heap → Prop) : Prop :=
  ∃ (s : List UInt8) (c : UInt8), s.length < 4294967281 ∧ args = [.p (.str s), .p (.str [c])] ∧ Q (.p (.sl 0 ((cut c s).map PV.str))) H
theorem sSSpec_mono {args : List AV} {H : Heap} {Q Q' : AV → Heap → Prop} (hq : ∀ v H', Q v H' → Q' v H') (h : sSSpec args H Q) : sSSpec args H Q' := by
  obtain ⟨s, c, h0, h1, h2⟩ := h
  exact ⟨s, c, h0, h1, hq _ _ h2⟩
set_option maxHeartbeats 1000000 in
theorem split_any {P : Program} {ρ : Ren} (L : Lays.n146 P ρ) (hi9 : (P.info? (ρ.t 9)).map (fun i => (i.zero, i.size, i.bytes)) = some (some (.string ByteArray.empty), 1, 16)) (s : ByteArray) (c : UInt8) (w : World) (hs : s.size < 4294967281) :
    Calls P (ρ.f 146) #[.string s, .string ⟨#[c]⟩] w fun e w' =>
      e = .returned (.slice (some ⟨w.heap.size, 0, none⟩) (countB s ⟨#[c]⟩ + 1) (countB s ⟨#[c]⟩ + 1)) ∧ w' = w.alloc (.cells ((splitB ⟨#[c]⟩ 0 (countB s ⟨#[c]⟩) s).map Value.string).toArray (ρ.t 9)) := by
  have h1 : 1 ≤ (⟨#[c]⟩ : ByteArray).size := Nat.le_refl 1
  have hle := countB_le ⟨#[c]⟩ h1 s.size s (Nat.le_refl _)
  have hlen := splitB_all ⟨#[c]⟩ h1 0 _ s rfl
  have hC : Calls P (ρ.f 138) #[.string s, .string ⟨#[c]⟩] w fun e w' => e = .returned (.int .i64 (countB s ⟨#[c]⟩)) ∧ w' = w := by
    refine (Any.strings_Count_one { L with } s c w).mono fun e w' ⟨he, hw⟩ => ⟨?_, hw⟩
    rw [he]
    show _ = Ending.returned (Value.int .i64 ((count s.data.toList [c] : Nat) : Int))
    rw [count_one]
    rfl
  have hI : ∀ (x : ByteArray) (cc : Array Value), x.size ≤ s.size → Calls P (ρ.f 143) #[.string x, .string ⟨#[c]⟩] (w.alloc (.cells cc (ρ.t 9))) fun e w' => e = .returned (.int .i64 (indexB x ⟨#[c]⟩)) ∧ w' = w.alloc (.cells cc (ρ.t 9)) := by
    intro x cc _
    refine (Any.strings_Index_one { L with } x c _).mono fun e w' ⟨he, hw⟩ => ⟨?_, hw⟩
    rw [he]
    show _ = Ending.returned (Value.int .i64 (index x.data.toList [c]))
    have key : ∀ l : List UInt8, index l [c] = indexByte l c := by
      intro l
      induction l with
      | nil => rfl
      | cons b l ih =>
        unfold indexByte
        by_cases hb : b = c
        · subst hb; rw [index_one_eq]; simp
        · rw [index_one_ne l hb, ih]; simp [hb]
    rw [key]
  have cc := Any.strings_genSplit_core { L with } hi9 s ⟨#[c]⟩ 0 (-1) (countB s ⟨#[c]⟩ + 1) w hs h1 (Nat.zero_le _) hI hC (by decide) (by decide) (by rw [if_pos (by decide)]; omega)
  rw [Nat.add_sub_cancel, hlen] at cc
  have e2 : cellsOf (splitB ⟨#[c]⟩ 0 (countB s ⟨#[c]⟩) s) (countB s ⟨#[c]⟩ + 1) = ((splitB ⟨#[c]⟩ 0 (countB s ⟨#[c]⟩) s).map Value.string).toArray := by rw [← hlen]; exact cellsOf_full _
  rw [e2] at cc
  clear hC hI e2 hlen hle
  have t3 := L.t3; have t9 := L.t9; have t31 := L.t31
  have a3 := L.a3; have a9 := L.a9; have a31 := L.a31
  have z3 := L.z3; have v3 := L.v3; have z9 := L.z9; have v9 := L.v9; have z31 := L.z31; have v31 := L.v31
  have e221 : ∀ args w, (callFunc (ρ.f 221) args).run P w = .ok (.enter (ρ.f 221) args) w := enters_of L.f221 (by kernel_rfl) rfl
  go_enter L.f146, Body.n146_ntmps ρ
  go_wp2_with (go_at_fn (ρ.f 221); refine cc.mono ?_; rintro e w' ⟨rfl, hw⟩; rw [hw])
  go_ret
  exact ⟨rfl, rfl⟩
theorem split_one (s : ByteArray) (c : UInt8) (w : World) (hs : s.size < 4294967281) :
    Calls Tryd.prog 20 #[.string s, .string ⟨#[c]⟩] w fun e w' =>
      e = .returned (.slice (some ⟨w.heap.size, 0, none⟩) (countB s ⟨#[c]⟩ + 1) (countB s ⟨#[c]⟩ + 1)) ∧ w' = w.alloc (.cells ((splitB ⟨#[c]⟩ 0 (countB s ⟨#[c]⟩) s).map Value.string).toArray 9) :=
  split_any tlSplit (by kernel_rfl) s c w hs
theorem sS_ext {args : List AV} {H : Heap} {Q : AV → Heap → Prop} (h : sSSpec args H Q) : CallOK Tryd.prog 20 args H Q := by
  obtain ⟨t, c, hl, rfl, hq⟩ := h
  refine ⟨fun vs w => enter_of Tryd.func20 (by kernel_rfl) (by decide +kernel) vs w, fun s vs hH hs hr => callsIn_wide.2 ?_⟩
  subst hH
  simp only [RAs] at hr
  obtain ⟨v0, r0, rfl, h0, v1, r1, rfl, h1, rfl⟩ := hr
  simp only [RA, RP] at h0 h1
  subst h0; subst h1
  have hsz : (⟨t.toArray⟩ : ByteArray).size = t.length := by simp [ByteArray.size]
  refine (split_one ⟨t.toArray⟩ c s.w (by rw [hsz]; exact hl)).mono ?_
  rintro e w' ⟨rfl, rfl⟩
  have hpc : (splitB ⟨#[c]⟩ 0 (countB ⟨t.toArray⟩ ⟨#[c]⟩) ⟨t.toArray⟩).map (·.data.toList) = cut c t := by
    rw [splitB_data, ← splitK_cut]
    show splitK [c] 0 (count t [c]) t = _
    rw [count_one]
  have hlen := splitB_all ⟨#[c]⟩ (Nat.le_refl 1) 0 _ (⟨t.toArray⟩ : ByteArray) rfl
  have hcl : (cut c t).length = countB ⟨t.toArray⟩ ⟨#[c]⟩ + 1 := by rw [← hpc, List.length_map, hlen]
  have hat := heap_alloc_at s.w (.cells ((splitB ⟨#[c]⟩ 0 (countB ⟨t.toArray⟩ ⟨#[c]⟩) ⟨t.toArray⟩).map Value.string).toArray 9)
  have hgr := (Array.getElem?_eq_some_iff.1 hat).1
  have hold := fun k (hk : k < s.w.heap.size) => heap_alloc_lt s.w (.cells ((splitB ⟨#[c]⟩ 0 (countB ⟨t.toArray⟩ ⟨#[c]⟩) ⟨t.toArray⟩).map Value.string).toArray 9) hk
  refine ⟨_, s.grow _ (· = s.w.heap.size), _, rfl, rfl, Evo.grow hs (Nat.le_of_lt hgr) hold rfl rfl rfl (fun k hk => Nat.le_of_eq hk.symm),
    WF.grow hs (Nat.le_of_lt hgr) hold rfl rfl rfl (fun k hk => ⟨Nat.le_of_eq hk.symm, hk ▸ hgr⟩), ?_, hq⟩
  simp only [RA, RP]
  refine ⟨_, _, _, rfl, by simp [hcl], Nat.le_refl _, .inr ⟨s.w.heap.size, 0, rfl, .inr rfl, RM_iff.2 fun i x hx => ?_⟩⟩
  simp only [List.getElem?_map, Option.map_eq_some_iff] at hx
  obtain ⟨y, hy, rfl⟩ := hx
  rw [← hpc, List.getElem?_map, Option.map_eq_some_iff] at hy
  obtain ⟨z, hz, rfl⟩ := hy
  refine ⟨rfl, .string z, by simp only [RP], rfl, fun j v hv => ?_⟩
  simp only [Value.cells] at hv
  cases j with
  | zero =>
    simp at hv; subst hv
    rw [show 0 + i * stride 0 + 0 = i by simp [stride]]
    simp only [St.grow, World.cell?, hat]
    simp [hz]
  | succ j => simp at hv
/-- strings.Join of a slice of the caller's. -/
def sJSpec (args : List AV) (H : Heap) (Q : AV → Heap → Prop) : Prop :=
  ∃ (b g : Nat) (ex : Bool) (xs : List (List UInt8)) (sep : List UInt8), H[b]? = some (.arr true g 0 (xs.map PV.str)) ∧ xs ≠ [] ∧ xs.length ≤ 140737488355328 ∧ (join xs sep).length ≤ 140737488355328 ∧
    args = [.ref b g 0 xs.length ex, .p (.str sep)] ∧ Q (.p (.str (join xs sep))) H
theorem sJSpec_mono {args : List AV} {H : Heap} {Q Q' : AV → Heap → Prop} (hq : ∀ v H', Q v H' → Q' v H') (h : sJSpec args H Q) : sJSpec args H Q' := by
  obtain ⟨b, g, ex, xs, sep, h1, h2, h3, h4, h5, h6⟩ := h
  exact ⟨b, g, ex, xs, sep, h1, h2, h3, h4, h5, hq _ _ h6⟩
theorem sJ_ext {args : List AV} {H : Heap} {Q : AV → Heap → Prop} (h : sJSpec args H Q) : CallOK Tryd.prog 18 args H Q := by
  obtain ⟨b, g, ex, xs, sep, hb, hne, hxl, hjl, rfl, hq⟩ := h
  refine ⟨fun vs w => enter_of Tryd.func18 (by kernel_rfl) (by decide +kernel) vs w, fun s vs hH hs hr => callsIn_wide.2 ?_⟩
  subst hH
  simp only [RAs] at hr
  obtain ⟨v0, r0, rfl, h0, v1, r1, rfl, h1, rfl⟩ := hr
  simp only [RA, RP] at h0 h1
  subst h1
  obtain ⟨a, cap, g0, sh0, rfl, hk, hle, h0⟩ := h0
  have hkb := kd_of_arr hb
  rw [hkb] at hk
  simp only [Option.some.injEq, Kd.arr.injEq] at hk
  obtain ⟨rfl, rfl⟩ := hk
  obtain ⟨⟨o, rfl, ho⟩, hcap, hsz, _⟩ := h0 rfl
  have hlen0 : 0 < xs.length := List.length_pos_iff.2 hne
  obtain rfl : o = s.β b := by
    rcases ho with h | h
    · simpa using h
    · omega
  have hB := hs.blk b _ hb
  simp only [RB] at hB
  obtain ⟨c, et, lo, hi', hcell, hfr, hm, hxl2, hlv⟩ := hB
  have hid : (xs.map fun x => (⟨x.toArray⟩ : ByteArray)).map (·.data.toList) = xs := by rw [List.map_map]; simp [Function.comp_def]
  have hcells : ∀ (j : Nat) (x : ByteArray), (xs.map fun x => (⟨x.toArray⟩ : ByteArray))[j]? = some x → s.w.cell? ⟨s.ι b, s.β b + j, none⟩ = some (.string x) := by
    intro j x hx
    rw [List.getElem?_map, Option.map_eq_some_iff] at hx
    obtain ⟨y, hy, rfl⟩ := hx
    obtain ⟨_, u, h1, h2, h3⟩ := RM_iff.1 hm j (.str y) (by rw [List.getElem?_map, hy]; rfl)
    simp only [RP] at h1
    subst h1
    have := h3 0 _ rfl
    simpa [stride] using this
  have cc := Any.strings_Join tlJoin tExtra (s.ι b) (s.β b) cap (xs.map fun x => (⟨x.toArray⟩ : ByteArray)) ⟨sep.toArray⟩ s.w hcells (hs.bnd b (kd_lt hkb)) (by simpa using hxl) (by simpa using hcap) (by rw [hid]; exact hjl)
  rw [hid, List.length_map] at cc
  refine cc.mono ?_
  rintro e w' ⟨rfl, hbl⟩
  refine ⟨_, s.grow w' (fun _ => False), _, rfl, rfl, Evo.grow hs hbl.size hbl.block hbl.os hbl.tape hbl.output (fun k hk => hk.elim),
    WF.grow hs hbl.size hbl.block hbl.os hbl.tape hbl.output (fun k hk => hk.elim), ?_, hq⟩
  simp only [RA, RP]
end Go.Ev.F32
end
